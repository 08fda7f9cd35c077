/-
  THE SHELF AT THIS PROGRAM: the contracts of bits.LeadingZeros64 and bits.Mul64, and the table of numbers for sort.SliceStable.
-/
import Derived.Shelf.Small.Bits
import Derived.Shelf.GgSortMore.Stable
import Derived.Shelf.Bits.Mul64
import Derived.Test.YtdinjekpcgndmaaRows
namespace Go.Proofs
open Go.Shelf
def Try.lays134_ren : Go.Shelf.Ren := ⟨fun | 134 => 128 | 129 => 140 | n => n, fun | 53 => 129 | 3 => 3 | 4 => 4 | 46 => 147 | 5 => 5 | 9 => 9 | n => n, fun | n => n⟩
theorem Try.lays134 : Go.Proofs.Lays.n134 Try.prog Try.lays134_ren := {
  mixed := by kernel_rfl
  f129 := Try.func140.trans (congrArg some (by kernel_rfl))
  f134 := Try.func128.trans (congrArg some (by kernel_rfl))
  t3 := Try.underlying3
  a3 := Try.isAgg3
  z3 := Try.sizeOf3
  v3 := Try.zeroValue3
  t4 := Try.underlying4
  a4 := Try.isAgg4
  z4 := Try.sizeOf4
  v4 := Try.zeroValue4
  t5 := Try.underlying5
  a5 := Try.isAgg5
  z5 := Try.sizeOf5
  v5 := Try.zeroValue5
  t9 := Try.underlying9
  a9 := Try.isAgg9
  z9 := Try.sizeOf9
  v9 := Try.zeroValue9
  t46 := Try.underlying147
  a46 := Try.isAgg147
  z46 := Try.sizeOf147
  v46 := Try.zeroValue147
  t53 := Try.underlying129
  a53 := Try.isAgg129
  z53 := Try.sizeOf129
  v53 := Try.zeroValue129 }
theorem Try.bits_LeadingZeros64 (x : Int) (w : World) (h0 : 0 ≤ x) (h1 : x ≤ 18446744073709551615) :
    Calls Try.prog 128 #[.int .u64 x] w fun e w' => e = .returned (.int .i64 (64 - (Lib.bitLen x.toNat : Int))) ∧ w' = w := Any.bits_LeadingZeros64 Try.lays134 x w h0 h1
def Try.laysGt8_ren : Go.Shelf.Ren := ⟨fun | 8 => 97 | 13 => 117 | 14 => 118 | 16 => 120 | 15 => 119 | 29 => 138 | 30 => 139 | 42 => 141 | 49 => 142 | n => n, fun | 20 => 20 | 26 => 118 | 36 => 136 | 0 => 0 | 38 => 138 | 42 => 142 | 3 => 3 | 4 => 4 | 47 => 147 | 17 => 17 | 33 => 133 | 34 => 134 | 89 => 170 | 12 => 12 | 56 => 55 | 82 => 163 | 5 => 5 | 83 => 164 | 84 => 165 | 85 => 166 | 86 => 167 | 87 => 168 | n => n, fun | n => n⟩
theorem Try.laysGt8 : Go.Proofs.LaysGt.n8 Try.prog Try.laysGt8_ren := {
  mixed := by kernel_rfl
  f8 := Try.func97.trans (congrArg some (by kernel_rfl))
  f13 := Try.func117.trans (congrArg some (by kernel_rfl))
  f14 := Try.func118.trans (congrArg some (by kernel_rfl))
  f15 := Try.func119.trans (congrArg some (by kernel_rfl))
  f16 := Try.func120.trans (congrArg some (by kernel_rfl))
  f29 := Try.func138.trans (congrArg some (by kernel_rfl))
  f30 := Try.func139.trans (congrArg some (by kernel_rfl))
  f42 := Try.func141.trans (congrArg some (by kernel_rfl))
  f49 := Try.func142.trans (congrArg some (by kernel_rfl))
  t0 := Try.underlying0
  a0 := Try.isAgg0
  z0 := Try.sizeOf0
  v0 := Try.zeroValue0
  i0 := by kernel_rfl
  t3 := Try.underlying3
  a3 := Try.isAgg3
  z3 := Try.sizeOf3
  v3 := Try.zeroValue3
  i3 := by kernel_rfl
  t4 := Try.underlying4
  a4 := Try.isAgg4
  z4 := Try.sizeOf4
  v4 := Try.zeroValue4
  i4 := by kernel_rfl
  t5 := Try.underlying5
  a5 := Try.isAgg5
  z5 := Try.sizeOf5
  v5 := Try.zeroValue5
  i5 := by kernel_rfl
  t12 := Try.underlying12
  a12 := Try.isAgg12
  z12 := Try.sizeOf12
  v12 := Try.zeroValue12
  i12 := by kernel_rfl
  t17 := Try.underlying17
  a17 := Try.isAgg17
  z17 := Try.sizeOf17
  v17 := Try.zeroValue17
  i17 := by kernel_rfl
  t20 := Try.underlying20
  a20 := Try.isAgg20
  z20 := Try.sizeOf20
  v20 := Try.zeroValue20
  i20 := by kernel_rfl
  t26 := Try.underlying118
  a26 := Try.isAgg118
  z26 := Try.sizeOf118
  v26 := Try.zeroValue118
  i26 := by kernel_rfl
  t33 := Try.underlying133
  a33 := Try.isAgg133
  z33 := Try.sizeOf133
  v33 := Try.zeroValue133
  i33 := by kernel_rfl
  t34 := Try.underlying134
  a34 := Try.isAgg134
  z34 := Try.sizeOf134
  v34 := Try.zeroValue134
  i34 := by kernel_rfl
  t36 := Try.underlying136
  a36 := Try.isAgg136
  z36 := Try.sizeOf136
  v36 := Try.zeroValue136
  i36 := by kernel_rfl
  t38 := Try.underlying138
  a38 := Try.isAgg138
  z38 := Try.sizeOf138
  v38 := Try.zeroValue138
  i38 := by kernel_rfl
  t42 := Try.underlying142
  a42 := Try.isAgg142
  z42 := Try.sizeOf142
  v42 := Try.zeroValue142
  i42 := by kernel_rfl
  t47 := Try.underlying147
  a47 := Try.isAgg147
  z47 := Try.sizeOf147
  v47 := Try.zeroValue147
  i47 := by kernel_rfl
  t56 := Try.underlying55
  a56 := Try.isAgg55
  z56 := Try.sizeOf55
  v56 := Try.zeroValue55
  i56 := by kernel_rfl
  t82 := Try.underlying163
  a82 := Try.isAgg163
  z82 := Try.sizeOf163
  v82 := Try.zeroValue163
  i82 := by kernel_rfl
  t83 := Try.underlying164
  a83 := Try.isAgg164
  z83 := Try.sizeOf164
  v83 := Try.zeroValue164
  i83 := by kernel_rfl
  t84 := Try.underlying165
  a84 := Try.isAgg165
  z84 := Try.sizeOf165
  v84 := Try.zeroValue165
  i84 := by kernel_rfl
  t85 := Try.underlying166
  a85 := Try.isAgg166
  z85 := Try.sizeOf166
  v85 := Try.zeroValue166
  i85 := by kernel_rfl
  t86 := Try.underlying167
  a86 := Try.isAgg167
  z86 := Try.sizeOf167
  v86 := Try.zeroValue167
  i86 := by kernel_rfl
  t87 := Try.underlying168
  a87 := Try.isAgg168
  z87 := Try.sizeOf168
  v87 := Try.zeroValue168
  i87 := by kernel_rfl
  t89 := Try.underlying170
  a89 := Try.isAgg170
  z89 := Try.sizeOf170
  v89 := Try.zeroValue170
  i89 := by kernel_rfl }
def Try.lays264_ren : Go.Shelf.Ren := ⟨fun | 264 => 115 | n => n, fun | 53 => 129 | 46 => 147 | n => n, fun | n => n⟩
theorem Try.lays264 : Go.Proofs.Lays.n264 Try.prog Try.lays264_ren := {
  mixed := by kernel_rfl
  f264 := Try.func115.trans (congrArg some (by kernel_rfl))
  t46 := Try.underlying147
  a46 := Try.isAgg147
  z46 := Try.sizeOf147
  v46 := Try.zeroValue147
  t53 := Try.underlying129
  a53 := Try.isAgg129
  z53 := Try.sizeOf129
  v53 := Try.zeroValue129 }
open Go.RowKit Go.Lib in
theorem Try.bits_Mul64 (x y : Nat) (hx : x < 18446744073709551616) (hy : y < 18446744073709551616) (w : World) :
    Calls Try.prog 115 #[.int .u64 x, .int .u64 y] w fun e w' => e = .returned (.tuple #[.int .u64 ((x * y / 18446744073709551616 : Nat) : Int), .int .u64 ((x * y % 18446744073709551616 : Nat) : Int)]) ∧ w' = w := Any.bits_Mul64 Try.lays264 x y hx hy w
end Go.Proofs
