/-
  THE SHELF AT THIS PROGRAM: the contracts of bits.LeadingZeros64 and bits.Mul64, and the table of numbers for sort.SliceStable.
-/
import Derived.Shelf.Small.Bits
import Derived.Shelf.GgSortMore.Stable
import Derived.Shelf.Bits.Mul64
import Derived.Test.YtijdlggoaianbaaRows
namespace Go.Proofs
open Go.Shelf
def Try.lays134_ren : Go.Shelf.Ren := ⟨fun | 134 => 77 | 129 => 93 | n => n, fun | 53 => 88 | 3 => 3 | 4 => 4 | 46 => 62 | 5 => 5 | 9 => 9 | n => n, fun | n => n⟩
theorem Try.lays134 : Go.Proofs.Lays.n134 Try.prog Try.lays134_ren := {
  mixed := by kernel_rfl
  f129 := Try.func93.trans (congrArg some (by kernel_rfl))
  f134 := Try.func77.trans (congrArg some (by kernel_rfl))
  t3 := Try.underlying3
  a3 := Try.isAgg3
  z3 := Try.sizeOf3
  v3 := Try.zeroValue3
  t4 := Try.underlying4
  a4 := Try.isAgg4
  z4 := Try.sizeOf4
  v4 := Try.zeroValue4
  t5 := Try.underlying5
  a5 := Try.isAgg5
  z5 := Try.sizeOf5
  v5 := Try.zeroValue5
  t9 := Try.underlying9
  a9 := Try.isAgg9
  z9 := Try.sizeOf9
  v9 := Try.zeroValue9
  t46 := Try.underlying62
  a46 := Try.isAgg62
  z46 := Try.sizeOf62
  v46 := Try.zeroValue62
  t53 := Try.underlying88
  a53 := Try.isAgg88
  z53 := Try.sizeOf88
  v53 := Try.zeroValue88 }
theorem Try.bits_LeadingZeros64 (x : Int) (w : World) (h0 : 0 ≤ x) (h1 : x ≤ 18446744073709551615) :
    Calls Try.prog 77 #[.int .u64 x] w fun e w' => e = .returned (.int .i64 (64 - (Lib.bitLen x.toNat : Int))) ∧ w' = w := Any.bits_LeadingZeros64 Try.lays134 x w h0 h1
def Try.laysGt8_ren : Go.Shelf.Ren := ⟨fun | 8 => 43 | 13 => 57 | 14 => 58 | 16 => 60 | 15 => 59 | 29 => 87 | 30 => 88 | 42 => 94 | 49 => 96 | n => n, fun | 20 => 20 | 26 => 84 | 36 => 105 | 0 => 0 | 38 => 107 | 42 => 111 | 3 => 3 | 4 => 4 | 47 => 62 | 17 => 17 | 33 => 102 | 34 => 103 | 89 => 141 | 12 => 12 | 56 => 22 | 82 => 134 | 5 => 5 | 83 => 135 | 84 => 136 | 85 => 137 | 86 => 138 | 87 => 139 | n => n, fun | n => n⟩
theorem Try.laysGt8 : Go.Proofs.LaysGt.n8 Try.prog Try.laysGt8_ren := {
  mixed := by kernel_rfl
  f8 := Try.func43.trans (congrArg some (by kernel_rfl))
  f13 := Try.func57.trans (congrArg some (by kernel_rfl))
  f14 := Try.func58.trans (congrArg some (by kernel_rfl))
  f15 := Try.func59.trans (congrArg some (by kernel_rfl))
  f16 := Try.func60.trans (congrArg some (by kernel_rfl))
  f29 := Try.func87.trans (congrArg some (by kernel_rfl))
  f30 := Try.func88.trans (congrArg some (by kernel_rfl))
  f42 := Try.func94.trans (congrArg some (by kernel_rfl))
  f49 := Try.func96.trans (congrArg some (by kernel_rfl))
  t0 := Try.underlying0
  a0 := Try.isAgg0
  z0 := Try.sizeOf0
  v0 := Try.zeroValue0
  i0 := by kernel_rfl
  t3 := Try.underlying3
  a3 := Try.isAgg3
  z3 := Try.sizeOf3
  v3 := Try.zeroValue3
  i3 := by kernel_rfl
  t4 := Try.underlying4
  a4 := Try.isAgg4
  z4 := Try.sizeOf4
  v4 := Try.zeroValue4
  i4 := by kernel_rfl
  t5 := Try.underlying5
  a5 := Try.isAgg5
  z5 := Try.sizeOf5
  v5 := Try.zeroValue5
  i5 := by kernel_rfl
  t12 := Try.underlying12
  a12 := Try.isAgg12
  z12 := Try.sizeOf12
  v12 := Try.zeroValue12
  i12 := by kernel_rfl
  t17 := Try.underlying17
  a17 := Try.isAgg17
  z17 := Try.sizeOf17
  v17 := Try.zeroValue17
  i17 := by kernel_rfl
  t20 := Try.underlying20
  a20 := Try.isAgg20
  z20 := Try.sizeOf20
  v20 := Try.zeroValue20
  i20 := by kernel_rfl
  t26 := Try.underlying84
  a26 := Try.isAgg84
  z26 := Try.sizeOf84
  v26 := Try.zeroValue84
  i26 := by kernel_rfl
  t33 := Try.underlying102
  a33 := Try.isAgg102
  z33 := Try.sizeOf102
  v33 := Try.zeroValue102
  i33 := by kernel_rfl
  t34 := Try.underlying103
  a34 := Try.isAgg103
  z34 := Try.sizeOf103
  v34 := Try.zeroValue103
  i34 := by kernel_rfl
  t36 := Try.underlying105
  a36 := Try.isAgg105
  z36 := Try.sizeOf105
  v36 := Try.zeroValue105
  i36 := by kernel_rfl
  t38 := Try.underlying107
  a38 := Try.isAgg107
  z38 := Try.sizeOf107
  v38 := Try.zeroValue107
  i38 := by kernel_rfl
  t42 := Try.underlying111
  a42 := Try.isAgg111
  z42 := Try.sizeOf111
  v42 := Try.zeroValue111
  i42 := by kernel_rfl
  t47 := Try.underlying62
  a47 := Try.isAgg62
  z47 := Try.sizeOf62
  v47 := Try.zeroValue62
  i47 := by kernel_rfl
  t56 := Try.underlying22
  a56 := Try.isAgg22
  z56 := Try.sizeOf22
  v56 := Try.zeroValue22
  i56 := by kernel_rfl
  t82 := Try.underlying134
  a82 := Try.isAgg134
  z82 := Try.sizeOf134
  v82 := Try.zeroValue134
  i82 := by kernel_rfl
  t83 := Try.underlying135
  a83 := Try.isAgg135
  z83 := Try.sizeOf135
  v83 := Try.zeroValue135
  i83 := by kernel_rfl
  t84 := Try.underlying136
  a84 := Try.isAgg136
  z84 := Try.sizeOf136
  v84 := Try.zeroValue136
  i84 := by kernel_rfl
  t85 := Try.underlying137
  a85 := Try.isAgg137
  z85 := Try.sizeOf137
  v85 := Try.zeroValue137
  i85 := by kernel_rfl
  t86 := Try.underlying138
  a86 := Try.isAgg138
  z86 := Try.sizeOf138
  v86 := Try.zeroValue138
  i86 := by kernel_rfl
  t87 := Try.underlying139
  a87 := Try.isAgg139
  z87 := Try.sizeOf139
  v87 := Try.zeroValue139
  i87 := by kernel_rfl
  t89 := Try.underlying141
  a89 := Try.isAgg141
  z89 := Try.sizeOf141
  v89 := Try.zeroValue141
  i89 := by kernel_rfl }
def Try.lays264_ren : Go.Shelf.Ren := ⟨fun | 264 => 55 | n => n, fun | 53 => 88 | 46 => 62 | n => n, fun | n => n⟩
theorem Try.lays264 : Go.Proofs.Lays.n264 Try.prog Try.lays264_ren := {
  mixed := by kernel_rfl
  f264 := Try.func55.trans (congrArg some (by kernel_rfl))
  t46 := Try.underlying62
  a46 := Try.isAgg62
  z46 := Try.sizeOf62
  v46 := Try.zeroValue62
  t53 := Try.underlying88
  a53 := Try.isAgg88
  z53 := Try.sizeOf88
  v53 := Try.zeroValue88 }
open Go.RowKit Go.Lib in
theorem Try.bits_Mul64 (x y : Nat) (hx : x < 18446744073709551616) (hy : y < 18446744073709551616) (w : World) :
    Calls Try.prog 55 #[.int .u64 x, .int .u64 y] w fun e w' => e = .returned (.tuple #[.int .u64 ((x * y / 18446744073709551616 : Nat) : Int), .int .u64 ((x * y % 18446744073709551616 : Nat) : Int)]) ∧ w' = w := Any.bits_Mul64 Try.lays264 x y hx hy w
end Go.Proofs
