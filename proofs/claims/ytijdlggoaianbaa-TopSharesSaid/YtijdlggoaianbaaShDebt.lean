/-
  TopShares: what is offset against two debts.
-/
import Derived.Test.YtijdlggoaianbaaRollC
import Derived.Test.YtijdlggoaianbaaRow
import Derived.Test.YtijdlggoaianbaaAppF
import Derived.BigQuiet
import Derived.IntWalk
set_option linter.unusedVariables false
namespace Go.Proofs.Ytijdlggoaianbaa
open Go.RowKit
abbrev dbL (A B : Int) : List Value := [.string ⟨#[97]⟩, .int .i64 1, .int .i64 A, .string ⟨#[98]⟩, .int .i64 1, .int .i64 B]
set_option maxRecDepth 20000 in
set_option maxHeartbeats 4000000 in
theorem dcheck_any (bb : Nat) (A B : Int) (w : World) (hr : RowAt w bb 35 (dbL A B)) (hA : 1 ≤ A ∧ A ≤ 4294967296) (hB : 1 ≤ B ∧ B ≤ 4294967296) :
    Calls Try.prog 38 #[.slice (some ⟨bb, 0, none⟩) 2 2] w fun e w' => e = .returned (.int .i64 0) ∧ Fr [] w w' := by
  have hnA := fun w => name_any ⟨#[97]⟩ w
  have hnB := fun w => name_any ⟨#[98]⟩ w
  rw [show nameB ⟨#[97]⟩ = true by kernel_rfl] at hnA
  rw [show nameB ⟨#[98]⟩ = true by kernel_rfl] at hnB
  obtain ⟨A0, A1⟩ := hA
  obtain ⟨B0, B1⟩ := hB
  have HR := Lib.hid hr
  have HNA := Lib.hid hnA
  have HNB := Lib.hid hnB
  clear hr hnA hnB
  go_enter Try.func38, Try.ntmps38
  go_wp2_with fail
  go_loopw [11, 3] (fun i b wr => ∃ k : Nat, k ≤ 2 ∧ i = .int .i64 k ∧ b = .int .i64 (if k = 0 then 0 else 1) ∧ Fr [] w wr) (fun i _ _ => 2 - (intOf i).toNat)
  case atStart => exact ⟨0, by omega, rfl, rfl, Fr.refl _ _⟩
  case round =>
    obtain ⟨k, hk, rfl, rfl, hf⟩ := hrel
    have hc : k = 0 ∨ k = 1 ∨ k = 2 := by omega
    have hr := HR.out.fr hf (by simp)
    rcases hc with rfl | rfl | rfl
    · have c0 := hr.cell 0 _ rfl
      have c1 := hr.cell 1 _ rfl
      have c2 := hr.cell 2 _ rfl
      have HF := Lib.hid hf
      clear hr hf
      simp only [if_pos]
      go_upto_region 7 with (fail)
      have HF2 := Lib.hid (HF.out.alloc (.cells #[.string ⟨#[97]⟩, .int .i64 1, .int .i64 A] 35))
      have n0 : (wr.alloc (.cells #[.string ⟨#[97]⟩, .int .i64 1, .int .i64 A] 35)).cell? ⟨wr.heap.size, 0, none⟩ = some (.string ⟨#[97]⟩) := new_cell rfl rfl
      have n1 : (wr.alloc (.cells #[.string ⟨#[97]⟩, .int .i64 1, .int .i64 A] 35)).cell? ⟨wr.heap.size, 1, none⟩ = some (.int .i64 1) := new_cell rfl rfl
      have n2 : (wr.alloc (.cells #[.string ⟨#[97]⟩, .int .i64 1, .int .i64 A] 35)).cell? ⟨wr.heap.size, 2, none⟩ = some (.int .i64 A) := new_cell rfl rfl
      generalize wr.alloc (.cells #[.string ⟨#[97]⟩, .int .i64 1, .int .i64 A] 35) = wy at *
      generalize wr.heap.size = by_ at *
      go_wp2_with fail
      refine (HNA.out _).mono ?_
      rintro e w' ⟨rfl, rfl⟩
      go_wp2_with fail
      go_roundw
      case rel => exact ⟨1, by omega, rfl, rfl, HF2.out⟩
      case measure => simp [intOf]
    · have c3 := hr.cell 3 _ rfl
      have c4 := hr.cell 4 _ rfl
      have c5 := hr.cell 5 _ rfl
      have HF := Lib.hid hf
      clear hr hf
      rw [if_neg (by omega)]
      go_upto_region 7 with (fail)
      have HF2 := Lib.hid (HF.out.alloc (.cells #[.string ⟨#[98]⟩, .int .i64 1, .int .i64 B] 35))
      have n0 : (wr.alloc (.cells #[.string ⟨#[98]⟩, .int .i64 1, .int .i64 B] 35)).cell? ⟨wr.heap.size, 0, none⟩ = some (.string ⟨#[98]⟩) := new_cell rfl rfl
      have n1 : (wr.alloc (.cells #[.string ⟨#[98]⟩, .int .i64 1, .int .i64 B] 35)).cell? ⟨wr.heap.size, 1, none⟩ = some (.int .i64 1) := new_cell rfl rfl
      have n2 : (wr.alloc (.cells #[.string ⟨#[98]⟩, .int .i64 1, .int .i64 B] 35)).cell? ⟨wr.heap.size, 2, none⟩ = some (.int .i64 B) := new_cell rfl rfl
      generalize wr.alloc (.cells #[.string ⟨#[98]⟩, .int .i64 1, .int .i64 B] 35) = wy at *
      generalize wr.heap.size = by_ at *
      go_wp2_with fail
      refine (HNB.out _).mono ?_
      rintro e w' ⟨rfl, rfl⟩
      go_wp2_with fail
      go_roundw
      case rel => exact ⟨2, by omega, rfl, rfl, HF2.out⟩
      case measure => simp [intOf]
    · have HF := Lib.hid hf
      clear hr hf
      go_wp2_with fail
      go_ret
      exact ⟨rfl, HF.out⟩
set_option maxRecDepth 20000 in
set_option maxHeartbeats 2000000 in
theorem serve_any (bp : Nat) (L A : Int) (nm : ByteArray) (r : Int) (w : World) (hr : RowAt w bp 77 [.int .i64 L]) (hL : 0 ≤ L ∧ L ≤ 4294967296) (hA : 1 ≤ A ∧ A ≤ 4294967296) :
    Calls Try.prog 40 #[.pointer (some ⟨bp, 0, none⟩), .agg #[.string nm, .int .i64 r, .int .i64 A]] w fun e w' => e = .returned (.int .i64 (min L A)) ∧ RowAt w' bp 77 [.int .i64 (L - min L A)] ∧ Fr [bp] w w' := by
  obtain ⟨L0, L1⟩ := hL
  obtain ⟨A0, A1⟩ := hA
  have fa : Fr [bp] w (w.alloc (.cells #[.string nm, .int .i64 r, .int .i64 A] 35)) := (Fr.refl [bp] w).alloc _
  have hra := hr.fr ((Fr.refl [] w).alloc (.cells #[.string nm, .int .i64 r, .int .i64 A] 35)) (by simp)
  have n2 : (w.alloc (.cells #[.string nm, .int .i64 r, .int .i64 A] 35)).cell? ⟨w.heap.size, 2, none⟩ = some (.int .i64 A) := new_cell rfl rfl
  have HR := Lib.hid hra
  have HFA := Lib.hid fa
  obtain ⟨G, hG⟩ : ∃ G, G = min L A := ⟨_, rfl⟩
  rw [← hG]
  have G0 : 0 ≤ G := by omega
  have G1 : G ≤ L := by omega
  have HG := Lib.hid hG
  clear hr fa hra hG
  go_enter Try.func40, Try.ntmps40
  go_upto_region 1 with (fail)
  generalize w.alloc (.cells #[.string nm, .int .i64 r, .int .i64 A] 35) = wy at *
  generalize w.heap.size = bx at *
  have cp := HR.out.cell 0 _ rfl
  by_cases hAL : A < L
  · obtain rfl : G = A := by rw [HG.out]; omega
    clear HG
    go_quiet (fail)
    have hr2 := HR.out.fr ((Fr.refl [] wy).drewN nq) (by simp)
    have cp := hr2.cell 0 _ rfl
    have zp := hr2.frozen 0
    have HF2 := Lib.hid (HFA.out.drewN nq)
    have HS := fun v => Lib.hid (hr2.set 0 v)
    clear hr2 n2 HR HFA
    generalize wy.drewN nq = wz at *
    go_wp2_with fail
    go_ret
    exact ⟨rfl, (HS _).out, HF2.out.setCell (.inl (by simp)) _⟩
  · obtain rfl : L = G := by rw [HG.out]; omega
    clear HG
    have hLA : L ≤ A := by omega
    go_quiet (fail)
    have hr2 := HR.out.fr ((Fr.refl [] wy).drewN nq) (by simp)
    have cp := hr2.cell 0 _ rfl
    have zp := hr2.frozen 0
    have HF2 := Lib.hid (HFA.out.drewN nq)
    have HS := fun v => Lib.hid (hr2.set 0 v)
    clear hr2 n2 HR HFA
    generalize wy.drewN nq = wz at *
    go_wp2_with fail
    go_ret
    exact ⟨rfl, by first | exact (HS _).out | (rw [Int.sub_self]; exact (HS _).out), HF2.out.setCell (.inl (by simp)) _⟩
end Go.Proofs.Ytijdlggoaianbaa
