/-
  TopShares: the tax of the two brackets.
-/
import Derived.Test.YtijdlggoaianbaaPart
import Derived.Test.YtijdlggoaianbaaRow
import Derived.BigQuiet
import Derived.IntWalk
set_option linter.unusedVariables false
namespace Go.Proofs.Ytijdlggoaianbaa
open Go.RowKit
abbrev brL : List Value := [.int .i64 1000, .int .i64 1500, .int .i64 50000, .int .i64 2500]
def tx1 (x : Int) : Int := (min x 50000 - 1000) * 1500 / 10000
def tx2 (x : Int) : Int := (x - 50000) * 2500 / 10000
def txV (x : Int) : Int := if x ≤ 1000 then 0 else if x ≤ 50000 then tx1 x else tx1 x + tx2 x
theorem txV_bd {x : Int} (h : 0 ≤ x) : 0 ≤ txV x ∧ txV x ≤ x := by
  unfold txV tx1 tx2
  split
  · omega
  · split <;> omega
set_option maxRecDepth 20000 in
set_option maxHeartbeats 4000000 in
theorem tcheck_any (bb : Nat) (w : World) (hr : RowAt w bb 32 brL) : Calls Try.prog 36 #[.slice (some ⟨bb, 0, none⟩) 2 2] w fun e w' => e = .returned (.int .i64 0) ∧ Fr [] w w' := by
  have HR := Lib.hid hr
  clear hr
  go_enter Try.func36, Try.ntmps36
  go_wp2_with fail
  go_loopw [10] (fun i wr => ∃ k : Nat, k ≤ 2 ∧ i = .int .i64 k ∧ Fr [] w wr) (fun i _ => 2 - (intOf i).toNat)
  case atStart => exact ⟨0, by omega, rfl, Fr.refl _ _⟩
  case round =>
    obtain ⟨k, hk, rfl, hf⟩ := hrel
    have hc : k = 0 ∨ k = 1 ∨ k = 2 := by omega
    rcases hc with rfl | rfl | rfl
    · have hr := HR.out.fr hf (by simp)
      have c0 := hr.cell 0 _ rfl
      have c1 := hr.cell 1 _ rfl
      have HF := Lib.hid hf
      clear hr hf
      go_upto_region 9 with (fail)
      have HF2 := Lib.hid (HF.out.alloc (.cells #[.int .i64 1000, .int .i64 1500] 32))
      have n0 : (wr.alloc (.cells #[.int .i64 1000, .int .i64 1500] 32)).cell? ⟨wr.heap.size, 0, none⟩ = some (.int .i64 1000) := new_cell rfl rfl
      have n1 : (wr.alloc (.cells #[.int .i64 1000, .int .i64 1500] 32)).cell? ⟨wr.heap.size, 1, none⟩ = some (.int .i64 1500) := new_cell rfl rfl
      generalize wr.alloc (.cells #[.int .i64 1000, .int .i64 1500] 32) = wy at *
      generalize wr.heap.size = by_ at *
      go_quiet (fail)
      have HF3 := Lib.hid (HF2.out.drewN nq)
      have n1 := ((Fr.refl [] wy).drewN nq).cell_some n1 (by simp)
      generalize wy.drewN nq = wz at *
      go_wp2_with fail
      go_roundw
      case rel => exact ⟨1, by omega, rfl, HF3.out⟩
      case measure => simp [intOf]
    · have hr := HR.out.fr hf (by simp)
      have c0 := hr.cell 0 _ rfl
      have c2 := hr.cell 2 _ rfl
      have c3 := hr.cell 3 _ rfl
      have HF := Lib.hid hf
      clear hr hf
      go_upto_region 9 with (fail)
      have HF2 := Lib.hid (HF.out.alloc (.cells #[.int .i64 50000, .int .i64 2500] 32))
      have n0 : (wr.alloc (.cells #[.int .i64 50000, .int .i64 2500] 32)).cell? ⟨wr.heap.size, 0, none⟩ = some (.int .i64 50000) := new_cell rfl rfl
      have n1 : (wr.alloc (.cells #[.int .i64 50000, .int .i64 2500] 32)).cell? ⟨wr.heap.size, 1, none⟩ = some (.int .i64 2500) := new_cell rfl rfl
      have c0 := ((Fr.refl [] wr).alloc (.cells #[.int .i64 50000, .int .i64 2500] 32)).cell_some c0 (by simp)
      generalize wr.alloc (.cells #[.int .i64 50000, .int .i64 2500] 32) = wy at *
      generalize wr.heap.size = by_ at *
      go_quiet (fail)
      have HF3 := Lib.hid (HF2.out.drewN nq)
      have n1 := ((Fr.refl [] wy).drewN nq).cell_some n1 (by simp)
      generalize wy.drewN nq = wz at *
      go_wp2_with fail
      go_roundw
      case rel => exact ⟨2, by omega, rfl, HF3.out⟩
      case measure => simp [intOf]
    · have HF := Lib.hid hf
      clear hf
      go_wp2_with fail
      go_ret
      exact ⟨rfl, HF.out⟩
set_option maxRecDepth 20000 in
set_option maxHeartbeats 4000000 in
theorem tax_any (bb : Nat) (x : Int) (w : World) (hr : RowAt w bb 32 brL) (hx0 : 0 ≤ x) (hx1 : x ≤ 4294967295) :
    Calls Try.prog 22 #[.slice (some ⟨bb, 0, none⟩) 2 2, .int .i64 x] w fun e w' => e = .returned (.tuple #[.int .i64 (txV x), .int .i64 0]) ∧ Fr [] w w' := by
  have hC := tcheck_any bb w hr
  have hV := fun w => mvalid_any x w
  rw [inR_yes hx0 (by omega)] at hV
  have HR := Lib.hid hr
  have HC := Lib.hid hC
  have HV := Lib.hid hV
  clear hr hC hV
  obtain ⟨T, hT⟩ : ∃ T, T = txV x := ⟨_, rfl⟩
  have e0 : x ≤ 1000 → T = 0 := fun h => by rw [hT]; unfold txV; rw [if_pos h]
  have e1 : 1000 < x → x ≤ 50000 → T = tx1 x := fun h h2 => by rw [hT]; unfold txV; rw [if_neg (by omega), if_pos h2]
  have e2 : 50000 < x → T = tx1 x + tx2 x := fun h => by rw [hT]; unfold txV; rw [if_neg (by omega), if_neg (by omega)]
  rw [← hT]
  have E0 := Lib.hid e0
  have E1 := Lib.hid e1
  have E2 := Lib.hid e2
  clear e0 e1 e2 hT
  go_enter Try.func22, Try.ntmps22
  go_wp2_with fail
  refine HC.out.mono ?_
  rintro e w1 ⟨rfl, f1⟩
  go_wp2_with fail
  refine (HV.out _).mono ?_
  rintro e w2 ⟨rfl, rfl⟩
  have HF1 := Lib.hid f1
  clear f1
  go_wp2_with fail
  go_loopw [22, 7] (fun i s wr => ∃ (k : Nat) (S : Int), k ≤ 2 ∧ i = .int .i64 k ∧ s = .int .i64 S ∧ Hid ((k = 0 → S = 0) ∧ (k = 1 → S = tx1 x ∧ 1000 < x) ∧ (k = 2 → S = tx1 x + tx2 x ∧ 50000 < x)) ∧ Fr [] w1 wr) (fun i _ _ => 2 - (intOf i).toNat)
  case atStart => exact ⟨0, 0, by omega, rfl, rfl, Lib.hid ⟨fun _ => rfl, fun h => by omega, fun h => by omega⟩, Fr.refl _ _⟩
  case round =>
    obtain ⟨k, S, hk, rfl, rfl, HS, hf⟩ := hrel
    have hF := HF1.out.trans hf
    have hr := HR.out.fr hF (by simp)
    have c0 := hr.cell 0 _ rfl
    have c1 := hr.cell 1 _ rfl
    have c2 := hr.cell 2 _ rfl
    have c3 := hr.cell 3 _ rfl
    have HF := Lib.hid hf
    have HFw := Lib.hid hF
    clear hr hf hF
    have hc : k = 0 ∨ k = 1 ∨ k = 2 := by omega
    rcases hc with rfl | rfl | rfl
    · obtain rfl := HS.out.1 rfl
      by_cases hx : x ≤ 1000
      · have d0 : decide (x ≤ 1000) = true := by simpa using hx
        obtain rfl := E0.out hx
        clear hx c1 c2 c3
        go_wp2_with fail
        go_ret2
        exact ⟨rfl, HFw.out⟩
      · have d0 : decide (x ≤ 1000) = false := by simpa using hx
        obtain ⟨M, hM⟩ : ∃ M, M = min x 50000 := ⟨_, rfl⟩
        have hM0 : 1000 ≤ M := by omega
        have hM1 : M ≤ 50000 := by omega
        have hPt := fun w => part_any (M - 1000) 1500 w
        have hpy := pt_yes (m := M - 1000) (b := 1500) (inR_yes (by omega) (by omega)) (inR_yes (by omega) (by omega))
        rw [hpy.1, hpy.2] at hPt
        have htx : tx1 x = (M - 1000) * 1500 / 10000 := by unfold tx1; rw [hM]
        rw [← htx] at hPt
        have ht0 : 0 ≤ tx1 x ∧ tx1 x ≤ 1000000 := by rw [htx]; omega
        have HT1 := Lib.hid (rfl : tx1 x = tx1 x)
        obtain ⟨t0, t1⟩ := ht0
        clear hpy htx HS E0
        have hgo : ∀ (Q : Nat), True := fun _ => trivial
        by_cases hx5 : x ≤ 50000
        · have hmm : M = x := by omega
          subst hmm
          have hmin : min M 50000 = M := by omega
          have hPQ : ∀ n, Calls Try.prog 37 #[.int .i64 (M - 1000), .int .i64 1500] (wr.drewN n) fun e w' => e = .returned (.tuple #[.int .i64 (tx1 M), .int .i64 0]) ∧ w' = wr.drewN n := fun n => (hPt _).mono fun e w' h => ⟨h.1, h.2.symm⟩
          have HPQ := Lib.hid hPQ
          obtain ⟨Y, hY⟩ : ∃ Y, Y = tx1 M := ⟨_, rfl⟩
          have HY := Lib.hid hY
          rw [← hY] at t0 t1
          have HPQ' := HPQ.out
          rw [← hY] at HPQ'
          have HPQ := Lib.hid HPQ'
          have hwm : IntKind.i64.wrap (M - 1000) = M - 1000 := IntWalk.i64_in _ (by omega)
          clear hPt hPQ hM hY HPQ' hgo
          go_upto_region 14 with (fail)
          all_goals
            go_quiet ((go_at_call 37; exact Calls.quiet_of_same (HPQ.out _)))
            have HF3 := Lib.hid (HF.out.drewN nq)
            clear c0 c1 c2 c3
            generalize wr.drewN nq = wz at *
            go_wp2_with fail
            go_roundw
            case rel => exact ⟨1, Y, by omega, rfl, by go_num, Lib.hid ⟨fun h => by omega, fun _ => ⟨HY.out, by omega⟩, fun h => by omega⟩, HF3.out⟩
            case measure => simp [intOf]
        · have hmm : M = 50000 := by omega
          subst hmm
          have hmin : min x 50000 = 50000 := by omega
          have hPQ : ∀ n, Calls Try.prog 37 #[.int .i64 (50000 - 1000), .int .i64 1500] (wr.drewN n) fun e w' => e = .returned (.tuple #[.int .i64 (tx1 x), .int .i64 0]) ∧ w' = wr.drewN n := fun n => (hPt _).mono fun e w' h => ⟨h.1, h.2.symm⟩
          obtain ⟨Y, hY⟩ : ∃ Y, Y = tx1 x := ⟨_, rfl⟩
          have HY := Lib.hid hY
          rw [← hY] at t0 t1 hPQ
          have HPQ := Lib.hid hPQ
          clear hPt hPQ hM hY hgo
          go_upto_region 14 with (fail)
          all_goals
            go_quiet ((go_at_call 37; exact Calls.quiet_of_same (HPQ.out _)))
            have HF3 := Lib.hid (HF.out.drewN nq)
            clear c0 c1 c2 c3
            generalize wr.drewN nq = wz at *
            go_wp2_with fail
            go_roundw
            case rel => exact ⟨1, Y, by omega, rfl, by go_num, Lib.hid ⟨fun h => by omega, fun _ => ⟨HY.out, by omega⟩, fun h => by omega⟩, HF3.out⟩
            case measure => simp [intOf]
    · obtain ⟨hS, hx⟩ := HS.out.2.1 rfl
      by_cases hx5 : x ≤ 50000
      · have d0 : decide (x ≤ 50000) = true := by simpa using hx5
        have HE := Lib.hid (hS.trans (E1.out hx hx5).symm)
        clear hx hx5 c0 c1 c3 hS
        go_wp2_with fail
        go_ret2
        exact ⟨by rw [HE.out]; rfl, HFw.out⟩
      · have d0 : decide (x ≤ 50000) = false := by simpa using hx5
        have hPt := fun w => part_any (x - 50000) 2500 w
        have hpy := pt_yes (m := x - 50000) (b := 2500) (inR_yes (by omega) (by omega)) (inR_yes (by omega) (by omega))
        rw [hpy.1, hpy.2] at hPt
        have htx : tx2 x = (x - 50000) * 2500 / 10000 := rfl
        rw [← htx] at hPt
        have ht0 : 0 ≤ tx2 x ∧ tx2 x ≤ 10000000000 := by rw [htx]; omega
        have hs0 : 0 ≤ S ∧ S ≤ 1000000 := by rw [hS]; unfold tx1; omega
        obtain ⟨t0, t1⟩ := ht0
        obtain ⟨s0, s1⟩ := hs0
        have hPQ : ∀ n, Calls Try.prog 37 #[.int .i64 (x - 50000), .int .i64 2500] (wr.drewN n) fun e w' => e = .returned (.tuple #[.int .i64 (tx2 x), .int .i64 0]) ∧ w' = wr.drewN n := fun n => (hPt _).mono fun e w' h => ⟨h.1, h.2.symm⟩
        obtain ⟨Y, hY⟩ : ∃ Y, Y = tx2 x := ⟨_, rfl⟩
        rw [← hY] at t0 t1 hPQ
        have HPQ := Lib.hid hPQ
        have HSY := Lib.hid (show S + Y = tx1 x + tx2 x by rw [hS, hY])
        have hwm : IntKind.i64.wrap (x - 50000) = x - 50000 := IntWalk.i64_in _ (by omega)
        have HX5 := Lib.hid hx5
        clear hpy htx HS hPt hPQ hY hS hx hx5
        go_upto_region 14 with (fail)
        go_quiet ((go_at_call 37; exact Calls.quiet_of_same (HPQ.out _)))
        have HF3 := Lib.hid (HF.out.drewN nq)
        clear c0 c1 c2 c3 hwm
        generalize wr.drewN nq = wz at *
        go_wp2_with fail
        go_roundw
        case rel => exact ⟨2, S + Y, by omega, rfl, by go_num, Lib.hid ⟨fun h => by omega, fun h => by omega, fun _ => ⟨HSY.out, by have := HX5.out; omega⟩⟩, HF3.out⟩
        case measure => simp [intOf]
    · obtain ⟨hS, hx⟩ := HS.out.2.2 rfl
      have HE := Lib.hid (hS.trans (E2.out hx).symm)
      clear hS hx
      go_wp2_with fail
      go_ret2
      exact ⟨by rw [HE.out]; rfl, HFw.out⟩
end Go.Proofs.Ytijdlggoaianbaa
