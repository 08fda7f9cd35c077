/-
  calendar.Next: the least time behind a given one that is at a minute of one of the weekdays.
-/
import Derived.Test.YtijdlggoaianbaaGame
import Derived.Test.YtijdlggoaianbaaSchedP
import Derived.Deep.LoopGhost
set_option linter.unusedVariables false
namespace Go.Proofs.Ytijdlggoaianbaa
open Go.RowKit
theorem wd_any (k : Nat) (w : World) (hk : k ≤ 1000000) : Calls Try.prog 28 #[.int .i64 (k : Int)] w fun e w' => e = .returned (.int .i64 (((k + 5) % 7 : Nat) : Int)) ∧ w = w' := by
  have e1 : ((k : Int) + 5).tmod 7 = (((k + 5) % 7 : Nat) : Int) := by rw [Int.tmod_eq_emod_of_nonneg (by omega)]; omega
  go_enter Try.func28, Try.ntmps28
  go_wp2_with fail
  go_ret
  exact ⟨rfl, rfl⟩
theorem dbit_fin : ∀ (a : Fin 128) (k : Fin 7), (bits BinOp.and IntKind.i64 (((a.val : Nat) : Int) / 2 ^ k.val) 1 == 1) = (a.val / 2 ^ k.val % 2 == 1) := by decide +kernel
theorem dbit (d k : Nat) (hd : d < 128) : (bits BinOp.and IntKind.i64 ((d : Int) / 2 ^ ((k + 5) % 7)) 1 == 1) = dB d k := dbit_fin ⟨d, hd⟩ ⟨(k + 5) % 7, by omega⟩
def oV (x : Option Int) : Int := match x with | some t => t | none => 0
def oE (x : Option Int) : Int := match x with | some _ => 0 | none => 2
set_option maxRecDepth 20000 in
set_option maxHeartbeats 2000000 in
theorem next_any (d : Nat) (a t : Int) (w : World) (hd : d < 128) (h0 : d ≠ 0) (ha0 : 0 ≤ a) (ha1 : a ≤ 1439) (ht0 : -1 ≤ t) (ht1 : t ≤ 1073741824) :
    Calls Try.prog 13 #[.int .i64 (d : Int), .int .i64 a, .int .i64 t] w fun e w' => e = .returned (.tuple #[.int .i64 (oV (nx d a t)), .int .i64 (oE (nx d a t))]) ∧ w = w' := by
  obtain ⟨D, hD⟩ : ∃ D : Nat, D = ((max t 0) / 1440).toNat := ⟨_, rfl⟩
  have hD3 : t < 0 → (0 : Int) = (D : Int) := fun h => by omega
  have hD4 : 0 ≤ t → t / 1440 = (D : Int) := fun h => by omega
  have hD1 : D ≤ 745655 := by omega
  have hnx : nx d a t = nxGo d a t 8 D := by unfold nx; rw [hD]
  obtain ⟨G, hG⟩ : ∃ G, G = nxGo d a t 8 D := ⟨_, rfl⟩
  rw [hnx, ← hG]
  have HG0 := Lib.hid hG
  have HD3 := Lib.hid hD3
  have HD4 := Lib.hid hD4
  have d1 : decide ((d : Int) < 1) = false := by simp; omega
  have d2 : decide (127 < (d : Int)) = false := by simp; omega
  have d3 : decide (a < 0) = false := by simp; omega
  have d4 : decide (1440 ≤ a) = false := by simp; omega
  have d5 : decide (t < -1) = false := by simp; omega
  have d6 : decide (1073741824 < t) = false := by simp; omega
  clear hnx hD hD3 hD4 hG
  go_enter Try.func13, Try.ntmps13
  go_wp2_with fail
  all_goals
    go_loopw [35, 8] (fun i day wr => ∃ k y : Nat, k ≤ 8 ∧ i = .int .i64 k ∧ day = .int .i64 (y : Int) ∧ Hid (y = D + k) ∧ Hid (G = nxGo d a t (8 - k) y) ∧ w = wr) (fun i _ _ => 8 - (intOf i).toNat)
    case atStart =>
      refine ⟨0, D, by omega, rfl, ?_, Lib.hid rfl, HG0, rfl⟩
      first | rw [HD4.out (by assumption)] | rw [← HD3.out (by assumption)]
    case round =>
      obtain ⟨k, y, hk, rfl, rfl, HY, HG, rfl⟩ := hrel
      by_cases h8 : k < 8
      · have hlt : (k : Int) < 8 := by omega
        obtain ⟨f, hf⟩ : ∃ f, f = 7 - k := ⟨_, rfl⟩
        have hgo := HG.out
        rw [show 8 - k = f + 1 by omega, nxGo] at hgo
        have hst : 8 - (k + 1) = f := by omega
        have hy1 : y ≤ 800000 := by have := HY.out; omega
        have HST := Lib.hid hst
        have hbit := dbit d y hd
        obtain ⟨q, hq⟩ : ∃ q, q = (y + 5) % 7 := ⟨_, rfl⟩
        have hq6 : q ≤ 6 := by omega
        have hw := fun w => wd_any y w (by omega)
        rw [← hq] at hbit hw
        have HW := Lib.hid hw
        have hT1 : (y : Int) * 1440 + a ≤ 1200000000 := by omega
        have hT0 : 0 ≤ (y : Int) * 1440 + a := by omega
        clear hw hq HG hst hf
        by_cases c1 : 1073741824 < (y : Int) * 1440 + a
        · rw [if_pos c1] at hgo
          have e1 : decide (1073741824 < (y : Int) * 1440 + a) = true := by simpa using c1
          have HGO := Lib.hid hgo
          clear hgo hbit
          go_wp2_with fail
          go_ret2
          exact ⟨by rw [HGO.out]; rfl, rfl⟩
        · rw [if_neg c1] at hgo
          have e1 : decide (1073741824 < (y : Int) * 1440 + a) = false := by simpa using c1
          by_cases c2 : t < (y : Int) * 1440 + a
          · have e2 : decide (t < (y : Int) * 1440 + a) = true := by simpa using c2
            by_cases c3 : dB d y = true
            · rw [c3] at hbit
              rw [if_pos ⟨c2, c3⟩] at hgo
              have HGO := Lib.hid hgo
              clear hgo
              go_wp2_with fail
              refine (HW.out _).mono ?_
              rintro e w1 ⟨rfl, rfl⟩
              go_wp2_with fail
              go_ret2
              exact ⟨by rw [HGO.out]; rfl, rfl⟩
            · rw [if_neg (fun h => c3 h.2)] at hgo
              rw [Bool.not_eq_true] at c3
              rw [c3] at hbit
              have HGO := Lib.hid hgo
              clear hgo
              go_wp2_with fail
              refine (HW.out _).mono ?_
              rintro e w1 ⟨rfl, rfl⟩
              go_wp2_with fail
              go_roundw
              case rel => exact ⟨k + 1, y + 1, by omega, by go_num, by go_num, Lib.hid (by rw [HY.out]; omega), Lib.hid (by rw [HGO.out, HST.out]), by trivial⟩
              case measure => simp [intOf] <;> omega
          · have e2 : decide (t < (y : Int) * 1440 + a) = false := by simpa using c2
            rw [if_neg (fun h => c2 h.1)] at hgo
            have HGO := Lib.hid hgo
            clear hgo hbit
            go_wp2_with fail
            go_roundw
            case rel => exact ⟨k + 1, y + 1, by omega, by go_num, by go_num, Lib.hid (by rw [HY.out]; omega), Lib.hid (by rw [HGO.out, HST.out]), by trivial⟩
            case measure => simp [intOf] <;> omega
      · obtain rfl : k = 8 := by omega
        have hgo := HG.out
        rw [show 8 - 8 = 0 from rfl, nxGo] at hgo
        have HGO := Lib.hid hgo
        clear hgo HG
        go_wp2_with fail
        go_ret2
        exact ⟨by rw [HGO.out]; rfl, rfl⟩
end Go.Proofs.Ytijdlggoaianbaa
