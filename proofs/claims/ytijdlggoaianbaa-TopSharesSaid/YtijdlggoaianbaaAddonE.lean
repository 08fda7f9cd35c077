/-
  Add-ons (layer 12): checkAll, checkAddon: the first error of an add-on by itself.
-/
import Derived.Test.YtijdlggoaianbaaMatrix
import Derived.Test.YtijdlggoaianbaaName
set_option linter.unusedVariables false
namespace Go.Proofs.Ytijdlggoaianbaa
open Go.RowKit
def allR (l : List Int) (lo hi : Int) : Bool := l.all fun n => inR n lo hi
def allE (l : List Int) (lo hi : Int) : Int := if allR l lo hi = true then 0 else 2
theorem allE_bad (l : List Int) (lo hi : Int) (k : Nat) (hk : k < l.length) (h : inR (l.getD k 0) lo hi = false) : allE l lo hi = 2 := by
  unfold allE
  rw [if_neg]
  intro hc
  have hm : l.getD k 0 ∈ l := by simp [List.getD, hk]
  have := List.all_eq_true.1 hc _ hm
  simp only [h] at this
  exact absurd this (by simp)
theorem allE_ok (l : List Int) (lo hi : Int) (h : ∀ k, k < l.length → inR (l.getD k 0) lo hi = true) : allE l lo hi = 0 := by
  unfold allE
  rw [if_pos]
  unfold allR
  rw [List.all_eq_true]
  intro x hx
  obtain ⟨k, hk, rfl⟩ := List.mem_iff_getElem.1 hx
  have := h k hk
  simpa [List.getD, hk] using this
theorem ret_i {k : IntKind} {a b : Int} (h : a = b) : Ending.returned (.int k a) = .returned (.int k b) := by rw [h]
set_option maxHeartbeats 1000000 in
theorem checkAll_any (v : Value) (l : List Int) (lo hi : Int) (w : World) (hr : RdI w v l) :
    Calls Try.prog 71 #[v, .int .i64 lo, .int .i64 hi] w fun e w' => e = .returned (.int .i64 (allE l lo hi)) ∧ w = w' := by
  obtain ⟨a, cap, rfl, hc1, hc2, hrd⟩ := hr
  have hle : l.length ≤ 9223372036854775807 := Nat.le_trans hc1 hc2
  obtain ⟨n, hN⟩ : ∃ n, n = l.length := ⟨_, rfl⟩
  rw [← hN] at hrd hle ⊢
  have HN := Lib.hid hN
  clear hN hc1 hc2
  go_enter Try.func71, Try.ntmps71
  go_wp2_with fail
  go_loop [11] (fun i => ∃ k : Nat, k ≤ n ∧ i = .int .i64 k ∧ Hid (∀ j, j < k → inR (l.getD j 0) lo hi = true)) (fun i => n - (intOf i).toNat)
  case atStart => exact ⟨0, by omega, rfl, Lib.hid (by omega)⟩
  case round =>
    obtain ⟨k, hk, rfl, HA⟩ := hrel
    by_cases hlt : k < n
    · obtain ⟨g, o, rfl, hcell⟩ := hrd k hlt
      have hbad := allE_bad l lo hi k (by have := HN.out; omega)
      obtain ⟨x, hx⟩ : ∃ x, x = l.getD k 0 := ⟨_, rfl⟩
      rw [← hx] at hcell hbad
      have HX := Lib.hid hx
      clear hx
      cases hb : inR x lo hi
      · have hq := hbad hb
        have HQ := Lib.hid hq
        clear hq hbad
        go_wp2_with (go_at_call 50; refine (within_any _ _ _ _).mono ?_; rintro e w' ⟨rfl, rfl⟩)
        go_ret
        exact ⟨ret_i HQ.out.symm, rfl⟩
      · clear hbad
        go_wp2_with (go_at_call 50; refine (within_any _ _ _ _).mono ?_; rintro e w' ⟨rfl, rfl⟩)
        go_round
        case rel =>
          refine ⟨k + 1, by omega, by go_num, Lib.hid fun j hj => ?_⟩
          by_cases hjk : j < k
          · exact HA.out j hjk
          · obtain rfl : j = k := by omega
            rw [← HX.out]; exact hb
        case measure => simp [intOf]; omega
    · obtain rfl : k = n := by omega
      have hq := allE_ok l lo hi (by rw [← HN.out]; exact HA.out)
      have HQ := Lib.hid hq
      clear hq
      go_wp2_with fail
      go_ret
      exact ⟨ret_i HQ.out.symm, rfl⟩
/-- the first error of an add-on by itself -/
def adE (a : Ad) : Int :=
  if nameB a.name = false then 4 else if a.kind ≠ 1 ∧ a.kind ≠ 2 then 7 else if inR a.price 0 1000000 = false then 2 else
  if a.kind = 1 then (if a.digits ≠ 0 ∨ 0 < a.prizes.length then 7 else if inR a.factors.length 1 8 = false then 3 else allE a.factors 1 100)
  else (if 0 < a.factors.length then 7 else if inR a.digits 1 8 = false then 2 else if (a.prizes.length : Int) ≠ a.digits then 3 else allE a.prizes 0 1000000000)
def Ad.val (a : Ad) : Value := .agg #[.string a.name, .int .i64 a.kind, .int .i64 a.price, .slice a.fa a.factors.length a.fc, .int .i64 a.digits, .slice a.pa a.prizes.length a.pc]
set_option maxRecDepth 20000 in
set_option maxHeartbeats 4000000 in
theorem checkAddon_any (a : Ad) (w : World) (hok : a.Ok w) :
    Calls Try.prog 51 #[a.val] w fun e w' => e = .returned (.int .i64 (adE a)) ∧ Fr [] w w' := by
  have hF : ∀ o, Fr [] w (w.alloc o) := fun o => (Fr.refl [] w).alloc o
  have hf := fun o lo hi => checkAll_any _ a.factors lo hi (w.alloc o) (hok.rf.below (hF o))
  have hp := fun o lo hi => checkAll_any _ a.prizes lo hi (w.alloc o) (hok.rp.below (hF o))
  have hl1 : a.factors.length ≤ 9223372036854775807 := by obtain ⟨_, _, _, h1, h2, _⟩ := hok.rf; exact Nat.le_trans h1 h2
  have hl2 : a.prizes.length ≤ 9223372036854775807 := by obtain ⟨_, _, _, h1, h2, _⟩ := hok.rp; exact Nat.le_trans h1 h2
  obtain ⟨E, hE⟩ : ∃ E, E = adE a := ⟨_, rfl⟩
  rw [← hE]
  simp only [adE] at hE
  obtain ⟨name, kind, price, fa, fc, factors, digits, pa, pc, prizes⟩ := a
  simp only at hE hf hp hl1 hl2
  simp only [Ad.val]
  obtain ⟨E1, hE1⟩ : ∃ E1, E1 = allE factors 1 100 := ⟨_, rfl⟩
  rw [← hE1] at hE
  have hf1 := fun o => hf o 1 100
  rw [← hE1] at hf1
  clear hf hE1
  have hp1 := fun o => hp o 0 1000000000
  obtain ⟨E2, hE2⟩ : ∃ E2, E2 = allE prizes 0 1000000000 := ⟨_, rfl⟩
  rw [← hE2] at hE hp1
  clear hp hE2
  generalize factors.length = n at *
  generalize prizes.length = m at *
  have HF := Lib.hid hF
  have HFC := Lib.hid hf1
  have HPC := Lib.hid hp1
  clear hF hf1 hp1 hok
  cases hn : nameB name
  · have hv : E = 4 := by rw [hE]; simp [*]
    have HV := Lib.hid hv
    clear hv hE
    go_enter Try.func51, Try.ntmps51
    go_wp2_with (first | (go_at_call 31; refine (name_any _ _).mono ?_; rintro e w' ⟨rfl, rfl⟩) | (go_at_call 50; refine (within_any _ _ _ _).mono ?_; rintro e w' ⟨rfl, rfl⟩))
    go_ret
    exact ⟨ret_i HV.out.symm, HF.out _⟩
  · have hkk : kind = 1 ∨ kind = 2 ∨ (kind ≠ 1 ∧ kind ≠ 2) := by omega
    rcases hkk with rfl | rfl | ⟨hk1, hk2⟩
    · cases hpr : inR price 0 1000000
      · have hv : E = 2 := by rw [hE]; simp [*]
        have HV := Lib.hid hv
        clear hv hE
        go_enter Try.func51, Try.ntmps51
        go_wp2_with (first | (go_at_call 31; refine (name_any _ _).mono ?_; rintro e w' ⟨rfl, rfl⟩) | (go_at_call 50; refine (within_any _ _ _ _).mono ?_; rintro e w' ⟨rfl, rfl⟩))
        go_ret
        exact ⟨ret_i HV.out.symm, HF.out _⟩
      · by_cases hd : digits = 0
        · subst hd
          by_cases hm : 0 < m
          · have d1 : decide (0 < (m : Int)) = true := by simp; omega
            have d2 : decide (0 < m) = true := by simpa using hm
            have hv : E = 7 := by rw [hE]; simp [*]
            have HV := Lib.hid hv
            clear hv hE
            go_enter Try.func51, Try.ntmps51
            go_wp2_with (first | (go_at_call 31; refine (name_any _ _).mono ?_; rintro e w' ⟨rfl, rfl⟩) | (go_at_call 50; refine (within_any _ _ _ _).mono ?_; rintro e w' ⟨rfl, rfl⟩))
            go_ret
            exact ⟨ret_i HV.out.symm, HF.out _⟩
          · obtain rfl : m = 0 := by omega
            cases hl : inR (n : Int) 1 8
            · have hv : E = 3 := by rw [hE]; simp [*]
              have HV := Lib.hid hv
              clear hv hE
              go_enter Try.func51, Try.ntmps51
              go_wp2_with (first | (go_at_call 31; refine (name_any _ _).mono ?_; rintro e w' ⟨rfl, rfl⟩) | (go_at_call 50; refine (within_any _ _ _ _).mono ?_; rintro e w' ⟨rfl, rfl⟩))
              go_ret
              exact ⟨ret_i HV.out.symm, HF.out _⟩
            · have hv : E = E1 := by rw [hE]; simp [*]
              have HV := Lib.hid hv
              clear hv hE
              go_enter Try.func51, Try.ntmps51
              go_wp2_with (first | (go_at_call 31; refine (name_any _ _).mono ?_; rintro e w' ⟨rfl, rfl⟩) | (go_at_call 50; refine (within_any _ _ _ _).mono ?_; rintro e w' ⟨rfl, rfl⟩))
              refine (HFC.out _).mono ?_
              rintro e w1 ⟨rfl, rfl⟩
              go_wp2_with fail
              go_ret
              exact ⟨ret_i HV.out.symm, HF.out _⟩
        · have d1 : (digits != 0) = true := by simpa using hd
          have hv : E = 7 := by rw [hE]; simp [*]
          have HV := Lib.hid hv
          clear hv hE
          go_enter Try.func51, Try.ntmps51
          go_wp2_with (first | (go_at_call 31; refine (name_any _ _).mono ?_; rintro e w' ⟨rfl, rfl⟩) | (go_at_call 50; refine (within_any _ _ _ _).mono ?_; rintro e w' ⟨rfl, rfl⟩))
          go_ret
          exact ⟨ret_i HV.out.symm, HF.out _⟩
    · cases hpr : inR price 0 1000000
      · have hv : E = 2 := by rw [hE]; simp [*]
        have HV := Lib.hid hv
        clear hv hE
        go_enter Try.func51, Try.ntmps51
        go_wp2_with (first | (go_at_call 31; refine (name_any _ _).mono ?_; rintro e w' ⟨rfl, rfl⟩) | (go_at_call 50; refine (within_any _ _ _ _).mono ?_; rintro e w' ⟨rfl, rfl⟩))
        go_ret
        exact ⟨ret_i HV.out.symm, HF.out _⟩
      · by_cases hm : 0 < n
        · have d1 : decide (0 < (n : Int)) = true := by simp; omega
          have d2 : decide (0 < n) = true := by simpa using hm
          have hv : E = 7 := by rw [hE]; simp [*]
          have HV := Lib.hid hv
          clear hv hE
          go_enter Try.func51, Try.ntmps51
          go_wp2_with (first | (go_at_call 31; refine (name_any _ _).mono ?_; rintro e w' ⟨rfl, rfl⟩) | (go_at_call 50; refine (within_any _ _ _ _).mono ?_; rintro e w' ⟨rfl, rfl⟩))
          go_ret
          exact ⟨ret_i HV.out.symm, HF.out _⟩
        · obtain rfl : n = 0 := by omega
          cases hl : inR digits 1 8
          · have hv : E = 2 := by rw [hE]; simp [*]
            have HV := Lib.hid hv
            clear hv hE
            go_enter Try.func51, Try.ntmps51
            go_wp2_with (first | (go_at_call 31; refine (name_any _ _).mono ?_; rintro e w' ⟨rfl, rfl⟩) | (go_at_call 50; refine (within_any _ _ _ _).mono ?_; rintro e w' ⟨rfl, rfl⟩))
            go_ret
            exact ⟨ret_i HV.out.symm, HF.out _⟩
          · by_cases hq : (m : Int) = digits
            · have d1 : ((m : Int) != digits) = false := by simpa using hq
              have hv : E = E2 := by rw [hE]; simp [*]
              have HV := Lib.hid hv
              clear hv hE
              go_enter Try.func51, Try.ntmps51
              go_wp2_with (first | (go_at_call 31; refine (name_any _ _).mono ?_; rintro e w' ⟨rfl, rfl⟩) | (go_at_call 50; refine (within_any _ _ _ _).mono ?_; rintro e w' ⟨rfl, rfl⟩))
              refine (HPC.out _).mono ?_
              rintro e w1 ⟨rfl, rfl⟩
              go_wp2_with fail
              go_ret
              exact ⟨ret_i HV.out.symm, HF.out _⟩
            · have d1 : ((m : Int) != digits) = true := by simpa using hq
              have hv : E = 3 := by rw [hE]; simp [*]
              have HV := Lib.hid hv
              clear hv hE
              go_enter Try.func51, Try.ntmps51
              go_wp2_with (first | (go_at_call 31; refine (name_any _ _).mono ?_; rintro e w' ⟨rfl, rfl⟩) | (go_at_call 50; refine (within_any _ _ _ _).mono ?_; rintro e w' ⟨rfl, rfl⟩))
              go_ret
              exact ⟨ret_i HV.out.symm, HF.out _⟩
    · have d1 : (kind != 1) = true := by simpa using hk1
      have d2 : (kind != 2) = true := by simpa using hk2
      have hv : E = 7 := by rw [hE]; simp [*]
      have HV := Lib.hid hv
      clear hv hE
      go_enter Try.func51, Try.ntmps51
      go_wp2_with (first | (go_at_call 31; refine (name_any _ _).mono ?_; rintro e w' ⟨rfl, rfl⟩) | (go_at_call 50; refine (within_any _ _ _ _).mono ?_; rintro e w' ⟨rfl, rfl⟩))
      go_ret
      exact ⟨ret_i HV.out.symm, HF.out _⟩
end Go.Proofs.Ytijdlggoaianbaa
