/-
  Add-ons in the reference of layer 12: in, addon: the first error of an add-on by itself.
-/
import Derived.Test.YtijdlggoaianbaaAddonE
set_option linter.unusedVariables false
namespace Go.Proofs.Ytijdlggoaianbaa
open Go.RowKit
set_option maxHeartbeats 400000 in
theorem in_any (n lo hi : Int) (w : World) :
    Calls Try.prog 63 #[.int .i64 n, .int .i64 lo, .int .i64 hi] w fun e w' => e = .returned (.bool (inR n lo hi)) ∧ w = w' := by
  by_cases h1 : lo ≤ n
  · have d1 : decide (lo ≤ n) = true := by simpa using h1
    by_cases h2 : n ≤ hi
    · have d2 : decide (n ≤ hi) = true := by simpa using h2
      rw [inR_yes h1 h2]
      go_enter Try.func63, Try.ntmps63
      go_wp2_with fail
      go_ret
      exact ⟨rfl, rfl⟩
    · have d2 : decide (n ≤ hi) = false := by simpa using h2
      rw [inR_hi (by omega)]
      go_enter Try.func63, Try.ntmps63
      go_wp2_with fail
      go_ret
      exact ⟨rfl, rfl⟩
  · have d1 : decide (lo ≤ n) = false := by simpa using h1
    rw [inR_lo (by omega)]
    go_enter Try.func63, Try.ntmps63
    go_wp2_with fail
    go_ret
    exact ⟨rfl, rfl⟩
set_option maxRecDepth 20000 in
set_option maxHeartbeats 4000000 in
theorem raddon_any (a : Ad) (w : World) (hok : a.Ok w) :
    Calls Try.prog 90 #[a.val] w fun e w' => e = .returned (.int .i64 (adE a)) ∧ Fr [] w w' := by
  have hF : ∀ o, Fr [] w (w.alloc o) := fun o => (Fr.refl [] w).alloc o
  have hrf := hok.rf
  have hrp := hok.rp
  have hl1 : a.factors.length ≤ 9223372036854775807 := by obtain ⟨_, _, _, h1, h2, _⟩ := hok.rf; exact Nat.le_trans h1 h2
  have hl2 : a.prizes.length ≤ 9223372036854775807 := by obtain ⟨_, _, _, h1, h2, _⟩ := hok.rp; exact Nat.le_trans h1 h2
  obtain ⟨E, hE⟩ : ∃ E, E = adE a := ⟨_, rfl⟩
  rw [← hE]
  simp only [adE] at hE
  obtain ⟨name, kind, price, fa, fc, factors, digits, pa, pc, prizes⟩ := a
  simp only at hE hl1 hl2 hrf hrp
  simp only [Ad.val]
  obtain ⟨E1, hE1⟩ : ∃ E1, E1 = allE factors 1 100 := ⟨_, rfl⟩
  rw [← hE1] at hE
  obtain ⟨E2, hE2⟩ : ∃ E2, E2 = allE prizes 0 1000000000 := ⟨_, rfl⟩
  rw [← hE2] at hE
  have HE1 := Lib.hid hE1
  have HE2 := Lib.hid hE2
  clear hE1 hE2
  obtain ⟨_, _, hvf, _, _, hrf⟩ := hrf
  obtain ⟨_, _, hvp, _, _, hrp⟩ := hrp
  simp only [Value.slice.injEq] at hvf hvp
  obtain ⟨rfl, _, rfl⟩ := hvf
  obtain ⟨rfl, _, rfl⟩ := hvp
  obtain ⟨n, hN⟩ : ∃ n, n = factors.length := ⟨_, rfl⟩
  obtain ⟨m, hM⟩ : ∃ m, m = prizes.length := ⟨_, rfl⟩
  rw [← hN] at hE hl1 hrf ⊢
  rw [← hM] at hE hl2 hrp ⊢
  have HN := Lib.hid hN
  have HM := Lib.hid hM
  clear hN hM
  have HF := Lib.hid hF
  clear hF hok
  cases hn : nameB name
  · have hv : E = 4 := by rw [hE]; simp [*]
    have HV := Lib.hid hv
    clear hv hE
    go_enter Try.func90, Try.ntmps90
    go_wp2_with (first | (go_at_call 61; refine (rname_any _ _).mono ?_; rintro e w' ⟨rfl, rfl⟩) | (go_at_call 63; refine (in_any _ _ _ _).mono ?_; rintro e w' ⟨rfl, rfl⟩))
    go_ret
    exact ⟨ret_i HV.out.symm, HF.out _⟩
  · have hkk : kind = 1 ∨ kind = 2 ∨ (kind ≠ 1 ∧ kind ≠ 2) := by omega
    rcases hkk with rfl | rfl | ⟨hk1, hk2⟩
    · cases hpr : inR price 0 1000000
      · have hv : E = 2 := by rw [hE]; simp [*]
        have HV := Lib.hid hv
        clear hv hE
        go_enter Try.func90, Try.ntmps90
        go_wp2_with (first | (go_at_call 61; refine (rname_any _ _).mono ?_; rintro e w' ⟨rfl, rfl⟩) | (go_at_call 63; refine (in_any _ _ _ _).mono ?_; rintro e w' ⟨rfl, rfl⟩))
        go_ret
        exact ⟨ret_i HV.out.symm, HF.out _⟩
      · by_cases hd : digits = 0
        · subst hd
          by_cases hm : 0 < m
          · have d1 : decide (0 < (m : Int)) = true := by simp; omega
            have d2 : decide (0 < m) = true := by simpa using hm
            have hv : E = 7 := by rw [hE]; simp [*]
            have HV := Lib.hid hv
            clear hv hE
            go_enter Try.func90, Try.ntmps90
            go_wp2_with (first | (go_at_call 61; refine (rname_any _ _).mono ?_; rintro e w' ⟨rfl, rfl⟩) | (go_at_call 63; refine (in_any _ _ _ _).mono ?_; rintro e w' ⟨rfl, rfl⟩))
            go_ret
            exact ⟨ret_i HV.out.symm, HF.out _⟩
          · obtain rfl : m = 0 := by omega
            cases hl : inR (n : Int) 1 8
            · have hv : E = 3 := by rw [hE]; simp [*]
              have HV := Lib.hid hv
              clear hv hE
              go_enter Try.func90, Try.ntmps90
              go_wp2_with (first | (go_at_call 61; refine (rname_any _ _).mono ?_; rintro e w' ⟨rfl, rfl⟩) | (go_at_call 63; refine (in_any _ _ _ _).mono ?_; rintro e w' ⟨rfl, rfl⟩))
              go_ret
              exact ⟨ret_i HV.out.symm, HF.out _⟩
            · have hv : E = E1 := by rw [hE]; simp [*]
              have HV := Lib.hid hv
              clear hv hE
              go_enter Try.func90, Try.ntmps90
              go_wp2_with (first | (go_at_call 61; refine (rname_any _ _).mono ?_; rintro e w' ⟨rfl, rfl⟩) | (go_at_call 63; refine (in_any _ _ _ _).mono ?_; rintro e w' ⟨rfl, rfl⟩))
              go_loop [3] (fun i => ∃ k : Nat, k ≤ n ∧ i = .int .i64 k ∧ Hid (∀ j, j < k → inR (factors.getD j 0) 1 100 = true)) (fun i => n - (intOf i).toNat)
              case atStart => exact ⟨0, by omega, rfl, Lib.hid (by omega)⟩
              case round =>
                obtain ⟨k, hk, rfl, HA⟩ := hrel
                by_cases hlt : k < n
                · obtain ⟨g, o, rfl, hcell⟩ := hrf k hlt
                  have hcell' := fun ob => (HF.out ob).cell_some hcell (by simp)
                  have hbad := allE_bad factors 1 100 k (by have := HN.out; omega)
                  obtain ⟨x, hx⟩ : ∃ x, x = factors.getD k 0 := ⟨_, rfl⟩
                  rw [← hx] at hcell' hbad
                  have HX := Lib.hid hx
                  clear hx hcell
                  cases hb : inR x 1 100
                  · have hq := hbad hb
                    have HQ := Lib.hid hq
                    clear hq hbad
                    go_wp2_with (go_at_call 63; refine (in_any _ _ _ _).mono ?_; rintro e w' ⟨rfl, rfl⟩)
                    go_ret
                    exact ⟨ret_i (by rw [HV.out, HE1.out]; exact HQ.out.symm), HF.out _⟩
                  · clear hbad
                    go_wp2_with (go_at_call 63; refine (in_any _ _ _ _).mono ?_; rintro e w' ⟨rfl, rfl⟩)
                    go_round
                    case rel =>
                      refine ⟨k + 1, by omega, by go_num, Lib.hid fun j hj => ?_⟩
                      by_cases hjk : j < k
                      · exact HA.out j hjk
                      · obtain rfl : j = k := by omega
                        rw [← HX.out]; exact hb
                    case measure => simp [intOf]; omega
                · obtain rfl : k = n := by omega
                  have hq := allE_ok factors 1 100 (by rw [← HN.out]; exact HA.out)
                  have HQ := Lib.hid hq
                  clear hq
                  go_wp2_with fail
                  go_ret
                  exact ⟨ret_i (by rw [HV.out, HE1.out]; exact HQ.out.symm), HF.out _⟩
        · have d1 : (digits != 0) = true := by simpa using hd
          have hv : E = 7 := by rw [hE]; simp [*]
          have HV := Lib.hid hv
          clear hv hE
          go_enter Try.func90, Try.ntmps90
          go_wp2_with (first | (go_at_call 61; refine (rname_any _ _).mono ?_; rintro e w' ⟨rfl, rfl⟩) | (go_at_call 63; refine (in_any _ _ _ _).mono ?_; rintro e w' ⟨rfl, rfl⟩))
          go_ret
          exact ⟨ret_i HV.out.symm, HF.out _⟩
    · cases hpr : inR price 0 1000000
      · have hv : E = 2 := by rw [hE]; simp [*]
        have HV := Lib.hid hv
        clear hv hE
        go_enter Try.func90, Try.ntmps90
        go_wp2_with (first | (go_at_call 61; refine (rname_any _ _).mono ?_; rintro e w' ⟨rfl, rfl⟩) | (go_at_call 63; refine (in_any _ _ _ _).mono ?_; rintro e w' ⟨rfl, rfl⟩))
        go_ret
        exact ⟨ret_i HV.out.symm, HF.out _⟩
      · by_cases hm : 0 < n
        · have d1 : decide (0 < (n : Int)) = true := by simp; omega
          have d2 : decide (0 < n) = true := by simpa using hm
          have hv : E = 7 := by rw [hE]; simp [*]
          have HV := Lib.hid hv
          clear hv hE
          go_enter Try.func90, Try.ntmps90
          go_wp2_with (first | (go_at_call 61; refine (rname_any _ _).mono ?_; rintro e w' ⟨rfl, rfl⟩) | (go_at_call 63; refine (in_any _ _ _ _).mono ?_; rintro e w' ⟨rfl, rfl⟩))
          go_ret
          exact ⟨ret_i HV.out.symm, HF.out _⟩
        · obtain rfl : n = 0 := by omega
          cases hl : inR digits 1 8
          · have hv : E = 2 := by rw [hE]; simp [*]
            have HV := Lib.hid hv
            clear hv hE
            go_enter Try.func90, Try.ntmps90
            go_wp2_with (first | (go_at_call 61; refine (rname_any _ _).mono ?_; rintro e w' ⟨rfl, rfl⟩) | (go_at_call 63; refine (in_any _ _ _ _).mono ?_; rintro e w' ⟨rfl, rfl⟩))
            go_ret
            exact ⟨ret_i HV.out.symm, HF.out _⟩
          · by_cases hq : (m : Int) = digits
            · have d1 : ((m : Int) != digits) = false := by simpa using hq
              have hv : E = E2 := by rw [hE]; simp [*]
              have HV := Lib.hid hv
              clear hv hE
              go_enter Try.func90, Try.ntmps90
              go_wp2_with (first | (go_at_call 61; refine (rname_any _ _).mono ?_; rintro e w' ⟨rfl, rfl⟩) | (go_at_call 63; refine (in_any _ _ _ _).mono ?_; rintro e w' ⟨rfl, rfl⟩))
              go_loop [4] (fun i => ∃ k : Nat, k ≤ m ∧ i = .int .i64 k ∧ Hid (∀ j, j < k → inR (prizes.getD j 0) 0 1000000000 = true)) (fun i => m - (intOf i).toNat)
              case atStart => exact ⟨0, by omega, rfl, Lib.hid (by omega)⟩
              case round =>
                obtain ⟨k, hk, rfl, HA⟩ := hrel
                by_cases hlt : k < m
                · obtain ⟨g, o, rfl, hcell⟩ := hrp k hlt
                  have hcell' := fun ob => (HF.out ob).cell_some hcell (by simp)
                  have hbad := allE_bad prizes 0 1000000000 k (by have := HM.out; omega)
                  obtain ⟨x, hx⟩ : ∃ x, x = prizes.getD k 0 := ⟨_, rfl⟩
                  rw [← hx] at hcell' hbad
                  have HX := Lib.hid hx
                  clear hx hcell
                  cases hb : inR x 0 1000000000
                  · have hq := hbad hb
                    have HQ := Lib.hid hq
                    clear hq hbad
                    go_wp2_with (go_at_call 63; refine (in_any _ _ _ _).mono ?_; rintro e w' ⟨rfl, rfl⟩)
                    go_ret
                    exact ⟨ret_i (by rw [HV.out, HE2.out]; exact HQ.out.symm), HF.out _⟩
                  · clear hbad
                    go_wp2_with (go_at_call 63; refine (in_any _ _ _ _).mono ?_; rintro e w' ⟨rfl, rfl⟩)
                    go_round
                    case rel =>
                      refine ⟨k + 1, by omega, by go_num, Lib.hid fun j hj => ?_⟩
                      by_cases hjk : j < k
                      · exact HA.out j hjk
                      · obtain rfl : j = k := by omega
                        rw [← HX.out]; exact hb
                    case measure => simp [intOf]; omega
                · obtain rfl : k = m := by omega
                  have hq := allE_ok prizes 0 1000000000 (by rw [← HM.out]; exact HA.out)
                  have HQ := Lib.hid hq
                  clear hq
                  go_wp2_with fail
                  go_ret
                  exact ⟨ret_i (by rw [HV.out, HE2.out]; exact HQ.out.symm), HF.out _⟩
            · have d1 : ((m : Int) != digits) = true := by simpa using hq
              have hv : E = 3 := by rw [hE]; simp [*]
              have HV := Lib.hid hv
              clear hv hE
              go_enter Try.func90, Try.ntmps90
              go_wp2_with (first | (go_at_call 61; refine (rname_any _ _).mono ?_; rintro e w' ⟨rfl, rfl⟩) | (go_at_call 63; refine (in_any _ _ _ _).mono ?_; rintro e w' ⟨rfl, rfl⟩))
              go_ret
              exact ⟨ret_i HV.out.symm, HF.out _⟩
    · have d1 : (kind != 1) = true := by simpa using hk1
      have d2 : (kind != 2) = true := by simpa using hk2
      have hv : E = 7 := by rw [hE]; simp [*]
      have HV := Lib.hid hv
      clear hv hE
      go_enter Try.func90, Try.ntmps90
      go_wp2_with (first | (go_at_call 61; refine (rname_any _ _).mono ?_; rintro e w' ⟨rfl, rfl⟩) | (go_at_call 63; refine (in_any _ _ _ _).mono ?_; rintro e w' ⟨rfl, rfl⟩))
      go_ret
      exact ⟨ret_i HV.out.symm, HF.out _⟩
end Go.Proofs.Ytijdlggoaianbaa
