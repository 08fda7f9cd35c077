/-
  LAYER 37: the error of a game or of amounts, in the program and in the reference; later, flowing, jackpot, first.
-/
import Derived.Test.YtdinjekpcgndmaaRollP
import Derived.Test.YtdinjekpcgndmaaRCheck
set_option linter.unusedVariables false
namespace Go.Proofs.Ytdinjekpcgndmaa
open Go.RowKit
theorem mvalid_any (n : Int) (w : World) : Calls Try.prog 80 #[.int .i64 n] w fun e w' => e = .returned (.bool (inR n 0 1000000000000)) ∧ w = w' := by
  by_cases h1 : 0 ≤ n
  · have d1 : decide (0 ≤ n) = true := by simpa using h1
    by_cases h2 : n ≤ 1000000000000
    · have d2 : decide (n ≤ 1000000000000) = true := by simpa using h2
      rw [inR_yes h1 h2]
      go_enter Try.func80, Try.ntmps80
      go_wp2_with fail
      go_ret
      exact ⟨rfl, rfl⟩
    · have d2 : decide (n ≤ 1000000000000) = false := by simpa using h2
      rw [inR_hi (by omega)]
      go_enter Try.func80, Try.ntmps80
      go_wp2_with fail
      go_ret
      exact ⟨rfl, rfl⟩
  · have d1 : decide (0 ≤ n) = false := by simpa using h1
    rw [inR_lo (by omega)]
    go_enter Try.func80, Try.ntmps80
    go_wp2_with fail
    go_ret
    exact ⟨rfl, rfl⟩
theorem rvalid_any (n : Int) (w : World) : Calls Try.prog 82 #[.int .i64 n] w fun e w' => e = .returned (.bool (inR n 0 1000000000000)) ∧ w = w' := by
  by_cases h1 : 0 ≤ n
  · have d1 : decide (0 ≤ n) = true := by simpa using h1
    by_cases h2 : n ≤ 1000000000000
    · have d2 : decide (n ≤ 1000000000000) = true := by simpa using h2
      rw [inR_yes h1 h2]
      go_enter Try.func82, Try.ntmps82
      go_wp2_with fail
      go_ret
      exact ⟨rfl, rfl⟩
    · have d2 : decide (n ≤ 1000000000000) = false := by simpa using h2
      rw [inR_hi (by omega)]
      go_enter Try.func82, Try.ntmps82
      go_wp2_with fail
      go_ret
      exact ⟨rfl, rfl⟩
  · have d1 : decide (0 ≤ n) = false := by simpa using h1
    rw [inR_lo (by omega)]
    go_enter Try.func82, Try.ntmps82
    go_wp2_with fail
    go_ret
    exact ⟨rfl, rfl⟩
set_option maxRecDepth 20000 in
set_option maxHeartbeats 2000000 in
theorem rchk_any (g : Gm) (v : Value) (ts : List Int) (w : World) (hok : g.Ok w) (hr : RdI w v ts) :
    Calls Try.prog 51 #[g.val, v] w fun e w' => e = .returned (.int .i64 (rchkE g ts)) ∧ Fr [] w w' := by
  obtain ⟨a, cap, rfl, hc1, hc2, hrd⟩ := hr
  have hle : ts.length ≤ 9223372036854775807 := Nat.le_trans hc1 hc2
  have hlt := hok.tiers.rd.len.2
  unfold maxLen at hlt
  have hC := fun w' (h : Fr [] w w') => check_any g w' (hok.fr h)
  unfold ChkPost at hC
  have h21 : ∀ w b, GmAt w b g → w.cell? ⟨b, 21, none⟩ = some (.slice g.ta g.tiers.length g.tc) := fun w b h => h.cell 21 _ rfl
  obtain ⟨E, hE⟩ : ∃ E, E = rchkE g ts := ⟨_, rfl⟩
  rw [← hE]
  unfold rchkE at hE
  obtain ⟨n, hN⟩ : ∃ n, n = ts.length := ⟨_, rfl⟩
  obtain ⟨m, hM⟩ : ∃ m, m = g.tiers.length := ⟨_, rfl⟩
  rw [← hN] at hrd hle hE ⊢
  rw [← hM] at h21 hlt hE
  have HN := Lib.hid hN
  have H21 := Lib.hid h21
  have HRD := Lib.hid hrd
  clear hN hM h21 hrd hc1 hc2 hok
  by_cases he : chkE g = 0
  · rw [he] at hC hE
    rw [if_neg (by simp)] at hE
    have HC := Lib.hid hC
    clear hC he
    by_cases hnm : n = m
    · subst hnm
      rw [if_neg (by simp)] at hE
      have e0 : ((n : Int) != n) = false := by simp
      have HE := Lib.hid hE
      clear hE
      go_enter Try.func51, Try.ntmps51
      go_wp2_with (first | (refine box_game rfl (.tmp 0) rfl g rfl ?_; intro w1 hg1 hz1 hf1) | (refine load_game rfl (.tmp 2) rfl _ rfl g hg1 ?_))
      refine (HC.out _ hf1).mono ?_
      rintro e w2 ⟨S, rfl, _, f2⟩
      have hg2 := hg1.fr f2 (by simp)
      have c21 := H21.out _ _ hg2
      have hF2 := hf1.trans f2
      clear f2 hg1 hf1 hz1
      go_wp2_with fail
      go_loop [25] (fun i => ∃ k : Nat, k ≤ n ∧ i = .int .i64 k ∧ Hid (∀ j, j < k → inR (ts.getD j 0) 0 1000000000000 = true)) (fun i => n - (intOf i).toNat)
      case atStart => exact ⟨0, by omega, rfl, Lib.hid (by omega)⟩
      case round =>
        obtain ⟨k, hk, rfl, HA⟩ := hrel
        by_cases hlt : k < n
        · obtain ⟨g1, o1, rfl, hcell⟩ := HRD.out k hlt
          have hcell := hF2.cell_some hcell (by simp)
          have hbad := allE_bad ts 0 1000000000000 k (by have := HN.out; omega)
          obtain ⟨x, hx⟩ : ∃ x, x = ts.getD k 0 := ⟨_, rfl⟩
          rw [← hx] at hcell hbad
          have HX := Lib.hid hx
          clear hx
          cases hb : inR x 0 1000000000000
          · have hq := HE.out.trans (hbad hb)
            have HQ := Lib.hid hq
            clear hq hbad
            go_wp2_with (go_at_call 80; refine (mvalid_any _ _).mono ?_; rintro e w' ⟨rfl, rfl⟩)
            go_ret
            exact ⟨ret_i HQ.out.symm, hF2⟩
          · clear hbad
            go_wp2_with (go_at_call 80; refine (mvalid_any _ _).mono ?_; rintro e w' ⟨rfl, rfl⟩)
            go_round
            case rel =>
              refine ⟨k + 1, by omega, by go_num, Lib.hid fun j hj => ?_⟩
              by_cases hjk : j < k
              · exact HA.out j hjk
              · obtain rfl : j = k := by omega
                rw [← HX.out]; exact hb
            case measure => simp [intOf]; omega
        · obtain rfl : k = n := by omega
          have hq := HE.out.trans (allE_ok ts 0 1000000000000 (by rw [← HN.out]; exact HA.out))
          have HQ := Lib.hid hq
          clear hq
          go_wp2_with fail
          go_ret
          exact ⟨ret_i HQ.out.symm, hF2⟩
    · rw [if_pos hnm] at hE
      have e0 : ((n : Int) != m) = true := by simp; omega
      have HE := Lib.hid hE
      clear hE hnm
      go_enter Try.func51, Try.ntmps51
      go_wp2_with (first | (refine box_game rfl (.tmp 0) rfl g rfl ?_; intro w1 hg1 hz1 hf1) | (refine load_game rfl (.tmp 2) rfl _ rfl g hg1 ?_))
      refine (HC.out _ hf1).mono ?_
      rintro e w2 ⟨S, rfl, _, f2⟩
      have c21 := H21.out _ _ (hg1.fr f2 (by simp))
      go_wp2_with fail
      go_ret
      exact ⟨ret_i HE.out.symm, hf1.trans f2⟩
  · rw [if_pos he] at hE
    generalize chkE g = ce at *
    have e0 : (ce != 0) = true := by simpa using he
    have HE := Lib.hid hE
    have HC := Lib.hid hC
    clear hE hC he
    go_enter Try.func51, Try.ntmps51
    go_wp2_with (first | (refine box_game rfl (.tmp 0) rfl g rfl ?_; intro w1 hg1 hz1 hf1) | (refine load_game rfl (.tmp 2) rfl _ rfl g hg1 ?_))
    refine (HC.out _ hf1).mono ?_
    rintro e w2 ⟨S, rfl, _, f2⟩
    go_wp2_with fail
    go_ret
    exact ⟨ret_i HE.out.symm, hf1.trans f2⟩
set_option maxRecDepth 20000 in
set_option maxHeartbeats 2000000 in
theorem amounts_any (g : Gm) (v : Value) (ts : List Int) (w : World) (hok : g.Ok w) (hr : RdI w v ts) :
    Calls Try.prog 56 #[g.val, v] w fun e w' => e = .returned (.int .i64 (rchkE g ts)) ∧ Fr [] w w' := by
  obtain ⟨a, cap, rfl, hc1, hc2, hrd⟩ := hr
  have hle : ts.length ≤ 9223372036854775807 := Nat.le_trans hc1 hc2
  have hlt := hok.tiers.rd.len.2
  unfold maxLen at hlt
  have hC := fun w' (h : Fr [] w w') => rcheck_any g w' (hok.fr h)
  unfold RChkPost at hC
  have h21 : ∀ w b, GmAt w b g → w.cell? ⟨b, 21, none⟩ = some (.slice g.ta g.tiers.length g.tc) := fun w b h => h.cell 21 _ rfl
  obtain ⟨E, hE⟩ : ∃ E, E = rchkE g ts := ⟨_, rfl⟩
  rw [← hE]
  unfold rchkE at hE
  obtain ⟨n, hN⟩ : ∃ n, n = ts.length := ⟨_, rfl⟩
  obtain ⟨m, hM⟩ : ∃ m, m = g.tiers.length := ⟨_, rfl⟩
  rw [← hN] at hrd hle hE ⊢
  rw [← hM] at h21 hlt hE
  have HN := Lib.hid hN
  have H21 := Lib.hid h21
  have HRD := Lib.hid hrd
  clear hN hM h21 hrd hc1 hc2 hok
  by_cases he : chkE g = 0
  · rw [he] at hC hE
    rw [if_neg (by simp)] at hE
    have HC := Lib.hid hC
    clear hC he
    by_cases hnm : n = m
    · subst hnm
      rw [if_neg (by simp)] at hE
      have e0 : ((n : Int) != n) = false := by simp
      have HE := Lib.hid hE
      clear hE
      go_enter Try.func56, Try.ntmps56
      go_wp2_with (first | (refine box_game rfl (.tmp 0) rfl g rfl ?_; intro w1 hg1 hz1 hf1) | (refine load_game rfl (.tmp 2) rfl _ rfl g hg1 ?_))
      refine (HC.out _ hf1).mono ?_
      rintro e w2 ⟨S, rfl, f2⟩
      have hg2 := hg1.fr f2 (by simp)
      have c21 := H21.out _ _ hg2
      have hF2 := hf1.trans f2
      clear f2 hg1 hf1 hz1
      go_wp2_with fail
      go_loop [7] (fun i => ∃ k : Nat, k ≤ n ∧ i = .int .i64 k ∧ Hid (∀ j, j < k → inR (ts.getD j 0) 0 1000000000000 = true)) (fun i => n - (intOf i).toNat)
      case atStart => exact ⟨0, by omega, rfl, Lib.hid (by omega)⟩
      case round =>
        obtain ⟨k, hk, rfl, HA⟩ := hrel
        by_cases hlt : k < n
        · obtain ⟨g1, o1, rfl, hcell⟩ := HRD.out k hlt
          have hcell := hF2.cell_some hcell (by simp)
          have hbad := allE_bad ts 0 1000000000000 k (by have := HN.out; omega)
          obtain ⟨x, hx⟩ : ∃ x, x = ts.getD k 0 := ⟨_, rfl⟩
          rw [← hx] at hcell hbad
          have HX := Lib.hid hx
          clear hx
          cases hb : inR x 0 1000000000000
          · have hq := HE.out.trans (hbad hb)
            have HQ := Lib.hid hq
            clear hq hbad
            go_wp2_with (go_at_call 82; refine (rvalid_any _ _).mono ?_; rintro e w' ⟨rfl, rfl⟩)
            go_ret
            exact ⟨ret_i HQ.out.symm, hF2⟩
          · clear hbad
            go_wp2_with (go_at_call 82; refine (rvalid_any _ _).mono ?_; rintro e w' ⟨rfl, rfl⟩)
            go_round
            case rel =>
              refine ⟨k + 1, by omega, by go_num, Lib.hid fun j hj => ?_⟩
              by_cases hjk : j < k
              · exact HA.out j hjk
              · obtain rfl : j = k := by omega
                rw [← HX.out]; exact hb
            case measure => simp [intOf]; omega
        · obtain rfl : k = n := by omega
          have hq := HE.out.trans (allE_ok ts 0 1000000000000 (by rw [← HN.out]; exact HA.out))
          have HQ := Lib.hid hq
          clear hq
          go_wp2_with fail
          go_ret
          exact ⟨ret_i HQ.out.symm, hF2⟩
    · rw [if_pos hnm] at hE
      have e0 : ((n : Int) != m) = true := by simp; omega
      have HE := Lib.hid hE
      clear hE hnm
      go_enter Try.func56, Try.ntmps56
      go_wp2_with (first | (refine box_game rfl (.tmp 0) rfl g rfl ?_; intro w1 hg1 hz1 hf1) | (refine load_game rfl (.tmp 2) rfl _ rfl g hg1 ?_))
      refine (HC.out _ hf1).mono ?_
      rintro e w2 ⟨S, rfl, f2⟩
      have c21 := H21.out _ _ (hg1.fr f2 (by simp))
      go_wp2_with fail
      go_ret
      exact ⟨ret_i HE.out.symm, hf1.trans f2⟩
  · rw [if_pos he] at hE
    generalize chkE g = ce at *
    have e0 : (ce != 0) = true := by simpa using he
    have HE := Lib.hid hE
    have HC := Lib.hid hC
    clear hE hC he
    go_enter Try.func56, Try.ntmps56
    go_wp2_with (first | (refine box_game rfl (.tmp 0) rfl g rfl ?_; intro w1 hg1 hz1 hf1) | (refine load_game rfl (.tmp 2) rfl _ rfl g hg1 ?_))
    refine (HC.out _ hf1).mono ?_
    rintro e w2 ⟨S, rfl, f2⟩
    go_wp2_with fail
    go_ret
    exact ⟨ret_i HE.out.symm, hf1.trans f2⟩
end Go.Proofs.Ytdinjekpcgndmaa
