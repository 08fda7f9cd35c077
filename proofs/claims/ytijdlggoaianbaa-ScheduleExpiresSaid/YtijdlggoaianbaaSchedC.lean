/-
  schedule.Close, Expiry, until and Open.
-/
import Derived.Test.YtijdlggoaianbaaDraw24
set_option linter.unusedVariables false
namespace Go.Proofs.Ytijdlggoaianbaa
open Go.RowKit
def clV (g : Gm) (n : Int) : Int := if drE g n = 0 then drV g n - g.close else 0
def exV (g : Gm) (n : Int) : Int := if drE g n = 0 then min (drV g n + g.expiry * 1440) 1073741824 else 0
def opE (g : Gm) (t : Int) : Int := if chkE g ≠ 0 then chkE g else if t < 0 ∨ 1073741824 < t then 2 else drE g (untV (dD g) g.at_ (t + g.close) + 1)
def opV (g : Gm) (t : Int) : Int := if opE g t = 0 then untV (dD g) g.at_ (t + g.close) + 1 else 0
theorem drV_bd {g : Gm} {n : Int} (h : drE g n = 0) : chkE g = 0 ∧ 0 ≤ drV g n ∧ drV g n ≤ 1073741824 := by
  have h2 := h
  unfold drE at h
  split at h
  · rename_i hc; exact absurd h hc
  rename_i hc
  split at h
  · simp at h
  split at h
  · simp at h
  rename_i hm
  obtain ⟨d, hd⟩ := df_of (by simpa using hc)
  have := drT_nn (d := dD g) hd.a0 (n - 1).toNat
  unfold drV
  rw [if_pos h2]
  exact ⟨by simpa using hc, this, by omega⟩
set_option maxRecDepth 20000 in
set_option maxHeartbeats 2000000 in
theorem close_any (g : Gm) (n : Int) (w : World) (hok : g.Ok w) (hn0 : -9223372036854775808 ≤ n) (hn1 : n ≤ 9223372036854775807) :
    Calls Try.prog 19 #[g.val, .int .i64 n] w fun e w' => e = .returned (.tuple #[.int .i64 (clV g n), .int .i64 (drE g n)]) ∧ Fr [] w w' := by
  have hD := fun w' (h : Fr [] w w') => draw_any g n w' (hok.fr h) hn0 hn1
  have h12 : ∀ w b, GmAt w b g → w.cell? ⟨b, 12, none⟩ = some (.int .i64 g.close) := fun w b h => h.cell 12 _ rfl
  by_cases h0 : drE g n = 0
  · have hv : clV g n = drV g n - g.close := by unfold clV; rw [if_pos h0]
    obtain ⟨hc, v0, v1⟩ := drV_bd h0
    obtain ⟨d, hd⟩ := df_of hc
    have k0 := hd.c0
    have k1 := hd.c1
    rw [hv, h0]
    rw [h0] at hD
    generalize drV g n = V at *
    generalize hcl : g.close = C at *
    have HD := Lib.hid hD
    have H12 := Lib.hid h12
    clear hD h12 h0 hv hc hd hok hcl
    go_enter Try.func19, Try.ntmps19
    go_wp2_with (first | (refine box_game rfl (.tmp 0) rfl g rfl ?_; intro w1 hg1 hz1 hf1) | (refine load_game rfl (.tmp 2) rfl _ rfl g hg1 ?_))
    refine (HD.out _ hf1).mono ?_
    rintro e w2 ⟨rfl, f2⟩
    have c12 := H12.out _ _ (hg1.fr f2 (by simp))
    go_wp2_with fail
    go_ret2
    exact ⟨rfl, hf1.trans f2⟩
  · have hv : clV g n = 0 := by unfold clV; rw [if_neg h0]
    have e0 : (drE g n != 0) = true := by simpa using h0
    rw [hv]
    generalize drE g n = E at *
    generalize drV g n = V at *
    have HD := Lib.hid hD
    clear hD h12 h0 hv hok
    go_enter Try.func19, Try.ntmps19
    go_wp2_with (first | (refine box_game rfl (.tmp 0) rfl g rfl ?_; intro w1 hg1 hz1 hf1) | (refine load_game rfl (.tmp 2) rfl _ rfl g hg1 ?_))
    refine (HD.out _ hf1).mono ?_
    rintro e w2 ⟨rfl, f2⟩
    go_wp2_with fail
    go_ret2
    exact ⟨rfl, hf1.trans f2⟩
set_option maxRecDepth 20000 in
set_option maxHeartbeats 2000000 in
theorem expiry_any (g : Gm) (n : Int) (w : World) (hok : g.Ok w) (hn0 : -9223372036854775808 ≤ n) (hn1 : n ≤ 9223372036854775807) :
    Calls Try.prog 14 #[g.val, .int .i64 n] w fun e w' => e = .returned (.tuple #[.int .i64 (exV g n), .int .i64 (drE g n)]) ∧ Fr [] w w' := by
  have hD := fun w' (h : Fr [] w w') => draw_any g n w' (hok.fr h) hn0 hn1
  have h14 : ∀ w b, GmAt w b g → w.cell? ⟨b, 14, none⟩ = some (.int .i64 g.expiry) := fun w b h => h.cell 14 _ rfl
  by_cases h0 : drE g n = 0
  · have hv : exV g n = min (drV g n + g.expiry * 1440) 1073741824 := by unfold exV; rw [if_pos h0]
    obtain ⟨hc, v0, v1⟩ := drV_bd h0
    obtain ⟨d, hd⟩ := df_of hc
    have k0 := hd.e0
    have k1 := hd.e1
    rw [hv, h0]
    rw [h0] at hD
    generalize drV g n = V at *
    generalize hcl : g.expiry = C at *
    by_cases hm : V + C * 1440 ≤ 1073741824
    · have hmm : min (V + C * 1440) 1073741824 = V + C * 1440 := by omega
      rw [hmm]
      have d1 : decide (1073741824 < V + C * 1440) = false := by simp; omega
      have HD := Lib.hid hD
      have H14 := Lib.hid h14
      have HMM := Lib.hid hmm
      clear hD h14 h0 hv hc hd hok hcl hmm
      go_enter Try.func14, Try.ntmps14
      go_wp2_with (first | (refine box_game rfl (.tmp 0) rfl g rfl ?_; intro w1 hg1 hz1 hf1) | (refine load_game rfl (.tmp 2) rfl _ rfl g hg1 ?_))
      refine (HD.out _ hf1).mono ?_
      rintro e w2 ⟨rfl, f2⟩
      have c14 := H14.out _ _ (hg1.fr f2 (by simp))
      go_wp2_with fail
      all_goals go_ret2
      all_goals exact ⟨by first | rfl | (congr 4; omega), hf1.trans f2⟩
    · have hmm : min (V + C * 1440) 1073741824 = 1073741824 := by omega
      rw [hmm]
      have d1 : decide (1073741824 < V + C * 1440) = true := by simp; omega
      have HD := Lib.hid hD
      have H14 := Lib.hid h14
      have HMM := Lib.hid hmm
      clear hD h14 h0 hv hc hd hok hcl hmm
      go_enter Try.func14, Try.ntmps14
      go_wp2_with (first | (refine box_game rfl (.tmp 0) rfl g rfl ?_; intro w1 hg1 hz1 hf1) | (refine load_game rfl (.tmp 2) rfl _ rfl g hg1 ?_))
      refine (HD.out _ hf1).mono ?_
      rintro e w2 ⟨rfl, f2⟩
      have c14 := H14.out _ _ (hg1.fr f2 (by simp))
      go_wp2_with fail
      all_goals go_ret2
      all_goals exact ⟨by first | rfl | (congr 4; omega), hf1.trans f2⟩
  · have hv : exV g n = 0 := by unfold exV; rw [if_neg h0]
    have e0 : (drE g n != 0) = true := by simpa using h0
    rw [hv]
    generalize drE g n = E at *
    generalize drV g n = V at *
    have HD := Lib.hid hD
    clear hD h14 h0 hv hok
    go_enter Try.func14, Try.ntmps14
    go_wp2_with (first | (refine box_game rfl (.tmp 0) rfl g rfl ?_; intro w1 hg1 hz1 hf1) | (refine load_game rfl (.tmp 2) rfl _ rfl g hg1 ?_))
    refine (HD.out _ hf1).mono ?_
    rintro e w2 ⟨rfl, f2⟩
    go_wp2_with fail
    go_ret2
    exact ⟨rfl, hf1.trans f2⟩
theorem cnt_step (d : Nat) (a r : Int) (ha0 : 0 ≤ a) (ha1 : a ≤ 1439) (hr0 : 0 ≤ r) (hr1 : r < 10080) (k : Nat) (hk : k < 7) :
    cntD d (min (k + 1) (upD a r)) = cntD d (min k (upD a r)) + if dB d k = true ∧ (k : Int) * 1440 + a ≤ r then 1 else 0 := by
  have hiff : k < upD a r ↔ (k : Int) * 1440 + a ≤ r := by unfold upD; omega
  by_cases h : k < upD a r
  · rw [show min (k + 1) (upD a r) = k + 1 by omega, show min k (upD a r) = k by omega, cntD]
    have := hiff.1 h
    by_cases hb : dB d k = true
    · rw [if_pos hb, if_pos ⟨hb, this⟩]
    · rw [if_neg hb, if_neg (fun h => hb h.1)]
  · rw [show min (k + 1) (upD a r) = upD a r by omega, show min k (upD a r) = upD a r by omega, if_neg (fun h2 => h (hiff.2 h2.2)), Nat.add_zero]
theorem cnt_le (d : Nat) : ∀ k, cntD d k ≤ k := by
  intro k
  induction k with
  | zero => exact Nat.le_refl _
  | succ k ih => rw [cntD]; split <;> omega
set_option maxRecDepth 20000 in
set_option maxHeartbeats 4000000 in
theorem until_any (g : Gm) (d : Nat) (u : Int) (w : World) (hd : DF g d) (hu0 : 0 ≤ u) (hu1 : u ≤ 1073743264) :
    Calls Try.prog 30 #[g.val, .int .i64 u] w fun e w' => e = .returned (.int .i64 ((untV d g.at_ u : Nat) : Int)) ∧ Fr [] w w' := by
  have hO := fun w => ones_any d w hd.hd
  have hp7 := pc_le hd.hd
  have h10 : ∀ w b, GmAt w b g → w.cell? ⟨b, 10, none⟩ = some (.int .i64 (d : Int)) := fun w b h => by rw [← hd.days]; exact h.cell 10 _ rfl
  have h11 : ∀ w b, GmAt w b g → w.cell? ⟨b, 11, none⟩ = some (.int .i64 g.at_) := fun w b h => h.cell 11 _ rfl
  have a0 := hd.a0
  have a1 := hd.a1
  have hd1 := hd.hd
  obtain ⟨r, hr⟩ : ∃ r, r = u % 10080 := ⟨_, rfl⟩
  obtain ⟨W, hW⟩ : ∃ W, W = (u / 10080).toNat := ⟨_, rfl⟩
  have hr0 : 0 ≤ r := by omega
  have hr1 : r < 10080 := by omega
  have hW1 : W ≤ 106523 := by omega
  have hq : u / 10080 = (W : Int) := by omega
  have hq2 : u.tdiv 10080 = (W : Int) := by rw [Int.tdiv_eq_ediv_of_nonneg hu0, hq]
  have hm : u % 10080 = r := hr.symm
  have hm2 : u.tmod 10080 = r := by rw [Int.tmod_eq_emod_of_nonneg hu0, hm]
  have hst := cnt_step d g.at_ r a0 a1 hr0 hr1
  have hle := cnt_le d
  have hfin : untV d g.at_ u = W * pcD d + cntD d (min 7 (upD g.at_ r)) := by
    unfold untV
    rw [← hW, ← hr]
    congr 2
    unfold upD; omega
  rw [hfin]
  have hdw : IntKind.u64.wrap (d : Int) = (d : Int) := IntWalk.u64_in _ (by omega)
  generalize g.at_ = a at *
  generalize pcD d = q at *
  generalize upD a r = U at *
  have hwq : (W : Int) * (q : Int) ≤ 745661 := by
    have : W * q ≤ 106523 * 7 := Nat.mul_le_mul hW1 hp7
    have h2 : ((W * q : Nat) : Int) ≤ 745661 := by omega
    push_cast at h2; exact h2
  have hwq0 : 0 ≤ (W : Int) * (q : Int) := by
    have : 0 ≤ ((W * q : Nat) : Int) := by omega
    push_cast at this; exact this
  have HO := Lib.hid hO
  have H10 := Lib.hid h10
  have H11 := Lib.hid h11
  have HST := Lib.hid hst
  have HLE := Lib.hid hle
  clear hO h10 h11 hst hle hfin hd hr hW
  go_enter Try.func30, Try.ntmps30
  go_upto_region 1 with (refine box_game rfl (.tmp 0) rfl g rfl ?_; intro w1 hg1 hz1 hf1)
  have c10 := H10.out _ _ hg1
  go_wp2_with fail
  refine (HO.out _).mono ?_
  rintro e w2 ⟨rfl, rfl⟩
  have HG1 := Lib.hid hg1
  have HF1 := Lib.hid hf1
  clear hg1 hf1 c10
  go_wp2_with fail
  go_loopw [15, 5] (fun i s wr => ∃ k c : Nat, k ≤ 7 ∧ c ≤ 7 ∧ i = .int .i64 k ∧ s = .int .i64 ((W : Int) * (q : Int) + (c : Int)) ∧ Hid (c = cntD d (min k U)) ∧ w1 = wr) (fun i _ _ => 7 - (intOf i).toNat)
  case atStart => exact ⟨0, 0, by omega, by omega, rfl, by simp, Lib.hid (by simp [cntD]), rfl⟩
  case round =>
    obtain ⟨k, c, hk, hc7, rfl, rfl, HC, rfl⟩ := hrel
    by_cases h7 : k < 7
    · have dk : decide ((k : Int) < 7) = true := by simp; omega
      have c10 := H10.out _ _ HG1.out
      have c11 := H11.out _ _ HG1.out
      have hst := HST.out k h7
      have hle := HLE.out (min (k + 1) U)
      rw [← HC.out] at hst
      have hw5 : ((5 : Int) + (k : Int)) % 7 = (((k + 5) % 7 : Nat) : Int) := by omega
      have hw6 : ((5 : Int) + (k : Int)).tmod 7 = (((k + 5) % 7 : Nat) : Int) := by rw [Int.tmod_eq_emod_of_nonneg (by omega), hw5]
      have hbit := dbit d k hd1
      have hy6 : (k + 5) % 7 ≤ 6 := by omega
      generalize (k + 5) % 7 = y at *
      by_cases hb : dB d k = true
      · rw [hb] at hbit
        by_cases ht : (k : Int) * 1440 + a ≤ r
        · have d2 : decide ((k : Int) * 1440 + a ≤ r) = true := by simpa using ht
          rw [if_pos ⟨hb, ht⟩] at hst
          have hc6 : c + 1 ≤ 7 := by omega
          have HST2 := Lib.hid hst
          clear hst hle
          go_wp2_with fail
          go_roundw
          case rel => exact ⟨k + 1, c + 1, by omega, hc6, by go_num, by go_num, Lib.hid (by rw [HST2.out]), by trivial⟩
          case measure => simp [intOf] <;> omega
        · have d2 : decide ((k : Int) * 1440 + a ≤ r) = false := by simpa using ht
          rw [if_neg (fun h => ht h.2)] at hst
          have HST2 := Lib.hid hst
          clear hst hle
          go_wp2_with fail
          go_roundw
          case rel => exact ⟨k + 1, c, by omega, hc7, by go_num, rfl, Lib.hid (by rw [HST2.out]; rfl), by trivial⟩
          case measure => simp [intOf] <;> omega
      · rw [if_neg (fun h => hb h.1)] at hst
        rw [Bool.not_eq_true] at hb
        rw [hb] at hbit
        have HST2 := Lib.hid hst
        clear hst hle
        go_wp2_with fail
        go_roundw
        case rel => exact ⟨k + 1, c, by omega, hc7, by go_num, rfl, Lib.hid (by rw [HST2.out]; rfl), by trivial⟩
        case measure => simp [intOf] <;> omega
    · obtain rfl : k = 7 := by omega
      have hcc := HC.out
      subst hcc
      have dk : decide (((7 : Nat) : Int) < 7) = false := by simp
      go_wp2_with fail
      go_ret
      exact ⟨by push_cast; rfl, HF1.out⟩
end Go.Proofs.Ytijdlggoaianbaa
