/-
  mode and Covers in the reference of layer 12: which tiers cover others. Conditions: both tiers are right by themselves.
-/
import Derived.Test.YtijdlggoaianbaaCovers
set_option linter.unusedVariables false
namespace Go.Proofs.Ytijdlggoaianbaa
open Go.RowKit
set_option maxRecDepth 20000 in
set_option maxHeartbeats 4000000 in
theorem rmode_any (g : Gm) (t : Ti) (w : World) (ht : 1 ≤ t.mode ∧ t.mode ≤ 4) : Calls Try.prog 95 #[g.val, t.val] w fun e w' => e = .returned (.int .i64 (effM g t)) ∧ Fr [] w w' := by
  obtain ⟨E, hE⟩ : ∃ E, E = effM g t := ⟨_, rfl⟩
  rw [← hE]
  have hE2 : E = if (decide (2 < t.mode) = true ∧ (t.main == g.main) = true) then 1 else t.mode := by
    rw [hE]; unfold effM; simp only [decide_eq_true_eq, beq_iff_eq]
    repeat' split
    all_goals omega
  clear hE ht
  obtain ⟨name, kind, price, main, of_, bonus, bonusof, extra, draws, system, days, at_, close, cancel, expiry, pool, reserve, round, cap, rolls, aa, ac, addons, ta, tc, tiers⟩ := g
  obtain ⟨tmain, tbonus, textra, tmode, tkind, tvalue⟩ := t
  simp only [Gm.val, Ti.val]
  simp only at hE2
  have hF : ∀ o o', Fr [] w ((w.alloc o).alloc o') := fun o o' => ((Fr.refl [] w).alloc o).alloc o'
  have HF := Lib.hid hF
  have HV := Lib.hid hE2
  clear hF hE2
  cases i1 : decide (2 < tmode)
  all_goals
    cases i2 : (tmain == main)
    all_goals
      go_enter Try.func95, Try.ntmps95
      go_wp2_with fail
      go_ret
      exact ⟨ret_i (by rw [HV.out]; simp [*]), HF.out _ _⟩
/-- a tier that is right by itself has a mode from 1 to 4 in a game of digits; in box mode it has no number -/
theorem tiE_mode {g : Gm} {t : Ti} (hk : g.kind = 2) (h : tiE g t = 0) : 1 ≤ t.mode ∧ t.mode ≤ 4 ∧ (t.mode = 2 → t.main = 0) := by
  unfold tiE hitE dgE inR at h
  rw [if_pos hk] at h
  simp only [decide_eq_false_iff_not] at h
  repeat' split at h
  all_goals omega
theorem rcov_eq {g : Gm} {a b : Ti} (hk : g.kind = 2) (ha : tiE g a = 0) (hb : tiE g b = 0) :
    covB g a b = if (effM g b == 1) = true then true else if (effM g a == effM g b) = true then (if (effM g a == 2) = true then true else decide (a.main ≤ b.main)) else false := by
  have h1 := tiE_mode hk ha
  have h2 := tiE_mode hk hb
  have e1 : effM g a = 2 → a.mode = 2 := by unfold effM; split <;> omega
  have e2 : effM g b = 2 → b.mode = 2 := by unfold effM; split <;> omega
  unfold covB
  rw [if_neg (by omega)]
  simp only [beq_iff_eq]
  repeat' split
  all_goals simp only [decide_eq_true_eq, decide_eq_false_iff_not, decide_eq_decide]
  all_goals omega
set_option maxRecDepth 20000 in
set_option maxHeartbeats 4000000 in
theorem rcov_c (g : Gm) (a b : Ti) (w : World) (hk : g.kind = 1) : Calls Try.prog 92 #[g.val, a.val, b.val] w fun e w' => e = .returned (.bool (covB g a b)) ∧ Fr [] w w' := by
  obtain ⟨E, hE⟩ : ∃ E, E = covB g a b := ⟨_, rfl⟩
  rw [← hE]
  simp only [covB] at hE
  have dk : (g.kind == 1) = true := by simpa using hk
  rw [if_pos hk] at hE
  clear hk
  obtain ⟨am, ab, ae, ao, ak, av⟩ := a
  obtain ⟨bm, bb, be, bo, bk, bv⟩ := b
  simp only at hE
  simp only [Ti.val]
  have hq : (E = true ∧ decide (am ≤ bm) = true ∧ decide (ab ≤ bb) = true ∧ decide (ae ≤ be) = true) ∨ (E = false ∧ decide (am ≤ bm) = false) ∨ (E = false ∧ decide (am ≤ bm) = true ∧ decide (ab ≤ bb) = false) ∨ (E = false ∧ decide (am ≤ bm) = true ∧ decide (ab ≤ bb) = true ∧ decide (ae ≤ be) = false) := by
    rw [hE]; simp only [decide_eq_true_eq, decide_eq_false_iff_not]; omega
  clear hE
  rcases hq with ⟨rfl, q1, q2, q3⟩ | ⟨rfl, q1⟩ | ⟨rfl, q1, q2⟩ | ⟨rfl, q1, q2, q3⟩
  all_goals
    go_enter Try.func92, Try.ntmps92
    go_wp2_with (refine box_game rfl (.tmp 0) rfl g rfl ?_; intro w1 hg1 hz1 hf1; have c1 := hg1.cell 1 _ rfl)
    go_ret
    exact ⟨rfl, (hf1.alloc _).alloc _⟩
theorem at_range {w : World} {b : Nat} {cs : List Value} (h : w.rangeAt b 0 cs) (i : Nat) (v : Value) (hv : cs[i]? = some v) : w.cell? ⟨b, i, none⟩ = some v := by
  have := h i v hv
  rwa [Nat.zero_add] at this
set_option maxRecDepth 20000 in
set_option maxHeartbeats 4000000 in
theorem rcov_d (g : Gm) (a b : Ti) (w : World) (hk : g.kind = 2) (ha : tiE g a = 0) (hb : tiE g b = 0) : Calls Try.prog 92 #[g.val, a.val, b.val] w fun e w' => e = .returned (.bool (covB g a b)) ∧ Fr [] w w' := by
  rw [rcov_eq hk ha hb]
  have dk : (g.kind == 1) = false := by simp; omega
  have hA := fun w => rmode_any g a w ⟨(tiE_mode hk ha).1, (tiE_mode hk ha).2.1⟩
  have hB := fun w => rmode_any g b w ⟨(tiE_mode hk hb).1, (tiE_mode hk hb).2.1⟩
  generalize effM g a = M1 at *
  generalize effM g b = M2 at *
  have HA := Lib.hid hA
  have HB := Lib.hid hB
  clear hA hB hk ha hb
  obtain ⟨am, ab, ae, ao, ak, av⟩ := a
  obtain ⟨bm, bb, be, bo, bk, bv⟩ := b
  simp only [Ti.val] at HA HB ⊢
  go_enter Try.func92, Try.ntmps92
  go_wp2_with (first | (refine box_game rfl (.tmp 0) rfl g rfl ?_; intro w1 hg1 hz1 hf1; have c1 := hg1.cell 1 _ rfl) | (refine load_game rfl (.tmp 3) rfl _ rfl g (hg1.fr (((Fr.refl [] w1).alloc _).alloc _) (by simp)) ?_))
  refine (HA.out _).mono ?_
  rintro e w3 ⟨rfl, f3⟩
  have hg3 := hg1.fr ((((Fr.refl [] w1).alloc (.cells #[.int .i64 am, .int .i64 ab, .int .i64 ae, .int .i64 ao, .int .i64 ak, .int .i64 av] 66)).alloc (.cells #[.int .i64 bm, .int .i64 bb, .int .i64 be, .int .i64 bo, .int .i64 bk, .int .i64 bv] 66)).trans f3) (by simp)
  have hF3 : Fr [] w w3 := ((hf1.alloc _).alloc _).trans f3
  have ra := Fr.range ((Fr.refl [] _).alloc (.cells #[.int .i64 bm, .int .i64 bb, .int .i64 be, .int .i64 bo, .int .i64 bk, .int .i64 bv] 66)) (range_at hz1 [.int .i64 am, .int .i64 ab, .int .i64 ae, .int .i64 ao, .int .i64 ak, .int .i64 av] 66)
  have ra3 := f3.range ra
  have rb := range_at (w := w1.alloc (.cells #[.int .i64 am, .int .i64 ab, .int .i64 ae, .int .i64 ao, .int .i64 ak, .int .i64 av] 66)) (n := w.heap.size + 1 + 1) (by simp; omega) [.int .i64 bm, .int .i64 bb, .int .i64 be, .int .i64 bo, .int .i64 bk, .int .i64 bv] 66
  have rb3 := f3.range rb
  have a0 := at_range ra3 0 _ rfl
  have b0 := at_range rb3 0 _ rfl
  have b1 := at_range rb3 1 _ rfl
  have b2 := at_range rb3 2 _ rfl
  have b3 := at_range rb3 3 _ rfl
  have b4 := at_range rb3 4 _ rfl
  have b5 := at_range rb3 5 _ rfl
  clear ra ra3 rb rb3 f3 hg1 c1
  go_wp2_with (refine load_game rfl (.tmp 3) rfl _ rfl g hg3 ?_)
  refine (HB.out _).mono ?_
  rintro e w4 ⟨rfl, f4⟩
  have d0 := f4.cell_some a0 (by simp)
  have e0 := f4.cell_some b0 (by simp)
  have hF4 := hF3.trans f4
  clear a0 b0 b1 b2 b3 b4 b5 f4 hg3
  go_wp2_with fail
  all_goals
    go_ret
    exact ⟨ret_b (by simp [*]), hF4⟩
theorem rcov_any (g : Gm) (a b : Ti) (w : World) (hk : g.kind = 1 ∨ g.kind = 2) (ha : tiE g a = 0) (hb : tiE g b = 0) : Calls Try.prog 92 #[g.val, a.val, b.val] w fun e w' => e = .returned (.bool (covB g a b)) ∧ Fr [] w w' := by
  rcases hk with h | h
  · exact rcov_c g a b w h
  · exact rcov_d g a b w h ha hb
end Go.Proofs.Ytijdlggoaianbaa
