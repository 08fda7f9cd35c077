/-
  The fields of a game (layer 12): badMatrix, badTerms: is one of them out of range?
-/
import Derived.Test.YtijdlggoaianbaaGame
set_option linter.unusedVariables false
namespace Go.Proofs.Ytijdlggoaianbaa
open Go.RowKit
def inR (n lo hi : Int) : Bool := decide (lo ≤ n ∧ n ≤ hi)
theorem inR_yes {n lo hi : Int} (h1 : lo ≤ n) (h2 : n ≤ hi) : inR n lo hi = true := by simp [inR]; omega
theorem inR_lo {n lo hi : Int} (h : n < lo) : inR n lo hi = false := by simp [inR]; omega
theorem inR_hi {n lo hi : Int} (h : hi < n) : inR n lo hi = false := by simp [inR]; omega
theorem inR_of {n lo hi : Int} (h : inR n lo hi = true) : lo ≤ n ∧ n ≤ hi := by simpa [inR] using h
set_option maxHeartbeats 400000 in
theorem within_any (n lo hi : Int) (w : World) :
    Calls Try.prog 50 #[.int .i64 n, .int .i64 lo, .int .i64 hi] w fun e w' => e = .returned (.bool (inR n lo hi)) ∧ w = w' := by
  by_cases h1 : lo ≤ n
  · have d1 : decide (lo ≤ n) = true := by simpa using h1
    by_cases h2 : n ≤ hi
    · have d2 : decide (n ≤ hi) = true := by simpa using h2
      rw [inR_yes h1 h2]
      go_enter Try.func50, Try.ntmps50
      go_wp2_with fail
      go_ret
      exact ⟨rfl, rfl⟩
    · have d2 : decide (n ≤ hi) = false := by simpa using h2
      rw [inR_hi (by omega)]
      go_enter Try.func50, Try.ntmps50
      go_wp2_with fail
      go_ret
      exact ⟨rfl, rfl⟩
  · have d1 : decide (lo ≤ n) = false := by simpa using h1
    rw [inR_lo (by omega)]
    go_enter Try.func50, Try.ntmps50
    go_wp2_with fail
    go_ret
    exact ⟨rfl, rfl⟩
/-- a message: empty unless something is bad -/
def MsgPost (bad : Bool) (w : World) (e : Ending) (w' : World) : Prop := ∃ S : ByteArray, e = .returned (.string S) ∧ (S.size = 0 ↔ bad = false) ∧ Fr [] w w'
theorem msg_bad {bad : Bool} {w w' : World} (S : ByteArray) (hS : S.size ≠ 0) (h : bad = true) (hf : Fr [] w w') : MsgPost bad w (.returned (.string S)) w' := ⟨S, rfl, by simp [hS, h], hf⟩
theorem msg_ok {bad : Bool} {w w' : World} (S : ByteArray) (hS : S.size = 0) (h : bad = false) (hf : Fr [] w w') : MsgPost bad w (.returned (.string S)) w' := ⟨S, rfl, by simp [hS, h], hf⟩
def badT (g : Gm) : Bool := !(inR g.days 1 127 && inR g.at_ 0 1439 && inR g.close 0 1440 && inR g.cancel 0 10080 && inR g.expiry 1 3660 && inR g.pool 0 10000 && inR g.reserve 0 10000 && inR g.round 1 1000000 && inR g.cap 0 1000000000000 && inR g.rolls 0 64)
set_option maxRecDepth 20000 in
set_option maxHeartbeats 2000000 in
theorem badTerms_any (g : Gm) (w : World) : Calls Try.prog 33 #[g.val] w (MsgPost (badT g) w) := by
  have hB : badT g = !(inR g.days 1 127 && inR g.at_ 0 1439 && inR g.close 0 1440 && inR g.cancel 0 10080 && inR g.expiry 1 3660 && inR g.pool 0 10000 && inR g.reserve 0 10000 && inR g.round 1 1000000 && inR g.cap 0 1000000000000 && inR g.rolls 0 64) := rfl
  obtain ⟨name, kind, price, main, of_, bonus, bonusof, extra, draws, system, days, at_, close, cancel, expiry, pool, reserve, round, cap, rolls, aa, ac, addons, ta, tc, tiers⟩ := g
  generalize badT _ = bad at *
  simp only at hB
  have HB := Lib.hid hB
  clear hB
  simp only [Gm.val]
  have hF : ∀ o, Fr [] w (w.alloc o) := fun o => (Fr.refl [] w).alloc o
  have HF := Lib.hid hF
  clear hF
  go_enter Try.func33, Try.ntmps33
  go_wp2_with (go_at_call 50; refine (within_any _ _ _ _).mono ?_; rintro e w' ⟨rfl, rfl⟩)
  all_goals
    go_ret
    first
    | exact msg_bad _ (by decide) (by rw [HB.out]; simp [*]) (HF.out _)
    | exact msg_ok _ (by decide) (by rw [HB.out]; simp [*]) (HF.out _)
/-- is a field from price to system out of range? -/
def badM (g : Gm) : Bool := !(inR g.price 1 1000000 && inR g.main 1 10 && inR g.of_ (if g.kind = 2 then 2 else g.main) (if g.kind = 2 then 10 else 80) && inR g.bonus 0 (if g.kind = 2 then 0 else 4) &&
  inR g.bonusof (if g.bonus = 0 then 0 else g.bonus) (if g.bonus = 0 then 0 else 80) && inR g.extra 0 (if g.kind = 2 then 0 else 4) && decide (g.kind = 2 ∨ g.main + g.extra ≤ g.of_) && inR g.draws 1 32 &&
  inR g.system g.main (if g.kind = 2 then g.main else if g.of_ < 14 then g.of_ else 14))
set_option maxRecDepth 20000 in
set_option maxHeartbeats 4000000 in
theorem badMatrix_digits (g : Gm) (w : World) (hkind : g.kind = 2) : Calls Try.prog 32 #[g.val] w (MsgPost (badM g) w) := by
  obtain ⟨name, kind, price, main, of_, bonus, bonusof, extra, draws, system, days, at_, close, cancel, expiry, pool, reserve, round, cap, rolls, aa, ac, addons, ta, tc, tiers⟩ := g
  obtain ⟨bad, hb⟩ : ∃ bad, bad = badM ⟨name, kind, price, main, of_, bonus, bonusof, extra, draws, system, days, at_, close, cancel, expiry, pool, reserve, round, cap, rolls, aa, ac, addons, ta, tc, tiers⟩ := ⟨_, rfl⟩
  rw [← hb]
  simp only [badM] at hb
  simp only at hkind
  simp only [Gm.val]
  have hF : ∀ o, Fr [] w (w.alloc o) := fun o => (Fr.refl [] w).alloc o
  have HF := Lib.hid hF
  clear hF
  have hbo : (bonus = 0 ∧ (bonus != 0) = false) ∨ (¬ bonus = 0 ∧ (bonus != 0) = true) := by by_cases h : bonus = 0 <;> simp [h]
  have hex : (inR main 1 10 = true ∧ inR extra 0 0 = true ∧ 1 ≤ main ∧ main ≤ 10 ∧ 0 ≤ extra ∧ extra ≤ 0) ∨ inR main 1 10 = false ∨ (inR main 1 10 = true ∧ inR extra 0 0 = false) := by
    cases h1 : inR main 1 10
    · exact .inr (.inl rfl)
    · cases h2 : inR extra 0 0
      · exact .inr (.inr ⟨rfl, rfl⟩)
      · have := inR_of h1
        have := inR_of h2
        exact .inl ⟨rfl, rfl, by omega, by omega, by omega, by omega⟩
  have hof : of_ < 14 ∨ of_ = 14 ∨ 14 < of_ := by omega
  simp only [hkind, if_true, true_or, decide_true, Bool.and_true] at hb
  subst hkind
  rcases hbo with ⟨hb1, hb2⟩ | ⟨hb1, hb2⟩
  · simp only [hb1, if_true] at hb
    subst hb1
    rcases hex with ⟨x1, x2, x3, x4, x5, x6⟩ | x1 | ⟨x1, x2⟩
    all_goals
      rcases hof with ho | ho | ho
      all_goals
        have HB := Lib.hid hb
        clear hb
        go_enter Try.func32, Try.ntmps32
        go_wp2_with (go_at_call 50; refine (within_any _ _ _ _).mono ?_; rintro e w' ⟨rfl, rfl⟩)
        all_goals
          go_ret
          first
          | exact msg_bad _ (by decide) (by rw [HB.out]; simp [*]) (HF.out _)
          | exact msg_ok _ (by decide) (by rw [HB.out]; simp [*]) (HF.out _)
  · simp only [hb1, if_false] at hb
    clear hb1
    rcases hex with ⟨x1, x2, x3, x4, x5, x6⟩ | x1 | ⟨x1, x2⟩
    all_goals
      rcases hof with ho | ho | ho
      all_goals
        have HB := Lib.hid hb
        clear hb
        go_enter Try.func32, Try.ntmps32
        go_wp2_with (go_at_call 50; refine (within_any _ _ _ _).mono ?_; rintro e w' ⟨rfl, rfl⟩)
        all_goals
          go_ret
          first
          | exact msg_bad _ (by decide) (by rw [HB.out]; simp [*]) (HF.out _)
          | exact msg_ok _ (by decide) (by rw [HB.out]; simp [*]) (HF.out _)
set_option maxRecDepth 20000 in
set_option maxHeartbeats 4000000 in
theorem badMatrix_choose (g : Gm) (w : World) (hkind : ¬ g.kind = 2) : Calls Try.prog 32 #[g.val] w (MsgPost (badM g) w) := by
  obtain ⟨name, kind, price, main, of_, bonus, bonusof, extra, draws, system, days, at_, close, cancel, expiry, pool, reserve, round, cap, rolls, aa, ac, addons, ta, tc, tiers⟩ := g
  obtain ⟨bad, hb⟩ : ∃ bad, bad = badM ⟨name, kind, price, main, of_, bonus, bonusof, extra, draws, system, days, at_, close, cancel, expiry, pool, reserve, round, cap, rolls, aa, ac, addons, ta, tc, tiers⟩ := ⟨_, rfl⟩
  rw [← hb]
  simp only [badM] at hb
  simp only at hkind
  simp only [Gm.val]
  have hF : ∀ o, Fr [] w (w.alloc o) := fun o => (Fr.refl [] w).alloc o
  have HF := Lib.hid hF
  clear hF
  have hbo : (bonus = 0 ∧ (bonus != 0) = false) ∨ (¬ bonus = 0 ∧ (bonus != 0) = true) := by by_cases h : bonus = 0 <;> simp [h]
  have hex : (inR main 1 10 = true ∧ inR extra 0 4 = true ∧ 1 ≤ main ∧ main ≤ 10 ∧ 0 ≤ extra ∧ extra ≤ 4) ∨ inR main 1 10 = false ∨ (inR main 1 10 = true ∧ inR extra 0 4 = false) := by
    cases h1 : inR main 1 10
    · exact .inr (.inl rfl)
    · cases h2 : inR extra 0 4
      · exact .inr (.inr ⟨rfl, rfl⟩)
      · have := inR_of h1
        have := inR_of h2
        exact .inl ⟨rfl, rfl, by omega, by omega, by omega, by omega⟩
  have hk2 : (kind == 2) = false := by simpa using hkind
  simp only [hkind, if_false, false_or] at hb
  have hof : (of_ < 14 ∧ (if of_ < 14 then of_ else 14) = of_) ∨ (of_ = 14 ∧ (if of_ < 14 then of_ else 14) = 14) ∨ (14 < of_ ∧ (if of_ < 14 then of_ else 14) = 14) := by
    rcases (show of_ < 14 ∨ of_ = 14 ∨ 14 < of_ by omega) with h | h | h
    · exact .inl ⟨h, if_pos h⟩
    · exact .inr (.inl ⟨h, if_neg (by omega)⟩)
    · exact .inr (.inr ⟨h, if_neg (by omega)⟩)
  clear hkind
  rcases hbo with ⟨hb1, hb2⟩ | ⟨hb1, hb2⟩
  · simp only [hb1, if_true] at hb
    subst hb1
    rcases hex with ⟨x1, x2, x3, x4, x5, x6⟩ | x1 | ⟨x1, x2⟩
    all_goals
      rcases hof with ⟨ho, hm⟩ | ⟨ho, hm⟩ | ⟨ho, hm⟩
      all_goals
        rw [hm] at hb
        clear hm
        have HB := Lib.hid hb
        clear hb
        go_enter Try.func32, Try.ntmps32
        go_wp2_with (go_at_call 50; refine (within_any _ _ _ _).mono ?_; rintro e w' ⟨rfl, rfl⟩)
        all_goals
          go_ret
          first
          | exact msg_bad _ (by decide) (by rw [HB.out]; simp [*]) (HF.out _)
          | exact msg_ok _ (by decide) (by rw [HB.out]; simp [*]) (HF.out _)
  · simp only [hb1, if_false] at hb
    clear hb1
    rcases hex with ⟨x1, x2, x3, x4, x5, x6⟩ | x1 | ⟨x1, x2⟩
    all_goals
      rcases hof with ⟨ho, hm⟩ | ⟨ho, hm⟩ | ⟨ho, hm⟩
      all_goals
        rw [hm] at hb
        clear hm
        have HB := Lib.hid hb
        clear hb
        go_enter Try.func32, Try.ntmps32
        go_wp2_with (go_at_call 50; refine (within_any _ _ _ _).mono ?_; rintro e w' ⟨rfl, rfl⟩)
        all_goals
          go_ret
          first
          | exact msg_bad _ (by decide) (by rw [HB.out]; simp [*]) (HF.out _)
          | exact msg_ok _ (by decide) (by rw [HB.out]; simp [*]) (HF.out _)
theorem badMatrix_any (g : Gm) (w : World) : Calls Try.prog 32 #[g.val] w (MsgPost (badM g) w) := by
  by_cases h : g.kind = 2
  · exact badMatrix_digits g w h
  · exact badMatrix_choose g w h
end Go.Proofs.Ytijdlggoaianbaa
