/-
  Tiers (layer 12): checkChoose, checkDigits, effectiveMode, covers, checkTier: the first error of a tier by itself, and which tiers cover others.
-/
import Derived.Test.YtijdlggoaianbaaAddonE
import Derived.Deep.RegionHeld3
import Derived.Deep.MidRow
import Derived.BigQuiet
set_option linter.unusedVariables false
namespace Go.Proofs.Ytijdlggoaianbaa
open Go.RowKit
def Ti.val (t : Ti) : Value := .agg #[.int .i64 t.main, .int .i64 t.bonus, .int .i64 t.extra, .int .i64 t.mode, .int .i64 t.kind, .int .i64 t.value]
def chE (g : Gm) (t : Ti) : Int :=
  if t.mode ≠ 0 then 7 else if inR t.main 0 g.main = false ∨ inR t.bonus 0 g.bonus = false ∨ inR t.extra 0 g.extra = false then 2 else if t.main = 0 ∧ t.bonus = 0 ∧ t.extra = 0 then 2 else 0
def dgE (g : Gm) (t : Ti) : Int :=
  if t.mode = 1 ∨ t.mode = 2 then (if t.bonus ≠ 0 ∨ t.extra ≠ 0 ∨ inR t.main 0 0 = false then 2 else 0)
  else if t.mode = 3 ∨ t.mode = 4 then (if t.bonus ≠ 0 ∨ t.extra ≠ 0 ∨ inR t.main 1 g.main = false then 2 else 0) else 7
def hitE (g : Gm) (t : Ti) : Int := if g.kind = 2 then dgE g t else chE g t
/-- the first error of a tier by itself -/
def tiE (g : Gm) (t : Ti) : Int :=
  if hitE g t ≠ 0 then hitE g t else if t.kind ≠ 1 ∧ t.kind ≠ 2 ∧ t.kind ≠ 3 then 7 else if inR t.value 0 1000000000 = false then 2 else 0
def effM (g : Gm) (t : Ti) : Int := if (t.mode = 3 ∨ t.mode = 4) ∧ t.main = g.main then 1 else t.mode
def covB (g : Gm) (a b : Ti) : Bool :=
  if g.kind = 1 then decide (a.main ≤ b.main ∧ a.bonus ≤ b.bonus ∧ a.extra ≤ b.extra) else decide (effM g b = 1 ∨ (effM g a = effM g b ∧ a.main ≤ b.main))
theorem ret_b {a b : Bool} (h : a = b) : Ending.returned (.bool a) = .returned (.bool b) := by rw [h]
set_option maxRecDepth 20000 in
set_option maxHeartbeats 4000000 in
theorem choose_any (g : Gm) (t : Ti) (w : World) : Calls Try.prog 72 #[g.val, t.val] w fun e w' => e = .returned (.int .i64 (chE g t)) ∧ Fr [] w w' := by
  obtain ⟨E, hE⟩ : ∃ E, E = chE g t := ⟨_, rfl⟩
  rw [← hE]
  simp only [chE] at hE
  obtain ⟨name, kind, price, main, of_, bonus, bonusof, extra, draws, system, days, at_, close, cancel, expiry, pool, reserve, round, cap, rolls, aa, ac, addons, ta, tc, tiers⟩ := g
  obtain ⟨tmain, tbonus, textra, tmode, tkind, tvalue⟩ := t
  simp only [Gm.val, Ti.val]
  simp only at hE
  have hF : ∀ o o', Fr [] w ((w.alloc o).alloc o') := fun o o' => ((Fr.refl [] w).alloc o).alloc o'
  have HF := Lib.hid hF
  clear hF
  by_cases hm : tmode = 0
  · have d1 : (tmode != 0) = false := by simpa using hm
    have hz : (tmain = 0 ∧ (tmain == 0) = true) ∨ (¬ tmain = 0 ∧ (tmain == 0) = false) := by by_cases h : tmain = 0 <;> simp [h]
    have hz2 : (tbonus = 0 ∧ (tbonus == 0) = true) ∨ (¬ tbonus = 0 ∧ (tbonus == 0) = false) := by by_cases h : tbonus = 0 <;> simp [h]
    have hz3 : (textra = 0 ∧ (textra == 0) = true) ∨ (¬ textra = 0 ∧ (textra == 0) = false) := by by_cases h : textra = 0 <;> simp [h]
    cases i1 : inR tmain 0 main
    · have hv : E = 2 := by rw [hE]; simp [hm, i1]
      have HV := Lib.hid hv
      clear hv hE hm hz hz2 hz3
      go_enter Try.func72, Try.ntmps72
      go_wp2_with (go_at_call 50; refine (within_any _ _ _ _).mono ?_; rintro e w' ⟨rfl, rfl⟩)
      go_ret
      exact ⟨ret_i HV.out.symm, HF.out _ _⟩
    · cases i2 : inR tbonus 0 bonus
      · have hv : E = 2 := by rw [hE]; simp [hm, i1, i2]
        have HV := Lib.hid hv
        clear hv hE hm hz hz2 hz3
        go_enter Try.func72, Try.ntmps72
        go_wp2_with (go_at_call 50; refine (within_any _ _ _ _).mono ?_; rintro e w' ⟨rfl, rfl⟩)
        go_ret
        exact ⟨ret_i HV.out.symm, HF.out _ _⟩
      · cases i3 : inR textra 0 extra
        · have hv : E = 2 := by rw [hE]; simp [hm, i1, i2, i3]
          have HV := Lib.hid hv
          clear hv hE hm hz hz2 hz3
          go_enter Try.func72, Try.ntmps72
          go_wp2_with (go_at_call 50; refine (within_any _ _ _ _).mono ?_; rintro e w' ⟨rfl, rfl⟩)
          go_ret
          exact ⟨ret_i HV.out.symm, HF.out _ _⟩
        · rcases hz with ⟨z1, y1⟩ | ⟨z1, y1⟩
          all_goals
            rcases hz2 with ⟨z2, y2⟩ | ⟨z2, y2⟩
            all_goals
              rcases hz3 with ⟨z3, y3⟩ | ⟨z3, y3⟩
              all_goals
                have hv : E = (if tmain = 0 ∧ tbonus = 0 ∧ textra = 0 then 2 else 0) := by rw [hE]; simp [hm, i1, i2, i3]
                simp only [z1, z2, z3, and_true, and_false, and_self, if_true, if_false] at hv
                have HV := Lib.hid hv
                clear hv hE hm z1 z2 z3
                go_enter Try.func72, Try.ntmps72
                go_wp2_with (go_at_call 50; refine (within_any _ _ _ _).mono ?_; rintro e w' ⟨rfl, rfl⟩)
                go_ret
                exact ⟨ret_i HV.out.symm, HF.out _ _⟩
  · have d1 : (tmode != 0) = true := by simpa using hm
    have hv : E = 7 := by rw [hE]; simp [hm]
    have HV := Lib.hid hv
    clear hv hE hm
    go_enter Try.func72, Try.ntmps72
    go_wp2_with fail
    go_ret
    exact ⟨ret_i HV.out.symm, HF.out _ _⟩
set_option maxRecDepth 20000 in
set_option maxHeartbeats 4000000 in
theorem digits_any (g : Gm) (t : Ti) (w : World) : Calls Try.prog 73 #[g.val, t.val] w fun e w' => e = .returned (.int .i64 (dgE g t)) ∧ Fr [] w w' := by
  obtain ⟨E, hE⟩ : ∃ E, E = dgE g t := ⟨_, rfl⟩
  rw [← hE]
  simp only [dgE] at hE
  obtain ⟨name, kind, price, main, of_, bonus, bonusof, extra, draws, system, days, at_, close, cancel, expiry, pool, reserve, round, cap, rolls, aa, ac, addons, ta, tc, tiers⟩ := g
  obtain ⟨tmain, tbonus, textra, tmode, tkind, tvalue⟩ := t
  simp only [Gm.val, Ti.val]
  simp only at hE
  have hF : ∀ o o', Fr [] w ((w.alloc o).alloc o') := fun o o' => ((Fr.refl [] w).alloc o).alloc o'
  have HF := Lib.hid hF
  clear hF
  have hz2 : (tbonus = 0 ∧ (tbonus != 0) = false) ∨ (¬ tbonus = 0 ∧ (tbonus != 0) = true) := by by_cases h : tbonus = 0 <;> simp [h]
  have hz3 : (textra = 0 ∧ (textra != 0) = false) ∨ (¬ textra = 0 ∧ (textra != 0) = true) := by by_cases h : textra = 0 <;> simp [h]
  have hq : tmode = 1 ∨ tmode = 2 ∨ tmode = 3 ∨ tmode = 4 ∨ (¬ tmode = 1 ∧ ¬ tmode = 2 ∧ ¬ tmode = 3 ∧ ¬ tmode = 4) := by omega
  rcases hq with rfl | rfl | rfl | rfl | ⟨q1, q2, q3, q4⟩
  · rcases hz2 with ⟨z2, y2⟩ | ⟨z2, y2⟩
    all_goals
      rcases hz3 with ⟨z3, y3⟩ | ⟨z3, y3⟩
      all_goals
        cases i1 : inR tmain 0 0
        all_goals
          have hv : E = (if ¬ tbonus = 0 ∨ ¬ textra = 0 ∨ inR tmain 0 0 = false then 2 else 0) := by rw [hE]; simp
          simp [z2, z3, i1] at hv
          have HV := Lib.hid hv
          clear hv hE z2 z3
          go_enter Try.func73, Try.ntmps73
          go_wp2_with (go_at_call 50; refine (within_any _ _ _ _).mono ?_; rintro e w' ⟨rfl, rfl⟩)
          go_ret
          exact ⟨ret_i HV.out.symm, HF.out _ _⟩
  · rcases hz2 with ⟨z2, y2⟩ | ⟨z2, y2⟩
    all_goals
      rcases hz3 with ⟨z3, y3⟩ | ⟨z3, y3⟩
      all_goals
        cases i1 : inR tmain 0 0
        all_goals
          have hv : E = (if ¬ tbonus = 0 ∨ ¬ textra = 0 ∨ inR tmain 0 0 = false then 2 else 0) := by rw [hE]; simp
          simp [z2, z3, i1] at hv
          have HV := Lib.hid hv
          clear hv hE z2 z3
          go_enter Try.func73, Try.ntmps73
          go_wp2_with (go_at_call 50; refine (within_any _ _ _ _).mono ?_; rintro e w' ⟨rfl, rfl⟩)
          go_ret
          exact ⟨ret_i HV.out.symm, HF.out _ _⟩
  · rcases hz2 with ⟨z2, y2⟩ | ⟨z2, y2⟩
    all_goals
      rcases hz3 with ⟨z3, y3⟩ | ⟨z3, y3⟩
      all_goals
        cases i1 : inR tmain 1 main
        all_goals
          have hv : E = (if ¬ tbonus = 0 ∨ ¬ textra = 0 ∨ inR tmain 1 main = false then 2 else 0) := by rw [hE]; simp
          simp [z2, z3, i1] at hv
          have HV := Lib.hid hv
          clear hv hE z2 z3
          go_enter Try.func73, Try.ntmps73
          go_wp2_with fail
          go_quiet (fail)
          go_wp2_with (go_at_call 50; refine (within_any _ _ _ _).mono ?_; rintro e w' ⟨rfl, rfl⟩)
          go_ret
          exact ⟨ret_i HV.out.symm, (HF.out _ _).drewN _⟩
  · rcases hz2 with ⟨z2, y2⟩ | ⟨z2, y2⟩
    all_goals
      rcases hz3 with ⟨z3, y3⟩ | ⟨z3, y3⟩
      all_goals
        cases i1 : inR tmain 1 main
        all_goals
          have hv : E = (if ¬ tbonus = 0 ∨ ¬ textra = 0 ∨ inR tmain 1 main = false then 2 else 0) := by rw [hE]; simp
          simp [z2, z3, i1] at hv
          have HV := Lib.hid hv
          clear hv hE z2 z3
          go_enter Try.func73, Try.ntmps73
          go_wp2_with fail
          go_quiet (fail)
          go_wp2_with (go_at_call 50; refine (within_any _ _ _ _).mono ?_; rintro e w' ⟨rfl, rfl⟩)
          go_ret
          exact ⟨ret_i HV.out.symm, (HF.out _ _).drewN _⟩
  · have e1 : (tmode == 1) = false := by simpa using q1
    have e2 : (tmode == 2) = false := by simpa using q2
    have e3 : (tmode == 3) = false := by simpa using q3
    have e4 : (tmode == 4) = false := by simpa using q4
    have hv : E = 7 := by rw [hE]; simp [q1, q2, q3, q4]
    have HV := Lib.hid hv
    clear hv hE q1 q2 q3 q4
    go_enter Try.func73, Try.ntmps73
    go_wp2_with fail
    go_ret
    exact ⟨ret_i HV.out.symm, HF.out _ _⟩
end Go.Proofs.Ytijdlggoaianbaa
