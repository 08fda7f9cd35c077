/-
  Tiers in the reference of layer 12: tier: the first error of a tier by itself. Conditions: the game's kind and fields are in range.
-/
import Derived.Test.YtijdlggoaianbaaRAddonE
import Derived.Test.YtijdlggoaianbaaTier2
set_option linter.unusedVariables false
namespace Go.Proofs.Ytijdlggoaianbaa
open Go.RowKit
def rtTail (t : Ti) : Int := if inR t.kind 1 3 = false then 7 else if inR t.value 0 1000000000 = false then 2 else 0
def rtC (g : Gm) (t : Ti) : Int :=
  if (t.mode != 0) = true then 7 else if inR t.main 0 g.main = false then 2 else if inR t.bonus 0 g.bonus = false then 2 else if inR t.extra 0 g.extra = false then 2
  else if (t.main + t.bonus + t.extra == 0) = true then 2 else rtTail t
def rtD (g : Gm) (t : Ti) : Int :=
  if inR t.mode 1 4 = false then 7 else if (t.bonus != 0) = true then 2 else if (t.extra != 0) = true then 2
  else if (t.mode == 3) = true then (if inR t.main 1 g.main = false then 2 else rtTail t) else if (t.mode == 4) = true then (if inR t.main 1 g.main = false then 2 else rtTail t)
  else if (t.main != 0) = true then 2 else rtTail t
theorem tail_eq (t : Ti) : (if t.kind ≠ 1 ∧ t.kind ≠ 2 ∧ t.kind ≠ 3 then (7 : Int) else if inR t.value 0 1000000000 = false then 2 else 0) = rtTail t := by
  unfold rtTail
  have h : (t.kind ≠ 1 ∧ t.kind ≠ 2 ∧ t.kind ≠ 3) ↔ inR t.kind 1 3 = false := by
    unfold inR; simp only [decide_eq_false_iff_not]; omega
  simp only [h]
theorem chE_eq (g : Gm) (t : Ti) : chE g t = if (t.mode != 0) = true then 7 else if inR t.main 0 g.main = false then 2 else if inR t.bonus 0 g.bonus = false then 2 else if inR t.extra 0 g.extra = false then 2
    else if (t.main + t.bonus + t.extra == 0) = true then 2 else 0 := by
  unfold chE inR
  simp only [decide_eq_false_iff_not, bne_iff_ne, beq_iff_eq]
  repeat' split
  all_goals omega
theorem tiE_c (g : Gm) (t : Ti) (hk : g.kind = 1) : tiE g t = rtC g t := by
  unfold tiE
  rw [tail_eq, show hitE g t = chE g t from if_neg (by omega), chE_eq]
  unfold rtC
  generalize (t.mode != 0) = b0
  generalize inR t.main 0 g.main = b1
  generalize inR t.bonus 0 g.bonus = b2
  generalize inR t.extra 0 g.extra = b3
  generalize (t.main + t.bonus + t.extra == 0) = b4
  cases b0 <;> cases b1 <;> cases b2 <;> cases b3 <;> cases b4 <;> simp
theorem dgE_eq (g : Gm) (t : Ti) : dgE g t = if inR t.mode 1 4 = false then 7 else if (t.bonus != 0) = true then 2 else if (t.extra != 0) = true then 2
    else if (t.mode == 3) = true then (if inR t.main 1 g.main = false then 2 else 0) else if (t.mode == 4) = true then (if inR t.main 1 g.main = false then 2 else 0)
    else if (t.main != 0) = true then 2 else 0 := by
  unfold dgE inR
  simp only [decide_eq_false_iff_not, bne_iff_ne, beq_iff_eq]
  repeat' split
  all_goals omega
theorem tiE_d (g : Gm) (t : Ti) (hk : g.kind = 2) : tiE g t = rtD g t := by
  unfold tiE
  rw [tail_eq, show hitE g t = dgE g t from if_pos hk, dgE_eq]
  unfold rtD
  generalize inR t.mode 1 4 = b0
  generalize (t.bonus != 0) = b1
  generalize (t.extra != 0) = b2
  generalize (t.mode == 3) = b3
  generalize (t.mode == 4) = b4
  generalize inR t.main 1 g.main = b5
  generalize (t.main != 0) = b6
  cases b0 <;> cases b1 <;> cases b2 <;> cases b3 <;> cases b4 <;> cases b5 <;> cases b6 <;> simp
set_option maxRecDepth 20000 in
set_option maxHeartbeats 4000000 in
theorem rtier_c (g : Gm) (t : Ti) (w : World) (hkind : g.kind = 1) (hm : g.main ≤ 10) (hb : g.bonus ≤ 4) (he : g.extra ≤ 4) :
    Calls Try.prog 91 #[g.val, t.val] w fun e w' => e = .returned (.int .i64 (tiE g t)) ∧ Fr [] w w' := by
  rw [tiE_c g t hkind]
  obtain ⟨E, hE⟩ : ∃ E, E = rtC g t := ⟨_, rfl⟩
  rw [← hE]
  simp only [rtC, rtTail] at hE
  obtain ⟨name, kind, price, main, of_, bonus, bonusof, extra, draws, system, days, at_, close, cancel, expiry, pool, reserve, round, cap, rolls, aa, ac, addons, ta, tc, tiers⟩ := g
  obtain ⟨tmain, tbonus, textra, tmode, tkind, tvalue⟩ := t
  simp only [Gm.val, Ti.val]
  simp only at hE hkind hm hb he
  subst hkind
  have hF : ∀ o o', Fr [] w ((w.alloc o).alloc o') := fun o o' => ((Fr.refl [] w).alloc o).alloc o'
  have HF := Lib.hid hF
  have HV := Lib.hid hE
  clear hF hE
  cases i0 : (tmode != 0)
  · cases i1 : inR tmain 0 main
    · go_enter Try.func91, Try.ntmps91
      go_wp2_with (go_at_call 63; refine (in_any _ _ _ _).mono ?_; rintro e w' ⟨rfl, rfl⟩)
      go_ret
      exact ⟨ret_i (by rw [HV.out]; simp [*]), HF.out _ _⟩
    · cases i2 : inR tbonus 0 bonus
      · go_enter Try.func91, Try.ntmps91
        go_wp2_with (go_at_call 63; refine (in_any _ _ _ _).mono ?_; rintro e w' ⟨rfl, rfl⟩)
        go_ret
        exact ⟨ret_i (by rw [HV.out]; simp [*]), HF.out _ _⟩
      · cases i3 : inR textra 0 extra
        · go_enter Try.func91, Try.ntmps91
          go_wp2_with (go_at_call 63; refine (in_any _ _ _ _).mono ?_; rintro e w' ⟨rfl, rfl⟩)
          go_ret
          exact ⟨ret_i (by rw [HV.out]; simp [*]), HF.out _ _⟩
        · obtain ⟨j10, j11⟩ := inR_of i1
          obtain ⟨j20, j21⟩ := inR_of i2
          obtain ⟨j30, j31⟩ := inR_of i3
          cases i4 : (tmain + tbonus + textra == 0)
          · cases i5 : inR tkind 1 3
            · go_enter Try.func91, Try.ntmps91
              go_wp2_with (go_at_call 63; refine (in_any _ _ _ _).mono ?_; rintro e w' ⟨rfl, rfl⟩)
              go_ret
              exact ⟨ret_i (by rw [HV.out]; simp [*]), HF.out _ _⟩
            · cases i6 : inR tvalue 0 1000000000
              all_goals
                go_enter Try.func91, Try.ntmps91
                go_wp2_with (go_at_call 63; refine (in_any _ _ _ _).mono ?_; rintro e w' ⟨rfl, rfl⟩)
                go_ret
                exact ⟨ret_i (by rw [HV.out]; simp [*]), HF.out _ _⟩
          · go_enter Try.func91, Try.ntmps91
            go_wp2_with (go_at_call 63; refine (in_any _ _ _ _).mono ?_; rintro e w' ⟨rfl, rfl⟩)
            go_ret
            exact ⟨ret_i (by rw [HV.out]; simp [*]), HF.out _ _⟩
  · go_enter Try.func91, Try.ntmps91
    go_wp2_with fail
    go_ret
    exact ⟨ret_i (by rw [HV.out]; simp [*]), HF.out _ _⟩
set_option maxRecDepth 20000 in
set_option maxHeartbeats 4000000 in
theorem rtier_d (g : Gm) (t : Ti) (w : World) (hkind : g.kind = 2) :
    Calls Try.prog 91 #[g.val, t.val] w fun e w' => e = .returned (.int .i64 (tiE g t)) ∧ Fr [] w w' := by
  rw [tiE_d g t hkind]
  obtain ⟨E, hE⟩ : ∃ E, E = rtD g t := ⟨_, rfl⟩
  rw [← hE]
  simp only [rtD, rtTail] at hE
  obtain ⟨name, kind, price, main, of_, bonus, bonusof, extra, draws, system, days, at_, close, cancel, expiry, pool, reserve, round, cap, rolls, aa, ac, addons, ta, tc, tiers⟩ := g
  obtain ⟨tmain, tbonus, textra, tmode, tkind, tvalue⟩ := t
  simp only [Gm.val, Ti.val]
  simp only at hE hkind
  subst hkind
  have hF : ∀ o o', Fr [] w ((w.alloc o).alloc o') := fun o o' => ((Fr.refl [] w).alloc o).alloc o'
  have HF := Lib.hid hF
  have HV := Lib.hid hE
  clear hF hE
  cases i0 : inR tmode 1 4
  · go_enter Try.func91, Try.ntmps91
    go_wp2_with (go_at_call 63; refine (in_any _ _ _ _).mono ?_; rintro e w' ⟨rfl, rfl⟩)
    go_ret
    exact ⟨ret_i (by rw [HV.out]; simp [*]), HF.out _ _⟩
  · have hq : ((tmode == 3) = true ∧ (tmode == 4) = false) ∨ ((tmode == 3) = false ∧ (tmode == 4) = true) ∨ ((tmode == 3) = false ∧ (tmode == 4) = false) := by
      by_cases h3 : tmode = 3
      · simp [h3]
      · by_cases h4 : tmode = 4 <;> simp [h3, h4]
    cases i1 : (tbonus != 0)
    · cases i2 : (textra != 0)
      · rcases hq with ⟨q3, q4⟩ | ⟨q3, q4⟩ | ⟨q3, q4⟩
        · cases i3 : inR tmain 1 main
          all_goals
            cases i5 : inR tkind 1 3
            all_goals
              cases i6 : inR tvalue 0 1000000000
              all_goals
                go_enter Try.func91, Try.ntmps91
                go_wp2_with (go_at_call 63; refine (in_any _ _ _ _).mono ?_; rintro e w' ⟨rfl, rfl⟩)
                go_ret
                exact ⟨ret_i (by rw [HV.out]; simp [*]), HF.out _ _⟩
        · cases i3 : inR tmain 1 main
          all_goals
            cases i5 : inR tkind 1 3
            all_goals
              cases i6 : inR tvalue 0 1000000000
              all_goals
                go_enter Try.func91, Try.ntmps91
                go_wp2_with (go_at_call 63; refine (in_any _ _ _ _).mono ?_; rintro e w' ⟨rfl, rfl⟩)
                go_ret
                exact ⟨ret_i (by rw [HV.out]; simp [*]), HF.out _ _⟩
        · cases i3 : (tmain != 0)
          all_goals
            cases i5 : inR tkind 1 3
            all_goals
              cases i6 : inR tvalue 0 1000000000
              all_goals
                go_enter Try.func91, Try.ntmps91
                go_wp2_with (go_at_call 63; refine (in_any _ _ _ _).mono ?_; rintro e w' ⟨rfl, rfl⟩)
                go_ret
                exact ⟨ret_i (by rw [HV.out]; simp [*]), HF.out _ _⟩
      · rcases hq with ⟨q3, q4⟩ | ⟨q3, q4⟩ | ⟨q3, q4⟩
        all_goals
          go_enter Try.func91, Try.ntmps91
          go_wp2_with (go_at_call 63; refine (in_any _ _ _ _).mono ?_; rintro e w' ⟨rfl, rfl⟩)
          go_ret
          exact ⟨ret_i (by rw [HV.out]; simp [*]), HF.out _ _⟩
    · rcases hq with ⟨q3, q4⟩ | ⟨q3, q4⟩ | ⟨q3, q4⟩
      all_goals
        go_enter Try.func91, Try.ntmps91
        go_wp2_with (go_at_call 63; refine (in_any _ _ _ _).mono ?_; rintro e w' ⟨rfl, rfl⟩)
        go_ret
        exact ⟨ret_i (by rw [HV.out]; simp [*]), HF.out _ _⟩
theorem rtier_any (g : Gm) (t : Ti) (w : World) (hk : g.kind = 1 ∨ g.kind = 2) (hm : g.main ≤ 10) (hb : g.bonus ≤ 4) (he : g.extra ≤ 4) :
    Calls Try.prog 91 #[g.val, t.val] w fun e w' => e = .returned (.int .i64 (tiE g t)) ∧ Fr [] w w' := by
  rcases hk with h | h
  · exact rtier_c g t w h hm hb he
  · exact rtier_d g t w h
end Go.Proofs.Ytijdlggoaianbaa
