/-
  Tiers (layer 12): effectiveMode, covers, checkTier.
-/
import Derived.Test.YtijdlggoaianbaaTier
import Derived.Test.YtijdlggoaianbaaGameW
set_option linter.unusedVariables false
namespace Go.Proofs.Ytijdlggoaianbaa
open Go.RowKit
theorem Fr.range {w w' : World} (h : Fr [] w w') {b o : Nat} {cs : List Value} (hr : w.rangeAt b o cs) : w'.rangeAt b o cs := fun j v hv => h.cell_some (hr j v hv) (by simp)
theorem range_new (w : World) (cs : List Value) (T : TypeId) : (w.alloc (.cells cs.toArray T)).rangeAt w.heap.size 0 cs := fun j v hv => by
  rw [Nat.zero_add]
  simp only [World.cell?, World.alloc, Array.getElem?_push_size]
  simpa using hv
theorem Ti.val_eq (t : Ti) : t.val = .agg t.cells.toArray := rfl
set_option maxRecDepth 20000 in
set_option maxHeartbeats 4000000 in
theorem eff_any (g : Gm) (t : Ti) (w : World) : Calls Try.prog 74 #[g.val, t.val] w fun e w' => e = .returned (.int .i64 (effM g t)) ∧ Fr [] w w' := by
  obtain ⟨E, hE⟩ : ∃ E, E = effM g t := ⟨_, rfl⟩
  rw [← hE]
  simp only [effM] at hE
  obtain ⟨name, kind, price, main, of_, bonus, bonusof, extra, draws, system, days, at_, close, cancel, expiry, pool, reserve, round, cap, rolls, aa, ac, addons, ta, tc, tiers⟩ := g
  obtain ⟨tmain, tbonus, textra, tmode, tkind, tvalue⟩ := t
  simp only [Gm.val, Ti.val]
  simp only at hE
  have hF : ∀ o o', Fr [] w ((w.alloc o).alloc o') := fun o o' => ((Fr.refl [] w).alloc o).alloc o'
  have HF := Lib.hid hF
  clear hF
  have hz : (tmain = main ∧ (tmain == main) = true) ∨ (¬ tmain = main ∧ (tmain == main) = false) := by by_cases h : tmain = main <;> simp [h]
  have hq : (tmode = 3 ∧ (tmode == 3) = true) ∨ (tmode = 4 ∧ (tmode == 3) = false ∧ (tmode == 4) = true) ∨ (¬ tmode = 3 ∧ ¬ tmode = 4 ∧ (tmode == 3) = false ∧ (tmode == 4) = false) := by
    by_cases h3 : tmode = 3
    · simp [h3]
    · by_cases h4 : tmode = 4 <;> simp [h3, h4]
  rcases hq with ⟨q, q1⟩ | ⟨q, q1, q2⟩ | ⟨q, q', q1, q2⟩
  · rcases hz with ⟨z1, y1⟩ | ⟨z1, y1⟩
    all_goals
      simp [q, z1] at hE
      have HV := Lib.hid hE
      clear hE z1
      subst q
      go_enter Try.func74, Try.ntmps74
      go_wp2_with fail
      go_ret
      exact ⟨ret_i HV.out.symm, HF.out _ _⟩
  · rcases hz with ⟨z1, y1⟩ | ⟨z1, y1⟩
    all_goals
      simp [q, z1] at hE
      have HV := Lib.hid hE
      clear hE z1
      subst q
      go_enter Try.func74, Try.ntmps74
      go_wp2_with fail
      go_ret
      exact ⟨ret_i HV.out.symm, HF.out _ _⟩
  · simp [q, q'] at hE
    have HV := Lib.hid hE
    clear hE q q' hz
    go_enter Try.func74, Try.ntmps74
    go_wp2_with fail
    go_ret
    exact ⟨ret_i HV.out.symm, HF.out _ _⟩
set_option maxRecDepth 20000 in
set_option maxHeartbeats 2000000 in
theorem checkTier_digits (g : Gm) (t : Ti) (w : World) (hkind : g.kind = 2) : Calls Try.prog 52 #[g.val, t.val] w fun e w' => e = .returned (.int .i64 (tiE g t)) ∧ Fr [] w w' := by
  obtain ⟨E, hE⟩ : ∃ E, E = tiE g t := ⟨_, rfl⟩
  rw [← hE]
  simp only [tiE] at hE
  have hc : ∀ w, Calls Try.prog 73 #[g.val, t.val] w fun e w' => e = .returned (.int .i64 (hitE g t)) ∧ Fr [] w w' := fun w => by
    have := digits_any g t w; rwa [show hitE g t = _ from if_pos hkind]
  obtain ⟨E1, hE1⟩ : ∃ E1, E1 = hitE g t := ⟨_, rfl⟩
  rw [← hE1] at hE hc
  clear hE1
  obtain ⟨tmain, tbonus, textra, tmode, tkind, tvalue⟩ := t
  simp only [Ti.val] at hc ⊢
  simp only at hE
  have HC := Lib.hid hc
  clear hc
  have dk : (g.kind == 2) = true := by simpa using hkind
  clear hkind
  by_cases he : E1 = 0
  · subst he
    have hV : ∀ (a b : Bool), a = decide (tkind = 1 ∨ tkind = 2 ∨ tkind = 3) → b = inR tvalue 0 1000000000 → E = if a = false then 7 else if b = false then 2 else 0 := by
      intro a b ha hb
      rw [hE, ha, hb]
      by_cases h : tkind = 1 ∨ tkind = 2 ∨ tkind = 3
      · rw [if_neg (by simp), if_neg (by omega)]; simp [h]
      · rw [if_neg (by simp), if_pos (by omega)]; simp [h]
    have HV := Lib.hid hV
    clear hE hV
    have hq : (decide (tkind = 1 ∨ tkind = 2 ∨ tkind = 3) = true ∧ ((tkind != 1) = false ∨ ((tkind != 1) = true ∧ (tkind != 2) = false) ∨ ((tkind != 1) = true ∧ (tkind != 2) = true ∧ (tkind != 3) = false))) ∨ (decide (tkind = 1 ∨ tkind = 2 ∨ tkind = 3) = false ∧ (tkind != 1) = true ∧ (tkind != 2) = true ∧ (tkind != 3) = true) := by
      by_cases h1 : tkind = 1
      · simp [h1]
      · by_cases h2 : tkind = 2
        · simp [h2]
        · by_cases h3 : tkind = 3 <;> simp [h1, h2, h3]
    have HQ := Lib.hid hq
    clear hq
    go_enter Try.func52, Try.ntmps52
    go_wp2_with (first | (refine box_game rfl (.tmp 0) rfl g rfl ?_; intro w1 hg1 hz1 hf1; have c1 := hg1.cell 1 _ rfl) | (refine load_game rfl (.tmp 2) rfl _ rfl g (hg1.fr ((Fr.refl [] w1).alloc _) (by simp)) ?_))
    refine (HC.out _).mono ?_
    rintro e w3 ⟨rfl, f3⟩
    have b4 : w3.cell? ⟨w.heap.size + 1, 4, none⟩ = some (.int .i64 tkind) := f3.cell_some (new_cell hz1 rfl) (by simp)
    have b5 : w3.cell? ⟨w.heap.size + 1, 5, none⟩ = some (.int .i64 tvalue) := f3.cell_some (new_cell hz1 rfl) (by simp)
    have hF3 := (hf1.alloc _).trans f3
    clear f3 HC
    obtain ⟨q0, hq⟩ | ⟨q0, q1, q2, q3⟩ := HQ.out
    · cases i1 : inR tvalue 0 1000000000
      · have hv : E = 2 := by rw [HV.out true false q0.symm i1.symm]; rfl
        have HV2 := Lib.hid hv
        clear hv HV q0 HQ
        rcases hq with q1 | ⟨q1, q2⟩ | ⟨q1, q2, q3⟩
        all_goals
          go_wp2_with (go_at_call 50; refine (within_any _ _ _ _).mono ?_; rintro e w' ⟨rfl, rfl⟩)
          go_ret
          exact ⟨ret_i HV2.out.symm, hF3⟩
      · have hv : E = 0 := by rw [HV.out true true q0.symm i1.symm]; rfl
        have HV2 := Lib.hid hv
        clear hv HV q0 HQ
        rcases hq with q1 | ⟨q1, q2⟩ | ⟨q1, q2, q3⟩
        all_goals
          go_wp2_with (go_at_call 50; refine (within_any _ _ _ _).mono ?_; rintro e w' ⟨rfl, rfl⟩)
          go_ret
          exact ⟨ret_i HV2.out.symm, hF3⟩
    · have hv : E = 7 := by rw [HV.out false _ q0.symm rfl]; rfl
      have HV2 := Lib.hid hv
      clear hv HV q0 HQ
      go_wp2_with fail
      go_ret
      exact ⟨ret_i HV2.out.symm, hF3⟩
  · have d1 : (E1 != 0) = true := by simpa using he
    simp [he] at hE
    have HV := Lib.hid hE
    clear hE he
    go_enter Try.func52, Try.ntmps52
    go_wp2_with (first | (refine box_game rfl (.tmp 0) rfl g rfl ?_; intro w1 hg1 hz1 hf1; have c1 := hg1.cell 1 _ rfl) | (refine load_game rfl (.tmp 2) rfl _ rfl g (hg1.fr ((Fr.refl [] w1).alloc _) (by simp)) ?_))
    refine (HC.out _).mono ?_
    rintro e w3 ⟨rfl, f3⟩
    go_wp2_with fail
    go_ret
    exact ⟨ret_i HV.out.symm, (hf1.alloc _).trans f3⟩
set_option maxRecDepth 20000 in
set_option maxHeartbeats 2000000 in
theorem checkTier_choose (g : Gm) (t : Ti) (w : World) (hkind : ¬ g.kind = 2) : Calls Try.prog 52 #[g.val, t.val] w fun e w' => e = .returned (.int .i64 (tiE g t)) ∧ Fr [] w w' := by
  obtain ⟨E, hE⟩ : ∃ E, E = tiE g t := ⟨_, rfl⟩
  rw [← hE]
  simp only [tiE] at hE
  have hc : ∀ w, Calls Try.prog 72 #[g.val, t.val] w fun e w' => e = .returned (.int .i64 (hitE g t)) ∧ Fr [] w w' := fun w => by
    have := choose_any g t w; rwa [show hitE g t = _ from if_neg hkind]
  obtain ⟨E1, hE1⟩ : ∃ E1, E1 = hitE g t := ⟨_, rfl⟩
  rw [← hE1] at hE hc
  clear hE1
  obtain ⟨tmain, tbonus, textra, tmode, tkind, tvalue⟩ := t
  simp only [Ti.val] at hc ⊢
  simp only at hE
  have HC := Lib.hid hc
  clear hc
  have dk : (g.kind == 2) = false := by simpa using hkind
  clear hkind
  by_cases he : E1 = 0
  · subst he
    have hV : ∀ (a b : Bool), a = decide (tkind = 1 ∨ tkind = 2 ∨ tkind = 3) → b = inR tvalue 0 1000000000 → E = if a = false then 7 else if b = false then 2 else 0 := by
      intro a b ha hb
      rw [hE, ha, hb]
      by_cases h : tkind = 1 ∨ tkind = 2 ∨ tkind = 3
      · rw [if_neg (by simp), if_neg (by omega)]; simp [h]
      · rw [if_neg (by simp), if_pos (by omega)]; simp [h]
    have HV := Lib.hid hV
    clear hE hV
    have hq : (decide (tkind = 1 ∨ tkind = 2 ∨ tkind = 3) = true ∧ ((tkind != 1) = false ∨ ((tkind != 1) = true ∧ (tkind != 2) = false) ∨ ((tkind != 1) = true ∧ (tkind != 2) = true ∧ (tkind != 3) = false))) ∨ (decide (tkind = 1 ∨ tkind = 2 ∨ tkind = 3) = false ∧ (tkind != 1) = true ∧ (tkind != 2) = true ∧ (tkind != 3) = true) := by
      by_cases h1 : tkind = 1
      · simp [h1]
      · by_cases h2 : tkind = 2
        · simp [h2]
        · by_cases h3 : tkind = 3 <;> simp [h1, h2, h3]
    have HQ := Lib.hid hq
    clear hq
    go_enter Try.func52, Try.ntmps52
    go_wp2_with (first | (refine box_game rfl (.tmp 0) rfl g rfl ?_; intro w1 hg1 hz1 hf1; have c1 := hg1.cell 1 _ rfl) | (refine load_game rfl (.tmp 2) rfl _ rfl g (hg1.fr ((Fr.refl [] w1).alloc _) (by simp)) ?_))
    refine (HC.out _).mono ?_
    rintro e w3 ⟨rfl, f3⟩
    have b4 : w3.cell? ⟨w.heap.size + 1, 4, none⟩ = some (.int .i64 tkind) := f3.cell_some (new_cell hz1 rfl) (by simp)
    have b5 : w3.cell? ⟨w.heap.size + 1, 5, none⟩ = some (.int .i64 tvalue) := f3.cell_some (new_cell hz1 rfl) (by simp)
    have hF3 := (hf1.alloc _).trans f3
    clear f3 HC
    obtain ⟨q0, hq⟩ | ⟨q0, q1, q2, q3⟩ := HQ.out
    · cases i1 : inR tvalue 0 1000000000
      · have hv : E = 2 := by rw [HV.out true false q0.symm i1.symm]; rfl
        have HV2 := Lib.hid hv
        clear hv HV q0 HQ
        rcases hq with q1 | ⟨q1, q2⟩ | ⟨q1, q2, q3⟩
        all_goals
          go_wp2_with (go_at_call 50; refine (within_any _ _ _ _).mono ?_; rintro e w' ⟨rfl, rfl⟩)
          go_ret
          exact ⟨ret_i HV2.out.symm, hF3⟩
      · have hv : E = 0 := by rw [HV.out true true q0.symm i1.symm]; rfl
        have HV2 := Lib.hid hv
        clear hv HV q0 HQ
        rcases hq with q1 | ⟨q1, q2⟩ | ⟨q1, q2, q3⟩
        all_goals
          go_wp2_with (go_at_call 50; refine (within_any _ _ _ _).mono ?_; rintro e w' ⟨rfl, rfl⟩)
          go_ret
          exact ⟨ret_i HV2.out.symm, hF3⟩
    · have hv : E = 7 := by rw [HV.out false _ q0.symm rfl]; rfl
      have HV2 := Lib.hid hv
      clear hv HV q0 HQ
      go_wp2_with fail
      go_ret
      exact ⟨ret_i HV2.out.symm, hF3⟩
  · have d1 : (E1 != 0) = true := by simpa using he
    simp [he] at hE
    have HV := Lib.hid hE
    clear hE he
    go_enter Try.func52, Try.ntmps52
    go_wp2_with (first | (refine box_game rfl (.tmp 0) rfl g rfl ?_; intro w1 hg1 hz1 hf1; have c1 := hg1.cell 1 _ rfl) | (refine load_game rfl (.tmp 2) rfl _ rfl g (hg1.fr ((Fr.refl [] w1).alloc _) (by simp)) ?_))
    refine (HC.out _).mono ?_
    rintro e w3 ⟨rfl, f3⟩
    go_wp2_with fail
    go_ret
    exact ⟨ret_i HV.out.symm, (hf1.alloc _).trans f3⟩
theorem checkTier_any (g : Gm) (t : Ti) (w : World) : Calls Try.prog 52 #[g.val, t.val] w fun e w' => e = .returned (.int .i64 (tiE g t)) ∧ Fr [] w w' := by
  by_cases h : g.kind = 2
  · exact checkTier_digits g t w h
  · exact checkTier_choose g t w h
end Go.Proofs.Ytijdlggoaianbaa
