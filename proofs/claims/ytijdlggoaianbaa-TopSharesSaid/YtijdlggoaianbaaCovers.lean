/-
  covers (layer 12): does a tier cover another one?
-/
import Derived.Test.YtijdlggoaianbaaTier2
import Derived.Deep.RegionHeld3
import Derived.Deep.DeepCutAuto
import Derived.Deep.DrawnRows
set_option linter.unusedVariables false
namespace Go.Proofs.Ytijdlggoaianbaa
open Go.RowKit
attribute [local go_sem ↓] Go.wp_at_zero Go.wp_at_succ
theorem keep3 {w w' : World} (h : Fr [] w w') {b1 b2 b3 : Nat} {l1 l2 l3 : List Value} (r1 : w.rangeAt b1 0 l1) (r2 : w.rangeAt b2 0 l2) (r3 : w.rangeAt b3 0 l3) :
    w'.rangeAt b1 0 l1 ∧ w'.rangeAt b2 0 l2 ∧ w'.rangeAt b3 0 l3 ∧ Fr [] w w' := ⟨h.range r1, h.range r2, h.range r3, h⟩
theorem range_at {w : World} {n : Nat} (hz : w.heap.size = n) (cs : List Value) (T : TypeId) : (w.alloc (.cells cs.toArray T)).rangeAt n 0 cs := by subst hz; exact range_new w cs T
theorem infoTier : (Try.prog.info? 66).map (·.size) = some 6 := by kernel_rfl
set_option maxRecDepth 20000 in
set_option maxHeartbeats 4000000 in
theorem covers_any (g : Gm) (a b : Ti) (w : World) : Calls Try.prog 53 #[g.val, a.val, b.val] w fun e w' => e = .returned (.bool (covB g a b)) ∧ Fr [] w w' := by
  obtain ⟨E, hE⟩ : ∃ E, E = covB g a b := ⟨_, rfl⟩
  rw [← hE]
  simp only [covB] at hE
  have hA := fun w => eff_any g a w
  have hB := fun w => eff_any g b w
  obtain ⟨M1, hM1⟩ : ∃ M1, M1 = effM g a := ⟨_, rfl⟩
  obtain ⟨M2, hM2⟩ : ∃ M2, M2 = effM g b := ⟨_, rfl⟩
  rw [← hM1] at hA hE
  rw [← hM2] at hB hE
  clear hM1 hM2
  by_cases hk : g.kind = 1
  · have dk : (g.kind == 1) = true := by simpa using hk
    rw [if_pos hk] at hE
    clear hk hA hB
    obtain ⟨am, ab, ae, ao, ak, av⟩ := a
    obtain ⟨bm, bb, be, bo, bk, bv⟩ := b
    simp only at hE
    simp only [Ti.val]
    have hq : (E = true ∧ decide (am ≤ bm) = true ∧ decide (ab ≤ bb) = true ∧ decide (ae ≤ be) = true) ∨ (E = false ∧ decide (am ≤ bm) = false) ∨ (E = false ∧ decide (am ≤ bm) = true ∧ decide (ab ≤ bb) = false) ∨ (E = false ∧ decide (am ≤ bm) = true ∧ decide (ab ≤ bb) = true ∧ decide (ae ≤ be) = false) := by
      rw [hE]; simp only [decide_eq_true_eq, decide_eq_false_iff_not]; omega
    clear hE
    rcases hq with ⟨rfl, q1, q2, q3⟩ | ⟨rfl, q1⟩ | ⟨rfl, q1, q2⟩ | ⟨rfl, q1, q2, q3⟩
    all_goals
      go_enter Try.func53, Try.ntmps53
      go_wp2_with (refine box_game rfl (.tmp 0) rfl g rfl ?_; intro w1 hg1 hz1 hf1; have c1 := hg1.cell 1 _ rfl)
      go_ret
      exact ⟨rfl, (hf1.alloc _).alloc _⟩
  · have dk : (g.kind == 1) = false := by simpa using hk
    rw [if_neg hk] at hE
    clear hk
    rw [Gm.val_eq, Ti.val_eq] at hA hB
    obtain ⟨cs1, h1⟩ : ∃ cs1, cs1 = g.cells := ⟨_, rfl⟩
    obtain ⟨cs2, h2⟩ : ∃ cs2, cs2 = a.cells := ⟨_, rfl⟩
    obtain ⟨cs3, h3⟩ : ∃ cs3, cs3 = b.cells := ⟨_, rfl⟩
    rw [← h1, ← h2] at hA
    rw [← h1, ← h3] at hB
    have l1 : cs1.length = 22 := by rw [h1]; rfl
    have l2 : cs2.length = 6 := by rw [h2]; rfl
    have l3 : cs3.length = 6 := by rw [h3]; rfl
    have HA := Lib.hid hA
    have HB := Lib.hid hB
    have H1 := Lib.hid h1
    have H2 := Lib.hid h2
    have H3 := Lib.hid h3
    have HL1 := Lib.hid l1
    have HL2 := Lib.hid l2
    have HL3 := Lib.hid l3
    clear hA hB h1 h2 h3 l1 l2 l3
    obtain ⟨am, ab, ae, ao, ak, av⟩ := a
    obtain ⟨bm, bb, be, bo, bk, bv⟩ := b
    simp only at hE
    simp only [Ti.val]
    have hq : (E = true ∧ (M2 == 1) = true) ∨ (E = true ∧ (M2 == 1) = false ∧ (M1 == M2) = true ∧ decide (am ≤ bm) = true) ∨ (E = false ∧ (M2 == 1) = false ∧ (M1 == M2) = true ∧ decide (am ≤ bm) = false) ∨ (E = false ∧ (M2 == 1) = false ∧ (M1 == M2) = false) := by
      rw [hE]; simp only [decide_eq_true_eq, decide_eq_false_iff_not, beq_iff_eq, beq_eq_false_iff_ne]; omega
    have HQ := Lib.hid hq
    clear hE hq
    go_enter Try.func53, Try.ntmps53
    go_wp2_with (refine box_game rfl (.tmp 0) rfl g rfl ?_; intro w1 hg1 hz1 hf1; have c1 := hg1.cell 1 _ rfl)
    obtain ⟨w3, hw3⟩ : ∃ w3, w3 = (w1.alloc (.cells #[.int .i64 am, .int .i64 ab, .int .i64 ae, .int .i64 ao, .int .i64 ak, .int .i64 av] 66)).alloc (.cells #[.int .i64 bm, .int .i64 bb, .int .i64 be, .int .i64 bo, .int .i64 bk, .int .i64 bv] 66) := ⟨_, rfl⟩
    have R1 : w3.rangeAt w.heap.size 0 cs1 := by
      rw [hw3]
      refine Fr.range (((Fr.refl [] w1).alloc _).alloc _) ?_
      intro j v hv
      rw [Nat.zero_add]
      exact hg1.cell j v (by rw [← H1.out]; exact hv)
    have R2 : w3.rangeAt (w.heap.size + 1) 0 cs2 := by
      rw [hw3]
      refine Fr.range ((Fr.refl [] _).alloc _) ?_
      have := range_at hz1 cs2 66
      rw [H2.out] at this ⊢
      exact this
    have R3 : w3.rangeAt (w.heap.size + 2) 0 cs3 := by
      rw [hw3]
      have := range_at (w := w1.alloc (.cells #[.int .i64 am, .int .i64 ab, .int .i64 ae, .int .i64 ao, .int .i64 ak, .int .i64 av] 66)) (n := w.heap.size + 2) (by simp; omega) cs3 66
      rw [H3.out] at this ⊢
      exact this
    have hF3 : Fr [] w w3 := by rw [hw3]; exact (hf1.alloc _).alloc _
    have k1 : w3.cell? ⟨w.heap.size + 1, 0, none⟩ = some (.int .i64 am) := by have := R2 0 (.int .i64 am) (by rw [H2.out]; rfl); simpa using this
    have k2 : w3.cell? ⟨w.heap.size + 2, 0, none⟩ = some (.int .i64 bm) := by have := R3 0 (.int .i64 bm) (by rw [H3.out]; rfl); simpa using this
    rw [← hw3]
    clear hw3 hf1 hg1 hz1 c1
    go_cut [7, 8] (fun x y wx => x = .int .i64 M1 ∧ y = .int .i64 M2 ∧ Fr [] w3 wx)
    case first =>
      have hu1 := Try.underlying47
      have hu2 := Try.underlying66
      have hi1 : (Try.prog.info? 47).map (·.size) = some cs1.length := by rw [HL1.out]; exact infoGame
      have hi2 : (Try.prog.info? 66).map (·.size) = some cs2.length := by rw [HL2.out]; exact infoTier
      have hi3 : (Try.prog.info? 66).map (·.size) = some cs3.length := by rw [HL3.out]; exact infoTier
      clear k1 k2
      refine wp_region_held_drew (S := (fun w' => w'.rangeAt w.heap.size 0 cs1 ∧ w'.rangeAt (w.heap.size + 1) 0 cs2 ∧ w'.rangeAt (w.heap.size + 2) 0 cs3 ∧ Fr [] w3 w')) (by kernel_rfl) (keep3 ((Fr.refl [] w3).drew) R1 R2 R3) (fun hHeld => ?_)
      refine' wpAnyH_take (i := 0) (oi := ⟨some 31, _, _, _, _, _⟩) (v := _) rfl (by kernel_rfl) (by kernel_rfl) (by kernel_rfl) (fun _ _ _ h => h) (yieldsIf_load_mid (by rfl) _ _ rfl _ _ rfl _ _ (fun w h => h.1) hu1 rfl hi1) hHeld ?_
      simp only [Act.put, List.setIfInBounds_toArray, List.set_cons_zero, List.set_cons_succ]
      refine' wpAnyH_take (i := 1) (oi := ⟨some 32, _, _, _, _, _⟩) (v := _) rfl (by kernel_rfl) (by kernel_rfl) (by kernel_rfl) (fun _ _ _ h => h) (yieldsIf_load_mid (by rfl) _ _ rfl _ _ rfl _ _ (fun w h => h.2.1) hu2 rfl hi2) hHeld ?_
      simp only [Act.put, List.setIfInBounds_toArray, List.set_cons_zero, List.set_cons_succ]
      refine' wpAnyH_take (i := 3) (oi := ⟨some 34, _, _, _, _, _⟩) (v := _) rfl (by kernel_rfl) (by kernel_rfl) (by kernel_rfl) (fun _ _ _ h => h) (yieldsIf_load_mid (by rfl) _ _ rfl _ _ rfl _ _ (fun w h => h.1) hu1 rfl hi1) hHeld ?_
      simp only [Act.put, List.setIfInBounds_toArray, List.set_cons_zero, List.set_cons_succ]
      refine' wpAnyH_take (i := 4) (oi := ⟨some 35, _, _, _, _, _⟩) (v := _) rfl (by kernel_rfl) (by kernel_rfl) (by kernel_rfl) (fun _ _ _ h => h) (yieldsIf_load_mid (by rfl) _ _ rfl _ _ rfl _ _ (fun w h => h.2.2.1) hu2 rfl hi3) hHeld ?_
      simp only [Act.put, List.setIfInBounds_toArray, List.set_cons_zero, List.set_cons_succ]
      refine wpAnyH_ready (rs := [2]) (by kernel_rfl) (by simp) ?_
      refine AllReadyH.cons (o := ⟨some 33, _, _, _, _, _⟩) rfl (fun K hK => ?_) AllReadyH.nil
      rw [if_pos (by rfl)]
      go_simp
      refine (HA.out _).mono ?_
      rintro e w' ⟨rfl, fr⟩
      refine hK.out _ _ (keep3 (hHeld.2.2.2.trans fr) R1 R2 R3) (fun hHeld' => ?_)
      clear hK K fr hHeld
      have hHeld := hHeld'
      clear hHeld'
      (try simp only [Act.put, List.setIfInBounds_toArray, List.set_cons_zero, List.set_cons_succ])
      refine wpAnyH_ready (rs := [5]) (by kernel_rfl) (by simp) ?_
      refine AllReadyH.cons (o := ⟨some 36, _, _, _, _, _⟩) rfl (fun K hK => ?_) AllReadyH.nil
      rw [if_pos (by rfl)]
      go_simp
      refine (HB.out _).mono ?_
      rintro e w' ⟨rfl, fr⟩
      refine hK.out _ _ (keep3 (hHeld.2.2.2.trans fr) R1 R2 R3) (fun hHeld' => ?_)
      clear hK K fr hHeld
      have hHeld := hHeld'
      clear hHeld'
      (try simp only [Act.put, List.setIfInBounds_toArray, List.set_cons_zero, List.set_cons_succ])
      refine wpAnyH_take (i := 6) (oi := ⟨some 7, _, _, _, _, _⟩) (v := .int .i64 M1) rfl (by kernel_rfl) (by kernel_rfl) (by kernel_rfl) (fun _ _ _ h => h) (Or.inl ⟨by rfl, ?_⟩) hHeld ?_
      · intro w hSw; go_simp
      (try simp only [Act.put, List.setIfInBounds_toArray, List.set_cons_zero, List.set_cons_succ])
      refine wpAnyH_take (i := 7) (oi := ⟨some 8, _, _, _, _, _⟩) (v := .int .i64 M2) rfl (by kernel_rfl) (by kernel_rfl) (by kernel_rfl) (fun _ _ _ h => h) (Or.inl ⟨by rfl, ?_⟩) hHeld ?_
      · intro w hSw; go_simp
      (try simp only [Act.put, List.setIfInBounds_toArray, List.set_cons_zero, List.set_cons_succ])
      refine wpAnyH_done (by kernel_rfl) ?_ _
      go_wp2_with fail
      go_meet
      exact ⟨rfl, rfl, hHeld.2.2.2⟩
    case rest =>
      obtain ⟨rfl, rfl, fx⟩ := hcut
      have k3 := fx.cell_some k1 (by simp)
      have k4 := fx.cell_some k2 (by simp)
      rcases HQ.out with ⟨rfl, q1⟩ | ⟨rfl, q1, q2, q3⟩ | ⟨rfl, q1, q2, q3⟩ | ⟨rfl, q1, q2⟩
      all_goals
        go_wp2_with fail
        go_ret
        exact ⟨rfl, hF3.trans fx⟩
end Go.Proofs.Ytijdlggoaianbaa
