/-
  LAYER 36: Fund, in the program and in the reference.
-/
import Derived.Test.YtdinjekpcgndmaaPart
set_option linter.unusedVariables false
namespace Go.Proofs.Ytdinjekpcgndmaa
open Go.RowKit
def fuE (g : Gm) (s : Int) : Int := if chkE g ≠ 0 then chkE g else if inR s 0 1000000000000 = true then 0 else 2
def fuA (g : Gm) (s : Int) : Int := if chkE g = 0 ∧ inR s 0 1000000000000 = true then s * g.pool / 10000 else 0
def fuB (g : Gm) (s : Int) : Int := if chkE g = 0 ∧ inR s 0 1000000000000 = true then s * g.pool / 10000 * g.reserve / 10000 else 0
def FuPost (g : Gm) (s : Int) (w : World) (e : Ending) (w' : World) : Prop := e = .returned (.tuple #[.int .i64 (fuA g s), .int .i64 (fuB g s), .int .i64 (fuE g s)]) ∧ Fr [] w w'
theorem fu_post {g : Gm} {s : Int} {w : World} :
    (chkE g = 0 → inR s 0 1000000000000 = true → ∀ w', Fr [] w w' → FuPost g s w (.returned (.tuple #[.int .i64 (s * g.pool / 10000), .int .i64 (s * g.pool / 10000 * g.reserve / 10000), .int .i64 0])) w') ∧
    (chkE g = 0 → inR s 0 1000000000000 = false → ∀ w', Fr [] w w' → FuPost g s w (.returned (.tuple #[.int .i64 0, .int .i64 0, .int .i64 2])) w') ∧
    (chkE g ≠ 0 → ∀ w', Fr [] w w' → FuPost g s w (.returned (.tuple #[.int .i64 0, .int .i64 0, .int .i64 (chkE g)])) w') := by
  refine ⟨fun h1 h2 w' h => ⟨?_, h⟩, fun h1 h2 w' h => ⟨?_, h⟩, fun h1 w' h => ⟨?_, h⟩⟩ <;> simp [fuA, fuB, fuE, *]
theorem fu_facts {g : Gm} (h : chkE g = 0) : 0 ≤ g.pool ∧ g.pool ≤ 10000 ∧ 0 ≤ g.reserve ∧ g.reserve ≤ 10000 := by
  obtain ⟨h1, _⟩ := chkE_facts h
  unfold headB badT at h1
  simp only [Bool.and_eq_true, Bool.not_eq_true', Bool.not_not] at h1
  obtain ⟨_, h2⟩ := h1
  have a := inR_of h2.1.1.1.1.2
  have b := inR_of h2.1.1.1.2
  exact ⟨a.1, a.2, b.1, b.2⟩
set_option maxRecDepth 20000 in
set_option maxHeartbeats 1000000 in
theorem fund_any (g : Gm) (s : Int) (w : World) (hok : g.Ok w) : Calls Try.prog 18 #[g.val, .int .i64 s] w (FuPost g s w) := by
  have hK := fun w' (h : Fr [] w w') => check_any g w' (hok.fr h)
  have h15 : ∀ w b, GmAt w b g → w.cell? ⟨b, 15, none⟩ = some (.int .i64 g.pool) := fun w b h => h.cell 15 _ rfl
  have h16 : ∀ w b, GmAt w b g → w.cell? ⟨b, 16, none⟩ = some (.int .i64 g.reserve) := fun w b h => h.cell 16 _ rfl
  unfold ChkPost at hK
  have hpost := @fu_post g s w
  have hfa := @fu_facts g
  generalize chkE g = ce at *
  generalize g.pool = gp at *
  generalize g.reserve = gr at *
  have HK := Lib.hid hK
  have H15 := Lib.hid h15
  have H16 := Lib.hid h16
  have HPOST := Lib.hid hpost
  clear hK h15 h16 hpost hok
  by_cases h0 : ce = 0
  · obtain ⟨p1, p2, p3, p4⟩ := hfa h0
    have e0 : (ce != 0) = false := by simpa using h0
    have HCE := Lib.hid h0
    have r1 := inR_yes p1 p2
    have r2 := inR_yes p3 p4
    by_cases hs : inR s 0 1000000000000 = true
    · obtain ⟨k1, k2⟩ := pt_yes hs r1
      obtain ⟨s1, s2⟩ := inR_of hs
      obtain ⟨q1, q2⟩ := mulb s1 s2 p1 p2
      have hfb : inR (s * gp / 10000) 0 1000000000000 = true := inR_yes (Int.ediv_nonneg q1 (by omega)) (by omega)
      obtain ⟨k3, k4⟩ := pt_yes hfb r2
      have HV := HPOST.out.1 HCE.out hs
      generalize s * gp / 10000 = fd at *
      generalize fd * gr / 10000 = rs at *
      have HV := Lib.hid HV
      have hP1 := part_any s gp
      have hP2 := part_any fd gr
      rw [k1, k2] at hP1
      rw [k3, k4] at hP2
      have HP1 := Lib.hid hP1
      have HP2 := Lib.hid hP2
      clear k1 k2 k3 k4 hP1 hP2 q1 q2 s1 s2 hfb HPOST h0 r1 r2
      go_enter Try.func18, Try.ntmps18
      go_wp2_with (first | (refine box_game rfl (.tmp 0) rfl g rfl ?_; intro w1 hg1 hz1 hf1) | (refine load_game rfl (.tmp 2) rfl _ rfl g hg1 ?_))
      refine (HK.out _ hf1).mono ?_
      rintro e w2 ⟨S, rfl, _, f2⟩
      have hg2 := hg1.fr f2 (by simp)
      have hF2 := hf1.trans f2
      have c15 := H15.out _ _ hg2
      have c16 := H16.out _ _ hg2
      clear hg1 hz1 hf1 f2 hg2
      go_wp2_with fail
      refine (HP1.out _).mono ?_
      rintro e w3 ⟨rfl, rfl⟩
      go_wp2_with fail
      refine (HP2.out _).mono ?_
      rintro e w3 ⟨rfl, rfl⟩
      go_wp2_with fail
      exact bodyPost_ret (v := .tuple #[.int .i64 fd, .int .i64 rs, .int .i64 0]) (by simp [results, Try.results18, go_sem]) rfl (HV.out _ hF2)
    · have hs : inR s 0 1000000000000 = false := by simpa using hs
      obtain ⟨k1, k2⟩ := pt_no1 (b := gp) hs
      have hP1 := part_any s gp
      rw [k1, k2] at hP1
      have HP1 := Lib.hid hP1
      have HV := Lib.hid (HPOST.out.2.1 HCE.out hs)
      clear k1 k2 hP1 h0 HPOST r1 r2
      go_enter Try.func18, Try.ntmps18
      go_wp2_with (first | (refine box_game rfl (.tmp 0) rfl g rfl ?_; intro w1 hg1 hz1 hf1) | (refine load_game rfl (.tmp 2) rfl _ rfl g hg1 ?_))
      refine (HK.out _ hf1).mono ?_
      rintro e w2 ⟨S, rfl, _, f2⟩
      have hg2 := hg1.fr f2 (by simp)
      have hF2 := hf1.trans f2
      have c15 := H15.out _ _ hg2
      have c16 := H16.out _ _ hg2
      clear hg1 hz1 hf1 f2 hg2
      go_wp2_with fail
      refine (HP1.out _).mono ?_
      rintro e w3 ⟨rfl, rfl⟩
      go_wp2_with fail
      exact bodyPost_ret (v := .tuple #[.int .i64 0, .int .i64 0, .int .i64 2]) (by simp [results, Try.results18, go_sem]) rfl (HV.out _ hF2)
  · have e0 : (ce != 0) = true := by simpa using h0
    have HV := Lib.hid (HPOST.out.2.2 h0)
    clear h0 hfa HPOST
    go_enter Try.func18, Try.ntmps18
    go_wp2_with (first | (refine box_game rfl (.tmp 0) rfl g rfl ?_; intro w1 hg1 hz1 hf1) | (refine load_game rfl (.tmp 2) rfl _ rfl g hg1 ?_))
    refine (HK.out _ hf1).mono ?_
    rintro e w2 ⟨S, rfl, _, f2⟩
    have hg2 := hg1.fr f2 (by simp)
    have hF2 := hf1.trans f2
    have c15 := H15.out _ _ hg2
    have c16 := H16.out _ _ hg2
    clear hg1 hz1 hf1 f2 hg2
    go_wp2_with fail
    exact bodyPost_ret (v := .tuple #[.int .i64 0, .int .i64 0, .int .i64 ce]) (by simp [results, Try.results18, go_sem]) rfl (HV.out _ hF2)
set_option maxRecDepth 20000 in
set_option maxHeartbeats 1000000 in
theorem rfund_any (g : Gm) (s : Int) (w : World) (hok : g.Ok w) : Calls Try.prog 19 #[g.val, .int .i64 s] w (FuPost g s w) := by
  have hK := fun w' (h : Fr [] w w') => rcheck_any g w' (hok.fr h)
  have h15 : ∀ w b, GmAt w b g → w.cell? ⟨b, 15, none⟩ = some (.int .i64 g.pool) := fun w b h => h.cell 15 _ rfl
  have h16 : ∀ w b, GmAt w b g → w.cell? ⟨b, 16, none⟩ = some (.int .i64 g.reserve) := fun w b h => h.cell 16 _ rfl
  unfold RChkPost at hK
  have hpost := @fu_post g s w
  have hfa := @fu_facts g
  generalize chkE g = ce at *
  generalize g.pool = gp at *
  generalize g.reserve = gr at *
  have HK := Lib.hid hK
  have H15 := Lib.hid h15
  have H16 := Lib.hid h16
  have HPOST := Lib.hid hpost
  clear hK h15 h16 hpost hok
  by_cases h0 : ce = 0
  · obtain ⟨p1, p2, p3, p4⟩ := hfa h0
    have e0 : (ce != 0) = false := by simpa using h0
    have HCE := Lib.hid h0
    have r1 := inR_yes p1 p2
    have r2 := inR_yes p3 p4
    by_cases hs : inR s 0 1000000000000 = true
    · obtain ⟨k1, k2⟩ := pt_yes hs r1
      obtain ⟨s1, s2⟩ := inR_of hs
      obtain ⟨q1, q2⟩ := mulb s1 s2 p1 p2
      have hfb : inR (s * gp / 10000) 0 1000000000000 = true := inR_yes (Int.ediv_nonneg q1 (by omega)) (by omega)
      obtain ⟨k3, k4⟩ := pt_yes hfb r2
      have HV := HPOST.out.1 HCE.out hs
      generalize s * gp / 10000 = fd at *
      generalize fd * gr / 10000 = rs at *
      have HV := Lib.hid HV
      have hP1 := rpart_any s gp
      have hP2 := rpart_any fd gr
      rw [k1, k2] at hP1
      rw [k3, k4] at hP2
      have HP1 := Lib.hid hP1
      have HP2 := Lib.hid hP2
      clear k1 k2 k3 k4 hP1 hP2 q1 q2 s1 s2 hfb HPOST h0 r1 r2
      go_enter Try.func19, Try.ntmps19
      go_wp2_with (first | (refine box_game rfl (.tmp 0) rfl g rfl ?_; intro w1 hg1 hz1 hf1) | (refine load_game rfl (.tmp 2) rfl _ rfl g hg1 ?_))
      refine (HK.out _ hf1).mono ?_
      rintro e w2 ⟨S, rfl, f2⟩
      have hg2 := hg1.fr f2 (by simp)
      have hF2 := hf1.trans f2
      have c15 := H15.out _ _ hg2
      have c16 := H16.out _ _ hg2
      clear hg1 hz1 hf1 f2 hg2
      go_wp2_with fail
      refine (amount36_any _ _).mono ?_
      rintro e w3 ⟨rfl, rfl⟩
      rw [hs]
      go_wp2_with fail
      refine (HP1.out _).mono ?_
      rintro e w3 ⟨rfl, rfl⟩
      go_wp2_with fail
      refine (HP2.out _).mono ?_
      rintro e w3 ⟨rfl, rfl⟩
      go_wp2_with fail
      exact bodyPost_ret (v := .tuple #[.int .i64 fd, .int .i64 rs, .int .i64 0]) (by simp [results, Try.results19, go_sem]) rfl (HV.out _ hF2)
    · have hs : inR s 0 1000000000000 = false := by simpa using hs
      obtain ⟨k1, k2⟩ := pt_no1 (b := gp) hs
      have hP1 := rpart_any s gp
      rw [k1, k2] at hP1
      have HP1 := Lib.hid hP1
      have HV := Lib.hid (HPOST.out.2.1 HCE.out hs)
      clear k1 k2 hP1 h0 HPOST r1 r2
      go_enter Try.func19, Try.ntmps19
      go_wp2_with (first | (refine box_game rfl (.tmp 0) rfl g rfl ?_; intro w1 hg1 hz1 hf1) | (refine load_game rfl (.tmp 2) rfl _ rfl g hg1 ?_))
      refine (HK.out _ hf1).mono ?_
      rintro e w2 ⟨S, rfl, f2⟩
      have hg2 := hg1.fr f2 (by simp)
      have hF2 := hf1.trans f2
      have c15 := H15.out _ _ hg2
      have c16 := H16.out _ _ hg2
      clear hg1 hz1 hf1 f2 hg2
      go_wp2_with fail
      refine (amount36_any _ _).mono ?_
      rintro e w3 ⟨rfl, rfl⟩
      rw [hs]
      go_wp2_with fail
      exact bodyPost_ret (v := .tuple #[.int .i64 0, .int .i64 0, .int .i64 2]) (by simp [results, Try.results19, go_sem]) rfl (HV.out _ hF2)
  · have e0 : (ce != 0) = true := by simpa using h0
    have HV := Lib.hid (HPOST.out.2.2 h0)
    clear h0 hfa HPOST
    go_enter Try.func19, Try.ntmps19
    go_wp2_with (first | (refine box_game rfl (.tmp 0) rfl g rfl ?_; intro w1 hg1 hz1 hf1) | (refine load_game rfl (.tmp 2) rfl _ rfl g hg1 ?_))
    refine (HK.out _ hf1).mono ?_
    rintro e w2 ⟨S, rfl, f2⟩
    have hg2 := hg1.fr f2 (by simp)
    have hF2 := hf1.trans f2
    have c15 := H15.out _ _ hg2
    have c16 := H16.out _ _ hg2
    clear hg1 hz1 hf1 f2 hg2
    go_wp2_with fail
    exact bodyPost_ret (v := .tuple #[.int .i64 0, .int .i64 0, .int .i64 ce]) (by simp [results, Try.results19, go_sem]) rfl (HV.out _ hF2)
end Go.Proofs.Ytdinjekpcgndmaa
