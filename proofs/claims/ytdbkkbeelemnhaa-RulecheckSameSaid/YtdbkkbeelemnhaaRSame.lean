/-
  Are two games the same, in the reference of layer 12? Same.
-/
import Derived.Test.YtdbkkbeelemnhaaEqA
import Derived.Test.YtdbkkbeelemnhaaEqT
import Derived.Test.YtdbkkbeelemnhaaRNums
import Derived.Test.YtdbkkbeelemnhaaTier2
set_option linter.unusedVariables false
namespace Go.Proofs.Ytdbkkbeelemnhaa
open Go.RowKit
attribute [local go_sem ↓] Go.wp_at_zero Go.wp_at_succ
def rgD (a b : Gm) : Bool :=
  if (a.name.toList == b.name.toList) = false then false else if (a.kind == b.kind) = false then false else if eqI (numsL a) (numsL b) = false then false
  else if ((a.addons.length : Int) == b.addons.length) = false then false else if ((a.tiers.length : Int) == b.tiers.length) = false then false

  else if eqA a.addons b.addons = false then false else eqT a.tiers b.tiers
theorem eqA_cut {l m : List Ad} (h : l.length = m.length) (k : Nat) (hk : k < l.length) : adD (l.getD k default) (m.getD k default) = false → eqA l m = false := eqA_no k hk
set_option maxRecDepth 20000 in
set_option maxHeartbeats 4000000 in
theorem rsameG_any (a b : Gm) (w : World) (ha : a.Ok w) (hb : b.Ok w) : Calls Try.prog 32 #[a.val, b.val] w fun e w' => e = .returned (.bool (rgD a b)) ∧ Fr [] w w' := by
  obtain ⟨E, hE⟩ : ∃ E, E = rgD a b := ⟨_, rfl⟩
  rw [← hE]
  simp only [rgD] at hE
  have hNA := fun w => numbers_any a w
  have hNB := fun w => numbers_any b w
  simp only [show ∀ g : Gm, g.val = .agg g.cells.toArray from fun _ => rfl] at hNA hNB
  obtain ⟨csa, hcsa⟩ : ∃ cs, cs = a.cells := ⟨_, rfl⟩
  obtain ⟨csb, hcsb⟩ : ∃ cs, cs = b.cells := ⟨_, rfl⟩
  have hla : csa.length = 22 := by rw [hcsa]; rfl
  have hlb : csb.length = 22 := by rw [hcsb]; rfl
  have hga : ∀ w c, GmAt w c a → w.rangeAt c 0 csa ∧ w.cell? ⟨c, 0, none⟩ = some (.string a.name) ∧ w.cell? ⟨c, 1, none⟩ = some (.int .i64 a.kind) ∧ w.cell? ⟨c, 20, none⟩ = some (.slice a.aa a.addons.length a.ac) ∧ w.cell? ⟨c, 21, none⟩ = some (.slice a.ta a.tiers.length a.tc) := fun w c h => ⟨fun j v hv => by rw [Nat.zero_add]; exact h.cell j v (by rw [← hcsa]; exact hv), h.cell 0 _ rfl, h.cell 1 _ rfl, h.cell 20 _ rfl, h.cell 21 _ rfl⟩
  have hgb : ∀ w c, GmAt w c b → w.rangeAt c 0 csb ∧ w.cell? ⟨c, 0, none⟩ = some (.string b.name) ∧ w.cell? ⟨c, 1, none⟩ = some (.int .i64 b.kind) ∧ w.cell? ⟨c, 20, none⟩ = some (.slice b.aa b.addons.length b.ac) ∧ w.cell? ⟨c, 21, none⟩ = some (.slice b.ta b.tiers.length b.tc) := fun w c h => ⟨fun j v hv => by rw [Nat.zero_add]; exact h.cell j v (by rw [← hcsb]; exact hv), h.cell 0 _ rfl, h.cell 1 _ rfl, h.cell 20 _ rfl, h.cell 21 _ rfl⟩
  rw [← hcsa] at hNA
  rw [← hcsb] at hNB
  have hA := ha.addons
  have hB := hb.addons
  have hT := ha.tiers
  have hU := hb.tiers
  have lA := hA.rd.len.2
  have lB := hB.rd.len.2
  have lT := hT.rd.len.2
  have lU := hU.rd.len.2
  unfold maxLen at lA lB lT lU
  obtain ⟨p0, hp0⟩ : ∃ x, x = a.name := ⟨_, rfl⟩
  obtain ⟨q0, hq0⟩ : ∃ x, x = b.name := ⟨_, rfl⟩
  obtain ⟨p1, hp1⟩ : ∃ x, x = a.kind := ⟨_, rfl⟩
  obtain ⟨q1, hq1⟩ : ∃ x, x = b.kind := ⟨_, rfl⟩
  rw [← hp0, ← hp1] at hga
  rw [← hq0, ← hq1] at hgb
  rw [← hp0, ← hp1, ← hq0, ← hq1] at hE
  clear hp0 hp1 hq0 hq1
  generalize a.aa = aa at *
  generalize b.aa = ba at *
  generalize a.ac = ac at *
  generalize b.ac = bc at *
  generalize a.ta = ta at *
  generalize b.ta = tb at *
  generalize a.tc = tc at *
  generalize b.tc = td at *
  generalize a.addons = la at *
  generalize b.addons = lb at *
  generalize a.tiers = lt at *
  generalize b.tiers = lu at *
  obtain ⟨na, hna⟩ : ∃ n, n = la.length := ⟨_, rfl⟩
  obtain ⟨nb, hnb⟩ : ∃ n, n = lb.length := ⟨_, rfl⟩
  obtain ⟨nt, hnt⟩ : ∃ n, n = lt.length := ⟨_, rfl⟩
  obtain ⟨mt, hmt⟩ : ∃ n, n = lu.length := ⟨_, rfl⟩
  rw [← hna, ← hnt] at hga
  rw [← hnb, ← hmt] at hgb
  rw [← hna, ← hnb, ← hnt, ← hmt] at hE
  rw [← hna] at lA
  rw [← hnb] at lB
  rw [← hnt] at lT
  rw [← hmt] at lU
  have HNA := Lib.hid hNA
  have HNB := Lib.hid hNB
  have HGA := Lib.hid hga
  have HGB := Lib.hid hgb
  have HLA := Lib.hid hla
  have HLB := Lib.hid hlb
  have HA := Lib.hid hA
  have HB := Lib.hid hB
  have HT := Lib.hid hT
  have HU := Lib.hid hU
  have Hna := Lib.hid hna
  have Hnb := Lib.hid hnb
  have Hnt := Lib.hid hnt
  have Hmt := Lib.hid hmt
  have HV := Lib.hid hE
  clear hNA hNB hga hgb hla hlb hA hB hT hU hna hnb hnt hmt hE hcsa hcsb ha hb
  cases i0 : (p0.toList == q0.toList)
  · have n0 : (p0.toList != q0.toList) = true := by simp only [bne, i0]; rfl
    go_enter Try.func32, Try.ntmps32
    go_wp2_with (first | (refine box_game rfl (.tmp 0) rfl a rfl ?_; intro w1 hg1 hz1 hf1) | (refine box_game rfl (.tmp 1) rfl b rfl ?_; intro wo hg2 hz2 hf2; obtain ⟨hRa, x0, x1, x20, x21⟩ := HGA.out _ _ (hg1.fr hf2 (by simp)); obtain ⟨hRb, y0, y1, y20, y21⟩ := HGB.out _ _ hg2; have hF := hf1.trans hf2; rw [hz1] at y0 y1 y20 y21 hRb ⊢; clear hg1 hg2 hz1 hz2 hf1 hf2))
    go_quiet (fail)
    go_wp2
    go_ret
    exact ⟨retb (by rw [HV.out, if_pos i0]), hF.drewN _⟩
  have n0 : (p0.toList != q0.toList) = false := by simp only [bne, i0]; rfl
  cases i1 : (p1 == q1)
  · have n1 : (p1 != q1) = true := by simp only [bne, i1]; rfl
    go_enter Try.func32, Try.ntmps32
    go_wp2_with (first | (refine box_game rfl (.tmp 0) rfl a rfl ?_; intro w1 hg1 hz1 hf1) | (refine box_game rfl (.tmp 1) rfl b rfl ?_; intro wo hg2 hz2 hf2; obtain ⟨hRa, x0, x1, x20, x21⟩ := HGA.out _ _ (hg1.fr hf2 (by simp)); obtain ⟨hRb, y0, y1, y20, y21⟩ := HGB.out _ _ hg2; have hF := hf1.trans hf2; rw [hz1] at y0 y1 y20 y21 hRb ⊢; clear hg1 hg2 hz1 hz2 hf1 hf2))
    go_quiet (fail)
    go_wp2
    go_ret
    exact ⟨retb (by rw [HV.out, if_neg (by simp [i0]), if_pos i1]), hF.drewN _⟩
  have n1 : (p1 != q1) = false := by simp only [bne, i1]; rfl
  have hv := HV.out
  rw [if_neg (by simp [i0]), if_neg (by simp [i1])] at hv
  have HV1 := Lib.hid hv
  clear hv HV
  go_enter Try.func32, Try.ntmps32
  go_wp2_with (first | (refine box_game rfl (.tmp 0) rfl a rfl ?_; intro w1 hg1 hz1 hf1) | (refine box_game rfl (.tmp 1) rfl b rfl ?_; intro wo hg2 hz2 hf2; obtain ⟨hRa, x0, x1, x20, x21⟩ := HGA.out _ _ (hg1.fr hf2 (by simp)); obtain ⟨hRb, y0, y1, y20, y21⟩ := HGB.out _ _ hg2; have hF := hf1.trans hf2; rw [hz1] at y0 y1 y20 y21 hRb ⊢; clear hg1 hg2 hz1 hz2 hf1 hf2))
  have hu1 := Try.underlying29
  have hia : (Try.prog.info? 29).map (·.size) = some csa.length := by rw [HLA.out]; exact infoGame
  have hib : (Try.prog.info? 29).map (·.size) = some csb.length := by rw [HLB.out]; exact infoGame
  refine wp_region_held_drew (S := (fun w' => Fr [] wo w')) (by kernel_rfl) (Fr.refl [] _).drew (fun hHeld => ?_)
  refine wpAnyH_take (i := 0) (oi := ⟨some 9, _, _, _, _, _⟩) (v := .pointer (some ⟨w.heap.size, 0, none⟩)) rfl (by kernel_rfl) (by kernel_rfl) (by kernel_rfl) (fun _ _ _ h => h) (Or.inl ⟨by rfl, ?_⟩) hHeld ?_
  · intro w hSw; (try dsimp only at hSw); go_simp
  (try simp only [Act.put, List.setIfInBounds_toArray, List.set_cons_zero, List.set_cons_succ])
  refine wpAnyH_take (i := 1) (oi := ⟨some 10, _, _, _, _, _⟩) (v := .string p0) rfl (by kernel_rfl) (by kernel_rfl) (by kernel_rfl) (fun _ _ _ h => h) (Or.inl ⟨by rfl, ?_⟩) hHeld ?_
  · intro w hSw; (try dsimp only at hSw); have hcF := hSw.cell_some x0 (by simp); clear hSw; go_simp
  (try simp only [Act.put, List.setIfInBounds_toArray, List.set_cons_zero, List.set_cons_succ])
  refine wpAnyH_take (i := 2) (oi := ⟨some 11, _, _, _, _, _⟩) (v := .pointer (some ⟨w.heap.size + 1, 0, none⟩)) rfl (by kernel_rfl) (by kernel_rfl) (by kernel_rfl) (fun _ _ _ h => h) (Or.inl ⟨by rfl, ?_⟩) hHeld ?_
  · intro w hSw; (try dsimp only at hSw); go_simp
  (try simp only [Act.put, List.setIfInBounds_toArray, List.set_cons_zero, List.set_cons_succ])
  refine wpAnyH_take (i := 3) (oi := ⟨some 12, _, _, _, _, _⟩) (v := .string q0) rfl (by kernel_rfl) (by kernel_rfl) (by kernel_rfl) (fun _ _ _ h => h) (Or.inl ⟨by rfl, ?_⟩) hHeld ?_
  · intro w hSw; (try dsimp only at hSw); have hcF := hSw.cell_some y0 (by simp); clear hSw; go_simp
  (try simp only [Act.put, List.setIfInBounds_toArray, List.set_cons_zero, List.set_cons_succ])
  refine wpAnyH_take (i := 4) (oi := ⟨some 13, _, _, _, _, _⟩) (v := .bool false) rfl (by kernel_rfl) (by kernel_rfl) (by kernel_rfl) (fun _ _ _ h => h) (Or.inl ⟨by rfl, ?_⟩) hHeld ?_
  · intro w hSw; (try dsimp only at hSw); go_simp
  (try simp only [Act.put, List.setIfInBounds_toArray, List.set_cons_zero, List.set_cons_succ])
  refine wpAnyH_take (i := 5) (oi := ⟨some 14, _, _, _, _, _⟩) (v := .bool false) rfl (by kernel_rfl) (by kernel_rfl) (by kernel_rfl) (fun _ _ _ h => h) (Or.inl ⟨by rfl, ?_⟩) hHeld ?_
  · intro w hSw; (try dsimp only at hSw); go_simp
  (try simp only [Act.put, List.setIfInBounds_toArray, List.set_cons_zero, List.set_cons_succ])
  refine wpAnyH_take (i := 6) (oi := ⟨some 15, _, _, _, _, _⟩) (v := .pointer (some ⟨w.heap.size, 1, none⟩)) rfl (by kernel_rfl) (by kernel_rfl) (by kernel_rfl) (fun _ _ _ h => h) (Or.inl ⟨by rfl, ?_⟩) hHeld ?_
  · intro w hSw; (try dsimp only at hSw); go_simp
  (try simp only [Act.put, List.setIfInBounds_toArray, List.set_cons_zero, List.set_cons_succ])
  refine wpAnyH_take (i := 7) (oi := ⟨some 16, _, _, _, _, _⟩) (v := .int .i64 p1) rfl (by kernel_rfl) (by kernel_rfl) (by kernel_rfl) (fun _ _ _ h => h) (Or.inl ⟨by rfl, ?_⟩) hHeld ?_
  · intro w hSw; (try dsimp only at hSw); have hcF := hSw.cell_some x1 (by simp); clear hSw; go_simp
  (try simp only [Act.put, List.setIfInBounds_toArray, List.set_cons_zero, List.set_cons_succ])
  refine wpAnyH_take (i := 8) (oi := ⟨some 17, _, _, _, _, _⟩) (v := .pointer (some ⟨w.heap.size + 1, 1, none⟩)) rfl (by kernel_rfl) (by kernel_rfl) (by kernel_rfl) (fun _ _ _ h => h) (Or.inl ⟨by rfl, ?_⟩) hHeld ?_
  · intro w hSw; (try dsimp only at hSw); go_simp
  (try simp only [Act.put, List.setIfInBounds_toArray, List.set_cons_zero, List.set_cons_succ])
  refine wpAnyH_take (i := 9) (oi := ⟨some 18, _, _, _, _, _⟩) (v := .int .i64 q1) rfl (by kernel_rfl) (by kernel_rfl) (by kernel_rfl) (fun _ _ _ h => h) (Or.inl ⟨by rfl, ?_⟩) hHeld ?_
  · intro w hSw; (try dsimp only at hSw); have hcF := hSw.cell_some y1 (by simp); clear hSw; go_simp
  (try simp only [Act.put, List.setIfInBounds_toArray, List.set_cons_zero, List.set_cons_succ])
  refine wpAnyH_take (i := 10) (oi := ⟨some 19, _, _, _, _, _⟩) (v := .bool false) rfl (by kernel_rfl) (by kernel_rfl) (by kernel_rfl) (fun _ _ _ h => h) (Or.inl ⟨by rfl, ?_⟩) hHeld ?_
  · intro w hSw; (try dsimp only at hSw); go_simp
  (try simp only [Act.put, List.setIfInBounds_toArray, List.set_cons_zero, List.set_cons_succ])
  refine wpAnyH_take (i := 11) (oi := ⟨some 20, _, _, _, _, _⟩) (v := .bool false) rfl (by kernel_rfl) (by kernel_rfl) (by kernel_rfl) (fun _ _ _ h => h) (Or.inl ⟨by rfl, ?_⟩) hHeld ?_
  · intro w hSw; (try dsimp only at hSw); go_simp
  (try simp only [Act.put, List.setIfInBounds_toArray, List.set_cons_zero, List.set_cons_succ])
  refine wpAnyH_take (i := 12) (oi := ⟨some 21, _, _, _, _, _⟩) (v := .bool false) rfl (by kernel_rfl) (by kernel_rfl) (by kernel_rfl) (fun _ _ _ h => h) (Or.inl ⟨by rfl, ?_⟩) hHeld ?_
  · intro w hSw; (try dsimp only at hSw); go_simp
  (try simp only [Act.put, List.setIfInBounds_toArray, List.set_cons_zero, List.set_cons_succ])
  refine' wpAnyH_take (i := 13) (oi := ⟨some 22, _, _, _, _, _⟩) (v := _) rfl (by kernel_rfl) (by kernel_rfl) (by kernel_rfl) (fun _ _ _ h => h) (yieldsIf_load_mid (by rfl) _ _ rfl _ _ rfl _ _ (fun w h => h.range hRa) hu1 rfl hia) hHeld ?_
  (try simp only [Act.put, List.setIfInBounds_toArray, List.set_cons_zero, List.set_cons_succ])
  refine' wpAnyH_take (i := 15) (oi := ⟨some 24, _, _, _, _, _⟩) (v := _) rfl (by kernel_rfl) (by kernel_rfl) (by kernel_rfl) (fun _ _ _ h => h) (yieldsIf_load_mid (by rfl) _ _ rfl _ _ rfl _ _ (fun w h => h.range hRb) hu1 rfl hib) hHeld ?_
  (try simp only [Act.put, List.setIfInBounds_toArray, List.set_cons_zero, List.set_cons_succ])
  refine wpAnyH_ready (rs := [14]) (by kernel_rfl) (by simp) ?_
  refine AllReadyH.cons (o := ⟨some 23, _, _, _, _, _⟩) rfl (fun K hK => ?_) AllReadyH.nil
  rw [if_pos (by rfl)]
  go_simp
  refine (HNA.out _).mono ?_
  rintro e w3 ⟨b3, rfl, hr3, fr⟩
  refine hK.out _ _ (hHeld.trans fr) (fun hHeld' => ?_)
  clear hK K hHeld
  have hHeld := hHeld'
  clear hHeld'
  (try simp only [Act.put, List.setIfInBounds_toArray, List.set_cons_zero, List.set_cons_succ])
  clear fr
  refine wpAnyH_ready (rs := [16]) (by kernel_rfl) (by simp) ?_
  refine AllReadyH.cons (o := ⟨some 25, _, _, _, _, _⟩) rfl (fun K hK => ?_) AllReadyH.nil
  rw [if_pos (by rfl)]
  go_simp
  refine (HNB.out _).mono ?_
  rintro e w4 ⟨b4, rfl, hr4, fr⟩
  have hr3' := hr3.frk fr (by simp)
  refine hK.out _ _ (hHeld.trans fr) (fun hHeld' => ?_)
  clear hK K hHeld
  have hHeld := hHeld'
  clear hHeld'
  (try simp only [Act.put, List.setIfInBounds_toArray, List.set_cons_zero, List.set_cons_succ])
  clear fr hr3
  refine wpAnyH_ready (rs := [17]) (by kernel_rfl) (by simp) ?_
  refine AllReadyH.cons (o := ⟨some 26, _, _, _, _, _⟩) rfl (fun K hK => ?_) AllReadyH.nil
  rw [if_pos (by rfl)]
  go_simp
  refine (rsameI_any _ _ _ _ _ hr3' hr4).mono ?_
  rintro e w5 ⟨rfl, fr⟩
  refine hK.out _ _ (hHeld.trans fr) (fun hHeld' => ?_)
  clear hK K hHeld
  have hHeld := hHeld'
  clear hHeld'
  (try simp only [Act.put, List.setIfInBounds_toArray, List.set_cons_zero, List.set_cons_succ])
  clear hr3' hr4 fr
  generalize eqI (numsL a) (numsL b) = eq at *
  cases eq
  · have hq := HV1.out
    rw [if_pos rfl] at hq
    have HQ := Lib.hid hq
    refine wpAnyH_take (i := 18) (oi := ⟨some 27, _, _, _, _, _⟩) (v := .bool true) rfl (by kernel_rfl) (by kernel_rfl) (by kernel_rfl) (fun _ _ _ h => h) (Or.inl ⟨by rfl, ?_⟩) hHeld ?_
    · intro w hSw; (try dsimp only at hSw); go_simp
    (try simp only [Act.put, List.setIfInBounds_toArray, List.set_cons_zero, List.set_cons_succ])
    refine wpAnyH_take (i := 19) (oi := ⟨some 28, _, _, _, _, _⟩) (v := .bool true) rfl (by kernel_rfl) (by kernel_rfl) (by kernel_rfl) (fun _ _ _ h => h) (Or.inl ⟨by rfl, ?_⟩) hHeld ?_
    · intro w hSw; (try dsimp only at hSw); go_simp
    (try simp only [Act.put, List.setIfInBounds_toArray, List.set_cons_zero, List.set_cons_succ])
    refine wpAnyH_take (i := 20) (oi := ⟨some 29, _, _, _, _, _⟩) (v := .bool true) rfl (by kernel_rfl) (by kernel_rfl) (by kernel_rfl) (fun _ _ _ h => h) (Or.inl ⟨by rfl, ?_⟩) hHeld ?_
    · intro w hSw; (try dsimp only at hSw); go_simp
    (try simp only [Act.put, List.setIfInBounds_toArray, List.set_cons_zero, List.set_cons_succ])
    refine wpAnyH_take (i := 21) (oi := ⟨some 30, _, _, _, _, _⟩) (v := undef) rfl (by kernel_rfl) (by kernel_rfl) (by kernel_rfl) (fun _ _ _ h => h) (Or.inr ⟨by rfl, rfl⟩) hHeld ?_
    (try simp only [Act.put, List.setIfInBounds_toArray, List.set_cons_zero, List.set_cons_succ])
    refine wpAnyH_take (i := 22) (oi := ⟨some 31, _, _, _, _, _⟩) (v := undef) rfl (by kernel_rfl) (by kernel_rfl) (by kernel_rfl) (fun _ _ _ h => h) (Or.inr ⟨by rfl, rfl⟩) hHeld ?_
    (try simp only [Act.put, List.setIfInBounds_toArray, List.set_cons_zero, List.set_cons_succ])
    refine wpAnyH_take (i := 23) (oi := ⟨some 32, _, _, _, _, _⟩) (v := undef) rfl (by kernel_rfl) (by kernel_rfl) (by kernel_rfl) (fun _ _ _ h => h) (Or.inr ⟨by rfl, rfl⟩) hHeld ?_
    (try simp only [Act.put, List.setIfInBounds_toArray, List.set_cons_zero, List.set_cons_succ])
    refine wpAnyH_take (i := 24) (oi := ⟨some 33, _, _, _, _, _⟩) (v := undef) rfl (by kernel_rfl) (by kernel_rfl) (by kernel_rfl) (fun _ _ _ h => h) (Or.inr ⟨by rfl, rfl⟩) hHeld ?_
    (try simp only [Act.put, List.setIfInBounds_toArray, List.set_cons_zero, List.set_cons_succ])
    refine wpAnyH_take (i := 25) (oi := ⟨some 34, _, _, _, _, _⟩) (v := undef) rfl (by kernel_rfl) (by kernel_rfl) (by kernel_rfl) (fun _ _ _ h => h) (Or.inr ⟨by rfl, rfl⟩) hHeld ?_
    (try simp only [Act.put, List.setIfInBounds_toArray, List.set_cons_zero, List.set_cons_succ])
    refine wpAnyH_take (i := 26) (oi := ⟨some 35, _, _, _, _, _⟩) (v := undef) rfl (by kernel_rfl) (by kernel_rfl) (by kernel_rfl) (fun _ _ _ h => h) (Or.inr ⟨by rfl, rfl⟩) hHeld ?_
    (try simp only [Act.put, List.setIfInBounds_toArray, List.set_cons_zero, List.set_cons_succ])
    refine wpAnyH_take (i := 27) (oi := ⟨some 36, _, _, _, _, _⟩) (v := undef) rfl (by kernel_rfl) (by kernel_rfl) (by kernel_rfl) (fun _ _ _ h => h) (Or.inr ⟨by rfl, rfl⟩) hHeld ?_
    (try simp only [Act.put, List.setIfInBounds_toArray, List.set_cons_zero, List.set_cons_succ])
    refine wpAnyH_take (i := 28) (oi := ⟨some 37, _, _, _, _, _⟩) (v := .bool true) rfl (by kernel_rfl) (by kernel_rfl) (by kernel_rfl) (fun _ _ _ h => h) (Or.inl ⟨by rfl, ?_⟩) hHeld ?_
    · intro w hSw; (try dsimp only at hSw); go_simp
    (try simp only [Act.put, List.setIfInBounds_toArray, List.set_cons_zero, List.set_cons_succ])
    refine wpAnyH_take (i := 29) (oi := ⟨some 38, _, _, _, _, _⟩) (v := .bool true) rfl (by kernel_rfl) (by kernel_rfl) (by kernel_rfl) (fun _ _ _ h => h) (Or.inl ⟨by rfl, ?_⟩) hHeld ?_
    · intro w hSw; (try dsimp only at hSw); go_simp
    (try simp only [Act.put, List.setIfInBounds_toArray, List.set_cons_zero, List.set_cons_succ])
    refine wpAnyH_take (i := 30) (oi := ⟨some 39, _, _, _, _, _⟩) (v := undef) rfl (by kernel_rfl) (by kernel_rfl) (by kernel_rfl) (fun _ _ _ h => h) (Or.inr ⟨by rfl, rfl⟩) hHeld ?_
    (try simp only [Act.put, List.setIfInBounds_toArray, List.set_cons_zero, List.set_cons_succ])
    refine wpAnyH_take (i := 31) (oi := ⟨some 40, _, _, _, _, _⟩) (v := undef) rfl (by kernel_rfl) (by kernel_rfl) (by kernel_rfl) (fun _ _ _ h => h) (Or.inr ⟨by rfl, rfl⟩) hHeld ?_
    (try simp only [Act.put, List.setIfInBounds_toArray, List.set_cons_zero, List.set_cons_succ])
    refine wpAnyH_take (i := 32) (oi := ⟨some 41, _, _, _, _, _⟩) (v := undef) rfl (by kernel_rfl) (by kernel_rfl) (by kernel_rfl) (fun _ _ _ h => h) (Or.inr ⟨by rfl, rfl⟩) hHeld ?_
    (try simp only [Act.put, List.setIfInBounds_toArray, List.set_cons_zero, List.set_cons_succ])
    refine wpAnyH_take (i := 33) (oi := ⟨some 42, _, _, _, _, _⟩) (v := undef) rfl (by kernel_rfl) (by kernel_rfl) (by kernel_rfl) (fun _ _ _ h => h) (Or.inr ⟨by rfl, rfl⟩) hHeld ?_
    (try simp only [Act.put, List.setIfInBounds_toArray, List.set_cons_zero, List.set_cons_succ])
    refine wpAnyH_take (i := 34) (oi := ⟨some 43, _, _, _, _, _⟩) (v := undef) rfl (by kernel_rfl) (by kernel_rfl) (by kernel_rfl) (fun _ _ _ h => h) (Or.inr ⟨by rfl, rfl⟩) hHeld ?_
    (try simp only [Act.put, List.setIfInBounds_toArray, List.set_cons_zero, List.set_cons_succ])
    refine wpAnyH_take (i := 35) (oi := ⟨some 44, _, _, _, _, _⟩) (v := undef) rfl (by kernel_rfl) (by kernel_rfl) (by kernel_rfl) (fun _ _ _ h => h) (Or.inr ⟨by rfl, rfl⟩) hHeld ?_
    (try simp only [Act.put, List.setIfInBounds_toArray, List.set_cons_zero, List.set_cons_succ])
    refine wpAnyH_take (i := 36) (oi := ⟨some 45, _, _, _, _, _⟩) (v := undef) rfl (by kernel_rfl) (by kernel_rfl) (by kernel_rfl) (fun _ _ _ h => h) (Or.inr ⟨by rfl, rfl⟩) hHeld ?_
    (try simp only [Act.put, List.setIfInBounds_toArray, List.set_cons_zero, List.set_cons_succ])
    refine wpAnyH_take (i := 37) (oi := ⟨some 46, _, _, _, _, _⟩) (v := .bool true) rfl (by kernel_rfl) (by kernel_rfl) (by kernel_rfl) (fun _ _ _ h => h) (Or.inl ⟨by rfl, ?_⟩) hHeld ?_
    · intro w hSw; (try dsimp only at hSw); go_simp
    (try simp only [Act.put, List.setIfInBounds_toArray, List.set_cons_zero, List.set_cons_succ])
    refine wpAnyH_done (by kernel_rfl) ?_ _
    have hW := hHeld
    have HW := Lib.hid hW
    clear hW hHeld hq
    go_wp2_with fail
    go_ret
    exact ⟨retb HQ.out.symm, hF.trans HW.out⟩
  have hv := HV1.out
  rw [if_neg (by simp)] at hv
  have HV2 := Lib.hid hv
  clear hv HV1
  cases il : ((na : Int) == nb)
  · have nl : ((na : Int) != nb) = true := by simp only [bne, il]; rfl
    have hq := HV2.out
    rw [if_pos il] at hq
    have HQ := Lib.hid hq
    refine wpAnyH_take (i := 18) (oi := ⟨some 27, _, _, _, _, _⟩) (v := .bool false) rfl (by kernel_rfl) (by kernel_rfl) (by kernel_rfl) (fun _ _ _ h => h) (Or.inl ⟨by rfl, ?_⟩) hHeld ?_
    · intro w hSw; (try dsimp only at hSw); go_simp
    (try simp only [Act.put, List.setIfInBounds_toArray, List.set_cons_zero, List.set_cons_succ])
    refine wpAnyH_take (i := 19) (oi := ⟨some 28, _, _, _, _, _⟩) (v := .bool false) rfl (by kernel_rfl) (by kernel_rfl) (by kernel_rfl) (fun _ _ _ h => h) (Or.inl ⟨by rfl, ?_⟩) hHeld ?_
    · intro w hSw; (try dsimp only at hSw); go_simp
    (try simp only [Act.put, List.setIfInBounds_toArray, List.set_cons_zero, List.set_cons_succ])
    refine wpAnyH_take (i := 20) (oi := ⟨some 29, _, _, _, _, _⟩) (v := .bool false) rfl (by kernel_rfl) (by kernel_rfl) (by kernel_rfl) (fun _ _ _ h => h) (Or.inl ⟨by rfl, ?_⟩) hHeld ?_
    · intro w hSw; (try dsimp only at hSw); go_simp
    (try simp only [Act.put, List.setIfInBounds_toArray, List.set_cons_zero, List.set_cons_succ])
    refine wpAnyH_take (i := 21) (oi := ⟨some 30, _, _, _, _, _⟩) (v := .pointer (some ⟨w.heap.size, 20, none⟩)) rfl (by kernel_rfl) (by kernel_rfl) (by kernel_rfl) (fun _ _ _ h => h) (Or.inl ⟨by rfl, ?_⟩) hHeld ?_
    · intro w hSw; (try dsimp only at hSw); go_simp
    (try simp only [Act.put, List.setIfInBounds_toArray, List.set_cons_zero, List.set_cons_succ])
    refine wpAnyH_take (i := 22) (oi := ⟨some 31, _, _, _, _, _⟩) (v := .slice aa na ac) rfl (by kernel_rfl) (by kernel_rfl) (by kernel_rfl) (fun _ _ _ h => h) (Or.inl ⟨by rfl, ?_⟩) hHeld ?_
    · intro w hSw; (try dsimp only at hSw); have hcF := hSw.cell_some x20 (by simp); clear hSw; go_simp
    (try simp only [Act.put, List.setIfInBounds_toArray, List.set_cons_zero, List.set_cons_succ])
    refine wpAnyH_take (i := 23) (oi := ⟨some 32, _, _, _, _, _⟩) (v := .int .i64 na) rfl (by kernel_rfl) (by kernel_rfl) (by kernel_rfl) (fun _ _ _ h => h) (Or.inl ⟨by rfl, ?_⟩) hHeld ?_
    · intro w hSw; (try dsimp only at hSw); go_simp
    (try simp only [Act.put, List.setIfInBounds_toArray, List.set_cons_zero, List.set_cons_succ])
    refine wpAnyH_take (i := 24) (oi := ⟨some 33, _, _, _, _, _⟩) (v := .pointer (some ⟨w.heap.size + 1, 20, none⟩)) rfl (by kernel_rfl) (by kernel_rfl) (by kernel_rfl) (fun _ _ _ h => h) (Or.inl ⟨by rfl, ?_⟩) hHeld ?_
    · intro w hSw; (try dsimp only at hSw); go_simp
    (try simp only [Act.put, List.setIfInBounds_toArray, List.set_cons_zero, List.set_cons_succ])
    refine wpAnyH_take (i := 25) (oi := ⟨some 34, _, _, _, _, _⟩) (v := .slice ba nb bc) rfl (by kernel_rfl) (by kernel_rfl) (by kernel_rfl) (fun _ _ _ h => h) (Or.inl ⟨by rfl, ?_⟩) hHeld ?_
    · intro w hSw; (try dsimp only at hSw); have hcF := hSw.cell_some y20 (by simp); clear hSw; go_simp
    (try simp only [Act.put, List.setIfInBounds_toArray, List.set_cons_zero, List.set_cons_succ])
    refine wpAnyH_take (i := 26) (oi := ⟨some 35, _, _, _, _, _⟩) (v := .int .i64 nb) rfl (by kernel_rfl) (by kernel_rfl) (by kernel_rfl) (fun _ _ _ h => h) (Or.inl ⟨by rfl, ?_⟩) hHeld ?_
    · intro w hSw; (try dsimp only at hSw); go_simp
    (try simp only [Act.put, List.setIfInBounds_toArray, List.set_cons_zero, List.set_cons_succ])
    refine wpAnyH_take (i := 27) (oi := ⟨some 36, _, _, _, _, _⟩) (v := .bool true) rfl (by kernel_rfl) (by kernel_rfl) (by kernel_rfl) (fun _ _ _ h => h) (Or.inl ⟨by rfl, ?_⟩) hHeld ?_
    · intro w hSw; (try dsimp only at hSw); go_simp
    (try simp only [Act.put, List.setIfInBounds_toArray, List.set_cons_zero, List.set_cons_succ])
    refine wpAnyH_take (i := 28) (oi := ⟨some 37, _, _, _, _, _⟩) (v := .bool true) rfl (by kernel_rfl) (by kernel_rfl) (by kernel_rfl) (fun _ _ _ h => h) (Or.inl ⟨by rfl, ?_⟩) hHeld ?_
    · intro w hSw; (try dsimp only at hSw); go_simp
    (try simp only [Act.put, List.setIfInBounds_toArray, List.set_cons_zero, List.set_cons_succ])
    refine wpAnyH_take (i := 29) (oi := ⟨some 38, _, _, _, _, _⟩) (v := .bool true) rfl (by kernel_rfl) (by kernel_rfl) (by kernel_rfl) (fun _ _ _ h => h) (Or.inl ⟨by rfl, ?_⟩) hHeld ?_
    · intro w hSw; (try dsimp only at hSw); go_simp
    (try simp only [Act.put, List.setIfInBounds_toArray, List.set_cons_zero, List.set_cons_succ])
    refine wpAnyH_take (i := 30) (oi := ⟨some 39, _, _, _, _, _⟩) (v := undef) rfl (by kernel_rfl) (by kernel_rfl) (by kernel_rfl) (fun _ _ _ h => h) (Or.inr ⟨by rfl, rfl⟩) hHeld ?_
    (try simp only [Act.put, List.setIfInBounds_toArray, List.set_cons_zero, List.set_cons_succ])
    refine wpAnyH_take (i := 31) (oi := ⟨some 40, _, _, _, _, _⟩) (v := undef) rfl (by kernel_rfl) (by kernel_rfl) (by kernel_rfl) (fun _ _ _ h => h) (Or.inr ⟨by rfl, rfl⟩) hHeld ?_
    (try simp only [Act.put, List.setIfInBounds_toArray, List.set_cons_zero, List.set_cons_succ])
    refine wpAnyH_take (i := 32) (oi := ⟨some 41, _, _, _, _, _⟩) (v := undef) rfl (by kernel_rfl) (by kernel_rfl) (by kernel_rfl) (fun _ _ _ h => h) (Or.inr ⟨by rfl, rfl⟩) hHeld ?_
    (try simp only [Act.put, List.setIfInBounds_toArray, List.set_cons_zero, List.set_cons_succ])
    refine wpAnyH_take (i := 33) (oi := ⟨some 42, _, _, _, _, _⟩) (v := undef) rfl (by kernel_rfl) (by kernel_rfl) (by kernel_rfl) (fun _ _ _ h => h) (Or.inr ⟨by rfl, rfl⟩) hHeld ?_
    (try simp only [Act.put, List.setIfInBounds_toArray, List.set_cons_zero, List.set_cons_succ])
    refine wpAnyH_take (i := 34) (oi := ⟨some 43, _, _, _, _, _⟩) (v := undef) rfl (by kernel_rfl) (by kernel_rfl) (by kernel_rfl) (fun _ _ _ h => h) (Or.inr ⟨by rfl, rfl⟩) hHeld ?_
    (try simp only [Act.put, List.setIfInBounds_toArray, List.set_cons_zero, List.set_cons_succ])
    refine wpAnyH_take (i := 35) (oi := ⟨some 44, _, _, _, _, _⟩) (v := undef) rfl (by kernel_rfl) (by kernel_rfl) (by kernel_rfl) (fun _ _ _ h => h) (Or.inr ⟨by rfl, rfl⟩) hHeld ?_
    (try simp only [Act.put, List.setIfInBounds_toArray, List.set_cons_zero, List.set_cons_succ])
    refine wpAnyH_take (i := 36) (oi := ⟨some 45, _, _, _, _, _⟩) (v := undef) rfl (by kernel_rfl) (by kernel_rfl) (by kernel_rfl) (fun _ _ _ h => h) (Or.inr ⟨by rfl, rfl⟩) hHeld ?_
    (try simp only [Act.put, List.setIfInBounds_toArray, List.set_cons_zero, List.set_cons_succ])
    refine wpAnyH_take (i := 37) (oi := ⟨some 46, _, _, _, _, _⟩) (v := .bool true) rfl (by kernel_rfl) (by kernel_rfl) (by kernel_rfl) (fun _ _ _ h => h) (Or.inl ⟨by rfl, ?_⟩) hHeld ?_
    · intro w hSw; (try dsimp only at hSw); go_simp
    (try simp only [Act.put, List.setIfInBounds_toArray, List.set_cons_zero, List.set_cons_succ])
    refine wpAnyH_done (by kernel_rfl) ?_ _
    have hW := hHeld
    have HW := Lib.hid hW
    clear hW hHeld hq
    go_wp2_with fail
    go_ret
    exact ⟨retb HQ.out.symm, hF.trans HW.out⟩
  have nl : ((na : Int) != nb) = false := by simp only [bne, il]; rfl
  have hv := HV2.out
  rw [if_neg (by simp [il])] at hv
  have HV3 := Lib.hid hv
  clear hv HV2
  cases it : ((nt : Int) == mt)
  · have nt' : ((nt : Int) != mt) = true := by simp only [bne, it]; rfl
    have hq := HV3.out
    rw [if_pos it] at hq
    have HQ := Lib.hid hq
    refine wpAnyH_take (i := 18) (oi := ⟨some 27, _, _, _, _, _⟩) (v := .bool false) rfl (by kernel_rfl) (by kernel_rfl) (by kernel_rfl) (fun _ _ _ h => h) (Or.inl ⟨by rfl, ?_⟩) hHeld ?_
    · intro w hSw; (try dsimp only at hSw); go_simp
    (try simp only [Act.put, List.setIfInBounds_toArray, List.set_cons_zero, List.set_cons_succ])
    refine wpAnyH_take (i := 19) (oi := ⟨some 28, _, _, _, _, _⟩) (v := .bool false) rfl (by kernel_rfl) (by kernel_rfl) (by kernel_rfl) (fun _ _ _ h => h) (Or.inl ⟨by rfl, ?_⟩) hHeld ?_
    · intro w hSw; (try dsimp only at hSw); go_simp
    (try simp only [Act.put, List.setIfInBounds_toArray, List.set_cons_zero, List.set_cons_succ])
    refine wpAnyH_take (i := 20) (oi := ⟨some 29, _, _, _, _, _⟩) (v := .bool false) rfl (by kernel_rfl) (by kernel_rfl) (by kernel_rfl) (fun _ _ _ h => h) (Or.inl ⟨by rfl, ?_⟩) hHeld ?_
    · intro w hSw; (try dsimp only at hSw); go_simp
    (try simp only [Act.put, List.setIfInBounds_toArray, List.set_cons_zero, List.set_cons_succ])
    refine wpAnyH_take (i := 21) (oi := ⟨some 30, _, _, _, _, _⟩) (v := .pointer (some ⟨w.heap.size, 20, none⟩)) rfl (by kernel_rfl) (by kernel_rfl) (by kernel_rfl) (fun _ _ _ h => h) (Or.inl ⟨by rfl, ?_⟩) hHeld ?_
    · intro w hSw; (try dsimp only at hSw); go_simp
    (try simp only [Act.put, List.setIfInBounds_toArray, List.set_cons_zero, List.set_cons_succ])
    refine wpAnyH_take (i := 22) (oi := ⟨some 31, _, _, _, _, _⟩) (v := .slice aa na ac) rfl (by kernel_rfl) (by kernel_rfl) (by kernel_rfl) (fun _ _ _ h => h) (Or.inl ⟨by rfl, ?_⟩) hHeld ?_
    · intro w hSw; (try dsimp only at hSw); have hcF := hSw.cell_some x20 (by simp); clear hSw; go_simp
    (try simp only [Act.put, List.setIfInBounds_toArray, List.set_cons_zero, List.set_cons_succ])
    refine wpAnyH_take (i := 23) (oi := ⟨some 32, _, _, _, _, _⟩) (v := .int .i64 na) rfl (by kernel_rfl) (by kernel_rfl) (by kernel_rfl) (fun _ _ _ h => h) (Or.inl ⟨by rfl, ?_⟩) hHeld ?_
    · intro w hSw; (try dsimp only at hSw); go_simp
    (try simp only [Act.put, List.setIfInBounds_toArray, List.set_cons_zero, List.set_cons_succ])
    refine wpAnyH_take (i := 24) (oi := ⟨some 33, _, _, _, _, _⟩) (v := .pointer (some ⟨w.heap.size + 1, 20, none⟩)) rfl (by kernel_rfl) (by kernel_rfl) (by kernel_rfl) (fun _ _ _ h => h) (Or.inl ⟨by rfl, ?_⟩) hHeld ?_
    · intro w hSw; (try dsimp only at hSw); go_simp
    (try simp only [Act.put, List.setIfInBounds_toArray, List.set_cons_zero, List.set_cons_succ])
    refine wpAnyH_take (i := 25) (oi := ⟨some 34, _, _, _, _, _⟩) (v := .slice ba nb bc) rfl (by kernel_rfl) (by kernel_rfl) (by kernel_rfl) (fun _ _ _ h => h) (Or.inl ⟨by rfl, ?_⟩) hHeld ?_
    · intro w hSw; (try dsimp only at hSw); have hcF := hSw.cell_some y20 (by simp); clear hSw; go_simp
    (try simp only [Act.put, List.setIfInBounds_toArray, List.set_cons_zero, List.set_cons_succ])
    refine wpAnyH_take (i := 26) (oi := ⟨some 35, _, _, _, _, _⟩) (v := .int .i64 nb) rfl (by kernel_rfl) (by kernel_rfl) (by kernel_rfl) (fun _ _ _ h => h) (Or.inl ⟨by rfl, ?_⟩) hHeld ?_
    · intro w hSw; (try dsimp only at hSw); go_simp
    (try simp only [Act.put, List.setIfInBounds_toArray, List.set_cons_zero, List.set_cons_succ])
    refine wpAnyH_take (i := 27) (oi := ⟨some 36, _, _, _, _, _⟩) (v := .bool false) rfl (by kernel_rfl) (by kernel_rfl) (by kernel_rfl) (fun _ _ _ h => h) (Or.inl ⟨by rfl, ?_⟩) hHeld ?_
    · intro w hSw; (try dsimp only at hSw); go_simp
    (try simp only [Act.put, List.setIfInBounds_toArray, List.set_cons_zero, List.set_cons_succ])
    refine wpAnyH_take (i := 28) (oi := ⟨some 37, _, _, _, _, _⟩) (v := .bool false) rfl (by kernel_rfl) (by kernel_rfl) (by kernel_rfl) (fun _ _ _ h => h) (Or.inl ⟨by rfl, ?_⟩) hHeld ?_
    · intro w hSw; (try dsimp only at hSw); go_simp
    (try simp only [Act.put, List.setIfInBounds_toArray, List.set_cons_zero, List.set_cons_succ])
    refine wpAnyH_take (i := 29) (oi := ⟨some 38, _, _, _, _, _⟩) (v := .bool false) rfl (by kernel_rfl) (by kernel_rfl) (by kernel_rfl) (fun _ _ _ h => h) (Or.inl ⟨by rfl, ?_⟩) hHeld ?_
    · intro w hSw; (try dsimp only at hSw); go_simp
    (try simp only [Act.put, List.setIfInBounds_toArray, List.set_cons_zero, List.set_cons_succ])
    refine wpAnyH_take (i := 30) (oi := ⟨some 39, _, _, _, _, _⟩) (v := .pointer (some ⟨w.heap.size, 21, none⟩)) rfl (by kernel_rfl) (by kernel_rfl) (by kernel_rfl) (fun _ _ _ h => h) (Or.inl ⟨by rfl, ?_⟩) hHeld ?_
    · intro w hSw; (try dsimp only at hSw); go_simp
    (try simp only [Act.put, List.setIfInBounds_toArray, List.set_cons_zero, List.set_cons_succ])
    refine wpAnyH_take (i := 31) (oi := ⟨some 40, _, _, _, _, _⟩) (v := .slice ta nt tc) rfl (by kernel_rfl) (by kernel_rfl) (by kernel_rfl) (fun _ _ _ h => h) (Or.inl ⟨by rfl, ?_⟩) hHeld ?_
    · intro w hSw; (try dsimp only at hSw); have hcF := hSw.cell_some x21 (by simp); clear hSw; go_simp
    (try simp only [Act.put, List.setIfInBounds_toArray, List.set_cons_zero, List.set_cons_succ])
    refine wpAnyH_take (i := 32) (oi := ⟨some 41, _, _, _, _, _⟩) (v := .int .i64 nt) rfl (by kernel_rfl) (by kernel_rfl) (by kernel_rfl) (fun _ _ _ h => h) (Or.inl ⟨by rfl, ?_⟩) hHeld ?_
    · intro w hSw; (try dsimp only at hSw); go_simp
    (try simp only [Act.put, List.setIfInBounds_toArray, List.set_cons_zero, List.set_cons_succ])
    refine wpAnyH_take (i := 33) (oi := ⟨some 42, _, _, _, _, _⟩) (v := .pointer (some ⟨w.heap.size + 1, 21, none⟩)) rfl (by kernel_rfl) (by kernel_rfl) (by kernel_rfl) (fun _ _ _ h => h) (Or.inl ⟨by rfl, ?_⟩) hHeld ?_
    · intro w hSw; (try dsimp only at hSw); go_simp
    (try simp only [Act.put, List.setIfInBounds_toArray, List.set_cons_zero, List.set_cons_succ])
    refine wpAnyH_take (i := 34) (oi := ⟨some 43, _, _, _, _, _⟩) (v := .slice tb mt td) rfl (by kernel_rfl) (by kernel_rfl) (by kernel_rfl) (fun _ _ _ h => h) (Or.inl ⟨by rfl, ?_⟩) hHeld ?_
    · intro w hSw; (try dsimp only at hSw); have hcF := hSw.cell_some y21 (by simp); clear hSw; go_simp
    (try simp only [Act.put, List.setIfInBounds_toArray, List.set_cons_zero, List.set_cons_succ])
    refine wpAnyH_take (i := 35) (oi := ⟨some 44, _, _, _, _, _⟩) (v := .int .i64 mt) rfl (by kernel_rfl) (by kernel_rfl) (by kernel_rfl) (fun _ _ _ h => h) (Or.inl ⟨by rfl, ?_⟩) hHeld ?_
    · intro w hSw; (try dsimp only at hSw); go_simp
    (try simp only [Act.put, List.setIfInBounds_toArray, List.set_cons_zero, List.set_cons_succ])
    refine wpAnyH_take (i := 36) (oi := ⟨some 45, _, _, _, _, _⟩) (v := .bool true) rfl (by kernel_rfl) (by kernel_rfl) (by kernel_rfl) (fun _ _ _ h => h) (Or.inl ⟨by rfl, ?_⟩) hHeld ?_
    · intro w hSw; (try dsimp only at hSw); go_simp
    (try simp only [Act.put, List.setIfInBounds_toArray, List.set_cons_zero, List.set_cons_succ])
    refine wpAnyH_take (i := 37) (oi := ⟨some 46, _, _, _, _, _⟩) (v := .bool true) rfl (by kernel_rfl) (by kernel_rfl) (by kernel_rfl) (fun _ _ _ h => h) (Or.inl ⟨by rfl, ?_⟩) hHeld ?_
    · intro w hSw; (try dsimp only at hSw); go_simp
    (try simp only [Act.put, List.setIfInBounds_toArray, List.set_cons_zero, List.set_cons_succ])
    refine wpAnyH_done (by kernel_rfl) ?_ _
    have hW := hHeld
    have HW := Lib.hid hW
    clear hW hHeld hq
    go_wp2_with fail
    go_ret
    exact ⟨retb HQ.out.symm, hF.trans HW.out⟩
  have nt' : ((nt : Int) != mt) = false := by simp only [bne, it]; rfl
  have hv := HV3.out
  rw [if_neg (by simp [it])] at hv
  have HV4 := Lib.hid hv
  clear hv HV3
  refine wpAnyH_take (i := 18) (oi := ⟨some 27, _, _, _, _, _⟩) (v := .bool false) rfl (by kernel_rfl) (by kernel_rfl) (by kernel_rfl) (fun _ _ _ h => h) (Or.inl ⟨by rfl, ?_⟩) hHeld ?_
  · intro w hSw; (try dsimp only at hSw); go_simp
  (try simp only [Act.put, List.setIfInBounds_toArray, List.set_cons_zero, List.set_cons_succ])
  refine wpAnyH_take (i := 19) (oi := ⟨some 28, _, _, _, _, _⟩) (v := .bool false) rfl (by kernel_rfl) (by kernel_rfl) (by kernel_rfl) (fun _ _ _ h => h) (Or.inl ⟨by rfl, ?_⟩) hHeld ?_
  · intro w hSw; (try dsimp only at hSw); go_simp
  (try simp only [Act.put, List.setIfInBounds_toArray, List.set_cons_zero, List.set_cons_succ])
  refine wpAnyH_take (i := 20) (oi := ⟨some 29, _, _, _, _, _⟩) (v := .bool false) rfl (by kernel_rfl) (by kernel_rfl) (by kernel_rfl) (fun _ _ _ h => h) (Or.inl ⟨by rfl, ?_⟩) hHeld ?_
  · intro w hSw; (try dsimp only at hSw); go_simp
  (try simp only [Act.put, List.setIfInBounds_toArray, List.set_cons_zero, List.set_cons_succ])
  refine wpAnyH_take (i := 21) (oi := ⟨some 30, _, _, _, _, _⟩) (v := .pointer (some ⟨w.heap.size, 20, none⟩)) rfl (by kernel_rfl) (by kernel_rfl) (by kernel_rfl) (fun _ _ _ h => h) (Or.inl ⟨by rfl, ?_⟩) hHeld ?_
  · intro w hSw; (try dsimp only at hSw); go_simp
  (try simp only [Act.put, List.setIfInBounds_toArray, List.set_cons_zero, List.set_cons_succ])
  refine wpAnyH_take (i := 22) (oi := ⟨some 31, _, _, _, _, _⟩) (v := .slice aa na ac) rfl (by kernel_rfl) (by kernel_rfl) (by kernel_rfl) (fun _ _ _ h => h) (Or.inl ⟨by rfl, ?_⟩) hHeld ?_
  · intro w hSw; (try dsimp only at hSw); have hcF := hSw.cell_some x20 (by simp); clear hSw; go_simp
  (try simp only [Act.put, List.setIfInBounds_toArray, List.set_cons_zero, List.set_cons_succ])
  refine wpAnyH_take (i := 23) (oi := ⟨some 32, _, _, _, _, _⟩) (v := .int .i64 na) rfl (by kernel_rfl) (by kernel_rfl) (by kernel_rfl) (fun _ _ _ h => h) (Or.inl ⟨by rfl, ?_⟩) hHeld ?_
  · intro w hSw; (try dsimp only at hSw); go_simp
  (try simp only [Act.put, List.setIfInBounds_toArray, List.set_cons_zero, List.set_cons_succ])
  refine wpAnyH_take (i := 24) (oi := ⟨some 33, _, _, _, _, _⟩) (v := .pointer (some ⟨w.heap.size + 1, 20, none⟩)) rfl (by kernel_rfl) (by kernel_rfl) (by kernel_rfl) (fun _ _ _ h => h) (Or.inl ⟨by rfl, ?_⟩) hHeld ?_
  · intro w hSw; (try dsimp only at hSw); go_simp
  (try simp only [Act.put, List.setIfInBounds_toArray, List.set_cons_zero, List.set_cons_succ])
  refine wpAnyH_take (i := 25) (oi := ⟨some 34, _, _, _, _, _⟩) (v := .slice ba nb bc) rfl (by kernel_rfl) (by kernel_rfl) (by kernel_rfl) (fun _ _ _ h => h) (Or.inl ⟨by rfl, ?_⟩) hHeld ?_
  · intro w hSw; (try dsimp only at hSw); have hcF := hSw.cell_some y20 (by simp); clear hSw; go_simp
  (try simp only [Act.put, List.setIfInBounds_toArray, List.set_cons_zero, List.set_cons_succ])
  refine wpAnyH_take (i := 26) (oi := ⟨some 35, _, _, _, _, _⟩) (v := .int .i64 nb) rfl (by kernel_rfl) (by kernel_rfl) (by kernel_rfl) (fun _ _ _ h => h) (Or.inl ⟨by rfl, ?_⟩) hHeld ?_
  · intro w hSw; (try dsimp only at hSw); go_simp
  (try simp only [Act.put, List.setIfInBounds_toArray, List.set_cons_zero, List.set_cons_succ])
  refine wpAnyH_take (i := 27) (oi := ⟨some 36, _, _, _, _, _⟩) (v := .bool false) rfl (by kernel_rfl) (by kernel_rfl) (by kernel_rfl) (fun _ _ _ h => h) (Or.inl ⟨by rfl, ?_⟩) hHeld ?_
  · intro w hSw; (try dsimp only at hSw); go_simp
  (try simp only [Act.put, List.setIfInBounds_toArray, List.set_cons_zero, List.set_cons_succ])
  refine wpAnyH_take (i := 28) (oi := ⟨some 37, _, _, _, _, _⟩) (v := .bool false) rfl (by kernel_rfl) (by kernel_rfl) (by kernel_rfl) (fun _ _ _ h => h) (Or.inl ⟨by rfl, ?_⟩) hHeld ?_
  · intro w hSw; (try dsimp only at hSw); go_simp
  (try simp only [Act.put, List.setIfInBounds_toArray, List.set_cons_zero, List.set_cons_succ])
  refine wpAnyH_take (i := 29) (oi := ⟨some 38, _, _, _, _, _⟩) (v := .bool false) rfl (by kernel_rfl) (by kernel_rfl) (by kernel_rfl) (fun _ _ _ h => h) (Or.inl ⟨by rfl, ?_⟩) hHeld ?_
  · intro w hSw; (try dsimp only at hSw); go_simp
  (try simp only [Act.put, List.setIfInBounds_toArray, List.set_cons_zero, List.set_cons_succ])
  refine wpAnyH_take (i := 30) (oi := ⟨some 39, _, _, _, _, _⟩) (v := .pointer (some ⟨w.heap.size, 21, none⟩)) rfl (by kernel_rfl) (by kernel_rfl) (by kernel_rfl) (fun _ _ _ h => h) (Or.inl ⟨by rfl, ?_⟩) hHeld ?_
  · intro w hSw; (try dsimp only at hSw); go_simp
  (try simp only [Act.put, List.setIfInBounds_toArray, List.set_cons_zero, List.set_cons_succ])
  refine wpAnyH_take (i := 31) (oi := ⟨some 40, _, _, _, _, _⟩) (v := .slice ta nt tc) rfl (by kernel_rfl) (by kernel_rfl) (by kernel_rfl) (fun _ _ _ h => h) (Or.inl ⟨by rfl, ?_⟩) hHeld ?_
  · intro w hSw; (try dsimp only at hSw); have hcF := hSw.cell_some x21 (by simp); clear hSw; go_simp
  (try simp only [Act.put, List.setIfInBounds_toArray, List.set_cons_zero, List.set_cons_succ])
  refine wpAnyH_take (i := 32) (oi := ⟨some 41, _, _, _, _, _⟩) (v := .int .i64 nt) rfl (by kernel_rfl) (by kernel_rfl) (by kernel_rfl) (fun _ _ _ h => h) (Or.inl ⟨by rfl, ?_⟩) hHeld ?_
  · intro w hSw; (try dsimp only at hSw); go_simp
  (try simp only [Act.put, List.setIfInBounds_toArray, List.set_cons_zero, List.set_cons_succ])
  refine wpAnyH_take (i := 33) (oi := ⟨some 42, _, _, _, _, _⟩) (v := .pointer (some ⟨w.heap.size + 1, 21, none⟩)) rfl (by kernel_rfl) (by kernel_rfl) (by kernel_rfl) (fun _ _ _ h => h) (Or.inl ⟨by rfl, ?_⟩) hHeld ?_
  · intro w hSw; (try dsimp only at hSw); go_simp
  (try simp only [Act.put, List.setIfInBounds_toArray, List.set_cons_zero, List.set_cons_succ])
  refine wpAnyH_take (i := 34) (oi := ⟨some 43, _, _, _, _, _⟩) (v := .slice tb mt td) rfl (by kernel_rfl) (by kernel_rfl) (by kernel_rfl) (fun _ _ _ h => h) (Or.inl ⟨by rfl, ?_⟩) hHeld ?_
  · intro w hSw; (try dsimp only at hSw); have hcF := hSw.cell_some y21 (by simp); clear hSw; go_simp
  (try simp only [Act.put, List.setIfInBounds_toArray, List.set_cons_zero, List.set_cons_succ])
  refine wpAnyH_take (i := 35) (oi := ⟨some 44, _, _, _, _, _⟩) (v := .int .i64 mt) rfl (by kernel_rfl) (by kernel_rfl) (by kernel_rfl) (fun _ _ _ h => h) (Or.inl ⟨by rfl, ?_⟩) hHeld ?_
  · intro w hSw; (try dsimp only at hSw); go_simp
  (try simp only [Act.put, List.setIfInBounds_toArray, List.set_cons_zero, List.set_cons_succ])
  refine wpAnyH_take (i := 36) (oi := ⟨some 45, _, _, _, _, _⟩) (v := .bool false) rfl (by kernel_rfl) (by kernel_rfl) (by kernel_rfl) (fun _ _ _ h => h) (Or.inl ⟨by rfl, ?_⟩) hHeld ?_
  · intro w hSw; (try dsimp only at hSw); go_simp
  (try simp only [Act.put, List.setIfInBounds_toArray, List.set_cons_zero, List.set_cons_succ])
  refine wpAnyH_take (i := 37) (oi := ⟨some 46, _, _, _, _, _⟩) (v := .bool false) rfl (by kernel_rfl) (by kernel_rfl) (by kernel_rfl) (fun _ _ _ h => h) (Or.inl ⟨by rfl, ?_⟩) hHeld ?_
  · intro w hSw; (try dsimp only at hSw); go_simp
  (try simp only [Act.put, List.setIfInBounds_toArray, List.set_cons_zero, List.set_cons_succ])
  refine wpAnyH_done (by kernel_rfl) ?_ _
  have hW := hHeld
  clear hHeld
  obtain rfl : na = nb := by have := eq_of_beq il; omega
  obtain rfl : nt = mt := by have := eq_of_beq it; omega
  have HR := Lib.hid (hF.trans hW)
  have z20 := hW.cell_some x20 (by simp)
  have z21 := hW.cell_some x21 (by simp)
  have u20 := hW.cell_some y20 (by simp)
  have u21 := hW.cell_some y21 (by simp)
  have HW0 := Lib.hid hW
  clear hRa hRb x0 x1 x20 x21 y0 y1 y20 y21 hu1 hia hib n0 n1 i0 i1 il it nl nt' HNA HNB HGA HGB HLA HLB hW hF
  have hno := @eqA_no la lb
  have hyes := @eqA_yes la lb
  rw [← Hna.out] at hno hyes
  rw [← Hnb.out] at hyes
  have HNO := Lib.hid hno
  have HYES := Lib.hid hyes
  clear hno hyes
  go_wp2_with fail
  go_loopw [5] (fun i wr => ∃ k : Nat, k ≤ na ∧ i = .int .i64 k ∧ Fr [] w5 wr ∧ Hid (∀ j, j < k → adD (la.getD j default) (lb.getD j default) = true)) (fun i _ => na - (intOf i).toNat)
  case atStart => exact ⟨0, by omega, rfl, Fr.refl _ _, Lib.hid (by omega)⟩
  case round =>
    obtain ⟨k, hk, rfl, hf, HJ⟩ := hrel
    have r20 := hf.cell_some z20 (by simp)
    have s20 := hf.cell_some u20 (by simp)
    have hFr := HR.out.trans hf
    by_cases hlt : k < na
    · obtain ⟨x, hx⟩ : ∃ x, la[k]? = some x := ⟨_, List.getElem?_eq_getElem (by have := Hna.out; omega)⟩
      obtain ⟨y, hy⟩ : ∃ y, lb[k]? = some y := ⟨_, List.getElem?_eq_getElem (by have := Hnb.out; omega)⟩
      obtain ⟨g1, o1, rfl, hcell⟩ := RdF.at (f := Ad.cells) HA.out.rd hx
      obtain ⟨g2, o2, rfl, hcell'⟩ := RdF.at (f := Ad.cells) HB.out.rd hy
      have hxo := (HA.out.ok x (List.mem_of_getElem? hx)).fr hFr
      have hyo := (HB.out.ok y (List.mem_of_getElem? hy)).fr hFr
      have c0 := hFr.cell_some (hcell 0 _ rfl) (by simp)
      have c1 := hFr.cell_some (hcell 1 _ rfl) (by simp)
      have c2 := hFr.cell_some (hcell 2 _ rfl) (by simp)
      have c3 := hFr.cell_some (hcell 3 _ rfl) (by simp)
      have c4 := hFr.cell_some (hcell 4 _ rfl) (by simp)
      have c5 := hFr.cell_some (hcell 5 _ rfl) (by simp)
      have d0 := hFr.cell_some (hcell' 0 _ rfl) (by simp)
      have d1 := hFr.cell_some (hcell' 1 _ rfl) (by simp)
      have d2 := hFr.cell_some (hcell' 2 _ rfl) (by simp)
      have d3 := hFr.cell_some (hcell' 3 _ rfl) (by simp)
      have d4 := hFr.cell_some (hcell' 4 _ rfl) (by simp)
      have d5 := hFr.cell_some (hcell' 5 _ rfl) (by simp)
      rw [Nat.add_zero] at c0 d0
      have hgx : la.getD k default = x := by simp [List.getD, hx]
      have hgy : lb.getD k default = y := by simp [List.getD, hy]
      have hnk := HNO.out k hlt
      rw [hgx, hgy] at hnk
      have hnx : adD x y = true → ∀ j, j < k + 1 → adD (la.getD j default) (lb.getD j default) = true := by
        intro h j hj
        by_cases hjk : j < k
        · exact HJ.out j hjk
        · obtain rfl : j = k := by omega
          rw [hgx, hgy]; exact h
      have hq0 := HV4.out
      have hstop : adD x y = false → E = false := fun h => by rw [hq0, if_pos (hnk h)]
      obtain ⟨q, hq⟩ : ∃ q, q = adD x y := ⟨_, rfl⟩
      rw [← hq] at hnx hstop
      unfold adD at hq
      have hfx := hxo.rf
      have hfy := hyo.rf
      have hpx := hxo.rp
      have hpy := hyo.rp
      obtain ⟨name, kind, price, fa, fc, factors, digits, pa, pc, prizes⟩ := x
      obtain ⟨name2, kind2, price2, fa2, fc2, factors2, digits2, pa2, pc2, prizes2⟩ := y
      simp only at c0 c1 c2 c3 c4 c5 d0 d1 d2 d3 d4 d5 hfx hfy hpx hpy hq
      have hfe := fun w (h1 : RdI w (.slice fa factors.length fc) factors) (h2 : RdI w (.slice fa2 factors2.length fc2) factors2) => rsameI_any _ _ factors factors2 w h1 h2
      have hpe := fun w (h1 : RdI w (.slice pa prizes.length pc) prizes) (h2 : RdI w (.slice pa2 prizes2.length pc2) prizes2) => rsameI_any _ _ prizes prizes2 w h1 h2
      generalize eqI factors factors2 = ef at *
      generalize eqI prizes prizes2 = ep at *
      generalize factors.length = fl at *
      generalize prizes.length = pl at *
      generalize factors2.length = fl2 at *
      generalize prizes2.length = pl2 at *
      have m0 := fun ob => ((Fr.refl [] wr).alloc ob).cell_some d0 (by simp)
      have m1 := fun ob => ((Fr.refl [] wr).alloc ob).cell_some d1 (by simp)
      have m2 := fun ob => ((Fr.refl [] wr).alloc ob).cell_some d2 (by simp)
      have m3 := fun ob => ((Fr.refl [] wr).alloc ob).cell_some d3 (by simp)
      have m4 := fun ob => ((Fr.refl [] wr).alloc ob).cell_some d4 (by simp)
      have m5 := fun ob => ((Fr.refl [] wr).alloc ob).cell_some d5 (by simp)
      have m20 := fun ob => ((Fr.refl [] wr).alloc ob).cell_some s20 (by simp)
      have hW2 : ∀ o o', Fr [] w5 ((wr.alloc o).alloc o') := fun o o' => (hf.alloc o).alloc o'
      have HW2 := Lib.hid hW2
      have HQ := Lib.hid hq
      have HSTOP := Lib.hid hstop
      have HNX := Lib.hid hnx
      have HFX := Lib.hid hfx
      have HFY := Lib.hid hfy
      have HPX := Lib.hid hpx
      have HPY := Lib.hid hpy
      have HFE := Lib.hid hfe
      have HPE := Lib.hid hpe
      have hj1 : (k : Int) < (na : Int) := by omega
      have hj0 : (0 : Int) ≤ (k : Int) := by omega
      clear hcell hcell' hnk hgx hgy hx hy hnx hq hstop hq0 hfx hfy hpx hpy hfe hpe hxo hyo d0 d1 d2 d3 d4 d5 s20 hW2 HJ HNO
      cases i0 : (name.toList == name2.toList)
      · have n0 : (name.toList != name2.toList) = true := by simp only [bne, i0]; rfl
        have hq := HQ.out
        rw [if_pos i0] at hq
        have hq2 := HSTOP.out hq
        have HQQ := Lib.hid hq2
        clear hq hq2
        go_wp2_with fail
        go_ret
        exact ⟨retb HQQ.out.symm, HR.out.trans (HW2.out _ _)⟩
      have n0 : (name.toList != name2.toList) = false := by simp only [bne, i0]; rfl
      cases i1 : (kind == kind2)
      · have n1 : (kind != kind2) = true := by simp only [bne, i1]; rfl
        have hq := HQ.out
        rw [if_neg (by simp [i0]), if_pos i1] at hq
        have hq2 := HSTOP.out hq
        have HQQ := Lib.hid hq2
        clear hq hq2
        go_wp2_with fail
        go_ret
        exact ⟨retb HQQ.out.symm, HR.out.trans (HW2.out _ _)⟩
      have n1 : (kind != kind2) = false := by simp only [bne, i1]; rfl
      cases i2 : (price == price2)
      · have n2 : (price != price2) = true := by simp only [bne, i2]; rfl
        have hq := HQ.out
        rw [if_neg (by simp [i0]), if_neg (by simp [i1]), if_pos i2] at hq
        have hq2 := HSTOP.out hq
        have HQQ := Lib.hid hq2
        clear hq hq2
        go_wp2_with fail
        go_ret
        exact ⟨retb HQQ.out.symm, HR.out.trans (HW2.out _ _)⟩
      have n2 : (price != price2) = false := by simp only [bne, i2]; rfl
      cases i3 : (digits == digits2)
      · have n3 : (digits != digits2) = true := by simp only [bne, i3]; rfl
        have hq := HQ.out
        rw [if_neg (by simp [i0]), if_neg (by simp [i1]), if_neg (by simp [i2]), if_pos i3] at hq
        have hq2 := HSTOP.out hq
        have HQQ := Lib.hid hq2
        clear hq hq2
        go_wp2_with fail
        go_ret
        exact ⟨retb HQQ.out.symm, HR.out.trans (HW2.out _ _)⟩
      have n3 : (digits != digits2) = false := by simp only [bne, i3]; rfl
      have hq := HQ.out
      rw [if_neg (by simp [i0]), if_neg (by simp [i1]), if_neg (by simp [i2]), if_neg (by simp [i3])] at hq
      have HQ2 := Lib.hid hq
      clear hq HQ
      have hrq : ∀ o o', Fr [] wr ((wr.alloc o).alloc o') := fun o o' => ((Fr.refl [] wr).alloc o).alloc o'
      have HRQ := Lib.hid hrq
      clear hrq
      go_wp2_with fail
      refine (HFE.out _ (HFX.out.below (HRQ.out _ _)) (HFY.out.below (HRQ.out _ _))).mono ?_
      rintro e w6 ⟨rfl, f6⟩
      have e5 : w6.cell? ⟨wr.heap.size, 5, none⟩ = some (.slice pa pl pc) := f6.cell_some (((Fr.refl [] _).alloc (.cells #[.string name2, .int .i64 kind2, .int .i64 price2, .slice fa2 fl2 fc2, .int .i64 digits2, .slice pa2 pl2 pc2] 53)).cell_some (new_cell rfl rfl) (by simp)) (by simp)
      have e5' : w6.cell? ⟨wr.heap.size + 1, 5, none⟩ = some (.slice pa2 pl2 pc2) := f6.cell_some (new_cell (by simp) rfl) (by simp)
      have hF6 := (HW2.out (.cells #[.string name, .int .i64 kind, .int .i64 price, .slice fa fl fc, .int .i64 digits, .slice pa pl pc] 53) (.cells #[.string name2, .int .i64 kind2, .int .i64 price2, .slice fa2 fl2 fc2, .int .i64 digits2, .slice pa2 pl2 pc2] 53)).trans f6
      have hr6 := (HRQ.out (.cells #[.string name, .int .i64 kind, .int .i64 price, .slice fa fl fc, .int .i64 digits, .slice pa pl pc] 53) (.cells #[.string name2, .int .i64 kind2, .int .i64 price2, .slice fa2 fl2 fc2, .int .i64 digits2, .slice pa2 pl2 pc2] 53)).trans f6
      clear f6 HFE HFX HFY m0 m1 m2 m3 m4 m5 m20 c0 c1 c2 c3 c4 c5
      cases ef
      · have hq := HQ2.out
        rw [if_pos rfl] at hq
        have hq2 := HSTOP.out hq
        clear hq
        have HQQ := Lib.hid hq2
        clear hq2
        go_wp2_with fail
        go_ret
        exact ⟨retb HQQ.out.symm, HR.out.trans hF6⟩
      have hq := HQ2.out
      rw [if_neg (by simp)] at hq
      have HQ3 := Lib.hid hq
      clear hq HQ2
      go_wp2_with fail
      refine (HPE.out _ (HPX.out.below hr6) (HPY.out.below hr6)).mono ?_
      rintro e w7 ⟨rfl, f7⟩
      have hF7 := hF6.trans f7
      clear f7 HPE HPX HPY hF6 hr6
      cases ep
      · have hq2 := HSTOP.out HQ3.out
        have HQQ := Lib.hid hq2
        clear hq2
        go_wp2_with fail
        go_ret
        exact ⟨retb HQQ.out.symm, HR.out.trans hF7⟩
      have hn := HNX.out HQ3.out
      have HN := Lib.hid hn
      clear hn
      go_wp2_with fail
      exact ⟨⟨k + 1, by omega, by go_num, hF7, HN⟩, by simp [intOf]; omega⟩
    · obtain rfl : k = na := by omega
      have hy := HYES.out (by first | trivial | rfl) HJ.out
      have hq := HV4.out
      rw [hy, if_neg (by simp)] at hq
      have HQ := Lib.hid hq
      have HFR := Lib.hid hFr
      have v21 := hf.cell_some z21 (by simp)
      have t21 := hf.cell_some u21 (by simp)
      have hno := @eqT_no lt lu
      have hyes := @eqT_yes lt lu
      rw [← Hnt.out] at hno hyes
      rw [← Hmt.out] at hyes
      have HNO2 := Lib.hid hno
      have HYES2 := Lib.hid hyes
      clear hno hyes hq hy z20 z21 u20 u21 s20 HJ HNO HYES hf hFr
      obtain ⟨wo2, rfl⟩ : ∃ wo2 : World, wo2 = wr := ⟨_, rfl⟩
      go_wp2_with fail
      go_loopw [8] (fun i wr => ∃ k : Nat, k ≤ nt ∧ i = .int .i64 k ∧ Fr [] wo2 wr ∧ Hid (∀ j, j < k → tiD (lt.getD j default) (lu.getD j default) = true)) (fun i _ => nt - (intOf i).toNat)
      case atStart => exact ⟨0, by omega, rfl, Fr.refl _ _, Lib.hid (by omega)⟩
      case round =>
        obtain ⟨k, hk, rfl, hf, HJ⟩ := hrel
        have r21 := hf.cell_some v21 (by simp)
        have s21 := hf.cell_some t21 (by simp)
        have hFr := HFR.out.trans hf
        by_cases hlt : k < nt
        · obtain ⟨x, hx⟩ : ∃ x, lt[k]? = some x := ⟨_, List.getElem?_eq_getElem (by have := Hnt.out; omega)⟩
          obtain ⟨y, hy⟩ : ∃ y, lu[k]? = some y := ⟨_, List.getElem?_eq_getElem (by have := Hmt.out; omega)⟩
          obtain ⟨g1, o1, rfl, hcell⟩ := RdF.at (f := Ti.cells) HT.out.rd hx
          obtain ⟨g2, o2, rfl, hcell'⟩ := RdF.at (f := Ti.cells) HU.out.rd hy
          have c0 := hFr.cell_some (hcell 0 _ rfl) (by simp)
          have c1 := hFr.cell_some (hcell 1 _ rfl) (by simp)
          have c2 := hFr.cell_some (hcell 2 _ rfl) (by simp)
          have c3 := hFr.cell_some (hcell 3 _ rfl) (by simp)
          have c4 := hFr.cell_some (hcell 4 _ rfl) (by simp)
          have c5 := hFr.cell_some (hcell 5 _ rfl) (by simp)
          have d0 := hFr.cell_some (hcell' 0 _ rfl) (by simp)
          have d1 := hFr.cell_some (hcell' 1 _ rfl) (by simp)
          have d2 := hFr.cell_some (hcell' 2 _ rfl) (by simp)
          have d3 := hFr.cell_some (hcell' 3 _ rfl) (by simp)
          have d4 := hFr.cell_some (hcell' 4 _ rfl) (by simp)
          have d5 := hFr.cell_some (hcell' 5 _ rfl) (by simp)
          rw [Nat.add_zero] at c0 d0
          have hgx : lt.getD k default = x := by simp [List.getD, hx]
          have hgy : lu.getD k default = y := by simp [List.getD, hy]
          have hnk := HNO2.out k hlt
          rw [hgx, hgy] at hnk
          have HGX := Lib.hid hgx
          have HGY := Lib.hid hgy
          have HNK := Lib.hid hnk
          have hj1 : (k : Int) < (nt : Int) := by omega
          have hj0 : (0 : Int) ≤ (k : Int) := by omega
          have HFR2 := Lib.hid hFr
          clear hcell hcell' hnk hgx hgy hx hy hFr v21 t21
          obtain ⟨xm, xb, xe, xo, xk, xv⟩ := x
          obtain ⟨ym, yb, ye, yo, yk, yv⟩ := y
          simp only at c0 c1 c2 c3 c4 c5 d0 d1 d2 d3 d4 d5
          have heq := fun w => eq_tier xm xb xe xo xk xv ym yb ye yo yk yv w
          cases hd : tiD ⟨xm, xb, xe, xo, xk, xv⟩ ⟨ym, yb, ye, yo, yk, yv⟩
          · have hq := HQ.out
            rw [HNK.out hd] at hq
            have HQQ := Lib.hid hq
            rw [hd] at heq
            clear hq hd
            go_wp2_with fail
            go_quiet (fail)
            go_wp2
            go_ret
            exact ⟨retb HQQ.out.symm, HFR2.out.drewN _⟩
          · have HD := Lib.hid hd
            rw [hd] at heq
            clear hd
            go_wp2_with fail
            go_quiet (fail)
            go_wp2
            refine ⟨⟨k + 1, by omega, by go_num, hf.drewN _, Lib.hid fun j hj => ?_⟩, by simp [intOf]; omega⟩
            by_cases hjk : j < k
            · exact HJ.out j hjk
            · obtain rfl : j = k := by omega
              rw [HGX.out, HGY.out]; exact HD.out
        · obtain rfl : k = nt := by omega
          have hq := HQ.out
          rw [HYES2.out (by first | trivial | rfl) HJ.out] at hq
          have HQQ := Lib.hid hq
          have HFR2 := Lib.hid hFr
          clear hq hFr
          go_wp2
          go_ret
          exact ⟨retb HQQ.out.symm, HFR2.out⟩
end Go.Proofs.Ytdbkkbeelemnhaa
