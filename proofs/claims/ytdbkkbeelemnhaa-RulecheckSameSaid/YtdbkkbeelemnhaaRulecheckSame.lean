/-
  RulecheckSame: for every two games the statement returns true: Same is as the document says, and each game is the same as itself. No conditions.
-/
import Derived.Test.YtdbkkbeelemnhaaSameG
import Derived.Test.YtdbkkbeelemnhaaRSame
import Derived.Test.YtdbkkbeelemnhaaPlain
import Derived.ProofKit
import Derived.OpenShut
import Derived.ShutString
import Derived.ChangeOld
namespace Go.Proofs.Ytdbkkbeelemnhaa.rulecheckSame
open Go.ChangeShapes Go.WideShapes Go.ChangeAt Go.RowKit
open Go.ChangeMaps (open_string shut_string)
set_option linter.unusedVariables false
attribute [local go_sem ↓] Go.wp_at_zero Go.wp_at_succ
theorem bi (x y : Int) : (x == y) = (y == x) := by rw [Bool.eq_iff_iff]; simp only [beq_iff_eq]; exact eq_comm
theorem bl (x y : List UInt8) : (x == y) = (y == x) := by rw [Bool.eq_iff_iff]; simp only [beq_iff_eq]; exact eq_comm
theorem eqI_symm (l m : List Int) : eqI l m = eqI m l := by unfold eqI; rw [decide_eq_decide]; exact eq_comm
theorem adD_symm (a b : Ad) : adD a b = adD b a := by
  unfold adD
  rw [bl a.name.toList, bi a.kind, bi a.price, bi a.digits, eqI_symm a.factors, eqI_symm a.prizes]
theorem adD_refl (a : Ad) : adD a a = true := by simp [adD, eqI]
theorem eqA_symm (l m : List Ad) : eqA l m = eqA m l := by
  unfold eqA
  by_cases h : l.length = m.length
  · rw [h]
    congr 2
    funext k
    exact adD_symm _ _
  · have h' : ¬ m.length = l.length := fun e => h e.symm
    simp [h, h']
theorem eqA_refl (l : List Ad) : eqA l l = true := eqA_yes rfl fun k _ => adD_refl _
theorem eqT_symm (l m : List Ti) : eqT l m = eqT m l := by
  unfold eqT
  by_cases h : l.length = m.length
  · rw [h]
    congr 2
    funext k
    exact tiD_symm _ _
  · have h' : ¬ m.length = l.length := fun e => h e.symm
    simp [h, h']
theorem gmH_eq (a b : Gm) : gmH a b = (((a.name.toList == b.name.toList) && (a.kind == b.kind)) && eqI (numsL a) (numsL b)) := by
  rw [Bool.eq_iff_iff]
  simp only [gmH, eqI, numsL, Bool.and_eq_true, beq_iff_eq, decide_eq_true_eq, List.cons.injEq, and_true, and_assoc]
theorem gmD_symm (a b : Gm) : gmD a b = gmD b a := by
  unfold gmD
  rw [gmH_eq, gmH_eq, bl a.name.toList, bi a.kind, eqI_symm (numsL a), eqA_symm a.addons, eqT_symm a.tiers]
theorem gmD_refl (a : Gm) : gmD a a = true := by
  unfold gmD
  rw [gmH_eq, eqA_refl, eqT_refl]
  simp [eqI]
theorem rg_eq (a b : Gm) : rgD a b = gmD a b := by
  unfold rgD gmD
  rw [gmH_eq]
  cases (a.name.toList == b.name.toList)
  · simp
  · cases (a.kind == b.kind)
    · simp
    · cases eqI (numsL a) (numsL b)
      · simp
      · by_cases h1 : a.addons.length = b.addons.length
        · by_cases h2 : a.tiers.length = b.tiers.length
          · have e1 : ((a.addons.length : Int) == b.addons.length) = true := by rw [h1]; simp
            have e2 : ((a.tiers.length : Int) == b.tiers.length) = true := by rw [h2]; simp
            rw [e1, e2]
            cases eqA a.addons b.addons <;> simp
          · rw [eqT_len h2]
            have e2 : ((a.tiers.length : Int) == b.tiers.length) = false := by simp; omega
            rw [e2]; simp
        · rw [eqA_len h1]
          have e2 : ((a.addons.length : Int) == b.addons.length) = false := by simp; omega
          rw [e2]; simp
set_option maxRecDepth 20000 in
set_option maxHeartbeats 2000000 in
theorem walk (v1 : Value) (a : Gm) (v2 : Value) (b : Gm) (w : World) (hv1 : v1 = a.val) (ha : a.Ok w) (hv2 : v2 = b.val) (hb : b.Ok w) :
    Calls Try.prog 10 #[v1, v2] w fun e w' => e = .returned (.bool true) ∧ Below w.heap.size w w' := by
  subst hv1
  subst hv2
  have hAB := fun w' (h : Fr [] w w') => sameG_any a b w' (ha.fr h) (hb.fr h)
  have hBA := fun w' (h : Fr [] w w') => sameG_any b a w' (hb.fr h) (ha.fr h)
  have hAA := fun w' (h : Fr [] w w') => sameG_any a a w' (ha.fr h) (ha.fr h)
  have hRR := fun w' (h : Fr [] w w') => rsameG_any a b w' (ha.fr h) (hb.fr h)
  rw [gmD_symm b a] at hBA
  rw [gmD_refl a] at hAA
  rw [rg_eq a b] at hRR
  simp only [show ∀ g : Gm, g.val = .agg g.cells.toArray from fun _ => rfl] at hAB hBA hAA hRR
  have hga : ∀ w b, GmAt w b a → w.rangeAt b 0 a.cells := fun w b h j v hv => by rw [Nat.zero_add]; exact h.cell j v hv
  have hgb : ∀ w c, GmAt w c b → w.rangeAt c 0 b.cells := fun w b h j v hv => by rw [Nat.zero_add]; exact h.cell j v hv
  obtain ⟨csa, hcsa⟩ : ∃ cs, cs = a.cells := ⟨_, rfl⟩
  obtain ⟨csb, hcsb⟩ : ∃ cs, cs = b.cells := ⟨_, rfl⟩
  have hla : csa.length = 22 := by rw [hcsa]; rfl
  have hlb : csb.length = 22 := by rw [hcsb]; rfl
  rw [← hcsa] at hAB hBA hAA hRR hga
  rw [← hcsb] at hAB hBA hRR hgb
  generalize gmD a b = V at *
  have HAB := Lib.hid hAB
  have HBA := Lib.hid hBA
  have HAA := Lib.hid hAA
  have HRR := Lib.hid hRR
  have HGA := Lib.hid hga
  have HGB := Lib.hid hgb
  have HLA := Lib.hid hla
  have HLB := Lib.hid hlb
  clear hAB hBA hAA hRR hga hgb hla hlb hcsa hcsb ha hb
  go_enter Try.func10, Try.ntmps10
  go_wp2_with (first | (refine box_game rfl (.tmp 0) rfl a rfl ?_; intro w1 hg1 hz1 hf1) | (refine box_game rfl (.tmp 1) rfl b rfl ?_; intro wo hg2 hz2 hf2; have hRa := HGA.out _ _ (hg1.fr hf2 (by simp)); have hRb := HGB.out _ _ hg2; have hF := hf1.trans hf2; rw [hz1] at hRb ⊢; clear hg1 hg2 hz1 hz2 hf1 hf2))
  have hu1 := Try.underlying29
  have hia : (Try.prog.info? 29).map (·.size) = some csa.length := by rw [HLA.out]; exact infoGame
  have hib : (Try.prog.info? 29).map (·.size) = some csb.length := by rw [HLB.out]; exact infoGame
  have hVV : (V == V) = true := by simp
  refine wp_region_held_drew (S := (fun w' => Fr [] wo w')) (by kernel_rfl) (Fr.refl [] _).drew (fun hHeld => ?_)
  refine' wpAnyH_take (i := 0) (oi := ⟨some 5, _, _, _, _, _⟩) (v := _) rfl (by kernel_rfl) (by kernel_rfl) (by kernel_rfl) (fun _ _ _ h => h) (yieldsIf_load_mid (by rfl) _ _ rfl _ _ rfl _ _ (fun w h => h.range hRa) hu1 rfl hia) hHeld ?_
  (try simp only [Act.put, List.setIfInBounds_toArray, List.set_cons_zero, List.set_cons_succ])
  refine' wpAnyH_take (i := 1) (oi := ⟨some 6, _, _, _, _, _⟩) (v := _) rfl (by kernel_rfl) (by kernel_rfl) (by kernel_rfl) (fun _ _ _ h => h) (yieldsIf_load_mid (by rfl) _ _ rfl _ _ rfl _ _ (fun w h => h.range hRb) hu1 rfl hib) hHeld ?_
  (try simp only [Act.put, List.setIfInBounds_toArray, List.set_cons_zero, List.set_cons_succ])
  refine' wpAnyH_take (i := 3) (oi := ⟨some 8, _, _, _, _, _⟩) (v := _) rfl (by kernel_rfl) (by kernel_rfl) (by kernel_rfl) (fun _ _ _ h => h) (yieldsIf_load_mid (by rfl) _ _ rfl _ _ rfl _ _ (fun w h => h.range hRa) hu1 rfl hia) hHeld ?_
  (try simp only [Act.put, List.setIfInBounds_toArray, List.set_cons_zero, List.set_cons_succ])
  refine' wpAnyH_take (i := 4) (oi := ⟨some 9, _, _, _, _, _⟩) (v := _) rfl (by kernel_rfl) (by kernel_rfl) (by kernel_rfl) (fun _ _ _ h => h) (yieldsIf_load_mid (by rfl) _ _ rfl _ _ rfl _ _ (fun w h => h.range hRb) hu1 rfl hib) hHeld ?_
  (try simp only [Act.put, List.setIfInBounds_toArray, List.set_cons_zero, List.set_cons_succ])
  refine wpAnyH_ready (rs := [2]) (by kernel_rfl) (by simp) ?_
  refine AllReadyH.cons (o := ⟨some 7, _, _, _, _, _⟩) rfl (fun K hK => ?_) AllReadyH.nil
  rw [if_pos (by rfl)]
  go_simp
  refine (HAB.out _ (hF.trans hHeld)).mono ?_
  rintro e w3 ⟨rfl, fr⟩
  refine hK.out _ _ (hHeld.trans fr) (fun hHeld' => ?_)
  clear hK K hHeld
  have hHeld := hHeld'
  clear hHeld'
  (try simp only [Act.put, List.setIfInBounds_toArray, List.set_cons_zero, List.set_cons_succ])
  clear fr
  refine wpAnyH_ready (rs := [5]) (by kernel_rfl) (by simp) ?_
  refine AllReadyH.cons (o := ⟨some 10, _, _, _, _, _⟩) rfl (fun K hK => ?_) AllReadyH.nil
  rw [if_pos (by rfl)]
  go_simp
  refine (HRR.out _ (hF.trans hHeld)).mono ?_
  rintro e w4 ⟨rfl, fr⟩
  refine hK.out _ _ (hHeld.trans fr) (fun hHeld' => ?_)
  clear hK K hHeld
  have hHeld := hHeld'
  clear hHeld'
  (try simp only [Act.put, List.setIfInBounds_toArray, List.set_cons_zero, List.set_cons_succ])
  clear fr
  refine wpAnyH_take (i := 6) (oi := ⟨some 11, _, _, _, _, _⟩) (v := .bool true) rfl (by kernel_rfl) (by kernel_rfl) (by kernel_rfl) (fun _ _ _ h => h) (Or.inl ⟨by rfl, ?_⟩) hHeld ?_
  · intro w hSw; (try dsimp only at hSw); go_simp
  (try simp only [Act.put, List.setIfInBounds_toArray, List.set_cons_zero, List.set_cons_succ])
  refine wpAnyH_take (i := 7) (oi := ⟨some 12, _, _, _, _, _⟩) (v := .bool true) rfl (by kernel_rfl) (by kernel_rfl) (by kernel_rfl) (fun _ _ _ h => h) (Or.inl ⟨by rfl, ?_⟩) hHeld ?_
  · intro w hSw; (try dsimp only at hSw); go_simp
  (try simp only [Act.put, List.setIfInBounds_toArray, List.set_cons_zero, List.set_cons_succ])
  refine' wpAnyH_take (i := 8) (oi := ⟨some 13, _, _, _, _, _⟩) (v := _) rfl (by kernel_rfl) (by kernel_rfl) (by kernel_rfl) (fun _ _ _ h => h) (yieldsIf_load_mid (by rfl) _ _ rfl _ _ rfl _ _ (fun w h => h.range hRb) hu1 rfl hib) hHeld ?_
  (try simp only [Act.put, List.setIfInBounds_toArray, List.set_cons_zero, List.set_cons_succ])
  refine' wpAnyH_take (i := 9) (oi := ⟨some 14, _, _, _, _, _⟩) (v := _) rfl (by kernel_rfl) (by kernel_rfl) (by kernel_rfl) (fun _ _ _ h => h) (yieldsIf_load_mid (by rfl) _ _ rfl _ _ rfl _ _ (fun w h => h.range hRa) hu1 rfl hia) hHeld ?_
  (try simp only [Act.put, List.setIfInBounds_toArray, List.set_cons_zero, List.set_cons_succ])
  refine' wpAnyH_take (i := 11) (oi := ⟨some 16, _, _, _, _, _⟩) (v := _) rfl (by kernel_rfl) (by kernel_rfl) (by kernel_rfl) (fun _ _ _ h => h) (yieldsIf_load_mid (by rfl) _ _ rfl _ _ rfl _ _ (fun w h => h.range hRa) hu1 rfl hia) hHeld ?_
  (try simp only [Act.put, List.setIfInBounds_toArray, List.set_cons_zero, List.set_cons_succ])
  refine' wpAnyH_take (i := 12) (oi := ⟨some 17, _, _, _, _, _⟩) (v := _) rfl (by kernel_rfl) (by kernel_rfl) (by kernel_rfl) (fun _ _ _ h => h) (yieldsIf_load_mid (by rfl) _ _ rfl _ _ rfl _ _ (fun w h => h.range hRb) hu1 rfl hib) hHeld ?_
  (try simp only [Act.put, List.setIfInBounds_toArray, List.set_cons_zero, List.set_cons_succ])
  refine wpAnyH_ready (rs := [10]) (by kernel_rfl) (by simp) ?_
  refine AllReadyH.cons (o := ⟨some 15, _, _, _, _, _⟩) rfl (fun K hK => ?_) AllReadyH.nil
  rw [if_pos (by rfl)]
  go_simp
  refine (HBA.out _ (hF.trans hHeld)).mono ?_
  rintro e w5 ⟨rfl, fr⟩
  refine hK.out _ _ (hHeld.trans fr) (fun hHeld' => ?_)
  clear hK K hHeld
  have hHeld := hHeld'
  clear hHeld'
  (try simp only [Act.put, List.setIfInBounds_toArray, List.set_cons_zero, List.set_cons_succ])
  clear fr
  refine wpAnyH_ready (rs := [13]) (by kernel_rfl) (by simp) ?_
  refine AllReadyH.cons (o := ⟨some 18, _, _, _, _, _⟩) rfl (fun K hK => ?_) AllReadyH.nil
  rw [if_pos (by rfl)]
  go_simp
  refine (HRR.out _ (hF.trans hHeld)).mono ?_
  rintro e w6 ⟨rfl, fr⟩
  refine hK.out _ _ (hHeld.trans fr) (fun hHeld' => ?_)
  clear hK K hHeld
  have hHeld := hHeld'
  clear hHeld'
  (try simp only [Act.put, List.setIfInBounds_toArray, List.set_cons_zero, List.set_cons_succ])
  clear fr
  refine wpAnyH_take (i := 14) (oi := ⟨some 19, _, _, _, _, _⟩) (v := .bool true) rfl (by kernel_rfl) (by kernel_rfl) (by kernel_rfl) (fun _ _ _ h => h) (Or.inl ⟨by rfl, ?_⟩) hHeld ?_
  · intro w hSw; (try dsimp only at hSw); go_simp
  (try simp only [Act.put, List.setIfInBounds_toArray, List.set_cons_zero, List.set_cons_succ])
  refine wpAnyH_take (i := 15) (oi := ⟨some 20, _, _, _, _, _⟩) (v := .bool true) rfl (by kernel_rfl) (by kernel_rfl) (by kernel_rfl) (fun _ _ _ h => h) (Or.inl ⟨by rfl, ?_⟩) hHeld ?_
  · intro w hSw; (try dsimp only at hSw); go_simp
  (try simp only [Act.put, List.setIfInBounds_toArray, List.set_cons_zero, List.set_cons_succ])
  refine wpAnyH_take (i := 16) (oi := ⟨some 21, _, _, _, _, _⟩) (v := .bool true) rfl (by kernel_rfl) (by kernel_rfl) (by kernel_rfl) (fun _ _ _ h => h) (Or.inl ⟨by rfl, ?_⟩) hHeld ?_
  · intro w hSw; (try dsimp only at hSw); go_simp
  (try simp only [Act.put, List.setIfInBounds_toArray, List.set_cons_zero, List.set_cons_succ])
  refine' wpAnyH_take (i := 17) (oi := ⟨some 22, _, _, _, _, _⟩) (v := _) rfl (by kernel_rfl) (by kernel_rfl) (by kernel_rfl) (fun _ _ _ h => h) (yieldsIf_load_mid (by rfl) _ _ rfl _ _ rfl _ _ (fun w h => h.range hRa) hu1 rfl hia) hHeld ?_
  (try simp only [Act.put, List.setIfInBounds_toArray, List.set_cons_zero, List.set_cons_succ])
  refine' wpAnyH_take (i := 18) (oi := ⟨some 23, _, _, _, _, _⟩) (v := _) rfl (by kernel_rfl) (by kernel_rfl) (by kernel_rfl) (fun _ _ _ h => h) (yieldsIf_load_mid (by rfl) _ _ rfl _ _ rfl _ _ (fun w h => h.range hRa) hu1 rfl hia) hHeld ?_
  (try simp only [Act.put, List.setIfInBounds_toArray, List.set_cons_zero, List.set_cons_succ])
  refine wpAnyH_ready (rs := [19]) (by kernel_rfl) (by simp) ?_
  refine AllReadyH.cons (o := ⟨some 24, _, _, _, _, _⟩) rfl (fun K hK => ?_) AllReadyH.nil
  rw [if_pos (by rfl)]
  go_simp
  refine (HAA.out _ (hF.trans hHeld)).mono ?_
  rintro e w7 ⟨rfl, fr⟩
  refine hK.out _ _ (hHeld.trans fr) (fun hHeld' => ?_)
  clear hK K hHeld
  have hHeld := hHeld'
  clear hHeld'
  (try simp only [Act.put, List.setIfInBounds_toArray, List.set_cons_zero, List.set_cons_succ])
  clear fr
  refine wpAnyH_take (i := 20) (oi := ⟨some 25, _, _, _, _, _⟩) (v := .bool true) rfl (by kernel_rfl) (by kernel_rfl) (by kernel_rfl) (fun _ _ _ h => h) (Or.inl ⟨by rfl, ?_⟩) hHeld ?_
  · intro w hSw; (try dsimp only at hSw); go_simp
  (try simp only [Act.put, List.setIfInBounds_toArray, List.set_cons_zero, List.set_cons_succ])
  refine wpAnyH_take (i := 21) (oi := ⟨some 26, _, _, _, _, _⟩) (v := .bool true) rfl (by kernel_rfl) (by kernel_rfl) (by kernel_rfl) (fun _ _ _ h => h) (Or.inl ⟨by rfl, ?_⟩) hHeld ?_
  · intro w hSw; (try dsimp only at hSw); go_simp
  (try simp only [Act.put, List.setIfInBounds_toArray, List.set_cons_zero, List.set_cons_succ])
  refine wpAnyH_ready (rs := [22]) (by kernel_rfl) (by simp) ?_
  refine AllReadyH.cons (o := ⟨some 27, _, _, _, _, _⟩) rfl (fun K hK => ?_) AllReadyH.nil
  rw [if_pos (by rfl)]
  go_simp
  refine (lives12_any _).mono ?_
  rintro e w8 ⟨rfl, fr⟩
  refine hK.out _ _ (hHeld.trans fr) (fun hHeld' => ?_)
  clear hK K hHeld
  have hHeld := hHeld'
  clear hHeld'
  (try simp only [Act.put, List.setIfInBounds_toArray, List.set_cons_zero, List.set_cons_succ])
  clear fr
  refine wpAnyH_take (i := 23) (oi := ⟨some 28, _, _, _, _, _⟩) (v := .bool true) rfl (by kernel_rfl) (by kernel_rfl) (by kernel_rfl) (fun _ _ _ h => h) (Or.inl ⟨by rfl, ?_⟩) hHeld ?_
  · intro w hSw; (try dsimp only at hSw); go_simp
  (try simp only [Act.put, List.setIfInBounds_toArray, List.set_cons_zero, List.set_cons_succ])
  refine wpAnyH_take (i := 24) (oi := ⟨some 4, _, _, _, _, _⟩) (v := .bool true) rfl (by kernel_rfl) (by kernel_rfl) (by kernel_rfl) (fun _ _ _ h => h) (Or.inl ⟨by rfl, ?_⟩) hHeld ?_
  · intro w hSw; (try dsimp only at hSw); go_simp
  (try simp only [Act.put, List.setIfInBounds_toArray, List.set_cons_zero, List.set_cons_succ])
  have hW := hHeld
  clear hHeld
  refine wpAnyH_done (by kernel_rfl) ?_ _
  go_wp2_with fail
  go_ret
  exact ⟨rfl, (hF.trans hW).below⟩
theorem own : ownKnob Try.prog.godebug = none := by kernel_rfl
theorem laidOut : laidOutB Try.prog = true := by kernel_rfl
set_option maxRecDepth 100000 in
theorem lifted (os : Os) (started : os.Started) (H : Type) (enc : TypeId × Value → H) :
    ReturnsInHanded {} Try.checked os 10 .any (Rows.rulecheckSameSpec.pre6 enc Try.prog Try.f10 Rows.rulecheckSameRow.domain false) (Rows.rulecheckSameSpec.post enc Try.prog Try.f10 false true false false) := by
  refine returnsInHanded_of_change (C := Try.checked) own started (by kernel_rfl) Try.func10
    (ChangeSpec.witness6 (enc := enc) (C := Try.checked) false ⟨#[], #[.agg #[.string ByteArray.empty, .int .i64 0, .int .i64 0, .int .i64 0, .int .i64 0, .int .i64 0, .int .i64 0, .int .i64 0, .int .i64 0, .int .i64 0, .int .i64 0, .int .i64 0, .int .i64 0, .int .i64 0, .int .i64 0, .int .i64 0, .int .i64 0, .int .i64 0, .int .i64 0, .int .i64 0, .slice none 0 0, .slice none 0 0], .agg #[.string ByteArray.empty, .int .i64 0, .int .i64 0, .int .i64 0, .int .i64 0, .int .i64 0, .int .i64 0, .int .i64 0, .int .i64 0, .int .i64 0, .int .i64 0, .int .i64 0, .int .i64 0, .int .i64 0, .int .i64 0, .int .i64 0, .int .i64 0, .int .i64 0, .int .i64 0, .int .i64 0, .slice none 0 0, .slice none 0 0]], []⟩ 8 (by kernel_rfl) (by kernel_rfl) (by kernel_rfl) (by kernel_rfl)) ?_
  intro W base args ds gs before hval0 hW hcnd _
  have hval : ∀ (j : Nat) t v, Try.f10.params[j]? = some t → args[j]? = some v → Value.okWide Try.prog W .any base t v := hval0
  have hW' := hW
  obtain ⟨p, q, hA0, hV, rfl, hfz, hnd⟩ := hW
  have hA : DataW.TrodAll enc Try.prog W 0 (fun _ => true) true Try.f10.params.toList args.toList ds p := hA0
  rw [Try.params10] at hA hval
  obtain ⟨v0, vs0, d0, ds0, p0, q0, hargs, rfl, rfl, h0, r0⟩ := trodAll_cons hA
  obtain ⟨v1, vs1, d1, ds1, p1, q1, rfl, rfl, rfl, h1, r1⟩ := trodAll_cons r0
  obtain ⟨rfl, rfl, rfl⟩ := trodAll_nil r1
  obtain rfl : args = #[v0, v1] := by cases args; simp_all
  obtain ⟨rfl, rfl⟩ := trodVars_none hV
  have k0 := h0
  have lt0 : ∀ x ∈ p0, x.block < W.heap.size := by obtain ⟨m, hm⟩ := k0; exact DataW.trod_lt m _ _ _ hm
  obtain ⟨g0, hv0, hg0⟩ := open_game (hval 0 29 v0 rfl rfl) h0
  have k1 := h1
  have lt1 : ∀ x ∈ p1, x.block < W.heap.size := by obtain ⟨m, hm⟩ := k1; exact DataW.trod_lt m _ _ _ hm
  obtain ⟨g1, hv1, hg1⟩ := open_game (hval 1 29 v1 rfl rfl) h1
  clear hA0 hval0
  refine (walk v0 g0 v1 g1 W hv0 hg0 hv1 hg1).mono fun e W' ⟨he, bel⟩ => ?_
  subst he
  exact ⟨_, rfl, _, _, _, [], _, [], hW', trodAll_mk1 (shut_bool Try.underlying4 _), (trodAll_cons_mk (Below.trod laidOut (by kernel_rfl) (of_decide_eq_true (by kernel_rfl)) k0 bel lt0) (trodAll_cons_mk (Below.trod laidOut (by kernel_rfl) (of_decide_eq_true (by kernel_rfl)) k1 bel lt1) trodAll_mk0)), rfl, bel.frame _, fun h => by cases h⟩
theorem over : Rows.rulecheckSameRow.holds Try.pinned (OpenSpec.ofChange Rows.rulecheckSameSpec) :=
  OpenClaim.holds_of_wide 10 Try.f10 rfl rfl rfl rfl rfl rfl rfl ⟨rfl, rfl, rfl, rfl, rfl⟩ rfl rfl rfl rfl rfl (by kernel_rfl) Try.func10 (by kernel_rfl)
    (of_decide_eq_true (by kernel_rfl)) (by unfold Func.isWrapper; first | (rw [if_pos (by decide +kernel)]; kernel_rfl) | (rw [if_neg (by decide +kernel)]; exact ⟨rfl, rfl⟩))
    (fun os started H enc _ => lifted os started H enc)
/-- THE STATEMENT -/
theorem proved : Rows.RulecheckSameSaid := over
end Go.Proofs.Ytdbkkbeelemnhaa.rulecheckSame
