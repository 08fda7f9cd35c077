/-
  AddonSerials: for every game, mask, serial number and result the statement returns true: the prize of a serial number is as the document says. No conditions.
-/
import Derived.Test.YtdbkkbeelemnhaaPays40
import Derived.ProofKit
import Derived.OpenShut
import Derived.ShutString
import Derived.ChangeOld
namespace Go.Proofs.Ytdbkkbeelemnhaa.addonSerials
open Go.ChangeShapes Go.WideShapes Go.ChangeAt Go.RowKit
open Go.ChangeMaps (open_string shut_string)
set_option linter.unusedVariables false
attribute [local go_sem ↓] Go.wp_at_zero Go.wp_at_succ
set_option maxRecDepth 20000 in
set_option maxHeartbeats 2000000 in
theorem walk (v : Value) (g : Gm) (m : Int) (s : ByteArray) (v2 : Value) (r : Re) (w : World) (hv : v = g.val) (hok : g.Ok w) (hm : (Lit.int .i64 m).wf = true) (hs : s.size ≤ maxLen) (hv2 : v2 = r.val) (hr : r.Ok) :
    Calls Try.prog 9 #[v, .int .i64 m, .string s, v2] w fun e w' => e = .returned (.bool true) ∧ Below w.heap.size w w' := by
  subst hv
  subst hv2
  have hP := fun w' (h : Fr [] w w') => serial_any g m s r w' (hok.fr h) hs hr.serial
  have hR := fun w' (h : Fr [] w w') => rserial_any g m s r w' (hok.fr h) hs hr.serial
  have hgr : ∀ w b, GmAt w b g → w.rangeAt b 0 g.cells := fun w b h j v hv => by rw [Nat.zero_add]; exact h.cell j v hv
  simp only [show g.val = .agg g.cells.toArray from rfl] at hP hR
  obtain ⟨cs, hcs⟩ : ∃ cs, cs = g.cells := ⟨_, rfl⟩
  have hcl : cs.length = 22 := by rw [hcs]; rfl
  rw [← hcs] at hP hR hgr
  obtain ⟨ma, mn, mc, ba, bn, bc, ea, en, ec, factor, serial⟩ := r
  simp only [Re.val] at hP hR ⊢
  have HP := Lib.hid hP
  have HR := Lib.hid hR
  have HGR := Lib.hid hgr
  have HCL := Lib.hid hcl
  clear hP hR hok hr hcs hcl hgr
  go_enter Try.func9, Try.ntmps9
  go_wp2_with (refine box_game rfl (.tmp 0) rfl g rfl ?_; intro w1 hg1 hz1 hf1)
  obtain ⟨w2, hw2⟩ : ∃ w2, w2 = w1.alloc (.cells #[.slice ma mn mc, .slice ba bn bc, .slice ea en ec, .int .i64 factor, .string serial] 38) := ⟨_, rfl⟩
  have hF2 : Fr [] w w2 := by rw [hw2]; exact hf1.alloc _
  have hR2 := HGR.out _ _ (hg1.fr ((Fr.refl [] _).alloc (.cells #[.slice ma mn mc, .slice ba bn bc, .slice ea en ec, .int .i64 factor, .string serial] 38)) (by simp))
  have c0 : w2.cell? ⟨w.heap.size + 1, 0, none⟩ = some (.slice ma mn mc) := by rw [hw2]; exact new_cell hz1 rfl
  have c1 : w2.cell? ⟨w.heap.size + 1, 1, none⟩ = some (.slice ba bn bc) := by rw [hw2]; exact new_cell hz1 rfl
  have c2 : w2.cell? ⟨w.heap.size + 1, 2, none⟩ = some (.slice ea en ec) := by rw [hw2]; exact new_cell hz1 rfl
  have c3 : w2.cell? ⟨w.heap.size + 1, 3, none⟩ = some (.int .i64 factor) := by rw [hw2]; exact new_cell hz1 rfl
  have c4 : w2.cell? ⟨w.heap.size + 1, 4, none⟩ = some (.string serial) := by rw [hw2]; exact new_cell hz1 rfl
  rw [← hw2] at hR2 ⊢
  clear hw2 hg1 hf1 hz1
  have hu1 := Try.underlying29
  have hi1 : (Try.prog.info? 29).map (·.size) = some cs.length := by rw [HCL.out]; exact infoGame
  have hkeep : ∀ w', Fr [] w2 w' → (w'.rangeAt w.heap.size 0 cs ∧ w'.cell? ⟨w.heap.size + 1, 0, none⟩ = some (.slice ma mn mc) ∧ w'.cell? ⟨w.heap.size + 1, 1, none⟩ = some (.slice ba bn bc) ∧ w'.cell? ⟨w.heap.size + 1, 2, none⟩ = some (.slice ea en ec) ∧ w'.cell? ⟨w.heap.size + 1, 3, none⟩ = some (.int .i64 factor) ∧ w'.cell? ⟨w.heap.size + 1, 4, none⟩ = some (.string serial) ∧ Fr [] w2 w') :=
    fun w' fr => ⟨fr.range hR2, fr.cell_some c0 (by simp), fr.cell_some c1 (by simp), fr.cell_some c2 (by simp), fr.cell_some c3 (by simp), fr.cell_some c4 (by simp), fr⟩
  have HK := Lib.hid hkeep
  clear hkeep c0 c1 c2 c3 c4 hR2
  refine wp_region_held_drew (S := (fun w' => w'.rangeAt w.heap.size 0 cs ∧ w'.cell? ⟨w.heap.size + 1, 0, none⟩ = some (.slice ma mn mc) ∧ w'.cell? ⟨w.heap.size + 1, 1, none⟩ = some (.slice ba bn bc) ∧ w'.cell? ⟨w.heap.size + 1, 2, none⟩ = some (.slice ea en ec) ∧ w'.cell? ⟨w.heap.size + 1, 3, none⟩ = some (.int .i64 factor) ∧ w'.cell? ⟨w.heap.size + 1, 4, none⟩ = some (.string serial) ∧ Fr [] w2 w')) (by kernel_rfl) (HK.out _ (Fr.refl [] _).drew) (fun hHeld => ?_)
  refine' wpAnyH_take (i := 0) (oi := ⟨some 9, _, _, _, _, _⟩) (v := _) rfl (by kernel_rfl) (by kernel_rfl) (by kernel_rfl) (fun _ _ _ h => h) (yieldsIf_load_mid (by rfl) _ _ rfl _ _ rfl _ _ (fun w h => h.1) hu1 rfl hi1) hHeld ?_
  (try simp only [Act.put, List.setIfInBounds_toArray, List.set_cons_zero, List.set_cons_succ])
  refine wpAnyH_take (i := 1) (oi := ⟨some 10, _, _, _, _, _⟩) (v := .int .i64 m) rfl (by kernel_rfl) (by kernel_rfl) (by kernel_rfl) (fun _ _ _ h => h) (Or.inl ⟨by rfl, ?_⟩) hHeld ?_
  · intro w hSw; (try dsimp only at hSw); go_simp
  (try simp only [Act.put, List.setIfInBounds_toArray, List.set_cons_zero, List.set_cons_succ])
  refine wpAnyH_take (i := 2) (oi := ⟨some 11, _, _, _, _, _⟩) (v := .string s) rfl (by kernel_rfl) (by kernel_rfl) (by kernel_rfl) (fun _ _ _ h => h) (Or.inl ⟨by rfl, ?_⟩) hHeld ?_
  · intro w hSw; (try dsimp only at hSw); go_simp
  (try simp only [Act.put, List.setIfInBounds_toArray, List.set_cons_zero, List.set_cons_succ])
  refine wpAnyH_take (i := 3) (oi := ⟨some 12, _, _, _, _, _⟩) (v := .agg #[.slice ma mn mc, .slice ba bn bc, .slice ea en ec, .int .i64 factor, .string serial]) rfl (by kernel_rfl) (by kernel_rfl) (by kernel_rfl) (fun _ _ _ h => h) (Or.inl ⟨by rfl, ?_⟩) hHeld ?_
  · intro w hSw; (try dsimp only at hSw); go_simp
  (try simp only [Act.put, List.setIfInBounds_toArray, List.set_cons_zero, List.set_cons_succ])
  refine' wpAnyH_take (i := 5) (oi := ⟨some 14, _, _, _, _, _⟩) (v := _) rfl (by kernel_rfl) (by kernel_rfl) (by kernel_rfl) (fun _ _ _ h => h) (yieldsIf_load_mid (by rfl) _ _ rfl _ _ rfl _ _ (fun w h => h.1) hu1 rfl hi1) hHeld ?_
  (try simp only [Act.put, List.setIfInBounds_toArray, List.set_cons_zero, List.set_cons_succ])
  refine wpAnyH_take (i := 6) (oi := ⟨some 15, _, _, _, _, _⟩) (v := .int .i64 m) rfl (by kernel_rfl) (by kernel_rfl) (by kernel_rfl) (fun _ _ _ h => h) (Or.inl ⟨by rfl, ?_⟩) hHeld ?_
  · intro w hSw; (try dsimp only at hSw); go_simp
  (try simp only [Act.put, List.setIfInBounds_toArray, List.set_cons_zero, List.set_cons_succ])
  refine wpAnyH_take (i := 7) (oi := ⟨some 16, _, _, _, _, _⟩) (v := .string s) rfl (by kernel_rfl) (by kernel_rfl) (by kernel_rfl) (fun _ _ _ h => h) (Or.inl ⟨by rfl, ?_⟩) hHeld ?_
  · intro w hSw; (try dsimp only at hSw); go_simp
  (try simp only [Act.put, List.setIfInBounds_toArray, List.set_cons_zero, List.set_cons_succ])
  refine wpAnyH_take (i := 8) (oi := ⟨some 17, _, _, _, _, _⟩) (v := .agg #[.slice ma mn mc, .slice ba bn bc, .slice ea en ec, .int .i64 factor, .string serial]) rfl (by kernel_rfl) (by kernel_rfl) (by kernel_rfl) (fun _ _ _ h => h) (Or.inl ⟨by rfl, ?_⟩) hHeld ?_
  · intro w hSw; (try dsimp only at hSw); go_simp
  (try simp only [Act.put, List.setIfInBounds_toArray, List.set_cons_zero, List.set_cons_succ])
  refine wpAnyH_ready (rs := [4]) (by kernel_rfl) (by simp) ?_
  refine AllReadyH.cons (o := ⟨some 13, _, _, _, _, _⟩) rfl (fun K hK => ?_) AllReadyH.nil
  rw [if_pos (by rfl)]
  go_simp
  refine (HP.out _ (hF2.trans hHeld.2.2.2.2.2.2)).mono ?_
  rintro e w3 ⟨n, hn, rfl, fr⟩
  refine hK.out _ _ (HK.out _ (hHeld.2.2.2.2.2.2.trans fr)) (fun hHeld' => ?_)
  clear hK K hHeld
  have hHeld := hHeld'
  clear hHeld'
  (try simp only [Act.put, List.setIfInBounds_toArray, List.set_cons_zero, List.set_cons_succ])
  refine wpAnyH_ready (rs := [9]) (by kernel_rfl) (by simp) ?_
  refine AllReadyH.cons (o := ⟨some 18, _, _, _, _, _⟩) rfl (fun K hK => ?_) AllReadyH.nil
  rw [if_pos (by rfl)]
  go_simp
  refine (HR.out _ (hF2.trans hHeld.2.2.2.2.2.2)).mono ?_
  rintro e w4 ⟨n', hn', rfl, fr2⟩
  obtain rfl := hn'.eq hn
  generalize serV g m s.size n' = V at *
  have hVV : (V == V) = true := by simp
  refine hK.out _ _ (HK.out _ (hHeld.2.2.2.2.2.2.trans fr2)) (fun hHeld' => ?_)
  clear hK K hHeld
  have hHeld := hHeld'
  clear hHeld'
  (try simp only [Act.put, List.setIfInBounds_toArray, List.set_cons_zero, List.set_cons_succ])
  refine wpAnyH_take (i := 10) (oi := ⟨some 19, _, _, _, _, _⟩) (v := .bool true) rfl (by kernel_rfl) (by kernel_rfl) (by kernel_rfl) (fun _ _ _ h => h) (Or.inl ⟨by rfl, ?_⟩) hHeld ?_
  · intro w hSw; (try dsimp only at hSw); go_simp
  (try simp only [Act.put, List.setIfInBounds_toArray, List.set_cons_zero, List.set_cons_succ])
  refine wpAnyH_take (i := 11) (oi := ⟨some 20, _, _, _, _, _⟩) (v := .bool true) rfl (by kernel_rfl) (by kernel_rfl) (by kernel_rfl) (fun _ _ _ h => h) (Or.inl ⟨by rfl, ?_⟩) hHeld ?_
  · intro w hSw; (try dsimp only at hSw); go_simp
  (try simp only [Act.put, List.setIfInBounds_toArray, List.set_cons_zero, List.set_cons_succ])
  refine wpAnyH_ready (rs := [12]) (by kernel_rfl) (by simp) ?_
  refine AllReadyH.cons (o := ⟨some 21, _, _, _, _, _⟩) rfl (fun K hK => ?_) AllReadyH.nil
  rw [if_pos (by rfl)]
  go_simp
  refine (pays40_any _).mono ?_
  rintro e w5 ⟨rfl, fr3⟩
  refine hK.out _ _ (HK.out _ (hHeld.2.2.2.2.2.2.trans fr3)) (fun hHeld' => ?_)
  clear hK K hHeld
  have hHeld := hHeld'
  clear hHeld'
  (try simp only [Act.put, List.setIfInBounds_toArray, List.set_cons_zero, List.set_cons_succ])
  refine wpAnyH_take (i := 13) (oi := ⟨some 22, _, _, _, _, _⟩) (v := .bool true) rfl (by kernel_rfl) (by kernel_rfl) (by kernel_rfl) (fun _ _ _ h => h) (Or.inl ⟨by rfl, ?_⟩) hHeld ?_
  · intro w hSw; (try dsimp only at hSw); go_simp
  (try simp only [Act.put, List.setIfInBounds_toArray, List.set_cons_zero, List.set_cons_succ])
  refine wpAnyH_take (i := 14) (oi := ⟨some 8, _, _, _, _, _⟩) (v := .bool true) rfl (by kernel_rfl) (by kernel_rfl) (by kernel_rfl) (fun _ _ _ h => h) (Or.inl ⟨by rfl, ?_⟩) hHeld ?_
  · intro w hSw; (try dsimp only at hSw); go_simp
  (try simp only [Act.put, List.setIfInBounds_toArray, List.set_cons_zero, List.set_cons_succ])
  have hW := hHeld.2.2.2.2.2.2
  clear hHeld
  refine wpAnyH_done (by kernel_rfl) ?_ _
  go_wp2_with fail
  go_ret
  exact ⟨rfl, (hF2.trans hW).below⟩
theorem own : ownKnob Try.prog.godebug = none := by kernel_rfl
theorem laidOut : laidOutB Try.prog = true := by kernel_rfl
set_option maxRecDepth 100000 in
theorem lifted (os : Os) (started : os.Started) (H : Type) (enc : TypeId × Value → H) :
    ReturnsInHanded {} Try.checked os 9 .any (Rows.addonSerialsSpec.pre6 enc Try.prog Try.f9 Rows.addonSerialsRow.domain false) (Rows.addonSerialsSpec.post enc Try.prog Try.f9 false true false false) := by
  refine returnsInHanded_of_change (C := Try.checked) own started (by kernel_rfl) Try.func9
    (ChangeSpec.witness6 (enc := enc) (C := Try.checked) false ⟨#[], #[.agg #[.string ByteArray.empty, .int .i64 0, .int .i64 0, .int .i64 0, .int .i64 0, .int .i64 0, .int .i64 0, .int .i64 0, .int .i64 0, .int .i64 0, .int .i64 0, .int .i64 0, .int .i64 0, .int .i64 0, .int .i64 0, .int .i64 0, .int .i64 0, .int .i64 0, .int .i64 0, .int .i64 0, .slice none 0 0, .slice none 0 0], .int .i64 0, .string ByteArray.empty, .agg #[.slice none 0 0, .slice none 0 0, .slice none 0 0, .int .i64 0, .string ByteArray.empty]], []⟩ 8 (by kernel_rfl) (by kernel_rfl) (by kernel_rfl) (by kernel_rfl)) ?_
  intro W base args ds gs before hval0 hW hcnd _
  have hval : ∀ (j : Nat) t v, Try.f9.params[j]? = some t → args[j]? = some v → Value.okWide Try.prog W .any base t v := hval0
  have hW' := hW
  obtain ⟨p, q, hA0, hV, rfl, hfz, hnd⟩ := hW
  have hA : DataW.TrodAll enc Try.prog W 0 (fun _ => true) true Try.f9.params.toList args.toList ds p := hA0
  rw [Try.params9] at hA hval
  obtain ⟨v0, vs0, d0, ds0, p0, q0, hargs, rfl, rfl, h0, r0⟩ := trodAll_cons hA
  obtain ⟨v1, vs1, d1, ds1, p1, q1, rfl, rfl, rfl, h1, r1⟩ := trodAll_cons r0
  obtain ⟨v2, vs2, d2, ds2, p2, q2, rfl, rfl, rfl, h2, r2⟩ := trodAll_cons r1
  obtain ⟨v3, vs3, d3, ds3, p3, q3, rfl, rfl, rfl, h3, r3⟩ := trodAll_cons r2
  obtain ⟨rfl, rfl, rfl⟩ := trodAll_nil r3
  obtain rfl : args = #[v0, v1, v2, v3] := by cases args; simp_all
  obtain ⟨rfl, rfl⟩ := trodVars_none hV
  have k0 := h0
  have lt0 : ∀ x ∈ p0, x.block < W.heap.size := by obtain ⟨m, hm⟩ := k0; exact DataW.trod_lt m _ _ _ hm
  obtain ⟨g0, hv0, hg0⟩ := open_game (hval 0 29 v0 rfl rfl) h0
  obtain ⟨a1, rfl, rfl, rfl, w1⟩ := open_int Try.underlying3 (hval 1 3 v1 rfl rfl) h1
  obtain ⟨a2, rfl, rfl, rfl, w2⟩ := open_string Try.underlying9 (hval 2 9 v2 rfl rfl) h2
  have k3 := h3
  have lt3 : ∀ x ∈ p3, x.block < W.heap.size := by obtain ⟨m, hm⟩ := k3; exact DataW.trod_lt m _ _ _ hm
  obtain ⟨g3, hv3, hg3⟩ := open_result (hval 3 38 v3 rfl rfl) h3
  clear hA0 hval0
  refine (walk v0 g0 a1 a2 v3 g3 W hv0 hg0 w1 w2 hv3 hg3).mono fun e W' ⟨he, bel⟩ => ?_
  subst he
  exact ⟨_, rfl, _, _, _, [], _, [], hW', trodAll_mk1 (shut_bool Try.underlying4 _), (trodAll_cons_mk (Below.trod laidOut (by kernel_rfl) (of_decide_eq_true (by kernel_rfl)) k0 bel lt0) (trodAll_cons_mk (shut_int Try.underlying3 w1) (trodAll_cons_mk (shut_string Try.underlying9 w2) (trodAll_cons_mk (Below.trod laidOut (by kernel_rfl) (of_decide_eq_true (by kernel_rfl)) k3 bel lt3) trodAll_mk0)))), rfl, bel.frame _, fun h => by cases h⟩
theorem over : Rows.addonSerialsRow.holds Try.pinned (OpenSpec.ofChange Rows.addonSerialsSpec) :=
  OpenClaim.holds_of_wide 9 Try.f9 rfl rfl rfl rfl rfl rfl rfl ⟨rfl, rfl, rfl, rfl, rfl⟩ rfl rfl rfl rfl rfl (by kernel_rfl) Try.func9 (by kernel_rfl)
    (of_decide_eq_true (by kernel_rfl)) (by unfold Func.isWrapper; first | (rw [if_pos (by decide +kernel)]; kernel_rfl) | (rw [if_neg (by decide +kernel)]; exact ⟨rfl, rfl⟩))
    (fun os started H enc _ => lifted os started H enc)
/-- THE STATEMENT -/
theorem proved : Rows.AddonSerialsSaid := over
end Go.Proofs.Ytdbkkbeelemnhaa.addonSerials
