/-
  PrizeLooks: for all pools, carries and awards the statement returns true: Balanced reports what the document says. No conditions.
-/
import Derived.Test.YtdinjekpcgndmaaPrizeBase
import Derived.Test.YtdinjekpcgndmaaIntArg
import Derived.Deep.CutBlock
import Derived.Deep.DeepCutAuto
import Derived.ProofKit
import Derived.OpenShut
import Derived.ShutString
import Derived.ChangeOld
namespace Go.Proofs.Ytdinjekpcgndmaa.prizeLooks
open Go.ChangeShapes Go.WideShapes Go.ChangeAt Go.RowKit
open Go.ChangeMaps (open_string shut_string)
set_option linter.unusedVariables false
attribute [local go_sem ↓] Go.wp_at_zero Go.wp_at_succ
set_option maxRecDepth 20000 in
set_option maxHeartbeats 4000000 in
theorem walk (v0 : Value) (s A R : Int) (aT : Option Addr) (tt : List Int) (cT : Nat) (v1 vt : Value) (ct : List Int) (cr cl : Int) (v2 : Value) (aC aE aP aN : Option Addr) (tC tE tP tN : List Int) (cC cE cP cN : Nat) (br dr nr rl : Int) (w : World)
    (hv0 : v0 = .agg #[.int .i64 s, .int .i64 A, .int .i64 R, .slice aT tt.length cT]) (hr0 : RdI w (.slice aT tt.length cT) tt) (hv1 : v1 = .agg #[vt, .int .i64 cr, .int .i64 cl]) (hr1 : RdI w vt ct)
    (hv2 : v2 = .agg #[.slice aC tC.length cC, .slice aE tE.length cE, .slice aP tP.length cP, .int .i64 br, .int .i64 dr, .slice aN tN.length cN, .int .i64 nr, .int .i64 rl]) (hr2 : RdI w (.slice aP tP.length cP) tP) (hr3 : RdI w (.slice aN tN.length cN) tN) :
    Calls Try.prog 17 #[v0, v1, v2] w fun e w' => e = .returned (.bool true) ∧ Below w.heap.size w w' := by
  subst hv0 hv1 hv2
  obtain ⟨ac, cc, rfl, nc, mc, rc⟩ := id hr1
  obtain ⟨_, _, hvP, nP, mP, _⟩ := id hr2
  simp only [Value.slice.injEq] at hvP
  obtain ⟨rfl, _, rfl⟩ := hvP
  obtain ⟨_, _, hvN, nN, mN, _⟩ := id hr3
  simp only [Value.slice.injEq] at hvN
  obtain ⟨rfl, _, rfl⟩ := hvN
  unfold maxLen at mc mP mN
  obtain ⟨fc, ec⟩ := hr1.few
  obtain ⟨fP, eP⟩ := hr2.few
  obtain ⟨fN, eN⟩ := hr3.few
  rw [← ec] at fc
  rw [← eP] at fP
  rw [← eN] at fN
  generalize ct.take 14 = lc at *
  generalize tP.take 14 = lP at *
  generalize tN.take 14 = lN at *
  have hB1 := fun w' (h : Fr [] w w') => bal_any s A R cr cl br dr nr rl aT ac aC aE aP aN tt.length cT cc tC.length cC tE.length cE cP cN lc lP lN w' (fc.below h) (fP.below h) (fN.below h)
  have hB2 := fun w' (h : Fr [] w w') => rbal_any s A R cr cl br dr nr rl aT ac aC aE aP aN tt.length cT cc tC.length cC tE.length cE cP cN lc lP lN w' (fc.below h) (fP.below h) (fN.below h)
  generalize blB A cr nr lc lP lN = B at *
  have HB1 := Lib.hid hB1
  have HB2 := Lib.hid hB2
  have HEC := Lib.hid ec
  have HEP := Lib.hid eP
  have HEN := Lib.hid eN
  have hBB : (B == B) = true := by simp
  clear hB1 hB2 ec eP eN fc fP fN hr0 hr1 hr2 hr3 rc
  go_enter Try.func17, Try.ntmps17
  go_upto_region 1 with (fail)
  have hM := @blM_start A cr nr (.slice aT tt.length cT) (.slice ac ct.length cc) (.slice aC tC.length cC) (.slice aE tE.length cE) (.slice aP tP.length cP) (.slice aN tN.length cN) s R cl br dr rl w
  simp only [Nat.add_assoc, Nat.reduceAdd]
  generalize World.alloc _ _ = x0 at hM ⊢
  go_cut [6] (fun t wx => t = .bool false ∧ BlM A cr nr (.slice aT tt.length cT) (.slice ac lc.length cc) (.slice aC tC.length cC) (.slice aE tE.length cE) (.slice aP lP.length cP) (.slice aN lN.length cN) s R cl br dr rl w wx)
  case first =>
    have k0 := hM.c.cell 0 _ rfl
    have a2 := hM.a.cell 2 _ rfl
    have a5 := hM.a.cell 5 _ rfl
    have fk := fun i => hM.c.frozen i
    have fa := fun i => hM.a.frozen i
    have hset : ∀ y, y = (((x0.setCell ⟨w.heap.size + 1, 0, none⟩ (.slice ac lc.length cc)).setCell ⟨w.heap.size + 2, 2, none⟩ (.slice aP lP.length cP)).setCell ⟨w.heap.size + 2, 5, none⟩ (.slice aN lN.length cN)) →
        BlM A cr nr (.slice aT tt.length cT) (.slice ac lc.length cc) (.slice aC tC.length cC) (.slice aE tE.length cE) (.slice aP lP.length cP) (.slice aN lN.length cN) s R cl br dr rl w y := by
      intro y hy
      subst hy
      have hf : Fr [w.heap.size + 1, w.heap.size + 2] x0 (((x0.setCell ⟨w.heap.size + 1, 0, none⟩ (.slice ac lc.length cc)).setCell ⟨w.heap.size + 2, 2, none⟩ (.slice aP lP.length cP)).setCell ⟨w.heap.size + 2, 5, none⟩ (.slice aN lN.length cN)) :=
        (((Fr.refl _ _).setCell (.inl (by simp)) _).setCell (.inl (by simp)) _).setCell (.inl (by simp)) _
      exact ⟨hM.p.fr hf (by simp), ((hM.c.set 0 _).other (by omega) _ _).other (by omega) _ _, ((hM.a.other (by omega) 0 (.slice ac lc.length cc)).set 2 _).set 5 _, hM.fr.trans' hf (by intro i hi; simp at hi; right; omega)⟩
    have HSET := Lib.hid hset
    clear hM hset
    have hset := HSET.out
    rw [HEC.out, HEP.out, HEN.out] at hset
    have HSET2 := Lib.hid hset
    clear hset HSET
    go_region_with ((go_at_call 41; refine (few_any _ _ _ _ (by omega) (by omega)).mono ?_; rintro e w' ⟨rfl, rfl⟩))
    all_goals
      go_wp2_with fail
      go_meet
      exact ⟨rfl, by rw [HEC.out, HEP.out, HEN.out]; exact (HSET2.out _ rfl).go (Fr.refl [] _).drew⟩
  case rest =>
    obtain ⟨rfl, hM⟩ := hcut
    obtain ⟨x1, rfl⟩ : ∃ x1 : World, x1 = wc := ⟨_, rfl⟩
    have hRp := hM.p.range
    have hRc := hM.c.range
    have hRw := hM.a.range
    have HF1 := Lib.hid hM.fr
    have hup := Try.underlying45
    have huc := Try.underlying43
    have huw := Try.underlying60
    have hip := infoPools
    have hic : (Try.prog.info? 43).map (·.size) = some 3 := by kernel_rfl
    have hiw := infoAward
    clear hM
    go_wp2_with fail
    refine wp_region_held_drew (S := (fun w' => Fr [] x1 w')) (by kernel_rfl) (Fr.refl [] _).drew (fun hHeld => ?_)
    refine' wpAnyH_take (i := 0) (oi := ⟨some 21, _, _, _, _, _⟩) (v := _) rfl (by kernel_rfl) (by kernel_rfl) (by kernel_rfl) (fun _ _ _ h => h) (yieldsIf_load_mid (by rfl) _ _ rfl _ _ rfl _ _ (fun w h => h.range hRp) hup rfl hip) hHeld ?_
    (try simp only [Act.put, List.setIfInBounds_toArray, List.set_cons_zero, List.set_cons_succ])
    refine' wpAnyH_take (i := 1) (oi := ⟨some 22, _, _, _, _, _⟩) (v := _) rfl (by kernel_rfl) (by kernel_rfl) (by kernel_rfl) (fun _ _ _ h => h) (yieldsIf_load_mid (by rfl) _ _ rfl _ _ rfl _ _ (fun w h => h.range hRc) huc rfl hic) hHeld ?_
    (try simp only [Act.put, List.setIfInBounds_toArray, List.set_cons_zero, List.set_cons_succ])
    refine' wpAnyH_take (i := 2) (oi := ⟨some 23, _, _, _, _, _⟩) (v := _) rfl (by kernel_rfl) (by kernel_rfl) (by kernel_rfl) (fun _ _ _ h => h) (yieldsIf_load_mid (by rfl) _ _ rfl _ _ rfl _ _ (fun w h => h.range hRw) huw rfl hiw) hHeld ?_
    (try simp only [Act.put, List.setIfInBounds_toArray, List.set_cons_zero, List.set_cons_succ])
    refine' wpAnyH_take (i := 4) (oi := ⟨some 25, _, _, _, _, _⟩) (v := _) rfl (by kernel_rfl) (by kernel_rfl) (by kernel_rfl) (fun _ _ _ h => h) (yieldsIf_load_mid (by rfl) _ _ rfl _ _ rfl _ _ (fun w h => h.range hRp) hup rfl hip) hHeld ?_
    (try simp only [Act.put, List.setIfInBounds_toArray, List.set_cons_zero, List.set_cons_succ])
    refine' wpAnyH_take (i := 5) (oi := ⟨some 26, _, _, _, _, _⟩) (v := _) rfl (by kernel_rfl) (by kernel_rfl) (by kernel_rfl) (fun _ _ _ h => h) (yieldsIf_load_mid (by rfl) _ _ rfl _ _ rfl _ _ (fun w h => h.range hRc) huc rfl hic) hHeld ?_
    (try simp only [Act.put, List.setIfInBounds_toArray, List.set_cons_zero, List.set_cons_succ])
    refine' wpAnyH_take (i := 6) (oi := ⟨some 27, _, _, _, _, _⟩) (v := _) rfl (by kernel_rfl) (by kernel_rfl) (by kernel_rfl) (fun _ _ _ h => h) (yieldsIf_load_mid (by rfl) _ _ rfl _ _ rfl _ _ (fun w h => h.range hRw) huw rfl hiw) hHeld ?_
    (try simp only [Act.put, List.setIfInBounds_toArray, List.set_cons_zero, List.set_cons_succ])
    refine wpAnyH_ready (rs := [3]) (by kernel_rfl) (by simp) ?_
    refine AllReadyH.cons (o := ⟨some 24, _, _, _, _, _⟩) rfl (fun K hK => ?_) AllReadyH.nil
    rw [if_pos (by rfl)]
    go_simp
    (with_reducible refine (HB1.out _ (HF1.out.trans hHeld)).mono ?_)
    rintro e w8 ⟨rfl, f8⟩
    refine hK.out _ _ (hHeld.trans f8) (fun hHeld' => ?_)
    clear hK K hHeld
    have hHeld := hHeld'
    clear hHeld'
    (try simp only [Act.put, List.setIfInBounds_toArray, List.set_cons_zero, List.set_cons_succ])
    refine wpAnyH_ready (rs := [7]) (by kernel_rfl) (by simp) ?_
    refine AllReadyH.cons (o := ⟨some 28, _, _, _, _, _⟩) rfl (fun K hK => ?_) AllReadyH.nil
    rw [if_pos (by rfl)]
    go_simp
    (with_reducible refine (HB2.out _ (HF1.out.trans hHeld)).mono ?_)
    rintro e w9 ⟨rfl, f9⟩
    refine hK.out _ _ (hHeld.trans f9) (fun hHeld' => ?_)
    clear hK K hHeld
    have hHeld := hHeld'
    clear hHeld'
    (try simp only [Act.put, List.setIfInBounds_toArray, List.set_cons_zero, List.set_cons_succ])
    refine wpAnyH_take (i := 8) (oi := ⟨some 29, _, _, _, _, _⟩) (v := .bool true) rfl (by kernel_rfl) (by kernel_rfl) (by kernel_rfl) (fun _ _ _ h => h) (Or.inl ⟨by rfl, ?_⟩) hHeld ?_
    · intro w hSw; (try dsimp only at hSw); go_simp
    (try simp only [Act.put, List.setIfInBounds_toArray, List.set_cons_zero, List.set_cons_succ])
    refine wpAnyH_take (i := 9) (oi := ⟨some 30, _, _, _, _, _⟩) (v := .bool true) rfl (by kernel_rfl) (by kernel_rfl) (by kernel_rfl) (fun _ _ _ h => h) (Or.inl ⟨by rfl, ?_⟩) hHeld ?_
    · intro w hSw; (try dsimp only at hSw); go_simp
    (try simp only [Act.put, List.setIfInBounds_toArray, List.set_cons_zero, List.set_cons_succ])
    refine wpAnyH_ready (rs := [10]) (by kernel_rfl) (by simp) ?_
    refine AllReadyH.cons (o := ⟨some 31, _, _, _, _, _⟩) rfl (fun K hK => ?_) AllReadyH.nil
    rw [if_pos (by rfl)]
    go_simp
    refine (works_any _).mono ?_
    rintro e w10 ⟨rfl, f10⟩
    refine hK.out _ _ (hHeld.trans f10) (fun hHeld' => ?_)
    clear hK K hHeld
    have hHeld := hHeld'
    clear hHeld'
    (try simp only [Act.put, List.setIfInBounds_toArray, List.set_cons_zero, List.set_cons_succ])
    refine wpAnyH_take (i := 11) (oi := ⟨some 32, _, _, _, _, _⟩) (v := .bool true) rfl (by kernel_rfl) (by kernel_rfl) (by kernel_rfl) (fun _ _ _ h => h) (Or.inl ⟨by rfl, ?_⟩) hHeld ?_
    · intro w hSw; (try dsimp only at hSw); go_simp
    (try simp only [Act.put, List.setIfInBounds_toArray, List.set_cons_zero, List.set_cons_succ])
    refine wpAnyH_take (i := 12) (oi := ⟨some 6, _, _, _, _, _⟩) (v := .bool true) rfl (by kernel_rfl) (by kernel_rfl) (by kernel_rfl) (fun _ _ _ h => h) (Or.inl ⟨by rfl, ?_⟩) hHeld ?_
    · intro w hSw; (try dsimp only at hSw); go_simp
    (try simp only [Act.put, List.setIfInBounds_toArray, List.set_cons_zero, List.set_cons_succ])
    have HFIN := Lib.hid (HF1.out.trans hHeld)
    refine wpAnyH_done (by kernel_rfl) ?_ _
    clear hHeld
    go_wp2_with fail
    go_ret
    exact ⟨rfl, HFIN.out.below⟩
theorem own : ownKnob Try.prog.godebug = none := by kernel_rfl
theorem laidOut : laidOutB Try.prog = true := by kernel_rfl
set_option maxRecDepth 100000 in
theorem lifted (os : Os) (started : os.Started) (H : Type) (enc : TypeId × Value → H) :
    ReturnsInHanded {} Try.checked os 17 .any (Rows.prizeLooksSpec.pre6 enc Try.prog Try.f17 Rows.prizeLooksRow.domain false) (Rows.prizeLooksSpec.post enc Try.prog Try.f17 false true false false) := by
  refine returnsInHanded_of_change (C := Try.checked) own started (by kernel_rfl) Try.func17
    (ChangeSpec.witness6 (enc := enc) (C := Try.checked) false ⟨#[], #[.agg #[.int .i64 0, .int .i64 0, .int .i64 0, .slice none 0 0], .agg #[.slice none 0 0, .int .i64 0, .int .i64 0], .agg #[.slice none 0 0, .slice none 0 0, .slice none 0 0, .int .i64 0, .int .i64 0, .slice none 0 0, .int .i64 0, .int .i64 0]], []⟩ 8 (by kernel_rfl) (by kernel_rfl) (by kernel_rfl) (by kernel_rfl)) ?_
  intro W base args ds gs before hval0 hW hcnd _
  have hval : ∀ (j : Nat) t v, Try.f17.params[j]? = some t → args[j]? = some v → Value.okWide Try.prog W .any base t v := hval0
  have hW' := hW
  obtain ⟨p, q, hA0, hV, rfl, hfz, hnd⟩ := hW
  have hA : DataW.TrodAll enc Try.prog W 0 (fun _ => true) true Try.f17.params.toList args.toList ds p := hA0
  rw [Try.params17] at hA hval
  obtain ⟨v0, vs0, d0, ds0, p0, q0, hargs, rfl, rfl, h0, r0⟩ := trodAll_cons hA
  obtain ⟨v1, vs1, d1, ds1, p1, q1, rfl, rfl, rfl, h1, r1⟩ := trodAll_cons r0
  obtain ⟨v2, vs2, d2, ds2, p2, q2, rfl, rfl, rfl, h2, r2⟩ := trodAll_cons r1
  obtain ⟨rfl, rfl, rfl⟩ := trodAll_nil r2
  obtain rfl : args = #[v0, v1, v2] := by cases args; simp_all
  obtain ⟨rfl, rfl⟩ := trodVars_none hV
  have k0 := h0
  have lt0 : ∀ x ∈ p0, x.block < W.heap.size := by obtain ⟨m, hm⟩ := k0; exact DataW.trod_lt m _ _ _ hm
  obtain ⟨s, A, R, aT, tt, cT, hv0, hr0⟩ := open_pools (hval 0 45 v0 rfl rfl) h0
  have k1 := h1
  have lt1 : ∀ x ∈ p1, x.block < W.heap.size := by obtain ⟨m, hm⟩ := k1; exact DataW.trod_lt m _ _ _ hm
  obtain ⟨vt, ct, cr, cl, hv1, hr1⟩ := open_carry (hval 1 43 v1 rfl rfl) h1
  have k2 := h2
  have lt2 : ∀ x ∈ p2, x.block < W.heap.size := by obtain ⟨m, hm⟩ := k2; exact DataW.trod_lt m _ _ _ hm
  obtain ⟨aC, aE, aP, aN, tC, tE, tP, tN, cC, cE, cP, cN, br, dr, nr, rl, hv2, hr2, hr3⟩ := open_award (hval 2 60 v2 rfl rfl) h2
  clear hA0 hval0
  refine (walk v0 s A R aT tt cT v1 vt ct cr cl v2 aC aE aP aN tC tE tP tN cC cE cP cN br dr nr rl W hv0 hr0 hv1 hr1 hv2 hr2 hr3).mono fun e W' ⟨he, bel⟩ => ?_
  subst he
  exact ⟨_, rfl, _, _, _, [], _, [], hW', trodAll_mk1 (shut_bool Try.underlying4 _), (trodAll_cons_mk (Below.trod laidOut (by kernel_rfl) (of_decide_eq_true (by kernel_rfl)) k0 bel lt0) (trodAll_cons_mk (Below.trod laidOut (by kernel_rfl) (of_decide_eq_true (by kernel_rfl)) k1 bel lt1) (trodAll_cons_mk (Below.trod laidOut (by kernel_rfl) (of_decide_eq_true (by kernel_rfl)) k2 bel lt2) trodAll_mk0))), rfl, bel.frame _, fun h => by cases h⟩
theorem over : Rows.prizeLooksRow.holds Try.pinned (OpenSpec.ofChange Rows.prizeLooksSpec) :=
  OpenClaim.holds_of_wide 17 Try.f17 rfl rfl rfl rfl rfl rfl rfl ⟨rfl, rfl, rfl, rfl, rfl⟩ rfl rfl rfl rfl rfl (by kernel_rfl) Try.func17 (by kernel_rfl)
    (of_decide_eq_true (by kernel_rfl)) (by unfold Func.isWrapper; first | (rw [if_pos (by decide +kernel)]; kernel_rfl) | (rw [if_neg (by decide +kernel)]; exact ⟨rfl, rfl⟩))
    (fun os started H enc _ => lifted os started H enc)
/-- THE STATEMENT -/
theorem proved : Rows.PrizeLooksSaid := over
end Go.Proofs.Ytdinjekpcgndmaa.prizeLooks
