/-
  RollConserves: for every game, amounts, counts and number of rolls the statement returns true: what Cap returns has the same sum, and so have all pools and carries of Flow together. No conditions.
-/
import Derived.Test.YtdinjekpcgndmaaAwake
import Derived.Test.YtdinjekpcgndmaaRollLaw
import Derived.Test.YtdinjekpcgndmaaSum37
import Derived.Test.YtdinjekpcgndmaaIntArg
import Derived.ProofKit
import Derived.OpenShut
import Derived.ShutString
import Derived.ChangeOld
namespace Go.Proofs.Ytdinjekpcgndmaa.rollConserves
open Go.ChangeShapes Go.WideShapes Go.ChangeAt Go.RowKit
open Go.ChangeMaps (open_string shut_string)
set_option linter.unusedVariables false
set_option maxRecDepth 20000 in
set_option maxHeartbeats 1500000 in
theorem walk (v0 : Value) (g : Gm) (v1 : Value) (ts : List Int) (v2 : Value) (cs : List Int) (rolls : Int) (w : World) (hv0 : v0 = g.val) (hok : g.Ok w) (hr1 : RdI w v1 ts) (hr2 : RdI w v2 cs) (hro : (Lit.int .i64 rolls).wf = true) :
    Calls Try.prog 5 #[v0, v1, v2, .int .i64 rolls] w fun e w' => e = .returned (.bool true) ∧ Below w.heap.size w w' := by
  subst hv0
  have hCap := fun w' (h : Fr [] w w') => cap_any g v1 ts w' (hok.fr h) (hr1.below h)
  have hFlow := fun w' (h : Fr [] w w') => flow_any g v1 v2 ts cs rolls w' (hok.fr h) (hr1.below h) (hr2.below h)
  have h21 : ∀ w b, GmAt w b g → w.cell? ⟨b, 21, none⟩ = some (.slice g.ta g.tiers.length g.tc) := fun w b h => h.cell 21 _ rfl
  have hc0 := @cap_law0 g ts
  have hc1 := @cap_err g ts
  have hf0 := @fl_law0 g ts cs rolls
  have hf1 := @fl_law1 g ts cs rolls
  have hR1 := hr1
  obtain ⟨a1, k1, rfl, hk1, hk2, _⟩ := hr1
  obtain ⟨a2, k2, rfl, hk3, hk4, _⟩ := hr2
  have hl1 : ts.length ≤ 9223372036854775807 := Nat.le_trans hk1 hk2
  have hl2 : cs.length ≤ 9223372036854775807 := Nat.le_trans hk3 hk4
  unfold CapPost at hCap
  unfold FlPost at hFlow
  generalize capE g ts = E1 at *
  generalize capL g ts = A at *
  generalize flE g ts cs rolls = E2 at *
  generalize flP g ts cs rolls = P at *
  generalize flC g ts cs rolls = C at *
  generalize flN g ts cs rolls = N at *
  obtain ⟨n, hn⟩ : ∃ n, n = g.tiers.length := ⟨_, rfl⟩
  rw [← hn] at h21 hc0 hf0
  have HCAP := Lib.hid hCap
  have HFLOW := Lib.hid hFlow
  have H21 := Lib.hid h21
  have HC0 := Lib.hid hc0
  have HC1 := Lib.hid hc1
  have HF0 := Lib.hid hf0
  have HF1 := Lib.hid hf1
  have HR1 := Lib.hid hR1
  clear hCap hFlow h21 hc0 hc1 hf0 hf1 hok hn hk1 hk2 hk3 hk4 hR1
  by_cases hb1 : 40 < ts.length
  · have d1 : decide (40 < (ts.length : Int)) = true := by simp; omega
    go_enter Try.func5, Try.ntmps5
    go_wp2_with (refine box_game rfl (.tmp 0) rfl g rfl ?_; intro w1 hg1 hz1 hf1)
    refine (awake_any _).mono ?_
    rintro e w2 ⟨rfl, f2⟩
    go_wp2_with fail
    go_ret
    exact ⟨rfl, (hf1.trans f2).below⟩
  have d1 : decide (40 < (ts.length : Int)) = false := by simp; omega
  by_cases hb2 : 40 < cs.length
  · have d2 : decide (40 < (cs.length : Int)) = true := by simp; omega
    go_enter Try.func5, Try.ntmps5
    go_wp2_with (refine box_game rfl (.tmp 0) rfl g rfl ?_; intro w1 hg1 hz1 hf1)
    refine (awake_any _).mono ?_
    rintro e w2 ⟨rfl, f2⟩
    go_wp2_with fail
    go_ret
    exact ⟨rfl, (hf1.trans f2).below⟩
  have d2 : decide (40 < (cs.length : Int)) = false := by simp; omega
  go_enter Try.func5, Try.ntmps5
  go_wp2_with (first | (refine box_game rfl (.tmp 0) rfl g rfl ?_; intro w1 hg1 hz1 hf1) | (refine load_game rfl (.tmp 4) rfl _ rfl g hg1 ?_))
  refine (HCAP.out _ hf1).mono ?_
  rintro e w2 ⟨va, rfl, oa, f2⟩
  have hg2 := hg1.fr f2 (by simp)
  have hF2 := hf1.trans f2
  clear hg1 hz1 hf1 f2 HCAP
  go_wp2_with (refine load_game rfl (.tmp 4) rfl _ rfl g hg2 ?_)
  refine (HFLOW.out _ hF2).mono ?_
  rintro e w3 ⟨vp, vc, rfl, op, oc, f3⟩
  have hg3 := hg2.fr f3 (by simp)
  have oa := oa.fr f3 (by simp)
  have hF3 := hF2.trans f3
  have c21 := H21.out _ _ hg3
  have HF3 := Lib.hid hF3
  have R1 := Lib.hid (HR1.out.below hF3)
  clear hg2 hF2 f3 HFLOW hF3 hg3
  have hnn : ((n : Int) != n) = false := by simp
  have hne : ((n : Int) == n) = true := by simp
  have h00 : ((0 : Int) != 0) = false := by simp
  have hdone : ∀ {w4 : World}, Fr [] w3 w4 → Calls Try.prog 21 #[] w4 fun e w' => e = .returned (.bool true) ∧ Fr [] w4 w' := fun _ => awake_any _
  have HDONE := Lib.hid (fun w4 => awake_any w4)
  clear hdone
  by_cases h1 : E1 = 0
  · obtain ⟨q1, q2, q3, q4, q5, q6, q7⟩ := HC0.out h1
    obtain ⟨aa, ca, rfl, hca1, hca2⟩ := own_len_any oa q1
    have hsa := fun w4 (h : Fr [] w3 w4) => sum37_any _ A w4 (oa.rd.below h) q3 (by omega)
    have hst := fun w4 (h : Fr [] w3 w4) => sum37_any _ ts w4 (R1.out.below h) q4 (by omega)
    rw [q1] at hsa
    rw [q2] at hst ⊢
    rw [q5] at hsa
    have hss : (sumTo ts n != sumTo ts n) = false := by simp
    have hbs := sumTo_bd q4 n
    obtain ⟨s, hs⟩ : ∃ s, s = sumTo ts n := ⟨_, rfl⟩
    rw [← hs] at hsa hst hss hbs
    have e1 : (E1 == 0) = true := by simpa using h1
    have e1' : (E1 != 0) = false := by simpa using h1
    have HSA := Lib.hid hsa
    have HST := Lib.hid hst
    have HS := Lib.hid hs
    have HQ2 := Lib.hid q2
    clear hsa hst q1 q2 q3 q4 q5 q6 q7 h1 oa hs
    go_wp2_with fail
    refine (HSA.out _ (Fr.refl [] _)).mono ?_
    rintro e w' ⟨rfl, rfl⟩
    go_wp2_with fail
    refine (HST.out _ (Fr.refl [] _)).mono ?_
    rintro e w' ⟨rfl, rfl⟩
    by_cases h2 : E2 = 0
    · obtain ⟨p1, p2, p3, p4, p5, p6, p7, p8, p9, p10, p11, p12⟩ := HF0.out h2
      obtain ⟨ap, kp, rfl, _, _⟩ := own_len_any op p1
      obtain ⟨ac, kc, rfl, _, _⟩ := own_len_any oc p2
      have e2 : (E2 != 0) = false := by simpa using h2
      have hsp := fun w4 (h : Fr [] w3 w4) => sum37_any _ P w4 (op.rd.below h) p5 (by omega)
      have hsc := fun w4 (h : Fr [] w3 w4) => sum37_any _ C w4 (oc.rd.below h) p6 (by omega)
      have b1 := sumTo_bd p5 n
      have b2 := sumTo_bd p6 n
      rw [p1] at hsp
      rw [p2] at hsc
      rw [← HS.out] at p8
      generalize sumTo P n = sp at *
      generalize sumTo C n = sc at *
      have hb10 : 0 ≤ sp := b1.1
      have hb11 : sp ≤ 12000000000000 := by omega
      have hb20 : 0 ≤ sc := b2.1
      have hb21 : sc ≤ 12000000000000 := by omega
      have e3 : (sp + sc == s) = true := by rw [p8]; simp
      have e4 : decide (0 ≤ N) = true := by simpa using p9
      have e5 : decide (N ≤ 64) = true := by simpa using p10
      have HSP := Lib.hid hsp
      have HSC := Lib.hid hsc
      have HST2 := Lib.hid HST.out
      clear hsp hsc p1 p2 p3 p4 p5 p6 p7 p8 op oc h2 b1 b2 hbs
      go_wp2_with fail
      refine (HSP.out _ (Fr.refl [] _)).mono ?_
      rintro e w' ⟨rfl, rfl⟩
      go_wp2_with fail
      refine (HSC.out _ (Fr.refl [] _)).mono ?_
      rintro e w' ⟨rfl, rfl⟩
      go_wp2_with fail
      refine (HST2.out _ (Fr.refl [] _)).mono ?_
      rintro e w' ⟨rfl, rfl⟩
      go_wp2_with fail
      refine (HDONE.out _).mono ?_
      rintro e w9 ⟨rfl, f9⟩
      go_wp2_with fail
      go_ret
      exact ⟨rfl, (HF3.out.trans f9).below⟩
    · obtain ⟨p1, p2, p3⟩ := HF1.out h2
      obtain ⟨ap, kp, rfl⟩ := own_nil_any op p1
      obtain ⟨ac, kc, rfl⟩ := own_nil_any oc p2
      subst p3
      have e2 : (E2 != 0) = true := by simpa using h2
      clear h2 op oc
      go_wp2_with fail
      refine (HDONE.out _).mono ?_
      rintro e w9 ⟨rfl, f9⟩
      go_wp2_with fail
      go_ret
      exact ⟨rfl, (HF3.out.trans f9).below⟩
  · have q1 := HC1.out h1
    obtain ⟨aa, ca, rfl⟩ := own_nil_any oa q1
    have e1 : (E1 == 0) = false := by simpa using h1
    have e1' : (E1 != 0) = true := by simpa using h1
    clear q1 h1 oa
    by_cases h2 : E2 = 0
    · obtain ⟨p1, p2, p3, p4, p5, p6, p7, p8, p9, p10, p11, p12⟩ := HF0.out h2
      obtain ⟨ap, kp, rfl, _, _⟩ := own_len_any op p1
      obtain ⟨ac, kc, rfl, _, _⟩ := own_len_any oc p2
      have e2 : (E2 != 0) = false := by simpa using h2
      have hsp := fun w4 (h : Fr [] w3 w4) => sum37_any _ P w4 (op.rd.below h) p5 (by omega)
      have hsc := fun w4 (h : Fr [] w3 w4) => sum37_any _ C w4 (oc.rd.below h) p6 (by omega)
      have hst := fun w4 (h : Fr [] w3 w4) => sum37_any _ ts w4 (R1.out.below h) p7 (by omega)
      have b1 := sumTo_bd p5 n
      have b2 := sumTo_bd p6 n
      rw [p1] at hsp
      rw [p2] at hsc
      rw [p3] at hst ⊢
      generalize sumTo P n = sp at *
      generalize sumTo C n = sc at *
      generalize sumTo ts n = s at *
      have hb10 : 0 ≤ sp := b1.1
      have hb11 : sp ≤ 12000000000000 := by omega
      have hb20 : 0 ≤ sc := b2.1
      have hb21 : sc ≤ 12000000000000 := by omega
      have e3 : (sp + sc == s) = true := by rw [p8]; simp
      have e4 : decide (0 ≤ N) = true := by simpa using p9
      have e5 : decide (N ≤ 64) = true := by simpa using p10
      have HSP := Lib.hid hsp
      have HSC := Lib.hid hsc
      have HST := Lib.hid hst
      clear hsp hsc hst p1 p2 p3 p4 p5 p6 p7 p8 op oc h2 b1 b2
      go_wp2_with fail
      refine (HSP.out _ (Fr.refl [] _)).mono ?_
      rintro e w' ⟨rfl, rfl⟩
      go_wp2_with fail
      refine (HSC.out _ (Fr.refl [] _)).mono ?_
      rintro e w' ⟨rfl, rfl⟩
      go_wp2_with fail
      refine (HST.out _ (Fr.refl [] _)).mono ?_
      rintro e w' ⟨rfl, rfl⟩
      go_wp2_with fail
      refine (HDONE.out _).mono ?_
      rintro e w9 ⟨rfl, f9⟩
      go_wp2_with fail
      go_ret
      exact ⟨rfl, (HF3.out.trans f9).below⟩
    · obtain ⟨p1, p2, p3⟩ := HF1.out h2
      obtain ⟨ap, kp, rfl⟩ := own_nil_any op p1
      obtain ⟨ac, kc, rfl⟩ := own_nil_any oc p2
      subst p3
      have e2 : (E2 != 0) = true := by simpa using h2
      clear h2 op oc
      go_wp2_with fail
      refine (HDONE.out _).mono ?_
      rintro e w9 ⟨rfl, f9⟩
      go_wp2_with fail
      go_ret
      exact ⟨rfl, (HF3.out.trans f9).below⟩
theorem own : ownKnob Try.prog.godebug = none := by kernel_rfl
theorem laidOut : laidOutB Try.prog = true := by kernel_rfl
set_option maxRecDepth 100000 in
theorem lifted (os : Os) (started : os.Started) (H : Type) (enc : TypeId × Value → H) :
    ReturnsInHanded {} Try.checked os 5 .any (Rows.rollConservesSpec.pre6 enc Try.prog Try.f5 Rows.rollConservesRow.domain false) (Rows.rollConservesSpec.post enc Try.prog Try.f5 false true false false) := by
  refine returnsInHanded_of_change (C := Try.checked) own started (by kernel_rfl) Try.func5
    (ChangeSpec.witness6 (enc := enc) (C := Try.checked) false ⟨#[], #[.agg #[.string ByteArray.empty, .int .i64 0, .int .i64 0, .int .i64 0, .int .i64 0, .int .i64 0, .int .i64 0, .int .i64 0, .int .i64 0, .int .i64 0, .int .i64 0, .int .i64 0, .int .i64 0, .int .i64 0, .int .i64 0, .int .i64 0, .int .i64 0, .int .i64 0, .int .i64 0, .int .i64 0, .slice none 0 0, .slice none 0 0], .slice none 0 0, .slice none 0 0, .int .i64 0], []⟩ 8 (by kernel_rfl) (by kernel_rfl) (by kernel_rfl) (by kernel_rfl)) ?_
  intro W base args ds gs before hval0 hW hcnd _
  have hval : ∀ (j : Nat) t v, Try.f5.params[j]? = some t → args[j]? = some v → Value.okWide Try.prog W .any base t v := hval0
  have hW' := hW
  obtain ⟨p, q, hA0, hV, rfl, hfz, hnd⟩ := hW
  have hA : DataW.TrodAll enc Try.prog W 0 (fun _ => true) true Try.f5.params.toList args.toList ds p := hA0
  rw [Try.params5] at hA hval
  obtain ⟨v0, vs0, d0, ds0, p0, q0, hargs, rfl, rfl, h0, r0⟩ := trodAll_cons hA
  obtain ⟨v1, vs1, d1, ds1, p1, q1, rfl, rfl, rfl, h1, r1⟩ := trodAll_cons r0
  obtain ⟨v2, vs2, d2, ds2, p2, q2, rfl, rfl, rfl, h2, r2⟩ := trodAll_cons r1
  obtain ⟨v3, vs3, d3, ds3, p3, q3, rfl, rfl, rfl, h3, r3⟩ := trodAll_cons r2
  obtain ⟨rfl, rfl, rfl⟩ := trodAll_nil r3
  obtain rfl : args = #[v0, v1, v2, v3] := by cases args; simp_all
  obtain ⟨rfl, rfl⟩ := trodVars_none hV
  have k0 := h0
  have lt0 : ∀ x ∈ p0, x.block < W.heap.size := by obtain ⟨m, hm⟩ := k0; exact DataW.trod_lt m _ _ _ hm
  obtain ⟨g0, hv0, hg0⟩ := open_game (hval 0 25 v0 rfl rfl) h0
  have k1 := h1
  have lt1 : ∀ x ∈ p1, x.block < W.heap.size := by obtain ⟨m, hm⟩ := k1; exact DataW.trod_lt m _ _ _ hm
  obtain ⟨l1, hr1, _⟩ := open_intarg (hval 1 31 v1 rfl rfl) h1
  have k2 := h2
  have lt2 : ∀ x ∈ p2, x.block < W.heap.size := by obtain ⟨m, hm⟩ := k2; exact DataW.trod_lt m _ _ _ hm
  obtain ⟨l2, hr2, _⟩ := open_intarg (hval 2 31 v2 rfl rfl) h2
  obtain ⟨a3, rfl, rfl, rfl, w3⟩ := open_int Try.underlying3 (hval 3 3 v3 rfl rfl) h3
  clear hA0 hval0
  refine (walk v0 g0 v1 l1 v2 l2 a3 W hv0 hg0 hr1 hr2 w3).mono fun e W' ⟨he, bel⟩ => ?_
  subst he
  exact ⟨_, rfl, _, _, _, [], _, [], hW', trodAll_mk1 (shut_bool Try.underlying4 _), (trodAll_cons_mk (Below.trod laidOut (by kernel_rfl) (of_decide_eq_true (by kernel_rfl)) k0 bel lt0) (trodAll_cons_mk (Below.trod laidOut (by kernel_rfl) (of_decide_eq_true (by kernel_rfl)) k1 bel lt1) (trodAll_cons_mk (Below.trod laidOut (by kernel_rfl) (of_decide_eq_true (by kernel_rfl)) k2 bel lt2) (trodAll_cons_mk (shut_int Try.underlying3 w3) trodAll_mk0)))), rfl, bel.frame _, fun h => by cases h⟩
theorem over : Rows.rollConservesRow.holds Try.pinned (OpenSpec.ofChange Rows.rollConservesSpec) :=
  OpenClaim.holds_of_wide 5 Try.f5 rfl rfl rfl rfl rfl rfl rfl ⟨rfl, rfl, rfl, rfl, rfl⟩ rfl rfl rfl rfl rfl (by kernel_rfl) Try.func5 (by kernel_rfl)
    (of_decide_eq_true (by kernel_rfl)) (by unfold Func.isWrapper; first | (rw [if_pos (by decide +kernel)]; kernel_rfl) | (rw [if_neg (by decide +kernel)]; exact ⟨rfl, rfl⟩))
    (fun os started H enc _ => lifted os started H enc)
/-- THE STATEMENT -/
theorem proved : Rows.RollConservesSaid := over
end Go.Proofs.Ytdinjekpcgndmaa.rollConserves
