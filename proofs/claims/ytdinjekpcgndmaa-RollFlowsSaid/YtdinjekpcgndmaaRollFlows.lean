/-
  RollFlows: for every game, amounts, counts and number of rolls the statement returns true: pools, carries and the number of rolls, or the error, are as specified. No conditions.
-/
import Derived.Test.YtdinjekpcgndmaaAwake
import Derived.Test.YtdinjekpcgndmaaRFlow
import Derived.Test.YtdinjekpcgndmaaRollLaw
import Derived.Test.YtdinjekpcgndmaaIntArg
import Derived.ProofKit
import Derived.OpenShut
import Derived.ShutString
import Derived.ChangeOld
namespace Go.Proofs.Ytdinjekpcgndmaa.rollFlows
open Go.ChangeShapes Go.WideShapes Go.ChangeAt Go.RowKit
open Go.ChangeMaps (open_string shut_string)
set_option linter.unusedVariables false
theorem eqI_refl (l : List Int) : eqI l l = true := by simp [eqI]
set_option maxRecDepth 20000 in
set_option maxHeartbeats 2000000 in
theorem walk (v0 : Value) (g : Gm) (v1 : Value) (ts : List Int) (v2 : Value) (cs : List Int) (rolls : Int) (w : World) (hv0 : v0 = g.val) (hok : g.Ok w) (hr1 : RdI w v1 ts) (hr2 : RdI w v2 cs) (hro : (Lit.int .i64 rolls).wf = true) :
    Calls Try.prog 4 #[v0, v1, v2, .int .i64 rolls] w fun e w' => e = .returned (.bool true) ∧ Below w.heap.size w w' := by
  subst hv0
  have hFlow := fun w' (h : Fr [] w w') => flow_any g v1 v2 ts cs rolls w' (hok.fr h) (hr1.below h) (hr2.below h)
  have hRFlow := fun w' (h : Fr [] w w') => rflow_any g v1 v2 ts cs rolls w' (hok.fr h) (hr1.below h) (hr2.below h)
  obtain ⟨a1, k1, rfl, hk1, hk2, _⟩ := hr1
  obtain ⟨a2, k2, rfl, hk3, hk4, _⟩ := hr2
  have hl1 : ts.length ≤ 9223372036854775807 := Nat.le_trans hk1 hk2
  have hl2 : cs.length ≤ 9223372036854775807 := Nat.le_trans hk3 hk4
  unfold FlPost at hFlow hRFlow
  generalize flE g ts cs rolls = E2 at *
  generalize flP g ts cs rolls = P at *
  generalize flC g ts cs rolls = C at *
  generalize flN g ts cs rolls = N at *
  have HFLOW := Lib.hid hFlow
  have HRFLOW := Lib.hid hRFlow
  clear hFlow hRFlow hok hk1 hk2 hk3 hk4
  by_cases hb1 : 40 < ts.length
  · have d1 : decide (40 < (ts.length : Int)) = true := by simp; omega
    go_enter Try.func4, Try.ntmps4
    go_wp2_with (refine box_game rfl (.tmp 0) rfl g rfl ?_; intro w1 hg1 hz1 hf1)
    refine (awake_any _).mono ?_
    rintro e w2 ⟨rfl, f2⟩
    go_wp2_with fail
    go_ret
    exact ⟨rfl, (hf1.trans f2).below⟩
  have d1 : decide (40 < (ts.length : Int)) = false := by simp; omega
  by_cases hb2 : 40 < cs.length
  · have d2 : decide (40 < (cs.length : Int)) = true := by simp; omega
    go_enter Try.func4, Try.ntmps4
    go_wp2_with (refine box_game rfl (.tmp 0) rfl g rfl ?_; intro w1 hg1 hz1 hf1)
    refine (awake_any _).mono ?_
    rintro e w2 ⟨rfl, f2⟩
    go_wp2_with fail
    go_ret
    exact ⟨rfl, (hf1.trans f2).below⟩
  have d2 : decide (40 < (cs.length : Int)) = false := by simp; omega
  go_enter Try.func4, Try.ntmps4
  go_wp2_with (first | (refine box_game rfl (.tmp 0) rfl g rfl ?_; intro w1 hg1 hz1 hf1) | (refine load_game rfl (.tmp 4) rfl _ rfl g hg1 ?_))
  refine (HFLOW.out _ hf1).mono ?_
  rintro e w3 ⟨vp, vc, rfl, op, oc, f3⟩
  have hg3 := hg1.fr f3 (by simp)
  have hF3 := hf1.trans f3
  clear hg1 hz1 hf1 f3 HFLOW
  go_wp2_with (refine load_game rfl (.tmp 4) rfl _ rfl g hg3 ?_)
  refine (HRFLOW.out _ hF3).mono ?_
  rintro e w4 ⟨wp', wc', rfl, op', oc', f4⟩
  have R1 := (op.fr f4 (by simp)).rd
  have R2 := (oc.fr f4 (by simp)).rd
  have R3 := op'.rd
  have R4 := oc'.rd
  have hF4 := hF3.trans f4
  have HR1 := Lib.hid R1
  have HR2 := Lib.hid R2
  have HR3 := Lib.hid R3
  have HR4 := Lib.hid R4
  clear hg3 hF3 f4 HRFLOW op oc op' oc' R1 R2 R3 R4
  have en : (N == N) = true := by simp
  have ee : (E2 == E2) = true := by simp
  go_wp2_with fail
  refine (ints13_any _ _ _ _ _ HR1.out HR3.out).mono ?_
  rintro e w5 ⟨rfl, f5⟩
  rw [eqI_refl]
  have HR2 := Lib.hid (HR2.out.below f5)
  have HR4 := Lib.hid (HR4.out.below f5)
  have hF5 := hF4.trans f5
  clear f5 hF4
  go_wp2_with fail
  refine (ints13_any _ _ _ _ _ HR2.out HR4.out).mono ?_
  rintro e w6 ⟨rfl, f6⟩
  rw [eqI_refl]
  have hF6 := hF5.trans f6
  clear f6 hF5
  go_wp2_with fail
  refine (awake_any _).mono ?_
  rintro e w7 ⟨rfl, f7⟩
  go_wp2_with fail
  go_ret
  exact ⟨rfl, (hF6.trans f7).below⟩
theorem own : ownKnob Try.prog.godebug = none := by kernel_rfl
theorem laidOut : laidOutB Try.prog = true := by kernel_rfl
set_option maxRecDepth 100000 in
theorem lifted (os : Os) (started : os.Started) (H : Type) (enc : TypeId × Value → H) :
    ReturnsInHanded {} Try.checked os 4 .any (Rows.rollFlowsSpec.pre6 enc Try.prog Try.f4 Rows.rollFlowsRow.domain false) (Rows.rollFlowsSpec.post enc Try.prog Try.f4 false true false false) := by
  refine returnsInHanded_of_change (C := Try.checked) own started (by kernel_rfl) Try.func4
    (ChangeSpec.witness6 (enc := enc) (C := Try.checked) false ⟨#[], #[.agg #[.string ByteArray.empty, .int .i64 0, .int .i64 0, .int .i64 0, .int .i64 0, .int .i64 0, .int .i64 0, .int .i64 0, .int .i64 0, .int .i64 0, .int .i64 0, .int .i64 0, .int .i64 0, .int .i64 0, .int .i64 0, .int .i64 0, .int .i64 0, .int .i64 0, .int .i64 0, .int .i64 0, .slice none 0 0, .slice none 0 0], .slice none 0 0, .slice none 0 0, .int .i64 0], []⟩ 8 (by kernel_rfl) (by kernel_rfl) (by kernel_rfl) (by kernel_rfl)) ?_
  intro W base args ds gs before hval0 hW hcnd _
  have hval : ∀ (j : Nat) t v, Try.f4.params[j]? = some t → args[j]? = some v → Value.okWide Try.prog W .any base t v := hval0
  have hW' := hW
  obtain ⟨p, q, hA0, hV, rfl, hfz, hnd⟩ := hW
  have hA : DataW.TrodAll enc Try.prog W 0 (fun _ => true) true Try.f4.params.toList args.toList ds p := hA0
  rw [Try.params4] at hA hval
  obtain ⟨v0, vs0, d0, ds0, p0, q0, hargs, rfl, rfl, h0, r0⟩ := trodAll_cons hA
  obtain ⟨v1, vs1, d1, ds1, p1, q1, rfl, rfl, rfl, h1, r1⟩ := trodAll_cons r0
  obtain ⟨v2, vs2, d2, ds2, p2, q2, rfl, rfl, rfl, h2, r2⟩ := trodAll_cons r1
  obtain ⟨v3, vs3, d3, ds3, p3, q3, rfl, rfl, rfl, h3, r3⟩ := trodAll_cons r2
  obtain ⟨rfl, rfl, rfl⟩ := trodAll_nil r3
  obtain rfl : args = #[v0, v1, v2, v3] := by cases args; simp_all
  obtain ⟨rfl, rfl⟩ := trodVars_none hV
  have k0 := h0
  have lt0 : ∀ x ∈ p0, x.block < W.heap.size := by obtain ⟨m, hm⟩ := k0; exact DataW.trod_lt m _ _ _ hm
  obtain ⟨g0, hv0, hg0⟩ := open_game (hval 0 25 v0 rfl rfl) h0
  have k1 := h1
  have lt1 : ∀ x ∈ p1, x.block < W.heap.size := by obtain ⟨m, hm⟩ := k1; exact DataW.trod_lt m _ _ _ hm
  obtain ⟨l1, hr1, _⟩ := open_intarg (hval 1 31 v1 rfl rfl) h1
  have k2 := h2
  have lt2 : ∀ x ∈ p2, x.block < W.heap.size := by obtain ⟨m, hm⟩ := k2; exact DataW.trod_lt m _ _ _ hm
  obtain ⟨l2, hr2, _⟩ := open_intarg (hval 2 31 v2 rfl rfl) h2
  obtain ⟨a3, rfl, rfl, rfl, w3⟩ := open_int Try.underlying3 (hval 3 3 v3 rfl rfl) h3
  clear hA0 hval0
  refine (walk v0 g0 v1 l1 v2 l2 a3 W hv0 hg0 hr1 hr2 w3).mono fun e W' ⟨he, bel⟩ => ?_
  subst he
  exact ⟨_, rfl, _, _, _, [], _, [], hW', trodAll_mk1 (shut_bool Try.underlying4 _), (trodAll_cons_mk (Below.trod laidOut (by kernel_rfl) (of_decide_eq_true (by kernel_rfl)) k0 bel lt0) (trodAll_cons_mk (Below.trod laidOut (by kernel_rfl) (of_decide_eq_true (by kernel_rfl)) k1 bel lt1) (trodAll_cons_mk (Below.trod laidOut (by kernel_rfl) (of_decide_eq_true (by kernel_rfl)) k2 bel lt2) (trodAll_cons_mk (shut_int Try.underlying3 w3) trodAll_mk0)))), rfl, bel.frame _, fun h => by cases h⟩
theorem over : Rows.rollFlowsRow.holds Try.pinned (OpenSpec.ofChange Rows.rollFlowsSpec) :=
  OpenClaim.holds_of_wide 4 Try.f4 rfl rfl rfl rfl rfl rfl rfl ⟨rfl, rfl, rfl, rfl, rfl⟩ rfl rfl rfl rfl rfl (by kernel_rfl) Try.func4 (by kernel_rfl)
    (of_decide_eq_true (by kernel_rfl)) (by unfold Func.isWrapper; first | (rw [if_pos (by decide +kernel)]; kernel_rfl) | (rw [if_neg (by decide +kernel)]; exact ⟨rfl, rfl⟩))
    (fun os started H enc _ => lifted os started H enc)
/-- THE STATEMENT -/
theorem proved : Rows.RollFlowsSaid := over
end Go.Proofs.Ytdinjekpcgndmaa.rollFlows
