/-
  AddonFactors: for every game, mask and result the statement returns true: the factor of a ticket is as the document says, and at least 1. No conditions.
-/
import Derived.Test.YtdbkkbeelemnhaaPlain40
import Derived.Test.YtdbkkbeelemnhaaFactor
import Derived.ProofKit
import Derived.OpenShut
import Derived.ShutString
import Derived.ChangeOld
namespace Go.Proofs.Ytdbkkbeelemnhaa.addonFactors
open Go.ChangeShapes Go.WideShapes Go.ChangeAt Go.RowKit
open Go.ChangeMaps (open_string shut_string)
set_option linter.unusedVariables false
def r3 : Re := ⟨none, 0, 0, none, 0, 0, none, 0, 0, 3, ⟨#[]⟩⟩
theorem sel3 (b f p a : Nat) : facV (selO (gm40 b f p a) 1 1).isSome 3 = 3 := by kernel_rfl
set_option maxRecDepth 20000 in
set_option maxHeartbeats 2000000 in
theorem walk (v : Value) (g : Gm) (m : Int) (v2 : Value) (r : Re) (w : World) (hv : v = g.val) (hok : g.Ok w) (hm : (Lit.int .i64 m).wf = true) (hv2 : v2 = r.val) (hr : r.Ok) :
    Calls Try.prog 6 #[v, .int .i64 m, v2] w fun e w' => e = .returned (.bool true) ∧ Below w.heap.size w w' := by
  subst hv
  subst hv2
  have hb : ∀ w, (Instr.build 38 #[(3, .int .i64 3)]).run Try.prog w = .ok r3.val w := fun w => by kernel_rfl
  have hP := fun w' (h : Fr [] w w') => factor_any g m r w' (hok.fr h)
  have hR := fun w' (h : Fr [] w w') => rfactor_any g m r w' (hok.fr h)
  have hpos := facV_pos (selO g m 1).isSome r.factor
  obtain ⟨ma, mn, mc, ba, bn, bc, ea, en, ec, factor, serial⟩ := r
  simp only [Re.val] at hP hR ⊢
  simp only at hpos
  generalize facV (selO g m 1).isSome factor = V at *
  have HP := Lib.hid hP
  have HR := Lib.hid hR
  have hVV : (V == V) = true := by simp
  have hV1 : decide (1 ≤ V) = true := by simpa using hpos
  clear hP hR hok hr hpos
  go_enter Try.func6, Try.ntmps6
  go_wp2_with (first | (refine box_game rfl (.tmp 0) rfl g rfl ?_; intro w1 hg1 hz1 hf1) | (refine load_game rfl (.tmp 3) rfl _ rfl g (hg1.fr ((Fr.refl [] _).alloc _) (by simp)) ?_))
  refine (HP.out _ (hf1.alloc _)).mono ?_
  rintro e w2 ⟨rfl, f2⟩
  have hg2 := (hg1.fr ((Fr.refl [] _).alloc (.cells #[.slice ma mn mc, .slice ba bn bc, .slice ea en ec, .int .i64 factor, .string serial] 38)) (by simp)).fr f2 (by simp)
  have hF2 := (hf1.alloc (.cells #[.slice ma mn mc, .slice ba bn bc, .slice ea en ec, .int .i64 factor, .string serial] 38)).trans f2
  have c0 : w2.cell? ⟨w.heap.size + 1, 0, none⟩ = some (.slice ma mn mc) := f2.cell_some (new_cell hz1 rfl) (by simp)
  have c1 : w2.cell? ⟨w.heap.size + 1, 1, none⟩ = some (.slice ba bn bc) := f2.cell_some (new_cell hz1 rfl) (by simp)
  have c2 : w2.cell? ⟨w.heap.size + 1, 2, none⟩ = some (.slice ea en ec) := f2.cell_some (new_cell hz1 rfl) (by simp)
  have c3 : w2.cell? ⟨w.heap.size + 1, 3, none⟩ = some (.int .i64 factor) := f2.cell_some (new_cell hz1 rfl) (by simp)
  have c4 : w2.cell? ⟨w.heap.size + 1, 4, none⟩ = some (.string serial) := f2.cell_some (new_cell hz1 rfl) (by simp)
  clear f2 hg1 hf1 hz1 HP
  go_wp2_with (refine load_game rfl (.tmp 3) rfl _ rfl g hg2 ?_)
  refine (HR.out _ hF2).mono ?_
  rintro e w3 ⟨rfl, f3⟩
  have hF3 := hF2.trans f3
  clear c0 c1 c2 c3 c4 f3 hg2 HR hF2
  go_wp2_with fail
  refine (plain40_any _).mono ?_
  rintro e w4 ⟨b, f, p, a, rfl, hok4, f4⟩
  go_wp2_with fail
  have hq := factor_any (gm40 b f p a) 1 r3 w4 hok4
  rw [show r3.factor = 3 from rfl, sel3] at hq
  refine hq.mono ?_
  rintro e w5 ⟨rfl, f5⟩
  clear hq hok4 hb
  go_wp2_with fail
  go_ret
  exact ⟨rfl, ((hF3.trans f4).trans f5).below⟩
theorem own : ownKnob Try.prog.godebug = none := by kernel_rfl
theorem laidOut : laidOutB Try.prog = true := by kernel_rfl
set_option maxRecDepth 100000 in
theorem lifted (os : Os) (started : os.Started) (H : Type) (enc : TypeId × Value → H) :
    ReturnsInHanded {} Try.checked os 6 .any (Rows.addonFactorsSpec.pre6 enc Try.prog Try.f6 Rows.addonFactorsRow.domain false) (Rows.addonFactorsSpec.post enc Try.prog Try.f6 false true false false) := by
  refine returnsInHanded_of_change (C := Try.checked) own started (by kernel_rfl) Try.func6
    (ChangeSpec.witness6 (enc := enc) (C := Try.checked) false ⟨#[], #[.agg #[.string ByteArray.empty, .int .i64 0, .int .i64 0, .int .i64 0, .int .i64 0, .int .i64 0, .int .i64 0, .int .i64 0, .int .i64 0, .int .i64 0, .int .i64 0, .int .i64 0, .int .i64 0, .int .i64 0, .int .i64 0, .int .i64 0, .int .i64 0, .int .i64 0, .int .i64 0, .int .i64 0, .slice none 0 0, .slice none 0 0], .int .i64 0, .agg #[.slice none 0 0, .slice none 0 0, .slice none 0 0, .int .i64 0, .string ByteArray.empty]], []⟩ 8 (by kernel_rfl) (by kernel_rfl) (by kernel_rfl) (by kernel_rfl)) ?_
  intro W base args ds gs before hval0 hW hcnd _
  have hval : ∀ (j : Nat) t v, Try.f6.params[j]? = some t → args[j]? = some v → Value.okWide Try.prog W .any base t v := hval0
  have hW' := hW
  obtain ⟨p, q, hA0, hV, rfl, hfz, hnd⟩ := hW
  have hA : DataW.TrodAll enc Try.prog W 0 (fun _ => true) true Try.f6.params.toList args.toList ds p := hA0
  rw [Try.params6] at hA hval
  obtain ⟨v0, vs0, d0, ds0, p0, q0, hargs, rfl, rfl, h0, r0⟩ := trodAll_cons hA
  obtain ⟨v1, vs1, d1, ds1, p1, q1, rfl, rfl, rfl, h1, r1⟩ := trodAll_cons r0
  obtain ⟨v2, vs2, d2, ds2, p2, q2, rfl, rfl, rfl, h2, r2⟩ := trodAll_cons r1
  obtain ⟨rfl, rfl, rfl⟩ := trodAll_nil r2
  obtain rfl : args = #[v0, v1, v2] := by cases args; simp_all
  obtain ⟨rfl, rfl⟩ := trodVars_none hV
  have k0 := h0
  have lt0 : ∀ x ∈ p0, x.block < W.heap.size := by obtain ⟨m, hm⟩ := k0; exact DataW.trod_lt m _ _ _ hm
  obtain ⟨g0, hv0, hg0⟩ := open_game (hval 0 29 v0 rfl rfl) h0
  obtain ⟨a1, rfl, rfl, rfl, w1⟩ := open_int Try.underlying3 (hval 1 3 v1 rfl rfl) h1
  have k2 := h2
  have lt2 : ∀ x ∈ p2, x.block < W.heap.size := by obtain ⟨m, hm⟩ := k2; exact DataW.trod_lt m _ _ _ hm
  obtain ⟨g2, hv2, hg2⟩ := open_result (hval 2 38 v2 rfl rfl) h2
  clear hA0 hval0
  refine (walk v0 g0 a1 v2 g2 W hv0 hg0 w1 hv2 hg2).mono fun e W' ⟨he, bel⟩ => ?_
  subst he
  exact ⟨_, rfl, _, _, _, [], _, [], hW', trodAll_mk1 (shut_bool Try.underlying4 _), (trodAll_cons_mk (Below.trod laidOut (by kernel_rfl) (of_decide_eq_true (by kernel_rfl)) k0 bel lt0) (trodAll_cons_mk (shut_int Try.underlying3 w1) (trodAll_cons_mk (Below.trod laidOut (by kernel_rfl) (of_decide_eq_true (by kernel_rfl)) k2 bel lt2) trodAll_mk0))), rfl, bel.frame _, fun h => by cases h⟩
theorem over : Rows.addonFactorsRow.holds Try.pinned (OpenSpec.ofChange Rows.addonFactorsSpec) :=
  OpenClaim.holds_of_wide 6 Try.f6 rfl rfl rfl rfl rfl rfl rfl ⟨rfl, rfl, rfl, rfl, rfl⟩ rfl rfl rfl rfl rfl (by kernel_rfl) Try.func6 (by kernel_rfl)
    (of_decide_eq_true (by kernel_rfl)) (by unfold Func.isWrapper; first | (rw [if_pos (by decide +kernel)]; kernel_rfl) | (rw [if_neg (by decide +kernel)]; exact ⟨rfl, rfl⟩))
    (fun os started H enc _ => lifted os started H enc)
/-- THE STATEMENT -/
theorem proved : Rows.AddonFactorsSaid := over
end Go.Proofs.Ytdbkkbeelemnhaa.addonFactors
