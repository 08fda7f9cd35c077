/-
  SecondDraws: for every list of entries, seed and number the statement returns true: which entries are drawn is as the document says. No conditions.
-/
import Derived.Test.YtkiagmfdfojoeaaRDraw
import Derived.Test.YtkiagmfdfojoeaaSame
import Derived.Test.YtkiagmfdfojoeaaIntArg
import Derived.ProofKit
import Derived.ShutString
import Derived.ChangeOld
namespace Go.Proofs.Ytkiagmfdfojoeaa.secondDraws
open Go.ChangeShapes Go.WideShapes Go.ChangeAt Go.RowKit
open Go.ChangeMaps (open_string shut_string)
set_option linter.unusedVariables false
set_option maxHeartbeats 1000000 in
theorem walk (v : Value) (l : List Int) (s n : Int) (w : World) (hr : RdI w v l) (w0 : (Lit.int .u64 s).wf = true) (w1 : (Lit.int .i64 n).wf = true) :
    Calls Try.prog 10 #[v, .int .u64 s, .int .i64 n] w fun e w' => e = .returned (.bool true) ∧ Below w.heap.size w w' := by
  have hD := fun (w : World) (h : RdI w v l) => draw_any v l s n w h
  have hD' := fun (w : World) (h : RdI w v l) => rdraw_any v l s n w h
  have hr' := hr
  obtain ⟨a, cap, rfl, hc1, hc2, hrd⟩ := hr'
  clear hrd hc1 hc2
  generalize drE l s n = E at *
  generalize drL l s n = L at *
  have HD := Lib.hid hD
  have HD' := Lib.hid hD'
  clear hD hD'
  by_cases hm : 300 < l.length ∧ l.length ≤ 1024
  · have d1 : decide (300 < (l.length : Int)) = true := by simp; omega
    have d2 : decide (300 < l.length) = true := by simp; omega
    have d3 : decide ((l.length : Int) ≤ 1024) = true := by simp; omega
    have d4 : decide (l.length ≤ 1024) = true := by simp; omega
    clear hr
    go_enter Try.func10, Try.ntmps10
    go_wp2_with fail
    refine (lives43_any _).mono ?_
    rintro e w1 ⟨rfl, hb⟩
    go_wp2_with fail
    go_ret
    exact ⟨rfl, hb.below⟩
  · have hc : (decide (300 < (l.length : Int)) = false ∧ decide (300 < l.length) = false) ∨ (decide (300 < (l.length : Int)) = true ∧ decide (300 < l.length) = true ∧ decide ((l.length : Int) ≤ 1024) = false ∧ decide (l.length ≤ 1024) = false) := by
      simp only [decide_eq_true_eq, decide_eq_false_iff_not]; omega
    have HR := Lib.hid hr
    clear hm hr
    generalize l.length = N at *
    rcases hc with ⟨d1, d2⟩ | ⟨d1, d2, d3, d4⟩
    all_goals
      go_enter Try.func10, Try.ntmps10
      go_wp2_with fail
      refine (HD.out _ HR.out).mono ?_
      rintro e w1 ⟨v1, rfl, o1, f1⟩
      go_wp2_with fail
      refine (HD'.out _ (HR.out.below f1)).mono ?_
      rintro e w2 ⟨v2, rfl, o2, f2⟩
      have R1 := (o1.rdb.fr f2 (by simp)).rd
      have R2 := o2.rd
      have hF := f1.trans f2
      have n1 : (E == E) = true := by simp
      clear o1 o2 f1 f2 HD HD' HR
      go_wp2_with fail
      refine (same_any _ _ _ _ R1 R2).mono ?_
      rintro e w3 ⟨rfl, f3⟩
      go_wp2_with fail
      refine (lives43_any _).mono ?_
      rintro e w4 ⟨rfl, f4⟩
      go_wp2_with fail
      go_ret
      exact ⟨rfl, ((hF.trans f3).trans f4).below⟩
theorem own : ownKnob Try.prog.godebug = none := by kernel_rfl
theorem laidOut : laidOutB Try.prog = true := by kernel_rfl
set_option maxRecDepth 100000 in
theorem lifted (os : Os) (started : os.Started) (H : Type) (enc : TypeId × Value → H) :
    ReturnsInHanded {} Try.checked os 10 .any (Rows.secondDrawsSpec.pre6 enc Try.prog Try.f10 Rows.secondDrawsRow.domain false) (Rows.secondDrawsSpec.post enc Try.prog Try.f10 false true false false) := by
  refine returnsInHanded_of_change (C := Try.checked) own started (by kernel_rfl) Try.func10
    (ChangeSpec.witness6 (enc := enc) (C := Try.checked) false ⟨#[], #[.slice none 0 0, .int .u64 0, .int .i64 0], []⟩ 8 (by kernel_rfl) (by kernel_rfl) (by kernel_rfl) (by kernel_rfl)) ?_
  intro W base args ds gs before hval0 hW hcnd _
  have hval : ∀ (j : Nat) t v, Try.f10.params[j]? = some t → args[j]? = some v → Value.okWide Try.prog W .any base t v := hval0
  have hW' := hW
  obtain ⟨p, q, hA0, hV, rfl, hfz, hnd⟩ := hW
  have hA : DataW.TrodAll enc Try.prog W 0 (fun _ => true) true Try.f10.params.toList args.toList ds p := hA0
  rw [Try.params10] at hA hval
  obtain ⟨v0, vs0, d0, ds0, p0, q0, hargs, rfl, rfl, h0, r0⟩ := trodAll_cons hA
  obtain ⟨v1, vs1, d1, ds1, p1, q1, rfl, rfl, rfl, h1, r1⟩ := trodAll_cons r0
  obtain ⟨v2, vs2, d2, ds2, p2, q2, rfl, rfl, rfl, h2, r2⟩ := trodAll_cons r1
  obtain ⟨rfl, rfl, rfl⟩ := trodAll_nil r2
  obtain rfl : args = #[v0, v1, v2] := by cases args; simp_all
  obtain ⟨rfl, rfl⟩ := trodVars_none hV
  have k0 := h0
  have lt0 : ∀ x ∈ p0, x.block < W.heap.size := by obtain ⟨m, hm⟩ := k0; exact DataW.trod_lt m _ _ _ hm
  obtain ⟨l0, hr0, _⟩ := open_intarg (hval 0 26 v0 rfl rfl) h0
  obtain ⟨a1, rfl, rfl, rfl, w1⟩ := open_int Try.underlying37 (hval 1 37 v1 rfl rfl) h1
  obtain ⟨a2, rfl, rfl, rfl, w2⟩ := open_int Try.underlying3 (hval 2 3 v2 rfl rfl) h2
  clear hA0 hval0
  refine (walk v0 l0 a1 a2 W hr0 w1 w2).mono fun e W' ⟨he, bel⟩ => ?_
  subst he
  exact ⟨_, rfl, _, _, _, [], _, [], hW', trodAll_mk1 (shut_bool Try.underlying4 _), (trodAll_cons_mk (Below.trod laidOut (by kernel_rfl) (of_decide_eq_true (by kernel_rfl)) k0 bel lt0) (trodAll_cons_mk (shut_int Try.underlying37 w1) (trodAll_cons_mk (shut_int Try.underlying3 w2) trodAll_mk0))), rfl, bel.frame _, fun h => by cases h⟩
theorem over : Rows.secondDrawsRow.holds Try.pinned (OpenSpec.ofChange Rows.secondDrawsSpec) :=
  OpenClaim.holds_of_wide 10 Try.f10 rfl rfl rfl rfl rfl rfl rfl ⟨rfl, rfl, rfl, rfl, rfl⟩ rfl rfl rfl rfl rfl (by kernel_rfl) Try.func10 (by kernel_rfl)
    (of_decide_eq_true (by kernel_rfl)) (by unfold Func.isWrapper; first | (rw [if_pos (by decide +kernel)]; kernel_rfl) | (rw [if_neg (by decide +kernel)]; exact ⟨rfl, rfl⟩))
    (fun os started H enc _ => lifted os started H enc)
/-- THE STATEMENT -/
theorem proved : Rows.SecondDrawsSaid := over
end Go.Proofs.Ytkiagmfdfojoeaa.secondDraws
