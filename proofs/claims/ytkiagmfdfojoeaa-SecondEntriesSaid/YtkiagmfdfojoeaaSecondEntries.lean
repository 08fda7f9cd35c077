/-
  SecondEntries: for every list of tickets and wins the statement returns true: the entries are as the document says. No conditions.
-/
import Derived.Test.YtkiagmfdfojoeaaREntries
import Derived.Test.YtkiagmfdfojoeaaSame
import Derived.ProofKit
import Derived.ShutString
import Derived.ChangeOld
namespace Go.Proofs.Ytkiagmfdfojoeaa.secondEntries
open Go.ChangeShapes Go.WideShapes Go.ChangeAt Go.RowKit
open Go.ChangeMaps (open_string shut_string)
set_option linter.unusedVariables false
set_option maxHeartbeats 1000000 in
theorem walk (v1 : Value) (l : List Tk) (v2 : Value) (ws : List (Int × Int × Int)) (w : World) (h1 : RdF 14 tkF w v1 l) (h2 : RdF 3 wnF w v2 ws) (hw : ∀ z ∈ ws, (Lit.int .i64 z.1).wf = true) :
    Calls Try.prog 3 #[v1, v2] w fun e w' => e = .returned (.bool true) ∧ Below w.heap.size w w' := by
  have g1 := h1
  have g2 := h2
  obtain ⟨a1, cap1, rfl, hc1, hc2, rd1⟩ := g1
  obtain ⟨a2, cap2, rfl, hc3, hc4, rd2⟩ := g2
  clear rd1 rd2 hc1 hc2 hc3 hc4
  by_cases hm : l.length ≤ 400 ∧ ws.length ≤ 400
  · have d1 : decide (400 < (l.length : Int)) = false := by simp; omega
    have d2 : decide (400 < l.length) = false := by simp; omega
    have d3 : decide (400 < (ws.length : Int)) = false := by simp; omega
    have d4 : decide (400 < ws.length) = false := by simp; omega
    have hD := fun (w : World) h1 h2 => entries_any (.slice a1 l.length cap1) (.slice a2 ws.length cap2) l ws w h1 h2 hw (by omega) (by omega)
    have hD' := fun (w : World) h1 h2 => rentries_any (.slice a1 l.length cap1) (.slice a2 ws.length cap2) l ws w h1 h2 (by omega) (by omega)
    generalize entTo l ws l.length = L at *
    have HD := Lib.hid hD
    have HD' := Lib.hid hD'
    have H1 := Lib.hid h1
    have H2 := Lib.hid h2
    clear hD hD' h1 h2 hw hm
    go_enter Try.func3, Try.ntmps3
    go_wp2_with fail
    refine (HD.out _ H1.out H2.out).mono ?_
    rintro e w1 ⟨v1, rfl, o1, f1⟩
    go_wp2_with fail
    refine (HD'.out _ (H1.out.below f1) (H2.out.below f1)).mono ?_
    rintro e w2 ⟨v2, rfl, o2, f2⟩
    have R1 := (o1.rdb.fr f2 (by simp)).rd
    have R2 := o2.rd
    have hF := f1.trans f2
    clear o1 o2 f1 f2 HD HD' H1 H2
    go_wp2_with fail
    refine (same_any _ _ _ _ R1 R2).mono ?_
    rintro e w3 ⟨rfl, f3⟩
    go_wp2_with fail
    refine (enters_any _).mono ?_
    rintro e w4 ⟨rfl, f4⟩
    go_wp2_with fail
    go_ret
    exact ⟨rfl, ((hF.trans f3).trans f4).below⟩
  · have hc : (decide (400 < (l.length : Int)) = true ∧ decide (400 < l.length) = true) ∨ (decide (400 < (l.length : Int)) = false ∧ decide (400 < l.length) = false ∧ decide (400 < (ws.length : Int)) = true ∧ decide (400 < ws.length) = true) := by
      simp only [decide_eq_true_eq, decide_eq_false_iff_not]; omega
    clear hm h1 h2 hw
    generalize l.length = n at *
    generalize ws.length = m at *
    rcases hc with ⟨d1, d2⟩ | ⟨d1, d2, d3, d4⟩
    all_goals
      go_enter Try.func3, Try.ntmps3
      go_wp2_with fail
      refine (enters_any _).mono ?_
      rintro e w4 ⟨rfl, f4⟩
      go_wp2_with fail
      go_ret
      exact ⟨rfl, f4.below⟩
theorem own : ownKnob Try.prog.godebug = none := by kernel_rfl
theorem laidOut : laidOutB Try.prog = true := by kernel_rfl
set_option maxRecDepth 100000 in
theorem lifted (os : Os) (started : os.Started) (H : Type) (enc : TypeId × Value → H) :
    ReturnsInHanded {} Try.checked os 3 .any (Rows.secondEntriesSpec.pre6 enc Try.prog Try.f3 Rows.secondEntriesRow.domain false) (Rows.secondEntriesSpec.post enc Try.prog Try.f3 false true false false) := by
  refine returnsInHanded_of_change (C := Try.checked) own started (by kernel_rfl) Try.func3
    (ChangeSpec.witness6 (enc := enc) (C := Try.checked) false ⟨#[], #[.slice none 0 0, .slice none 0 0], []⟩ 8 (by kernel_rfl) (by kernel_rfl) (by kernel_rfl) (by kernel_rfl)) ?_
  intro W base args ds gs before hval0 hW hcnd _
  have hval : ∀ (j : Nat) t v, Try.f3.params[j]? = some t → args[j]? = some v → Value.okWide Try.prog W .any base t v := hval0
  have hW' := hW
  obtain ⟨p, q, hA0, hV, rfl, hfz, hnd⟩ := hW
  have hA : DataW.TrodAll enc Try.prog W 0 (fun _ => true) true Try.f3.params.toList args.toList ds p := hA0
  rw [Try.params3] at hA hval
  obtain ⟨v0, vs0, d0, ds0, p0, q0, hargs, rfl, rfl, h0, r0⟩ := trodAll_cons hA
  obtain ⟨v1, vs1, d1, ds1, p1, q1, rfl, rfl, rfl, h1, r1⟩ := trodAll_cons r0
  obtain ⟨rfl, rfl, rfl⟩ := trodAll_nil r1
  obtain rfl : args = #[v0, v1] := by cases args; simp_all
  obtain ⟨rfl, rfl⟩ := trodVars_none hV
  have k0 := h0
  have lt0 : ∀ x ∈ p0, x.block < W.heap.size := by obtain ⟨m, hm⟩ := k0; exact DataW.trod_lt m _ _ _ hm
  obtain ⟨l0, hr0⟩ := open_tickets (hval 0 22 v0 rfl rfl) h0
  have k1 := h1
  have lt1 : ∀ x ∈ p1, x.block < W.heap.size := by obtain ⟨m, hm⟩ := k1; exact DataW.trod_lt m _ _ _ hm
  obtain ⟨l1, hr1, hw1⟩ := open_wins (hval 1 23 v1 rfl rfl) h1
  clear hA0 hval0
  refine (walk v0 l0 v1 l1 W hr0 hr1 hw1).mono fun e W' ⟨he, bel⟩ => ?_
  subst he
  exact ⟨_, rfl, _, _, _, [], _, [], hW', trodAll_mk1 (shut_bool Try.underlying4 _), (trodAll_cons_mk (Below.trod laidOut (by kernel_rfl) (of_decide_eq_true (by kernel_rfl)) k0 bel lt0) (trodAll_cons_mk (Below.trod laidOut (by kernel_rfl) (of_decide_eq_true (by kernel_rfl)) k1 bel lt1) trodAll_mk0)), rfl, bel.frame _, fun h => by cases h⟩
theorem over : Rows.secondEntriesRow.holds Try.pinned (OpenSpec.ofChange Rows.secondEntriesSpec) :=
  OpenClaim.holds_of_wide 3 Try.f3 rfl rfl rfl rfl rfl rfl rfl ⟨rfl, rfl, rfl, rfl, rfl⟩ rfl rfl rfl rfl rfl (by kernel_rfl) Try.func3 (by kernel_rfl)
    (of_decide_eq_true (by kernel_rfl)) (by unfold Func.isWrapper; first | (rw [if_pos (by decide +kernel)]; kernel_rfl) | (rw [if_neg (by decide +kernel)]; exact ⟨rfl, rfl⟩))
    (fun os started H enc _ => lifted os started H enc)
/-- THE STATEMENT -/
theorem proved : Rows.SecondEntriesSaid := over
end Go.Proofs.Ytkiagmfdfojoeaa.secondEntries
