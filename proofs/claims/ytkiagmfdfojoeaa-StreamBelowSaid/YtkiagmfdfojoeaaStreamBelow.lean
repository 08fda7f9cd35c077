/-
  StreamBelow: for every seed and number the statement returns true. No conditions.
-/
import Derived.Test.YtkiagmfdfojoeaaLives
import Derived.ProofKit
import Derived.OpenShut
import Derived.ShutString
import Derived.ChangeOld
namespace Go.Proofs.Ytkiagmfdfojoeaa.streamBelow
open Go.ChangeShapes Go.WideShapes Go.ChangeAt Go.RowKit
open Go.ChangeMaps (open_string shut_string)
set_option linter.unusedVariables false
set_option maxHeartbeats 1000000 in
theorem walk (s n : Int) (w : World) (w0 : (Lit.int .u64 s).wf = true) (w1 : (Lit.int .i64 n).wf = true) :
    Calls Try.prog 6 #[.int .u64 s, .int .i64 n] w fun e w' => e = .returned (.bool true) ∧ Below w.heap.size w w' := by
  go_enter Try.func6, Try.ntmps6
  go_wp2_with fail
  refine (new_any _ _).mono ?_
  rintro e w1 ⟨rfl, hs1, hz1, hb1⟩
  have HZ := Lib.hid hz1
  clear hz1
  go_wp2_with fail
  refine (rnew_any _ _).mono ?_
  rintro e w2 ⟨rfl, hs2, hz2, hb2⟩
  have HZ2 := Lib.hid hz2
  clear hz2
  have hne : w1.heap.size ≠ w.heap.size := by have := HZ.out; omega
  have hs1' : StrAt w2 w.heap.size s 0 := hs1.below hb2 (by have := HZ.out; omega)
  go_wp2_with fail
  refine (below_any _ _ _ _ _ hs1' (by omega) (by omega)).mono ?_
  rintro e w3 ⟨rfl, ha3, ho3⟩
  have hb3 := hs2.only ho3 hne
  go_wp2_with fail
  refine (rbelow_any _ _ _ _ _ hb3 (by omega) (by omega)).mono ?_
  rintro e w4 ⟨rfl, hb4, ho4⟩
  have ha4 := ha3.only ho4 hne.symm
  have hz := bE_zero n s 0
  have e1 : (bE n s 0 == bE n s 0) = true := beq_self_eq_true _
  have e2 : (bV n s 0 == bV n s 0) = true := beq_self_eq_true _
  have e3 : (bU n s 0 == bU n s 0) = true := beq_self_eq_true _
  have fin : Below w.heap.size w w4 := ((hb1.trans (hb2.mono (by have := HZ.out; omega))).trans (ho3.below _ (Nat.le_refl _))).trans (ho4.below _ (by have := HZ.out; omega))
  generalize bE n s 0 = E at *
  generalize bV n s 0 = V at *
  generalize bU n s 0 = U at *
  by_cases hE : E = 0
  · obtain ⟨_, _, hv0, hv1⟩ := hz hE
    subst hE
    have n1 : ((0 : Int) != 0) = false := rfl
    clear hz
    go_wp2_with fail
    refine (used_any _ _ _ _ ha4).mono ?_
    rintro e w5 ⟨rfl, rfl⟩
    go_wp2_with fail
    refine (rused_any _ _ _ _ hb4).mono ?_
    rintro e w5 ⟨rfl, rfl⟩
    go_wp2_with fail
    refine (lives_any _).mono ?_
    rintro e w5 ⟨rfl, hb5⟩
    go_wp2_with fail
    go_ret
    exact ⟨rfl, fin.trans (hb5.mono fin.size)⟩
  · have n1 : (E != 0) = true := by simpa using hE
    clear hz hE
    go_wp2_with fail
    refine (used_any _ _ _ _ ha4).mono ?_
    rintro e w5 ⟨rfl, rfl⟩
    go_wp2_with fail
    refine (rused_any _ _ _ _ hb4).mono ?_
    rintro e w5 ⟨rfl, rfl⟩
    go_wp2_with fail
    refine (lives_any _).mono ?_
    rintro e w5 ⟨rfl, hb5⟩
    go_wp2_with fail
    go_ret
    exact ⟨rfl, fin.trans (hb5.mono fin.size)⟩
theorem own : ownKnob Try.prog.godebug = none := by kernel_rfl
theorem laidOut : laidOutB Try.prog = true := by kernel_rfl
set_option maxRecDepth 100000 in
theorem lifted (os : Os) (started : os.Started) (H : Type) (enc : TypeId × Value → H) :
    ReturnsInHanded {} Try.checked os 6 .any (Rows.streamBelowSpec.pre6 enc Try.prog Try.f6 Rows.streamBelowRow.domain false) (Rows.streamBelowSpec.post enc Try.prog Try.f6 false true false false) := by
  refine returnsInHanded_of_change (C := Try.checked) own started (by kernel_rfl) Try.func6
    (ChangeSpec.witness6 (enc := enc) (C := Try.checked) false ⟨#[], #[.int .u64 0, .int .i64 0], []⟩ 8 (by kernel_rfl) (by kernel_rfl) (by kernel_rfl) (by kernel_rfl)) ?_
  intro W base args ds gs before hval0 hW hcnd _
  have hval : ∀ (j : Nat) t v, Try.f6.params[j]? = some t → args[j]? = some v → Value.okWide Try.prog W .any base t v := hval0
  have hW' := hW
  obtain ⟨p, q, hA0, hV, rfl, hfz, hnd⟩ := hW
  have hA : DataW.TrodAll enc Try.prog W 0 (fun _ => true) true Try.f6.params.toList args.toList ds p := hA0
  rw [Try.params6] at hA hval
  obtain ⟨v0, vs0, d0, ds0, p0, q0, hargs, rfl, rfl, h0, r0⟩ := trodAll_cons hA
  obtain ⟨v1, vs1, d1, ds1, p1, q1, rfl, rfl, rfl, h1, r1⟩ := trodAll_cons r0
  obtain ⟨rfl, rfl, rfl⟩ := trodAll_nil r1
  obtain rfl : args = #[v0, v1] := by cases args; simp_all
  obtain ⟨rfl, rfl⟩ := trodVars_none hV
  obtain ⟨a0, rfl, rfl, rfl, w0⟩ := open_int Try.underlying37 (hval 0 37 v0 rfl rfl) h0
  obtain ⟨a1, rfl, rfl, rfl, w1⟩ := open_int Try.underlying3 (hval 1 3 v1 rfl rfl) h1
  clear hA0 hval0
  refine (walk a0 a1 W w0 w1).mono fun e W' ⟨he, bel⟩ => ?_
  subst he
  exact ⟨_, rfl, _, _, _, [], _, [], hW', trodAll_mk1 (shut_bool Try.underlying4 _), (trodAll_cons_mk (shut_int Try.underlying37 w0) (trodAll_cons_mk (shut_int Try.underlying3 w1) trodAll_mk0)), rfl, bel.frame _, fun h => by cases h⟩
theorem over : Rows.streamBelowRow.holds Try.pinned (OpenSpec.ofChange Rows.streamBelowSpec) :=
  OpenClaim.holds_of_wide 6 Try.f6 rfl rfl rfl rfl rfl rfl rfl ⟨rfl, rfl, rfl, rfl, rfl⟩ rfl rfl rfl rfl rfl (by kernel_rfl) Try.func6 (by kernel_rfl)
    (of_decide_eq_true (by kernel_rfl)) (by unfold Func.isWrapper; first | (rw [if_pos (by decide +kernel)]; kernel_rfl) | (rw [if_neg (by decide +kernel)]; exact ⟨rfl, rfl⟩))
    (fun os started H enc _ => lifted os started H enc)
/-- THE STATEMENT -/
theorem proved : Rows.StreamBelowSaid := over
end Go.Proofs.Ytkiagmfdfojoeaa.streamBelow
