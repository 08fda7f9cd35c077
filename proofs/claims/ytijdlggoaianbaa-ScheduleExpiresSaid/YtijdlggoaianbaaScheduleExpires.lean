/-
  ScheduleExpires: for every game and number the statement returns true: the end of the period for claims is as specified. No conditions.
-/
import Derived.Test.YtijdlggoaianbaaSchedO
import Derived.Test.YtijdlggoaianbaaRef24
import Derived.ProofKit
import Derived.OpenShut
import Derived.ShutString
import Derived.ChangeOld
namespace Go.Proofs.Ytijdlggoaianbaa.scheduleExpires
open Go.ChangeShapes Go.WideShapes Go.ChangeAt Go.RowKit
open Go.ChangeMaps (open_string shut_string)
set_option linter.unusedVariables false
set_option maxRecDepth 20000 in
set_option maxHeartbeats 4000000 in
theorem walk (v0 : Value) (g : Gm) (n : Int) (w : World) (hv0 : v0 = g.val) (hok : g.Ok w) (hn : (Lit.int .i64 n).wf = true) :
    Calls Try.prog 5 #[v0, .int .i64 n] w fun e w' => e = .returned (.bool true) ∧ Below w.heap.size w w' := by
  subst hv0
  simp [Lit.wf, IntKind.min, IntKind.max, IntKind.signed, IntKind.bits] at hn
  obtain ⟨hn0, hn1⟩ := hn
  have hX := fun w' (h : Fr [] w w') => expiry_any g n w' (hok.fr h) hn0 hn1
  have hRX := fun w' (h : Fr [] w w') => rexpiry_any g n w' (hok.fr h) hn0 hn1
  generalize drE g n = DE at *
  generalize exV g n = XV at *
  have e1 : (DE == DE) = true := by simp
  have e2 : (XV == XV) = true := by simp
  have HX := Lib.hid hX
  have HRX := Lib.hid hRX
  clear hX hRX hok
  go_enter Try.func5, Try.ntmps5
  go_wp2_with (first | (refine box_game rfl (.tmp 0) rfl g rfl ?_; intro w1 hg1 hz1 hf1) | (refine load_game rfl (.tmp 2) rfl _ rfl g hg1 ?_))
  clear hz1
  refine (HX.out _ hf1).mono ?_
  rintro e w2 ⟨rfl, f2⟩
  have hg2 := hg1.fr f2 (by simp)
  have hf2 := hf1.trans f2
  clear hg1 hf1 f2
  go_wp2_with (refine load_game rfl (.tmp 2) rfl _ rfl g hg2 ?_)
  refine (HRX.out _ hf2).mono ?_
  rintro e w3 ⟨rfl, f3⟩
  have hg3 := hg2.fr f3 (by simp)
  have hf3 := hf2.trans f3
  clear hg2 hf2 f3
  clear HX HRX
  go_wp2_with fail
  refine (weekly24_any _).mono ?_
  rintro e w4 ⟨b, rfl, hok, f4⟩
  go_wp2_with fail
  refine (expiry_any _ 1 _ hok (by omega) (by omega)).mono ?_
  rintro e w5 ⟨rfl, f5⟩
  obtain ⟨p1, _, _, _, p2, _⟩ := w24_dr b
  rw [p1, p2]
  have HF := Lib.hid ((hf3.trans f4).trans f5)
  clear p1 p2 hok f4 f5 hf3 hg3
  go_wp2_with fail
  go_ret
  exact ⟨rfl, HF.out.below⟩
theorem own : ownKnob Try.prog.godebug = none := by kernel_rfl
theorem laidOut : laidOutB Try.prog = true := by kernel_rfl
set_option maxRecDepth 100000 in
theorem lifted (os : Os) (started : os.Started) (H : Type) (enc : TypeId × Value → H) :
    ReturnsInHanded {} Try.checked os 5 .any (Rows.scheduleExpiresSpec.pre6 enc Try.prog Try.f5 Rows.scheduleExpiresRow.domain false) (Rows.scheduleExpiresSpec.post enc Try.prog Try.f5 false true false false) := by
  refine returnsInHanded_of_change (C := Try.checked) own started (by kernel_rfl) Try.func5
    (ChangeSpec.witness6 (enc := enc) (C := Try.checked) false ⟨#[], #[.agg #[.string ByteArray.empty, .int .i64 0, .int .i64 0, .int .i64 0, .int .i64 0, .int .i64 0, .int .i64 0, .int .i64 0, .int .i64 0, .int .i64 0, .int .i64 0, .int .i64 0, .int .i64 0, .int .i64 0, .int .i64 0, .int .i64 0, .int .i64 0, .int .i64 0, .int .i64 0, .int .i64 0, .slice none 0 0, .slice none 0 0], .int .i64 0], []⟩ 8 (by kernel_rfl) (by kernel_rfl) (by kernel_rfl) (by kernel_rfl)) ?_
  intro W base args ds gs before hval0 hW hcnd _
  have hval : ∀ (j : Nat) t v, Try.f5.params[j]? = some t → args[j]? = some v → Value.okWide Try.prog W .any base t v := hval0
  have hW' := hW
  obtain ⟨p, q, hA0, hV, rfl, hfz, hnd⟩ := hW
  have hA : DataW.TrodAll enc Try.prog W 0 (fun _ => true) true Try.f5.params.toList args.toList ds p := hA0
  rw [Try.params5] at hA hval
  obtain ⟨v0, vs0, d0, ds0, p0, q0, hargs, rfl, rfl, h0, r0⟩ := trodAll_cons hA
  obtain ⟨v1, vs1, d1, ds1, p1, q1, rfl, rfl, rfl, h1, r1⟩ := trodAll_cons r0
  obtain ⟨rfl, rfl, rfl⟩ := trodAll_nil r1
  obtain rfl : args = #[v0, v1] := by cases args; simp_all
  obtain ⟨rfl, rfl⟩ := trodVars_none hV
  have k0 := h0
  have lt0 : ∀ x ∈ p0, x.block < W.heap.size := by obtain ⟨m, hm⟩ := k0; exact DataW.trod_lt m _ _ _ hm
  obtain ⟨g0, hv0, hg0⟩ := open_game (hval 0 47 v0 rfl rfl) h0
  obtain ⟨a1, rfl, rfl, rfl, w1⟩ := open_int Try.underlying3 (hval 1 3 v1 rfl rfl) h1
  clear hA0 hval0
  refine (walk v0 g0 a1 W hv0 hg0 w1).mono fun e W' ⟨he, bel⟩ => ?_
  subst he
  exact ⟨_, rfl, _, _, _, [], _, [], hW', trodAll_mk1 (shut_bool Try.underlying4 _), (trodAll_cons_mk (Below.trod laidOut (by kernel_rfl) (of_decide_eq_true (by kernel_rfl)) k0 bel lt0) (trodAll_cons_mk (shut_int Try.underlying3 w1) trodAll_mk0)), rfl, bel.frame _, fun h => by cases h⟩
theorem over : Rows.scheduleExpiresRow.holds Try.pinned (OpenSpec.ofChange Rows.scheduleExpiresSpec) :=
  OpenClaim.holds_of_wide 5 Try.f5 rfl rfl rfl rfl rfl rfl rfl ⟨rfl, rfl, rfl, rfl, rfl⟩ rfl rfl rfl rfl rfl (by kernel_rfl) Try.func5 (by kernel_rfl)
    (of_decide_eq_true (by kernel_rfl)) (by unfold Func.isWrapper; first | (rw [if_pos (by decide +kernel)]; kernel_rfl) | (rw [if_neg (by decide +kernel)]; exact ⟨rfl, rfl⟩))
    (fun os started H enc _ => lifted os started H enc)
/-- THE STATEMENT -/
theorem proved : Rows.ScheduleExpiresSaid := over
end Go.Proofs.Ytijdlggoaianbaa.scheduleExpires
