/-
  AddonDraws: for every game and seed the statement returns true: what is drawn for add-ons is as the document says. No conditions.
-/
import Derived.Test.YtdbkkbeelemnhaaPlain40
import Derived.Test.YtdbkkbeelemnhaaRDrawA
import Derived.ProofKit
import Derived.OpenShut
import Derived.ShutString
import Derived.ChangeOld
namespace Go.Proofs.Ytdbkkbeelemnhaa.addonDraws
open Go.ChangeShapes Go.WideShapes Go.ChangeAt Go.RowKit
open Go.ChangeMaps (open_string shut_string)
set_option linter.unusedVariables false
set_option maxRecDepth 20000 in
set_option maxHeartbeats 2000000 in
theorem walk (v : Value) (g : Gm) (s : Int) (w : World) (hv : v = g.val) (hok : g.Ok w) (hs : (Lit.int .u64 s).wf = true) :
    Calls Try.prog 11 #[v, .int .u64 s] w fun e w' => e = .returned (.bool true) ∧ Below w.heap.size w w' := by
  subst hv
  have hs01 : 0 ≤ s ∧ s ≤ 18446744073709551615 := by
    have h : IntKind.u64.min ≤ s ∧ s ≤ IntKind.u64.max := by simpa [Lit.wf] using hs
    have m0 : IntKind.u64.min = 0 := by kernel_rfl
    have m1 : IntKind.u64.max = 18446744073709551615 := by kernel_rfl
    omega
  have hP := fun w' (h : Fr [] w w') => draw40_any g s w' (hok.fr h) hs01.1 hs01.2
  have hR := fun w' (h : Fr [] w w') => rdraw40_any g s w' (hok.fr h) hs01.1 hs01.2
  unfold ADPost at hP hR
  generalize dN g s = N at *
  generalize dT g s = T at *
  generalize dE g s = E at *
  have HP := Lib.hid hP
  have HR := Lib.hid hR
  have hNN : (N == N) = true := by simp
  have hEE : (E == E) = true := by simp
  have hTT : (T.toList == T.toList) = true := by simp
  clear hP hR hok hs hs01
  go_enter Try.func11, Try.ntmps11
  go_wp2_with (first | (refine box_game rfl (.tmp 0) rfl g rfl ?_; intro w1 hg1 hz1 hf1) | (refine load_game rfl (.tmp 2) rfl _ rfl g hg1 ?_))
  refine (HP.out _ hf1).mono ?_
  rintro e w2 ⟨rfl, f2⟩
  have hg2 := hg1.fr f2 (by simp)
  have hF2 := hf1.trans f2
  go_wp2_with (refine load_game rfl (.tmp 2) rfl _ rfl g hg2 ?_)
  refine (HR.out _ hF2).mono ?_
  rintro e w3 ⟨rfl, f3⟩
  go_wp2_with fail
  refine (lives40_any _).mono ?_
  rintro e w4 ⟨rfl, f4⟩
  go_wp2_with fail
  go_ret
  exact ⟨rfl, ((hF2.trans f3).trans f4).below⟩
theorem own : ownKnob Try.prog.godebug = none := by kernel_rfl
theorem laidOut : laidOutB Try.prog = true := by kernel_rfl
set_option maxRecDepth 100000 in
theorem lifted (os : Os) (started : os.Started) (H : Type) (enc : TypeId × Value → H) :
    ReturnsInHanded {} Try.checked os 11 .any (Rows.addonDrawsSpec.pre6 enc Try.prog Try.f11 Rows.addonDrawsRow.domain false) (Rows.addonDrawsSpec.post enc Try.prog Try.f11 false true false false) := by
  refine returnsInHanded_of_change (C := Try.checked) own started (by kernel_rfl) Try.func11
    (ChangeSpec.witness6 (enc := enc) (C := Try.checked) false ⟨#[], #[.agg #[.string ByteArray.empty, .int .i64 0, .int .i64 0, .int .i64 0, .int .i64 0, .int .i64 0, .int .i64 0, .int .i64 0, .int .i64 0, .int .i64 0, .int .i64 0, .int .i64 0, .int .i64 0, .int .i64 0, .int .i64 0, .int .i64 0, .int .i64 0, .int .i64 0, .int .i64 0, .int .i64 0, .slice none 0 0, .slice none 0 0], .int .u64 0], []⟩ 8 (by kernel_rfl) (by kernel_rfl) (by kernel_rfl) (by kernel_rfl)) ?_
  intro W base args ds gs before hval0 hW hcnd _
  have hval : ∀ (j : Nat) t v, Try.f11.params[j]? = some t → args[j]? = some v → Value.okWide Try.prog W .any base t v := hval0
  have hW' := hW
  obtain ⟨p, q, hA0, hV, rfl, hfz, hnd⟩ := hW
  have hA : DataW.TrodAll enc Try.prog W 0 (fun _ => true) true Try.f11.params.toList args.toList ds p := hA0
  rw [Try.params11] at hA hval
  obtain ⟨v0, vs0, d0, ds0, p0, q0, hargs, rfl, rfl, h0, r0⟩ := trodAll_cons hA
  obtain ⟨v1, vs1, d1, ds1, p1, q1, rfl, rfl, rfl, h1, r1⟩ := trodAll_cons r0
  obtain ⟨rfl, rfl, rfl⟩ := trodAll_nil r1
  obtain rfl : args = #[v0, v1] := by cases args; simp_all
  obtain ⟨rfl, rfl⟩ := trodVars_none hV
  have k0 := h0
  have lt0 : ∀ x ∈ p0, x.block < W.heap.size := by obtain ⟨m, hm⟩ := k0; exact DataW.trod_lt m _ _ _ hm
  obtain ⟨g0, hv0, hg0⟩ := open_game (hval 0 29 v0 rfl rfl) h0
  obtain ⟨a1, rfl, rfl, rfl, w1⟩ := open_int Try.underlying48 (hval 1 48 v1 rfl rfl) h1
  clear hA0 hval0
  refine (walk v0 g0 a1 W hv0 hg0 w1).mono fun e W' ⟨he, bel⟩ => ?_
  subst he
  exact ⟨_, rfl, _, _, _, [], _, [], hW', trodAll_mk1 (shut_bool Try.underlying4 _), (trodAll_cons_mk (Below.trod laidOut (by kernel_rfl) (of_decide_eq_true (by kernel_rfl)) k0 bel lt0) (trodAll_cons_mk (shut_int Try.underlying48 w1) trodAll_mk0)), rfl, bel.frame _, fun h => by cases h⟩
theorem over : Rows.addonDrawsRow.holds Try.pinned (OpenSpec.ofChange Rows.addonDrawsSpec) :=
  OpenClaim.holds_of_wide 11 Try.f11 rfl rfl rfl rfl rfl rfl rfl ⟨rfl, rfl, rfl, rfl, rfl⟩ rfl rfl rfl rfl rfl (by kernel_rfl) Try.func11 (by kernel_rfl)
    (of_decide_eq_true (by kernel_rfl)) (by unfold Func.isWrapper; first | (rw [if_pos (by decide +kernel)]; kernel_rfl) | (rw [if_neg (by decide +kernel)]; exact ⟨rfl, rfl⟩))
    (fun os started H enc _ => lifted os started H enc)
/-- THE STATEMENT -/
theorem proved : Rows.AddonDrawsSaid := over
end Go.Proofs.Ytdbkkbeelemnhaa.addonDraws
