/-
  AddonHits: for every two strings the statement returns true: how many last digits agree is as the document says. No conditions.
-/
import Derived.Test.YtdbkkbeelemnhaaHits
import Derived.ProofKit
import Derived.OpenShut
import Derived.ShutString
import Derived.ChangeOld
namespace Go.Proofs.Ytdbkkbeelemnhaa.addonHits
open Go.ChangeShapes Go.WideShapes Go.ChangeAt Go.RowKit
open Go.ChangeMaps (open_string shut_string)
set_option linter.unusedVariables false
theorem two (n : Nat) (h : IsHits ⟨#[48, 48, 55, 49]⟩ ⟨#[49, 49, 55, 49]⟩ n) : n = 2 := by
  refine h.eq (.inr ⟨rfl, by decide, fun j hj => ?_, fun _ => by decide⟩)
  match j, hj with
  | 0, _ => decide
  | 1, _ => decide
set_option maxHeartbeats 1000000 in
theorem walk (s t : ByteArray) (w : World) (k0 : s.size ≤ maxLen) (k1 : t.size ≤ maxLen) :
    Calls Try.prog 3 #[.string s, .string t] w fun e w' => e = .returned (.bool true) ∧ Below w.heap.size w w' := by
  go_enter Try.func3, Try.ntmps3
  go_wp2_with fail
  refine (hits_any _ _ _ k0 k1).mono ?_
  rintro e w1 ⟨n, hn, rfl, f1⟩
  have HN := Lib.hid hn
  clear hn
  go_wp2_with fail
  refine (rhits_any _ _ _ k0 k1).mono ?_
  rintro e w2 ⟨m, hm, rfl, f2⟩
  obtain rfl := HN.out.eq hm
  have e1 : ((n : Int) == n) = true := by simp
  clear hm
  go_wp2_with fail
  refine (hits_any _ _ _ k1 k0).mono ?_
  rintro e w3 ⟨m, hm, rfl, f3⟩
  obtain rfl := HN.out.eq hm.symm
  clear hm
  go_wp2_with fail
  refine (hits_any _ _ _ (by decide) (by decide)).mono ?_
  rintro e w4 ⟨m, hm, rfl, f4⟩
  obtain rfl := two m hm
  clear hm
  go_wp2_with fail
  go_ret
  exact ⟨rfl, (((f1.trans f2).trans f3).trans f4).below⟩
theorem own : ownKnob Try.prog.godebug = none := by kernel_rfl
theorem laidOut : laidOutB Try.prog = true := by kernel_rfl
set_option maxRecDepth 100000 in
theorem lifted (os : Os) (started : os.Started) (H : Type) (enc : TypeId × Value → H) :
    ReturnsInHanded {} Try.checked os 3 .any (Rows.addonHitsSpec.pre6 enc Try.prog Try.f3 Rows.addonHitsRow.domain false) (Rows.addonHitsSpec.post enc Try.prog Try.f3 false true false false) := by
  refine returnsInHanded_of_change (C := Try.checked) own started (by kernel_rfl) Try.func3
    (ChangeSpec.witness6 (enc := enc) (C := Try.checked) false ⟨#[], #[.string ByteArray.empty, .string ByteArray.empty], []⟩ 8 (by kernel_rfl) (by kernel_rfl) (by kernel_rfl) (by kernel_rfl)) ?_
  intro W base args ds gs before hval0 hW hcnd _
  have hval : ∀ (j : Nat) t v, Try.f3.params[j]? = some t → args[j]? = some v → Value.okWide Try.prog W .any base t v := hval0
  have hW' := hW
  obtain ⟨p, q, hA0, hV, rfl, hfz, hnd⟩ := hW
  have hA : DataW.TrodAll enc Try.prog W 0 (fun _ => true) true Try.f3.params.toList args.toList ds p := hA0
  rw [Try.params3] at hA hval
  obtain ⟨v0, vs0, d0, ds0, p0, q0, hargs, rfl, rfl, h0, r0⟩ := trodAll_cons hA
  obtain ⟨v1, vs1, d1, ds1, p1, q1, rfl, rfl, rfl, h1, r1⟩ := trodAll_cons r0
  obtain ⟨rfl, rfl, rfl⟩ := trodAll_nil r1
  obtain rfl : args = #[v0, v1] := by cases args; simp_all
  obtain ⟨rfl, rfl⟩ := trodVars_none hV
  obtain ⟨a0, rfl, rfl, rfl, w0⟩ := open_string Try.underlying9 (hval 0 9 v0 rfl rfl) h0
  obtain ⟨a1, rfl, rfl, rfl, w1⟩ := open_string Try.underlying9 (hval 1 9 v1 rfl rfl) h1
  clear hA0 hval0
  refine (walk a0 a1 W w0 w1).mono fun e W' ⟨he, bel⟩ => ?_
  subst he
  exact ⟨_, rfl, _, _, _, [], _, [], hW', trodAll_mk1 (shut_bool Try.underlying4 _), (trodAll_cons_mk (shut_string Try.underlying9 w0) (trodAll_cons_mk (shut_string Try.underlying9 w1) trodAll_mk0)), rfl, bel.frame _, fun h => by cases h⟩
theorem over : Rows.addonHitsRow.holds Try.pinned (OpenSpec.ofChange Rows.addonHitsSpec) :=
  OpenClaim.holds_of_wide 3 Try.f3 rfl rfl rfl rfl rfl rfl rfl ⟨rfl, rfl, rfl, rfl, rfl⟩ rfl rfl rfl rfl rfl (by kernel_rfl) Try.func3 (by kernel_rfl)
    (of_decide_eq_true (by kernel_rfl)) (by unfold Func.isWrapper; first | (rw [if_pos (by decide +kernel)]; kernel_rfl) | (rw [if_neg (by decide +kernel)]; exact ⟨rfl, rfl⟩))
    (fun os started H enc _ => lifted os started H enc)
/-- THE STATEMENT -/
theorem proved : Rows.AddonHitsSaid := over
end Go.Proofs.Ytdbkkbeelemnhaa.addonHits
