/-
  ScheduleHolds: for every game and time the statement returns true: the open draw has not closed, and the one before it has. No conditions.
-/
import Derived.Test.YtijdlggoaianbaaSchedO
import Derived.ProofKit
import Derived.OpenShut
import Derived.ShutString
import Derived.ChangeOld
namespace Go.Proofs.Ytijdlggoaianbaa.scheduleHolds
open Go.ChangeShapes Go.WideShapes Go.ChangeAt Go.RowKit
open Go.ChangeMaps (open_string shut_string)
set_option linter.unusedVariables false
set_option maxRecDepth 20000 in
set_option maxHeartbeats 4000000 in
theorem walk (v0 : Value) (g : Gm) (n : Int) (w : World) (hv0 : v0 = g.val) (hok : g.Ok w) (hn : (Lit.int .i64 n).wf = true) :
    Calls Try.prog 6 #[v0, .int .i64 n] w fun e w' => e = .returned (.bool true) ∧ Below w.heap.size w w' := by
  subst hv0
  simp [Lit.wf, IntKind.min, IntKind.max, IntKind.signed, IntKind.bits] at hn
  obtain ⟨hn0, hn1⟩ := hn
  have hO := fun w' (h : Fr [] w w') => open_any g n w' (hok.fr h) hn0 hn1
  have HO := Lib.hid hO
  by_cases hE : opE g n = 0
  · have hE2 := hE
    unfold opE at hE2
    split at hE2
    · rename_i h; exact absurd hE2 h
    rename_i hc
    split at hE2
    · simp at hE2
    rename_i htr
    have hc : chkE g = 0 := by simpa using hc
    obtain ⟨d, hd⟩ := df_of hc
    have k0 := hd.c0
    have k1 := hd.c1
    have t0 : 0 ≤ n := by omega
    have t1 : n ≤ 1073741824 := by omega
    rw [hd.dd] at hE2
    have hbd := unt_bd (a := g.at_) hd.hd (show n + g.close ≤ 1073743264 by omega)
    have hnext := unt_next hd.hd hd.h0 hd.a0 hd.a1 (show 0 ≤ n + g.close by omega)
    have hlast := unt_last hd.hd hd.h0 hd.a0 hd.a1 (show 0 ≤ n + g.close by omega)
    have hVO : opV g n = ((untV d g.at_ (n + g.close) : Nat) : Int) + 1 := by unfold opV; rw [if_pos hE, hd.dd]
    have hO' := HO.out
    rw [hE, hVO] at hO'
    have HO := Lib.hid hO'
    generalize untV d g.at_ (n + g.close) = N at *
    have hm : ¬ 1073741824 < drT d g.at_ N := fun h => by have := (dr_far hc hd h).1; omega
    have hV := (dr_ok hc hd hm).2
    have hC := fun w' (h : Fr [] w w') => close_any g ((N : Int) + 1) w' (hok.fr h) (by omega) (by omega)
    have hcl : clV g ((N : Int) + 1) = drT d g.at_ N - g.close := by unfold clV; rw [if_pos hE2, hV]
    rw [hE2, hcl] at hC
    have d1 : decide (drT d g.at_ N - g.close ≤ n) = false := by simp; omega
    have d2 : decide ((N : Int) + 1 < 1) = false := by simp; omega
    by_cases hN : N = 0
    · subst hN
      have d3 : ((((0 : Nat) : Int) + 1) == 1) = true := by simp
      generalize drT d g.at_ 0 - g.close = T at *
      have HC := Lib.hid hC
      clear hO hO' hC hcl hV hm hVO hlast hnext hE2 hE hc hd hok htr d3
      go_enter Try.func6, Try.ntmps6
      go_wp2_with (first | (refine box_game rfl (.tmp 0) rfl g rfl ?_; intro w1 hg1 hz1 hf1) | (refine load_game rfl (.tmp 2) rfl _ rfl g hg1 ?_))
      refine (HO.out _ hf1).mono ?_
      rintro e w2 ⟨rfl, f2⟩
      have hg2 := hg1.fr f2 (by simp)
      have hf2 := hf1.trans f2
      clear hg1 hf1 f2
      go_wp2_with (refine load_game rfl (.tmp 2) rfl _ rfl g hg2 ?_)
      refine (HC.out _ hf2).mono ?_
      rintro e w3 ⟨rfl, f3⟩
      have hf3 := hf2.trans f3
      clear hg2 hf2 f3
      go_wp2_with fail
      refine (opens24_any _).mono ?_
      rintro e w4 ⟨rfl, f4⟩
      have HF := Lib.hid (hf3.trans f4)
      clear hf3 f4
      go_wp2_with fail
      go_ret
      exact ⟨rfl, HF.out.below⟩
    · obtain ⟨M, rfl⟩ : ∃ M, N = M + 1 := ⟨N - 1, by omega⟩
      have hl := hlast (by omega)
      rw [show M + 1 - 1 = M by omega] at hl
      have hm2 : ¬ 1073741824 < drT d g.at_ M := by
        have := drT_succ (a := g.at_) hd.hd hd.h0 M
        omega
      have hk := dr_ok hc hd hm2
      have hC2 := fun w' (h : Fr [] w w') => close_any g ((M : Int) + 1) w' (hok.fr h) (by omega) (by omega)
      have hcl2 : clV g ((M : Int) + 1) = drT d g.at_ M - g.close := by unfold clV; rw [if_pos hk.1, hk.2]
      rw [hk.1, hcl2] at hC2
      have d4 : decide (drT d g.at_ M - g.close ≤ n) = true := by simp; omega
      obtain ⟨J, hJ⟩ : ∃ J : Int, J = ((M + 1 : Nat) : Int) + 1 := ⟨_, rfl⟩
      have hJ2 : (M : Int) + 1 = J - 1 := by omega
      have d3 : (J == 1) = false := by simp; omega
      have hJ0 : 1 < J := by omega
      have hJ1 : J ≤ 800000 := by omega
      rw [← hJ] at hC d2
      have HO' := HO.out
      rw [← hJ] at HO'
      have HO := Lib.hid HO'
      rw [hJ2] at hC2
      generalize drT d g.at_ (M + 1) - g.close = T at *
      generalize drT d g.at_ M - g.close = T0 at *
      have HC := Lib.hid hC
      have HC2 := Lib.hid hC2
      clear hO hO' HO' hC hC2 hcl hcl2 hV hm hm2 hVO hlast hl hk hnext hE2 hE hc hd hok htr hJ hJ2 hN hbd
      go_enter Try.func6, Try.ntmps6
      go_wp2_with (first | (refine box_game rfl (.tmp 0) rfl g rfl ?_; intro w1 hg1 hz1 hf1) | (refine load_game rfl (.tmp 2) rfl _ rfl g hg1 ?_))
      refine (HO.out _ hf1).mono ?_
      rintro e w2 ⟨rfl, f2⟩
      have hg2 := hg1.fr f2 (by simp)
      have hf2 := hf1.trans f2
      clear hg1 hf1 f2
      go_wp2_with (refine load_game rfl (.tmp 2) rfl _ rfl g hg2 ?_)
      refine (HC.out _ hf2).mono ?_
      rintro e w3 ⟨rfl, f3⟩
      have hg3 := hg2.fr f3 (by simp)
      have hf3 := hf2.trans f3
      clear hg2 hf2 f3
      go_wp2_with (refine load_game rfl (.tmp 2) rfl _ rfl g hg3 ?_)
      refine (HC2.out _ hf3).mono ?_
      rintro e w4 ⟨rfl, f4⟩
      have hf4 := hf3.trans f4
      clear hg3 hf3 f4
      go_wp2_with fail
      refine (opens24_any _).mono ?_
      rintro e w5 ⟨rfl, f5⟩
      have HF := Lib.hid (hf4.trans f5)
      clear hf4 f5
      go_wp2_with fail
      go_ret
      exact ⟨rfl, HF.out.below⟩
  · have e0 : (opE g n != 0) = true := by simpa using hE
    generalize opE g n = DE at *
    generalize opV g n = DV at *
    have HO := Lib.hid hO
    clear hO hE hok
    go_enter Try.func6, Try.ntmps6
    go_wp2_with (first | (refine box_game rfl (.tmp 0) rfl g rfl ?_; intro w1 hg1 hz1 hf1) | (refine load_game rfl (.tmp 2) rfl _ rfl g hg1 ?_))
    refine (HO.out _ hf1).mono ?_
    rintro e w2 ⟨rfl, f2⟩
    have hf2 := hf1.trans f2
    clear hg1 hf1 f2
    go_wp2_with fail
    refine (opens24_any _).mono ?_
    rintro e w3 ⟨rfl, f3⟩
    have HF := Lib.hid (hf2.trans f3)
    clear hf2 f3
    go_wp2_with fail
    go_ret
    exact ⟨rfl, HF.out.below⟩
theorem own : ownKnob Try.prog.godebug = none := by kernel_rfl
theorem laidOut : laidOutB Try.prog = true := by kernel_rfl
set_option maxRecDepth 100000 in
theorem lifted (os : Os) (started : os.Started) (H : Type) (enc : TypeId × Value → H) :
    ReturnsInHanded {} Try.checked os 6 .any (Rows.scheduleHoldsSpec.pre6 enc Try.prog Try.f6 Rows.scheduleHoldsRow.domain false) (Rows.scheduleHoldsSpec.post enc Try.prog Try.f6 false true false false) := by
  refine returnsInHanded_of_change (C := Try.checked) own started (by kernel_rfl) Try.func6
    (ChangeSpec.witness6 (enc := enc) (C := Try.checked) false ⟨#[], #[.agg #[.string ByteArray.empty, .int .i64 0, .int .i64 0, .int .i64 0, .int .i64 0, .int .i64 0, .int .i64 0, .int .i64 0, .int .i64 0, .int .i64 0, .int .i64 0, .int .i64 0, .int .i64 0, .int .i64 0, .int .i64 0, .int .i64 0, .int .i64 0, .int .i64 0, .int .i64 0, .int .i64 0, .slice none 0 0, .slice none 0 0], .int .i64 0], []⟩ 8 (by kernel_rfl) (by kernel_rfl) (by kernel_rfl) (by kernel_rfl)) ?_
  intro W base args ds gs before hval0 hW hcnd _
  have hval : ∀ (j : Nat) t v, Try.f6.params[j]? = some t → args[j]? = some v → Value.okWide Try.prog W .any base t v := hval0
  have hW' := hW
  obtain ⟨p, q, hA0, hV, rfl, hfz, hnd⟩ := hW
  have hA : DataW.TrodAll enc Try.prog W 0 (fun _ => true) true Try.f6.params.toList args.toList ds p := hA0
  rw [Try.params6] at hA hval
  obtain ⟨v0, vs0, d0, ds0, p0, q0, hargs, rfl, rfl, h0, r0⟩ := trodAll_cons hA
  obtain ⟨v1, vs1, d1, ds1, p1, q1, rfl, rfl, rfl, h1, r1⟩ := trodAll_cons r0
  obtain ⟨rfl, rfl, rfl⟩ := trodAll_nil r1
  obtain rfl : args = #[v0, v1] := by cases args; simp_all
  obtain ⟨rfl, rfl⟩ := trodVars_none hV
  have k0 := h0
  have lt0 : ∀ x ∈ p0, x.block < W.heap.size := by obtain ⟨m, hm⟩ := k0; exact DataW.trod_lt m _ _ _ hm
  obtain ⟨g0, hv0, hg0⟩ := open_game (hval 0 47 v0 rfl rfl) h0
  obtain ⟨a1, rfl, rfl, rfl, w1⟩ := open_int Try.underlying3 (hval 1 3 v1 rfl rfl) h1
  clear hA0 hval0
  refine (walk v0 g0 a1 W hv0 hg0 w1).mono fun e W' ⟨he, bel⟩ => ?_
  subst he
  exact ⟨_, rfl, _, _, _, [], _, [], hW', trodAll_mk1 (shut_bool Try.underlying4 _), (trodAll_cons_mk (Below.trod laidOut (by kernel_rfl) (of_decide_eq_true (by kernel_rfl)) k0 bel lt0) (trodAll_cons_mk (shut_int Try.underlying3 w1) trodAll_mk0)), rfl, bel.frame _, fun h => by cases h⟩
theorem over : Rows.scheduleHoldsRow.holds Try.pinned (OpenSpec.ofChange Rows.scheduleHoldsSpec) :=
  OpenClaim.holds_of_wide 6 Try.f6 rfl rfl rfl rfl rfl rfl rfl ⟨rfl, rfl, rfl, rfl, rfl⟩ rfl rfl rfl rfl rfl (by kernel_rfl) Try.func6 (by kernel_rfl)
    (of_decide_eq_true (by kernel_rfl)) (by unfold Func.isWrapper; first | (rw [if_pos (by decide +kernel)]; kernel_rfl) | (rw [if_neg (by decide +kernel)]; exact ⟨rfl, rfl⟩))
    (fun os started H enc _ => lifted os started H enc)
/-- THE STATEMENT -/
theorem proved : Rows.ScheduleHoldsSaid := over
end Go.Proofs.Ytijdlggoaianbaa.scheduleHolds
