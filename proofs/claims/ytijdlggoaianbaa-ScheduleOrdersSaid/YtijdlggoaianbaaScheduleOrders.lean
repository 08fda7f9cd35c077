/-
  ScheduleOrders: for every game and number the statement returns true: each draw is at the next time after the one before it. No conditions.
-/
import Derived.Test.YtijdlggoaianbaaSchedO
import Derived.ProofKit
import Derived.OpenShut
import Derived.ShutString
import Derived.ChangeOld
namespace Go.Proofs.Ytijdlggoaianbaa.scheduleOrders
open Go.ChangeShapes Go.WideShapes Go.ChangeAt Go.RowKit
open Go.ChangeMaps (open_string shut_string)
set_option linter.unusedVariables false
set_option maxRecDepth 20000 in
set_option maxHeartbeats 4000000 in
theorem walk (v0 : Value) (g : Gm) (n : Int) (w : World) (hv0 : v0 = g.val) (hok : g.Ok w) (hn : (Lit.int .i64 n).wf = true) :
    Calls Try.prog 4 #[v0, .int .i64 n] w fun e w' => e = .returned (.bool true) ∧ Below w.heap.size w w' := by
  subst hv0
  simp [Lit.wf, IntKind.min, IntKind.max, IntKind.signed, IntKind.bits] at hn
  obtain ⟨hn0, hn1⟩ := hn
  have hD := fun w' (h : Fr [] w w') => draw_any g n w' (hok.fr h) hn0 hn1
  have HD := Lib.hid hD
  by_cases hE : drE g n = 0
  · obtain ⟨hc, v0, v1⟩ := drV_bd hE
    obtain ⟨d, hd⟩ := df_of hc
    have hn : 1 ≤ n := by
      by_cases h : 1 ≤ n
      · exact h
      · have := (dr_low hc (n := n) (by omega)).1; omega
    obtain ⟨m, rfl⟩ : ∃ m : Nat, n = (m : Int) + 1 := ⟨(n - 1).toNat, by omega⟩
    have hm : ¬ 1073741824 < drT d g.at_ m := fun h => by have := (dr_far hc hd h).1; omega
    have hV := (dr_ok hc hd hm).2
    have h10 : ∀ w b, GmAt w b g → w.cell? ⟨b, 10, none⟩ = some (.int .i64 (d : Int)) := fun w b h => by rw [← hd.days]; exact h.cell 10 _ rfl
    have h11 : ∀ w b, GmAt w b g → w.cell? ⟨b, 11, none⟩ = some (.int .i64 g.at_) := fun w b h => h.cell 11 _ rfl
    have H10 := Lib.hid h10
    have H11 := Lib.hid h11
    have hD' := HD.out
    rw [hE, hV] at hD'
    have HD := Lib.hid hD'
    cases m with
    | zero =>
      have hN := fun w => next_any d g.at_ (-1) w hd.hd hd.h0 hd.a0 hd.a1 (by omega) (by omega)
      have hnx := nx_first hd.hd hd.h0 hd.a0 hd.a1 0
      have hp := pc_pos hd.hd hd.h0
      have hT : drT d g.at_ 0 = 10080 * ((0 : Nat) : Int) + 1440 * (off d 0 : Nat) + g.at_ := by unfold drT; rw [Nat.zero_div, Nat.zero_mod]
      have e1 : (10080 * ((0 : Nat) : Int) - 1) = -1 := by omega
      rw [e1, ← hT] at hnx
      have hl : lim (drT d g.at_ 0) = some (drT d g.at_ 0) := by unfold lim; rw [if_neg hm]
      rw [hnx, hl] at hN
      simp only [oV, oE] at hN
      generalize drT d g.at_ 0 = T at *
      generalize g.at_ = a at *
      have eT : (T == T) = true := by simp
      have HN := Lib.hid hN
      clear hD hD' hN hnx hT e1 hl hm hV h10 h11 hE hc hd hok hp
      go_enter Try.func4, Try.ntmps4
      go_wp2_with (first | (refine box_game rfl (.tmp 0) rfl g rfl ?_; intro w1 hg1 hz1 hf1) | (refine load_game rfl (.tmp 2) rfl _ rfl g hg1 ?_))
      refine (HD.out _ hf1).mono ?_
      rintro e w2 ⟨rfl, f2⟩
      have hg2 := hg1.fr f2 (by simp)
      have hf2 := hf1.trans f2
      have c10 := H10.out _ _ hg2
      have c11 := H11.out _ _ hg2
      clear hg1 hf1 f2
      go_wp2_with fail
      refine (HN.out _).mono ?_
      rintro e w3 ⟨rfl, rfl⟩
      go_wp2_with fail
      refine (lives24_any _).mono ?_
      rintro e w4 ⟨rfl, f4⟩
      have HF := Lib.hid (hf2.trans f4)
      clear hf2 f4
      go_wp2_with fail
      go_ret
      exact ⟨rfl, HF.out.below⟩
    | succ m =>
      have hs := drT_succ (a := g.at_) hd.hd hd.h0 m
      have hm2 : ¬ 1073741824 < drT d g.at_ m := by omega
      have hk := dr_ok hc hd hm2
      have hD2 := fun w' (h : Fr [] w w') => draw_any g ((m : Int) + 1) w' (hok.fr h) (by omega) (by omega)
      rw [hk.1, hk.2] at hD2
      have hN := fun w => next_any d g.at_ (drT d g.at_ m) w hd.hd hd.h0 hd.a0 hd.a1 (by have := drT_nn (d := d) hd.a0 m; omega) (by omega)
      have hnx := nx_step hd.hd hd.h0 hd.a0 hd.a1 m
      have hl : lim (drT d g.at_ (m + 1)) = some (drT d g.at_ (m + 1)) := by unfold lim; rw [if_neg hm]
      rw [hnx, hl] at hN
      simp only [oV, oE] at hN
      generalize drT d g.at_ (m + 1) = T at *
      generalize drT d g.at_ m = T0 at *
      generalize g.at_ = a at *
      have eT : (T == T) = true := by simp
      have hd1 : decide ((1 : Int) < ((m + 1 : Nat) : Int) + 1) = true := by simp; omega
      obtain ⟨M, hM⟩ : ∃ M : Int, M = ((m + 1 : Nat) : Int) + 1 := ⟨_, rfl⟩
      have hM2 : (m : Int) + 1 = M - 1 := by omega
      have hMM : M ≤ 9223372036854775807 := by omega
      have hM0 : 1 < M := by omega
      rw [← hM] at HD hd1 ⊢
      rw [hM2] at hD2
      have HN := Lib.hid hN
      have HD2 := Lib.hid hD2
      clear hD hD' hN hD2 hnx hl hm hm2 hV h10 h11 hE hc hd hok hs hk hM hM2 hn0 hn1 hn
      go_enter Try.func4, Try.ntmps4
      go_wp2_with (first | (refine box_game rfl (.tmp 0) rfl g rfl ?_; intro w1 hg1 hz1 hf1) | (refine load_game rfl (.tmp 2) rfl _ rfl g hg1 ?_))
      refine (HD.out _ hf1).mono ?_
      rintro e w2 ⟨rfl, f2⟩
      have hg2 := hg1.fr f2 (by simp)
      have hf2 := hf1.trans f2
      clear hg1 hf1 f2
      go_wp2_with (refine load_game rfl (.tmp 2) rfl _ rfl g hg2 ?_)
      refine (HD2.out _ hf2).mono ?_
      rintro e w3 ⟨rfl, f3⟩
      have hg3 := hg2.fr f3 (by simp)
      have hf3 := hf2.trans f3
      have c10 := H10.out _ _ hg3
      have c11 := H11.out _ _ hg3
      clear hg2 hf2 f3
      go_wp2_with fail
      refine (HN.out _).mono ?_
      rintro e w4 ⟨rfl, rfl⟩
      go_wp2_with fail
      refine (lives24_any _).mono ?_
      rintro e w5 ⟨rfl, f5⟩
      have HF := Lib.hid (hf3.trans f5)
      clear hf3 f5
      go_wp2_with fail
      go_ret
      exact ⟨rfl, HF.out.below⟩
  · have e0 : (drE g n != 0) = true := by simpa using hE
    generalize drE g n = DE at *
    generalize drV g n = DV at *
    have HD := Lib.hid hD
    clear hD hE hok
    go_enter Try.func4, Try.ntmps4
    go_wp2_with (first | (refine box_game rfl (.tmp 0) rfl g rfl ?_; intro w1 hg1 hz1 hf1) | (refine load_game rfl (.tmp 2) rfl _ rfl g hg1 ?_))
    refine (HD.out _ hf1).mono ?_
    rintro e w2 ⟨rfl, f2⟩
    have hf2 := hf1.trans f2
    clear hg1 hf1 f2
    go_wp2_with fail
    refine (lives24_any _).mono ?_
    rintro e w3 ⟨rfl, f3⟩
    have HF := Lib.hid (hf2.trans f3)
    clear hf2 f3
    go_wp2_with fail
    go_ret
    exact ⟨rfl, HF.out.below⟩
theorem own : ownKnob Try.prog.godebug = none := by kernel_rfl
theorem laidOut : laidOutB Try.prog = true := by kernel_rfl
set_option maxRecDepth 100000 in
theorem lifted (os : Os) (started : os.Started) (H : Type) (enc : TypeId × Value → H) :
    ReturnsInHanded {} Try.checked os 4 .any (Rows.scheduleOrdersSpec.pre6 enc Try.prog Try.f4 Rows.scheduleOrdersRow.domain false) (Rows.scheduleOrdersSpec.post enc Try.prog Try.f4 false true false false) := by
  refine returnsInHanded_of_change (C := Try.checked) own started (by kernel_rfl) Try.func4
    (ChangeSpec.witness6 (enc := enc) (C := Try.checked) false ⟨#[], #[.agg #[.string ByteArray.empty, .int .i64 0, .int .i64 0, .int .i64 0, .int .i64 0, .int .i64 0, .int .i64 0, .int .i64 0, .int .i64 0, .int .i64 0, .int .i64 0, .int .i64 0, .int .i64 0, .int .i64 0, .int .i64 0, .int .i64 0, .int .i64 0, .int .i64 0, .int .i64 0, .int .i64 0, .slice none 0 0, .slice none 0 0], .int .i64 0], []⟩ 8 (by kernel_rfl) (by kernel_rfl) (by kernel_rfl) (by kernel_rfl)) ?_
  intro W base args ds gs before hval0 hW hcnd _
  have hval : ∀ (j : Nat) t v, Try.f4.params[j]? = some t → args[j]? = some v → Value.okWide Try.prog W .any base t v := hval0
  have hW' := hW
  obtain ⟨p, q, hA0, hV, rfl, hfz, hnd⟩ := hW
  have hA : DataW.TrodAll enc Try.prog W 0 (fun _ => true) true Try.f4.params.toList args.toList ds p := hA0
  rw [Try.params4] at hA hval
  obtain ⟨v0, vs0, d0, ds0, p0, q0, hargs, rfl, rfl, h0, r0⟩ := trodAll_cons hA
  obtain ⟨v1, vs1, d1, ds1, p1, q1, rfl, rfl, rfl, h1, r1⟩ := trodAll_cons r0
  obtain ⟨rfl, rfl, rfl⟩ := trodAll_nil r1
  obtain rfl : args = #[v0, v1] := by cases args; simp_all
  obtain ⟨rfl, rfl⟩ := trodVars_none hV
  have k0 := h0
  have lt0 : ∀ x ∈ p0, x.block < W.heap.size := by obtain ⟨m, hm⟩ := k0; exact DataW.trod_lt m _ _ _ hm
  obtain ⟨g0, hv0, hg0⟩ := open_game (hval 0 47 v0 rfl rfl) h0
  obtain ⟨a1, rfl, rfl, rfl, w1⟩ := open_int Try.underlying3 (hval 1 3 v1 rfl rfl) h1
  clear hA0 hval0
  refine (walk v0 g0 a1 W hv0 hg0 w1).mono fun e W' ⟨he, bel⟩ => ?_
  subst he
  exact ⟨_, rfl, _, _, _, [], _, [], hW', trodAll_mk1 (shut_bool Try.underlying4 _), (trodAll_cons_mk (Below.trod laidOut (by kernel_rfl) (of_decide_eq_true (by kernel_rfl)) k0 bel lt0) (trodAll_cons_mk (shut_int Try.underlying3 w1) trodAll_mk0)), rfl, bel.frame _, fun h => by cases h⟩
theorem over : Rows.scheduleOrdersRow.holds Try.pinned (OpenSpec.ofChange Rows.scheduleOrdersSpec) :=
  OpenClaim.holds_of_wide 4 Try.f4 rfl rfl rfl rfl rfl rfl rfl ⟨rfl, rfl, rfl, rfl, rfl⟩ rfl rfl rfl rfl rfl (by kernel_rfl) Try.func4 (by kernel_rfl)
    (of_decide_eq_true (by kernel_rfl)) (by unfold Func.isWrapper; first | (rw [if_pos (by decide +kernel)]; kernel_rfl) | (rw [if_neg (by decide +kernel)]; exact ⟨rfl, rfl⟩))
    (fun os started H enc _ => lifted os started H enc)
/-- THE STATEMENT -/
theorem proved : Rows.ScheduleOrdersSaid := over
end Go.Proofs.Ytijdlggoaianbaa.scheduleOrders
