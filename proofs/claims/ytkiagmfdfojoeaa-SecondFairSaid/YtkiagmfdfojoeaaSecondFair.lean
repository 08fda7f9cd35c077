/-
  SecondFair: for every list of entries, seed and number the statement returns true: the same places are drawn, whatever the entries are. No conditions.
-/
import Derived.Test.YtkiagmfdfojoeaaRDraw
import Derived.Test.YtkiagmfdfojoeaaIntArg
import Derived.BigQuiet
import Derived.ProofKit
import Derived.ShutString
import Derived.ChangeOld
namespace Go.Proofs.Ytkiagmfdfojoeaa.secondFair
open Go.ChangeShapes Go.WideShapes Go.ChangeAt Go.RowKit
open Go.ChangeMaps (open_string shut_string)
set_option linter.unusedVariables false
theorem fair (l : List Int) (s n : Int) (hN : l.length ≤ 300) : drE (rise l.length) s n = drE l s n ∧ (drL (rise l.length) s n).length = (drL l s n).length ∧
    ∀ i, i < (drL l s n).length → ∃ q : Nat, q < l.length ∧ (drL (rise l.length) s n).getD i 0 = q ∧ (drL l s n).getD i 0 = l.getD q 0 := by
  have h1 : ¬ 1024 < l.length := by omega
  have h2 : ¬ 1024 < (rise l.length).length := by rw [rise_len]; omega
  unfold drE drL
  rw [if_neg h1, if_neg h2, if_neg h1, if_neg h2, rise_len]
  have hfacts := samL_facts l.length (drK l.length n) s 0 (drK_le _ n) (by omega)
  have hbd : ∀ x ∈ samL l.length (drK l.length n) s 0, 1 ≤ x ∧ x ≤ l.length := by
    rcases hfacts with ⟨_, h⟩ | ⟨_, _, _, h, _⟩
    · rw [h]; simp
    · exact h
  generalize samL l.length (drK l.length n) s 0 = L at *
  refine ⟨rfl, by simp [pickL_len], fun i hi => ?_⟩
  rw [pickL_len] at hi
  have hb := hbd L[i] (List.getElem_mem hi)
  refine ⟨(L[i] - 1).toNat, by omega, ?_, ?_⟩
  · have : (pickL (rise l.length) L).getD i 0 = (rise l.length).getD (L[i] - 1).toNat 0 := by simp [pickL, List.getD, hi]
    rw [this, rise_getD _ _ (by omega)]
  · simp [pickL, List.getD, hi]
set_option maxHeartbeats 1000000 in
theorem walk (v : Value) (l : List Int) (s n : Int) (w : World) (hr : RdI w v l) (w0 : (Lit.int .u64 s).wf = true) (w1 : (Lit.int .i64 n).wf = true) :
    Calls Try.prog 12 #[v, .int .u64 s, .int .i64 n] w fun e w' => e = .returned (.bool true) ∧ Below w.heap.size w w' := by
  by_cases hm : 300 < l.length
  · obtain ⟨a, cap, rfl, hc1, hc2, hrd⟩ := hr
    have d1 : decide (300 < (l.length : Int)) = true := by simp; omega
    have d2 : decide (300 < l.length) = true := by simp; omega
    clear hrd
    go_enter Try.func12, Try.ntmps12
    go_wp2_with fail
    refine (lives43_any _).mono ?_
    rintro e w1 ⟨rfl, hb⟩
    go_wp2_with fail
    go_ret
    exact ⟨rfl, hb.below⟩
  · have hD := fun (w : World) (h : RdI w v l) => draw_any v l s n w h
    have hD' := fun (w : World) (v : Value) (h : RdI w v (rise l.length)) => draw_any v (rise l.length) s n w h
    obtain ⟨q1, q2, q3⟩ := fair l s n (by omega)
    rw [q1] at hD'
    generalize drE l s n = E at *
    generalize drL l s n = L at *
    generalize drL (rise l.length) s n = M at *
    have hr' := hr
    obtain ⟨a, cap, rfl, hc1, hc2, hrd⟩ := hr'
    obtain ⟨N, hN⟩ : ∃ N, N = l.length := ⟨_, rfl⟩
    rw [← hN] at hm hrd hD hD' q3 hr ⊢
    have HD := Lib.hid hD
    have HD' := Lib.hid hD'
    have HR := Lib.hid hr
    have H2 := Lib.hid q2
    have H3 := Lib.hid q3
    have HN := Lib.hid hN
    have d1 : decide (300 < (N : Int)) = false := by simp; omega
    have d2 : decide (300 < N) = false := by simp; omega
    clear hN hc1 hc2 hD hD' q1 q2 q3 hr
    go_enter Try.func12, Try.ntmps12
    go_wp2_with fail
    refine (HD.out _ HR.out).mono ?_
    rintro e w1 ⟨v1, rfl, o1, f1⟩
    go_wp2_with fail
    refine (rising_any N _ (by omega)).mono ?_
    rintro e w2 ⟨v2, rfl, o2, f2⟩
    have o1' := o1.fr f2 (by simp)
    have r2 := o2.rd
    clear o1 o2
    go_wp2_with fail
    refine (HD'.out _ _ r2).mono ?_
    rintro e w3 ⟨v3, rfl, o3, f3⟩
    have o1 := (o1'.fr f3 (by simp)).rd
    have o3' := o3.rd
    have hF := (f1.trans f2).trans f3
    have n1 : (E != E) = false := by simp
    clear o1' o3 f1 f2 f3 r2 HD HD' HR
    obtain ⟨a1, cap1, rfl, hc1, hc2, rd1⟩ := o1
    obtain ⟨a3, cap3, rfl, hc3, hc4, rd3⟩ := o3'
    rw [H2.out] at rd3 ⊢
    have hle : L.length ≤ 9223372036854775807 := Nat.le_trans hc1 hc2
    clear hc1 hc2 hc3 hc4
    obtain ⟨m, hM⟩ : ∃ m, m = L.length := ⟨_, rfl⟩
    rw [← hM] at rd1 rd3 hle ⊢
    have HM := Lib.hid hM
    have n2 : ((m : Int) != m) = false := by simp
    clear hM H2
    go_wp2_with fail
    go_loopw [11] (fun i wr => ∃ k : Nat, k ≤ m ∧ i = .int .i64 k ∧ Fr [] w3 wr) (fun i _ => m - (intOf i).toNat)
    case atStart => exact ⟨0, by omega, rfl, Fr.refl _ _⟩
    case round =>
      obtain ⟨k, hk, rfl, hf⟩ := hrel
      by_cases hlt : k < m
      · obtain ⟨q, hq, e1, e2⟩ := H3.out k (by have := HM.out; omega)
        obtain ⟨g1, p1, rfl, c1⟩ := rd1 k hlt
        obtain ⟨g3, p3, rfl, c3⟩ := rd3 k hlt
        obtain ⟨g, p, rfl, c⟩ := hrd q hq
        rw [e1] at c3
        rw [e2] at c1
        have c1' := hf.cell_some c1 (by simp)
        have c3' := hf.cell_some c3 (by simp)
        have c' := hf.cell_some (hF.cell_some c (by simp)) (by simp)
        generalize l.getD q 0 = y at *
        have n3 : (y != y) = false := by simp
        have hqN : q < N := hq
        have n4 : decide ((q : Int) < 0) = false := by simp
        have n5 : decide ((N : Int) ≤ (q : Int)) = false := by simp; omega
        have n6 : decide (N ≤ q) = false := by simp; omega
        have i1 : (k : Int) < (m : Int) := by omega
        have i2 : (0 : Int) ≤ (k : Int) := by omega
        have i3 : (q : Int) < (N : Int) := by omega
        have i4 : (0 : Int) ≤ (q : Int) := by omega
        clear c1 c3 c e1 e2
        go_wp2_with fail
        go_quiet (fail)
        go_wp2
        exact ⟨⟨k + 1, by omega, by go_num, hf.drewN _⟩, by simp [intOf]; omega⟩
      · obtain rfl : k = m := by omega
        go_wp2_with fail
        refine (lives43_any _).mono ?_
        rintro e w4 ⟨rfl, f4⟩
        go_wp2_with fail
        go_ret
        exact ⟨rfl, ((hF.trans hf).trans f4).below⟩
theorem own : ownKnob Try.prog.godebug = none := by kernel_rfl
theorem laidOut : laidOutB Try.prog = true := by kernel_rfl
set_option maxRecDepth 100000 in
theorem lifted (os : Os) (started : os.Started) (H : Type) (enc : TypeId × Value → H) :
    ReturnsInHanded {} Try.checked os 12 .any (Rows.secondFairSpec.pre6 enc Try.prog Try.f12 Rows.secondFairRow.domain false) (Rows.secondFairSpec.post enc Try.prog Try.f12 false true false false) := by
  refine returnsInHanded_of_change (C := Try.checked) own started (by kernel_rfl) Try.func12
    (ChangeSpec.witness6 (enc := enc) (C := Try.checked) false ⟨#[], #[.slice none 0 0, .int .u64 0, .int .i64 0], []⟩ 8 (by kernel_rfl) (by kernel_rfl) (by kernel_rfl) (by kernel_rfl)) ?_
  intro W base args ds gs before hval0 hW hcnd _
  have hval : ∀ (j : Nat) t v, Try.f12.params[j]? = some t → args[j]? = some v → Value.okWide Try.prog W .any base t v := hval0
  have hW' := hW
  obtain ⟨p, q, hA0, hV, rfl, hfz, hnd⟩ := hW
  have hA : DataW.TrodAll enc Try.prog W 0 (fun _ => true) true Try.f12.params.toList args.toList ds p := hA0
  rw [Try.params12] at hA hval
  obtain ⟨v0, vs0, d0, ds0, p0, q0, hargs, rfl, rfl, h0, r0⟩ := trodAll_cons hA
  obtain ⟨v1, vs1, d1, ds1, p1, q1, rfl, rfl, rfl, h1, r1⟩ := trodAll_cons r0
  obtain ⟨v2, vs2, d2, ds2, p2, q2, rfl, rfl, rfl, h2, r2⟩ := trodAll_cons r1
  obtain ⟨rfl, rfl, rfl⟩ := trodAll_nil r2
  obtain rfl : args = #[v0, v1, v2] := by cases args; simp_all
  obtain ⟨rfl, rfl⟩ := trodVars_none hV
  have k0 := h0
  have lt0 : ∀ x ∈ p0, x.block < W.heap.size := by obtain ⟨m, hm⟩ := k0; exact DataW.trod_lt m _ _ _ hm
  obtain ⟨l0, hr0, _⟩ := open_intarg (hval 0 26 v0 rfl rfl) h0
  obtain ⟨a1, rfl, rfl, rfl, w1⟩ := open_int Try.underlying37 (hval 1 37 v1 rfl rfl) h1
  obtain ⟨a2, rfl, rfl, rfl, w2⟩ := open_int Try.underlying3 (hval 2 3 v2 rfl rfl) h2
  clear hA0 hval0
  refine (walk v0 l0 a1 a2 W hr0 w1 w2).mono fun e W' ⟨he, bel⟩ => ?_
  subst he
  exact ⟨_, rfl, _, _, _, [], _, [], hW', trodAll_mk1 (shut_bool Try.underlying4 _), (trodAll_cons_mk (Below.trod laidOut (by kernel_rfl) (of_decide_eq_true (by kernel_rfl)) k0 bel lt0) (trodAll_cons_mk (shut_int Try.underlying37 w1) (trodAll_cons_mk (shut_int Try.underlying3 w2) trodAll_mk0))), rfl, bel.frame _, fun h => by cases h⟩
theorem over : Rows.secondFairRow.holds Try.pinned (OpenSpec.ofChange Rows.secondFairSpec) :=
  OpenClaim.holds_of_wide 12 Try.f12 rfl rfl rfl rfl rfl rfl rfl ⟨rfl, rfl, rfl, rfl, rfl⟩ rfl rfl rfl rfl rfl (by kernel_rfl) Try.func12 (by kernel_rfl)
    (of_decide_eq_true (by kernel_rfl)) (by unfold Func.isWrapper; first | (rw [if_pos (by decide +kernel)]; kernel_rfl) | (rw [if_neg (by decide +kernel)]; exact ⟨rfl, rfl⟩))
    (fun os started H enc _ => lifted os started H enc)
/-- THE STATEMENT -/
theorem proved : Rows.SecondFairSaid := over
end Go.Proofs.Ytkiagmfdfojoeaa.secondFair
