/-
  StreamRepeats: for every seed and list of calls the statement returns true: the same seed and calls give the same results. No conditions.
-/
import Derived.Test.YtkiagmfdfojoeaaLives
import Derived.Test.YtkiagmfdfojoeaaRes
import Derived.Test.YtkiagmfdfojoeaaSame
import Derived.Test.YtkiagmfdfojoeaaOp
import Derived.BigQuiet
import Derived.ProofKit
import Derived.ShutString
import Derived.ChangeOld
namespace Go.Proofs.Ytkiagmfdfojoeaa.streamRepeats
open Go.ChangeShapes Go.WideShapes Go.ChangeAt Go.RowKit
open Go.ChangeMaps (open_string shut_string)
set_option linter.unusedVariables false
set_option maxRecDepth 20000 in
set_option maxHeartbeats 1000000 in
theorem walk (s : Int) (v : Value) (l : List (Int × Int × Int)) (w : World) (w0 : (Lit.int .u64 s).wf = true) (hr : RdF 3 opF w v l) :
    Calls Try.prog 9 #[.int .u64 s, v] w fun e w' => e = .returned (.bool true) ∧ Below w.heap.size w w' := by
  obtain ⟨a, cap, rfl, hc1, hc2, hrd⟩ := hr
  by_cases hlen : 20 < l.length
  · have d1 : decide (20 < (l.length : Int)) = true := by simp; omega
    have d2 : decide (20 < l.length) = true := by simpa using hlen
    go_enter Try.func9, Try.ntmps9
    go_wp2_with fail
    refine (lives_any _).mono ?_
    rintro e w1 ⟨rfl, hb⟩
    go_wp2_with fail
    go_ret
    exact ⟨rfl, hb⟩
  · have d1 : decide (20 < (l.length : Int)) = false := by simp; omega
    have d2 : decide (20 < l.length) = false := by simpa using hlen
    obtain ⟨n, hN⟩ : ∃ n, n = l.length := ⟨_, rfl⟩
    rw [← hN] at d1 d2 hlen ⊢
    have HN := Lib.hid hN
    clear hN hc1 hc2
    go_enter Try.func9, Try.ntmps9
    go_wp2_with fail
    refine (new_any _ _).mono ?_
    rintro e w1 ⟨rfl, hs1, hz1, hb1⟩
    go_wp2_with fail
    refine (new_any _ _).mono ?_
    rintro e w2 ⟨rfl, hs2, hz2, hb2⟩
    have hs1' : StrAt w2 w.heap.size s 0 := hs1.fr (Fr.of_below hb2) (by simp)
    have hf2 : Fr [] w w2 := (Fr.of_below hb1).trans (Fr.of_below hb2)
    rw [hz1] at hs2 ⊢
    have hsz : w.heap.size + 2 ≤ w2.heap.size := by omega
    clear hz1 hz2 hb1 hb2 hs1
    go_wp2_with fail
    go_loopw [7, 8, 9, 10, 11, 12, 13, 14, 15, 16, 17] (fun i _ _ _ _ _ _ _ _ _ _ wr => ∃ (k : Nat) (sk uk : Int), k ≤ n ∧ i = .int .i64 k ∧ StrAt wr w.heap.size sk uk ∧ StrAt wr (w.heap.size + 1) sk uk ∧ Fr [] w wr ∧ 0 ≤ uk ∧ uk ≤ 300000 * k) (fun i _ _ _ _ _ _ _ _ _ _ _ => n - (intOf i).toNat)
    case atStart => exact ⟨0, s, 0, by omega, rfl, hs1', hs2, hf2, by omega, by omega⟩
    case round =>
      obtain ⟨k, sk, uk, hk, rfl, hA, hB, hf, hu0, hu1⟩ := hrel
      by_cases hlt : k < n
      · obtain ⟨x, hx⟩ : ∃ x, l[k]? = some x := ⟨_, List.getElem?_eq_getElem (by have := HN.out; omega)⟩
        obtain ⟨g, o, rfl, hcell⟩ := hrd k x hx
        obtain ⟨x0, x1, x2⟩ := x
        have e1 := hcell 1 (.int .i64 x1) (by simp [opF])
        have e2 := hcell 2 (.int .i64 x2) (by simp [opF])
        rw [← Nat.add_assoc] at e1 e2
        have f1 := hf.cell_some e1 (by simp)
        have f2 := hf.cell_some e2 (by simp)
        have hg : g < w.heap.size := lt_of_cell e1
        clear hx hcell e1 e2
        go_wp2_with fail
        all_goals
          refine (sample_g _ sk uk _ _ _ hA hu0 (by omega)).mono ?_
          rintro e w3 ⟨v3, E3, L3, S3, U3, r3, rfl, o3, sA3, fr3⟩
          have sB3 := hB.fr fr3 (by simp)
          have f13 := fr3.cell_some f1 (by simp; omega)
          have f23 := fr3.cell_some f2 (by simp; omega)
          have F3 : Fr [] w w3 := hf.trans' fr3 (by simp)
          go_wp2_with fail
          refine (sample_g _ sk uk _ _ _ sB3 hu0 (by omega)).mono ?_
          rintro e w4 ⟨v4, E4, L4, S4, U4, r4, rfl, o4, sB4, fr4⟩
          obtain ⟨rfl, rfl, rfl, rfl⟩ := r3.eq r4
          have hbd := r3.bd
          have sA4 := sA3.fr fr4 (by simp)
          have F4 : Fr [] w w4 := F3.trans' fr4 (by simp)
          have hb3 := o3.block
          have hlt2 := hB.lt
          replace o4 := o4.mono fr3.size
          have O3 := o3.fr fr4 (by intro q hq; have := hb3 q hq; simp; omega)
          have n1 : (E4 != E4) = false := by simp
          clear f13 f23 sB3 sA3 fr3 fr4 o3 hb3 r3 r4 f1 f2 F3 hrd hA hB hf
          go_wp2_with fail
          refine (below_g _ _ _ _ _ sA4 (by omega) (by omega)).mono ?_
          rintro e w5 ⟨V5, E5, S5, U5, r5, rfl, sA5, fr5⟩
          have sB5 := sB4.fr fr5 (by simp)
          have F5 : Fr [] w w5 := F4.trans' fr5 (by simp)
          have O5 := O3.fr fr5 (by intro q hq; have := O3.block q hq; simp; omega)
          have P5 := o4.fr fr5 (by intro q hq; have := o4.block q hq; simp; omega)
          clear fr5 O3 o4 sA4 sB4 F4
          go_wp2_with fail
          refine (below_g _ _ _ _ _ sB5 (by omega) (by omega)).mono ?_
          rintro e w6 ⟨V6, E6, S6, U6, r6, rfl, sB6, fr6⟩
          obtain ⟨rfl, rfl, rfl, rfl⟩ := r5.eq r6
          have hbd2 := r5.bd
          have sA6 := sA5.fr fr6 (by simp)
          have F6 : Fr [] w w6 := F5.trans' fr6 (by simp)
          have O6 := O5.fr fr6 (by intro q hq; have := O5.block q hq; simp; omega)
          have P6 := P5.fr fr6 (by intro q hq; have := P5.block q hq; simp; omega)
          have n2 : (E6 != E6) = false := by simp
          have n3 : (V6 != V6) = false := by simp
          clear fr6 O5 P5 sA5 sB5 F5 r5 r6
          go_wp2_with fail
          refine (next_any _ _ _ _ sA6 (by omega) (by omega)).mono ?_
          rintro e w7 ⟨rfl, sA7, on7⟩
          have sB7 := sB6.fr on7.fr (by simp)
          have F7 : Fr [] w w7 := F6.trans' on7.fr (by simp)
          have R7 := (O6.fr on7.fr (by intro q hq; have := O6.block q hq; simp; omega)).rd
          have T7 := (P6.fr on7.fr (by intro q hq; have := P6.block q hq; simp; omega)).rd
          clear on7 O6 P6 sA6 sB6 F6
          go_wp2_with fail
          refine (same_any _ _ _ _ R7 T7).mono ?_
          rintro e w8 ⟨rfl, fr8⟩
          have sA8 := sA7.fr fr8 (by simp)
          have sB8 := sB7.fr fr8 (by simp)
          have F8 := F7.trans fr8
          clear fr8 R7 T7 sA7 sB7 F7
          go_wp2_with fail
          refine (next_any _ _ _ _ sB8 (by omega) (by omega)).mono ?_
          rintro e w9 ⟨rfl, sB9, on9⟩
          have sA9 := sA8.fr on9.fr (by simp)
          have F9 : Fr [] w w9 := F8.trans' on9.fr (by simp)
          have n4 : (mixZ (nx S6) != mixZ (nx S6)) = false := by simp
          obtain ⟨U7, hU7⟩ : ∃ U7, U7 = U6 + 1 := ⟨_, rfl⟩
          rw [← hU7] at sA9 sB9
          have n5 : (U7 != U7) = false := by simp
          have HU := Lib.hid hU7
          clear hU7
          clear on9 sA8 sB8 F8
          go_wp2_with fail
          refine (used_any _ _ _ _ sA9).mono ?_
          rintro e w10 ⟨rfl, rfl⟩
          go_wp2_with fail
          refine (used_any _ _ _ _ sB9).mono ?_
          rintro e w10 ⟨rfl, rfl⟩
          go_wp2_with fail
          have hU := HU.out
          exact ⟨⟨k + 1, _, _, by omega, by go_num, sA9, sB9, F9, by omega, by omega⟩, by simp [intOf]; omega⟩
      · obtain rfl : k = n := by omega
        go_wp2_with fail
        refine (lives_any _).mono ?_
        rintro e w3 ⟨rfl, hb⟩
        go_wp2_with fail
        go_ret
        exact ⟨rfl, (hf.trans (Fr.of_below hb)).below⟩
theorem own : ownKnob Try.prog.godebug = none := by kernel_rfl
theorem laidOut : laidOutB Try.prog = true := by kernel_rfl
set_option maxRecDepth 100000 in
theorem lifted (os : Os) (started : os.Started) (H : Type) (enc : TypeId × Value → H) :
    ReturnsInHanded {} Try.checked os 9 .any (Rows.streamRepeatsSpec.pre6 enc Try.prog Try.f9 Rows.streamRepeatsRow.domain false) (Rows.streamRepeatsSpec.post enc Try.prog Try.f9 false true false false) := by
  refine returnsInHanded_of_change (C := Try.checked) own started (by kernel_rfl) Try.func9
    (ChangeSpec.witness6 (enc := enc) (C := Try.checked) false ⟨#[], #[.int .u64 0, .slice none 0 0], []⟩ 8 (by kernel_rfl) (by kernel_rfl) (by kernel_rfl) (by kernel_rfl)) ?_
  intro W base args ds gs before hval0 hW hcnd _
  have hval : ∀ (j : Nat) t v, Try.f9.params[j]? = some t → args[j]? = some v → Value.okWide Try.prog W .any base t v := hval0
  have hW' := hW
  obtain ⟨p, q, hA0, hV, rfl, hfz, hnd⟩ := hW
  have hA : DataW.TrodAll enc Try.prog W 0 (fun _ => true) true Try.f9.params.toList args.toList ds p := hA0
  rw [Try.params9] at hA hval
  obtain ⟨v0, vs0, d0, ds0, p0, q0, hargs, rfl, rfl, h0, r0⟩ := trodAll_cons hA
  obtain ⟨v1, vs1, d1, ds1, p1, q1, rfl, rfl, rfl, h1, r1⟩ := trodAll_cons r0
  obtain ⟨rfl, rfl, rfl⟩ := trodAll_nil r1
  obtain rfl : args = #[v0, v1] := by cases args; simp_all
  obtain ⟨rfl, rfl⟩ := trodVars_none hV
  obtain ⟨a0, rfl, rfl, rfl, w0⟩ := open_int Try.underlying37 (hval 0 37 v0 rfl rfl) h0
  have k1 := h1
  have lt1 : ∀ x ∈ p1, x.block < W.heap.size := by obtain ⟨m, hm⟩ := k1; exact DataW.trod_lt m _ _ _ hm
  obtain ⟨l1, hr1⟩ := open_ops (hval 1 53 v1 rfl rfl) h1
  clear hA0 hval0
  refine (walk a0 v1 l1 W w0 hr1).mono fun e W' ⟨he, bel⟩ => ?_
  subst he
  exact ⟨_, rfl, _, _, _, [], _, [], hW', trodAll_mk1 (shut_bool Try.underlying4 _), (trodAll_cons_mk (shut_int Try.underlying37 w0) (trodAll_cons_mk (Below.trod laidOut (by kernel_rfl) (of_decide_eq_true (by kernel_rfl)) k1 bel lt1) trodAll_mk0)), rfl, bel.frame _, fun h => by cases h⟩
theorem over : Rows.streamRepeatsRow.holds Try.pinned (OpenSpec.ofChange Rows.streamRepeatsSpec) :=
  OpenClaim.holds_of_wide 9 Try.f9 rfl rfl rfl rfl rfl rfl rfl ⟨rfl, rfl, rfl, rfl, rfl⟩ rfl rfl rfl rfl rfl (by kernel_rfl) Try.func9 (by kernel_rfl)
    (of_decide_eq_true (by kernel_rfl)) (by unfold Func.isWrapper; first | (rw [if_pos (by decide +kernel)]; kernel_rfl) | (rw [if_neg (by decide +kernel)]; exact ⟨rfl, rfl⟩))
    (fun os started H enc _ => lifted os started H enc)
/-- THE STATEMENT -/
theorem proved : Rows.StreamRepeatsSaid := over
end Go.Proofs.Ytkiagmfdfojoeaa.streamRepeats
