/-
  StreamPlays: for every seed and list of calls the statement returns true: a stream does what the document says, call by call. No conditions.
-/
import Derived.Test.YtkiagmfdfojoeaaLives
import Derived.Test.YtkiagmfdfojoeaaRef
import Derived.Test.YtkiagmfdfojoeaaSame
import Derived.Test.YtkiagmfdfojoeaaOp
import Derived.ProofKit
import Derived.ShutString
import Derived.ChangeOld
namespace Go.Proofs.Ytkiagmfdfojoeaa.streamPlays
open Go.ChangeShapes Go.WideShapes Go.ChangeAt Go.RowKit
open Go.ChangeMaps (open_string shut_string)
set_option linter.unusedVariables false
def OpPost (b1 b2 : Nat) (u : Int) (w : World) (e : Ending) (w' : World) : Prop :=
  e = .returned (.bool true) ∧ ∃ S U, StrAt w' b1 S U ∧ StrAt w' b2 S U ∧ Fr [b1, b2] w w' ∧ u ≤ U ∧ U ≤ u + 262144
set_option maxRecDepth 20000 in
set_option maxHeartbeats 2000000 in
theorem op_any (b1 b2 : Nat) (s u x0 x1 x2 : Int) (w : World) (h1 : StrAt w b1 s u) (h2 : StrAt w b2 s u) (hne : b1 ≠ b2) (hu0 : 0 ≤ u) (hu1 : u ≤ 999999000000) :
    Calls Try.prog 36 #[.pointer (some ⟨b1, 0, none⟩), .pointer (some ⟨b2, 0, none⟩), .agg #[.int .i64 x0, .int .i64 x1, .int .i64 x2]] w (OpPost b1 b2 u w) := by
  have l1 := h1.lt
  have l2 := h2.lt
  have hw1 : ∀ o, Fr [] w (w.alloc o) := fun o => (Fr.refl [] w).alloc o
  by_cases e0 : x0 = 0
  · subst e0
    go_enter Try.func36, Try.ntmps36
    go_wp2_with fail
    refine (next_any _ s u _ (h1.fr (hw1 _) (by simp)) hu0 (by omega)).mono ?_
    rintro e w3 ⟨rfl, hs3, on3⟩
    have hs4 := (h2.fr (hw1 _) (by simp)).fr on3.fr (by simp; omega)
    go_wp2_with fail
    refine (rnext_any _ s u _ hs4 hu0 (by omega)).mono ?_
    rintro e w5 ⟨rfl, hs5, on5⟩
    have hs6 := hs3.fr on5.fr (by simp; omega)
    have n1 : (mixZ (nx s) == mixZ (nx s)) = true := by simp
    go_wp2_with fail
    go_ret
    exact ⟨rfl, _, _, hs6, hs5, (((hw1 _).mono (by simp)).trans' on3.fr (by simp)).trans' on5.fr (by simp), by omega, by omega⟩
  · have d0 : (x0 == 0) = false := by simpa using e0
    have E0 := Lib.hid e0
    clear e0
    by_cases e1 : x0 = 1
    · subst e1
      go_enter Try.func36, Try.ntmps36
      go_wp2_with fail
      refine (below_g _ s u _ _ (h1.fr (hw1 _) (by simp)) hu0 (by omega)).mono ?_
      rintro e w3 ⟨V, E, S, U, r3, rfl, hs3, fr3⟩
      have c1 : w3.cell? ⟨w.heap.size, 1, none⟩ = some (.int .i64 x1) := fr3.cell_some (by simp) (by simp; omega)
      have hs4 := (h2.fr (hw1 _) (by simp)).fr fr3 (by simp; omega)
      go_wp2_with fail
      refine (rbelow_g _ s u _ _ hs4 hu0 (by omega)).mono ?_
      rintro e w5 ⟨V', E', S', U', r5, rfl, hs5, fr5⟩
      obtain ⟨rfl, rfl, rfl, rfl⟩ := r3.eq r5
      have hbd := r3.bd
      have hs6 := hs3.fr fr5 (by simp; omega)
      have n1 : (V' == V') = true := by simp
      have n2 : (E' == E') = true := by simp
      go_wp2_with fail
      go_ret
      exact ⟨rfl, _, _, hs6, hs5, (((hw1 _).mono (by simp)).trans' fr3 (by simp)).trans' fr5 (by simp), by omega, by omega⟩
    · have d1 : (x0 == 1) = false := by simpa using e1
      have E1 := Lib.hid e1
      clear e1
      have hself : ∀ o, OpPost b1 b2 u w (.returned (.bool true)) (w.alloc o) := fun o => ⟨rfl, s, u, h1.fr (hw1 _) (by simp), h2.fr (hw1 _) (by simp), (hw1 _).mono (by simp), by omega, by omega⟩
      have HSF := Lib.hid hself
      clear hself
      by_cases hm : 300 < x1 ∧ x1 ≤ 4096
      · have d2 : decide (300 < x1) = true := by simpa using hm.1
        have d3 : decide (x1 ≤ 4096) = true := by simpa using hm.2
        go_enter Try.func36, Try.ntmps36
        go_wp2_with fail
        go_ret
        exact HSF.out _
      · have hc : decide (300 < x1) = false ∨ (decide (300 < x1) = true ∧ decide (x1 ≤ 4096) = false) := by
          simp only [decide_eq_true_eq, decide_eq_false_iff_not]; omega
        clear hm
        by_cases e2 : x0 = 2
        · subst e2
          rcases hc with d2 | ⟨d2, d3⟩ <;>
          · go_enter Try.func36, Try.ntmps36
            go_wp2_with fail
            refine (shuffle_g _ s u _ _ (h1.fr (hw1 _) (by simp)) hu0 (by omega)).mono ?_
            rintro e w3 ⟨v3, E, L, S, U, r3, rfl, o3, hs3, fr3⟩
            have c1 : w3.cell? ⟨w.heap.size, 1, none⟩ = some (.int .i64 x1) := fr3.cell_some (by simp) (by simp; omega)
            have hs4 := (h2.fr (hw1 _) (by simp)).fr fr3 (by simp; omega)
            go_wp2_with fail
            refine (rshuffle_g _ s u _ _ hs4 hu0 (by omega)).mono ?_
            rintro e w5 ⟨v5, E', L', S', U', r5, rfl, o5, hs5, fr5⟩
            obtain ⟨rfl, rfl, rfl, rfl⟩ := r3.eq r5
            have hbd := r3.bd
            have hs6 := hs3.fr fr5 (by simp; omega)
            have n2 : (E' == E') = true := by simp
            have R3 := (o3.rdb.fr fr5 (by simp; omega)).rd
            have R5 := o5.rd
            have F5 : Fr [b1, b2] w w5 := (((hw1 _).mono (by simp)).trans' fr3 (by simp)).trans' fr5 (by simp)
            clear o3 o5 r3 r5 fr3 fr5 c1 hs3 hs4
            go_wp2_with fail
            refine (same_any _ _ _ _ R3 R5).mono ?_
            rintro e w7 ⟨rfl, fr7⟩
            go_wp2_with fail
            go_ret
            exact ⟨rfl, _, _, hs6.fr fr7 (by simp), hs5.fr fr7 (by simp), F5.trans' fr7 (by simp), by omega, by omega⟩
        · have d4 : (x0 == 2) = false := by simpa using e2
          have E2 := Lib.hid e2
          clear e2
          by_cases e3 : x0 = 3
          · subst e3
            rcases hc with d2 | ⟨d2, d3⟩ <;>
            · go_enter Try.func36, Try.ntmps36
              go_wp2_with fail
              refine (sample_g _ s u _ _ _ (h1.fr (hw1 _) (by simp)) hu0 (by omega)).mono ?_
              rintro e w3 ⟨v3, E, L, S, U, r3, rfl, o3, hs3, fr3⟩
              have c1 : w3.cell? ⟨w.heap.size, 1, none⟩ = some (.int .i64 x1) := fr3.cell_some (by simp) (by simp; omega)
              have c2 : w3.cell? ⟨w.heap.size, 2, none⟩ = some (.int .i64 x2) := fr3.cell_some (by simp) (by simp; omega)
              have hs4 := (h2.fr (hw1 _) (by simp)).fr fr3 (by simp; omega)
              go_wp2_with fail
              refine (rsample_g _ s u _ _ _ hs4 hu0 (by omega)).mono ?_
              rintro e w5 ⟨v5, E', L', S', U', r5, rfl, o5, hs5, fr5⟩
              obtain ⟨rfl, rfl, rfl, rfl⟩ := r3.eq r5
              have hbd := r3.bd
              have hs6 := hs3.fr fr5 (by simp; omega)
              have n2 : (E' == E') = true := by simp
              have R3 := (o3.rdb.fr fr5 (by simp; omega)).rd
              have R5 := o5.rd
              have F5 : Fr [b1, b2] w w5 := (((hw1 _).mono (by simp)).trans' fr3 (by simp)).trans' fr5 (by simp)
              clear o3 o5 r3 r5 fr3 fr5 c1 c2 hs3 hs4
              go_wp2_with fail
              refine (same_any _ _ _ _ R3 R5).mono ?_
              rintro e w7 ⟨rfl, fr7⟩
              go_wp2_with fail
              go_ret
              exact ⟨rfl, _, _, hs6.fr fr7 (by simp), hs5.fr fr7 (by simp), F5.trans' fr7 (by simp), by omega, by omega⟩
          · have d5 : (x0 == 3) = false := by simpa using e3
            clear e3
            rcases hc with d2 | ⟨d2, d3⟩ <;>
            · go_enter Try.func36, Try.ntmps36
              go_wp2_with fail
              go_ret
              exact HSF.out _
set_option maxRecDepth 20000 in
set_option maxHeartbeats 1000000 in
theorem walk (s : Int) (v : Value) (l : List (Int × Int × Int)) (w : World) (w0 : (Lit.int .u64 s).wf = true) (hr : RdF 3 opF w v l) :
    Calls Try.prog 13 #[.int .u64 s, v] w fun e w' => e = .returned (.bool true) ∧ Below w.heap.size w w' := by
  obtain ⟨a, cap, rfl, hc1, hc2, hrd⟩ := hr
  by_cases hlen : 20 < l.length
  · have d1 : decide (20 < (l.length : Int)) = true := by simp; omega
    have d2 : decide (20 < l.length) = true := by simpa using hlen
    go_enter Try.func13, Try.ntmps13
    go_wp2_with fail
    refine (lives_any _).mono ?_
    rintro e w1 ⟨rfl, hb⟩
    go_wp2_with fail
    go_ret
    exact ⟨rfl, hb⟩
  · have d1 : decide (20 < (l.length : Int)) = false := by simp; omega
    have d2 : decide (20 < l.length) = false := by simpa using hlen
    obtain ⟨n, hN⟩ : ∃ n, n = l.length := ⟨_, rfl⟩
    rw [← hN] at d1 d2 hlen ⊢
    have HN := Lib.hid hN
    clear hN hc1 hc2
    go_enter Try.func13, Try.ntmps13
    go_wp2_with fail
    refine (new_any _ _).mono ?_
    rintro e w1 ⟨rfl, hs1, hz1, hb1⟩
    go_wp2_with fail
    refine (rnew_any _ _).mono ?_
    rintro e w2 ⟨rfl, hs2, hz2, hb2⟩
    have hs1' : StrAt w2 w.heap.size s 0 := hs1.fr (Fr.of_below hb2) (by simp)
    have hf2 : Fr [] w w2 := (Fr.of_below hb1).trans (Fr.of_below hb2)
    rw [hz1] at hs2 ⊢
    clear hz1 hz2 hb1 hb2 hs1
    go_wp2_with fail
    go_loopw [7] (fun i wr => ∃ (k : Nat) (sk uk : Int), k ≤ n ∧ i = .int .i64 k ∧ StrAt wr w.heap.size sk uk ∧ StrAt wr (w.heap.size + 1) sk uk ∧ Fr [] w wr ∧ 0 ≤ uk ∧ uk ≤ 300000 * k) (fun i _ => n - (intOf i).toNat)
    case atStart => exact ⟨0, s, 0, by omega, rfl, hs1', hs2, hf2, by omega, by omega⟩
    case round =>
      obtain ⟨k, sk, uk, hk, rfl, hA, hB, hf, hu0, hu1⟩ := hrel
      by_cases hlt : k < n
      · obtain ⟨x, hx⟩ : ∃ x, l[k]? = some x := ⟨_, List.getElem?_eq_getElem (by have := HN.out; omega)⟩
        obtain ⟨g, o, rfl, hcell⟩ := hrd k x hx
        obtain ⟨x0, x1, x2⟩ := x
        have f0 := hf.cell_some (hcell 0 (.int .i64 x0) (by simp [opF])) (by simp)
        have f1 := hf.cell_some (hcell 1 (.int .i64 x1) (by simp [opF])) (by simp)
        have f2 := hf.cell_some (hcell 2 (.int .i64 x2) (by simp [opF])) (by simp)
        rw [Nat.add_zero] at f0
        rw [← Nat.add_assoc] at f1 f2
        clear hx hcell
        go_wp2_with fail
        refine (op_any _ _ sk uk x0 x1 x2 _ hA hB (by omega) hu0 (by omega)).mono ?_
        rintro e w3 ⟨rfl, S, U, sA, sB, f3, hb1, hb2⟩
        have F3 : Fr [] w w3 := hf.trans' f3 (by simp)
        have n1 : (U != U) = false := by simp
        clear f0 f1 f2 f3 hA hB hf
        go_wp2_with fail
        refine (used_any _ _ _ _ sA).mono ?_
        rintro e w10 ⟨rfl, rfl⟩
        go_wp2_with fail
        refine (rused_any _ _ _ _ sB).mono ?_
        rintro e w10 ⟨rfl, rfl⟩
        go_wp2_with fail
        exact ⟨⟨k + 1, _, _, by omega, by go_num, sA, sB, F3, by omega, by omega⟩, by simp [intOf]; omega⟩
      · obtain rfl : k = n := by omega
        go_wp2_with fail
        refine (lives_any _).mono ?_
        rintro e w3 ⟨rfl, hb⟩
        go_wp2_with fail
        go_ret
        exact ⟨rfl, (hf.trans (Fr.of_below hb)).below⟩
theorem own : ownKnob Try.prog.godebug = none := by kernel_rfl
theorem laidOut : laidOutB Try.prog = true := by kernel_rfl
set_option maxRecDepth 100000 in
theorem lifted (os : Os) (started : os.Started) (H : Type) (enc : TypeId × Value → H) :
    ReturnsInHanded {} Try.checked os 13 .any (Rows.streamPlaysSpec.pre6 enc Try.prog Try.f13 Rows.streamPlaysRow.domain false) (Rows.streamPlaysSpec.post enc Try.prog Try.f13 false true false false) := by
  refine returnsInHanded_of_change (C := Try.checked) own started (by kernel_rfl) Try.func13
    (ChangeSpec.witness6 (enc := enc) (C := Try.checked) false ⟨#[], #[.int .u64 0, .slice none 0 0], []⟩ 8 (by kernel_rfl) (by kernel_rfl) (by kernel_rfl) (by kernel_rfl)) ?_
  intro W base args ds gs before hval0 hW hcnd _
  have hval : ∀ (j : Nat) t v, Try.f13.params[j]? = some t → args[j]? = some v → Value.okWide Try.prog W .any base t v := hval0
  have hW' := hW
  obtain ⟨p, q, hA0, hV, rfl, hfz, hnd⟩ := hW
  have hA : DataW.TrodAll enc Try.prog W 0 (fun _ => true) true Try.f13.params.toList args.toList ds p := hA0
  rw [Try.params13] at hA hval
  obtain ⟨v0, vs0, d0, ds0, p0, q0, hargs, rfl, rfl, h0, r0⟩ := trodAll_cons hA
  obtain ⟨v1, vs1, d1, ds1, p1, q1, rfl, rfl, rfl, h1, r1⟩ := trodAll_cons r0
  obtain ⟨rfl, rfl, rfl⟩ := trodAll_nil r1
  obtain rfl : args = #[v0, v1] := by cases args; simp_all
  obtain ⟨rfl, rfl⟩ := trodVars_none hV
  obtain ⟨a0, rfl, rfl, rfl, w0⟩ := open_int Try.underlying37 (hval 0 37 v0 rfl rfl) h0
  have k1 := h1
  have lt1 : ∀ x ∈ p1, x.block < W.heap.size := by obtain ⟨m, hm⟩ := k1; exact DataW.trod_lt m _ _ _ hm
  obtain ⟨l1, hr1⟩ := open_ops (hval 1 53 v1 rfl rfl) h1
  clear hA0 hval0
  refine (walk a0 v1 l1 W w0 hr1).mono fun e W' ⟨he, bel⟩ => ?_
  subst he
  exact ⟨_, rfl, _, _, _, [], _, [], hW', trodAll_mk1 (shut_bool Try.underlying4 _), (trodAll_cons_mk (shut_int Try.underlying37 w0) (trodAll_cons_mk (Below.trod laidOut (by kernel_rfl) (of_decide_eq_true (by kernel_rfl)) k1 bel lt1) trodAll_mk0)), rfl, bel.frame _, fun h => by cases h⟩
theorem over : Rows.streamPlaysRow.holds Try.pinned (OpenSpec.ofChange Rows.streamPlaysSpec) :=
  OpenClaim.holds_of_wide 13 Try.f13 rfl rfl rfl rfl rfl rfl rfl ⟨rfl, rfl, rfl, rfl, rfl⟩ rfl rfl rfl rfl rfl (by kernel_rfl) Try.func13 (by kernel_rfl)
    (of_decide_eq_true (by kernel_rfl)) (by unfold Func.isWrapper; first | (rw [if_pos (by decide +kernel)]; kernel_rfl) | (rw [if_neg (by decide +kernel)]; exact ⟨rfl, rfl⟩))
    (fun os started H enc _ => lifted os started H enc)
/-- THE STATEMENT -/
theorem proved : Rows.StreamPlaysSaid := over
end Go.Proofs.Ytkiagmfdfojoeaa.streamPlays
