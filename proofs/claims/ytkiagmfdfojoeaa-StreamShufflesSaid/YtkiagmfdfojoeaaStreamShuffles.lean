/-
  StreamShuffles: for every seed and number the statement returns true: a shuffle has each number from 1 to n once. No conditions.
-/
import Derived.Test.YtkiagmfdfojoeaaLives
import Derived.Test.YtkiagmfdfojoeaaShuffle
import Derived.Test.YtkiagmfdfojoeaaPerm
import Derived.ProofKit
import Derived.OpenShut
import Derived.ShutString
import Derived.ChangeOld
namespace Go.Proofs.Ytkiagmfdfojoeaa.streamShuffles
open Go.ChangeShapes Go.WideShapes Go.ChangeAt Go.RowKit
open Go.ChangeMaps (open_string shut_string)
set_option linter.unusedVariables false
set_option maxHeartbeats 1000000 in
theorem each_any (v : Value) (n : Nat) (l : List Int) (w : World) (hN : n = l.length) (hr : RdI w v l) (hn : l.Nodup) (hb : ∀ x ∈ l, 1 ≤ x ∧ x ≤ n) (hl : n ≤ 4096) :
    Calls Try.prog 29 #[v, .int .i64 n] w fun e w' => e = .returned (.bool true) ∧ Fr [] w w' := by
  have hmk := fun w => run_make_row' (P := Try.prog) 29 4 (.bool false) 1 Try.underlying29 infoBool rfl .i64 .i64 (n + 1) (by omega) (by omega) w
  push_cast at hmk
  obtain ⟨a, cap, rfl, hc1, hc2, hrd⟩ := hr
  rw [← hN] at hc1 hrd ⊢
  have e0 : ((n : Int) != n) = false := by simp
  have HN := Lib.hid hN
  clear hN hc1 hc2
  go_enter Try.func29, Try.ntmps29
  go_wp2_with fail
  obtain ⟨w1, hw1⟩ : ∃ w1, w1 = w.alloc (.cells (madeCells #[.bool false] (n + 1)) 4) := ⟨_, rfl⟩
  have hf1 : Fr [] w w1 := by rw [hw1]; exact (Fr.refl _ _).alloc _
  have ho1 : OwnB w1 w.heap.size 4 (.slice (some ⟨w.heap.size, 0, none⟩) (n + 1) (n + 1)) (mark (n + 1) (l.take 0)) := by rw [hw1, List.take_zero, mark_nil]; exact OwnB.made _ _ _ (by unfold maxLen; omega)
  rw [← hw1]
  clear hw1 hmk
  go_loopw [6] (fun i wr => ∃ k : Nat, k ≤ n ∧ i = .int .i64 k ∧ OwnB wr w.heap.size 4 (.slice (some ⟨w.heap.size, 0, none⟩) (n + 1) (n + 1)) (mark (n + 1) (l.take k)) ∧ Fr [] w wr) (fun i _ => n - (intOf i).toNat)
  case atStart => exact ⟨0, by omega, rfl, ho1, hf1⟩
  case round =>
    obtain ⟨k, hk, rfl, ho, hf⟩ := hrel
    by_cases hlt : k < n
    · obtain ⟨g, o, rfl, hcell⟩ := hrd k hlt
      have hcell' := hf.cell_some hcell (by simp)
      have hnt := nodup_take l hn k (by have := HN.out; omega)
      have hts := take_succ' l k (by have := HN.out; omega)
      have hbx := hb (l.getD k 0) (by have := HN.out; simp [List.getD, show k < l.length by omega])
      generalize l.getD k 0 = x at *
      obtain ⟨x, rfl⟩ := Int.eq_ofNat_of_zero_le (show 0 ≤ x by omega)
      have c2 := ho.cell x (by rw [mark_len]; omega)
      have z2 := ho.frozen x
      have hset := ho.set x true
      rw [mark_set, ← hts] at hset
      rw [mark_getD _ _ _ (by omega), decide_eq_false hnt] at c2
      have d1 : decide ((x : Int) < 1) = false := by simp; omega
      have d2 : decide ((n : Int) < x) = false := by simp; omega
      clear hnt hts hcell
      go_wp2
      exact ⟨⟨k + 1, by omega, by go_num, hset, hf.setCell (.inr (Nat.le_refl _)) _⟩, by simp [intOf]; omega⟩
    · obtain rfl : k = n := by omega
      go_wp2
      go_ret
      exact ⟨rfl, hf⟩
set_option maxHeartbeats 1000000 in
theorem walk (s n : Int) (w : World) (w0 : (Lit.int .u64 s).wf = true) (w1 : (Lit.int .i64 n).wf = true) :
    Calls Try.prog 7 #[.int .u64 s, .int .i64 n] w fun e w' => e = .returned (.bool true) ∧ Below w.heap.size w w' := by
  have hfacts := shL_facts n s 0
  have hout : ¬ (0 ≤ n ∧ n ≤ 4096) → shE n s 0 = 2 := fun h => by unfold shE; rw [if_neg h]
  have HF := Lib.hid hfacts
  have HO := Lib.hid hout
  clear hfacts hout
  have hS := fun (b : Nat) (w : World) (hs : StrAt w b s 0) => shuffle_any b s 0 n w hs (by omega) (by omega)
  unfold ShufPost at hS
  generalize shE n s 0 = E at *
  generalize shL n s 0 = L at *
  generalize shS n s 0 = S1 at *
  generalize shU n s 0 = U1 at *
  have HS := Lib.hid hS
  clear hS
  by_cases hin : 0 ≤ n ∧ n ≤ 4096
  · obtain ⟨k, rfl⟩ := Int.eq_ofNat_of_zero_le hin.1
    have d1 : decide ((k : Int) < 0) = false := by simp
    have d2 : decide (4096 < (k : Int)) = false := by simp; omega
    rcases HF.out hin with ⟨rfl, rfl⟩ | ⟨rfl, hnd, hlen, hbd⟩
    · clear HF HO
      go_enter Try.func7, Try.ntmps7
      go_wp2_with fail
      refine (new_any _ _).mono ?_
      rintro e w1 ⟨rfl, hs1, hz1, hb1⟩
      have HZ := Lib.hid hz1
      clear hz1
      go_wp2_with fail
      refine (HS.out _ _ hs1).mono ?_
      rintro e w2 ⟨v, rfl, ho, hs2, hf2⟩
      have hB := ((Fr.of_below hb1).trans' hf2 (by simp)).below
      obtain ⟨a, cap, rfl, _⟩ := ho.any
      clear ho
      go_wp2_with fail
      refine (lives_any _).mono ?_
      rintro e w3 ⟨rfl, hb3⟩
      go_wp2_with fail
      go_ret
      exact ⟨rfl, hB.trans (hb3.mono hB.size)⟩
    · have hlen' : k = L.length := by omega
      clear HF HO hlen
      have HLN := Lib.hid hlen'
      clear hlen'
      go_enter Try.func7, Try.ntmps7
      go_wp2_with fail
      refine (new_any _ _).mono ?_
      rintro e w1 ⟨rfl, hs1, hz1, hb1⟩
      have HZ := Lib.hid hz1
      clear hz1
      go_wp2_with fail
      refine (HS.out _ _ hs1).mono ?_
      rintro e w2 ⟨v, rfl, ho, hs2, hf2⟩
      have hB := (Fr.of_below hb1).trans' hf2 (by simp)
      go_wp2_with fail
      refine (each_any v k L w2 HLN.out ho.rd hnd hbd (by omega)).mono ?_
      rintro e w3 ⟨rfl, hf3⟩
      go_wp2_with fail
      refine (lives_any _).mono ?_
      rintro e w4 ⟨rfl, hb4⟩
      go_wp2_with fail
      go_ret
      exact ⟨rfl, ((hB.trans hf3).trans (Fr.of_below hb4)).below⟩
  · have hE := HO.out hin
    subst hE
    clear HF HO
    by_cases h1 : n < 0
    · have d1 : decide (n < 0) = true := by simpa using h1
      clear hin
      go_enter Try.func7, Try.ntmps7
      go_wp2_with fail
      refine (new_any _ _).mono ?_
      rintro e w1 ⟨rfl, hs1, hz1, hb1⟩
      have HZ := Lib.hid hz1
      clear hz1
      go_wp2_with fail
      refine (HS.out _ _ hs1).mono ?_
      rintro e w2 ⟨v, rfl, ho, hs2, hf2⟩
      have hB := ((Fr.of_below hb1).trans' hf2 (by simp)).below
      go_wp2_with fail
      refine (lives_any _).mono ?_
      rintro e w3 ⟨rfl, hb3⟩
      go_wp2_with fail
      go_ret
      exact ⟨rfl, hB.trans (hb3.mono hB.size)⟩
    · have d1 : decide (n < 0) = false := by simpa using h1
      have h2 : 4096 < n := by omega
      have d2 : decide (4096 < n) = true := by simpa using h2
      clear hin
      go_enter Try.func7, Try.ntmps7
      go_wp2_with fail
      refine (new_any _ _).mono ?_
      rintro e w1 ⟨rfl, hs1, hz1, hb1⟩
      have HZ := Lib.hid hz1
      clear hz1
      go_wp2_with fail
      refine (HS.out _ _ hs1).mono ?_
      rintro e w2 ⟨v, rfl, ho, hs2, hf2⟩
      have hB := ((Fr.of_below hb1).trans' hf2 (by simp)).below
      go_wp2_with fail
      refine (lives_any _).mono ?_
      rintro e w3 ⟨rfl, hb3⟩
      go_wp2_with fail
      go_ret
      exact ⟨rfl, hB.trans (hb3.mono hB.size)⟩
theorem own : ownKnob Try.prog.godebug = none := by kernel_rfl
theorem laidOut : laidOutB Try.prog = true := by kernel_rfl
set_option maxRecDepth 100000 in
theorem lifted (os : Os) (started : os.Started) (H : Type) (enc : TypeId × Value → H) :
    ReturnsInHanded {} Try.checked os 7 .any (Rows.streamShufflesSpec.pre6 enc Try.prog Try.f7 Rows.streamShufflesRow.domain false) (Rows.streamShufflesSpec.post enc Try.prog Try.f7 false true false false) := by
  refine returnsInHanded_of_change (C := Try.checked) own started (by kernel_rfl) Try.func7
    (ChangeSpec.witness6 (enc := enc) (C := Try.checked) false ⟨#[], #[.int .u64 0, .int .i64 0], []⟩ 8 (by kernel_rfl) (by kernel_rfl) (by kernel_rfl) (by kernel_rfl)) ?_
  intro W base args ds gs before hval0 hW hcnd _
  have hval : ∀ (j : Nat) t v, Try.f7.params[j]? = some t → args[j]? = some v → Value.okWide Try.prog W .any base t v := hval0
  have hW' := hW
  obtain ⟨p, q, hA0, hV, rfl, hfz, hnd⟩ := hW
  have hA : DataW.TrodAll enc Try.prog W 0 (fun _ => true) true Try.f7.params.toList args.toList ds p := hA0
  rw [Try.params7] at hA hval
  obtain ⟨v0, vs0, d0, ds0, p0, q0, hargs, rfl, rfl, h0, r0⟩ := trodAll_cons hA
  obtain ⟨v1, vs1, d1, ds1, p1, q1, rfl, rfl, rfl, h1, r1⟩ := trodAll_cons r0
  obtain ⟨rfl, rfl, rfl⟩ := trodAll_nil r1
  obtain rfl : args = #[v0, v1] := by cases args; simp_all
  obtain ⟨rfl, rfl⟩ := trodVars_none hV
  obtain ⟨a0, rfl, rfl, rfl, w0⟩ := open_int Try.underlying37 (hval 0 37 v0 rfl rfl) h0
  obtain ⟨a1, rfl, rfl, rfl, w1⟩ := open_int Try.underlying3 (hval 1 3 v1 rfl rfl) h1
  clear hA0 hval0
  refine (walk a0 a1 W w0 w1).mono fun e W' ⟨he, bel⟩ => ?_
  subst he
  exact ⟨_, rfl, _, _, _, [], _, [], hW', trodAll_mk1 (shut_bool Try.underlying4 _), (trodAll_cons_mk (shut_int Try.underlying37 w0) (trodAll_cons_mk (shut_int Try.underlying3 w1) trodAll_mk0)), rfl, bel.frame _, fun h => by cases h⟩
theorem over : Rows.streamShufflesRow.holds Try.pinned (OpenSpec.ofChange Rows.streamShufflesSpec) :=
  OpenClaim.holds_of_wide 7 Try.f7 rfl rfl rfl rfl rfl rfl rfl ⟨rfl, rfl, rfl, rfl, rfl⟩ rfl rfl rfl rfl rfl (by kernel_rfl) Try.func7 (by kernel_rfl)
    (of_decide_eq_true (by kernel_rfl)) (by unfold Func.isWrapper; first | (rw [if_pos (by decide +kernel)]; kernel_rfl) | (rw [if_neg (by decide +kernel)]; exact ⟨rfl, rfl⟩))
    (fun os started H enc _ => lifted os started H enc)
/-- THE STATEMENT -/
theorem proved : Rows.StreamShufflesSaid := over
end Go.Proofs.Ytkiagmfdfojoeaa.streamShuffles
