/-
  StreamSamples: for every seed and numbers the statement returns true: samples have different numbers, a smaller one is a prefix. No conditions.
-/
import Derived.Test.YtkiagmfdfojoeaaLives
import Derived.Test.YtkiagmfdfojoeaaPerm
import Derived.BigQuiet
import Derived.ProofKit
import Derived.OpenShut
import Derived.ShutString
import Derived.ChangeOld
namespace Go.Proofs.Ytkiagmfdfojoeaa.streamSamples
open Go.ChangeShapes Go.WideShapes Go.ChangeAt Go.RowKit
open Go.ChangeMaps (open_string shut_string)
set_option linter.unusedVariables false
set_option maxHeartbeats 1000000 in
theorem walk_out (s n k m : Int) (w : World) (hout : ¬ (0 ≤ n ∧ n ≤ 4096 ∧ 0 ≤ k ∧ k ≤ n ∧ 0 ≤ m ∧ m ≤ k)) :
    Calls Try.prog 8 #[.int .u64 s, .int .i64 n, .int .i64 k, .int .i64 m] w fun e w' => e = .returned (.bool true) ∧ Below w.heap.size w w' := by
  have hc : decide (n < 0) = true ∨ (decide (n < 0) = false ∧ decide (4096 < n) = true) ∨ (decide (n < 0) = false ∧ decide (4096 < n) = false ∧ decide (k < 0) = true)
      ∨ (decide (n < 0) = false ∧ decide (4096 < n) = false ∧ decide (k < 0) = false ∧ decide (n < k) = true) ∨ (decide (n < 0) = false ∧ decide (4096 < n) = false ∧ decide (k < 0) = false ∧ decide (n < k) = false ∧ decide (m < 0) = true)
      ∨ (decide (n < 0) = false ∧ decide (4096 < n) = false ∧ decide (k < 0) = false ∧ decide (n < k) = false ∧ decide (m < 0) = false ∧ decide (k < m) = true) := by
    simp only [decide_eq_true_eq, decide_eq_false_iff_not]; omega
  clear hout
  rcases hc with d1 | ⟨d1, d2⟩ | ⟨d1, d2, d3⟩ | ⟨d1, d2, d3, d4⟩ | ⟨d1, d2, d3, d4, d5⟩ | ⟨d1, d2, d3, d4, d5, d6⟩ <;>
  · go_enter Try.func8, Try.ntmps8
    go_wp2_with fail
    refine (lives_any _).mono ?_
    rintro e w1 ⟨rfl, hb⟩
    go_wp2_with fail
    go_ret
    exact ⟨rfl, hb⟩
set_option maxHeartbeats 2000000 in
theorem walk_in (s : Int) (n k m : Nat) (w : World) (hn : n ≤ 4096) (hk : k ≤ n) (hm : m ≤ k) :
    Calls Try.prog 8 #[.int .u64 s, .int .i64 n, .int .i64 k, .int .i64 m] w fun e w' => e = .returned (.bool true) ∧ Below w.heap.size w w' := by
  have d1 : decide ((n : Int) < 0) = false := by simp
  have d2 : decide (4096 < (n : Int)) = false := by simp; omega
  have d3 : decide ((k : Int) < 0) = false := by simp
  have d4 : decide ((n : Int) < k) = false := by simp; omega
  have d5 : decide ((m : Int) < 0) = false := by simp
  have d6 : decide ((k : Int) < m) = false := by simp; omega
  have hmk := fun w => run_make_row' (P := Try.prog) 29 4 (.bool false) 1 Try.underlying29 infoBool rfl .i64 .i64 (n + 1) (by omega) (by omega) w
  push_cast at hmk
  have HMK := Lib.hid hmk
  have hfacts := samL_facts n k s 0 hk hn
  have hS := fun (b : Nat) (w : World) (hs : StrAt w b s 0) => sample_any b s 0 n k w hs (by omega) (by omega)
  have hS2 := fun (b : Nat) (w : World) (hs : StrAt w b s 0) => sample_any b s 0 n m w hs (by omega) (by omega)
  unfold SampPost at hS hS2
  have hf2 : samE n k s 0 = 0 → (samL n k s 0).Nodup ∧ (samL n k s 0).length = k ∧ (∀ x ∈ samL n k s 0, 1 ≤ x ∧ x ≤ n) ∧ samE n m s 0 = 0 ∧ samL n m s 0 = (samL n k s 0).take m := by
    intro h
    rcases hfacts with h' | ⟨_, h1, h2, h3, h4⟩
    · omega
    · exact ⟨h1, h2, h3, h4 m hm⟩
  have hE : samE n k s 0 = 11 ∨ samE n k s 0 = 0 := by
    rcases hfacts with h' | h'
    · exact .inl h'.1
    · exact .inr h'.1
  clear hfacts hmk
  generalize samE n k s 0 = E at *
  generalize samL n k s 0 = L at *
  generalize samS n k s 0 = S1 at *
  generalize samU n k s 0 = U1 at *
  generalize samE n m s 0 = E2 at *
  generalize samL n m s 0 = L2 at *
  generalize samS n m s 0 = S2 at *
  generalize samU n m s 0 = U2 at *
  have HS := Lib.hid hS
  have HS2 := Lib.hid hS2
  have HF := Lib.hid hf2
  clear hS hS2 hf2
  go_enter Try.func8, Try.ntmps8
  go_wp2_with fail
  refine (new_any _ _).mono ?_
  rintro e w1 ⟨rfl, hs1, hz1, hb1⟩
  go_wp2_with fail
  refine (HS.out _ _ hs1).mono ?_
  rintro e w2 ⟨v, rfl, ho, hs2, hf2⟩
  have hB2 := (Fr.of_below hb1).trans' hf2 (by simp)
  clear hs1 hz1 hb1 hs2
  go_wp2_with fail
  refine (new_any _ _).mono ?_
  rintro e w3 ⟨rfl, hs3, hz3, hb3⟩
  go_wp2_with fail
  refine (HS2.out _ _ hs3).mono ?_
  rintro e w4 ⟨v2, rfl, ho2, hs4, hf4⟩
  have hF4 := (Fr.of_below hb3).trans' hf4 (by simp)
  have hB4 := hB2.trans hF4
  have hr := ho.rd.below hF4
  have hr2 := ho2.rd
  clear hs3 hz3 hb3 hs4 hf2 hB2 ho ho2 hf4 hF4 HS HS2
  rcases hE with rfl | rfl
  · clear HF
    go_wp2_with fail
    refine (lives_any _).mono ?_
    rintro e w5 ⟨rfl, hb⟩
    go_wp2_with fail
    go_ret
    exact ⟨rfl, (hB4.trans (Fr.of_below hb)).below⟩
  · obtain ⟨hnd, hlen, hbd, rfl, hL2⟩ := HF.out rfl
    clear HF
    have hmk := HMK.out
    have HL := Lib.hid hlen
    have HL2 := Lib.hid hL2
    obtain ⟨a, cap, rfl, _, _, hrd⟩ := hr
    obtain ⟨a2, cap2, rfl, _, _, hrd2⟩ := hr2
    have hlen2 : L2.length = m := by rw [hL2, List.length_take, hlen]; omega
    rw [hlen2] at hrd2 ⊢
    rw [hlen] at hrd ⊢
    have HX : Hid (∀ j, j < m → L2.getD j 0 = L.getD j 0) := by
      show ∀ j, j < m → L2.getD j 0 = L.getD j 0
      intro j hj; rw [hL2]; simp [List.getD, hj]
    have e1 : ((k : Int) != k) = false := by simp
    have e2 : ((m : Int) != m) = false := by simp
    clear hlen hlen2 hL2 HL2
    go_wp2_with fail
    obtain ⟨w5, hw5⟩ : ∃ w5, w5 = w4.alloc (.cells (madeCells #[.bool false] (n + 1)) 4) := ⟨_, rfl⟩
    have hf5 : Fr [] w4 w5 := by rw [hw5]; exact (Fr.refl _ _).alloc _
    have ho5 : OwnB w5 w4.heap.size 4 (.slice (some ⟨w4.heap.size, 0, none⟩) (n + 1) (n + 1)) (mark (n + 1) (L.take 0)) := by rw [hw5, List.take_zero, mark_nil]; exact OwnB.made _ _ _ (by unfold maxLen; omega)
    rw [← hw5]
    clear hw5 hmk HMK
    go_loopw [14] (fun i wr => ∃ j : Nat, j ≤ k ∧ i = .int .i64 j ∧ OwnB wr w4.heap.size 4 (.slice (some ⟨w4.heap.size, 0, none⟩) (n + 1) (n + 1)) (mark (n + 1) (L.take j)) ∧ Fr [] w4 wr) (fun i _ => k - (intOf i).toNat)
    case atStart => exact ⟨0, by omega, rfl, ho5, hf5⟩
    case round =>
      obtain ⟨j, hj, rfl, ho, hf⟩ := hrel
      by_cases hlt : j < k
      · obtain ⟨g, o, rfl, hcell⟩ := hrd j hlt
        have hcell' := hf.cell_some hcell (by simp)
        have hnt := nodup_take L hnd j (by have := HL.out; omega)
        have hts := take_succ' L j (by have := HL.out; omega)
        have hbx := hbd (L.getD j 0) (by have := HL.out; simp [List.getD, show j < L.length by omega])
        have hxx := HX.out j
        generalize L.getD j 0 = x at *
        obtain ⟨x, rfl⟩ := Int.eq_ofNat_of_zero_le (show 0 ≤ x by omega)
        have c2 := ho.cell x (by rw [mark_len]; omega)
        have z2 := ho.frozen x
        have hset : ∀ q, OwnB ((wr.drewN q).setCell ⟨w4.heap.size, x, none⟩ (.bool true)) w4.heap.size 4 (.slice (some ⟨w4.heap.size, 0, none⟩) (n + 1) (n + 1)) (mark (n + 1) (L.take (j + 1))) := by
          intro q
          rw [hts, ← mark_set]
          exact (ho.fr ((Fr.refl [] wr).drewN q) (by simp)).set x true
        rw [mark_getD _ _ _ (by omega), decide_eq_false hnt] at c2
        have d1 : decide ((x : Int) < 1) = false := by simp; omega
        have d2 : decide ((n : Int) < x) = false := by simp; omega
        have d2' : decide (n < x) = false := by simp; omega
        have hx1 : (x : Int) < (n : Int) + 1 := by omega
        have hx2 : (x : Int) < ((n + 1 : Nat) : Int) := by omega
        have hj1 : (j : Int) < (k : Int) := by omega
        have e3 : ((x : Int) != x) = false := by simp
        clear hnt hts hcell
        by_cases hjm : j < m
        · obtain ⟨g2, o2, rfl, hcell2⟩ := hrd2 j hjm
          rw [hxx hjm] at hcell2
          have hcell2' := hf.cell_some hcell2 (by simp)
          have hj2 : (j : Int) < (m : Int) := by omega
          have d7 : decide ((j : Int) < m) = true := by simpa using hjm
          have d7' : decide (j < m) = true := by simpa using hjm
          clear hxx hcell2
          go_wp2_with fail
          go_quiet (fail)
          go_wp2
          exact ⟨⟨j + 1, by omega, by go_num, hset _, (hf.drewN _).setCell (.inr (Nat.le_refl _)) _⟩, by simp [intOf]; omega⟩
        · have d7 : decide ((j : Int) < m) = false := by simpa using hjm
          have d7' : decide (j < m) = false := by simpa using hjm
          clear hxx
          go_wp2_with fail
          go_quiet (fail)
          go_wp2
          exact ⟨⟨j + 1, by omega, by go_num, hset _, (hf.drewN _).setCell (.inr (Nat.le_refl _)) _⟩, by simp [intOf]; omega⟩
      · obtain rfl : j = k := by omega
        go_wp2_with fail
        refine (lives_any _).mono ?_
        rintro e w6 ⟨rfl, hb⟩
        go_wp2_with fail
        go_ret
        exact ⟨rfl, ((hB4.trans hf).trans (Fr.of_below hb)).below⟩
theorem walk (s n k m : Int) (w : World) (w0 : (Lit.int .u64 s).wf = true) (w1 : (Lit.int .i64 n).wf = true) (w2 : (Lit.int .i64 k).wf = true) (w3 : (Lit.int .i64 m).wf = true) :
    Calls Try.prog 8 #[.int .u64 s, .int .i64 n, .int .i64 k, .int .i64 m] w fun e w' => e = .returned (.bool true) ∧ Below w.heap.size w w' := by
  by_cases h : 0 ≤ n ∧ n ≤ 4096 ∧ 0 ≤ k ∧ k ≤ n ∧ 0 ≤ m ∧ m ≤ k
  · obtain ⟨n, rfl⟩ := Int.eq_ofNat_of_zero_le h.1
    obtain ⟨k, rfl⟩ := Int.eq_ofNat_of_zero_le h.2.2.1
    obtain ⟨m, rfl⟩ := Int.eq_ofNat_of_zero_le h.2.2.2.2.1
    exact walk_in s n k m w (by omega) (by omega) (by omega)
  · exact walk_out s n k m w h
theorem own : ownKnob Try.prog.godebug = none := by kernel_rfl
theorem laidOut : laidOutB Try.prog = true := by kernel_rfl
set_option maxRecDepth 100000 in
theorem lifted (os : Os) (started : os.Started) (H : Type) (enc : TypeId × Value → H) :
    ReturnsInHanded {} Try.checked os 8 .any (Rows.streamSamplesSpec.pre6 enc Try.prog Try.f8 Rows.streamSamplesRow.domain false) (Rows.streamSamplesSpec.post enc Try.prog Try.f8 false true false false) := by
  refine returnsInHanded_of_change (C := Try.checked) own started (by kernel_rfl) Try.func8
    (ChangeSpec.witness6 (enc := enc) (C := Try.checked) false ⟨#[], #[.int .u64 0, .int .i64 0, .int .i64 0, .int .i64 0], []⟩ 8 (by kernel_rfl) (by kernel_rfl) (by kernel_rfl) (by kernel_rfl)) ?_
  intro W base args ds gs before hval0 hW hcnd _
  have hval : ∀ (j : Nat) t v, Try.f8.params[j]? = some t → args[j]? = some v → Value.okWide Try.prog W .any base t v := hval0
  have hW' := hW
  obtain ⟨p, q, hA0, hV, rfl, hfz, hnd⟩ := hW
  have hA : DataW.TrodAll enc Try.prog W 0 (fun _ => true) true Try.f8.params.toList args.toList ds p := hA0
  rw [Try.params8] at hA hval
  obtain ⟨v0, vs0, d0, ds0, p0, q0, hargs, rfl, rfl, h0, r0⟩ := trodAll_cons hA
  obtain ⟨v1, vs1, d1, ds1, p1, q1, rfl, rfl, rfl, h1, r1⟩ := trodAll_cons r0
  obtain ⟨v2, vs2, d2, ds2, p2, q2, rfl, rfl, rfl, h2, r2⟩ := trodAll_cons r1
  obtain ⟨v3, vs3, d3, ds3, p3, q3, rfl, rfl, rfl, h3, r3⟩ := trodAll_cons r2
  obtain ⟨rfl, rfl, rfl⟩ := trodAll_nil r3
  obtain rfl : args = #[v0, v1, v2, v3] := by cases args; simp_all
  obtain ⟨rfl, rfl⟩ := trodVars_none hV
  obtain ⟨a0, rfl, rfl, rfl, w0⟩ := open_int Try.underlying37 (hval 0 37 v0 rfl rfl) h0
  obtain ⟨a1, rfl, rfl, rfl, w1⟩ := open_int Try.underlying3 (hval 1 3 v1 rfl rfl) h1
  obtain ⟨a2, rfl, rfl, rfl, w2⟩ := open_int Try.underlying3 (hval 2 3 v2 rfl rfl) h2
  obtain ⟨a3, rfl, rfl, rfl, w3⟩ := open_int Try.underlying3 (hval 3 3 v3 rfl rfl) h3
  clear hA0 hval0
  refine (walk a0 a1 a2 a3 W w0 w1 w2 w3).mono fun e W' ⟨he, bel⟩ => ?_
  subst he
  exact ⟨_, rfl, _, _, _, [], _, [], hW', trodAll_mk1 (shut_bool Try.underlying4 _), (trodAll_cons_mk (shut_int Try.underlying37 w0) (trodAll_cons_mk (shut_int Try.underlying3 w1) (trodAll_cons_mk (shut_int Try.underlying3 w2) (trodAll_cons_mk (shut_int Try.underlying3 w3) trodAll_mk0)))), rfl, bel.frame _, fun h => by cases h⟩
theorem over : Rows.streamSamplesRow.holds Try.pinned (OpenSpec.ofChange Rows.streamSamplesSpec) :=
  OpenClaim.holds_of_wide 8 Try.f8 rfl rfl rfl rfl rfl rfl rfl ⟨rfl, rfl, rfl, rfl, rfl⟩ rfl rfl rfl rfl rfl (by kernel_rfl) Try.func8 (by kernel_rfl)
    (of_decide_eq_true (by kernel_rfl)) (by unfold Func.isWrapper; first | (rw [if_pos (by decide +kernel)]; kernel_rfl) | (rw [if_neg (by decide +kernel)]; exact ⟨rfl, rfl⟩))
    (fun os started H enc _ => lifted os started H enc)
/-- THE STATEMENT -/
theorem proved : Rows.StreamSamplesSaid := over
end Go.Proofs.Ytkiagmfdfojoeaa.streamSamples
