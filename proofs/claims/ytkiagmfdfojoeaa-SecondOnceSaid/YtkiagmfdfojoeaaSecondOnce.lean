/-
  SecondOnce: for every count, seed and numbers the statement returns true: each entry is drawn at most once, and a draw of fewer is a prefix. No conditions.
-/
import Derived.Test.YtkiagmfdfojoeaaRDraw
import Derived.BigQuiet
import Derived.ProofKit
import Derived.OpenShut
import Derived.ShutString
import Derived.ChangeOld
namespace Go.Proofs.Ytkiagmfdfojoeaa.secondOnce
open Go.ChangeShapes Go.WideShapes Go.ChangeAt Go.RowKit
open Go.ChangeMaps (open_string shut_string)
set_option linter.unusedVariables false
theorem pick_rise (N : Nat) (P : List Int) (h : ∀ x ∈ P, 1 ≤ x ∧ x ≤ N) : pickL (rise N) P = P.map (· - 1) := by
  unfold pickL
  apply List.map_congr_left
  intro x hx
  have := h x hx
  rw [rise_getD _ _ (by omega)]
  omega
theorem once (N : Nat) (hN : N ≤ 300) (s n m : Int) (hm : m ≤ n) : drE (rise N) s n = 11 ∨
    (drE (rise N) s n = 0 ∧ drE (rise N) s m = 0 ∧ (drL (rise N) s n).Nodup ∧ (drL (rise N) s n).length = drK N n ∧ drK N m ≤ drK N n ∧ drK N n ≤ 300 ∧ (∀ x ∈ drL (rise N) s n, 0 ≤ x ∧ x < N) ∧ drL (rise N) s m = (drL (rise N) s n).take (drK N m)) := by
  have h2 : ¬ 1024 < (rise N).length := by rw [rise_len]; omega
  unfold drE drL
  rw [if_neg h2, if_neg h2, if_neg h2, if_neg h2, rise_len]
  have hK : drK N m ≤ drK N n := by unfold drK; omega
  rcases samL_facts N (drK N n) s 0 (drK_le _ n) (by omega) with ⟨h, _⟩ | ⟨h, h1, h2, h3, h4⟩
  · exact .inl h
  · obtain ⟨h5, h6⟩ := h4 (drK N m) hK
    have h7 : ∀ x ∈ samL N (drK N m) s 0, 1 ≤ x ∧ x ≤ N := fun x hx => h3 x (by rw [h6] at hx; exact List.mem_of_mem_take hx)
    refine .inr ⟨h, h5, ?_, by rw [pickL_len, h2], hK, by have := drK_le N n; omega, ?_, ?_⟩
    · rw [pick_rise _ _ h3]
      exact List.Pairwise.map _ (fun a b hab => by omega) h1
    · intro x hx
      rw [pick_rise _ _ h3] at hx
      obtain ⟨y, hy, rfl⟩ := List.mem_map.1 hx
      have := h3 y hy
      omega
    · rw [pick_rise _ _ h3, pick_rise _ _ h7, h6, List.map_take]
set_option maxHeartbeats 1000000 in
theorem walk_out (c s n m : Int) (w : World) (hout : ¬ (0 ≤ c ∧ c ≤ 300 ∧ m ≤ n)) :
    Calls Try.prog 11 #[.int .i64 c, .int .u64 s, .int .i64 n, .int .i64 m] w fun e w' => e = .returned (.bool true) ∧ Below w.heap.size w w' := by
  have hc : decide (c < 0) = true ∨ (decide (c < 0) = false ∧ decide (300 < c) = true) ∨ (decide (c < 0) = false ∧ decide (300 < c) = false ∧ decide (n < m) = true) := by
    simp only [decide_eq_true_eq, decide_eq_false_iff_not]; omega
  clear hout
  rcases hc with d1 | ⟨d1, d2⟩ | ⟨d1, d2, d3⟩ <;>
  · go_enter Try.func11, Try.ntmps11
    go_wp2_with fail
    refine (lives43_any _).mono ?_
    rintro e w1 ⟨rfl, hb⟩
    go_wp2_with fail
    go_ret
    exact ⟨rfl, hb.below⟩
set_option maxRecDepth 20000 in
set_option maxHeartbeats 2000000 in
theorem walk_in (N : Nat) (s n m : Int) (w : World) (hN : N ≤ 300) (hm : m ≤ n) :
    Calls Try.prog 11 #[.int .i64 N, .int .u64 s, .int .i64 n, .int .i64 m] w fun e w' => e = .returned (.bool true) ∧ Below w.heap.size w w' := by
  have d1 : decide ((N : Int) < 0) = false := by simp
  have d2 : decide (300 < (N : Int)) = false := by simp; omega
  have d3 : decide (n < m) = false := by simp; omega
  have hmk := fun w => run_make_row' (P := Try.prog) 29 4 (.bool false) 1 Try.underlying29 infoBool rfl .i64 .i64 N (by omega) (by omega) w
  have HMK := Lib.hid hmk
  have hfacts := once N hN s n m hm
  have hS := fun (v : Value) (w : World) (hr : RdI w v (rise N)) => draw_any v (rise N) s n w hr
  have hS2 := fun (v : Value) (w : World) (hr : RdI w v (rise N)) => draw_any v (rise N) s m w hr
  have hK := fun (w : World) => number_any N n w
  have hK2 := fun (w : World) => number_any N m w
  clear hmk
  generalize drE (rise N) s n = E at *
  generalize drL (rise N) s n = L at *
  generalize drE (rise N) s m = E2 at *
  generalize drL (rise N) s m = L2 at *
  generalize drK N n = k at *
  generalize drK N m = j2 at *
  have HS := Lib.hid hS
  have HS2 := Lib.hid hS2
  have HK := Lib.hid hK
  have HK2 := Lib.hid hK2
  have HF := Lib.hid hfacts
  clear hS hS2 hfacts hK hK2
  go_enter Try.func11, Try.ntmps11
  go_wp2_with fail
  refine (rising_any N _ (by omega)).mono ?_
  rintro e w1 ⟨v1, rfl, o1, f1⟩
  have r1 := o1.rd
  clear o1
  go_wp2_with fail
  refine (HS.out _ _ r1).mono ?_
  rintro e w2 ⟨v, rfl, ho, f2⟩
  go_wp2_with fail
  refine (rising_any N _ (by omega)).mono ?_
  rintro e w3 ⟨v3, rfl, o3, f3⟩
  have r3 := o3.rd
  clear o3
  go_wp2_with fail
  refine (HS2.out _ _ r3).mono ?_
  rintro e w4 ⟨v2, rfl, ho2, f4⟩
  have hB4 := ((f1.trans f2).trans f3).trans f4
  have hr := ho.rd.below (f3.trans f4)
  have hr2 := ho2.rd
  clear f1 f2 f3 f4 ho ho2 r1 r3 HS HS2
  rcases HF.out with rfl | ⟨rfl, rfl, hnd, hlen, hmk2, hkN, hbd, hL2⟩
  · clear HF
    go_wp2_with fail
    refine (lives43_any _).mono ?_
    rintro e w5 ⟨rfl, hb⟩
    go_wp2_with fail
    go_ret
    exact ⟨rfl, (hB4.trans hb).below⟩
  · clear HF
    have HL := Lib.hid hlen
    obtain ⟨a, cap, rfl, _, _, hrd⟩ := hr
    obtain ⟨a2, cap2, rfl, _, _, hrd2⟩ := hr2
    have hlen2 : L2.length = j2 := by rw [hL2, List.length_take, hlen]; omega
    rw [hlen2] at hrd2 ⊢
    rw [hlen] at hrd ⊢
    have HX : Hid (∀ j, j < j2 → L2.getD j 0 = L.getD j 0) := by
      show ∀ j, j < j2 → L2.getD j 0 = L.getD j 0
      intro j hj; rw [hL2]; simp [List.getD, hj]
    have e1 : ((k : Int) != k) = false := by simp
    have e2 : ((j2 : Int) != j2) = false := by simp
    clear hlen hlen2 hL2
    go_wp2_with fail
    refine (HK.out _).mono ?_
    rintro e w5 ⟨rfl, rfl⟩
    go_wp2_with fail
    refine (HK2.out _).mono ?_
    rintro e w5 ⟨rfl, rfl⟩
    have hmk := HMK.out
    go_wp2_with fail
    obtain ⟨w5, hw5⟩ : ∃ w5, w5 = w4.alloc (.cells (madeCells #[.bool false] N) 4) := ⟨_, rfl⟩
    have hf5 : Fr [] w4 w5 := by rw [hw5]; exact (Fr.refl _ _).alloc _
    have ho5 : OwnB w5 w4.heap.size 4 (.slice (some ⟨w4.heap.size, 0, none⟩) N N) (mark N (L.take 0)) := by rw [hw5, List.take_zero, mark_nil]; exact OwnB.made _ _ _ (by unfold maxLen; omega)
    rw [← hw5]
    clear hw5 hmk HMK HK HK2
    go_loopw [14] (fun i wr => ∃ j : Nat, j ≤ k ∧ i = .int .i64 j ∧ OwnB wr w4.heap.size 4 (.slice (some ⟨w4.heap.size, 0, none⟩) N N) (mark N (L.take j)) ∧ Fr [] w4 wr) (fun i _ => k - (intOf i).toNat)
    case atStart => exact ⟨0, by omega, rfl, ho5, hf5⟩
    case round =>
      obtain ⟨j, hj, rfl, ho, hf⟩ := hrel
      by_cases hlt : j < k
      · obtain ⟨g, o, rfl, hcell⟩ := hrd j hlt
        have hcell' := hf.cell_some hcell (by simp)
        have hnt := nodup_take L hnd j (by have := HL.out; omega)
        have hts := take_succ' L j (by have := HL.out; omega)
        have hbx := hbd (L.getD j 0) (by have := HL.out; simp [List.getD, show j < L.length by omega])
        have hxx := HX.out j
        generalize L.getD j 0 = x at *
        obtain ⟨x, rfl⟩ := Int.eq_ofNat_of_zero_le (show 0 ≤ x by omega)
        have c2 := ho.cell x (by rw [mark_len]; omega)
        have z2 := ho.frozen x
        have hset : ∀ q, OwnB ((wr.drewN q).setCell ⟨w4.heap.size, x, none⟩ (.bool true)) w4.heap.size 4 (.slice (some ⟨w4.heap.size, 0, none⟩) N N) (mark N (L.take (j + 1))) := by
          intro q
          rw [hts, ← mark_set]
          exact (ho.fr ((Fr.refl [] wr).drewN q) (by simp)).set x true
        rw [mark_getD _ _ _ (by omega), decide_eq_false hnt] at c2
        have d1 : decide ((x : Int) < 0) = false := by simp
        have d2 : decide ((N : Int) ≤ x) = false := by simp; omega
        have d2' : decide (N ≤ x) = false := by simp; omega
        have hx1 : (x : Int) < (N : Int) := by omega
        have hx0 : (0 : Int) ≤ (x : Int) := by omega
        have hj1 : (j : Int) < (k : Int) := by omega
        have e3 : ((x : Int) != x) = false := by simp
        clear hnt hts hcell
        by_cases hjm : j < j2
        · obtain ⟨g2, o2, rfl, hcell2⟩ := hrd2 j hjm
          rw [hxx hjm] at hcell2
          have hcell2' := hf.cell_some hcell2 (by simp)
          have hj2 : (j : Int) < (j2 : Int) := by omega
          have d7 : decide ((j : Int) < j2) = true := by simpa using hjm
          have d7' : decide (j < j2) = true := by simpa using hjm
          clear hxx hcell2
          go_wp2_with fail
          go_quiet (fail)
          go_wp2
          exact ⟨⟨j + 1, by omega, by go_num, hset _, (hf.drewN _).setCell (.inr (Nat.le_refl _)) _⟩, by simp [intOf]; omega⟩
        · have d7 : decide ((j : Int) < j2) = false := by simpa using hjm
          have d7' : decide (j < j2) = false := by simpa using hjm
          clear hxx
          go_wp2_with fail
          go_quiet (fail)
          go_wp2
          exact ⟨⟨j + 1, by omega, by go_num, hset _, (hf.drewN _).setCell (.inr (Nat.le_refl _)) _⟩, by simp [intOf]; omega⟩
      · obtain rfl : j = k := by omega
        go_wp2_with fail
        refine (lives43_any _).mono ?_
        rintro e w6 ⟨rfl, hb⟩
        go_wp2_with fail
        go_ret
        exact ⟨rfl, ((hB4.trans hf).trans hb).below⟩
theorem walk (c s n m : Int) (w : World) (w0 : (Lit.int .i64 c).wf = true) (w1 : (Lit.int .u64 s).wf = true) (w2 : (Lit.int .i64 n).wf = true) (w3 : (Lit.int .i64 m).wf = true) :
    Calls Try.prog 11 #[.int .i64 c, .int .u64 s, .int .i64 n, .int .i64 m] w fun e w' => e = .returned (.bool true) ∧ Below w.heap.size w w' := by
  by_cases h : 0 ≤ c ∧ c ≤ 300 ∧ m ≤ n
  · obtain ⟨N, rfl⟩ := Int.eq_ofNat_of_zero_le h.1
    exact walk_in N s n m w (by omega) h.2.2
  · exact walk_out c s n m w h
theorem own : ownKnob Try.prog.godebug = none := by kernel_rfl
theorem laidOut : laidOutB Try.prog = true := by kernel_rfl
set_option maxRecDepth 100000 in
theorem lifted (os : Os) (started : os.Started) (H : Type) (enc : TypeId × Value → H) :
    ReturnsInHanded {} Try.checked os 11 .any (Rows.secondOnceSpec.pre6 enc Try.prog Try.f11 Rows.secondOnceRow.domain false) (Rows.secondOnceSpec.post enc Try.prog Try.f11 false true false false) := by
  refine returnsInHanded_of_change (C := Try.checked) own started (by kernel_rfl) Try.func11
    (ChangeSpec.witness6 (enc := enc) (C := Try.checked) false ⟨#[], #[.int .i64 0, .int .u64 0, .int .i64 0, .int .i64 0], []⟩ 8 (by kernel_rfl) (by kernel_rfl) (by kernel_rfl) (by kernel_rfl)) ?_
  intro W base args ds gs before hval0 hW hcnd _
  have hval : ∀ (j : Nat) t v, Try.f11.params[j]? = some t → args[j]? = some v → Value.okWide Try.prog W .any base t v := hval0
  have hW' := hW
  obtain ⟨p, q, hA0, hV, rfl, hfz, hnd⟩ := hW
  have hA : DataW.TrodAll enc Try.prog W 0 (fun _ => true) true Try.f11.params.toList args.toList ds p := hA0
  rw [Try.params11] at hA hval
  obtain ⟨v0, vs0, d0, ds0, p0, q0, hargs, rfl, rfl, h0, r0⟩ := trodAll_cons hA
  obtain ⟨v1, vs1, d1, ds1, p1, q1, rfl, rfl, rfl, h1, r1⟩ := trodAll_cons r0
  obtain ⟨v2, vs2, d2, ds2, p2, q2, rfl, rfl, rfl, h2, r2⟩ := trodAll_cons r1
  obtain ⟨v3, vs3, d3, ds3, p3, q3, rfl, rfl, rfl, h3, r3⟩ := trodAll_cons r2
  obtain ⟨rfl, rfl, rfl⟩ := trodAll_nil r3
  obtain rfl : args = #[v0, v1, v2, v3] := by cases args; simp_all
  obtain ⟨rfl, rfl⟩ := trodVars_none hV
  obtain ⟨a0, rfl, rfl, rfl, w0⟩ := open_int Try.underlying3 (hval 0 3 v0 rfl rfl) h0
  obtain ⟨a1, rfl, rfl, rfl, w1⟩ := open_int Try.underlying37 (hval 1 37 v1 rfl rfl) h1
  obtain ⟨a2, rfl, rfl, rfl, w2⟩ := open_int Try.underlying3 (hval 2 3 v2 rfl rfl) h2
  obtain ⟨a3, rfl, rfl, rfl, w3⟩ := open_int Try.underlying3 (hval 3 3 v3 rfl rfl) h3
  clear hA0 hval0
  refine (walk a0 a1 a2 a3 W w0 w1 w2 w3).mono fun e W' ⟨he, bel⟩ => ?_
  subst he
  exact ⟨_, rfl, _, _, _, [], _, [], hW', trodAll_mk1 (shut_bool Try.underlying4 _), (trodAll_cons_mk (shut_int Try.underlying3 w0) (trodAll_cons_mk (shut_int Try.underlying37 w1) (trodAll_cons_mk (shut_int Try.underlying3 w2) (trodAll_cons_mk (shut_int Try.underlying3 w3) trodAll_mk0)))), rfl, bel.frame _, fun h => by cases h⟩
theorem over : Rows.secondOnceRow.holds Try.pinned (OpenSpec.ofChange Rows.secondOnceSpec) :=
  OpenClaim.holds_of_wide 11 Try.f11 rfl rfl rfl rfl rfl rfl rfl ⟨rfl, rfl, rfl, rfl, rfl⟩ rfl rfl rfl rfl rfl (by kernel_rfl) Try.func11 (by kernel_rfl)
    (of_decide_eq_true (by kernel_rfl)) (by unfold Func.isWrapper; first | (rw [if_pos (by decide +kernel)]; kernel_rfl) | (rw [if_neg (by decide +kernel)]; exact ⟨rfl, rfl⟩))
    (fun os started H enc _ => lifted os started H enc)
/-- THE STATEMENT -/
theorem proved : Rows.SecondOnceSaid := over
end Go.Proofs.Ytkiagmfdfojoeaa.secondOnce
