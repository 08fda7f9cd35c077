/-
  Draw of the reference of layer 43, Number, rising and lives of its statements: in terms of the same plain functions as Draw.
-/
import Derived.Test.YtkiagmfdfojoeaaDraw
import Derived.Test.YtkiagmfdfojoeaaLives
set_option linter.unusedVariables false
namespace Go.Proofs.Ytkiagmfdfojoeaa
open Go.RowKit
theorem number_any (N : Nat) (n : Int) (w : World) :
    Calls Try.prog 35 #[.int .i64 N, .int .i64 n] w fun e w' => e = .returned (.int .i64 (drK N n)) ∧ w = w' := by
  by_cases h1 : n < 0
  · have hq : (drK N n : Int) = 0 := by unfold drK; omega
    rw [hq]
    clear hq
    go_enter Try.func35, Try.ntmps35
    go_wp2_with fail
    go_ret
    exact ⟨rfl, rfl⟩
  · by_cases h2 : (N : Int) < n
    · have hq : (drK N n : Int) = N := by unfold drK; omega
      rw [hq]
      clear hq
      go_enter Try.func35, Try.ntmps35
      go_wp2_with fail
      go_ret
      exact ⟨rfl, rfl⟩
    · have hq : (drK N n : Int) = n := by unfold drK; omega
      rw [hq]
      clear hq
      go_enter Try.func35, Try.ntmps35
      go_wp2_with fail
      go_ret
      exact ⟨rfl, rfl⟩
theorem rsample_any (b : Nat) (s u n k : Int) (w : World) (hs : StrAt w b s u) (hu0 : 0 ≤ u) (hu1 : u ≤ 999999000000) :
    Calls Try.prog 43 #[.pointer (some ⟨b, 0, none⟩), .int .i64 n, .int .i64 k] w fun x w' => ∃ v, x = .returned (.tuple #[v, .int .i64 (samE n k s u)]) ∧ RdB w' w.heap.size v (samL n k s u) ∧ Fr [b] w w' := by
  refine (rsample_g b s u n k w hs hu0 hu1).mono ?_
  rintro x w' ⟨v, E, L, S, U, r, h1, h2, _, h4⟩
  rw [r.re] at h1
  rw [r.rl] at h2
  exact ⟨v, h1, h2, h4⟩
set_option maxHeartbeats 1000000 in
theorem rdraw_any (v : Value) (l : List Int) (s n : Int) (w : World) (hr : RdI w v l) :
    Calls Try.prog 33 #[v, .int .u64 s, .int .i64 n] w fun x w' => ∃ v', x = .returned (.tuple #[v', .int .i64 (drE l s n)]) ∧ OwnI w' w.heap.size 3 v' (drL l s n) ∧ Fr [] w w' := by
  obtain ⟨a, cap, rfl, hc1, hc2, hrd⟩ := hr
  by_cases hlen : 1024 < l.length
  · have d1 : decide (1024 < (l.length : Int)) = true := by simp; omega
    have d2 : decide (1024 < l.length) = true := by simpa using hlen
    have hE : drE l s n = 3 := by unfold drE; rw [if_pos hlen]
    have hL : drL l s n = [] := by unfold drL; rw [if_pos hlen]
    rw [hE, hL]
    clear hE hL hrd
    go_enter Try.func33, Try.ntmps33
    go_wp2_with fail
    go_ret2
    exact ⟨_, rfl, OwnI.nil _ _ _, Fr.refl _ _⟩
  · have hE : drE l s n = samE l.length (drK l.length n) s 0 := by unfold drE; rw [if_neg hlen]
    have hL : drL l s n = pickL l (samL l.length (drK l.length n) s 0) := by unfold drL; rw [if_neg hlen]
    rw [hE, hL]
    clear hE hL
    obtain ⟨N, hN⟩ : ∃ N, N = l.length := ⟨_, rfl⟩
    rw [← hN] at hrd hlen ⊢
    have d1 : decide (1024 < (N : Int)) = false := by simp; omega
    have d2 : decide (1024 < N) = false := by simp; omega
    have hfacts := samL_facts N (drK N n) s 0 (drK_le N n) (by omega)
    have hbd : ∀ x ∈ samL N (drK N n) s 0, 1 ≤ x ∧ x ≤ N := by
      rcases hfacts with ⟨_, h⟩ | ⟨_, _, _, h, _⟩
      · rw [h]; simp
      · exact h
    have hlL : (samL N (drK N n) s 0).length ≤ 1024 := by
      rcases hfacts with ⟨_, h⟩ | ⟨_, _, h, _⟩
      · rw [h]; simp
      · rw [h]; have := drK_le N n; omega
    have hz : samE N (drK N n) s 0 ≠ 0 → samL N (drK N n) s 0 = [] := by
      intro h0
      rcases hfacts with ⟨_, h⟩ | ⟨h, _⟩
      · exact h
      · exact absurd h h0
    have hS := fun (b : Nat) (w : World) (hs : StrAt w b s 0) => rsample_any b s 0 N (drK N n) w hs (by omega) (by omega)
    have hM := fun (w : World) => number_any N n w
    have hN0 : (0 : Int) ≤ N := by omega
    obtain ⟨Q, hQ⟩ : ∃ Q : Int, Q = (drK N n : Int) := ⟨_, rfl⟩
    rw [← hQ] at hS hbd hlL hz hM ⊢
    clear hQ hfacts
    generalize samE N Q s 0 = E at *
    generalize samL N Q s 0 = L at *
    have HS := Lib.hid hS
    have HMM := Lib.hid hM
    have HZ := Lib.hid hz
    have HN := Lib.hid hN
    clear hS hz hN hc1 hc2 hM
    go_enter Try.func33, Try.ntmps33
    go_wp2_with fail
    refine (rnew_any _ _).mono ?_
    rintro e w1 ⟨rfl, hs1, hz1, hb1⟩
    go_wp2_with fail
    refine (HMM.out _).mono ?_
    rintro e w1 ⟨rfl, rfl⟩
    go_wp2_with fail
    refine (HS.out _ _ hs1).mono ?_
    rintro e w2 ⟨v2, rfl, ho, hf2⟩
    have hF2 : Fr [] w w2 := (Fr.of_below hb1).trans' hf2 (by simp)
    have hr2 := ho.rd
    clear ho hs1 hf2 hb1 hz1 HS HMM
    by_cases hE : E = 0
    · subst hE
      obtain ⟨a2, cap2, rfl, _, _, hrd2⟩ := hr2
      obtain ⟨m, hM⟩ : ∃ m, m = L.length := ⟨_, rfl⟩
      rw [← hM] at hlL hrd2 ⊢
      have HM := Lib.hid hM
      clear hM HZ
      go_wp2_with fail
      go_loopw [10, 11] (fun out i wr => ∃ k : Nat, k ≤ m ∧ i = .int .i64 k ∧ OwnI wr w2.heap.size 3 out (pickL l (L.take k)) ∧ Fr [] w2 wr) (fun _ i _ => m - (intOf i).toNat)
      case atStart => exact ⟨0, by omega, rfl, OwnI.nil _ _ _, Fr.refl _ _⟩
      case round =>
        obtain ⟨k, hk, rfl, ho, hf⟩ := hrel
        by_cases hlt : k < m
        · obtain ⟨g2, o2, rfl, hcell2⟩ := hrd2 k hlt
          have c2 := hf.cell_some hcell2 (by simp)
          have hps := pickL_succ l L k (by have := HM.out; omega)
          have hb := hbd (L.getD k 0) (by have := HM.out; simp [List.getD, show k < L.length by omega])
          generalize L.getD k 0 = p at *
          obtain ⟨q, hq⟩ := Int.eq_ofNat_of_zero_le (show 0 ≤ p - 1 by omega)
          obtain rfl : p = (q : Int) + 1 := by omega
          rw [show ((q : Int) + 1 - 1).toNat = q by omega] at hps
          obtain ⟨g, o, rfl, hcell⟩ := hrd q (by omega)
          have c1 := hf.cell_some (hF2.cell_some hcell (by simp)) (by simp)
          have HPS := Lib.hid hps
          have hql : q < N := by omega
          clear hps hcell hcell2 hq
          generalize l.getD q 0 = y at *
          go_wp2_with (at_builtin; refine app_int wr y rfl (.tmp 36) (.tmp 45) rfl w2.heap.size _ (pickL l (L.take k)) rfl ho rfl (by rw [pickL_len]; have := HM.out; simp; omega) hf.size ?_)
          intro v' w' ho' hF
          have hf' := hF [] w2 (Nat.le_refl _) hf
          go_wp2_with fail
          refine ⟨⟨k + 1, by omega, by go_num, ?_, hf'⟩, by simp [intOf]; omega⟩
          rw [HPS.out]; exact ho'
        · obtain rfl : k = m := by omega
          go_wp2_with fail
          go_ret2
          refine ⟨_, rfl, ?_, hF2.trans hf⟩
          have hM := HM.out
          rw [hM, List.take_length] at ho
          exact ho.mono hF2.size
    · have hL := HZ.out hE
      have d3 : (E != 0) = true := by simpa using hE
      subst hL
      clear hE HZ
      go_wp2_with fail
      go_ret2
      exact ⟨_, rfl, OwnI.nil _ _ _, hF2⟩
/-- the numbers 0 to n - 1 -/
def rise (n : Nat) : List Int := (List.range n).map fun (j : Nat) => (j : Int)
theorem rise_len (n : Nat) : (rise n).length = n := by simp [rise]
theorem rise_succ (n : Nat) : rise (n + 1) = rise n ++ [(n : Int)] := by simp [rise, List.range_succ]
theorem rise_getD (n j : Nat) (h : j < n) : (rise n).getD j 0 = j := by simp [rise, List.getD, h]
set_option maxHeartbeats 400000 in
theorem rising_any (n : Nat) (w : World) (hn : n ≤ 4096) :
    Calls Try.prog 34 #[.int .i64 n] w fun e w' => ∃ v, e = .returned v ∧ OwnI w' w.heap.size 3 v (rise n) ∧ Fr [] w w' := by
  go_enter Try.func34, Try.ntmps34
  go_wp2_with fail
  go_loopw [3, 4] (fun out i wr => ∃ k : Nat, k ≤ n ∧ i = .int .i64 k ∧ OwnI wr w.heap.size 3 out (rise k) ∧ Fr [] w wr) (fun _ i _ => n - (intOf i).toNat)
  case atStart => exact ⟨0, by omega, rfl, OwnI.nil _ _ _, Fr.refl _ _⟩
  case round =>
    obtain ⟨k, hk, rfl, ho, hf⟩ := hrel
    by_cases hlt : k < n
    · go_wp2_with (at_builtin; refine app_int wr (k : Int) rfl (.tmp 10) (.tmp 12) rfl w.heap.size _ (rise k) rfl ho rfl (by rw [rise_len]; omega) hf.size ?_)
      intro v' w' ho' hF
      have hf' := hF [] w (Nat.le_refl _) hf
      go_wp2_with fail
      exact ⟨⟨k + 1, by omega, by go_num, by rw [rise_succ]; exact ho', hf'⟩, by simp [intOf]; omega⟩
    · obtain rfl : k = n := by omega
      go_wp2_with fail
      go_ret
      exact ⟨_, rfl, ho, hf⟩
theorem dr_one : drE [5] 1 1 = 0 ∧ drL [5] 1 1 = [5] := by
  have hk : drK 1 1 = 1 := rfl
  obtain ⟨e1, e2, e3⟩ := below_one 1 0
  have hg := sampL_go 0 1 0 (asc 1) 1 0 (by rw [show ((1 : Nat) : Int) - ((0 : Nat) : Int) = 1 from rfl]; exact e2)
  rw [show ((1 : Nat) : Int) - ((0 : Nat) : Int) = 1 from rfl, e1] at hg
  have hi : inS 1 1 = true := rfl
  have h1 : samE 1 1 1 0 = 0 := by
    unfold samE; rw [if_pos hi]; show (sampL (0 + 1) 1 0 (asc 1) 1 0).1 = 0; rw [hg]; rfl
  have h2 : samL 1 1 1 0 = [1] := by
    unfold samL; rw [if_pos hi]; show takeL 1 (sampL (0 + 1) 1 0 (asc 1) 1 0) = [1]; rw [hg]; rfl
  refine ⟨?_, ?_⟩
  · show drE [5] 1 1 = 0
    unfold drE; rw [if_neg (by simp)]; show samE 1 (drK 1 1) 1 0 = 0; rw [hk]; exact h1
  · unfold drL; rw [if_neg (by simp)]; show pickL [5] (samL 1 (drK 1 1) 1 0) = [5]; rw [hk]; show pickL [5] (samL 1 1 1 0) = [5]; rw [h2]; rfl
theorem rd_one (w : World) (x : Int) (T : TypeId) : RdI (w.alloc (.cells #[.int .i64 x] T)) (.slice (some ⟨w.heap.size, 0, none⟩) 1 1) [x] := by
  refine ⟨some ⟨w.heap.size, 0, none⟩, 1, rfl, by simp, by unfold maxLen; omega, fun j hj => ⟨w.heap.size, 0, rfl, ?_⟩⟩
  simp at hj
  subst hj
  simp
set_option maxHeartbeats 400000 in
theorem lives43_any (w : World) : Calls Try.prog 31 #[] w fun e w' => e = .returned (.bool true) ∧ Fr [] w w' := by
  have hD := fun (w : World) (v : Value) (h : RdI w v [5]) => draw_any v [5] 1 1 w h
  rw [dr_one.1, dr_one.2] at hD
  have HD := Lib.hid hD
  clear hD
  go_enter Try.func31, Try.ntmps31
  go_wp2_with fail
  refine (HD.out _ _ (rd_one _ _ _)).mono ?_
  rintro e w1 ⟨v1, rfl, ho, hf⟩
  obtain ⟨g, cap, rfl, hg, hlt, h1, h2⟩ := ho.form (by simp)
  have c0 := ho.cell 0 (by simp)
  simp only [List.getD, List.getElem?_cons_zero, Option.getD_some] at c0
  have hF : Fr [] w w1 := ((Fr.refl [] w).alloc _).trans hf
  clear ho hf h1 h2
  go_wp2_with fail
  go_ret
  exact ⟨rfl, hF⟩
end Go.Proofs.Ytkiagmfdfojoeaa
