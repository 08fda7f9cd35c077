/-
  The reference's rising, Shuffle and Sample (layer 9): they return what the program's own return, in terms of the same plain functions.
-/
import Derived.Test.YtkiagmfdfojoeaaRes
import Derived.Test.YtkiagmfdfojoeaaApp
set_option linter.unusedVariables false
namespace Go.Proofs.Ytkiagmfdfojoeaa
open Go.RowKit
set_option maxHeartbeats 400000 in
theorem rrising_any (n : Nat) (w : World) (hn : n ≤ 4096) :
    Calls Try.prog 45 #[.int .i64 n] w fun e w' => ∃ v, e = .returned v ∧ OwnI w' w.heap.size 3 v (asc n) ∧ Fr [] w w' := by
  go_enter Try.func45, Try.ntmps45
  go_wp2_with fail
  go_loopw [3, 4] (fun v i wr => ∃ k : Nat, k ≤ n ∧ i = .int .i64 (k + 1) ∧ OwnI wr w.heap.size 3 v (asc k) ∧ Fr [] w wr) (fun _ i _ => n + 1 - (intOf i).toNat)
  case atStart => exact ⟨0, by omega, rfl, OwnI.nil _ _ _, Fr.refl _ _⟩
  case round =>
    obtain ⟨k, hk, rfl, ho, hf⟩ := hrel
    by_cases hlt : k < n
    · have hle : (k : Int) + 1 ≤ n := by omega
      have d1 : decide ((k : Int) + 1 ≤ n) = true := by simpa using hle
      go_wp2_with (at_builtin; refine app_int wr _ rfl (.tmp 10) (.tmp 12) rfl w.heap.size _ (asc k) rfl ho rfl (by rw [asc_len]; omega) hf.size ?_)
      intro v' w' ho' hF
      have hf' := hF [] w (Nat.le_refl _) hf
      go_wp2_with fail
      refine ⟨⟨k + 1, by omega, by go_num, ?_, hf'⟩, by simp [intOf]; omega⟩
      rw [asc_succ]; exact ho'
    · obtain rfl : k = n := by omega
      have d1 : decide ((k : Int) + 1 ≤ k) = false := by simp; omega
      go_wp2_with fail
      go_ret
      exact ⟨_, rfl, ho, hf⟩
set_option maxHeartbeats 1000000 in
theorem rshuffle_in (b n : Nat) (s u : Int) (w : World) (hs : StrAt w b s u) (hn : n ≤ 4096) (hu0 : 0 ≤ u) (hu1 : u ≤ 999999000000) :
    Calls Try.prog 44 #[.pointer (some ⟨b, 0, none⟩), .int .i64 n] w fun x w' => ∃ v, x = .returned (.tuple #[v, .int .i64 (shufL (n - 1) (asc n) s u).1]) ∧ OwnI w' w.heap.size 3 v (okL (shufL (n - 1) (asc n) s u)) ∧
      StrAt w' b (shufL (n - 1) (asc n) s u).2.2.1 (shufL (n - 1) (asc n) s u).2.2.2 ∧ Fr [b] w w' := by
  have d1 : decide ((n : Int) < 0) = false := by simp
  have d2 : decide (4096 < (n : Int)) = false := by simp; omega
  have hb := hs.lt
  go_enter Try.func44, Try.ntmps44
  go_wp2_with fail
  refine (rrising_any _ _ (by omega)).mono ?_
  rintro x w1 ⟨v, rfl, ho1, hf1⟩
  have hs1 : StrAt w1 b s u := hs.fr hf1 (by simp)
  have hfr1 : Fr [b] w w1 := hf1.mono (by simp)
  clear hf1
  by_cases hn0 : n = 0
  · subst hn0
    go_wp2_with fail
    refine wp_loop_rounds 1 ?_
    rw [rounds_succ]
    go_wp2_with fail
    go_ret2
    exact ⟨_, rfl, ho1, hs1, hfr1⟩
  · have hn1 : 1 ≤ n := by omega
    obtain ⟨g, cap, rfl, hg, _⟩ := ho1.form (by rw [asc_len]; omega)
    rw [asc_len] at ho1 ⊢
    clear hn0
    go_wp2_with fail
    go_loopw [7, 8, 9, 10] (fun i _ _ _ wr => ∃ (k : Nat) (lk : List Int) (sk uk : Int), k + 1 ≤ n ∧ i = .int .i64 k ∧
      StrAt wr b sk uk ∧ OwnI wr w.heap.size 3 (.slice (some ⟨g, 0, none⟩) n cap) lk ∧ lk.length = n ∧ Fr [b] w wr ∧ u ≤ uk ∧ uk + 64 * k ≤ u + 64 * n ∧ shufL (n - 1) (asc n) s u = shufL k lk sk uk) (fun i _ _ _ _ => (intOf i).toNat)
    case atStart => exact ⟨n - 1, asc n, s, u, by omega, by go_num, hs1, ho1, asc_len n, hfr1, by omega, by omega, rfl⟩
    case round =>
      obtain ⟨k, lk, sk, uk, hk, rfl, hsk, hok, hlk, hfk, hu2, hu3, hT⟩ := hrel
      have HT := Lib.hid hT
      have HL := Lib.hid hlk
      clear hT hlk
      by_cases hk1 : 1 ≤ k
      · obtain ⟨j, rfl⟩ : ∃ j, k = j + 1 := ⟨k - 1, by omega⟩
        have hst := shufL_stop j lk sk uk
        have hgo := shufL_go j lk sk uk
        have hub := bU_bd ((j : Int) + 2) sk uk
        have hzz := bE_zero ((j : Int) + 2) sk uk
        have hB := rbelow_any b sk uk ((j : Int) + 2) wr hsk (by omega) (by omega)
        generalize bE ((j : Int) + 2) sk uk = E4 at *
        generalize bU ((j : Int) + 2) sk uk = u4 at *
        generalize bS ((j : Int) + 2) sk uk = s4 at *
        generalize bV ((j : Int) + 2) sk uk = v4 at *
        have HS := Lib.hid hst
        have HG := Lib.hid hgo
        have HZ := Lib.hid hzz
        have HB := Lib.hid hB
        clear hst hgo hzz hB
        go_wp2_with fail
        rw [show ((j : Int) + 1 + 1) = (j : Int) + 2 by omega]
        refine HB.out.mono ?_
        rintro x w3 ⟨rfl, hs3, on3⟩
        have hf3 : Fr [b] w w3 := hfk.trans' on3.fr (by simp)
        have ho3 := hok.fr on3.fr (by simp [Value.ownBlock]; omega)
        clear on3 HB hok hsk hfk
        by_cases hE : E4 = 0
        · have hG := HG.out hE
          obtain ⟨_, _, hv0, hv1⟩ := HZ.out hE
          subst hE
          have hT := HT.out
          rw [hG] at hT
          obtain ⟨q, rfl⟩ := Int.eq_ofNat_of_zero_le hv0
          rw [Int.toNat_natCast] at hT
          have HT' := Lib.hid hT
          have hln := (swp_len lk (j + 1) q).trans HL.out
          have HLN := Lib.hid hln
          have ci := ho3.cell (j + 1) (by have := HL.out; omega)
          have cj := ho3.cell q (by have := HL.out; omega)
          have fi := ho3.frozen (j + 1)
          have fj := ho3.frozen q
          have hset := (ho3.set (j + 1) (lk.getD q 0)).set q (lk.getD (j + 1) 0)
          have hq1 : q < n := by omega
          have hq2 : (q : Int) < n := by omega
          clear hT hG hln HS HG HZ
          change OwnI _ _ _ _ (swp lk (j + 1) q) at hset
          generalize swp lk (j + 1) q = l5 at *
          generalize lk.getD (j + 1) 0 = xi at *
          generalize lk.getD q 0 = xj at *
          obtain ⟨v', hy'⟩ := cell?_setCell_some (w := w3) (p := ⟨g, j + 1, none⟩) (x := .int .i64 xj) (q := ⟨g, q, none⟩) (v := .int .i64 xj) cj
          go_wp2_with fail
          refine ⟨⟨j, l5, s4, u4, by omega, by go_num, ?_, hset, HLN.out, ?_, by omega, by omega, HT'.out⟩, by simp [intOf]⟩
          · exact hs3.fr (Fr.setCell (Fr.setCell (Fr.refl [g] _) (.inl (by simp)) _) (.inl (by simp)) _) (by simp; omega)
          · exact (hf3.setCell (.inr hg) _).setCell (.inr hg) _
        · have hG := HS.out hE
          have hT := HT.out
          rw [hG] at hT
          have HT' := Lib.hid hT
          have hE' : (E4 != 0) = true := by simpa using hE
          have HE := Lib.hid hE
          clear hT hG HS HG HZ hE ho3
          go_wp2_with fail
          go_ret2
          rw [HT'.out]
          refine ⟨_, rfl, ?_, hs3, hf3⟩
          unfold okL; rw [if_neg HE.out]; exact OwnI.nil _ _ _
      · obtain rfl : k = 0 := by omega
        go_wp2_with fail
        go_ret2
        have hT := HT.out
        rw [hT]
        exact ⟨_, rfl, hok, hsk, hfk⟩
set_option maxHeartbeats 1000000 in
theorem rshuffle_g (b : Nat) (s u n : Int) (w : World) (hs : StrAt w b s u) (hu0 : 0 ≤ u) (hu1 : u ≤ 999999000000) :
    Calls Try.prog 44 #[.pointer (some ⟨b, 0, none⟩), .int .i64 n] w fun x w' => ∃ v E L S U, ShufRes n s u E L S U ∧ x = .returned (.tuple #[v, .int .i64 E]) ∧ OwnI w' w.heap.size 3 v L ∧ StrAt w' b S U ∧ Fr [b] w w' := by
  by_cases hi : 0 ≤ n ∧ n ≤ 4096
  · obtain ⟨k, rfl⟩ := Int.eq_ofNat_of_zero_le hi.1
    refine (rshuffle_in b k s u w hs (by omega) hu0 hu1).mono ?_
    rintro x w' ⟨v, rfl, h1, h2, h3⟩
    refine ⟨v, _, _, _, _, ⟨?_, ?_, ?_, ?_⟩, rfl, h1, h2, h3⟩
    · unfold shE; rw [if_pos hi]; rfl
    · unfold shL; rw [if_pos hi]; rfl
    · unfold shS; rw [if_pos hi]; rfl
    · unfold shU; rw [if_pos hi]; rfl
  · have hr : ShufRes n s u 2 [] s u := by
      refine ⟨?_, ?_, ?_, ?_⟩
      · unfold shE; rw [if_neg hi]
      · unfold shL; rw [if_neg hi]
      · unfold shS; rw [if_neg hi]
      · unfold shU; rw [if_neg hi]
    have hc : decide (n < 0) = true ∨ (decide (n < 0) = false ∧ decide (4096 < n) = true) := by
      simp only [decide_eq_true_eq, decide_eq_false_iff_not]; omega
    clear hi
    rcases hc with d1 | ⟨d1, d2⟩ <;>
    · go_enter Try.func44, Try.ntmps44
      go_wp2
      go_ret2
      exact ⟨_, _, _, _, _, hr, rfl, OwnI.nil _ _ _, hs, Fr.refl _ _⟩
set_option maxHeartbeats 1000000 in
theorem rsample_in (b n k : Nat) (s u : Int) (w : World) (hs : StrAt w b s u) (hn : n ≤ 4096) (hkn : k ≤ n) (hu0 : 0 ≤ u) (hu1 : u ≤ 999999000000) :
    Calls Try.prog 43 #[.pointer (some ⟨b, 0, none⟩), .int .i64 n, .int .i64 k] w fun x w' => ∃ v, x = .returned (.tuple #[v, .int .i64 (sampL k n 0 (asc n) s u).1]) ∧ RdB w' w.heap.size v (takeL k (sampL k n 0 (asc n) s u)) ∧
      StrAt w' b (sampL k n 0 (asc n) s u).2.2.1 (sampL k n 0 (asc n) s u).2.2.2 ∧ Fr [b] w w' := by
  have d1 : decide ((n : Int) < 0) = false := by simp
  have d2 : decide (4096 < (n : Int)) = false := by simp; omega
  have d3 : decide ((k : Int) < 0) = false := by simp
  have d4 : decide (n < k) = false := by simp; omega
  have d5 : decide ((n : Int) < k) = false := by simp; omega
  have hb := hs.lt
  go_enter Try.func43, Try.ntmps43
  go_wp2_with fail
  refine (rrising_any _ _ (by omega)).mono ?_
  rintro x w1 ⟨v, rfl, ho1, hf1⟩
  have hs1 : StrAt w1 b s u := hs.fr hf1 (by simp)
  have hfr1 : Fr [b] w w1 := hf1.mono (by simp)
  clear hf1
  by_cases hn0 : n = 0
  · subst hn0
    obtain rfl : k = 0 := by omega
    obtain ⟨a, cap, rfl, h1, h2⟩ := ho1.any
    have h2' : cap ≤ 9223372036854775807 := h2
    go_wp2_with fail
    refine wp_loop_rounds 1 ?_
    rw [rounds_succ]
    go_wp2_with fail
    go_ret2
    exact ⟨_, rfl, ho1.rdb, hs1, hfr1⟩
  · have hn1 : 1 ≤ n := by omega
    obtain ⟨g, cap, rfl, hg, _, hcap1, hcap2⟩ := ho1.form (by rw [asc_len]; omega)
    rw [asc_len] at ho1 hcap1 ⊢
    have hcap3 : cap ≤ 9223372036854775807 := hcap2
    clear hn0
    go_wp2_with fail
    go_loopw [9, 10, 11, 12] (fun i _ _ _ wr => ∃ (j : Nat) (lk : List Int) (sk uk : Int), j ≤ k ∧ i = .int .i64 j ∧
      StrAt wr b sk uk ∧ OwnI wr w.heap.size 3 (.slice (some ⟨g, 0, none⟩) n cap) lk ∧ lk.length = n ∧ Fr [b] w wr ∧ u ≤ uk ∧ uk ≤ u + 64 * j ∧ sampL k n 0 (asc n) s u = sampL (k - j) n j lk sk uk) (fun i _ _ _ _ => k - (intOf i).toNat)
    case atStart => exact ⟨0, asc n, s, u, by omega, rfl, hs1, ho1, asc_len n, hfr1, by omega, by omega, rfl⟩
    case round =>
      obtain ⟨j, lk, sk, uk, hk, rfl, hsk, hok, hlk, hfk, hu2, hu3, hT⟩ := hrel
      have HT := Lib.hid hT
      have HL := Lib.hid hlk
      clear hT hlk
      by_cases hk1 : j < k
      · obtain ⟨f, hf⟩ : ∃ f, k - j = f + 1 := ⟨k - j - 1, by omega⟩
        have HF := Lib.hid hf
        clear hf
        have hst := sampL_stop f n j lk sk uk
        have hgo := sampL_go f n j lk sk uk
        have hub := bU_bd ((n : Int) - j) sk uk
        have hzz := bE_zero ((n : Int) - j) sk uk
        have hB := rbelow_any b sk uk ((n : Int) - j) wr hsk (by omega) (by omega)
        generalize bE ((n : Int) - j) sk uk = E4 at *
        generalize bU ((n : Int) - j) sk uk = u4 at *
        generalize bS ((n : Int) - j) sk uk = s4 at *
        generalize bV ((n : Int) - j) sk uk = v4 at *
        have HS := Lib.hid hst
        have HG := Lib.hid hgo
        have HZ := Lib.hid hzz
        have HB := Lib.hid hB
        clear hst hgo hzz hB
        go_wp2_with fail
        refine HB.out.mono ?_
        rintro x w3 ⟨rfl, hs3, on3⟩
        have hf3 : Fr [b] w w3 := hfk.trans' on3.fr (by simp)
        have ho3 := hok.fr on3.fr (by simp [Value.ownBlock]; omega)
        clear on3 HB hok hsk hfk
        by_cases hE : E4 = 0
        · have hG := HG.out hE
          obtain ⟨_, _, hv0, hv1⟩ := HZ.out hE
          subst hE
          have hT := HT.out
          rw [HF.out, hG] at hT
          obtain ⟨q, rfl⟩ := Int.eq_ofNat_of_zero_le hv0
          rw [Int.toNat_natCast] at hT
          have HT' := Lib.hid hT
          have hln := (swp_len lk j (j + q)).trans HL.out
          have HLN := Lib.hid hln
          have ci := ho3.cell j (by have := HL.out; omega)
          have cj := ho3.cell (j + q) (by have := HL.out; omega)
          have fi := ho3.frozen j
          have fj := ho3.frozen (j + q)
          have hset := (ho3.set j (lk.getD (j + q) 0)).set (j + q) (lk.getD j 0)
          have hq1 : j + q < n := by omega
          have hq2 : (j : Int) + q < n := by omega
          clear hT hG hln HS HG HZ
          change OwnI _ _ _ _ (swp lk j (j + q)) at hset
          generalize swp lk j (j + q) = l5 at *
          generalize lk.getD j 0 = xi at *
          generalize lk.getD (j + q) 0 = xj at *
          obtain ⟨v', hy'⟩ := cell?_setCell_some (w := w3) (p := ⟨g, j, none⟩) (x := .int .i64 xj) (q := ⟨g, j + q, none⟩) (v := .int .i64 xj) cj
          go_wp2_with fail
          have hF := HF.out
          refine ⟨⟨j + 1, l5, s4, u4, by omega, by go_num, ?_, hset, HLN.out, ?_, by omega, by omega, by rw [HT'.out]; congr 1; omega⟩, by simp [intOf]; omega⟩
          · exact hs3.fr (Fr.setCell (Fr.setCell (Fr.refl [g] _) (.inl (by simp)) _) (.inl (by simp)) _) (by simp; omega)
          · exact (hf3.setCell (.inr hg) _).setCell (.inr hg) _
        · have hG := HS.out hE
          have hT := HT.out
          rw [HF.out, hG] at hT
          have HT' := Lib.hid hT
          have hE' : (E4 != 0) = true := by simpa using hE
          have HE := Lib.hid hE
          clear hT hG HS HG HZ hE ho3
          go_wp2_with fail
          go_ret2
          rw [HT'.out]
          refine ⟨_, rfl, ?_, hs3, hf3⟩
          unfold takeL; rw [if_neg HE.out]; exact RdB.nil _ _
      · obtain rfl : j = k := by omega
        go_wp2_with fail
        go_ret2
        have hT := HT.out
        rw [Nat.sub_self, show sampL 0 n j lk sk uk = (0, lk, sk, uk) from rfl] at hT
        rw [hT]
        refine ⟨_, rfl, ?_, hsk, hfk⟩
        unfold takeL; rw [if_pos rfl]
        exact hok.rdb.take (by have := HL.out; omega)
set_option maxHeartbeats 1000000 in
theorem rsample_g (b : Nat) (s u n k : Int) (w : World) (hs : StrAt w b s u) (hu0 : 0 ≤ u) (hu1 : u ≤ 999999000000) :
    Calls Try.prog 43 #[.pointer (some ⟨b, 0, none⟩), .int .i64 n, .int .i64 k] w fun x w' => ∃ v E L S U, SampRes n k s u E L S U ∧ x = .returned (.tuple #[v, .int .i64 E]) ∧ RdB w' w.heap.size v L ∧ StrAt w' b S U ∧ Fr [b] w w' := by
  by_cases hi : inS n k = true
  · have hi' := hi
    simp [inS] at hi'
    obtain ⟨n, rfl⟩ := Int.eq_ofNat_of_zero_le hi'.1
    obtain ⟨k, rfl⟩ := Int.eq_ofNat_of_zero_le hi'.2.2.1
    refine (rsample_in b n k s u w hs (by omega) (by omega) hu0 hu1).mono ?_
    rintro x w' ⟨v, rfl, h1, h2, h3⟩
    refine ⟨v, _, _, _, _, ⟨?_, ?_, ?_, ?_⟩, rfl, h1, h2, h3⟩
    · unfold samE; rw [if_pos hi]; rfl
    · unfold samL; rw [if_pos hi]; rfl
    · unfold samS; rw [if_pos hi]; rfl
    · unfold samU; rw [if_pos hi]; rfl
  · have hr : SampRes n k s u 2 [] s u := by
      refine ⟨?_, ?_, ?_, ?_⟩
      · unfold samE; rw [if_neg hi]
      · unfold samL; rw [if_neg hi]
      · unfold samS; rw [if_neg hi]
      · unfold samU; rw [if_neg hi]
    have hc : decide (n < 0) = true ∨ (decide (n < 0) = false ∧ decide (4096 < n) = true) ∨ (decide (n < 0) = false ∧ decide (4096 < n) = false ∧ decide (k < 0) = true)
        ∨ (decide (n < 0) = false ∧ decide (4096 < n) = false ∧ decide (k < 0) = false ∧ decide (n < k) = true) := by
      simp [inS] at hi
      simp only [decide_eq_true_eq, decide_eq_false_iff_not]; omega
    clear hi
    rcases hc with d1 | ⟨d1, d2⟩ | ⟨d1, d2, d3⟩ | ⟨d1, d2, d3, d4⟩ <;>
    · go_enter Try.func43, Try.ntmps43
      go_wp2
      go_ret2
      exact ⟨_, _, _, _, _, hr, rfl, RdB.nil _ _, hs, Fr.refl _ _⟩
end Go.Proofs.Ytkiagmfdfojoeaa
