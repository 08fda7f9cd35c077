/-
  Draw of the second-chance drawing (layer 43), its reference, and lives: in terms of plain functions on lists.
-/
import Derived.Test.YtkiagmfdfojoeaaRef
import Derived.Test.YtkiagmfdfojoeaaPerm
set_option linter.unusedVariables false
namespace Go.Proofs.Ytkiagmfdfojoeaa
open Go.RowKit
/-- how many are drawn -/
def drK (N : Nat) (n : Int) : Nat := (max 0 (min n N)).toNat
def pickL (l L : List Int) : List Int := L.map fun p => l.getD (p - 1).toNat 0
def drE (l : List Int) (s n : Int) : Int := if 1024 < l.length then 3 else samE l.length (drK l.length n) s 0
def drL (l : List Int) (s n : Int) : List Int := if 1024 < l.length then [] else pickL l (samL l.length (drK l.length n) s 0)
theorem drK_le (N : Nat) (n : Int) : drK N n ≤ N := by unfold drK; omega
theorem pickL_succ (l L : List Int) (k : Nat) (h : k < L.length) : pickL l (L.take (k + 1)) = pickL l (L.take k) ++ [l.getD (L.getD k 0 - 1).toNat 0] := by
  unfold pickL; rw [take_succ' L k h, List.map_append]; rfl
theorem pickL_len (l L : List Int) : (pickL l L).length = L.length := by simp [pickL]
set_option maxHeartbeats 1000000 in
theorem draw_any (v : Value) (l : List Int) (s n : Int) (w : World) (hr : RdI w v l) :
    Calls Try.prog 32 #[v, .int .u64 s, .int .i64 n] w fun x w' => ∃ v', x = .returned (.tuple #[v', .int .i64 (drE l s n)]) ∧ OwnI w' w.heap.size 3 v' (drL l s n) ∧ Fr [] w w' := by
  obtain ⟨a, cap, rfl, hc1, hc2, hrd⟩ := hr
  by_cases hlen : 1024 < l.length
  · have d1 : decide (1024 < (l.length : Int)) = true := by simp; omega
    have d2 : decide (1024 < l.length) = true := by simpa using hlen
    have hE : drE l s n = 3 := by unfold drE; rw [if_pos hlen]
    have hL : drL l s n = [] := by unfold drL; rw [if_pos hlen]
    rw [hE, hL]
    clear hE hL hrd
    go_enter Try.func32, Try.ntmps32
    go_wp2_with fail
    go_ret2
    exact ⟨_, rfl, OwnI.nil _ _ _, Fr.refl _ _⟩
  · have hE : drE l s n = samE l.length (drK l.length n) s 0 := by unfold drE; rw [if_neg hlen]
    have hL : drL l s n = pickL l (samL l.length (drK l.length n) s 0) := by unfold drL; rw [if_neg hlen]
    rw [hE, hL]
    clear hE hL
    obtain ⟨N, hN⟩ : ∃ N, N = l.length := ⟨_, rfl⟩
    rw [← hN] at hrd hlen ⊢
    have d1 : decide (1024 < (N : Int)) = false := by simp; omega
    have d2 : decide (1024 < N) = false := by simp; omega
    have hfacts := samL_facts N (drK N n) s 0 (drK_le N n) (by omega)
    have hK : (drK N n : Int) = max 0 (min n N) := by unfold drK; omega
    have hbd : ∀ x ∈ samL N (drK N n) s 0, 1 ≤ x ∧ x ≤ N := by
      rcases hfacts with ⟨_, h⟩ | ⟨_, _, _, h, _⟩
      · rw [h]; simp
      · exact h
    have hlL : (samL N (drK N n) s 0).length ≤ 1024 := by
      rcases hfacts with ⟨_, h⟩ | ⟨_, _, h, _⟩
      · rw [h]; simp
      · rw [h]; have := drK_le N n; omega
    have hz : samE N (drK N n) s 0 ≠ 0 → samL N (drK N n) s 0 = [] := by
      intro h0
      rcases hfacts with ⟨_, h⟩ | ⟨h, _⟩
      · exact h
      · exact absurd h h0
    have hS := fun (b : Nat) (w : World) (hs : StrAt w b s 0) => sample_any b s 0 N (drK N n) w hs (by omega) (by omega)
    unfold SampPost at hS
    have hq : ((N : Int) < n ∧ (0 : Int) < N ∧ (drK N n : Int) = N) ∨ ((N : Int) < n ∧ (N : Int) ≤ 0 ∧ (drK N n : Int) = 0) ∨ (n = (N : Int) ∧ (0 : Int) < N ∧ (drK N n : Int) = N) ∨ (n = (N : Int) ∧ (N : Int) ≤ 0 ∧ (drK N n : Int) = 0) ∨
        (n < (N : Int) ∧ 0 < n ∧ (drK N n : Int) = n) ∨ (n < (N : Int) ∧ n ≤ 0 ∧ (drK N n : Int) = 0) := by omega
    have hN0 : (0 : Int) ≤ N := by omega
    obtain ⟨Q, hQ⟩ : ∃ Q : Int, Q = (drK N n : Int) := ⟨_, rfl⟩
    rw [← hQ] at hS hbd hlL hz hq ⊢
    clear hK hQ hfacts
    generalize samE N Q s 0 = E at *
    generalize samL N Q s 0 = L at *
    generalize samS N Q s 0 = S1 at *
    generalize samU N Q s 0 = U1 at *
    rcases hq with ⟨hq1, hq2, rfl⟩ | ⟨hq1, hq2, rfl⟩ | ⟨rfl, hq2, rfl⟩ | ⟨rfl, hq2, rfl⟩ | ⟨hq1, hq2, rfl⟩ | ⟨hq1, hq2, rfl⟩
    all_goals
      have HS := Lib.hid hS
      have HZ := Lib.hid hz
      have HN := Lib.hid hN
      clear hS hz hN hc1 hc2
      go_enter Try.func32, Try.ntmps32
      go_wp2_with fail
      refine (new_any _ _).mono ?_
      rintro e w1 ⟨rfl, hs1, hz1, hb1⟩
      go_wp2_with fail
      refine (HS.out _ _ hs1).mono ?_
      rintro e w2 ⟨v2, rfl, ho, hs2, hf2⟩
      have hF2 : Fr [] w w2 := (Fr.of_below hb1).trans' hf2 (by simp)
      have hr2 := ho.rd
      clear ho hs1 hs2 hf2 hb1 hz1 HS hq2
      by_cases hE : E = 0
      · subst hE
        obtain ⟨a2, cap2, rfl, _, _, hrd2⟩ := hr2
        obtain ⟨m, hM⟩ : ∃ m, m = L.length := ⟨_, rfl⟩
        rw [← hM] at hlL hrd2 ⊢
        have HM := Lib.hid hM
        clear hM HZ
        go_wp2_with fail
        go_loopw [10, 12, 34] (fun out _ i wr => ∃ k : Nat, k ≤ m ∧ i = .int .i64 k ∧ OwnI wr w2.heap.size 3 out (pickL l (L.take k)) ∧ Fr [] w2 wr) (fun _ _ i _ => m - (intOf i).toNat)
        case atStart => exact ⟨0, by omega, rfl, OwnI.nil _ _ _, Fr.refl _ _⟩
        case round =>
          obtain ⟨k, hk, rfl, ho, hf⟩ := hrel
          by_cases hlt : k < m
          · obtain ⟨g2, o2, rfl, hcell2⟩ := hrd2 k hlt
            have c2 := hf.cell_some hcell2 (by simp)
            have hps := pickL_succ l L k (by have := HM.out; omega)
            have hb := hbd (L.getD k 0) (by have := HM.out; simp [List.getD, show k < L.length by omega])
            generalize L.getD k 0 = p at *
            obtain ⟨q, hq⟩ := Int.eq_ofNat_of_zero_le (show 0 ≤ p - 1 by omega)
            obtain rfl : p = (q : Int) + 1 := by omega
            rw [show ((q : Int) + 1 - 1).toNat = q by omega] at hps
            obtain ⟨g, o, rfl, hcell⟩ := hrd q (by omega)
            have c1 := hf.cell_some (hF2.cell_some hcell (by simp)) (by simp)
            have HPS := Lib.hid hps
            have hql : q < N := by omega
            clear hps hcell hcell2 hq
            generalize l.getD q 0 = y at *
            go_wp2_with (at_builtin; refine app_int wr y rfl (.tmp 38) (.tmp 44) rfl w2.heap.size _ (pickL l (L.take k)) rfl ho rfl (by rw [pickL_len]; have := HM.out; simp; omega) hf.size ?_)
            intro v' w' ho' hF
            have hf' := hF [] w2 (Nat.le_refl _) hf
            go_wp2_with fail
            refine ⟨⟨k + 1, by omega, by go_num, ?_, hf'⟩, by simp [intOf]; omega⟩
            rw [HPS.out]; exact ho'
          · obtain rfl : k = m := by omega
            go_wp2_with fail
            go_ret2
            refine ⟨_, rfl, ?_, hF2.trans hf⟩
            have hM := HM.out
            rw [hM, List.take_length] at ho
            exact ho.mono hF2.size
      · have hL := HZ.out hE
        have d3 : (E != 0) = true := by simpa using hE
        subst hL
        clear hE HZ
        go_wp2_with fail
        go_ret2
        exact ⟨_, rfl, OwnI.nil _ _ _, hF2⟩
end Go.Proofs.Ytkiagmfdfojoeaa
