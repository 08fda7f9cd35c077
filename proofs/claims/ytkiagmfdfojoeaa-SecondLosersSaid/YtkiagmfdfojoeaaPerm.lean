/-
  PLAIN LAWS of the shuffle: the steps of Shuffle and of Sample keep a permutation of 1 .. n; a shorter sample is the beginning of a longer one.
-/
import Derived.Test.YtkiagmfdfojoeaaSampleAll
import Derived.Test.YtkiagmfdfojoeaaRd
set_option linter.unusedVariables false
namespace Go.Proofs.Ytkiagmfdfojoeaa
open Go.RowKit
theorem infoBool : (Try.prog.info? 4).map (fun i => (i.zero, i.size, i.bytes)) = some (some (.bool false), 1, 1) := by kernel_rfl
theorem swp_perm (l : List Int) (i j : Nat) (hi : i < l.length) (hj : j < l.length) : (swp l i j).Perm l := by
  have := List.set_set_perm hi hj
  unfold swp
  simpa [List.getD, hi, hj] using this
theorem shufL_perm (i : Nat) : ∀ l s u, (i = 0 ∨ i < l.length) → (shufL i l s u).2.1.Perm l := by
  induction i with
  | zero => intro l s u _; simp [shufL]
  | succ i ih =>
    intro l s u hl
    rw [shufL]; split
    · rename_i hE
      have := bE_zero _ _ _ hE
      exact (ih _ _ _ (by rw [swp_len]; omega)).trans (swp_perm _ _ _ (by omega) (by omega))
    · simp
theorem sampL_perm (f n : Nat) : ∀ i l s u, i + f ≤ n → l.length = n → (sampL f n i l s u).2.1.Perm l := by
  induction f with
  | zero => intro i l s u _ _; simp [sampL]
  | succ f ih =>
    intro i l s u hi hl
    rw [sampL]; split
    · rename_i hE
      have := bE_zero _ _ _ hE
      exact (ih _ _ _ _ (by omega) (by rw [swp_len]; omega)).trans (swp_perm _ _ _ (by omega) (by omega))
    · simp
theorem asc_nodup (n : Nat) : (asc n).Nodup := by
  unfold asc List.Nodup
  rw [List.pairwise_map]
  exact List.nodup_range.imp (by intro a b h; omega)
theorem asc_bd (n : Nat) (x : Int) (h : x ∈ asc n) : 1 ≤ x ∧ x ≤ n := by
  simp [asc] at h
  obtain ⟨a, h1, h2⟩ := h
  omega
theorem swp_take (l : List Int) (i j m : Nat) (hm : m ≤ i) (hij : i ≤ j) : (swp l i j).take m = l.take m := by
  unfold swp
  rw [List.take_set_of_le (by omega), List.take_set_of_le (by omega)]
/-- the places before i stay -/
theorem sampL_keep (f n : Nat) : ∀ i l s u m, m ≤ i → (sampL f n i l s u).2.1.take m = l.take m := by
  induction f with
  | zero => intro i l s u m _; simp [sampL]
  | succ f ih =>
    intro i l s u m hm
    rw [sampL]; split
    · rw [ih _ _ _ _ _ (by omega), swp_take _ _ _ _ hm (by omega)]
    · rfl
theorem sampL_fewer (f n : Nat) : ∀ f' i l s u, f' ≤ f → (sampL f n i l s u).1 = 0 → (sampL f' n i l s u).1 = 0 ∧ (sampL f' n i l s u).2.1.take (i + f') = (sampL f n i l s u).2.1.take (i + f') := by
  induction f with
  | zero => intro f' i l s u h1 h2; obtain rfl : f' = 0 := by omega
            exact ⟨h2, rfl⟩
  | succ f ih =>
    intro f' i l s u h1 h2
    by_cases hE : bE ((n : Int) - i) s u = 0
    · rw [sampL_go _ _ _ _ _ _ hE] at h2 ⊢
      cases f' with
      | zero =>
        refine ⟨rfl, ?_⟩
        rw [Nat.add_zero, show sampL 0 n i l s u = (0, l, s, u) from rfl, sampL_keep f n (i + 1) _ _ _ i (by omega), swp_take _ _ _ _ (by omega) (by omega)]
      | succ f' =>
        rw [sampL_go _ _ _ _ _ _ hE]
        have := ih f' (i + 1) _ _ _ (by omega) h2
        rw [show i + (f' + 1) = i + 1 + f' by omega]
        exact this
    · rw [sampL_stop _ _ _ _ _ _ hE] at h2
      exact absurd h2 hE
theorem shL_facts (n s u : Int) (hn : 0 ≤ n ∧ n ≤ 4096) : (shE n s u = 11 ∧ shL n s u = []) ∨ (shE n s u = 0 ∧ (shL n s u).Nodup ∧ ((shL n s u).length : Int) = n ∧ ∀ x ∈ shL n s u, 1 ≤ x ∧ x ≤ n) := by
  unfold shE shL
  rw [if_pos hn, if_pos hn]
  obtain ⟨n, rfl⟩ := Int.eq_ofNat_of_zero_le hn.1
  rw [Int.toNat_natCast]
  have hp := shufL_perm (n - 1) (asc n) s u (by rw [asc_len]; omega)
  unfold okL
  rcases shufL_E (n - 1) (by omega) (asc n) s u with h | h
  · right
    rw [if_pos h]
    refine ⟨h, hp.nodup_iff.2 (asc_nodup n), by rw [hp.length_eq, asc_len], fun x hx => asc_bd n x (hp.mem_iff.1 hx)⟩
  · left
    rw [if_neg (by omega)]
    exact ⟨h, rfl⟩
/-- what a sample is: the tries are used up, or k different numbers from 1 to n, and each smaller sample is its beginning -/
theorem samL_facts (n k : Nat) (s u : Int) (hk : k ≤ n) (hn : n ≤ 4096) : (samE n k s u = 11 ∧ samL n k s u = []) ∨
    (samE n k s u = 0 ∧ (samL n k s u).Nodup ∧ (samL n k s u).length = k ∧ (∀ x ∈ samL n k s u, 1 ≤ x ∧ x ≤ n) ∧ ∀ m : Nat, m ≤ k → samE n m s u = 0 ∧ samL n m s u = (samL n k s u).take m) := by
  have hi : inS n k = true := by simp [inS]; omega
  unfold samE samL
  rw [if_pos hi, if_pos hi, Int.toNat_natCast, Int.toNat_natCast]
  have hp := sampL_perm k n 0 (asc n) s u (by omega) (asc_len n)
  unfold takeL
  rcases sampL_E k n hn 0 (asc n) s u (by omega) with h | h
  · right
    rw [if_pos h]
    refine ⟨h, (hp.nodup_iff.2 (asc_nodup n)).sublist (List.take_sublist _ _), by rw [List.length_take, hp.length_eq, asc_len]; omega, fun x hx => asc_bd n x (hp.mem_iff.1 (List.mem_of_mem_take hx)), fun m hm => ?_⟩
    have hi' : inS n m = true := by simp [inS]; omega
    have hf := sampL_fewer k n m 0 (asc n) s u hm h
    rw [if_pos hi', if_pos hi', Int.toNat_natCast]
    refine ⟨hf.1, ?_⟩
    rw [if_pos hf.1, List.take_take, Nat.min_eq_left hm]
    simpa using hf.2
  · left
    rw [if_neg (by omega)]
    exact ⟨h, rfl⟩
end Go.Proofs.Ytkiagmfdfojoeaa
