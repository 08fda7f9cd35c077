/-
  Facts of shuffles. Plain lemmas.
-/
import Derived.Test.YtijdlggoaianbaaDoorShuffle
import Derived.Test.YtijdlggoaianbaaDoorRd
set_option linter.unusedVariables false
namespace Go.Proofs.YtijdlggoaianbaaDoor
open Go.RowKit
theorem swp_perm (l : List Int) (i j : Nat) (hi : i < l.length) (hj : j < l.length) : (swp l i j).Perm l := by
  have := List.set_set_perm hi hj
  unfold swp
  simpa [List.getD, hi, hj] using this
theorem shufL_perm (i : Nat) : ∀ l s u, (i = 0 ∨ i < l.length) → (shufL i l s u).2.1.Perm l := by
  induction i with
  | zero => intro l s u _; simp [shufL]
  | succ i ih =>
    intro l s u hl
    rw [shufL]; split
    · rename_i hE
      have := bE_zero _ _ _ hE
      exact (ih _ _ _ (by rw [swp_len]; omega)).trans (swp_perm _ _ _ (by omega) (by omega))
    · simp
theorem asc_nodup (n : Nat) : (asc n).Nodup := by
  unfold asc List.Nodup
  rw [List.pairwise_map]
  exact List.nodup_range.imp (by intro a b h; omega)
theorem asc_bd (n : Nat) (x : Int) (h : x ∈ asc n) : 1 ≤ x ∧ x ≤ n := by
  simp [asc] at h
  obtain ⟨a, h1, h2⟩ := h
  omega
theorem shL_facts (n s u : Int) (hn : 0 ≤ n ∧ n ≤ 4096) : (shE n s u = 11 ∧ shL n s u = []) ∨ (shE n s u = 0 ∧ (shL n s u).Nodup ∧ ((shL n s u).length : Int) = n ∧ ∀ x ∈ shL n s u, 1 ≤ x ∧ x ≤ n) := by
  unfold shE shL
  rw [if_pos hn, if_pos hn]
  obtain ⟨n, rfl⟩ := Int.eq_ofNat_of_zero_le hn.1
  rw [Int.toNat_natCast]
  have hp := shufL_perm (n - 1) (asc n) s u (by rw [asc_len]; omega)
  unfold okL
  rcases shufL_E (n - 1) (by omega) (asc n) s u with h | h
  · right
    rw [if_pos h]
    refine ⟨h, hp.nodup_iff.2 (asc_nodup n), by rw [hp.length_eq, asc_len], fun x hx => asc_bd n x (hp.mem_iff.1 hx)⟩
  · left
    rw [if_neg (by omega)]
    exact ⟨h, rfl⟩
end Go.Proofs.YtijdlggoaianbaaDoor
