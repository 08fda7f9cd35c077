/-
  What a right game is: facts of the first error of a game. Plain lemmas.
-/
import Derived.Test.YtijdlggoaianbaaCheck
set_option linter.unusedVariables false
namespace Go.Proofs.Ytijdlggoaianbaa
open Go.RowKit
/-- what a right list of add-ons is -/
theorem adE_facts {a : Ad} (h : adE a = 0) : nameB a.name = true ∧ (a.kind = 1 ∨ a.kind = 2) ∧ 0 ≤ a.price ∧ a.price ≤ 1000000 ∧
    (a.kind = 1 → a.digits = 0 ∧ a.prizes.length = 0 ∧ 1 ≤ a.factors.length ∧ a.factors.length ≤ 8 ∧ allR a.factors 1 100 = true) ∧
    (a.kind = 2 → a.factors.length = 0 ∧ 1 ≤ a.digits ∧ a.digits ≤ 8 ∧ (a.prizes.length : Int) = a.digits ∧ allR a.prizes 0 1000000000 = true) := by
  unfold adE at h
  split at h
  · simp at h
  rename_i h1
  split at h
  · simp at h
  rename_i h2
  split at h
  · simp at h
  rename_i h3
  have hp := inR_of (by simpa using h3)
  refine ⟨by simpa using h1, by omega, hp.1, hp.2, fun hk => ?_, fun hk => ?_⟩
  · rw [if_pos hk] at h
    split at h
    · simp at h
    rename_i h4
    split at h
    · simp at h
    rename_i h5
    have hl := inR_of (by simpa using h5)
    refine ⟨by omega, by omega, by omega, by omega, ?_⟩
    unfold allE at h
    split at h
    · assumption
    · simp at h
  · rw [if_neg (by omega)] at h
    split at h
    · simp at h
    rename_i h4
    split at h
    · simp at h
    rename_i h5
    have hl := inR_of (by simpa using h5)
    split at h
    · simp at h
    rename_i h6
    refine ⟨by omega, hl.1, hl.2, by omega, ?_⟩
    unfold allE at h
    split at h
    · assumption
    · simp at h
theorem addsTo_facts {l : List Ad} : ∀ (f k : Nat), f + k = l.length → addsTo l f k = 0 → ∀ i a, k ≤ i → l[i]? = some a → adE a = 0 ∧ sameK l i a = false := by
  intro f
  induction f with
  | zero =>
    intro k hk _ i a hi ha
    have := (List.getElem?_eq_some_iff.1 ha).1
    omega
  | succ f ih =>
    intro k hk h i a hi ha
    obtain ⟨x, hx⟩ : ∃ x, l[k]? = some x := ⟨_, List.getElem?_eq_getElem (by omega)⟩
    rw [addsTo, hx] at h
    simp only at h
    split at h
    · rename_i he; exact absurd h he
    rename_i he
    split at h
    · simp at h
    rename_i hs
    by_cases hik : i = k
    · subst hik
      rw [hx] at ha
      obtain rfl := Option.some.inj ha
      refine ⟨by simpa using he, ?_⟩
      simp at hs
      exact hs.2
    · exact ih (k + 1) (by omega) h i a (by omega) ha
theorem addsE_facts {l : List Ad} (h : addsE l = 0) : l.length ≤ 4 ∧ ∀ i a, l[i]? = some a → adE a = 0 ∧ sameK l i a = false := by
  unfold addsE at h
  split at h
  · simp at h
  · exact ⟨by omega, fun i a ha => addsTo_facts l.length 0 (by omega) h i a (by omega) ha⟩
theorem chkE_facts {g : Gm} (h : chkE g = 0) : headB g = true ∧ addsE g.addons = 0 ∧ tisE g = 0 := by
  unfold chkE at h
  split at h
  · simp at h
  rename_i h1
  split at h
  · simp at h
  rename_i h2
  split at h
  · simp at h
  rename_i h3
  split at h
  · rename_i h4; exact absurd h h4
  rename_i h4
  refine ⟨?_, by simpa using h4, h⟩
  unfold headB
  simp at h1 h3
  have hk : g.kind = 1 ∨ g.kind = 2 := by omega
  simp [h1, h3.1, h3.2, hk]
end Go.Proofs.Ytijdlggoaianbaa
