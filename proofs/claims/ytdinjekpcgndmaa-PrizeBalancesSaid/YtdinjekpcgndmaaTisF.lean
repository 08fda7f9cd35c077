/-
  What right tiers are: each is right by itself; its kind is one of three, its value in range. Plain lemmas.
-/
import Derived.Test.YtdinjekpcgndmaaRollF
set_option linter.unusedVariables false
namespace Go.Proofs.Ytdinjekpcgndmaa
open Go.RowKit
theorem tisTo_facts {g : Gm} : ∀ (f k : Nat), f + k = g.tiers.length → tisTo g g.tiers f k = 0 → ∀ i t, k ≤ i → g.tiers[i]? = some t → tiE g t = 0 := by
  intro f
  induction f with
  | zero =>
    intro k hk _ i t hi ht
    have := (List.getElem?_eq_some_iff.1 ht).1
    omega
  | succ f ih =>
    intro k hk h i t hi ht
    obtain ⟨x, hx⟩ : ∃ x, g.tiers[k]? = some x := ⟨_, List.getElem?_eq_getElem (by omega)⟩
    by_cases h1 : tiE g x = 0
    · cases hc : covered g g.tiers k x
      · rw [tisTo_go hx h1 hc] at h
        by_cases e : i = k
        · subst e
          rw [hx] at ht
          obtain rfl := Option.some.inj ht
          exact h1
        · exact ih (k + 1) (by omega) h i t (by omega) ht
      · rw [tisTo_cov hx h1 hc] at h; simp at h
    · rw [tisTo_err hx h1] at h; exact absurd h h1
theorem tis_facts {g : Gm} (h : tisE g = 0) (i : Nat) (t : Ti) (ht : g.tiers[i]? = some t) : tiE g t = 0 := by
  unfold tisE at h
  split at h
  · simp at h
  · exact tisTo_facts g.tiers.length 0 (by omega) h i t (by omega) ht
theorem tis_kind {g : Gm} (h : tisE g = 0) (i : Nat) (t : Ti) (ht : g.tiers[i]? = some t) : (t.kind = 1 ∨ t.kind = 2 ∨ t.kind = 3) ∧ 0 ≤ t.value ∧ t.value ≤ 1000000000 := by
  have := tis_facts h i t ht
  unfold tiE at this
  split at this
  · rename_i h1; exact absurd this h1
  split at this
  · simp at this
  rename_i h2
  split at this
  · simp at this
  rename_i h3
  have := inR_of (by simpa using h3)
  exact ⟨by omega, this⟩
/-- no jackpot: the first one is none -/
theorem jack_fst (T : List Ti) : anyTo (jackP T) T.length = !decide (fstE T < 0) := by
  rcases fstE_of T with ⟨h1, h2⟩ | ⟨j, h1, h2, h3⟩
  · rw [h1, anyTo_no (fun i hi => by unfold jackP; simpa using h2 i hi)]; simp
  · rw [h1, anyTo_mk h2 (by unfold jackP; simpa using h3)]; simp
theorem rolE_ref (T : List Ti) (cs : List Int) (must : Bool) (rolls : Int) : rolE T cs must rolls = if (decide (fstE T < 0) || anyTo (wonP T cs must) T.length) = true then 0 else min (rolls + 1) 64 := by
  unfold rolE
  rw [jack_fst]
  cases decide (fstE T < 0) <;> cases anyTo (wonP T cs must) T.length <;> simp
end Go.Proofs.Ytdinjekpcgndmaa
