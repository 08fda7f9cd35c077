/-
  LAYER 37: what the statements need of Cap and Flow, in one place. Plain lemmas.
-/
import Derived.Test.YtdinjekpcgndmaaTisF
import Derived.Test.YtdinjekpcgndmaaCap
set_option linter.unusedVariables false
namespace Go.Proofs.Ytdinjekpcgndmaa
open Go.RowKit
theorem cap_law0 {g : Gm} {ts : List Int} (h : capE g ts = 0) : (capL g ts).length = g.tiers.length ∧ ts.length = g.tiers.length ∧ amtB (capL g ts) = true ∧ amtB ts = true ∧ sumTo (capL g ts) g.tiers.length = sumTo ts g.tiers.length ∧ 1 ≤ g.tiers.length ∧ g.tiers.length ≤ 12 := by
  obtain ⟨h1, h2, h3⟩ := cap_facts h
  obtain ⟨q1, q2, q3⟩ := rchkE_facts h1
  have := game_len q1
  exact ⟨h2.len.trans q2, q2, h2.amt, q3, by rw [← q2]; exact h2.sum, this.1, this.2⟩
theorem fl_law0 {g : Gm} {ts cs : List Int} {rolls : Int} (h : flE g ts cs rolls = 0) : (flP g ts cs rolls).length = g.tiers.length ∧ (flC g ts cs rolls).length = g.tiers.length ∧ ts.length = g.tiers.length ∧ cs.length = g.tiers.length ∧
    amtB (flP g ts cs rolls) = true ∧ amtB (flC g ts cs rolls) = true ∧ amtB ts = true ∧ sumTo (flP g ts cs rolls) g.tiers.length + sumTo (flC g ts cs rolls) g.tiers.length = sumTo ts g.tiers.length ∧
    0 ≤ flN g ts cs rolls ∧ flN g ts cs rolls ≤ 64 ∧ 1 ≤ g.tiers.length ∧ g.tiers.length ≤ 12 := by
  obtain ⟨h1, h2, h3, h4, h5, h6, h7, h8, h9⟩ := fl_facts h
  have hg := game_len (rchkE_facts (flE_facts h).1).1
  have hr := rolE_bd g.tiers cs (mustB g rolls) rolls h3
  have hn : flN g ts cs rolls = rolE g.tiers cs (mustB g rolls) rolls := by unfold flN; rw [if_pos h]
  rw [hn]
  exact ⟨h6.lp, h6.lc, h1, h2, h8, h9, h7, h6.sum, hr.1, hr.2, hg.1, hg.2⟩
theorem fl_law1 {g : Gm} {ts cs : List Int} {rolls : Int} (h : ¬ flE g ts cs rolls = 0) : flP g ts cs rolls = [] ∧ flC g ts cs rolls = [] ∧ flN g ts cs rolls = 0 := by
  unfold flP flC flN
  rw [if_neg h, if_neg h, if_neg h]
  exact ⟨rfl, rfl, rfl⟩
theorem own_nil_any {w : World} {base : Nat} {e : TypeId} {v : Value} {l : List Int} (h : OwnI w base e v l) (hl : l = []) : ∃ a cap, v = .slice a 0 cap := by
  obtain ⟨a, cap, hv, _⟩ := h.any
  subst hl
  exact ⟨a, cap, hv⟩
theorem own_len_any {w : World} {base n : Nat} {e : TypeId} {v : Value} {l : List Int} (h : OwnI w base e v l) (hl : l.length = n) : ∃ a cap, v = .slice a n cap ∧ n ≤ cap ∧ cap ≤ maxLen := by
  obtain ⟨a, cap, hv, h1, h2⟩ := h.any
  rw [hl] at hv h1
  exact ⟨a, cap, hv, h1, h2⟩
end Go.Proofs.Ytdinjekpcgndmaa
