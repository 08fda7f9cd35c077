/-
  LAYER 36: taking the first element of a slice; the rows of Allocate.
-/
import Derived.Test.YtdinjekpcgndmaaPoolN
set_option linter.unusedVariables false
namespace Go.Proofs.Ytdinjekpcgndmaa
open Go.RowKit
/-- a row that can be read, in a known block -/
def RdB (w : World) (gb : Nat) (v : Value) (l : List Int) : Prop :=
  ∃ a cap, v = .slice a l.length cap ∧ l.length ≤ cap ∧ cap ≤ maxLen ∧ ∀ j, j < l.length → ∃ o, a = some ⟨gb, o, none⟩ ∧ w.cell? ⟨gb, o + j, none⟩ = some (.int .i64 (l.getD j 0))
def nxtV : Value → Value
  | .slice (some ⟨b, o, e⟩) n cap => if cap = 1 then .slice (some ⟨b, o, e⟩) (n - 1) 0 else .slice (some ⟨b, o + 1, e⟩) (n - 1) (cap - 1)
  | v => v
theorem RdB.next {w : World} {gb : Nat} {v : Value} {x : Int} {l : List Int} (h : RdB w gb v (x :: l)) : RdB w gb (nxtV v) l := by
  obtain ⟨a, cap, rfl, h1, h2, h3⟩ := h
  obtain ⟨o, rfl, _⟩ := h3 0 (by simp)
  rw [List.length_cons] at h1
  have HV : nxtV (.slice (some ⟨gb, o, none⟩) (x :: l).length cap) = if cap = 1 then .slice (some ⟨gb, o, none⟩) l.length 0 else .slice (some ⟨gb, o + 1, none⟩) l.length (cap - 1) := by
    simp only [nxtV, List.length_cons, Nat.add_sub_cancel]
  rw [HV]
  clear HV
  by_cases hc : cap = 1
  · rw [if_pos hc]
    refine ⟨_, 0, rfl, by omega, by omega, fun j hj => by omega⟩
  · rw [if_neg hc]
    refine ⟨_, cap - 1, rfl, by omega, by omega, fun j hj => ⟨o + 1, rfl, ?_⟩⟩
    obtain ⟨o', he, hcell⟩ := h3 (j + 1) (by simp; omega)
    simp only [Option.some.injEq, Addr.mk.injEq, and_true, true_and] at he
    subst he
    rw [show o + 1 + j = o + (j + 1) by omega]
    simpa [List.getD] using hcell
theorem RdB.fr {bs : List Nat} {w w' : World} {gb : Nat} {v : Value} {l : List Int} (h : RdB w gb v l) (hf : Fr bs w w') (hn : gb ∉ bs) : RdB w' gb v l := by
  obtain ⟨a, cap, rfl, h1, h2, h3⟩ := h
  refine ⟨a, cap, rfl, h1, h2, fun j hj => ?_⟩
  obtain ⟨o, rfl, hc⟩ := h3 j hj
  exact ⟨o, rfl, hf.cell_some hc hn⟩
theorem OwnI.rdb {w : World} {base : Nat} {e : TypeId} {v : Value} {l : List Int} (h : OwnI w base e v l) : ∃ gb, RdB w gb v l ∧ (gb = 0 ∧ l = [] ∨ base ≤ gb ∧ gb < w.heap.size) := by
  by_cases hl : l.length = 0
  · obtain ⟨a, cap, rfl, h1, h2⟩ := h.any
    exact ⟨0, ⟨a, cap, rfl, h1, h2, fun j hj => by omega⟩, .inl ⟨rfl, List.eq_nil_of_length_eq_zero hl⟩⟩
  · obtain ⟨g, cap, rfl, hb, hg, h1, h2⟩ := h.form (by omega)
    exact ⟨g, ⟨_, cap, rfl, h1, h2, fun j hj => ⟨0, rfl, by rw [Nat.zero_add]; exact h.cell j hj⟩⟩, .inr ⟨hb, hg⟩⟩
set_option maxHeartbeats 2000000 in
theorem take_any (bx gb : Nat) (v : Value) (x : Int) (l : List Int) (W : World) (hc : W.cell? ⟨bx, 0, none⟩ = some v) (hr : RdB W gb v (x :: l)) (hf : W.frozen? ⟨bx, 0, none⟩ = false) :
    Calls Try.prog 66 #[.pointer (some ⟨bx, 0, none⟩)] W fun e w' => e = .returned (.int .i64 x) ∧ w' = W.setCell ⟨bx, 0, none⟩ (nxtV v) := by
  obtain ⟨a, cap, rfl, h1, h2, h3⟩ := hr
  obtain ⟨o, rfl, hx⟩ := h3 0 (by simp)
  rw [Nat.add_zero] at hx
  simp only [List.length_cons, List.getD_cons_zero] at h1 hx hc
  obtain ⟨n, hn⟩ : ∃ n, n = l.length := ⟨_, rfl⟩
  unfold maxLen at h2
  have HV : nxtV (.slice (some ⟨gb, o, none⟩) (x :: l).length cap) = if cap = 1 then .slice (some ⟨gb, o, none⟩) n 0 else .slice (some ⟨gb, o + 1, none⟩) n (cap - 1) := by
    simp only [nxtV, List.length_cons, hn, Nat.add_sub_cancel]
  rw [HV]
  rw [← hn] at hc h1
  clear h3 HV hn
  go_enter Try.func66, Try.ntmps66
  go_wp2_with fail
  all_goals go_ret
  all_goals exact ⟨rfl, rfl⟩
end Go.Proofs.Ytdinjekpcgndmaa
