/-
  ROWS: rows of integers that are only read ('RdI'), rows of bools that were made ('OwnB'), and the marks of a list of numbers. Plain lemmas over any program.
-/
import Derived.Test.YtijdlggoaianbaaDoorMem
set_option linter.unusedVariables false
namespace Go.Proofs.YtijdlggoaianbaaDoor
open Go.RowKit
/-- a slice of integers that can be read -/
def RdI (w : World) (v : Value) (l : List Int) : Prop :=
  ∃ a cap, v = .slice a l.length cap ∧ l.length ≤ cap ∧ cap ≤ maxLen ∧ ∀ j, j < l.length → ∃ g o, a = some ⟨g, o, none⟩ ∧ w.cell? ⟨g, o + j, none⟩ = some (.int .i64 (l.getD j 0))
theorem OwnI.rd {w : World} {base : Nat} {e : TypeId} {v : Value} {l : List Int} (h : OwnI w base e v l) : RdI w v l := by
  obtain ⟨a, cap, rfl, h1, h2⟩ := h.any
  refine ⟨a, cap, rfl, h1, h2, fun j hj => ?_⟩
  obtain ⟨g, cap', hv, _⟩ := h.form (by omega)
  simp only [Value.slice.injEq] at hv
  obtain ⟨rfl, _, rfl⟩ := hv
  exact ⟨g, 0, rfl, by rw [Nat.zero_add]; exact h.cell j hj⟩
theorem RdI.nil (w : World) : RdI w (.slice none 0 0) [] := ⟨none, 0, rfl, by simp, by simp, by simp⟩
/-- rows are kept by a frame in which their block is not named -/
theorem RdI.keep {w w' : World} {v : Value} {l : List Int} (h : RdI w v l) (hk : ∀ g o x, v = .slice (some ⟨g, o, none⟩) l.length x → ∀ j, w.cell? ⟨g, j, none⟩ ≠ none → w'.cell? ⟨g, j, none⟩ = w.cell? ⟨g, j, none⟩) : RdI w' v l := by
  obtain ⟨a, cap, rfl, h1, h2, h3⟩ := h
  refine ⟨a, cap, rfl, h1, h2, fun j hj => ?_⟩
  obtain ⟨g, o, rfl, hc⟩ := h3 j hj
  exact ⟨g, o, rfl, by rw [hk g o cap rfl (o + j) (by rw [hc]; simp)]; exact hc⟩
theorem RdI.below {w w' : World} {v : Value} {l : List Int} (h : RdI w v l) (hf : Fr [] w w') : RdI w' v l :=
  h.keep fun g o x _ j hc => hf.cell (by
    cases hx : w.cell? ⟨g, j, none⟩ with
    | none => exact absurd hx hc
    | some y => exact lt_of_cell hx) (by simp)
/-- a row of bools that was made -/
def OwnB (w : World) (base : Nat) (e : TypeId) (v : Value) (l : List Bool) : Prop := w.ownsRow base e 1 v l.length (l.map Value.bool)
theorem OwnB.form {w : World} {base : Nat} {e : TypeId} {v : Value} {l : List Bool} (h : OwnB w base e v l) (hn : 0 < l.length) :
    ∃ g cap, v = .slice (some ⟨g, 0, none⟩) l.length cap ∧ base ≤ g ∧ g < w.heap.size ∧ l.length ≤ cap ∧ cap ≤ maxLen := by
  obtain ⟨h1, h2⟩ := h
  rcases h2 with ⟨_, h2⟩ | ⟨g, cap, cur, hv, hg, hh, hc, hm, r⟩
  · omega
  · exact ⟨g, cap, hv, hg, (Array.getElem?_eq_some_iff.1 hh).1, hc, hm⟩
theorem OwnB.fr {bs : List Nat} {w w' : World} {base : Nat} {e : TypeId} {v : Value} {l : List Bool} (h : OwnB w base e v l) (hf : Fr bs w w') (hn : ∀ k, v.ownBlock = some k → k ∉ bs) : OwnB w' base e v l := by
  obtain ⟨h1, h2⟩ := h
  refine ⟨h1, ?_⟩
  rcases h2 with h2 | ⟨g, cap, cur, hv, hg, hh, r⟩
  · exact .inl h2
  · refine .inr ⟨g, cap, cur, hv, hg, ?_, r⟩
    rw [hf.block g (Array.getElem?_eq_some_iff.1 hh).1 (hn g (by rw [hv]; rfl))]; exact hh
theorem OwnB.len {w : World} {base g cap n : Nat} {e : TypeId} {l : List Bool} (h : OwnB w base e (.slice (some ⟨g, 0, none⟩) n cap) l) : n = l.length := by
  obtain ⟨h1, h2⟩ := h
  rcases h2 with ⟨hv, _⟩ | ⟨g', cap', cur, hv, _⟩
  · simp at hv
  · simp at hv; exact hv.2.1
theorem OwnB.cell {w : World} {base g cap n : Nat} {e : TypeId} {l : List Bool} (h : OwnB w base e (.slice (some ⟨g, 0, none⟩) n cap) l) (j : Nat) (hj : j < l.length) : w.cell? ⟨g, j, none⟩ = some (.bool (l.getD j false)) := by
  obtain rfl := h.len
  have := World.ownsRow.cellAt h j (by omega)
  rw [this]
  simp [List.getD, hj]
theorem OwnB.frozen {w : World} {base g cap n : Nat} {e : TypeId} {l : List Bool} (h : OwnB w base e (.slice (some ⟨g, 0, none⟩) n cap) l) (j : Nat) : w.frozen? ⟨g, j, none⟩ = false := by
  obtain rfl := h.len
  exact World.ownsRow.frozenAt h j
theorem OwnB.set {w : World} {base g cap n : Nat} {e : TypeId} {l : List Bool} (h : OwnB w base e (.slice (some ⟨g, 0, none⟩) n cap) l) (j : Nat) (x : Bool) : OwnB (w.setCell ⟨g, j, none⟩ (.bool x)) base e (.slice (some ⟨g, 0, none⟩) n cap) (l.set j x) := by
  obtain rfl := h.len
  have := World.ownsRow.stored h j (.bool x)
  unfold OwnB
  rw [List.length_set, List.map_set]
  exact this.1
theorem madeCells_bools (n : Nat) : (madeCells #[Value.bool false] n) = ((List.replicate n false).map Value.bool).toArray := by
  apply Array.ext
  · simp [madeCells]
  · intro i h1 h2
    simp [madeCells, Nat.mod_one]
theorem OwnB.made (w : World) (n : Nat) (e : TypeId) (hn : n ≤ maxLen) : OwnB (w.alloc (.cells (madeCells #[Value.bool false] n) e)) w.heap.size e (.slice (some ⟨w.heap.size, 0, none⟩) n n) (List.replicate n false) := by
  refine ⟨by simp, .inr ⟨w.heap.size, n, _, by simp, Nat.le_refl _, by show (w.heap.push _)[w.heap.size]? = _; simp; rfl, by simp, hn, ?_, ?_⟩⟩
  · rw [madeCells_bools]; simp
  · rw [madeCells_bools]; simp
/-- which numbers below m are in the list -/
def mark (m : Nat) (xs : List Int) : List Bool := (List.range m).map fun (j : Nat) => decide ((j : Int) ∈ xs)
theorem mark_len (m : Nat) (xs : List Int) : (mark m xs).length = m := by simp [mark]
theorem mark_nil (m : Nat) : mark m [] = List.replicate m false := by apply List.ext_getElem <;> simp [mark]
theorem mark_getD (m : Nat) (xs : List Int) (j : Nat) (hj : j < m) : (mark m xs).getD j false = decide ((j : Int) ∈ xs) := by simp [mark, hj]
theorem mark_set (m : Nat) (xs : List Int) (j : Nat) : (mark m xs).set j true = mark m (xs ++ [(j : Int)]) := by
  apply List.ext_getElem
  · simp [mark]
  · intro i h1 h2
    simp only [mark, List.getElem_set, List.getElem_map, List.getElem_range, List.mem_append, List.mem_singleton]
    split
    · subst_vars; simp
    · rename_i hne
      have : ¬ ((i : Int) = j) := by omega
      simp [this]
theorem take_succ' (l : List Int) (k : Nat) (h : k < l.length) : l.take (k + 1) = l.take k ++ [l.getD k 0] := by
  rw [List.take_add_one]; simp [List.getD, h]
/-- a list without repeats: an element is not among those before it -/
theorem nodup_take (l : List Int) (hn : l.Nodup) (k : Nat) (h : k < l.length) : l.getD k 0 ∉ l.take k := by
  have h2 : (l.take (k + 1)).Nodup := hn.sublist (List.take_sublist _ _)
  rw [take_succ' l k h] at h2
  have := List.nodup_append.1 h2
  intro hm
  exact this.2.2 _ hm _ (by simp) rfl
theorem Fr.drewN {bs : List Nat} {a w : World} (h : Fr bs a w) (n : Nat) : Fr bs a (w.drewN n) := ⟨h.os, h.tape, h.output, h.size, h.block⟩
end Go.Proofs.YtijdlggoaianbaaDoor
