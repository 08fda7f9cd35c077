/-
  ROWS OF BYTES that the call made. Plain lemmas over any program.
-/
import Derived.Test.YtijdlggoaianbaaDoorMem
import Derived.Laws.BytesArg
set_option linter.unusedVariables false
namespace Go.Proofs.YtijdlggoaianbaaDoor
open Go.RowKit
/-- a row of bytes that is nil or lies whole in a block from 'base' on -/
def OwnY (w : World) (base : Nat) (e : TypeId) (v : Value) (l : List Int) : Prop := w.ownsRow base e 1 v l.length (l.map (Value.int .u8))
theorem OwnY.fr {bs : List Nat} {w w' : World} {base : Nat} {e : TypeId} {v : Value} {l : List Int} (h : OwnY w base e v l) (hf : Fr bs w w') (hn : ∀ k, v.ownBlock = some k → k ∉ bs) : OwnY w' base e v l := by
  obtain ⟨h1, h2⟩ := h
  refine ⟨h1, ?_⟩
  rcases h2 with h2 | ⟨g, cap, cur, hv, hg, hh, r⟩
  · exact .inl h2
  · refine .inr ⟨g, cap, cur, hv, hg, ?_, r⟩
    rw [hf.block g (Array.getElem?_eq_some_iff.1 hh).1 (hn g (by rw [hv]; rfl))]; exact hh
theorem OwnY.len {w : World} {base g cap n : Nat} {e : TypeId} {l : List Int} (h : OwnY w base e (.slice (some ⟨g, 0, none⟩) n cap) l) : n = l.length := by
  obtain ⟨h1, h2⟩ := h
  rcases h2 with ⟨hv, _⟩ | ⟨g', cap', cur, hv, _⟩
  · simp at hv
  · simp at hv; exact hv.2.1
theorem OwnY.cell {w : World} {base g cap n : Nat} {e : TypeId} {l : List Int} (h : OwnY w base e (.slice (some ⟨g, 0, none⟩) n cap) l) (j : Nat) (hj : j < l.length) : w.cell? ⟨g, j, none⟩ = some (.int .u8 (l.getD j 0)) := by
  obtain rfl := h.len
  have := World.ownsRow.cellAt h j (by omega)
  rw [this]
  simp [List.getD, hj]
theorem OwnY.frozen {w : World} {base g cap n : Nat} {e : TypeId} {l : List Int} (h : OwnY w base e (.slice (some ⟨g, 0, none⟩) n cap) l) (j : Nat) : w.frozen? ⟨g, j, none⟩ = false := by
  obtain rfl := h.len
  exact World.ownsRow.frozenAt h j
theorem OwnY.set {w : World} {base g cap n : Nat} {e : TypeId} {l : List Int} (h : OwnY w base e (.slice (some ⟨g, 0, none⟩) n cap) l) (j : Nat) (x : Int) : OwnY (w.setCell ⟨g, j, none⟩ (.int .u8 x)) base e (.slice (some ⟨g, 0, none⟩) n cap) (l.set j x) := by
  obtain rfl := h.len
  have := World.ownsRow.stored h j (.int .u8 x)
  unfold OwnY
  rw [List.length_set, List.map_set]
  exact this.1
theorem madeCells_bytes (n : Nat) : (madeCells #[Value.int .u8 0] n) = ((List.replicate n 0).map (Value.int .u8)).toArray := by
  apply Array.ext
  · simp [madeCells]
  · intro i h1 h2
    simp [madeCells, Nat.mod_one]
theorem OwnY.made (w : World) (n : Nat) (e : TypeId) (hn : n ≤ maxLen) : OwnY (w.alloc (.cells (madeCells #[Value.int .u8 0] n) e)) w.heap.size e (.slice (some ⟨w.heap.size, 0, none⟩) n n) (List.replicate n 0) := by
  refine ⟨by simp, .inr ⟨w.heap.size, n, _, by simp, Nat.le_refl _, by show (w.heap.push _)[w.heap.size]? = _; simp; rfl, by simp, hn, ?_, ?_⟩⟩
  · rw [madeCells_bytes]; simp
  · rw [madeCells_bytes]; simp
theorem strOfNums_snoc (l : List Int) (x : Int) : strOfNums (l ++ [x]) = strOfNums l ++ strOfNums [x] := by
  apply ByteArray.ext
  simp [strOfNums, ByteArray.data_append]
/-- f on the numbers below k, zeros from there to n -/
def upTo (f : Nat → Int) (n k : Nat) : List Int := (List.range n).map fun j => if j < k then f j else 0
theorem upTo_len (f : Nat → Int) (n k : Nat) : (upTo f n k).length = n := by simp [upTo]
theorem upTo_zero (f : Nat → Int) (n : Nat) : upTo f n 0 = List.replicate n 0 := by
  apply List.ext_getElem <;> simp [upTo]
theorem upTo_set (f : Nat → Int) (n k : Nat) : (upTo f n k).set k (f k) = upTo f n (k + 1) := by
  apply List.ext_getElem
  · simp [upTo]
  · intro i h1 h2
    simp only [upTo, List.getElem_set, List.getElem_map, List.getElem_range]
    split
    · subst_vars; simp
    · rename_i hne
      by_cases h : i < k
      · rw [if_pos h, if_pos (by omega)]
      · rw [if_neg h, if_neg (by omega)]
theorem upTo_full (f : Nat → Int) (n : Nat) : upTo f n n = (List.range n).map f := by
  apply List.ext_getElem
  · simp [upTo]
  · intro i h1 h2
    simp [upTo] at h1 ⊢
    intro h
    omega
end Go.Proofs.YtijdlggoaianbaaDoor
