/-
  Blocks that are known whole. Plain lemmas.
-/
import Derived.Test.YtijdlggoaianbaaDoorMem
import Derived.Laws.Rows
set_option linter.unusedVariables false
namespace Go.Proofs.YtijdlggoaianbaaDoor
open Go.RowKit
/-- a block that is known whole -/
def RowAt (x : World) (b : Nat) (T : TypeId) (l : List Value) : Prop := x.heap[b]? = some (.cells l.toArray T (0, 0))
theorem RowAt.lt {x : World} {b : Nat} {T : TypeId} {l : List Value} (h : RowAt x b T l) : b < x.heap.size := (Array.getElem?_eq_some_iff.1 h).1
theorem RowAt.cell {x : World} {b : Nat} {T : TypeId} {l : List Value} (h : RowAt x b T l) (i : Nat) (v : Value) (hv : l[i]? = some v) : x.cell? ⟨b, i, none⟩ = some v := by
  rw [cell_of_row x b i _ _ _ h]
  simpa using hv
theorem RowAt.frozen {x : World} {b : Nat} {T : TypeId} {l : List Value} (h : RowAt x b T l) (i : Nat) : x.frozen? ⟨b, i, none⟩ = false := by
  unfold RowAt at h
  simp [World.frozen?, h]
theorem RowAt.fr {bs : List Nat} {x y : World} {b : Nat} {T : TypeId} {l : List Value} (h : RowAt x b T l) (hf : Fr bs x y) (hn : b ∉ bs) : RowAt y b T l := (hf.block b h.lt hn).trans h
theorem RowAt.set {x : World} {b : Nat} {T : TypeId} {l : List Value} (h : RowAt x b T l) (i : Nat) (v : Value) : RowAt (x.setCell ⟨b, i, none⟩ v) b T (l.set i v) := by
  unfold RowAt at h ⊢
  simp [World.setCell, Array.getElem?_modify, h]
theorem RowAt.other {x : World} {b b' : Nat} {T : TypeId} {l : List Value} (h : RowAt x b T l) (hn : b ≠ b') (i : Nat) (v : Value) : RowAt (x.setCell ⟨b', i, none⟩ v) b T l :=
  h.fr ((Fr.refl [b'] x).setCell (.inl (by simp)) v) (by simpa using hn)
theorem RowAt.new {x : World} {n : Nat} (hz : x.heap.size = n) {C : Array Value} {T : TypeId} {l : List Value} (hl : C = l.toArray) : RowAt (x.alloc (.cells C T)) n T l := by
  subst hz; subst hl
  exact heap_alloc_new x _
end Go.Proofs.YtijdlggoaianbaaDoor
