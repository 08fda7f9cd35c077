/-
  A GAME IN MEMORY ('GmAt'): boxed and loaded whole, without unrolling; its fields' cells.
-/
import Derived.Test.YtijdlggoaianbaaGame
import Derived.Laws.Rows
import Derived.Deep.MidRow
set_option linter.unusedVariables false
namespace Go.Proofs.Ytijdlggoaianbaa
open Go.RowKit
theorem new_cell {w : World} {n : Nat} (hz : w.heap.size = n) {C : Array Value} {T : TypeId} {i : Nat} {v : Value} (hv : C[i]? = some v) : (w.alloc (.cells C T)).cell? ⟨n, i, none⟩ = some v := by
  subst hz
  simp only [World.cell?, World.alloc, Array.getElem?_push_size]
  simpa using hv
/-- block b is a game -/
def GmAt (w : World) (b : Nat) (g : Gm) : Prop := w.heap[b]? = some (.cells g.cells.toArray 47 (0, 0))
theorem GmAt.lt {w : World} {b : Nat} {g : Gm} (h : GmAt w b g) : b < w.heap.size := (Array.getElem?_eq_some_iff.1 h).1
theorem GmAt.fr {bs : List Nat} {w w' : World} {b : Nat} {g : Gm} (h : GmAt w b g) (hf : Fr bs w w') (hn : b ∉ bs) : GmAt w' b g := (hf.block b h.lt hn).trans h
theorem GmAt.cell {w : World} {b : Nat} {g : Gm} (h : GmAt w b g) (i : Nat) (v : Value) (hv : g.cells[i]? = some v) : w.cell? ⟨b, i, none⟩ = some v := by
  rw [cell_of_row w b i _ _ _ h]
  simpa using hv
theorem GmAt.new (w : World) (g : Gm) : GmAt (w.alloc (.cells g.cells.toArray 47)) w.heap.size g := heap_alloc_new w _
theorem Gm.val_eq (g : Gm) : g.val = .agg g.cells.toArray := rfl
theorem infoGame : (Try.prog.info? 47).map (·.size) = some 22 := by kernel_rfl
theorem run_box_agg {P : Program} (w : World) (T : TypeId) (C : Array Value) : (Instr.box T (.agg C)).run P w = .ok (.pointer (some ⟨w.heap.size, 0, none⟩)) (w.alloc (.cells C T)) := by
  simp only [Sem.run_bind, Instr.box, newVar, newRow, run_newObj_alloc, Sem.run_pure, Result.andThen_ok, Value.cells]
/-- a parameter that is a game: boxed -/
theorem box_game {ops : Array Oper} {rest : List Oper} {o : Oper} {a : Act} {w : World} {Q : Exit → Act → World → Prop} (hgd : o.guard = none) (x : Operand) (ho : o.op = .box 47 x) (g : Gm) (hx : a.eval x = g.val)
    (h : ∀ w', GmAt w' w.heap.size g → w'.heap.size = w.heap.size + 1 → Fr [] w w' → wpList Try.prog ops Q rest (a.put o.dst (.pointer (some ⟨w.heap.size, 0, none⟩))) w') : wpList Try.prog ops Q (o :: rest) a w := by
  refine wpList_plain hgd fun _ hK => ?_
  unfold Oper.wp execOp
  simp only [ho, hx, Gm.val_eq, Sem.run_bind, Sem.run_pure, Result.andThen_ok, run_box_agg]
  exact hK _ _ (h _ (GmAt.new w g) (by simp) ((Fr.refl [] w).alloc _))
/-- a game is loaded whole -/
theorem load_game {ops : Array Oper} {rest : List Oper} {o : Oper} {a : Act} {w : World} {Q : Exit → Act → World → Prop} (hgd : o.guard = none) (x : Operand) (ho : o.op = .load 47 x) (b : Nat) (hx : a.eval x = .pointer (some ⟨b, 0, none⟩))
    (g : Gm) (hg : GmAt w b g) (h : wpList Try.prog ops Q rest (a.put o.dst g.val) w) : wpList Try.prog ops Q (o :: rest) a w :=
  wpList_load_row hgd 47 x ho b hx 47 g.cells.toArray (0, 0) _ hg Try.underlying47 rfl infoGame (by rw [← Gm.val_eq]; exact h)
end Go.Proofs.Ytijdlggoaianbaa
