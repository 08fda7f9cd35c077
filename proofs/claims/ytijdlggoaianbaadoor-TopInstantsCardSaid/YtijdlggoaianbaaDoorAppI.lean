/-
  APPEND of one integer to a row that is nil or one's own, as one step of a walk; what lay below the row's base is as it was.
-/
import Derived.Test.YtijdlggoaianbaaDoorRd
import Derived.Maps.AppendAt
set_option linter.unusedVariables false
namespace Go.Proofs.YtijdlggoaianbaaDoor
open Go.RowKit
theorem infoIntA : (Tryd.prog.info? 3).map (fun i => (i.zero, i.size, i.bytes)) = some (some (.int .i64 0), 1, 8) := by kernel_rfl
theorem app_i {ops : Array Oper} {rest : List Oper} {o : Oper} {a : Act} {Q : Exit → Act → World → Prop} (w0 : World) (y : Int) (hgd : o.guard = none) (s x : Operand)
    (ho : o.op = .call { callee := .builtin .append, args := #[s, x], argTypes := #[69, 69] }) (base : Nat) (v : Value) (l : List Int) (hs : a.eval s = v) (hown : OwnI w0 base 3 v l)
    (hx : a.eval x = .slice (some ⟨w0.heap.size, 0, none⟩) 1 1) (hl : l.length ≤ 1000000000) (hb : base ≤ w0.heap.size)
    (h : ∀ v' w', OwnI w' base 3 v' (l ++ [y]) → (∀ k, k < base → w'.heap[k]? = w0.heap[k]?) → (∀ bs A, A.heap.size ≤ base → Fr bs A w0 → Fr bs A w') → wpList Tryd.prog ops Q rest (a.put o.dst v') w') :
    wpList Tryd.prog ops Q (o :: rest) a (w0.alloc (.cells #[.int .i64 y] 3)) := by
  obtain ⟨i0, hi0, hz0, hz1, hz2⟩ := info_parts infoIntA
  have hown' : OwnI (w0.alloc (.cells #[.int .i64 y] 3)) base 3 v l := hown.fr ((Fr.refl [] w0).alloc _) (by simp)
  refine wpList_append_own _ hgd s x 69 ho base 3 i0 (.int .i64 0) 1 8 Tryd.underlying69 hi0 hz0 hz1 hz2 rfl (by decide) v l.length (l.map (.int .i64)) hs hown' ⟨w0.heap.size, 0, none⟩ 1 1 [.int .i64 y] hx rfl (cell_one_new _ _ _) (by simp [Value.oneCell']) (by unfold maxLen; omega) (by omega) (by simp; omega) ?_
  intro v' w' h1 h2 _
  refine h v' w' ?_ ?_ ?_
  · unfold OwnI; simpa using h1
  · intro k hk
    have hk2 : k < (w0.alloc (.cells #[.int .i64 y] 3)).heap.size := by simp; omega
    rw [h2.block k hk2 (fun e => by have := hown.block k e.symm; omega)]
    exact Below.heap_alloc _ _ _ (by omega)
  · intro bs A hA hF
    refine (hF.alloc _).grown h2 ?_
    intro k hk
    have := hown.block k hk
    omega
end Go.Proofs.YtijdlggoaianbaaDoor
