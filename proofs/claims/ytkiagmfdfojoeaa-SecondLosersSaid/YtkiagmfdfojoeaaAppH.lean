/-
  APPEND of one integer, where the new block's number is spelled otherwise.
-/
import Derived.Test.YtkiagmfdfojoeaaApp
set_option linter.unusedVariables false
namespace Go.Proofs.Ytkiagmfdfojoeaa
open Go.RowKit
theorem app_intH {ops : Array Oper} {rest : List Oper} {o : Oper} {a : Act} {Q : Exit → Act → World → Prop} (w0 : World) (h0 : Nat) (hH : w0.heap.size = h0) (y : Int) (hgd : o.guard = none) (s x : Operand)
    (ho : o.op = .call { callee := .builtin .append, args := #[s, x], argTypes := #[26, 26] }) (base : Nat) (v : Value) (l : List Int) (hs : a.eval s = v) (hown : OwnI w0 base 3 v l)
    (hx : a.eval x = .slice (some ⟨h0, 0, none⟩) 1 1) (hl : l.length ≤ 1000000000) (hb : base ≤ w0.heap.size)
    (h : ∀ v' w', OwnI w' base 3 v' (l ++ [y]) → (∀ bs A, A.heap.size ≤ base → Fr bs A w0 → Fr bs A w') → wpList Try.prog ops Q rest (a.put o.dst v') w') :
    wpList Try.prog ops Q (o :: rest) a (w0.alloc (.cells #[.int .i64 y] 3)) := by
  subst hH
  exact app_int w0 y hgd s x ho base v l hs hown hx hl hb h
end Go.Proofs.Ytkiagmfdfojoeaa
