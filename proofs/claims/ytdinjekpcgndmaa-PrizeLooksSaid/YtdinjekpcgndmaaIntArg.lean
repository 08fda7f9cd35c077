/-
  A slice of integers that came in as an argument, opened.
-/
import Derived.Test.YtdinjekpcgndmaaOpen
set_option linter.unusedVariables false
namespace Go.Proofs.Ytdinjekpcgndmaa
open Go.RowKit Go.WideShapes Go.ChangeShapes
set_option maxRecDepth 100000 in
theorem open_intarg {H : Type} {enc : TypeId × Value → H} {w : World} {base : Nat} {spare : Nat → Bool} {held : Bool} {r : Reach} {b0 : Nat} {v : Value} {d : DataW H} {ps : List MemPlace}
    (hval : Value.okWide Try.prog w r b0 31 v) (h : DataW.Trod enc Try.prog w base spare held 31 v d ps) : ∃ l : List Int, RdI w v l ∧ ∀ z ∈ l, (Lit.int .i64 z).wf = true := by
  obtain ⟨l, hl, hq⟩ := open_arg (fun x => [(0, Value.int .i64 x)]) (fun z => (Lit.int .i64 z).wf = true) 1 Try.underlying31 (by kernel_rfl) (by omega) (open_el_int Try.underlying3) hval h
  exact ⟨l, hl.ints, hq⟩
end Go.Proofs.Ytdinjekpcgndmaa
