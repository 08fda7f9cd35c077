/-
  Op: a call of the statements about the stream, opened.
-/
import Derived.Test.YtkiagmfdfojoeaaOpen
set_option linter.unusedVariables false
namespace Go.Proofs.Ytkiagmfdfojoeaa
open Go.RowKit Go.WideShapes Go.ChangeShapes
def opF (x : Int × Int × Int) : List (Nat × Value) := [(0, .int .i64 x.1), (1, .int .i64 x.2.1), (2, .int .i64 x.2.2)]
theorem open_ops {H : Type} {enc : TypeId × Value → H} {w : World} {base : Nat} {spare : Nat → Bool} {held : Bool} {r : Reach} {b0 : Nat} {v : Value} {d : DataW H} {ps : List MemPlace}
    (hval : Value.okWide Try.prog w r b0 53 v) (h : DataW.Trod enc Try.prog w base spare held 53 v d ps) : ∃ l, RdF 3 opF w v l := by
  obtain ⟨l, hl, _⟩ := open_arg opF (fun _ => True) 3 Try.underlying53 (by kernel_rfl) (by omega) (fun n cs y hy => by
    obtain ⟨a, _, ha⟩ := field_int (ft := 3) Try.underlying55 hy 0 0 rfl (by kernel_rfl) Try.underlying3
    obtain ⟨b, _, hb⟩ := field_int (ft := 3) Try.underlying55 hy 1 1 rfl (by kernel_rfl) Try.underlying3
    obtain ⟨c, _, hc⟩ := field_int (ft := 3) Try.underlying55 hy 2 2 rfl (by kernel_rfl) Try.underlying3
    refine ⟨(a, b, c), trivial, fun i u hu => ?_⟩
    simp only [opF, List.mem_cons, Prod.mk.injEq, List.not_mem_nil, or_false] at hu
    rcases hu with ⟨rfl, rfl⟩ | ⟨rfl, rfl⟩ | ⟨rfl, rfl⟩
    · exact ha
    · exact hb
    · exact hc) hval h
  exact ⟨l, hl⟩
end Go.Proofs.Ytkiagmfdfojoeaa
