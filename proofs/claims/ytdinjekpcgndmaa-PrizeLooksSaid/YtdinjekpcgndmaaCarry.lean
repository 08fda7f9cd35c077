/-
  A carry that came in as an argument, opened.
-/
import Derived.Test.YtdinjekpcgndmaaGameW
set_option linter.unusedVariables false
namespace Go.Proofs.Ytdinjekpcgndmaa
open Go.RowKit Go.WideShapes Go.ChangeShapes
set_option maxRecDepth 20000 in
theorem open_carry {H : Type} {enc : TypeId × Value → H} {w : World} {base : Nat} {spare : Nat → Bool} {held : Bool} {r : Reach} {b0 : Nat} {v : Value} {d : DataW H} {ps : List MemPlace}
    (hval : Value.okWide Try.prog w r b0 43 v) (h : DataW.Trod enc Try.prog w base spare held 43 v d ps) : ∃ (vt : Value) (ct : List Int) (cr cl : Int), v = .agg #[vt, .int .i64 cr, .int .i64 cl] ∧ RdI w vt ct := by
  have U := Try.underlying43
  obtain ⟨cs, rfl, hsz⟩ := okWide_struct U hval
  obtain ⟨l⟩ := cs
  have hC : Try.prog.cellsOf 43 = 3 := by kernel_rfl
  rw [hC] at hsz
  obtain ⟨fuel, hy0⟩ := h
  have hy : DataW.trod enc Try.prog w base spare held fuel 43 l = some (d, ps) := by simpa [Value.cells] using hy0
  obtain ⟨c0, a0, p0, h0, r0, _⟩ := field_ints (ft := 31) U hy 0 0 rfl (by kernel_rfl) Try.underlying31 (by kernel_rfl) Try.underlying3
  obtain ⟨c1, k1, h1⟩ := field_int (ft := 3) U hy 1 1 rfl (by kernel_rfl) Try.underlying3
  obtain ⟨c2, k2, h2⟩ := field_int (ft := 3) U hy 2 2 rfl (by kernel_rfl) Try.underlying3
  refine ⟨.slice a0 c0.length p0, c0, c1, c2, ?_, r0⟩
  clear hy hy0 hval U hC
  match l, hsz with
  | [x0, x1, x2], _ =>
    simp at h0 h1 h2
    simp [h0, h1, h2]
end Go.Proofs.Ytdinjekpcgndmaa
