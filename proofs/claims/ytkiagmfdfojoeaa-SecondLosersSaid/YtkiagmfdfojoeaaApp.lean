/-
  APPEND of one integer to a row that is nil or one's own, as one step of a walk; rows in blocks from a base on ('RdB').
-/
import Derived.Test.YtkiagmfdfojoeaaShuffle
import Derived.Test.YtkiagmfdfojoeaaRd
import Derived.Maps.AppendAt
set_option linter.unusedVariables false
namespace Go.Proofs.Ytkiagmfdfojoeaa
open Go.RowKit
theorem app_int {ops : Array Oper} {rest : List Oper} {o : Oper} {a : Act} {Q : Exit → Act → World → Prop} (w0 : World) (y : Int) (hgd : o.guard = none) (s x : Operand)
    (ho : o.op = .call { callee := .builtin .append, args := #[s, x], argTypes := #[26, 26] }) (base : Nat) (v : Value) (l : List Int) (hs : a.eval s = v) (hown : OwnI w0 base 3 v l)
    (hx : a.eval x = .slice (some ⟨w0.heap.size, 0, none⟩) 1 1) (hl : l.length ≤ 1000000000) (hb : base ≤ w0.heap.size)
    (h : ∀ v' w', OwnI w' base 3 v' (l ++ [y]) → (∀ bs A, A.heap.size ≤ base → Fr bs A w0 → Fr bs A w') → wpList Try.prog ops Q rest (a.put o.dst v') w') :
    wpList Try.prog ops Q (o :: rest) a (w0.alloc (.cells #[.int .i64 y] 3)) := by
  obtain ⟨i0, hi0, hz0, hz1, hz2⟩ := info_parts infoInt
  have hown' : OwnI (w0.alloc (.cells #[.int .i64 y] 3)) base 3 v l := hown.fr ((Fr.refl [] w0).alloc _) (by simp)
  refine wpList_append_own _ hgd s x 26 ho base 3 i0 (.int .i64 0) 1 8 Try.underlying26 hi0 hz0 hz1 hz2 rfl (by decide) v l.length (l.map (.int .i64)) hs hown' ⟨w0.heap.size, 0, none⟩ 1 1 [.int .i64 y] hx rfl (cell_one_new _ _ _) (by simp [Value.oneCell']) (by unfold maxLen; omega) (by omega) (by simp; omega) ?_
  intro v' w' h1 h2 _
  refine h v' w' ?_ ?_
  · unfold OwnI; simpa using h1
  · intro bs A hA hF
    refine (hF.alloc _).grown h2 ?_
    intro k hk
    have := hown.block k hk
    omega
/-- a row in blocks from 'base' on that can be read -/
def RdB (w : World) (base : Nat) (v : Value) (l : List Int) : Prop :=
  ∃ a cap, v = .slice a l.length cap ∧ l.length ≤ cap ∧ cap ≤ maxLen ∧ ∀ j, j < l.length → ∃ g o, a = some ⟨g, o, none⟩ ∧ base ≤ g ∧ w.cell? ⟨g, o + j, none⟩ = some (.int .i64 (l.getD j 0))
theorem RdB.rd {w : World} {base : Nat} {v : Value} {l : List Int} (h : RdB w base v l) : RdI w v l := by
  obtain ⟨a, cap, rfl, h1, h2, h3⟩ := h
  refine ⟨a, cap, rfl, h1, h2, fun j hj => ?_⟩
  obtain ⟨g, o, rfl, _, hc⟩ := h3 j hj
  exact ⟨g, o, rfl, hc⟩
theorem RdB.fr {w w' : World} {base : Nat} {v : Value} {l : List Int} {bs : List Nat} (h : RdB w base v l) (hf : Fr bs w w') (hb : ∀ b ∈ bs, b < base) : RdB w' base v l := by
  obtain ⟨a, cap, rfl, h1, h2, h3⟩ := h
  refine ⟨a, cap, rfl, h1, h2, fun j hj => ?_⟩
  obtain ⟨g, o, rfl, hg, hc⟩ := h3 j hj
  exact ⟨g, o, rfl, hg, hf.cell_some hc (fun hm => by have := hb _ hm; simp at this; omega)⟩
theorem OwnI.rdb {w : World} {base : Nat} {e : TypeId} {v : Value} {l : List Int} (h : OwnI w base e v l) : RdB w base v l := by
  obtain ⟨a, cap, rfl, h1, h2⟩ := h.any
  refine ⟨a, cap, rfl, h1, h2, fun j hj => ?_⟩
  obtain ⟨g, cap', hv, hg, _⟩ := h.form (by omega)
  simp only [Value.slice.injEq] at hv
  obtain ⟨rfl, _, rfl⟩ := hv
  exact ⟨g, 0, rfl, hg, by rw [Nat.zero_add]; exact h.cell j hj⟩
theorem RdB.nil (w : World) (base : Nat) : RdB w base (.slice none 0 0) [] := ⟨none, 0, rfl, by simp, by simp, by simp⟩
theorem RdB.mono {w : World} {base base' : Nat} {v : Value} {l : List Int} (h : RdB w base v l) (hb : base' ≤ base) : RdB w base' v l := by
  obtain ⟨a, cap, rfl, h1, h2, h3⟩ := h
  refine ⟨a, cap, rfl, h1, h2, fun j hj => ?_⟩
  obtain ⟨g, o, rfl, hg, hc⟩ := h3 j hj
  exact ⟨g, o, rfl, by omega, hc⟩
theorem RdB.take {w : World} {base : Nat} {a : Option Addr} {cap n k : Nat} {l : List Int} (h : RdB w base (.slice a n cap) l) (hk : k ≤ l.length) : RdB w base (.slice a k cap) (l.take k) := by
  obtain ⟨a', cap', hv, h1, h2, h3⟩ := h
  simp only [Value.slice.injEq] at hv
  obtain ⟨rfl, rfl, rfl⟩ := hv
  have hlen : (l.take k).length = k := by simp; omega
  refine ⟨a, cap, by rw [hlen], by omega, h2, fun j hj => ?_⟩
  obtain ⟨g, o, rfl, hg, hc⟩ := h3 j (by omega)
  refine ⟨g, o, rfl, hg, ?_⟩
  rw [hc]
  simp [List.getD, show j < k by omega]
theorem asc_succ (n : Nat) : asc (n + 1) = asc n ++ [(n : Int) + 1] := by simp [asc, List.range_succ]
end Go.Proofs.Ytkiagmfdfojoeaa
