/-
  A game that is stored whole; the small game of the statements, valid; a game with other add-ons.
-/
import Derived.Test.YtijdlggoaianbaaCheck
import Derived.Deep.WholeRow
set_option linter.unusedVariables false
namespace Go.Proofs.Ytijdlggoaianbaa
open Go.RowKit
theorem Gm.one (g : Gm) : g.cells.toArray.all (·.oneCell') = true := by simp [Gm.cells, Value.oneCell']
theorem Gm.size (g : Gm) : g.cells.toArray.size = 22 := rfl
/-- a game is stored whole into a block of its own -/
theorem store_game {ops : Array Oper} {rest : List Oper} {o : Oper} {a : Act} {w : World} {Q : Exit → Act → World → Prop} (hgd : o.guard = none) (x y : Operand) (ho : o.op = .store 47 x y) (b : Nat) (hx : a.eval x = .pointer (some ⟨b, 0, none⟩))
    (C : Array Value) (hb : w.heap[b]? = some (.cells C 47 (0, 0))) (hC : C.size = 22) (g : Gm) (hy : a.eval y = g.val)
    (h : ∀ w', GmAt w' b g → w'.heap.size = w.heap.size → Fr [b] w w' → wpList Try.prog ops Q rest (a.put o.dst undef) w') : wpList Try.prog ops Q (o :: rest) a w := by
  refine wpList_plain hgd fun _ hK => ?_
  have hrun := run_storeVar_row (P := Try.prog) w b 47 47 C g.cells.toArray hb infoGame (by rw [hC, Gm.size]) g.one
  unfold Oper.wp execOp
  simp only [ho, hx, hy, Gm.val_eq, Instr.storeAt, Instr.sureAddr, Sem.run_bind, Sem.run_pure, Result.andThen_ok, hrun]
  have hlt : b < w.heap.size := (Array.getElem?_eq_some_iff.1 hb).1
  refine hK _ _ (h _ ?_ ?_ ⟨rfl, rfl, rfl, ?_, ?_⟩)
  · unfold GmAt; simp [World.setRow, Array.getElem?_modify, hb]
  · simp [World.setRow]
  · simp [World.setRow]
  · intro k _ hk
    have : ¬ b = k := by simp at hk; omega
    simp [World.setRow, Array.getElem?_modify, this]
def plainG (b : Nat) : Gm := ⟨⟨#[97]⟩, 1, 1, 1, 2, 0, 0, 0, 1, 1, 1, 0, 0, 0, 1, 0, 0, 1, 0, 0, none, 0, [], some ⟨b, 0, none⟩, 1, [⟨1, 0, 0, 0, 1, 0⟩]⟩
theorem plain_chk (b : Nat) : chkE (plainG b) = 0 ∧ chkS (plainG b) = ⟨#[]⟩ ∧ headB (plainG b) = true := by
  refine ⟨?_, ?_, ?_⟩
  · kernel_rfl
  · kernel_rfl
  · kernel_rfl
theorem rdf_one {α : Type} (c : Nat) (f : α → List Value) (w : World) (x : α) (C : Array Value) (T : TypeId) (hC : C = (f x).toArray) (hc : (f x).length = c) :
    RdF c (fun x => pairs (f x)) (w.alloc (.cells C T)) (.slice (some ⟨w.heap.size, 0, none⟩) 1 1) [x] := by
  refine ⟨_, _, rfl, Nat.le_refl _, by unfold maxLen; simp, fun j y hy => ⟨w.heap.size, 0, rfl, fun i v hv => ?_⟩⟩
  obtain rfl : j = 0 := by
    have := (List.getElem?_eq_some_iff.1 hy).1
    simp at this
    exact this
  simp at hy
  subst hy
  rw [mem_pairs] at hv
  rw [Nat.zero_mul, Nat.zero_add, Nat.zero_add]
  exact new_cell rfl (by subst hC; simpa using hv)
theorem RdF.fr {α : Type} {c n cap g o : Nat} {f : α → List (Nat × Value)} {w w' : World} {l : List α} {bs : List Nat} (h : RdF c f w (.slice (some ⟨g, o, none⟩) n cap) l) (hf : Fr bs w w') (hn : g ∉ bs) : RdF c f w' (.slice (some ⟨g, o, none⟩) n cap) l := by
  obtain ⟨a', cap', hv, h1, h2, h3⟩ := h
  refine ⟨a', cap', hv, h1, h2, fun j x hx => ?_⟩
  obtain ⟨g', o', rfl, hc⟩ := h3 j x hx
  simp only [Value.slice.injEq, Option.some.injEq, Addr.mk.injEq, and_true] at hv
  obtain ⟨⟨rfl, rfl⟩, _⟩ := hv
  exact ⟨g, o, rfl, fun i y hy => hf.cell_some (hc i y hy) hn⟩
theorem plain_ok (w : World) (b : Nat) (h : RdF 6 tiF w (.slice (some ⟨b, 0, none⟩) 1 1) [⟨1, 0, 0, 0, 1, 0⟩]) : (plainG b).Ok w := by
  refine ⟨(by show 1 ≤ maxLen; unfold maxLen; omega), rfl, rfl, rfl, rfl, rfl, rfl, rfl, rfl, rfl, rfl, rfl, rfl, rfl, rfl, rfl, rfl, rfl, rfl, rfl, ⟨⟨none, 0, rfl, by simp [plainG], by simp, by simp [plainG]⟩, by simp [plainG]⟩, ⟨h, ?_⟩⟩
  intro x hx
  simp [plainG] at hx
  subst hx
  exact ⟨rfl, rfl, rfl, rfl, rfl, rfl⟩
def withA (g : Gm) (a : Option Addr) (c : Nat) (l : List Ad) : Gm := { g with aa := a, ac := c, addons := l }
theorem gm_set_addons {w : World} {b : Nat} {g : Gm} (h : GmAt w b g) (a : Option Addr) (c : Nat) (l : List Ad) : GmAt (w.setCell ⟨b, 20, none⟩ (.slice a l.length c)) b (withA g a c l) := by
  unfold GmAt at h ⊢
  simp [World.setCell, Array.getElem?_modify, h, Gm.cells, withA]
theorem gm_frozen {w : World} {b : Nat} {g : Gm} (h : GmAt w b g) (i : Nat) : w.frozen? ⟨b, i, none⟩ = false := by
  unfold GmAt at h
  simp [World.frozen?, h]
theorem withA_ok {g : Gm} {w w' : World} {a : Option Addr} {c : Nat} {l : List Ad} (h : g.Ok w) (hf : Fr [] w w') (ha : Ads w' a c l) : (withA g a c l).Ok w' := by
  have h' := h.fr hf
  exact ⟨h'.name, h'.kind, h'.price, h'.main, h'.of_, h'.bonus, h'.bonusof, h'.extra, h'.draws, h'.system, h'.days, h'.at_, h'.close, h'.cancel, h'.expiry, h'.pool, h'.reserve, h'.round, h'.cap, h'.rolls, ha, h'.tiers⟩
end Go.Proofs.Ytijdlggoaianbaa
