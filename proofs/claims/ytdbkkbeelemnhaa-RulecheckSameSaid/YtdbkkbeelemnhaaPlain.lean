/-
  A game that is stored whole; plain and lives of the statements about layer 12: the small game is valid.
-/
import Derived.Test.YtdbkkbeelemnhaaCheck
import Derived.Deep.WholeRow
set_option linter.unusedVariables false
namespace Go.Proofs.Ytdbkkbeelemnhaa
open Go.RowKit
theorem Gm.one (g : Gm) : g.cells.toArray.all (·.oneCell') = true := by simp [Gm.cells, Value.oneCell']
theorem Gm.size (g : Gm) : g.cells.toArray.size = 22 := rfl
/-- a game is stored whole into a block of its own -/
theorem store_game {ops : Array Oper} {rest : List Oper} {o : Oper} {a : Act} {w : World} {Q : Exit → Act → World → Prop} (hgd : o.guard = none) (x y : Operand) (ho : o.op = .store 29 x y) (b : Nat) (hx : a.eval x = .pointer (some ⟨b, 0, none⟩))
    (C : Array Value) (hb : w.heap[b]? = some (.cells C 29 (0, 0))) (hC : C.size = 22) (g : Gm) (hy : a.eval y = g.val)
    (h : ∀ w', GmAt w' b g → w'.heap.size = w.heap.size → Fr [b] w w' → wpList Try.prog ops Q rest (a.put o.dst undef) w') : wpList Try.prog ops Q (o :: rest) a w := by
  refine wpList_plain hgd fun _ hK => ?_
  have hrun := run_storeVar_row (P := Try.prog) w b 29 29 C g.cells.toArray hb infoGame (by rw [hC, Gm.size]) g.one
  unfold Oper.wp execOp
  simp only [ho, hx, hy, Gm.val_eq, Instr.storeAt, Instr.sureAddr, Sem.run_bind, Sem.run_pure, Result.andThen_ok, hrun]
  have hlt : b < w.heap.size := (Array.getElem?_eq_some_iff.1 hb).1
  refine hK _ _ (h _ ?_ ?_ ⟨rfl, rfl, rfl, ?_, ?_⟩)
  · unfold GmAt; simp [World.setRow, Array.getElem?_modify, hb]
  · simp [World.setRow]
  · simp [World.setRow]
  · intro k _ hk
    have : ¬ b = k := by simp at hk; omega
    simp [World.setRow, Array.getElem?_modify, this]
def plainG (b : Nat) : Gm := ⟨⟨#[97]⟩, 1, 1, 1, 2, 0, 0, 0, 1, 1, 1, 0, 0, 0, 1, 0, 0, 1, 0, 0, none, 0, [], some ⟨b, 0, none⟩, 1, [⟨1, 0, 0, 0, 1, 0⟩]⟩
theorem plain_chk (b : Nat) : chkE (plainG b) = 0 ∧ chkS (plainG b) = ⟨#[]⟩ ∧ headB (plainG b) = true := by
  refine ⟨?_, ?_, ?_⟩
  · kernel_rfl
  · kernel_rfl
  · kernel_rfl
theorem rdf_one {α : Type} (c : Nat) (f : α → List Value) (w : World) (x : α) (C : Array Value) (T : TypeId) (hC : C = (f x).toArray) (hc : (f x).length = c) :
    RdF c (fun x => pairs (f x)) (w.alloc (.cells C T)) (.slice (some ⟨w.heap.size, 0, none⟩) 1 1) [x] := by
  refine ⟨_, _, rfl, Nat.le_refl _, by unfold maxLen; simp, fun j y hy => ⟨w.heap.size, 0, rfl, fun i v hv => ?_⟩⟩
  obtain rfl : j = 0 := by
    have := (List.getElem?_eq_some_iff.1 hy).1
    simp at this
    exact this
  simp at hy
  subst hy
  rw [mem_pairs] at hv
  rw [Nat.zero_mul, Nat.zero_add, Nat.zero_add]
  exact new_cell rfl (by subst hC; simpa using hv)
theorem RdF.fr {α : Type} {c n cap g o : Nat} {f : α → List (Nat × Value)} {w w' : World} {l : List α} {bs : List Nat} (h : RdF c f w (.slice (some ⟨g, o, none⟩) n cap) l) (hf : Fr bs w w') (hn : g ∉ bs) : RdF c f w' (.slice (some ⟨g, o, none⟩) n cap) l := by
  obtain ⟨a', cap', hv, h1, h2, h3⟩ := h
  refine ⟨a', cap', hv, h1, h2, fun j x hx => ?_⟩
  obtain ⟨g', o', rfl, hc⟩ := h3 j x hx
  simp only [Value.slice.injEq, Option.some.injEq, Addr.mk.injEq, and_true] at hv
  obtain ⟨⟨rfl, rfl⟩, _⟩ := hv
  exact ⟨g, o, rfl, fun i y hy => hf.cell_some (hc i y hy) hn⟩
theorem plain_ok (w : World) (b : Nat) (h : RdF 6 tiF w (.slice (some ⟨b, 0, none⟩) 1 1) [⟨1, 0, 0, 0, 1, 0⟩]) : (plainG b).Ok w := by
  refine ⟨(by show 1 ≤ maxLen; unfold maxLen; omega), rfl, rfl, rfl, rfl, rfl, rfl, rfl, rfl, rfl, rfl, rfl, rfl, rfl, rfl, rfl, rfl, rfl, rfl, rfl, ⟨⟨none, 0, rfl, by simp [plainG], by simp, by simp [plainG]⟩, by simp [plainG]⟩, ⟨h, ?_⟩⟩
  intro x hx
  simp [plainG] at hx
  subst hx
  exact ⟨rfl, rfl, rfl, rfl, rfl, rfl⟩
set_option maxRecDepth 20000 in
set_option maxHeartbeats 2000000 in
theorem plain_any (w : World) : Calls Try.prog 19 #[] w fun e w' => ∃ b, e = .returned (plainG b).val ∧ (plainG b).Ok w' ∧ Fr [] w w' := by
  have hb : ∀ (w : World) (b : Nat), (Instr.build 29 #[(0, .string ⟨#[97]⟩), (1, .int .i64 1), (2, .int .i64 1), (3, .int .i64 1), (4, .int .i64 2), (8, .int .i64 1), (9, .int .i64 1), (10, .int .i64 1), (14, .int .i64 1), (17, .int .i64 1), (21, .slice (some ⟨b, 0, none⟩) 1 1)]).run Try.prog w = .ok (plainG b).val w := fun w b => by kernel_rfl
  go_enter Try.func19, Try.ntmps19
  go_wp2_with (refine store_game rfl (.tmp 0) (.tmp 3) rfl w.heap.size rfl _ (heap_alloc2_old _ _ _) rfl (plainG (w.heap.size + 1)) rfl ?_; intro w3 hg3 hz3 hf3)
  refine bodyPost_ret (v := (plainG (w.heap.size + 1)).val) (by rw [Gm.val_eq]; exact results_cell_row rfl _ _ w.heap.size 29 _ (0, 0) _ rfl hg3 Try.underlying29 rfl infoGame) rfl ⟨_, rfl, ?_, ?_⟩
  · refine plain_ok _ _ ?_
    have hr := rdf_one 6 Ti.cells (w.alloc (.cells #[.string ⟨#[]⟩, .int .i64 0, .int .i64 0, .int .i64 0, .int .i64 0, .int .i64 0, .int .i64 0, .int .i64 0, .int .i64 0, .int .i64 0, .int .i64 0, .int .i64 0, .int .i64 0, .int .i64 0, .int .i64 0, .int .i64 0, .int .i64 0, .int .i64 0, .int .i64 0, .int .i64 0, .slice none 0 0, .slice none 0 0] 29)) ⟨1, 0, 0, 0, 1, 0⟩ _ 57 rfl rfl
    rw [show (w.alloc (.cells #[.string ⟨#[]⟩, .int .i64 0, .int .i64 0, .int .i64 0, .int .i64 0, .int .i64 0, .int .i64 0, .int .i64 0, .int .i64 0, .int .i64 0, .int .i64 0, .int .i64 0, .int .i64 0, .int .i64 0, .int .i64 0, .int .i64 0, .int .i64 0, .int .i64 0, .int .i64 0, .int .i64 0, .slice none 0 0, .slice none 0 0] 29)).heap.size = w.heap.size + 1 by simp] at hr
    exact hr.fr hf3 (by simp)
  · exact (((Fr.refl [] w).alloc _).alloc _).trans' hf3 (by simp)
set_option maxHeartbeats 1000000 in
theorem lives12_any (w : World) : Calls Try.prog 18 #[] w fun e w' => e = .returned (.bool true) ∧ Fr [] w w' := by
  have hnm : nameB ⟨#[97]⟩ = true := by kernel_rfl
  go_enter Try.func18, Try.ntmps18
  go_wp2_with fail
  refine (plain_any _).mono ?_
  rintro e w1 ⟨b, rfl, hok, f1⟩
  go_wp2_with fail
  refine (check_any _ _ hok).mono ?_
  rintro e w2 ⟨S, rfl, hS, f2⟩
  obtain ⟨p1, p2, p3⟩ := plain_chk b
  rw [p1]
  obtain rfl : S = ⟨#[]⟩ := by rw [hS p3, p2]
  clear p1 p2 p3 hS hok
  go_wp2_with (go_at_call 16; refine (name_any _ _).mono ?_; rintro e w' ⟨rfl, rfl⟩)
  go_ret
  exact ⟨rfl, f1.trans f2⟩
end Go.Proofs.Ytdbkkbeelemnhaa
