/-
  LAYER 36: the game of the statements.
-/
import Derived.Test.YtdinjekpcgndmaaPlainG
import Derived.Test.YtdinjekpcgndmaaNew
import Derived.Test.YtdinjekpcgndmaaFund
set_option linter.unusedVariables false
namespace Go.Proofs.Ytdinjekpcgndmaa
open Go.RowKit
theorem flat36_at {α : Type} (c : Nat) (f : α → List Value) : ∀ (l : List α), (∀ x ∈ l, (f x).length = c) → ∀ (j i : Nat) (x : α) (v : Value), l[j]? = some x → (f x)[i]? = some v → (l.flatMap f)[j * c + i]? = some v := by
  intro l
  induction l with
  | nil => intro _ j i x v hj _; simp at hj
  | cons a l ih =>
    intro hf j i x v hj hi
    have ha := hf a (by simp)
    rw [List.flatMap_cons]
    cases j with
    | zero =>
      simp at hj
      subst hj
      have := (List.getElem?_eq_some_iff.1 hi).1
      rw [Nat.zero_mul, Nat.zero_add, List.getElem?_append_left this]
      exact hi
    | succ j =>
      simp at hj
      rw [List.getElem?_append_right (by rw [ha, Nat.add_mul]; omega), ha, show (j + 1) * c + i - c = j * c + i by rw [Nat.add_mul]; omega]
      exact ih (fun y hy => hf y (by simp [hy])) j i x v hj hi
theorem rdf36_rows {α : Type} (c : Nat) (f : α → List Value) {w : World} {n : Nat} (hz : w.heap.size = n) (l : List α) (T : TypeId) (k : Nat) (hk : l.length = k) (hm : k ≤ 100) (hf : ∀ x ∈ l, (f x).length = c) (C : Array Value) (hC : C = (l.flatMap f).toArray) :
    RdF c (fun x => pairs (f x)) (w.alloc (.cells C T)) (.slice (some ⟨n, 0, none⟩) k k) l := by
  subst hk
  refine ⟨_, _, rfl, Nat.le_refl _, by unfold maxLen; omega, fun j x hj => ⟨n, 0, rfl, fun i v hv => ?_⟩⟩
  rw [mem_pairs] at hv
  rw [Nat.zero_add]
  subst hC
  exact new_cell hz (by simpa using flat36_at c f l hf j i x v hj hv)
def pl36 (b : Nat) : Gm := ⟨⟨#[97]⟩, 1, 1, 3, 20, 0, 0, 0, 1, 3, 1, 0, 0, 0, 1, 5000, 1000, 1, 0, 0, none, 0, [], some ⟨b, 0, none⟩, 3, [⟨3, 0, 0, 0, 3, 2⟩, ⟨2, 0, 0, 0, 2, 1⟩, ⟨1, 0, 0, 0, 1, 300⟩]⟩
theorem pl36_ok (w : World) (b : Nat) (h : RdF 6 tiF w (.slice (some ⟨b, 0, none⟩) 3 3) (pl36 b).tiers) : (pl36 b).Ok w := by
  refine ⟨(by show 1 ≤ maxLen; unfold maxLen; omega), rfl, rfl, rfl, rfl, rfl, rfl, rfl, rfl, rfl, rfl, rfl, rfl, rfl, rfl, rfl, rfl, rfl, rfl, rfl, ⟨⟨none, 0, rfl, by simp [pl36], by simp, by simp [pl36]⟩, by simp [pl36]⟩, ⟨h, ?_⟩⟩
  intro x hx
  simp [pl36] at hx
  rcases hx with rfl | rfl | rfl <;> exact ⟨rfl, rfl, rfl, rfl, rfl, rfl⟩
abbrev zGm36 : Array Value := #[.string ⟨#[]⟩, .int .i64 0, .int .i64 0, .int .i64 0, .int .i64 0, .int .i64 0, .int .i64 0, .int .i64 0, .int .i64 0, .int .i64 0, .int .i64 0, .int .i64 0, .int .i64 0, .int .i64 0, .int .i64 0, .int .i64 0, .int .i64 0, .int .i64 0, .int .i64 0, .int .i64 0, .slice none 0 0, .slice none 0 0]
set_option maxRecDepth 20000 in
set_option maxHeartbeats 2000000 in
theorem plain36_any (w : World) : Calls Try.prog 49 #[] w fun e w' => ∃ b, e = .returned (pl36 b).val ∧ (pl36 b).Ok w' ∧ Fr [] w w' := by
  have hb : ∀ (w : World) (b : Nat), (Instr.build 25 #[(0, .string ⟨#[97]⟩), (1, .int .i64 1), (2, .int .i64 1), (3, .int .i64 3), (4, .int .i64 20), (8, .int .i64 1), (9, .int .i64 3), (10, .int .i64 1), (14, .int .i64 1), (15, .int .i64 5000), (16, .int .i64 1000), (17, .int .i64 1), (21, .slice (some ⟨b, 0, none⟩) 3 3)]).run Try.prog w = .ok (pl36 b).val w := fun w b => by kernel_rfl
  go_enter Try.func49, Try.ntmps49
  go_wp2_with (refine store_game rfl (.tmp 0) (.tmp 5) rfl w.heap.size rfl _ (heap_alloc2_old _ _ _) rfl (pl36 (w.heap.size + 1)) rfl ?_; intro w3 hg3 hz3 hf3)
  refine bodyPost_ret (v := (pl36 (w.heap.size + 1)).val) (by rw [Gm.val_eq]; exact results_cell_row rfl _ _ w.heap.size 25 _ (0, 0) _ rfl hg3 Try.underlying25 rfl infoGame) rfl ⟨_, rfl, ?_, ?_⟩
  · refine pl36_ok _ _ ?_
    have hr := rdf36_rows 6 Ti.cells (w := w.alloc (.cells zGm36 25)) (n := w.heap.size + 1) (by simp) (pl36 (w.heap.size + 1)).tiers 40 3 rfl (by omega) (by intro x hx; rfl) _ rfl
    exact hr.fr hf3 (by simp)
  · exact (((Fr.refl [] w).alloc _).alloc _).trans' hf3 (by simp)
theorem pl36_fund (b : Nat) : fuE (pl36 b) 2001 = 0 ∧ fuA (pl36 b) 2001 = 1000 ∧ fuB (pl36 b) 2001 = 100 := ⟨by kernel_rfl, by kernel_rfl, by kernel_rfl⟩
set_option maxRecDepth 20000 in
theorem funds_any (w : World) : Calls Try.prog 20 #[] w fun e w' => e = .returned (.bool true) ∧ Fr [] w w' := by
  have HF := Lib.hid (fun b w' h => fund_any (pl36 b) 2001 w' h)
  go_enter Try.func20, Try.ntmps20
  go_wp2_with fail
  refine (plain36_any _).mono ?_
  rintro e w1 ⟨b, rfl, hok, f1⟩
  go_wp2_with fail
  refine (HF.out b _ hok).mono ?_
  rintro e w2 ⟨rfl, f2⟩
  obtain ⟨k1, k2, k3⟩ := pl36_fund b
  rw [k1, k2, k3]
  have hF := f1.trans f2
  clear k1 k2 k3 hok f1 f2
  go_wp2_with fail
  go_ret
  exact ⟨rfl, hF⟩
end Go.Proofs.Ytdinjekpcgndmaa
