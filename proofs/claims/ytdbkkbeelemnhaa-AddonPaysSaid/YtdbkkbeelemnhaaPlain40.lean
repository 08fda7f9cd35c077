/-
  plain and lives of the statements about layer 40: a small game with two add-ons is valid.
-/
import Derived.Test.YtdbkkbeelemnhaaPrice
import Derived.Test.YtdbkkbeelemnhaaPlainG
import Derived.Deep.DeepCutAuto
set_option linter.unusedVariables false
namespace Go.Proofs.Ytdbkkbeelemnhaa
open Go.RowKit
def adM (f : Nat) : Ad := ⟨⟨#[109]⟩, 1, 50, some ⟨f, 0, none⟩, 2, [2, 3], 0, none, 0, []⟩
def adS (p : Nat) : Ad := ⟨⟨#[115]⟩, 2, 100, none, 0, [], 3, some ⟨p, 0, none⟩, 3, [5, 50, 500]⟩
/-- the game, with the blocks of its tiers, factors, prizes and add-ons -/
def gm40 (b f p a : Nat) : Gm := withA (plainG b) (some ⟨a, 0, none⟩) 2 [adM f, adS p]
theorem gm40_chk (b f p a : Nat) : chkE (gm40 b f p a) = 0 := by kernel_rfl
theorem gm40_pri (b f p a : Nat) : priE (gm40 b f p a) 3 = 0 ∧ priV (gm40 b f p a) 3 = 150 := ⟨by kernel_rfl, by kernel_rfl⟩
theorem RdI.frb {bs : List Nat} {w w' : World} {g o n c : Nat} {l : List Int} (h : RdI w (.slice (some ⟨g, o, none⟩) n c) l) (hf : Fr bs w w') (hn : g ∉ bs) : RdI w' (.slice (some ⟨g, o, none⟩) n c) l :=
  h.keep fun g' o' x hv j hc => by
    simp only [Value.slice.injEq, Option.some.injEq, Addr.mk.injEq, and_true] at hv
    obtain ⟨⟨rfl, rfl⟩, _⟩ := hv
    exact hf.cell (by
      cases hx : w.cell? ⟨g, j, none⟩ with
      | none => exact absurd hx hc
      | some y => exact lt_of_cell hx) hn
theorem rdi_new {w : World} {n : Nat} (hz : w.heap.size = n) (l : List Int) (T : TypeId) (k : Nat) (hk : l.length = k) (hm : k ≤ 100) : RdI (w.alloc (.cells (l.map (Value.int .i64)).toArray T)) (.slice (some ⟨n, 0, none⟩) k k) l := by
  subst hk
  refine ⟨_, _, rfl, Nat.le_refl _, by unfold maxLen; omega, fun j hj => ⟨n, 0, rfl, ?_⟩⟩
  rw [Nat.zero_add]
  exact new_cell hz (by simp [List.getD, hj])
theorem rdf_two {α : Type} (c : Nat) (f : α → List Value) {w : World} {n : Nat} (hz : w.heap.size = n) (x y : α) (T : TypeId) (hx : (f x).length = c) (hy : (f y).length = c) :
    RdF c (fun x => pairs (f x)) (w.alloc (.cells (f x ++ f y).toArray T)) (.slice (some ⟨n, 0, none⟩) 2 2) [x, y] := by
  refine ⟨_, _, rfl, Nat.le_refl _, by unfold maxLen; simp, fun j z hj => ⟨n, 0, rfl, fun i v hv => ?_⟩⟩
  rw [mem_pairs] at hv
  rw [Nat.zero_add]
  refine new_cell hz ?_
  have hi := (List.getElem?_eq_some_iff.1 hv).1
  match j, hj with
  | 0, hj =>
    simp at hj
    subst hj
    rw [Nat.zero_mul, Nat.zero_add]
    simp [List.getElem?_append_left hi, hv]
  | 1, hj =>
    simp at hj
    subst hj
    simp only [Nat.one_mul, List.getElem?_toArray]
    rw [List.getElem?_append_right (by omega), hx, Nat.add_sub_cancel_left]
    exact hv
  | j + 2, hj => simp at hj
abbrev zG : Array Value := #[.string ⟨#[]⟩, .int .i64 0, .int .i64 0, .int .i64 0, .int .i64 0, .int .i64 0, .int .i64 0, .int .i64 0, .int .i64 0, .int .i64 0, .int .i64 0, .int .i64 0, .int .i64 0, .int .i64 0, .int .i64 0, .int .i64 0, .int .i64 0, .int .i64 0, .int .i64 0, .int .i64 0, .slice none 0 0, .slice none 0 0]
set_option maxRecDepth 20000 in
set_option maxHeartbeats 2000000 in
theorem plain40_any (w : World) : Calls Try.prog 24 #[] w fun e w' => ∃ b f p a, e = .returned (gm40 b f p a).val ∧ (gm40 b f p a).Ok w' ∧ Fr [] w w' := by
  have hb : ∀ (w : World) (b : Nat), (Instr.build 29 #[(0, .string ⟨#[97]⟩), (1, .int .i64 1), (2, .int .i64 1), (3, .int .i64 1), (4, .int .i64 2), (8, .int .i64 1), (9, .int .i64 1), (10, .int .i64 1), (14, .int .i64 1), (17, .int .i64 1), (21, .slice (some ⟨b, 0, none⟩) 1 1)]).run Try.prog w = .ok (plainG b).val w := fun w b => by kernel_rfl
  go_enter Try.func24, Try.ntmps24
  have hW0 : ∀ (T : Array Value), (((w.alloc (.cells zG 29)).alloc (.cells T 57)).alloc (.cells zG 29)).heap[w.heap.size + 1 + 1]? = some (.cells zG 29 (0, 0)) := fun T => by
    have := heap_alloc_new ((w.alloc (.cells zG 29)).alloc (.cells T 57)) (.cells zG 29)
    simpa using this
  have hWD : ∀ (T : Array Value) (w3 : World) (v : Value) (F P A : Obj), Fr [w.heap.size + 1 + 1] (((w.alloc (.cells zG 29)).alloc (.cells T 57)).alloc (.cells zG 29)) w3 → ((((w3.setCell ⟨w.heap.size + 1 + 1, 20, none⟩ v).alloc F).alloc P).alloc A).heap[w.heap.size]? = some (.cells zG 29 (0, 0)) := by
    intro T w3 v F P A h
    have h1 := ((((Fr.refl [w.heap.size + 1 + 1] (w.alloc (.cells zG 29))).alloc (.cells T 57)).alloc (.cells zG 29)).trans' h (by simp))
    have h2 := (((h1.setCell (p := ⟨w.heap.size + 1 + 1, 20, none⟩) (.inl (by simp)) v).alloc F).alloc P).alloc A
    rw [h2.block w.heap.size (by simp) (by simp; omega)]
    exact heap_alloc_new _ _
  have HW0 := Lib.hid hW0
  have HWD := Lib.hid hWD
  clear hW0 hWD
  go_upto_region 3 with (refine store_game rfl (.tmp 1) (.tmp 4) rfl (w.heap.size + 1 + 1) rfl _ (HW0.out _) rfl (plainG (w.heap.size + 1)) rfl ?_; intro w3 hg3 hz3 hf3; have c20 := hg3.cell 20 _ rfl; have z20 := gm_frozen hg3 20)
  go_wp2_with (first | (refine load_game rfl (.tmp 1) rfl _ rfl (gm40 (w.heap.size + 1) (w.heap.size + 1 + 1 + 1) (w.heap.size + 1 + 1 + 1 + 1) (w.heap.size + 1 + 1 + 1 + 1 + 1)) ((gm_set_addons hg3 _ 2 [adM (w.heap.size + 1 + 1 + 1), adS (w.heap.size + 1 + 1 + 1 + 1)]).fr ((((Fr.refl [] _).alloc _).alloc _).alloc _) (by simp)) ?_) | (refine store_game rfl (.tmp 0) (.tmp 11) rfl w.heap.size rfl zG (HWD.out _ _ _ _ _ _ hf3) rfl (gm40 (w.heap.size + 1) (w.heap.size + 1 + 1 + 1) (w.heap.size + 1 + 1 + 1 + 1) (w.heap.size + 1 + 1 + 1 + 1 + 1)) rfl ?_; intro w5 hg5 hz5 hf5))
  refine bodyPost_ret (v := (gm40 (w.heap.size + 1) (w.heap.size + 1 + 1 + 1) (w.heap.size + 1 + 1 + 1 + 1) (w.heap.size + 1 + 1 + 1 + 1 + 1)).val) (by rw [Gm.val_eq]; exact results_cell_row rfl _ _ w.heap.size 29 _ (0, 0) _ rfl hg5 Try.underlying29 rfl infoGame) rfl ⟨_, _, _, _, rfl, ?_, ?_⟩
  · have hs3 : w3.heap.size = w.heap.size + 1 + 1 + 1 := by rw [hz3]; simp
    have hr := rdf_one 6 Ti.cells (w.alloc (.cells zG 29)) ⟨1, 0, 0, 0, 1, 0⟩ _ 57 rfl rfl
    rw [show (w.alloc (.cells zG 29)).heap.size = w.heap.size + 1 by simp] at hr
    have ht5 := ((((hr.fr ((Fr.refl [] _).alloc (.cells zG 29)) (by simp)).fr hf3 (by simp)).fr ((((Fr.refl [w.heap.size + 1 + 1] w3).setCell (p := ⟨w.heap.size + 1 + 1, 20, none⟩) (.inl (by simp)) _).alloc _).alloc _) (by simp)).fr ((Fr.refl [] _).alloc _) (by simp)).fr hf5 (by simp)
    have hf := rdi_new (w := w3.setCell ⟨w.heap.size + 1 + 1, 20, none⟩ (.slice (some ⟨w.heap.size + 1 + 1 + 1 + 1 + 1, 0, none⟩) 2 2)) (n := w.heap.size + 1 + 1 + 1) (by simp [World.setCell, hs3]) [2, 3] 3 2 rfl (by omega)
    have hf5' := ((hf.frb ((Fr.refl [] _).alloc _) (by simp)).frb ((Fr.refl [] _).alloc _) (by simp)).frb hf5 (by simp; omega)
    have hp := rdi_new (w := (w3.setCell ⟨w.heap.size + 1 + 1, 20, none⟩ (.slice (some ⟨w.heap.size + 1 + 1 + 1 + 1 + 1, 0, none⟩) 2 2)).alloc (.cells #[.int .i64 2, .int .i64 3] 3)) (n := w.heap.size + 1 + 1 + 1 + 1) (by simp [World.setCell, hs3]) [5, 50, 500] 3 3 rfl (by omega)
    have hp5 := (hp.frb ((Fr.refl [] _).alloc _) (by simp)).frb hf5 (by simp; omega)
    have ha := rdf_two 6 Ad.cells (w := ((w3.setCell ⟨w.heap.size + 1 + 1, 20, none⟩ (.slice (some ⟨w.heap.size + 1 + 1 + 1 + 1 + 1, 0, none⟩) 2 2)).alloc (.cells #[.int .i64 2, .int .i64 3] 3)).alloc (.cells #[.int .i64 5, .int .i64 50, .int .i64 500] 3)) (n := w.heap.size + 1 + 1 + 1 + 1 + 1) (by simp [World.setCell, hs3]) (adM (w.heap.size + 1 + 1 + 1)) (adS (w.heap.size + 1 + 1 + 1 + 1)) 53 rfl rfl
    have ha5 := ha.fr hf5 (by simp; omega)
    refine withA_ok (plain_ok _ _ ht5) (Fr.refl _ _) ⟨ha5, ?_⟩
    intro x hx
    simp at hx
    rcases hx with rfl | rfl
    · refine ⟨(by show 1 ≤ maxLen; unfold maxLen; omega), rfl, rfl, rfl, hf5', ⟨none, 0, rfl, by simp [adM], by simp, by simp [adM]⟩, ?_, by simp [adM]⟩
      intro z hz
      simp [adM] at hz
      rcases hz with rfl | rfl <;> rfl
    · refine ⟨(by show 1 ≤ maxLen; unfold maxLen; omega), rfl, rfl, rfl, ⟨none, 0, rfl, by simp [adS], by simp, by simp [adS]⟩, hp5, by simp [adS], ?_⟩
      intro z hz
      simp [adS] at hz
      rcases hz with rfl | rfl | rfl <;> rfl
  · refine (((((((Fr.refl [] w).alloc _).alloc _).alloc _).trans' hf3 (by simp; omega)).setCell (p := ⟨w.heap.size + 1 + 1, 20, none⟩) (.inr (by simp; omega)) _).alloc _ |>.alloc _ |>.alloc _).trans' hf5 (by simp)
set_option maxHeartbeats 1000000 in
theorem lives40_any (w : World) : Calls Try.prog 27 #[] w fun e w' => e = .returned (.bool true) ∧ Fr [] w w' := by
  go_enter Try.func27, Try.ntmps27
  go_wp2_with fail
  refine (plain40_any _).mono ?_
  rintro e w1 ⟨b, f, p, a, rfl, hok, f1⟩
  go_wp2_with fail
  refine (price_any _ _ _ hok).mono ?_
  rintro e w2 ⟨rfl, f2⟩
  obtain ⟨p1, p2⟩ := gm40_pri b f p a
  rw [p1, p2]
  clear p1 p2 hok
  go_wp2_with fail
  go_ret
  exact ⟨rfl, f1.trans f2⟩
end Go.Proofs.Ytdbkkbeelemnhaa
