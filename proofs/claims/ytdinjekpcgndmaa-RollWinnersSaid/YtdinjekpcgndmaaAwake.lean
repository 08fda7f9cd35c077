/-
  LAYER 37: the game of the statements, and its examples.
-/
import Derived.Test.YtdinjekpcgndmaaPlainG
import Derived.Test.YtdinjekpcgndmaaNew
import Derived.Test.YtdinjekpcgndmaaFlow
import Derived.Test.YtdinjekpcgndmaaInts
set_option linter.unusedVariables false
namespace Go.Proofs.Ytdinjekpcgndmaa
open Go.RowKit
theorem flat_at {α : Type} (c : Nat) (f : α → List Value) : ∀ (l : List α), (∀ x ∈ l, (f x).length = c) → ∀ (j i : Nat) (x : α) (v : Value), l[j]? = some x → (f x)[i]? = some v → (l.flatMap f)[j * c + i]? = some v := by
  intro l
  induction l with
  | nil => intro _ j i x v hj _; simp at hj
  | cons a l ih =>
    intro hf j i x v hj hi
    have ha := hf a (by simp)
    rw [List.flatMap_cons]
    cases j with
    | zero =>
      simp at hj
      subst hj
      have := (List.getElem?_eq_some_iff.1 hi).1
      rw [Nat.zero_mul, Nat.zero_add, List.getElem?_append_left this]
      exact hi
    | succ j =>
      simp at hj
      rw [List.getElem?_append_right (by rw [ha, Nat.add_mul]; omega), ha, show (j + 1) * c + i - c = j * c + i by rw [Nat.add_mul]; omega]
      exact ih (fun y hy => hf y (by simp [hy])) j i x v hj hi
theorem rdf_rows {α : Type} (c : Nat) (f : α → List Value) {w : World} {n : Nat} (hz : w.heap.size = n) (l : List α) (T : TypeId) (k : Nat) (hk : l.length = k) (hm : k ≤ 100) (hf : ∀ x ∈ l, (f x).length = c) (C : Array Value) (hC : C = (l.flatMap f).toArray) :
    RdF c (fun x => pairs (f x)) (w.alloc (.cells C T)) (.slice (some ⟨n, 0, none⟩) k k) l := by
  subst hk
  refine ⟨_, _, rfl, Nat.le_refl _, by unfold maxLen; omega, fun j x hj => ⟨n, 0, rfl, fun i v hv => ?_⟩⟩
  rw [mem_pairs] at hv
  rw [Nat.zero_add]
  subst hC
  exact new_cell hz (by simpa using flat_at c f l hf j i x v hj hv)
def exG (b : Nat) : Gm := ⟨⟨#[97]⟩, 1, 100, 6, 49, 0, 0, 0, 4, 6, 1, 0, 0, 0, 1, 0, 0, 1, 1000, 3, none, 0, [], some ⟨b, 0, none⟩, 4, [⟨6, 0, 0, 0, 3, 1⟩, ⟨5, 0, 0, 0, 1, 10⟩, ⟨4, 0, 0, 0, 2, 1⟩, ⟨3, 0, 0, 0, 2, 1⟩]⟩
theorem exG_ok (w : World) (b : Nat) (h : RdF 6 tiF w (.slice (some ⟨b, 0, none⟩) 4 4) (exG b).tiers) : (exG b).Ok w := by
  refine ⟨(by show 1 ≤ maxLen; unfold maxLen; omega), rfl, rfl, rfl, rfl, rfl, rfl, rfl, rfl, rfl, rfl, rfl, rfl, rfl, rfl, rfl, rfl, rfl, rfl, rfl, ⟨⟨none, 0, rfl, by simp [exG], by simp, by simp [exG]⟩, by simp [exG]⟩, ⟨h, ?_⟩⟩
  intro x hx
  simp [exG] at hx
  rcases hx with rfl | rfl | rfl | rfl <;> exact ⟨rfl, rfl, rfl, rfl, rfl, rfl⟩
abbrev zGm : Array Value := #[.string ⟨#[]⟩, .int .i64 0, .int .i64 0, .int .i64 0, .int .i64 0, .int .i64 0, .int .i64 0, .int .i64 0, .int .i64 0, .int .i64 0, .int .i64 0, .int .i64 0, .int .i64 0, .int .i64 0, .int .i64 0, .int .i64 0, .int .i64 0, .int .i64 0, .int .i64 0, .int .i64 0, .slice none 0 0, .slice none 0 0]
set_option maxRecDepth 20000 in
set_option maxHeartbeats 2000000 in
theorem example_any (w : World) : Calls Try.prog 50 #[] w fun e w' => ∃ b, e = .returned (exG b).val ∧ (exG b).Ok w' ∧ Fr [] w w' := by
  have hb : ∀ (w : World) (b : Nat), (Instr.build 25 #[(0, .string ⟨#[97]⟩), (1, .int .i64 1), (2, .int .i64 100), (3, .int .i64 6), (4, .int .i64 49), (8, .int .i64 4), (9, .int .i64 6), (10, .int .i64 1), (14, .int .i64 1), (17, .int .i64 1), (18, .int .i64 1000), (19, .int .i64 3), (21, .slice (some ⟨b, 0, none⟩) 4 4)]).run Try.prog w = .ok (exG b).val w := fun w b => by kernel_rfl
  go_enter Try.func50, Try.ntmps50
  go_wp2_with (refine store_game rfl (.tmp 0) (.tmp 6) rfl w.heap.size rfl _ (heap_alloc2_old _ _ _) rfl (exG (w.heap.size + 1)) rfl ?_; intro w3 hg3 hz3 hf3)
  refine bodyPost_ret (v := (exG (w.heap.size + 1)).val) (by rw [Gm.val_eq]; exact results_cell_row rfl _ _ w.heap.size 25 _ (0, 0) _ rfl hg3 Try.underlying25 rfl infoGame) rfl ⟨_, rfl, ?_, ?_⟩
  · refine exG_ok _ _ ?_
    have hr := rdf_rows 6 Ti.cells (w := w.alloc (.cells zGm 25)) (n := w.heap.size + 1) (by simp) (exG (w.heap.size + 1)).tiers 40 4 rfl (by omega) (by intro x hx; rfl) _ rfl
    exact hr.fr hf3 (by simp)
  · exact (((Fr.refl [] w).alloc _).alloc _).trans' hf3 (by simp)
theorem ex_cap (b : Nat) : capE (exG b) [1500, 10, 20, 30] = 0 ∧ capL (exG b) [1500, 10, 20, 30] = [1000, 10, 520, 30] := ⟨by kernel_rfl, by kernel_rfl⟩
theorem ex_fl1 (b : Nat) : flE (exG b) [1000, 10, 520, 30] [0, 1, 0, 2] 0 = 0 ∧ flP (exG b) [1000, 10, 520, 30] [0, 1, 0, 2] 0 = [0, 10, 0, 550] ∧ flC (exG b) [1000, 10, 520, 30] [0, 1, 0, 2] 0 = [1000, 0, 0, 0] ∧ flN (exG b) [1000, 10, 520, 30] [0, 1, 0, 2] 0 = 1 := ⟨by kernel_rfl, by kernel_rfl, by kernel_rfl, by kernel_rfl⟩
theorem ex_fl2 (b : Nat) : flE (exG b) [1000, 10, 520, 30] [0, 1, 0, 2] 2 = 0 ∧ flP (exG b) [1000, 10, 520, 30] [0, 1, 0, 2] 2 = [0, 10, 0, 1550] ∧ flC (exG b) [1000, 10, 520, 30] [0, 1, 0, 2] 2 = [0, 0, 0, 0] ∧ flN (exG b) [1000, 10, 520, 30] [0, 1, 0, 2] 2 = 0 := ⟨by kernel_rfl, by kernel_rfl, by kernel_rfl, by kernel_rfl⟩
theorem ex_fl3 (b : Nat) : flE (exG b) [1000, 10, 520, 30] [0, 0, 0, 0] 2 = 0 ∧ flP (exG b) [1000, 10, 520, 30] [0, 0, 0, 0] 2 = [0, 10, 0, 0] ∧ flC (exG b) [1000, 10, 520, 30] [0, 0, 0, 0] 2 = [1550, 0, 0, 0] ∧ flN (exG b) [1000, 10, 520, 30] [0, 0, 0, 0] 2 = 3 := ⟨by kernel_rfl, by kernel_rfl, by kernel_rfl, by kernel_rfl⟩
theorem ex_fl4 (b : Nat) : flE (exG b) [1000, 10, 520, 30] [1, 0, 0, 0] 1 = 0 ∧ flP (exG b) [1000, 10, 520, 30] [1, 0, 0, 0] 1 = [1000, 10, 0, 0] ∧ flC (exG b) [1000, 10, 520, 30] [1, 0, 0, 0] 1 = [550, 0, 0, 0] ∧ flN (exG b) [1000, 10, 520, 30] [1, 0, 0, 0] 1 = 0 := ⟨by kernel_rfl, by kernel_rfl, by kernel_rfl, by kernel_rfl⟩
set_option maxRecDepth 20000 in
set_option maxHeartbeats 4000000 in
theorem awake_any (w : World) : Calls Try.prog 21 #[] w fun e w' => e = .returned (.bool true) ∧ Fr [] w w' := by
  go_enter Try.func21, Try.ntmps21
  go_wp2_with fail
  refine (example_any _).mono ?_
  rintro e w1 ⟨b, rfl, hok, f1⟩
  have HOK := Lib.hid hok
  clear hok
  go_wp2_with (first | (refine store_game rfl (.tmp 1) (.tmp 22) rfl w1.heap.size rfl _ (heap_alloc_new _ _) rfl (exG b) rfl ?_; intro w2 hg2 hz2 hf2; clear hz2) | (refine load_game rfl (.tmp 1) rfl _ rfl (exG b) hg2 ?_))
  have hF2 : Fr [] w1 w2 := ((Fr.refl [] w1).alloc _).trans' hf2 (by simp)
  clear hf2
  obtain ⟨wA, hwA⟩ : ∃ wA, wA = w2.alloc (.cells #[.int .i64 1500, .int .i64 10, .int .i64 20, .int .i64 30] 3) := ⟨_, rfl⟩
  have fA : Fr [] w2 wA := by rw [hwA]; exact (Fr.refl [] _).alloc _
  have RA : RdI wA (.slice (some ⟨w2.heap.size, 0, none⟩) 4 4) [1500, 10, 20, 30] := by rw [hwA]; exact rdi_mk rfl [1500, 10, 20, 30] _ 4 rfl (by omega)
  have OA := HOK.out.fr (hF2.trans fA)
  have GA := hg2.fr fA (by simp)
  rw [← hwA]
  clear hwA
  refine (cap_any (exG b) _ [1500, 10, 20, 30] wA OA RA).mono ?_
  rintro e w3 ⟨v1, rfl, ho1, f3⟩
  obtain ⟨k1, k2⟩ := ex_cap b
  rw [k1]
  rw [k2] at ho1
  have R1 := Lib.hid ho1.rd
  have G3 := Lib.hid (GA.fr f3 (by simp))
  have F3 := Lib.hid ((hF2.trans fA).trans f3)
  clear k1 k2 ho1 f3 RA OA GA hF2 fA hg2
  go_wp2_with (refine load_game rfl (.tmp 1) rfl _ rfl (exG b) (G3.out.fr ((Fr.refl [] _).alloc _) (by simp)) ?_)
  obtain ⟨wL, hwL⟩ : ∃ wL, wL = w3.alloc (.cells #[.int .i64 1000, .int .i64 10, .int .i64 520, .int .i64 30] 3) := ⟨_, rfl⟩
  have fL : Fr [] w3 wL := by rw [hwL]; exact (Fr.refl [] _).alloc _
  have RL : RdI wL (.slice (some ⟨w3.heap.size, 0, none⟩) 4 4) [1000, 10, 520, 30] := by rw [hwL]; exact rdi_mk rfl [1000, 10, 520, 30] _ 4 rfl (by omega)
  have zL : wL.heap.size = w3.heap.size + 1 := by rw [hwL]; simp
  obtain ⟨w4, hw4⟩ : ∃ w4, w4 = wL.alloc (.cells #[.int .i64 0, .int .i64 1, .int .i64 0, .int .i64 2] 3) := ⟨_, rfl⟩
  have f4 : Fr [] wL w4 := by rw [hw4]; exact (Fr.refl [] _).alloc _
  have RC : RdI w4 (.slice (some ⟨w3.heap.size + 1, 0, none⟩) 4 4) [0, 1, 0, 2] := by rw [hw4]; exact rdi_mk zL [0, 1, 0, 2] _ 4 rfl (by omega)
  rw [← hwL, ← hw4]
  have RL := RL.below f4
  have f34 := fL.trans f4
  clear hwL hw4 zL fL f4
  have OC := HOK.out.fr (F3.out.trans f34)
  refine (flow_any (exG b) _ _ [1000, 10, 520, 30] [0, 1, 0, 2] 0 w4 OC RL RC).mono ?_
  rintro e w5 ⟨p1, c1, rfl, op, oc, f5⟩
  obtain ⟨k1, k2, k3, k4⟩ := ex_fl1 b
  rw [k1, k4]
  rw [k2] at op
  rw [k3] at oc
  have fS := f34.trans f5
  have P1 := Lib.hid op.rd
  have C1 := Lib.hid oc.rd
  have R1 := Lib.hid (R1.out.below fS)
  have RL := Lib.hid (RL.below f5)
  have G5 := Lib.hid (G3.out.fr fS (by simp))
  have F5 := Lib.hid (F3.out.trans fS)
  clear k1 k2 k3 k4 op oc OC RC f34 f5 fS G3 F3
  go_wp2_with (refine load_game rfl (.tmp 1) rfl _ rfl (exG b) G5.out ?_)
  obtain ⟨w4, hw4⟩ : ∃ w4, w4 = w5.alloc (.cells #[.int .i64 0, .int .i64 1, .int .i64 0, .int .i64 2] 3) := ⟨_, rfl⟩
  have f34 : Fr [] w5 w4 := by rw [hw4]; exact (Fr.refl [] _).alloc _
  have RC : RdI w4 (.slice (some ⟨w5.heap.size, 0, none⟩) 4 4) [0, 1, 0, 2] := by rw [hw4]; exact rdi_mk rfl [0, 1, 0, 2] _ 4 rfl (by omega)
  rw [← hw4]
  have RL := RL.out.below f34
  clear hw4
  have OC := HOK.out.fr (F5.out.trans f34)
  refine (flow_any (exG b) _ _ [1000, 10, 520, 30] [0, 1, 0, 2] 2 w4 OC RL RC).mono ?_
  rintro e w6 ⟨p2, c2, rfl, op, oc, f5⟩
  obtain ⟨k1, k2, k3, k4⟩ := ex_fl2 b
  rw [k1, k4]
  rw [k2] at op
  rw [k3] at oc
  have fS := f34.trans f5
  have P2 := Lib.hid op.rd
  have C2 := Lib.hid oc.rd
  have R1 := Lib.hid (R1.out.below fS)
  have P1 := Lib.hid (P1.out.below fS)
  have C1 := Lib.hid (C1.out.below fS)
  have RL := Lib.hid (RL.below f5)
  have G6 := Lib.hid (G5.out.fr fS (by simp))
  have F6 := Lib.hid (F5.out.trans fS)
  clear k1 k2 k3 k4 op oc OC RC f34 f5 fS G5 F5
  go_wp2_with (refine load_game rfl (.tmp 1) rfl _ rfl (exG b) G6.out ?_)
  obtain ⟨w4, hw4⟩ : ∃ w4, w4 = w6.alloc (.cells #[.int .i64 0, .int .i64 0, .int .i64 0, .int .i64 0] 3) := ⟨_, rfl⟩
  have f34 : Fr [] w6 w4 := by rw [hw4]; exact (Fr.refl [] _).alloc _
  have RC : RdI w4 (.slice (some ⟨w6.heap.size, 0, none⟩) 4 4) [0, 0, 0, 0] := by rw [hw4]; exact rdi_mk rfl [0, 0, 0, 0] _ 4 rfl (by omega)
  rw [← hw4]
  have RL := RL.out.below f34
  clear hw4
  have OC := HOK.out.fr (F6.out.trans f34)
  refine (flow_any (exG b) _ _ [1000, 10, 520, 30] [0, 0, 0, 0] 2 w4 OC RL RC).mono ?_
  rintro e w7 ⟨p3, c3, rfl, op, oc, f5⟩
  obtain ⟨k1, k2, k3, k4⟩ := ex_fl3 b
  rw [k1, k4]
  rw [k2] at op
  rw [k3] at oc
  have fS := f34.trans f5
  have P3 := Lib.hid op.rd
  have C3 := Lib.hid oc.rd
  have R1 := Lib.hid (R1.out.below fS)
  have P1 := Lib.hid (P1.out.below fS)
  have C1 := Lib.hid (C1.out.below fS)
  have P2 := Lib.hid (P2.out.below fS)
  have C2 := Lib.hid (C2.out.below fS)
  have RL := Lib.hid (RL.below f5)
  have G7 := Lib.hid (G6.out.fr fS (by simp))
  have F7 := Lib.hid (F6.out.trans fS)
  clear k1 k2 k3 k4 op oc OC RC f34 f5 fS G6 F6
  go_wp2_with (refine load_game rfl (.tmp 1) rfl _ rfl (exG b) G7.out ?_)
  obtain ⟨w4, hw4⟩ : ∃ w4, w4 = w7.alloc (.cells #[.int .i64 1, .int .i64 0, .int .i64 0, .int .i64 0] 3) := ⟨_, rfl⟩
  have f34 : Fr [] w7 w4 := by rw [hw4]; exact (Fr.refl [] _).alloc _
  have RC : RdI w4 (.slice (some ⟨w7.heap.size, 0, none⟩) 4 4) [1, 0, 0, 0] := by rw [hw4]; exact rdi_mk rfl [1, 0, 0, 0] _ 4 rfl (by omega)
  rw [← hw4]
  have RL := RL.out.below f34
  clear hw4
  have OC := HOK.out.fr (F7.out.trans f34)
  refine (flow_any (exG b) _ _ [1000, 10, 520, 30] [1, 0, 0, 0] 1 w4 OC RL RC).mono ?_
  rintro e w8 ⟨p4, c4, rfl, op, oc, f5⟩
  obtain ⟨k1, k2, k3, k4⟩ := ex_fl4 b
  rw [k1, k4]
  rw [k2] at op
  rw [k3] at oc
  have fS := f34.trans f5
  have P4 := Lib.hid op.rd
  have C4 := Lib.hid oc.rd
  have R1 := Lib.hid (R1.out.below fS)
  have P1 := Lib.hid (P1.out.below fS)
  have C1 := Lib.hid (C1.out.below fS)
  have P2 := Lib.hid (P2.out.below fS)
  have C2 := Lib.hid (C2.out.below fS)
  have P3 := Lib.hid (P3.out.below fS)
  have C3 := Lib.hid (C3.out.below fS)
  have RL := Lib.hid (RL.below f5)
  have G8 := Lib.hid (G7.out.fr fS (by simp))
  have F8 := Lib.hid (F7.out.trans fS)
  clear k1 k2 k3 k4 op oc OC RC f34 f5 fS G7 F7
  go_wp2_with fail
  refine (ints13_any _ _ _ _ w8 R1.out RL.out).mono ?_
  rintro e w9 ⟨rfl, f9⟩
  rw [show eqI [1000, 10, 520, 30] [1000, 10, 520, 30] = true from by kernel_rfl]
  have F9 := Lib.hid (F8.out.trans f9)
  have P1 := Lib.hid (P1.out.below f9)
  have C1 := Lib.hid (C1.out.below f9)
  have P2 := Lib.hid (P2.out.below f9)
  have C2 := Lib.hid (C2.out.below f9)
  have P3 := Lib.hid (P3.out.below f9)
  have C3 := Lib.hid (C3.out.below f9)
  have P4 := Lib.hid (P4.out.below f9)
  have C4 := Lib.hid (C4.out.below f9)
  clear f9 F8 R1 RL
  go_wp2_with fail
  obtain ⟨wz, hwz⟩ : ∃ wz, wz = w9.alloc (.cells #[.int .i64 0, .int .i64 0, .int .i64 0, .int .i64 0] 3) := ⟨_, rfl⟩
  have fz : Fr [] w9 wz := by rw [hwz]; exact (Fr.refl [] _).alloc _
  have RZ : RdI wz (.slice (some ⟨w9.heap.size, 0, none⟩) 4 4) [0, 0, 0, 0] := by rw [hwz]; exact rdi_mk rfl [0, 0, 0, 0] _ 4 rfl (by omega)
  have zz : wz.heap.size = w9.heap.size + 1 := by rw [hwz]; simp
  obtain ⟨wx, hwx⟩ : ∃ wx, wx = wz.alloc (.cells #[.int .i64 0, .int .i64 10, .int .i64 0, .int .i64 550] 3) := ⟨_, rfl⟩
  have fx : Fr [] wz wx := by rw [hwx]; exact (Fr.refl [] _).alloc _
  have RX : RdI wx (.slice (some ⟨w9.heap.size + 1, 0, none⟩) 4 4) [0, 10, 0, 550] := by rw [hwx]; exact rdi_mk zz [0, 10, 0, 550] _ 4 rfl (by omega)
  rw [← hwz, ← hwx]
  have RZ := Lib.hid (RZ.below fx)
  have fX := fz.trans fx
  clear hwz hwx zz fz fx
  refine (ints13_any _ _ _ _ wx (P1.out.below fX) RX).mono ?_
  rintro e x0 ⟨rfl, fy⟩
  rw [show eqI [0, 10, 0, 550] [0, 10, 0, 550] = true from by kernel_rfl]
  have fX := fX.trans fy
  have C1 := Lib.hid (C1.out.below fX)
  have P2 := Lib.hid (P2.out.below fX)
  have C2 := Lib.hid (C2.out.below fX)
  have P3 := Lib.hid (P3.out.below fX)
  have C3 := Lib.hid (C3.out.below fX)
  have P4 := Lib.hid (P4.out.below fX)
  have C4 := Lib.hid (C4.out.below fX)
  have RZ := Lib.hid (RZ.out.below fy)
  have FX := Lib.hid (F9.out.trans fX)
  clear fX RX fy P1
  go_wp2_with fail
  obtain ⟨wx, hwx⟩ : ∃ wx, wx = x0.alloc (.cells #[.int .i64 1000, .int .i64 0, .int .i64 0, .int .i64 0] 3) := ⟨_, rfl⟩
  have fX : Fr [] x0 wx := by rw [hwx]; exact (Fr.refl [] _).alloc _
  have RX : RdI wx (.slice (some ⟨x0.heap.size, 0, none⟩) 4 4) [1000, 0, 0, 0] := by rw [hwx]; exact rdi_mk rfl [1000, 0, 0, 0] _ 4 rfl (by omega)
  rw [← hwx]
  clear hwx
  refine (ints13_any _ _ _ _ wx (C1.out.below fX) RX).mono ?_
  rintro e x1 ⟨rfl, fy⟩
  rw [show eqI [1000, 0, 0, 0] [1000, 0, 0, 0] = true from by kernel_rfl]
  have fX := fX.trans fy
  have P2 := Lib.hid (P2.out.below fX)
  have C2 := Lib.hid (C2.out.below fX)
  have P3 := Lib.hid (P3.out.below fX)
  have C3 := Lib.hid (C3.out.below fX)
  have P4 := Lib.hid (P4.out.below fX)
  have C4 := Lib.hid (C4.out.below fX)
  have RZ := Lib.hid (RZ.out.below fX)
  have FX := Lib.hid (FX.out.trans fX)
  clear fX RX fy C1
  go_wp2_with fail
  obtain ⟨wx, hwx⟩ : ∃ wx, wx = x1.alloc (.cells #[.int .i64 0, .int .i64 10, .int .i64 0, .int .i64 1550] 3) := ⟨_, rfl⟩
  have fX : Fr [] x1 wx := by rw [hwx]; exact (Fr.refl [] _).alloc _
  have RX : RdI wx (.slice (some ⟨x1.heap.size, 0, none⟩) 4 4) [0, 10, 0, 1550] := by rw [hwx]; exact rdi_mk rfl [0, 10, 0, 1550] _ 4 rfl (by omega)
  rw [← hwx]
  clear hwx
  refine (ints13_any _ _ _ _ wx (P2.out.below fX) RX).mono ?_
  rintro e x2 ⟨rfl, fy⟩
  rw [show eqI [0, 10, 0, 1550] [0, 10, 0, 1550] = true from by kernel_rfl]
  have fX := fX.trans fy
  have C2 := Lib.hid (C2.out.below fX)
  have P3 := Lib.hid (P3.out.below fX)
  have C3 := Lib.hid (C3.out.below fX)
  have P4 := Lib.hid (P4.out.below fX)
  have C4 := Lib.hid (C4.out.below fX)
  have RZ := Lib.hid (RZ.out.below fX)
  have FX := Lib.hid (FX.out.trans fX)
  clear fX RX fy P2
  go_wp2_with fail
  refine (ints13_any _ _ _ _ x2 C2.out RZ.out).mono ?_
  rintro e x3 ⟨rfl, fX⟩
  rw [show eqI [0, 0, 0, 0] [0, 0, 0, 0] = true from by kernel_rfl]
  have P3 := Lib.hid (P3.out.below fX)
  have C3 := Lib.hid (C3.out.below fX)
  have P4 := Lib.hid (P4.out.below fX)
  have C4 := Lib.hid (C4.out.below fX)
  have RZ := Lib.hid (RZ.out.below fX)
  have FX := Lib.hid (FX.out.trans fX)
  clear fX C2
  go_wp2_with fail
  obtain ⟨wx, hwx⟩ : ∃ wx, wx = x3.alloc (.cells #[.int .i64 0, .int .i64 10, .int .i64 0, .int .i64 0] 3) := ⟨_, rfl⟩
  have fX : Fr [] x3 wx := by rw [hwx]; exact (Fr.refl [] _).alloc _
  have RX : RdI wx (.slice (some ⟨x3.heap.size, 0, none⟩) 4 4) [0, 10, 0, 0] := by rw [hwx]; exact rdi_mk rfl [0, 10, 0, 0] _ 4 rfl (by omega)
  rw [← hwx]
  clear hwx
  refine (ints13_any _ _ _ _ wx (P3.out.below fX) RX).mono ?_
  rintro e x4 ⟨rfl, fy⟩
  rw [show eqI [0, 10, 0, 0] [0, 10, 0, 0] = true from by kernel_rfl]
  have fX := fX.trans fy
  have C3 := Lib.hid (C3.out.below fX)
  have P4 := Lib.hid (P4.out.below fX)
  have C4 := Lib.hid (C4.out.below fX)
  have RZ := Lib.hid (RZ.out.below fX)
  have FX := Lib.hid (FX.out.trans fX)
  clear fX RX fy P3
  go_wp2_with fail
  obtain ⟨wx, hwx⟩ : ∃ wx, wx = x4.alloc (.cells #[.int .i64 1550, .int .i64 0, .int .i64 0, .int .i64 0] 3) := ⟨_, rfl⟩
  have fX : Fr [] x4 wx := by rw [hwx]; exact (Fr.refl [] _).alloc _
  have RX : RdI wx (.slice (some ⟨x4.heap.size, 0, none⟩) 4 4) [1550, 0, 0, 0] := by rw [hwx]; exact rdi_mk rfl [1550, 0, 0, 0] _ 4 rfl (by omega)
  rw [← hwx]
  clear hwx
  refine (ints13_any _ _ _ _ wx (C3.out.below fX) RX).mono ?_
  rintro e x5 ⟨rfl, fy⟩
  rw [show eqI [1550, 0, 0, 0] [1550, 0, 0, 0] = true from by kernel_rfl]
  have fX := fX.trans fy
  have P4 := Lib.hid (P4.out.below fX)
  have C4 := Lib.hid (C4.out.below fX)
  have RZ := Lib.hid (RZ.out.below fX)
  have FX := Lib.hid (FX.out.trans fX)
  clear fX RX fy C3
  go_wp2_with fail
  obtain ⟨wx, hwx⟩ : ∃ wx, wx = x5.alloc (.cells #[.int .i64 1000, .int .i64 10, .int .i64 0, .int .i64 0] 3) := ⟨_, rfl⟩
  have fX : Fr [] x5 wx := by rw [hwx]; exact (Fr.refl [] _).alloc _
  have RX : RdI wx (.slice (some ⟨x5.heap.size, 0, none⟩) 4 4) [1000, 10, 0, 0] := by rw [hwx]; exact rdi_mk rfl [1000, 10, 0, 0] _ 4 rfl (by omega)
  rw [← hwx]
  clear hwx
  refine (ints13_any _ _ _ _ wx (P4.out.below fX) RX).mono ?_
  rintro e x6 ⟨rfl, fy⟩
  rw [show eqI [1000, 10, 0, 0] [1000, 10, 0, 0] = true from by kernel_rfl]
  have fX := fX.trans fy
  have C4 := Lib.hid (C4.out.below fX)
  have RZ := Lib.hid (RZ.out.below fX)
  have FX := Lib.hid (FX.out.trans fX)
  clear fX RX fy P4
  go_wp2_with fail
  obtain ⟨wx, hwx⟩ : ∃ wx, wx = x6.alloc (.cells #[.int .i64 550, .int .i64 0, .int .i64 0, .int .i64 0] 3) := ⟨_, rfl⟩
  have fX : Fr [] x6 wx := by rw [hwx]; exact (Fr.refl [] _).alloc _
  have RX : RdI wx (.slice (some ⟨x6.heap.size, 0, none⟩) 4 4) [550, 0, 0, 0] := by rw [hwx]; exact rdi_mk rfl [550, 0, 0, 0] _ 4 rfl (by omega)
  rw [← hwx]
  clear hwx
  refine (ints13_any _ _ _ _ wx (C4.out.below fX) RX).mono ?_
  rintro e x7 ⟨rfl, fy⟩
  rw [show eqI [550, 0, 0, 0] [550, 0, 0, 0] = true from by kernel_rfl]
  have fX := fX.trans fy
  have RZ := Lib.hid (RZ.out.below fX)
  have FX := Lib.hid (FX.out.trans fX)
  clear fX RX fy C4
  go_wp2_with fail
  go_ret
  exact ⟨rfl, f1.trans FX.out⟩
end Go.Proofs.Ytdinjekpcgndmaa
