/-
  TopInstants: the plan, as it lies in memory; deck.name, deck.Check, deck.Payout.
-/
import Derived.Test.YtijdlggoaianbaaDoorRow
import Derived.Test.YtijdlggoaianbaaDoorRd
import Derived.Deep.LoopGhost
import Derived.Deep.DeepCutAuto
import Derived.RegionTactic
import Derived.BigQuiet
import Derived.IntWalk
set_option linter.unusedVariables false
namespace Go.Proofs.YtijdlggoaianbaaDoor
open Go.RowKit
def dkS : ByteArray := ⟨#[100, 101, 99, 107]⟩
/-- a plan of P packs of Z tickets; n levels: c0 prizes of 500 (one in each pack), and, if n is 2, c1 of 7 -/
structure Pl (P Z n c0 c1 : Nat) : Prop where
  p : 1 ≤ P ∧ P ≤ 4
  z : 2 ≤ Z ∧ Z ≤ 9
  n : n = 1 ∧ c1 = 0 ∨ n = 2 ∧ 1 ≤ c1
  c : P ≤ c0 ∧ c0 < P * Z
  s : c0 + c1 ≤ P * Z
theorem Pl.pz {P Z n c0 c1 : Nat} (h : Pl P Z n c0 c1) : 2 ≤ P * Z ∧ P * Z ≤ 36 :=
  ⟨Nat.le_trans h.z.1 (Nat.le_mul_of_pos_left Z h.p.1), Nat.mul_le_mul h.p.2 h.z.2⟩
theorem Pl.i {P Z n c0 c1 : Nat} (h : Pl P Z n c0 c1) : 1 ≤ (P : Int) ∧ (P : Int) ≤ 4 ∧ 2 ≤ (Z : Int) ∧ (Z : Int) ≤ 9 ∧ 2 ≤ (P : Int) * (Z : Int) ∧ (P : Int) * (Z : Int) ≤ 36 ∧ (P : Int) ≤ (c0 : Int) ∧ (c0 : Int) < (P : Int) * (Z : Int) ∧ (c0 : Int) + (c1 : Int) ≤ (P : Int) * (Z : Int) := by
  have h1 := h.p
  have h2 := h.z
  have h3 := h.pz
  have h4 := h.c
  have h5 := h.s
  rw [← Int.natCast_mul]
  omega
structure LvAt (w : World) (g n c0 c1 : Nat) : Prop where
  a0 : w.cell? ⟨g, 0, none⟩ = some (.int .i64 500)
  a1 : w.cell? ⟨g, 1, none⟩ = some (.int .i64 c0)
  a2 : w.cell? ⟨g, 2, none⟩ = some (.int .i64 1)
  b : n = 2 → w.cell? ⟨g, 3, none⟩ = some (.int .i64 7) ∧ w.cell? ⟨g, 4, none⟩ = some (.int .i64 c1) ∧ w.cell? ⟨g, 5, none⟩ = some (.int .i64 0)
theorem LvAt.fr {bs : List Nat} {w w' : World} {g n c0 c1 : Nat} (h : LvAt w g n c0 c1) (hf : Fr bs w w') (hn : g ∉ bs) : LvAt w' g n c0 c1 :=
  ⟨hf.cell_some h.a0 hn, hf.cell_some h.a1 hn, hf.cell_some h.a2 hn, fun e => ⟨hf.cell_some (h.b e).1 hn, hf.cell_some (h.b e).2.1 hn, hf.cell_some (h.b e).2.2 hn⟩⟩
theorem LvAt.lt {w : World} {g n c0 c1 : Nat} (h : LvAt w g n c0 c1) : g < w.heap.size := lt_of_cell h.a0
theorem new_cell {w : World} {C : Array Value} {T : TypeId} {g i : Nat} {v : Value} (hg : g = w.heap.size) (hv : C[i]? = some v) : (w.alloc (.cells C T)).cell? ⟨g, i, none⟩ = some v := by
  subst hg
  have hr : RowAt (w.alloc (.cells C T)) w.heap.size T C.toList := RowAt.new rfl (by simp)
  exact hr.cell i v (by simpa using hv)
theorem dkS_fin : ∀ k : Fin 4, 97 ≤ ((dkS[k.val]'(k.isLt)).toNat : Int) ∧ ((dkS[k.val]'(k.isLt)).toNat : Int) ≤ 122 := by decide
theorem dkS_facts (k : Nat) (h : k < dkS.size) : 97 ≤ (dkS[k].toNat : Int) ∧ (dkS[k].toNat : Int) ≤ 122 := dkS_fin ⟨k, h⟩
set_option maxRecDepth 100000 in
set_option maxHeartbeats 1000000 in
theorem dname_any (s : ByteArray) (hs : s = dkS) (w : World) :
    Calls Tryd.prog 21 #[.string s] w fun e w' => e = .returned (.bool true) ∧ w = w' := by
  have hz : s.size = 4 := by subst hs; rfl
  have hb : ∀ (k : Nat) (h : k < s.size), 97 ≤ (s[k].toNat : Int) ∧ (s[k].toNat : Int) ≤ 122 := by subst hs; exact dkS_facts
  have HB := Lib.hid hb
  clear hs hb
  have d1 : decide ((s.size : Int) < 1) = false := by simp; omega
  have d2 : decide (24 < (s.size : Int)) = false := by simp; omega
  go_enter Tryd.func21, Tryd.ntmps21
  go_wp2_with fail
  go_loop [15] (fun i => ∃ k : Nat, k ≤ s.size ∧ i = .int .i64 k) (fun i => s.size - (intOf i).toNat)
  case atStart => exact ⟨0, by omega, rfl⟩
  case round =>
    obtain ⟨k, hk, rfl⟩ := hrel
    by_cases hlt : k < s.size
    · obtain ⟨q1, q2⟩ := HB.out k hlt
      go_wp2_with fail
      go_round
      case rel => exact ⟨k + 1, by omega, by go_num⟩
      case measure => simp [intOf]; omega
    · obtain rfl : k = s.size := by omega
      go_wp2_with fail
      go_ret
      exact ⟨rfl, rfl⟩
theorem mvalid_any (n : Int) (w : World) (h1 : 0 ≤ n) (h2 : n ≤ 1000000000000) : Calls Tryd.prog 12 #[.int .i64 n] w fun e w' => e = .returned (.bool true) ∧ w = w' := by
  have d1 : decide (0 ≤ n) = true := by simpa using h1
  have d2 : decide (n ≤ 1000000000000) = true := by simpa using h2
  go_enter Tryd.func12, Tryd.ntmps12
  go_wp2_with fail
  go_ret
  exact ⟨rfl, rfl⟩
set_option maxRecDepth 20000 in
set_option maxHeartbeats 4000000 in
theorem dcheck_any (s : ByteArray) (P Z g n cap c0 c1 : Nat) (w : World) (hs : s = dkS) (hp : Pl P Z n c0 c1) (hl : LvAt w g n c0 c1) :
    Calls Tryd.prog 11 #[.agg #[.string s, .int .i64 10, .int .i64 P, .int .i64 Z, .slice (some ⟨g, 0, none⟩) n cap]] w fun e w' => e = .returned (.int .i64 0) ∧ Fr [] w w' := by
  obtain ⟨p1, p2, z1, z2, q1, q2, k1, k2, k3⟩ := hp.i
  obtain ⟨w1, hw1⟩ : ∃ w1, w1 = w.alloc (.cells #[.string s, .int .i64 10, .int .i64 P, .int .i64 Z, .slice (some ⟨g, 0, none⟩) n cap] 26) := ⟨_, rfl⟩
  have fa : Fr [] w w1 := by rw [hw1]; exact (Fr.refl [] w).alloc _
  have c0' : w1.cell? ⟨w.heap.size, 0, none⟩ = some (.string s) := by rw [hw1]; exact new_cell rfl rfl
  have c1' : w1.cell? ⟨w.heap.size, 1, none⟩ = some (.int .i64 10) := by rw [hw1]; exact new_cell rfl rfl
  have c2' : w1.cell? ⟨w.heap.size, 2, none⟩ = some (.int .i64 P) := by rw [hw1]; exact new_cell rfl rfl
  have c3' : w1.cell? ⟨w.heap.size, 3, none⟩ = some (.int .i64 Z) := by rw [hw1]; exact new_cell rfl rfl
  have c4' : w1.cell? ⟨w.heap.size, 4, none⟩ = some (.slice (some ⟨g, 0, none⟩) n cap) := by rw [hw1]; exact new_cell rfl rfl
  have hl1 := hl.fr fa (by simp)
  have hnm := dname_any s hs w1
  have n12 : 1 ≤ n ∧ n ≤ 2 := by rcases hp.n with h | h <;> omega
  obtain ⟨nn1, nn2⟩ := n12
  have HP := Lib.hid hp
  have HL := Lib.hid hl1
  have HFA := Lib.hid fa
  have HNM := Lib.hid hnm
  clear hp hl hl1 fa hnm hs
  go_enter Tryd.func11, Tryd.ntmps11
  go_upto_region 1 with (fail)
  rw [← hw1]
  have HW1 := Lib.hid hw1
  clear hw1
  generalize w.heap.size = pb at *
  go_wp2_with fail
  refine HNM.out.mono ?_
  rintro e w2 ⟨rfl, rfl⟩
  have d1 : decide ((n : Int) < 1) = false := by simp; omega
  have d2 : decide (12 < (n : Int)) = false := by simp; omega
  go_wp2_with fail
  go_loopw [3, 4, 5, 53] (fun a b c i wr => Fr [] w1 wr ∧ (i = .int .i64 0 ∧ a = .int .i64 1000000001 ∧ b = .int .i64 0 ∧ c = .int .i64 0 ∨ i = .int .i64 1 ∧ a = .int .i64 500 ∧ b = .int .i64 c0 ∧ c = .int .i64 1 ∨ n = 2 ∧ i = .int .i64 2 ∧ a = .int .i64 7 ∧ b = .int .i64 ((c0 : Int) + c1) ∧ c = .int .i64 1)) (fun _ _ _ i _ => 2 - (intOf i).toNat)
  case atStart => exact ⟨Fr.refl _ _, .inl ⟨rfl, rfl, rfl, rfl⟩⟩
  case round =>
    obtain ⟨hf, hr⟩ := hrel
    have c2 := hf.cell_some c2' (by simp)
    have c3 := hf.cell_some c3' (by simp)
    have hl2 := HL.out.fr hf (by simp)
    have hz : pb < wr.heap.size := lt_of_cell c2
    clear c0' c1' c2' c3' c4'
    rcases hr with ⟨rfl, rfl, rfl, rfl⟩ | ⟨rfl, rfl, rfl, rfl⟩ | ⟨rfl, rfl, rfl, rfl, rfl⟩
    · have l0 := hl2.a0
      have l1 := hl2.a1
      have l2 := hl2.a2
      have fy : Fr [] wr (wr.alloc (.cells #[.int .i64 500, .int .i64 c0, .int .i64 1] 28)) := (Fr.refl [] wr).alloc _
      have e0 : (wr.alloc (.cells #[.int .i64 500, .int .i64 c0, .int .i64 1] 28)).cell? ⟨wr.heap.size, 0, none⟩ = some (.int .i64 500) := new_cell rfl rfl
      have e1 : (wr.alloc (.cells #[.int .i64 500, .int .i64 c0, .int .i64 1] 28)).cell? ⟨wr.heap.size, 1, none⟩ = some (.int .i64 c0) := new_cell rfl rfl
      have e2 : (wr.alloc (.cells #[.int .i64 500, .int .i64 c0, .int .i64 1] 28)).cell? ⟨wr.heap.size, 2, none⟩ = some (.int .i64 1) := new_cell rfl rfl
      have c2 := fy.cell_some c2 (by simp)
      have c3 := fy.cell_some c3 (by simp)
      have HF := Lib.hid (hf.trans fy)
      clear hl2 hf fy
      go_upto_region 12 with (fail)
      generalize wr.alloc (.cells #[.int .i64 500, .int .i64 c0, .int .i64 1] 28) = wy at *
      generalize wr.heap.size = by_ at *
      clear l0 l1 l2
      go_wp2_with fail
      go_roundw
      case rel => exact ⟨HF.out, .inr (.inl ⟨by go_num, rfl, by go_num, by go_num⟩)⟩
      case measure => simp [intOf]
    · by_cases h2 : n = 2
      · obtain ⟨l0, l1, l2⟩ := hl2.b h2
        have hn1 : (1 : Int) < (n : Int) := by omega
        have H2 := Lib.hid h2
        have hc1 : 1 ≤ (c1 : Int) := by have := HP.out.n; omega
        have fy : Fr [] wr (wr.alloc (.cells #[.int .i64 7, .int .i64 c1, .int .i64 0] 28)) := (Fr.refl [] wr).alloc _
        have e0 : (wr.alloc (.cells #[.int .i64 7, .int .i64 c1, .int .i64 0] 28)).cell? ⟨wr.heap.size, 0, none⟩ = some (.int .i64 7) := new_cell rfl rfl
        have e1 : (wr.alloc (.cells #[.int .i64 7, .int .i64 c1, .int .i64 0] 28)).cell? ⟨wr.heap.size, 1, none⟩ = some (.int .i64 c1) := new_cell rfl rfl
        have e2 : (wr.alloc (.cells #[.int .i64 7, .int .i64 c1, .int .i64 0] 28)).cell? ⟨wr.heap.size, 2, none⟩ = some (.int .i64 0) := new_cell rfl rfl
        have c2 := fy.cell_some c2 (by simp)
        have c3 := fy.cell_some c3 (by simp)
        have HF := Lib.hid (hf.trans fy)
        clear hl2 hf fy h2
        go_upto_region 12 with (fail)
        generalize wr.alloc (.cells #[.int .i64 7, .int .i64 c1, .int .i64 0] 28) = wy at *
        generalize wr.heap.size = by_ at *
        clear l0 l1 l2
        go_wp2_with fail
        go_roundw
        case rel => exact ⟨HF.out, .inr (.inr ⟨H2.out, by go_num, rfl, by go_num, by go_num⟩)⟩
        case measure => simp [intOf]
      · obtain rfl : n = 1 := by omega
        have HF := Lib.hid hf
        clear hl2 hf
        go_wp2_with fail
        go_ret
        exact ⟨rfl, HFA.out.trans HF.out⟩
    · have HF := Lib.hid hf
      clear hl2 hf
      go_wp2_with fail
      go_ret
      exact ⟨rfl, HFA.out.trans HF.out⟩
set_option maxRecDepth 20000 in
set_option maxHeartbeats 4000000 in
theorem payout_any (s : ByteArray) (P Z g n cap c0 c1 : Nat) (w : World) (hs : s = dkS) (hp : Pl P Z n c0 c1) (hl : LvAt w g n c0 c1) :
    Calls Tryd.prog 4 #[.agg #[.string s, .int .i64 10, .int .i64 P, .int .i64 Z, .slice (some ⟨g, 0, none⟩) n cap]] w fun e w' => e = .returned (.tuple #[.int .i64 (500 * c0 + 7 * c1), .int .i64 0]) ∧ Fr [] w w' := by
  obtain ⟨p1, p2, z1, z2, q1, q2, k1, k2, k3⟩ := hp.i
  obtain ⟨w1, hw1⟩ : ∃ w1, w1 = w.alloc (.cells #[.string s, .int .i64 10, .int .i64 P, .int .i64 Z, .slice (some ⟨g, 0, none⟩) n cap] 26) := ⟨_, rfl⟩
  have fa : Fr [] w w1 := by rw [hw1]; exact (Fr.refl [] w).alloc _
  have c0' : w1.cell? ⟨w.heap.size, 0, none⟩ = some (.string s) := by rw [hw1]; exact new_cell rfl rfl
  have c1' : w1.cell? ⟨w.heap.size, 1, none⟩ = some (.int .i64 10) := by rw [hw1]; exact new_cell rfl rfl
  have c2' : w1.cell? ⟨w.heap.size, 2, none⟩ = some (.int .i64 P) := by rw [hw1]; exact new_cell rfl rfl
  have c3' : w1.cell? ⟨w.heap.size, 3, none⟩ = some (.int .i64 Z) := by rw [hw1]; exact new_cell rfl rfl
  have c4' : w1.cell? ⟨w.heap.size, 4, none⟩ = some (.slice (some ⟨g, 0, none⟩) n cap) := by rw [hw1]; exact new_cell rfl rfl
  have hl1 := hl.fr fa (by simp)
  have hnm := dcheck_any s P Z g n cap c0 c1 w1 hs hp hl1
  have n12 : 1 ≤ n ∧ n ≤ 2 := by rcases hp.n with h | h <;> omega
  obtain ⟨nn1, nn2⟩ := n12
  have HP := Lib.hid hp
  have HL := Lib.hid hl1
  have HFA := Lib.hid fa
  have HNM := Lib.hid hnm
  clear hp hl hl1 fa hnm hs
  go_enter Tryd.func4, Tryd.ntmps4
  go_upto_region 1 with (fail)
  rw [← hw1]
  have HW1 := Lib.hid hw1
  clear hw1
  generalize w.heap.size = pb at *
  go_wp2_with fail
  refine HNM.out.mono ?_
  rintro e w2 ⟨rfl, f2⟩
  have c4 := f2.cell_some c4' (by simp)
  have hl2 := HL.out.fr f2 (by simp)
  have HL2 := Lib.hid hl2
  have HF2 := Lib.hid (HFA.out.trans f2)
  clear c0' c1' c2' c3' c4' hl2 f2 HL
  go_wp2_with fail
  go_loopw [5, 16] (fun a i wr => Fr [] w2 wr ∧ (i = .int .i64 0 ∧ a = .int .i64 0 ∨ i = .int .i64 1 ∧ a = .int .i64 (500 * c0) ∨ n = 2 ∧ i = .int .i64 2 ∧ a = .int .i64 (500 * c0 + 7 * c1))) (fun _ i _ => 2 - (intOf i).toNat)
  case atStart => exact ⟨Fr.refl _ _, .inl ⟨rfl, rfl⟩⟩
  case round =>
    obtain ⟨hf, hr⟩ := hrel
    have hl2 := HL2.out.fr hf (by simp)
    rcases hr with ⟨rfl, rfl⟩ | ⟨rfl, rfl⟩ | ⟨rfl, rfl, rfl⟩
    · have l0 := hl2.a0
      have l1 := hl2.a1
      have l2 := hl2.a2
      have fy : Fr [] wr (wr.alloc (.cells #[.int .i64 500, .int .i64 c0, .int .i64 1] 28)) := (Fr.refl [] wr).alloc _
      have e0 : (wr.alloc (.cells #[.int .i64 500, .int .i64 c0, .int .i64 1] 28)).cell? ⟨wr.heap.size, 0, none⟩ = some (.int .i64 500) := new_cell rfl rfl
      have e1 : (wr.alloc (.cells #[.int .i64 500, .int .i64 c0, .int .i64 1] 28)).cell? ⟨wr.heap.size, 1, none⟩ = some (.int .i64 c0) := new_cell rfl rfl
      have HF := Lib.hid (hf.trans fy)
      clear hl2 hf fy
      go_upto_region 8 with (fail)
      generalize wr.alloc (.cells #[.int .i64 500, .int .i64 c0, .int .i64 1] 28) = wy at *
      generalize wr.heap.size = by_ at *
      clear l0 l1 l2
      go_wp2_with fail
      go_roundw
      case rel => exact ⟨HF.out, .inr (.inl ⟨by go_num, by go_num⟩)⟩
      case measure => simp [intOf]
    · by_cases h2 : n = 2
      · obtain ⟨l0, l1, l2⟩ := hl2.b h2
        have hn1 : (1 : Int) < (n : Int) := by omega
        have H2 := Lib.hid h2
        have fy : Fr [] wr (wr.alloc (.cells #[.int .i64 7, .int .i64 c1, .int .i64 0] 28)) := (Fr.refl [] wr).alloc _
        have e0 : (wr.alloc (.cells #[.int .i64 7, .int .i64 c1, .int .i64 0] 28)).cell? ⟨wr.heap.size, 0, none⟩ = some (.int .i64 7) := new_cell rfl rfl
        have e1 : (wr.alloc (.cells #[.int .i64 7, .int .i64 c1, .int .i64 0] 28)).cell? ⟨wr.heap.size, 1, none⟩ = some (.int .i64 c1) := new_cell rfl rfl
        have HF := Lib.hid (hf.trans fy)
        clear hl2 hf fy h2
        go_upto_region 8 with (fail)
        generalize wr.alloc (.cells #[.int .i64 7, .int .i64 c1, .int .i64 0] 28) = wy at *
        generalize wr.heap.size = by_ at *
        clear l0 l1 l2
        go_wp2_with fail
        go_roundw
        case rel => exact ⟨HF.out, .inr (.inr ⟨H2.out, by go_num, by go_num⟩)⟩
        case measure => simp [intOf]
      · obtain rfl : n = 1 := by omega
        have hc1 : c1 = 0 := by have := HP.out.n; omega
        subst hc1
        have HF := Lib.hid hf
        clear hl2 hf
        go_wp2_with fail
        refine (mvalid_any (500 * c0) wr (by omega) (by omega)).mono ?_
        rintro e w3 ⟨rfl, rfl⟩
        go_wp2_with fail
        go_ret2
        exact ⟨by simp, HF2.out.trans HF.out⟩
    · have HF := Lib.hid hf
      clear hl2 hf
      go_wp2_with fail
      refine (mvalid_any (500 * c0 + 7 * c1) wr (by omega) (by omega)).mono ?_
      rintro e w3 ⟨rfl, rfl⟩
      go_wp2_with fail
      go_ret2
      exact ⟨rfl, HF2.out.trans HF.out⟩
end Go.Proofs.YtijdlggoaianbaaDoor
