/-
  TopInstants: Scratch: of a stored pack; of an active one, once and again.
-/
import Derived.Test.YtijdlggoaianbaaDoorDkU
set_option linter.unusedVariables false
namespace Go.Proofs.YtijdlggoaianbaaDoor
open Go.RowKit
/-- scratched flags and the frame of a scratch -/
theorem PkAt.scr {X : PkFix} {w : World} {st te : Nat → Int} {sc f : Nat → Bool} {paid sum paid' sum' : Int} (h : PkAt X w st te sc f paid sum) (i j : Nat) (hi : i < X.N) (hj : j < X.P) {w1 w2 w3 : World} (e1 : w1 = w.setCell ⟨X.gs, i, none⟩ (.bool true)) (e2 : w2 = w1.setCell ⟨X.gp, j * 3 + 2, none⟩ (.bool true))
    (hf : Fr [X.x] w2 w3) (hz : ∀ k, w3.frozen? ⟨X.x, k, none⟩ = w2.frozen? ⟨X.x, k, none⟩) (h0 : ∀ k, k < 4 → w3.cell? ⟨X.x, k, none⟩ = w2.cell? ⟨X.x, k, none⟩) (h4 : w3.cell? ⟨X.x, 4, none⟩ = some (.int .i64 paid')) (h5 : w3.cell? ⟨X.x, 5, none⟩ = some (.int .i64 sum')) :
    PkAt X w3 st te (updB sc j true) (updB f i true) paid' sum' ∧ Fr [X.x, X.gp, X.gs] w w3 := by
  have f1 : Fr [X.gs] w w1 := by rw [e1]; exact (Fr.refl [X.gs] w).setCell (.inl (by simp)) _
  have f2 : Fr [X.gp] w1 w2 := by rw [e2]; exact (Fr.refl [X.gp] w1).setCell (.inl (by simp)) _
  have b1 : BoAt w1 X.gs X.N (updB f i true) := by rw [e1]; exact h.bo.set i hi true
  have p1 := h.pa.fr f1 (by have := h.d2; simp; omega)
  have p2 : PaAt w2 X.gp X.P st te (updB sc j true) := by rw [e2]; exact p1.set2 j hj true
  have b2 := b1.fr f2 (by have := h.d2; simp; omega)
  have p3 := p2.fr hf (by have := h.d1; simp; omega)
  have b3 := b2.fr hf (by have := h.d1; simp; omega)
  have F : Fr [X.x, X.gp, X.gs] w w3 := ((f1.mono (by simp)).trans (f2.mono (by simp))).trans (hf.mono (by simp))
  have hx1 : X.x ∉ [X.gs] := by have := h.d1; simp; omega
  have hx2 : X.x ∉ [X.gp] := by have := h.d1; simp; omega
  have cc : ∀ k, k < 4 → ∀ v, w.cell? ⟨X.x, k, none⟩ = some v → w3.cell? ⟨X.x, k, none⟩ = some v := fun k hk v hv => (h0 k hk).trans (f2.cell_some (f1.cell_some hv hx1) hx2)
  refine ⟨h.frk F ⟨fun k => (hz k).trans ((f2.frozen (p := ⟨X.x, k, none⟩) (Nat.lt_of_lt_of_le h.lt f1.size) hx2).trans ((f1.frozen (p := ⟨X.x, k, none⟩) h.lt hx1).trans (h.fz k))), cc 0 (by omega) _ h.x0, cc 1 (by omega) _ h.x1, cc 2 (by omega) _ h.x2, cc 3 (by omega) _ h.x3, h4, h5⟩ p3 b3, F⟩
theorem pk_div {P Z N i : Nat} (hN : N = P * Z) (hZ : 0 < Z) (hi : i < N) : i / Z < P := by
  rw [Nat.div_lt_iff_lt_mul hZ, ← hN]
  exact hi
set_option maxRecDepth 20000 in
set_option maxHeartbeats 4000000 in
theorem scr_state (X : PkFix) (w : World) (st te : Nat → Int) (sc f : Nat → Bool) (paid sum : Int) (h : PkAt X w st te sc f paid sum) (hP : X.P ≤ 4) (hN : X.N = X.P * X.Z) (hZ : 0 < X.Z) (hNN : X.N ≤ 36) (i : Nat) (hi : i < X.N) (hC : (X.C i).size ≤ maxLen) (h0 : st (i / X.Z) = 0) :
    Calls Tryd.prog 7 #[.pointer (some ⟨X.x, 0, none⟩), .string (X.C i), .int .i64 3] w fun e w' => e = .returned (.tuple #[.int .i64 0, .int .i64 8]) ∧ Fr [] w w' := by
  have hj := pk_div hN hZ hi
  have hji : (i : Int) / (X.Z : Int) = ((i / X.Z : Nat) : Int) := by simp
  generalize hjj : i / X.Z = j at *
  have hlook := h.mp.get mapLawS Tryd.underlying9 Tryd.underlying52 Tryd.underlying3 (zeroInt w) i hi hC
  have x1 := h.x1
  have x2 := h.x2
  have x3 := h.x3
  have x4 := h.x4
  have x5 := h.x5
  have t0 := h.tk.c0 i hi
  rw [hji] at t0
  have t1 := h.tk.c1 i hi
  have t2 := h.tk.c2 i hi
  have t3 := h.tk.c3 i hi
  have p0 := h.pa.c0 j hj
  have p1 := h.pa.c1 j hj
  have p2 := h.pa.c2 j hj
  have b0 := h.bo.c i hi
  have hiN : (i : Int) < (X.N : Int) := by omega
  generalize hm : (i : Int) % (X.Z : Int) = md at t1
  obtain ⟨wy, hwy⟩ : ∃ wy, wy = w.alloc (.cells #[.int .i64 ((j : Int) + 1), .int .i64 (md + 1), .int .i64 (X.pr i), .string (X.C i)] 40) := ⟨_, rfl⟩
  have fy : Fr [] w wy := by rw [hwy]; exact (Fr.refl [] w).alloc _
  have y0 : wy.cell? ⟨w.heap.size, 0, none⟩ = some (.int .i64 ((j : Int) + 1)) := by rw [hwy]; exact new_cell rfl rfl
  have y2 : wy.cell? ⟨w.heap.size, 2, none⟩ = some (.int .i64 (X.pr i)) := by rw [hwy]; exact new_cell rfl rfl
  have hpy := h.fr fy
  have HG := Lib.hid (get_any X wy st te sc f paid sum hpy hP j hj)
  have x2 := fy.cell_some x2 (by simp)
  have x4 := fy.cell_some x4 (by simp)
  have x5 := fy.cell_some x5 (by simp)
  have p0 := fy.cell_some p0 (by simp)
  have p1 := fy.cell_some p1 (by simp)
  have p2 := fy.cell_some p2 (by simp)
  have b0 := fy.cell_some b0 (by simp)
  rw [h0] at p0
  clear h0
  have HPY := Lib.hid hpy
  have HFY := Lib.hid fy
  have HJ := Lib.hid (And.intro hj hjj)
  have HHI := Lib.hid hi
  clear h hpy fy hji hm hj hjj hi
  go_enter Tryd.func7, Tryd.ntmps7
  go_wp2_with fail
  refine (isterm_any w).mono ?_
  rintro e w1 ⟨rfl, rfl⟩
  go_upto_region 9 with (fail)
  rw [← hwy]
  have HWY := Lib.hid hwy
  clear hwy hlook t0 t1 t2 t3 x1 x3
  generalize w.heap.size = bt at *
  go_wp2_with fail
  refine HG.out.mono ?_
  rintro e w1 ⟨rfl, rfl⟩
  go_wp2_with fail
  go_ret2
  exact ⟨rfl, HFY.out⟩
set_option maxRecDepth 20000 in
set_option maxHeartbeats 4000000 in
theorem scr_paid (X : PkFix) (w : World) (st te : Nat → Int) (sc f : Nat → Bool) (paid sum : Int) (h : PkAt X w st te sc f paid sum) (hP : X.P ≤ 4) (hN : X.N = X.P * X.Z) (hZ : 0 < X.Z) (hNN : X.N ≤ 36) (i : Nat) (hi : i < X.N) (hC : (X.C i).size ≤ maxLen) (h0 : st (i / X.Z) = 1) (h1 : te (i / X.Z) = 3) (h2 : f i = true) :
    Calls Tryd.prog 7 #[.pointer (some ⟨X.x, 0, none⟩), .string (X.C i), .int .i64 3] w fun e w' => e = .returned (.tuple #[.int .i64 0, .int .i64 17]) ∧ Fr [] w w' := by
  have hj := pk_div hN hZ hi
  have hji : (i : Int) / (X.Z : Int) = ((i / X.Z : Nat) : Int) := by simp
  generalize hjj : i / X.Z = j at *
  have hlook := h.mp.get mapLawS Tryd.underlying9 Tryd.underlying52 Tryd.underlying3 (zeroInt w) i hi hC
  have x1 := h.x1
  have x2 := h.x2
  have x3 := h.x3
  have x4 := h.x4
  have x5 := h.x5
  have t0 := h.tk.c0 i hi
  rw [hji] at t0
  have t1 := h.tk.c1 i hi
  have t2 := h.tk.c2 i hi
  have t3 := h.tk.c3 i hi
  have p0 := h.pa.c0 j hj
  have p1 := h.pa.c1 j hj
  have p2 := h.pa.c2 j hj
  have b0 := h.bo.c i hi
  have hiN : (i : Int) < (X.N : Int) := by omega
  generalize hm : (i : Int) % (X.Z : Int) = md at t1
  obtain ⟨wy, hwy⟩ : ∃ wy, wy = w.alloc (.cells #[.int .i64 ((j : Int) + 1), .int .i64 (md + 1), .int .i64 (X.pr i), .string (X.C i)] 40) := ⟨_, rfl⟩
  have fy : Fr [] w wy := by rw [hwy]; exact (Fr.refl [] w).alloc _
  have y0 : wy.cell? ⟨w.heap.size, 0, none⟩ = some (.int .i64 ((j : Int) + 1)) := by rw [hwy]; exact new_cell rfl rfl
  have y2 : wy.cell? ⟨w.heap.size, 2, none⟩ = some (.int .i64 (X.pr i)) := by rw [hwy]; exact new_cell rfl rfl
  have hpy := h.fr fy
  have HG := Lib.hid (get_any X wy st te sc f paid sum hpy hP j hj)
  have x2 := fy.cell_some x2 (by simp)
  have x4 := fy.cell_some x4 (by simp)
  have x5 := fy.cell_some x5 (by simp)
  have p0 := fy.cell_some p0 (by simp)
  have p1 := fy.cell_some p1 (by simp)
  have p2 := fy.cell_some p2 (by simp)
  have b0 := fy.cell_some b0 (by simp)
  rw [h0] at p0
  rw [h1] at p1
  rw [h2] at b0
  clear h0 h1 h2
  have HPY := Lib.hid hpy
  have HFY := Lib.hid fy
  have HJ := Lib.hid (And.intro hj hjj)
  have HHI := Lib.hid hi
  clear h hpy fy hji hm hj hjj hi
  go_enter Tryd.func7, Tryd.ntmps7
  go_wp2_with fail
  refine (isterm_any w).mono ?_
  rintro e w1 ⟨rfl, rfl⟩
  go_upto_region 9 with (fail)
  rw [← hwy]
  have HWY := Lib.hid hwy
  clear hwy hlook t0 t1 t2 t3 x1 x3
  generalize w.heap.size = bt at *
  go_wp2_with fail
  refine HG.out.mono ?_
  rintro e w1 ⟨rfl, rfl⟩
  go_wp2_with fail
  go_ret2
  exact ⟨rfl, HFY.out⟩
def ScrPost (X : PkFix) (st te : Nat → Int) (sc f : Nat → Bool) (paid sum : Int) (i : Nat) (w : World) (e : Ending) (w' : World) : Prop :=
  e = .returned (.tuple #[.int .i64 (X.pr i), .int .i64 0]) ∧ PkAt X w' st te (updB sc (i / X.Z) true) (updB f i true) (paid + posF X.pr i) (sum + X.pr i) ∧ Fr [X.x, X.gp, X.gs] w w'
set_option maxRecDepth 20000 in
set_option maxHeartbeats 4000000 in
theorem scr_ok (X : PkFix) (w : World) (st te : Nat → Int) (sc f : Nat → Bool) (paid sum : Int) (h : PkAt X w st te sc f paid sum) (hP : X.P ≤ 4) (hN : X.N = X.P * X.Z) (hZ : 0 < X.Z) (hNN : X.N ≤ 36) (i : Nat) (hi : i < X.N) (hC : (X.C i).size ≤ maxLen) (hpr : 0 ≤ X.pr i ∧ X.pr i ≤ 500) (hs0 : 0 ≤ paid ∧ paid ≤ 1000000) (hs1 : 0 ≤ sum ∧ sum ≤ 1000000) (h0 : st (i / X.Z) = 1) (h1 : te (i / X.Z) = 3) (h2 : f i = false) :
    Calls Tryd.prog 7 #[.pointer (some ⟨X.x, 0, none⟩), .string (X.C i), .int .i64 3] w fun e w' => ScrPost X st te sc f paid sum i w e w' := by
  have hj := pk_div hN hZ hi
  have hji : (i : Int) / (X.Z : Int) = ((i / X.Z : Nat) : Int) := by simp
  generalize hjj : i / X.Z = j at *
  have hlook := h.mp.get mapLawS Tryd.underlying9 Tryd.underlying52 Tryd.underlying3 (zeroInt w) i hi hC
  have x1 := h.x1
  have x2 := h.x2
  have x3 := h.x3
  have x4 := h.x4
  have x5 := h.x5
  have t0 := h.tk.c0 i hi
  rw [hji] at t0
  have t1 := h.tk.c1 i hi
  have t2 := h.tk.c2 i hi
  have t3 := h.tk.c3 i hi
  have p0 := h.pa.c0 j hj
  have p1 := h.pa.c1 j hj
  have p2 := h.pa.c2 j hj
  have b0 := h.bo.c i hi
  have hiN : (i : Int) < (X.N : Int) := by omega
  generalize hm : (i : Int) % (X.Z : Int) = md at t1
  obtain ⟨wy, hwy⟩ : ∃ wy, wy = w.alloc (.cells #[.int .i64 ((j : Int) + 1), .int .i64 (md + 1), .int .i64 (X.pr i), .string (X.C i)] 40) := ⟨_, rfl⟩
  have fy : Fr [] w wy := by rw [hwy]; exact (Fr.refl [] w).alloc _
  have y0 : wy.cell? ⟨w.heap.size, 0, none⟩ = some (.int .i64 ((j : Int) + 1)) := by rw [hwy]; exact new_cell rfl rfl
  have y2 : wy.cell? ⟨w.heap.size, 2, none⟩ = some (.int .i64 (X.pr i)) := by rw [hwy]; exact new_cell rfl rfl
  have hpy := h.fr fy
  have HG := Lib.hid (get_any X wy st te sc f paid sum hpy hP j hj)
  have x2 := fy.cell_some x2 (by simp)
  have x4 := fy.cell_some x4 (by simp)
  have x5 := fy.cell_some x5 (by simp)
  have p0 := fy.cell_some p0 (by simp)
  have p1 := fy.cell_some p1 (by simp)
  have p2 := fy.cell_some p2 (by simp)
  have b0 := fy.cell_some b0 (by simp)
  rw [h0] at p0
  rw [h1] at p1
  rw [h2] at b0
  clear h0 h1 h2
  have z1 := hpy.bo.fz i
  have z2 := hpy.pa.fz (j * 3 + 2)
  have z4 := hpy.fz 4
  have z5 := hpy.fz 5
  obtain ⟨dx1, dx2, dx3, dx4⟩ := h.d1
  obtain ⟨dy1, dy2, dy3, dy4, dy5, dy6⟩ := h.d2
  obtain ⟨hpr0, hpr1⟩ := hpr
  have hbt : X.x < w.heap.size ∧ X.gp < w.heap.size ∧ X.gs < w.heap.size := ⟨h.lt, h.pa.lt, h.bo.lt⟩
  obtain ⟨hbt1, hbt2, hbt3⟩ := hbt
  have HPY := Lib.hid hpy
  have HFY := Lib.hid fy
  have HJ := Lib.hid (And.intro hj hjj)
  have HHI := Lib.hid hi
  clear h hpy fy hji hm hj hjj hi
  go_enter Tryd.func7, Tryd.ntmps7
  go_wp2_with fail
  refine (isterm_any w).mono ?_
  rintro e w1 ⟨rfl, rfl⟩
  go_upto_region 9 with (fail)
  rw [← hwy]
  have HWY := Lib.hid hwy
  clear hwy hlook t0 t1 t2 t3 x1 x3
  generalize w.heap.size = bt at *
  go_wp2_with fail
  refine HG.out.mono ?_
  rintro e w1 ⟨rfl, rfl⟩
  obtain ⟨w1', hw1'⟩ : ∃ x, x = wy.setCell ⟨X.gs, i, none⟩ (.bool true) := ⟨_, rfl⟩
  obtain ⟨w2', hw2'⟩ : ∃ x, x = w1'.setCell ⟨X.gp, j * 3 + 2, none⟩ (.bool true) := ⟨_, rfl⟩
  have u4 : w2'.cell? ⟨X.x, 4, none⟩ = some (.int .i64 paid) := by rw [hw2', World.cell?_setCell_far _ _ _ _ (by simpa using dx1.symm), hw1', World.cell?_setCell_far _ _ _ _ (by simpa using dx3.symm)]; exact x4
  have u5 : w2'.cell? ⟨X.x, 5, none⟩ = some (.int .i64 sum) := by rw [hw2', World.cell?_setCell_far _ _ _ _ (by simpa using dx1.symm), hw1', World.cell?_setCell_far _ _ _ _ (by simpa using dx3.symm)]; exact x5
  have HW1 := Lib.hid hw1'
  have HW2 := Lib.hid hw2'
  have HU := Lib.hid (And.intro u4 u5)
  have v4 : w2'.frozen? ⟨X.x, 4, none⟩ = false := by rw [hw2', frozen_set, hw1', frozen_set]; exact z4
  have v5 : w2'.frozen? ⟨X.x, 5, none⟩ = false := by rw [hw2', frozen_set, hw1', frozen_set]; exact z5
  have y2' : w2'.cell? ⟨bt, 2, none⟩ = some (.int .i64 (X.pr i)) := by rw [hw2', World.cell?_setCell_far _ _ _ _ (by simp; omega), hw1', World.cell?_setCell_far _ _ _ _ (by simp; omega)]; exact y2
  go_upto_region 17 with (fail)
  rw [← hw1', ← hw2']
  clear hw1' hw2' x4 x5 z4 z5 y2 y0 p0 p1 p2 b0 z1 z2 x2
  obtain ⟨hj, hjj⟩ := HJ.out
  have hi := HHI.out
  by_cases hpz : 0 < X.pr i
  · go_wp2_with fail
    go_region
    as_aux_lemma =>
      go_wp2_with fail
      go_ret2
      have hq : posF X.pr i = 1 := by unfold posF; rw [if_pos hpz]
      obtain ⟨u4, u5⟩ := HU.out
      have r := PkAt.scr (w3 := ((w2'.setCell ⟨X.x, 4, none⟩ (.int .i64 (paid + 1))).setCell ⟨X.x, 5, none⟩ (.int .i64 (sum + X.pr i))).drew) (paid' := paid + 1) (sum' := sum + X.pr i) HPY.out i j hi hj HW1.out HW2.out ((((Fr.refl [X.x] w2').setCell (.inl (by simp)) _).setCell (.inl (by simp)) _).drew)
        (fun k => by refine (frozen_set _ _ _ _).trans ?_; rw [frozen_set])
        (fun k hk => by refine (set_other _ _ _ _ _ (by omega)).trans ?_; rw [set_other _ _ _ _ _ (by omega)])
        (by refine (set_other _ _ _ _ _ (by omega)).trans ?_; exact set_same _ _ _ _ _ u4)
        (by refine set_same _ _ _ (.int .i64 sum) _ ?_; rw [set_other _ _ _ _ _ (by omega)]; exact u5)
      refine ⟨rfl, ?_, (HFY.out.mono (by simp)).trans r.2⟩
      rw [hjj, hq]
      exact r.1
  · go_wp2_with fail
    go_ret2
    have hq : posF X.pr i = 0 := by unfold posF; rw [if_neg (by omega)]
    have hq2 : X.pr i = 0 := by omega
    obtain ⟨u4, u5⟩ := HU.out
    have r := PkAt.scr (w3 := w2') (paid' := paid) (sum' := sum) HPY.out i j hi hj HW1.out HW2.out (Fr.refl _ _) (fun k => rfl) (fun k hk => rfl) u4 u5
    refine ⟨rfl, ?_, (HFY.out.mono (by simp)).trans r.2⟩
    rw [hjj, hq, hq2, Int.add_zero, Int.add_zero]
    exact r.1
end Go.Proofs.YtijdlggoaianbaaDoor
