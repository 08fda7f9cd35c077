/-
  TopInstants: get, isTerminal, Activate, Paid, Return.
-/
import Derived.Test.YtijdlggoaianbaaDoorDkM
set_option linter.unusedVariables false
namespace Go.Proofs.YtijdlggoaianbaaDoor
open Go.RowKit
def updB (f : Nat → Bool) (j : Nat) (x : Bool) (i : Nat) : Bool := if i = j then x else f i
theorem PaAt.set0 {w : World} {g P : Nat} {st te : Nat → Int} {sc : Nat → Bool} (h : PaAt w g P st te sc) (j : Nat) (hj : j < P) (x : Int) : PaAt (w.setCell ⟨g, j * 3, none⟩ (.int .i64 x)) g P (upd st j x) te sc where
  lt := by simpa using h.lt
  fz k := by rw [frozen_set]; exact h.fz k
  c0 i hi := by
    unfold upd
    by_cases e : i = j
    · subst e
      rw [if_pos rfl, set_same w g _ _ _ (h.c0 i hi)]
    · rw [if_neg e, set_other w g _ _ _ (by omega)]; exact h.c0 i hi
  c1 i hi := by rw [set_other w g _ _ _ (by omega)]; exact h.c1 i hi
  c2 i hi := by rw [set_other w g _ _ _ (by omega)]; exact h.c2 i hi
theorem PaAt.set1 {w : World} {g P : Nat} {st te : Nat → Int} {sc : Nat → Bool} (h : PaAt w g P st te sc) (j : Nat) (hj : j < P) (x : Int) : PaAt (w.setCell ⟨g, j * 3 + 1, none⟩ (.int .i64 x)) g P st (upd te j x) sc where
  lt := by simpa using h.lt
  fz k := by rw [frozen_set]; exact h.fz k
  c0 i hi := by rw [set_other w g _ _ _ (by omega)]; exact h.c0 i hi
  c1 i hi := by
    unfold upd
    by_cases e : i = j
    · subst e
      rw [if_pos rfl, set_same w g _ _ _ (h.c1 i hi)]
    · rw [if_neg e, set_other w g _ _ _ (by omega)]; exact h.c1 i hi
  c2 i hi := by rw [set_other w g _ _ _ (by omega)]; exact h.c2 i hi
theorem PaAt.set2 {w : World} {g P : Nat} {st te : Nat → Int} {sc : Nat → Bool} (h : PaAt w g P st te sc) (j : Nat) (hj : j < P) (x : Bool) : PaAt (w.setCell ⟨g, j * 3 + 2, none⟩ (.bool x)) g P st te (updB sc j x) where
  lt := by simpa using h.lt
  fz k := by rw [frozen_set]; exact h.fz k
  c0 i hi := by rw [set_other w g _ _ _ (by omega)]; exact h.c0 i hi
  c1 i hi := by rw [set_other w g _ _ _ (by omega)]; exact h.c1 i hi
  c2 i hi := by
    unfold updB
    by_cases e : i = j
    · subst e
      rw [if_pos rfl, set_same w g _ _ _ (h.c2 i hi)]
    · rw [if_neg e, set_other w g _ _ _ (by omega)]; exact h.c2 i hi
theorem BoAt.set {w : World} {g N : Nat} {f : Nat → Bool} (h : BoAt w g N f) (j : Nat) (hj : j < N) (x : Bool) : BoAt (w.setCell ⟨g, j, none⟩ (.bool x)) g N (updB f j x) where
  lt := by simpa using h.lt
  fz k := by rw [frozen_set]; exact h.fz k
  c i hi := by
    unfold updB
    by_cases e : i = j
    · subst e
      rw [if_pos rfl, set_same w g _ _ _ (h.c i hi)]
    · rw [if_neg e, set_other w g _ _ _ (by omega)]; exact h.c i hi
theorem PkAt.frk {X : PkFix} {w w' : World} {st te st' te' : Nat → Int} {sc f sc' f' : Nat → Bool} {paid sum paid' sum' : Int} (h : PkAt X w st te sc f paid sum) (hf : Fr [X.x, X.gp, X.gs] w w')
    (hx : (∀ j, w'.frozen? ⟨X.x, j, none⟩ = false) ∧ w'.cell? ⟨X.x, 0, none⟩ = some (.slice (some ⟨X.gp, 0, none⟩) X.P X.P) ∧ w'.cell? ⟨X.x, 1, none⟩ = some (.slice (some ⟨X.gk, 0, none⟩) X.N X.capk) ∧ w'.cell? ⟨X.x, 2, none⟩ = some (.slice (some ⟨X.gs, 0, none⟩) X.N X.N) ∧ w'.cell? ⟨X.x, 3, none⟩ = some (.map (some X.m)) ∧ w'.cell? ⟨X.x, 4, none⟩ = some (.int .i64 paid') ∧ w'.cell? ⟨X.x, 5, none⟩ = some (.int .i64 sum'))
    (hp : PaAt w' X.gp X.P st' te' sc') (hb : BoAt w' X.gs X.N f') : PkAt X w' st' te' sc' f' paid' sum' where
  lt := Nat.lt_of_lt_of_le h.lt hf.size
  fz := hx.1
  x0 := hx.2.1
  x1 := hx.2.2.1
  x2 := hx.2.2.2.1
  x3 := hx.2.2.2.2.1
  x4 := hx.2.2.2.2.2.1
  x5 := hx.2.2.2.2.2.2
  pa := hp
  tk := h.tk.fr hf (by have := h.d1; have := h.d2; simp; omega)
  bo := hb
  mp := h.mp.fr hf (by have := h.d1; have := h.d2; simp; omega)
  d1 := h.d1
  d2 := h.d2
/-- only the packs' block has turned -/
theorem PkAt.frp {X : PkFix} {w w' : World} {st te st' te' : Nat → Int} {sc f sc' : Nat → Bool} {paid sum : Int} (h : PkAt X w st te sc f paid sum) (hf : Fr [X.gp] w w') (hp : PaAt w' X.gp X.P st' te' sc') : PkAt X w' st' te' sc' f paid sum :=
  h.frk (hf.mono (by simp)) ⟨fun j => (hf.frozen (p := ⟨X.x, j, none⟩) h.lt (by have := h.d1; simp; omega)).trans (h.fz j), hf.cell_some h.x0 (by have := h.d1; simp; omega), hf.cell_some h.x1 (by have := h.d1; simp; omega), hf.cell_some h.x2 (by have := h.d1; simp; omega), hf.cell_some h.x3 (by have := h.d1; simp; omega), hf.cell_some h.x4 (by have := h.d1; simp; omega), hf.cell_some h.x5 (by have := h.d1; simp; omega)⟩ hp (h.bo.fr hf (by have := h.d2; simp; omega))
theorem isterm_any (w : World) : Calls Tryd.prog 19 #[.int .i64 3] w fun e w' => e = .returned (.bool true) ∧ w = w' := by
  go_enter Tryd.func19, Tryd.ntmps19
  go_wp2_with fail
  go_ret
  exact ⟨rfl, rfl⟩
set_option maxHeartbeats 1000000 in
theorem get_any (X : PkFix) (w : World) (st te : Nat → Int) (sc f : Nat → Bool) (paid sum : Int) (h : PkAt X w st te sc f paid sum) (hP : X.P ≤ 4) (j : Nat) (hj : j < X.P) :
    Calls Tryd.prog 20 #[.pointer (some ⟨X.x, 0, none⟩), .int .i64 ((j : Int) + 1)] w fun e w' => e = .returned (.pointer (some ⟨X.gp, j * 3, none⟩)) ∧ w = w' := by
  have x0 := h.x0
  have hjP : (j : Int) < (X.P : Int) := by omega
  have dq1 : decide ((j : Int) + 1 < 1) = false := by simp; omega
  have dq2 : decide ((X.P : Int) < (j : Int) + 1) = false := by simp; omega
  have c0 := h.pa.c0 j hj
  clear h
  generalize X.P = P at *
  generalize X.gp = gp at *
  generalize X.x = x at *
  go_enter Tryd.func20, Tryd.ntmps20
  go_wp2_with fail
  go_ret
  exact ⟨rfl, rfl⟩
set_option maxHeartbeats 1000000 in
theorem paid_any (X : PkFix) (w : World) (st te : Nat → Int) (sc f : Nat → Bool) (paid sum : Int) (h : PkAt X w st te sc f paid sum) :
    Calls Tryd.prog 9 #[.pointer (some ⟨X.x, 0, none⟩)] w fun e w' => e = .returned (.tuple #[.int .i64 paid, .int .i64 sum]) ∧ Fr [] w w' := by
  have x4 := h.x4
  have x5 := h.x5
  clear h
  generalize X.x = x at *
  go_enter Tryd.func9, Tryd.ntmps9
  go_wp2_with fail
  go_big_quiet (fail)
  go_wp2_with fail
  go_ret2
  exact ⟨rfl, (Fr.refl [] w).drewN _⟩
set_option maxHeartbeats 1000000 in
theorem activate_any (X : PkFix) (w : World) (st te : Nat → Int) (sc f : Nat → Bool) (paid sum : Int) (h : PkAt X w st te sc f paid sum) (hP : X.P ≤ 4) (j : Nat) (hj : j < X.P) (h0 : st j = 0) :
    Calls Tryd.prog 8 #[.pointer (some ⟨X.x, 0, none⟩), .int .i64 ((j : Int) + 1), .int .i64 3] w fun e w' => e = .returned (.int .i64 0) ∧ PkAt X w' (upd st j 1) (upd te j 3) sc f paid sum ∧ Fr [X.gp] w w' := by
  have hg := get_any X w st te sc f paid sum h hP j hj
  have c0 := h.pa.c0 j hj
  have c1 := h.pa.c1 j hj
  have z0 := h.pa.fz (j * 3)
  have z1 := h.pa.fz (j * 3 + 1)
  rw [h0] at c0
  have HG := Lib.hid hg
  have HPK := Lib.hid h
  clear hg h h0
  go_enter Tryd.func8, Tryd.ntmps8
  go_wp2_with fail
  refine HG.out.mono ?_
  rintro e w1 ⟨rfl, rfl⟩
  go_wp2_with fail
  refine (isterm_any w).mono ?_
  rintro e w1 ⟨rfl, rfl⟩
  go_wp2_with fail
  go_ret
  have p1 := (HPK.out.pa.set0 j hj 1).set1 j hj 3
  have f1 : Fr [X.gp] w ((w.setCell ⟨X.gp, j * 3, none⟩ (.int .i64 1)).setCell ⟨X.gp, j * 3 + 1, none⟩ (.int .i64 3)) := ((Fr.refl [X.gp] w).setCell (.inl (by simp)) _).setCell (.inl (by simp)) _
  exact ⟨rfl, HPK.out.frp f1 p1, f1⟩
set_option maxHeartbeats 1000000 in
theorem return_any (X : PkFix) (w : World) (st te : Nat → Int) (sc f : Nat → Bool) (paid sum : Int) (h : PkAt X w st te sc f paid sum) (hP : X.P ≤ 4) (j : Nat) (hj : j < X.P) (h0 : st j = 1) (h1 : te j = 3) (h2 : sc j = true) :
    Calls Tryd.prog 10 #[.pointer (some ⟨X.x, 0, none⟩), .int .i64 ((j : Int) + 1), .int .i64 3] w fun e w' => e = .returned (.int .i64 8) ∧ w = w' := by
  have hg := get_any X w st te sc f paid sum h hP j hj
  have c0 := h.pa.c0 j hj
  have c1 := h.pa.c1 j hj
  have c2 := h.pa.c2 j hj
  rw [h0] at c0
  rw [h1] at c1
  rw [h2] at c2
  have HG := Lib.hid hg
  clear hg h h0 h1 h2
  go_enter Tryd.func10, Tryd.ntmps10
  go_wp2_with fail
  refine HG.out.mono ?_
  rintro e w1 ⟨rfl, rfl⟩
  go_wp2_with fail
  refine (isterm_any w).mono ?_
  rintro e w1 ⟨rfl, rfl⟩
  go_wp2_with fail
  go_ret
  exact ⟨rfl, rfl⟩
end Go.Proofs.YtijdlggoaianbaaDoor
