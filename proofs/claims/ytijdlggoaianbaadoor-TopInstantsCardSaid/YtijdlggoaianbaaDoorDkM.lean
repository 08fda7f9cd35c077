/-
  TopInstants: packs.New.
-/
import Derived.Test.YtijdlggoaianbaaDoorDkN
import Derived.Deep.RegionHeld
import Derived.BigQuiet
set_option linter.unusedVariables false
namespace Go.Proofs.YtijdlggoaianbaaDoor
open Go.RowKit Go.Maps
def NwPost (P Z N : Nat) (C : Nat → ByteArray) (pr : Nat → Int) (w : World) (e : Ending) (w' : World) : Prop :=
  ∃ X : PkFix, e = .returned (.tuple #[.pointer (some ⟨X.x, 0, none⟩), .int .i64 0]) ∧ (X.P = P ∧ X.Z = Z ∧ X.N = N ∧ X.C = C ∧ X.pr = pr) ∧ (w.heap.size ≤ X.x ∧ w.heap.size ≤ X.gp ∧ w.heap.size ≤ X.gs) ∧ PkAt X w' (fun _ => 0) (fun _ => 0) (fun _ => false) (fun _ => false) 0 0 ∧ Fr [] w w'
theorem PaAt.mk0 {w : World} {g P : Nat} {e : TypeId} (hg : g = w.heap.size) : PaAt (w.alloc (.cells (madeCells zP (P * 3)) e)) g P (fun _ => 0) (fun _ => 0) (fun _ => false) := by rw [hg]; exact PaAt.zero _ _ _
theorem PaAt.al {w : World} {g P : Nat} {st te : Nat → Int} {sc : Nat → Bool} (h : PaAt w g P st te sc) (o : Obj) : PaAt (w.alloc o) g P st te sc := h.fr ((Fr.refl [] w).alloc o) (by simp)
theorem PaAt.dr {w : World} {g P : Nat} {st te : Nat → Int} {sc : Nat → Bool} (h : PaAt w g P st te sc) : PaAt w.drew g P st te sc := h.fr ((Fr.refl [] w).drew) (by simp)
theorem BoAt.dr {w : World} {g N : Nat} {f : Nat → Bool} (h : BoAt w g N f) : BoAt w.drew g N f := h.fr ((Fr.refl [] w).drew) (by simp)
theorem BoAt.mk0 {w : World} {g N : Nat} {e : TypeId} (hg : g = w.heap.size) : BoAt (w.alloc (.cells (madeCells #[.bool false] N) e)) g N (fun _ => false) := by rw [hg]; exact BoAt.zero _ _ _
theorem BoAt.al {w : World} {g N : Nat} {f : Nat → Bool} (h : BoAt w g N f) (o : Obj) : BoAt (w.alloc o) g N f := h.fr ((Fr.refl [] w).alloc o) (by simp)
theorem TkAt.al {w : World} {g N Z : Nat} {C : Nat → ByteArray} {pr : Nat → Int} (h : TkAt w g N Z C pr) (o : Obj) : TkAt (w.alloc o) g N Z C pr := h.fr ((Fr.refl [] w).alloc o) (by simp)
theorem mk_pk {v : World} {x gp gk capk gs m P Z N : Nat} {C : Nat → ByteArray} {pr : Nat → Int} {T : TypeId} (hx : x = v.heap.size) (pa : PaAt v gp P (fun _ => 0) (fun _ => 0) (fun _ => false)) (tk : TkAt v gk N Z C pr) (bo : BoAt v gs N (fun _ => false)) (mp : IdxM Tryd.prog 9 3 v m N C)
    (d2 : gp ≠ gk ∧ gp ≠ gs ∧ gp ≠ m ∧ gk ≠ gs ∧ gk ≠ m ∧ gs ≠ m) : PkAt ⟨x, gp, gk, capk, gs, m, P, Z, N, C, pr⟩ (v.alloc (.cells #[.slice (some ⟨gp, 0, none⟩) P P, .slice (some ⟨gk, 0, none⟩) N capk, .slice (some ⟨gs, 0, none⟩) N N, .map (some m), .int .i64 0, .int .i64 0] T)) (fun _ => 0) (fun _ => 0) (fun _ => false) (fun _ => false) 0 0 := by
  have f : Fr [] v (v.alloc (.cells #[.slice (some ⟨gp, 0, none⟩) P P, .slice (some ⟨gk, 0, none⟩) N capk, .slice (some ⟨gs, 0, none⟩) N N, .map (some m), .int .i64 0, .int .i64 0] T)) := (Fr.refl [] v).alloc _
  have l1 := pa.lt
  have l2 := tk.lt
  have l3 := bo.lt
  have l4 := mp.lt
  exact ⟨by rw [hx]; simp, fun j => World.frozen?_alloc_at _ _ _ _ hx, new_cell hx rfl, new_cell hx rfl, new_cell hx rfl, new_cell hx rfl, new_cell hx rfl, new_cell hx rfl, pa.fr f (by simp), tk.fr f (by simp), bo.fr f (by simp), mp.fr f (by simp), ⟨by simp only []; omega, by simp only []; omega, by simp only []; omega, by simp only []; omega⟩, d2⟩
theorem held_al {wo v : World} {p : Addr} {x : Value} (h : Fr [] wo v ∧ v.cell? p = some x) (o : Obj) : Fr [] wo (v.alloc o) ∧ (v.alloc o).cell? p = some x := ⟨h.1.alloc _, ((Fr.refl [] v).alloc o).cell_some h.2 (by simp)⟩
theorem held_fr {wo v v' : World} {p : Addr} {x : Value} (h : Fr [] wo v ∧ v.cell? p = some x) (f : Fr [] v v') : Fr [] wo v' ∧ v'.cell? p = some x := ⟨h.1.trans f, f.cell_some h.2 (by simp)⟩
theorem held_dr {wo : World} {p : Addr} {x : Value} (h : wo.cell? p = some x) : Fr [] wo wo.drew ∧ wo.drew.cell? p = some x := ⟨(Fr.refl [] wo).drew, h⟩
theorem mapLawS : Keyed Tryd.prog 9 := string_keyed Tryd.underlying9
theorem zeroInt (w : World) : (zeroValue 3).run Tryd.prog w = .ok (.int .i64 0) w := by kernel_rfl
set_option maxRecDepth 20000 in
set_option maxHeartbeats 4000000 in
theorem pnew_any (s : ByteArray) (P Z g n cap c0 c1 gt N : Nat) (sd : Int) (pr : Nat → Int) (w : World) (hs : s = dkS) (hp : Pl P Z n c0 c1) (hN : N = P * Z) (hl : LvAt w g n c0 c1) (ht : TkAt w gt N Z (cdS sd) pr) (hpr : ∀ i, i < N → 0 ≤ pr i ∧ pr i ≤ 500) :
    Calls Tryd.prog 6 #[.agg #[.string s, .int .i64 10, .int .i64 P, .int .i64 Z, .slice (some ⟨g, 0, none⟩) n cap], .slice (some ⟨gt, 0, none⟩) N N] w (NwPost P Z N (cdS sd) pr w) := by
  obtain ⟨p1, p2, z1, z2, q1, q2, k1, k2, k3⟩ := hp.i
  have hNi : (P : Int) * (Z : Int) = (N : Int) := by rw [hN, Int.natCast_mul]
  rw [hNi] at q1 q2 k2 k3
  obtain ⟨w1, hw1⟩ : ∃ w1, w1 = w.alloc (.cells #[.string s, .int .i64 10, .int .i64 P, .int .i64 Z, .slice (some ⟨g, 0, none⟩) n cap] 26) := ⟨_, rfl⟩
  have fa : Fr [] w w1 := by rw [hw1]; exact (Fr.refl [] w).alloc _
  have c0' : w1.cell? ⟨w.heap.size, 0, none⟩ = some (.string s) := by rw [hw1]; exact new_cell rfl rfl
  have c1' : w1.cell? ⟨w.heap.size, 1, none⟩ = some (.int .i64 10) := by rw [hw1]; exact new_cell rfl rfl
  have c2' : w1.cell? ⟨w.heap.size, 2, none⟩ = some (.int .i64 P) := by rw [hw1]; exact new_cell rfl rfl
  have c3' : w1.cell? ⟨w.heap.size, 3, none⟩ = some (.int .i64 Z) := by rw [hw1]; exact new_cell rfl rfl
  have c4' : w1.cell? ⟨w.heap.size, 4, none⟩ = some (.slice (some ⟨g, 0, none⟩) n cap) := by rw [hw1]; exact new_cell rfl rfl
  have hl1 := hl.fr fa (by simp)
  have hck := dcheck_any s P Z g n cap c0 c1 w1 hs hp hl1
  have hgt := ht.lt
  have HFA := Lib.hid fa
  have HCK := Lib.hid hck
  have HTK := Lib.hid (ht.fr fa (by simp))
  have HN := Lib.hid hN
  have HPR := Lib.hid hpr
  have hmm := @run_makeMap Tryd.prog
  clear hp hl hl1 fa hck hN hs ht hpr
  go_enter Tryd.func6, Tryd.ntmps6
  go_upto_region 1 with (fail)
  rw [← hw1]
  have HW1 := Lib.hid hw1
  clear hw1
  generalize hpb : w.heap.size = pb at *
  have HPB := Lib.hid hpb
  clear hpb
  go_wp2_with fail
  refine HCK.out.mono ?_
  rintro e w2 ⟨rfl, f2⟩
  have d2 := f2.cell_some c2' (by simp)
  have d3 := f2.cell_some c3' (by simp)
  have HF2 := Lib.hid (HFA.out.trans f2)
  have HT2 := Lib.hid (HTK.out.fr f2 (by simp))
  clear c0' c1' c2' c3' c4' f2
  go_upto_region 7 with (fail)
  obtain ⟨w3, hw3⟩ : ∃ x, x = w2.alloc (.map #[] 0) := ⟨_, rfl⟩
  obtain ⟨mb, hmb⟩ : ∃ x, x = w2.heap.size := ⟨_, rfl⟩
  have hpm : pb < mb := by rw [hmb]; exact lt_of_cell d2
  have f3 : Fr [] w2 w3 := by rw [hw3]; exact (Fr.refl [] w2).alloc _
  have HM := Lib.hid (show IdxM Tryd.prog 9 3 w3 mb 0 (cdS sd) by rw [hw3, hmb]; exact IdxM.made _)
  rw [← hw3, ← hmb]
  have HF3 := Lib.hid (HF2.out.trans f3)
  have HT3 := Lib.hid (HT2.out.fr f3 (by simp))
  have d2 := f3.cell_some d2 (by simp)
  have d3 := f3.cell_some d3 (by simp)
  have HC3 := Lib.hid (And.intro d2 d3)
  have hz3 : mb < w3.heap.size := by rw [hw3, hmb]; simp
  have HHW := Lib.hid (And.intro hw3 hmb)
  clear hw3 hmb f3 d2 d3 hmm
  go_wp2_with fail
  go_loopw [29] (fun i wr => ∃ k : Nat, k ≤ N ∧ i = .int .i64 k ∧ IdxM Tryd.prog 9 3 wr mb k (cdS sd) ∧ Fr [mb] w3 wr) (fun i _ => N - (intOf i).toNat)
  case atStart => exact ⟨0, by omega, rfl, HM.out, Fr.refl _ _⟩
  case round =>
    obtain ⟨k, hk, rfl, hm, hf⟩ := hrel
    by_cases hlt : k < N
    · have hkN : (k : Int) < (N : Int) := by omega
      have t1 := HT3.out.fr hf (by simp; omega)
      have e0 := t1.c0 k hlt
      have e1 := t1.c1 k hlt
      have e2 := t1.c2 k hlt
      have e3 := t1.c3 k hlt
      have d2 := hf.cell_some HC3.out.1 (by simp; omega)
      have d3 := hf.cell_some HC3.out.2 (by simp; omega)
      obtain ⟨y1, y2⟩ := HPR.out k hlt
      have dq1 : decide (pr k < 0) = false := by simp; omega
      have dq2 : decide (1000000000000 < pr k) = false := by simp; omega
      clear y1 y2
      have r0 : 0 ≤ (k : Int) / (Z : Int) := Int.ediv_nonneg (by omega) (by omega)
      have r1 : (k : Int) / (Z : Int) ≤ (k : Int) := Int.ediv_le_self _ (by omega)
      have r2 : 0 ≤ (k : Int) % (Z : Int) := Int.emod_nonneg _ (by omega)
      have r3 : (k : Int) % (Z : Int) < (Z : Int) := Int.emod_lt_of_pos _ (by omega)
      obtain ⟨wy, hwy⟩ : ∃ wy, wy = wr.alloc (.cells #[.int .i64 ((k : Int) / (Z : Int) + 1), .int .i64 ((k : Int) % (Z : Int) + 1), .int .i64 (pr k), .string (cdS sd k)] 40) := ⟨_, rfl⟩
      have fy : Fr [] wr wy := by rw [hwy]; exact (Fr.refl [] wr).alloc _
      have x0 : wy.cell? ⟨wr.heap.size, 0, none⟩ = some (.int .i64 ((k : Int) / (Z : Int) + 1)) := by rw [hwy]; exact new_cell rfl rfl
      have x1 : wy.cell? ⟨wr.heap.size, 1, none⟩ = some (.int .i64 ((k : Int) % (Z : Int) + 1)) := by rw [hwy]; exact new_cell rfl rfl
      have x2 : wy.cell? ⟨wr.heap.size, 2, none⟩ = some (.int .i64 (pr k)) := by rw [hwy]; exact new_cell rfl rfl
      have x3 : wy.cell? ⟨wr.heap.size, 3, none⟩ = some (.string (cdS sd k)) := by rw [hwy]; exact new_cell rfl rfl
      have d2 := fy.cell_some d2 (by simp)
      have d3 := fy.cell_some d3 (by simp)
      have hmy := hm.fr fy (by simp)
      have hne : ∀ j, j < k → cdS sd j ≠ cdS sd k := fun j hj e => by have := cdS_inj (sd := sd) (by omega) (by omega) e; omega
      have HNE := Lib.hid hne
      have HMY := Lib.hid hmy
      have HFY := Lib.hid (hf.trans (fy.mono (by simp)))
      clear hm hf t1 fy hmy hne
      go_upto_region 10 with (fail)
      rw [← hwy]
      have HWY := Lib.hid hwy
      clear hwy
      generalize wr.heap.size = bt at *
      clear e0 e1 e2 e3
      go_wp2_with fail
      go_big_quiet (fail)
      obtain ⟨wz, hwz⟩ : ∃ x, x = wy.drewN nq := ⟨_, rfl⟩
      have fz : Fr [] wy wz := by rw [hwz]; exact (Fr.refl [] wy).drewN _
      rw [← hwz]
      have HWZ := Lib.hid hwz
      clear hwz
      have x3 := fz.cell_some x3 (by simp)
      have hmz := HMY.out.fr fz (by simp)
      obtain ⟨cx, hlook⟩ := hmz.none mapLawS Tryd.underlying9 Tryd.underlying52 Tryd.underlying3 (zeroInt wz) (cdS sd k) HNE.out (cdS_size sd k)
      have HMZ := Lib.hid hmz
      have HFZ := Lib.hid (HFY.out.trans (fz.mono (by simp)))
      clear hmz fz x0 x1 x2 d2 d3 r0 r1 r2 r3 dq1 dq2
      go_wp2_with (at_mapUpdate; refine wpList_idx_put rfl (.tmp 70) (.tmp 72) (.tmp 73) rfl mapLawS Tryd.underlying9 Tryd.underlying52 Tryd.underlying3 rfl HMZ.out (by unfold maxLen; omega) HNE.out (cdS_size sd k) rfl rfl ?_)
      intro w5 hm5 hf5
      have HM5 := Lib.hid hm5
      have HF5 := Lib.hid (HFZ.out.trans hf5)
      clear hm5 hf5
      go_wp2_with fail
      go_roundw
      case rel => exact ⟨k + 1, by omega, by go_num, HM5.out, HF5.out⟩
      case measure => simp [intOf]; omega
    · have e : N = k := by omega
      subst e
      have hkN : ¬ ((N : Int) < (N : Int)) := by omega
      have d2 := hf.cell_some HC3.out.1 (by simp; omega)
      have HMM := Lib.hid hm
      have HF := Lib.hid hf
      have HT4 := Lib.hid (HT3.out.fr hf (by simp; omega))
      have hpa := make_pa P (by omega)
      have hbo := make_bo N (by omega)
      have hmz := hm.lt
      clear hm hf hlt hk
      go_wp2_with fail
      go_region_held (fun w' => Fr [] wr w' ∧ w'.cell? ⟨pb, 2, none⟩ = some (.int .i64 P)) (first | exact held_al (by assumption) _ | exact held_fr (by assumption) (by assumption) | exact held_dr (by assumption)) (first | (go_at_call 18; refine (cloneT_any gt N Z (cdS sd) pr _ (HT4.out.fr (And.left (show Fr [] wr _ ∧ _ by assumption)) (by simp)) (by omega) (by omega)).mono ?_; rintro e w9 ⟨gk, capk, rfl, hgk, htk, hf9⟩))
      all_goals as_aux_lemma =>
        go_wp2_with fail
        go_ret2
        have q1 := htk.lt
        have q2 := hf9.size
        have q3 := hgk
        have q4 := HPB.out
        try simp at q2
        try simp at q3
        refine ⟨⟨_, _, _, _, _, _, P, Z, N, cdS sd, pr⟩, rfl, ⟨rfl, rfl, rfl, rfl, rfl⟩, ?_, mk_pk ?_ ?_ ?_ ?_ (HMM.out.fr (w' := _) (bs := []) ?_ (by simp)) ?_, ?_⟩
        · refine ⟨?_, ?_, ?_⟩ <;> (first | (dsimp only; omega) | (simp; omega))
        · simp
        · repeat (first | exact PaAt.mk0 (by simp) | refine PaAt.al ?_ _ | refine PaAt.dr ?_ | refine PaAt.fr ?_ hf9 (by simp))
        · repeat (first | exact htk | refine TkAt.al ?_ _)
        · repeat (first | exact BoAt.mk0 (by simp) | refine BoAt.al ?_ _ | refine BoAt.dr ?_ | refine BoAt.fr ?_ hf9 (by simp))
        · repeat (first | exact Fr.refl [] _ | refine Fr.alloc ?_ _ | refine Fr.drew ?_ | refine Fr.trans ?_ hf9)
        · refine ⟨?_, ?_, ?_, ?_, ?_, ?_⟩ <;> omega
        · refine Fr.trans' HF3.out (Fr.trans (b := wr) HF.out ?_) (by simp; omega)
          repeat (first | exact Fr.refl _ _ | refine Fr.alloc ?_ _ | refine Fr.drew ?_ | refine Fr.trans ?_ (hf9.mono (by simp)))
end Go.Proofs.YtijdlggoaianbaaDoor
