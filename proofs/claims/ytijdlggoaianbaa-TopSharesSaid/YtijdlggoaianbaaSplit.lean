/-
  LAYER 2: Split.
-/
import Derived.Test.YtijdlggoaianbaaSplitS
import Derived.Test.YtijdlggoaianbaaMulDiv
import Derived.Test.YtijdlggoaianbaaRollC
import Derived.Deep.DeepCutAuto
import Derived.Deep.CutBlock
import Derived.BigRegion
set_option linter.unusedVariables false
namespace Go.Proofs.Ytijdlggoaianbaa
open Go.RowKit
/-- f at the first k places of n, 0 behind them -/
def upTo (f : Nat → Int) (n k : Nat) : List Int := (List.range n).map fun i => if i < k then f i else 0
theorem upTo_len (f : Nat → Int) (n k : Nat) : (upTo f n k).length = n := by simp [upTo]
theorem upTo_at (f : Nat → Int) (n k i : Nat) (h : i < n) : (upTo f n k).getD i 0 = if i < k then f i else 0 := getD_range _ _ _ h
theorem upTo_zero (f : Nat → Int) (n : Nat) : upTo f n 0 = List.replicate n 0 := by
  refine ext_getD (by simp [upTo]) fun i hi => ?_
  rw [upTo_len] at hi
  rw [upTo_at _ _ _ _ hi]; simp [List.getD, hi]
theorem upTo_succ (f : Nat → Int) (n k : Nat) (h : k < n) : (upTo f n k).set k (f k) = upTo f n (k + 1) := by
  refine ext_getD (by simp [upTo]) fun i hi => ?_
  rw [List.length_set, upTo_len] at hi
  rw [getD_set _ _ _ _ (by rw [upTo_len]; exact h), upTo_at _ _ _ _ hi, upTo_at _ _ _ _ hi]
  by_cases e : i = k
  · subst e; simp
  · rw [if_neg e]
    by_cases e2 : i < k
    · rw [if_pos e2, if_pos (by omega)]
    · rw [if_neg e2, if_neg (by omega)]
theorem upTo_all (l : List Int) : upTo (fun i => l.getD i 0) l.length l.length = l := by
  refine ext_getD (by simp [upTo]) fun i hi => ?_
  rw [upTo_len] at hi
  rw [upTo_at _ _ _ _ hi, if_pos hi]
theorem upTo_up (n : Nat) : upTo (fun i => (i : Int)) n n = upL n := by
  refine ext_getD (by simp [upTo, upL]) fun i hi => ?_
  rw [upTo_len] at hi
  rw [upTo_at _ _ _ _ hi, if_pos hi]
  simp [upL, List.getD, hi]
/-- the memory of Split: z is the heap's size at the start -/
structure SpSt (z n : Nat) (P R O : List Int) (left : Int) (w x : World) : Prop where
  fr : Fr [] w x
  size : z + 7 ≤ x.heap.size
  cP : x.cell? ⟨z + 1, 0, none⟩ = some (.slice (some ⟨z, 0, none⟩) n n)
  cR : x.cell? ⟨z + 3, 0, none⟩ = some (.slice (some ⟨z + 2, 0, none⟩) n n)
  cO : x.cell? ⟨z + 5, 0, none⟩ = some (.slice (some ⟨z + 4, 0, none⟩) n n)
  cL : x.cell? ⟨z + 6, 0, none⟩ = some (.int .i64 left)
  fL : x.frozen? ⟨z + 6, 0, none⟩ = false
  oP : OwnI x z 3 (.slice (some ⟨z, 0, none⟩) n n) P
  oR : OwnI x z 3 (.slice (some ⟨z + 2, 0, none⟩) n n) R
  oO : OwnI x z 3 (.slice (some ⟨z + 4, 0, none⟩) n n) O
theorem SpSt.drewN {z n : Nat} {P R O : List Int} {left : Int} {w x : World} (h : SpSt z n P R O left w x) (k : Nat) : SpSt z n P R O left w (x.drewN k) :=
  ⟨h.fr.drewN k, h.size, h.cP, h.cR, h.cO, h.cL, h.fL, h.oP, h.oR, h.oO⟩
theorem SpSt.drew {z n : Nat} {P R O : List Int} {left : Int} {w x : World} (h : SpSt z n P R O left w x) : SpSt z n P R O left w x.drew :=
  ⟨h.fr.drew, h.size, h.cP, h.cR, h.cO, h.cL, h.fL, h.oP, h.oR, h.oO⟩
theorem SpSt.setP {z n : Nat} {P R O : List Int} {left : Int} {w x : World} (h : SpSt z n P R O left w x) (hz : w.heap.size = z) (i : Nat) (y : Int) : SpSt z n (P.set i y) R O left w (x.setCell ⟨z, i, none⟩ (.int .i64 y)) := by
  have e1 : Fr [z] x (x.setCell ⟨z, i, none⟩ (.int .i64 y)) := (Fr.refl _ _).setCell (.inl (by simp)) _
  refine ⟨h.fr.trans' e1 (by intro k hk; simp at hk; subst hk; exact .inr (by omega)), Nat.le_trans h.size e1.size, e1.cell_some h.cP (by simp), e1.cell_some h.cR (by simp), e1.cell_some h.cO (by simp), e1.cell_some h.cL (by simp), ?_, h.oP.set i _, h.oR.fr e1 (by simp [Value.ownBlock]), h.oO.fr e1 (by simp [Value.ownBlock])⟩
  rw [e1.frozen (lt_of_cell h.cL) (by simp)]; exact h.fL
theorem SpSt.setR {z n : Nat} {P R O : List Int} {left : Int} {w x : World} (h : SpSt z n P R O left w x) (hz : w.heap.size = z) (i : Nat) (y : Int) : SpSt z n P (R.set i y) O left w (x.setCell ⟨z + 2, i, none⟩ (.int .i64 y)) := by
  have e1 : Fr [z + 2] x (x.setCell ⟨z + 2, i, none⟩ (.int .i64 y)) := (Fr.refl _ _).setCell (.inl (by simp)) _
  refine ⟨h.fr.trans' e1 (by intro k hk; simp at hk; subst hk; exact .inr (by omega)), Nat.le_trans h.size e1.size, e1.cell_some h.cP (by simp), e1.cell_some h.cR (by simp), e1.cell_some h.cO (by simp), e1.cell_some h.cL (by simp), ?_, h.oP.fr e1 (by simp [Value.ownBlock]), h.oR.set i _, h.oO.fr e1 (by simp [Value.ownBlock])⟩
  rw [e1.frozen (lt_of_cell h.cL) (by simp)]; exact h.fL
theorem SpSt.setO {z n : Nat} {P R O : List Int} {left : Int} {w x : World} (h : SpSt z n P R O left w x) (hz : w.heap.size = z) (i : Nat) (y : Int) : SpSt z n P R (O.set i y) left w (x.setCell ⟨z + 4, i, none⟩ (.int .i64 y)) := by
  have e1 : Fr [z + 4] x (x.setCell ⟨z + 4, i, none⟩ (.int .i64 y)) := (Fr.refl _ _).setCell (.inl (by simp)) _
  refine ⟨h.fr.trans' e1 (by intro k hk; simp at hk; subst hk; exact .inr (by omega)), Nat.le_trans h.size e1.size, e1.cell_some h.cP (by simp), e1.cell_some h.cR (by simp), e1.cell_some h.cO (by simp), e1.cell_some h.cL (by simp), ?_, h.oP.fr e1 (by simp [Value.ownBlock]), h.oR.fr e1 (by simp [Value.ownBlock]), h.oO.set i _⟩
  rw [e1.frozen (lt_of_cell h.cL) (by simp)]; exact h.fL
theorem SpSt.setL {z n : Nat} {P R O : List Int} {left : Int} {w x : World} (h : SpSt z n P R O left w x) (hz : w.heap.size = z) (y : Int) : SpSt z n P R O y w (x.setCell ⟨z + 6, 0, none⟩ (.int .i64 y)) := by
  have e1 : Fr [z + 6] x (x.setCell ⟨z + 6, 0, none⟩ (.int .i64 y)) := (Fr.refl _ _).setCell (.inl (by simp)) _
  refine ⟨h.fr.trans' e1 (by intro k hk; simp at hk; subst hk; exact .inr (by omega)), Nat.le_trans h.size e1.size, e1.cell_some h.cP (by simp), e1.cell_some h.cR (by simp), e1.cell_some h.cO (by simp), World.cell?_setCell_same _ _ _ (by rw [h.cL]), ?_, h.oP.fr e1 (by simp [Value.ownBlock]), h.oR.fr e1 (by simp [Value.ownBlock]), h.oO.fr e1 (by simp [Value.ownBlock])⟩
  rw [World.frozen?_setCell]; exact h.fL
/-- one part grows by one, and what is left shrinks -/
theorem give_any (z n i : Nat) (P R O : List Int) (left : Int) (w x : World) (hz : w.heap.size = z) (h : SpSt z n P R O left w x) (hP : P.length = n) (hi : i < n) (b1 : 0 ≤ P.getD i 0) (b2 : P.getD i 0 ≤ 2000000000000) (l1 : 1 ≤ left) (l2 : left ≤ 100000) (hn : n ≤ 64) :
    Calls Try.prog 45 #[.int .i64 i, .pointer (some ⟨z + 1, 0, none⟩), .pointer (some ⟨z + 6, 0, none⟩)] x fun e w' => e = .returned (.tuple #[]) ∧ SpSt z n (P.set i (P.getD i 0 + 1)) R O (left - 1) w w' := by
  have cP := h.cP
  have cL := h.cL
  have fL := h.fL
  have c1 := h.oP.cell i (by omega)
  have f1 := h.oP.frozen i
  have hin : (i : Int) < (n : Int) := by omega
  have HF := Lib.hid ((h.setP hz i (P.getD i 0 + 1)).setL hz (left - 1))
  generalize P.getD i 0 = y at *
  clear h
  go_enter Try.func45, Try.ntmps45
  go_wp2_with fail
  go_end0
  exact ⟨rfl, HF.out⟩
theorem sp_start (w : World) (n : Nat) (m : Int) (T1 T2 : TypeId) (hn : n ≤ maxLen) : SpSt w.heap.size n (List.replicate n 0) (List.replicate n 0) (List.replicate n 0) m w
    (((((((w.alloc (.cells (madeCells #[.int .i64 0] n) 3)).alloc (.cells #[.slice (some ⟨w.heap.size, 0, none⟩) n n] T1)).alloc (.cells (madeCells #[.int .i64 0] n) 3)).alloc (.cells #[.slice (some ⟨w.heap.size + 2, 0, none⟩) n n] T1)).alloc
      (.cells (madeCells #[.int .i64 0] n) 3)).alloc (.cells #[.slice (some ⟨w.heap.size + 4, 0, none⟩) n n] T1)).alloc (.cells #[.int .i64 m] T2)) := by
  have mk : ∀ (x : World) (g : Nat), x.heap.size = g → w.heap.size ≤ g → OwnI (x.alloc (.cells (madeCells #[.int .i64 0] n) 3)) w.heap.size 3 (.slice (some ⟨g, 0, none⟩) n n) (List.replicate n 0) := by
    intro x g hg hb; subst hg; exact (OwnI.made x n _ hn).mono hb
  have bx : ∀ (x : World) (g : Nat) (v : Value) (T : TypeId), x.heap.size = g → (x.alloc (.cells #[v] T)).cell? ⟨g, 0, none⟩ = some v := by
    intro x g v T hg; subst hg; rw [World.cell?_alloc_new]; rfl
  have fz : ∀ (x : World) (g : Nat) (v : Value) (T : TypeId), x.heap.size = g → (x.alloc (.cells #[v] T)).frozen? ⟨g, 0, none⟩ = false := by
    intro x g v T hg; subst hg; exact World.frozen?_alloc_new _ _ _ _
  refine ⟨(((((((Fr.refl [] w).alloc _).alloc _).alloc _).alloc _).alloc _).alloc _).alloc _, by simp, ?_, ?_, ?_, bx _ _ _ _ (by simp), fz _ _ _ _ (by simp), ?_, ?_, ?_⟩
  · exact (((((((Fr.refl [] _).alloc _).alloc _).alloc _).alloc _).alloc _)).cell_some (bx _ (w.heap.size + 1) _ _ (by simp)) (by simp)
  · exact (((Fr.refl [] _).alloc _).alloc _ |>.alloc _).cell_some (bx _ (w.heap.size + 3) _ _ (by simp)) (by simp)
  · exact ((Fr.refl [] _).alloc _).cell_some (bx _ (w.heap.size + 5) _ _ (by simp)) (by simp)
  · exact (mk w _ rfl (Nat.le_refl _)).fr ((((((Fr.refl [] _).alloc _).alloc _).alloc _).alloc _).alloc _ |>.alloc _) (by simp)
  · exact (mk _ (w.heap.size + 2) (by simp) (by omega)).fr ((((Fr.refl [] _).alloc _).alloc _).alloc _ |>.alloc _) (by simp)
  · exact (mk _ (w.heap.size + 4) (by simp) (by omega)).fr (((Fr.refl [] _).alloc _).alloc _) (by simp)
theorem SpSt.sorted {z n : Nat} {P R O O' : List Int} {left : Int} {w x y : World} (h : SpSt z n P R O left w x) (hz : w.heap.size = z) (ho : OwnI y z 3 (.slice (some ⟨z + 4, 0, none⟩) n n) O') (e1 : Fr [z + 4] x y) : SpSt z n P R O' left w y := by
  refine ⟨h.fr.trans' e1 (by intro k hk; simp at hk; subst hk; exact .inr (by omega)), Nat.le_trans h.size e1.size, e1.cell_some h.cP (by simp), e1.cell_some h.cR (by simp), e1.cell_some h.cO (by simp), e1.cell_some h.cL (by simp), ?_, h.oP.fr e1 (by simp [Value.ownBlock]), h.oR.fr e1 (by simp [Value.ownBlock]), ho⟩
  rw [e1.frozen (lt_of_cell h.cL) (by simp)]; exact h.fL
theorem sort_any' (xR xO bR bO n base : Nat) (r : List Int) (x : World) (hN : n ≤ 20) (h0 : 1 ≤ n) (hr : r.length = n) (h1 : xR ≠ bO) (h2 : xO ≠ bO) (h3 : bR ≠ bO)
    (cR : x.cell? ⟨xR, 0, none⟩ = some (.slice (some ⟨bR, 0, none⟩) n n)) (cO : x.cell? ⟨xO, 0, none⟩ = some (.slice (some ⟨bO, 0, none⟩) n n))
    (oR : OwnI x base 3 (.slice (some ⟨bR, 0, none⟩) n n) r) (oO : OwnI x base 3 (.slice (some ⟨bO, 0, none⟩) n n) (upL n)) :
    Calls Try.prog 43 #[.iface 25 (.slice (some ⟨bO, 0, none⟩) n n), .func (.func 44) #[] #[.pointer (some ⟨xR, 0, none⟩), .pointer (some ⟨xO, 0, none⟩)]] x fun e w' =>
      e = .returned (.tuple #[]) ∧ OwnI w' base 3 (.slice (some ⟨bO, 0, none⟩) n n) (ordI r (n - 1)) ∧ Fr [bO] x w' := by
  obtain ⟨N, rfl⟩ : ∃ N, n = N + 1 := ⟨n - 1, by omega⟩
  exact sort_any xR xO bR bO N base r x hN hr h1 h2 h3 cR cO oR oO
theorem infoIntS : (Try.prog.info? 3).map (fun i => (i.zero, i.size, i.bytes)) = some (some (.int .i64 0), 1, 8) := by kernel_rfl
def SpPost (m : Int) (ws : List Int) (w : World) (e : Ending) (w' : World) : Prop := ∃ u, e = .returned (.tuple #[u, .int .i64 (spE m ws)]) ∧ OwnI w' w.heap.size 3 u (spL m ws) ∧ Fr [] w w'
theorem sp_err {m : Int} {ws : List Int} {E : Int} {w w' : World} (h : spE m ws = E) (h0 : E ≠ 0) (hf : Fr [] w w') : SpPost m ws w (.returned (.tuple #[.slice none 0 0, .int .i64 E])) w' := by
  subst h
  refine ⟨_, rfl, ?_, hf⟩
  unfold spL
  rw [if_neg h0]
  exact OwnI.nil _ _ _
theorem spE_m {m : Int} {ws : List Int} (h : inR m 0 1000000000000 = false) : spE m ws = 2 := by simp [spE, h]
theorem spE_n {m : Int} {ws : List Int} (h : inR m 0 1000000000000 = true) (h2 : ws.length = 0) : spE m ws = 3 := by
  have : inR (ws.length : Int) 1 64 = false := inR_lo (by omega)
  simp [spE, h, this]
theorem spE_w {m : Int} {ws : List Int} (h : inR m 0 1000000000000 = true) (h1 : ws.length ≠ 0) (h2 : ws.length ≤ 20) (h3 : amtB ws = false) : spE m ws = 2 := by
  unfold spE; rw [if_neg (by simp [h]), inR_yes (by omega) (by omega)]; simp [h3]
theorem spE_z {m : Int} {ws : List Int} (h : inR m 0 1000000000000 = true) (h1 : ws.length ≠ 0) (h2 : ws.length ≤ 20) (h3 : amtB ws = true) (h4 : spT ws = 0) : spE m ws = 10 := by
  unfold spE; rw [if_neg (by simp [h]), inR_yes (by omega) (by omega)]; simp [h3, h4]
theorem spE_ok {m : Int} {ws : List Int} (h : inR m 0 1000000000000 = true) (h1 : ws.length ≠ 0) (h2 : ws.length ≤ 20) (h3 : amtB ws = true) (h4 : spT ws ≠ 0) : spE m ws = 0 := by
  unfold spE; rw [if_neg (by simp [h]), inR_yes (by omega) (by omega)]; simp [h3, h4]
theorem amtB_no {l : List Int} {k : Nat} (hk : k < l.length) (h : inR (l.getD k 0) 0 1000000000000 = false) : amtB l = false := by
  cases ha : amtB l
  · rfl
  · have := amtB_at ha k
    rw [inR_yes this.1 this.2] at h; simp at h
theorem sum_step {l : List Int} {k : Nat} {s : Int} (h0 : 0 ≤ s) (h1 : s ≤ 1000000000000 * k) (h : inR (l.getD k 0) 0 1000000000000 = true) : 0 ≤ s + l.getD k 0 ∧ s + l.getD k 0 ≤ 1000000000000 * (k + 1 : Nat) := by
  have := inR_of h
  push_cast; omega
theorem sumTo_mono {l : List Int} (h : amtB l = true) (k : Nat) : ∀ d : Nat, sumTo l k ≤ sumTo l (k + d) := by
  intro d
  induction d with
  | zero => exact Int.le_refl _
  | succ d ih =>
    have := (amtB_at h (k + d)).1
    rw [← Nat.add_assoc, sumTo]; omega
theorem spq_bd {m : Int} {ws : List Int} (hm : 0 ≤ m) (ha : amtB ws = true) (hT : 0 < spT ws) {k : Nat} (hk : k ≤ ws.length) : 0 ≤ sumTo (spQ m (spT ws) ws) k ∧ sumTo (spQ m (spT ws) ws) k ≤ m := by
  constructor
  · refine (sumTo_le_all (fun i hi => ?_) k (by rw [spQ_len]; exact hk)).1
    rw [spQ_len] at hi
    rw [spQ_at hi]
    exact Int.ediv_nonneg (Int.mul_nonneg hm (amtB_at ha i).1) (by omega)
  · have h1 := sum_quot (m := m) hT ws k hk
    have h2 := (sum_rest (m := m) hT ws k hk).1
    have h3 := sumTo_mono ha k (ws.length - k)
    rw [show k + (ws.length - k) = ws.length by omega] at h3
    have h4 : m * sumTo ws k ≤ m * spT ws := Int.mul_le_mul_of_nonneg_left h3 hm
    rw [Int.mul_comm m (spT ws)] at h4
    exact Int.le_of_mul_le_mul_left (by omega) hT
theorem sp_w {ws : List Int} (ha : amtB ws = true) {k : Nat} (hk : k < ws.length) : 0 ≤ ws.getD k 0 ∧ ws.getD k 0 ≤ spT ws := by
  exact ⟨(amtB_at ha k).1, (sumTo_le_all (l := ws) (fun i hi => (amtB_at ha i).1) ws.length (Nat.le_refl _)).2 k hk⟩
theorem getD_rep (n i : Nat) : (List.replicate n (0 : Int)).getD i 0 = 0 := by
  simp only [List.getD, List.getElem?_replicate]; split <;> rfl
set_option maxRecDepth 20000 in
set_option maxHeartbeats 4000000 in
theorem split_any (m : Int) (v : Value) (ws : List Int) (w : World) (hr : RdI w v ws) (hl : ws.length ≤ 20) : Calls Try.prog 25 #[.int .i64 m, v] w (SpPost m ws w) := by
  have hV := mvalid_any m
  by_cases hm : inR m 0 1000000000000 = true
  · obtain ⟨m1, m2⟩ := inR_of hm
    rw [hm] at hV
    obtain ⟨a, cap, rfl, hc1, hc2, hrd⟩ := hr
    by_cases hn : ws.length = 0
    · have HP := Lib.hid (sp_err (w := w) (w' := w) (spE_n hm hn) (by omega) (Fr.refl _ _))
      rw [hn]
      have HV := Lib.hid hV
      clear hrd hc1 hc2 hV hm hn hl
      go_enter Try.func25, Try.ntmps25
      go_wp2_with fail
      refine (HV.out _).mono ?_
      rintro e w1 ⟨rfl, rfl⟩
      go_wp2_with fail
      go_ret2
      exact HP.out
    · have hW := fun k hk h => sp_err (w := w) (w' := w) (spE_w hm hn hl (@amtB_no ws k hk h)) (by omega) (Fr.refl _ _)
      have hZ := fun ha h => sp_err (w := w) (w' := w) (spE_z hm hn hl ha h) (by omega) (Fr.refl _ _)
      have hOK := spE_ok hm hn hl
      obtain ⟨n, hN⟩ : ∃ n, n = ws.length := ⟨_, rfl⟩
      rw [← hN] at hn hl hW hrd ⊢
      have n0 : 1 ≤ n := by omega
      have e1 : ((n : Int) == 0) = false := by simp; omega
      have e2 : decide (64 < n) = false := by simp; omega
      have e3 : decide (64 < (n : Int)) = false := by simp; omega
      have HW := Lib.hid hW
      have HZ := Lib.hid hZ
      have HOK := Lib.hid hOK
      have HN := Lib.hid hN
      have HV := Lib.hid hV
      have HRD := Lib.hid hrd
      have HM := Lib.hid hm
      have hamt : amtB ws = true ∨ ¬ amtB ws = true := by cases amtB ws <;> simp
      clear hW hZ hOK hN hV hrd hm hc1 hc2 hn
      go_enter Try.func25, Try.ntmps25
      go_wp2_with fail
      refine (HV.out _).mono ?_
      rintro e w1 ⟨rfl, rfl⟩
      go_upto_block 0 with (fail)
      go_cut [6] (fun t wx => t = .int .i64 (spT ws) ∧ amtB ws = true ∧ w = wx)
      case first =>
        go_wp2_with fail
        go_loop [34, 6] (fun i t => ∃ k : Nat, k ≤ n ∧ i = .int .i64 k ∧ t = .int .i64 (sumTo ws k) ∧ Hid (0 ≤ sumTo ws k ∧ sumTo ws k ≤ 1000000000000 * k) ∧ Hid (∀ j, j < k → inR (ws.getD j 0) 0 1000000000000 = true)) (fun i _ => n - (intOf i).toNat)
        case atStart => exact ⟨0, by omega, rfl, rfl, Lib.hid (by simp [sumTo]), Lib.hid (fun j hj => by omega)⟩
        case round =>
          obtain ⟨k, hk, rfl, rfl, HB, HA⟩ := hrel
          by_cases hlt : k < n
          · obtain ⟨g, o, rfl, hcell⟩ := HRD.out k hlt
            have hb1 := HB.out.1
            have hb2 := HB.out.2
            have hs : sumTo ws (k + 1) = sumTo ws k + ws.getD k 0 := rfl
            have hs2 := @sum_step ws k _ hb1 hb2
            have hw := HW.out k hlt
            have hkn : (k : Int) < (n : Int) := by omega
            have ha : ∀ (h : inR (ws.getD k 0) 0 1000000000000 = true) (j : Nat), j < k + 1 → inR (ws.getD j 0) 0 1000000000000 = true := fun h j hj => by
              by_cases e : j = k
              · rw [e]; exact h
              · exact HA.out j (by omega)
            have hv := mvalid_any (ws.getD k 0)
            by_cases hx : inR (ws.getD k 0) 0 1000000000000 = true
            · have hA := ha hx
              have hB := hs2 hx
              have hS := hs
              rw [← hs] at hB
              rw [hx] at hv
              have HA' := Lib.hid hA
              have HB' := Lib.hid hB
              have HS := Lib.hid hS
              have HVV := Lib.hid hv
              obtain ⟨x1, x2⟩ := inR_of hx
              clear ha hs hs2 hw hA hB hS hv HW HZ HA HB hx
              generalize sumTo ws k = s at *
              generalize ws.getD k 0 = x at *
              go_wp2_with fail
              refine (HVV.out _).mono ?_
              rintro e w1 ⟨rfl, rfl⟩
              go_wp2_with fail
              go_round
              case rel => exact ⟨k + 1, by omega, by go_num, by rw [HS.out], HB', HA'⟩
              case measure => simp [intOf]; omega
            · have hx : inR (ws.getD k 0) 0 1000000000000 = false := by simpa using hx
              have hP := hw hx
              have HP := Lib.hid hP
              rw [hx] at hv
              have HVV := Lib.hid hv
              clear ha hs hs2 hw hv HW HZ HA HB hx hP
              generalize sumTo ws k = s at *
              generalize ws.getD k 0 = x at *
              go_wp2_with fail
              refine (HVV.out _).mono ?_
              rintro e w1 ⟨rfl, rfl⟩
              go_wp2_with fail
              go_ret2
              exact HP.out
          · obtain rfl : n = k := by omega
            have ha : amtB ws = true := amtB_of fun j hj => inR_of (HA.out j (by have := HN.out; omega))
            have ht : spT ws = sumTo ws n := by unfold spT; rw [← HN.out]
            have HT := Lib.hid ht
            have HAA := Lib.hid ha
            clear ha ht
            go_wp2_with fail
            go_meet
            exact ⟨by rw [HT.out], HAA.out, rfl⟩
      case rest =>
        obtain ⟨rfl, ha, rfl⟩ := hcut
        by_cases hT : spT ws = 0
        · have HP := Lib.hid (HZ.out ha hT)
          have et : (spT ws == 0) = true := by simpa using hT
          clear HRD hT ha HZ HW
          go_wp2_with fail
          go_ret2
          exact HP.out
        · have hE := HOK.out ha hT
          have et : (spT ws == 0) = false := by simpa using hT
          have HE := Lib.hid hE
          have hnm : (n : Int) ≤ 20 := by omega
          have HA := Lib.hid ha
          have hT0 : 0 < spT ws := by have := (sumTo_bd HA.out ws.length).1; unfold spT at *; omega
          clear hT ha HZ HW HOK hE
          have hmk := fun w => run_make_row' (P := Try.prog) 25 3 (.int .i64 0) 8 Try.underlying25 infoIntS rfl .i64 .i64 n (by omega) (by omega) w
          go_upto_block 2 with (fail)
          have hst := sp_start w n m 25 3 (by unfold maxLen; omega)
          simp only [Nat.add_assoc, Nat.reduceAdd]
          generalize World.alloc _ _ = wx at hst ⊢
          obtain ⟨z, hz⟩ : ∃ z, z = w.heap.size := ⟨_, rfl⟩
          rw [← hz] at hst ⊢
          have HZ := Lib.hid hz.symm
          have hT1 : spT ws ≤ 20000000000000 := by have := (sumTo_bd HA.out ws.length).2; have := HN.out; unfold spT at *; omega
          rw [← upTo_zero (fun i => (spQ m (spT ws) ws).getD i 0)] at hst
          have hst2 : SpSt z n (upTo (fun i => (spQ m (spT ws) ws).getD i 0) n 0) (upTo (fun i => (spR m (spT ws) ws).getD i 0) n 0) (upTo (fun i => (i : Int)) n 0) (m - sumTo (spQ m (spT ws) ws) 0) w wx := by
            have e1 := upTo_zero (fun i => (spR m (spT ws) ws).getD i 0) n
            have e2 := upTo_zero (fun i => (i : Int)) n
            have e3 := upTo_zero (fun i => (spQ m (spT ws) ws).getD i 0) n
            rw [e1, e2, show m - sumTo (spQ m (spT ws) ws) 0 = m by simp [sumTo], e3]
            rw [e3] at hst
            exact hst
          have HST := Lib.hid hst2
          clear hst hst2 hz hmk
          go_wp2_with fail
          go_loopw [59] (fun i wr => ∃ k : Nat, k ≤ n ∧ i = .int .i64 k ∧ SpSt z n (upTo (fun i => (spQ m (spT ws) ws).getD i 0) n k) (upTo (fun i => (spR m (spT ws) ws).getD i 0) n k) (upTo (fun i => (i : Int)) n k) (m - sumTo (spQ m (spT ws) ws) k) w wr) (fun i _ => n - (intOf i).toNat)
          case atStart => exact ⟨0, by omega, rfl, HST.out⟩
          case round =>
            obtain ⟨k, hk, rfl, hs⟩ := hrel
            by_cases hlt : k < n
            · obtain ⟨g, o, rfl, hcell⟩ := HRD.out k hlt
              have hc := hs.fr.cell_some hcell (by simp)
              obtain ⟨x1, x2⟩ := sp_w HA.out (k := k) (by have := HN.out; omega)
              obtain ⟨q1, q2⟩ := spq_bd (m := m) m1 HA.out hT0 (k := k) (by have := HN.out; omega)
              obtain ⟨q3, q4⟩ := spq_bd (m := m) m1 HA.out hT0 (k := k + 1) (by have := HN.out; omega)
              have hq : (spQ m (spT ws) ws).getD k 0 = m * ws.getD k 0 / spT ws := spQ_at (by have := HN.out; omega)
              have hr : (spR m (spT ws) ws).getD k 0 = m * ws.getD k 0 % spT ws := spR_at (by have := HN.out; omega)
              have hsm : sumTo (spQ m (spT ws) ws) (k + 1) = sumTo (spQ m (spT ws) ws) k + (spQ m (spT ws) ws).getD k 0 := rfl
              have hMD := fun w => muldiv_any m (ws.getD k 0) (spT ws) m1 m2 x1 x2 hT0 (by omega) w
              rw [hsm] at q3 q4
              rw [← hq, ← hr] at hMD
              have uP := upTo_succ (fun i => (spQ m (spT ws) ws).getD i 0) n k hlt
              have uR := upTo_succ (fun i => (spR m (spT ws) ws).getD i 0) n k hlt
              have uO := upTo_succ (fun i => (i : Int)) n k hlt
              have hnext : ∀ W, SpSt z n ((upTo (fun i => (spQ m (spT ws) ws).getD i 0) n k).set k ((spQ m (spT ws) ws).getD k 0)) ((upTo (fun i => (spR m (spT ws) ws).getD i 0) n k).set k ((spR m (spT ws) ws).getD k 0)) ((upTo (fun i => (i : Int)) n k).set k (k : Int)) (m - sumTo (spQ m (spT ws) ws) k - (spQ m (spT ws) ws).getD k 0) w W → SpSt z n (upTo (fun i => (spQ m (spT ws) ws).getD i 0) n (k + 1)) (upTo (fun i => (spR m (spT ws) ws).getD i 0) n (k + 1)) (upTo (fun i => (i : Int)) n (k + 1)) (m - sumTo (spQ m (spT ws) ws) (k + 1)) w W := by
                intro W hW
                rw [uP, uR, uO] at hW
                rw [hsm, show ∀ a b c : Int, a - (b + c) = a - b - c by intros; omega]
                exact hW
              have HNEXT := Lib.hid hnext
              have HMD := Lib.hid hMD
              have lP := upTo_len (fun i => (spQ m (spT ws) ws).getD i 0) n k
              have lR := upTo_len (fun i => (spR m (spT ws) ws).getD i 0) n k
              have lO := upTo_len (fun i => (i : Int)) n k
              clear hq hr hsm hMD uP uR uO hnext hcell HA HST HRD
              generalize upTo (fun i => (spQ m (spT ws) ws).getD i 0) n k = P at *
              generalize upTo (fun i => (spR m (spT ws) ws).getD i 0) n k = R at *
              generalize upTo (fun i => (i : Int)) n k = O at *
              generalize sumTo (spQ m (spT ws) ws) k = S at *
              generalize (spQ m (spT ws) ws).getD k 0 = q at *
              generalize (spR m (spT ws) ws).getD k 0 = r at *
              generalize ws.getD k 0 = x at *
              have hkn : (k : Int) < (n : Int) := by omega
              have HS := Lib.hid hs
              clear hs
              go_wp2_with fail
              refine (HMD.out _).mono ?_
              rintro e w1 ⟨rfl, nd, rfl⟩
              have hs := HS.out.drewN nd
              generalize wr.drewN nd = w1 at *
              go_upto_region 25 with (fail)
              have b1 := hs.cP
              have b2 := hs.cR
              have b3 := hs.cO
              have b4 := hs.cL
              have b5 := hs.fL
              have b6 := hs.oP.cell k (by omega)
              have b7 := hs.oR.cell k (by omega)
              have b8 := hs.oO.cell k (by omega)
              have b9 := hs.oP.frozen k
              have b10 := hs.oR.frozen k
              have b11 := hs.oO.frozen k
              have HS1 := Lib.hid hs
              clear hs HS
              go_region
              have hs2 := (((HS1.out.setP HZ.out k q).setR HZ.out k r).setO HZ.out k k).drew
              generalize World.drew _ = w2 at hs2 ⊢
              have d4 := hs2.cL
              have d5 := hs2.fL
              have HS2 := Lib.hid hs2
              clear hs2 b1 b2 b3 b4 b5 b6 b7 b8 b9 b10 b11 HS1
              go_wp2_with fail
              go_roundw
              case rel => exact ⟨k + 1, by omega, by go_num, HNEXT.out _ (HS2.out.setL HZ.out _)⟩
              case measure => simp [intOf]; omega
            · obtain rfl : n = k := by omega
              have hlen : ws.length = n := HN.out.symm
              have uP := upTo_all (spQ m (spT ws) ws)
              have uR := upTo_all (spR m (spT ws) ws)
              rw [spQ_len, hlen] at uP
              rw [spR_len, hlen] at uR
              rw [uP, uR, upTo_up n] at hs
              have lb := left_bd (m := m) (ws := ws) hT0 (by omega)
              have hle : m - sumTo (spQ m (spT ws) ws) n = spLeft m ws := by unfold spLeft; rw [hlen]
              rw [hle] at hs
              have hfin : ∀ w', SpSt z n (spA (spQ m (spT ws) ws) (spR m (spT ws) ws) (spLeft m ws).toNat) (spR m (spT ws) ws) (ordI (spR m (spT ws) ws) (n - 1)) 0 w w' → SpPost m ws w (.returned (.tuple #[.slice (some ⟨z, 0, none⟩) n n, .int .i64 0])) w' := by
                intro w' h
                unfold SpPost
                rw [HE.out]
                refine ⟨_, rfl, ?_, h.fr⟩
                rw [HZ.out]
                unfold spL
                rw [if_pos HE.out]
                exact h.oP
              have lQ : (spQ m (spT ws) ws).length = (n - 1) + 1 := by rw [spQ_len, hlen]; omega
              have lR : (spR m (spT ws) ws).length = (n - 1) + 1 := by rw [spR_len, hlen]; omega
              have hpb : ∀ i k, i < n → 0 ≤ (spA (spQ m (spT ws) ws) (spR m (spT ws) ws) k).getD i 0 ∧ (spA (spQ m (spT ws) ws) (spR m (spT ws) ws) k).getD i 0 ≤ 2000000000000 := by
                intro i k hi
                rw [spA_at (by omega), spQ_at (by omega)]
                obtain ⟨x1, x2⟩ := sp_w HA.out (k := i) (by omega)
                have p1 : 0 ≤ m * ws.getD i 0 / spT ws := Int.ediv_nonneg (Int.mul_nonneg m1 x1) (by omega)
                have p2 : m * ws.getD i 0 / spT ws ≤ m := by
                  have : m * ws.getD i 0 ≤ m * spT ws := Int.mul_le_mul_of_nonneg_left x2 m1
                  have h2 : m * ws.getD i 0 / spT ws ≤ m * spT ws / spT ws := Int.ediv_le_ediv hT0 this
                  rw [Int.mul_ediv_cancel _ (by omega)] at h2
                  exact h2
                split <;> omega
              rw [← spA_zero (spQ m (spT ws) ws) (spR m (spT ws) ws)] at hs
              clear HRD HST uP uR hle HA
              generalize spQ m (spT ws) ws = Q at *
              generalize spR m (spT ws) ws = R at *
              generalize spLeft m ws = L at *
              obtain ⟨lb1, lb2, _⟩ := lb
              rw [hlen] at lb2
              have HFIN := Lib.hid hfin
              have HPB := Lib.hid hpb
              have HLQ := Lib.hid lQ
              have HLR := Lib.hid lR
              have HS := Lib.hid hs
              have b3 := hs.cO
              clear hfin hpb lQ lR hs hlen HE HN
              obtain ⟨wo, rfl⟩ : ∃ wo : World, wo = wr := ⟨_, rfl⟩
              go_wp2_with fail
              refine (sort_any' (z + 3) (z + 5) (z + 2) (z + 4) n z R wo hl n0 (by have := HLR.out; omega) (by omega) (by omega) (by omega) HS.out.cR b3 HS.out.oR HS.out.oO).mono ?_
              rintro e w2 ⟨rfl, ho2, hf2⟩
              have hs2 := HS.out.sorted HZ.out ho2 hf2
              have c3 := hs2.cO
              have HS2 := Lib.hid hs2
              clear b3 HS hs2 ho2 hf2
              go_wp2_with fail
              go_loopw [98] (fun i wr => ∃ k : Nat, (k : Int) ≤ L ∧ i = .int .i64 k ∧ SpSt z n (spA Q R k) R (ordI R (n - 1)) (L - k) w wr) (fun i _ => n - (intOf i).toNat)
              case atStart => exact ⟨0, by omega, rfl, by have := HS2.out; simpa using this⟩
              case round =>
                obtain ⟨k, hk, rfl, hs⟩ := hrel
                have hkn : k < n := by omega
                have hkn2 : (k : Int) < (n : Int) := by omega
                have b3 := hs.cL
                have b4 := hs.oO.cell k (by rw [ordI_len]; omega)
                rw [ordI_at _ _ _ (by omega)] at b4
                have hlt := ordL_lt (keyL R) (n - 1) k (by omega)
                have hgo : spA Q R (k + 1) = (spA Q R k).set (ordK R (n - 1) k) ((spA Q R k).getD (ordK R (n - 1) k) 0 + 1) := spA_succ (HLQ.out) (by omega)
                have hoo : (ordL (keyL R) (n - 1)).getD k 0 = ordK R (n - 1) k := rfl
                rw [hoo] at hlt
                have hpk := HPB.out (ordK R (n - 1) k) k (by omega)
                have hkl : L = k → (L.toNat = k) := by intro e; omega
                generalize ordK R (n - 1) k = i at *
                have hG := fun (h1 : 1 ≤ L - k) => give_any z n i (spA Q R k) R (ordI R (n - 1)) (L - k) w wr HZ.out hs (by rw [spA_len]; have := HLQ.out; omega) (by omega) hpk.1 hpk.2 h1 (by omega) (by omega)
                have hP := hs.cP
                rw [← hgo] at hG
                by_cases hL : L = k
                · have ed : L - k = 0 := by omega
                  rw [ed] at b3 hs
                  have hr := HFIN.out wr
                  rw [hkl hL] at hr
                  have HR := Lib.hid (hr hs)
                  clear hG hgo hoo hpk hkl hs hr ed hL hlt
                  go_wp2_with fail
                  go_ret2
                  exact HR.out
                · have ed : ((L - k) == 0) = false := by simp; omega
                  have h1 : 1 ≤ L - k := by omega
                  have hG2 := hG h1
                  have HG := Lib.hid hG2
                  clear hG hgo hoo hpk hkl hs hL hlt hG2
                  go_wp2_with fail
                  refine HG.out.mono ?_
                  rintro e w3 ⟨rfl, hs3⟩
                  have HS3 := Lib.hid hs3
                  clear hs3
                  go_wp2_with fail
                  go_roundw
                  case rel => exact ⟨k + 1, by omega, by go_num, by have := HS3.out; rw [show L - ((k + 1 : Nat) : Int) = L - k - 1 by omega]; exact this⟩
                  case measure => simp [intOf]; omega
  · have hm : inR m 0 1000000000000 = false := by simpa using hm
    have HP := Lib.hid (sp_err (w := w) (w' := w) (spE_m (ws := ws) hm) (by omega) (Fr.refl _ _))
    rw [hm] at hV
    have HV := Lib.hid hV
    clear hr hV hm
    go_enter Try.func25, Try.ntmps25
    go_wp2_with fail
    refine (HV.out _).mono ?_
    rintro e w1 ⟨rfl, rfl⟩
    go_wp2_with fail
    go_ret2
    exact HP.out
end Go.Proofs.Ytijdlggoaianbaa
