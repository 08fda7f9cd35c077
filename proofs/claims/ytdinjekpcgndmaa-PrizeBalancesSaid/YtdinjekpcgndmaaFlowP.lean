/-
  LAYER 37: what Flow leaves; plain steps of its rounds.
-/
import Derived.Test.YtdinjekpcgndmaaRollC
import Derived.Test.YtdinjekpcgndmaaNewRolls
import Derived.Test.YtdinjekpcgndmaaIdxF
import Derived.Test.YtdinjekpcgndmaaCap
import Derived.Deep.DeepCutAuto
import Derived.StillTailTactics
set_option linter.unusedVariables false
namespace Go.Proofs.Ytdinjekpcgndmaa
open Go.RowKit
def FlPost (g : Gm) (ts cs : List Int) (rolls : Int) (w : World) (e : Ending) (w' : World) : Prop := ∃ p c, e = .returned (.tuple #[p, c, .int .i64 (flN g ts cs rolls), .int .i64 (flE g ts cs rolls)]) ∧
  OwnI w' w.heap.size 3 p (flP g ts cs rolls) ∧ OwnI w' w.heap.size 3 c (flC g ts cs rolls) ∧ Fr [] w w'
theorem fl_bad {g : Gm} {ts cs : List Int} {rolls E : Int} {w w' : World} (hE : flE g ts cs rolls = E) (h : E ≠ 0) (hf : Fr [] w w') : FlPost g ts cs rolls w (.returned (.tuple #[.slice none 0 0, .slice none 0 0, .int .i64 0, .int .i64 E])) w' := by
  subst hE
  have h1 : flP g ts cs rolls = [] := by unfold flP; rw [if_neg h]
  have h2 : flC g ts cs rolls = [] := by unfold flC; rw [if_neg h]
  have h3 : flN g ts cs rolls = 0 := by unfold flN; rw [if_neg h]
  refine ⟨_, _, by rw [h3], ?_, ?_, hf⟩
  · rw [h1]; exact OwnI.nil _ _ _
  · rw [h2]; exact OwnI.nil _ _ _
theorem fl_good {g : Gm} {ts cs : List Int} {rolls : Int} {w w' : World} {p c : Value} {N : Int} {L M : List Int} (hE : flE g ts cs rolls = 0) (hS : flS g ts cs rolls = (L, M)) (hN : rolE g.tiers cs (mustB g rolls) rolls = N)
    (hp : OwnI w' w.heap.size 3 p L) (hc : OwnI w' w.heap.size 3 c M) (hf : Fr [] w w') : FlPost g ts cs rolls w (.returned (.tuple #[p, c, .int .i64 N, .int .i64 0])) w' := by
  have h1 : flP g ts cs rolls = L := by unfold flP; rw [if_pos hE, hS]
  have h2 : flC g ts cs rolls = M := by unfold flC; rw [if_pos hE, hS]
  have h3 : flN g ts cs rolls = N := by unfold flN; rw [if_pos hE, hN]
  exact ⟨p, c, by rw [h3, hE], by rw [h1]; exact hp, by rw [h2]; exact hc, hf⟩
theorem flTo_pool {T : List Ti} {cs ts P C : List Int} {must : Bool} {n k j : Nat} (h : flTo T cs ts must n k = (P, C)) (ha : flAt T cs must k = (true, j)) : flTo T cs ts must n (k + 1) = (P.set j (P.getD j 0 + ts.getD k 0), C) := by
  simp only [flTo, h, ha, if_true]
theorem flTo_carry {T : List Ti} {cs ts P C : List Int} {must : Bool} {n k j : Nat} (h : flTo T cs ts must n k = (P, C)) (ha : flAt T cs must k = (false, j)) : flTo T cs ts must n (k + 1) = (P, C.set j (C.getD j 0 + ts.getD k 0)) := by
  simp only [flTo, h, ha, Bool.false_eq_true, if_false]
theorem flAt_own {T : List Ti} {cs : List Int} {must : Bool} {k : Nat} (h : kd T k = 1 ∨ cs.getD k 0 ≠ 0) : flAt T cs must k = (true, k) := by unfold flAt; rw [if_pos h]
theorem flAt_lat {T : List Ti} {cs : List Int} {must : Bool} {k j : Nat} (h1 : kd T k ≠ 1) (h2 : cs.getD k 0 = 0) (hl : latE T cs k = j) (h : kd T k = 2 ∨ must = true) : flAt T cs must k = (true, j) := by
  unfold flAt; rw [if_neg (by omega), if_pos ⟨by omega, h⟩, hl, Int.toNat_natCast]
theorem flAt_fst {T : List Ti} {cs : List Int} {must : Bool} {k j : Nat} (h2 : cs.getD k 0 = 0) (hl : latE T cs k = -1) (h : kd T k = 2) (hf : fstE T = j) : flAt T cs must k = (false, j) := by
  unfold flAt; rw [if_neg (by omega), if_neg (by omega), if_pos ⟨h, by omega⟩, hf, Int.toNat_natCast]
theorem flAt_stay {T : List Ti} {cs : List Int} {must : Bool} {k : Nat} (h1 : kd T k ≠ 1) (h2 : cs.getD k 0 = 0) (hl : ¬ (0 ≤ latE T cs k ∧ (kd T k = 2 ∨ must = true))) (h : ¬ (kd T k = 2 ∧ 0 ≤ fstE T)) : flAt T cs must k = (false, k) := by
  unfold flAt; rw [if_neg (by omega), if_neg hl, if_neg h]
theorem negB_yes {cs : List Int} (k : Nat) (hk : k < cs.length) (h : cs.getD k 0 < 0) : negB cs = true := by
  unfold negB; rw [List.any_eq_true]
  exact ⟨cs[k], List.getElem_mem hk, by have e : cs.getD k 0 = cs[k] := by simp [List.getD, hk]
                                        rw [e] at h; simpa using h⟩
theorem negB_no {cs : List Int} (h : ∀ k, k < cs.length → ¬ cs.getD k 0 < 0) : negB cs = false := by
  cases hb : negB cs
  · rfl
  · unfold negB at hb
    rw [List.any_eq_true] at hb
    obtain ⟨x, hx, hd⟩ := hb
    obtain ⟨k, hk, rfl⟩ := List.getElem_of_mem hx
    have := h k hk
    rw [show cs.getD k 0 = cs[k] by simp [List.getD, hk]] at this
    simp at hd; omega
theorem made_own {w : World} {n g0 : Nat} {o : Obj} {e : TypeId} (hz : w.heap.size = g0) (hn : n ≤ maxLen) (ho : o = .cells (madeCells #[Value.int .i64 0] n) e) : OwnI (w.alloc o) g0 e (.slice (some ⟨g0, 0, none⟩) n n) (List.replicate n 0) := by
  subst hz; subst ho; exact OwnI.made w n e hn
theorem two_made {w : World} {n : Nat} {e : TypeId} (hn : n ≤ maxLen) : ∀ W, W = ((w.alloc (.cells (madeCells #[Value.int .i64 0] n) e)).alloc (.cells (madeCells #[Value.int .i64 0] n) e)).drew →
    W.heap.size = w.heap.size + 2 ∧ OwnI W w.heap.size e (.slice (some ⟨w.heap.size, 0, none⟩) n n) (List.replicate n 0) ∧ OwnI W w.heap.size e (.slice (some ⟨w.heap.size + 1, 0, none⟩) n n) (List.replicate n 0) ∧ Fr [] w W := by
  intro W hW
  subst hW
  have h1 := made_own (w := w) (o := .cells (madeCells #[Value.int .i64 0] n) e) rfl hn rfl
  have h2 := made_own (w := w.alloc (.cells (madeCells #[Value.int .i64 0] n) e)) (o := .cells (madeCells #[Value.int .i64 0] n) e) (g0 := w.heap.size + 1) (by simp) hn rfl
  refine ⟨by simp [World.drew], ?_, ?_, (((Fr.refl [] w).alloc _).alloc _).drew⟩
  · exact h1.fr (((Fr.refl [] _).alloc _).drew) (by simp)
  · exact (h2.fr ((Fr.refl [] _).drew) (by simp)).mono (by omega)
theorem Fr.back2 {w a b : World} {g1 g2 : Nat} (h : Fr [] w a) (k : Fr [g1, g2] a b) (h1 : w.heap.size ≤ g1) (h2 : w.heap.size ≤ g2) : Fr [] w b := h.trans' k (by
  intro i hi
  simp at hi
  rcases hi with rfl | rfl
  · exact .inr h1
  · exact .inr h2)
end Go.Proofs.Ytdinjekpcgndmaa
