/-
  TopInstants: the tickets, as they lie in memory; their codes; sums and counts of prizes. Plain lemmas.
-/
import Derived.Test.YtijdlggoaianbaaDoorHex
import Derived.Test.YtijdlggoaianbaaDoorMixI
import Derived.Test.YtijdlggoaianbaaDoorDkP
set_option linter.unusedVariables false
namespace Go.Proofs.YtijdlggoaianbaaDoor
open Go.RowKit
def cdN (sd : Int) (i : Nat) : Nat := (mixZ (IntKind.u64.wrap (sd + i))).toNat
def cdS (sd : Int) (i : Nat) : ByteArray := hexS (cdN sd i)
theorem cdN_lt (sd : Int) (i : Nat) : cdN sd i < 18446744073709551616 := by
  have := mixZ_bd (IntKind.u64.wrap (sd + i))
  unfold cdN
  omega
theorem cdN_eq (sd : Int) (i : Nat) : ((cdN sd i : Nat) : Int) = mixZ (IntKind.u64.wrap (sd + i)) := by
  have := mixZ_bd (IntKind.u64.wrap (sd + i))
  unfold cdN
  omega
theorem wrap_step {sd : Int} {i j : Nat} (hi : i < 1000) (hj : j < 1000) (h : IntKind.u64.wrap (sd + i) = IntKind.u64.wrap (sd + j)) : i = j := by
  unfold IntKind.wrap at h
  simp [IntKind.signed, IntKind.bits] at h
  omega
theorem cdS_inj {sd : Int} {i j : Nat} (hi : i < 1000) (hj : j < 1000) (h : cdS sd i = cdS sd j) : i = j := by
  have h1 := hexS_inj (cdN_lt sd i) (cdN_lt sd j) h
  have h2 : mixZ (IntKind.u64.wrap (sd + i)) = mixZ (IntKind.u64.wrap (sd + j)) := by rw [← cdN_eq, ← cdN_eq, h1]
  exact wrap_step hi hj (mixZ_inj (wrap_u64_bd _) (wrap_u64_bd _) h2)
def upd (f : Nat → Int) (j : Nat) (x : Int) (i : Nat) : Int := if i = j then x else f i
def sumN (f : Nat → Int) : Nat → Int
  | 0 => 0
  | n + 1 => sumN f n + f n
theorem sumN_congr {f g : Nat → Int} : ∀ n, (∀ i, i < n → f i = g i) → sumN f n = sumN g n
  | 0, _ => rfl
  | n + 1, h => by rw [sumN, sumN, sumN_congr n (fun i hi => h i (by omega)), h n (by omega)]
theorem sumN_upd (f : Nat → Int) (j : Nat) (x : Int) : ∀ n, j < n → sumN (upd f j x) n = sumN f n - f j + x
  | 0, h => by omega
  | n + 1, h => by
    by_cases e : j = n
    · subst e
      have := sumN_congr (f := upd f j x) (g := f) j (fun i hi => by unfold upd; rw [if_neg (by omega)])
      rw [sumN, sumN, this]
      simp only [upd, if_true]
      omega
    · have := sumN_upd f j x n (by omega)
      rw [sumN, sumN, this]
      have : upd f j x n = f n := by unfold upd; rw [if_neg (by omega)]
      omega
def posF (f : Nat → Int) (i : Nat) : Int := if 0 < f i then 1 else 0
theorem posF_upd (f : Nat → Int) (j : Nat) (x : Int) (hx : 0 < x) : posF (upd f j x) = upd (posF f) j 1 := by
  funext i
  unfold posF upd
  by_cases h : i = j
  · simp [h, hx]
  · simp [h]
structure PrF (N : Nat) (pr : Nat → Int) (S C : Int) : Prop where
  bd : ∀ i, i < N → 0 ≤ pr i ∧ pr i ≤ 500
  sum : sumN pr N = S
  cnt : sumN (posF pr) N = C
theorem PrF.give {N : Nat} {pr : Nat → Int} {S C : Int} (h : PrF N pr S C) (j : Nat) (x : Int) (hj : j < N) (h0 : pr j = 0) (h1 : 1 ≤ x) (h2 : x ≤ 500) : PrF N (upd pr j x) (S + x) (C + 1) where
  bd i hi := by
    unfold upd
    split
    · omega
    · exact h.bd i hi
  sum := by rw [sumN_upd _ _ _ _ hj, h.sum, h0]; omega
  cnt := by
    rw [posF_upd _ _ _ (by omega), sumN_upd _ _ _ _ hj, h.cnt]
    have : posF pr j = 0 := by unfold posF; rw [h0]; rfl
    omega
theorem sumN_zero : ∀ n, sumN (fun _ => 0) n = 0
  | 0 => rfl
  | n + 1 => by rw [sumN, sumN_zero n]; rfl
theorem PrF.zero (N : Nat) : PrF N (fun _ => 0) 0 0 := ⟨fun _ _ => by omega, sumN_zero N, sumN_zero N⟩
/-- N tickets in block g -/
structure TkAt (w : World) (g N Z : Nat) (C : Nat → ByteArray) (pr : Nat → Int) : Prop where
  lt : g < w.heap.size
  fz : ∀ j, w.frozen? ⟨g, j, none⟩ = false
  c0 : ∀ i, i < N → w.cell? ⟨g, i * 4, none⟩ = some (.int .i64 ((i : Int) / (Z : Int) + 1))
  c1 : ∀ i, i < N → w.cell? ⟨g, i * 4 + 1, none⟩ = some (.int .i64 ((i : Int) % (Z : Int) + 1))
  c2 : ∀ i, i < N → w.cell? ⟨g, i * 4 + 2, none⟩ = some (.int .i64 (pr i))
  c3 : ∀ i, i < N → w.cell? ⟨g, i * 4 + 3, none⟩ = some (.string (C i))
theorem TkAt.fr {bs : List Nat} {w w' : World} {g N Z : Nat} {C : Nat → ByteArray} {pr : Nat → Int} (h : TkAt w g N Z C pr) (hf : Fr bs w w') (hn : g ∉ bs) : TkAt w' g N Z C pr :=
  ⟨Nat.lt_of_lt_of_le h.lt hf.size, fun j => (hf.frozen (p := ⟨g, j, none⟩) h.lt hn).trans (h.fz j), fun i hi => hf.cell_some (h.c0 i hi) hn, fun i hi => hf.cell_some (h.c1 i hi) hn, fun i hi => hf.cell_some (h.c2 i hi) hn, fun i hi => hf.cell_some (h.c3 i hi) hn⟩
theorem set_other (w : World) (g a b : Nat) (v : Value) (h : a ≠ b) : (w.setCell ⟨g, a, none⟩ v).cell? ⟨g, b, none⟩ = w.cell? ⟨g, b, none⟩ := World.cell?_setCell_other w _ _ _ (fun e => h (by injection e))
theorem set_same (w : World) (g a : Nat) (u v : Value) (h : w.cell? ⟨g, a, none⟩ = some u) : (w.setCell ⟨g, a, none⟩ v).cell? ⟨g, a, none⟩ = some v := World.cell?_setCell_same w _ _ h
theorem frozen_set (w : World) (p a : Addr) (v : Value) : (w.setCell p v).frozen? a = w.frozen? a := by simp
theorem TkAt.set {w : World} {g N Z : Nat} {C : Nat → ByteArray} {pr : Nat → Int} (h : TkAt w g N Z C pr) (j : Nat) (hj : j < N) (x : Int) : TkAt (w.setCell ⟨g, j * 4 + 2, none⟩ (.int .i64 x)) g N Z C (upd pr j x) where
  lt := by simpa using h.lt
  fz k := by rw [frozen_set]; exact h.fz k
  c0 i hi := by rw [set_other w g _ _ _ (by omega)]; exact h.c0 i hi
  c1 i hi := by rw [set_other w g _ _ _ (by omega)]; exact h.c1 i hi
  c2 i hi := by
    unfold upd
    by_cases e : i = j
    · subst e
      rw [if_pos rfl, set_same w g _ _ _ (h.c2 i hi)]
    · rw [if_neg e, set_other w g _ _ _ (by omega)]; exact h.c2 i hi
  c3 i hi := by rw [set_other w g _ _ _ (by omega)]; exact h.c3 i hi
/-- what the guarantee has given when k packs are through -/
structure GuF (P Z k : Nat) (pr : Nat → Int) : Prop where
  f : PrF (P * Z) pr (500 * k) k
  z : ∀ i, k * Z ≤ i → i < P * Z → pr i = 0
theorem GuF.zero (P Z : Nat) : GuF P Z 0 (fun _ => 0) := ⟨by simpa using PrF.zero (P * Z), fun _ _ _ => rfl⟩
theorem GuF.step {P Z k : Nat} {pr : Nat → Int} (h : GuF P Z k pr) (hk : k < P) (o : Int) (h1 : 1 ≤ o) (h2 : o ≤ (Z : Int)) :
    ∃ j : Nat, (k : Int) * (Z : Int) + o - 1 = (j : Int) ∧ j < P * Z ∧ GuF P Z (k + 1) (upd pr j 500) := by
  have hle : (k + 1) * Z ≤ P * Z := Nat.mul_le_mul_right Z hk
  rw [Nat.add_mul] at hle
  refine ⟨k * Z + (o - 1).toNat, ?_, by omega, ?_, ?_⟩
  · rw [Int.natCast_add, Int.natCast_mul]; omega
  · have := h.f.give (k * Z + (o - 1).toNat) 500 (by omega) (h.z _ (by omega) (by omega)) (by omega) (by omega)
    have e : (500 * ((k + 1 : Nat) : Int)) = 500 * (k : Int) + 500 := by omega
    rw [e]
    exact this
  · intro i hi hp
    rw [Nat.add_mul] at hi
    unfold upd
    rw [if_neg (by omega)]
    exact h.z i (by omega) hp
end Go.Proofs.YtijdlggoaianbaaDoor
