/-
  NEW ROWS: slices that were just made, kept by frames in which their block is not named; regions that draw their order under a stronger condition. Plain lemmas over any program.
-/
import Derived.Test.YtijdlggoaianbaaGameW
import Derived.Deep.RegionHeld3
import Derived.Deep.DrawnRows
set_option linter.unusedVariables false
namespace Go.Proofs.Ytijdlggoaianbaa
open Go.RowKit
theorem wpAnyH_str {P : Program} {md : Region.Mode} {ops : Array Oper} {Q : Exit → Act → World → Prop} {S S' : World → Prop} (hs : ∀ w, S' w → S w) : ∀ (fuel : Nat) (listed : Array Bool) (a : Act) (w : World), wpAnyH P md ops Q S' fuel listed a w → wpAnyH P md ops Q S fuel listed a w
  | 0, _, _, _, h => h
  | f + 1, _, _, _, h => ⟨h.1, fun i hi => wpOp_mono (fun a' w' h' => ⟨hs _ h'.1, wpAnyH_str hs f _ a' w' h'.2⟩) (h.2 i hi)⟩
theorem RdI.frk {bs : List Nat} {w w' : World} {g o n c : Nat} {l : List Int} (h : RdI w (.slice (some ⟨g, o, none⟩) n c) l) (hf : Fr bs w w') (hn : g ∉ bs) : RdI w' (.slice (some ⟨g, o, none⟩) n c) l :=
  h.keep fun g' o' x hv j hc => by
    simp only [Value.slice.injEq, Option.some.injEq, Addr.mk.injEq, and_true] at hv
    obtain ⟨⟨rfl, rfl⟩, _⟩ := hv
    exact hf.cell (by
      cases hx : w.cell? ⟨g, j, none⟩ with
      | none => exact absurd hx hc
      | some y => exact lt_of_cell hx) hn
theorem rdi_mk {w : World} {n : Nat} (hz : w.heap.size = n) (l : List Int) (T : TypeId) (k : Nat) (hk : l.length = k) (hm : k ≤ 100) : RdI (w.alloc (.cells (l.map (Value.int .i64)).toArray T)) (.slice (some ⟨n, 0, none⟩) k k) l := by
  subst hk
  refine ⟨_, _, rfl, Nat.le_refl _, by unfold maxLen; omega, fun j hj => ⟨n, 0, rfl, ?_⟩⟩
  rw [Nat.zero_add]
  exact new_cell hz (by simp [List.getD, hj])
theorem owni_mk {w : World} {n : Nat} (hz : w.heap.size = n) (l : List Int) (T : TypeId) (k : Nat) (hk : l.length = k) (hm : k ≤ 100) : OwnI (w.alloc (.cells (l.map (Value.int .i64)).toArray T)) n T (.slice (some ⟨n, 0, none⟩) k k) l := by
  subst hz
  subst hk
  exact ⟨by simp, .inr ⟨w.heap.size, l.length, _, rfl, Nat.le_refl _, by show (w.heap.push _)[w.heap.size]? = _; simp; rfl, Nat.le_refl _, by unfold maxLen; omega, by simp, by simp [List.take_of_length_le]⟩⟩
theorem rdi_at {w : World} {g n c : Nat} {l : List Int} (h : RdI w (.slice (some ⟨g, 0, none⟩) n c) l) (j : Nat) (hj : j < l.length) : w.cell? ⟨g, j, none⟩ = some (.int .i64 (l.getD j 0)) := by
  obtain ⟨a, cap, hv, _, _, h3⟩ := h
  obtain ⟨g', o', ha, hc⟩ := h3 j hj
  simp only [Value.slice.injEq] at hv
  rw [ha] at hv
  simp only [Option.some.injEq, Addr.mk.injEq, and_true] at hv
  obtain ⟨⟨rfl, rfl⟩, _⟩ := hv
  rw [Nat.zero_add] at hc
  exact hc
def isStr : Value → Bool
  | .string _ => true
  | _ => false
theorem strs_cell {w : World} {n : Nat} (hz : w.heap.size = n) {C : Array Value} {T : TypeId} (h : C.all isStr = true) (i : Nat) (hi : i < C.size) : ∃ S, (w.alloc (.cells C T)).cell? ⟨n, i, none⟩ = some (.string S) := by
  have h1 : isStr C[i] = true := by rw [Array.all_eq_true] at h; exact h i hi
  cases hv : C[i] with
  | string S => exact ⟨S, new_cell hz (by simp [hi, hv])⟩
  | _ => rw [hv] at h1; simp [isStr] at h1
end Go.Proofs.Ytijdlggoaianbaa
