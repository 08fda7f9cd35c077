/-
  A stream's Below finds a number within its tries, for small numbers; a shuffle of few numbers gives no error. Plain lemmas.
-/
import Derived.Test.YtijdlggoaianbaaDoorMixI
import Derived.Test.YtijdlggoaianbaaDoorShuffle
set_option linter.unusedVariables false
namespace Go.Proofs.YtijdlggoaianbaaDoor
open Go.RowKit
theorem pigeon : ∀ (m N : Nat) (f : Nat → Nat), (∀ i, i < N → f i < m) → (∀ i j, i < j → j < N → f i ≠ f j) → N ≤ m := by
  intro m
  induction m with
  | zero =>
    intro N f h _
    by_cases hN : N = 0
    · omega
    · have := h 0 (by omega); omega
  | succ m ih =>
    intro N f h hd
    by_cases hN : N = 0
    · omega
    obtain ⟨N', rfl⟩ : ∃ k, N = k + 1 := ⟨N - 1, by omega⟩
    have := ih N' (fun i => if f i = m then f N' else f i) (fun i hi => by
      have h1 := h i (by omega)
      have h2 := h N' (by omega)
      have h3 := hd i N' hi (by omega)
      show (if f i = m then f N' else f i) < m
      split <;> omega) (fun i j hij hj => by
      have h1 := hd i N' (by omega) (by omega)
      have h2 := hd j N' hj (by omega)
      have h3 := hd i j hij (by omega)
      show (if f i = m then f N' else f i) ≠ (if f j = m then f N' else f j)
      split <;> split <;> omega)
    omega
/-- the state behind k steps -/
def stN (s : Int) : Nat → Int
  | 0 => s
  | k + 1 => nx (stN s k)
theorem stN_eq (s : Int) : ∀ k, stN s (k + 1) = (s + ((k : Int) + 1) * 11400714819323198485) % 18446744073709551616 := by
  intro k
  induction k with
  | zero => show nx s = _; unfold nx; rw [IntKind.wrap_u64]; omega
  | succ k ih =>
    show nx (stN s (k + 1)) = _
    rw [ih]
    unfold nx
    rw [IntKind.wrap_u64]
    push_cast
    omega
theorem inc_fin : ∀ d : Fin 64, d.val ≠ 0 → d.val * 11400714819323198485 % 18446744073709551616 ≠ 0 := by decide +kernel
theorem mod_add_ne {X Y M : Int} (hM : M = 18446744073709551616) (h : X % M = (X + Y) % M) : Y % M = 0 := by
  subst hM; omega
theorem stN_ne (s : Int) {a b : Nat} (h : a < b) (hb : b < 64) : stN s (a + 1) ≠ stN s (b + 1) := by
  obtain ⟨d, rfl⟩ : ∃ d, b = a + d := ⟨b - a, by omega⟩
  have hd : d * 11400714819323198485 % 18446744073709551616 ≠ 0 := inc_fin ⟨d, by omega⟩ (by show d ≠ 0; omega)
  have e : s + (((a + d : Nat) : Int) + 1) * 11400714819323198485 = s + ((a : Int) + 1) * 11400714819323198485 + ((d * 11400714819323198485 : Nat) : Int) := by clear hd; omega
  rw [stN_eq, stN_eq, e]
  clear e
  intro he
  have h0 := mod_add_ne rfl he
  clear he
  apply hd
  clear hd
  generalize d * 11400714819323198485 = Y at *
  omega
theorem stN_shift (s : Int) : ∀ k, stN (nx s) k = stN s (k + 1) := by
  intro k
  induction k with
  | zero => rfl
  | succ k ih => show nx (stN (nx s) k) = nx (stN s (k + 1)); rw [ih]
theorem try_none : ∀ (f : Nat) (n s u : Int), (tryB f n s u).1 = none → ∀ k, k < f → 18446744073709551615 - rej n < mixZ (stN s (k + 1)) := by
  intro f
  induction f with
  | zero => intro n s u _ k hk; omega
  | succ f ih =>
    intro n s u h k hk
    rw [tryB] at h
    split at h
    · simp at h
    · rename_i hc
      cases k with
      | zero => show _ < mixZ (nx s); omega
      | succ k =>
        have := ih n (nx s) (u + 1) h k (by omega)
        rw [stN_shift] at this
        exact this
theorem below_ok {n : Int} (h1 : 1 ≤ n) (h2 : n ≤ 63) (s u : Int) : bE n s u = 0 := by
  unfold bE
  rw [if_pos (by unfold inB; simp; omega)]
  unfold belE
  cases ht : (tryB 64 n s u).1 with
  | some v => rfl
  | none =>
    exfalso
    have hr := rej_eq n h1 (by omega)
    have hrb : 0 ≤ rej n ∧ rej n < n := by rw [hr]; exact ⟨Int.emod_nonneg _ (by omega), Int.emod_lt_of_pos _ (by omega)⟩
    have hv := try_none 64 n s u ht
    have := pigeon 63 64 (fun k => (18446744073709551615 - mixZ (stN s (k + 1))).toNat) (fun i hi => by
      have a := hv i hi
      have b := mixZ_bd (stN s (i + 1))
      show (18446744073709551615 - mixZ (stN s (i + 1))).toNat < 63
      omega) (fun i j hij hj he => by
      have a := mixZ_bd (stN s (i + 1))
      have b := mixZ_bd (stN s (j + 1))
      have he : (18446744073709551615 - mixZ (stN s (i + 1))).toNat = (18446744073709551615 - mixZ (stN s (j + 1))).toNat := he
      have e : mixZ (stN s (i + 1)) = mixZ (stN s (j + 1)) := by omega
      have ri := nx_bd (stN s i)
      have rj := nx_bd (stN s j)
      exact stN_ne s hij hj (mixZ_inj ri rj e))
    omega
theorem shufL_ok (i : Nat) (hi : i ≤ 60) : ∀ l s u, (shufL i l s u).1 = 0 := by
  induction i with
  | zero => intro l s u; rfl
  | succ i ih =>
    intro l s u
    rw [shufL_go i l s u (below_ok (by omega) (by omega) s u)]
    exact ih (by omega) _ _ _
end Go.Proofs.YtijdlggoaianbaaDoor
