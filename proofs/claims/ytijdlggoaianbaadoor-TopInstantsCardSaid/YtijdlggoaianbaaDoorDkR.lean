/-
  TopInstants: all tickets from any one on, each once. Plain lemmas.
-/
import Derived.Test.YtijdlggoaianbaaDoorDkT
set_option linter.unusedVariables false
namespace Go.Proofs.YtijdlggoaianbaaDoor
theorem sumN_shift (g : Nat → Int) : ∀ n, sumN (fun i => g (i + 1)) n = sumN g n + g n - g 0
  | 0 => by simp [sumN]
  | n + 1 => by rw [sumN, sumN_shift g n, sumN]; omega
def rotF (f : Nat → Int) (N a : Nat) (i : Nat) : Int := f ((i + a) % N)
theorem sum_rot (f : Nat → Int) (N : Nat) (hN : 0 < N) : ∀ a, sumN (rotF f N a) N = sumN f N
  | 0 => sumN_congr N (fun i hi => by unfold rotF; rw [Nat.add_zero, Nat.mod_eq_of_lt hi])
  | a + 1 => by
    have e : rotF f N (a + 1) = fun i => rotF f N a (i + 1) := by
      funext i
      unfold rotF
      congr 2
      omega
    have e2 : rotF f N a N = rotF f N a 0 := by
      unfold rotF
      rw [Nat.zero_add, Nat.add_comm, Nat.add_mod_right]
    rw [e, sumN_shift, e2, sum_rot f N hN a]
    omega
theorem rot_ne {N a i k : Nat} (hk : k < N) (hi : i < k) : (i + a) % N ≠ (k + a) % N := fun e => by
  have h := Nat.sub_mod_eq_zero_of_mod_eq e.symm
  have h2 : k + a - (i + a) = k - i := by omega
  rw [h2, Nat.mod_eq_of_lt (by omega)] at h
  omega
/-- which tickets are scratched when k are through, from a on -/
def scB (N a k j : Nat) : Bool := decide (∃ i, i < k ∧ (i + a) % N = j)
theorem scB_zero (N a j : Nat) : scB N a 0 j = false := by simp [scB]
theorem scB_new {N a k : Nat} (hk : k < N) : scB N a k ((k + a) % N) = false := by
  simp only [scB, decide_eq_false_iff_not]
  rintro ⟨i, hi, e⟩
  exact rot_ne hk hi e
theorem scB_step (N a k j : Nat) : scB N a (k + 1) j = if j = (k + a) % N then true else scB N a k j := by
  split
  · rename_i h
    simp only [scB, decide_eq_true_eq]
    exact ⟨k, by omega, h.symm⟩
  · rename_i h
    simp only [scB]
    congr 1
    apply propext
    constructor
    · rintro ⟨i, hi, e⟩
      refine ⟨i, ?_, e⟩
      rcases Nat.lt_or_ge i k with h1 | h1
      · exact h1
      · obtain rfl : i = k := by omega
        exact absurd e.symm h
    · rintro ⟨i, hi, e⟩
      exact ⟨i, by omega, e⟩
theorem posF_rot (f : Nat → Int) (N a : Nat) : posF (rotF f N a) = rotF (posF f) N a := rfl
theorem rot_surj {N : Nat} (a t : Nat) (ht : t < N) : ∃ i, i < N ∧ (i + a) % N = t := by
  have hN : 0 < N := by omega
  refine ⟨(t + (N - a % N)) % N, Nat.mod_lt _ hN, ?_⟩
  rw [Nat.mod_add_mod]
  have h1 := Nat.div_add_mod a N
  have h2 := Nat.mod_lt a hN
  have e : t + (N - a % N) + a = t + N * (a / N + 1) := by rw [Nat.mul_add]; omega
  rw [e, Nat.add_mul_mod_self_left, Nat.mod_eq_of_lt ht]
theorem sumN_bd (f : Nat → Int) (b : Int) : ∀ n, (∀ i, i < n → 0 ≤ f i ∧ f i ≤ b) → 0 ≤ sumN f n ∧ sumN f n ≤ b * n
  | 0, _ => by simp [sumN]
  | n + 1, h => by
    have ih := sumN_bd f b n (fun i hi => h i (by omega))
    have h1 := h n (by omega)
    have e : b * ((n + 1 : Nat) : Int) = b * (n : Int) + b := by rw [Int.natCast_add, Int.mul_add]; simp
    unfold sumN
    omega
theorem sum_step (f : Nat → Int) (N a k : Nat) : sumN (rotF f N a) (k + 1) = sumN (rotF f N a) k + f ((k + a) % N) := rfl
def stA (v : Int) (k i : Nat) : Int := if i < k then v else 0
theorem stA_zero (v : Int) : stA v 0 = fun _ => 0 := by funext i; simp [stA]
theorem stA_step (v : Int) (k : Nat) : upd (stA v k) k v = stA v (k + 1) := by
  funext i
  unfold upd stA
  by_cases h : i = k
  · subst h; simp
  · rw [if_neg h]
    by_cases h2 : i < k
    · rw [if_pos h2, if_pos (by omega)]
    · rw [if_neg h2, if_neg (by omega)]
theorem stA_lt {v : Int} {k i : Nat} (h : i < k) : stA v k i = v := by unfold stA; rw [if_pos h]
theorem stA_ge {v : Int} {k i : Nat} (h : k ≤ i) : stA v k i = 0 := by unfold stA; rw [if_neg (by omega)]
end Go.Proofs.YtijdlggoaianbaaDoor
