/-
  LONG DIVISION, plain: a step of Knuth's division of a number of 128 bits, with its guess that is too great by at most two; bit by bit. Plain lemmas over integers.
-/
import Derived.Test.YtijdlggoaianbaaRows
set_option linter.unusedVariables false
namespace Go.Proofs.Ytijdlggoaianbaa
/-- y = a*B + b; u = h*B + l; Q is the quotient of u by y -/
structure KnQ (a b h l Q : Int) : Prop where
  a1 : 2147483648 ≤ a
  a2 : a < 4294967296
  b1 : 0 ≤ b
  b2 : b < 4294967296
  h1 : 0 ≤ h
  h2 : h < a * 4294967296 + b
  l1 : 0 ≤ l
  l2 : l < 4294967296
  q1 : Q * (a * 4294967296 + b) ≤ h * 4294967296 + l
  q2 : h * 4294967296 + l < (Q + 1) * (a * 4294967296 + b)
structure KnI (a h Q q r : Int) : Prop where
  e : q * a + r = h
  lo : Q ≤ q
  hi : q ≤ 4294967297
  r1 : 0 ≤ r
  r2 : r < 4294967296
theorem kn_q {a b h l : Int} (a1 : 2147483648 ≤ a) (a2 : a < 4294967296) (b1 : 0 ≤ b) (b2 : b < 4294967296) (h1 : 0 ≤ h) (h2 : h < a * 4294967296 + b) (l1 : 0 ≤ l) (l2 : l < 4294967296) :
    KnQ a b h l ((h * 4294967296 + l) / (a * 4294967296 + b)) := by
  have hy : 0 < a * 4294967296 + b := by omega
  refine ⟨a1, a2, b1, b2, h1, h2, l1, l2, Int.ediv_mul_le _ (by omega), ?_⟩
  have := Int.lt_ediv_add_one_mul_self (h * 4294967296 + l) hy
  exact this
theorem KnQ.bd {a b h l Q : Int} (k : KnQ a b h l Q) : 0 ≤ Q ∧ Q < 4294967296 := by
  obtain ⟨a1, a2, b1, b2, h1, h2, l1, l2, q1, q2⟩ := k
  constructor
  · refine Int.not_lt.1 fun hn => ?_
    have : (Q + 1) * (a * 4294967296 + b) ≤ 0 * (a * 4294967296 + b) := Int.mul_le_mul_of_nonneg_right (by omega) (by omega)
    rw [Int.zero_mul] at this
    omega
  · refine Int.not_le.1 fun hn => ?_
    have : 4294967296 * (a * 4294967296 + b) ≤ Q * (a * 4294967296 + b) := Int.mul_le_mul_of_nonneg_right hn (by omega)
    omega
theorem kn_start {a b h l Q : Int} (k : KnQ a b h l Q) : KnI a h Q (h / a) (h - h / a * a) := by
  have hb := k.bd
  obtain ⟨a1, a2, b1, b2, h1, h2, l1, l2, q1, q2⟩ := k
  have e1 := Int.mul_ediv_add_emod h a
  have e2 := Int.emod_nonneg h (show a ≠ 0 by omega)
  have e3 := Int.emod_lt_of_pos h (show 0 < a by omega)
  have e4 : h / a * a = a * (h / a) := Int.mul_comm _ _
  refine ⟨by omega, ?_, ?_, by omega, by omega⟩
  · refine Int.not_lt.1 fun hn => ?_
    have m1 : (h / a + 1) * (a * 4294967296 + b) ≤ Q * (a * 4294967296 + b) := Int.mul_le_mul_of_nonneg_right (by omega) (by omega)
    have m2 : (h / a + 1) * (a * 4294967296 + b) = (h / a * a) * 4294967296 + a * 4294967296 + (h / a + 1) * b := by
      rw [Int.add_mul, Int.mul_add, ← Int.mul_assoc, Int.add_mul _ 1 b, Int.one_mul, Int.one_mul]; omega
    have m3 : 0 ≤ (h / a + 1) * b := Int.mul_nonneg (by have := Int.ediv_nonneg h1 (show 0 ≤ a by omega); omega) b1
    omega
  · refine Int.not_lt.1 fun hn => ?_
    have m1 : 4294967298 * a ≤ h / a * a := Int.mul_le_mul_of_nonneg_right (by omega) (by omega)
    omega
theorem kn_test {a b h l q r : Int} (e : q * a + r = h) : 4294967296 * r + l < q * b ↔ h * 4294967296 + l < q * (a * 4294967296 + b) := by
  have m : q * (a * 4294967296 + b) = (q * a) * 4294967296 + q * b := by rw [Int.mul_add, ← Int.mul_assoc]
  omega
theorem kn_less {a b h l Q q r : Int} (k : KnQ a b h l Q) (i : KnI a h Q q r) (t : 4294967296 ≤ q ∨ 4294967296 * r + l < q * b) : Q ≤ q - 1 := by
  rcases t with t | t
  · have := k.bd; omega
  · rw [kn_test i.e] at t
    refine Int.not_lt.1 fun hn => ?_
    have m1 : q * (a * 4294967296 + b) ≤ Q * (a * 4294967296 + b) := Int.mul_le_mul_of_nonneg_right (by omega) (by have := k.a1; have := k.b1; omega)
    have := k.q1
    omega
theorem kn_step {a b h l Q q r : Int} (k : KnQ a b h l Q) (i : KnI a h Q q r) (t : 4294967296 ≤ q ∨ 4294967296 * r + l < q * b) (n : r + a < 4294967296) : KnI a h Q (q - 1) (r + a) := by
  have := kn_less k i t
  have m : (q - 1) * a = q * a - a := by rw [Int.sub_mul, Int.one_mul]
  have a1 := k.a1
  obtain ⟨e, lo, hi, r1, r2⟩ := i
  exact ⟨by omega, this, by omega, by omega, n⟩
theorem kn_eq {a b h l Q q : Int} (k : KnQ a b h l Q) (lo : Q ≤ q) (le : q * (a * 4294967296 + b) ≤ h * 4294967296 + l) : q = Q := by
  refine Int.le_antisymm (Int.not_lt.1 fun hn => ?_) lo
  have m1 : (Q + 1) * (a * 4294967296 + b) ≤ q * (a * 4294967296 + b) := Int.mul_le_mul_of_nonneg_right (by omega) (by have := k.a1; have := k.b1; omega)
  have := k.q2
  omega
theorem kn_break {a b h l Q q r : Int} (k : KnQ a b h l Q) (i : KnI a h Q q r) (t : 4294967296 ≤ q ∨ 4294967296 * r + l < q * b) (n : 4294967296 ≤ r + a) : q - 1 = Q := by
  have lo := kn_less k i t
  refine kn_eq k lo ?_
  have m : (q - 1) * a = q * a - a := by rw [Int.sub_mul, Int.one_mul]
  have m2 : (q - 1) * (a * 4294967296 + b) = ((q - 1) * a) * 4294967296 + (q - 1) * b := by rw [Int.mul_add, ← Int.mul_assoc]
  have m3 : (q - 1) * b ≤ 4294967296 * b := Int.mul_le_mul_of_nonneg_right (by have := i.hi; omega) k.b1
  obtain ⟨a1, a2, b1, b2, h1, h2, l1, l2, q1, q2⟩ := k
  obtain ⟨e, lo, hi, r1, r2⟩ := i
  omega
theorem kn_done {a b h l Q q r : Int} (k : KnQ a b h l Q) (i : KnI a h Q q r) (t : q * b ≤ 4294967296 * r + l) : q = Q := by
  refine kn_eq k i.lo ?_
  have := (kn_test (b := b) (l := l) i.e)
  omega
/-- what is left, as the words of 64 bits bear it -/
theorem KnQ.rest {a b h l Q : Int} (k : KnQ a b h l Q) : 0 ≤ h * 4294967296 + l - Q * (a * 4294967296 + b) ∧ h * 4294967296 + l - Q * (a * 4294967296 + b) < a * 4294967296 + b := by
  obtain ⟨a1, a2, b1, b2, h1, h2, l1, l2, q1, q2⟩ := k
  have : (Q + 1) * (a * 4294967296 + b) = Q * (a * 4294967296 + b) + (a * 4294967296 + b) := by rw [Int.add_mul, Int.one_mul]
  omega
theorem div_of {p c q r : Int} (e : p = q * c + r) (h0 : 0 ≤ r) (h1 : r < c) : p / c = q ∧ p % c = r := by
  have hc : 0 < c := by omega
  have hm : q * c = c * q := Int.mul_comm _ _
  rw [e, hm]
  constructor
  · rw [Int.mul_add_ediv_left _ _ (by omega), Int.ediv_eq_zero_of_lt h0 h1]; omega
  · rw [Int.add_comm, Int.add_mul_emod_self_left, Int.emod_eq_of_lt h0 h1]
/-- the two steps together -/
theorem kn_both {a b h l1 l0 Q1 Q0 : Int} (k1 : KnQ a b h l1 Q1) (k0 : KnQ a b (h * 4294967296 + l1 - Q1 * (a * 4294967296 + b)) l0 Q0) :
    (h * 18446744073709551616 + l1 * 4294967296 + l0) / (a * 4294967296 + b) = Q1 * 4294967296 + Q0 ∧
    (h * 18446744073709551616 + l1 * 4294967296 + l0) % (a * 4294967296 + b) = (h * 4294967296 + l1 - Q1 * (a * 4294967296 + b)) * 4294967296 + l0 - Q0 * (a * 4294967296 + b) := by
  obtain ⟨r1, r2⟩ := k0.rest
  refine div_of ?_ r1 r2
  have : (Q1 * 4294967296 + Q0) * (a * 4294967296 + b) = Q1 * (a * 4294967296 + b) * 4294967296 + Q0 * (a * 4294967296 + b) := by
    rw [Int.add_mul, Int.mul_assoc, Int.mul_assoc, Int.mul_comm 4294967296]
  omega
/-- dividend and divisor times the same -/
theorem div_times {p c s : Int} (hs : 0 < s) : p * s / (c * s) = p / c ∧ p * s % (c * s) = p % c * s :=
  ⟨Int.mul_ediv_mul_of_pos_left p c hs, by rw [Int.mul_comm p, Int.mul_comm c, Int.mul_emod_mul_of_pos _ _ hs, Int.mul_comm]⟩

/-- bit by bit: one more bit -/
theorem ld_step (P c k : Nat) (hc : 0 < c) :
    (c ≤ 2 * (P / 2 ^ (k + 1) % c) + P / 2 ^ k % 2 → P / 2 ^ k / c = 2 * (P / 2 ^ (k + 1) / c) + 1 ∧ P / 2 ^ k % c = 2 * (P / 2 ^ (k + 1) % c) + P / 2 ^ k % 2 - c) ∧
    (2 * (P / 2 ^ (k + 1) % c) + P / 2 ^ k % 2 < c → P / 2 ^ k / c = 2 * (P / 2 ^ (k + 1) / c) ∧ P / 2 ^ k % c = 2 * (P / 2 ^ (k + 1) % c) + P / 2 ^ k % 2) := by
  have e : P / 2 ^ (k + 1) = P / 2 ^ k / 2 := by rw [Nat.pow_succ, Nat.div_div_eq_div_mul]
  rw [e]
  generalize P / 2 ^ k = t
  have h1 : t = 2 * (t / 2) + t % 2 := by omega
  have h2 := Nat.div_add_mod (t / 2) c
  have h3 := Nat.mod_lt (t / 2) hc
  have key : ∀ q r, t = c * q + r → r < c → t / c = q ∧ t % c = r := by
    intro q r he hr
    subst he
    constructor
    · rw [Nat.mul_add_div hc, Nat.div_eq_of_lt hr]; rfl
    · rw [Nat.mul_add_mod, Nat.mod_eq_of_lt hr]
  have hm : c * (2 * (t / 2 / c)) = 2 * (c * (t / 2 / c)) := by rw [Nat.mul_left_comm]
  constructor
  · intro h
    refine key _ _ ?_ (by omega)
    rw [Nat.mul_add, hm]
    omega
  · intro h
    refine key _ _ ?_ h
    rw [hm]
    omega
theorem ld_bit_hi (hi lo i : Nat) (h : 64 ≤ i) (hl : lo < 18446744073709551616) : (hi * 18446744073709551616 + lo) / 2 ^ i = hi / 2 ^ (i - 64) := by
  have e : 2 ^ i = 18446744073709551616 * 2 ^ (i - 64) := by
    rw [show (18446744073709551616 : Nat) = 2 ^ 64 by decide, ← Nat.pow_add]; congr 1; omega
  rw [e, ← Nat.div_div_eq_div_mul]
  congr 1
  omega
theorem ld_bit_lo (hi lo i : Nat) (h : i < 64) : (hi * 18446744073709551616 + lo) / 2 ^ i % 2 = lo / 2 ^ i % 2 := by
  have e : 18446744073709551616 = 2 ^ i * (2 * 2 ^ (63 - i)) := by
    rw [show (18446744073709551616 : Nat) = 2 ^ 64 by decide, ← Nat.pow_succ', ← Nat.pow_add]; congr 1; omega
  rw [e, show hi * (2 ^ i * (2 * 2 ^ (63 - i))) = 2 ^ i * (hi * (2 * 2 ^ (63 - i))) by rw [Nat.mul_left_comm], Nat.mul_add_div (Nat.pow_pos (by omega))]
  rw [show hi * (2 * 2 ^ (63 - i)) = 2 * (hi * 2 ^ (63 - i)) by rw [Nat.mul_left_comm]]
  omega
theorem ld_bd (P c k : Nat) (hc : 0 < c) (h : P < c * 18446744073709551616) : P / 2 ^ k / c < 18446744073709551616 := by
  have h1 : P / 2 ^ k ≤ P := Nat.div_le_self _ _
  rw [Nat.div_lt_iff_lt_mul hc, Nat.mul_comm]
  omega
theorem half_pow (x k : Nat) : x / 2 ^ k / 2 = x / 2 ^ (k + 1) := by rw [Nat.pow_succ, Nat.div_div_eq_div_mul]
end Go.Proofs.Ytijdlggoaianbaa
