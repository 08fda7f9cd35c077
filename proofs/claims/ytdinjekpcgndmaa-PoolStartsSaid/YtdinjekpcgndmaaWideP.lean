/-
  The product of two numbers of 64 bits in two words; plain lemmas.
-/
import Derived.Test.YtdinjekpcgndmaaMulDiv
set_option linter.unusedVariables false
namespace Go.Proofs.Ytdinjekpcgndmaa
open Go.RowKit
structure WdN (a b a0 a1 b0 b1 low p lq mid q mr other s mq t oq hi o r u lr lo : Int) : Prop where
  r1 : a % 4294967296 = a0
  r2 : a / 4294967296 = a1
  r3 : b % 4294967296 = b0
  r4 : b / 4294967296 = b1
  w5 : IntKind.u64.wrap (a0 * b0) = low
  w6 : IntKind.u64.wrap (a1 * b0) = p
  r7 : low / 4294967296 = lq
  w8 : IntKind.u64.wrap (p + lq) = mid
  w9 : IntKind.u64.wrap (a0 * b1) = q
  r10 : mid % 4294967296 = mr
  w11 : IntKind.u64.wrap (q + mr) = other
  w12 : IntKind.u64.wrap (a1 * b1) = s
  r13 : mid / 4294967296 = mq
  w14 : IntKind.u64.wrap (s + mq) = t
  r15 : other / 4294967296 = oq
  w16 : IntKind.u64.wrap (t + oq) = hi
  r17 : other % 4294967296 = o
  w18 : IntKind.u64.wrap (o * 4294967296) = u
  r19 : low % 4294967296 = lr
  w20 : IntKind.u64.wrap (u + lr) = lo
  n0 : 0 ≤ low ∧ 0 ≤ mid ∧ 0 ≤ other ∧ low < 18446744073709551616 ∧ mid < 18446744073709551616 ∧ other < 18446744073709551616
  sum : hi * 18446744073709551616 + lo = a * b
  l0 : 0 ≤ lo ∧ lo < 18446744073709551616 ∧ 0 ≤ hi ∧ hi < 18446744073709551616
theorem wdN (a b : Int) (ha0 : 0 ≤ a) (ha : a < 9223372036854775808) (hb0 : 0 ≤ b) (hb : b < 9223372036854775808) :
    ∃ a0 a1 b0 b1 low p lq mid q mr other s mq t oq hi o r u lr lo, WdN a b a0 a1 b0 b1 low p lq mid q mr other s mq t oq hi o r u lr lo := by
  have mb : ∀ x y : Int, 0 ≤ x → x ≤ 4294967295 → 0 ≤ y → y ≤ 4294967295 → 0 ≤ x * y ∧ x * y ≤ 18446744065119617025 := fun x y x0 x1 y0 y1 => by
    have h1 := Int.mul_le_mul x1 y1 y0 (by omega)
    exact ⟨Int.mul_nonneg x0 y0, h1⟩
  have mb2 : ∀ x y : Int, 0 ≤ x → x ≤ 2147483647 → 0 ≤ y → y ≤ 2147483647 → 0 ≤ x * y ∧ x * y ≤ 4611686014132420609 := fun x y x0 x1 y0 y1 => by
    have h1 := Int.mul_le_mul x1 y1 y0 (by omega)
    exact ⟨Int.mul_nonneg x0 y0, h1⟩
  obtain ⟨a0, h1⟩ : ∃ x, a % 4294967296 = x := ⟨_, rfl⟩
  obtain ⟨a1, h2⟩ : ∃ x, a / 4294967296 = x := ⟨_, rfl⟩
  obtain ⟨b0, h3⟩ : ∃ x, b % 4294967296 = x := ⟨_, rfl⟩
  obtain ⟨b1, h4⟩ : ∃ x, b / 4294967296 = x := ⟨_, rfl⟩
  have ea : a = a1 * 4294967296 + a0 := by omega
  have eb : b = b1 * 4294967296 + b0 := by omega
  have m1 := mb a0 b0 (by omega) (by omega) (by omega) (by omega)
  have m2 := mb a1 b0 (by omega) (by omega) (by omega) (by omega)
  have m3 := mb a0 b1 (by omega) (by omega) (by omega) (by omega)
  have m4 := mb2 a1 b1 (by omega) (by omega) (by omega) (by omega)
  have ep : a * b = a1 * b1 * 18446744073709551616 + (a1 * b0 + a0 * b1) * 4294967296 + a0 * b0 := by
    rw [ea, eb, Int.add_mul, Int.mul_add, Int.mul_add]
    have q1 : a1 * 4294967296 * (b1 * 4294967296) = a1 * b1 * 18446744073709551616 := by rw [Int.mul_assoc, Int.mul_left_comm 4294967296, ← Int.mul_assoc]; omega
    have q2 : a1 * 4294967296 * b0 = a1 * b0 * 4294967296 := by rw [Int.mul_assoc, Int.mul_comm 4294967296, ← Int.mul_assoc]
    have q3 : a0 * (b1 * 4294967296) = a0 * b1 * 4294967296 := by rw [← Int.mul_assoc]
    rw [q1, q2, q3]; omega
  have wr : ∀ {x : Int}, 0 ≤ x → x < 18446744073709551616 → IntKind.u64.wrap x = x := fun h k => wrap_in h k
  have key : ∀ (A B C D : Int), a0 * b0 = A → a1 * b0 = B → a0 * b1 = C → a1 * b1 = D → ∃ a0 a1 b0 b1 low p lq mid q mr other s mq t oq hi o r u lr lo, WdN a b a0 a1 b0 b1 low p lq mid q mr other s mq t oq hi o r u lr lo := by
    intro A B C D hA hB hC hD
    rw [hA] at m1; rw [hB] at m2; rw [hC] at m3; rw [hD] at m4
    rw [hA, hB, hC, hD] at ep
    refine ⟨a0, a1, b0, b1, A, B, A / 4294967296, B + A / 4294967296, C, (B + A / 4294967296) % 4294967296, C + (B + A / 4294967296) % 4294967296, D, (B + A / 4294967296) / 4294967296, D + (B + A / 4294967296) / 4294967296, (C + (B + A / 4294967296) % 4294967296) / 4294967296, D + (B + A / 4294967296) / 4294967296 + (C + (B + A / 4294967296) % 4294967296) / 4294967296, (C + (B + A / 4294967296) % 4294967296) % 4294967296, 0, (C + (B + A / 4294967296) % 4294967296) % 4294967296 * 4294967296, A % 4294967296, (C + (B + A / 4294967296) % 4294967296) % 4294967296 * 4294967296 + A % 4294967296, h1, h2, h3, h4, ?_, ?_, rfl, ?_, ?_, rfl, ?_, ?_, rfl, ?_, rfl, ?_, rfl, ?_, rfl, ?_, ?_, ?_, ?_⟩
    · rw [hA]; exact wr (by omega) (by omega)
    · rw [hB]; exact wr (by omega) (by omega)
    · exact wr (by omega) (by omega)
    · rw [hC]; exact wr (by omega) (by omega)
    · exact wr (by omega) (by omega)
    · rw [hD]; exact wr (by omega) (by omega)
    · exact wr (by omega) (by omega)
    · exact wr (by omega) (by omega)
    · exact wr (by omega) (by omega)
    · exact wr (by omega) (by omega)
    · omega
    · rw [ep]; omega
    · omega
  exact key _ _ _ _ rfl rfl rfl rfl
end Go.Proofs.Ytdinjekpcgndmaa
