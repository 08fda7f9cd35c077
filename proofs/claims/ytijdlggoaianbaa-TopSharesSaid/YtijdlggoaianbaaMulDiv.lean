/-
  num.MulDiv at an amount and a weight that is at most the divisor.
-/
import Derived.Test.YtijdlggoaianbaaDiv64
set_option linter.unusedVariables false
namespace Go.Proofs.Ytijdlggoaianbaa
open Go.RowKit
theorem md_bd {a b c : Nat} (ha : a ≤ 1000000000000) (hb : b ≤ c) (h0 : 0 < c) :
    a * b / 18446744073709551616 < c ∧ a * b % 18446744073709551616 < 18446744073709551616 ∧ 0 ≤ (a : Int) * b / c ∧ (a : Int) * b / c ≤ 1000000000000 ∧ 0 ≤ (a : Int) * b % c ∧ (a : Int) * b % c < c ∧
    ((a * b / 18446744073709551616 : Nat) : Int) * 18446744073709551616 + ((a * b % 18446744073709551616 : Nat) : Int) = (a : Int) * b := by
  have h1 : a * b ≤ 1000000000000 * c := Nat.mul_le_mul ha hb
  have h2 : (a : Int) * b = ((a * b : Nat) : Int) := by push_cast; rfl
  have h3 : a * b / c ≤ 1000000000000 := by
    rw [Nat.div_le_iff_le_mul h0]; omega
  have h4 := Nat.mod_lt (a * b) h0
  refine ⟨by omega, by omega, ?_, ?_, ?_, ?_, by omega⟩
  · rw [h2]; exact Int.natCast_nonneg (a * b / c)
  · rw [h2]; exact Int.ofNat_le.2 h3
  · rw [h2]; exact Int.natCast_nonneg (a * b % c)
  · rw [h2]; exact Int.ofNat_lt.2 h4
set_option maxRecDepth 20000 in
set_option maxHeartbeats 2000000 in
theorem muldiv_nat (a b c : Nat) (ha : a ≤ 1000000000000) (hb : b ≤ c) (h0 : 0 < c) (hc : c ≤ 100000000000000) (w : World) :
    Calls Try.prog 42 #[.int .i64 a, .int .i64 b, .int .i64 c] w fun e w' => e = .returned (.tuple #[.int .i64 ((a : Int) * b / c), .int .i64 ((a : Int) * b % c), .int .i64 0]) ∧ ∃ n, w' = w.drewN n := by
  obtain ⟨q1, q2, q3, q4, q5, q6, q7⟩ := md_bd ha hb h0
  have hM := fun w => Try.bits_Mul64 a b (by omega) (by omega) w
  obtain ⟨hi, hhi⟩ : ∃ h, h = a * b / 18446744073709551616 := ⟨_, rfl⟩
  obtain ⟨lo, hlo⟩ : ∃ l, l = a * b % 18446744073709551616 := ⟨_, rfl⟩
  rw [← hhi] at q1 q7 hM
  rw [← hlo] at q2 q7 hM
  have hD := fun w => div64_any hi lo c q1 (by omega) q2 w
  rw [q7] at hD
  generalize (a : Int) * b / c = X at *
  generalize (a : Int) * b % c = Z at *
  have e1 : ((c : Int) == 0) = false := by simp; omega
  have e2 : decide ((c : Nat) ≤ hi) = false := by simp; omega
  have e3 : decide (9223372036854775807 < X) = false := by simp; omega
  have hX : X < 9223372036854775808 := by omega
  have hZ : Z < 9223372036854775808 := by omega
  have HM := Lib.hid hM
  have HD := Lib.hid hD
  clear hM hD hhi hlo q1 q2 q7 h0
  go_enter Try.func42, Try.ntmps42
  go_wp2_with fail
  refine (HM.out _).mono ?_
  rintro e w' ⟨rfl, hw⟩
  rw [hw]
  clear hw
  go_wp2_with fail
  refine (HD.out _).mono ?_
  rintro e w' ⟨rfl, n, hw⟩
  go_wp2_with fail
  exact bodyPost_ret (v := .tuple #[.int .i64 X, .int .i64 Z, .int .i64 0]) (by simp [results, Try.results42, go_sem]) rfl ⟨rfl, n, rfl⟩
theorem muldiv_any (a b c : Int) (ha0 : 0 ≤ a) (ha : a ≤ 1000000000000) (hb0 : 0 ≤ b) (hb : b ≤ c) (h0 : 0 < c) (hc : c ≤ 100000000000000) (w : World) :
    Calls Try.prog 42 #[.int .i64 a, .int .i64 b, .int .i64 c] w fun e w' => e = .returned (.tuple #[.int .i64 (a * b / c), .int .i64 (a * b % c), .int .i64 0]) ∧ ∃ n, w' = w.drewN n := by
  have := muldiv_nat a.toNat b.toNat c.toNat (by omega) (by omega) (by omega) (by omega) w
  rw [show ((a.toNat : Nat) : Int) = a by omega, show ((b.toNat : Nat) : Int) = b by omega, show ((c.toNat : Nat) : Int) = c by omega] at this
  exact this
end Go.Proofs.Ytijdlggoaianbaa
