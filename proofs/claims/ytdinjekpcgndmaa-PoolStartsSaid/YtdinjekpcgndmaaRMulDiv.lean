/-
  The reference's MulDiv: long division bit by bit.
-/
import Derived.Test.YtdinjekpcgndmaaWideP
import Derived.IntWalk
set_option linter.unusedVariables false
namespace Go.Proofs.Ytdinjekpcgndmaa
open Go.RowKit
set_option maxRecDepth 20000 in
set_option maxHeartbeats 1000000 in
theorem wide_any (a b : Int) (h1 : 0 ≤ a) (h2 : a < 9223372036854775808) (h3 : 0 ≤ b) (h4 : b < 9223372036854775808) (w : World) :
    Calls Try.prog 121 #[.int .u64 a, .int .u64 b] w fun e w' => e = .returned (.tuple #[.int .u64 (a * b / 18446744073709551616), .int .u64 (a * b % 18446744073709551616)]) ∧ w = w' := by
  obtain ⟨a0, a1, b0, b1, low, p, lq, mid, q, mr, other, s, mq, t, oq, hi, o, r, u, lr, lo, hN⟩ := wdN a b h1 h2 h3 h4
  have e1 : a * b / 18446744073709551616 = hi := by have := hN.sum; have := hN.l0; omega
  have e2 : a * b % 18446744073709551616 = lo := by have := hN.sum; have := hN.l0; omega
  rw [e1, e2]
  have r1 := hN.r1; have r2 := hN.r2; have r3 := hN.r3; have r4 := hN.r4; have w5 := hN.w5; have w6 := hN.w6; have r7 := hN.r7; have w8 := hN.w8; have w9 := hN.w9; have r10 := hN.r10
  have w11 := hN.w11; have w12 := hN.w12; have r13 := hN.r13; have w14 := hN.w14; have r15 := hN.r15; have w16 := hN.w16; have r17 := hN.r17; have w18 := hN.w18; have r19 := hN.r19; have w20 := hN.w20
  obtain ⟨n1, n2, n3, n4, n5, n6⟩ := hN.n0
  clear hN e1 e2
  go_enter Try.func121, Try.ntmps121
  go_wp2_with fail
  go_ret2
  exact ⟨rfl, rfl⟩
theorem half_nat (X k y z : Nat) (h1 : X / 2 ^ k = y) (h2 : X / 2 ^ (k + 1) = z) : ((y : Nat) : Int) / 2 = (z : Nat) := by
  rw [← half_pow, h1] at h2
  omega
set_option maxRecDepth 20000 in
set_option maxHeartbeats 1000000 in
theorem bit_any (hi lo i : Nat) (h1 : hi < 18446744073709551616) (h2 : lo < 18446744073709551616) (h3 : i < 128) (w : World) :
    Calls Try.prog 122 #[.int .u64 hi, .int .u64 lo, .int .i64 i] w fun e w' => e = .returned (.int .u64 (((hi * 18446744073709551616 + lo) / 2 ^ i % 2 : Nat) : Int)) ∧ w = w' := by
  by_cases h : 64 ≤ i
  · obtain ⟨m, hm⟩ : ∃ m, i = m + 64 := ⟨i - 64, by omega⟩
    have e : (hi * 18446744073709551616 + lo) / 2 ^ i % 2 = hi / 2 ^ m % 2 := by rw [ld_bit_hi hi lo i h h2, show i - 64 = m by omega]
    rw [e]
    obtain ⟨V, hV⟩ : ∃ V : Nat, V = hi / 2 ^ m % 2 := ⟨_, rfl⟩
    rw [← hV]
    have HV := Lib.hid hV
    clear hV
    subst hm
    have d1 : decide (64 ≤ m + 64) = true := by simp
    have d2 : decide ((64 : Int) ≤ ((m + 64 : Nat) : Int)) = true := by simp; omega
    have d3 : ((m + 64 : Nat) : Int) - 64 = (m : Int) := by omega
    have d4 : decide ((64 : Int) ≤ (m : Int) + 64) = true := by simp; omega
    have d5 : (m : Int) + 64 - 64 = (m : Int) := by omega
    clear e h
    go_enter Try.func122, Try.ntmps122
    go_wp2_with fail
    (try rw [d3])
    go_loop [7, 8] (fun x k => ∃ j y : Nat, j ≤ m ∧ k = .int .i64 j ∧ x = .int .u64 (y : Nat) ∧ Hid (hi / 2 ^ j = y)) (fun _ k => m - (intOf k).toNat)
    case atStart => exact ⟨0, hi, by omega, rfl, rfl, Lib.hid (by simp)⟩
    case round =>
      obtain ⟨j, y, hj, rfl, rfl, HY⟩ := hrel
      have hy : y < 18446744073709551616 := by have := HY.out; have := Nat.div_le_self hi (2 ^ j); omega
      by_cases hlt : j < m
      · obtain ⟨z, hz⟩ : ∃ z, hi / 2 ^ (j + 1) = z := ⟨_, rfl⟩
        have e := half_nat hi j y z HY.out hz
        have HZ := Lib.hid hz
        have hjm : (j : Int) < (m : Int) := by omega
        clear hz
        go_wp2_with fail
        go_round
        case rel => exact ⟨j + 1, z, by omega, by go_num, rfl, HZ⟩
        case measure => (simp [intOf]; try omega)
      · obtain rfl : j = m := by omega
        have e : (y : Int) % 2 = ((V : Nat) : Int) := by rw [HV.out, HY.out]; omega
        have HE := Lib.hid e
        clear e HV
        go_wp2_with fail
        go_ret
        exact ⟨by rw [HE.out]; rfl, rfl⟩
  · have e : (hi * 18446744073709551616 + lo) / 2 ^ i % 2 = lo / 2 ^ i % 2 := ld_bit_lo hi lo i (by omega)
    rw [e]
    obtain ⟨V, hV⟩ : ∃ V : Nat, V = lo / 2 ^ i % 2 := ⟨_, rfl⟩
    rw [← hV]
    have HV := Lib.hid hV
    clear hV
    have d1 : decide (64 ≤ i) = false := by simp; omega
    have d2 : decide ((64 : Int) ≤ (i : Int)) = false := by simp; omega
    clear e h
    go_enter Try.func122, Try.ntmps122
    go_wp2_with fail
    go_loop [7, 8] (fun x k => ∃ j y : Nat, j ≤ i ∧ k = .int .i64 j ∧ x = .int .u64 (y : Nat) ∧ Hid (lo / 2 ^ j = y)) (fun _ k => i - (intOf k).toNat)
    case atStart => exact ⟨0, lo, by omega, rfl, rfl, Lib.hid (by simp)⟩
    case round =>
      obtain ⟨j, y, hj, rfl, rfl, HY⟩ := hrel
      have hy : y < 18446744073709551616 := by have := HY.out; have := Nat.div_le_self lo (2 ^ j); omega
      by_cases hlt : j < i
      · obtain ⟨z, hz⟩ : ∃ z, lo / 2 ^ (j + 1) = z := ⟨_, rfl⟩
        have e := half_nat lo j y z HY.out hz
        have HZ := Lib.hid hz
        have hjm : (j : Int) < (i : Int) := by omega
        clear hz
        go_wp2_with fail
        go_round
        case rel => exact ⟨j + 1, z, by omega, by go_num, rfl, HZ⟩
        case measure => (simp [intOf]; try omega)
      · obtain rfl : j = i := by omega
        have e : (y : Int) % 2 = ((V : Nat) : Int) := by rw [HV.out, HY.out]; omega
        have HE := Lib.hid e
        clear e HV
        go_wp2_with fail
        go_ret
        exact ⟨by rw [HE.out]; rfl, rfl⟩
set_option maxRecDepth 20000 in
set_option maxHeartbeats 2000000 in
theorem rmuldiv_nat (a b c : Nat) (ha : a ≤ 1000000000000) (hb : b ≤ c) (h0 : 0 < c) (hc : c ≤ 100000000000000) (w : World) :
    Calls Try.prog 102 #[.int .i64 a, .int .i64 b, .int .i64 c] w fun e w' => e = .returned (.tuple #[.int .i64 ((a : Int) * b / c), .int .i64 ((a : Int) * b % c), .int .i64 0]) ∧ w = w' := by
  obtain ⟨q1, q2, q3, q4, q5, q6, q7⟩ := md_bd ha hb h0
  have hW := fun w => wide_any (a : Int) (b : Int) (by omega) (by omega) (by omega) (by omega) w
  obtain ⟨P, hP⟩ : ∃ P : Nat, P = a * b := ⟨_, rfl⟩
  have e0 : (a : Int) * b = (P : Int) := by rw [hP]; push_cast; rfl
  have hPm : P < 10 ^ 26 + 1 := by
    rw [hP]
    have := Nat.mul_le_mul ha (Nat.le_trans hb hc)
    omega
  have hqb : ∀ k, P / 2 ^ k / c ≤ 1000000000000 := fun k => by
    have h1 : P / 2 ^ k ≤ P := Nat.div_le_self _ _
    have h2 : P ≤ 1000000000000 * c := by rw [hP]; exact Nat.mul_le_mul ha hb
    have h3 : P / 2 ^ k / c ≤ P / c := Nat.div_le_div_right h1
    have h4 : P / c ≤ 1000000000000 := by rw [Nat.div_le_iff_le_mul h0]; omega
    omega
  rw [e0] at hW q3 q4 q5 q6 ⊢
  rw [← hP] at q1 q2
  obtain ⟨hi, hhi⟩ : ∃ h, h = P / 18446744073709551616 := ⟨_, rfl⟩
  obtain ⟨lo, hlo⟩ : ∃ l, l = P % 18446744073709551616 := ⟨_, rfl⟩
  have e1 : (P : Int) / 18446744073709551616 = (hi : Int) := by rw [hhi]; omega
  have e2 : (P : Int) % 18446744073709551616 = (lo : Int) := by rw [hlo]; omega
  have e3 : hi * 18446744073709551616 + lo = P := by omega
  rw [e1, e2] at hW
  rw [← hhi] at q1
  rw [← hlo] at q2
  have hB := fun i w (h : i < 128) => bit_any hi lo i (by omega) q2 h w
  rw [e3] at hB
  have d1 : ((c : Int) == 0) = false := by simp; omega
  have d2 : decide ((c : Nat) ≤ hi) = false := by simp; omega
  have d2' : decide ((c : Int) ≤ hi) = false := by simp; omega
  have hst := fun k => ld_step P c k h0
  have hml := fun k => Nat.mod_lt (P / 2 ^ k) h0
  have e5 : P / 2 ^ 128 = 0 := by rw [Nat.div_eq_of_lt]; omega
  have f0 : (P : Int) / c = ((P / 2 ^ 0 / c : Nat) : Int) := by simp
  have f1 : (P : Int) % c = ((P / 2 ^ 0 % c : Nat) : Int) := by simp
  obtain ⟨X, hX⟩ : ∃ X : Int, X = (P : Int) / c := ⟨_, rfl⟩
  obtain ⟨Z, hZ⟩ : ∃ Z : Int, Z = (P : Int) % c := ⟨_, rfl⟩
  rw [← hX, ← hZ]
  rw [f0] at hX
  rw [f1] at hZ
  have HX := Lib.hid hX
  have HZ := Lib.hid hZ
  clear hX hZ
  have HW := Lib.hid hW
  have HB := Lib.hid hB
  have HQB := Lib.hid hqb
  have HST := Lib.hid hst
  have HML := Lib.hid hml
  have HE5 := Lib.hid e5
  have hcc : (c : Int) ≤ 100000000000000 := by omega
  clear hW hB hqb hst hml e5 e0 e1 e2 e3 hhi hlo q1 q2 q3 q4 q5 q6 q7 f0 f1 hP hPm
  go_enter Try.func102, Try.ntmps102
  go_wp2_with fail
  refine (HW.out _).mono ?_
  rintro e w' ⟨rfl, rfl⟩
  go_wp2_with fail
  go_loop [11, 12, 13] (fun q r i => ∃ k y z : Nat, k ≤ 128 ∧ i = .int .i64 ((k : Int) - 1) ∧ q = .int .u64 (y : Nat) ∧ r = .int .u64 (z : Nat) ∧ Hid (P / 2 ^ k / c = y) ∧ Hid (P / 2 ^ k % c = z)) (fun _ _ i => (intOf i + 1).toNat)
  case atStart => exact ⟨128, 0, 0, by omega, rfl, rfl, rfl, Lib.hid (by rw [HE5.out]; simp), Lib.hid (by rw [HE5.out]; simp)⟩
  case round =>
    obtain ⟨k, y, z, hk, rfl, rfl, rfl, HY, HZZ⟩ := hrel
    rcases k with _ | m
    · have ey := HY.out
      have ez := HZZ.out
      have ex : X = (y : Int) := by rw [HX.out, ey]
      have ew : Z = (z : Int) := by rw [HZ.out, ez]
      subst ex ew
      have hy := HQB.out 0
      have hz := HML.out 0
      rw [ey] at hy
      rw [ez] at hz
      clear ey ez HW HX HZ
      rw [show ((0 : Nat) : Int) - 1 = -1 by omega]
      have d3 : decide (9223372036854775807 < y) = false := by simp; omega
      have d3' : decide ((9223372036854775807 : Int) < (y : Int)) = false := by simp; omega
      go_wp2_with fail
      exact bodyPost_ret (v := .tuple #[.int .i64 y, .int .i64 z, .int .i64 0]) (by simp [results, Try.results102, go_sem]) rfl ⟨rfl, rfl⟩
    · have hb := HB.out m
      obtain ⟨s1, s2⟩ := HST.out m
      have hy := HQB.out m
      have hz := HML.out (m + 1)
      have hbl : P / 2 ^ m % 2 < 2 := Nat.mod_lt _ (by omega)
      rw [HY.out, HZZ.out] at s1 s2
      rw [HZZ.out] at hz
      have hy' := HQB.out (m + 1)
      rw [HY.out] at hy'
      rw [show ((m + 1 : Nat) : Int) - 1 = (m : Int) by omega]
      generalize hbv : P / 2 ^ m % 2 = v at *
      have HBB := Lib.hid hb
      by_cases hle : c ≤ 2 * z + v
      · obtain ⟨t1, t2⟩ := s1 hle
        have g1 : decide ((c : Int) ≤ 2 * (z : Int) + v) = true := by simp; omega
        have g2 : decide (c ≤ 2 * z + v) = true := by simpa using hle
        have T1 := Lib.hid t1
        have T2 := Lib.hid t2
        clear s1 s2 t1 t2 hbv hb HY HZZ HW
        go_wp2_with fail
        refine (HBB.out _ (by omega)).mono ?_
        rintro e w' ⟨rfl, rfl⟩
        go_wp2_with fail
        go_round
        case rel => exact ⟨m, 2 * y + 1, 2 * z + v - c, by omega, by go_num, by go_num, by go_num, T1, T2⟩
        case measure => (simp [intOf]; try omega)
      · obtain ⟨t1, t2⟩ := s2 (by omega)
        have g1 : decide ((c : Int) ≤ 2 * (z : Int) + v) = false := by simp; omega
        have g2 : decide (c ≤ 2 * z + v) = false := by simp; omega
        have T1 := Lib.hid t1
        have T2 := Lib.hid t2
        clear s1 s2 t1 t2 hbv hb HY HZZ HW
        go_wp2_with fail
        refine (HBB.out _ (by omega)).mono ?_
        rintro e w' ⟨rfl, rfl⟩
        go_wp2_with fail
        go_round
        case rel => exact ⟨m, 2 * y, 2 * z + v, by omega, by go_num, by go_num, by go_num, T1, T2⟩
        case measure => (simp [intOf]; try omega)
theorem rmuldiv_any (a b c : Int) (ha0 : 0 ≤ a) (ha : a ≤ 1000000000000) (hb0 : 0 ≤ b) (hb : b ≤ c) (h0 : 0 < c) (hc : c ≤ 100000000000000) (w : World) :
    Calls Try.prog 102 #[.int .i64 a, .int .i64 b, .int .i64 c] w fun e w' => e = .returned (.tuple #[.int .i64 (a * b / c), .int .i64 (a * b % c), .int .i64 0]) ∧ w = w' := by
  have := rmuldiv_nat a.toNat b.toNat c.toNat (by omega) (by omega) (by omega) (by omega) w
  rw [show ((a.toNat : Nat) : Int) = a by omega, show ((b.toNat : Nat) : Int) = b by omega, show ((c.toNat : Nat) : Int) = c by omega] at this
  exact this
end Go.Proofs.Ytdinjekpcgndmaa
