/-
  math/bits.Div64 at a divisor below 2^63: the quotient and the remainder of 128 bits by 64.
-/
import Derived.Test.YtijdlggoaianbaaDivP
import Derived.Test.YtijdlggoaianbaaShelf
import Derived.Test.YtijdlggoaianbaaMem
import Derived.BigQuiet
import Derived.Deep.QuietTactic
import Derived.Deep.DeepCutAuto
import Derived.Deep.CutBlock
set_option linter.unusedVariables false
namespace Go.Proofs.Ytijdlggoaianbaa
open Go.RowKit
theorem blA : ∀ (f x : Nat), x < 2 ^ f → x ≠ 0 → x < 2 ^ (Lib.bitLenAux f x) ∧ 2 ^ (Lib.bitLenAux f x) ≤ 2 * x := by
  intro f
  induction f with
  | zero => intro x h h0; simp at h; omega
  | succ f ih =>
    intro x h h0
    rw [Lib.bitLenAux, if_neg h0, Nat.add_comm, Nat.pow_succ]
    by_cases h1 : x / 2 = 0
    · have : x = 1 := by omega
      subst this
      cases f <;> simp [Lib.bitLenAux]
    · have := ih (x / 2) (by rw [Nat.pow_succ] at h; omega) h1
      omega
theorem lz_shift (c : Nat) (h0 : c ≠ 0) (h : c < 9223372036854775808) : ∃ s, Lib.bitLen c + s = 64 ∧ 1 ≤ s ∧ s ≤ 63 ∧ 9223372036854775808 ≤ c * 2 ^ s ∧ c * 2 ^ s < 18446744073709551616 := by
  obtain ⟨h1, h2⟩ := blA 64 c (by omega) h0
  have hb : Lib.bitLen c = Lib.bitLenAux 64 c := rfl
  rw [← hb] at h1 h2
  have l1 : Lib.bitLen c ≤ 63 := by
    refine Nat.not_lt.1 fun hn => ?_
    have : 2 ^ 64 ≤ 2 ^ Lib.bitLen c := Nat.pow_le_pow_right (by omega) hn
    omega
  have l2 : 1 ≤ Lib.bitLen c := by
    refine Nat.not_lt.1 fun hn => ?_
    have : Lib.bitLen c = 0 := by omega
    rw [this] at h1; simp at h1; omega
  refine ⟨64 - Lib.bitLen c, by omega, by omega, by omega, ?_, ?_⟩
  · have e : 2 ^ Lib.bitLen c * 2 ^ (64 - Lib.bitLen c) = 2 ^ 64 := by rw [← Nat.pow_add]; congr 1; omega
    have : 2 ^ Lib.bitLen c * 2 ^ (64 - Lib.bitLen c) ≤ 2 * c * 2 ^ (64 - Lib.bitLen c) := Nat.mul_le_mul_right _ h2
    rw [e, Nat.mul_assoc] at this
    omega
  · have e : 2 ^ Lib.bitLen c * 2 ^ (64 - Lib.bitLen c) = 2 ^ 64 := by rw [← Nat.pow_add]; congr 1; omega
    have : c * 2 ^ (64 - Lib.bitLen c) < 2 ^ Lib.bitLen c * 2 ^ (64 - Lib.bitLen c) := Nat.mul_lt_mul_of_pos_right h1 (Nat.pow_pos (by omega))
    rw [e] at this
    omega
theorem or_split (s p : Nat) (hp : p = 2 ^ s) (hs : s ≤ 64) (e d : Nat) (hd : d < p) (he : e * p + d < 18446744073709551616) : bits .or .u64 ((e * p : Nat) : Int) (d : Int) = ((e * p + d : Nat) : Int) := by
  rw [bits_or_u64_nat _ _ (by omega) (by omega)]
  subst hp
  congr 1
  rw [Nat.mul_comm, ← Nat.two_pow_add_eq_or_of_lt hd]
/-- the numbers of the walk -/
structure DvN (H L C P R Y a b E D U V l1 l0 Q1 W Q0 : Int) : Prop where
  w1 : IntKind.u64.wrap (C * P) = Y
  w2 : Y / 4294967296 = a
  w3 : bits .and .u64 Y 4294967295 = b
  w4 : IntKind.u64.wrap (H * P) = E
  w5 : L / R = D
  w6 : bits .or .u64 E D = U
  w7 : IntKind.u64.wrap (L * P) = V
  w8 : V / 4294967296 = l1
  w9 : bits .and .u64 V 4294967295 = l0
  w10 : IntKind.u64.wrap (U.tdiv a) = U / a
  w11 : IntKind.u64.wrap (U / a * a) = U / a * a
  w12 : IntKind.u64.wrap (U - U / a * a) = U - U / a * a
  k1 : KnQ a b U l1 Q1
  w13 : IntKind.u64.wrap (IntKind.u64.wrap (IntKind.u64.wrap (U * 4294967296) + l1) - IntKind.u64.wrap (Q1 * Y)) = W
  w14 : IntKind.u64.wrap (W.tdiv a) = W / a
  w15 : IntKind.u64.wrap (W / a * a) = W / a * a
  w16 : IntKind.u64.wrap (W - W / a * a) = W - W / a * a
  k0 : KnQ a b W l0 Q0
  q : IntKind.u64.wrap (IntKind.u64.wrap (Q1 * 4294967296) + Q0) = (H * 18446744073709551616 + L) / C
  r : IntKind.u64.wrap (IntKind.u64.wrap (IntKind.u64.wrap (W * 4294967296) + l0) - IntKind.u64.wrap (Q0 * Y)) / P = (H * 18446744073709551616 + L) % C
theorem wrap_in {x : Int} (h0 : 0 ≤ x) (h1 : x < 18446744073709551616) : IntKind.u64.wrap x = x := by rw [IntKind.wrap_u64]; omega
theorem and_low (n : Nat) (h : n < 18446744073709551616) : bits .and .u64 (n : Int) 4294967295 = ((n % 4294967296 : Nat) : Int) := Mul64.maskN n h
theorem and_lowI {x : Int} (h0 : 0 ≤ x) (h1 : x < 18446744073709551616) : bits .and .u64 x 4294967295 = x % 4294967296 := by
  have := and_low x.toNat (by omega)
  rw [show ((x.toNat : Nat) : Int) = x by omega] at this
  rw [this]
  omega
theorem quot_bd {a b h Q : Int} (ha : 2147483648 ≤ a) (ha2 : a < 4294967296) (hb : 0 ≤ b) (hb2 : b < 4294967296) (h0 : 0 ≤ h) (h1 : h < a * 4294967296 + b) :
    IntKind.u64.wrap (h.tdiv a) = h / a ∧ IntKind.u64.wrap (h / a * a) = h / a * a ∧ IntKind.u64.wrap (h - h / a * a) = h - h / a * a := by
  have e1 := Int.mul_ediv_add_emod h a
  have e2 := Int.emod_nonneg h (show a ≠ 0 by omega)
  have e3 := Int.emod_lt_of_pos h (show 0 < a by omega)
  have e4 : h / a * a = a * (h / a) := Int.mul_comm _ _
  have e5 : 0 ≤ h / a := Int.ediv_nonneg h0 (by omega)
  have e6 : 0 ≤ h / a * a := Int.mul_nonneg e5 (by omega)
  have e7 : h / a ≤ h := Int.ediv_le_self _ h0
  exact ⟨by rw [Int.tdiv_eq_ediv_of_nonneg h0]; exact wrap_in e5 (by omega), wrap_in e6 (by omega), wrap_in (by omega) (by omega)⟩
theorem rest_wrap {a b h l Q Y : Int} (k : KnQ a b h l Q) (hY : Y = a * 4294967296 + b) :
    IntKind.u64.wrap (IntKind.u64.wrap (IntKind.u64.wrap (h * 4294967296) + l) - IntKind.u64.wrap (Q * Y)) = h * 4294967296 + l - Q * Y := by
  have hr := k.rest
  rw [← hY] at hr
  have a2 := k.a2; have b2 := k.b2
  simp only [IntKind.wrap_u64]
  generalize Q * Y = z at *
  omega
theorem dvn (s c hi lo : Nat) (s1 : 1 ≤ s) (s2 : s ≤ 63) (y1 : 9223372036854775808 ≤ c * 2 ^ s) (y2 : c * 2 ^ s < 18446744073709551616) (h1 : hi < c) (h3 : lo < 18446744073709551616) (P R : Int) (hP : (2 : Int) ^ s = P) (hR : (2 : Int) ^ (64 - s) = R) :
    ∃ Y a b E D U V l1 l0 Q1 W Q0 : Int, DvN hi lo c P R Y a b E D U V l1 l0 Q1 W Q0 := by
  obtain ⟨p, hp⟩ : ∃ p : Nat, p = 2 ^ s := ⟨_, rfl⟩
  obtain ⟨r, hr⟩ : ∃ r : Nat, r = 2 ^ (64 - s) := ⟨_, rfl⟩
  have hpr : p * r = 18446744073709551616 := by rw [hp, hr, ← Nat.pow_add, show s + (64 - s) = 64 by omega]
  have hP' : P = (p : Int) := by rw [← hP, hp]; push_cast; rfl
  have hR' : R = (r : Int) := by rw [← hR, hr]; push_cast; rfl
  have hp0 : 0 < p := by rw [hp]; exact Nat.pow_pos (by omega)
  have hr0 : 0 < r := by rw [hr]; exact Nat.pow_pos (by omega)
  rw [← hp] at y1 y2
  subst hP' hR'
  clear hP hR
  have hcp : (c : Int) * (p : Int) = ((c * p : Nat) : Int) := by push_cast; rfl
  have hhp : (hi : Int) * (p : Int) = ((hi * p : Nat) : Int) := by push_cast; rfl
  have hlp : (lo : Int) * (p : Int) = ((lo * p : Nat) : Int) := by push_cast; rfl
  have m1 : (hi + 1) * p ≤ c * p := Nat.mul_le_mul_right _ h1
  rw [Nat.add_mul, Nat.one_mul] at m1
  have d1 : lo / r < p := by rw [Nat.div_lt_iff_lt_mul hr0, hpr]; exact h3
  have d2 : lo * p = lo / r * 18446744073709551616 + lo % r * p := by
    have := Nat.div_add_mod lo r
    rw [← hpr, ← Nat.mul_assoc, Nat.mul_right_comm, ← Nat.add_mul, Nat.mul_comm (lo / r), this]
  have d3 : lo % r * p < 18446744073709551616 := by
    have : lo % r * p < r * p := Nat.mul_lt_mul_of_pos_right (Nat.mod_lt _ hr0) hp0
    rw [Nat.mul_comm r, hpr] at this; exact this
  have hU := or_split s p hp (by omega) hi (lo / r) d1 (by omega)
  obtain ⟨Y, hY⟩ : ∃ Y : Int, Y = ((c * p : Nat) : Int) := ⟨_, rfl⟩
  obtain ⟨E, hE⟩ : ∃ E : Int, E = ((hi * p : Nat) : Int) := ⟨_, rfl⟩
  obtain ⟨D, hD⟩ : ∃ D : Int, D = ((lo / r : Nat) : Int) := ⟨_, rfl⟩
  obtain ⟨U, hUU⟩ : ∃ U : Int, U = E + D := ⟨_, rfl⟩
  obtain ⟨V, hV⟩ : ∃ V : Int, V = ((lo % r * p : Nat) : Int) := ⟨_, rfl⟩
  have hYab : Y = Y / 4294967296 * 4294967296 + Y % 4294967296 := by omega
  have k1 : KnQ (Y / 4294967296) (Y % 4294967296) U (V / 4294967296) _ := kn_q (by omega) (by omega) (by omega) (by omega) (by omega) (by omega) (by omega) (by omega)
  have r1 := k1.rest
  have q1 := rest_wrap k1 hYab
  have b1 := quot_bd (Q := 0) k1.a1 k1.a2 k1.b1 k1.b2 k1.h1 k1.h2
  generalize (U * 4294967296 + V / 4294967296) / (Y / 4294967296 * 4294967296 + Y % 4294967296) = Q1 at *
  rw [← hYab] at r1
  obtain ⟨W, hW⟩ : ∃ W : Int, W = U * 4294967296 + V / 4294967296 - Q1 * Y := ⟨_, rfl⟩
  rw [← hW] at r1 q1
  have k0 : KnQ (Y / 4294967296) (Y % 4294967296) W (V % 4294967296) _ := kn_q k1.a1 k1.a2 k1.b1 k1.b2 (by omega) (by omega) (by omega) (by omega)
  have q0 := rest_wrap k0 hYab
  have b0 := quot_bd (Q := 0) k0.a1 k0.a2 k0.b1 k0.b2 k0.h1 k0.h2
  have r0 := k0.rest
  generalize (W * 4294967296 + V % 4294967296) / (Y / 4294967296 * 4294967296 + Y % 4294967296) = Q0 at *
  have k0' : KnQ (Y / 4294967296) (Y % 4294967296) (U * 4294967296 + V / 4294967296 - Q1 * (Y / 4294967296 * 4294967296 + Y % 4294967296)) (V % 4294967296) Q0 := by rw [← hYab, ← hW]; exact k0
  have hb := kn_both k1 k0'
  rw [← hYab, ← hW] at hb
  have hdv : U * 18446744073709551616 + V / 4294967296 * 4294967296 + V % 4294967296 = ((hi : Int) * 18446744073709551616 + lo) * p := by
    have e1 : ((hi : Int) * 18446744073709551616 + lo) * p = ((hi * p : Nat) : Int) * 18446744073709551616 + ((lo * p : Nat) : Int) := by
      rw [Int.add_mul, Int.mul_right_comm, hhp, hlp]
    rw [e1, d2]
    omega
  rw [hdv, hY, ← hcp] at hb
  have ht := div_times (p := (hi : Int) * 18446744073709551616 + lo) (c := c) (s := (p : Int)) (by omega)
  rw [ht.1, ht.2, hcp, ← hY] at hb
  have bd1 := k1.bd
  have bd0 := k0.bd
  refine ⟨Y, Y / 4294967296, Y % 4294967296, E, D, U, V, V / 4294967296, V % 4294967296, Q1, W, Q0, ?_⟩
  refine ⟨by rw [hcp, ← hY]; exact wrap_in (by omega) (by omega), rfl, and_lowI (by omega) (by omega), by rw [hhp, ← hE]; exact wrap_in (by omega) (by omega), by rw [hD]; rfl, by rw [hUU, hE, hD]; rw [hU]; rfl, ?_, rfl, and_lowI (by omega) (by omega), b1.1, b1.2.1, b1.2.2, k1, q1, b0.1, b0.2.1, b0.2.2, k0, ?_, ?_⟩
  · rw [hlp, d2, hV, IntKind.wrap_u64]; omega
  · rw [hb.1, wrap_in (x := Q1 * 4294967296) (by omega) (by omega), wrap_in (by omega) (by omega)]
  · rw [q0, ← hb.2]
    exact Int.mul_ediv_cancel _ (by omega)
set_option maxRecDepth 100000 in
set_option maxHeartbeats 4000000 in
theorem div64_any (hi lo c : Nat) (h1 : hi < c) (h2 : c < 9223372036854775808) (h3 : lo < 18446744073709551616) (w : World) :
    Calls Try.prog 56 #[.int .u64 hi, .int .u64 lo, .int .u64 c] w fun e w' => e = .returned (.tuple #[.int .u64 (((hi : Int) * 18446744073709551616 + lo) / c), .int .u64 (((hi : Int) * 18446744073709551616 + lo) % c)]) ∧ ∃ n, w' = w.drewN n := by
  obtain ⟨s, s1, s2, s3, y1, y2⟩ := lz_shift c (by omega) h2
  have hLZ := Try.bits_LeadingZeros64 (c : Int) w (by omega) (by omega)
  rw [Int.toNat_natCast] at hLZ
  by_cases h0 : hi = 0
  · subst h0
    have e1 : ((c : Int) == 0) = false := by simp; omega
    have e2 : decide ((c : Nat) ≤ 0) = false := by simp; omega
    have e2' : decide (c = 0) = false := by simp; omega
    have v1 : IntKind.u64.wrap ((lo : Int) / c) = ((lo : Int) / c) := by
      exact wrap_in (Int.ediv_nonneg (by omega) (by omega)) (by have := Int.ediv_le_self (c : Int) (show (0 : Int) ≤ lo by omega); omega)
    rw [show ((0 : Nat) : Int) * 18446744073709551616 + (lo : Int) = lo by omega]
    clear hLZ s1 y1 y2
    go_enter Try.func56, Try.ntmps56
    go_wp2_with fail
    go_quiet (fail)
    go_wp2_with fail
    go_ret2
    exact ⟨rfl, nq, rfl⟩
  · have e1 : ((c : Int) == 0) = false := by simp; omega
    have e2 : decide ((c : Nat) ≤ hi) = false := by simp; omega
    have e3 : ((hi : Int) == 0) = false := by simp; omega
    rw [show (64 : Int) - (Lib.bitLen c : Int) = (s : Int) by omega] at hLZ
    have HLZ := Lib.hid hLZ
    obtain ⟨X, hX⟩ : ∃ X : Int, ((hi : Int) * 18446744073709551616 + lo) / c = X := ⟨_, rfl⟩
    obtain ⟨Z, hZ⟩ : ∃ Z : Int, ((hi : Int) * 18446744073709551616 + lo) % c = Z := ⟨_, rfl⟩
    rw [hX, hZ]
    have HX := Lib.hid hX
    have HZ := Lib.hid hZ
    clear hX hZ
    obtain ⟨P, hP⟩ : ∃ P : Int, (2 : Int) ^ s = P := ⟨_, rfl⟩
    obtain ⟨R, hR⟩ : ∃ R : Int, (2 : Int) ^ (64 - s) = R := ⟨_, rfl⟩
    obtain ⟨Y, a, b, E, D, U, V, l1, l0, Q1, W, Q0, hN⟩ := dvn s c hi lo s2 s3 y1 y2 h1 h3 P R hP hR
    have a1 := hN.k1.a1
    have a2 := hN.k1.a2
    have u1 := hN.k1.h1
    have w1 := hN.w1; have w2 := hN.w2; have w3 := hN.w3; have w4 := hN.w4; have w5 := hN.w5; have w6 := hN.w6; have w7 := hN.w7; have w8 := hN.w8; have w9 := hN.w9; have w10 := hN.w10; have w11 := hN.w11; have w12 := hN.w12
    have HN := Lib.hid hN
    clear hLZ s1 y1 y2 hN
    go_enter Try.func56, Try.ntmps56
    go_wp2_with fail
    refine HLZ.out.mono ?_
    rintro e w' ⟨rfl, hw⟩
    rw [hw]
    clear hw
    go_upto_block 0 with (fail)
    go_cut [15] (fun q wx => q = .int .u64 Q1 ∧ w = wx)
    case first =>
      have hk := HN.out.k1
      have hst := kn_start hk
      have HK := Lib.hid hk
      have HST := Lib.hid hst
      clear hk hst w1 w2 w3 w4 w5 w6 w7 w8 w9 w10 w11 w12
      go_wp2_with fail
      go_loop [15, 16] (fun x y => ∃ q r : Int, x = .int .u64 q ∧ y = .int .u64 r ∧ Hid (KnI a U Q1 q r)) (fun x _ => (intOf x).toNat)
      case atStart => exact ⟨_, _, rfl, rfl, HST⟩
      case round =>
        obtain ⟨q, r, rfl, rfl, HI⟩ := hrel
        have bq := HK.out.bd
        have bb := HK.out.b1
        have bb2 := HK.out.b2
        have bl := HK.out.l1
        have bl2 := HK.out.l2
        have i1 := HI.out.lo
        have i2 := HI.out.hi
        have i3 := HI.out.r1
        have i4 := HI.out.r2
        have q0 : 0 ≤ q := by omega
        have t0 : 0 ≤ q * b := Int.mul_nonneg q0 bb
        have t2 := kn_step HK.out HI.out
        have t3 := kn_break HK.out HI.out
        have t4 := kn_done HK.out HI.out
        have T2 := Lib.hid t2
        have T3 := Lib.hid t3
        have T4 := Lib.hid t4
        clear t2 t3 t4
        have v3 : IntKind.u64.wrap (4294967296 * r) = 4294967296 * r := wrap_in (by omega) (by omega)
        have v4 : IntKind.u64.wrap (4294967296 * r + l1) = 4294967296 * r + l1 := wrap_in (by omega) (by omega)
        have v6 : IntKind.u64.wrap (r + a) = r + a := wrap_in (by omega) (by omega)
        by_cases hq : 4294967296 ≤ q
        · have d1 : decide (4294967296 ≤ q) = true := by simpa using hq
          have hqq : Q1 ≤ q - 1 := kn_less HK.out HI.out (.inl hq)
          have v5 : IntKind.u64.wrap (q - 1) = q - 1 := wrap_in (by omega) (by omega)
          have hX := Lib.hid (show 4294967296 ≤ q ∨ 4294967296 * r + l1 < q * b from .inl hq)
          by_cases hb : 4294967296 ≤ r + a
          · have hE := T3.out hX.out hb
            have d2 : decide (4294967296 ≤ r + a) = true := by simpa using hb
            have HE := Lib.hid hE
            clear hE
            go_wp2_with fail
            go_meet
            exact ⟨by rw [HE.out], rfl⟩
          · have hE := T2.out hX.out (by omega)
            have d2 : decide (4294967296 ≤ r + a) = false := by simpa using hb
            have HE := Lib.hid hE
            clear hE
            go_wp2_with fail
            go_round
            case rel => exact ⟨_, _, rfl, rfl, HE⟩
            case measure => simp [intOf]; omega
        · have d1 : decide (4294967296 ≤ q) = false := by simpa using hq
          have v1 : IntKind.u64.wrap (q * b) = q * b := wrap_in t0 (by have : q * b ≤ 4294967296 * b := Int.mul_le_mul_of_nonneg_right (by omega) bb; omega)
          by_cases ht : 4294967296 * r + l1 < q * b
          · have d3 : decide (4294967296 * r + l1 < q * b) = true := by simpa using ht
            have hqq : Q1 ≤ q - 1 := kn_less HK.out HI.out (.inr ht)
            have v5 : IntKind.u64.wrap (q - 1) = q - 1 := wrap_in (by omega) (by omega)
            have hX := Lib.hid (show 4294967296 ≤ q ∨ 4294967296 * r + l1 < q * b from .inr ht)
            by_cases hb : 4294967296 ≤ r + a
            · have hE := T3.out hX.out hb
              have d2 : decide (4294967296 ≤ r + a) = true := by simpa using hb
              have HE := Lib.hid hE
              clear hE
              go_wp2_with fail
              go_meet
              exact ⟨by rw [HE.out], rfl⟩
            · have hE := T2.out hX.out (by omega)
              have d2 : decide (4294967296 ≤ r + a) = false := by simpa using hb
              have HE := Lib.hid hE
              clear hE
              go_wp2_with fail
              go_round
              case rel => exact ⟨_, _, rfl, rfl, HE⟩
              case measure => simp [intOf]; omega
          · have d3 : decide (4294967296 * r + l1 < q * b) = false := by simpa using ht
            have hE := T4.out (by omega)
            have HE := Lib.hid hE
            clear hE
            go_wp2_with fail
            go_meet
            exact ⟨by rw [HE.out], rfl⟩
    case rest =>
      obtain ⟨rfl, rfl⟩ := hcut
      clear w1 w2 w3 w4 w5 w6 w7 w8 w9 w10 w11 w12
      have w13 := HN.out.w13; have w14 := HN.out.w14; have w15 := HN.out.w15; have w16 := HN.out.w16
      have v1 := HN.out.k0.h1
      go_upto_block 2 with (fail)
      go_cut [18] (fun q wx => q = .int .u64 Q0 ∧ w = wx)
      case first =>
        have hk := HN.out.k0
        have hst := kn_start hk
        have HK := Lib.hid hk
        have HST := Lib.hid hst
        clear hk hst w13 w14 w15 w16
        go_wp2_with fail
        go_loop [18, 16] (fun x y => ∃ q r : Int, x = .int .u64 q ∧ y = .int .u64 r ∧ Hid (KnI a W Q0 q r)) (fun x _ => (intOf x).toNat)
        case atStart => exact ⟨_, _, rfl, rfl, HST⟩
        case round =>
          obtain ⟨q, r, rfl, rfl, HI⟩ := hrel
          have bq := HK.out.bd
          have bb := HK.out.b1
          have bb2 := HK.out.b2
          have bl := HK.out.l1
          have bl2 := HK.out.l2
          have i1 := HI.out.lo
          have i2 := HI.out.hi
          have i3 := HI.out.r1
          have i4 := HI.out.r2
          have q0 : 0 ≤ q := by omega
          have t0 : 0 ≤ q * b := Int.mul_nonneg q0 bb
          have t2 := kn_step HK.out HI.out
          have t3 := kn_break HK.out HI.out
          have t4 := kn_done HK.out HI.out
          have T2 := Lib.hid t2
          have T3 := Lib.hid t3
          have T4 := Lib.hid t4
          clear t2 t3 t4
          have v3 : IntKind.u64.wrap (4294967296 * r) = 4294967296 * r := wrap_in (by omega) (by omega)
          have v4 : IntKind.u64.wrap (4294967296 * r + l0) = 4294967296 * r + l0 := wrap_in (by omega) (by omega)
          have v6 : IntKind.u64.wrap (r + a) = r + a := wrap_in (by omega) (by omega)
          by_cases hq : 4294967296 ≤ q
          · have d1 : decide (4294967296 ≤ q) = true := by simpa using hq
            have hqq : Q0 ≤ q - 1 := kn_less HK.out HI.out (.inl hq)
            have v5 : IntKind.u64.wrap (q - 1) = q - 1 := wrap_in (by omega) (by omega)
            have hX := Lib.hid (show 4294967296 ≤ q ∨ 4294967296 * r + l0 < q * b from .inl hq)
            by_cases hb : 4294967296 ≤ r + a
            · have hE := T3.out hX.out hb
              have d2 : decide (4294967296 ≤ r + a) = true := by simpa using hb
              have HE := Lib.hid hE
              clear hE
              go_wp2_with fail
              go_meet
              exact ⟨by rw [HE.out], rfl⟩
            · have hE := T2.out hX.out (by omega)
              have d2 : decide (4294967296 ≤ r + a) = false := by simpa using hb
              have HE := Lib.hid hE
              clear hE
              go_wp2_with fail
              go_round
              case rel => exact ⟨_, _, rfl, rfl, HE⟩
              case measure => simp [intOf]; omega
          · have d1 : decide (4294967296 ≤ q) = false := by simpa using hq
            have v1 : IntKind.u64.wrap (q * b) = q * b := wrap_in t0 (by have : q * b ≤ 4294967296 * b := Int.mul_le_mul_of_nonneg_right (by omega) bb; omega)
            by_cases ht : 4294967296 * r + l0 < q * b
            · have d3 : decide (4294967296 * r + l0 < q * b) = true := by simpa using ht
              have hqq : Q0 ≤ q - 1 := kn_less HK.out HI.out (.inr ht)
              have v5 : IntKind.u64.wrap (q - 1) = q - 1 := wrap_in (by omega) (by omega)
              have hX := Lib.hid (show 4294967296 ≤ q ∨ 4294967296 * r + l0 < q * b from .inr ht)
              by_cases hb : 4294967296 ≤ r + a
              · have hE := T3.out hX.out hb
                have d2 : decide (4294967296 ≤ r + a) = true := by simpa using hb
                have HE := Lib.hid hE
                clear hE
                go_wp2_with fail
                go_meet
                exact ⟨by rw [HE.out], rfl⟩
              · have hE := T2.out hX.out (by omega)
                have d2 : decide (4294967296 ≤ r + a) = false := by simpa using hb
                have HE := Lib.hid hE
                clear hE
                go_wp2_with fail
                go_round
                case rel => exact ⟨_, _, rfl, rfl, HE⟩
                case measure => simp [intOf]; omega
            · have d3 : decide (4294967296 * r + l0 < q * b) = false := by simpa using ht
              have hE := T4.out (by omega)
              have HE := Lib.hid hE
              clear hE
              go_wp2_with fail
              go_meet
              exact ⟨by rw [HE.out], rfl⟩
      case rest =>
        obtain ⟨rfl, rfl⟩ := hcut
        clear w13 w14 w15 w16
        have v1 := HN.out.q
        have v2 := HN.out.r
        rw [HX.out] at v1
        rw [HZ.out] at v2
        go_wp2_with fail
        go_ret2
        exact ⟨rfl, 0, rfl⟩
end Go.Proofs.Ytijdlggoaianbaa
