/-
  The mixer of the digests is one to one; a stream's Below finds a number within its tries. Plain lemmas.
-/
import Derived.Test.YtijdlggoaianbaaDoorStream
import Derived.Laws.Bits64
set_option linter.unusedVariables false
namespace Go.Proofs.YtijdlggoaianbaaDoor
open Go.RowKit
def xs (k x : Nat) : Nat := x ^^^ (x / 2 ^ k)
theorem xs_bit (k x i : Nat) : (xs k x).testBit i = (x.testBit i ^^ x.testBit (k + i)) := by
  unfold xs
  rw [Nat.testBit_xor, Nat.testBit_div_two_pow, Nat.add_comm i k]
theorem xs_inj {k x y : Nat} (hk : 1 ≤ k) (hx : x < 2 ^ 64) (hy : y < 2 ^ 64) (h : xs k x = xs k y) : x = y := by
  have key : ∀ d i, 64 ≤ i + d → x.testBit i = y.testBit i := by
    intro d
    induction d with
    | zero =>
      intro i hi
      have h1 : x < 2 ^ i := Nat.lt_of_lt_of_le hx (Nat.pow_le_pow_right (by omega) (by omega))
      have h2 : y < 2 ^ i := Nat.lt_of_lt_of_le hy (Nat.pow_le_pow_right (by omega) (by omega))
      rw [Nat.testBit_lt_two_pow h1, Nat.testBit_lt_two_pow h2]
    | succ d ih =>
      intro i hi
      have h1 := congrArg (fun z => Nat.testBit z i) h
      simp only [xs_bit] at h1
      rw [ih (k + i) (by omega)] at h1
      revert h1
      cases x.testBit i <;> cases y.testBit i <;> cases y.testBit (k + i) <;> simp
  exact Nat.eq_of_testBit_eq fun i => key 64 i (by omega)
theorem xs_lt {k x : Nat} (hx : x < 2 ^ 64) : xs k x < 2 ^ 64 := by
  unfold xs
  exact Nat.xor_lt_two_pow hx (Nat.lt_of_le_of_lt (Nat.div_le_self _ _) hx)
theorem mul_inj {c ci x y : Nat} (hc : c * ci % 2 ^ 64 = 1) (hx : x < 2 ^ 64) (hy : y < 2 ^ 64) (h : x * c % 2 ^ 64 = y * c % 2 ^ 64) : x = y := by
  have key : ∀ z, z < 2 ^ 64 → z = z * c % 2 ^ 64 * ci % 2 ^ 64 := by
    intro z hz
    rw [Nat.mod_mul_mod, Nat.mul_assoc, Nat.mul_mod, hc, Nat.mul_one, Nat.mod_mod, Nat.mod_eq_of_lt hz]
  rw [key x hx, h, ← key y hy]
def mixG (a1 a2 x : Nat) : Nat := xs 31 (xs 27 (xs 30 x * a1 % 2 ^ 64) * a2 % 2 ^ 64)
def mixN (x : Nat) : Nat := mixG 13787848793156543929 10723151780598845931 x
theorem step_inj {k c ci x y : Nat} (hk : 1 ≤ k) (hc : c * ci % 2 ^ 64 = 1) (hx : x < 2 ^ 64) (hy : y < 2 ^ 64) (h : xs k x * c % 2 ^ 64 = xs k y * c % 2 ^ 64) : x = y :=
  xs_inj hk hx hy (mul_inj hc (xs_lt hx) (xs_lt hy) h)
theorem c1_inv : 13787848793156543929 * 10871156337175269513 % 2 ^ 64 = 1 := by decide +kernel
theorem c2_inv : 10723151780598845931 * 3573116690164977347 % 2 ^ 64 = 1 := by decide +kernel
theorem mod64 (z : Nat) : z % 2 ^ 64 < 2 ^ 64 := Nat.mod_lt _ (Nat.two_pow_pos 64)
theorem mixG_inj {a1 a2 i1 i2 x y : Nat} (k1 : a1 * i1 % 2 ^ 64 = 1) (k2 : a2 * i2 % 2 ^ 64 = 1) (hx : x < 2 ^ 64) (hy : y < 2 ^ 64) (h : mixG a1 a2 x = mixG a1 a2 y) : x = y := by
  unfold mixG at h
  have h1 := xs_inj (by omega) (mod64 _) (mod64 _) h
  have h2 := step_inj (by omega) k2 (mod64 _) (mod64 _) h1
  exact step_inj (by omega) k1 hx hy h2
theorem mixN_inj {x y : Nat} (hx : x < 2 ^ 64) (hy : y < 2 ^ 64) (h : mixN x = mixN y) : x = y := mixG_inj c1_inv c2_inv hx hy h
theorem wrap_nat (n : Nat) : IntKind.u64.wrap (n : Int) = ((n % 2 ^ 64 : Nat) : Int) := by
  rw [IntKind.wrap_u64]; omega
theorem xor_nat (k x : Nat) (hx : x < 2 ^ 64) : bits BinOp.xor IntKind.u64 (x : Int) ((x / 2 ^ k : Nat) : Int) = ((xs k x : Nat) : Int) :=
  bits_xor_u64_nat _ _ hx (Nat.lt_of_le_of_lt (Nat.div_le_self _ _) hx)
theorem mixA_nat (x : Nat) (hx : x < 2 ^ 64) : mixA (x : Int) = ((xs 30 x : Nat) : Int) := by
  unfold mixA
  rw [show (x : Int) / 1073741824 = ((x / 2 ^ 30 : Nat) : Int) by omega]
  exact xor_nat 30 x hx
theorem mixB_nat (x : Nat) (hx : x < 2 ^ 64) : mixB (x : Int) = ((xs 27 x : Nat) : Int) := by
  unfold mixB
  rw [show (x : Int) / 134217728 = ((x / 2 ^ 27 : Nat) : Int) by omega]
  exact xor_nat 27 x hx
theorem mixC_nat (x : Nat) (hx : x < 2 ^ 64) : mixC (x : Int) = ((xs 31 x : Nat) : Int) := by
  unfold mixC
  rw [show (x : Int) / 2147483648 = ((x / 2 ^ 31 : Nat) : Int) by omega]
  exact xor_nat 31 x hx
theorem wm1 (z : Nat) : IntKind.u64.wrap ((z : Int) * 13787848793156543929) = ((z * 13787848793156543929 % 2 ^ 64 : Nat) : Int) := by
  rw [IntKind.wrap_u64]; omega
theorem wm2 (z : Nat) : IntKind.u64.wrap ((z : Int) * 10723151780598845931) = ((z * 10723151780598845931 % 2 ^ 64 : Nat) : Int) := by
  rw [IntKind.wrap_u64]; omega
theorem mixZ_nat (x : Nat) (hx : x < 2 ^ 64) : mixZ (x : Int) = ((mixN x : Nat) : Int) := by
  show mixC (IntKind.u64.wrap (mixB (IntKind.u64.wrap (mixA (x : Int) * 13787848793156543929)) * 10723151780598845931)) = _
  rw [mixA_nat x hx, wm1, mixB_nat _ (mod64 _), wm2, mixC_nat _ (mod64 _)]
  rfl
theorem mixZ_inj {x y : Int} (hx : 0 ≤ x ∧ x ≤ 18446744073709551615) (hy : 0 ≤ y ∧ y ≤ 18446744073709551615) (h : mixZ x = mixZ y) : x = y := by
  obtain ⟨a, rfl⟩ := Int.eq_ofNat_of_zero_le hx.1
  obtain ⟨b, rfl⟩ := Int.eq_ofNat_of_zero_le hy.1
  have ha : a < 2 ^ 64 := by omega
  have hb : b < 2 ^ 64 := by omega
  rw [mixZ_nat a ha, mixZ_nat b hb] at h
  have := mixN_inj ha hb (by exact_mod_cast h)
  rw [this]
end Go.Proofs.YtijdlggoaianbaaDoor
