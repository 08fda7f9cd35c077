/-
  bits.OnesCount: how many weekdays a set of days has.
-/
import Derived.Test.YtijdlggoaianbaaGame
import Derived.Test.YtijdlggoaianbaaSchedP
set_option linter.unusedVariables false
namespace Go.Proofs.Ytijdlggoaianbaa
open Go.RowKit
def o1 (k : Nat) : Int := bits .and .u64 ((k : Int) / 2) 6148914691236517205
def o2 (k : Nat) : Int := bits .and .u64 (k : Int) 6148914691236517205
def o3 (k : Nat) : Int := bits .and .u64 ((o1 k + o2 k) / 4) 3689348814741910323
def o4 (k : Nat) : Int := bits .and .u64 (o1 k + o2 k) 3689348814741910323
def o5 (k : Nat) : Int := bits .and .u64 ((o3 k + o4 k) / 16 + (o3 k + o4 k)) 1085102592571150095
theorem ones_fin : ∀ k : Fin 128, 0 ≤ o1 k.val ∧ o1 k.val ≤ 127 ∧ 0 ≤ o2 k.val ∧ o2 k.val ≤ 127 ∧ 0 ≤ o3 k.val ∧ o3 k.val ≤ 127 ∧ 0 ≤ o4 k.val ∧ o4 k.val ≤ 127 ∧ 0 ≤ o5 k.val ∧ o5 k.val ≤ 7 ∧ o5 k.val = ((pcD k.val : Nat) : Int) ∧ bits .and .i64 (o5 k.val) 127 = o5 k.val := by decide +kernel
theorem ones64_any (k : Nat) (w : World) (hk : k < 128) : Calls Try.prog 47 #[.int .u64 (k : Int)] w fun e w' => e = .returned (.int .i64 ((pcD k : Nat) : Int)) ∧ w = w' := by
  obtain ⟨h1, h2, h3, h4, h5, h6, h7, h8, h9, h10, h11, h12⟩ := ones_fin ⟨k, hk⟩
  simp only at h1 h2 h3 h4 h5 h6 h7 h8 h9 h10 h11 h12
  have e1 : bits .and .u64 ((k : Int) / 2) 6148914691236517205 = o1 k := rfl
  have e2 : bits .and .u64 (k : Int) 6148914691236517205 = o2 k := rfl
  have e3 : bits .and .u64 ((o1 k + o2 k) / 4) 3689348814741910323 = o3 k := rfl
  have e4 : bits .and .u64 (o1 k + o2 k) 3689348814741910323 = o4 k := rfl
  have e5 : bits .and .u64 ((o3 k + o4 k) / 16 + (o3 k + o4 k)) 1085102592571150095 = o5 k := rfl
  rw [← h11]
  have hq : o5 k / 256 = 0 ∧ o5 k / 65536 = 0 ∧ o5 k / 4294967296 = 0 := by omega
  obtain ⟨q1, q2, q3⟩ := hq
  generalize o1 k = A1 at *
  generalize o2 k = A2 at *
  generalize o3 k = A3 at *
  generalize o4 k = A4 at *
  generalize o5 k = A5 at *
  clear h11
  go_enter Try.func47, Try.ntmps47
  go_wp2_with fail
  go_ret
  exact ⟨rfl, rfl⟩
theorem ones_any (k : Nat) (w : World) (hk : k < 128) : Calls Try.prog 26 #[.int .u64 (k : Int)] w fun e w' => e = .returned (.int .i64 ((pcD k : Nat) : Int)) ∧ w = w' := by
  have h := fun w => ones64_any k w hk
  have H := Lib.hid h
  clear h
  generalize ((pcD k : Nat) : Int) = P at *
  go_enter Try.func26, Try.ntmps26
  go_wp2_with fail
  refine (H.out _).mono ?_
  rintro e w1 ⟨rfl, rfl⟩
  go_wp2_with fail
  go_ret
  exact ⟨rfl, rfl⟩
end Go.Proofs.Ytijdlggoaianbaa
