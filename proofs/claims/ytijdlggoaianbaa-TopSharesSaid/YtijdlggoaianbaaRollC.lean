/-
  LAYER 37: the error of a game or of amounts, in the program and in the reference; later, flowing, jackpot, first.
-/
import Derived.Test.YtijdlggoaianbaaRollP
import Derived.Test.YtijdlggoaianbaaRCheck
set_option linter.unusedVariables false
namespace Go.Proofs.Ytijdlggoaianbaa
open Go.RowKit
theorem mvalid_any (n : Int) (w : World) : Calls Try.prog 21 #[.int .i64 n] w fun e w' => e = .returned (.bool (inR n 0 1000000000000)) ∧ w = w' := by
  by_cases h1 : 0 ≤ n
  · have d1 : decide (0 ≤ n) = true := by simpa using h1
    by_cases h2 : n ≤ 1000000000000
    · have d2 : decide (n ≤ 1000000000000) = true := by simpa using h2
      rw [inR_yes h1 h2]
      go_enter Try.func21, Try.ntmps21
      go_wp2_with fail
      go_ret
      exact ⟨rfl, rfl⟩
    · have d2 : decide (n ≤ 1000000000000) = false := by simpa using h2
      rw [inR_hi (by omega)]
      go_enter Try.func21, Try.ntmps21
      go_wp2_with fail
      go_ret
      exact ⟨rfl, rfl⟩
  · have d1 : decide (0 ≤ n) = false := by simpa using h1
    rw [inR_lo (by omega)]
    go_enter Try.func21, Try.ntmps21
    go_wp2_with fail
    go_ret
    exact ⟨rfl, rfl⟩
end Go.Proofs.Ytijdlggoaianbaa
