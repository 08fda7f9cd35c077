/-
  pays of the statements about layer 40.
-/
import Derived.Test.YtdbkkbeelemnhaaPlain40
import Derived.Test.YtdbkkbeelemnhaaSerial
set_option linter.unusedVariables false
namespace Go.Proofs.Ytdbkkbeelemnhaa
open Go.RowKit
def r271 : Re := ⟨none, 0, 0, none, 0, 0, none, 0, 0, 0, ⟨#[50, 55, 49]⟩⟩
theorem ser50 (b f p a : Nat) : serV (gm40 b f p a) 2 3 2 = 50 := by kernel_rfl
theorem hits2 : IsHits ⟨#[49, 55, 49]⟩ ⟨#[50, 55, 49]⟩ 2 := by
  refine .inr ⟨rfl, by decide, fun j hj => ?_, fun _ => by decide⟩
  match j, hj with
  | 0, _ => rfl
  | 1, _ => rfl
  | j + 2, hj => omega
set_option maxRecDepth 20000 in
set_option maxHeartbeats 1000000 in
theorem pays40_any (w : World) : Calls Try.prog 30 #[] w fun e w' => e = .returned (.bool true) ∧ Fr [] w w' := by
  have hb : ∀ w, (Instr.build 38 #[(4, .string ⟨#[50, 55, 49]⟩)]).run Try.prog w = .ok r271.val w := fun w => by kernel_rfl
  go_enter Try.func30, Try.ntmps30
  go_wp2_with fail
  refine (plain40_any _).mono ?_
  rintro e w4 ⟨b, f, p, a, rfl, hok4, f4⟩
  go_wp2_with fail
  refine (serial_any (gm40 b f p a) 2 ⟨#[49, 55, 49]⟩ r271 w4 hok4 (by show 3 ≤ maxLen; unfold maxLen; omega) (by show 3 ≤ maxLen; unfold maxLen; omega)).mono ?_
  rintro e w5 ⟨n, hn, rfl, f5⟩
  obtain rfl := hn.eq hits2
  rw [show (⟨#[49, 55, 49]⟩ : ByteArray).size = 3 from rfl, ser50]
  clear hn hok4 hb
  go_wp2_with fail
  go_ret
  exact ⟨rfl, f4.trans f5⟩
end Go.Proofs.Ytdbkkbeelemnhaa
