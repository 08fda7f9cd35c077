/-
  Same (of the reference): it returns true of two rows with the same numbers, and writes nothing. Conditions: both rows can be read.
-/
import Derived.Test.YtkiagmfdfojoeaaRd
import Derived.BigQuiet
set_option linter.unusedVariables false
namespace Go.Proofs.Ytkiagmfdfojoeaa
open Go.RowKit
set_option maxHeartbeats 1000000 in
theorem same_any (v v2 : Value) (l : List Int) (w : World) (hr : RdI w v l) (hr2 : RdI w v2 l) :
    Calls Try.prog 16 #[v, v2] w fun e w' => e = .returned (.bool true) ∧ Fr [] w w' := by
  obtain ⟨a, cap, rfl, hc1, hc2, hrd⟩ := hr
  obtain ⟨a2, cap2, rfl, hc3, hc4, hrd2⟩ := hr2
  have hle : l.length ≤ maxLen := Nat.le_trans hc1 hc2
  generalize hN : l.length = n at *
  have hle' : n ≤ 9223372036854775807 := hle
  have e0 : ((n : Int) != n) = false := by simp
  clear hN hc1 hc2 hc3 hc4 hle
  go_enter Try.func16, Try.ntmps16
  go_wp2_with fail
  go_loopw [5] (fun i wr => ∃ k : Nat, k ≤ n ∧ i = .int .i64 k ∧ Fr [] w wr) (fun i _ => n - (intOf i).toNat)
  case atStart => exact ⟨0, by omega, rfl, Fr.refl _ _⟩
  case round =>
    obtain ⟨k, hk, rfl, hf⟩ := hrel
    by_cases hlt : k < n
    · obtain ⟨g, o, rfl, hcell⟩ := hrd k hlt
      have hcell' := hf.cell_some hcell (by simp)
      obtain ⟨g2, o2, rfl, hcell2⟩ := hrd2 k hlt
      have hcell2' := hf.cell_some hcell2 (by simp)
      generalize l.getD k 0 = x at *
      have e1 : (x != x) = false := by simp
      have hj1 : (k : Int) < (n : Int) := by omega
      go_wp2_with fail
      go_quiet (fail)
      go_wp2
      exact ⟨⟨k + 1, by omega, by go_num, hf.drewN _⟩, by simp [intOf]; omega⟩
    · obtain rfl : k = n := by omega
      go_wp2
      go_ret
      exact ⟨rfl, hf⟩
end Go.Proofs.Ytkiagmfdfojoeaa
