/-
  lives (of the statements about the stream): it returns true and writes nothing that was there. No conditions.
-/
import Derived.Test.YtkiagmfdfojoeaaStream
namespace Go.Proofs.Ytkiagmfdfojoeaa
open Go.RowKit
set_option linter.unusedVariables false
theorem below_one (s u : Int) : bV 1 s u = 0 ∧ bE 1 s u = 0 ∧ bU 1 s u = u + 1 := by
  have hr : rej 1 = 0 := by unfold rej; exact Int.emod_one _
  have hst := try_stop 63 1 s u (by rw [hr]; have := mixZ_bd (nx s); omega)
  have hi : inB 1 = true := rfl
  have e : tryB 64 1 s u = tryB (63 + 1) 1 s u := rfl
  refine ⟨?_, ?_, ?_⟩
  · unfold bV belV; rw [hi, e, hst]; simp [Int.emod_one]
  · unfold bE belE; rw [hi, e, hst]; simp
  · unfold bU; rw [hi, e, hst]; simp
set_option maxHeartbeats 400000 in
theorem lives_any (w : World) : Calls Try.prog 19 #[] w fun e w' => e = .returned (.bool true) ∧ Below w.heap.size w w' := by
  go_enter Try.func19, Try.ntmps19
  go_wp2_with fail
  refine (new_any _ _).mono ?_
  rintro e w1 ⟨rfl, hs1, hz1, hb1⟩
  have HZ := Lib.hid hz1
  clear hz1
  go_wp2_with fail
  refine (below_any _ _ _ _ _ hs1 (by omega) (by omega)).mono ?_
  obtain ⟨e1, e2, e3⟩ := below_one 1 0
  rw [e1, e2, e3]
  clear e1 e2 e3
  rintro e w2 ⟨rfl, hs2, ho2⟩
  go_wp2_with fail
  refine (used_any _ _ _ _ hs2).mono ?_
  rintro e w3 ⟨rfl, rfl⟩
  go_wp2_with fail
  go_ret
  exact ⟨rfl, hb1.trans (ho2.below _ (Nat.le_refl _))⟩
end Go.Proofs.Ytkiagmfdfojoeaa
