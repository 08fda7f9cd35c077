/-
  LAYER 2: Part, in the program and in the reference; LAYER 36: amount, Fund, in both.
-/
import Derived.Test.YtijdlggoaianbaaRollC
import Derived.Test.YtijdlggoaianbaaChkF
import Derived.BigQuiet
set_option linter.unusedVariables false
namespace Go.Proofs.Ytijdlggoaianbaa
open Go.RowKit
def ptE (m b : Int) : Int := if inR m 0 1000000000000 = true ∧ inR b 0 10000 = true then 0 else 2
def ptV (m b : Int) : Int := if inR m 0 1000000000000 = true ∧ inR b 0 10000 = true then m * b / 10000 else 0
theorem pt_no1 {m b : Int} (h : inR m 0 1000000000000 = false) : ptE m b = 2 ∧ ptV m b = 0 := by simp [ptE, ptV, h]
theorem pt_no2 {m b : Int} (h : inR b 0 10000 = false) : ptE m b = 2 ∧ ptV m b = 0 := by simp [ptE, ptV, h]
theorem pt_yes {m b : Int} (h : inR m 0 1000000000000 = true) (h2 : inR b 0 10000 = true) : ptE m b = 0 ∧ ptV m b = m * b / 10000 := by simp [ptE, ptV, h, h2]
theorem mulb {m b : Int} (h1 : 0 ≤ m) (h2 : m ≤ 1000000000000) (h3 : 0 ≤ b) (h4 : b ≤ 10000) : 0 ≤ m * b ∧ m * b ≤ 10000000000000000 :=
  ⟨Int.mul_nonneg h1 h3, Int.le_trans (Int.mul_le_mul_of_nonneg_right h2 h3) (by omega)⟩
set_option maxRecDepth 20000 in
theorem part_any (m b : Int) (w : World) : Calls Try.prog 37 #[.int .i64 m, .int .i64 b] w fun e w' => e = .returned (.tuple #[.int .i64 (ptV m b), .int .i64 (ptE m b)]) ∧ w = w' := by
  have hV := mvalid_any m
  by_cases h1 : inR m 0 1000000000000 = true
  · rw [h1] at hV
    obtain ⟨m1, m2⟩ := inR_of h1
    by_cases h2 : b < 0
    · obtain ⟨k1, k2⟩ := pt_no2 (m := m) (inR_lo (n := b) (hi := 10000) h2)
      rw [k1, k2]
      have d : decide (b < 0) = true := by simpa using h2
      clear k1 k2 h1 m1 m2 h2
      go_enter Try.func37, Try.ntmps37
      go_wp2_with fail
      refine (hV _).mono ?_
      rintro e w1 ⟨rfl, rfl⟩
      go_wp2_with fail
      go_ret2
      exact ⟨rfl, rfl⟩
    · by_cases h3 : 10000 < b
      · obtain ⟨k1, k2⟩ := pt_no2 (m := m) (inR_hi (n := b) (lo := 0) h3)
        rw [k1, k2]
        have d : decide (b < 0) = false := by simpa using h2
        have d2 : decide (10000 < b) = true := by simpa using h3
        clear k1 k2 h1 m1 m2 h2 h3
        go_enter Try.func37, Try.ntmps37
        go_wp2_with fail
        refine (hV _).mono ?_
        rintro e w1 ⟨rfl, rfl⟩
        go_wp2_with fail
        go_ret2
        exact ⟨rfl, rfl⟩
      · obtain ⟨k1, k2⟩ := pt_yes h1 (inR_yes (n := b) (lo := 0) (hi := 10000) (by omega) (by omega))
        rw [k1, k2]
        have d : decide (b < 0) = false := by simpa using h2
        have d2 : decide (10000 < b) = false := by simpa using h3
        obtain ⟨p1, p2⟩ := mulb m1 m2 (by omega) (by omega : b ≤ 10000)
        have hq : (m * b).tdiv 10000 = m * b / 10000 := Int.tdiv_eq_ediv_of_nonneg p1
        have hb1 := Int.ediv_nonneg p1 (by omega : (0 : Int) ≤ 10000)
        have hb2 : m * b / 10000 ≤ 1000000000000 := by omega
        clear k1 k2 h1 h2 h3
        go_enter Try.func37, Try.ntmps37
        go_wp2_with fail
        refine (hV _).mono ?_
        rintro e w1 ⟨rfl, rfl⟩
        go_wp2_with fail
        go_ret2
        exact ⟨rfl, rfl⟩
  · have h1 : inR m 0 1000000000000 = false := by simpa using h1
    rw [h1] at hV
    obtain ⟨k1, k2⟩ := pt_no1 (b := b) h1
    rw [k1, k2]
    clear k1 k2 h1
    go_enter Try.func37, Try.ntmps37
    go_wp2_with fail
    refine (hV _).mono ?_
    rintro e w1 ⟨rfl, rfl⟩
    go_wp2_with fail
    go_ret2
    exact ⟨rfl, rfl⟩
end Go.Proofs.Ytijdlggoaianbaa
