/-
  Name of layer 12 and of its reference: what a name is.
-/
import Derived.Test.YtijdlggoaianbaaRd
set_option linter.unusedVariables false
namespace Go.Proofs.Ytijdlggoaianbaa
open Go.RowKit
def chAt (s : ByteArray) (i : Nat) : Int := ((s.data.toList.getD i 0).toNat : Int)
theorem ba_get (s : ByteArray) (q : Nat) (h : q < s.size) : s[q]? = some s[q] := by simp [h]
theorem chAt_of (s : ByteArray) (q : Nat) (hq : q < s.size) : chAt s q = s[q].toNat := by
  unfold chAt
  have hl : s.data.toList.getD q 0 = s[q] := by
    have : q < s.data.toList.length := by simpa using hq
    simp only [List.getD, List.getElem?_eq_getElem this, Option.getD_some, Array.getElem_toList]
    rfl
  rw [hl]
def okB (x : Int) : Bool := decide ((97 ≤ x ∧ x ≤ 122) ∨ (48 ≤ x ∧ x ≤ 57) ∨ x = 45)
def okH (s : ByteArray) : Bool := decide (1 ≤ s.size ∧ s.size ≤ 24 ∧ 97 ≤ chAt s 0 ∧ chAt s 0 ≤ 122)
/-- is it a name? -/
def nameB (s : ByteArray) : Bool := okH s && (List.range s.size).all (fun i => okB (chAt s i))
theorem nameB_yes (s : ByteArray) (h : okH s = true) (ha : ∀ j, j < s.size → okB (chAt s j) = true) : nameB s = true := by
  unfold nameB; rw [h]; simpa using ha
theorem nameB_no (s : ByteArray) (j : Nat) (hj : j < s.size) (ha : okB (chAt s j) = false) : nameB s = false := by
  unfold nameB
  rw [Bool.and_eq_false_iff]
  right
  rw [List.all_eq_false]
  exact ⟨j, by simpa using hj, by simp [ha]⟩
theorem nameB_head (s : ByteArray) (h : okH s = false) : nameB s = false := by unfold nameB; rw [h]; rfl
set_option maxRecDepth 100000 in
set_option maxHeartbeats 1000000 in
theorem name_any (s : ByteArray) (w : World) :
    Calls Try.prog 31 #[.string s] w fun e w' => e = .returned (.bool (nameB s)) ∧ w = w' := by
  by_cases h1 : s.size < 1
  · rw [nameB_head s (by simp [okH]; omega)]
    have d1 : decide ((s.size : Int) < 1) = true := by simp; omega
    go_enter Try.func31, Try.ntmps31
    go_wp2_with fail
    go_ret
    exact ⟨rfl, rfl⟩
  · by_cases h2 : 24 < s.size
    · rw [nameB_head s (by simp [okH]; omega)]
      have d1 : decide ((s.size : Int) < 1) = false := by simp; omega
      have d2 : decide (24 < (s.size : Int)) = true := by simp; omega
      go_enter Try.func31, Try.ntmps31
      go_wp2_with fail
      go_ret
      exact ⟨rfl, rfl⟩
    · have h0 : 0 < s.size := by omega
      have hc0 := chAt_of s 0 h0
      have d1 : decide ((s.size : Int) < 1) = false := by simp; omega
      have d2 : decide (24 < (s.size : Int)) = false := by simp; omega
      by_cases h3 : okH s = true
      · have hh : 97 ≤ (s[0].toNat : Int) ∧ (s[0].toNat : Int) ≤ 122 := by simp [okH] at h3; omega
        obtain ⟨hh1, hh2⟩ := hh
        have HH := Lib.hid h3
        clear h3 hc0
        go_enter Try.func31, Try.ntmps31
        go_wp2_with fail
        go_loop [25] (fun i => ∃ k : Nat, k ≤ s.size ∧ i = .int .i64 k ∧ Hid (∀ j, j < k → okB (chAt s j) = true)) (fun i => s.size - (intOf i).toNat)
        case atStart => exact ⟨0, by omega, rfl, Lib.hid (by omega)⟩
        case round =>
          obtain ⟨k, hk, rfl, HA⟩ := hrel
          by_cases hlt : k < s.size
          · have hck := chAt_of s k hlt
            have HC := Lib.hid hck
            clear hck
            have hbyte : (s[k].toNat : Int) < 256 := by have := s[k].toNat_lt; omega
            by_cases hb : okB (s[k].toNat : Int) = true
            · have hA : Hid (∀ j, j < k + 1 → okB (chAt s j) = true) := Lib.hid (by
                intro j hj
                by_cases hjk : j < k
                · exact HA.out j hjk
                · obtain rfl : j = k := by omega
                  rw [HC.out]; exact hb)
              have hcl : ((s[k].toNat : Int) = 45) ∨ (48 ≤ (s[k].toNat : Int) ∧ (s[k].toNat : Int) ≤ 57) ∨ (97 ≤ (s[k].toNat : Int) ∧ (s[k].toNat : Int) ≤ 122) := by simp [okB] at hb; omega
              clear hb HA
              rcases hcl with hq | ⟨hq1, hq2⟩ | ⟨hq1, hq2⟩
              · have e1 : ((s[k].toNat : Int) != 45) = false := by simp; omega
                have q1 : (s[k].toNat : Int) < 48 := by omega
                have q2 : (s[k].toNat : Int) ≤ 122 := by omega
                clear hq
                go_wp2_with fail
                go_round
                case rel => exact ⟨k + 1, by omega, by go_num, hA⟩
                case measure => simp [intOf]; omega
              · have e1 : ((s[k].toNat : Int) != 45) = true := by simp; omega
                go_wp2_with fail
                go_round
                case rel => exact ⟨k + 1, by omega, by go_num, hA⟩
                case measure => simp [intOf]; omega
              · have e1 : ((s[k].toNat : Int) != 45) = true := by simp; omega
                go_wp2_with fail
                go_round
                case rel => exact ⟨k + 1, by omega, by go_num, hA⟩
                case measure => simp [intOf]; omega
            · have hno := nameB_no s k hlt (by rw [HC.out]; simpa using hb)
              have HNO := Lib.hid hno
              clear hno
              have hcl : ((s[k].toNat : Int) < 48) ∨ (57 < (s[k].toNat : Int) ∧ (s[k].toNat : Int) < 97) ∨ (122 < (s[k].toNat : Int)) := by simp [okB] at hb; omega
              have e1 : ((s[k].toNat : Int) != 45) = true := by simp [okB] at hb; simp; omega
              clear hb
              have hcl' : (decide (97 ≤ (s[k].toNat : Int)) = false ∧ decide (48 ≤ (s[k].toNat : Int)) = false ∧ (s[k].toNat : Int) < 48) ∨ (decide (97 ≤ (s[k].toNat : Int)) = false ∧ decide (48 ≤ (s[k].toNat : Int)) = true ∧ decide ((s[k].toNat : Int) ≤ 57) = false ∧ 57 < (s[k].toNat : Int) ∧ (s[k].toNat : Int) < 97) ∨
                  (decide (97 ≤ (s[k].toNat : Int)) = true ∧ decide ((s[k].toNat : Int) ≤ 122) = false ∧ decide (48 ≤ (s[k].toNat : Int)) = true ∧ decide ((s[k].toNat : Int) ≤ 57) = false ∧ 122 < (s[k].toNat : Int)) := by
                simp only [decide_eq_true_eq, decide_eq_false_iff_not]; omega
              clear hcl
              rcases hcl' with ⟨f1, f2, hq⟩ | ⟨f1, f2, f3, hq1, hq2⟩ | ⟨f1, f2, f3, f4, hq⟩
              all_goals
                go_wp2_with fail
                go_ret
                rw [HNO.out]
                exact ⟨rfl, rfl⟩
          · obtain rfl : k = s.size := by omega
            have hy := nameB_yes s HH.out HA.out
            have HY := Lib.hid hy
            clear hy
            go_wp2_with fail
            go_ret
            rw [HY.out]
            exact ⟨rfl, rfl⟩
      · rw [nameB_head s (by simpa using h3)]
        have hh : (s[0].toNat : Int) < 97 ∨ (97 ≤ (s[0].toNat : Int) ∧ 122 < (s[0].toNat : Int)) := by simp [okH] at h3; omega
        clear h3 hc0
        rcases hh with hh | ⟨hh1, hh2⟩
        all_goals
          go_enter Try.func31, Try.ntmps31
          go_wp2_with fail
          go_ret
          exact ⟨rfl, rfl⟩
set_option maxRecDepth 100000 in
set_option maxHeartbeats 1000000 in
theorem rname_any (s : ByteArray) (w : World) :
    Calls Try.prog 61 #[.string s] w fun e w' => e = .returned (.bool (nameB s)) ∧ w = w' := by
  by_cases h1 : s.size < 1
  · rw [nameB_head s (by simp [okH]; omega)]
    have d1 : decide ((s.size : Int) < 1) = true := by simp; omega
    go_enter Try.func61, Try.ntmps61
    go_wp2_with fail
    go_ret
    exact ⟨rfl, rfl⟩
  · by_cases h2 : 24 < s.size
    · rw [nameB_head s (by simp [okH]; omega)]
      have d1 : decide ((s.size : Int) < 1) = false := by simp; omega
      have d2 : decide (24 < (s.size : Int)) = true := by simp; omega
      go_enter Try.func61, Try.ntmps61
      go_wp2_with fail
      go_ret
      exact ⟨rfl, rfl⟩
    · have h0 : 0 < s.size := by omega
      have hc0 := chAt_of s 0 h0
      have d1 : decide ((s.size : Int) < 1) = false := by simp; omega
      have d2 : decide (24 < (s.size : Int)) = false := by simp; omega
      by_cases h3 : okH s = true
      · have hh : 97 ≤ (s[0].toNat : Int) ∧ (s[0].toNat : Int) ≤ 122 := by simp [okH] at h3; omega
        obtain ⟨hh1, hh2⟩ := hh
        have HH := Lib.hid h3
        clear h3 hc0
        go_enter Try.func61, Try.ntmps61
        go_wp2_with fail
        go_loop [3] (fun i => ∃ k : Nat, k ≤ s.size ∧ i = .int .i64 k ∧ Hid (∀ j, j < k → okB (chAt s j) = true)) (fun i => s.size - (intOf i).toNat)
        case atStart => exact ⟨0, by omega, rfl, Lib.hid (by omega)⟩
        case round =>
          obtain ⟨k, hk, rfl, HA⟩ := hrel
          by_cases hlt : k < s.size
          · have hck := chAt_of s k hlt
            have HC := Lib.hid hck
            clear hck
            have hbyte : (s[k].toNat : Int) < 256 := by have := s[k].toNat_lt; omega
            by_cases hb : okB (s[k].toNat : Int) = true
            · have hA : Hid (∀ j, j < k + 1 → okB (chAt s j) = true) := Lib.hid (by
                intro j hj
                by_cases hjk : j < k
                · exact HA.out j hjk
                · obtain rfl : j = k := by omega
                  rw [HC.out]; exact hb)
              have hcl : ((s[k].toNat : Int) = 45) ∨ (48 ≤ (s[k].toNat : Int) ∧ (s[k].toNat : Int) ≤ 57) ∨ (97 ≤ (s[k].toNat : Int) ∧ (s[k].toNat : Int) ≤ 122) := by simp [okB] at hb; omega
              clear hb HA
              rcases hcl with hq | ⟨hq1, hq2⟩ | ⟨hq1, hq2⟩
              · have e1 : ((s[k].toNat : Int) != 45) = false := by simp; omega
                have q1 : (s[k].toNat : Int) < 48 := by omega
                have q2 : (s[k].toNat : Int) ≤ 122 := by omega
                clear hq
                go_wp2_with fail
                go_round
                case rel => exact ⟨k + 1, by omega, by go_num, hA⟩
                case measure => simp [intOf]; omega
              · have e1 : ((s[k].toNat : Int) != 45) = true := by simp; omega
                go_wp2_with fail
                go_round
                case rel => exact ⟨k + 1, by omega, by go_num, hA⟩
                case measure => simp [intOf]; omega
              · have e1 : ((s[k].toNat : Int) != 45) = true := by simp; omega
                go_wp2_with fail
                go_round
                case rel => exact ⟨k + 1, by omega, by go_num, hA⟩
                case measure => simp [intOf]; omega
            · have hno := nameB_no s k hlt (by rw [HC.out]; simpa using hb)
              have HNO := Lib.hid hno
              clear hno
              have hcl : ((s[k].toNat : Int) < 48) ∨ (57 < (s[k].toNat : Int) ∧ (s[k].toNat : Int) < 97) ∨ (122 < (s[k].toNat : Int)) := by simp [okB] at hb; omega
              have e1 : ((s[k].toNat : Int) != 45) = true := by simp [okB] at hb; simp; omega
              clear hb
              have hcl' : (decide (97 ≤ (s[k].toNat : Int)) = false ∧ decide (48 ≤ (s[k].toNat : Int)) = false ∧ (s[k].toNat : Int) < 48) ∨ (decide (97 ≤ (s[k].toNat : Int)) = false ∧ decide (48 ≤ (s[k].toNat : Int)) = true ∧ decide ((s[k].toNat : Int) ≤ 57) = false ∧ 57 < (s[k].toNat : Int) ∧ (s[k].toNat : Int) < 97) ∨
                  (decide (97 ≤ (s[k].toNat : Int)) = true ∧ decide ((s[k].toNat : Int) ≤ 122) = false ∧ decide (48 ≤ (s[k].toNat : Int)) = true ∧ decide ((s[k].toNat : Int) ≤ 57) = false ∧ 122 < (s[k].toNat : Int)) := by
                simp only [decide_eq_true_eq, decide_eq_false_iff_not]; omega
              clear hcl
              rcases hcl' with ⟨f1, f2, hq⟩ | ⟨f1, f2, f3, hq1, hq2⟩ | ⟨f1, f2, f3, f4, hq⟩
              all_goals
                go_wp2_with fail
                go_ret
                rw [HNO.out]
                exact ⟨rfl, rfl⟩
          · obtain rfl : k = s.size := by omega
            have hy := nameB_yes s HH.out HA.out
            have HY := Lib.hid hy
            clear hy
            go_wp2_with fail
            go_ret
            rw [HY.out]
            exact ⟨rfl, rfl⟩
      · rw [nameB_head s (by simpa using h3)]
        have hh : (s[0].toNat : Int) < 97 ∨ (97 ≤ (s[0].toNat : Int) ∧ 122 < (s[0].toNat : Int)) := by simp [okH] at h3; omega
        clear h3 hc0
        rcases hh with hh | ⟨hh1, hh2⟩
        all_goals
          go_enter Try.func61, Try.ntmps61
          go_wp2_with fail
          go_ret
          exact ⟨rfl, rfl⟩
end Go.Proofs.Ytijdlggoaianbaa
