/-
  Hits of the add-ons (layer 40) and of its reference: the number of last digits that agree.
-/
import Derived.Test.YtdbkkbeelemnhaaRd
import Derived.BigQuiet
import Derived.IntWalk
set_option linter.unusedVariables false
namespace Go.Proofs.Ytdbkkbeelemnhaa
open Go.RowKit
def byteAt (s : ByteArray) (i : Nat) : Int := ((s.data.toList.getD i 0).toNat : Int)
/-- n last bytes of two strings agree, and no more -/
def IsHits (s t : ByteArray) (n : Nat) : Prop :=
  (s.size ≠ t.size ∧ n = 0) ∨ (s.size = t.size ∧ n ≤ s.size ∧ (∀ j, j < n → byteAt s (s.size - 1 - j) = byteAt t (s.size - 1 - j)) ∧ (n < s.size → byteAt s (s.size - 1 - n) ≠ byteAt t (s.size - 1 - n)))
theorem ByteArray_get (s : ByteArray) (q : Nat) (h : q < s.size) : s[q]? = some s[q] := by simp [h]
theorem byteAt_of {s : ByteArray} {q : Nat} {b : UInt8} (h : s[q]? = some b) : byteAt s q = b.toNat := by
  have hq : q < s.size := by
    rcases Nat.lt_or_ge q s.size with h1 | h1
    · exact h1
    · simp [show ¬ q < s.size by omega] at h
  have : s[q] = b := by
    rw [ByteArray_get s q hq] at h
    simpa using h
  unfold byteAt
  have hl : s.data.toList.getD q 0 = s[q] := by
    have : q < s.data.toList.length := by simpa using hq
    simp only [List.getD, List.getElem?_eq_getElem this, Option.getD_some, Array.getElem_toList]
    rfl
  rw [hl, this]
set_option maxHeartbeats 1000000 in
theorem hits_any (s t : ByteArray) (w : World) (hs : s.size ≤ maxLen) (ht : t.size ≤ maxLen) :
    Calls Try.prog 14 #[.string s, .string t] w fun e w' => ∃ n, IsHits s t n ∧ e = .returned (.int .i64 (n : Nat)) ∧ Fr [] w w' := by
  unfold maxLen at hs ht
  by_cases hne : s.size = t.size
  · have e0 : ((s.size : Int) != (t.size : Int)) = false := by simp [hne]
    have e0' : (s.size != t.size) = false := by simp [hne]
    have hne' : s.size ≤ t.size ∧ t.size ≤ s.size := by omega
    have HN := Lib.hid hne
    clear hne
    go_enter Try.func14, Try.ntmps14
    go_wp2_with fail
    go_loopw [5] (fun i wr => ∃ k : Nat, k ≤ s.size ∧ i = .int .i64 k ∧ Hid (∀ j, j < k → byteAt s (s.size - 1 - j) = byteAt t (s.size - 1 - j)) ∧ Fr [] w wr) (fun i _ => s.size - (intOf i).toNat)
    case atStart => exact ⟨0, by omega, rfl, Lib.hid (by omega), Fr.refl _ _⟩
    case round =>
      obtain ⟨k, hk, rfl, HA, hf⟩ := hrel
      by_cases hlt : k < s.size
      · have i1 : (k : Int) < (s.size : Int) := by omega
        have d1 : decide ((k : Int) < (s.size : Int)) = true := by simpa using hlt
        have d2 : decide (k < s.size) = true := by simpa using hlt
        obtain ⟨q, hq⟩ : ∃ q, q = s.size - 1 - k := ⟨_, rfl⟩
        have hq1 : q < s.size := by omega
        have hq2 : q < t.size := by omega
        have hb' := byteAt_of (ByteArray_get s q hq1)
        have hc' := byteAt_of (ByteArray_get t q hq2)
        have r1 : IntKind.i64.wrap ((s.size : Int) - 1) = (s.size : Int) - 1 := IntWalk.i64_in _ (by omega)
        have r2 : IntKind.i64.wrap ((s.size : Int) - 1 - k) = (q : Int) := by rw [IntWalk.i64_in _ (by omega)]; omega
        have r3 : IntKind.i64.wrap ((t.size : Int) - 1) = (t.size : Int) - 1 := IntWalk.i64_in _ (by omega)
        have r4 : IntKind.i64.wrap ((t.size : Int) - 1 - k) = (q : Int) := by rw [IntWalk.i64_in _ (by omega)]; omega
        have HQ := Lib.hid hq
        have HB := Lib.hid hb'
        have HC := Lib.hid hc'
        clear hq hb' hc'
        by_cases he : (s[q].toNat : Int) = (t[q].toNat : Int)
        · have e1 : ((s[q].toNat : Int) == (t[q].toNat : Int)) = true := by simpa using he
          have e2 : (s[q].toNat == t[q].toNat) = true := by simp; omega
          have HE := Lib.hid he
          clear he
          go_wp2_with fail
          go_quiet (fail)
          clear r1 r2 r3 r4
          go_wp2
          refine ⟨⟨k + 1, by omega, by go_num, Lib.hid fun j hj => ?_, hf.drewN _⟩, by simp [intOf]; omega⟩
          by_cases hjk : j < k
          · exact HA.out j hjk
          · obtain rfl : j = k := by omega
            rw [← HQ.out, HB.out, HC.out, HE.out]
        · have e1 : ((s[q].toNat : Int) == (t[q].toNat : Int)) = false := by simpa using he
          have e2 : (s[q].toNat == t[q].toNat) = false := by simp; omega
          have HE := Lib.hid he
          clear he
          go_wp2_with fail
          go_quiet (fail)
          clear r1 r2 r3 r4
          go_wp2
          go_ret
          exact ⟨k, .inr ⟨HN.out, hk, HA.out, fun _ => by rw [← HQ.out, HB.out, HC.out]; exact HE.out⟩, rfl, hf.drewN _⟩
      · obtain rfl : k = s.size := by omega
        have d1 : decide ((s.size : Int) < (s.size : Int)) = false := by simp
        go_wp2_with fail
        go_quiet (fail)
        go_wp2
        go_ret
        exact ⟨_, .inr ⟨HN.out, Nat.le_refl _, HA.out, fun h => absurd h (by omega)⟩, rfl, hf.drewN _⟩
  · have e0 : ((s.size : Int) != (t.size : Int)) = true := by simp; omega
    have e0' : (s.size != t.size) = true := by simp [hne]
    have HN := Lib.hid hne
    clear hne
    go_enter Try.func14, Try.ntmps14
    go_wp2_with fail
    go_ret
    exact ⟨0, .inl ⟨HN.out, rfl⟩, rfl, Fr.refl _ _⟩
set_option maxHeartbeats 1000000 in
theorem rhits_any (s t : ByteArray) (w : World) (hs : s.size ≤ maxLen) (ht : t.size ≤ maxLen) :
    Calls Try.prog 15 #[.string s, .string t] w fun e w' => ∃ n, IsHits s t n ∧ e = .returned (.int .i64 (n : Nat)) ∧ Fr [] w w' := by
  unfold maxLen at hs ht
  by_cases hne : s.size = t.size
  · have e0 : ((s.size : Int) != (t.size : Int)) = false := by simp [hne]
    have e0' : (s.size != t.size) = false := by simp [hne]
    have hne' : s.size ≤ t.size ∧ t.size ≤ s.size := by omega
    have HN := Lib.hid hne
    clear hne
    go_enter Try.func15, Try.ntmps15
    go_wp2_with fail
    go_loopw [6] (fun i wr => ∃ k : Nat, k ≤ s.size ∧ i = .int .i64 k ∧ Hid (∀ j, j < k → byteAt s (s.size - 1 - j) = byteAt t (s.size - 1 - j)) ∧ Fr [] w wr) (fun i _ => s.size - (intOf i).toNat)
    case atStart => exact ⟨0, by omega, rfl, Lib.hid (by omega), Fr.refl _ _⟩
    case round =>
      obtain ⟨k, hk, rfl, HA, hf⟩ := hrel
      by_cases hlt : k < s.size
      · have i1 : (k : Int) < (s.size : Int) := by omega
        have d1 : decide ((k : Int) < (s.size : Int)) = true := by simpa using hlt
        have d2 : decide (k < s.size) = true := by simpa using hlt
        obtain ⟨q, hq⟩ : ∃ q, q = s.size - 1 - k := ⟨_, rfl⟩
        have hq1 : q < s.size := by omega
        have hq2 : q < t.size := by omega
        have hb' := byteAt_of (ByteArray_get s q hq1)
        have hc' := byteAt_of (ByteArray_get t q hq2)
        have r1 : IntKind.i64.wrap ((s.size : Int) - 1) = (s.size : Int) - 1 := IntWalk.i64_in _ (by omega)
        have r2 : IntKind.i64.wrap ((s.size : Int) - 1 - k) = (q : Int) := by rw [IntWalk.i64_in _ (by omega)]; omega
        have r3 : IntKind.i64.wrap ((t.size : Int) - 1) = (t.size : Int) - 1 := IntWalk.i64_in _ (by omega)
        have r4 : IntKind.i64.wrap ((t.size : Int) - 1 - k) = (q : Int) := by rw [IntWalk.i64_in _ (by omega)]; omega
        have HQ := Lib.hid hq
        have HB := Lib.hid hb'
        have HC := Lib.hid hc'
        clear hq hb' hc'
        by_cases he : (s[q].toNat : Int) = (t[q].toNat : Int)
        · have e1 : ((s[q].toNat : Int) == (t[q].toNat : Int)) = true := by simpa using he
          have e2 : (s[q].toNat == t[q].toNat) = true := by simp; omega
          have HE := Lib.hid he
          clear he
          go_wp2_with fail
          go_quiet (fail)
          clear r1 r2 r3 r4
          go_wp2
          refine ⟨⟨k + 1, by omega, by go_num, Lib.hid fun j hj => ?_, hf.drewN _⟩, by simp [intOf]; omega⟩
          by_cases hjk : j < k
          · exact HA.out j hjk
          · obtain rfl : j = k := by omega
            rw [← HQ.out, HB.out, HC.out, HE.out]
        · have e1 : ((s[q].toNat : Int) == (t[q].toNat : Int)) = false := by simpa using he
          have e2 : (s[q].toNat == t[q].toNat) = false := by simp; omega
          have HE := Lib.hid he
          clear he
          go_wp2_with fail
          go_quiet (fail)
          clear r1 r2 r3 r4
          go_wp2
          go_ret
          exact ⟨k, .inr ⟨HN.out, hk, HA.out, fun _ => by rw [← HQ.out, HB.out, HC.out]; exact HE.out⟩, rfl, hf.drewN _⟩
      · obtain rfl : k = s.size := by omega
        have d1 : decide ((s.size : Int) < (s.size : Int)) = false := by simp
        go_wp2_with fail
        go_quiet (fail)
        go_wp2
        go_ret
        exact ⟨_, .inr ⟨HN.out, Nat.le_refl _, HA.out, fun h => absurd h (by omega)⟩, rfl, hf.drewN _⟩
  · have e0 : ((s.size : Int) != (t.size : Int)) = true := by simp; omega
    have e0' : (s.size != t.size) = true := by simp [hne]
    have HN := Lib.hid hne
    clear hne
    go_enter Try.func15, Try.ntmps15
    go_wp2_with fail
    go_ret
    exact ⟨0, .inl ⟨HN.out, rfl⟩, rfl, Fr.refl _ _⟩
theorem IsHits.eq {s t : ByteArray} {n m : Nat} (h : IsHits s t n) (k : IsHits s t m) : n = m := by
  rcases h with ⟨h1, h2⟩ | ⟨h1, h2, h3, h4⟩
  · rcases k with ⟨k1, k2⟩ | ⟨k1, _⟩
    · omega
    · exact absurd k1 h1
  · rcases k with ⟨k1, _⟩ | ⟨k1, k2, k3, k4⟩
    · exact absurd h1 k1
    · rcases Nat.lt_trichotomy n m with hl | hl | hl
      · exact absurd (k3 n hl) (h4 (by omega))
      · exact hl
      · exact absurd (h3 m hl) (k4 (by omega))
theorem IsHits.symm {s t : ByteArray} {n : Nat} (h : IsHits s t n) : IsHits t s n := by
  rcases h with ⟨h1, h2⟩ | ⟨h1, h2, h3, h4⟩
  · exact .inl ⟨fun e => h1 e.symm, h2⟩
  · refine .inr ⟨h1.symm, by omega, fun j hj => ?_, fun hn => ?_⟩
    · rw [← h1]; exact (h3 j hj).symm
    · rw [← h1]; exact fun e => h4 (by omega) e.symm
theorem IsHits.le {s t : ByteArray} {n : Nat} (h : IsHits s t n) : n ≤ s.size := by
  rcases h with ⟨_, h2⟩ | ⟨_, h2, _⟩ <;> omega
end Go.Proofs.Ytdbkkbeelemnhaa
