/-
  A right game's days, minute, close and expiry; what Draw answers. Plain lemmas.
-/
import Derived.Test.YtijdlggoaianbaaChkF
import Derived.Test.YtijdlggoaianbaaSchedP
set_option linter.unusedVariables false
namespace Go.Proofs.Ytijdlggoaianbaa
open Go.RowKit
theorem sch_facts {g : Gm} (h : chkE g = 0) : 1 ≤ g.days ∧ g.days ≤ 127 ∧ 0 ≤ g.at_ ∧ g.at_ ≤ 1439 ∧ 0 ≤ g.close ∧ g.close ≤ 1440 ∧ 1 ≤ g.expiry ∧ g.expiry ≤ 3660 := by
  have h1 := (chkE_facts h).1
  unfold headB at h1
  simp at h1
  have h2 := h1.2
  unfold badT at h2
  simp at h2
  have q1 := inR_of h2.1.1.1.1.1.1.1.1.1
  have q2 := inR_of h2.1.1.1.1.1.1.1.1.2
  have q3 := inR_of h2.1.1.1.1.1.1.1.2
  have q4 := inR_of h2.1.1.1.1.1.2
  omega
def dD (g : Gm) : Nat := g.days.toNat
def drE (g : Gm) (n : Int) : Int := if chkE g ≠ 0 then chkE g else if n < 1 then 2 else if 1073741824 < drT (dD g) g.at_ (n - 1).toNat then 2 else 0
def drV (g : Gm) (n : Int) : Int := if drE g n = 0 then drT (dD g) g.at_ (n - 1).toNat else 0
structure DF (g : Gm) (d : Nat) : Prop where
  hd : d < 128
  h0 : d ≠ 0
  days : g.days = (d : Int)
  dd : dD g = d
  a0 : 0 ≤ g.at_
  a1 : g.at_ ≤ 1439
  c0 : 0 ≤ g.close
  c1 : g.close ≤ 1440
  e0 : 1 ≤ g.expiry
  e1 : g.expiry ≤ 3660
theorem df_of {g : Gm} (h : chkE g = 0) : ∃ d, DF g d := by
  have := sch_facts h
  exact ⟨g.days.toNat, by omega, by omega, by omega, rfl, by omega, by omega, by omega, by omega, by omega, by omega⟩
theorem dr_err {g : Gm} (h : chkE g ≠ 0) (n : Int) : drE g n = chkE g ∧ drV g n = 0 := by
  have : drE g n = chkE g := by unfold drE; rw [if_pos h]
  exact ⟨this, by unfold drV; rw [this, if_neg h]⟩
theorem dr_low {g : Gm} (h : chkE g = 0) {n : Int} (hn : n < 1) : drE g n = 2 ∧ drV g n = 0 := by
  have : drE g n = 2 := by unfold drE; rw [if_neg (by omega), if_pos hn]
  exact ⟨this, by unfold drV; rw [this, if_neg (by omega)]⟩
theorem dr_far {g : Gm} {d : Nat} (h : chkE g = 0) (hd : DF g d) {m : Nat} (hm : 1073741824 < drT d g.at_ m) : drE g ((m : Int) + 1) = 2 ∧ drV g ((m : Int) + 1) = 0 := by
  have e : ((m : Int) + 1 - 1).toNat = m := by omega
  have : drE g ((m : Int) + 1) = 2 := by unfold drE; rw [if_neg (by omega), if_neg (by omega), e, hd.dd, if_pos hm]
  exact ⟨this, by unfold drV; rw [this, if_neg (by omega)]⟩
theorem dr_ok {g : Gm} {d : Nat} (h : chkE g = 0) (hd : DF g d) {m : Nat} (hm : ¬ 1073741824 < drT d g.at_ m) : drE g ((m : Int) + 1) = 0 ∧ drV g ((m : Int) + 1) = drT d g.at_ m := by
  have e : ((m : Int) + 1 - 1).toNat = m := by omega
  have : drE g ((m : Int) + 1) = 0 := by unfold drE; rw [if_neg (by omega), if_neg (by omega), e, hd.dd, if_neg hm]
  exact ⟨this, by unfold drV; rw [this, if_pos rfl, e, hd.dd]⟩
theorem dr_weeks {d : Nat} {a : Int} (h0 : 0 ≤ a) {m : Nat} (h : 106522 < m / pcD d) : 1073741824 < drT d a m := by
  unfold drT
  generalize m / pcD d = x at *
  omega
end Go.Proofs.Ytijdlggoaianbaa
