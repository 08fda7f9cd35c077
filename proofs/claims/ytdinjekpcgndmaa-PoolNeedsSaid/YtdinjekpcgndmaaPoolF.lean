/-
  LAYER 36, plain: what the pools of a draw sum to; how they relate to needs and carry. Plain lemmas.
-/
import Derived.Test.YtdinjekpcgndmaaPoolA
set_option linter.unusedVariables false
namespace Go.Proofs.Ytdinjekpcgndmaa
open Go.RowKit
structure AlF (g : Gm) (s : Int) (cs ct : List Int) (cr cl : Int) : Prop where
  ch : chkE g = 0
  fu : fuE g s = 0
  s01 : 0 ≤ s ∧ s ≤ 1000000000000
  B0 : 0 ≤ fuB g s
  BA : fuB g s ≤ fuA g s
  As : fuA g s ≤ s
  csl : cs.length = g.tiers.length
  cb : ∀ i, i < cs.length → 0 ≤ cs.getD i 0 ∧ cs.getD i 0 ≤ 2097152
  ctl : ct.length = g.tiers.length
  tb : ∀ i, i < ct.length → 0 ≤ ct.getD i 0 ∧ ct.getD i 0 ≤ 1000000000000 ∧ (isK g.tiers true i = true → ct.getD i 0 = 0)
  r01 : 0 ≤ cr ∧ cr ≤ 1000000000000
  l01 : 0 ≤ cl ∧ cl ≤ 64
  av : fuA g s + cr ≤ 1000000000000
  nd : spT (ndL g.tiers cs) ≤ 1000000000000
  hi : ∀ i, i < g.tiers.length → (tlL g.tiers cs ct (fuA g s) (fuB g s) cr).getD i 0 ≤ 1000000000000
theorem alE_facts {g : Gm} {s : Int} {cs ct : List Int} {cr cl : Int} (h : alE g s cs ct cr cl = 0) : AlF g s cs ct cr cl := by
  unfold alE at h
  split at h
  · rename_i h1; exact absurd h h1
  rename_i h1
  have h1 : fuE g s = 0 := by omega
  split at h
  · rename_i h2; exact absurd h h2
  rename_i h2
  have h2 : agE g.tiers cs ct cr cl = 0 := by omega
  split at h
  · simp at h
  rename_i h3
  split at h
  · simp at h
  rename_i h4
  obtain ⟨q1, q2, q3, q4, q5⟩ := fuE_facts h1
  obtain ⟨p1, p2, p3, p4, p5, p6⟩ := agE_facts h2
  refine ⟨q1, h1, q2, q3, q4, q5, p1, p2, p3, p4, p5, p6, by omega, by omega, fun i hi => ?_⟩
  refine Int.not_lt.1 fun hn => h4 (hiB_yes (k := i) (by rw [tlL_len]; exact hi) hn)
theorem sumTo_nil : ∀ k, sumTo [] k = 0 := by
  intro k
  induction k with
  | zero => rfl
  | succ k ih => rw [sumTo, ih]; rfl
section
variable {g : Gm} {s : Int} {cs ct : List Int} {cr cl : Int}
theorem AlF.S01 (h : AlF g s cs ct cr cl) : 0 ≤ pdS g.tiers cs (fuA g s + cr) ∧ pdS g.tiers cs (fuA g s + cr) ≤ fuA g s + cr := by
  have hs := (spT_nonneg (fun x hx => (nd_bd h.ch h.csl h.cb x hx).1)).1
  have a := h.B0; have b := h.BA; have c := h.r01
  unfold pdS ovN
  by_cases ho : fuA g s + cr < spT (ndL g.tiers cs)
  · rw [if_pos (by simpa using ho)]; omega
  · rw [if_neg (by simpa using ho)]; omega
theorem AlF.ov (h : AlF g s cs ct cr cl) (ho : ovN g.tiers cs (fuA g s + cr) = true) : spE (fuA g s + cr) (ndL g.tiers cs) = 0 := by
  have a := h.B0; have b := h.BA; have c := h.r01
  exact nd_split h.ch h.csl h.cb (by omega) h.av h.nd ho
theorem AlF.R01 (h : AlF g s cs ct cr cl) : 0 ≤ rsT g.tiers cs (fuA g s) (fuB g s) cr ∧ rsT g.tiers cs (fuA g s) (fuB g s) cr ≤ 1000000000000 := by
  have a := h.S01; have b := h.B0; have c := h.As; have d := h.s01
  unfold rsT; omega
theorem AlF.pd_sum (h : AlF g s cs ct cr cl) : sumTo (pdL g.tiers cs (fuA g s + cr)) (cntK g.tiers true g.tiers.length) = pdS g.tiers cs (fuA g s + cr) := by
  unfold pdL pdS
  by_cases ho : ovN g.tiers cs (fuA g s + cr) = true
  · rw [if_pos ho, if_pos ho]
    have := spL_sum (h.ov ho)
    rw [ndL_len] at this
    exact this
  · rw [if_neg ho, if_neg ho]
    unfold spT
    rw [ndL_len]
/-- the pools of the fixed tiers together -/
theorem AlF.fix (h : AlF g s cs ct cr cl) : sumK g.tiers true (tlL g.tiers cs ct (fuA g s) (fuB g s) cr) g.tiers.length = pdS g.tiers cs (fuA g s + cr) := by
  rw [sumK_sel (L := pdL g.tiers cs (fuA g s + cr)) (m := []) g.tiers.length (fun i hi hk => by rw [tlL_at hi, if_pos hk]; simp), h.pd_sum, sumK_nil]
  omega
theorem AlF.sh_sum (h : AlF g s cs ct cr cl) : sumTo (shL g.tiers (rsT g.tiers cs (fuA g s) (fuB g s) cr)) (cntK g.tiers false g.tiers.length) = if dvB g.tiers = true then rsT g.tiers cs (fuA g s) (fuB g s) cr else 0 := by
  obtain ⟨r0, r1⟩ := h.R01
  unfold shL
  by_cases hd : dvB g.tiers = true
  · rw [if_pos hd, if_pos hd]
    have := spL_sum (vs_split h.ch r0 r1 hd)
    rw [vsL_len] at this
    exact this
  · rw [if_neg hd, if_neg hd, sumTo_nil]
/-- the pools of the other tiers together -/
theorem AlF.oth (h : AlF g s cs ct cr cl) : sumK g.tiers false (tlL g.tiers cs ct (fuA g s) (fuB g s) cr) g.tiers.length = (if dvB g.tiers = true then rsT g.tiers cs (fuA g s) (fuB g s) cr else 0) + sumK g.tiers false ct g.tiers.length := by
  rw [sumK_sel (L := shL g.tiers (rsT g.tiers cs (fuA g s) (fuB g s) cr)) (m := ct) g.tiers.length (fun i hi hk => by
    rw [tlL_at hi, if_neg (by rw [isK_not] at hk; simpa using hk)]; omega), h.sh_sum]
theorem AlF.pd_le (h : AlF g s cs ct cr cl) {m : Nat} (hm : m < cntK g.tiers true g.tiers.length) : 0 ≤ (pdL g.tiers cs (fuA g s + cr)).getD m 0 ∧ (pdL g.tiers cs (fuA g s + cr)).getD m 0 ≤ (ndL g.tiers cs).getD m 0 := by
  have hl := ndL_len g.tiers cs
  unfold pdL
  by_cases ho : ovN g.tiers cs (fuA g s + cr) = true
  · rw [if_pos ho]
    have hv := h.ov ho
    refine ⟨spL_nonneg hv (by omega), spL_le hv ?_ (by omega)⟩
    unfold ovN at ho; simp at ho; omega
  · rw [if_neg ho]
    have hb := nd_bd h.ch h.csl h.cb (ndL g.tiers cs)[m] (List.getElem_mem (by omega))
    have e : (ndL g.tiers cs).getD m 0 = (ndL g.tiers cs)[m] := by simp [List.getD, show m < (ndL g.tiers cs).length by omega]
    omega
theorem AlF.nd_at (h : AlF g s cs ct cr cl) {i : Nat} (hi : i < g.tiers.length) (hk : isK g.tiers true i = true) : (ndL g.tiers cs).getD (cntK g.tiers true i) 0 = vl g.tiers i * cs.getD i 0 := selP_at hk _ hi
/-- the pool of a fixed tier -/
theorem AlF.at_fix (h : AlF g s cs ct cr cl) {i : Nat} (hi : i < g.tiers.length) (hk : isK g.tiers true i = true) :
    0 ≤ (tlL g.tiers cs ct (fuA g s) (fuB g s) cr).getD i 0 ∧ (tlL g.tiers cs ct (fuA g s) (fuB g s) cr).getD i 0 ≤ vl g.tiers i * cs.getD i 0 ∧
    ((tlL g.tiers cs ct (fuA g s) (fuB g s) cr).getD i 0 < vl g.tiers i * cs.getD i 0 → pdS g.tiers cs (fuA g s + cr) = fuA g s + cr) ∧ (¬ fuA g s + cr < spT (ndL g.tiers cs) → (tlL g.tiers cs ct (fuA g s) (fuB g s) cr).getD i 0 = vl g.tiers i * cs.getD i 0) := by
  have hm := cntK_lt hi hk
  have hp := h.pd_le hm
  rw [h.nd_at hi hk] at hp
  rw [tlL_at hi, if_pos hk]
  refine ⟨hp.1, hp.2, fun hlt => ?_, fun ho => ?_⟩
  · unfold pdS
    by_cases ho : ovN g.tiers cs (fuA g s + cr) = true
    · rw [if_pos ho]
    · exfalso
      unfold pdL at hlt
      rw [if_neg ho, h.nd_at hi hk] at hlt
      omega
  · have ho' : ¬ ovN g.tiers cs (fuA g s + cr) = true := by unfold ovN; simpa using ho
    unfold pdL
    rw [if_neg ho', h.nd_at hi hk]
/-- the pool of another tier -/
theorem AlF.at_oth (h : AlF g s cs ct cr cl) {i : Nat} (hi : i < g.tiers.length) (hk : isK g.tiers true i = false) : ct.getD i 0 ≤ (tlL g.tiers cs ct (fuA g s) (fuB g s) cr).getD i 0 := by
  rw [tlL_at hi, if_neg (by simp [hk])]
  have hk2 : isK g.tiers false i = true := by rw [isK_not, hk]; rfl
  have hm := cntK_lt hi hk2
  obtain ⟨r0, r1⟩ := h.R01
  have : 0 ≤ (shL g.tiers (rsT g.tiers cs (fuA g s) (fuB g s) cr)).getD (cntK g.tiers false i) 0 := by
    unfold shL
    by_cases hd : dvB g.tiers = true
    · rw [if_pos hd]
      exact spL_nonneg (vs_split h.ch r0 r1 hd) (by rw [vsL_len]; exact hm)
    · rw [if_neg hd]; simp
  omega
theorem AlF.tl01 (h : AlF g s cs ct cr cl) : ∀ j, j < (tlL g.tiers cs ct (fuA g s) (fuB g s) cr).length → 0 ≤ (tlL g.tiers cs ct (fuA g s) (fuB g s) cr).getD j 0 ∧ (tlL g.tiers cs ct (fuA g s) (fuB g s) cr).getD j 0 ≤ 1000000000000 := by
  intro j hj
  rw [tlL_len] at hj
  refine ⟨?_, h.hi j hj⟩
  by_cases hk : isK g.tiers true j = true
  · exact (h.at_fix hj hk).1
  · have := h.at_oth hj (by simpa using hk)
    have := (h.tb j (by rw [h.ctl]; exact hj)).1
    omega
end
end Go.Proofs.Ytdinjekpcgndmaa
