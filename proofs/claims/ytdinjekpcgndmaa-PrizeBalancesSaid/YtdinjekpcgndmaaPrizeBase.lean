/-
  PrizeBase: 18 texts in one, each with its own heading.
-/
import Derived.Test.YtdinjekpcgndmaaPoolA
import Derived.Test.YtdinjekpcgndmaaTisF
import Derived.Test.YtdinjekpcgndmaaCap
import Derived.Test.YtdinjekpcgndmaaRollF
import Derived.Test.YtdinjekpcgndmaaCheck
import Derived.Deep.WholeRow
import Derived.Test.YtdinjekpcgndmaaNew
import Derived.Test.YtdinjekpcgndmaaFund
import Derived.Test.YtdinjekpcgndmaaPart
import Derived.IntWalk
import Derived.Deep.DeepCutAuto
import Derived.Deep.CutBlock
import Derived.Test.YtdinjekpcgndmaaAppI
import Derived.Deep.AppendLies
import Derived.BigQuiet
import Derived.Deep.RegionHeld3
import Derived.Test.YtdinjekpcgndmaaGameW
import Derived.Test.YtdinjekpcgndmaaPoolP
import Derived.Test.YtdinjekpcgndmaaFlow
import Derived.Test.YtdinjekpcgndmaaTier2
/-
  LAYER 36, plain: what the pools of a draw sum to; how they relate to needs and carry. Plain lemmas.
-/
set_option linter.unusedVariables false
namespace Go.Proofs.Ytdinjekpcgndmaa
open Go.RowKit
structure AlF (g : Gm) (s : Int) (cs ct : List Int) (cr cl : Int) : Prop where
  ch : chkE g = 0
  fu : fuE g s = 0
  s01 : 0 ≤ s ∧ s ≤ 1000000000000
  B0 : 0 ≤ fuB g s
  BA : fuB g s ≤ fuA g s
  As : fuA g s ≤ s
  csl : cs.length = g.tiers.length
  cb : ∀ i, i < cs.length → 0 ≤ cs.getD i 0 ∧ cs.getD i 0 ≤ 2097152
  ctl : ct.length = g.tiers.length
  tb : ∀ i, i < ct.length → 0 ≤ ct.getD i 0 ∧ ct.getD i 0 ≤ 1000000000000 ∧ (isK g.tiers true i = true → ct.getD i 0 = 0)
  r01 : 0 ≤ cr ∧ cr ≤ 1000000000000
  l01 : 0 ≤ cl ∧ cl ≤ 64
  av : fuA g s + cr ≤ 1000000000000
  nd : spT (ndL g.tiers cs) ≤ 1000000000000
  hi : ∀ i, i < g.tiers.length → (tlL g.tiers cs ct (fuA g s) (fuB g s) cr).getD i 0 ≤ 1000000000000
theorem alE_facts {g : Gm} {s : Int} {cs ct : List Int} {cr cl : Int} (h : alE g s cs ct cr cl = 0) : AlF g s cs ct cr cl := by
  unfold alE at h
  split at h
  · rename_i h1; exact absurd h h1
  rename_i h1
  have h1 : fuE g s = 0 := by omega
  split at h
  · rename_i h2; exact absurd h h2
  rename_i h2
  have h2 : agE g.tiers cs ct cr cl = 0 := by omega
  split at h
  · simp at h
  rename_i h3
  split at h
  · simp at h
  rename_i h4
  obtain ⟨q1, q2, q3, q4, q5⟩ := fuE_facts h1
  obtain ⟨p1, p2, p3, p4, p5, p6⟩ := agE_facts h2
  refine ⟨q1, h1, q2, q3, q4, q5, p1, p2, p3, p4, p5, p6, by omega, by omega, fun i hi => ?_⟩
  refine Int.not_lt.1 fun hn => h4 (hiB_yes (k := i) (by rw [tlL_len]; exact hi) hn)
theorem sumTo_nil : ∀ k, sumTo [] k = 0 := by
  intro k
  induction k with
  | zero => rfl
  | succ k ih => rw [sumTo, ih]; rfl
section
variable {g : Gm} {s : Int} {cs ct : List Int} {cr cl : Int}
theorem AlF.S01 (h : AlF g s cs ct cr cl) : 0 ≤ pdS g.tiers cs (fuA g s + cr) ∧ pdS g.tiers cs (fuA g s + cr) ≤ fuA g s + cr := by
  have hs := (spT_nonneg (fun x hx => (nd_bd h.ch h.csl h.cb x hx).1)).1
  have a := h.B0; have b := h.BA; have c := h.r01
  unfold pdS ovN
  by_cases ho : fuA g s + cr < spT (ndL g.tiers cs)
  · rw [if_pos (by simpa using ho)]; omega
  · rw [if_neg (by simpa using ho)]; omega
theorem AlF.ov (h : AlF g s cs ct cr cl) (ho : ovN g.tiers cs (fuA g s + cr) = true) : spE (fuA g s + cr) (ndL g.tiers cs) = 0 := by
  have a := h.B0; have b := h.BA; have c := h.r01
  exact nd_split h.ch h.csl h.cb (by omega) h.av h.nd ho
theorem AlF.R01 (h : AlF g s cs ct cr cl) : 0 ≤ rsT g.tiers cs (fuA g s) (fuB g s) cr ∧ rsT g.tiers cs (fuA g s) (fuB g s) cr ≤ 1000000000000 := by
  have a := h.S01; have b := h.B0; have c := h.As; have d := h.s01
  unfold rsT; omega
theorem AlF.pd_sum (h : AlF g s cs ct cr cl) : sumTo (pdL g.tiers cs (fuA g s + cr)) (cntK g.tiers true g.tiers.length) = pdS g.tiers cs (fuA g s + cr) := by
  unfold pdL pdS
  by_cases ho : ovN g.tiers cs (fuA g s + cr) = true
  · rw [if_pos ho, if_pos ho]
    have := spL_sum (h.ov ho)
    rw [ndL_len] at this
    exact this
  · rw [if_neg ho, if_neg ho]
    unfold spT
    rw [ndL_len]
/-- the pools of the fixed tiers together -/
theorem AlF.fix (h : AlF g s cs ct cr cl) : sumK g.tiers true (tlL g.tiers cs ct (fuA g s) (fuB g s) cr) g.tiers.length = pdS g.tiers cs (fuA g s + cr) := by
  rw [sumK_sel (L := pdL g.tiers cs (fuA g s + cr)) (m := []) g.tiers.length (fun i hi hk => by rw [tlL_at hi, if_pos hk]; simp), h.pd_sum, sumK_nil]
  omega
theorem AlF.sh_sum (h : AlF g s cs ct cr cl) : sumTo (shL g.tiers (rsT g.tiers cs (fuA g s) (fuB g s) cr)) (cntK g.tiers false g.tiers.length) = if dvB g.tiers = true then rsT g.tiers cs (fuA g s) (fuB g s) cr else 0 := by
  obtain ⟨r0, r1⟩ := h.R01
  unfold shL
  by_cases hd : dvB g.tiers = true
  · rw [if_pos hd, if_pos hd]
    have := spL_sum (vs_split h.ch r0 r1 hd)
    rw [vsL_len] at this
    exact this
  · rw [if_neg hd, if_neg hd, sumTo_nil]
/-- the pools of the other tiers together -/
theorem AlF.oth (h : AlF g s cs ct cr cl) : sumK g.tiers false (tlL g.tiers cs ct (fuA g s) (fuB g s) cr) g.tiers.length = (if dvB g.tiers = true then rsT g.tiers cs (fuA g s) (fuB g s) cr else 0) + sumK g.tiers false ct g.tiers.length := by
  rw [sumK_sel (L := shL g.tiers (rsT g.tiers cs (fuA g s) (fuB g s) cr)) (m := ct) g.tiers.length (fun i hi hk => by
    rw [tlL_at hi, if_neg (by rw [isK_not] at hk; simpa using hk)]; omega), h.sh_sum]
theorem AlF.pd_le (h : AlF g s cs ct cr cl) {m : Nat} (hm : m < cntK g.tiers true g.tiers.length) : 0 ≤ (pdL g.tiers cs (fuA g s + cr)).getD m 0 ∧ (pdL g.tiers cs (fuA g s + cr)).getD m 0 ≤ (ndL g.tiers cs).getD m 0 := by
  have hl := ndL_len g.tiers cs
  unfold pdL
  by_cases ho : ovN g.tiers cs (fuA g s + cr) = true
  · rw [if_pos ho]
    have hv := h.ov ho
    refine ⟨spL_nonneg hv (by omega), spL_le hv ?_ (by omega)⟩
    unfold ovN at ho; simp at ho; omega
  · rw [if_neg ho]
    have hb := nd_bd h.ch h.csl h.cb (ndL g.tiers cs)[m] (List.getElem_mem (by omega))
    have e : (ndL g.tiers cs).getD m 0 = (ndL g.tiers cs)[m] := by simp [List.getD, show m < (ndL g.tiers cs).length by omega]
    omega
theorem AlF.nd_at (h : AlF g s cs ct cr cl) {i : Nat} (hi : i < g.tiers.length) (hk : isK g.tiers true i = true) : (ndL g.tiers cs).getD (cntK g.tiers true i) 0 = vl g.tiers i * cs.getD i 0 := selP_at hk _ hi
/-- the pool of a fixed tier -/
theorem AlF.at_fix (h : AlF g s cs ct cr cl) {i : Nat} (hi : i < g.tiers.length) (hk : isK g.tiers true i = true) :
    0 ≤ (tlL g.tiers cs ct (fuA g s) (fuB g s) cr).getD i 0 ∧ (tlL g.tiers cs ct (fuA g s) (fuB g s) cr).getD i 0 ≤ vl g.tiers i * cs.getD i 0 ∧
    ((tlL g.tiers cs ct (fuA g s) (fuB g s) cr).getD i 0 < vl g.tiers i * cs.getD i 0 → pdS g.tiers cs (fuA g s + cr) = fuA g s + cr) ∧ (¬ fuA g s + cr < spT (ndL g.tiers cs) → (tlL g.tiers cs ct (fuA g s) (fuB g s) cr).getD i 0 = vl g.tiers i * cs.getD i 0) := by
  have hm := cntK_lt hi hk
  have hp := h.pd_le hm
  rw [h.nd_at hi hk] at hp
  rw [tlL_at hi, if_pos hk]
  refine ⟨hp.1, hp.2, fun hlt => ?_, fun ho => ?_⟩
  · unfold pdS
    by_cases ho : ovN g.tiers cs (fuA g s + cr) = true
    · rw [if_pos ho]
    · exfalso
      unfold pdL at hlt
      rw [if_neg ho, h.nd_at hi hk] at hlt
      omega
  · have ho' : ¬ ovN g.tiers cs (fuA g s + cr) = true := by unfold ovN; simpa using ho
    unfold pdL
    rw [if_neg ho', h.nd_at hi hk]
/-- the pool of another tier -/
theorem AlF.at_oth (h : AlF g s cs ct cr cl) {i : Nat} (hi : i < g.tiers.length) (hk : isK g.tiers true i = false) : ct.getD i 0 ≤ (tlL g.tiers cs ct (fuA g s) (fuB g s) cr).getD i 0 := by
  rw [tlL_at hi, if_neg (by simp [hk])]
  have hk2 : isK g.tiers false i = true := by rw [isK_not, hk]; rfl
  have hm := cntK_lt hi hk2
  obtain ⟨r0, r1⟩ := h.R01
  have : 0 ≤ (shL g.tiers (rsT g.tiers cs (fuA g s) (fuB g s) cr)).getD (cntK g.tiers false i) 0 := by
    unfold shL
    by_cases hd : dvB g.tiers = true
    · rw [if_pos hd]
      exact spL_nonneg (vs_split h.ch r0 r1 hd) (by rw [vsL_len]; exact hm)
    · rw [if_neg hd]; simp
  omega
theorem AlF.tl01 (h : AlF g s cs ct cr cl) : ∀ j, j < (tlL g.tiers cs ct (fuA g s) (fuB g s) cr).length → 0 ≤ (tlL g.tiers cs ct (fuA g s) (fuB g s) cr).getD j 0 ∧ (tlL g.tiers cs ct (fuA g s) (fuB g s) cr).getD j 0 ≤ 1000000000000 := by
  intro j hj
  rw [tlL_len] at hj
  refine ⟨?_, h.hi j hj⟩
  by_cases hk : isK g.tiers true j = true
  · exact (h.at_fix hj hk).1
  · have := h.at_oth hj (by simpa using hk)
    have := (h.tb j (by rw [h.ctl]; exact hj)).1
    omega
end
end Go.Proofs.Ytdinjekpcgndmaa
/-
  LAYER 37: what the statements need of Cap and Flow, in one place. Plain lemmas.
-/
set_option linter.unusedVariables false
namespace Go.Proofs.Ytdinjekpcgndmaa
open Go.RowKit
theorem cap_law0 {g : Gm} {ts : List Int} (h : capE g ts = 0) : (capL g ts).length = g.tiers.length ∧ ts.length = g.tiers.length ∧ amtB (capL g ts) = true ∧ amtB ts = true ∧ sumTo (capL g ts) g.tiers.length = sumTo ts g.tiers.length ∧ 1 ≤ g.tiers.length ∧ g.tiers.length ≤ 12 := by
  obtain ⟨h1, h2, h3⟩ := cap_facts h
  obtain ⟨q1, q2, q3⟩ := rchkE_facts h1
  have := game_len q1
  exact ⟨h2.len.trans q2, q2, h2.amt, q3, by rw [← q2]; exact h2.sum, this.1, this.2⟩
theorem fl_law0 {g : Gm} {ts cs : List Int} {rolls : Int} (h : flE g ts cs rolls = 0) : (flP g ts cs rolls).length = g.tiers.length ∧ (flC g ts cs rolls).length = g.tiers.length ∧ ts.length = g.tiers.length ∧ cs.length = g.tiers.length ∧
    amtB (flP g ts cs rolls) = true ∧ amtB (flC g ts cs rolls) = true ∧ amtB ts = true ∧ sumTo (flP g ts cs rolls) g.tiers.length + sumTo (flC g ts cs rolls) g.tiers.length = sumTo ts g.tiers.length ∧
    0 ≤ flN g ts cs rolls ∧ flN g ts cs rolls ≤ 64 ∧ 1 ≤ g.tiers.length ∧ g.tiers.length ≤ 12 := by
  obtain ⟨h1, h2, h3, h4, h5, h6, h7, h8, h9⟩ := fl_facts h
  have hg := game_len (rchkE_facts (flE_facts h).1).1
  have hr := rolE_bd g.tiers cs (mustB g rolls) rolls h3
  have hn : flN g ts cs rolls = rolE g.tiers cs (mustB g rolls) rolls := by unfold flN; rw [if_pos h]
  rw [hn]
  exact ⟨h6.lp, h6.lc, h1, h2, h8, h9, h7, h6.sum, hr.1, hr.2, hg.1, hg.2⟩
theorem fl_law1 {g : Gm} {ts cs : List Int} {rolls : Int} (h : ¬ flE g ts cs rolls = 0) : flP g ts cs rolls = [] ∧ flC g ts cs rolls = [] ∧ flN g ts cs rolls = 0 := by
  unfold flP flC flN
  rw [if_neg h, if_neg h, if_neg h]
  exact ⟨rfl, rfl, rfl⟩
theorem own_nil_any {w : World} {base : Nat} {e : TypeId} {v : Value} {l : List Int} (h : OwnI w base e v l) (hl : l = []) : ∃ a cap, v = .slice a 0 cap := by
  obtain ⟨a, cap, hv, _⟩ := h.any
  subst hl
  exact ⟨a, cap, hv⟩
theorem own_len_any {w : World} {base n : Nat} {e : TypeId} {v : Value} {l : List Int} (h : OwnI w base e v l) (hl : l.length = n) : ∃ a cap, v = .slice a n cap ∧ n ≤ cap ∧ cap ≤ maxLen := by
  obtain ⟨a, cap, hv, h1, h2⟩ := h.any
  rw [hl] at hv h1
  exact ⟨a, cap, hv, h1, h2⟩
end Go.Proofs.Ytdinjekpcgndmaa
/-
  LAYER 38, plain: what Award computes, and what follows of it. Plain lemmas.
-/
set_option linter.unusedVariables false
namespace Go.Proofs.Ytdinjekpcgndmaa
open Go.RowKit
/-- the prize of one of n winning lines of tier i, whose pool is f -/
def eaI (g : Gm) (f n : Int) (i : Nat) : Int := if n = 0 then 0 else if kd g.tiers i = 1 then min (f / n) (vl g.tiers i) else f / n - f / n % g.round
def eaL (g : Gm) (F cs : List Int) (k : Nat) : List Int := (List.range k).map fun i => eaI g (F.getD i 0) (cs.getD i 0) i
def paL (g : Gm) (F cs : List Int) (k : Nat) : List Int := (List.range k).map fun i => eaI g (F.getD i 0) (cs.getD i 0) i * cs.getD i 0
def lfI (g : Gm) (F cs : List Int) (i : Nat) : Int := if cs.getD i 0 = 0 then 0 else F.getD i 0 - eaI g (F.getD i 0) (cs.getD i 0) i * cs.getD i 0
def brS (g : Gm) (F cs : List Int) : Nat → Int
  | 0 => 0
  | k + 1 => brS g F cs k + lfI g F cs k
theorem eaL_len (g : Gm) (F cs : List Int) (k : Nat) : (eaL g F cs k).length = k := by simp [eaL]
theorem paL_len (g : Gm) (F cs : List Int) (k : Nat) : (paL g F cs k).length = k := by simp [paL]
theorem eaL_succ (g : Gm) (F cs : List Int) (k : Nat) : eaL g F cs (k + 1) = eaL g F cs k ++ [eaI g (F.getD k 0) (cs.getD k 0) k] := by simp [eaL, List.range_succ]
theorem paL_succ (g : Gm) (F cs : List Int) (k : Nat) : paL g F cs (k + 1) = paL g F cs k ++ [eaI g (F.getD k 0) (cs.getD k 0) k * cs.getD k 0] := by simp [paL, List.range_succ]
theorem eaL_at {g : Gm} {F cs : List Int} {k i : Nat} (h : i < k) : (eaL g F cs k).getD i 0 = eaI g (F.getD i 0) (cs.getD i 0) i := getD_range _ _ _ h
theorem paL_at {g : Gm} {F cs : List Int} {k i : Nat} (h : i < k) : (paL g F cs k).getD i 0 = eaI g (F.getD i 0) (cs.getD i 0) i * cs.getD i 0 := getD_range _ _ _ h
theorem ea_bd {g : Gm} {f n : Int} {i : Nat} (h0 : 0 ≤ f) (hn : 0 ≤ n) (hv : 0 ≤ vl g.tiers i) (hr : 1 ≤ g.round) : 0 ≤ eaI g f n i ∧ eaI g f n i ≤ f ∧ eaI g f n i * n ≤ f ∧ 0 ≤ eaI g f n i * n := by
  unfold eaI
  by_cases h : n = 0
  · subst h; simp; exact h0
  rw [if_neg h]
  have hn1 : 1 ≤ n := by omega
  have q0 : 0 ≤ f / n := Int.ediv_nonneg h0 hn
  have q1 : f / n * n ≤ f := Int.ediv_mul_le f h
  have q2 : f / n ≤ f / n * n := by
    have := Int.mul_le_mul_of_nonneg_left hn1 q0
    omega
  have key : ∀ x, 0 ≤ x → x ≤ f / n → 0 ≤ x ∧ x ≤ f ∧ x * n ≤ f ∧ 0 ≤ x * n := fun x x0 x1 => by
    have a := Int.mul_le_mul_of_nonneg_right x1 hn
    exact ⟨x0, by omega, by omega, Int.mul_nonneg x0 hn⟩
  split
  · exact key _ (by omega) (by omega)
  · have m0 := Int.emod_nonneg (f / n) (show g.round ≠ 0 by omega)
    have m1 : f / n % g.round ≤ f / n := by
      have := Int.mul_ediv_add_emod (f / n) g.round
      have h2 : 0 ≤ g.round * (f / n / g.round) := Int.mul_nonneg (by omega) (Int.ediv_nonneg q0 (by omega))
      omega
    exact key _ (by omega) (by omega)
/-- the final pools and what is carried over -/
def awT (g : Gm) (s : Int) (cs ct : List Int) (cr : Int) : List Int := tlL g.tiers cs ct (fuA g s) (fuB g s) cr
def awF (g : Gm) (s : Int) (cs ct : List Int) (cr cl : Int) : List Int := flP g (capL g (awT g s cs ct cr)) cs cl
def awC (g : Gm) (s : Int) (cs ct : List Int) (cr cl : Int) : List Int := flC g (capL g (awT g s cs ct cr)) cs cl
def awN (g : Gm) (s : Int) (cs ct : List Int) (cr cl : Int) : Int := flN g (capL g (awT g s cs ct cr)) cs cl
def awD (g : Gm) (s : Int) (cs : List Int) (cr : Int) : Int := max 0 (pdS g.tiers cs (fuA g s + cr) - (fuA g s - fuB g s))
def awB (g : Gm) (s : Int) (cs ct : List Int) (cr cl : Int) : Int := brS g (awF g s cs ct cr cl) cs g.tiers.length
def awR (g : Gm) (s : Int) (cs ct : List Int) (cr cl : Int) : Int := cr + alR g s cs cr - awD g s cs cr + awB g s cs ct cr cl
def awE (g : Gm) (s : Int) (cs ct : List Int) (cr cl : Int) : Int :=
  if alE g s cs ct cr cl ≠ 0 then alE g s cs ct cr cl
  else if capE g (awT g s cs ct cr) ≠ 0 then capE g (awT g s cs ct cr)
  else if flE g (capL g (awT g s cs ct cr)) cs cl ≠ 0 then flE g (capL g (awT g s cs ct cr)) cs cl
  else if 1000000000000 < awR g s cs ct cr cl ∨ 1000000000000 < sumTo (awC g s cs ct cr cl) g.tiers.length then 9 else 0
structure AwF (g : Gm) (s : Int) (cs ct : List Int) (cr cl : Int) : Prop where
  al : AlF g s cs ct cr cl
  cp : capE g (awT g s cs ct cr) = 0
  fl : flE g (capL g (awT g s cs ct cr)) cs cl = 0
theorem awF_mk {g : Gm} {s : Int} {cs ct : List Int} {cr cl : Int} (h1 : alE g s cs ct cr cl = 0) (h2 : capE g (awT g s cs ct cr) = 0) (h3 : flE g (capL g (awT g s cs ct cr)) cs cl = 0) : AwF g s cs ct cr cl := ⟨alE_facts h1, h2, h3⟩
theorem awE_facts {g : Gm} {s : Int} {cs ct : List Int} {cr cl : Int} (h : awE g s cs ct cr cl = 0) : alE g s cs ct cr cl = 0 ∧ AwF g s cs ct cr cl ∧ awR g s cs ct cr cl ≤ 1000000000000 ∧ sumTo (awC g s cs ct cr cl) g.tiers.length ≤ 1000000000000 := by
  unfold awE at h
  split at h
  · rename_i h1; exact absurd h h1
  rename_i h1
  split at h
  · rename_i h2; exact absurd h h2
  rename_i h2
  split at h
  · rename_i h3; exact absurd h h3
  rename_i h3
  split at h
  · simp at h
  rename_i h4
  exact ⟨by omega, awF_mk (by omega) (by omega) (by omega), by omega, by omega⟩
section
variable {g : Gm} {s : Int} {cs ct : List Int} {cr cl : Int}
theorem AwF.len (h : AwF g s cs ct cr cl) : (awF g s cs ct cr cl).length = g.tiers.length ∧ (awC g s cs ct cr cl).length = g.tiers.length ∧ amtB (awF g s cs ct cr cl) = true ∧ amtB (awC g s cs ct cr cl) = true ∧
    sumTo (awF g s cs ct cr cl) g.tiers.length + sumTo (awC g s cs ct cr cl) g.tiers.length = sumTo (awT g s cs ct cr) g.tiers.length ∧ 1 ≤ g.tiers.length ∧ g.tiers.length ≤ 12 := by
  have a := cap_law0 h.cp
  obtain ⟨b1, b2, b3, b4, b5, b6, b7, b8, _, _, b9, b10⟩ := fl_law0 h.fl
  exact ⟨b1, b2, b5, b6, b8.trans a.2.2.2.2.1, b9, b10⟩
theorem AwF.round (h : AwF g s cs ct cr cl) : 1 ≤ g.round ∧ g.round ≤ 1000000 := by
  have := badT_bd (head_bd h.al.ch).2
  omega
theorem AwF.ea (h : AwF g s cs ct cr cl) {i : Nat} (hi : i < g.tiers.length) : 0 ≤ eaI g ((awF g s cs ct cr cl).getD i 0) (cs.getD i 0) i ∧ eaI g ((awF g s cs ct cr cl).getD i 0) (cs.getD i 0) i ≤ (awF g s cs ct cr cl).getD i 0 ∧
    eaI g ((awF g s cs ct cr cl).getD i 0) (cs.getD i 0) i * cs.getD i 0 ≤ (awF g s cs ct cr cl).getD i 0 ∧ 0 ≤ eaI g ((awF g s cs ct cr cl).getD i 0) (cs.getD i 0) i * cs.getD i 0 :=
  ea_bd (amtB_at h.len.2.2.1 i).1 (h.al.cb i (by rw [h.al.csl]; exact hi)).1 (vl_bd h.al.ch i hi).1 h.round.1
/-- a tier without winners has no final pool -/
theorem AwF.none (h : AwF g s cs ct cr cl) {i : Nat} (hi : i < g.tiers.length) (hn : cs.getD i 0 = 0) : (awF g s cs ct cr cl).getD i 0 = 0 := by
  have hf := (fl_facts h.fl).2.2.2.2.2.1
  by_cases hk : kd g.tiers i = 1
  · have h1 := (hf.fixed i hi hk).1
    rw [if_pos hi] at h1
    have h2 := (cap_facts h.cp).2.1.fixed i hk
    have h3 := h.al.at_fix hi (show isK g.tiers true i = true by unfold isK; simp [hk])
    rw [hn, Int.mul_zero] at h3
    show (flP g (capL g (awT g s cs ct cr)) cs cl).getD i 0 = 0
    rw [h1, h2]
    show (tlL g.tiers cs ct (fuA g s) (fuB g s) cr).getD i 0 = 0
    omega
  · exact hf.none i hk hn
theorem AwF.lf (h : AwF g s cs ct cr cl) {i : Nat} (hi : i < g.tiers.length) : 0 ≤ lfI g (awF g s cs ct cr cl) cs i ∧ lfI g (awF g s cs ct cr cl) cs i ≤ 1000000000000 ∧ (awF g s cs ct cr cl).getD i 0 = eaI g ((awF g s cs ct cr cl).getD i 0) (cs.getD i 0) i * cs.getD i 0 + lfI g (awF g s cs ct cr cl) cs i := by
  have e := h.ea hi
  have b := amtB_at h.len.2.2.1 i
  unfold lfI
  by_cases hn : cs.getD i 0 = 0
  · rw [if_pos hn, hn, h.none hi hn]; omega
  · rw [if_neg hn]; omega
theorem AwF.br (h : AwF g s cs ct cr cl) : ∀ k : Nat, k ≤ g.tiers.length → 0 ≤ brS g (awF g s cs ct cr cl) cs k ∧ brS g (awF g s cs ct cr cl) cs k ≤ 1000000000000 * k ∧
    sumTo (awF g s cs ct cr cl) k = sumTo (paL g (awF g s cs ct cr cl) cs g.tiers.length) k + brS g (awF g s cs ct cr cl) cs k := by
  intro k
  induction k with
  | zero => intro _; simp [brS, sumTo]
  | succ k ih =>
    intro hk
    obtain ⟨a, b, c⟩ := ih (by omega)
    have e := h.lf (show k < g.tiers.length by omega)
    rw [brS, sumTo, sumTo, paL_at (by omega)]
    push_cast
    omega
theorem AwF.pa (h : AwF g s cs ct cr cl) : amtB (paL g (awF g s cs ct cr cl) cs g.tiers.length) = true := amtB_of fun j hj => by
  rw [paL_len] at hj
  rw [paL_at hj]
  have e := h.ea hj
  have b := amtB_at h.len.2.2.1 j
  omega
theorem AwF.tsum (h : AwF g s cs ct cr cl) : sumTo (awT g s cs ct cr) g.tiers.length + alR g s cs cr = fuA g s + sumTo ct g.tiers.length + awD g s cs cr ∧ awD g s cs cr ≤ cr + fuB g s ∧ fuB g s ≤ alR g s cs cr ∧ 0 ≤ awD g s cs cr := by
  have F := h.al
  have e1 := F.fix
  have e2 := F.oth
  have e3 := sumK_both g.tiers (awT g s cs ct cr) g.tiers.length
  have e4 := sumK_both g.tiers ct g.tiers.length
  have e5 : sumK g.tiers true ct g.tiers.length = 0 := by
    have : ∀ k, k ≤ g.tiers.length → sumK g.tiers true ct k = 0 := by
      intro k
      induction k with
      | zero => intro _; rfl
      | succ k ih =>
        intro hk
        rw [sumK, ih (by omega)]
        split
        · rename_i hk2; rw [(F.tb k (by rw [F.ctl]; omega)).2.2 hk2]; rfl
        · rfl
    exact this _ (Nat.le_refl _)
  have hs := F.S01
  have b0 := F.B0
  have b1 := F.BA
  have r0 := F.r01
  have hR := F.R01
  unfold awT at *
  rw [← e3, e1, e2, ← e4, e5]
  unfold awD alR
  have hrs : rsT g.tiers cs (fuA g s) (fuB g s) cr = max 0 (fuA g s - fuB g s - pdS g.tiers cs (fuA g s + cr)) := rfl
  split <;> omega
/-- all that comes in is paid, carried over or in the reserve fund -/
theorem AwF.bal (h : AwF g s cs ct cr cl) : fuA g s + sumTo ct g.tiers.length + cr = sumTo (paL g (awF g s cs ct cr cl) cs g.tiers.length) g.tiers.length + sumTo (awC g s cs ct cr cl) g.tiers.length + awR g s cs ct cr cl ∧ 0 ≤ awR g s cs ct cr cl := by
  obtain ⟨a1, a2, a3, a4⟩ := h.tsum
  obtain ⟨b1, b2, b3⟩ := h.br _ (Nat.le_refl _)
  obtain ⟨_, _, _, _, c, _⟩ := h.len
  unfold awR
  have e : awB g s cs ct cr cl = brS g (awF g s cs ct cr cl) cs g.tiers.length := rfl
  rw [e]
  omega
theorem AwF.rolls (h : AwF g s cs ct cr cl) : 0 ≤ awN g s cs ct cr cl ∧ awN g s cs ct cr cl ≤ 64 := by
  obtain ⟨_, _, _, _, _, _, _, _, b1, b2, _, _⟩ := fl_law0 h.fl
  exact ⟨b1, b2⟩
theorem AwF.R_bd (h : AwF g s cs ct cr cl) : -100000000000000 ≤ awR g s cs ct cr cl ∧ awR g s cs ct cr cl ≤ 100000000000000 := by
  obtain ⟨b1, b2, b3⟩ := h.br _ (Nat.le_refl _)
  have F := h.al
  have hl := h.len.2.2.2.2.2.2
  have e : awB g s cs ct cr cl = brS g (awF g s cs ct cr cl) cs g.tiers.length := rfl
  have hs := F.S01
  have b0 := F.B0
  have b4 := F.BA
  have b5 := F.As
  have b6 := F.s01
  have r0 := F.r01
  have hR := F.R01
  have h2 := F.av
  unfold awR awD alR
  rw [e]
  split <;> omega
end
end Go.Proofs.Ytdinjekpcgndmaa
/-
  A game that is stored whole; the small game of the statements, valid; a game with other add-ons.
-/
set_option linter.unusedVariables false
namespace Go.Proofs.Ytdinjekpcgndmaa
open Go.RowKit
theorem Gm.one (g : Gm) : g.cells.toArray.all (·.oneCell') = true := by simp [Gm.cells, Value.oneCell']
theorem Gm.size (g : Gm) : g.cells.toArray.size = 22 := rfl
/-- a game is stored whole into a block of its own -/
theorem store_game {ops : Array Oper} {rest : List Oper} {o : Oper} {a : Act} {w : World} {Q : Exit → Act → World → Prop} (hgd : o.guard = none) (x y : Operand) (ho : o.op = .store 25 x y) (b : Nat) (hx : a.eval x = .pointer (some ⟨b, 0, none⟩))
    (C : Array Value) (hb : w.heap[b]? = some (.cells C 25 (0, 0))) (hC : C.size = 22) (g : Gm) (hy : a.eval y = g.val)
    (h : ∀ w', GmAt w' b g → w'.heap.size = w.heap.size → Fr [b] w w' → wpList Try.prog ops Q rest (a.put o.dst undef) w') : wpList Try.prog ops Q (o :: rest) a w := by
  refine wpList_plain hgd fun _ hK => ?_
  have hrun := run_storeVar_row (P := Try.prog) w b 25 25 C g.cells.toArray hb infoGame (by rw [hC, Gm.size]) g.one
  unfold Oper.wp execOp
  simp only [ho, hx, hy, Gm.val_eq, Instr.storeAt, Instr.sureAddr, Sem.run_bind, Sem.run_pure, Result.andThen_ok, hrun]
  have hlt : b < w.heap.size := (Array.getElem?_eq_some_iff.1 hb).1
  refine hK _ _ (h _ ?_ ?_ ⟨rfl, rfl, rfl, ?_, ?_⟩)
  · unfold GmAt; simp [World.setRow, Array.getElem?_modify, hb]
  · simp [World.setRow]
  · simp [World.setRow]
  · intro k _ hk
    have : ¬ b = k := by simp at hk; omega
    simp [World.setRow, Array.getElem?_modify, this]
def plainG (b : Nat) : Gm := ⟨⟨#[97]⟩, 1, 1, 1, 2, 0, 0, 0, 1, 1, 1, 0, 0, 0, 1, 0, 0, 1, 0, 0, none, 0, [], some ⟨b, 0, none⟩, 1, [⟨1, 0, 0, 0, 1, 0⟩]⟩
theorem plain_chk (b : Nat) : chkE (plainG b) = 0 ∧ chkS (plainG b) = ⟨#[]⟩ ∧ headB (plainG b) = true := by
  refine ⟨?_, ?_, ?_⟩
  · kernel_rfl
  · kernel_rfl
  · kernel_rfl
theorem rdf_one {α : Type} (c : Nat) (f : α → List Value) (w : World) (x : α) (C : Array Value) (T : TypeId) (hC : C = (f x).toArray) (hc : (f x).length = c) :
    RdF c (fun x => pairs (f x)) (w.alloc (.cells C T)) (.slice (some ⟨w.heap.size, 0, none⟩) 1 1) [x] := by
  refine ⟨_, _, rfl, Nat.le_refl _, by unfold maxLen; simp, fun j y hy => ⟨w.heap.size, 0, rfl, fun i v hv => ?_⟩⟩
  obtain rfl : j = 0 := by
    have := (List.getElem?_eq_some_iff.1 hy).1
    simp at this
    exact this
  simp at hy
  subst hy
  rw [mem_pairs] at hv
  rw [Nat.zero_mul, Nat.zero_add, Nat.zero_add]
  exact new_cell rfl (by subst hC; simpa using hv)
theorem RdF.fr {α : Type} {c n cap g o : Nat} {f : α → List (Nat × Value)} {w w' : World} {l : List α} {bs : List Nat} (h : RdF c f w (.slice (some ⟨g, o, none⟩) n cap) l) (hf : Fr bs w w') (hn : g ∉ bs) : RdF c f w' (.slice (some ⟨g, o, none⟩) n cap) l := by
  obtain ⟨a', cap', hv, h1, h2, h3⟩ := h
  refine ⟨a', cap', hv, h1, h2, fun j x hx => ?_⟩
  obtain ⟨g', o', rfl, hc⟩ := h3 j x hx
  simp only [Value.slice.injEq, Option.some.injEq, Addr.mk.injEq, and_true] at hv
  obtain ⟨⟨rfl, rfl⟩, _⟩ := hv
  exact ⟨g, o, rfl, fun i y hy => hf.cell_some (hc i y hy) hn⟩
theorem plain_ok (w : World) (b : Nat) (h : RdF 6 tiF w (.slice (some ⟨b, 0, none⟩) 1 1) [⟨1, 0, 0, 0, 1, 0⟩]) : (plainG b).Ok w := by
  refine ⟨(by show 1 ≤ maxLen; unfold maxLen; omega), rfl, rfl, rfl, rfl, rfl, rfl, rfl, rfl, rfl, rfl, rfl, rfl, rfl, rfl, rfl, rfl, rfl, rfl, rfl, ⟨⟨none, 0, rfl, by simp [plainG], by simp, by simp [plainG]⟩, by simp [plainG]⟩, ⟨h, ?_⟩⟩
  intro x hx
  simp [plainG] at hx
  subst hx
  exact ⟨rfl, rfl, rfl, rfl, rfl, rfl⟩
def withA (g : Gm) (a : Option Addr) (c : Nat) (l : List Ad) : Gm := { g with aa := a, ac := c, addons := l }
theorem gm_set_addons {w : World} {b : Nat} {g : Gm} (h : GmAt w b g) (a : Option Addr) (c : Nat) (l : List Ad) : GmAt (w.setCell ⟨b, 20, none⟩ (.slice a l.length c)) b (withA g a c l) := by
  unfold GmAt at h ⊢
  simp [World.setCell, Array.getElem?_modify, h, Gm.cells, withA]
theorem gm_frozen {w : World} {b : Nat} {g : Gm} (h : GmAt w b g) (i : Nat) : w.frozen? ⟨b, i, none⟩ = false := by
  unfold GmAt at h
  simp [World.frozen?, h]
theorem withA_ok {g : Gm} {w w' : World} {a : Option Addr} {c : Nat} {l : List Ad} (h : g.Ok w) (hf : Fr [] w w') (ha : Ads w' a c l) : (withA g a c l).Ok w' := by
  have h' := h.fr hf
  exact ⟨h'.name, h'.kind, h'.price, h'.main, h'.of_, h'.bonus, h'.bonusof, h'.extra, h'.draws, h'.system, h'.days, h'.at_, h'.close, h'.cancel, h'.expiry, h'.pool, h'.reserve, h'.round, h'.cap, h'.rolls, ha, h'.tiers⟩
end Go.Proofs.Ytdinjekpcgndmaa
/-
  LAYER 36: the game of the statements.
-/
set_option linter.unusedVariables false
namespace Go.Proofs.Ytdinjekpcgndmaa
open Go.RowKit
theorem flat36_at {α : Type} (c : Nat) (f : α → List Value) : ∀ (l : List α), (∀ x ∈ l, (f x).length = c) → ∀ (j i : Nat) (x : α) (v : Value), l[j]? = some x → (f x)[i]? = some v → (l.flatMap f)[j * c + i]? = some v := by
  intro l
  induction l with
  | nil => intro _ j i x v hj _; simp at hj
  | cons a l ih =>
    intro hf j i x v hj hi
    have ha := hf a (by simp)
    rw [List.flatMap_cons]
    cases j with
    | zero =>
      simp at hj
      subst hj
      have := (List.getElem?_eq_some_iff.1 hi).1
      rw [Nat.zero_mul, Nat.zero_add, List.getElem?_append_left this]
      exact hi
    | succ j =>
      simp at hj
      rw [List.getElem?_append_right (by rw [ha, Nat.add_mul]; omega), ha, show (j + 1) * c + i - c = j * c + i by rw [Nat.add_mul]; omega]
      exact ih (fun y hy => hf y (by simp [hy])) j i x v hj hi
theorem rdf36_rows {α : Type} (c : Nat) (f : α → List Value) {w : World} {n : Nat} (hz : w.heap.size = n) (l : List α) (T : TypeId) (k : Nat) (hk : l.length = k) (hm : k ≤ 100) (hf : ∀ x ∈ l, (f x).length = c) (C : Array Value) (hC : C = (l.flatMap f).toArray) :
    RdF c (fun x => pairs (f x)) (w.alloc (.cells C T)) (.slice (some ⟨n, 0, none⟩) k k) l := by
  subst hk
  refine ⟨_, _, rfl, Nat.le_refl _, by unfold maxLen; omega, fun j x hj => ⟨n, 0, rfl, fun i v hv => ?_⟩⟩
  rw [mem_pairs] at hv
  rw [Nat.zero_add]
  subst hC
  exact new_cell hz (by simpa using flat36_at c f l hf j i x v hj hv)
def pl36 (b : Nat) : Gm := ⟨⟨#[97]⟩, 1, 1, 3, 20, 0, 0, 0, 1, 3, 1, 0, 0, 0, 1, 5000, 1000, 1, 0, 0, none, 0, [], some ⟨b, 0, none⟩, 3, [⟨3, 0, 0, 0, 3, 2⟩, ⟨2, 0, 0, 0, 2, 1⟩, ⟨1, 0, 0, 0, 1, 300⟩]⟩
theorem pl36_ok (w : World) (b : Nat) (h : RdF 6 tiF w (.slice (some ⟨b, 0, none⟩) 3 3) (pl36 b).tiers) : (pl36 b).Ok w := by
  refine ⟨(by show 1 ≤ maxLen; unfold maxLen; omega), rfl, rfl, rfl, rfl, rfl, rfl, rfl, rfl, rfl, rfl, rfl, rfl, rfl, rfl, rfl, rfl, rfl, rfl, rfl, ⟨⟨none, 0, rfl, by simp [pl36], by simp, by simp [pl36]⟩, by simp [pl36]⟩, ⟨h, ?_⟩⟩
  intro x hx
  simp [pl36] at hx
  rcases hx with rfl | rfl | rfl <;> exact ⟨rfl, rfl, rfl, rfl, rfl, rfl⟩
abbrev zGm36 : Array Value := #[.string ⟨#[]⟩, .int .i64 0, .int .i64 0, .int .i64 0, .int .i64 0, .int .i64 0, .int .i64 0, .int .i64 0, .int .i64 0, .int .i64 0, .int .i64 0, .int .i64 0, .int .i64 0, .int .i64 0, .int .i64 0, .int .i64 0, .int .i64 0, .int .i64 0, .int .i64 0, .int .i64 0, .slice none 0 0, .slice none 0 0]
set_option maxRecDepth 20000 in
set_option maxHeartbeats 2000000 in
theorem plain36_any (w : World) : Calls Try.prog 49 #[] w fun e w' => ∃ b, e = .returned (pl36 b).val ∧ (pl36 b).Ok w' ∧ Fr [] w w' := by
  have hb : ∀ (w : World) (b : Nat), (Instr.build 25 #[(0, .string ⟨#[97]⟩), (1, .int .i64 1), (2, .int .i64 1), (3, .int .i64 3), (4, .int .i64 20), (8, .int .i64 1), (9, .int .i64 3), (10, .int .i64 1), (14, .int .i64 1), (15, .int .i64 5000), (16, .int .i64 1000), (17, .int .i64 1), (21, .slice (some ⟨b, 0, none⟩) 3 3)]).run Try.prog w = .ok (pl36 b).val w := fun w b => by kernel_rfl
  go_enter Try.func49, Try.ntmps49
  go_wp2_with (refine store_game rfl (.tmp 0) (.tmp 5) rfl w.heap.size rfl _ (heap_alloc2_old _ _ _) rfl (pl36 (w.heap.size + 1)) rfl ?_; intro w3 hg3 hz3 hf3)
  refine bodyPost_ret (v := (pl36 (w.heap.size + 1)).val) (by rw [Gm.val_eq]; exact results_cell_row rfl _ _ w.heap.size 25 _ (0, 0) _ rfl hg3 Try.underlying25 rfl infoGame) rfl ⟨_, rfl, ?_, ?_⟩
  · refine pl36_ok _ _ ?_
    have hr := rdf36_rows 6 Ti.cells (w := w.alloc (.cells zGm36 25)) (n := w.heap.size + 1) (by simp) (pl36 (w.heap.size + 1)).tiers 40 3 rfl (by omega) (by intro x hx; rfl) _ rfl
    exact hr.fr hf3 (by simp)
  · exact (((Fr.refl [] w).alloc _).alloc _).trans' hf3 (by simp)
theorem pl36_fund (b : Nat) : fuE (pl36 b) 2001 = 0 ∧ fuA (pl36 b) 2001 = 1000 ∧ fuB (pl36 b) 2001 = 100 := ⟨by kernel_rfl, by kernel_rfl, by kernel_rfl⟩
set_option maxRecDepth 20000 in
theorem funds_any (w : World) : Calls Try.prog 20 #[] w fun e w' => e = .returned (.bool true) ∧ Fr [] w w' := by
  have HF := Lib.hid (fun b w' h => fund_any (pl36 b) 2001 w' h)
  go_enter Try.func20, Try.ntmps20
  go_wp2_with fail
  refine (plain36_any _).mono ?_
  rintro e w1 ⟨b, rfl, hok, f1⟩
  go_wp2_with fail
  refine (HF.out b _ hok).mono ?_
  rintro e w2 ⟨rfl, f2⟩
  obtain ⟨k1, k2, k3⟩ := pl36_fund b
  rw [k1, k2, k3]
  have hF := f1.trans f2
  clear k1 k2 k3 hok f1 f2
  go_wp2_with fail
  go_ret
  exact ⟨rfl, hF⟩
end Go.Proofs.Ytdinjekpcgndmaa
/-
  LAYER 36: Same of equal pools, the sum of the pools of one sort; the program divides the fund of the chapter's example.
-/
set_option linter.unusedVariables false
namespace Go.Proofs.Ytdinjekpcgndmaa
open Go.RowKit
set_option maxHeartbeats 2000000 in
theorem sameInts_eq (v1 v2 : Value) (l : List Int) (w : World) (h1 : RdI w v1 l) (h2 : RdI w v2 l) : Calls Try.prog 73 #[v1, v2] w fun e w' => e = .returned (.bool true) ∧ Fr [] w w' := by
  obtain ⟨a1, c1, rfl, l1, m1, r1⟩ := h1
  obtain ⟨a2, c2, rfl, l2, m2, r2⟩ := h2
  unfold maxLen at m1 m2
  obtain ⟨n, hN⟩ : ∃ n, n = l.length := ⟨_, rfl⟩
  rw [← hN] at r1 r2 l1 l2 ⊢
  have R1 := Lib.hid r1
  have R2 := Lib.hid r2
  have e1 : ((n : Int) != (n : Int)) = false := by simp
  clear r1 r2 hN
  go_enter Try.func73, Try.ntmps73
  go_wp2_with fail
  go_loopw [5] (fun i wr => ∃ k : Nat, k ≤ n ∧ i = .int .i64 k ∧ Fr [] w wr) (fun i _ => n - (intOf i).toNat)
  case atStart => exact ⟨0, by omega, rfl, Fr.refl _ _⟩
  case round =>
    obtain ⟨k, hk, rfl, hf⟩ := hrel
    by_cases hlt : k < n
    · obtain ⟨g1, o1, rfl, k1⟩ := R1.out k hlt
      obtain ⟨g2, o2, rfl, k2⟩ := R2.out k hlt
      have k1' := hf.cell_some k1 (by simp)
      have k2' := hf.cell_some k2 (by simp)
      generalize l.getD k 0 = x at *
      have hkn : (k : Int) < (n : Int) := by omega
      have ex : (x != x) = false := by simp
      clear k1 k2
      go_wp2_with fail
      go_quiet (fail)
      have hf2 := Lib.hid (hf.drewN nq)
      generalize wr.drewN nq = w2 at *
      clear k1' k2' hf
      go_wp2_with fail
      go_roundw
      case rel => exact ⟨k + 1, by omega, by go_num, hf2.out⟩
      case measure => simp [intOf]; omega
    · obtain rfl : n = k := by omega
      go_wp2_with fail
      go_ret
      exact ⟨rfl, hf⟩
theorem same36_eq (v1 v2 : Value) (l : List Int) (s A B : Int) (w : World) (h1 : RdI w v1 l) (h2 : RdI w v2 l) : Calls Try.prog 30 #[.agg #[.int .i64 s, .int .i64 A, .int .i64 B, v1], .agg #[.int .i64 s, .int .i64 A, .int .i64 B, v2]] w fun e w' => e = .returned (.bool true) ∧ Fr [] w w' := by
  have hS := fun w' (h : Fr [] w w') => sameInts_eq v1 v2 l w' (h1.below h) (h2.below h)
  have HS := Lib.hid hS
  have e1 : (s == s) = true := by simp
  have e2 : (A == A) = true := by simp
  have e3 : (B == B) = true := by simp
  obtain ⟨a1, c1, rfl, l1, m1, r1⟩ := h1
  obtain ⟨a2, c2, rfl, l2, m2, r2⟩ := h2
  clear hS r1 r2
  go_enter Try.func30, Try.ntmps30
  go_wp2_with fail
  refine (HS.out _ (((Fr.refl [] _).alloc _).alloc _)).mono ?_
  rintro e w1 ⟨rfl, f1⟩
  have F := (((Fr.refl [] w).alloc (.cells #[.int .i64 s, .int .i64 A, .int .i64 B, .slice a1 l.length c1] 45)).alloc (.cells #[.int .i64 s, .int .i64 A, .int .i64 B, .slice a2 l.length c2] 45)).trans f1
  have HF := Lib.hid F
  clear F f1
  go_wp2_with fail
  go_ret
  exact ⟨rfl, HF.out⟩
theorem sumK_bd {T : List Ti} {fx : Bool} {l : List Int} (h : ∀ j, j < l.length → 0 ≤ l.getD j 0 ∧ l.getD j 0 ≤ 1000000000000) : ∀ k : Nat, k ≤ l.length → 0 ≤ sumK T fx l k ∧ sumK T fx l k ≤ 1000000000000 * k := by
  intro k
  induction k with
  | zero => intro _; simp [sumK]
  | succ k ih =>
    intro hk
    have a := ih (by omega)
    have b := h k (by omega)
    rw [sumK]
    push_cast
    split <;> omega
set_option maxRecDepth 20000 in
set_option maxHeartbeats 4000000 in
theorem sum36_any (g : Gm) (v : Value) (l : List Int) (fx : Bool) (w : World) (hok : g.Ok w) (h2 : RdI w v l) (hl : l.length = g.tiers.length) (hm : l.length ≤ 1000) (hb : ∀ j, j < l.length → 0 ≤ l.getD j 0 ∧ l.getD j 0 ≤ 1000000000000) :
    Calls Try.prog 32 #[g.val, v, .bool fx] w fun e w' => e = .returned (.int .i64 (sumK g.tiers fx l l.length)) ∧ Fr [] w w' := by
  have h21 : ∀ w b, GmAt w b g → w.cell? ⟨b, 21, none⟩ = some (.slice g.ta g.tiers.length g.tc) := fun w b h => h.cell 21 _ rfl
  obtain ⟨a2, c2, rfl, l2, m2, r2⟩ := h2
  unfold maxLen at m2
  have hkb := @sumK_bd g.tiers fx l hb
  rw [← hl] at h21
  have HL := Lib.hid hl
  have hsu : ∀ k, sumK g.tiers fx l (k + 1) = sumK g.tiers fx l k + if isK g.tiers fx k = true then l.getD k 0 else 0 := fun k => rfl
  obtain ⟨n, hN⟩ : ∃ n, n = l.length := ⟨_, rfl⟩
  rw [← hN] at r2 l2 h21 hkb hb hm ⊢
  have HN := Lib.hid hN
  have HR := Lib.hid r2
  have H21 := Lib.hid h21
  have HKB := Lib.hid hkb
  have HB := Lib.hid hb
  have HSU := Lib.hid hsu
  have HOK := Lib.hid hok
  clear hl hN r2 h21 hkb hb hsu hok
  go_enter Try.func32, Try.ntmps32
  go_upto_block 0 with (refine box_game rfl (.tmp 0) rfl g rfl ?_; intro w1 hg1 hz1 hf1; have c21 := H21.out _ _ hg1)
  have HF1 := Lib.hid hf1
  clear hg1 hz1 hf1
  go_wp2_with fail
  go_loop [8, 7] (fun i s => ∃ k : Nat, k ≤ n ∧ i = .int .i64 k ∧ s = .int .i64 (sumK g.tiers fx l k)) (fun i _ => n - (intOf i).toNat)
  case atStart => exact ⟨0, by omega, rfl, rfl⟩
  case round =>
    obtain ⟨k, hk, rfl, rfl⟩ := hrel
    by_cases hlt : k < n
    · obtain ⟨g1, o1, rfl, k1⟩ := HR.out k hlt
      have k1' := HF1.out.cell_some k1 (by simp)
      obtain ⟨t, ht⟩ : ∃ t, g.tiers[k]? = some t := ⟨_, List.getElem?_eq_getElem (by have := HL.out; have := HN.out; omega)⟩
      obtain ⟨bt, ot, hta, hct⟩ := RdF.at (f := Ti.cells) HOK.out.tiers.rd ht
      have c4 := HF1.out.cell_some (hct 4 _ rfl) (by simp)
      rw [hta] at c21
      have hkd := (kd_of ht).1
      have hkk : isK g.tiers fx k = (decide (t.kind = 1) == fx) := by unfold isK; rw [hkd]
      have hs := HSU.out k
      rw [hkk] at hs
      obtain ⟨tm, tb, te, to_, tk, tv⟩ := t
      simp only at c4 hs
      have hb1 := HKB.out k (by omega)
      have hb2 := HKB.out (k + 1) (by omega)
      have hx := HB.out k hlt
      have hkn : (k : Int) < (n : Int) := by omega
      by_cases h1 : tk = 1
      · cases fx
        · rw [if_neg (by simp [h1]), Int.add_zero] at hs
          have HS := Lib.hid hs
          rw [hs] at hb2
          have e1 : (tk == 1) = true := by simpa using h1
          clear hs h1 hkk hkd ht hta hct k1
          generalize l.getD k 0 = x at *
          generalize sumK g.tiers _ l k = s at *
          go_wp2_with fail
          go_round
          case rel => exact ⟨k + 1, by omega, by go_num, by rw [HS.out]⟩
          case measure => simp [intOf]; omega
        · rw [if_pos (by simp [h1])] at hs
          have HS := Lib.hid hs
          rw [hs] at hb2
          have e1 : (tk == 1) = true := by simpa using h1
          clear hs h1 hkk hkd ht hta hct k1
          generalize l.getD k 0 = x at *
          generalize sumK g.tiers _ l k = s at *
          go_wp2_with fail
          go_round
          case rel => exact ⟨k + 1, by omega, by go_num, by rw [HS.out]⟩
          case measure => simp [intOf]; omega
      · cases fx
        · rw [if_pos (by simp [h1])] at hs
          have HS := Lib.hid hs
          rw [hs] at hb2
          have e1 : (tk == 1) = false := by simpa using h1
          clear hs h1 hkk hkd ht hta hct k1
          generalize l.getD k 0 = x at *
          generalize sumK g.tiers _ l k = s at *
          go_wp2_with fail
          go_round
          case rel => exact ⟨k + 1, by omega, by go_num, by rw [HS.out]⟩
          case measure => simp [intOf]; omega
        · rw [if_neg (by simp [h1]), Int.add_zero] at hs
          have HS := Lib.hid hs
          rw [hs] at hb2
          have e1 : (tk == 1) = false := by simpa using h1
          clear hs h1 hkk hkd ht hta hct k1
          generalize l.getD k 0 = x at *
          generalize sumK g.tiers _ l k = s at *
          go_wp2_with fail
          go_round
          case rel => exact ⟨k + 1, by omega, by go_num, by rw [HS.out]⟩
          case measure => simp [intOf]; omega
    · obtain rfl : n = k := by omega
      have HF := HF1
      go_wp2_with fail
      go_ret
      exact ⟨rfl, HF.out⟩
theorem pl36_al (b : Nat) : alE (pl36 b) 2001 [0, 0, 2] [0, 0, 0] 0 0 = 0 ∧ alL (pl36 b) 2001 [0, 0, 2] [0, 0, 0] 0 0 = [200, 100, 600] ∧ ∀ v, alV (pl36 b) 2001 [0, 0, 2] [0, 0, 0] 0 0 v = .agg #[.int .i64 2001, .int .i64 1000, .int .i64 100, v] :=
  ⟨by kernel_rfl, by kernel_rfl, fun v => by kernel_rfl⟩
set_option maxRecDepth 20000 in
set_option maxHeartbeats 2000000 in
theorem lives36_any (w : World) : Calls Try.prog 31 #[] w fun e w' => e = .returned (.bool true) ∧ Fr [] w w' := by
  have HA := Lib.hid (fun b v2 vt w' h h2 h3 => alloc_any (pl36 b) 2001 v2 vt [0, 0, 2] [0, 0, 0] 0 0 w' h h2 h3)
  go_enter Try.func31, Try.ntmps31
  go_wp2_with fail
  refine (plain36_any _).mono ?_
  rintro e w1 ⟨b, rfl, hok, f1⟩
  go_wp2_with fail
  have hr1 : RdI (w1.alloc (.cells #[.int .i64 0, .int .i64 0, .int .i64 2] 3)) (.slice (some ⟨w1.heap.size, 0, none⟩) 3 3) [0, 0, 2] := rdi_mk rfl [0, 0, 2] 3 3 rfl (by omega)
  have hr2 : RdI ((w1.alloc (.cells #[.int .i64 0, .int .i64 0, .int .i64 2] 3)).alloc (.cells #[.int .i64 0, .int .i64 0, .int .i64 0] 3)) (.slice (some ⟨w1.heap.size + 1, 0, none⟩) 3 3) [0, 0, 0] := rdi_mk (by simp) [0, 0, 0] 3 3 rfl (by omega)
  have F2 : Fr [] w1 ((w1.alloc (.cells #[.int .i64 0, .int .i64 0, .int .i64 2] 3)).alloc (.cells #[.int .i64 0, .int .i64 0, .int .i64 0] 3)) := ((Fr.refl [] w1).alloc _).alloc _
  refine (HA.out b _ _ _ (hok.fr F2) (hr1.below ((Fr.refl [] _).alloc _)) hr2).mono ?_
  rintro e w3 ⟨v, rfl, ho, f3⟩
  obtain ⟨q1, q2, q3⟩ := pl36_al b
  rw [q3 v, q1]
  rw [q2] at ho
  obtain ⟨av, cv, rfl, _, _⟩ := ho.any
  have HF := Lib.hid ((f1.trans F2).trans f3)
  have HO := Lib.hid ho
  clear hr1 hr2 F2 f3 q1 q2 q3 ho f1 hok HA
  go_wp2_with fail
  have hr3 : RdI ((w3.alloc (.cells #[.int .i64 2001, .int .i64 1000, .int .i64 100, .slice av 3 cv] 45)).alloc (.cells #[.int .i64 200, .int .i64 100, .int .i64 600] 3)) (.slice (some ⟨w3.heap.size + 1, 0, none⟩) 3 3) [200, 100, 600] := rdi_mk (by simp) [200, 100, 600] 3 3 rfl (by omega)
  have F4 : Fr [] w3 ((w3.alloc (.cells #[.int .i64 2001, .int .i64 1000, .int .i64 100, .slice av 3 cv] 45)).alloc (.cells #[.int .i64 200, .int .i64 100, .int .i64 600] 3)) := ((Fr.refl [] w3).alloc _).alloc _
  refine (same36_eq _ _ [200, 100, 600] _ _ _ _ (HO.out.rd.below F4) hr3).mono ?_
  rintro e w5 ⟨rfl, f5⟩
  have HF5 := Lib.hid ((HF.out.trans F4).trans f5)
  clear hr3 F4 f5
  go_wp2_with fail
  go_ret
  exact ⟨rfl, HF5.out⟩
end Go.Proofs.Ytdinjekpcgndmaa
/-
  LAYER 38: the prize of a tier; what is drawn from the reserve fund; totals. LAYER 2: Even, Round.
-/
set_option linter.unusedVariables false
namespace Go.Proofs.Ytdinjekpcgndmaa
open Go.RowKit
set_option maxRecDepth 20000 in
set_option maxHeartbeats 1000000 in
theorem even_any (m n : Int) (w : World) (h1 : 0 ≤ m) (h2 : m ≤ 1000000000000) (h3 : 1 ≤ n) (h4 : n ≤ 1000000000000) : Calls Try.prog 104 #[.int .i64 m, .int .i64 n] w fun e w' => e = .returned (.tuple #[.int .i64 (m / n), .int .i64 (m % n), .int .i64 0]) ∧ Fr [] w w' := by
  have hV := mvalid_any m
  rw [inR_yes h1 h2] at hV
  have d1 : decide (n < 1) = false := by simp; omega
  have q0 : 0 ≤ m / n := Int.ediv_nonneg h1 (by omega)
  have q1 : m / n ≤ m := Int.ediv_le_self n h1
  have r0 := Int.emod_nonneg m (show n ≠ 0 by omega)
  have r1 := Int.emod_lt_of_pos m (show 0 < n by omega)
  have t1 : m.tdiv n = m / n := Int.tdiv_eq_ediv_of_nonneg h1
  have t2 : m.tmod n = m % n := Int.tmod_eq_emod_of_nonneg h1
  have v1 : IntKind.i64.wrap (m / n) = m / n := IntWalk.i64_in _ (by omega)
  have v2 : IntKind.i64.wrap (m % n) = m % n := IntWalk.i64_in _ (by omega)
  have e1 : (n == 0) = false := by simp; omega
  have HV := Lib.hid hV
  clear hV
  go_enter Try.func104, Try.ntmps104
  go_wp2_with fail
  refine (HV.out _).mono ?_
  rintro e w1 ⟨rfl, rfl⟩
  go_wp2_with fail
  go_quiet (fail)
  go_wp2_with fail
  exact bodyPost_ret (v := .tuple #[.int .i64 (m / n), .int .i64 (m % n), .int .i64 0]) (by simp [results, Try.results104, go_sem]) rfl ⟨rfl, (Fr.refl [] _).drewN _⟩
set_option maxRecDepth 20000 in
set_option maxHeartbeats 1000000 in
theorem round_any (m n : Int) (w : World) (h1 : 0 ≤ m) (h2 : m ≤ 1000000000000) (h3 : 1 ≤ n) (h4 : n ≤ 1000000000000) : Calls Try.prog 105 #[.int .i64 m, .int .i64 n] w fun e w' => e = .returned (.tuple #[.int .i64 (m - m % n), .int .i64 (m % n), .int .i64 0]) ∧ Fr [] w w' := by
  have hV := mvalid_any m
  rw [inR_yes h1 h2] at hV
  have d1 : decide (n < 1) = false := by simp; omega
  have d2 : decide (1000000000000 < n) = false := by simp; omega
  have r0 := Int.emod_nonneg m (show n ≠ 0 by omega)
  have r1 := Int.emod_lt_of_pos m (show 0 < n by omega)
  have t2 : m.tmod n = m % n := Int.tmod_eq_emod_of_nonneg h1
  have v2 : IntKind.i64.wrap (m % n) = m % n := IntWalk.i64_in _ (by omega)
  have v3 : IntKind.i64.wrap (m - m % n) = m - m % n := IntWalk.i64_in _ (by omega)
  have e1 : (n == 0) = false := by simp; omega
  have HV := Lib.hid hV
  clear hV
  go_enter Try.func105, Try.ntmps105
  go_wp2_with fail
  refine (HV.out _).mono ?_
  rintro e w1 ⟨rfl, rfl⟩
  go_wp2_with fail
  go_quiet (fail)
  go_wp2_with fail
  exact bodyPost_ret (v := .tuple #[.int .i64 (m - m % n), .int .i64 (m % n), .int .i64 0]) (by simp [results, Try.results105, go_sem]) rfl ⟨rfl, (Fr.refl [] _).drewN _⟩
set_option maxRecDepth 20000 in
set_option maxHeartbeats 4000000 in
theorem ptier_any (g : Gm) (f n : Int) (i : Nat) (w : World) (hok : g.Ok w) (hi : i < g.tiers.length) (hlen : g.tiers.length ≤ 12) (f0 : 0 ≤ f) (f1 : f ≤ 1000000000000) (n0 : 0 ≤ n) (n1 : n ≤ 2097152) (hv : 0 ≤ vl g.tiers i ∧ vl g.tiers i ≤ 1000000000) (hr : 1 ≤ g.round ∧ g.round ≤ 1000000) :
    Calls Try.prog 74 #[g.val, .int .i64 i, .int .i64 f, .int .i64 n] w fun e w' => e = .returned (.tuple #[.int .i64 (eaI g f n i), .int .i64 (eaI g f n i * n), .int .i64 (if n = 0 then 0 else f - eaI g f n i * n), .int .i64 0]) ∧ Fr [] w w' := by
  have hbd := ea_bd (g := g) (i := i) f0 n0 hv.1 hr.1
  by_cases hn : n = 0
  · subst hn
    have e0 : eaI g f 0 i = 0 := by unfold eaI; simp
    rw [e0]
    simp only [Int.mul_zero, if_true]
    clear e0 hbd
    go_enter Try.func74, Try.ntmps74
    go_wp2_with (first | (refine box_game rfl (.tmp 0) rfl g rfl ?_; intro w1 hg1 hz1 hf1))
    exact bodyPost_ret (v := .tuple #[.int .i64 0, .int .i64 0, .int .i64 0, .int .i64 0]) (by simp [results, Try.results74, go_sem]) rfl ⟨rfl, hf1⟩
  · rw [if_neg hn]
    have h21 : ∀ w b, GmAt w b g → w.cell? ⟨b, 21, none⟩ = some (.slice g.ta g.tiers.length g.tc) := fun w b h => h.cell 21 _ rfl
    have h17 : ∀ w b, GmAt w b g → w.cell? ⟨b, 17, none⟩ = some (.int .i64 g.round) := fun w b h => h.cell 17 _ rfl
    obtain ⟨t, ht⟩ : ∃ t, g.tiers[i]? = some t := ⟨_, List.getElem?_eq_getElem hi⟩
    obtain ⟨bt, ot, hta, hct⟩ := RdF.at (f := Ti.cells) hok.tiers.rd ht
    have hc4 := hct 4 _ rfl
    have hc5 := hct 5 _ rfl
    rw [hta] at h21
    obtain ⟨hkd, hvl⟩ := kd_of ht
    have hE : eaI g f n i = if t.kind = 1 then min (f / n) t.value else f / n - f / n % g.round := by unfold eaI; rw [if_neg hn, hkd, hvl]
    rw [hvl] at hv
    obtain ⟨tm, tb, te, to_, tk, tv⟩ := t
    simp only at hc4 hc5 hE hv
    have hEV := fun w => even_any f n w f0 f1 (by omega) (by omega)
    have q0 : 0 ≤ f / n := Int.ediv_nonneg f0 n0
    have q1 : f / n ≤ f := Int.ediv_le_self n f0
    have hRO := fun w => round_any (f / n) g.round w q0 (by omega) hr.1 (by omega)
    have m0 := Int.emod_nonneg (f / n) (show g.round ≠ 0 by omega)
    have en : (n == 0) = false := by simpa using hn
    obtain ⟨m, hm⟩ : ∃ m, m = g.tiers.length := ⟨_, rfl⟩
    rw [← hm] at h21 hlen hi
    generalize g.round = R at *
    generalize f / n = q at *
    generalize f % n = rr at *
    generalize q % R = qr at *
    have H21 := Lib.hid h21
    have H17 := Lib.hid h17
    have HEV := Lib.hid hEV
    have HRO := Lib.hid hRO
    have him : (i : Int) < (m : Int) := by omega
    clear h21 h17 hEV hRO hct hta ht hkd hvl hok hm hn
    by_cases h1 : tk = 1
    · rw [if_pos h1] at hE
      have e1 : (tk == 1) = true := by simpa using h1
      clear h1
      by_cases hle : q ≤ tv
      · have hE2 : eaI g f n i = q := by rw [hE]; omega
        rw [hE2] at hbd ⊢
        obtain ⟨b1, b2, b3, b4⟩ := hbd
        have w1 : IntKind.i64.wrap (q * n) = q * n := IntWalk.i64_in _ (by omega)
        have w2 : IntKind.i64.wrap (f - q * n) = f - q * n := IntWalk.i64_in _ (by omega)
        have emin : min q tv = q := by omega
        clear hE hE2
        go_enter Try.func74, Try.ntmps74
        go_wp2_with (first | (refine box_game rfl (.tmp 0) rfl g rfl ?_; intro w1 hg1 hz1 hf1))
        refine (HEV.out _).mono ?_
        rintro e w2 ⟨rfl, f2⟩
        have hg2 := hg1.fr f2 (by simp)
        have c21 := H21.out _ _ hg2
        have hF2 := hf1.trans f2
        have c4 := hF2.cell_some hc4 (by simp)
        have c5 := hF2.cell_some hc5 (by simp)
        clear hg1 hz1 hf1 f2 hg2 hc4 hc5
        go_wp2_with fail
        exact bodyPost_ret (v := .tuple #[.int .i64 q, .int .i64 (q * n), .int .i64 (f - q * n), .int .i64 0]) (by simp [results, Try.results74, go_sem]) rfl ⟨rfl, hF2⟩
      · have hE2 : eaI g f n i = tv := by rw [hE]; omega
        rw [hE2] at hbd ⊢
        obtain ⟨b1, b2, b3, b4⟩ := hbd
        have w1 : IntKind.i64.wrap (tv * n) = tv * n := IntWalk.i64_in _ (by omega)
        have w2 : IntKind.i64.wrap (f - tv * n) = f - tv * n := IntWalk.i64_in _ (by omega)
        have emin : min q tv = tv := by omega
        clear hE hE2
        go_enter Try.func74, Try.ntmps74
        go_wp2_with (first | (refine box_game rfl (.tmp 0) rfl g rfl ?_; intro w1 hg1 hz1 hf1))
        refine (HEV.out _).mono ?_
        rintro e w2 ⟨rfl, f2⟩
        have hg2 := hg1.fr f2 (by simp)
        have c21 := H21.out _ _ hg2
        have hF2 := hf1.trans f2
        have c4 := hF2.cell_some hc4 (by simp)
        have c5 := hF2.cell_some hc5 (by simp)
        clear hg1 hz1 hf1 f2 hg2 hc4 hc5
        go_wp2_with fail
        exact bodyPost_ret (v := .tuple #[.int .i64 tv, .int .i64 (tv * n), .int .i64 (f - tv * n), .int .i64 0]) (by simp [results, Try.results74, go_sem]) rfl ⟨rfl, hF2⟩
    · rw [if_neg h1] at hE
      have e1 : (tk == 1) = false := by simpa using h1
      rw [hE] at hbd ⊢
      obtain ⟨b1, b2, b3, b4⟩ := hbd
      generalize q - qr = x at *
      have w1 : IntKind.i64.wrap (x * n) = x * n := IntWalk.i64_in _ (by omega)
      have w2 : IntKind.i64.wrap (f - x * n) = f - x * n := IntWalk.i64_in _ (by omega)
      clear hE h1
      go_enter Try.func74, Try.ntmps74
      go_wp2_with (first | (refine box_game rfl (.tmp 0) rfl g rfl ?_; intro w1 hg1 hz1 hf1))
      refine (HEV.out _).mono ?_
      rintro e w2 ⟨rfl, f2⟩
      have hg2 := hg1.fr f2 (by simp)
      have c21 := H21.out _ _ hg2
      have c17 := H17.out _ _ hg2
      have hF2 := hf1.trans f2
      have c4 := hF2.cell_some hc4 (by simp)
      have c5 := hF2.cell_some hc5 (by simp)
      clear hg1 hz1 hf1 f2 hg2 hc4 hc5
      go_wp2_with fail
      refine (HRO.out _).mono ?_
      rintro e w3 ⟨rfl, f3⟩
      have hF3 := hF2.trans f3
      clear hF2 f3 c21 c17 c4 c5
      go_wp2_with fail
      exact bodyPost_ret (v := .tuple #[.int .i64 x, .int .i64 (x * n), .int .i64 (f - x * n), .int .i64 0]) (by simp [results, Try.results74, go_sem]) rfl ⟨rfl, hF3⟩
set_option maxRecDepth 20000 in
set_option maxHeartbeats 1000000 in
theorem total_any (v : Value) (l : List Int) (w : World) (hr : RdI w v l) (ha : amtB l = true) (hl : l.length ≤ 1000) : Calls Try.prog 76 #[v] w fun e w' => e = .returned (.int .i64 (sumTo l l.length)) ∧ w = w' := by
  obtain ⟨a2, c2, rfl, l2, m2, r2⟩ := hr
  have hkb := fun k : Nat => sumTo_bd ha k
  have hb := amtB_at ha
  have hsu : ∀ k, sumTo l (k + 1) = sumTo l k + l.getD k 0 := fun k => rfl
  obtain ⟨n, hN⟩ : ∃ n, n = l.length := ⟨_, rfl⟩
  rw [← hN] at r2 l2 hl ⊢
  have HR := Lib.hid r2
  have HKB := Lib.hid hkb
  have HB := Lib.hid hb
  have HSU := Lib.hid hsu
  clear hN r2 hkb hb hsu ha
  unfold maxLen at m2
  go_enter Try.func76, Try.ntmps76
  go_wp2_with fail
  go_loop [8, 3] (fun i s => ∃ k : Nat, k ≤ n ∧ i = .int .i64 k ∧ s = .int .i64 (sumTo l k)) (fun i _ => n - (intOf i).toNat)
  case atStart => exact ⟨0, by omega, rfl, rfl⟩
  case round =>
    obtain ⟨k, hk, rfl, rfl⟩ := hrel
    by_cases hlt : k < n
    · obtain ⟨g1, o1, rfl, k1⟩ := HR.out k hlt
      have hb1 := HKB.out k
      have hx := HB.out k
      have hs := HSU.out k
      have HS := Lib.hid hs
      have hkn : (k : Int) < (n : Int) := by omega
      clear hs
      generalize l.getD k 0 = x at *
      generalize sumTo l k = s at *
      go_wp2_with fail
      go_round
      case rel => exact ⟨k + 1, by omega, by go_num, by rw [HS.out]⟩
      case measure => simp [intOf]; omega
    · obtain rfl : n = k := by omega
      go_wp2_with fail
      go_ret
      exact ⟨rfl, rfl⟩
set_option maxRecDepth 20000 in
set_option maxHeartbeats 4000000 in
theorem drawn_any (g : Gm) (s A R : Int) (v : Value) (l : List Int) (w : World) (hok : g.Ok w) (h2 : RdI w v l) (hl : l.length = g.tiers.length) (hm : l.length ≤ 12) (hb : ∀ j, j < l.length → 0 ≤ l.getD j 0 ∧ l.getD j 0 ≤ 1000000000000) (a0 : 0 ≤ A) (a1 : A ≤ 1000000000000) (r0 : 0 ≤ g.reserve) (r1 : g.reserve ≤ 10000) :
    Calls Try.prog 75 #[g.val, .agg #[.int .i64 s, .int .i64 A, .int .i64 R, v]] w fun e w' => e = .returned (.tuple #[.int .i64 (max 0 (sumK g.tiers true l l.length - (A - A * g.reserve / 10000))), .int .i64 0]) ∧ Fr [] w w' := by
  have h21 : ∀ w b, GmAt w b g → w.cell? ⟨b, 21, none⟩ = some (.slice g.ta g.tiers.length g.tc) := fun w b h => h.cell 21 _ rfl
  have h16 : ∀ w b, GmAt w b g → w.cell? ⟨b, 16, none⟩ = some (.int .i64 g.reserve) := fun w b h => h.cell 16 _ rfl
  obtain ⟨k1, k2⟩ := pt_yes (inR_yes a0 a1) (inR_yes r0 r1)
  have hP := part_any A g.reserve
  rw [k1, k2] at hP
  obtain ⟨q1, q2⟩ := mulb a0 a1 r0 r1
  have b0 : 0 ≤ A * g.reserve / 10000 := Int.ediv_nonneg q1 (by omega)
  have b1 : A * g.reserve / 10000 ≤ A := by
    have : A * g.reserve ≤ A * 10000 := Int.mul_le_mul_of_nonneg_left r1 a0
    omega
  generalize A * g.reserve / 10000 = B at *
  obtain ⟨a2, c2, rfl, l2, m2, r2⟩ := h2
  unfold maxLen at m2
  have hkb := @sumK_bd g.tiers true l hb
  rw [← hl] at h21
  have HL := Lib.hid hl
  have hsu : ∀ k, sumK g.tiers true l (k + 1) = sumK g.tiers true l k + if isK g.tiers true k = true then l.getD k 0 else 0 := fun k => rfl
  obtain ⟨n, hN⟩ : ∃ n, n = l.length := ⟨_, rfl⟩
  rw [← hN] at r2 l2 h21 hkb hb hm ⊢
  obtain ⟨D, hD⟩ : ∃ D, D = max 0 (sumK g.tiers true l n - (A - B)) := ⟨_, rfl⟩
  rw [← hD]
  have HD := Lib.hid hD
  clear hD
  have HN := Lib.hid hN
  have HR := Lib.hid r2
  have H21 := Lib.hid h21
  have H16 := Lib.hid h16
  have HKB := Lib.hid hkb
  have HB := Lib.hid hb
  have HSU := Lib.hid hsu
  have HOK := Lib.hid hok
  have HP := Lib.hid hP
  clear hl hN r2 h21 h16 hkb hb hsu hok k1 k2 hP q1 q2
  generalize hgr : g.reserve = gr at *
  clear hgr
  go_enter Try.func75, Try.ntmps75
  go_upto_region 1 with (refine box_game rfl (.tmp 0) rfl g rfl ?_; intro w1 hg1 hz1 hf1)
  have d1 : (w1.alloc (.cells #[.int .i64 s, .int .i64 A, .int .i64 R, .slice a2 n c2] 45)).cell? ⟨w.heap.size + 1, 1, none⟩ = some (.int .i64 A) := new_cell hz1 rfl
  have d3 : (w1.alloc (.cells #[.int .i64 s, .int .i64 A, .int .i64 R, .slice a2 n c2] 45)).cell? ⟨w.heap.size + 1, 3, none⟩ = some (.slice a2 n c2) := new_cell hz1 rfl
  have hg2 := hg1.fr ((Fr.refl [] w1).alloc (.cells #[.int .i64 s, .int .i64 A, .int .i64 R, .slice a2 n c2] 45)) (by simp)
  have F2 := hf1.alloc (.cells #[.int .i64 s, .int .i64 A, .int .i64 R, .slice a2 n c2] 45)
  generalize w1.alloc (.cells #[.int .i64 s, .int .i64 A, .int .i64 R, .slice a2 n c2] 45) = x2 at *
  have c16 := H16.out _ _ hg2
  have c21 := H21.out _ _ hg2
  have HF2 := Lib.hid F2
  clear hg1 hz1 hf1 hg2 F2
  go_wp2_with fail
  refine (HP.out _).mono ?_
  rintro e w3 ⟨rfl, rfl⟩
  go_wp2_with fail
  go_loopw [25, 8] (fun i t wr => ∃ k : Nat, k ≤ n ∧ i = .int .i64 k ∧ t = .int .i64 (sumK g.tiers true l k) ∧ Fr [] x2 wr) (fun i _ _ => n - (intOf i).toNat)
  case atStart => exact ⟨0, by omega, rfl, rfl, Fr.refl _ _⟩
  case round =>
    obtain ⟨k, hk, rfl, rfl, hf⟩ := hrel
    have d1 := hf.cell_some d1 (by simp)
    have d3 := hf.cell_some d3 (by simp)
    have c21 := hf.cell_some c21 (by simp)
    have hF := HF2.out.trans hf
    by_cases hlt : k < n
    · obtain ⟨g1, o1, rfl, k1⟩ := HR.out k hlt
      have k1' := hF.cell_some k1 (by simp)
      obtain ⟨t, ht⟩ : ∃ t, g.tiers[k]? = some t := ⟨_, List.getElem?_eq_getElem (by have := HL.out; have := HN.out; omega)⟩
      obtain ⟨bt, ot, hta, hct⟩ := RdF.at (f := Ti.cells) HOK.out.tiers.rd ht
      have c0 := hF.cell_some (hct 0 _ rfl) (by simp)
      have c1 := hF.cell_some (hct 1 _ rfl) (by simp)
      have c2' := hF.cell_some (hct 2 _ rfl) (by simp)
      have c3 := hF.cell_some (hct 3 _ rfl) (by simp)
      have c4 := hF.cell_some (hct 4 _ rfl) (by simp)
      have c5 := hF.cell_some (hct 5 _ rfl) (by simp)
      rw [Nat.add_zero] at c0
      rw [hta] at c21 ⊢
      have hkd := (kd_of ht).1
      have hkk : isK g.tiers true k = decide (t.kind = 1) := by unfold isK; rw [hkd]; simp
      have hs := HSU.out k
      rw [hkk] at hs
      obtain ⟨tm, tb, te, to_, tk, tv⟩ := t
      simp only at c0 c1 c2' c3 c4 c5 hs
      have hb1 := HKB.out k (by omega)
      have hb2 := HKB.out (k + 1) (by omega)
      have hx := HB.out k hlt
      have hkn : (k : Int) < (n : Int) := by omega
      have HFr := Lib.hid (hf.alloc (.cells #[.int .i64 tm, .int .i64 tb, .int .i64 te, .int .i64 to_, .int .i64 tk, .int .i64 tv] 40))
      by_cases h1 : tk = 1
      · rw [if_pos (by simp [h1])] at hs
        have HS := Lib.hid hs
        rw [hs] at hb2
        have e1 : (tk == 1) = true := by simpa using h1
        clear hs h1 hkk hkd ht hta hct k1 hF hf
        generalize l.getD k 0 = x at *
        generalize sumK g.tiers _ l k = s at *
        go_upto_region 8 with (fail)
        have e5 : Fr [] wr (wr.alloc (.cells #[.int .i64 tm, .int .i64 tb, .int .i64 te, .int .i64 to_, .int .i64 tk, .int .i64 tv] 40)) := (Fr.refl [] wr).alloc _
        have q4 : (wr.alloc (.cells #[.int .i64 tm, .int .i64 tb, .int .i64 te, .int .i64 to_, .int .i64 tk, .int .i64 tv] 40)).cell? ⟨wr.heap.size, 4, none⟩ = some (.int .i64 tk) := new_cell rfl rfl
        have q3 := e5.cell_some d3 (by simp)
        have qx := e5.cell_some k1' (by simp)
        generalize wr.alloc (.cells #[.int .i64 tm, .int .i64 tb, .int .i64 te, .int .i64 to_, .int .i64 tk, .int .i64 tv] 40) = x5 at *
        clear e5 d1 d3 c21 c0 c1 c2' c3 c4 c5 k1'
        go_wp2_with fail
        go_roundw
        case rel => exact ⟨k + 1, by omega, by go_num, by rw [HS.out], HFr.out⟩
        case measure => simp [intOf]; omega
      · rw [if_neg (by simp [h1]), Int.add_zero] at hs
        have HS := Lib.hid hs
        rw [hs] at hb2
        have e1 : (tk == 1) = false := by simpa using h1
        clear hs h1 hkk hkd ht hta hct k1 hF hf
        generalize l.getD k 0 = x at *
        generalize sumK g.tiers _ l k = s at *
        go_upto_region 8 with (fail)
        have e5 : Fr [] wr (wr.alloc (.cells #[.int .i64 tm, .int .i64 tb, .int .i64 te, .int .i64 to_, .int .i64 tk, .int .i64 tv] 40)) := (Fr.refl [] wr).alloc _
        have q4 : (wr.alloc (.cells #[.int .i64 tm, .int .i64 tb, .int .i64 te, .int .i64 to_, .int .i64 tk, .int .i64 tv] 40)).cell? ⟨wr.heap.size, 4, none⟩ = some (.int .i64 tk) := new_cell rfl rfl
        have q3 := e5.cell_some d3 (by simp)
        have qx := e5.cell_some k1' (by simp)
        generalize wr.alloc (.cells #[.int .i64 tm, .int .i64 tb, .int .i64 te, .int .i64 to_, .int .i64 tk, .int .i64 tv] 40) = x5 at *
        clear e5 d1 d3 c21 c0 c1 c2' c3 c4 c5 k1'
        go_wp2_with fail
        go_roundw
        case rel => exact ⟨k + 1, by omega, by go_num, by rw [HS.out], HFr.out⟩
        case measure => simp [intOf]; omega
    · obtain rfl : n = k := by omega
      have hb1 := HKB.out n (by omega)
      generalize sumK g.tiers _ l n = S at *
      have HF := Lib.hid hF
      by_cases hlt0 : S - (A - B) ≤ 0
      · have e9 : D = 0 := by have := HD.out; omega
        subst e9
        clear HD
        have hz0 : S - (A - B) ≤ 0 := hlt0
        have em : max 0 (S - (A - B)) = 0 := by omega
        go_wp2_with fail
        go_ret2
        exact ⟨rfl, HF.out⟩
      · have e9 : D = S - (A - B) := by have := HD.out; omega
        subst e9
        clear HD
        have hz0 : 0 ≤ S - (A - B) := by omega
        have em : max 0 (S - (A - B)) = S - (A - B) := by omega
        go_wp2_with fail
        go_ret2
        exact ⟨rfl, HF.out⟩
end Go.Proofs.Ytdinjekpcgndmaa
/-
  LAYER 38: what Award leaves; its memory. Plain lemmas.
-/
set_option linter.unusedVariables false
namespace Go.Proofs.Ytdinjekpcgndmaa
open Go.RowKit
/-- a block that is known whole -/
def RowAt (x : World) (b : Nat) (T : TypeId) (l : List Value) : Prop := x.heap[b]? = some (.cells l.toArray T (0, 0))
theorem RowAt.lt {x : World} {b : Nat} {T : TypeId} {l : List Value} (h : RowAt x b T l) : b < x.heap.size := (Array.getElem?_eq_some_iff.1 h).1
theorem RowAt.cell {x : World} {b : Nat} {T : TypeId} {l : List Value} (h : RowAt x b T l) (i : Nat) (v : Value) (hv : l[i]? = some v) : x.cell? ⟨b, i, none⟩ = some v := by
  rw [cell_of_row x b i _ _ _ h]
  simpa using hv
theorem RowAt.frozen {x : World} {b : Nat} {T : TypeId} {l : List Value} (h : RowAt x b T l) (i : Nat) : x.frozen? ⟨b, i, none⟩ = false := by
  unfold RowAt at h
  simp [World.frozen?, h]
theorem RowAt.fr {bs : List Nat} {x y : World} {b : Nat} {T : TypeId} {l : List Value} (h : RowAt x b T l) (hf : Fr bs x y) (hn : b ∉ bs) : RowAt y b T l := (hf.block b h.lt hn).trans h
theorem RowAt.set {x : World} {b : Nat} {T : TypeId} {l : List Value} (h : RowAt x b T l) (i : Nat) (v : Value) : RowAt (x.setCell ⟨b, i, none⟩ v) b T (l.set i v) := by
  unfold RowAt at h ⊢
  simp [World.setCell, Array.getElem?_modify, h]
theorem RowAt.other {x : World} {b b' : Nat} {T : TypeId} {l : List Value} (h : RowAt x b T l) (hn : b ≠ b') (i : Nat) (v : Value) : RowAt (x.setCell ⟨b', i, none⟩ v) b T l :=
  h.fr ((Fr.refl [b'] x).setCell (.inl (by simp)) v) (by simpa using hn)
theorem RowAt.new {x : World} {n : Nat} (hz : x.heap.size = n) {C : Array Value} {T : TypeId} {l : List Value} (hl : C = l.toArray) : RowAt (x.alloc (.cells C T)) n T l := by
  subst hz; subst hl
  exact heap_alloc_new x _
/-- append in a plain region: the new slice is in the old row's block or in a new one -/
theorem app_iL {ops : Array Oper} {rest : List Oper} {o : Oper} {a : Act} {Q : Exit → Act → World → Prop} (w0 : World) (h0 : Nat) (hH : w0.heap.size = h0) (y : Int) (hgd : o.guard = none) (s x : Operand)
    (ho : o.op = .call { callee := .builtin .append, args := #[s, x], argTypes := #[31, 31] }) (base : Nat) (v : Value) (l : List Int) (hs : a.eval s = v) (hown : OwnI w0 base 3 v l)
    (hx : a.eval x = .slice (some ⟨h0, 0, none⟩) 1 1) (hl : l.length ≤ 1000000000) (hb : base ≤ w0.heap.size)
    (h : ∀ v' w', OwnI w' base 3 v' (l ++ [y]) → (∀ bs A, (∀ k, v.ownBlock = some k → k ∈ bs ∨ A.heap.size ≤ k) → Fr bs A w0 → Fr bs A w') → (∀ g, v'.ownBlock = some g → v.ownBlock = some g ∨ w0.heap.size ≤ g) → (∃ g cap, v' = .slice (some ⟨g, 0, none⟩) (l.length + 1) cap) → wpList Try.prog ops Q rest (a.put o.dst v') w') :
    wpList Try.prog ops Q (o :: rest) a (w0.alloc (.cells #[.int .i64 y] 3)) := by
  subst hH
  obtain ⟨i0, hi0, hz0, hz1, hz2⟩ := info_parts infoIntA
  have hown' : OwnI (w0.alloc (.cells #[.int .i64 y] 3)) base 3 v l := hown.fr ((Fr.refl [] w0).alloc _) (by simp)
  refine wpList_append_lies _ hgd s x 31 ho base 3 i0 (.int .i64 0) 1 8 Try.underlying31 hi0 hz0 hz1 hz2 rfl (by decide) v l.length (l.map (.int .i64)) hs hown' ⟨w0.heap.size, 0, none⟩ 1 1 [.int .i64 y] hx rfl (cell_one_new _ _ _) (by simp [Value.oneCell']) (by omega) (by unfold maxLen; omega) (by omega) (by simp; omega) _ rfl ?_
  intro g cap w' h1 h2 h3 _
  refine h _ w' ?_ ?_ ?_ ⟨g, cap, rfl⟩
  · unfold OwnI; simpa using h1
  · intro bs A hA hF
    exact (hF.alloc _).grown h2 hA
  · intro g' hg'
    have e : g = g' := by simpa [Value.ownBlock] using hg'
    subst e
    rcases h3 with h3 | h3
    · exact .inl h3
    · right; rw [h3]; simp
def awV1 (g : Gm) (s : Int) (cs ct : List Int) (cr cl : Int) (v : Value) : Value :=
  if awE g s cs ct cr cl = 0 then .agg #[.int .i64 s, .int .i64 (fuA g s), .int .i64 (alR g s cs cr), v] else .agg #[.int .i64 0, .int .i64 0, .int .i64 0, v]
def awV2 (g : Gm) (s : Int) (cs ct : List Int) (cr cl : Int) (vC vE vP vN : Value) : Value :=
  if awE g s cs ct cr cl = 0 then .agg #[vC, vE, vP, .int .i64 (awB g s cs ct cr cl), .int .i64 (awD g s cs cr), vN, .int .i64 (awR g s cs ct cr cl), .int .i64 (awN g s cs ct cr cl)]
  else .agg #[vC, vE, vP, .int .i64 0, .int .i64 0, vN, .int .i64 0, .int .i64 0]
def awZ (g : Gm) (s : Int) (cs ct : List Int) (cr cl : Int) (l : List Int) : List Int := if awE g s cs ct cr cl = 0 then l else []
def AwPost (g : Gm) (s : Int) (cs ct : List Int) (cr cl : Int) (w : World) (e : Ending) (w' : World) : Prop :=
  ∃ vT vC vE vP vN, e = .returned (.tuple #[awV1 g s cs ct cr cl vT, awV2 g s cs ct cr cl vC vE vP vN, .int .i64 (awE g s cs ct cr cl)]) ∧
    OwnI w' w.heap.size 3 vT (awZ g s cs ct cr cl (awT g s cs ct cr)) ∧ OwnI w' w.heap.size 3 vC (awZ g s cs ct cr cl cs) ∧ OwnI w' w.heap.size 3 vE (awZ g s cs ct cr cl (eaL g (awF g s cs ct cr cl) cs g.tiers.length)) ∧
    OwnI w' w.heap.size 3 vP (awZ g s cs ct cr cl (paL g (awF g s cs ct cr cl) cs g.tiers.length)) ∧ OwnI w' w.heap.size 3 vN (awZ g s cs ct cr cl (awC g s cs ct cr cl)) ∧ Fr [] w w'
section
variable {g : Gm} {s : Int} {cs ct : List Int} {cr cl : Int} {w : World}
theorem aw_err {E : Int} (h : awE g s cs ct cr cl = E) (h0 : E ≠ 0) : ∀ w', Fr [] w w' → AwPost g s cs ct cr cl w (.returned (.tuple #[.agg #[.int .i64 0, .int .i64 0, .int .i64 0, .slice none 0 0], .agg #[.slice none 0 0, .slice none 0 0, .slice none 0 0, .int .i64 0, .int .i64 0, .slice none 0 0, .int .i64 0, .int .i64 0], .int .i64 E])) w' := by
  intro w' hf
  subst h
  refine ⟨.slice none 0 0, .slice none 0 0, .slice none 0 0, .slice none 0 0, .slice none 0 0, ?_, ?_, ?_, ?_, ?_, ?_, hf⟩
  · unfold awV1 awV2; rw [if_neg h0, if_neg h0]
  all_goals (unfold awZ; rw [if_neg h0]; exact OwnI.nil _ _ _)
theorem aw_ok (h : awE g s cs ct cr cl = 0) : ∀ vT vC vE vP vN w', OwnI w' w.heap.size 3 vT (awT g s cs ct cr) → OwnI w' w.heap.size 3 vC cs → OwnI w' w.heap.size 3 vE (eaL g (awF g s cs ct cr cl) cs g.tiers.length) →
    OwnI w' w.heap.size 3 vP (paL g (awF g s cs ct cr cl) cs g.tiers.length) → OwnI w' w.heap.size 3 vN (awC g s cs ct cr cl) → Fr [] w w' →
    AwPost g s cs ct cr cl w (.returned (.tuple #[.agg #[.int .i64 s, .int .i64 (fuA g s), .int .i64 (alR g s cs cr), vT], .agg #[vC, vE, vP, .int .i64 (awB g s cs ct cr cl), .int .i64 (awD g s cs cr), vN, .int .i64 (awR g s cs ct cr cl), .int .i64 (awN g s cs ct cr cl)], .int .i64 0])) w' := by
  intro vT vC vE vP vN w' o1 o2 o3 o4 o5 hf
  refine ⟨vT, vC, vE, vP, vN, ?_, ?_, ?_, ?_, ?_, ?_, hf⟩
  · unfold awV1 awV2; rw [if_pos h, if_pos h, h]
  all_goals (unfold awZ; rw [if_pos h]; assumption)
theorem awE_1 (h : alE g s cs ct cr cl ≠ 0) : awE g s cs ct cr cl = alE g s cs ct cr cl := by unfold awE; rw [if_pos h]
theorem awE_2 (h : alE g s cs ct cr cl = 0) (h2 : capE g (awT g s cs ct cr) ≠ 0) : awE g s cs ct cr cl = capE g (awT g s cs ct cr) := by unfold awE; rw [if_neg (by omega), if_pos h2]
theorem awE_3 (h : alE g s cs ct cr cl = 0) (h2 : capE g (awT g s cs ct cr) = 0) (h3 : flE g (capL g (awT g s cs ct cr)) cs cl ≠ 0) : awE g s cs ct cr cl = flE g (capL g (awT g s cs ct cr)) cs cl := by unfold awE; rw [if_neg (by omega), if_neg (by omega), if_pos h3]
theorem awE_4 (h : alE g s cs ct cr cl = 0) (h2 : capE g (awT g s cs ct cr) = 0) (h3 : flE g (capL g (awT g s cs ct cr)) cs cl = 0) (h4 : 1000000000000 < awR g s cs ct cr cl ∨ 1000000000000 < sumTo (awC g s cs ct cr cl) g.tiers.length) : awE g s cs ct cr cl = 9 := by
  unfold awE; rw [if_neg (by omega), if_neg (by omega), if_neg (by omega), if_pos h4]
theorem awE_5 (h : alE g s cs ct cr cl = 0) (h2 : capE g (awT g s cs ct cr) = 0) (h3 : flE g (capL g (awT g s cs ct cr)) cs cl = 0) (h4 : ¬ (1000000000000 < awR g s cs ct cr cl ∨ 1000000000000 < sumTo (awC g s cs ct cr cl) g.tiers.length)) : awE g s cs ct cr cl = 0 := by
  unfold awE; rw [if_neg (by omega), if_neg (by omega), if_neg (by omega), if_neg h4]
end
abbrev aw0 : List Value := [.slice none 0 0, .slice none 0 0, .slice none 0 0, .int .i64 0, .int .i64 0, .slice none 0 0, .int .i64 0, .int .i64 0]
/-- the memory of Award behind its first statement -/
structure AwM (g : Gm) (vt : Value) (cr cl : Int) (w x : World) : Prop where
  hg : GmAt x w.heap.size g
  fr : Fr [] w x
  size : w.heap.size + 4 ≤ x.heap.size
  c : RowAt x (w.heap.size + 1) 43 [vt, .int .i64 cr, .int .i64 cl]
  p : RowAt x (w.heap.size + 2) 45 [.int .i64 0, .int .i64 0, .int .i64 0, .slice none 0 0]
  a : RowAt x (w.heap.size + 3) 60 aw0
theorem AwM.go {g : Gm} {vt : Value} {cr cl : Int} {w x y : World} {bs : List Nat} (h : AwM g vt cr cl w x) (k : Fr bs x y) (hb : ∀ i ∈ bs, w.heap.size + 4 ≤ i) : AwM g vt cr cl w y := by
  have n0 : w.heap.size ∉ bs := fun hm => by have := hb _ hm; omega
  have n1 : w.heap.size + 1 ∉ bs := fun hm => by have := hb _ hm; omega
  have n2 : w.heap.size + 2 ∉ bs := fun hm => by have := hb _ hm; omega
  have n3 : w.heap.size + 3 ∉ bs := fun hm => by have := hb _ hm; omega
  exact ⟨h.hg.fr k n0, h.fr.trans' k (fun i hi => .inr (by have := hb i hi; omega)), Nat.le_trans h.size k.size, h.c.fr k n1, h.p.fr k n2, h.a.fr k n3⟩
theorem awM_start {g : Gm} {vt : Value} {cr cl : Int} {w w1 : World} (hg : GmAt w1 w.heap.size g) (hz : w1.heap.size = w.heap.size + 1) (hf : Fr [] w w1) :
    AwM g vt cr cl w (((w1.alloc (.cells #[vt, .int .i64 cr, .int .i64 cl] 43)).alloc (.cells #[.int .i64 0, .int .i64 0, .int .i64 0, .slice none 0 0] 45)).alloc (.cells #[.slice none 0 0, .slice none 0 0, .slice none 0 0, .int .i64 0, .int .i64 0, .slice none 0 0, .int .i64 0, .int .i64 0] 60)) :=
  ⟨hg.fr ((((Fr.refl [] _).alloc _).alloc _).alloc _) (by simp), ((hf.alloc _).alloc _).alloc _, by simp [hz],
   (RowAt.new hz rfl).fr (((Fr.refl [] _).alloc _).alloc _) (by simp), (RowAt.new (by simp [hz]) rfl).fr ((Fr.refl [] _).alloc _) (by simp), RowAt.new (by simp [hz]) rfl⟩
/-- the results' cells, stored whole -/
theorem put_p {x : World} {b : Nat} {T : TypeId} {l : List Value} (h : RowAt x b T l) (hl : l.length = 4) (v0 v1 v2 v3 : Value) :
    RowAt ((((x.setCell ⟨b, 0, none⟩ v0).setCell ⟨b, 1, none⟩ v1).setCell ⟨b, 2, none⟩ v2).setCell ⟨b, 3, none⟩ v3) b T [v0, v1, v2, v3] := by
  match l, hl with
  | [a0, a1, a2, a3], _ => exact (((h.set 0 v0).set 1 v1).set 2 v2).set 3 v3
theorem put_a {x : World} {b : Nat} {T : TypeId} {l : List Value} (h : RowAt x b T l) (hl : l.length = 8) (v0 v1 v2 v3 v4 v5 v6 v7 : Value) :
    RowAt ((((((((x.setCell ⟨b, 0, none⟩ v0).setCell ⟨b, 1, none⟩ v1).setCell ⟨b, 2, none⟩ v2).setCell ⟨b, 3, none⟩ v3).setCell ⟨b, 4, none⟩ v4).setCell ⟨b, 5, none⟩ v5).setCell ⟨b, 6, none⟩ v6).setCell ⟨b, 7, none⟩ v7) b T [v0, v1, v2, v3, v4, v5, v6, v7] := by
  match l, hl with
  | [a0, a1, a2, a3, a4, a5, a6, a7], _ => exact (((((((h.set 0 v0).set 1 v1).set 2 v2).set 3 v3).set 4 v4).set 5 v5).set 6 v6).set 7 v7
theorem fr4 {x : World} {b : Nat} (v0 v1 v2 v3 : Value) : Fr [b] x ((((x.setCell ⟨b, 0, none⟩ v0).setCell ⟨b, 1, none⟩ v1).setCell ⟨b, 2, none⟩ v2).setCell ⟨b, 3, none⟩ v3) :=
  ((((Fr.refl [b] x).setCell (.inl (by simp)) _).setCell (.inl (by simp)) _).setCell (.inl (by simp)) _).setCell (.inl (by simp)) _
theorem fr8 {x : World} {b : Nat} (v0 v1 v2 v3 v4 v5 v6 v7 : Value) : Fr [b] x ((((((((x.setCell ⟨b, 0, none⟩ v0).setCell ⟨b, 1, none⟩ v1).setCell ⟨b, 2, none⟩ v2).setCell ⟨b, 3, none⟩ v3).setCell ⟨b, 4, none⟩ v4).setCell ⟨b, 5, none⟩ v5).setCell ⟨b, 6, none⟩ v6).setCell ⟨b, 7, none⟩ v7) :=
  ((((((((Fr.refl [b] x).setCell (.inl (by simp)) _).setCell (.inl (by simp)) _).setCell (.inl (by simp)) _).setCell (.inl (by simp)) _).setCell (.inl (by simp)) _).setCell (.inl (by simp)) _).setCell (.inl (by simp)) _).setCell (.inl (by simp)) _
structure AwEnd (w y : World) (b : Nat) (x : World) (p0 p1 p2 p3 a0 a1 a2 a3 a4 a5 a6 a7 : Value) : Prop where
  p : RowAt y (b + 2) 45 [p0, p1, p2, p3]
  a : RowAt y (b + 3) 60 [a0, a1, a2, a3, a4, a5, a6, a7]
  fr : Fr [b + 2, b + 3] x y
theorem awEnd {g : Gm} {vt : Value} {cr cl : Int} {w x : World} (h : AwM g vt cr cl w x) (p0 p1 p2 p3 a0 a1 a2 a3 a4 a5 a6 a7 : Value) :
    AwEnd w ((((((((((((x.setCell ⟨w.heap.size + 2, 0, none⟩ p0).setCell ⟨w.heap.size + 2, 1, none⟩ p1).setCell ⟨w.heap.size + 2, 2, none⟩ p2).setCell ⟨w.heap.size + 2, 3, none⟩ p3).setCell ⟨w.heap.size + 3, 0, none⟩ a0).setCell ⟨w.heap.size + 3, 1, none⟩ a1).setCell ⟨w.heap.size + 3, 2, none⟩ a2).setCell ⟨w.heap.size + 3, 3, none⟩ a3).setCell ⟨w.heap.size + 3, 4, none⟩ a4).setCell ⟨w.heap.size + 3, 5, none⟩ a5).setCell ⟨w.heap.size + 3, 6, none⟩ a6).setCell ⟨w.heap.size + 3, 7, none⟩ a7) w.heap.size x p0 p1 p2 p3 a0 a1 a2 a3 a4 a5 a6 a7 := by
  have h1 := put_p h.p rfl p0 p1 p2 p3
  have f1 := fr4 (x := x) (b := w.heap.size + 2) p0 p1 p2 p3
  have h2 := h.a.fr f1 (by simp)
  exact ⟨h1.fr (fr8 (b := w.heap.size + 3) a0 a1 a2 a3 a4 a5 a6 a7) (by simp), put_a h2 rfl a0 a1 a2 a3 a4 a5 a6 a7, (f1.mono (by simp)).trans ((fr8 a0 a1 a2 a3 a4 a5 a6 a7).mono (by simp))⟩
theorem awEnd' {g : Gm} {vt : Value} {cr cl : Int} {w x : World} (h : AwM g vt cr cl w x) (p0 p1 p2 p3 a0 a1 a2 a3 a4 a5 a6 a7 : Value) :
    AwEnd w ((((((((((((x.setCell ⟨w.heap.size + 3, 0, none⟩ a0).setCell ⟨w.heap.size + 3, 1, none⟩ a1).setCell ⟨w.heap.size + 3, 2, none⟩ a2).setCell ⟨w.heap.size + 3, 3, none⟩ a3).setCell ⟨w.heap.size + 3, 4, none⟩ a4).setCell ⟨w.heap.size + 3, 5, none⟩ a5).setCell ⟨w.heap.size + 3, 6, none⟩ a6).setCell ⟨w.heap.size + 3, 7, none⟩ a7).setCell ⟨w.heap.size + 2, 0, none⟩ p0).setCell ⟨w.heap.size + 2, 1, none⟩ p1).setCell ⟨w.heap.size + 2, 2, none⟩ p2).setCell ⟨w.heap.size + 2, 3, none⟩ p3) w.heap.size x p0 p1 p2 p3 a0 a1 a2 a3 a4 a5 a6 a7 := by
  have h1 := put_a h.a rfl a0 a1 a2 a3 a4 a5 a6 a7
  have f1 := fr8 (x := x) (b := w.heap.size + 3) a0 a1 a2 a3 a4 a5 a6 a7
  have h2 := h.p.fr f1 (by simp)
  exact ⟨put_p h2 rfl p0 p1 p2 p3, h1.fr (fr4 (b := w.heap.size + 2) p0 p1 p2 p3) (by simp), (f1.mono (by simp)).trans ((fr4 p0 p1 p2 p3).mono (by simp))⟩
theorem AwEnd.old {w x y : World} {p0 p1 p2 p3 a0 a1 a2 a3 a4 a5 a6 a7 : Value} (h : AwEnd w y w.heap.size x p0 p1 p2 p3 a0 a1 a2 a3 a4 a5 a6 a7) (hf : Fr [] w x) : Fr [] w y :=
  hf.trans' h.fr (by intro i hi; simp at hi; right; omega)
/-- the memory of Award's loop: the award lies in block q -/
structure AwW (x0 : World) (q base : Nat) (vC vE vP : Value) (br : Int) (lE lP : List Int) (x : World) : Prop where
  fr : Fr [q] x0 x
  row : RowAt x q 60 [vC, vE, vP, .int .i64 br, .int .i64 0, .slice none 0 0, .int .i64 0, .int .i64 0]
  oE : OwnI x base 3 vE lE
  oP : OwnI x base 3 vP lP
  ne : ∀ b, vE.ownBlock = some b → vP.ownBlock = some b → False
section
variable {x0 x y : World} {q base : Nat} {vC vE vP v' : Value} {br e : Int} {lE lP : List Int}
theorem AwW.go (h : AwW x0 q base vC vE vP br lE lP x) (k : Fr [] x y) : AwW x0 q base vC vE vP br lE lP y :=
  ⟨h.fr.trans (k.mono (by simp)), h.row.fr k (by simp), h.oE.fr k (by simp), h.oP.fr k (by simp), h.ne⟩
theorem AwW.size (h : AwW x0 q base vC vE vP br lE lP x) (hb : base = x0.heap.size) : base ≤ x.heap.size := by rw [hb]; exact h.fr.size
theorem AwW.appE (h : AwW x0 q base vC vE vP br lE lP x) (hb : base = x0.heap.size) (hq : q < base) (ho : OwnI y base 3 v' (lE ++ [e])) (hf : ∀ bs A, (∀ k, vE.ownBlock = some k → k ∈ bs ∨ A.heap.size ≤ k) → Fr bs A x → Fr bs A y)
    (hl : ∀ g, v'.ownBlock = some g → vE.ownBlock = some g ∨ x.heap.size ≤ g) : AwW x0 q base vC v' vP br (lE ++ [e]) lP (y.setCell ⟨q, 1, none⟩ v') ∧ RowAt y q 60 [vC, vE, vP, .int .i64 br, .int .i64 0, .slice none 0 0, .int .i64 0, .int .i64 0] := by
  have f1 : Fr [q] x0 y := hf [q] x0 (fun k hk => .inr (by have := (h.oE.block k hk).1; omega)) h.fr
  have f2 : Fr vE.ownBlock.toList x y := hf _ x (fun k hk => .inl (by rw [hk]; simp)) (Fr.refl _ _)
  have hnq : q ∉ vE.ownBlock.toList := fun hm => by have := (h.oE.block q (by simpa using hm)).1; omega
  have hr := h.row.fr f2 hnq
  have f3 : Fr [q] y (y.setCell ⟨q, 1, none⟩ v') := (Fr.refl _ _).setCell (.inl (by simp)) _
  have hqo : ∀ k, v'.ownBlock = some k → k ∉ [q] := fun k hk => by have := (ho.block k hk).1; simp; omega
  have hqp : ∀ k, vP.ownBlock = some k → k ∉ [q] := fun k hk => by have := (h.oP.block k hk).1; simp; omega
  refine ⟨⟨f1.trans f3, hr.set 1 v', ho.fr f3 hqo, (h.oP.fr f2 (fun k hk hm => h.ne k (by simpa using hm) hk)).fr f3 hqp, fun b h1 h2 => ?_⟩, hr⟩
  rcases hl b h1 with h3 | h3
  · exact h.ne b h3 h2
  · have := (h.oP.block b h2).2; omega
theorem AwW.appP (h : AwW x0 q base vC vE vP br lE lP x) (hb : base = x0.heap.size) (hq : q < base) (ho : OwnI y base 3 v' (lP ++ [e])) (hf : ∀ bs A, (∀ k, vP.ownBlock = some k → k ∈ bs ∨ A.heap.size ≤ k) → Fr bs A x → Fr bs A y)
    (hl : ∀ g, v'.ownBlock = some g → vP.ownBlock = some g ∨ x.heap.size ≤ g) : AwW x0 q base vC vE v' br lE (lP ++ [e]) (y.setCell ⟨q, 2, none⟩ v') ∧ RowAt y q 60 [vC, vE, vP, .int .i64 br, .int .i64 0, .slice none 0 0, .int .i64 0, .int .i64 0] := by
  have f1 : Fr [q] x0 y := hf [q] x0 (fun k hk => .inr (by have := (h.oP.block k hk).1; omega)) h.fr
  have f2 : Fr vP.ownBlock.toList x y := hf _ x (fun k hk => .inl (by rw [hk]; simp)) (Fr.refl _ _)
  have hnq : q ∉ vP.ownBlock.toList := fun hm => by have := (h.oP.block q (by simpa using hm)).1; omega
  have hr := h.row.fr f2 hnq
  have f3 : Fr [q] y (y.setCell ⟨q, 2, none⟩ v') := (Fr.refl _ _).setCell (.inl (by simp)) _
  have hqo : ∀ k, v'.ownBlock = some k → k ∉ [q] := fun k hk => by have := (ho.block k hk).1; simp; omega
  have hqe : ∀ k, vE.ownBlock = some k → k ∉ [q] := fun k hk => by have := (h.oE.block k hk).1; simp; omega
  refine ⟨⟨f1.trans f3, hr.set 2 v', (h.oE.fr f2 (fun k hk hm => h.ne k hk (by simpa using hm))).fr f3 hqe, ho.fr f3 hqo, fun b h1 h2 => ?_⟩, hr⟩
  rcases hl b h2 with h3 | h3
  · exact h.ne b h1 h3
  · have := (h.oE.block b h1).2; omega
theorem AwW.addB (h : AwW x0 q base vC vE vP br lE lP x) (hq : q < base) (z : Int) : AwW x0 q base vC vE vP z lE lP (x.setCell ⟨q, 3, none⟩ (.int .i64 z)) := by
  have f3 : Fr [q] x (x.setCell ⟨q, 3, none⟩ (.int .i64 z)) := (Fr.refl _ _).setCell (.inl (by simp)) _
  exact ⟨h.fr.trans f3, h.row.set 3 _, h.oE.fr f3 (fun k hk => by have := (h.oE.block k hk).1; simp; omega), h.oP.fr f3 (fun k hk => by have := (h.oP.block k hk).1; simp; omega), h.ne⟩
end
end Go.Proofs.Ytdinjekpcgndmaa
/-
  LAYER 38: Balanced.
-/
set_option linter.unusedVariables false
namespace Go.Proofs.Ytdinjekpcgndmaa
open Go.RowKit
def amoB (l : List Int) : Bool := decide (l.length ≤ 12) && amtB l
def blB (A cr nr : Int) (ct pd nx : List Int) : Bool := amoB ct && amoB pd && amoB nx && amtB [A, cr, nr] && (A + sumTo ct ct.length + cr == sumTo pd pd.length + sumTo nx nx.length + nr)
theorem bal11_any (n : Int) (w : World) : Calls Try.prog 79 #[.int .i64 n] w fun e w' => e = .returned (.bool (!inR n 0 1000000000000)) ∧ w = w' := by
  have hV := mvalid_any n
  generalize inR n 0 1000000000000 = b at *
  have HV := Lib.hid hV
  clear hV
  cases b
  all_goals
    go_enter Try.func79, Try.ntmps79
    go_wp2_with fail
    refine (HV.out _).mono ?_
    rintro e w' ⟨rfl, rfl⟩
    go_wp2_with fail
    go_ret
    exact ⟨rfl, rfl⟩
def IdPost (l : List Int) (w : World) (e : Ending) (w' : World) : Prop := (∃ z : Int, e = .returned (.int .i64 z) ∧ (amtB l = true → z = -1) ∧ (amtB l = false → 0 ≤ z)) ∧ Fr [] w w'
theorem id_no {l : List Int} {k : Nat} {w w' : World} (hk : k < l.length) (h : inR (l.getD k 0) 0 1000000000000 = false) (hf : Fr [] w w') : IdPost l w (.returned (.int .i64 k)) w' := by
  have := amtB_no hk h
  exact ⟨⟨k, rfl, fun h2 => by rw [this] at h2; simp at h2, fun _ => by omega⟩, hf⟩
theorem id_yes {l : List Int} {w w' : World} (h : ∀ j, j < l.length → inR (l.getD j 0) 0 1000000000000 = true) (hf : Fr [] w w') : IdPost l w (.returned (.int .i64 (-1))) w' := by
  have : amtB l = true := amtB_of fun j hj => inR_of (h j hj)
  exact ⟨⟨-1, rfl, fun _ => rfl, fun h2 => by rw [this] at h2; simp at h2⟩, hf⟩
set_option maxRecDepth 20000 in
set_option maxHeartbeats 2000000 in
theorem idxI_any (v : Value) (l : List Int) (w : World) (hr : RdI w v l) : Calls Try.prog 106 #[v, .func (.func 79) #[] #[]] w (IdPost l w) := by
  have hno := fun k w' => @id_no l k w w'
  have hyes := fun w' => @id_yes l w w'
  obtain ⟨a2, c2, rfl, l2, m2, r2⟩ := hr
  unfold maxLen at m2
  obtain ⟨n, hN⟩ : ∃ n, n = l.length := ⟨_, rfl⟩
  rw [← hN] at r2 l2 hno hyes ⊢
  have HR := Lib.hid r2
  have HNO := Lib.hid hno
  have HYES := Lib.hid hyes
  clear r2 hno hyes hN
  go_enter Try.func106, Try.ntmps106
  go_wp2_with fail
  go_loopw [8] (fun i wr => ∃ k : Nat, k ≤ n ∧ i = .int .i64 k ∧ w = wr ∧ Hid (∀ j, j < k → inR (l.getD j 0) 0 1000000000000 = true)) (fun i _ => n - (intOf i).toNat)
  case atStart => exact ⟨0, by omega, rfl, rfl, Lib.hid (by omega)⟩
  case round =>
    obtain ⟨k, hk, rfl, rfl, HA⟩ := hrel
    by_cases hlt : k < n
    · obtain ⟨g1, o1, rfl, k1⟩ := HR.out k hlt
      have hB := fun w => bal11_any (l.getD k 0) w
      have hno := HNO.out k
      have hkn : (k : Int) < (n : Int) := by omega
      cases hb : inR (l.getD k 0) 0 1000000000000
      · have hP := hno w hlt hb (Fr.refl _ _)
        rw [hb] at hB
        have HP := Lib.hid hP
        have HB := Lib.hid hB
        clear hno hB hP hb
        generalize l.getD k 0 = x at *
        go_wp2_with fail
        refine (HB.out _).mono ?_
        rintro e w' ⟨rfl, rfl⟩
        go_wp2_with fail
        go_ret
        exact HP.out
      · have hA2 : ∀ j, j < k + 1 → inR (l.getD j 0) 0 1000000000000 = true := fun j hj => by
          by_cases e : j = k
          · rw [e]; exact hb
          · exact HA.out j (by omega)
        have HA2 := Lib.hid hA2
        rw [hb] at hB
        have HB := Lib.hid hB
        clear hno hB hA2 hb
        generalize l.getD k 0 = x at *
        go_wp2_with fail
        refine (HB.out _).mono ?_
        rintro e w' ⟨rfl, rfl⟩
        go_wp2_with fail
        go_roundw
        case rel => exact ⟨k + 1, by omega, by go_num, by trivial, HA2⟩
        case measure => simp [intOf]; omega
    · obtain rfl : n = k := by omega
      have HP := Lib.hid (HYES.out w HA.out (Fr.refl _ _))
      go_wp2_with fail
      go_ret
      exact HP.out
set_option maxHeartbeats 1000000 in
theorem cont_any (v : Value) (l : List Int) (w : World) (hr : RdI w v l) : Calls Try.prog 78 #[v, .func (.func 79) #[] #[]] w fun e w' => e = .returned (.bool (!amtB l)) ∧ Fr [] w w' := by
  have hI := idxI_any v l w hr
  unfold IdPost at hI
  have HI := Lib.hid hI
  obtain ⟨a2, c2, rfl, l2, m2, r2⟩ := hr
  clear hI r2
  cases hb : amtB l
  · go_enter Try.func78, Try.ntmps78
    go_wp2_with fail
    refine HI.out.mono ?_
    rintro e w' ⟨⟨z, rfl, h1, h2⟩, hf⟩
    have hz := h2 hb
    have d : decide (0 ≤ z) = true := by simpa using hz
    clear h1 h2 hz hb
    go_wp2_with fail
    go_ret
    exact ⟨by trivial, hf⟩
  · go_enter Try.func78, Try.ntmps78
    go_wp2_with fail
    refine HI.out.mono ?_
    rintro e w' ⟨⟨z, rfl, h1, h2⟩, hf⟩
    obtain rfl := h1 hb
    clear h1 h2 hb
    go_wp2_with fail
    go_ret
    exact ⟨by trivial, hf⟩
set_option maxHeartbeats 1000000 in
theorem bal1_any (v : Value) (l : List Int) (w : World) (hr : RdI w v l) : Calls Try.prog 77 #[v] w fun e w' => e = .returned (.bool (amoB l)) ∧ Fr [] w w' := by
  have hC := cont_any v l w hr
  have HC := Lib.hid hC
  obtain ⟨a2, c2, rfl, l2, m2, r2⟩ := hr
  unfold maxLen at m2
  have hA : amoB l = (decide (l.length ≤ 12) && amtB l) := rfl
  rw [hA]
  generalize amtB l = b at *
  have HC := Lib.hid hC
  clear hC r2 hA
  by_cases h : l.length ≤ 12
  · have d1 : decide (l.length ≤ 12) = true := by simpa using h
    have d2 : decide ((l.length : Int) ≤ 12) = true := by simp; omega
    rw [d1]
    cases b
    all_goals
      go_enter Try.func77, Try.ntmps77
      go_wp2_with fail
      refine HC.out.mono ?_
      rintro e w' ⟨rfl, hf⟩
      go_wp2_with fail
      go_ret
      exact ⟨by trivial, hf⟩
  · have d1 : decide (l.length ≤ 12) = false := by simpa using h
    have d2 : decide ((l.length : Int) ≤ 12) = false := by simp; omega
    rw [d1]
    go_enter Try.func77, Try.ntmps77
    go_wp2_with fail
    go_ret
    exact ⟨by trivial, Fr.refl _ _⟩
structure BlM (A cr nr : Int) (vT vc vC vE vP vN : Value) (s R cl br dr rl : Int) (w x : World) : Prop where
  p : RowAt x w.heap.size 45 [.int .i64 s, .int .i64 A, .int .i64 R, vT]
  c : RowAt x (w.heap.size + 1) 43 [vc, .int .i64 cr, .int .i64 cl]
  a : RowAt x (w.heap.size + 2) 60 [vC, vE, vP, .int .i64 br, .int .i64 dr, vN, .int .i64 nr, .int .i64 rl]
  fr : Fr [] w x
theorem BlM.go {A cr nr : Int} {vT vc vC vE vP vN : Value} {s R cl br dr rl : Int} {w x y : World} (h : BlM A cr nr vT vc vC vE vP vN s R cl br dr rl w x) (k : Fr [] x y) : BlM A cr nr vT vc vC vE vP vN s R cl br dr rl w y :=
  ⟨h.p.fr k (by simp), h.c.fr k (by simp), h.a.fr k (by simp), h.fr.trans k⟩
theorem blM_start {A cr nr : Int} {vT vc vC vE vP vN : Value} {s R cl br dr rl : Int} (w : World) : BlM A cr nr vT vc vC vE vP vN s R cl br dr rl w (((w.alloc (.cells #[.int .i64 s, .int .i64 A, .int .i64 R, vT] 45)).alloc (.cells #[vc, .int .i64 cr, .int .i64 cl] 43)).alloc (.cells #[vC, vE, vP, .int .i64 br, .int .i64 dr, vN, .int .i64 nr, .int .i64 rl] 60)) :=
  ⟨(RowAt.new rfl rfl).fr (((Fr.refl [] _).alloc _).alloc _) (by simp), (RowAt.new (by simp) rfl).fr ((Fr.refl [] _).alloc _) (by simp), RowAt.new (by simp) rfl, (((Fr.refl [] w).alloc _).alloc _).alloc _⟩
set_option maxRecDepth 20000 in
set_option maxHeartbeats 4000000 in
theorem bal_any (s A R cr cl br dr nr rl : Int) (aT ac aC aE aP aN : Option Addr) (nT cT cc nC cC nE cE cP cN : Nat) (ct pd nx : List Int) (w : World) (rc : RdI w (.slice ac ct.length cc) ct) (rp : RdI w (.slice aP pd.length cP) pd) (rn : RdI w (.slice aN nx.length cN) nx) :
    Calls Try.prog 42 #[.agg #[.int .i64 s, .int .i64 A, .int .i64 R, .slice aT nT cT], .agg #[.slice ac ct.length cc, .int .i64 cr, .int .i64 cl], .agg #[.slice aC nC cC, .slice aE nE cE, .slice aP pd.length cP, .int .i64 br, .int .i64 dr, .slice aN nx.length cN, .int .i64 nr, .int .i64 rl]] w fun e w' => e = .returned (.bool (blB A cr nr ct pd nx)) ∧ Fr [] w w' := by
  have h1 := fun w' (h : Fr [] w w') => bal1_any _ ct w' (rc.below h)
  have h2 := fun w' (h : Fr [] w w') => bal1_any _ pd w' (rp.below h)
  have h3 := fun w' (h : Fr [] w w') => bal1_any _ nx w' (rn.below h)
  have h4 := fun v w' (h : RdI w' v [A, cr, nr]) => bal1_any v [A, cr, nr] w' h
  have e4 : amoB [A, cr, nr] = amtB [A, cr, nr] := by simp [amoB]
  have t1 := fun w' (h : Fr [] w w') (ha : amoB ct = true) => total_any _ ct w' (rc.below h) (by unfold amoB at ha; rw [Bool.and_eq_true] at ha; exact ha.2) (by unfold amoB at ha; simp at ha; omega)
  have t2 := fun w' (h : Fr [] w w') (ha : amoB pd = true) => total_any _ pd w' (rp.below h) (by unfold amoB at ha; rw [Bool.and_eq_true] at ha; exact ha.2) (by unfold amoB at ha; simp at ha; omega)
  have t3 := fun w' (h : Fr [] w w') (ha : amoB nx = true) => total_any _ nx w' (rn.below h) (by unfold amoB at ha; rw [Bool.and_eq_true] at ha; exact ha.2) (by unfold amoB at ha; simp at ha; omega)
  have hb : ∀ l, amoB l = true → 0 ≤ sumTo l l.length ∧ sumTo l l.length ≤ 12000000000000 := fun l ha => by
    unfold amoB at ha
    rw [Bool.and_eq_true] at ha
    have := sumTo_bd ha.2 l.length
    have h9 := ha.1
    simp at h9
    omega
  have hb1 := hb ct
  have hb2 := hb pd
  have hb3 := hb nx
  have hab : amtB [A, cr, nr] = true → (0 ≤ A ∧ A ≤ 1000000000000) ∧ (0 ≤ cr ∧ cr ≤ 1000000000000) ∧ 0 ≤ nr ∧ nr ≤ 1000000000000 := fun h => ⟨by simpa using amtB_at h 0, by simpa using amtB_at h 1, by simpa using amtB_at h 2⟩
  rw [e4] at h4
  have hB : blB A cr nr ct pd nx = (amoB ct && amoB pd && amoB nx && amtB [A, cr, nr] && (A + sumTo ct ct.length + cr == sumTo pd pd.length + sumTo nx nx.length + nr)) := rfl
  rw [hB]
  generalize amoB ct = b1 at *
  generalize amoB pd = b2 at *
  generalize amoB nx = b3 at *
  generalize sumTo ct ct.length = S1 at *
  generalize sumTo pd pd.length = S2 at *
  generalize sumTo nx nx.length = S3 at *
  obtain ⟨b4, hb4⟩ : ∃ b, b = amtB [A, cr, nr] := ⟨_, rfl⟩
  rw [← hb4] at h4 hab ⊢
  have H1 := Lib.hid h1
  have H2 := Lib.hid h2
  have H3 := Lib.hid h3
  have H4 := Lib.hid h4
  have T1 := Lib.hid t1
  have T2 := Lib.hid t2
  have T3 := Lib.hid t3
  have HB1 := Lib.hid hb1
  have HB2 := Lib.hid hb2
  have HB3 := Lib.hid hb3
  have HAB := Lib.hid hab
  clear h1 h2 h3 h4 t1 t2 t3 hb hb1 hb2 hb3 hab e4 hB hb4 rc rp rn
  go_enter Try.func42, Try.ntmps42
  go_upto_region 1 with (fail)
  have hM := @blM_start A cr nr (.slice aT nT cT) (.slice ac ct.length cc) (.slice aC nC cC) (.slice aE nE cE) (.slice aP pd.length cP) (.slice aN nx.length cN) s R cl br dr rl w
  simp only [Nat.add_assoc, Nat.reduceAdd]
  generalize World.alloc _ _ = x0 at hM ⊢
  have p1 := hM.p.cell 1 _ rfl
  have k0 := hM.c.cell 0 _ rfl
  have k1 := hM.c.cell 1 _ rfl
  have a2 := hM.a.cell 2 _ rfl
  have a5 := hM.a.cell 5 _ rfl
  have a6 := hM.a.cell 6 _ rfl
  have HM := Lib.hid hM
  clear hM
  go_wp2_with fail
  refine (H1.out _ HM.out.fr).mono ?_
  rintro e x1 ⟨rfl, f1⟩
  have hM1 := HM.out.go f1
  clear f1 HM p1 k0 k1 a2 a5 a6
  cases b1
  · have HF := Lib.hid hM1.fr
    clear hM1
    go_wp2_with fail
    go_ret
    exact ⟨by simp, HF.out⟩
  have p1 := hM1.p.cell 1 _ rfl
  have k0 := hM1.c.cell 0 _ rfl
  have k1 := hM1.c.cell 1 _ rfl
  have a2 := hM1.a.cell 2 _ rfl
  have a5 := hM1.a.cell 5 _ rfl
  have a6 := hM1.a.cell 6 _ rfl
  have HM1 := Lib.hid hM1
  clear hM1
  go_wp2_with fail
  refine (H2.out _ HM1.out.fr).mono ?_
  rintro e x2 ⟨rfl, f2⟩
  have hM2 := HM1.out.go f2
  clear f2 HM1 p1 k0 k1 a2 a5 a6
  cases b2
  · have HF := Lib.hid hM2.fr
    clear hM2
    go_wp2_with fail
    go_ret
    exact ⟨by simp, HF.out⟩
  have p1 := hM2.p.cell 1 _ rfl
  have k0 := hM2.c.cell 0 _ rfl
  have k1 := hM2.c.cell 1 _ rfl
  have a2 := hM2.a.cell 2 _ rfl
  have a5 := hM2.a.cell 5 _ rfl
  have a6 := hM2.a.cell 6 _ rfl
  have HM2 := Lib.hid hM2
  clear hM2
  go_wp2_with fail
  refine (H3.out _ HM2.out.fr).mono ?_
  rintro e x3 ⟨rfl, f3⟩
  have hM3 := HM2.out.go f3
  clear f3 HM2 p1 k0 k1 a2 a5 a6
  cases b3
  · have HF := Lib.hid hM3.fr
    clear hM3
    go_wp2_with fail
    go_ret
    exact ⟨by simp, HF.out⟩
  have p1 := hM3.p.cell 1 _ rfl
  have k0 := hM3.c.cell 0 _ rfl
  have k1 := hM3.c.cell 1 _ rfl
  have a2 := hM3.a.cell 2 _ rfl
  have a5 := hM3.a.cell 5 _ rfl
  have a6 := hM3.a.cell 6 _ rfl
  have HM3 := Lib.hid hM3
  clear hM3
  go_wp2_with fail
  have hr4 : RdI (x3.alloc (.cells #[.int .i64 A, .int .i64 cr, .int .i64 nr] 3)) (.slice (some ⟨x3.heap.size, 0, none⟩) 3 3) [A, cr, nr] := rdi_mk rfl [A, cr, nr] 3 3 rfl (by omega)
  have e4 : Fr [] x3 (x3.alloc (.cells #[.int .i64 A, .int .i64 cr, .int .i64 nr] 3)) := (Fr.refl [] x3).alloc _
  refine (H4.out _ _ hr4).mono ?_
  rintro e x4 ⟨rfl, f4⟩
  have hM4 := HM3.out.go (e4.trans f4)
  clear f4 HM3 p1 k0 k1 a2 a5 a6 e4 hr4
  cases b4
  · have HF := Lib.hid hM4.fr
    clear hM4
    go_wp2_with fail
    go_ret
    exact ⟨by simp, HF.out⟩
  have p1 := hM4.p.cell 1 _ rfl
  have k0 := hM4.c.cell 0 _ rfl
  have k1 := hM4.c.cell 1 _ rfl
  have a2 := hM4.a.cell 2 _ rfl
  have a5 := hM4.a.cell 5 _ rfl
  have a6 := hM4.a.cell 6 _ rfl
  have HM4 := Lib.hid hM4
  obtain ⟨⟨g1, g2⟩, ⟨g3, g4⟩, g5, g6⟩ := HAB.out (by trivial)
  obtain ⟨g7, g8⟩ := HB1.out (by trivial)
  obtain ⟨g9, g10⟩ := HB2.out (by trivial)
  obtain ⟨g11, g12⟩ := HB3.out (by trivial)
  have u1 : IntKind.i64.wrap (A + S1) = A + S1 := IntWalk.i64_in _ (by omega)
  have u2 : IntKind.i64.wrap (A + S1 + cr) = A + S1 + cr := IntWalk.i64_in _ (by omega)
  have u3 : IntKind.i64.wrap (S2 + S3) = S2 + S3 := IntWalk.i64_in _ (by omega)
  have u4 : IntKind.i64.wrap (S2 + S3 + nr) = S2 + S3 + nr := IntWalk.i64_in _ (by omega)
  have HT1 := Lib.hid (fun w' (h : Fr [] x4 w') => T1.out w' (HM4.out.fr.trans h) (by trivial))
  have HT2 := Lib.hid (fun w' (h : Fr [] x4 w') => T2.out w' (HM4.out.fr.trans h) (by trivial))
  have HT3 := Lib.hid (fun w' (h : Fr [] x4 w') => T3.out w' (HM4.out.fr.trans h) (by trivial))
  clear hM4
  go_wp2_with fail
  refine wp_region_held_drew (S := (fun w' => Fr [] x4 w')) (by kernel_rfl) (Fr.refl [] _).drew (fun hHeld => ?_)
  refine wpAnyH_take (i := 0) (oi := ⟨some 41, _, _, _, _, _⟩) (v := .pointer (some ⟨w.heap.size, 1, none⟩)) rfl (by kernel_rfl) (by kernel_rfl) (by kernel_rfl) (fun _ _ _ h => h) (Or.inl ⟨by rfl, ?_⟩) hHeld ?_
  · intro w hSw; (try dsimp only at hSw); go_simp
  (try simp only [Act.put, List.setIfInBounds_toArray, List.set_cons_zero, List.set_cons_succ])
  refine wpAnyH_take (i := 1) (oi := ⟨some 42, _, _, _, _, _⟩) (v := .int .i64 A) rfl (by kernel_rfl) (by kernel_rfl) (by kernel_rfl) (fun _ _ _ h => h) (Or.inl ⟨by rfl, ?_⟩) hHeld ?_
  · intro w hSw; (try dsimp only at hSw); have hcF := hSw.cell_some p1 (by simp); clear hSw; go_simp
  (try simp only [Act.put, List.setIfInBounds_toArray, List.set_cons_zero, List.set_cons_succ])
  refine wpAnyH_take (i := 2) (oi := ⟨some 43, _, _, _, _, _⟩) (v := .pointer (some ⟨w.heap.size + 1, 0, none⟩)) rfl (by kernel_rfl) (by kernel_rfl) (by kernel_rfl) (fun _ _ _ h => h) (Or.inl ⟨by rfl, ?_⟩) hHeld ?_
  · intro w hSw; (try dsimp only at hSw); go_simp
  (try simp only [Act.put, List.setIfInBounds_toArray, List.set_cons_zero, List.set_cons_succ])
  refine wpAnyH_take (i := 3) (oi := ⟨some 44, _, _, _, _, _⟩) (v := .slice ac ct.length cc) rfl (by kernel_rfl) (by kernel_rfl) (by kernel_rfl) (fun _ _ _ h => h) (Or.inl ⟨by rfl, ?_⟩) hHeld ?_
  · intro w hSw; (try dsimp only at hSw); have hcF := hSw.cell_some k0 (by simp); clear hSw; go_simp
  (try simp only [Act.put, List.setIfInBounds_toArray, List.set_cons_zero, List.set_cons_succ])
  refine wpAnyH_take (i := 6) (oi := ⟨some 47, _, _, _, _, _⟩) (v := .pointer (some ⟨w.heap.size + 1, 1, none⟩)) rfl (by kernel_rfl) (by kernel_rfl) (by kernel_rfl) (fun _ _ _ h => h) (Or.inl ⟨by rfl, ?_⟩) hHeld ?_
  · intro w hSw; (try dsimp only at hSw); go_simp
  (try simp only [Act.put, List.setIfInBounds_toArray, List.set_cons_zero, List.set_cons_succ])
  refine wpAnyH_take (i := 7) (oi := ⟨some 48, _, _, _, _, _⟩) (v := .int .i64 cr) rfl (by kernel_rfl) (by kernel_rfl) (by kernel_rfl) (fun _ _ _ h => h) (Or.inl ⟨by rfl, ?_⟩) hHeld ?_
  · intro w hSw; (try dsimp only at hSw); have hcF := hSw.cell_some k1 (by simp); clear hSw; go_simp
  (try simp only [Act.put, List.setIfInBounds_toArray, List.set_cons_zero, List.set_cons_succ])
  refine wpAnyH_take (i := 9) (oi := ⟨some 50, _, _, _, _, _⟩) (v := .pointer (some ⟨w.heap.size + 2, 2, none⟩)) rfl (by kernel_rfl) (by kernel_rfl) (by kernel_rfl) (fun _ _ _ h => h) (Or.inl ⟨by rfl, ?_⟩) hHeld ?_
  · intro w hSw; (try dsimp only at hSw); go_simp
  (try simp only [Act.put, List.setIfInBounds_toArray, List.set_cons_zero, List.set_cons_succ])
  refine wpAnyH_take (i := 10) (oi := ⟨some 51, _, _, _, _, _⟩) (v := .slice aP pd.length cP) rfl (by kernel_rfl) (by kernel_rfl) (by kernel_rfl) (fun _ _ _ h => h) (Or.inl ⟨by rfl, ?_⟩) hHeld ?_
  · intro w hSw; (try dsimp only at hSw); have hcF := hSw.cell_some a2 (by simp); clear hSw; go_simp
  (try simp only [Act.put, List.setIfInBounds_toArray, List.set_cons_zero, List.set_cons_succ])
  refine wpAnyH_take (i := 12) (oi := ⟨some 53, _, _, _, _, _⟩) (v := .pointer (some ⟨w.heap.size + 2, 5, none⟩)) rfl (by kernel_rfl) (by kernel_rfl) (by kernel_rfl) (fun _ _ _ h => h) (Or.inl ⟨by rfl, ?_⟩) hHeld ?_
  · intro w hSw; (try dsimp only at hSw); go_simp
  (try simp only [Act.put, List.setIfInBounds_toArray, List.set_cons_zero, List.set_cons_succ])
  refine wpAnyH_take (i := 13) (oi := ⟨some 54, _, _, _, _, _⟩) (v := .pointer (some ⟨w.heap.size + 2, 5, none⟩)) rfl (by kernel_rfl) (by kernel_rfl) (by kernel_rfl) (fun _ _ _ h => h) (Or.inl ⟨by rfl, ?_⟩) hHeld ?_
  · intro w hSw; (try dsimp only at hSw); go_simp
  (try simp only [Act.put, List.setIfInBounds_toArray, List.set_cons_zero, List.set_cons_succ])
  refine wpAnyH_take (i := 14) (oi := ⟨some 55, _, _, _, _, _⟩) (v := .slice aN nx.length cN) rfl (by kernel_rfl) (by kernel_rfl) (by kernel_rfl) (fun _ _ _ h => h) (Or.inl ⟨by rfl, ?_⟩) hHeld ?_
  · intro w hSw; (try dsimp only at hSw); have hcF := hSw.cell_some a5 (by simp); clear hSw; go_simp
  (try simp only [Act.put, List.setIfInBounds_toArray, List.set_cons_zero, List.set_cons_succ])
  refine wpAnyH_take (i := 17) (oi := ⟨some 58, _, _, _, _, _⟩) (v := .pointer (some ⟨w.heap.size + 2, 5, none⟩)) rfl (by kernel_rfl) (by kernel_rfl) (by kernel_rfl) (fun _ _ _ h => h) (Or.inl ⟨by rfl, ?_⟩) hHeld ?_
  · intro w hSw; (try dsimp only at hSw); go_simp
  (try simp only [Act.put, List.setIfInBounds_toArray, List.set_cons_zero, List.set_cons_succ])
  refine wpAnyH_take (i := 18) (oi := ⟨some 59, _, _, _, _, _⟩) (v := .pointer (some ⟨w.heap.size + 2, 6, none⟩)) rfl (by kernel_rfl) (by kernel_rfl) (by kernel_rfl) (fun _ _ _ h => h) (Or.inl ⟨by rfl, ?_⟩) hHeld ?_
  · intro w hSw; (try dsimp only at hSw); go_simp
  (try simp only [Act.put, List.setIfInBounds_toArray, List.set_cons_zero, List.set_cons_succ])
  refine wpAnyH_take (i := 19) (oi := ⟨some 60, _, _, _, _, _⟩) (v := .int .i64 nr) rfl (by kernel_rfl) (by kernel_rfl) (by kernel_rfl) (fun _ _ _ h => h) (Or.inl ⟨by rfl, ?_⟩) hHeld ?_
  · intro w hSw; (try dsimp only at hSw); have hcF := hSw.cell_some a6 (by simp); clear hSw; go_simp
  (try simp only [Act.put, List.setIfInBounds_toArray, List.set_cons_zero, List.set_cons_succ])
  refine wpAnyH_ready (rs := [4]) (by kernel_rfl) (by simp) ?_
  refine AllReadyH.cons (o := ⟨some 45, _, _, _, _, _⟩) rfl (fun K hK => ?_) AllReadyH.nil
  rw [if_pos (by rfl)]
  go_simp
  refine (HT1.out _ hHeld).mono ?_
  rintro e w' ⟨rfl, rfl⟩
  refine hK.out _ _ (hHeld) (fun hHeld' => ?_)
  clear hK K hHeld
  have hHeld := hHeld'
  clear hHeld'
  (try simp only [Act.put, List.setIfInBounds_toArray, List.set_cons_zero, List.set_cons_succ])
  refine wpAnyH_take (i := 5) (oi := ⟨some 46, _, _, _, _, _⟩) (v := .int .i64 (A + S1)) rfl (by kernel_rfl) (by kernel_rfl) (by kernel_rfl) (fun _ _ _ h => h) (Or.inl ⟨by rfl, ?_⟩) hHeld ?_
  · intro w hSw; (try dsimp only at hSw); go_simp
  (try simp only [Act.put, List.setIfInBounds_toArray, List.set_cons_zero, List.set_cons_succ])
  refine wpAnyH_take (i := 8) (oi := ⟨some 49, _, _, _, _, _⟩) (v := .int .i64 (A + S1 + cr)) rfl (by kernel_rfl) (by kernel_rfl) (by kernel_rfl) (fun _ _ _ h => h) (Or.inl ⟨by rfl, ?_⟩) hHeld ?_
  · intro w hSw; (try dsimp only at hSw); go_simp
  (try simp only [Act.put, List.setIfInBounds_toArray, List.set_cons_zero, List.set_cons_succ])
  refine wpAnyH_ready (rs := [11]) (by kernel_rfl) (by simp) ?_
  refine AllReadyH.cons (o := ⟨some 52, _, _, _, _, _⟩) rfl (fun K hK => ?_) AllReadyH.nil
  rw [if_pos (by rfl)]
  go_simp
  refine (HT2.out _ hHeld).mono ?_
  rintro e w' ⟨rfl, rfl⟩
  refine hK.out _ _ (hHeld) (fun hHeld' => ?_)
  clear hK K hHeld
  have hHeld := hHeld'
  clear hHeld'
  (try simp only [Act.put, List.setIfInBounds_toArray, List.set_cons_zero, List.set_cons_succ])
  refine wpAnyH_ready (rs := [15]) (by kernel_rfl) (by simp) ?_
  refine AllReadyH.cons (o := ⟨some 56, _, _, _, _, _⟩) rfl (fun K hK => ?_) AllReadyH.nil
  rw [if_pos (by rfl)]
  go_simp
  refine (HT3.out _ hHeld).mono ?_
  rintro e w' ⟨rfl, rfl⟩
  refine hK.out _ _ (hHeld) (fun hHeld' => ?_)
  clear hK K hHeld
  have hHeld := hHeld'
  clear hHeld'
  (try simp only [Act.put, List.setIfInBounds_toArray, List.set_cons_zero, List.set_cons_succ])
  refine wpAnyH_take (i := 16) (oi := ⟨some 57, _, _, _, _, _⟩) (v := .int .i64 (S2 + S3)) rfl (by kernel_rfl) (by kernel_rfl) (by kernel_rfl) (fun _ _ _ h => h) (Or.inl ⟨by rfl, ?_⟩) hHeld ?_
  · intro w hSw; (try dsimp only at hSw); go_simp
  (try simp only [Act.put, List.setIfInBounds_toArray, List.set_cons_zero, List.set_cons_succ])
  refine wpAnyH_take (i := 20) (oi := ⟨some 61, _, _, _, _, _⟩) (v := .int .i64 (S2 + S3 + nr)) rfl (by kernel_rfl) (by kernel_rfl) (by kernel_rfl) (fun _ _ _ h => h) (Or.inl ⟨by rfl, ?_⟩) hHeld ?_
  · intro w hSw; (try dsimp only at hSw); go_simp
  (try simp only [Act.put, List.setIfInBounds_toArray, List.set_cons_zero, List.set_cons_succ])
  refine wpAnyH_take (i := 21) (oi := ⟨some 62, _, _, _, _, _⟩) (v := .bool (A + S1 + cr == S2 + S3 + nr)) rfl (by kernel_rfl) (by kernel_rfl) (by kernel_rfl) (fun _ _ _ h => h) (Or.inl ⟨by rfl, ?_⟩) hHeld ?_
  · intro w hSw; (try dsimp only at hSw); go_simp
  (try simp only [Act.put, List.setIfInBounds_toArray, List.set_cons_zero, List.set_cons_succ])
  refine wpAnyH_take (i := 22) (oi := ⟨some 6, _, _, _, _, _⟩) (v := .bool (A + S1 + cr == S2 + S3 + nr)) rfl (by kernel_rfl) (by kernel_rfl) (by kernel_rfl) (fun _ _ _ h => h) (Or.inl ⟨by rfl, ?_⟩) hHeld ?_
  · intro w hSw; (try dsimp only at hSw); go_simp
  (try simp only [Act.put, List.setIfInBounds_toArray, List.set_cons_zero, List.set_cons_succ])
  have HFIN := Lib.hid (HM4.out.fr.trans hHeld)
  clear hHeld p1 k0 k1 a2 a5 a6
  refine wpAnyH_done (by kernel_rfl) ?_ _
  go_wp2_with fail
  go_ret
  exact ⟨by simp, HFIN.out⟩
end Go.Proofs.Ytdinjekpcgndmaa
/-
  A carry that came in as an argument, opened.
-/
set_option linter.unusedVariables false
namespace Go.Proofs.Ytdinjekpcgndmaa
open Go.RowKit Go.WideShapes Go.ChangeShapes
set_option maxRecDepth 20000 in
theorem open_carry {H : Type} {enc : TypeId × Value → H} {w : World} {base : Nat} {spare : Nat → Bool} {held : Bool} {r : Reach} {b0 : Nat} {v : Value} {d : DataW H} {ps : List MemPlace}
    (hval : Value.okWide Try.prog w r b0 43 v) (h : DataW.Trod enc Try.prog w base spare held 43 v d ps) : ∃ (vt : Value) (ct : List Int) (cr cl : Int), v = .agg #[vt, .int .i64 cr, .int .i64 cl] ∧ RdI w vt ct := by
  have U := Try.underlying43
  obtain ⟨cs, rfl, hsz⟩ := okWide_struct U hval
  obtain ⟨l⟩ := cs
  have hC : Try.prog.cellsOf 43 = 3 := by kernel_rfl
  rw [hC] at hsz
  obtain ⟨fuel, hy0⟩ := h
  have hy : DataW.trod enc Try.prog w base spare held fuel 43 l = some (d, ps) := by simpa [Value.cells] using hy0
  obtain ⟨c0, a0, p0, h0, r0, _⟩ := field_ints (ft := 31) U hy 0 0 rfl (by kernel_rfl) Try.underlying31 (by kernel_rfl) Try.underlying3
  obtain ⟨c1, k1, h1⟩ := field_int (ft := 3) U hy 1 1 rfl (by kernel_rfl) Try.underlying3
  obtain ⟨c2, k2, h2⟩ := field_int (ft := 3) U hy 2 2 rfl (by kernel_rfl) Try.underlying3
  refine ⟨.slice a0 c0.length p0, c0, c1, c2, ?_, r0⟩
  clear hy hy0 hval U hC
  match l, hsz with
  | [x0, x1, x2], _ =>
    simp at h0 h1 h2
    simp [h0, h1, h2]
end Go.Proofs.Ytdinjekpcgndmaa
/-
  LAYER 38: at most 14 elements; pools and awards that came in as arguments, opened.
-/
set_option linter.unusedVariables false
namespace Go.Proofs.Ytdinjekpcgndmaa
open Go.RowKit Go.WideShapes Go.ChangeShapes
theorem few_any (a : Option Addr) (n c : Nat) (w : World) (h1 : n ≤ c) (h2 : c ≤ 9223372036854775807) : Calls Try.prog 41 #[.slice a n c] w fun e w' => e = .returned (.slice a (min n 14) c) ∧ w = w' := by
  by_cases h : n ≤ 14
  · have e1 : min n 14 = n := by omega
    have e2 : min (n : Int) 14 = (n : Int) := by omega
    rw [e1]
    clear e1
    go_enter Try.func41, Try.ntmps41
    go_wp2_with fail
    go_ret
    exact ⟨rfl, rfl⟩
  · have e1 : min n 14 = 14 := by omega
    have e2 : min (n : Int) 14 = 14 := by omega
    rw [e1]
    clear e1
    have h3 : 14 ≤ n := by omega
    have h4 : 14 ≤ c := by omega
    go_enter Try.func41, Try.ntmps41
    go_wp2_with fail
    go_ret
    exact ⟨rfl, rfl⟩
theorem RdI.few {w : World} {a : Option Addr} {c : Nat} {l : List Int} (h : RdI w (.slice a l.length c) l) : RdI w (.slice a (min l.length 14) c) (l.take 14) ∧ (l.take 14).length = min l.length 14 := by
  obtain ⟨a', c', hv, h1, h2, h3⟩ := h
  simp only [Value.slice.injEq] at hv
  obtain ⟨rfl, _, rfl⟩ := hv
  have hl : (l.take 14).length = min l.length 14 := by rw [List.length_take]; omega
  refine ⟨⟨a, c, by rw [hl], by omega, h2, fun j hj => ?_⟩, hl⟩
  obtain ⟨g, o, hg, hc⟩ := h3 j (by omega)
  refine ⟨g, o, hg, ?_⟩
  rw [hc]
  have : (l.take 14).getD j 0 = l.getD j 0 := by
    simp only [List.getD]
    rw [List.getElem?_take_of_lt (by omega)]
  rw [this]
set_option maxRecDepth 20000 in
theorem open_pools {H : Type} {enc : TypeId × Value → H} {w : World} {base : Nat} {spare : Nat → Bool} {held : Bool} {r : Reach} {b0 : Nat} {v : Value} {d : DataW H} {ps : List MemPlace}
    (hval : Value.okWide Try.prog w r b0 45 v) (h : DataW.Trod enc Try.prog w base spare held 45 v d ps) : ∃ (s A R : Int) (aT : Option Addr) (tt : List Int) (cT : Nat), v = .agg #[.int .i64 s, .int .i64 A, .int .i64 R, .slice aT tt.length cT] ∧ RdI w (.slice aT tt.length cT) tt := by
  have U := Try.underlying45
  obtain ⟨cs, rfl, hsz⟩ := okWide_struct U hval
  obtain ⟨l⟩ := cs
  have hC : Try.prog.cellsOf 45 = 4 := by kernel_rfl
  rw [hC] at hsz
  obtain ⟨fuel, hy0⟩ := h
  have hy : DataW.trod enc Try.prog w base spare held fuel 45 l = some (d, ps) := by simpa [Value.cells] using hy0
  obtain ⟨c0, k0, h0⟩ := field_int (ft := 3) U hy 0 0 rfl (by kernel_rfl) Try.underlying3
  obtain ⟨c1, k1, h1⟩ := field_int (ft := 3) U hy 1 1 rfl (by kernel_rfl) Try.underlying3
  obtain ⟨c2, k2, h2⟩ := field_int (ft := 3) U hy 2 2 rfl (by kernel_rfl) Try.underlying3
  obtain ⟨c3, a3, p3, h3, r3, _⟩ := field_ints (ft := 31) U hy 3 3 rfl (by kernel_rfl) Try.underlying31 (by kernel_rfl) Try.underlying3
  refine ⟨c0, c1, c2, a3, c3, p3, ?_, r3⟩
  clear hy hy0 hval U hC
  match l, hsz with
  | [x0, x1, x2, x3], _ =>
    simp at h0 h1 h2 h3
    simp [h0, h1, h2, h3]
set_option maxRecDepth 20000 in
theorem open_award {H : Type} {enc : TypeId × Value → H} {w : World} {base : Nat} {spare : Nat → Bool} {held : Bool} {r : Reach} {b0 : Nat} {v : Value} {d : DataW H} {ps : List MemPlace}
    (hval : Value.okWide Try.prog w r b0 60 v) (h : DataW.Trod enc Try.prog w base spare held 60 v d ps) : ∃ (aC aE aP aN : Option Addr) (tC tE tP tN : List Int) (cC cE cP cN : Nat) (br dr nr rl : Int),
      v = .agg #[.slice aC tC.length cC, .slice aE tE.length cE, .slice aP tP.length cP, .int .i64 br, .int .i64 dr, .slice aN tN.length cN, .int .i64 nr, .int .i64 rl] ∧ RdI w (.slice aP tP.length cP) tP ∧ RdI w (.slice aN tN.length cN) tN := by
  have U := Try.underlying60
  obtain ⟨cs, rfl, hsz⟩ := okWide_struct U hval
  obtain ⟨l⟩ := cs
  have hC : Try.prog.cellsOf 60 = 8 := by kernel_rfl
  rw [hC] at hsz
  obtain ⟨fuel, hy0⟩ := h
  have hy : DataW.trod enc Try.prog w base spare held fuel 60 l = some (d, ps) := by simpa [Value.cells] using hy0
  obtain ⟨c0, a0, p0, h0, r0, _⟩ := field_ints (ft := 31) U hy 0 0 rfl (by kernel_rfl) Try.underlying31 (by kernel_rfl) Try.underlying3
  obtain ⟨c1, a1, p1, h1, r1, _⟩ := field_ints (ft := 31) U hy 1 1 rfl (by kernel_rfl) Try.underlying31 (by kernel_rfl) Try.underlying3
  obtain ⟨c2, a2, p2, h2, r2, _⟩ := field_ints (ft := 31) U hy 2 2 rfl (by kernel_rfl) Try.underlying31 (by kernel_rfl) Try.underlying3
  obtain ⟨c3, k3, h3⟩ := field_int (ft := 3) U hy 3 3 rfl (by kernel_rfl) Try.underlying3
  obtain ⟨c4, k4, h4⟩ := field_int (ft := 3) U hy 4 4 rfl (by kernel_rfl) Try.underlying3
  obtain ⟨m, y, hn⟩ := open_field U hy 5 43 5 3 rfl (by kernel_rfl)
  obtain ⟨d5, p5'⟩ := y
  have V := Try.underlying43
  obtain ⟨c5, a5, p5, h5, r5, _⟩ := field_ints (ft := 31) V hn 0 0 rfl (by kernel_rfl) Try.underlying31 (by kernel_rfl) Try.underlying3
  obtain ⟨c6, k6, h6⟩ := field_int (ft := 3) V hn 1 1 rfl (by kernel_rfl) Try.underlying3
  obtain ⟨c7, k7, h7⟩ := field_int (ft := 3) V hn 2 2 rfl (by kernel_rfl) Try.underlying3
  refine ⟨a0, a1, a2, a5, c0, c1, c2, c5, p0, p1, p2, p5, c3, c4, c6, c7, ?_, r2, r5⟩
  clear hy hy0 hval U hC V hn
  match l, hsz with
  | [x0, x1, x2, x3, x4, x5, x6, x7], _ =>
    simp at h0 h1 h2 h3 h4 h5 h6 h7
    simp [h0, h1, h2, h3, h4, h5, h6, h7]
end Go.Proofs.Ytdinjekpcgndmaa
/-
  LAYER 38: rows of tiers that are one's own; appending one; a game whose tiers are set. Plain lemmas.
-/
set_option linter.unusedVariables false
namespace Go.Proofs.Ytdinjekpcgndmaa
open Go.RowKit
/-- a row of tiers of one's own, from block 'base' on -/
def OwnS (w : World) (base : Nat) (v : Value) (l : List Ti) : Prop := w.ownsRow base 40 6 v l.length (l.flatMap Ti.cells)
theorem OwnS.fr {bs : List Nat} {w w' : World} {base : Nat} {v : Value} {l : List Ti} (h : OwnS w base v l) (hf : Fr bs w w') (hn : ∀ k, v.ownBlock = some k → k ∉ bs) : OwnS w' base v l := by
  unfold OwnS at h ⊢
  obtain ⟨h1, h2⟩ := h
  refine ⟨h1, ?_⟩
  rcases h2 with h2 | ⟨g, cap, cur, hv, hb, hg, h3⟩
  · exact .inl h2
  · have hlt : g < w.heap.size := (Array.getElem?_eq_some_iff.1 hg).1
    exact .inr ⟨g, cap, cur, hv, hb, (hf.block g hlt (hn g (by rw [hv]; rfl))).trans hg, h3⟩
theorem OwnS.mono {w : World} {base base' : Nat} {v : Value} {l : List Ti} (h : OwnS w base v l) (hb : base' ≤ base) : OwnS w base' v l := by
  unfold OwnS at h ⊢
  obtain ⟨h1, h2⟩ := h
  refine ⟨h1, ?_⟩
  rcases h2 with h2 | ⟨g, cap, cur, hv, hb2, h3⟩
  · exact .inl h2
  · exact .inr ⟨g, cap, cur, hv, Nat.le_trans hb hb2, h3⟩
theorem OwnS.block {w : World} {base : Nat} {v : Value} {l : List Ti} (h : OwnS w base v l) : ∀ k, v.ownBlock = some k → base ≤ k ∧ k < w.heap.size := World.ownsRow.lt h
theorem OwnS.nil (w : World) (base : Nat) : OwnS w base (.slice none 0 0) [] := ⟨by simp, .inl ⟨rfl, rfl⟩⟩
theorem tiC_len (l : List Ti) : (l.flatMap Ti.cells).length = l.length * 6 := by
  induction l with
  | nil => rfl
  | cons a l ih => simp [List.flatMap_cons, ih, Ti.cells]; omega
theorem flatTi_at : ∀ (l : List Ti) (j i : Nat) (x : Ti) (v : Value), l[j]? = some x → (Ti.cells x)[i]? = some v → (l.flatMap Ti.cells)[j * 6 + i]? = some v := by
  intro l
  induction l with
  | nil => intro j i x v hj _; simp at hj
  | cons a l ih =>
    intro j i x v hj hi
    have ha : (Ti.cells a).length = 6 := rfl
    rw [List.flatMap_cons]
    cases j with
    | zero =>
      simp at hj
      subst hj
      have := (List.getElem?_eq_some_iff.1 hi).1
      rw [Nat.zero_mul, Nat.zero_add, List.getElem?_append_left this]
      exact hi
    | succ j =>
      simp at hj
      rw [List.getElem?_append_right (by rw [ha, Nat.add_mul]; omega), ha, show (j + 1) * 6 + i - 6 = j * 6 + i by rw [Nat.add_mul]; omega]
      exact ih j i x v hj hi
theorem OwnS.form {w : World} {base : Nat} {v : Value} {l : List Ti} (h : OwnS w base v l) : ∃ a cap, v = .slice a l.length cap ∧ l.length ≤ cap ∧ cap ≤ maxLen ∧ RdF 6 tiF w (.slice a l.length cap) l := by
  obtain ⟨h1, h2⟩ := h
  rcases h2 with ⟨hv, h0⟩ | ⟨g, cap, cur, hv, hb, hg, h3, h4, h5, h6⟩
  · subst hv
    have hl : l = [] := List.eq_nil_of_length_eq_zero (by simpa using h0)
    subst hl
    exact ⟨none, 0, rfl, by simp, by simp, none, 0, rfl, by simp, by simp, fun j x hx => by simp at hx⟩
  · refine ⟨some ⟨g, 0, none⟩, cap, hv, h3, h4, some ⟨g, 0, none⟩, cap, rfl, h3, h4, fun j x hx => ⟨g, 0, rfl, fun i u hu => ?_⟩⟩
    have hu : (Ti.cells x)[i]? = some u := mem_pairs.1 hu
    rw [Nat.zero_add]
    have ht := flatTi_at l j i x u hx hu
    have hj : j < l.length := (List.getElem?_eq_some_iff.1 hx).1
    have hi : i < 6 := (List.getElem?_eq_some_iff.1 hu).1
    rw [World.ownsRow.cellAt (w := w) (base := base) (e := 40) (size := 6) (n := l.length) (xs := l.flatMap Ti.cells) ⟨h1, .inr ⟨g, cap, cur, rfl, hb, hg, h3, h4, h5, h6⟩⟩ (j * 6 + i) (by omega)]
    exact ht
theorem infoTi : (Try.prog.info? 40).map (fun i => (i.zero, i.size, i.bytes)) = some (some (.agg #[.int .i64 0, .int .i64 0, .int .i64 0, .int .i64 0, .int .i64 0, .int .i64 0]), 6, 48) := by kernel_rfl
theorem cells_new (w : World) (C : Array Value) (T : TypeId) (j : Nat) (u : Value) (h : C[j]? = some u) : (w.alloc (.cells C T)).cell? ((⟨w.heap.size, 0, none⟩ : Addr).add j) = some u := by
  rw [addr_add, Nat.zero_add]
  exact new_cell rfl h
/-- append of one tier, at the operation -/
theorem app_tS {o : Oper} {a : Act} {K : Act → World → Prop} {Q : Exit → Act → World → Prop} (w0 : World) (h0 : Nat) (hH : w0.heap.size = h0) (t : Ti) (s x : Operand)
    (ho : o.op = .call { callee := .builtin .append, args := #[s, x], argTypes := #[23, 23] }) (base : Nat) (v : Value) (l : List Ti) (hs : a.eval s = v) (hown : OwnS w0 base v l)
    (hx : a.eval x = .slice (some ⟨h0, 0, none⟩) 1 1) (hl : l.length ≤ 1000000) (hb : base ≤ w0.heap.size)
    (h : ∀ v' w', OwnS w' base v' (l ++ [t]) → (∀ bs A, (∀ k, v.ownBlock = some k → k ∈ bs ∨ A.heap.size ≤ k) → Fr bs A w0 → Fr bs A w') → (∃ g cap, v' = .slice (some ⟨g, 0, none⟩) (l.length + 1) cap) → K (a.put o.dst v') w') :
    o.wp Try.prog a (w0.alloc (.cells #[.int .i64 t.main, .int .i64 t.bonus, .int .i64 t.extra, .int .i64 t.mode, .int .i64 t.kind, .int .i64 t.value] 40)) K Q := by
  subst hH
  obtain ⟨i0, hi0, hz0, hz1, hz2⟩ := info_parts infoTi
  have hown' : OwnS (w0.alloc (.cells #[.int .i64 t.main, .int .i64 t.bonus, .int .i64 t.extra, .int .i64 t.mode, .int .i64 t.kind, .int .i64 t.value] 40)) base v l := hown.fr ((Fr.refl [] w0).alloc _) (by simp)
  refine wp_append_lies _ s x 23 ho base 40 i0 _ 6 48 Try.underlying23 hi0 hz0 hz1 hz2 rfl (by decide) v l.length (l.flatMap Ti.cells) hs hown' ⟨w0.heap.size, 0, none⟩ 1 1 (Ti.cells t) hx rfl ?_ (by simp [Ti.cells, Value.oneCell']) (by omega) (by unfold maxLen; omega) (by omega) (by simp; omega) _ rfl ?_
  · intro j u hu
    exact cells_new _ _ _ j u (by simpa [Ti.cells] using hu)
  intro g cap w' h1 h2 h3 _
  refine h _ w' ?_ ?_ ⟨g, cap, rfl⟩
  · unfold OwnS
    simpa using h1
  · intro bs A hA hF
    exact (hF.alloc _).grown h2 hA
def withT (g : Gm) (a : Option Addr) (c : Nat) (l : List Ti) : Gm := { g with ta := a, tc := c, tiers := l }
theorem gm_set_tiers {w : World} {b : Nat} {g : Gm} (h : GmAt w b g) (a : Option Addr) (c : Nat) (l : List Ti) : GmAt (w.setCell ⟨b, 21, none⟩ (.slice a l.length c)) b (withT g a c l) := by
  unfold GmAt at h ⊢
  simp [World.setCell, Array.getElem?_modify, h, Gm.cells, withT]
end Go.Proofs.Ytdinjekpcgndmaa
/-
  LAYER 38: the game made small: names of at most 40 bytes, at most 14 tiers, at most 6 add-ons with at most 14 factors and prizes. Plain lemmas.
-/
set_option linter.unusedVariables false
namespace Go.Proofs.Ytdinjekpcgndmaa
open Go.RowKit
/-- a row of add-ons of one's own, from block 'base' on -/
def OwnA (w : World) (base : Nat) (v : Value) (l : List Ad) : Prop := w.ownsRow base 104 6 v l.length (l.flatMap Ad.cells)
theorem OwnA.fr {bs : List Nat} {w w' : World} {base : Nat} {v : Value} {l : List Ad} (h : OwnA w base v l) (hf : Fr bs w w') (hn : ∀ k, v.ownBlock = some k → k ∉ bs) : OwnA w' base v l := by
  unfold OwnA at h ⊢
  obtain ⟨h1, h2⟩ := h
  refine ⟨h1, ?_⟩
  rcases h2 with h2 | ⟨g, cap, cur, hv, hb, hg, h3⟩
  · exact .inl h2
  · have hlt : g < w.heap.size := (Array.getElem?_eq_some_iff.1 hg).1
    exact .inr ⟨g, cap, cur, hv, hb, (hf.block g hlt (hn g (by rw [hv]; rfl))).trans hg, h3⟩
theorem OwnA.mono {w : World} {base base' : Nat} {v : Value} {l : List Ad} (h : OwnA w base v l) (hb : base' ≤ base) : OwnA w base' v l := by
  unfold OwnA at h ⊢
  obtain ⟨h1, h2⟩ := h
  refine ⟨h1, ?_⟩
  rcases h2 with h2 | ⟨g, cap, cur, hv, hb2, h3⟩
  · exact .inl h2
  · exact .inr ⟨g, cap, cur, hv, Nat.le_trans hb hb2, h3⟩
theorem OwnA.block {w : World} {base : Nat} {v : Value} {l : List Ad} (h : OwnA w base v l) : ∀ k, v.ownBlock = some k → base ≤ k ∧ k < w.heap.size := World.ownsRow.lt h
theorem OwnA.nil (w : World) (base : Nat) : OwnA w base (.slice none 0 0) [] := ⟨by simp, .inl ⟨rfl, rfl⟩⟩
theorem adC_len (l : List Ad) : (l.flatMap Ad.cells).length = l.length * 6 := by
  induction l with
  | nil => rfl
  | cons a l ih => simp [List.flatMap_cons, ih, Ad.cells]; omega
theorem flatAd_at : ∀ (l : List Ad) (j i : Nat) (x : Ad) (v : Value), l[j]? = some x → (Ad.cells x)[i]? = some v → (l.flatMap Ad.cells)[j * 6 + i]? = some v := by
  intro l
  induction l with
  | nil => intro j i x v hj _; simp at hj
  | cons a l ih =>
    intro j i x v hj hi
    have ha : (Ad.cells a).length = 6 := rfl
    rw [List.flatMap_cons]
    cases j with
    | zero =>
      simp at hj
      subst hj
      have := (List.getElem?_eq_some_iff.1 hi).1
      rw [Nat.zero_mul, Nat.zero_add, List.getElem?_append_left this]
      exact hi
    | succ j =>
      simp at hj
      rw [List.getElem?_append_right (by rw [ha, Nat.add_mul]; omega), ha, show (j + 1) * 6 + i - 6 = j * 6 + i by rw [Nat.add_mul]; omega]
      exact ih j i x v hj hi
theorem OwnA.form {w : World} {base : Nat} {v : Value} {l : List Ad} (h : OwnA w base v l) : ∃ a cap, v = .slice a l.length cap ∧ l.length ≤ cap ∧ cap ≤ maxLen ∧ RdF 6 adF w (.slice a l.length cap) l := by
  obtain ⟨h1, h2⟩ := h
  rcases h2 with ⟨hv, h0⟩ | ⟨g, cap, cur, hv, hb, hg, h3, h4, h5, h6⟩
  · subst hv
    have hl : l = [] := List.eq_nil_of_length_eq_zero (by simpa using h0)
    subst hl
    exact ⟨none, 0, rfl, by simp, by simp, none, 0, rfl, by simp, by simp, fun j x hx => by simp at hx⟩
  · refine ⟨some ⟨g, 0, none⟩, cap, hv, h3, h4, some ⟨g, 0, none⟩, cap, rfl, h3, h4, fun j x hx => ⟨g, 0, rfl, fun i u hu => ?_⟩⟩
    have hu : (Ad.cells x)[i]? = some u := mem_pairs.1 hu
    rw [Nat.zero_add]
    have ht := flatAd_at l j i x u hx hu
    have hj : j < l.length := (List.getElem?_eq_some_iff.1 hx).1
    have hi : i < 6 := (List.getElem?_eq_some_iff.1 hu).1
    rw [World.ownsRow.cellAt (w := w) (base := base) (e := 104) (size := 6) (n := l.length) (xs := l.flatMap Ad.cells) ⟨h1, .inr ⟨g, cap, cur, rfl, hb, hg, h3, h4, h5, h6⟩⟩ (j * 6 + i) (by omega)]
    exact ht
theorem infoAd38 : (Try.prog.info? 104).map (fun i => (i.zero, i.size, i.bytes)) = some (some (.agg #[.string ByteArray.empty, .int .i64 0, .int .i64 0, .slice none 0 0, .int .i64 0, .slice none 0 0]), 6, 88) := by kernel_rfl
/-- append of one add-on, at the operation -/
theorem app_aS {o : Oper} {a : Act} {K : Act → World → Prop} {Q : Exit → Act → World → Prop} (w0 : World) (h0 : Nat) (hH : w0.heap.size = h0) (t : Ad) (s x : Operand)
    (ho : o.op = .call { callee := .builtin .append, args := #[s, x], argTypes := #[22, 22] }) (base : Nat) (v : Value) (l : List Ad) (hs : a.eval s = v) (hown : OwnA w0 base v l)
    (hx : a.eval x = .slice (some ⟨h0, 0, none⟩) 1 1) (hl : l.length ≤ 1000000) (hb : base ≤ w0.heap.size)
    (h : ∀ v' w', OwnA w' base v' (l ++ [t]) → (∀ bs A, (∀ k, v.ownBlock = some k → k ∈ bs ∨ A.heap.size ≤ k) → Fr bs A w0 → Fr bs A w') → (∃ g cap, v' = .slice (some ⟨g, 0, none⟩) (l.length + 1) cap) → K (a.put o.dst v') w') :
    o.wp Try.prog a (w0.alloc (.cells #[.string t.name, .int .i64 t.kind, .int .i64 t.price, .slice t.fa t.factors.length t.fc, .int .i64 t.digits, .slice t.pa t.prizes.length t.pc] 104)) K Q := by
  subst hH
  obtain ⟨i0, hi0, hz0, hz1, hz2⟩ := info_parts infoAd38
  have hown' : OwnA (w0.alloc (.cells #[.string t.name, .int .i64 t.kind, .int .i64 t.price, .slice t.fa t.factors.length t.fc, .int .i64 t.digits, .slice t.pa t.prizes.length t.pc] 104)) base v l := hown.fr ((Fr.refl [] w0).alloc _) (by simp)
  refine wp_append_lies _ s x 22 ho base 104 i0 _ 6 88 Try.underlying22 hi0 hz0 hz1 hz2 rfl (by decide) v l.length (l.flatMap Ad.cells) hs hown' ⟨w0.heap.size, 0, none⟩ 1 1 (Ad.cells t) hx rfl ?_ (by simp [Ad.cells, Value.oneCell']) (by omega) (by unfold maxLen; omega) (by omega) (by simp; omega) _ rfl ?_
  · intro j u hu
    exact cells_new _ _ _ j u (by simpa [Ad.cells] using hu)
  intro g cap w' h1 h2 h3 _
  refine h _ w' ?_ ?_ ⟨g, cap, rfl⟩
  · unfold OwnA
    simpa using h1
  · intro bs A hA hF
    exact (hF.alloc _).grown h2 hA
theorem app_aL {ops : Array Oper} {rest : List Oper} {o : Oper} {a : Act} {Q : Exit → Act → World → Prop} (w0 : World) (h0 : Nat) (hH : w0.heap.size = h0) (t : Ad) (hgd : o.guard = none) (s x : Operand)
    (ho : o.op = .call { callee := .builtin .append, args := #[s, x], argTypes := #[22, 22] }) (base : Nat) (v : Value) (l : List Ad) (hs : a.eval s = v) (hown : OwnA w0 base v l)
    (hx : a.eval x = .slice (some ⟨h0, 0, none⟩) 1 1) (hl : l.length ≤ 1000000) (hb : base ≤ w0.heap.size)
    (h : ∀ v' w', OwnA w' base v' (l ++ [t]) → (∀ bs A, (∀ k, v.ownBlock = some k → k ∈ bs ∨ A.heap.size ≤ k) → Fr bs A w0 → Fr bs A w') → (∃ g cap, v' = .slice (some ⟨g, 0, none⟩) (l.length + 1) cap) → wpList Try.prog ops Q rest (a.put o.dst v') w') :
    wpList Try.prog ops Q (o :: rest) a (w0.alloc (.cells #[.string t.name, .int .i64 t.kind, .int .i64 t.price, .slice t.fa t.factors.length t.fc, .int .i64 t.digits, .slice t.pa t.prizes.length t.pc] 104)) :=
  wpList_plain hgd fun _ hK => app_aS w0 h0 hH t s x ho base v l hs hown hx hl hb fun v' w' h1 h2 h3 => hK _ _ (h v' w' h1 h2 h3)
def nm40 (s : ByteArray) : ByteArray := s.extract 0 (min s.size 40)
def smA (x : Ad) : Ad := ⟨nm40 x.name, x.kind, x.price, x.fa, x.fc, x.factors.take 14, x.digits, x.pa, x.pc, x.prizes.take 14⟩
def smL (l : List Ad) (k : Nat) : List Ad := (l.take k).map smA
theorem smL_succ {l : List Ad} {k : Nat} {x : Ad} (h : l[k]? = some x) : smL l (k + 1) = smL l k ++ [smA x] := by
  unfold smL
  rw [List.take_add_one, h, List.map_append]
  rfl
theorem smL_len {l : List Ad} {k : Nat} (h : k ≤ l.length) : (smL l k).length = k := by simp [smL]; omega
def smG (g : Gm) (a : Option Addr) (c : Nat) : Gm := { g with name := nm40 g.name, aa := a, ac := c, addons := smL g.addons (min g.addons.length 6), tiers := g.tiers.take 14 }
def withN (g : Gm) (s : ByteArray) : Gm := { g with name := s }
theorem gm_set_name {w : World} {b : Nat} {g : Gm} (h : GmAt w b g) (s : ByteArray) : GmAt (w.setCell ⟨b, 0, none⟩ (.string s)) b (withN g s) := by
  unfold GmAt at h ⊢
  simp [World.setCell, Array.getElem?_modify, h, Gm.cells, withN]
theorem nm40_le (s : ByteArray) (h : s.size ≤ maxLen) : (nm40 s).size ≤ maxLen := by
  unfold nm40
  rw [ByteArray.size_extract]
  omega
theorem RdF.few {α : Type} {cc : Nat} {f : α → List (Nat × Value)} {w : World} {a : Option Addr} {c : Nat} {l : List α} (h : RdF cc f w (.slice a l.length c) l) : RdF cc f w (.slice a (l.take 14).length c) (l.take 14) := by
  obtain ⟨a', c', hv, h1, h2, h3⟩ := h
  simp only [Value.slice.injEq] at hv
  obtain ⟨rfl, _, rfl⟩ := hv
  have hl : (l.take 14).length = min l.length 14 := by rw [List.length_take]; omega
  refine ⟨a, c, rfl, by omega, h2, fun j x hj => ?_⟩
  have hjl := (List.getElem?_eq_some_iff.1 hj).1
  rw [List.getElem?_take_of_lt (by omega)] at hj
  exact h3 j x hj
theorem smA_ok {w : World} {x : Ad} (h : x.Ok w) : (smA x).Ok w := by
  have h1 := RdI.few h.rf
  have h2 := RdI.few h.rp
  refine ⟨nm40_le _ h.name, h.kind, h.price, h.digits, ?_, ?_, fun z hz => h.wf z (List.mem_of_mem_take hz), fun z hz => h.wp z (List.mem_of_mem_take hz)⟩
  · have := h1.1; rw [← h1.2] at this; exact this
  · have := h2.1; rw [← h2.2] at this; exact this
theorem smG_ok {g : Gm} {w w' : World} {a : Option Addr} {c : Nat} (h : g.Ok w) (hf : Fr [] w w') (hr : RdF 6 adF w' (.slice a (smL g.addons (min g.addons.length 6)).length c) (smL g.addons (min g.addons.length 6))) : (smG g a c).Ok w' := by
  have h' := h.fr hf
  refine ⟨nm40_le _ h'.name, h'.kind, h'.price, h'.main, h'.of_, h'.bonus, h'.bonusof, h'.extra, h'.draws, h'.system, h'.days, h'.at_, h'.close, h'.cancel, h'.expiry, h'.pool, h'.reserve, h'.round, h'.cap, h'.rolls, ⟨hr, fun x hx => ?_⟩, ⟨RdF.few h'.tiers.rd, fun x hx => h'.tiers.ok x (List.mem_of_mem_take hx)⟩⟩
  have hx : x ∈ smL g.addons (min g.addons.length 6) := hx
  unfold smL at hx
  rw [List.mem_map] at hx
  obtain ⟨y, hy, rfl⟩ := hx
  exact smA_ok (h'.addons.ok y (List.mem_of_mem_take hy))
end Go.Proofs.Ytdinjekpcgndmaa
/-
  LAYER 38: small, the game made small.
-/
set_option linter.unusedVariables false
namespace Go.Proofs.Ytdinjekpcgndmaa
open Go.RowKit
def SmPost (g : Gm) (w : World) (e : Ending) (w' : World) : Prop := ∃ a c, e = .returned (smG g a c).val ∧ OwnA w' w.heap.size (.slice a (min g.addons.length 6) c) (smL g.addons (min g.addons.length 6)) ∧ Fr [] w w'
set_option maxRecDepth 20000 in
set_option maxHeartbeats 4000000 in
theorem small_any (g : Gm) (w : World) (hok : g.Ok w) : Calls Try.prog 40 #[g.val] w (SmPost g w) := by
  have hlt := hok.tiers.rd.len.2
  have hla := hok.addons.rd.len.2
  have hnm := hok.name
  unfold maxLen at hlt hla hnm
  have hpost : ∀ a c w', OwnA w' w.heap.size (.slice a (min g.addons.length 6) c) (smL g.addons (min g.addons.length 6)) → Fr [] w w' → SmPost g w (.returned (smG g a c).val) w' := fun a c w' h1 h2 => ⟨a, c, rfl, h1, h2⟩
  have HPOST := Lib.hid hpost
  have HOK := Lib.hid hok
  clear hpost hok
  have h0 : ∀ w b, GmAt w b g → w.cell? ⟨b, 0, none⟩ = some (.string g.name) := fun w b h => h.cell 0 _ rfl
  have h21 : ∀ w b g', g' = withN g (nm40 g.name) → GmAt w b g' → w.cell? ⟨b, 21, none⟩ = some (.slice g.ta g.tiers.length g.tc) := fun w b g' e h => by subst e; exact h.cell 21 _ rfl
  have H0 := Lib.hid h0
  have H21 := Lib.hid h21
  clear h0 h21
  go_enter Try.func40, Try.ntmps40
  go_upto_region 1 with (refine box_game rfl (.tmp 0) rfl g rfl ?_; intro w1 hg1 hz1 hf1)
  obtain ⟨b, hb⟩ : ∃ b, b = w.heap.size := ⟨_, rfl⟩
  have hres : (w1.alloc (.cells zGm36 25)).heap[b + 1]? = some (.cells zGm36 25 (0, 0)) := by
    have := heap_alloc_new w1 (.cells zGm36 25)
    rw [hz1, ← hb] at this
    exact this
  have hg2 := hg1.fr ((Fr.refl [] w1).alloc (.cells zGm36 25)) (by simp)
  have F1 : Fr [] w (w1.alloc (.cells zGm36 25)) := hf1.alloc _
  have hz2 : (w1.alloc (.cells zGm36 25)).heap.size = b + 2 := by simp [hz1, hb]
  (try rw [hz1])
  generalize w1.alloc (.cells zGm36 25) = x1 at *
  rw [← hb] at hg2 ⊢
  have HB := Lib.hid hb
  have HG2 := Lib.hid hg2
  have HF1 := Lib.hid F1
  have HRES := Lib.hid hres
  have HZ2 := Lib.hid hz2
  clear hb hg2 hg1 hz1 hf1 F1 hres hz2
  go_cut [] (fun wx => GmAt wx b (withN g (nm40 g.name)) ∧ Fr [b] x1 wx)
  case first =>
    have c0 := H0.out _ _ HG2.out
    have z0 := gm_frozen HG2.out 0
    have hs := fun s => gm_set_name HG2.out s
    have fs := fun v => (Fr.refl [b] x1).setCell (p := ⟨b, 0, none⟩) (.inl (by simp)) v
    by_cases h40 : g.name.size ≤ 40
    · have hn : nm40 g.name = g.name := by unfold nm40; rw [show min g.name.size 40 = g.name.size by omega]; simp
      have e2 : min (g.name.size : Int) 40 = (g.name.size : Int) := by omega
      have hs := hs (nm40 g.name)
      have fs := fs (.string (nm40 g.name))
      rw [hn] at hs fs
      have HN := Lib.hid hn
      have HS := Lib.hid hs
      have HFS := Lib.hid fs
      clear hs fs hn
      go_wp2_with fail
      go_meet
      exact ⟨by rw [HN.out]; exact HS.out, HFS.out⟩
    · have hn : nm40 g.name = g.name.extract 0 40 := by unfold nm40; rw [show min g.name.size 40 = 40 by omega]
      have e2 : min (g.name.size : Int) 40 = 40 := by omega
      have h41 : 40 ≤ g.name.size := by omega
      have hs := hs (nm40 g.name)
      have fs := fs (.string (nm40 g.name))
      rw [hn] at hs fs
      have HN := Lib.hid hn
      have HS := Lib.hid hs
      have HFS := Lib.hid fs
      clear hs fs hn
      go_wp2_with fail
      go_meet
      exact ⟨by rw [HN.out]; exact HS.out, HFS.out⟩
  case rest =>
    obtain ⟨hg3, hf3⟩ := hcut
    obtain ⟨x2, hx2⟩ : ∃ x : World, x = wc := ⟨_, rfl⟩
    rw [← hx2] at hg3 hf3 ⊢
    have HG3 := Lib.hid hg3
    have HF3 := Lib.hid hf3
    clear hx2 hg3 hf3
    go_upto_region 2 with (fail)
    go_cut [] (fun wx => GmAt wx b (withT (withN g (nm40 g.name)) g.ta g.tc (g.tiers.take 14)) ∧ Fr [b] x1 wx)
    case first =>
      have c21 := H21.out _ _ _ rfl HG3.out
      have z21 := gm_frozen HG3.out 21
      have hs := gm_set_tiers HG3.out g.ta g.tc (g.tiers.take 14)
      have fs := fun v => (Fr.refl [b] x2).setCell (p := ⟨b, 21, none⟩) (.inl (by simp)) v
      have fs := HF3.out.trans (fs (.slice g.ta (g.tiers.take 14).length g.tc))
      have hcap : g.tiers.length ≤ g.tc ∧ g.tc ≤ 9223372036854775807 := by
        obtain ⟨a', c', hv, h1, h2, _⟩ := HOK.out.tiers.rd
        simp only [Value.slice.injEq] at hv
        obtain ⟨_, _, rfl⟩ := hv
        unfold maxLen at h2
        omega
      obtain ⟨hc1, hc2⟩ := hcap
      by_cases h14 : g.tiers.length ≤ 14
      · have e1 : (g.tiers.take 14).length = g.tiers.length := by rw [List.length_take]; omega
        have e2 : min (g.tiers.length : Int) 14 = (g.tiers.length : Int) := by omega
        rw [e1] at hs fs
        have HS := Lib.hid hs
        have HFS := Lib.hid fs
        clear hs fs e1
        go_wp2_with fail
        go_meet
        exact ⟨HS.out, HFS.out⟩
      · have e1 : (g.tiers.take 14).length = 14 := by rw [List.length_take]; omega
        have e2 : min (g.tiers.length : Int) 14 = 14 := by omega
        have h15 : 14 ≤ g.tiers.length := by omega
        have h16 : 14 ≤ g.tc := by omega
        rw [e1] at hs fs
        have HS := Lib.hid hs
        have HFS := Lib.hid fs
        clear hs fs e1
        go_wp2_with fail
        go_meet
        exact ⟨HS.out, HFS.out⟩
    case rest =>
      obtain ⟨hg4, hf4⟩ := hcut
      obtain ⟨x3, hx3⟩ : ∃ x : World, x = wc := ⟨_, rfl⟩
      rw [← hx3] at hg4 hf4 ⊢
      clear hx3 HG3 HF3 HG2 H0 H21
      generalize hgg : withT (withN g (nm40 g.name)) g.ta g.tc (g.tiers.take 14) = gg at *
      have g20 : ∀ x, GmAt x b gg → x.cell? ⟨b, 20, none⟩ = some (.slice g.aa g.addons.length g.ac) := fun x h => by subst hgg; exact h.cell 20 _ rfl
      have hga : ∀ a c l, withA gg a c l = withA (withT (withN g (nm40 g.name)) g.ta g.tc (g.tiers.take 14)) a c l := fun a c l => by rw [hgg]
      have HG4 := Lib.hid hg4
      have HF4 := Lib.hid hf4
      have H20 := Lib.hid g20
      have HGA := Lib.hid hga
      obtain ⟨n, hn⟩ : ∃ n, n = g.addons.length := ⟨_, rfl⟩
      obtain ⟨m, hm⟩ : ∃ m, m = min n 6 := ⟨_, rfl⟩
      have hmn : m ≤ n := by omega
      have hm6 : m ≤ 6 := by omega
      have H20' := H20.out
      rw [← hn] at H20' hla
      have H20 := Lib.hid H20'
      have HN := Lib.hid hn
      have HM := Lib.hid hm
      have hbx : b + 2 ≤ x3.heap.size := by rw [← HZ2.out]; exact HF4.out.size
      clear hgg hg4 hf4 g20 hga hn hm H20' HZ2
      go_upto_block 0 with (fail)
      go_cut [3] (fun v wx => ∃ a c, v = .slice a m c ∧ OwnA wx x3.heap.size v (smL g.addons m) ∧ Fr [] x3 wx)
      case first =>
        go_wp2_with fail
        go_loopw [4, 3] (fun i v wr => ∃ (k : Nat) (a : Option Addr) (c : Nat), k ≤ m ∧ i = .int .i64 k ∧ v = .slice a k c ∧ OwnA wr x3.heap.size (.slice a k c) (smL g.addons k) ∧ Fr [] x3 wr) (fun i _ _ => m - (intOf i).toNat)
        case atStart => exact ⟨0, none, 0, by omega, rfl, rfl, OwnA.nil _ _, Fr.refl _ _⟩
        case round =>
          obtain ⟨k, a, c, hk, rfl, rfl, ho, hf⟩ := hrel
          have c20 := H20.out _ (HG4.out.fr hf (by simp))
          by_cases hlt : k < m
          · obtain ⟨x, hx⟩ : ∃ x, g.addons[k]? = some x := ⟨_, List.getElem?_eq_getElem (by have := HN.out; omega)⟩
            obtain ⟨gA, oA, haa, hcell⟩ := RdF.at (f := Ad.cells) HOK.out.addons.rd hx
            have hxok := HOK.out.addons.ok x (List.mem_of_getElem? hx)
            have hsu := smL_succ hx
            have hl := smL_len (l := g.addons) (k := k) (by have := HN.out; omega)
            have hFw : Fr [] w wr := (HF1.out.trans' HF4.out (by intro i hi; simp at hi; right; have := HB.out; omega)).trans hf
            have c0 := hFw.cell_some (hcell 0 _ rfl) (by simp)
            have c1 := hFw.cell_some (hcell 1 _ rfl) (by simp)
            have c2 := hFw.cell_some (hcell 2 _ rfl) (by simp)
            have c3 := hFw.cell_some (hcell 3 _ rfl) (by simp)
            have c4 := hFw.cell_some (hcell 4 _ rfl) (by simp)
            have c5 := hFw.cell_some (hcell 5 _ rfl) (by simp)
            rw [Nat.add_zero] at c0
            rw [haa] at c20
            obtain ⟨nm, kd, pr, fa, fc, F, dg, pa, pc, P⟩ := x
            simp only at c0 c1 c2 c3 c4 c5
            have hfl := hxok.rf
            have hpl := hxok.rp
            have hnmx := hxok.name
            simp only at hfl hpl hnmx
            unfold maxLen at hnmx
            have hff := (RdI.few hfl).2
            have hpf := (RdI.few hpl).2
            have hfb : F.length ≤ fc ∧ fc ≤ 9223372036854775807 := by
              obtain ⟨a', c', hv, h1, h2, _⟩ := hfl
              simp only [Value.slice.injEq] at hv
              obtain ⟨_, _, rfl⟩ := hv
              unfold maxLen at h2
              omega
            have hpb : P.length ≤ pc ∧ pc ≤ 9223372036854775807 := by
              obtain ⟨a', c', hv, h1, h2, _⟩ := hpl
              simp only [Value.slice.injEq] at hv
              obtain ⟨_, _, rfl⟩ := hv
              unfold maxLen at h2
              omega
            have hFE := fun w => few_any fa F.length fc w hfb.1 hfb.2
            have hPE := fun w => few_any pa P.length pc w hpb.1 hpb.2
            rw [← hff] at hFE
            rw [← hpf] at hPE
            have hsm : smA ⟨nm, kd, pr, fa, fc, F, dg, pa, pc, P⟩ = ⟨nm40 nm, kd, pr, fa, fc, F.take 14, dg, pa, pc, P.take 14⟩ := rfl
            rw [hsm] at hsu
            generalize F.take 14 = F2 at *
            generalize P.take 14 = P2 at *
            generalize hFL : F.length = FL at *
            generalize hPL : P.length = PL at *
            have hkn : (k : Int) < (n : Int) := by omega
            have hk6 : (k : Int) < 6 := by omega
            have hk6' : k < 6 := by omega
            have hkn' : k < n := by omega
            have HO := Lib.hid ho
            have HF := Lib.hid hf
            have HSU := Lib.hid hsu
            have HL := Lib.hid hl
            have HFE := Lib.hid hFE
            have HPE := Lib.hid hPE
            clear hcell hxok hsu hl hFw haa hfl hpl hff hpf hfb hpb hFE hPE hsm hFL hPL ho hf hx
            go_upto_region 8 with (fail)
            have hr : RowAt (wr.alloc (.cells #[.string nm, .int .i64 kd, .int .i64 pr, .slice fa FL fc, .int .i64 dg, .slice pa PL pc] 104)) wr.heap.size 104 [.string nm, .int .i64 kd, .int .i64 pr, .slice fa FL fc, .int .i64 dg, .slice pa PL pc] := RowAt.new rfl rfl
            have fy : Fr [] wr (wr.alloc (.cells #[.string nm, .int .i64 kd, .int .i64 pr, .slice fa FL fc, .int .i64 dg, .slice pa PL pc] 104)) := (Fr.refl [] wr).alloc _
            have hob := fun q hq => (HO.out.block q hq).2
            have hy1 : x3.heap.size ≤ wr.heap.size := HF.out.size
            have HO1 := Lib.hid (HO.out.fr fy (by simp))
            have HF1' := Lib.hid (HF.out.trans fy)
            generalize wr.alloc (.cells #[.string nm, .int .i64 kd, .int .i64 pr, .slice fa FL fc, .int .i64 dg, .slice pa PL pc] 104) = y1 at *
            generalize wr.heap.size = bx at *
            have HR := Lib.hid hr
            have HOB := Lib.hid hob
            clear hr fy hob c0 c1 c2 c3 c4 c5 c20 HO HF
            go_cut [] (fun wx => RowAt wx bx 104 [.string (nm40 nm), .int .i64 kd, .int .i64 pr, .slice fa FL fc, .int .i64 dg, .slice pa PL pc] ∧ Fr [bx] y1 wx)
            case first =>
              have c0 := HR.out.cell 0 _ rfl
              have z0 := HR.out.frozen 0
              have hs := fun s => HR.out.set 0 (.string s)
              simp only [List.set_cons_zero] at hs
              have fs := fun v => (Fr.refl [bx] y1).setCell (p := ⟨bx, 0, none⟩) (.inl (by simp)) v
              have hs := hs (nm40 nm)
              have fs := fs (.string (nm40 nm))
              by_cases h40 : nm.size ≤ 40
              · have hn : nm40 nm = nm := by unfold nm40; rw [show min nm.size 40 = nm.size by omega]; simp
                have e2 : min (nm.size : Int) 40 = (nm.size : Int) := by omega
                rw [hn] at hs fs
                have HN2 := Lib.hid hn
                have HS := Lib.hid hs
                have HFS := Lib.hid fs
                clear hs fs hn
                go_wp2_with fail
                go_meet
                exact ⟨by rw [HN2.out]; exact HS.out, HFS.out⟩
              · have hn : nm40 nm = nm.extract 0 40 := by unfold nm40; rw [show min nm.size 40 = 40 by omega]
                have e2 : min (nm.size : Int) 40 = 40 := by omega
                have h41 : 40 ≤ nm.size := by omega
                rw [hn] at hs fs
                have HN2 := Lib.hid hn
                have HS := Lib.hid hs
                have HFS := Lib.hid fs
                clear hs fs hn
                go_wp2_with fail
                go_meet
                exact ⟨by rw [HN2.out]; exact HS.out, HFS.out⟩
            case rest =>
              obtain ⟨hr, hfy⟩ := hcut
              obtain ⟨y2, hy2⟩ : ∃ x : World, x = wc := ⟨_, rfl⟩
              rw [← hy2] at hr hfy ⊢
              have hob2 : ∀ q, (Value.slice a k c).ownBlock = some q → q ∉ [bx] := fun q hq => by have := HOB.out q hq; simp; omega
              have HO2 := Lib.hid (HO1.out.fr hfy hob2)
              have HF2 := Lib.hid (HF1'.out.trans' hfy (by intro i hi; simp at hi; subst hi; exact .inr hy1))
              clear hy2 hfy HR HO1 HF1'
              generalize nm40 nm = nn at *
              go_upto_region 9 with (fail)
              go_cut [] (fun wx => RowAt wx bx 104 [.string nn, .int .i64 kd, .int .i64 pr, .slice fa F2.length fc, .int .i64 dg, .slice pa P2.length pc] ∧ Fr [bx] y2 wx)
              case first =>
                refine wp_region_held_drew (S := (fun w' => Fr [bx] y2 w')) (by kernel_rfl) (Fr.refl _ y2).drew (fun hHeld => ?_)
                have hr3 := hr.fr (Fr.refl [] y2).drew (by simp)
                generalize y2.drew = y3 at *
                have c3 := hr3.cell 3 _ rfl
                have c5 := hr3.cell 5 _ rfl
                have z3 := hr3.frozen 3
                have z5 := hr3.frozen 5
                have hs1 := hr3.set 3 (.slice fa F2.length fc)
                have hs2 := hs1.set 5 (.slice pa P2.length pc)
                simp only [List.set_cons_zero, List.set_cons_succ] at hs1 hs2
                have d5 := hs1.cell 5 _ rfl
                have y5 := hs1.frozen 5
                have HS2 := Lib.hid hs2
                clear hs1 hs2 hr hr3
                refine wpAnyH_take (i := 0) (oi := ⟨some 46, _, _, _, _, _⟩) (v := .pointer (some ⟨bx, 3, none⟩)) rfl (by kernel_rfl) (by kernel_rfl) (by kernel_rfl) (fun _ _ _ h => h) (Or.inl ⟨by rfl, ?_⟩) hHeld ?_
                · intro w hSw; (try dsimp only at hSw); go_simp
                (try simp only [Act.put, List.setIfInBounds_toArray, List.set_cons_zero, List.set_cons_succ])
                refine wpAnyH_take (i := 3) (oi := ⟨some 49, _, _, _, _, _⟩) (v := .pointer (some ⟨bx, 5, none⟩)) rfl (by kernel_rfl) (by kernel_rfl) (by kernel_rfl) (fun _ _ _ h => h) (Or.inl ⟨by rfl, ?_⟩) hHeld ?_
                · intro w hSw; (try dsimp only at hSw); go_simp
                (try simp only [Act.put, List.setIfInBounds_toArray, List.set_cons_zero, List.set_cons_succ])
                refine wpAnyH_ready (rs := [1, 4]) (by kernel_rfl) (by simp) ?_
                refine AllReadyH.cons (o := ⟨some 47, _, _, _, _, _⟩) rfl (fun K hK => ?_) (AllReadyH.cons (o := ⟨some 50, _, _, _, _, _⟩) rfl (fun K hK => ?_) AllReadyH.nil)
                all_goals rw [if_pos (by rfl)]
                all_goals go_simp
                · skip
                  refine hK.out _ _ (hHeld) (fun hHeld' => ?_)
                  clear hK K hHeld
                  have hHeld := hHeld'
                  clear hHeld'
                  (try simp only [Act.put, List.setIfInBounds_toArray, List.set_cons_zero, List.set_cons_succ])
                  refine wpAnyH_ready (rs := [2, 4]) (by kernel_rfl) (by simp) ?_
                  refine AllReadyH.cons (o := ⟨some 48, _, _, _, _, _⟩) rfl (fun K hK => ?_) (AllReadyH.cons (o := ⟨some 50, _, _, _, _, _⟩) rfl (fun K hK => ?_) AllReadyH.nil)
                  all_goals rw [if_pos (by rfl)]
                  all_goals go_simp
                  · skip
                    refine (HFE.out _).mono ?_
                    rintro e w9 ⟨rfl, rfl⟩
                    refine hK.out _ _ (hHeld) (fun hHeld' => ?_)
                    clear hK K hHeld
                    have hHeld := hHeld'
                    clear hHeld'
                    (try simp only [Act.put, List.setIfInBounds_toArray, List.set_cons_zero, List.set_cons_succ])
                    refine wpAnyH_ready (rs := [4]) (by kernel_rfl) (by simp) ?_
                    refine AllReadyH.cons (o := ⟨some 50, _, _, _, _, _⟩) rfl (fun K hK => ?_) AllReadyH.nil
                    rw [if_pos (by rfl)]
                    go_simp
                    refine hK.out _ _ (hHeld) (fun hHeld' => ?_)
                    clear hK K hHeld
                    have hHeld := hHeld'
                    clear hHeld'
                    (try simp only [Act.put, List.setIfInBounds_toArray, List.set_cons_zero, List.set_cons_succ])
                    refine wpAnyH_take (i := 6) (oi := ⟨some 52, _, _, _, _, _⟩) (v := .pointer (some ⟨bx, 3, none⟩)) rfl (by kernel_rfl) (by kernel_rfl) (by kernel_rfl) (fun _ _ _ h => h) (Or.inl ⟨by rfl, ?_⟩) hHeld ?_
                    · intro w hSw; (try dsimp only at hSw); go_simp
                    (try simp only [Act.put, List.setIfInBounds_toArray, List.set_cons_zero, List.set_cons_succ])
                    refine wpAnyH_ready (rs := [5]) (by kernel_rfl) (by simp) ?_
                    refine AllReadyH.cons (o := ⟨some 51, _, _, _, _, _⟩) rfl (fun K hK => ?_) AllReadyH.nil
                    rw [if_pos (by rfl)]
                    go_simp
                    refine (HPE.out _).mono ?_
                    rintro e w9 ⟨rfl, rfl⟩
                    refine hK.out _ _ (hHeld) (fun hHeld' => ?_)
                    clear hK K hHeld
                    have hHeld := hHeld'
                    clear hHeld'
                    (try simp only [Act.put, List.setIfInBounds_toArray, List.set_cons_zero, List.set_cons_succ])
                    refine wpAnyH_ready (rs := [7]) (by kernel_rfl) (by simp) ?_
                    refine AllReadyH.cons (o := ⟨none, _, _, _, _, _⟩) rfl (fun K hK => ?_) AllReadyH.nil
                    rw [if_pos (by rfl)]
                    go_simp
                    have g1 : Fr [bx] y2 _ := hHeld.setCell (p := ⟨bx, 3, none⟩) (.inl (by simp)) (.slice fa F2.length fc)
                    refine hK.out _ _ (g1) (fun hHeld' => ?_)
                    clear hK K hHeld
                    have hHeld := hHeld'
                    clear hHeld'
                    (try simp only [Act.put, List.setIfInBounds_toArray, List.set_cons_zero, List.set_cons_succ])
                    clear g1
                    refine wpAnyH_take (i := 8) (oi := ⟨some 53, _, _, _, _, _⟩) (v := .pointer (some ⟨bx, 5, none⟩)) rfl (by kernel_rfl) (by kernel_rfl) (by kernel_rfl) (fun _ _ _ h => h) (Or.inl ⟨by rfl, ?_⟩) hHeld ?_
                    · intro w hSw; (try dsimp only at hSw); go_simp
                    (try simp only [Act.put, List.setIfInBounds_toArray, List.set_cons_zero, List.set_cons_succ])
                    refine wpAnyH_ready (rs := [9]) (by kernel_rfl) (by simp) ?_
                    refine AllReadyH.cons (o := ⟨none, _, _, _, _, _⟩) rfl (fun K hK => ?_) AllReadyH.nil
                    rw [if_pos (by rfl)]
                    go_simp
                    have g1 : Fr [bx] y2 _ := hHeld.setCell (p := ⟨bx, 5, none⟩) (.inl (by simp)) (.slice pa P2.length pc)
                    refine hK.out _ _ (g1) (fun hHeld' => ?_)
                    clear hK K hHeld
                    have hHeld := hHeld'
                    clear hHeld'
                    (try simp only [Act.put, List.setIfInBounds_toArray, List.set_cons_zero, List.set_cons_succ])
                    clear g1
                    have hW := Lib.hid hHeld
                    clear hHeld c3 c5 z3 z5 d5 y5
                    refine wpAnyH_done (by kernel_rfl) ?_ _
                    go_wp2_with fail
                    go_meet
                    exact ⟨HS2.out, hW.out⟩
                  · skip
                    refine hK.out _ _ (hHeld) (fun hHeld' => ?_)
                    clear hK K hHeld
                    have hHeld := hHeld'
                    clear hHeld'
                    (try simp only [Act.put, List.setIfInBounds_toArray, List.set_cons_zero, List.set_cons_succ])
                    refine wpAnyH_ready (rs := [2]) (by kernel_rfl) (by simp) ?_
                    refine AllReadyH.cons (o := ⟨some 48, _, _, _, _, _⟩) rfl (fun K hK => ?_) AllReadyH.nil
                    rw [if_pos (by rfl)]
                    go_simp
                    refine (HFE.out _).mono ?_
                    rintro e w9 ⟨rfl, rfl⟩
                    refine hK.out _ _ (hHeld) (fun hHeld' => ?_)
                    clear hK K hHeld
                    have hHeld := hHeld'
                    clear hHeld'
                    (try simp only [Act.put, List.setIfInBounds_toArray, List.set_cons_zero, List.set_cons_succ])
                    refine wpAnyH_take (i := 6) (oi := ⟨some 52, _, _, _, _, _⟩) (v := .pointer (some ⟨bx, 3, none⟩)) rfl (by kernel_rfl) (by kernel_rfl) (by kernel_rfl) (fun _ _ _ h => h) (Or.inl ⟨by rfl, ?_⟩) hHeld ?_
                    · intro w hSw; (try dsimp only at hSw); go_simp
                    (try simp only [Act.put, List.setIfInBounds_toArray, List.set_cons_zero, List.set_cons_succ])
                    refine wpAnyH_ready (rs := [5]) (by kernel_rfl) (by simp) ?_
                    refine AllReadyH.cons (o := ⟨some 51, _, _, _, _, _⟩) rfl (fun K hK => ?_) AllReadyH.nil
                    rw [if_pos (by rfl)]
                    go_simp
                    refine (HPE.out _).mono ?_
                    rintro e w9 ⟨rfl, rfl⟩
                    refine hK.out _ _ (hHeld) (fun hHeld' => ?_)
                    clear hK K hHeld
                    have hHeld := hHeld'
                    clear hHeld'
                    (try simp only [Act.put, List.setIfInBounds_toArray, List.set_cons_zero, List.set_cons_succ])
                    refine wpAnyH_ready (rs := [7]) (by kernel_rfl) (by simp) ?_
                    refine AllReadyH.cons (o := ⟨none, _, _, _, _, _⟩) rfl (fun K hK => ?_) AllReadyH.nil
                    rw [if_pos (by rfl)]
                    go_simp
                    have g1 : Fr [bx] y2 _ := hHeld.setCell (p := ⟨bx, 3, none⟩) (.inl (by simp)) (.slice fa F2.length fc)
                    refine hK.out _ _ (g1) (fun hHeld' => ?_)
                    clear hK K hHeld
                    have hHeld := hHeld'
                    clear hHeld'
                    (try simp only [Act.put, List.setIfInBounds_toArray, List.set_cons_zero, List.set_cons_succ])
                    clear g1
                    refine wpAnyH_take (i := 8) (oi := ⟨some 53, _, _, _, _, _⟩) (v := .pointer (some ⟨bx, 5, none⟩)) rfl (by kernel_rfl) (by kernel_rfl) (by kernel_rfl) (fun _ _ _ h => h) (Or.inl ⟨by rfl, ?_⟩) hHeld ?_
                    · intro w hSw; (try dsimp only at hSw); go_simp
                    (try simp only [Act.put, List.setIfInBounds_toArray, List.set_cons_zero, List.set_cons_succ])
                    refine wpAnyH_ready (rs := [9]) (by kernel_rfl) (by simp) ?_
                    refine AllReadyH.cons (o := ⟨none, _, _, _, _, _⟩) rfl (fun K hK => ?_) AllReadyH.nil
                    rw [if_pos (by rfl)]
                    go_simp
                    have g1 : Fr [bx] y2 _ := hHeld.setCell (p := ⟨bx, 5, none⟩) (.inl (by simp)) (.slice pa P2.length pc)
                    refine hK.out _ _ (g1) (fun hHeld' => ?_)
                    clear hK K hHeld
                    have hHeld := hHeld'
                    clear hHeld'
                    (try simp only [Act.put, List.setIfInBounds_toArray, List.set_cons_zero, List.set_cons_succ])
                    clear g1
                    have hW := Lib.hid hHeld
                    clear hHeld c3 c5 z3 z5 d5 y5
                    refine wpAnyH_done (by kernel_rfl) ?_ _
                    go_wp2_with fail
                    go_meet
                    exact ⟨HS2.out, hW.out⟩
                · skip
                  refine hK.out _ _ (hHeld) (fun hHeld' => ?_)
                  clear hK K hHeld
                  have hHeld := hHeld'
                  clear hHeld'
                  (try simp only [Act.put, List.setIfInBounds_toArray, List.set_cons_zero, List.set_cons_succ])
                  refine wpAnyH_ready (rs := [1]) (by kernel_rfl) (by simp) ?_
                  refine AllReadyH.cons (o := ⟨some 47, _, _, _, _, _⟩) rfl (fun K hK => ?_) AllReadyH.nil
                  rw [if_pos (by rfl)]
                  go_simp
                  refine hK.out _ _ (hHeld) (fun hHeld' => ?_)
                  clear hK K hHeld
                  have hHeld := hHeld'
                  clear hHeld'
                  (try simp only [Act.put, List.setIfInBounds_toArray, List.set_cons_zero, List.set_cons_succ])
                  refine wpAnyH_ready (rs := [2]) (by kernel_rfl) (by simp) ?_
                  refine AllReadyH.cons (o := ⟨some 48, _, _, _, _, _⟩) rfl (fun K hK => ?_) AllReadyH.nil
                  rw [if_pos (by rfl)]
                  go_simp
                  refine (HFE.out _).mono ?_
                  rintro e w9 ⟨rfl, rfl⟩
                  refine hK.out _ _ (hHeld) (fun hHeld' => ?_)
                  clear hK K hHeld
                  have hHeld := hHeld'
                  clear hHeld'
                  (try simp only [Act.put, List.setIfInBounds_toArray, List.set_cons_zero, List.set_cons_succ])
                  refine wpAnyH_take (i := 6) (oi := ⟨some 52, _, _, _, _, _⟩) (v := .pointer (some ⟨bx, 3, none⟩)) rfl (by kernel_rfl) (by kernel_rfl) (by kernel_rfl) (fun _ _ _ h => h) (Or.inl ⟨by rfl, ?_⟩) hHeld ?_
                  · intro w hSw; (try dsimp only at hSw); go_simp
                  (try simp only [Act.put, List.setIfInBounds_toArray, List.set_cons_zero, List.set_cons_succ])
                  refine wpAnyH_ready (rs := [5]) (by kernel_rfl) (by simp) ?_
                  refine AllReadyH.cons (o := ⟨some 51, _, _, _, _, _⟩) rfl (fun K hK => ?_) AllReadyH.nil
                  rw [if_pos (by rfl)]
                  go_simp
                  refine (HPE.out _).mono ?_
                  rintro e w9 ⟨rfl, rfl⟩
                  refine hK.out _ _ (hHeld) (fun hHeld' => ?_)
                  clear hK K hHeld
                  have hHeld := hHeld'
                  clear hHeld'
                  (try simp only [Act.put, List.setIfInBounds_toArray, List.set_cons_zero, List.set_cons_succ])
                  refine wpAnyH_ready (rs := [7]) (by kernel_rfl) (by simp) ?_
                  refine AllReadyH.cons (o := ⟨none, _, _, _, _, _⟩) rfl (fun K hK => ?_) AllReadyH.nil
                  rw [if_pos (by rfl)]
                  go_simp
                  have g1 : Fr [bx] y2 _ := hHeld.setCell (p := ⟨bx, 3, none⟩) (.inl (by simp)) (.slice fa F2.length fc)
                  refine hK.out _ _ (g1) (fun hHeld' => ?_)
                  clear hK K hHeld
                  have hHeld := hHeld'
                  clear hHeld'
                  (try simp only [Act.put, List.setIfInBounds_toArray, List.set_cons_zero, List.set_cons_succ])
                  clear g1
                  refine wpAnyH_take (i := 8) (oi := ⟨some 53, _, _, _, _, _⟩) (v := .pointer (some ⟨bx, 5, none⟩)) rfl (by kernel_rfl) (by kernel_rfl) (by kernel_rfl) (fun _ _ _ h => h) (Or.inl ⟨by rfl, ?_⟩) hHeld ?_
                  · intro w hSw; (try dsimp only at hSw); go_simp
                  (try simp only [Act.put, List.setIfInBounds_toArray, List.set_cons_zero, List.set_cons_succ])
                  refine wpAnyH_ready (rs := [9]) (by kernel_rfl) (by simp) ?_
                  refine AllReadyH.cons (o := ⟨none, _, _, _, _, _⟩) rfl (fun K hK => ?_) AllReadyH.nil
                  rw [if_pos (by rfl)]
                  go_simp
                  have g1 : Fr [bx] y2 _ := hHeld.setCell (p := ⟨bx, 5, none⟩) (.inl (by simp)) (.slice pa P2.length pc)
                  refine hK.out _ _ (g1) (fun hHeld' => ?_)
                  clear hK K hHeld
                  have hHeld := hHeld'
                  clear hHeld'
                  (try simp only [Act.put, List.setIfInBounds_toArray, List.set_cons_zero, List.set_cons_succ])
                  clear g1
                  have hW := Lib.hid hHeld
                  clear hHeld c3 c5 z3 z5 d5 y5
                  refine wpAnyH_done (by kernel_rfl) ?_ _
                  go_wp2_with fail
                  go_meet
                  exact ⟨HS2.out, hW.out⟩
              case rest =>
                obtain ⟨hr4, hf4⟩ := hcut
                obtain ⟨y4, hy4⟩ : ∃ x : World, x = wc := ⟨_, rfl⟩
                rw [← hy4] at hr4 hf4 ⊢
                have HO4 := Lib.hid (HO2.out.fr hf4 hob2)
                have HFF4 := Lib.hid (HF2.out.trans' hf4 (by intro i hi; simp at hi; subst hi; exact .inr hy1))
                have c0 := hr4.cell 0 _ rfl
                have c1 := hr4.cell 1 _ rfl
                have c2 := hr4.cell 2 _ rfl
                have c3 := hr4.cell 3 _ rfl
                have c4 := hr4.cell 4 _ rfl
                have c5 := hr4.cell 5 _ rfl
                have hsz4 : x3.heap.size ≤ y4.heap.size := HFF4.out.size
                clear hy4 hf4 hr4 hr HO2 HF2 HFE HPE hob2
                go_wp2_with (at_builtin; refine app_aL _ _ rfl ⟨nn, kd, pr, fa, fc, F2, dg, pa, pc, P2⟩ rfl (.tmp 54) (.tmp 56) rfl x3.heap.size (.slice a k c) (smL g.addons k) rfl HO4.out rfl (by rw [HL.out]; omega) hsz4 ?_; intro v' w6 ho6 hfn hv6; have HF6 := Lib.hid (hfn [] x3 (fun q hq => .inr (HO4.out.block q hq).1) HFF4.out); have HO6 := Lib.hid ho6; clear ho6 hfn c0 c1 c2 c3 c4 c5)
                obtain ⟨g6, c6, rfl⟩ := hv6
                rw [HL.out] at HO6 ⊢
                go_roundw
                case rel => exact ⟨k + 1, some ⟨g6, 0, none⟩, c6, by omega, by go_num, rfl, by rw [HSU.out]; exact HO6.out, HF6.out⟩
                case measure => simp [intOf] <;> omega
          · obtain rfl : k = m := by omega
            have HO := Lib.hid ho
            have HF := Lib.hid hf
            clear ho hf
            by_cases h6 : k < n
            · have hk6 : ¬ k < 6 := by have := HM.out; omega
              have e0 : decide (k < n) = true := by simpa using h6
              have e1 : decide ((k : Int) < (n : Int)) = true := by simp; omega
              have e2 : decide ((k : Int) < 6) = false := by simp; omega
              have e3 : decide (k < 6) = false := by simp; omega
              clear hk6 h6
              go_wp2_with fail
              go_meet
              exact ⟨a, c, rfl, HO.out, HF.out⟩
            · have e0 : decide (k < n) = false := by simpa using h6
              have e1 : decide ((k : Int) < (n : Int)) = false := by simp; omega
              clear h6
              go_wp2_with fail
              go_meet
              exact ⟨a, c, rfl, HO.out, HF.out⟩
      case rest =>
        obtain ⟨a, c, rfl, ho, hf⟩ := hcut
        obtain ⟨x4, hx4⟩ : ∃ x : World, x = wc := ⟨_, rfl⟩
        rw [← hx4] at ho hf ⊢
        clear hx4
        have hg5 := HG4.out.fr hf (by simp)
        have hres5 : x4.heap[b + 1]? = some (.cells zGm36 25 (0, 0)) := (hf.block (b + 1) (by omega) (by simp)).trans ((HF4.out.block (b + 1) (by have := (Array.getElem?_eq_some_iff.1 HRES.out).1; exact this) (by simp)).trans HRES.out)
        have hset := gm_set_addons hg5 a c (smL g.addons m)
        rw [smL_len (l := g.addons) (k := m) (by have := HN.out; omega)] at hset
        have z20 := gm_frozen hg5 20
        have d20 := H20.out _ hg5
        have fs : Fr [b] x4 (x4.setCell ⟨b, 20, none⟩ (.slice a m c)) := (Fr.refl [b] x4).setCell (.inl (by simp)) _
        have hres6 := (fs.block (b + 1) (Array.getElem?_eq_some_iff.1 hres5).1 (by simp)).trans hres5
        have heq : withA gg a c (smL g.addons m) = smG g a c := by
          rw [HGA.out, HM.out, HN.out]
          rfl
        rw [heq] at hset
        have hF4w : Fr [] w x4 := (HF1.out.trans' HF4.out (by intro i hi; simp at hi; right; have := HB.out; omega)).trans hf
        have hF6 : Fr [] w (x4.setCell ⟨b, 20, none⟩ (.slice a m c)) := hF4w.trans' fs (by intro i hi; simp at hi; right; have := HB.out; omega)
        have HRD := Lib.hid ho
        have HOB := Lib.hid (fun q hq => (ho.block q hq).1)
        have HX3 := Lib.hid hbx
        have HF6 := Lib.hid hF6
        have HFS := Lib.hid fs
        have HSET := Lib.hid hset
        have HRES6 := Lib.hid hres6
        have HBW := Lib.hid HB.out
        clear ho hf hg5 hres5 hset fs hres6 heq hF4w hF6
        go_wp2_with (first | (refine load_game rfl (.tmp 1) rfl _ rfl (smG g a c) HSET.out ?_) | (refine store_game rfl (.tmp 2) (.tmp 60) rfl (b + 1) rfl _ HRES6.out rfl (smG g a c) rfl ?_; intro x7 hg7 hz7 hf7))
        refine bodyPost_ret (v := (smG g a c).val) (by rw [Gm.val_eq]; exact results_cell_row rfl _ _ (b + 1) 25 _ (0, 0) _ rfl hg7 Try.underlying25 rfl infoGame) rfl (HPOST.out _ _ _ ?_ ?_)
        · have hb2 : ∀ q, (Value.slice a m c).ownBlock = some q → b + 2 ≤ q := fun q hq => Nat.le_trans HX3.out (HOB.out q hq)
          have h1 := (HRD.out.fr HFS.out (fun q hq => by have := hb2 q hq; simp; omega)).fr hf7 (fun q hq => by have := hb2 q hq; simp; omega)
          rw [← HN.out, ← HM.out]
          exact h1.mono (by have := HBW.out; have := HX3.out; omega)
        · exact HF6.out.trans' hf7 (by intro i hi; simp at hi; right; have := HBW.out; omega)
end Go.Proofs.Ytdinjekpcgndmaa
/-
  LAYER 38, plain: what an award without error is; a game stored whole, at the operation.
-/
set_option linter.unusedVariables false
namespace Go.Proofs.Ytdinjekpcgndmaa
open Go.RowKit
structure BalF (n : Nat) (A cr B D R : Int) (cs ct EL PL C2 : List Int) : Prop where
  lc : ct.length = n
  ls : cs.length = n
  le : EL.length = n
  lp : PL.length = n
  l2 : C2.length = n
  n12 : n ≤ 12
  each : ∀ i, i < n → 0 ≤ PL.getD i 0 ∧ PL.getD i 0 ≤ 1000000000000 ∧ 0 ≤ C2.getD i 0 ∧ C2.getD i 0 ≤ 1000000000000 ∧ 0 ≤ ct.getD i 0 ∧ ct.getD i 0 ≤ 1000000000000 ∧ PL.getD i 0 = EL.getD i 0 * cs.getD i 0
  A01 : 0 ≤ A ∧ A ≤ 1000000000000
  c01 : 0 ≤ cr ∧ cr ≤ 1000000000000
  R01 : 0 ≤ R ∧ R ≤ 1000000000000
  B0 : 0 ≤ B
  D0 : 0 ≤ D
  bal : A + cr + sumTo ct n = R + (sumTo PL n + sumTo C2 n)
  blb : blB A cr R ct PL C2 = true
theorem bal_f {g : Gm} {s cr cl : Int} {cs ct : List Int} (hE : awE g s cs ct cr cl = 0) :
    BalF g.tiers.length (fuA g s) cr (awB g s cs ct cr cl) (awD g s cs cr) (awR g s cs ct cr cl) cs ct (eaL g (awF g s cs ct cr cl) cs g.tiers.length) (paL g (awF g s cs ct cr cl) cs g.tiers.length) (awC g s cs ct cr cl) := by
  obtain ⟨_, h, hR, _⟩ := awE_facts hE
  have F := h.al
  obtain ⟨q1, q2, q3, q4, q5, q6, q7⟩ := h.len
  obtain ⟨hb, hb2⟩ := h.bal
  have hs := F.s01
  have b0 := F.B0
  have b1 := F.BA
  have b2 := F.As
  have hA : 0 ≤ fuA g s ∧ fuA g s ≤ 1000000000000 := by omega
  have hct : amtB ct = true := amtB_of fun j hj => by have := F.tb j hj; omega
  have hbr := (h.br _ (Nat.le_refl _)).1
  refine ⟨F.ctl, F.csl, eaL_len _ _ _ _, paL_len _ _ _ _, q2, q7, fun i hi => ?_, hA, F.r01, ⟨hb2, hR⟩, hbr, h.tsum.2.2.2, by omega, ?_⟩
  · have x1 := amtB_at h.pa i
    have x2 := amtB_at q4 i
    have x3 := amtB_at hct i
    exact ⟨x1.1, x1.2, x2.1, x2.2, x3.1, x3.2, by rw [paL_at hi, eaL_at hi]⟩
  · unfold blB amoB
    rw [F.ctl, paL_len, q2, hct, h.pa, q4]
    have e1 : amtB [fuA g s, cr, awR g s cs ct cr cl] = true := by
      rw [amtB_iff]
      intro z hz
      have := F.r01
      simp at hz
      rcases hz with rfl | rfl | rfl <;> omega
    rw [e1]
    simp only [Bool.and_true, Bool.and_eq_true, decide_eq_true_eq, beq_iff_eq]
    omega
theorem store_game_op {o : Oper} {a : Act} {w : World} {K : Act → World → Prop} {Q : Exit → Act → World → Prop} (x y : Operand) (ho : o.op = .store 25 x y) (b : Nat) (hx : a.eval x = .pointer (some ⟨b, 0, none⟩))
    (C : Array Value) (hb : w.heap[b]? = some (.cells C 25 (0, 0))) (hC : C.size = 22) (g : Gm) (hy : a.eval y = g.val)
    (h : ∀ w', GmAt w' b g → w'.heap.size = w.heap.size → Fr [b] w w' → K (a.put o.dst undef) w') : o.wp Try.prog a w K Q := by
  have hrun := run_storeVar_row (P := Try.prog) w b 25 25 C g.cells.toArray hb infoGame (by rw [hC, Gm.size]) g.one
  unfold Oper.wp execOp
  simp only [ho, hx, hy, Gm.val_eq, Instr.storeAt, Instr.sureAddr, Sem.run_bind, Sem.run_pure, Result.andThen_ok, hrun]
  have hlt : b < w.heap.size := (Array.getElem?_eq_some_iff.1 hb).1
  refine h _ ?_ ?_ ⟨rfl, rfl, rfl, ?_, ?_⟩
  · unfold GmAt; simp [World.setRow, Array.getElem?_modify, hb]
  · simp [World.setRow]
  · simp [World.setRow]
  · intro k _ hk
    have : ¬ b = k := by simp at hk; omega
    simp [World.setRow, Array.getElem?_modify, this]
end Go.Proofs.Ytdinjekpcgndmaa
/-
  LAYER 38: the game of the statements with the given tiers.
-/
set_option linter.unusedVariables false
namespace Go.Proofs.Ytdinjekpcgndmaa
open Go.RowKit
def plTi (T : List Ti) (i : Nat) : Ti := ⟨6 - (i : Int), 0, 0, 0, kd T i, vl T i⟩
def plT (T : List Ti) (k : Nat) : List Ti := (List.range k).map (plTi T)
theorem plT_len (T : List Ti) (k : Nat) : (plT T k).length = k := by simp [plT]
theorem plT_succ (T : List Ti) (k : Nat) : plT T (k + 1) = plT T k ++ [plTi T k] := by simp [plT, List.range_succ]
def pl38 (a : Option Addr) (c : Nat) (sh rs rd : Int) (L : List Ti) : Gm := ⟨⟨#[103]⟩, 1, 100, 6, 40, 0, 0, 0, 5, 8, 1, 600, 0, 0, 30, sh, rs, rd, 0, 0, none, 0, [], a, c, L⟩
theorem pl38_withT (a a' : Option Addr) (c c' : Nat) (sh rs rd : Int) (L L' : List Ti) : withT (pl38 a c sh rs rd L) a' c' L' = pl38 a' c' sh rs rd L' := rfl
theorem pl38_ok {w : World} {a : Option Addr} {c : Nat} {sh rs rd : Int} {L : List Ti} (h1 : W64 sh) (h2 : W64 rs) (h3 : W64 rd) (h : RdF 6 tiF w (.slice a L.length c) L) (hL : ∀ x ∈ L, x.Ok) : (pl38 a c sh rs rd L).Ok w :=
  ⟨(by show 1 ≤ maxLen; unfold maxLen; omega), rfl, rfl, rfl, rfl, rfl, rfl, rfl, rfl, rfl, rfl, rfl, rfl, rfl, rfl, h1, h2, h3, rfl, rfl, ⟨⟨none, 0, rfl, by simp [pl38], by simp, by simp [pl38]⟩, by simp [pl38]⟩, ⟨h, hL⟩⟩
theorem plT_ok {T : List Ti} (hT : ∀ x ∈ T, x.Ok) (k : Nat) (hk : k ≤ 6) : ∀ x ∈ plT T k, x.Ok := by
  intro x hx
  unfold plT at hx
  rw [List.mem_map] at hx
  obtain ⟨i, hi, rfl⟩ := hx
  have hik : i < k := by simpa using hi
  have hd : (default : Ti).Ok := ⟨rfl, rfl, rfl, rfl, rfl, rfl⟩
  have ht : (T.getD i default).Ok := by
    by_cases h : i < T.length
    · have := hT T[i] (List.getElem_mem h)
      simpa [List.getD, h] using this
    · simpa [List.getD, h] using hd
  refine ⟨?_, rfl, rfl, rfl, ht.kind, ht.value⟩
  have : i = 0 ∨ i = 1 ∨ i = 2 ∨ i = 3 ∨ i = 4 ∨ i = 5 := by omega
  rcases this with rfl | rfl | rfl | rfl | rfl | rfl <;> rfl
def Pl38Post (T : List Ti) (sh rs rd : Int) (w : World) (e : Ending) (w' : World) : Prop := ∃ a c, e = .returned (pl38 a c sh rs rd (plT T (min T.length 6))).val ∧ (pl38 a c sh rs rd (plT T (min T.length 6))).Ok w' ∧ Fr [] w w'
theorem OwnS.form' {w : World} {base n c : Nat} {a : Option Addr} {l : List Ti} (h : OwnS w base (.slice a n c) l) : RdF 6 tiF w (.slice a l.length c) l := by
  obtain ⟨a', c', hv, _, _, hr⟩ := h.form
  simp only [Value.slice.injEq] at hv
  obtain ⟨rfl, _, rfl⟩ := hv
  exact hr
set_option maxRecDepth 20000 in
set_option maxHeartbeats 4000000 in
theorem plain38_any (v : Value) (T : List Ti) (sh rs rd : Int) (w : World) (a0 : Option Addr) (c0 : Nat) (hv : v = .slice a0 T.length c0) (hr : RdF 6 tiF w (.slice a0 T.length c0) T) (hT : ∀ x ∈ T, x.Ok) (h1 : W64 sh) (h2 : W64 rs) (h3 : W64 rd) :
    Calls Try.prog 36 #[v, .int .i64 sh, .int .i64 rs, .int .i64 rd] w (Pl38Post T sh rs rd w) := by
  subst hv
  have hlen := hr.len.2
  unfold maxLen at hlen
  have hb : ∀ (w : World), (Instr.build 25 #[(0, .string ⟨#[103]⟩), (1, .int .i64 1), (2, .int .i64 100), (3, .int .i64 6), (4, .int .i64 40), (8, .int .i64 5), (9, .int .i64 8), (10, .int .i64 1), (11, .int .i64 600), (14, .int .i64 30), (15, .int .i64 sh), (16, .int .i64 rs), (17, .int .i64 rd)]).run Try.prog w = .ok (pl38 none 0 sh rs rd []).val w := fun w => by kernel_rfl
  have hpost : ∀ a c w', (pl38 a c sh rs rd (plT T (min T.length 6))).Ok w' → Fr [] w w' → Pl38Post T sh rs rd w (.returned (pl38 a c sh rs rd (plT T (min T.length 6))).val) w' := fun a c w' h k => ⟨a, c, rfl, h, k⟩
  have hok := fun a c (w' : World) (h : RdF 6 tiF w' (.slice a (plT T (min T.length 6)).length c) (plT T (min T.length 6))) => pl38_ok h1 h2 h3 h (plT_ok hT (min T.length 6) (by omega))
  have HPOST := Lib.hid hpost
  have HOK := Lib.hid hok
  have HRD := Lib.hid hr
  obtain ⟨n, hn⟩ : ∃ n, n = T.length := ⟨_, rfl⟩
  rw [← hn] at hlen ⊢
  have HN := Lib.hid hn
  clear hpost hok hr hn hT h1 h2 h3
  go_enter Try.func36, Try.ntmps36
  have hrow : ∀ (w : World), ((w.alloc (.cells zGm36 25)).alloc (.cells zGm36 25)).heap[w.heap.size + 1]? = some (.cells zGm36 25 (0, 0)) := fun w => by
    have := heap_alloc_new (w.alloc (.cells zGm36 25)) (.cells zGm36 25)
    simpa using this
  go_upto_block 0 with (refine store_game rfl (.tmp 9) (.tmp 14) rfl (w.heap.size + 1) rfl _ (hrow _) rfl (pl38 none 0 sh rs rd []) rfl ?_; intro w3 hg3 hz3 hf3)
  obtain ⟨b, hb9⟩ : ∃ b, b = w.heap.size + 1 := ⟨_, rfl⟩
  have hres : w3.heap[w.heap.size]? = some (.cells zGm36 25 (0, 0)) := by
    rw [hf3.block w.heap.size (by simp; omega) (by simp)]
    exact heap_alloc2_old w _ _
  have hF3 : Fr [] w w3 := (((Fr.refl [] w).alloc _).alloc _).trans' hf3 (by intro i hi; simp at hi; right; omega)
  have hz4 : w3.heap.size = w.heap.size + 2 := by rw [hz3]; simp
  rw [← hb9] at hg3 ⊢
  have HB9 := Lib.hid hb9
  have HRES := Lib.hid hres
  have HF3 := Lib.hid hF3
  have HG3 := Lib.hid hg3
  have HZ3 := Lib.hid hz4
  have hbw : w.heap.size < b := by omega
  clear hb hrow hb9 hres hF3 hg3 hz3 hz4 hf3
  obtain ⟨m, hm⟩ : ∃ m, m = min n 6 := ⟨_, rfl⟩
  have hmn : m ≤ n := by omega
  have hm6 : m ≤ 6 := by omega
  have HM := Lib.hid hm
  clear hm
  go_wp2_with fail
  go_loopw [10] (fun i wr => ∃ (k : Nat) (a : Option Addr) (c : Nat), k ≤ m ∧ i = .int .i64 k ∧ GmAt wr b (pl38 a c sh rs rd (plT T k)) ∧ OwnS wr (b + 1) (.slice a (plT T k).length c) (plT T k) ∧ Fr [b] w3 wr) (fun i _ => m - (intOf i).toNat)
  case atStart => exact ⟨0, none, 0, by omega, rfl, HG3.out, OwnS.nil _ _, Fr.refl _ _⟩
  case round =>
    obtain ⟨k, a, c, hk, rfl, hg, ho, hf⟩ := hrel
    by_cases hlt : k < m
    · obtain ⟨t, ht⟩ : ∃ t, T[k]? = some t := ⟨_, List.getElem?_eq_getElem (by have := HN.out; omega)⟩
      obtain ⟨gT, oT, rfl, hct⟩ := RdF.at (f := Ti.cells) HRD.out ht
      have h4 := hct 4 _ rfl
      have h5 := hct 5 _ rfl
      have hgw : gT < w.heap.size := lt_of_cell h4
      have hFw : Fr [] w wr := HF3.out.trans' hf (by intro i hi; simp at hi; right; omega)
      have c4 := hFw.cell_some h4 (by simp)
      have c5 := hFw.cell_some h5 (by simp)
      obtain ⟨hkd, hvl⟩ := kd_of ht
      obtain ⟨tm, tb, te, to_, tk, tv⟩ := t
      simp only at c4 c5 hkd hvl
      have hsu := plT_succ T k
      have hpt : plTi T k = ⟨6 - (k : Int), 0, 0, 0, tk, tv⟩ := by unfold plTi; rw [hkd, hvl]
      rw [hpt] at hsu
      have hl := plT_len T k
      rw [hl] at ho
      have c21 := hg.cell 21 _ rfl
      simp only [pl38] at c21
      rw [hl] at c21
      have hkn : (k : Int) < (n : Int) := by omega
      have hk6 : (k : Int) < 6 := by omega
      have hk6' : k < 6 := by omega
      have hkn' : k < n := by omega
      have hw0 : IntKind.i64.wrap (6 - (k : Int)) = 6 - (k : Int) := IntWalk.i64_in _ (by omega)
      have hob : ∀ q ∈ (Value.slice a k c).ownBlock.toList, b + 1 ≤ q := fun q hq => (ho.block q (by simpa using hq)).1
      have nb : gT ∉ b :: (Value.slice a k c).ownBlock.toList := fun hmm => by
        rcases List.mem_cons.1 hmm with h | h
        · omega
        · have := hob _ h; omega
      have hszr : b + 1 ≤ wr.heap.size := by have := hf.size; have := HZ3.out; have := HB9.out; omega
      have HSU := Lib.hid hsu
      have HG := Lib.hid hg
      have HO := Lib.hid ho
      have HF := Lib.hid hf
      have HOB := Lib.hid hob
      have HL := Lib.hid hl
      clear hct h4 h5 ht hkd hvl hsu hpt hl hg ho hf hFw hob
      go_wp2_with fail
      refine wp_region_held_drew (S := (fun w' => Fr (b :: (Value.slice a k c).ownBlock.toList) wr w')) (by kernel_rfl) (Fr.refl _ wr).drew (fun hHeld => ?_)
      refine wpAnyH_take (i := 0) (oi := ⟨some 25, _, _, _, _, _⟩) (v := .pointer (some ⟨b, 21, none⟩)) rfl (by kernel_rfl) (by kernel_rfl) (by kernel_rfl) (fun _ _ _ h => h) (Or.inl ⟨by rfl, ?_⟩) hHeld ?_
      · intro w hSw; (try dsimp only at hSw); go_simp
      (try simp only [Act.put, List.setIfInBounds_toArray, List.set_cons_zero, List.set_cons_succ])
      refine wpAnyH_take (i := 2) (oi := ⟨some 27, _, _, _, _, _⟩) (v := .int .i64 k) rfl (by kernel_rfl) (by kernel_rfl) (by kernel_rfl) (fun _ _ _ h => h) (Or.inl ⟨by rfl, ?_⟩) hHeld ?_
      · intro w hSw; (try dsimp only at hSw); go_simp
      (try simp only [Act.put, List.setIfInBounds_toArray, List.set_cons_zero, List.set_cons_succ])
      refine wpAnyH_take (i := 3) (oi := ⟨some 28, _, _, _, _, _⟩) (v := .int .i64 (6 - k)) rfl (by kernel_rfl) (by kernel_rfl) (by kernel_rfl) (fun _ _ _ h => h) (Or.inl ⟨by rfl, ?_⟩) hHeld ?_
      · intro w hSw; (try dsimp only at hSw); go_simp
      (try simp only [Act.put, List.setIfInBounds_toArray, List.set_cons_zero, List.set_cons_succ])
      refine wpAnyH_take (i := 4) (oi := ⟨some 29, _, _, _, _, _⟩) (v := .slice (some ⟨gT, oT, none⟩) n c0) rfl (by kernel_rfl) (by kernel_rfl) (by kernel_rfl) (fun _ _ _ h => h) (Or.inl ⟨by rfl, ?_⟩) hHeld ?_
      · intro w hSw; (try dsimp only at hSw); go_simp
      (try simp only [Act.put, List.setIfInBounds_toArray, List.set_cons_zero, List.set_cons_succ])
      refine wpAnyH_take (i := 5) (oi := ⟨some 30, _, _, _, _, _⟩) (v := .int .i64 k) rfl (by kernel_rfl) (by kernel_rfl) (by kernel_rfl) (fun _ _ _ h => h) (Or.inl ⟨by rfl, ?_⟩) hHeld ?_
      · intro w hSw; (try dsimp only at hSw); go_simp
      (try simp only [Act.put, List.setIfInBounds_toArray, List.set_cons_zero, List.set_cons_succ])
      refine wpAnyH_take (i := 6) (oi := ⟨some 31, _, _, _, _, _⟩) (v := .pointer (some ⟨gT, oT + k * 6, none⟩)) rfl (by kernel_rfl) (by kernel_rfl) (by kernel_rfl) (fun _ _ _ h => h) (Or.inl ⟨by rfl, ?_⟩) hHeld ?_
      · intro w hSw; (try dsimp only at hSw); go_simp
      (try simp only [Act.put, List.setIfInBounds_toArray, List.set_cons_zero, List.set_cons_succ])
      refine wpAnyH_take (i := 7) (oi := ⟨some 32, _, _, _, _, _⟩) (v := .pointer (some ⟨gT, oT + k * 6 + 4, none⟩)) rfl (by kernel_rfl) (by kernel_rfl) (by kernel_rfl) (fun _ _ _ h => h) (Or.inl ⟨by rfl, ?_⟩) hHeld ?_
      · intro w hSw; (try dsimp only at hSw); go_simp
      (try simp only [Act.put, List.setIfInBounds_toArray, List.set_cons_zero, List.set_cons_succ])
      refine wpAnyH_take (i := 8) (oi := ⟨some 33, _, _, _, _, _⟩) (v := .int .i64 tk) rfl (by kernel_rfl) (by kernel_rfl) (by kernel_rfl) (fun _ _ _ h => h) (Or.inl ⟨by rfl, ?_⟩) hHeld ?_
      · intro w hSw; (try dsimp only at hSw); have hcF := hSw.cell_some c4 nb; clear hSw; go_simp
      (try simp only [Act.put, List.setIfInBounds_toArray, List.set_cons_zero, List.set_cons_succ])
      refine wpAnyH_take (i := 9) (oi := ⟨some 34, _, _, _, _, _⟩) (v := .slice (some ⟨gT, oT, none⟩) n c0) rfl (by kernel_rfl) (by kernel_rfl) (by kernel_rfl) (fun _ _ _ h => h) (Or.inl ⟨by rfl, ?_⟩) hHeld ?_
      · intro w hSw; (try dsimp only at hSw); go_simp
      (try simp only [Act.put, List.setIfInBounds_toArray, List.set_cons_zero, List.set_cons_succ])
      refine wpAnyH_take (i := 10) (oi := ⟨some 35, _, _, _, _, _⟩) (v := .int .i64 k) rfl (by kernel_rfl) (by kernel_rfl) (by kernel_rfl) (fun _ _ _ h => h) (Or.inl ⟨by rfl, ?_⟩) hHeld ?_
      · intro w hSw; (try dsimp only at hSw); go_simp
      (try simp only [Act.put, List.setIfInBounds_toArray, List.set_cons_zero, List.set_cons_succ])
      refine wpAnyH_take (i := 11) (oi := ⟨some 36, _, _, _, _, _⟩) (v := .pointer (some ⟨gT, oT + k * 6, none⟩)) rfl (by kernel_rfl) (by kernel_rfl) (by kernel_rfl) (fun _ _ _ h => h) (Or.inl ⟨by rfl, ?_⟩) hHeld ?_
      · intro w hSw; (try dsimp only at hSw); go_simp
      (try simp only [Act.put, List.setIfInBounds_toArray, List.set_cons_zero, List.set_cons_succ])
      refine wpAnyH_take (i := 12) (oi := ⟨some 37, _, _, _, _, _⟩) (v := .pointer (some ⟨gT, oT + k * 6 + 5, none⟩)) rfl (by kernel_rfl) (by kernel_rfl) (by kernel_rfl) (fun _ _ _ h => h) (Or.inl ⟨by rfl, ?_⟩) hHeld ?_
      · intro w hSw; (try dsimp only at hSw); go_simp
      (try simp only [Act.put, List.setIfInBounds_toArray, List.set_cons_zero, List.set_cons_succ])
      refine wpAnyH_take (i := 13) (oi := ⟨some 38, _, _, _, _, _⟩) (v := .int .i64 tv) rfl (by kernel_rfl) (by kernel_rfl) (by kernel_rfl) (fun _ _ _ h => h) (Or.inl ⟨by rfl, ?_⟩) hHeld ?_
      · intro w hSw; (try dsimp only at hSw); have hcF := hSw.cell_some c5 nb; clear hSw; go_simp
      (try simp only [Act.put, List.setIfInBounds_toArray, List.set_cons_zero, List.set_cons_succ])
      refine wpAnyH_take (i := 14) (oi := ⟨some 39, _, _, _, _, _⟩) (v := .agg #[.int .i64 (6 - k), .int .i64 0, .int .i64 0, .int .i64 0, .int .i64 tk, .int .i64 tv]) rfl (by kernel_rfl) (by kernel_rfl) (by kernel_rfl) (fun _ _ _ h => h) (Or.inl ⟨by rfl, ?_⟩) hHeld ?_
      · intro w hSw; (try dsimp only at hSw); go_simp
      (try simp only [Act.put, List.setIfInBounds_toArray, List.set_cons_zero, List.set_cons_succ])
      have e5 : Fr [] wr (wr.alloc (.cells #[.int .i64 (6 - (k : Int)), .int .i64 0, .int .i64 0, .int .i64 0, .int .i64 tk, .int .i64 tv] 40)).drew := ((Fr.refl [] wr).alloc _).drew
      have c21e := e5.cell_some c21 (by simp)
      refine wpAnyH_ready (rs := [1, 15]) (by kernel_rfl) (by simp) ?_
      refine AllReadyH.cons (o := ⟨some 26, _, _, _, _, _⟩) rfl (fun K hK => ?_) (AllReadyH.cons (o := ⟨some 40, _, _, _, _, _⟩) rfl (fun K hK => ?_) AllReadyH.nil)
      all_goals rw [if_pos (by rfl)]
      all_goals go_simp
      refine hK.out _ _ (hHeld) (fun hHeld' => ?_)
      clear hK K hHeld
      have hHeld := hHeld'
      clear hHeld'
      (try simp only [Act.put, List.setIfInBounds_toArray, List.set_cons_zero, List.set_cons_succ])
      refine wpAnyH_ready (rs := [15]) (by kernel_rfl) (by simp) ?_
      refine AllReadyH.cons (o := ⟨some 40, _, _, _, _, _⟩) rfl (fun K hK => ?_) AllReadyH.nil
      rw [if_pos (by rfl)]
      go_simp
      refine hK.out _ _ (e5.mono (by simp)) (fun hHeld' => ?_)
      clear hK K hHeld
      have hHeld := hHeld'
      clear hHeld'
      (try simp only [Act.put, List.setIfInBounds_toArray, List.set_cons_zero, List.set_cons_succ])
      rotate_left
      refine hK.out _ _ (e5.mono (by simp)) (fun hHeld' => ?_)
      clear hK K hHeld
      have hHeld := hHeld'
      clear hHeld'
      (try simp only [Act.put, List.setIfInBounds_toArray, List.set_cons_zero, List.set_cons_succ])
      refine wpAnyH_ready (rs := [1]) (by kernel_rfl) (by simp) ?_
      refine AllReadyH.cons (o := ⟨some 26, _, _, _, _, _⟩) rfl (fun K hK => ?_) AllReadyH.nil
      rw [if_pos (by rfl)]
      go_simp
      refine hK.out _ _ (hHeld) (fun hHeld' => ?_)
      clear hK K hHeld
      have hHeld := hHeld'
      clear hHeld'
      (try simp only [Act.put, List.setIfInBounds_toArray, List.set_cons_zero, List.set_cons_succ])
      all_goals
        clear c4 c5 c21 c21e
        refine wpAnyH_ready (rs := [16]) (by kernel_rfl) (by simp) ?_
        refine AllReadyH.cons (o := ⟨some 41, _, _, _, _, _⟩) rfl (fun K hK => ?_) AllReadyH.nil
        rw [if_pos (by rfl)]
        refine app_tS wr.drew wr.heap.size rfl ⟨6 - (k : Int), 0, 0, 0, tk, tv⟩ (.tmp 26) (.tmp 40) rfl (b + 1) (.slice a k c) (plT T k) rfl ((HO.out : OwnS wr (b + 1) (.slice a k c) (plT T k)).fr (Fr.refl [] _).drew (by simp)) rfl (by rw [HL.out]; omega) hszr ?_
        intro v' w6 ho6 hfn hv6
        obtain ⟨g6, c6, rfl⟩ := hv6
        rw [HL.out] at ho6 ⊢
        have hf6 : Fr [b] w3 w6 := hfn [b] w3 (fun q hq => .inr (by have := HOB.out q (by simpa using hq); have := HZ3.out; have := HB9.out; omega)) HF.out.drew
        have hfo : Fr (Value.slice a k c).ownBlock.toList wr w6 := hfn _ wr (fun q hq => .inl (by simpa using hq)) (Fr.refl _ _).drew
        have hg6 := HG.out.fr hfo (fun hm => by have := HOB.out b hm; omega)
        refine hK.out _ _ (hfo.mono (fun i hi => List.mem_cons_of_mem _ hi)) (fun hHeld' => ?_)
        clear hK K hHeld
        have hHeld := hHeld'
        clear hHeld'
        (try simp only [Act.put, List.setIfInBounds_toArray, List.set_cons_zero, List.set_cons_succ])
        have d21 := hg6.cell 21 _ rfl
        have z21 := gm_frozen hg6 21
        have hset := gm_set_tiers hg6 (some ⟨g6, 0, none⟩) c6 (plT T (k + 1))
        rw [pl38_withT, plT_len] at hset
        simp only [pl38] at d21
        rw [HL.out] at d21
        have hfs : Fr [b] w3 (w6.setCell ⟨b, 21, none⟩ (.slice (some ⟨g6, 0, none⟩) (k + 1) c6)) := hf6.setCell (.inl (by simp)) _
        have hos : OwnS (w6.setCell ⟨b, 21, none⟩ (.slice (some ⟨g6, 0, none⟩) (k + 1) c6)) (b + 1) (.slice (some ⟨g6, 0, none⟩) (k + 1) c6) (plT T (k + 1)) := by
          rw [HSU.out]
          exact ho6.fr ((Fr.refl [b] w6).setCell (.inl (by simp)) _) (fun q hq => by have := (ho6.block q hq).1; simp; omega)
        have HSET := Lib.hid hset
        have HFS := Lib.hid hfs
        have HOS := Lib.hid hos
        clear hset hfs hos ho6 hfn hf6 hfo hg6 e5
        refine wpAnyH_take (i := 17) (oi := ⟨some 42, _, _, _, _, _⟩) (v := .pointer (some ⟨b, 21, none⟩)) rfl (by kernel_rfl) (by kernel_rfl) (by kernel_rfl) (fun _ _ _ h => h) (Or.inl ⟨by rfl, ?_⟩) hHeld ?_
        · intro w hSw; (try dsimp only at hSw); go_simp
        (try simp only [Act.put, List.setIfInBounds_toArray, List.set_cons_zero, List.set_cons_succ])
        refine wpAnyH_ready (rs := [18]) (by kernel_rfl) (by simp) ?_
        refine AllReadyH.cons (o := ⟨none, _, _, _, _, _⟩) rfl (fun K hK => ?_) AllReadyH.nil
        rw [if_pos (by rfl)]
        go_simp
        refine hK.out _ _ (hHeld.setCell (.inl (by simp)) _) (fun hHeld' => ?_)
        clear hK K hHeld
        have hHeld := hHeld'
        clear hHeld'
        (try simp only [Act.put, List.setIfInBounds_toArray, List.set_cons_zero, List.set_cons_succ])
        refine wpAnyH_done (by kernel_rfl) ?_ _
        clear hHeld d21 z21
        go_wp2_with fail
        go_roundw
        case rel => exact ⟨k + 1, some ⟨g6, 0, none⟩, c6, by omega, by go_num, HSET.out, by rw [plT_len]; exact HOS.out, HFS.out⟩
        case measure => simp [intOf]; omega
    · obtain rfl : k = m := by omega
      have hm := HM.out
      have hfin := HPOST.out
      have hok := HOK.out
      rw [← HN.out, ← hm] at hfin hok
      obtain ⟨aS, cS, hvS, _, _, hrS⟩ := ho.form
      have hF := HF3.out.trans' hf (by intro i hi; simp at hi; right; omega)
      have hrow := HRES.out
      have hrow2 : wr.heap[w.heap.size]? = some (.cells zGm36 25 (0, 0)) := by rw [hf.block w.heap.size (by have := HZ3.out; omega) (by simp; omega)]; exact hrow
      simp only [Value.slice.injEq] at hvS
      obtain ⟨rfl, _, rfl⟩ := hvS
      have hfin2 := fun w' h => hfin a c w' (hok a c w' h)
      have HFIN := Lib.hid hfin2
      have HRS := Lib.hid hrS
      have HFF := Lib.hid hF
      have HOO := Lib.hid ho
      have HBW := Lib.hid hbw
      clear hfin hok hrS hF hrow hf ho hfin2 hm
      have hend : ∀ w5, GmAt w5 w.heap.size (pl38 a c sh rs rd (plT T k)) → Fr [w.heap.size] wr w5 → RdF 6 tiF w5 (.slice a (plT T k).length c) (plT T k) ∧ Fr [] w w5 := fun w5 _ h => ⟨(HOO.out.fr h (fun q hq => by have := (HOO.out.block q hq).1; simp; omega)).form' , HFF.out.trans' h (by intro i hi; simp at hi; right; omega)⟩
      have HEND := Lib.hid hend
      clear hend
      by_cases h6 : k < n
      · have hk6 : ¬ k < 6 := by have := HM.out; omega
        have e0 : decide (k < n) = true := by simpa using h6
        have e1 : decide ((k : Int) < (n : Int)) = true := by simp; omega
        have e2 : decide ((k : Int) < 6) = false := by simp; omega
        have e3 : decide (k < 6) = false := by simp; omega
        clear hk6 h6
        go_wp2_with (first | (refine load_game rfl (.tmp 9) rfl b rfl _ hg ?_) | (refine store_game rfl (.tmp 8) (.tmp 43) rfl w.heap.size rfl _ hrow2 rfl (pl38 a c sh rs rd (plT T k)) rfl ?_; intro w5 hg5 hz5 hf5))
        obtain ⟨q1, q2⟩ := HEND.out w5 hg5 hf5
        exact bodyPost_ret (v := (pl38 a c sh rs rd (plT T k)).val) (by rw [Gm.val_eq]; exact results_cell_row rfl _ _ w.heap.size 25 _ (0, 0) _ rfl hg5 Try.underlying25 rfl infoGame) rfl (HFIN.out _ q1 q2)
      · have e0 : decide (k < n) = false := by simpa using h6
        have e1 : decide ((k : Int) < (n : Int)) = false := by simp; omega
        clear h6
        go_wp2_with (first | (refine load_game rfl (.tmp 9) rfl b rfl _ hg ?_) | (refine store_game rfl (.tmp 8) (.tmp 43) rfl w.heap.size rfl _ hrow2 rfl (pl38 a c sh rs rd (plT T k)) rfl ?_; intro w5 hg5 hz5 hf5))
        obtain ⟨q1, q2⟩ := HEND.out w5 hg5 hf5
        exact bodyPost_ret (v := (pl38 a c sh rs rd (plT T k)).val) (by rw [Gm.val_eq]; exact results_cell_row rfl _ _ w.heap.size 25 _ (0, 0) _ rfl hg5 Try.underlying25 rfl infoGame) rfl (HFIN.out _ q1 q2)
end Go.Proofs.Ytdinjekpcgndmaa
/-
  LAYER 38: Award.
-/
set_option linter.unusedVariables false
namespace Go.Proofs.Ytdinjekpcgndmaa
open Go.RowKit
theorem AwF.dr {g : Gm} {s : Int} {cs ct : List Int} {cr cl : Int} (h : AwF g s cs ct cr cl) : max 0 (sumK g.tiers true (awT g s cs ct cr) (awT g s cs ct cr).length - (fuA g s - fuA g s * g.reserve / 10000)) = awD g s cs cr ∧
    (0 ≤ g.reserve ∧ g.reserve ≤ 10000) ∧ (0 ≤ fuA g s ∧ fuA g s ≤ 1000000000000) ∧ (0 ≤ alR g s cs cr ∧ alR g s cs cr ≤ 2000000000000) ∧ (0 ≤ awD g s cs cr ∧ awD g s cs cr ≤ 2000000000000) := by
  have F := h.al
  have hi := inR_yes F.s01.1 F.s01.2
  have ea : fuA g s = s * g.pool / 10000 := by unfold fuA; rw [if_pos ⟨F.ch, hi⟩]
  have eb : fuB g s = fuA g s * g.reserve / 10000 := by rw [ea]; unfold fuB; rw [if_pos ⟨F.ch, hi⟩]
  have hf := fu_facts F.ch
  obtain ⟨_, a2, a3, a4⟩ := h.tsum
  have hR := F.R01
  have hl : (awT g s cs ct cr).length = g.tiers.length := tlL_len _ _ _ _ _ _
  have hfx := F.fix
  have b0 := F.B0
  have b1 := F.BA
  have b2 := F.As
  have b3 := F.s01
  have r0 := F.r01
  refine ⟨?_, ⟨hf.2.2.1, hf.2.2.2⟩, by omega, ⟨by omega, ?_⟩, by omega⟩
  · rw [← eb, hl]
    unfold awT awD
    rw [hfx]
  · unfold alR; split <;> omega
theorem Fr.rangeQ {bs : List Nat} {w w' : World} (h : Fr bs w w') {b o : Nat} {cs : List Value} (hr : w.rangeAt b o cs) (hn : b ∉ bs) : w'.rangeAt b o cs := fun j v hv => h.cell_some (hr j v hv) hn
theorem RowAt.range {x : World} {b : Nat} {T : TypeId} {l : List Value} (h : RowAt x b T l) : x.rangeAt b 0 l := fun j v hv => by rw [Nat.zero_add]; exact h.cell j v hv
theorem infoPools : (Try.prog.info? 45).map (·.size) = some 4 := by kernel_rfl
theorem infoAward : (Try.prog.info? 60).map (·.size) = some 8 := by kernel_rfl
attribute [local go_sem ↓] Go.wp_at_zero Go.wp_at_succ
set_option maxRecDepth 100000 in
set_option maxHeartbeats 8000000 in
theorem award_any (g : Gm) (s : Int) (v2 vt : Value) (cs ct : List Int) (cr cl : Int) (w : World) (hok : g.Ok w) (h2 : RdI w v2 cs) (h3 : RdI w vt ct) :
    Calls Try.prog 38 #[g.val, .int .i64 s, v2, .agg #[vt, .int .i64 cr, .int .i64 cl]] w (AwPost g s cs ct cr cl w) := by
  have hAL := fun w' (h : Fr [] w w') => alloc_any g s v2 vt cs ct cr cl w' (hok.fr h) (h2.below h) (h3.below h)
  unfold AlPost at hAL
  have hER := fun E (h : awE g s cs ct cr cl = E) h0 => @aw_err g s cs ct cr cl w E h h0
  have hE1 := @awE_1 g s cs ct cr cl
  have H2 := Lib.hid h2
  obtain ⟨a2, c2, rfl, l2, m2, r2⟩ := h2
  obtain ⟨a3, c3, rfl, l3, m3, r3⟩ := h3
  have HAL := Lib.hid hAL
  have HER := Lib.hid hER
  clear hAL hER
  by_cases hE : alE g s cs ct cr cl = 0
  · have F := alE_facts hE
    have eL : alL g s cs ct cr cl = awT g s cs ct cr := by unfold alL; rw [if_pos hE]; rfl
    have eV : ∀ v, alV g s cs ct cr cl v = .agg #[.int .i64 s, .int .i64 (fuA g s), .int .i64 (alR g s cs cr), v] := fun v => by unfold alV; rw [if_pos hE]
    have hCP := fun v w' (h : Fr [] w w') (hr : RdI w' v (awT g s cs ct cr)) => cap_any g v (awT g s cs ct cr) w' (hok.fr h) hr
    have hFL := fun v w' (h : Fr [] w w') (hr : RdI w' v (capL g (awT g s cs ct cr))) => flow_any g v (.slice a2 cs.length c2) (capL g (awT g s cs ct cr)) cs cl w' (hok.fr h) hr (H2.out.below h)
    unfold CapPost at hCP
    unfold FlPost at hFL
    have hgl := game_len F.ch
    have hTL := tlL_len g.tiers cs ct (fuA g s) (fuB g s) cr
    have HCP := Lib.hid hCP
    have HFL := Lib.hid hFL
    have HEV := Lib.hid eV
    have HELL := Lib.hid eL
    have HE := Lib.hid hE
    have HF := Lib.hid F
    have HOK := Lib.hid hok
    have HGL := Lib.hid hgl
    have HTLn := Lib.hid hTL
    clear hCP hFL eV eL hE F hok hE1 hgl hTL
    go_enter Try.func38, Try.ntmps38
    go_upto_region 1 with (refine box_game rfl (.tmp 0) rfl g rfl ?_; intro w1 hg1 hz1 hf1)
    have hM := awM_start (vt := .slice a3 ct.length c3) (cr := cr) (cl := cl) hg1 hz1 hf1
    simp only [Nat.add_assoc, Nat.reduceAdd]
    generalize World.alloc _ _ = x at hM ⊢
    clear hg1 hz1 hf1
    have hg := hM.hg
    have k0 := hM.c.cell 0 _ rfl
    have k1 := hM.c.cell 1 _ rfl
    have k2 := hM.c.cell 2 _ rfl
    go_wp2_with (refine load_game rfl (.tmp 4) rfl _ rfl g hg ?_)
    have HX0 := Lib.hid hM.size
    refine (HAL.out _ hM.fr).mono ?_
    rintro e x2 ⟨vT, rfl, oT, f2⟩
    rw [HELL.out] at oT
    rw [HEV.out, HE.out]
    obtain ⟨aT, cT, rfl, hcT1, hcT2⟩ := oT.any
    have hnT : (awT g s cs ct cr).length = g.tiers.length := HTLn.out
    have hM2 := hM.go f2 (by simp)
    rw [hnT] at hcT1 ⊢
    rw [hnT] at oT
    clear k0 k1 k2 hg hM HAL HELL HEV
    go_upto_region 2 with (fail)
    have hrp : RowAt (x2.alloc (.cells #[.int .i64 s, .int .i64 (fuA g s), .int .i64 (alR g s cs cr), .slice aT g.tiers.length cT] 45)) x2.heap.size 45 [.int .i64 s, .int .i64 (fuA g s), .int .i64 (alR g s cs cr), .slice aT g.tiers.length cT] := RowAt.new rfl rfl
    have e3 : Fr [] x2 (x2.alloc (.cells #[.int .i64 s, .int .i64 (fuA g s), .int .i64 (alR g s cs cr), .slice aT g.tiers.length cT] 45)) := (Fr.refl [] x2).alloc _
    have hM3 := hM2.go e3 (by simp)
    have oT3 := (oT.fr e3 (by simp)).mono HX0.out
    have hpz := hM2.size
    have hpl := hrp.lt
    generalize x2.alloc (.cells #[.int .i64 s, .int .i64 (fuA g s), .int .i64 (alR g s cs cr), .slice aT g.tiers.length cT] 45) = x3 at *
    generalize x2.heap.size = bP at *
    clear hM2 oT e3 f2 HX0
    have hg3 := hM3.hg
    have p3 := hrp.cell 3 _ rfl
    go_wp2_with (refine load_game rfl (.tmp 4) rfl _ rfl g hg3 ?_)
    refine (HCP.out _ _ hM3.fr oT3.rd).mono ?_
    rintro e x4 ⟨vK, rfl, oK, f4⟩
    have hM4 := hM3.go f4 (by simp)
    have hrp4 := hrp.fr f4 (by simp)
    have oT4 := oT3.fr f4 (by simp)
    have hs4 := f4.size
    clear hM3 hrp oT3 hg3 p3 f4 HCP
    by_cases hcp : capE g (awT g s cs ct cr) = 0
    · have HCPE := Lib.hid hcp
      rw [hcp]
      clear hcp
      have hg4 := hM4.hg
      have k2 := hM4.c.cell 2 _ rfl
      go_wp2_with (refine load_game rfl (.tmp 4) rfl _ rfl g hg4 ?_)
      refine (HFL.out _ _ hM4.fr oK.rd).mono ?_
      rintro e x5 ⟨vF, vN, rfl, oF, oN, f5⟩
      have hM5 := hM4.go f5 (by simp)
      have hrp5 := hrp4.fr f5 (by simp)
      have oT5 := oT4.fr f5 (by simp)
      have hs5 := f5.size
      have oF5 := oF.mono hM4.size
      have oN5 := oN.mono hM4.size
      clear hM4 hrp4 oT4 hg4 k2 f5 oK oF oN HFL
      by_cases hfl : flE g (capL g (awT g s cs ct cr)) cs cl = 0
      · have HA : AwF g s cs ct cr cl := awF_mk HE.out HCPE.out hfl
        have h4 := awE_4 HE.out HCPE.out hfl
        have h5 := awE_5 HE.out HCPE.out hfl
        rw [hfl]
        have HAF := Lib.hid HA
        have H4 := Lib.hid h4
        have H5 := Lib.hid h5
        have hCL := clone_any (.slice a2 cs.length c2) cs x5 (H2.out.below hM5.fr) (by have := HA.al.csl; have := HGL.out; omega) (by have := HA.al.csl; have := HGL.out; omega)
        have HCL := Lib.hid hCL
        obtain ⟨lF, lN, aF, aN, _⟩ := HA.len
        clear HA h4 h5 hfl hCL
        go_wp2_with fail
        refine HCL.out.mono ?_
        rintro e x6 ⟨vC, rfl, oC, f6⟩
        have hM6 := hM5.go f6 (by simp)
        have hrp6 := hrp5.fr f6 (by simp)
        have oT6 := oT5.fr f6 (by simp)
        have oF6 := oF5.fr f6 (by simp)
        have oN6 := oN5.fr f6 (by simp)
        have oC6 := oC.mono hM5.size
        have hs6 := f6.size
        clear hM5 hrp5 oT5 oF5 oN5 oC f6 HCL
        obtain ⟨gF, cF, rfl, hgF, hgF2, hcF1, hcF2⟩ := oF6.form (by rw [show (flP g (capL g (awT g s cs ct cr)) cs cl).length = g.tiers.length from lF]; have := HGL.out; omega)
        rw [show (flP g (capL g (awT g s cs ct cr)) cs cl).length = g.tiers.length from lF] at hcF1 oF6 ⊢
        obtain ⟨aC, cC, rfl, hcC1, hcC2⟩ := oC6.any
        obtain ⟨aN', cN, rfl, hcN1, hcN2⟩ := oN6.any
        rw [show (flC g (capL g (awT g s cs ct cr)) cs cl).length = g.tiers.length from lN] at hcN1 oN6 ⊢
        have hcsl : cs.length = g.tiers.length := HAF.out.al.csl
        rw [hcsl] at oC6 hcC1 r2 l2 ⊢
        go_upto_region 11 with (fail)
        have hW7 : AwW (x6.alloc (.cells #[.slice aC g.tiers.length cC, .slice none 0 0, .slice none 0 0, .int .i64 0, .int .i64 0, .slice none 0 0, .int .i64 0, .int .i64 0] 60)) x6.heap.size (x6.heap.size + 1) (.slice aC g.tiers.length cC) (.slice none 0 0) (.slice none 0 0) 0 [] [] (x6.alloc (.cells #[.slice aC g.tiers.length cC, .slice none 0 0, .slice none 0 0, .int .i64 0, .int .i64 0, .slice none 0 0, .int .i64 0, .int .i64 0] 60)) :=
          ⟨Fr.refl _ _, RowAt.new rfl rfl, OwnI.nil _ _ _, OwnI.nil _ _ _, fun b h => by simp [Value.ownBlock] at h⟩
        have f7 : Fr [] x6 (x6.alloc (.cells #[.slice aC g.tiers.length cC, .slice none 0 0, .slice none 0 0, .int .i64 0, .int .i64 0, .slice none 0 0, .int .i64 0, .int .i64 0] 60)) := (Fr.refl [] x6).alloc _
        have hb7 : x6.heap.size + 1 = (x6.alloc (.cells #[.slice aC g.tiers.length cC, .slice none 0 0, .slice none 0 0, .int .i64 0, .int .i64 0, .slice none 0 0, .int .i64 0, .int .i64 0] 60)).heap.size := by simp
        generalize x6.alloc (.cells #[.slice aC g.tiers.length cC, .slice none 0 0, .slice none 0 0, .int .i64 0, .int .i64 0, .slice none 0 0, .int .i64 0, .int .i64 0] 60) = x7 at *
        obtain ⟨q, hq⟩ : ∃ q, q = x6.heap.size := ⟨_, rfl⟩
        have hMs := hM6.size
        rw [← hq] at hW7 hb7 hgF2 hs6 hMs ⊢
        have HQ := Lib.hid hq
        have HB7 := Lib.hid hb7
        have HM6 := Lib.hid hM6
        have HRP6 := Lib.hid hrp6
        have HOT6 := Lib.hid oT6
        have HOF6 := Lib.hid oF6
        have HON6 := Lib.hid oN6
        have HOC6 := Lib.hid oC6
        have HF7 := Lib.hid f7
        have HW7 := Lib.hid hW7
        have HR2 := Lib.hid r2
        have HLF := Lib.hid lF
        have HLN := Lib.hid lN
        have HCSL := Lib.hid hcsl
        have hbPq : bP < q := by omega
        have hwq : w.heap.size + 4 ≤ q := hMs
        obtain ⟨n, hn⟩ : ∃ n, n = g.tiers.length := ⟨_, rfl⟩
        rw [← hn] at l2 hcF1 hcC1 hcN1 hcT1 ⊢
        have HN := Lib.hid hn
        have hgr : ∀ w b, GmAt w b g → w.rangeAt b 0 g.cells := fun w b h j v hv => by rw [Nat.zero_add]; exact h.cell j v hv
        have hTI := fun (k : Nat) (hk : k < g.tiers.length) w' (h : Fr [] w w') => ptier_any g ((awF g s cs ct cr cl).getD k 0) (cs.getD k 0) k w' (HOK.out.fr h) hk (HAF.out.len.2.2.2.2.2.2) (amtB_at HAF.out.len.2.2.1 k).1 (amtB_at HAF.out.len.2.2.1 k).2 (HAF.out.al.cb k (by omega)).1 (HAF.out.al.cb k (by omega)).2 (vl_bd HAF.out.al.ch k hk) HAF.out.round
        simp only [show g.val = .agg g.cells.toArray from rfl] at hTI
        obtain ⟨cs0, hcs0⟩ : ∃ c, c = g.cells := ⟨_, rfl⟩
        have hcl0 : cs0.length = 22 := by rw [hcs0]; rfl
        rw [← hcs0] at hTI hgr
        have HTIA := Lib.hid hTI
        have HGR := Lib.hid hgr
        have HCL0 := Lib.hid hcl0
        have hnb := HGL.out
        rw [← hn] at hnb
        clear hq hb7 hM6 hrp6 oT6 oF6 oN6 oC6 f7 hW7 r2 lF lN hcsl hn hgr hTI hcs0 hcl0 hs4 hs5 hs6 hMs
        go_wp2_with fail
        go_loopw [70] (fun i wr => ∃ (k : Nat) (vE vP : Value), k ≤ n ∧ i = .int .i64 k ∧ AwW x7 q (q + 1) (.slice aC n cC) vE vP (brS g (awF g s cs ct cr cl) cs k) (eaL g (awF g s cs ct cr cl) cs k) (paL g (awF g s cs ct cr cl) cs k) wr) (fun i _ => n - (intOf i).toNat)
        case atStart => exact ⟨0, _, _, by omega, rfl, by rw [HN.out]; exact HW7.out⟩
        case round =>
          obtain ⟨k, vE, vP, hk, rfl, hW⟩ := hrel
          have hFq : Fr [q] x6 wr := (HF7.out.mono (by simp)).trans hW.fr
          have hM := HM6.out.go hFq (by simp; omega)
          by_cases hlt : k < n
          · obtain ⟨gs, os, rfl, hcs⟩ := HR2.out k (by have := HCSL.out; have := HN.out; omega)
            have hgs := lt_of_cell hcs
            have hgs' : gs < w.heap.size := hgs
            have cc := hM.fr.cell_some hcs (by simp)
            have oF := HOF6.out.fr hFq (fun b hb => by have := (HOF6.out.block b hb).2; have := HQ.out; simp; omega)
            have cf := oF.cell k (by rw [show (flP g (capL g (awT g s cs ct cr)) cs cl).length = g.tiers.length from HLF.out]; have := HN.out; omega)
            have hTI := HTIA.out k (by have := HN.out; omega)
            have hsE := eaL_succ g (awF g s cs ct cr cl) cs k
            have hsP := paL_succ g (awF g s cs ct cr cl) cs k
            have hsB : brS g (awF g s cs ct cr cl) cs (k + 1) = brS g (awF g s cs ct cr cl) cs k + lfI g (awF g s cs ct cr cl) cs k := rfl
            have hlf := HAF.out.lf (show k < g.tiers.length by have := HN.out; omega)
            have hbr := HAF.out.br k (by have := HN.out; omega)
            have hbr0 := hbr.1
            have hbr1 := hbr.2.1
            have hlE := eaL_len g (awF g s cs ct cr cl) cs k
            have hlP := paL_len g (awF g s cs ct cr cl) cs k
            rw [show (if cs.getD k 0 = 0 then 0 else (awF g s cs ct cr cl).getD k 0 - eaI g ((awF g s cs ct cr cl).getD k 0) (cs.getD k 0) k * cs.getD k 0) = lfI g (awF g s cs ct cr cl) cs k from rfl] at hTI
            have hl0 := hlf.1
            have hl1 := hlf.2.1
            change _ = some (Value.int .i64 ((awF g s cs ct cr cl).getD k 0)) at cf
            generalize lfI g (awF g s cs ct cr cl) cs k = L at *
            generalize brS g (awF g s cs ct cr cl) cs k = BR at *
            generalize eaL g (awF g s cs ct cr cl) cs k = lE at *
            generalize paL g (awF g s cs ct cr cl) cs k = lP at *
            generalize eaI g ((awF g s cs ct cr cl).getD k 0) (cs.getD k 0) k * cs.getD k 0 = P at *
            generalize eaI g ((awF g s cs ct cr cl).getD k 0) (cs.getD k 0) k = E at *
            generalize (awF g s cs ct cr cl).getD k 0 = fk at *
            generalize cs.getD k 0 = c at *
            have HTI := Lib.hid hTI
            have HSE := Lib.hid hsE
            have HSP := Lib.hid hsP
            have HSB := Lib.hid hsB
            have HLE := Lib.hid hlE
            have HLP := Lib.hid hlP
            have HFW := Lib.hid hM.fr
            have HWW := Lib.hid hW
            have hRa := HGR.out _ _ hM.hg
            have hu1 := Try.underlying25
            have hi1 : (Try.prog.info? 25).map (·.size) = some cs0.length := by rw [HCL0.out]; exact infoGame
            have hkn : (k : Int) < (n : Int) := by omega
            clear hTI hsE hsP hsB hlf hbr hlE hlP hcs oF hW hM hFq
            go_wp2_with fail
            refine wp_region_held_drew (S := (fun w' => Fr [] wr w')) (by kernel_rfl) (Fr.refl [] _).drew (fun hHeld => ?_)
            refine' wpAnyH_take (i := 0) (oi := ⟨some 76, _, _, _, _, _⟩) (v := _) rfl (by kernel_rfl) (by kernel_rfl) (by kernel_rfl) (fun _ _ _ h => h) (yieldsIf_load_mid (by rfl) _ _ rfl _ _ rfl _ _ (fun w h => h.range hRa) hu1 rfl hi1) hHeld ?_
            (try simp only [Act.put, List.setIfInBounds_toArray, List.set_cons_zero, List.set_cons_succ])
            refine wpAnyH_take (i := 1) (oi := ⟨some 77, _, _, _, _, _⟩) (v := .int .i64 k) rfl (by kernel_rfl) (by kernel_rfl) (by kernel_rfl) (fun _ _ _ h => h) (Or.inl ⟨by rfl, ?_⟩) hHeld ?_
            · intro w hSw; (try dsimp only at hSw); go_simp
            (try simp only [Act.put, List.setIfInBounds_toArray, List.set_cons_zero, List.set_cons_succ])
            refine wpAnyH_take (i := 2) (oi := ⟨some 78, _, _, _, _, _⟩) (v := .slice (some ⟨gF, 0, none⟩) n cF) rfl (by kernel_rfl) (by kernel_rfl) (by kernel_rfl) (fun _ _ _ h => h) (Or.inl ⟨by rfl, ?_⟩) hHeld ?_
            · intro w hSw; (try dsimp only at hSw); go_simp
            (try simp only [Act.put, List.setIfInBounds_toArray, List.set_cons_zero, List.set_cons_succ])
            refine wpAnyH_take (i := 3) (oi := ⟨some 79, _, _, _, _, _⟩) (v := .int .i64 k) rfl (by kernel_rfl) (by kernel_rfl) (by kernel_rfl) (fun _ _ _ h => h) (Or.inl ⟨by rfl, ?_⟩) hHeld ?_
            · intro w hSw; (try dsimp only at hSw); go_simp
            (try simp only [Act.put, List.setIfInBounds_toArray, List.set_cons_zero, List.set_cons_succ])
            refine wpAnyH_take (i := 4) (oi := ⟨some 80, _, _, _, _, _⟩) (v := .pointer (some ⟨gF, k, none⟩)) rfl (by kernel_rfl) (by kernel_rfl) (by kernel_rfl) (fun _ _ _ h => h) (Or.inl ⟨by rfl, ?_⟩) hHeld ?_
            · intro w hSw; (try dsimp only at hSw); go_simp
            (try simp only [Act.put, List.setIfInBounds_toArray, List.set_cons_zero, List.set_cons_succ])
            refine wpAnyH_take (i := 5) (oi := ⟨some 81, _, _, _, _, _⟩) (v := .int .i64 fk) rfl (by kernel_rfl) (by kernel_rfl) (by kernel_rfl) (fun _ _ _ h => h) (Or.inl ⟨by rfl, ?_⟩) hHeld ?_
            · intro w hSw; (try dsimp only at hSw); have hcF := hSw.cell_some cf (by simp); clear hSw; go_simp
            (try simp only [Act.put, List.setIfInBounds_toArray, List.set_cons_zero, List.set_cons_succ])
            refine wpAnyH_take (i := 6) (oi := ⟨some 82, _, _, _, _, _⟩) (v := .int .i64 c) rfl (by kernel_rfl) (by kernel_rfl) (by kernel_rfl) (fun _ _ _ h => h) (Or.inl ⟨by rfl, ?_⟩) hHeld ?_
            · intro w hSw; (try dsimp only at hSw); go_simp
            (try simp only [Act.put, List.setIfInBounds_toArray, List.set_cons_zero, List.set_cons_succ])
            refine wpAnyH_ready (rs := [7]) (by kernel_rfl) (by simp) ?_
            refine AllReadyH.cons (o := ⟨some 83, _, _, _, _, _⟩) rfl (fun K hK => ?_) AllReadyH.nil
            rw [if_pos (by rfl)]
            go_simp
            refine (HTI.out _ (HFW.out.trans hHeld)).mono ?_
            rintro e w10 ⟨rfl, f10⟩
            refine hK.out _ _ (hHeld.trans f10) (fun hHeld' => ?_)
            clear hK K hHeld
            have hHeld := hHeld'
            clear hHeld'
            (try simp only [Act.put, List.setIfInBounds_toArray, List.set_cons_zero, List.set_cons_succ])
            refine wpAnyH_take (i := 8) (oi := ⟨some 75, _, _, _, _, _⟩) (v := .tuple #[.int .i64 E, .int .i64 P, .int .i64 L, .int .i64 0]) rfl (by kernel_rfl) (by kernel_rfl) (by kernel_rfl) (fun _ _ _ h => h) (Or.inl ⟨by rfl, ?_⟩) hHeld ?_
            · intro w hSw; (try dsimp only at hSw); go_simp
            (try simp only [Act.put, List.setIfInBounds_toArray, List.set_cons_zero, List.set_cons_succ])
            refine wpAnyH_take (i := 9) (oi := ⟨some 84, _, _, _, _, _⟩) (v := .int .i64 E) rfl (by kernel_rfl) (by kernel_rfl) (by kernel_rfl) (fun _ _ _ h => h) (Or.inl ⟨by rfl, ?_⟩) hHeld ?_
            · intro w hSw; (try dsimp only at hSw); go_simp
            (try simp only [Act.put, List.setIfInBounds_toArray, List.set_cons_zero, List.set_cons_succ])
            refine wpAnyH_take (i := 10) (oi := ⟨some 85, _, _, _, _, _⟩) (v := .int .i64 P) rfl (by kernel_rfl) (by kernel_rfl) (by kernel_rfl) (fun _ _ _ h => h) (Or.inl ⟨by rfl, ?_⟩) hHeld ?_
            · intro w hSw; (try dsimp only at hSw); go_simp
            (try simp only [Act.put, List.setIfInBounds_toArray, List.set_cons_zero, List.set_cons_succ])
            refine wpAnyH_take (i := 11) (oi := ⟨some 86, _, _, _, _, _⟩) (v := .int .i64 L) rfl (by kernel_rfl) (by kernel_rfl) (by kernel_rfl) (fun _ _ _ h => h) (Or.inl ⟨by rfl, ?_⟩) hHeld ?_
            · intro w hSw; (try dsimp only at hSw); go_simp
            (try simp only [Act.put, List.setIfInBounds_toArray, List.set_cons_zero, List.set_cons_succ])
            refine wpAnyH_take (i := 12) (oi := ⟨some 87, _, _, _, _, _⟩) (v := .int .i64 0) rfl (by kernel_rfl) (by kernel_rfl) (by kernel_rfl) (fun _ _ _ h => h) (Or.inl ⟨by rfl, ?_⟩) hHeld ?_
            · intro w hSw; (try dsimp only at hSw); go_simp
            (try simp only [Act.put, List.setIfInBounds_toArray, List.set_cons_zero, List.set_cons_succ])
            refine wpAnyH_take (i := 13) (oi := ⟨some 20, _, _, _, _, _⟩) (v := .int .i64 E) rfl (by kernel_rfl) (by kernel_rfl) (by kernel_rfl) (fun _ _ _ h => h) (Or.inl ⟨by rfl, ?_⟩) hHeld ?_
            · intro w hSw; (try dsimp only at hSw); go_simp
            (try simp only [Act.put, List.setIfInBounds_toArray, List.set_cons_zero, List.set_cons_succ])
            refine wpAnyH_take (i := 14) (oi := ⟨some 21, _, _, _, _, _⟩) (v := .int .i64 P) rfl (by kernel_rfl) (by kernel_rfl) (by kernel_rfl) (fun _ _ _ h => h) (Or.inl ⟨by rfl, ?_⟩) hHeld ?_
            · intro w hSw; (try dsimp only at hSw); go_simp
            (try simp only [Act.put, List.setIfInBounds_toArray, List.set_cons_zero, List.set_cons_succ])
            refine wpAnyH_take (i := 15) (oi := ⟨some 22, _, _, _, _, _⟩) (v := .int .i64 L) rfl (by kernel_rfl) (by kernel_rfl) (by kernel_rfl) (fun _ _ _ h => h) (Or.inl ⟨by rfl, ?_⟩) hHeld ?_
            · intro w hSw; (try dsimp only at hSw); go_simp
            (try simp only [Act.put, List.setIfInBounds_toArray, List.set_cons_zero, List.set_cons_succ])
            refine wpAnyH_take (i := 16) (oi := ⟨some 23, _, _, _, _, _⟩) (v := .int .i64 0) rfl (by kernel_rfl) (by kernel_rfl) (by kernel_rfl) (fun _ _ _ h => h) (Or.inl ⟨by rfl, ?_⟩) hHeld ?_
            · intro w hSw; (try dsimp only at hSw); go_simp
            (try simp only [Act.put, List.setIfInBounds_toArray, List.set_cons_zero, List.set_cons_succ])
            have hW8 := HWW.out.go hHeld
            clear hHeld cc cf hRa hu1 hi1 f10
            refine wpAnyH_done (by kernel_rfl) ?_ _
            have hz8 : x7.heap.size ≤ _ := hW8.fr.size
            have d1 := hW8.row.cell 1 _ rfl
            have z1 := hW8.row.frozen 1
            have HW8 := Lib.hid hW8
            clear hW8 hz8
            go_upto_region 18 with (at_builtin; refine app_iL _ _ rfl E rfl (.tmp 94) (.tmp 96) rfl (q + 1) vE lE rfl HW8.out.oE rfl (by have := HLE.out; omega) (HW8.out.size HB7.out) ?_; intro vE' x12 ho12 hf12 hb12 hs12; obtain ⟨hW12, hr12⟩ := HW8.out.appE HB7.out (by omega) ho12 hf12 hb12; have d1' := hr12.cell 1 _ rfl; have z1' := hr12.frozen 1; have HW12 := Lib.hid hW12; obtain ⟨g12, cap12, rfl⟩ := hs12; clear ho12 hf12 hb12 hW12 hr12 d1 z1)
            have hW12 := HW12.out
            generalize World.setCell _ _ _ = x13 at hW12 ⊢
            have d2 := hW12.row.cell 2 _ rfl
            have z2 := hW12.row.frozen 2
            have HW13 := Lib.hid hW12
            clear hW12 HW12 d1' z1'
            go_upto_region 19 with (at_builtin; refine app_iL _ _ rfl P rfl (.tmp 100) (.tmp 102) rfl (q + 1) vP lP rfl HW13.out.oP rfl (by have := HLP.out; omega) (HW13.out.size HB7.out) ?_; intro vP' x14 ho14 hf14 hb14 hs14; obtain ⟨hW14, hr14⟩ := HW13.out.appP HB7.out (by omega) ho14 hf14 hb14; have d2' := hr14.cell 2 _ rfl; have z2' := hr14.frozen 2; have HW14 := Lib.hid hW14; obtain ⟨g14, cap14, rfl⟩ := hs14; clear ho14 hf14 hb14 hW14 hr14 d2 z2)
            have hW14 := HW14.out
            generalize World.setCell _ _ _ = x15 at hW14 ⊢
            have d3 := hW14.row.cell 3 _ rfl
            have z3 := hW14.row.frozen 3
            have HW15 := Lib.hid (hW14.addB (by omega) (BR + L))
            clear hW14 HW14 d2' z2'
            go_wp2_with fail
            go_roundw
            case rel => exact ⟨k + 1, _, _, by omega, by go_num, by rw [HSB.out, HSE.out, HSP.out]; exact HW15.out⟩
            case measure => simp [intOf]; omega
          · obtain rfl : n = k := by omega
            obtain ⟨aE, cE, hvE, _, _⟩ := hW.oE.any
            obtain ⟨aP, cP, hvP, _, _⟩ := hW.oP.any
            rw [eaL_len] at hvE
            rw [paL_len] at hvP
            subst hvE hvP
            obtain ⟨m1, m2, m3, m4, m5⟩ := HAF.out.dr
            have hDR := fun v w' (h : Fr [] w w') (hr : RdI w' v (awT g s cs ct cr)) => drawn_any g s (fuA g s) (alR g s cs cr) v (awT g s cs ct cr) w' (HOK.out.fr h) hr HTLn.out (by have := HTLn.out; unfold awT at *; have := HAF.out.len.2.2.2.2.2.2; omega) HAF.out.al.tl01 m3.1 m3.2 m2.1 m2.2
            rw [m1] at hDR
            have hTO := fun v w' (hr : RdI w' v (awC g s cs ct cr cl)) => total_any v _ w' hr HAF.out.len.2.2.2.1 (by have := HAF.out.len; omega)
            rw [show (awC g s cs ct cr cl).length = g.tiers.length from HLN.out] at hTO
            have hbr := HAF.out.br g.tiers.length (Nat.le_refl _)
            rw [← HN.out] at hbr hTO
            have hr01 := HAF.out.al.r01
            have hbC := sumTo_bd HAF.out.len.2.2.2.1 n
            have hR : awR g s cs ct cr cl = cr + alR g s cs cr - awD g s cs cr + brS g (awF g s cs ct cr cl) cs n := by unfold awR awB; rw [← HN.out]
            have h4 := H4.out
            rw [← HN.out, hR] at h4
            have h9 := fun h => HER.out 9 (h4 h) (by omega)
            have hOKF := fun h => @aw_ok g s cs ct cr cl w (H5.out h)
            rw [← HN.out, hR] at hOKF
            have hB9 : awB g s cs ct cr cl = brS g (awF g s cs ct cr cl) cs n := by unfold awB; rw [← HN.out]
            rw [hB9] at hOKF
            have oN := HON6.out.fr hFq (fun b hb => by have := (HON6.out.block b hb).2; have := HQ.out; simp; omega)
            have oC := HOC6.out.fr hFq (fun b hb => by have := (HOC6.out.block b hb).2; have := HQ.out; simp; omega)
            have oT := HOT6.out.fr hFq (fun b hb => by have := (HOT6.out.block b hb).2; have := HQ.out; simp; omega)
            have hrp := HRP6.out.fr hFq (by simp; omega)
            change OwnI _ _ _ _ (awC g s cs ct cr cl) at oN
            rw [← HN.out] at hrp oN oC oT
            have p0 := hrp.cell 0 _ rfl
            have p1 := hrp.cell 1 _ rfl
            have p2 := hrp.cell 2 _ rfl
            have p3 := hrp.cell 3 _ rfl
            have hg := hM.hg
            have HDR := Lib.hid hDR
            have HTO := Lib.hid hTO
            have H9 := Lib.hid h9
            have HOKF := Lib.hid hOKF
            have HM := Lib.hid hM
            have HRP := Lib.hid hrp
            have HON := Lib.hid oN
            have HOC := Lib.hid oC
            have HOT := Lib.hid oT
            have HWW := Lib.hid hW
            have hbr0 := hbr.1
            have hbr1 := hbr.2.1
            have hbC0 := hbC.1
            have hbC1 := hbC.2
            clear hDR hTO h4 h9 hOKF hM hrp oN oC oT hW hbr hbC hR hB9 m1 H4 H5 HER hFq HTIA HGR
            generalize sumTo (awC g s cs ct cr cl) n = SC at *
            generalize awD g s cs cr = D at *
            generalize alR g s cs cr = B' at *
            generalize fuA g s = A at *
            go_wp2_with (refine load_game rfl (.tmp 4) rfl _ rfl g hg ?_)
            refine (HDR.out _ _ HM.out.fr HOT.out.rd).mono ?_
            rintro e y1 ⟨rfl, f1⟩
            have hW1 := HWW.out.go f1
            have hM1 := HM.out.go f1 (by simp)
            have hrp1 := HRP.out.fr f1 (by simp)
            have oN1 := HON.out.fr f1 (by simp)
            have oC1 := HOC.out.fr f1 (by simp)
            have oT1 := HOT.out.fr f1 (by simp)
            clear p0 p1 p2 p3 hg HDR HWW HM HRP HON HOC HOT f1
            have k1 := hM1.c.cell 1 _ rfl
            have p2 := hrp1.cell 2 _ rfl
            have q3 := hW1.row.cell 3 _ rfl
            have q4 := hW1.row.cell 4 _ rfl
            have q5 := hW1.row.cell 5 _ rfl
            have q6 := hW1.row.cell 6 _ rfl
            have q7 := hW1.row.cell 7 _ rfl
            have qf := fun i => hW1.row.frozen i
            have HW1 := Lib.hid hW1
            have HM1 := Lib.hid hM1
            have HRP1 := Lib.hid hrp1
            have HON1 := Lib.hid oN1
            have HOC1 := Lib.hid oC1
            have HOT1 := Lib.hid oT1
            clear hW1 hM1 hrp1 oN1 oC1 oT1
            generalize brS g (awF g s cs ct cr cl) cs n = BR at *
            go_upto_region 25 with (fail)
            have hrow := (((HW1.out.row.set 4 (.int .i64 D)).set 5 (.slice aN' n cN)).set 6 (.int .i64 (cr + B' - D + BR))).set 7 (.int .i64 (flN g (capL g (awT g s cs ct cr)) cs cl))
            have f2 : Fr [q] y1 ((((y1.setCell ⟨q, 4, none⟩ (.int .i64 D)).setCell ⟨q, 5, none⟩ (.slice aN' n cN)).setCell ⟨q, 6, none⟩ (.int .i64 (cr + B' - D + BR))).setCell ⟨q, 7, none⟩ (.int .i64 (flN g (capL g (awT g s cs ct cr)) cs cl))) :=
              ((((Fr.refl [q] _).setCell (.inl (by simp)) _).setCell (.inl (by simp)) _).setCell (.inl (by simp)) _).setCell (.inl (by simp)) _
            generalize World.setCell _ _ _ = y2 at hrow f2 ⊢
            simp only [List.set_cons_zero, List.set_cons_succ] at hrow
            have hM2 := HM1.out.go f2 (by simp; omega)
            have hrp2 := HRP1.out.fr f2 (by simp; omega)
            have nq : ∀ b, b < q → b ∉ [q] := fun b hb => by simp; omega
            have HON2 := Lib.hid (HON1.out.fr f2 (fun b hb => nq b (by have := (HON6.out.block b (by rw [← HN.out]; exact hb)).2; have := HQ.out; omega)))
            have HOC2 := Lib.hid (HOC1.out.fr f2 (fun b hb => nq b (by have := (HOC6.out.block b (by rw [← HN.out]; exact hb)).2; have := HQ.out; omega)))
            have HOT2 := Lib.hid (HOT1.out.fr f2 (fun b hb => nq b (by have := (HOT6.out.block b (by rw [← HN.out]; exact hb)).2; have := HQ.out; omega)))
            have HOE2 := Lib.hid ((HW1.out.oE.fr f2 (fun b hb => by have := (HW1.out.oE.block b hb).1; simp; omega)).mono (show w.heap.size + 4 ≤ q + 1 by omega))
            have HOP2 := Lib.hid ((HW1.out.oP.fr f2 (fun b hb => by have := (HW1.out.oP.block b hb).1; simp; omega)).mono (show w.heap.size + 4 ≤ q + 1 by omega))
            have HM2 := Lib.hid hM2
            have hNN : flN g (capL g (awT g s cs ct cr)) cs cl = awN g s cs ct cr cl := rfl
            rw [hNN] at hrow ⊢
            clear hNN
            generalize awN g s cs ct cr cl = NN at *
            have pp0 := hrp2.cell 0 _ rfl
            have pp1 := hrp2.cell 1 _ rfl
            have pp2 := hrp2.cell 2 _ rfl
            have pp3 := hrp2.cell 3 _ rfl
            have qq0 := hrow.cell 0 _ rfl
            have qq1 := hrow.cell 1 _ rfl
            have qq2 := hrow.cell 2 _ rfl
            have qq3 := hrow.cell 3 _ rfl
            have qq4 := hrow.cell 4 _ rfl
            have qq5 := hrow.cell 5 _ rfl
            have qq6 := hrow.cell 6 _ rfl
            have qq7 := hrow.cell 7 _ rfl
            have rp0 := hM2.p.cell 0 _ rfl
            have rp1 := hM2.p.cell 1 _ rfl
            have rp2 := hM2.p.cell 2 _ rfl
            have rp3 := hM2.p.cell 3 _ rfl
            have ra0 := hM2.a.cell 0 _ rfl
            have ra1 := hM2.a.cell 1 _ rfl
            have ra2 := hM2.a.cell 2 _ rfl
            have ra3 := hM2.a.cell 3 _ rfl
            have ra4 := hM2.a.cell 4 _ rfl
            have ra5 := hM2.a.cell 5 _ rfl
            have ra6 := hM2.a.cell 6 _ rfl
            have ra7 := hM2.a.cell 7 _ rfl
            have rfp := fun i => hM2.p.frozen i
            have rfa := fun i => hM2.a.frozen i
            have hRp := hrp2.range
            have hRq := hrow.range
            clear k1 p2 q3 q4 q5 q6 q7 qf f2 HW1 HM1 HRP1 HON1 HOC1 HOT1 hM2 hrp2 hrow nq
            by_cases hgt : 1000000000000 < cr + B' - D + BR
            · have e1 : decide (1000000000000 < cr + B' - D + BR) = true := by simpa using hgt
              have HR := Lib.hid (H9.out (.inl hgt))
              clear hgt HOKF H9
              go_wp2_with fail
              have hEnd := awEnd HM2.out (.int .i64 0) (.int .i64 0) (.int .i64 0) (.slice none 0 0) (.slice none 0 0) (.slice none 0 0) (.slice none 0 0) (.int .i64 0) (.int .i64 0) (.slice none 0 0) (.int .i64 0) (.int .i64 0)
              have kp0 := hEnd.p.cell 0 _ rfl
              have kp1 := hEnd.p.cell 1 _ rfl
              have kp2 := hEnd.p.cell 2 _ rfl
              have kp3 := hEnd.p.cell 3 _ rfl
              have ka0 := hEnd.a.cell 0 _ rfl
              have ka1 := hEnd.a.cell 1 _ rfl
              have ka2 := hEnd.a.cell 2 _ rfl
              have ka3 := hEnd.a.cell 3 _ rfl
              have ka4 := hEnd.a.cell 4 _ rfl
              have ka5 := hEnd.a.cell 5 _ rfl
              have ka6 := hEnd.a.cell 6 _ rfl
              have ka7 := hEnd.a.cell 7 _ rfl
              exact bodyPost_ret (v := .tuple #[.agg #[.int .i64 0, .int .i64 0, .int .i64 0, .slice none 0 0], .agg #[.slice none 0 0, .slice none 0 0, .slice none 0 0, .int .i64 0, .int .i64 0, .slice none 0 0, .int .i64 0, .int .i64 0], .int .i64 9]) (by simp [results, Try.results38, go_sem, kp0, kp1, kp2, kp3, ka0, ka1, ka2, ka3, ka4, ka5, ka6, ka7]) rfl (HR.out _ (hEnd.old HM2.out.fr))
            · have e1 : decide (1000000000000 < cr + B' - D + BR) = false := by simpa using hgt
              by_cases hgt2 : 1000000000000 < SC
              · have e2 : decide (1000000000000 < SC) = true := by simpa using hgt2
                have HR := Lib.hid (H9.out (.inr hgt2))
                clear hgt hgt2 HOKF H9
                go_wp2_with fail
                refine (HTO.out _ _ HON2.out.rd).mono ?_
                rintro e y3 ⟨rfl, rfl⟩
                go_wp2_with fail
                have hEnd := awEnd HM2.out (.int .i64 0) (.int .i64 0) (.int .i64 0) (.slice none 0 0) (.slice none 0 0) (.slice none 0 0) (.slice none 0 0) (.int .i64 0) (.int .i64 0) (.slice none 0 0) (.int .i64 0) (.int .i64 0)
                have kp0 := hEnd.p.cell 0 _ rfl
                have kp1 := hEnd.p.cell 1 _ rfl
                have kp2 := hEnd.p.cell 2 _ rfl
                have kp3 := hEnd.p.cell 3 _ rfl
                have ka0 := hEnd.a.cell 0 _ rfl
                have ka1 := hEnd.a.cell 1 _ rfl
                have ka2 := hEnd.a.cell 2 _ rfl
                have ka3 := hEnd.a.cell 3 _ rfl
                have ka4 := hEnd.a.cell 4 _ rfl
                have ka5 := hEnd.a.cell 5 _ rfl
                have ka6 := hEnd.a.cell 6 _ rfl
                have ka7 := hEnd.a.cell 7 _ rfl
                exact bodyPost_ret (v := .tuple #[.agg #[.int .i64 0, .int .i64 0, .int .i64 0, .slice none 0 0], .agg #[.slice none 0 0, .slice none 0 0, .slice none 0 0, .int .i64 0, .int .i64 0, .slice none 0 0, .int .i64 0, .int .i64 0], .int .i64 9]) (by simp [results, Try.results38, go_sem, kp0, kp1, kp2, kp3, ka0, ka1, ka2, ka3, ka4, ka5, ka6, ka7]) rfl (HR.out _ (hEnd.old HM2.out.fr))
              · have e2 : decide (1000000000000 < SC) = false := by simpa using hgt2
                go_wp2_with fail
                refine (HTO.out _ _ HON2.out.rd).mono ?_
                rintro e y3 ⟨rfl, rfl⟩
                go_wp2_with fail
                have HG := Lib.hid (show ¬ (1000000000000 < cr + B' - D + BR ∨ 1000000000000 < SC) by omega)
                clear e1 e2 hgt hgt2
                refine wp_region_held_drew (S := (fun w' => Fr [w.heap.size + 2, w.heap.size + 3] y2 w')) (by kernel_rfl) (Fr.refl _ _).drew (fun hHeld => ?_)
                refine' wpAnyH_take (i := 0) (oi := ⟨some 149, _, _, _, _, _⟩) (v := _) rfl (by kernel_rfl) (by kernel_rfl) (by kernel_rfl) (fun _ _ _ h => h) (yieldsIf_load_mid (by rfl) _ _ rfl _ _ rfl _ _ (fun w h => h.rangeQ hRp (by simp; omega)) Try.underlying45 rfl infoPools) hHeld ?_
                (try simp only [Act.put, List.setIfInBounds_toArray, List.set_cons_zero, List.set_cons_succ])
                refine' wpAnyH_take (i := 1) (oi := ⟨some 150, _, _, _, _, _⟩) (v := _) rfl (by kernel_rfl) (by kernel_rfl) (by kernel_rfl) (fun _ _ _ h => h) (yieldsIf_load_mid (by rfl) _ _ rfl _ _ rfl _ _ (fun w h => h.rangeQ hRq (by simp; omega)) Try.underlying60 rfl infoAward) hHeld ?_
                (try simp only [Act.put, List.setIfInBounds_toArray, List.set_cons_zero, List.set_cons_succ])
                refine wpAnyH_ready (rs := [2]) (by kernel_rfl) (by simp) ?_
                refine AllReadyH.cons (o := ⟨none, _, _, _, _, _⟩) rfl (fun K hK => ?_) AllReadyH.nil
                rw [if_pos (by rfl)]
                go_simp
                have hz1 := put_p HM2.out.p rfl (.int .i64 s) (.int .i64 A) (.int .i64 B') (.slice aT n cT)
                have hf1 := fr4 (x := y2) (b := w.heap.size + 2) (.int .i64 s) (.int .i64 A) (.int .i64 B') (.slice aT n cT)
                have ha1 := HM2.out.a.fr hf1 (by simp)
                generalize World.setCell _ _ _ = z at hz1 hf1 ha1 ⊢
                refine hK.out _ _ ((hf1.mono (by simp)).drew) (fun hHeld' => ?_)
                clear hK K hHeld
                have hHeld := hHeld'
                clear hHeld'
                (try simp only [Act.put, List.setIfInBounds_toArray, List.set_cons_zero, List.set_cons_succ])
                have za0 := ha1.cell 0 _ rfl
                have za1 := ha1.cell 1 _ rfl
                have za2 := ha1.cell 2 _ rfl
                have za3 := ha1.cell 3 _ rfl
                have za4 := ha1.cell 4 _ rfl
                have za5 := ha1.cell 5 _ rfl
                have za6 := ha1.cell 6 _ rfl
                have za7 := ha1.cell 7 _ rfl
                have zfa := fun i => ha1.frozen i
                clear rp0 rp1 rp2 rp3 ra0 ra1 ra2 ra3 ra4 ra5 ra6 ra7 pp0 pp1 pp2 pp3 qq0 qq1 qq2 qq3 qq4 qq5 qq6 qq7 rfp rfa
                refine wpAnyH_ready (rs := [3]) (by kernel_rfl) (by simp) ?_
                refine AllReadyH.cons (o := ⟨none, _, _, _, _, _⟩) rfl (fun K hK => ?_) AllReadyH.nil
                rw [if_pos (by rfl)]
                go_simp
                have hz2 := put_a ha1 rfl (.slice aC n cC) (.slice aE n cE) (.slice aP n cP) (.int .i64 BR) (.int .i64 D) (.slice aN' n cN) (.int .i64 (cr + B' - D + BR)) (.int .i64 NN)
                have hf2 := fr8 (x := z) (b := w.heap.size + 3) (.slice aC n cC) (.slice aE n cE) (.slice aP n cP) (.int .i64 BR) (.int .i64 D) (.slice aN' n cN) (.int .i64 (cr + B' - D + BR)) (.int .i64 NN)
                have hz3 := hz1.fr hf2 (by simp)
                generalize World.setCell _ _ _ = z2 at hz2 hf2 hz3 ⊢
                have hf3 : Fr [w.heap.size + 2, w.heap.size + 3] y2 z2 := (hf1.mono (by simp)).trans (hf2.mono (by simp))
                refine hK.out _ _ (hf3.drew) (fun hHeld' => ?_)
                clear hK K hHeld
                have hHeld := hHeld'
                clear hHeld'
                (try simp only [Act.put, List.setIfInBounds_toArray, List.set_cons_zero, List.set_cons_succ])
                refine wpAnyH_take (i := 4) (oi := ⟨some 10, _, _, _, _, _⟩) (v := .int .i64 0) rfl (by kernel_rfl) (by kernel_rfl) (by kernel_rfl) (fun _ _ _ h => h) (Or.inl ⟨by rfl, ?_⟩) hHeld ?_
                · intro w hSw; (try dsimp only at hSw); go_simp
                (try simp only [Act.put, List.setIfInBounds_toArray, List.set_cons_zero, List.set_cons_succ])
                clear hHeld za0 za1 za2 za3 za4 za5 za6 za7 zfa
                refine wpAnyH_done (by kernel_rfl) ?_ _
                have kp0 := hz3.cell 0 _ rfl
                have kp1 := hz3.cell 1 _ rfl
                have kp2 := hz3.cell 2 _ rfl
                have kp3 := hz3.cell 3 _ rfl
                have ka0 := hz2.cell 0 _ rfl
                have ka1 := hz2.cell 1 _ rfl
                have ka2 := hz2.cell 2 _ rfl
                have ka3 := hz2.cell 3 _ rfl
                have ka4 := hz2.cell 4 _ rfl
                have ka5 := hz2.cell 5 _ rfl
                have ka6 := hz2.cell 6 _ rfl
                have ka7 := hz2.cell 7 _ rfl
                have hown : ∀ {v : Value} {l : List Int}, OwnI y2 (w.heap.size + 4) 3 v l → OwnI z2.drew w.heap.size 3 v l := fun h => (h.fr hf3.drew (fun b hb hm => by have := (h.block b hb).1; simp at hm; omega)).mono (by omega)
                have hend : Fr [] w z2.drew := HM2.out.fr.trans' hf3.drew (by intro i hi; simp at hi; right; omega)
                have HEND := Lib.hid hend
                have HFIN := Lib.hid (HOKF.out HG.out _ _ _ _ _ _ (hown HOT2.out) (hown HOC2.out) (hown HOE2.out) (hown HOP2.out) (hown HON2.out) hend)
                clear hown hend hz1 hz2 hz3 hf1 hf2 hf3 ha1 hRp hRq
                go_wp2_with fail
                exact bodyPost_ret (v := .tuple #[.agg #[.int .i64 s, .int .i64 A, .int .i64 B', .slice aT n cT], .agg #[.slice aC n cC, .slice aE n cE, .slice aP n cP, .int .i64 BR, .int .i64 D, .slice aN' n cN, .int .i64 (cr + B' - D + BR), .int .i64 NN], .int .i64 0]) (by simp [results, Try.results38, go_sem, kp0, kp1, kp2, kp3, ka0, ka1, ka2, ka3, ka4, ka5, ka6, ka7]) rfl HFIN.out
      · have hE9 := HER.out _ (awE_3 HE.out HCPE.out hfl) hfl
        have e1 : (flE g (capL g (awT g s cs ct cr)) cs cl != 0) = true := by simpa using hfl
        have HR := Lib.hid hE9
        have HM5 := Lib.hid hM5
        obtain ⟨aF, cF, rfl, _, _⟩ := oF5.any
        obtain ⟨aN, cN, rfl, _, _⟩ := oN5.any
        have rp0 := hM5.p.cell 0 _ rfl
        have rp1 := hM5.p.cell 1 _ rfl
        have rp2 := hM5.p.cell 2 _ rfl
        have rp3 := hM5.p.cell 3 _ rfl
        have ra0 := hM5.a.cell 0 _ rfl
        have ra1 := hM5.a.cell 1 _ rfl
        have ra2 := hM5.a.cell 2 _ rfl
        have ra3 := hM5.a.cell 3 _ rfl
        have ra4 := hM5.a.cell 4 _ rfl
        have ra5 := hM5.a.cell 5 _ rfl
        have ra6 := hM5.a.cell 6 _ rfl
        have ra7 := hM5.a.cell 7 _ rfl
        have rfp := fun i => hM5.p.frozen i
        have rfa := fun i => hM5.a.frozen i
        clear hM5 hrp5 oT5 oF5 oN5 hE9 hfl
        generalize flE g (capL g (awT g s cs ct cr)) cs cl = E at *
        go_wp2_with fail
        have hEnd := awEnd HM5.out (.int .i64 0) (.int .i64 0) (.int .i64 0) (.slice none 0 0) (.slice none 0 0) (.slice none 0 0) (.slice none 0 0) (.int .i64 0) (.int .i64 0) (.slice none 0 0) (.int .i64 0) (.int .i64 0)
        have kp0 := hEnd.p.cell 0 _ rfl
        have kp1 := hEnd.p.cell 1 _ rfl
        have kp2 := hEnd.p.cell 2 _ rfl
        have kp3 := hEnd.p.cell 3 _ rfl
        have ka0 := hEnd.a.cell 0 _ rfl
        have ka1 := hEnd.a.cell 1 _ rfl
        have ka2 := hEnd.a.cell 2 _ rfl
        have ka3 := hEnd.a.cell 3 _ rfl
        have ka4 := hEnd.a.cell 4 _ rfl
        have ka5 := hEnd.a.cell 5 _ rfl
        have ka6 := hEnd.a.cell 6 _ rfl
        have ka7 := hEnd.a.cell 7 _ rfl
        exact bodyPost_ret (v := .tuple #[.agg #[.int .i64 0, .int .i64 0, .int .i64 0, .slice none 0 0], .agg #[.slice none 0 0, .slice none 0 0, .slice none 0 0, .int .i64 0, .int .i64 0, .slice none 0 0, .int .i64 0, .int .i64 0], .int .i64 E]) (by simp [results, Try.results38, go_sem, kp0, kp1, kp2, kp3, ka0, ka1, ka2, ka3, ka4, ka5, ka6, ka7]) rfl (HR.out _ (hEnd.old HM5.out.fr))
    · have hE9 := HER.out _ (awE_2 HE.out hcp) hcp
      have e1 : (capE g (awT g s cs ct cr) != 0) = true := by simpa using hcp
      have HR := Lib.hid hE9
      have HM4 := Lib.hid hM4
      obtain ⟨aK, cK, rfl, _, _⟩ := oK.any
      have rp0 := hM4.p.cell 0 _ rfl
      have rp1 := hM4.p.cell 1 _ rfl
      have rp2 := hM4.p.cell 2 _ rfl
      have rp3 := hM4.p.cell 3 _ rfl
      have ra0 := hM4.a.cell 0 _ rfl
      have ra1 := hM4.a.cell 1 _ rfl
      have ra2 := hM4.a.cell 2 _ rfl
      have ra3 := hM4.a.cell 3 _ rfl
      have ra4 := hM4.a.cell 4 _ rfl
      have ra5 := hM4.a.cell 5 _ rfl
      have ra6 := hM4.a.cell 6 _ rfl
      have ra7 := hM4.a.cell 7 _ rfl
      have rfp := fun i => hM4.p.frozen i
      have rfa := fun i => hM4.a.frozen i
      clear hM4 hrp4 oT4 oK hE9 hcp
      generalize capE g (awT g s cs ct cr) = E at *
      go_wp2_with fail
      have hEnd := awEnd HM4.out (.int .i64 0) (.int .i64 0) (.int .i64 0) (.slice none 0 0) (.slice none 0 0) (.slice none 0 0) (.slice none 0 0) (.int .i64 0) (.int .i64 0) (.slice none 0 0) (.int .i64 0) (.int .i64 0)
      have kp0 := hEnd.p.cell 0 _ rfl
      have kp1 := hEnd.p.cell 1 _ rfl
      have kp2 := hEnd.p.cell 2 _ rfl
      have kp3 := hEnd.p.cell 3 _ rfl
      have ka0 := hEnd.a.cell 0 _ rfl
      have ka1 := hEnd.a.cell 1 _ rfl
      have ka2 := hEnd.a.cell 2 _ rfl
      have ka3 := hEnd.a.cell 3 _ rfl
      have ka4 := hEnd.a.cell 4 _ rfl
      have ka5 := hEnd.a.cell 5 _ rfl
      have ka6 := hEnd.a.cell 6 _ rfl
      have ka7 := hEnd.a.cell 7 _ rfl
      exact bodyPost_ret (v := .tuple #[.agg #[.int .i64 0, .int .i64 0, .int .i64 0, .slice none 0 0], .agg #[.slice none 0 0, .slice none 0 0, .slice none 0 0, .int .i64 0, .int .i64 0, .slice none 0 0, .int .i64 0, .int .i64 0], .int .i64 E]) (by simp [results, Try.results38, go_sem, kp0, kp1, kp2, kp3, ka0, ka1, ka2, ka3, ka4, ka5, ka6, ka7]) rfl (HR.out _ (hEnd.old HM4.out.fr))
  · have hR := HER.out _ (hE1 hE) hE
    have e1 : (alE g s cs ct cr cl != 0) = true := by simpa using hE
    have eV : ∀ v, alV g s cs ct cr cl v = .agg #[.int .i64 0, .int .i64 0, .int .i64 0, v] := fun v => by unfold alV; rw [if_neg hE]
    have HR := Lib.hid hR
    have HEV := Lib.hid eV
    clear hR hE1 hE eV hok HER
    generalize alE g s cs ct cr cl = E at *
    go_enter Try.func38, Try.ntmps38
    go_upto_region 1 with (refine box_game rfl (.tmp 0) rfl g rfl ?_; intro w1 hg1 hz1 hf1)
    have hM := awM_start (vt := .slice a3 ct.length c3) (cr := cr) (cl := cl) hg1 hz1 hf1
    simp only [Nat.add_assoc, Nat.reduceAdd]
    generalize World.alloc _ _ = x at hM ⊢
    clear hg1 hz1 hf1
    have hg := hM.hg
    have k0 := hM.c.cell 0 _ rfl
    have k1 := hM.c.cell 1 _ rfl
    have k2 := hM.c.cell 2 _ rfl
    go_wp2_with (refine load_game rfl (.tmp 4) rfl _ rfl g hg ?_)
    refine (HAL.out _ hM.fr).mono ?_
    rintro e x2 ⟨vT, rfl, oT, f2⟩
    rw [HEV.out]
    obtain ⟨aT, cT, rfl, hcT1, hcT2⟩ := oT.any
    have hM2 := hM.go f2 (by simp)
    clear k0 k1 k2 hg hM f2 oT
    go_upto_region 2 with (fail)
    have hM3 := hM2.go ((Fr.refl [] x2).alloc (.cells #[.int .i64 0, .int .i64 0, .int .i64 0, .slice aT (alL g s cs ct cr cl).length cT] 45)) (by simp)
    generalize World.alloc _ _ = x3 at hM3 ⊢
    have HM3 := Lib.hid hM3
    have r0 := hM3.p.cell 0 _ rfl
    have r1 := hM3.p.cell 1 _ rfl
    have r2' := hM3.p.cell 2 _ rfl
    have r3' := hM3.p.cell 3 _ rfl
    have q0 := hM3.a.cell 0 _ rfl
    have q1 := hM3.a.cell 1 _ rfl
    have q2 := hM3.a.cell 2 _ rfl
    have q3 := hM3.a.cell 3 _ rfl
    have q4 := hM3.a.cell 4 _ rfl
    have q5 := hM3.a.cell 5 _ rfl
    have q6 := hM3.a.cell 6 _ rfl
    have q7 := hM3.a.cell 7 _ rfl
    have fp := fun i => hM3.p.frozen i
    have fa := fun i => hM3.a.frozen i
    clear hM2 hM3
    go_wp2_with fail
    have hEnd := awEnd HM3.out (.int .i64 0) (.int .i64 0) (.int .i64 0) (.slice none 0 0) (.slice none 0 0) (.slice none 0 0) (.slice none 0 0) (.int .i64 0) (.int .i64 0) (.slice none 0 0) (.int .i64 0) (.int .i64 0)
    have kp0 := hEnd.p.cell 0 _ rfl
    have kp1 := hEnd.p.cell 1 _ rfl
    have kp2 := hEnd.p.cell 2 _ rfl
    have kp3 := hEnd.p.cell 3 _ rfl
    have ka0 := hEnd.a.cell 0 _ rfl
    have ka1 := hEnd.a.cell 1 _ rfl
    have ka2 := hEnd.a.cell 2 _ rfl
    have ka3 := hEnd.a.cell 3 _ rfl
    have ka4 := hEnd.a.cell 4 _ rfl
    have ka5 := hEnd.a.cell 5 _ rfl
    have ka6 := hEnd.a.cell 6 _ rfl
    have ka7 := hEnd.a.cell 7 _ rfl
    exact bodyPost_ret (v := .tuple #[.agg #[.int .i64 0, .int .i64 0, .int .i64 0, .slice none 0 0], .agg #[.slice none 0 0, .slice none 0 0, .slice none 0 0, .int .i64 0, .int .i64 0, .slice none 0 0, .int .i64 0, .int .i64 0], .int .i64 E]) (by simp [results, Try.results38, go_sem, kp0, kp1, kp2, kp3, ka0, ka1, ka2, ka3, ka4, ka5, ka6, ka7]) rfl (HR.out _ (hEnd.old HM3.out.fr))
end Go.Proofs.Ytdinjekpcgndmaa
/-
  LAYER 38: both examples of the chapter.
-/
set_option linter.unusedVariables false
namespace Go.Proofs.Ytdinjekpcgndmaa
open Go.RowKit
def wk1 (a : Option Addr) (c : Nat) : Gm := pl38 a c 5000 0 100 (plT [⟨0, 0, 0, 0, 3, 1⟩] 1)
def wk2 (a : Option Addr) (c : Nat) : Gm := pl38 a c 5000 0 100 (plT [⟨0, 0, 0, 0, 1, 500⟩] 1)
set_option maxRecDepth 20000 in
theorem wk1_aw (a : Option Addr) (c : Nat) : awE (wk1 a c) 2000 [3] [0] 0 0 = 0 ∧ (∀ v, awV1 (wk1 a c) 2000 [3] [0] 0 0 v = .agg #[.int .i64 2000, .int .i64 1000, .int .i64 0, v]) ∧
    (∀ vC vE vP vN, awV2 (wk1 a c) 2000 [3] [0] 0 0 vC vE vP vN = .agg #[vC, vE, vP, .int .i64 100, .int .i64 0, vN, .int .i64 100, .int .i64 0]) ∧ awZ (wk1 a c) 2000 [3] [0] 0 0 (eaL (wk1 a c) (awF (wk1 a c) 2000 [3] [0] 0 0) [3] (wk1 a c).tiers.length) = [300] :=
  ⟨by kernel_rfl, fun v => by kernel_rfl, fun vC vE vP vN => by kernel_rfl, by kernel_rfl⟩
set_option maxRecDepth 20000 in
theorem wk2_aw (a : Option Addr) (c : Nat) : awE (wk2 a c) 2000 [3] [0] 0 0 = 0 ∧ (∀ v, awV1 (wk2 a c) 2000 [3] [0] 0 0 v = .agg #[.int .i64 2000, .int .i64 1000, .int .i64 0, v]) ∧
    (∀ vC vE vP vN, awV2 (wk2 a c) 2000 [3] [0] 0 0 vC vE vP vN = .agg #[vC, vE, vP, .int .i64 1, .int .i64 0, vN, .int .i64 1, .int .i64 0]) ∧ awZ (wk2 a c) 2000 [3] [0] 0 0 (eaL (wk2 a c) (awF (wk2 a c) 2000 [3] [0] 0 0) [3] (wk2 a c).tiers.length) = [333] ∧
    awZ (wk2 a c) 2000 [3] [0] 0 0 (awT (wk2 a c) 2000 [3] [0] 0) = [1000] :=
  ⟨by kernel_rfl, fun v => by kernel_rfl, fun vC vE vP vN => by kernel_rfl, by kernel_rfl, by kernel_rfl⟩
theorem own1_cell {w : World} {base : Nat} {v : Value} {x : Int} (h : OwnI w base 3 v [x]) : ∃ g c, v = .slice (some ⟨g, 0, none⟩) 1 c ∧ w.cell? ⟨g, 0, none⟩ = some (.int .i64 x) ∧ g < w.heap.size := by
  obtain ⟨g, c, rfl, _, hg, _, _⟩ := h.form (by simp)
  exact ⟨g, c, rfl, by simpa using h.cell 0 (by simp), hg⟩
theorem OwnI.sl {w : World} {base : Nat} {e : TypeId} {v : Value} {l : List Int} (h : OwnI w base e v l) : ∃ a n c, v = .slice a n c := by
  obtain ⟨a, c, h, _⟩ := h.any
  exact ⟨a, _, c, h⟩
set_option maxRecDepth 20000 in
set_option maxHeartbeats 4000000 in
theorem works_any (w : World) : Calls Try.prog 39 #[] w fun e w' => e = .returned (.bool true) ∧ Fr [] w w' := by
  have hA1 := fun a c v2 vt w' (h : (wk1 a c).Ok w') h2 h3 => award_any (wk1 a c) 2000 v2 vt [3] [0] 0 0 w' h h2 h3
  have hA2 := fun a c v2 vt w' (h : (wk2 a c).Ok w') h2 h3 => award_any (wk2 a c) 2000 v2 vt [3] [0] 0 0 w' h h2 h3
  unfold AwPost at hA1 hA2
  have HA1 := Lib.hid hA1
  have HA2 := Lib.hid hA2
  have hP1 := fun (x : Ti) (hx : x.Ok) (w' : World) => plain38_any _ [x] 5000 0 100 _ _ 1 rfl (rdf_one 6 Ti.cells w' x _ 40 rfl rfl) (by intro y hy; simp at hy; subst hy; exact hx) rfl rfl rfl
  unfold Pl38Post at hP1
  have HP1 := Lib.hid hP1
  clear hA1 hA2 hP1
  go_enter Try.func39, Try.ntmps39
  go_wp2_with fail
  refine (HP1.out ⟨0, 0, 0, 0, 3, 1⟩ ⟨rfl, rfl, rfl, rfl, rfl, rfl⟩ w).mono ?_
  rintro e w1 ⟨a, c, rfl, hok, f1⟩
  change (wk1 a c).Ok w1 at hok
  have f1' := ((Fr.refl [] w).alloc (.cells #[.int .i64 0, .int .i64 0, .int .i64 0, .int .i64 0, .int .i64 3, .int .i64 1] 40)).trans f1
  go_upto_region 2 with (refine store_game rfl (.tmp 1) (.tmp 11) rfl w1.heap.size rfl _ (heap_alloc_new _ _) rfl (wk1 a c) rfl ?_; intro w2 hg2 hz2 hf2)
  have f2 : Fr [] w1 w2 := ((Fr.refl [] w1).alloc _).trans' hf2 (by intro i hi; simp at hi; right; omega)
  generalize w1.heap.size = b1 at *
  have HOK := Lib.hid (hok.fr f2)
  have HF := Lib.hid (f1'.trans f2)
  clear hok f1 f1' f2 hf2 hz2
  go_wp2_with (refine load_game rfl (.tmp 1) rfl _ rfl (wk1 a c) hg2 ?_)
  have hr1 : RdI (w2.alloc (.cells #[.int .i64 3] 3)) (.slice (some ⟨w2.heap.size, 0, none⟩) 1 1) [3] := rdi_mk rfl [3] 3 1 rfl (by omega)
  have hr2 : RdI ((w2.alloc (.cells #[.int .i64 3] 3)).alloc (.cells #[.int .i64 0] 3)) (.slice (some ⟨w2.heap.size + 1, 0, none⟩) 1 1) [0] := rdi_mk (by simp) [0] 3 1 rfl (by omega)
  have F2 : Fr [] w2 ((w2.alloc (.cells #[.int .i64 3] 3)).alloc (.cells #[.int .i64 0] 3)) := ((Fr.refl [] w2).alloc _).alloc _
  refine (HA1.out a c _ _ _ (HOK.out.fr F2) (hr1.below ((Fr.refl [] _).alloc _)) hr2).mono ?_
  rintro e w5 ⟨vT, vC, vE, vP, vN, rfl, oT, oC, oE, oP, oN, f5⟩
  obtain ⟨k1, k2, k3, k4⟩ := wk1_aw a c
  rw [k2, k3, k1]
  rw [k4] at oE
  obtain ⟨gE, cE, rfl, qE, hgE⟩ := own1_cell oE
  obtain ⟨aT, nT, cT, rfl⟩ := oT.sl
  obtain ⟨aC, nC, cC, rfl⟩ := oC.sl
  obtain ⟨aP, nP, cP, rfl⟩ := oP.sl
  obtain ⟨aN, nN, cN, rfl⟩ := oN.sl
  have HF5 := Lib.hid ((HF.out.trans F2).trans f5)
  clear hr1 hr2 F2 f5 k1 k2 k3 k4 oT oC oP oN oE HOK HA1 hg2 HF
  go_upto_region 3 with (fail)
  have e6 : Fr [] w5 ((w5.alloc (.cells #[.int .i64 2000, .int .i64 1000, .int .i64 0, .slice aT nT cT] 45)).alloc (.cells #[.slice aC nC cC, .slice (some ⟨gE, 0, none⟩) 1 cE, .slice aP nP cP, .int .i64 100, .int .i64 0, .slice aN nN cN, .int .i64 100, .int .i64 0] 60)) := ((Fr.refl [] w5).alloc _).alloc _
  have hrp : RowAt ((w5.alloc (.cells #[.int .i64 2000, .int .i64 1000, .int .i64 0, .slice aT nT cT] 45)).alloc (.cells #[.slice aC nC cC, .slice (some ⟨gE, 0, none⟩) 1 cE, .slice aP nP cP, .int .i64 100, .int .i64 0, .slice aN nN cN, .int .i64 100, .int .i64 0] 60)) w5.heap.size 45 [.int .i64 2000, .int .i64 1000, .int .i64 0, .slice aT nT cT] := (RowAt.new rfl rfl).fr ((Fr.refl [] _).alloc _) (by simp)
  have hra : RowAt ((w5.alloc (.cells #[.int .i64 2000, .int .i64 1000, .int .i64 0, .slice aT nT cT] 45)).alloc (.cells #[.slice aC nC cC, .slice (some ⟨gE, 0, none⟩) 1 cE, .slice aP nP cP, .int .i64 100, .int .i64 0, .slice aN nN cN, .int .i64 100, .int .i64 0] 60)) (w5.heap.size + 1) 60 [.slice aC nC cC, .slice (some ⟨gE, 0, none⟩) 1 cE, .slice aP nP cP, .int .i64 100, .int .i64 0, .slice aN nN cN, .int .i64 100, .int .i64 0] := RowAt.new (by simp) rfl
  generalize (w5.alloc _).alloc _ = x6 at *
  have qE := e6.cell_some qE (by simp)
  have p1 := hrp.cell 1 _ rfl
  have a1 := hra.cell 1 _ rfl
  have a3 := hra.cell 3 _ rfl
  have a6 := hra.cell 6 _ rfl
  generalize w5.heap.size = bP at *
  have HF6 := Lib.hid (HF5.out.trans e6)
  clear hrp hra e6 HF5
  go_wp2_with fail
  refine (HP1.out ⟨0, 0, 0, 0, 1, 500⟩ ⟨rfl, rfl, rfl, rfl, rfl, rfl⟩ x6).mono ?_
  rintro e w1' ⟨a', c', rfl, hok, f1⟩
  change (wk2 a' c').Ok w1' at hok
  have f1' := ((Fr.refl [] x6).alloc (.cells #[.int .i64 0, .int .i64 0, .int .i64 0, .int .i64 0, .int .i64 1, .int .i64 500] 40)).trans f1
  go_upto_region 6 with (refine store_game rfl (.tmp 5) (.tmp 54) rfl w1'.heap.size rfl _ (heap_alloc_new _ _) rfl (wk2 a' c') rfl ?_; intro w2' hg2 hz2 hf2)
  have f2 : Fr [] w1' w2' := ((Fr.refl [] w1').alloc _).trans' hf2 (by intro i hi; simp at hi; right; omega)
  generalize w1'.heap.size = b2 at *
  have HOK := Lib.hid (hok.fr f2)
  have HF := Lib.hid ((HF6.out.trans f1').trans f2)
  clear hok f1 f1' f2 hf2 hz2 p1 a1 a3 a6 qE HF6 HP1
  go_wp2_with (refine load_game rfl (.tmp 5) rfl _ rfl (wk2 a' c') hg2 ?_)
  have hr1 : RdI (w2'.alloc (.cells #[.int .i64 3] 3)) (.slice (some ⟨w2'.heap.size, 0, none⟩) 1 1) [3] := rdi_mk rfl [3] 3 1 rfl (by omega)
  have hr2 : RdI ((w2'.alloc (.cells #[.int .i64 3] 3)).alloc (.cells #[.int .i64 0] 3)) (.slice (some ⟨w2'.heap.size + 1, 0, none⟩) 1 1) [0] := rdi_mk (by simp) [0] 3 1 rfl (by omega)
  have F2 : Fr [] w2' ((w2'.alloc (.cells #[.int .i64 3] 3)).alloc (.cells #[.int .i64 0] 3)) := ((Fr.refl [] w2').alloc _).alloc _
  refine (HA2.out a' c' _ _ _ (HOK.out.fr F2) (hr1.below ((Fr.refl [] _).alloc _)) hr2).mono ?_
  rintro e y5 ⟨vT, vC, vE, vP, vN, rfl, oT, oC, oE, oP, oN, f5⟩
  obtain ⟨k1, k2, k3, k4, k5⟩ := wk2_aw a' c'
  rw [k2, k3, k1]
  rw [k4] at oE
  rw [k5] at oT
  obtain ⟨hE, dE, rfl, qE, hgE'⟩ := own1_cell oE
  obtain ⟨hT, dT, rfl, qT, hgT'⟩ := own1_cell oT
  obtain ⟨a2C, n2C, c2C, rfl⟩ := oC.sl
  obtain ⟨a2P, n2P, c2P, rfl⟩ := oP.sl
  obtain ⟨a2N, n2N, c2N, rfl⟩ := oN.sl
  have HF7 := Lib.hid ((HF.out.trans F2).trans f5)
  clear hr1 hr2 F2 f5 k1 k2 k3 k4 k5 oT oC oP oN oE HOK HA2 hg2 HF
  go_upto_region 7 with (fail)
  have e6 : Fr [] y5 ((y5.alloc (.cells #[.int .i64 2000, .int .i64 1000, .int .i64 0, .slice (some ⟨hT, 0, none⟩) 1 dT] 45)).alloc (.cells #[.slice a2C n2C c2C, .slice (some ⟨hE, 0, none⟩) 1 dE, .slice a2P n2P c2P, .int .i64 1, .int .i64 0, .slice a2N n2N c2N, .int .i64 1, .int .i64 0] 60)) := ((Fr.refl [] y5).alloc _).alloc _
  have hrp : RowAt ((y5.alloc (.cells #[.int .i64 2000, .int .i64 1000, .int .i64 0, .slice (some ⟨hT, 0, none⟩) 1 dT] 45)).alloc (.cells #[.slice a2C n2C c2C, .slice (some ⟨hE, 0, none⟩) 1 dE, .slice a2P n2P c2P, .int .i64 1, .int .i64 0, .slice a2N n2N c2N, .int .i64 1, .int .i64 0] 60)) y5.heap.size 45 [.int .i64 2000, .int .i64 1000, .int .i64 0, .slice (some ⟨hT, 0, none⟩) 1 dT] := (RowAt.new rfl rfl).fr ((Fr.refl [] _).alloc _) (by simp)
  have hra : RowAt ((y5.alloc (.cells #[.int .i64 2000, .int .i64 1000, .int .i64 0, .slice (some ⟨hT, 0, none⟩) 1 dT] 45)).alloc (.cells #[.slice a2C n2C c2C, .slice (some ⟨hE, 0, none⟩) 1 dE, .slice a2P n2P c2P, .int .i64 1, .int .i64 0, .slice a2N n2N c2N, .int .i64 1, .int .i64 0] 60)) (y5.heap.size + 1) 60 [.slice a2C n2C c2C, .slice (some ⟨hE, 0, none⟩) 1 dE, .slice a2P n2P c2P, .int .i64 1, .int .i64 0, .slice a2N n2N c2N, .int .i64 1, .int .i64 0] := RowAt.new (by simp) rfl
  generalize (y5.alloc _).alloc _ = y6 at *
  have qE := e6.cell_some qE (by simp)
  have qT := e6.cell_some qT (by simp)
  have p3 := hrp.cell 3 _ rfl
  have a1 := hra.cell 1 _ rfl
  have a3 := hra.cell 3 _ rfl
  generalize y5.heap.size = bQ at *
  have HF8 := Lib.hid (HF7.out.trans e6)
  clear hrp hra e6 HF7
  go_wp2_with fail
  go_ret
  exact ⟨rfl, HF8.out⟩
end Go.Proofs.Ytdinjekpcgndmaa
