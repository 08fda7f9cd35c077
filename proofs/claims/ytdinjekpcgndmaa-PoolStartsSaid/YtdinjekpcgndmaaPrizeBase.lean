/-
  PrizeBase: 10 texts in one, each with its own heading.
-/
import Derived.Test.YtdinjekpcgndmaaPoolA
import Derived.Test.YtdinjekpcgndmaaTisF
import Derived.Test.YtdinjekpcgndmaaCap
import Derived.Test.YtdinjekpcgndmaaRollF
import Derived.Test.YtdinjekpcgndmaaCheck
import Derived.Deep.WholeRow
import Derived.Test.YtdinjekpcgndmaaNew
import Derived.Test.YtdinjekpcgndmaaFund
import Derived.Test.YtdinjekpcgndmaaPart
import Derived.IntWalk
import Derived.Deep.DeepCutAuto
import Derived.Deep.CutBlock
import Derived.Test.YtdinjekpcgndmaaAppI
import Derived.Deep.AppendLies
import Derived.Test.YtdinjekpcgndmaaSplit
import Derived.Test.YtdinjekpcgndmaaRCheck
/-
  LAYER 36, plain: what the pools of a draw sum to; how they relate to needs and carry. Plain lemmas.
-/
set_option linter.unusedVariables false
namespace Go.Proofs.Ytdinjekpcgndmaa
open Go.RowKit
structure AlF (g : Gm) (s : Int) (cs ct : List Int) (cr cl : Int) : Prop where
  ch : chkE g = 0
  fu : fuE g s = 0
  s01 : 0 ≤ s ∧ s ≤ 1000000000000
  B0 : 0 ≤ fuB g s
  BA : fuB g s ≤ fuA g s
  As : fuA g s ≤ s
  csl : cs.length = g.tiers.length
  cb : ∀ i, i < cs.length → 0 ≤ cs.getD i 0 ∧ cs.getD i 0 ≤ 2097152
  ctl : ct.length = g.tiers.length
  tb : ∀ i, i < ct.length → 0 ≤ ct.getD i 0 ∧ ct.getD i 0 ≤ 1000000000000 ∧ (isK g.tiers true i = true → ct.getD i 0 = 0)
  r01 : 0 ≤ cr ∧ cr ≤ 1000000000000
  l01 : 0 ≤ cl ∧ cl ≤ 64
  av : fuA g s + cr ≤ 1000000000000
  nd : spT (ndL g.tiers cs) ≤ 1000000000000
  hi : ∀ i, i < g.tiers.length → (tlL g.tiers cs ct (fuA g s) (fuB g s) cr).getD i 0 ≤ 1000000000000
theorem alE_facts {g : Gm} {s : Int} {cs ct : List Int} {cr cl : Int} (h : alE g s cs ct cr cl = 0) : AlF g s cs ct cr cl := by
  unfold alE at h
  split at h
  · rename_i h1; exact absurd h h1
  rename_i h1
  have h1 : fuE g s = 0 := by omega
  split at h
  · rename_i h2; exact absurd h h2
  rename_i h2
  have h2 : agE g.tiers cs ct cr cl = 0 := by omega
  split at h
  · simp at h
  rename_i h3
  split at h
  · simp at h
  rename_i h4
  obtain ⟨q1, q2, q3, q4, q5⟩ := fuE_facts h1
  obtain ⟨p1, p2, p3, p4, p5, p6⟩ := agE_facts h2
  refine ⟨q1, h1, q2, q3, q4, q5, p1, p2, p3, p4, p5, p6, by omega, by omega, fun i hi => ?_⟩
  refine Int.not_lt.1 fun hn => h4 (hiB_yes (k := i) (by rw [tlL_len]; exact hi) hn)
theorem sumTo_nil : ∀ k, sumTo [] k = 0 := by
  intro k
  induction k with
  | zero => rfl
  | succ k ih => rw [sumTo, ih]; rfl
section
variable {g : Gm} {s : Int} {cs ct : List Int} {cr cl : Int}
theorem AlF.S01 (h : AlF g s cs ct cr cl) : 0 ≤ pdS g.tiers cs (fuA g s + cr) ∧ pdS g.tiers cs (fuA g s + cr) ≤ fuA g s + cr := by
  have hs := (spT_nonneg (fun x hx => (nd_bd h.ch h.csl h.cb x hx).1)).1
  have a := h.B0; have b := h.BA; have c := h.r01
  unfold pdS ovN
  by_cases ho : fuA g s + cr < spT (ndL g.tiers cs)
  · rw [if_pos (by simpa using ho)]; omega
  · rw [if_neg (by simpa using ho)]; omega
theorem AlF.ov (h : AlF g s cs ct cr cl) (ho : ovN g.tiers cs (fuA g s + cr) = true) : spE (fuA g s + cr) (ndL g.tiers cs) = 0 := by
  have a := h.B0; have b := h.BA; have c := h.r01
  exact nd_split h.ch h.csl h.cb (by omega) h.av h.nd ho
theorem AlF.R01 (h : AlF g s cs ct cr cl) : 0 ≤ rsT g.tiers cs (fuA g s) (fuB g s) cr ∧ rsT g.tiers cs (fuA g s) (fuB g s) cr ≤ 1000000000000 := by
  have a := h.S01; have b := h.B0; have c := h.As; have d := h.s01
  unfold rsT; omega
theorem AlF.pd_sum (h : AlF g s cs ct cr cl) : sumTo (pdL g.tiers cs (fuA g s + cr)) (cntK g.tiers true g.tiers.length) = pdS g.tiers cs (fuA g s + cr) := by
  unfold pdL pdS
  by_cases ho : ovN g.tiers cs (fuA g s + cr) = true
  · rw [if_pos ho, if_pos ho]
    have := spL_sum (h.ov ho)
    rw [ndL_len] at this
    exact this
  · rw [if_neg ho, if_neg ho]
    unfold spT
    rw [ndL_len]
/-- the pools of the fixed tiers together -/
theorem AlF.fix (h : AlF g s cs ct cr cl) : sumK g.tiers true (tlL g.tiers cs ct (fuA g s) (fuB g s) cr) g.tiers.length = pdS g.tiers cs (fuA g s + cr) := by
  rw [sumK_sel (L := pdL g.tiers cs (fuA g s + cr)) (m := []) g.tiers.length (fun i hi hk => by rw [tlL_at hi, if_pos hk]; simp), h.pd_sum, sumK_nil]
  omega
theorem AlF.sh_sum (h : AlF g s cs ct cr cl) : sumTo (shL g.tiers (rsT g.tiers cs (fuA g s) (fuB g s) cr)) (cntK g.tiers false g.tiers.length) = if dvB g.tiers = true then rsT g.tiers cs (fuA g s) (fuB g s) cr else 0 := by
  obtain ⟨r0, r1⟩ := h.R01
  unfold shL
  by_cases hd : dvB g.tiers = true
  · rw [if_pos hd, if_pos hd]
    have := spL_sum (vs_split h.ch r0 r1 hd)
    rw [vsL_len] at this
    exact this
  · rw [if_neg hd, if_neg hd, sumTo_nil]
/-- the pools of the other tiers together -/
theorem AlF.oth (h : AlF g s cs ct cr cl) : sumK g.tiers false (tlL g.tiers cs ct (fuA g s) (fuB g s) cr) g.tiers.length = (if dvB g.tiers = true then rsT g.tiers cs (fuA g s) (fuB g s) cr else 0) + sumK g.tiers false ct g.tiers.length := by
  rw [sumK_sel (L := shL g.tiers (rsT g.tiers cs (fuA g s) (fuB g s) cr)) (m := ct) g.tiers.length (fun i hi hk => by
    rw [tlL_at hi, if_neg (by rw [isK_not] at hk; simpa using hk)]; omega), h.sh_sum]
theorem AlF.pd_le (h : AlF g s cs ct cr cl) {m : Nat} (hm : m < cntK g.tiers true g.tiers.length) : 0 ≤ (pdL g.tiers cs (fuA g s + cr)).getD m 0 ∧ (pdL g.tiers cs (fuA g s + cr)).getD m 0 ≤ (ndL g.tiers cs).getD m 0 := by
  have hl := ndL_len g.tiers cs
  unfold pdL
  by_cases ho : ovN g.tiers cs (fuA g s + cr) = true
  · rw [if_pos ho]
    have hv := h.ov ho
    refine ⟨spL_nonneg hv (by omega), spL_le hv ?_ (by omega)⟩
    unfold ovN at ho; simp at ho; omega
  · rw [if_neg ho]
    have hb := nd_bd h.ch h.csl h.cb (ndL g.tiers cs)[m] (List.getElem_mem (by omega))
    have e : (ndL g.tiers cs).getD m 0 = (ndL g.tiers cs)[m] := by simp [List.getD, show m < (ndL g.tiers cs).length by omega]
    omega
theorem AlF.nd_at (h : AlF g s cs ct cr cl) {i : Nat} (hi : i < g.tiers.length) (hk : isK g.tiers true i = true) : (ndL g.tiers cs).getD (cntK g.tiers true i) 0 = vl g.tiers i * cs.getD i 0 := selP_at hk _ hi
/-- the pool of a fixed tier -/
theorem AlF.at_fix (h : AlF g s cs ct cr cl) {i : Nat} (hi : i < g.tiers.length) (hk : isK g.tiers true i = true) :
    0 ≤ (tlL g.tiers cs ct (fuA g s) (fuB g s) cr).getD i 0 ∧ (tlL g.tiers cs ct (fuA g s) (fuB g s) cr).getD i 0 ≤ vl g.tiers i * cs.getD i 0 ∧
    ((tlL g.tiers cs ct (fuA g s) (fuB g s) cr).getD i 0 < vl g.tiers i * cs.getD i 0 → pdS g.tiers cs (fuA g s + cr) = fuA g s + cr) ∧ (¬ fuA g s + cr < spT (ndL g.tiers cs) → (tlL g.tiers cs ct (fuA g s) (fuB g s) cr).getD i 0 = vl g.tiers i * cs.getD i 0) := by
  have hm := cntK_lt hi hk
  have hp := h.pd_le hm
  rw [h.nd_at hi hk] at hp
  rw [tlL_at hi, if_pos hk]
  refine ⟨hp.1, hp.2, fun hlt => ?_, fun ho => ?_⟩
  · unfold pdS
    by_cases ho : ovN g.tiers cs (fuA g s + cr) = true
    · rw [if_pos ho]
    · exfalso
      unfold pdL at hlt
      rw [if_neg ho, h.nd_at hi hk] at hlt
      omega
  · have ho' : ¬ ovN g.tiers cs (fuA g s + cr) = true := by unfold ovN; simpa using ho
    unfold pdL
    rw [if_neg ho', h.nd_at hi hk]
/-- the pool of another tier -/
theorem AlF.at_oth (h : AlF g s cs ct cr cl) {i : Nat} (hi : i < g.tiers.length) (hk : isK g.tiers true i = false) : ct.getD i 0 ≤ (tlL g.tiers cs ct (fuA g s) (fuB g s) cr).getD i 0 := by
  rw [tlL_at hi, if_neg (by simp [hk])]
  have hk2 : isK g.tiers false i = true := by rw [isK_not, hk]; rfl
  have hm := cntK_lt hi hk2
  obtain ⟨r0, r1⟩ := h.R01
  have : 0 ≤ (shL g.tiers (rsT g.tiers cs (fuA g s) (fuB g s) cr)).getD (cntK g.tiers false i) 0 := by
    unfold shL
    by_cases hd : dvB g.tiers = true
    · rw [if_pos hd]
      exact spL_nonneg (vs_split h.ch r0 r1 hd) (by rw [vsL_len]; exact hm)
    · rw [if_neg hd]; simp
  omega
theorem AlF.tl01 (h : AlF g s cs ct cr cl) : ∀ j, j < (tlL g.tiers cs ct (fuA g s) (fuB g s) cr).length → 0 ≤ (tlL g.tiers cs ct (fuA g s) (fuB g s) cr).getD j 0 ∧ (tlL g.tiers cs ct (fuA g s) (fuB g s) cr).getD j 0 ≤ 1000000000000 := by
  intro j hj
  rw [tlL_len] at hj
  refine ⟨?_, h.hi j hj⟩
  by_cases hk : isK g.tiers true j = true
  · exact (h.at_fix hj hk).1
  · have := h.at_oth hj (by simpa using hk)
    have := (h.tb j (by rw [h.ctl]; exact hj)).1
    omega
end
end Go.Proofs.Ytdinjekpcgndmaa
/-
  LAYER 37: what the statements need of Cap and Flow, in one place. Plain lemmas.
-/
set_option linter.unusedVariables false
namespace Go.Proofs.Ytdinjekpcgndmaa
open Go.RowKit
theorem cap_law0 {g : Gm} {ts : List Int} (h : capE g ts = 0) : (capL g ts).length = g.tiers.length ∧ ts.length = g.tiers.length ∧ amtB (capL g ts) = true ∧ amtB ts = true ∧ sumTo (capL g ts) g.tiers.length = sumTo ts g.tiers.length ∧ 1 ≤ g.tiers.length ∧ g.tiers.length ≤ 12 := by
  obtain ⟨h1, h2, h3⟩ := cap_facts h
  obtain ⟨q1, q2, q3⟩ := rchkE_facts h1
  have := game_len q1
  exact ⟨h2.len.trans q2, q2, h2.amt, q3, by rw [← q2]; exact h2.sum, this.1, this.2⟩
theorem fl_law0 {g : Gm} {ts cs : List Int} {rolls : Int} (h : flE g ts cs rolls = 0) : (flP g ts cs rolls).length = g.tiers.length ∧ (flC g ts cs rolls).length = g.tiers.length ∧ ts.length = g.tiers.length ∧ cs.length = g.tiers.length ∧
    amtB (flP g ts cs rolls) = true ∧ amtB (flC g ts cs rolls) = true ∧ amtB ts = true ∧ sumTo (flP g ts cs rolls) g.tiers.length + sumTo (flC g ts cs rolls) g.tiers.length = sumTo ts g.tiers.length ∧
    0 ≤ flN g ts cs rolls ∧ flN g ts cs rolls ≤ 64 ∧ 1 ≤ g.tiers.length ∧ g.tiers.length ≤ 12 := by
  obtain ⟨h1, h2, h3, h4, h5, h6, h7, h8, h9⟩ := fl_facts h
  have hg := game_len (rchkE_facts (flE_facts h).1).1
  have hr := rolE_bd g.tiers cs (mustB g rolls) rolls h3
  have hn : flN g ts cs rolls = rolE g.tiers cs (mustB g rolls) rolls := by unfold flN; rw [if_pos h]
  rw [hn]
  exact ⟨h6.lp, h6.lc, h1, h2, h8, h9, h7, h6.sum, hr.1, hr.2, hg.1, hg.2⟩
theorem fl_law1 {g : Gm} {ts cs : List Int} {rolls : Int} (h : ¬ flE g ts cs rolls = 0) : flP g ts cs rolls = [] ∧ flC g ts cs rolls = [] ∧ flN g ts cs rolls = 0 := by
  unfold flP flC flN
  rw [if_neg h, if_neg h, if_neg h]
  exact ⟨rfl, rfl, rfl⟩
theorem own_nil_any {w : World} {base : Nat} {e : TypeId} {v : Value} {l : List Int} (h : OwnI w base e v l) (hl : l = []) : ∃ a cap, v = .slice a 0 cap := by
  obtain ⟨a, cap, hv, _⟩ := h.any
  subst hl
  exact ⟨a, cap, hv⟩
theorem own_len_any {w : World} {base n : Nat} {e : TypeId} {v : Value} {l : List Int} (h : OwnI w base e v l) (hl : l.length = n) : ∃ a cap, v = .slice a n cap ∧ n ≤ cap ∧ cap ≤ maxLen := by
  obtain ⟨a, cap, hv, h1, h2⟩ := h.any
  rw [hl] at hv h1
  exact ⟨a, cap, hv, h1, h2⟩
end Go.Proofs.Ytdinjekpcgndmaa
/-
  LAYER 38, plain: what Award computes, and what follows of it. Plain lemmas.
-/
set_option linter.unusedVariables false
namespace Go.Proofs.Ytdinjekpcgndmaa
open Go.RowKit
/-- the prize of one of n winning lines of tier i, whose pool is f -/
def eaI (g : Gm) (f n : Int) (i : Nat) : Int := if n = 0 then 0 else if kd g.tiers i = 1 then min (f / n) (vl g.tiers i) else f / n - f / n % g.round
def eaL (g : Gm) (F cs : List Int) (k : Nat) : List Int := (List.range k).map fun i => eaI g (F.getD i 0) (cs.getD i 0) i
def paL (g : Gm) (F cs : List Int) (k : Nat) : List Int := (List.range k).map fun i => eaI g (F.getD i 0) (cs.getD i 0) i * cs.getD i 0
def lfI (g : Gm) (F cs : List Int) (i : Nat) : Int := if cs.getD i 0 = 0 then 0 else F.getD i 0 - eaI g (F.getD i 0) (cs.getD i 0) i * cs.getD i 0
def brS (g : Gm) (F cs : List Int) : Nat → Int
  | 0 => 0
  | k + 1 => brS g F cs k + lfI g F cs k
theorem eaL_len (g : Gm) (F cs : List Int) (k : Nat) : (eaL g F cs k).length = k := by simp [eaL]
theorem paL_len (g : Gm) (F cs : List Int) (k : Nat) : (paL g F cs k).length = k := by simp [paL]
theorem eaL_succ (g : Gm) (F cs : List Int) (k : Nat) : eaL g F cs (k + 1) = eaL g F cs k ++ [eaI g (F.getD k 0) (cs.getD k 0) k] := by simp [eaL, List.range_succ]
theorem paL_succ (g : Gm) (F cs : List Int) (k : Nat) : paL g F cs (k + 1) = paL g F cs k ++ [eaI g (F.getD k 0) (cs.getD k 0) k * cs.getD k 0] := by simp [paL, List.range_succ]
theorem eaL_at {g : Gm} {F cs : List Int} {k i : Nat} (h : i < k) : (eaL g F cs k).getD i 0 = eaI g (F.getD i 0) (cs.getD i 0) i := getD_range _ _ _ h
theorem paL_at {g : Gm} {F cs : List Int} {k i : Nat} (h : i < k) : (paL g F cs k).getD i 0 = eaI g (F.getD i 0) (cs.getD i 0) i * cs.getD i 0 := getD_range _ _ _ h
theorem ea_bd {g : Gm} {f n : Int} {i : Nat} (h0 : 0 ≤ f) (hn : 0 ≤ n) (hv : 0 ≤ vl g.tiers i) (hr : 1 ≤ g.round) : 0 ≤ eaI g f n i ∧ eaI g f n i ≤ f ∧ eaI g f n i * n ≤ f ∧ 0 ≤ eaI g f n i * n := by
  unfold eaI
  by_cases h : n = 0
  · subst h; simp; exact h0
  rw [if_neg h]
  have hn1 : 1 ≤ n := by omega
  have q0 : 0 ≤ f / n := Int.ediv_nonneg h0 hn
  have q1 : f / n * n ≤ f := Int.ediv_mul_le f h
  have q2 : f / n ≤ f / n * n := by
    have := Int.mul_le_mul_of_nonneg_left hn1 q0
    omega
  have key : ∀ x, 0 ≤ x → x ≤ f / n → 0 ≤ x ∧ x ≤ f ∧ x * n ≤ f ∧ 0 ≤ x * n := fun x x0 x1 => by
    have a := Int.mul_le_mul_of_nonneg_right x1 hn
    exact ⟨x0, by omega, by omega, Int.mul_nonneg x0 hn⟩
  split
  · exact key _ (by omega) (by omega)
  · have m0 := Int.emod_nonneg (f / n) (show g.round ≠ 0 by omega)
    have m1 : f / n % g.round ≤ f / n := by
      have := Int.mul_ediv_add_emod (f / n) g.round
      have h2 : 0 ≤ g.round * (f / n / g.round) := Int.mul_nonneg (by omega) (Int.ediv_nonneg q0 (by omega))
      omega
    exact key _ (by omega) (by omega)
/-- the final pools and what is carried over -/
def awT (g : Gm) (s : Int) (cs ct : List Int) (cr : Int) : List Int := tlL g.tiers cs ct (fuA g s) (fuB g s) cr
def awF (g : Gm) (s : Int) (cs ct : List Int) (cr cl : Int) : List Int := flP g (capL g (awT g s cs ct cr)) cs cl
def awC (g : Gm) (s : Int) (cs ct : List Int) (cr cl : Int) : List Int := flC g (capL g (awT g s cs ct cr)) cs cl
def awN (g : Gm) (s : Int) (cs ct : List Int) (cr cl : Int) : Int := flN g (capL g (awT g s cs ct cr)) cs cl
def awD (g : Gm) (s : Int) (cs : List Int) (cr : Int) : Int := max 0 (pdS g.tiers cs (fuA g s + cr) - (fuA g s - fuB g s))
def awB (g : Gm) (s : Int) (cs ct : List Int) (cr cl : Int) : Int := brS g (awF g s cs ct cr cl) cs g.tiers.length
def awR (g : Gm) (s : Int) (cs ct : List Int) (cr cl : Int) : Int := cr + alR g s cs cr - awD g s cs cr + awB g s cs ct cr cl
def awE (g : Gm) (s : Int) (cs ct : List Int) (cr cl : Int) : Int :=
  if alE g s cs ct cr cl ≠ 0 then alE g s cs ct cr cl
  else if capE g (awT g s cs ct cr) ≠ 0 then capE g (awT g s cs ct cr)
  else if flE g (capL g (awT g s cs ct cr)) cs cl ≠ 0 then flE g (capL g (awT g s cs ct cr)) cs cl
  else if 1000000000000 < awR g s cs ct cr cl ∨ 1000000000000 < sumTo (awC g s cs ct cr cl) g.tiers.length then 9 else 0
structure AwF (g : Gm) (s : Int) (cs ct : List Int) (cr cl : Int) : Prop where
  al : AlF g s cs ct cr cl
  cp : capE g (awT g s cs ct cr) = 0
  fl : flE g (capL g (awT g s cs ct cr)) cs cl = 0
theorem awF_mk {g : Gm} {s : Int} {cs ct : List Int} {cr cl : Int} (h1 : alE g s cs ct cr cl = 0) (h2 : capE g (awT g s cs ct cr) = 0) (h3 : flE g (capL g (awT g s cs ct cr)) cs cl = 0) : AwF g s cs ct cr cl := ⟨alE_facts h1, h2, h3⟩
theorem awE_facts {g : Gm} {s : Int} {cs ct : List Int} {cr cl : Int} (h : awE g s cs ct cr cl = 0) : alE g s cs ct cr cl = 0 ∧ AwF g s cs ct cr cl ∧ awR g s cs ct cr cl ≤ 1000000000000 ∧ sumTo (awC g s cs ct cr cl) g.tiers.length ≤ 1000000000000 := by
  unfold awE at h
  split at h
  · rename_i h1; exact absurd h h1
  rename_i h1
  split at h
  · rename_i h2; exact absurd h h2
  rename_i h2
  split at h
  · rename_i h3; exact absurd h h3
  rename_i h3
  split at h
  · simp at h
  rename_i h4
  exact ⟨by omega, awF_mk (by omega) (by omega) (by omega), by omega, by omega⟩
section
variable {g : Gm} {s : Int} {cs ct : List Int} {cr cl : Int}
theorem AwF.len (h : AwF g s cs ct cr cl) : (awF g s cs ct cr cl).length = g.tiers.length ∧ (awC g s cs ct cr cl).length = g.tiers.length ∧ amtB (awF g s cs ct cr cl) = true ∧ amtB (awC g s cs ct cr cl) = true ∧
    sumTo (awF g s cs ct cr cl) g.tiers.length + sumTo (awC g s cs ct cr cl) g.tiers.length = sumTo (awT g s cs ct cr) g.tiers.length ∧ 1 ≤ g.tiers.length ∧ g.tiers.length ≤ 12 := by
  have a := cap_law0 h.cp
  obtain ⟨b1, b2, b3, b4, b5, b6, b7, b8, _, _, b9, b10⟩ := fl_law0 h.fl
  exact ⟨b1, b2, b5, b6, b8.trans a.2.2.2.2.1, b9, b10⟩
theorem AwF.round (h : AwF g s cs ct cr cl) : 1 ≤ g.round ∧ g.round ≤ 1000000 := by
  have := badT_bd (head_bd h.al.ch).2
  omega
theorem AwF.ea (h : AwF g s cs ct cr cl) {i : Nat} (hi : i < g.tiers.length) : 0 ≤ eaI g ((awF g s cs ct cr cl).getD i 0) (cs.getD i 0) i ∧ eaI g ((awF g s cs ct cr cl).getD i 0) (cs.getD i 0) i ≤ (awF g s cs ct cr cl).getD i 0 ∧
    eaI g ((awF g s cs ct cr cl).getD i 0) (cs.getD i 0) i * cs.getD i 0 ≤ (awF g s cs ct cr cl).getD i 0 ∧ 0 ≤ eaI g ((awF g s cs ct cr cl).getD i 0) (cs.getD i 0) i * cs.getD i 0 :=
  ea_bd (amtB_at h.len.2.2.1 i).1 (h.al.cb i (by rw [h.al.csl]; exact hi)).1 (vl_bd h.al.ch i hi).1 h.round.1
/-- a tier without winners has no final pool -/
theorem AwF.none (h : AwF g s cs ct cr cl) {i : Nat} (hi : i < g.tiers.length) (hn : cs.getD i 0 = 0) : (awF g s cs ct cr cl).getD i 0 = 0 := by
  have hf := (fl_facts h.fl).2.2.2.2.2.1
  by_cases hk : kd g.tiers i = 1
  · have h1 := (hf.fixed i hi hk).1
    rw [if_pos hi] at h1
    have h2 := (cap_facts h.cp).2.1.fixed i hk
    have h3 := h.al.at_fix hi (show isK g.tiers true i = true by unfold isK; simp [hk])
    rw [hn, Int.mul_zero] at h3
    show (flP g (capL g (awT g s cs ct cr)) cs cl).getD i 0 = 0
    rw [h1, h2]
    show (tlL g.tiers cs ct (fuA g s) (fuB g s) cr).getD i 0 = 0
    omega
  · exact hf.none i hk hn
theorem AwF.lf (h : AwF g s cs ct cr cl) {i : Nat} (hi : i < g.tiers.length) : 0 ≤ lfI g (awF g s cs ct cr cl) cs i ∧ lfI g (awF g s cs ct cr cl) cs i ≤ 1000000000000 ∧ (awF g s cs ct cr cl).getD i 0 = eaI g ((awF g s cs ct cr cl).getD i 0) (cs.getD i 0) i * cs.getD i 0 + lfI g (awF g s cs ct cr cl) cs i := by
  have e := h.ea hi
  have b := amtB_at h.len.2.2.1 i
  unfold lfI
  by_cases hn : cs.getD i 0 = 0
  · rw [if_pos hn, hn, h.none hi hn]; omega
  · rw [if_neg hn]; omega
theorem AwF.br (h : AwF g s cs ct cr cl) : ∀ k : Nat, k ≤ g.tiers.length → 0 ≤ brS g (awF g s cs ct cr cl) cs k ∧ brS g (awF g s cs ct cr cl) cs k ≤ 1000000000000 * k ∧
    sumTo (awF g s cs ct cr cl) k = sumTo (paL g (awF g s cs ct cr cl) cs g.tiers.length) k + brS g (awF g s cs ct cr cl) cs k := by
  intro k
  induction k with
  | zero => intro _; simp [brS, sumTo]
  | succ k ih =>
    intro hk
    obtain ⟨a, b, c⟩ := ih (by omega)
    have e := h.lf (show k < g.tiers.length by omega)
    rw [brS, sumTo, sumTo, paL_at (by omega)]
    push_cast
    omega
theorem AwF.pa (h : AwF g s cs ct cr cl) : amtB (paL g (awF g s cs ct cr cl) cs g.tiers.length) = true := amtB_of fun j hj => by
  rw [paL_len] at hj
  rw [paL_at hj]
  have e := h.ea hj
  have b := amtB_at h.len.2.2.1 j
  omega
theorem AwF.tsum (h : AwF g s cs ct cr cl) : sumTo (awT g s cs ct cr) g.tiers.length + alR g s cs cr = fuA g s + sumTo ct g.tiers.length + awD g s cs cr ∧ awD g s cs cr ≤ cr + fuB g s ∧ fuB g s ≤ alR g s cs cr ∧ 0 ≤ awD g s cs cr := by
  have F := h.al
  have e1 := F.fix
  have e2 := F.oth
  have e3 := sumK_both g.tiers (awT g s cs ct cr) g.tiers.length
  have e4 := sumK_both g.tiers ct g.tiers.length
  have e5 : sumK g.tiers true ct g.tiers.length = 0 := by
    have : ∀ k, k ≤ g.tiers.length → sumK g.tiers true ct k = 0 := by
      intro k
      induction k with
      | zero => intro _; rfl
      | succ k ih =>
        intro hk
        rw [sumK, ih (by omega)]
        split
        · rename_i hk2; rw [(F.tb k (by rw [F.ctl]; omega)).2.2 hk2]; rfl
        · rfl
    exact this _ (Nat.le_refl _)
  have hs := F.S01
  have b0 := F.B0
  have b1 := F.BA
  have r0 := F.r01
  have hR := F.R01
  unfold awT at *
  rw [← e3, e1, e2, ← e4, e5]
  unfold awD alR
  have hrs : rsT g.tiers cs (fuA g s) (fuB g s) cr = max 0 (fuA g s - fuB g s - pdS g.tiers cs (fuA g s + cr)) := rfl
  split <;> omega
/-- all that comes in is paid, carried over or in the reserve fund -/
theorem AwF.bal (h : AwF g s cs ct cr cl) : fuA g s + sumTo ct g.tiers.length + cr = sumTo (paL g (awF g s cs ct cr cl) cs g.tiers.length) g.tiers.length + sumTo (awC g s cs ct cr cl) g.tiers.length + awR g s cs ct cr cl ∧ 0 ≤ awR g s cs ct cr cl := by
  obtain ⟨a1, a2, a3, a4⟩ := h.tsum
  obtain ⟨b1, b2, b3⟩ := h.br _ (Nat.le_refl _)
  obtain ⟨_, _, _, _, c, _⟩ := h.len
  unfold awR
  have e : awB g s cs ct cr cl = brS g (awF g s cs ct cr cl) cs g.tiers.length := rfl
  rw [e]
  omega
theorem AwF.rolls (h : AwF g s cs ct cr cl) : 0 ≤ awN g s cs ct cr cl ∧ awN g s cs ct cr cl ≤ 64 := by
  obtain ⟨_, _, _, _, _, _, _, _, b1, b2, _, _⟩ := fl_law0 h.fl
  exact ⟨b1, b2⟩
theorem AwF.R_bd (h : AwF g s cs ct cr cl) : -100000000000000 ≤ awR g s cs ct cr cl ∧ awR g s cs ct cr cl ≤ 100000000000000 := by
  obtain ⟨b1, b2, b3⟩ := h.br _ (Nat.le_refl _)
  have F := h.al
  have hl := h.len.2.2.2.2.2.2
  have e : awB g s cs ct cr cl = brS g (awF g s cs ct cr cl) cs g.tiers.length := rfl
  have hs := F.S01
  have b0 := F.B0
  have b4 := F.BA
  have b5 := F.As
  have b6 := F.s01
  have r0 := F.r01
  have hR := F.R01
  have h2 := F.av
  unfold awR awD alR
  rw [e]
  split <;> omega
end
end Go.Proofs.Ytdinjekpcgndmaa
/-
  A game that is stored whole; the small game of the statements, valid; a game with other add-ons.
-/
set_option linter.unusedVariables false
namespace Go.Proofs.Ytdinjekpcgndmaa
open Go.RowKit
theorem Gm.one (g : Gm) : g.cells.toArray.all (·.oneCell') = true := by simp [Gm.cells, Value.oneCell']
theorem Gm.size (g : Gm) : g.cells.toArray.size = 22 := rfl
/-- a game is stored whole into a block of its own -/
theorem store_game {ops : Array Oper} {rest : List Oper} {o : Oper} {a : Act} {w : World} {Q : Exit → Act → World → Prop} (hgd : o.guard = none) (x y : Operand) (ho : o.op = .store 25 x y) (b : Nat) (hx : a.eval x = .pointer (some ⟨b, 0, none⟩))
    (C : Array Value) (hb : w.heap[b]? = some (.cells C 25 (0, 0))) (hC : C.size = 22) (g : Gm) (hy : a.eval y = g.val)
    (h : ∀ w', GmAt w' b g → w'.heap.size = w.heap.size → Fr [b] w w' → wpList Try.prog ops Q rest (a.put o.dst undef) w') : wpList Try.prog ops Q (o :: rest) a w := by
  refine wpList_plain hgd fun _ hK => ?_
  have hrun := run_storeVar_row (P := Try.prog) w b 25 25 C g.cells.toArray hb infoGame (by rw [hC, Gm.size]) g.one
  unfold Oper.wp execOp
  simp only [ho, hx, hy, Gm.val_eq, Instr.storeAt, Instr.sureAddr, Sem.run_bind, Sem.run_pure, Result.andThen_ok, hrun]
  have hlt : b < w.heap.size := (Array.getElem?_eq_some_iff.1 hb).1
  refine hK _ _ (h _ ?_ ?_ ⟨rfl, rfl, rfl, ?_, ?_⟩)
  · unfold GmAt; simp [World.setRow, Array.getElem?_modify, hb]
  · simp [World.setRow]
  · simp [World.setRow]
  · intro k _ hk
    have : ¬ b = k := by simp at hk; omega
    simp [World.setRow, Array.getElem?_modify, this]
def plainG (b : Nat) : Gm := ⟨⟨#[97]⟩, 1, 1, 1, 2, 0, 0, 0, 1, 1, 1, 0, 0, 0, 1, 0, 0, 1, 0, 0, none, 0, [], some ⟨b, 0, none⟩, 1, [⟨1, 0, 0, 0, 1, 0⟩]⟩
theorem plain_chk (b : Nat) : chkE (plainG b) = 0 ∧ chkS (plainG b) = ⟨#[]⟩ ∧ headB (plainG b) = true := by
  refine ⟨?_, ?_, ?_⟩
  · kernel_rfl
  · kernel_rfl
  · kernel_rfl
theorem rdf_one {α : Type} (c : Nat) (f : α → List Value) (w : World) (x : α) (C : Array Value) (T : TypeId) (hC : C = (f x).toArray) (hc : (f x).length = c) :
    RdF c (fun x => pairs (f x)) (w.alloc (.cells C T)) (.slice (some ⟨w.heap.size, 0, none⟩) 1 1) [x] := by
  refine ⟨_, _, rfl, Nat.le_refl _, by unfold maxLen; simp, fun j y hy => ⟨w.heap.size, 0, rfl, fun i v hv => ?_⟩⟩
  obtain rfl : j = 0 := by
    have := (List.getElem?_eq_some_iff.1 hy).1
    simp at this
    exact this
  simp at hy
  subst hy
  rw [mem_pairs] at hv
  rw [Nat.zero_mul, Nat.zero_add, Nat.zero_add]
  exact new_cell rfl (by subst hC; simpa using hv)
theorem RdF.fr {α : Type} {c n cap g o : Nat} {f : α → List (Nat × Value)} {w w' : World} {l : List α} {bs : List Nat} (h : RdF c f w (.slice (some ⟨g, o, none⟩) n cap) l) (hf : Fr bs w w') (hn : g ∉ bs) : RdF c f w' (.slice (some ⟨g, o, none⟩) n cap) l := by
  obtain ⟨a', cap', hv, h1, h2, h3⟩ := h
  refine ⟨a', cap', hv, h1, h2, fun j x hx => ?_⟩
  obtain ⟨g', o', rfl, hc⟩ := h3 j x hx
  simp only [Value.slice.injEq, Option.some.injEq, Addr.mk.injEq, and_true] at hv
  obtain ⟨⟨rfl, rfl⟩, _⟩ := hv
  exact ⟨g, o, rfl, fun i y hy => hf.cell_some (hc i y hy) hn⟩
theorem plain_ok (w : World) (b : Nat) (h : RdF 6 tiF w (.slice (some ⟨b, 0, none⟩) 1 1) [⟨1, 0, 0, 0, 1, 0⟩]) : (plainG b).Ok w := by
  refine ⟨(by show 1 ≤ maxLen; unfold maxLen; omega), rfl, rfl, rfl, rfl, rfl, rfl, rfl, rfl, rfl, rfl, rfl, rfl, rfl, rfl, rfl, rfl, rfl, rfl, rfl, ⟨⟨none, 0, rfl, by simp [plainG], by simp, by simp [plainG]⟩, by simp [plainG]⟩, ⟨h, ?_⟩⟩
  intro x hx
  simp [plainG] at hx
  subst hx
  exact ⟨rfl, rfl, rfl, rfl, rfl, rfl⟩
def withA (g : Gm) (a : Option Addr) (c : Nat) (l : List Ad) : Gm := { g with aa := a, ac := c, addons := l }
theorem gm_set_addons {w : World} {b : Nat} {g : Gm} (h : GmAt w b g) (a : Option Addr) (c : Nat) (l : List Ad) : GmAt (w.setCell ⟨b, 20, none⟩ (.slice a l.length c)) b (withA g a c l) := by
  unfold GmAt at h ⊢
  simp [World.setCell, Array.getElem?_modify, h, Gm.cells, withA]
theorem gm_frozen {w : World} {b : Nat} {g : Gm} (h : GmAt w b g) (i : Nat) : w.frozen? ⟨b, i, none⟩ = false := by
  unfold GmAt at h
  simp [World.frozen?, h]
theorem withA_ok {g : Gm} {w w' : World} {a : Option Addr} {c : Nat} {l : List Ad} (h : g.Ok w) (hf : Fr [] w w') (ha : Ads w' a c l) : (withA g a c l).Ok w' := by
  have h' := h.fr hf
  exact ⟨h'.name, h'.kind, h'.price, h'.main, h'.of_, h'.bonus, h'.bonusof, h'.extra, h'.draws, h'.system, h'.days, h'.at_, h'.close, h'.cancel, h'.expiry, h'.pool, h'.reserve, h'.round, h'.cap, h'.rolls, ha, h'.tiers⟩
end Go.Proofs.Ytdinjekpcgndmaa
/-
  LAYER 36: the game of the statements.
-/
set_option linter.unusedVariables false
namespace Go.Proofs.Ytdinjekpcgndmaa
open Go.RowKit
theorem flat36_at {α : Type} (c : Nat) (f : α → List Value) : ∀ (l : List α), (∀ x ∈ l, (f x).length = c) → ∀ (j i : Nat) (x : α) (v : Value), l[j]? = some x → (f x)[i]? = some v → (l.flatMap f)[j * c + i]? = some v := by
  intro l
  induction l with
  | nil => intro _ j i x v hj _; simp at hj
  | cons a l ih =>
    intro hf j i x v hj hi
    have ha := hf a (by simp)
    rw [List.flatMap_cons]
    cases j with
    | zero =>
      simp at hj
      subst hj
      have := (List.getElem?_eq_some_iff.1 hi).1
      rw [Nat.zero_mul, Nat.zero_add, List.getElem?_append_left this]
      exact hi
    | succ j =>
      simp at hj
      rw [List.getElem?_append_right (by rw [ha, Nat.add_mul]; omega), ha, show (j + 1) * c + i - c = j * c + i by rw [Nat.add_mul]; omega]
      exact ih (fun y hy => hf y (by simp [hy])) j i x v hj hi
theorem rdf36_rows {α : Type} (c : Nat) (f : α → List Value) {w : World} {n : Nat} (hz : w.heap.size = n) (l : List α) (T : TypeId) (k : Nat) (hk : l.length = k) (hm : k ≤ 100) (hf : ∀ x ∈ l, (f x).length = c) (C : Array Value) (hC : C = (l.flatMap f).toArray) :
    RdF c (fun x => pairs (f x)) (w.alloc (.cells C T)) (.slice (some ⟨n, 0, none⟩) k k) l := by
  subst hk
  refine ⟨_, _, rfl, Nat.le_refl _, by unfold maxLen; omega, fun j x hj => ⟨n, 0, rfl, fun i v hv => ?_⟩⟩
  rw [mem_pairs] at hv
  rw [Nat.zero_add]
  subst hC
  exact new_cell hz (by simpa using flat36_at c f l hf j i x v hj hv)
def pl36 (b : Nat) : Gm := ⟨⟨#[97]⟩, 1, 1, 3, 20, 0, 0, 0, 1, 3, 1, 0, 0, 0, 1, 5000, 1000, 1, 0, 0, none, 0, [], some ⟨b, 0, none⟩, 3, [⟨3, 0, 0, 0, 3, 2⟩, ⟨2, 0, 0, 0, 2, 1⟩, ⟨1, 0, 0, 0, 1, 300⟩]⟩
theorem pl36_ok (w : World) (b : Nat) (h : RdF 6 tiF w (.slice (some ⟨b, 0, none⟩) 3 3) (pl36 b).tiers) : (pl36 b).Ok w := by
  refine ⟨(by show 1 ≤ maxLen; unfold maxLen; omega), rfl, rfl, rfl, rfl, rfl, rfl, rfl, rfl, rfl, rfl, rfl, rfl, rfl, rfl, rfl, rfl, rfl, rfl, rfl, ⟨⟨none, 0, rfl, by simp [pl36], by simp, by simp [pl36]⟩, by simp [pl36]⟩, ⟨h, ?_⟩⟩
  intro x hx
  simp [pl36] at hx
  rcases hx with rfl | rfl | rfl <;> exact ⟨rfl, rfl, rfl, rfl, rfl, rfl⟩
abbrev zGm36 : Array Value := #[.string ⟨#[]⟩, .int .i64 0, .int .i64 0, .int .i64 0, .int .i64 0, .int .i64 0, .int .i64 0, .int .i64 0, .int .i64 0, .int .i64 0, .int .i64 0, .int .i64 0, .int .i64 0, .int .i64 0, .int .i64 0, .int .i64 0, .int .i64 0, .int .i64 0, .int .i64 0, .int .i64 0, .slice none 0 0, .slice none 0 0]
set_option maxRecDepth 20000 in
set_option maxHeartbeats 2000000 in
theorem plain36_any (w : World) : Calls Try.prog 49 #[] w fun e w' => ∃ b, e = .returned (pl36 b).val ∧ (pl36 b).Ok w' ∧ Fr [] w w' := by
  have hb : ∀ (w : World) (b : Nat), (Instr.build 25 #[(0, .string ⟨#[97]⟩), (1, .int .i64 1), (2, .int .i64 1), (3, .int .i64 3), (4, .int .i64 20), (8, .int .i64 1), (9, .int .i64 3), (10, .int .i64 1), (14, .int .i64 1), (15, .int .i64 5000), (16, .int .i64 1000), (17, .int .i64 1), (21, .slice (some ⟨b, 0, none⟩) 3 3)]).run Try.prog w = .ok (pl36 b).val w := fun w b => by kernel_rfl
  go_enter Try.func49, Try.ntmps49
  go_wp2_with (refine store_game rfl (.tmp 0) (.tmp 5) rfl w.heap.size rfl _ (heap_alloc2_old _ _ _) rfl (pl36 (w.heap.size + 1)) rfl ?_; intro w3 hg3 hz3 hf3)
  refine bodyPost_ret (v := (pl36 (w.heap.size + 1)).val) (by rw [Gm.val_eq]; exact results_cell_row rfl _ _ w.heap.size 25 _ (0, 0) _ rfl hg3 Try.underlying25 rfl infoGame) rfl ⟨_, rfl, ?_, ?_⟩
  · refine pl36_ok _ _ ?_
    have hr := rdf36_rows 6 Ti.cells (w := w.alloc (.cells zGm36 25)) (n := w.heap.size + 1) (by simp) (pl36 (w.heap.size + 1)).tiers 40 3 rfl (by omega) (by intro x hx; rfl) _ rfl
    exact hr.fr hf3 (by simp)
  · exact (((Fr.refl [] w).alloc _).alloc _).trans' hf3 (by simp)
theorem pl36_fund (b : Nat) : fuE (pl36 b) 2001 = 0 ∧ fuA (pl36 b) 2001 = 1000 ∧ fuB (pl36 b) 2001 = 100 := ⟨by kernel_rfl, by kernel_rfl, by kernel_rfl⟩
set_option maxRecDepth 20000 in
theorem funds_any (w : World) : Calls Try.prog 20 #[] w fun e w' => e = .returned (.bool true) ∧ Fr [] w w' := by
  have HF := Lib.hid (fun b w' h => fund_any (pl36 b) 2001 w' h)
  go_enter Try.func20, Try.ntmps20
  go_wp2_with fail
  refine (plain36_any _).mono ?_
  rintro e w1 ⟨b, rfl, hok, f1⟩
  go_wp2_with fail
  refine (HF.out b _ hok).mono ?_
  rintro e w2 ⟨rfl, f2⟩
  obtain ⟨k1, k2, k3⟩ := pl36_fund b
  rw [k1, k2, k3]
  have hF := f1.trans f2
  clear k1 k2 k3 hok f1 f2
  go_wp2_with fail
  go_ret
  exact ⟨rfl, hF⟩
end Go.Proofs.Ytdinjekpcgndmaa
/-
  LAYER 36: Same of equal pools, the sum of the pools of one sort; the program divides the fund of the chapter's example.
-/
set_option linter.unusedVariables false
namespace Go.Proofs.Ytdinjekpcgndmaa
open Go.RowKit
set_option maxHeartbeats 2000000 in
theorem sameInts_eq (v1 v2 : Value) (l : List Int) (w : World) (h1 : RdI w v1 l) (h2 : RdI w v2 l) : Calls Try.prog 73 #[v1, v2] w fun e w' => e = .returned (.bool true) ∧ Fr [] w w' := by
  obtain ⟨a1, c1, rfl, l1, m1, r1⟩ := h1
  obtain ⟨a2, c2, rfl, l2, m2, r2⟩ := h2
  unfold maxLen at m1 m2
  obtain ⟨n, hN⟩ : ∃ n, n = l.length := ⟨_, rfl⟩
  rw [← hN] at r1 r2 l1 l2 ⊢
  have R1 := Lib.hid r1
  have R2 := Lib.hid r2
  have e1 : ((n : Int) != (n : Int)) = false := by simp
  clear r1 r2 hN
  go_enter Try.func73, Try.ntmps73
  go_wp2_with fail
  go_loopw [5] (fun i wr => ∃ k : Nat, k ≤ n ∧ i = .int .i64 k ∧ Fr [] w wr) (fun i _ => n - (intOf i).toNat)
  case atStart => exact ⟨0, by omega, rfl, Fr.refl _ _⟩
  case round =>
    obtain ⟨k, hk, rfl, hf⟩ := hrel
    by_cases hlt : k < n
    · obtain ⟨g1, o1, rfl, k1⟩ := R1.out k hlt
      obtain ⟨g2, o2, rfl, k2⟩ := R2.out k hlt
      have k1' := hf.cell_some k1 (by simp)
      have k2' := hf.cell_some k2 (by simp)
      generalize l.getD k 0 = x at *
      have hkn : (k : Int) < (n : Int) := by omega
      have ex : (x != x) = false := by simp
      clear k1 k2
      go_wp2_with fail
      go_quiet (fail)
      have hf2 := Lib.hid (hf.drewN nq)
      generalize wr.drewN nq = w2 at *
      clear k1' k2' hf
      go_wp2_with fail
      go_roundw
      case rel => exact ⟨k + 1, by omega, by go_num, hf2.out⟩
      case measure => simp [intOf]; omega
    · obtain rfl : n = k := by omega
      go_wp2_with fail
      go_ret
      exact ⟨rfl, hf⟩
theorem same36_eq (v1 v2 : Value) (l : List Int) (s A B : Int) (w : World) (h1 : RdI w v1 l) (h2 : RdI w v2 l) : Calls Try.prog 30 #[.agg #[.int .i64 s, .int .i64 A, .int .i64 B, v1], .agg #[.int .i64 s, .int .i64 A, .int .i64 B, v2]] w fun e w' => e = .returned (.bool true) ∧ Fr [] w w' := by
  have hS := fun w' (h : Fr [] w w') => sameInts_eq v1 v2 l w' (h1.below h) (h2.below h)
  have HS := Lib.hid hS
  have e1 : (s == s) = true := by simp
  have e2 : (A == A) = true := by simp
  have e3 : (B == B) = true := by simp
  obtain ⟨a1, c1, rfl, l1, m1, r1⟩ := h1
  obtain ⟨a2, c2, rfl, l2, m2, r2⟩ := h2
  clear hS r1 r2
  go_enter Try.func30, Try.ntmps30
  go_wp2_with fail
  refine (HS.out _ (((Fr.refl [] _).alloc _).alloc _)).mono ?_
  rintro e w1 ⟨rfl, f1⟩
  have F := (((Fr.refl [] w).alloc (.cells #[.int .i64 s, .int .i64 A, .int .i64 B, .slice a1 l.length c1] 45)).alloc (.cells #[.int .i64 s, .int .i64 A, .int .i64 B, .slice a2 l.length c2] 45)).trans f1
  have HF := Lib.hid F
  clear F f1
  go_wp2_with fail
  go_ret
  exact ⟨rfl, HF.out⟩
theorem sumK_bd {T : List Ti} {fx : Bool} {l : List Int} (h : ∀ j, j < l.length → 0 ≤ l.getD j 0 ∧ l.getD j 0 ≤ 1000000000000) : ∀ k : Nat, k ≤ l.length → 0 ≤ sumK T fx l k ∧ sumK T fx l k ≤ 1000000000000 * k := by
  intro k
  induction k with
  | zero => intro _; simp [sumK]
  | succ k ih =>
    intro hk
    have a := ih (by omega)
    have b := h k (by omega)
    rw [sumK]
    push_cast
    split <;> omega
set_option maxRecDepth 20000 in
set_option maxHeartbeats 4000000 in
theorem sum36_any (g : Gm) (v : Value) (l : List Int) (fx : Bool) (w : World) (hok : g.Ok w) (h2 : RdI w v l) (hl : l.length = g.tiers.length) (hm : l.length ≤ 1000) (hb : ∀ j, j < l.length → 0 ≤ l.getD j 0 ∧ l.getD j 0 ≤ 1000000000000) :
    Calls Try.prog 32 #[g.val, v, .bool fx] w fun e w' => e = .returned (.int .i64 (sumK g.tiers fx l l.length)) ∧ Fr [] w w' := by
  have h21 : ∀ w b, GmAt w b g → w.cell? ⟨b, 21, none⟩ = some (.slice g.ta g.tiers.length g.tc) := fun w b h => h.cell 21 _ rfl
  obtain ⟨a2, c2, rfl, l2, m2, r2⟩ := h2
  unfold maxLen at m2
  have hkb := @sumK_bd g.tiers fx l hb
  rw [← hl] at h21
  have HL := Lib.hid hl
  have hsu : ∀ k, sumK g.tiers fx l (k + 1) = sumK g.tiers fx l k + if isK g.tiers fx k = true then l.getD k 0 else 0 := fun k => rfl
  obtain ⟨n, hN⟩ : ∃ n, n = l.length := ⟨_, rfl⟩
  rw [← hN] at r2 l2 h21 hkb hb hm ⊢
  have HN := Lib.hid hN
  have HR := Lib.hid r2
  have H21 := Lib.hid h21
  have HKB := Lib.hid hkb
  have HB := Lib.hid hb
  have HSU := Lib.hid hsu
  have HOK := Lib.hid hok
  clear hl hN r2 h21 hkb hb hsu hok
  go_enter Try.func32, Try.ntmps32
  go_upto_block 0 with (refine box_game rfl (.tmp 0) rfl g rfl ?_; intro w1 hg1 hz1 hf1; have c21 := H21.out _ _ hg1)
  have HF1 := Lib.hid hf1
  clear hg1 hz1 hf1
  go_wp2_with fail
  go_loop [8, 7] (fun i s => ∃ k : Nat, k ≤ n ∧ i = .int .i64 k ∧ s = .int .i64 (sumK g.tiers fx l k)) (fun i _ => n - (intOf i).toNat)
  case atStart => exact ⟨0, by omega, rfl, rfl⟩
  case round =>
    obtain ⟨k, hk, rfl, rfl⟩ := hrel
    by_cases hlt : k < n
    · obtain ⟨g1, o1, rfl, k1⟩ := HR.out k hlt
      have k1' := HF1.out.cell_some k1 (by simp)
      obtain ⟨t, ht⟩ : ∃ t, g.tiers[k]? = some t := ⟨_, List.getElem?_eq_getElem (by have := HL.out; have := HN.out; omega)⟩
      obtain ⟨bt, ot, hta, hct⟩ := RdF.at (f := Ti.cells) HOK.out.tiers.rd ht
      have c4 := HF1.out.cell_some (hct 4 _ rfl) (by simp)
      rw [hta] at c21
      have hkd := (kd_of ht).1
      have hkk : isK g.tiers fx k = (decide (t.kind = 1) == fx) := by unfold isK; rw [hkd]
      have hs := HSU.out k
      rw [hkk] at hs
      obtain ⟨tm, tb, te, to_, tk, tv⟩ := t
      simp only at c4 hs
      have hb1 := HKB.out k (by omega)
      have hb2 := HKB.out (k + 1) (by omega)
      have hx := HB.out k hlt
      have hkn : (k : Int) < (n : Int) := by omega
      by_cases h1 : tk = 1
      · cases fx
        · rw [if_neg (by simp [h1]), Int.add_zero] at hs
          have HS := Lib.hid hs
          rw [hs] at hb2
          have e1 : (tk == 1) = true := by simpa using h1
          clear hs h1 hkk hkd ht hta hct k1
          generalize l.getD k 0 = x at *
          generalize sumK g.tiers _ l k = s at *
          go_wp2_with fail
          go_round
          case rel => exact ⟨k + 1, by omega, by go_num, by rw [HS.out]⟩
          case measure => simp [intOf]; omega
        · rw [if_pos (by simp [h1])] at hs
          have HS := Lib.hid hs
          rw [hs] at hb2
          have e1 : (tk == 1) = true := by simpa using h1
          clear hs h1 hkk hkd ht hta hct k1
          generalize l.getD k 0 = x at *
          generalize sumK g.tiers _ l k = s at *
          go_wp2_with fail
          go_round
          case rel => exact ⟨k + 1, by omega, by go_num, by rw [HS.out]⟩
          case measure => simp [intOf]; omega
      · cases fx
        · rw [if_pos (by simp [h1])] at hs
          have HS := Lib.hid hs
          rw [hs] at hb2
          have e1 : (tk == 1) = false := by simpa using h1
          clear hs h1 hkk hkd ht hta hct k1
          generalize l.getD k 0 = x at *
          generalize sumK g.tiers _ l k = s at *
          go_wp2_with fail
          go_round
          case rel => exact ⟨k + 1, by omega, by go_num, by rw [HS.out]⟩
          case measure => simp [intOf]; omega
        · rw [if_neg (by simp [h1]), Int.add_zero] at hs
          have HS := Lib.hid hs
          rw [hs] at hb2
          have e1 : (tk == 1) = false := by simpa using h1
          clear hs h1 hkk hkd ht hta hct k1
          generalize l.getD k 0 = x at *
          generalize sumK g.tiers _ l k = s at *
          go_wp2_with fail
          go_round
          case rel => exact ⟨k + 1, by omega, by go_num, by rw [HS.out]⟩
          case measure => simp [intOf]; omega
    · obtain rfl : n = k := by omega
      have HF := HF1
      go_wp2_with fail
      go_ret
      exact ⟨rfl, HF.out⟩
theorem pl36_al (b : Nat) : alE (pl36 b) 2001 [0, 0, 2] [0, 0, 0] 0 0 = 0 ∧ alL (pl36 b) 2001 [0, 0, 2] [0, 0, 0] 0 0 = [200, 100, 600] ∧ ∀ v, alV (pl36 b) 2001 [0, 0, 2] [0, 0, 0] 0 0 v = .agg #[.int .i64 2001, .int .i64 1000, .int .i64 100, v] :=
  ⟨by kernel_rfl, by kernel_rfl, fun v => by kernel_rfl⟩
set_option maxRecDepth 20000 in
set_option maxHeartbeats 2000000 in
theorem lives36_any (w : World) : Calls Try.prog 31 #[] w fun e w' => e = .returned (.bool true) ∧ Fr [] w w' := by
  have HA := Lib.hid (fun b v2 vt w' h h2 h3 => alloc_any (pl36 b) 2001 v2 vt [0, 0, 2] [0, 0, 0] 0 0 w' h h2 h3)
  go_enter Try.func31, Try.ntmps31
  go_wp2_with fail
  refine (plain36_any _).mono ?_
  rintro e w1 ⟨b, rfl, hok, f1⟩
  go_wp2_with fail
  have hr1 : RdI (w1.alloc (.cells #[.int .i64 0, .int .i64 0, .int .i64 2] 3)) (.slice (some ⟨w1.heap.size, 0, none⟩) 3 3) [0, 0, 2] := rdi_mk rfl [0, 0, 2] 3 3 rfl (by omega)
  have hr2 : RdI ((w1.alloc (.cells #[.int .i64 0, .int .i64 0, .int .i64 2] 3)).alloc (.cells #[.int .i64 0, .int .i64 0, .int .i64 0] 3)) (.slice (some ⟨w1.heap.size + 1, 0, none⟩) 3 3) [0, 0, 0] := rdi_mk (by simp) [0, 0, 0] 3 3 rfl (by omega)
  have F2 : Fr [] w1 ((w1.alloc (.cells #[.int .i64 0, .int .i64 0, .int .i64 2] 3)).alloc (.cells #[.int .i64 0, .int .i64 0, .int .i64 0] 3)) := ((Fr.refl [] w1).alloc _).alloc _
  refine (HA.out b _ _ _ (hok.fr F2) (hr1.below ((Fr.refl [] _).alloc _)) hr2).mono ?_
  rintro e w3 ⟨v, rfl, ho, f3⟩
  obtain ⟨q1, q2, q3⟩ := pl36_al b
  rw [q3 v, q1]
  rw [q2] at ho
  obtain ⟨av, cv, rfl, _, _⟩ := ho.any
  have HF := Lib.hid ((f1.trans F2).trans f3)
  have HO := Lib.hid ho
  clear hr1 hr2 F2 f3 q1 q2 q3 ho f1 hok HA
  go_wp2_with fail
  have hr3 : RdI ((w3.alloc (.cells #[.int .i64 2001, .int .i64 1000, .int .i64 100, .slice av 3 cv] 45)).alloc (.cells #[.int .i64 200, .int .i64 100, .int .i64 600] 3)) (.slice (some ⟨w3.heap.size + 1, 0, none⟩) 3 3) [200, 100, 600] := rdi_mk (by simp) [200, 100, 600] 3 3 rfl (by omega)
  have F4 : Fr [] w3 ((w3.alloc (.cells #[.int .i64 2001, .int .i64 1000, .int .i64 100, .slice av 3 cv] 45)).alloc (.cells #[.int .i64 200, .int .i64 100, .int .i64 600] 3)) := ((Fr.refl [] w3).alloc _).alloc _
  refine (same36_eq _ _ [200, 100, 600] _ _ _ _ (HO.out.rd.below F4) hr3).mono ?_
  rintro e w5 ⟨rfl, f5⟩
  have HF5 := Lib.hid ((HF.out.trans F4).trans f5)
  clear hr3 F4 f5
  go_wp2_with fail
  go_ret
  exact ⟨rfl, HF5.out⟩
end Go.Proofs.Ytdinjekpcgndmaa
/-
  LAYER 38: the prize of a tier; what is drawn from the reserve fund; totals. LAYER 2: Even, Round.
-/
set_option linter.unusedVariables false
namespace Go.Proofs.Ytdinjekpcgndmaa
open Go.RowKit
set_option maxRecDepth 20000 in
set_option maxHeartbeats 1000000 in
theorem even_any (m n : Int) (w : World) (h1 : 0 ≤ m) (h2 : m ≤ 1000000000000) (h3 : 1 ≤ n) (h4 : n ≤ 1000000000000) : Calls Try.prog 104 #[.int .i64 m, .int .i64 n] w fun e w' => e = .returned (.tuple #[.int .i64 (m / n), .int .i64 (m % n), .int .i64 0]) ∧ Fr [] w w' := by
  have hV := mvalid_any m
  rw [inR_yes h1 h2] at hV
  have d1 : decide (n < 1) = false := by simp; omega
  have q0 : 0 ≤ m / n := Int.ediv_nonneg h1 (by omega)
  have q1 : m / n ≤ m := Int.ediv_le_self n h1
  have r0 := Int.emod_nonneg m (show n ≠ 0 by omega)
  have r1 := Int.emod_lt_of_pos m (show 0 < n by omega)
  have t1 : m.tdiv n = m / n := Int.tdiv_eq_ediv_of_nonneg h1
  have t2 : m.tmod n = m % n := Int.tmod_eq_emod_of_nonneg h1
  have v1 : IntKind.i64.wrap (m / n) = m / n := IntWalk.i64_in _ (by omega)
  have v2 : IntKind.i64.wrap (m % n) = m % n := IntWalk.i64_in _ (by omega)
  have e1 : (n == 0) = false := by simp; omega
  have HV := Lib.hid hV
  clear hV
  go_enter Try.func104, Try.ntmps104
  go_wp2_with fail
  refine (HV.out _).mono ?_
  rintro e w1 ⟨rfl, rfl⟩
  go_wp2_with fail
  go_quiet (fail)
  go_wp2_with fail
  exact bodyPost_ret (v := .tuple #[.int .i64 (m / n), .int .i64 (m % n), .int .i64 0]) (by simp [results, Try.results104, go_sem]) rfl ⟨rfl, (Fr.refl [] _).drewN _⟩
set_option maxRecDepth 20000 in
set_option maxHeartbeats 1000000 in
theorem round_any (m n : Int) (w : World) (h1 : 0 ≤ m) (h2 : m ≤ 1000000000000) (h3 : 1 ≤ n) (h4 : n ≤ 1000000000000) : Calls Try.prog 105 #[.int .i64 m, .int .i64 n] w fun e w' => e = .returned (.tuple #[.int .i64 (m - m % n), .int .i64 (m % n), .int .i64 0]) ∧ Fr [] w w' := by
  have hV := mvalid_any m
  rw [inR_yes h1 h2] at hV
  have d1 : decide (n < 1) = false := by simp; omega
  have d2 : decide (1000000000000 < n) = false := by simp; omega
  have r0 := Int.emod_nonneg m (show n ≠ 0 by omega)
  have r1 := Int.emod_lt_of_pos m (show 0 < n by omega)
  have t2 : m.tmod n = m % n := Int.tmod_eq_emod_of_nonneg h1
  have v2 : IntKind.i64.wrap (m % n) = m % n := IntWalk.i64_in _ (by omega)
  have v3 : IntKind.i64.wrap (m - m % n) = m - m % n := IntWalk.i64_in _ (by omega)
  have e1 : (n == 0) = false := by simp; omega
  have HV := Lib.hid hV
  clear hV
  go_enter Try.func105, Try.ntmps105
  go_wp2_with fail
  refine (HV.out _).mono ?_
  rintro e w1 ⟨rfl, rfl⟩
  go_wp2_with fail
  go_quiet (fail)
  go_wp2_with fail
  exact bodyPost_ret (v := .tuple #[.int .i64 (m - m % n), .int .i64 (m % n), .int .i64 0]) (by simp [results, Try.results105, go_sem]) rfl ⟨rfl, (Fr.refl [] _).drewN _⟩
set_option maxRecDepth 20000 in
set_option maxHeartbeats 4000000 in
theorem ptier_any (g : Gm) (f n : Int) (i : Nat) (w : World) (hok : g.Ok w) (hi : i < g.tiers.length) (hlen : g.tiers.length ≤ 12) (f0 : 0 ≤ f) (f1 : f ≤ 1000000000000) (n0 : 0 ≤ n) (n1 : n ≤ 2097152) (hv : 0 ≤ vl g.tiers i ∧ vl g.tiers i ≤ 1000000000) (hr : 1 ≤ g.round ∧ g.round ≤ 1000000) :
    Calls Try.prog 74 #[g.val, .int .i64 i, .int .i64 f, .int .i64 n] w fun e w' => e = .returned (.tuple #[.int .i64 (eaI g f n i), .int .i64 (eaI g f n i * n), .int .i64 (if n = 0 then 0 else f - eaI g f n i * n), .int .i64 0]) ∧ Fr [] w w' := by
  have hbd := ea_bd (g := g) (i := i) f0 n0 hv.1 hr.1
  by_cases hn : n = 0
  · subst hn
    have e0 : eaI g f 0 i = 0 := by unfold eaI; simp
    rw [e0]
    simp only [Int.mul_zero, if_true]
    clear e0 hbd
    go_enter Try.func74, Try.ntmps74
    go_wp2_with (first | (refine box_game rfl (.tmp 0) rfl g rfl ?_; intro w1 hg1 hz1 hf1))
    exact bodyPost_ret (v := .tuple #[.int .i64 0, .int .i64 0, .int .i64 0, .int .i64 0]) (by simp [results, Try.results74, go_sem]) rfl ⟨rfl, hf1⟩
  · rw [if_neg hn]
    have h21 : ∀ w b, GmAt w b g → w.cell? ⟨b, 21, none⟩ = some (.slice g.ta g.tiers.length g.tc) := fun w b h => h.cell 21 _ rfl
    have h17 : ∀ w b, GmAt w b g → w.cell? ⟨b, 17, none⟩ = some (.int .i64 g.round) := fun w b h => h.cell 17 _ rfl
    obtain ⟨t, ht⟩ : ∃ t, g.tiers[i]? = some t := ⟨_, List.getElem?_eq_getElem hi⟩
    obtain ⟨bt, ot, hta, hct⟩ := RdF.at (f := Ti.cells) hok.tiers.rd ht
    have hc4 := hct 4 _ rfl
    have hc5 := hct 5 _ rfl
    rw [hta] at h21
    obtain ⟨hkd, hvl⟩ := kd_of ht
    have hE : eaI g f n i = if t.kind = 1 then min (f / n) t.value else f / n - f / n % g.round := by unfold eaI; rw [if_neg hn, hkd, hvl]
    rw [hvl] at hv
    obtain ⟨tm, tb, te, to_, tk, tv⟩ := t
    simp only at hc4 hc5 hE hv
    have hEV := fun w => even_any f n w f0 f1 (by omega) (by omega)
    have q0 : 0 ≤ f / n := Int.ediv_nonneg f0 n0
    have q1 : f / n ≤ f := Int.ediv_le_self n f0
    have hRO := fun w => round_any (f / n) g.round w q0 (by omega) hr.1 (by omega)
    have m0 := Int.emod_nonneg (f / n) (show g.round ≠ 0 by omega)
    have en : (n == 0) = false := by simpa using hn
    obtain ⟨m, hm⟩ : ∃ m, m = g.tiers.length := ⟨_, rfl⟩
    rw [← hm] at h21 hlen hi
    generalize g.round = R at *
    generalize f / n = q at *
    generalize f % n = rr at *
    generalize q % R = qr at *
    have H21 := Lib.hid h21
    have H17 := Lib.hid h17
    have HEV := Lib.hid hEV
    have HRO := Lib.hid hRO
    have him : (i : Int) < (m : Int) := by omega
    clear h21 h17 hEV hRO hct hta ht hkd hvl hok hm hn
    by_cases h1 : tk = 1
    · rw [if_pos h1] at hE
      have e1 : (tk == 1) = true := by simpa using h1
      clear h1
      by_cases hle : q ≤ tv
      · have hE2 : eaI g f n i = q := by rw [hE]; omega
        rw [hE2] at hbd ⊢
        obtain ⟨b1, b2, b3, b4⟩ := hbd
        have w1 : IntKind.i64.wrap (q * n) = q * n := IntWalk.i64_in _ (by omega)
        have w2 : IntKind.i64.wrap (f - q * n) = f - q * n := IntWalk.i64_in _ (by omega)
        have emin : min q tv = q := by omega
        clear hE hE2
        go_enter Try.func74, Try.ntmps74
        go_wp2_with (first | (refine box_game rfl (.tmp 0) rfl g rfl ?_; intro w1 hg1 hz1 hf1))
        refine (HEV.out _).mono ?_
        rintro e w2 ⟨rfl, f2⟩
        have hg2 := hg1.fr f2 (by simp)
        have c21 := H21.out _ _ hg2
        have hF2 := hf1.trans f2
        have c4 := hF2.cell_some hc4 (by simp)
        have c5 := hF2.cell_some hc5 (by simp)
        clear hg1 hz1 hf1 f2 hg2 hc4 hc5
        go_wp2_with fail
        exact bodyPost_ret (v := .tuple #[.int .i64 q, .int .i64 (q * n), .int .i64 (f - q * n), .int .i64 0]) (by simp [results, Try.results74, go_sem]) rfl ⟨rfl, hF2⟩
      · have hE2 : eaI g f n i = tv := by rw [hE]; omega
        rw [hE2] at hbd ⊢
        obtain ⟨b1, b2, b3, b4⟩ := hbd
        have w1 : IntKind.i64.wrap (tv * n) = tv * n := IntWalk.i64_in _ (by omega)
        have w2 : IntKind.i64.wrap (f - tv * n) = f - tv * n := IntWalk.i64_in _ (by omega)
        have emin : min q tv = tv := by omega
        clear hE hE2
        go_enter Try.func74, Try.ntmps74
        go_wp2_with (first | (refine box_game rfl (.tmp 0) rfl g rfl ?_; intro w1 hg1 hz1 hf1))
        refine (HEV.out _).mono ?_
        rintro e w2 ⟨rfl, f2⟩
        have hg2 := hg1.fr f2 (by simp)
        have c21 := H21.out _ _ hg2
        have hF2 := hf1.trans f2
        have c4 := hF2.cell_some hc4 (by simp)
        have c5 := hF2.cell_some hc5 (by simp)
        clear hg1 hz1 hf1 f2 hg2 hc4 hc5
        go_wp2_with fail
        exact bodyPost_ret (v := .tuple #[.int .i64 tv, .int .i64 (tv * n), .int .i64 (f - tv * n), .int .i64 0]) (by simp [results, Try.results74, go_sem]) rfl ⟨rfl, hF2⟩
    · rw [if_neg h1] at hE
      have e1 : (tk == 1) = false := by simpa using h1
      rw [hE] at hbd ⊢
      obtain ⟨b1, b2, b3, b4⟩ := hbd
      generalize q - qr = x at *
      have w1 : IntKind.i64.wrap (x * n) = x * n := IntWalk.i64_in _ (by omega)
      have w2 : IntKind.i64.wrap (f - x * n) = f - x * n := IntWalk.i64_in _ (by omega)
      clear hE h1
      go_enter Try.func74, Try.ntmps74
      go_wp2_with (first | (refine box_game rfl (.tmp 0) rfl g rfl ?_; intro w1 hg1 hz1 hf1))
      refine (HEV.out _).mono ?_
      rintro e w2 ⟨rfl, f2⟩
      have hg2 := hg1.fr f2 (by simp)
      have c21 := H21.out _ _ hg2
      have c17 := H17.out _ _ hg2
      have hF2 := hf1.trans f2
      have c4 := hF2.cell_some hc4 (by simp)
      have c5 := hF2.cell_some hc5 (by simp)
      clear hg1 hz1 hf1 f2 hg2 hc4 hc5
      go_wp2_with fail
      refine (HRO.out _).mono ?_
      rintro e w3 ⟨rfl, f3⟩
      have hF3 := hF2.trans f3
      clear hF2 f3 c21 c17 c4 c5
      go_wp2_with fail
      exact bodyPost_ret (v := .tuple #[.int .i64 x, .int .i64 (x * n), .int .i64 (f - x * n), .int .i64 0]) (by simp [results, Try.results74, go_sem]) rfl ⟨rfl, hF3⟩
set_option maxRecDepth 20000 in
set_option maxHeartbeats 1000000 in
theorem total_any (v : Value) (l : List Int) (w : World) (hr : RdI w v l) (ha : amtB l = true) (hl : l.length ≤ 1000) : Calls Try.prog 76 #[v] w fun e w' => e = .returned (.int .i64 (sumTo l l.length)) ∧ w = w' := by
  obtain ⟨a2, c2, rfl, l2, m2, r2⟩ := hr
  have hkb := fun k : Nat => sumTo_bd ha k
  have hb := amtB_at ha
  have hsu : ∀ k, sumTo l (k + 1) = sumTo l k + l.getD k 0 := fun k => rfl
  obtain ⟨n, hN⟩ : ∃ n, n = l.length := ⟨_, rfl⟩
  rw [← hN] at r2 l2 hl ⊢
  have HR := Lib.hid r2
  have HKB := Lib.hid hkb
  have HB := Lib.hid hb
  have HSU := Lib.hid hsu
  clear hN r2 hkb hb hsu ha
  unfold maxLen at m2
  go_enter Try.func76, Try.ntmps76
  go_wp2_with fail
  go_loop [8, 3] (fun i s => ∃ k : Nat, k ≤ n ∧ i = .int .i64 k ∧ s = .int .i64 (sumTo l k)) (fun i _ => n - (intOf i).toNat)
  case atStart => exact ⟨0, by omega, rfl, rfl⟩
  case round =>
    obtain ⟨k, hk, rfl, rfl⟩ := hrel
    by_cases hlt : k < n
    · obtain ⟨g1, o1, rfl, k1⟩ := HR.out k hlt
      have hb1 := HKB.out k
      have hx := HB.out k
      have hs := HSU.out k
      have HS := Lib.hid hs
      have hkn : (k : Int) < (n : Int) := by omega
      clear hs
      generalize l.getD k 0 = x at *
      generalize sumTo l k = s at *
      go_wp2_with fail
      go_round
      case rel => exact ⟨k + 1, by omega, by go_num, by rw [HS.out]⟩
      case measure => simp [intOf]; omega
    · obtain rfl : n = k := by omega
      go_wp2_with fail
      go_ret
      exact ⟨rfl, rfl⟩
set_option maxRecDepth 20000 in
set_option maxHeartbeats 4000000 in
theorem drawn_any (g : Gm) (s A R : Int) (v : Value) (l : List Int) (w : World) (hok : g.Ok w) (h2 : RdI w v l) (hl : l.length = g.tiers.length) (hm : l.length ≤ 12) (hb : ∀ j, j < l.length → 0 ≤ l.getD j 0 ∧ l.getD j 0 ≤ 1000000000000) (a0 : 0 ≤ A) (a1 : A ≤ 1000000000000) (r0 : 0 ≤ g.reserve) (r1 : g.reserve ≤ 10000) :
    Calls Try.prog 75 #[g.val, .agg #[.int .i64 s, .int .i64 A, .int .i64 R, v]] w fun e w' => e = .returned (.tuple #[.int .i64 (max 0 (sumK g.tiers true l l.length - (A - A * g.reserve / 10000))), .int .i64 0]) ∧ Fr [] w w' := by
  have h21 : ∀ w b, GmAt w b g → w.cell? ⟨b, 21, none⟩ = some (.slice g.ta g.tiers.length g.tc) := fun w b h => h.cell 21 _ rfl
  have h16 : ∀ w b, GmAt w b g → w.cell? ⟨b, 16, none⟩ = some (.int .i64 g.reserve) := fun w b h => h.cell 16 _ rfl
  obtain ⟨k1, k2⟩ := pt_yes (inR_yes a0 a1) (inR_yes r0 r1)
  have hP := part_any A g.reserve
  rw [k1, k2] at hP
  obtain ⟨q1, q2⟩ := mulb a0 a1 r0 r1
  have b0 : 0 ≤ A * g.reserve / 10000 := Int.ediv_nonneg q1 (by omega)
  have b1 : A * g.reserve / 10000 ≤ A := by
    have : A * g.reserve ≤ A * 10000 := Int.mul_le_mul_of_nonneg_left r1 a0
    omega
  generalize A * g.reserve / 10000 = B at *
  obtain ⟨a2, c2, rfl, l2, m2, r2⟩ := h2
  unfold maxLen at m2
  have hkb := @sumK_bd g.tiers true l hb
  rw [← hl] at h21
  have HL := Lib.hid hl
  have hsu : ∀ k, sumK g.tiers true l (k + 1) = sumK g.tiers true l k + if isK g.tiers true k = true then l.getD k 0 else 0 := fun k => rfl
  obtain ⟨n, hN⟩ : ∃ n, n = l.length := ⟨_, rfl⟩
  rw [← hN] at r2 l2 h21 hkb hb hm ⊢
  obtain ⟨D, hD⟩ : ∃ D, D = max 0 (sumK g.tiers true l n - (A - B)) := ⟨_, rfl⟩
  rw [← hD]
  have HD := Lib.hid hD
  clear hD
  have HN := Lib.hid hN
  have HR := Lib.hid r2
  have H21 := Lib.hid h21
  have H16 := Lib.hid h16
  have HKB := Lib.hid hkb
  have HB := Lib.hid hb
  have HSU := Lib.hid hsu
  have HOK := Lib.hid hok
  have HP := Lib.hid hP
  clear hl hN r2 h21 h16 hkb hb hsu hok k1 k2 hP q1 q2
  generalize hgr : g.reserve = gr at *
  clear hgr
  go_enter Try.func75, Try.ntmps75
  go_upto_region 1 with (refine box_game rfl (.tmp 0) rfl g rfl ?_; intro w1 hg1 hz1 hf1)
  have d1 : (w1.alloc (.cells #[.int .i64 s, .int .i64 A, .int .i64 R, .slice a2 n c2] 45)).cell? ⟨w.heap.size + 1, 1, none⟩ = some (.int .i64 A) := new_cell hz1 rfl
  have d3 : (w1.alloc (.cells #[.int .i64 s, .int .i64 A, .int .i64 R, .slice a2 n c2] 45)).cell? ⟨w.heap.size + 1, 3, none⟩ = some (.slice a2 n c2) := new_cell hz1 rfl
  have hg2 := hg1.fr ((Fr.refl [] w1).alloc (.cells #[.int .i64 s, .int .i64 A, .int .i64 R, .slice a2 n c2] 45)) (by simp)
  have F2 := hf1.alloc (.cells #[.int .i64 s, .int .i64 A, .int .i64 R, .slice a2 n c2] 45)
  generalize w1.alloc (.cells #[.int .i64 s, .int .i64 A, .int .i64 R, .slice a2 n c2] 45) = x2 at *
  have c16 := H16.out _ _ hg2
  have c21 := H21.out _ _ hg2
  have HF2 := Lib.hid F2
  clear hg1 hz1 hf1 hg2 F2
  go_wp2_with fail
  refine (HP.out _).mono ?_
  rintro e w3 ⟨rfl, rfl⟩
  go_wp2_with fail
  go_loopw [25, 8] (fun i t wr => ∃ k : Nat, k ≤ n ∧ i = .int .i64 k ∧ t = .int .i64 (sumK g.tiers true l k) ∧ Fr [] x2 wr) (fun i _ _ => n - (intOf i).toNat)
  case atStart => exact ⟨0, by omega, rfl, rfl, Fr.refl _ _⟩
  case round =>
    obtain ⟨k, hk, rfl, rfl, hf⟩ := hrel
    have d1 := hf.cell_some d1 (by simp)
    have d3 := hf.cell_some d3 (by simp)
    have c21 := hf.cell_some c21 (by simp)
    have hF := HF2.out.trans hf
    by_cases hlt : k < n
    · obtain ⟨g1, o1, rfl, k1⟩ := HR.out k hlt
      have k1' := hF.cell_some k1 (by simp)
      obtain ⟨t, ht⟩ : ∃ t, g.tiers[k]? = some t := ⟨_, List.getElem?_eq_getElem (by have := HL.out; have := HN.out; omega)⟩
      obtain ⟨bt, ot, hta, hct⟩ := RdF.at (f := Ti.cells) HOK.out.tiers.rd ht
      have c0 := hF.cell_some (hct 0 _ rfl) (by simp)
      have c1 := hF.cell_some (hct 1 _ rfl) (by simp)
      have c2' := hF.cell_some (hct 2 _ rfl) (by simp)
      have c3 := hF.cell_some (hct 3 _ rfl) (by simp)
      have c4 := hF.cell_some (hct 4 _ rfl) (by simp)
      have c5 := hF.cell_some (hct 5 _ rfl) (by simp)
      rw [Nat.add_zero] at c0
      rw [hta] at c21 ⊢
      have hkd := (kd_of ht).1
      have hkk : isK g.tiers true k = decide (t.kind = 1) := by unfold isK; rw [hkd]; simp
      have hs := HSU.out k
      rw [hkk] at hs
      obtain ⟨tm, tb, te, to_, tk, tv⟩ := t
      simp only at c0 c1 c2' c3 c4 c5 hs
      have hb1 := HKB.out k (by omega)
      have hb2 := HKB.out (k + 1) (by omega)
      have hx := HB.out k hlt
      have hkn : (k : Int) < (n : Int) := by omega
      have HFr := Lib.hid (hf.alloc (.cells #[.int .i64 tm, .int .i64 tb, .int .i64 te, .int .i64 to_, .int .i64 tk, .int .i64 tv] 40))
      by_cases h1 : tk = 1
      · rw [if_pos (by simp [h1])] at hs
        have HS := Lib.hid hs
        rw [hs] at hb2
        have e1 : (tk == 1) = true := by simpa using h1
        clear hs h1 hkk hkd ht hta hct k1 hF hf
        generalize l.getD k 0 = x at *
        generalize sumK g.tiers _ l k = s at *
        go_upto_region 8 with (fail)
        have e5 : Fr [] wr (wr.alloc (.cells #[.int .i64 tm, .int .i64 tb, .int .i64 te, .int .i64 to_, .int .i64 tk, .int .i64 tv] 40)) := (Fr.refl [] wr).alloc _
        have q4 : (wr.alloc (.cells #[.int .i64 tm, .int .i64 tb, .int .i64 te, .int .i64 to_, .int .i64 tk, .int .i64 tv] 40)).cell? ⟨wr.heap.size, 4, none⟩ = some (.int .i64 tk) := new_cell rfl rfl
        have q3 := e5.cell_some d3 (by simp)
        have qx := e5.cell_some k1' (by simp)
        generalize wr.alloc (.cells #[.int .i64 tm, .int .i64 tb, .int .i64 te, .int .i64 to_, .int .i64 tk, .int .i64 tv] 40) = x5 at *
        clear e5 d1 d3 c21 c0 c1 c2' c3 c4 c5 k1'
        go_wp2_with fail
        go_roundw
        case rel => exact ⟨k + 1, by omega, by go_num, by rw [HS.out], HFr.out⟩
        case measure => simp [intOf]; omega
      · rw [if_neg (by simp [h1]), Int.add_zero] at hs
        have HS := Lib.hid hs
        rw [hs] at hb2
        have e1 : (tk == 1) = false := by simpa using h1
        clear hs h1 hkk hkd ht hta hct k1 hF hf
        generalize l.getD k 0 = x at *
        generalize sumK g.tiers _ l k = s at *
        go_upto_region 8 with (fail)
        have e5 : Fr [] wr (wr.alloc (.cells #[.int .i64 tm, .int .i64 tb, .int .i64 te, .int .i64 to_, .int .i64 tk, .int .i64 tv] 40)) := (Fr.refl [] wr).alloc _
        have q4 : (wr.alloc (.cells #[.int .i64 tm, .int .i64 tb, .int .i64 te, .int .i64 to_, .int .i64 tk, .int .i64 tv] 40)).cell? ⟨wr.heap.size, 4, none⟩ = some (.int .i64 tk) := new_cell rfl rfl
        have q3 := e5.cell_some d3 (by simp)
        have qx := e5.cell_some k1' (by simp)
        generalize wr.alloc (.cells #[.int .i64 tm, .int .i64 tb, .int .i64 te, .int .i64 to_, .int .i64 tk, .int .i64 tv] 40) = x5 at *
        clear e5 d1 d3 c21 c0 c1 c2' c3 c4 c5 k1'
        go_wp2_with fail
        go_roundw
        case rel => exact ⟨k + 1, by omega, by go_num, by rw [HS.out], HFr.out⟩
        case measure => simp [intOf]; omega
    · obtain rfl : n = k := by omega
      have hb1 := HKB.out n (by omega)
      generalize sumK g.tiers _ l n = S at *
      have HF := Lib.hid hF
      by_cases hlt0 : S - (A - B) ≤ 0
      · have e9 : D = 0 := by have := HD.out; omega
        subst e9
        clear HD
        have hz0 : S - (A - B) ≤ 0 := hlt0
        have em : max 0 (S - (A - B)) = 0 := by omega
        go_wp2_with fail
        go_ret2
        exact ⟨rfl, HF.out⟩
      · have e9 : D = S - (A - B) := by have := HD.out; omega
        subst e9
        clear HD
        have hz0 : 0 ≤ S - (A - B) := by omega
        have em : max 0 (S - (A - B)) = S - (A - B) := by omega
        go_wp2_with fail
        go_ret2
        exact ⟨rfl, HF.out⟩
end Go.Proofs.Ytdinjekpcgndmaa
/-
  LAYER 38: what Award leaves; its memory. Plain lemmas.
-/
set_option linter.unusedVariables false
namespace Go.Proofs.Ytdinjekpcgndmaa
open Go.RowKit
/-- a block that is known whole -/
def RowAt (x : World) (b : Nat) (T : TypeId) (l : List Value) : Prop := x.heap[b]? = some (.cells l.toArray T (0, 0))
theorem RowAt.lt {x : World} {b : Nat} {T : TypeId} {l : List Value} (h : RowAt x b T l) : b < x.heap.size := (Array.getElem?_eq_some_iff.1 h).1
theorem RowAt.cell {x : World} {b : Nat} {T : TypeId} {l : List Value} (h : RowAt x b T l) (i : Nat) (v : Value) (hv : l[i]? = some v) : x.cell? ⟨b, i, none⟩ = some v := by
  rw [cell_of_row x b i _ _ _ h]
  simpa using hv
theorem RowAt.frozen {x : World} {b : Nat} {T : TypeId} {l : List Value} (h : RowAt x b T l) (i : Nat) : x.frozen? ⟨b, i, none⟩ = false := by
  unfold RowAt at h
  simp [World.frozen?, h]
theorem RowAt.fr {bs : List Nat} {x y : World} {b : Nat} {T : TypeId} {l : List Value} (h : RowAt x b T l) (hf : Fr bs x y) (hn : b ∉ bs) : RowAt y b T l := (hf.block b h.lt hn).trans h
theorem RowAt.set {x : World} {b : Nat} {T : TypeId} {l : List Value} (h : RowAt x b T l) (i : Nat) (v : Value) : RowAt (x.setCell ⟨b, i, none⟩ v) b T (l.set i v) := by
  unfold RowAt at h ⊢
  simp [World.setCell, Array.getElem?_modify, h]
theorem RowAt.other {x : World} {b b' : Nat} {T : TypeId} {l : List Value} (h : RowAt x b T l) (hn : b ≠ b') (i : Nat) (v : Value) : RowAt (x.setCell ⟨b', i, none⟩ v) b T l :=
  h.fr ((Fr.refl [b'] x).setCell (.inl (by simp)) v) (by simpa using hn)
theorem RowAt.new {x : World} {n : Nat} (hz : x.heap.size = n) {C : Array Value} {T : TypeId} {l : List Value} (hl : C = l.toArray) : RowAt (x.alloc (.cells C T)) n T l := by
  subst hz; subst hl
  exact heap_alloc_new x _
/-- append in a plain region: the new slice is in the old row's block or in a new one -/
theorem app_iL {ops : Array Oper} {rest : List Oper} {o : Oper} {a : Act} {Q : Exit → Act → World → Prop} (w0 : World) (h0 : Nat) (hH : w0.heap.size = h0) (y : Int) (hgd : o.guard = none) (s x : Operand)
    (ho : o.op = .call { callee := .builtin .append, args := #[s, x], argTypes := #[31, 31] }) (base : Nat) (v : Value) (l : List Int) (hs : a.eval s = v) (hown : OwnI w0 base 3 v l)
    (hx : a.eval x = .slice (some ⟨h0, 0, none⟩) 1 1) (hl : l.length ≤ 1000000000) (hb : base ≤ w0.heap.size)
    (h : ∀ v' w', OwnI w' base 3 v' (l ++ [y]) → (∀ bs A, (∀ k, v.ownBlock = some k → k ∈ bs ∨ A.heap.size ≤ k) → Fr bs A w0 → Fr bs A w') → (∀ g, v'.ownBlock = some g → v.ownBlock = some g ∨ w0.heap.size ≤ g) → (∃ g cap, v' = .slice (some ⟨g, 0, none⟩) (l.length + 1) cap) → wpList Try.prog ops Q rest (a.put o.dst v') w') :
    wpList Try.prog ops Q (o :: rest) a (w0.alloc (.cells #[.int .i64 y] 3)) := by
  subst hH
  obtain ⟨i0, hi0, hz0, hz1, hz2⟩ := info_parts infoIntA
  have hown' : OwnI (w0.alloc (.cells #[.int .i64 y] 3)) base 3 v l := hown.fr ((Fr.refl [] w0).alloc _) (by simp)
  refine wpList_append_lies _ hgd s x 31 ho base 3 i0 (.int .i64 0) 1 8 Try.underlying31 hi0 hz0 hz1 hz2 rfl (by decide) v l.length (l.map (.int .i64)) hs hown' ⟨w0.heap.size, 0, none⟩ 1 1 [.int .i64 y] hx rfl (cell_one_new _ _ _) (by simp [Value.oneCell']) (by omega) (by unfold maxLen; omega) (by omega) (by simp; omega) _ rfl ?_
  intro g cap w' h1 h2 h3 _
  refine h _ w' ?_ ?_ ?_ ⟨g, cap, rfl⟩
  · unfold OwnI; simpa using h1
  · intro bs A hA hF
    exact (hF.alloc _).grown h2 hA
  · intro g' hg'
    have e : g = g' := by simpa [Value.ownBlock] using hg'
    subst e
    rcases h3 with h3 | h3
    · exact .inl h3
    · right; rw [h3]; simp
def awV1 (g : Gm) (s : Int) (cs ct : List Int) (cr cl : Int) (v : Value) : Value :=
  if awE g s cs ct cr cl = 0 then .agg #[.int .i64 s, .int .i64 (fuA g s), .int .i64 (alR g s cs cr), v] else .agg #[.int .i64 0, .int .i64 0, .int .i64 0, v]
def awV2 (g : Gm) (s : Int) (cs ct : List Int) (cr cl : Int) (vC vE vP vN : Value) : Value :=
  if awE g s cs ct cr cl = 0 then .agg #[vC, vE, vP, .int .i64 (awB g s cs ct cr cl), .int .i64 (awD g s cs cr), vN, .int .i64 (awR g s cs ct cr cl), .int .i64 (awN g s cs ct cr cl)]
  else .agg #[vC, vE, vP, .int .i64 0, .int .i64 0, vN, .int .i64 0, .int .i64 0]
def awZ (g : Gm) (s : Int) (cs ct : List Int) (cr cl : Int) (l : List Int) : List Int := if awE g s cs ct cr cl = 0 then l else []
def AwPost (g : Gm) (s : Int) (cs ct : List Int) (cr cl : Int) (w : World) (e : Ending) (w' : World) : Prop :=
  ∃ vT vC vE vP vN, e = .returned (.tuple #[awV1 g s cs ct cr cl vT, awV2 g s cs ct cr cl vC vE vP vN, .int .i64 (awE g s cs ct cr cl)]) ∧
    OwnI w' w.heap.size 3 vT (awZ g s cs ct cr cl (awT g s cs ct cr)) ∧ OwnI w' w.heap.size 3 vC (awZ g s cs ct cr cl cs) ∧ OwnI w' w.heap.size 3 vE (awZ g s cs ct cr cl (eaL g (awF g s cs ct cr cl) cs g.tiers.length)) ∧
    OwnI w' w.heap.size 3 vP (awZ g s cs ct cr cl (paL g (awF g s cs ct cr cl) cs g.tiers.length)) ∧ OwnI w' w.heap.size 3 vN (awZ g s cs ct cr cl (awC g s cs ct cr cl)) ∧ Fr [] w w'
section
variable {g : Gm} {s : Int} {cs ct : List Int} {cr cl : Int} {w : World}
theorem aw_err {E : Int} (h : awE g s cs ct cr cl = E) (h0 : E ≠ 0) : ∀ w', Fr [] w w' → AwPost g s cs ct cr cl w (.returned (.tuple #[.agg #[.int .i64 0, .int .i64 0, .int .i64 0, .slice none 0 0], .agg #[.slice none 0 0, .slice none 0 0, .slice none 0 0, .int .i64 0, .int .i64 0, .slice none 0 0, .int .i64 0, .int .i64 0], .int .i64 E])) w' := by
  intro w' hf
  subst h
  refine ⟨.slice none 0 0, .slice none 0 0, .slice none 0 0, .slice none 0 0, .slice none 0 0, ?_, ?_, ?_, ?_, ?_, ?_, hf⟩
  · unfold awV1 awV2; rw [if_neg h0, if_neg h0]
  all_goals (unfold awZ; rw [if_neg h0]; exact OwnI.nil _ _ _)
theorem aw_ok (h : awE g s cs ct cr cl = 0) : ∀ vT vC vE vP vN w', OwnI w' w.heap.size 3 vT (awT g s cs ct cr) → OwnI w' w.heap.size 3 vC cs → OwnI w' w.heap.size 3 vE (eaL g (awF g s cs ct cr cl) cs g.tiers.length) →
    OwnI w' w.heap.size 3 vP (paL g (awF g s cs ct cr cl) cs g.tiers.length) → OwnI w' w.heap.size 3 vN (awC g s cs ct cr cl) → Fr [] w w' →
    AwPost g s cs ct cr cl w (.returned (.tuple #[.agg #[.int .i64 s, .int .i64 (fuA g s), .int .i64 (alR g s cs cr), vT], .agg #[vC, vE, vP, .int .i64 (awB g s cs ct cr cl), .int .i64 (awD g s cs cr), vN, .int .i64 (awR g s cs ct cr cl), .int .i64 (awN g s cs ct cr cl)], .int .i64 0])) w' := by
  intro vT vC vE vP vN w' o1 o2 o3 o4 o5 hf
  refine ⟨vT, vC, vE, vP, vN, ?_, ?_, ?_, ?_, ?_, ?_, hf⟩
  · unfold awV1 awV2; rw [if_pos h, if_pos h, h]
  all_goals (unfold awZ; rw [if_pos h]; assumption)
theorem awE_1 (h : alE g s cs ct cr cl ≠ 0) : awE g s cs ct cr cl = alE g s cs ct cr cl := by unfold awE; rw [if_pos h]
theorem awE_2 (h : alE g s cs ct cr cl = 0) (h2 : capE g (awT g s cs ct cr) ≠ 0) : awE g s cs ct cr cl = capE g (awT g s cs ct cr) := by unfold awE; rw [if_neg (by omega), if_pos h2]
theorem awE_3 (h : alE g s cs ct cr cl = 0) (h2 : capE g (awT g s cs ct cr) = 0) (h3 : flE g (capL g (awT g s cs ct cr)) cs cl ≠ 0) : awE g s cs ct cr cl = flE g (capL g (awT g s cs ct cr)) cs cl := by unfold awE; rw [if_neg (by omega), if_neg (by omega), if_pos h3]
theorem awE_4 (h : alE g s cs ct cr cl = 0) (h2 : capE g (awT g s cs ct cr) = 0) (h3 : flE g (capL g (awT g s cs ct cr)) cs cl = 0) (h4 : 1000000000000 < awR g s cs ct cr cl ∨ 1000000000000 < sumTo (awC g s cs ct cr cl) g.tiers.length) : awE g s cs ct cr cl = 9 := by
  unfold awE; rw [if_neg (by omega), if_neg (by omega), if_neg (by omega), if_pos h4]
theorem awE_5 (h : alE g s cs ct cr cl = 0) (h2 : capE g (awT g s cs ct cr) = 0) (h3 : flE g (capL g (awT g s cs ct cr)) cs cl = 0) (h4 : ¬ (1000000000000 < awR g s cs ct cr cl ∨ 1000000000000 < sumTo (awC g s cs ct cr cl) g.tiers.length)) : awE g s cs ct cr cl = 0 := by
  unfold awE; rw [if_neg (by omega), if_neg (by omega), if_neg (by omega), if_neg h4]
end
abbrev aw0 : List Value := [.slice none 0 0, .slice none 0 0, .slice none 0 0, .int .i64 0, .int .i64 0, .slice none 0 0, .int .i64 0, .int .i64 0]
/-- the memory of Award behind its first statement -/
structure AwM (g : Gm) (vt : Value) (cr cl : Int) (w x : World) : Prop where
  hg : GmAt x w.heap.size g
  fr : Fr [] w x
  size : w.heap.size + 4 ≤ x.heap.size
  c : RowAt x (w.heap.size + 1) 43 [vt, .int .i64 cr, .int .i64 cl]
  p : RowAt x (w.heap.size + 2) 45 [.int .i64 0, .int .i64 0, .int .i64 0, .slice none 0 0]
  a : RowAt x (w.heap.size + 3) 60 aw0
theorem AwM.go {g : Gm} {vt : Value} {cr cl : Int} {w x y : World} {bs : List Nat} (h : AwM g vt cr cl w x) (k : Fr bs x y) (hb : ∀ i ∈ bs, w.heap.size + 4 ≤ i) : AwM g vt cr cl w y := by
  have n0 : w.heap.size ∉ bs := fun hm => by have := hb _ hm; omega
  have n1 : w.heap.size + 1 ∉ bs := fun hm => by have := hb _ hm; omega
  have n2 : w.heap.size + 2 ∉ bs := fun hm => by have := hb _ hm; omega
  have n3 : w.heap.size + 3 ∉ bs := fun hm => by have := hb _ hm; omega
  exact ⟨h.hg.fr k n0, h.fr.trans' k (fun i hi => .inr (by have := hb i hi; omega)), Nat.le_trans h.size k.size, h.c.fr k n1, h.p.fr k n2, h.a.fr k n3⟩
theorem awM_start {g : Gm} {vt : Value} {cr cl : Int} {w w1 : World} (hg : GmAt w1 w.heap.size g) (hz : w1.heap.size = w.heap.size + 1) (hf : Fr [] w w1) :
    AwM g vt cr cl w (((w1.alloc (.cells #[vt, .int .i64 cr, .int .i64 cl] 43)).alloc (.cells #[.int .i64 0, .int .i64 0, .int .i64 0, .slice none 0 0] 45)).alloc (.cells #[.slice none 0 0, .slice none 0 0, .slice none 0 0, .int .i64 0, .int .i64 0, .slice none 0 0, .int .i64 0, .int .i64 0] 60)) :=
  ⟨hg.fr ((((Fr.refl [] _).alloc _).alloc _).alloc _) (by simp), ((hf.alloc _).alloc _).alloc _, by simp [hz],
   (RowAt.new hz rfl).fr (((Fr.refl [] _).alloc _).alloc _) (by simp), (RowAt.new (by simp [hz]) rfl).fr ((Fr.refl [] _).alloc _) (by simp), RowAt.new (by simp [hz]) rfl⟩
/-- the results' cells, stored whole -/
theorem put_p {x : World} {b : Nat} {T : TypeId} {l : List Value} (h : RowAt x b T l) (hl : l.length = 4) (v0 v1 v2 v3 : Value) :
    RowAt ((((x.setCell ⟨b, 0, none⟩ v0).setCell ⟨b, 1, none⟩ v1).setCell ⟨b, 2, none⟩ v2).setCell ⟨b, 3, none⟩ v3) b T [v0, v1, v2, v3] := by
  match l, hl with
  | [a0, a1, a2, a3], _ => exact (((h.set 0 v0).set 1 v1).set 2 v2).set 3 v3
theorem put_a {x : World} {b : Nat} {T : TypeId} {l : List Value} (h : RowAt x b T l) (hl : l.length = 8) (v0 v1 v2 v3 v4 v5 v6 v7 : Value) :
    RowAt ((((((((x.setCell ⟨b, 0, none⟩ v0).setCell ⟨b, 1, none⟩ v1).setCell ⟨b, 2, none⟩ v2).setCell ⟨b, 3, none⟩ v3).setCell ⟨b, 4, none⟩ v4).setCell ⟨b, 5, none⟩ v5).setCell ⟨b, 6, none⟩ v6).setCell ⟨b, 7, none⟩ v7) b T [v0, v1, v2, v3, v4, v5, v6, v7] := by
  match l, hl with
  | [a0, a1, a2, a3, a4, a5, a6, a7], _ => exact (((((((h.set 0 v0).set 1 v1).set 2 v2).set 3 v3).set 4 v4).set 5 v5).set 6 v6).set 7 v7
theorem fr4 {x : World} {b : Nat} (v0 v1 v2 v3 : Value) : Fr [b] x ((((x.setCell ⟨b, 0, none⟩ v0).setCell ⟨b, 1, none⟩ v1).setCell ⟨b, 2, none⟩ v2).setCell ⟨b, 3, none⟩ v3) :=
  ((((Fr.refl [b] x).setCell (.inl (by simp)) _).setCell (.inl (by simp)) _).setCell (.inl (by simp)) _).setCell (.inl (by simp)) _
theorem fr8 {x : World} {b : Nat} (v0 v1 v2 v3 v4 v5 v6 v7 : Value) : Fr [b] x ((((((((x.setCell ⟨b, 0, none⟩ v0).setCell ⟨b, 1, none⟩ v1).setCell ⟨b, 2, none⟩ v2).setCell ⟨b, 3, none⟩ v3).setCell ⟨b, 4, none⟩ v4).setCell ⟨b, 5, none⟩ v5).setCell ⟨b, 6, none⟩ v6).setCell ⟨b, 7, none⟩ v7) :=
  ((((((((Fr.refl [b] x).setCell (.inl (by simp)) _).setCell (.inl (by simp)) _).setCell (.inl (by simp)) _).setCell (.inl (by simp)) _).setCell (.inl (by simp)) _).setCell (.inl (by simp)) _).setCell (.inl (by simp)) _).setCell (.inl (by simp)) _
structure AwEnd (w y : World) (b : Nat) (x : World) (p0 p1 p2 p3 a0 a1 a2 a3 a4 a5 a6 a7 : Value) : Prop where
  p : RowAt y (b + 2) 45 [p0, p1, p2, p3]
  a : RowAt y (b + 3) 60 [a0, a1, a2, a3, a4, a5, a6, a7]
  fr : Fr [b + 2, b + 3] x y
theorem awEnd {g : Gm} {vt : Value} {cr cl : Int} {w x : World} (h : AwM g vt cr cl w x) (p0 p1 p2 p3 a0 a1 a2 a3 a4 a5 a6 a7 : Value) :
    AwEnd w ((((((((((((x.setCell ⟨w.heap.size + 2, 0, none⟩ p0).setCell ⟨w.heap.size + 2, 1, none⟩ p1).setCell ⟨w.heap.size + 2, 2, none⟩ p2).setCell ⟨w.heap.size + 2, 3, none⟩ p3).setCell ⟨w.heap.size + 3, 0, none⟩ a0).setCell ⟨w.heap.size + 3, 1, none⟩ a1).setCell ⟨w.heap.size + 3, 2, none⟩ a2).setCell ⟨w.heap.size + 3, 3, none⟩ a3).setCell ⟨w.heap.size + 3, 4, none⟩ a4).setCell ⟨w.heap.size + 3, 5, none⟩ a5).setCell ⟨w.heap.size + 3, 6, none⟩ a6).setCell ⟨w.heap.size + 3, 7, none⟩ a7) w.heap.size x p0 p1 p2 p3 a0 a1 a2 a3 a4 a5 a6 a7 := by
  have h1 := put_p h.p rfl p0 p1 p2 p3
  have f1 := fr4 (x := x) (b := w.heap.size + 2) p0 p1 p2 p3
  have h2 := h.a.fr f1 (by simp)
  exact ⟨h1.fr (fr8 (b := w.heap.size + 3) a0 a1 a2 a3 a4 a5 a6 a7) (by simp), put_a h2 rfl a0 a1 a2 a3 a4 a5 a6 a7, (f1.mono (by simp)).trans ((fr8 a0 a1 a2 a3 a4 a5 a6 a7).mono (by simp))⟩
theorem awEnd' {g : Gm} {vt : Value} {cr cl : Int} {w x : World} (h : AwM g vt cr cl w x) (p0 p1 p2 p3 a0 a1 a2 a3 a4 a5 a6 a7 : Value) :
    AwEnd w ((((((((((((x.setCell ⟨w.heap.size + 3, 0, none⟩ a0).setCell ⟨w.heap.size + 3, 1, none⟩ a1).setCell ⟨w.heap.size + 3, 2, none⟩ a2).setCell ⟨w.heap.size + 3, 3, none⟩ a3).setCell ⟨w.heap.size + 3, 4, none⟩ a4).setCell ⟨w.heap.size + 3, 5, none⟩ a5).setCell ⟨w.heap.size + 3, 6, none⟩ a6).setCell ⟨w.heap.size + 3, 7, none⟩ a7).setCell ⟨w.heap.size + 2, 0, none⟩ p0).setCell ⟨w.heap.size + 2, 1, none⟩ p1).setCell ⟨w.heap.size + 2, 2, none⟩ p2).setCell ⟨w.heap.size + 2, 3, none⟩ p3) w.heap.size x p0 p1 p2 p3 a0 a1 a2 a3 a4 a5 a6 a7 := by
  have h1 := put_a h.a rfl a0 a1 a2 a3 a4 a5 a6 a7
  have f1 := fr8 (x := x) (b := w.heap.size + 3) a0 a1 a2 a3 a4 a5 a6 a7
  have h2 := h.p.fr f1 (by simp)
  exact ⟨put_p h2 rfl p0 p1 p2 p3, h1.fr (fr4 (b := w.heap.size + 2) p0 p1 p2 p3) (by simp), (f1.mono (by simp)).trans ((fr4 p0 p1 p2 p3).mono (by simp))⟩
theorem AwEnd.old {w x y : World} {p0 p1 p2 p3 a0 a1 a2 a3 a4 a5 a6 a7 : Value} (h : AwEnd w y w.heap.size x p0 p1 p2 p3 a0 a1 a2 a3 a4 a5 a6 a7) (hf : Fr [] w x) : Fr [] w y :=
  hf.trans' h.fr (by intro i hi; simp at hi; right; omega)
/-- the memory of Award's loop: the award lies in block q -/
structure AwW (x0 : World) (q base : Nat) (vC vE vP : Value) (br : Int) (lE lP : List Int) (x : World) : Prop where
  fr : Fr [q] x0 x
  row : RowAt x q 60 [vC, vE, vP, .int .i64 br, .int .i64 0, .slice none 0 0, .int .i64 0, .int .i64 0]
  oE : OwnI x base 3 vE lE
  oP : OwnI x base 3 vP lP
  ne : ∀ b, vE.ownBlock = some b → vP.ownBlock = some b → False
section
variable {x0 x y : World} {q base : Nat} {vC vE vP v' : Value} {br e : Int} {lE lP : List Int}
theorem AwW.go (h : AwW x0 q base vC vE vP br lE lP x) (k : Fr [] x y) : AwW x0 q base vC vE vP br lE lP y :=
  ⟨h.fr.trans (k.mono (by simp)), h.row.fr k (by simp), h.oE.fr k (by simp), h.oP.fr k (by simp), h.ne⟩
theorem AwW.size (h : AwW x0 q base vC vE vP br lE lP x) (hb : base = x0.heap.size) : base ≤ x.heap.size := by rw [hb]; exact h.fr.size
theorem AwW.appE (h : AwW x0 q base vC vE vP br lE lP x) (hb : base = x0.heap.size) (hq : q < base) (ho : OwnI y base 3 v' (lE ++ [e])) (hf : ∀ bs A, (∀ k, vE.ownBlock = some k → k ∈ bs ∨ A.heap.size ≤ k) → Fr bs A x → Fr bs A y)
    (hl : ∀ g, v'.ownBlock = some g → vE.ownBlock = some g ∨ x.heap.size ≤ g) : AwW x0 q base vC v' vP br (lE ++ [e]) lP (y.setCell ⟨q, 1, none⟩ v') ∧ RowAt y q 60 [vC, vE, vP, .int .i64 br, .int .i64 0, .slice none 0 0, .int .i64 0, .int .i64 0] := by
  have f1 : Fr [q] x0 y := hf [q] x0 (fun k hk => .inr (by have := (h.oE.block k hk).1; omega)) h.fr
  have f2 : Fr vE.ownBlock.toList x y := hf _ x (fun k hk => .inl (by rw [hk]; simp)) (Fr.refl _ _)
  have hnq : q ∉ vE.ownBlock.toList := fun hm => by have := (h.oE.block q (by simpa using hm)).1; omega
  have hr := h.row.fr f2 hnq
  have f3 : Fr [q] y (y.setCell ⟨q, 1, none⟩ v') := (Fr.refl _ _).setCell (.inl (by simp)) _
  have hqo : ∀ k, v'.ownBlock = some k → k ∉ [q] := fun k hk => by have := (ho.block k hk).1; simp; omega
  have hqp : ∀ k, vP.ownBlock = some k → k ∉ [q] := fun k hk => by have := (h.oP.block k hk).1; simp; omega
  refine ⟨⟨f1.trans f3, hr.set 1 v', ho.fr f3 hqo, (h.oP.fr f2 (fun k hk hm => h.ne k (by simpa using hm) hk)).fr f3 hqp, fun b h1 h2 => ?_⟩, hr⟩
  rcases hl b h1 with h3 | h3
  · exact h.ne b h3 h2
  · have := (h.oP.block b h2).2; omega
theorem AwW.appP (h : AwW x0 q base vC vE vP br lE lP x) (hb : base = x0.heap.size) (hq : q < base) (ho : OwnI y base 3 v' (lP ++ [e])) (hf : ∀ bs A, (∀ k, vP.ownBlock = some k → k ∈ bs ∨ A.heap.size ≤ k) → Fr bs A x → Fr bs A y)
    (hl : ∀ g, v'.ownBlock = some g → vP.ownBlock = some g ∨ x.heap.size ≤ g) : AwW x0 q base vC vE v' br lE (lP ++ [e]) (y.setCell ⟨q, 2, none⟩ v') ∧ RowAt y q 60 [vC, vE, vP, .int .i64 br, .int .i64 0, .slice none 0 0, .int .i64 0, .int .i64 0] := by
  have f1 : Fr [q] x0 y := hf [q] x0 (fun k hk => .inr (by have := (h.oP.block k hk).1; omega)) h.fr
  have f2 : Fr vP.ownBlock.toList x y := hf _ x (fun k hk => .inl (by rw [hk]; simp)) (Fr.refl _ _)
  have hnq : q ∉ vP.ownBlock.toList := fun hm => by have := (h.oP.block q (by simpa using hm)).1; omega
  have hr := h.row.fr f2 hnq
  have f3 : Fr [q] y (y.setCell ⟨q, 2, none⟩ v') := (Fr.refl _ _).setCell (.inl (by simp)) _
  have hqo : ∀ k, v'.ownBlock = some k → k ∉ [q] := fun k hk => by have := (ho.block k hk).1; simp; omega
  have hqe : ∀ k, vE.ownBlock = some k → k ∉ [q] := fun k hk => by have := (h.oE.block k hk).1; simp; omega
  refine ⟨⟨f1.trans f3, hr.set 2 v', (h.oE.fr f2 (fun k hk hm => h.ne k hk (by simpa using hm))).fr f3 hqe, ho.fr f3 hqo, fun b h1 h2 => ?_⟩, hr⟩
  rcases hl b h2 with h3 | h3
  · exact h.ne b h1 h3
  · have := (h.oE.block b h1).2; omega
theorem AwW.addB (h : AwW x0 q base vC vE vP br lE lP x) (hq : q < base) (z : Int) : AwW x0 q base vC vE vP z lE lP (x.setCell ⟨q, 3, none⟩ (.int .i64 z)) := by
  have f3 : Fr [q] x (x.setCell ⟨q, 3, none⟩ (.int .i64 z)) := (Fr.refl _ _).setCell (.inl (by simp)) _
  exact ⟨h.fr.trans f3, h.row.set 3 _, h.oE.fr f3 (fun k hk => by have := (h.oE.block k hk).1; simp; omega), h.oP.fr f3 (fun k hk => by have := (h.oP.block k hk).1; simp; omega), h.ne⟩
end
end Go.Proofs.Ytdinjekpcgndmaa
/-
  LAYER 36: Start.
-/
set_option linter.unusedVariables false
namespace Go.Proofs.Ytdinjekpcgndmaa
open Go.RowKit
def stL (g : Gm) : List Int := if chkE g = 0 then List.replicate g.tiers.length 0 else []
def StPost (g : Gm) (w : World) (e : Ending) (w' : World) : Prop := ∃ v, e = .returned (.agg #[v, .int .i64 0, .int .i64 0]) ∧ OwnI w' w.heap.size 3 v (stL g) ∧ Fr [] w w'
set_option maxRecDepth 20000 in
set_option maxHeartbeats 4000000 in
theorem start_any (g : Gm) (w : World) (hok : g.Ok w) : Calls Try.prog 33 #[g.val] w (StPost g w) := by
  have hK := fun w' (h : Fr [] w w') => check_any g w' (hok.fr h)
  unfold ChkPost at hK
  have h21 : ∀ w b, GmAt w b g → w.cell? ⟨b, 21, none⟩ = some (.slice g.ta g.tiers.length g.tc) := fun w b h => h.cell 21 _ rfl
  have hpost : ∀ v w', OwnI w' w.heap.size 3 v (stL g) → Fr [] w w' → StPost g w (.returned (.agg #[v, .int .i64 0, .int .i64 0])) w' := fun v w' h k => ⟨v, rfl, h, k⟩
  have hlt := hok.tiers.rd.len.2
  by_cases h0 : chkE g = 0
  · have hn12 := (game_len h0).2
    have hsl : stL g = List.replicate g.tiers.length 0 := by unfold stL; rw [if_pos h0]
    rw [h0] at hK
    rw [hsl] at hpost
    obtain ⟨n, hN⟩ : ∃ n, n = g.tiers.length := ⟨_, rfl⟩
    rw [← hN] at hn12 h21 hpost hlt
    have hmk := fun w => run_make_row' (P := Try.prog) 31 3 (.int .i64 0) 8 Try.underlying31 infoIntS rfl .i64 .i64 n (by omega) (by omega) w
    have HK := Lib.hid hK
    have HPOST := Lib.hid hpost
    have H21 := Lib.hid h21
    clear hK h21 hpost h0 hsl hN hok
    go_enter Try.func33, Try.ntmps33
    go_upto_region 1 with (refine box_game rfl (.tmp 0) rfl g rfl ?_; intro w1 hg1 hz1 hf1)
    have hr : RowAt (w1.alloc (.cells #[.slice none 0 0, .int .i64 0, .int .i64 0] 43)) (w.heap.size + 1) 43 [.slice none 0 0, .int .i64 0, .int .i64 0] := RowAt.new hz1 rfl
    have hg2 := hg1.fr ((Fr.refl [] w1).alloc (.cells #[.slice none 0 0, .int .i64 0, .int .i64 0] 43)) (by simp)
    have hf2 := hf1.alloc (.cells #[.slice none 0 0, .int .i64 0, .int .i64 0] 43)
    generalize w1.alloc (.cells #[.slice none 0 0, .int .i64 0, .int .i64 0] 43) = x2 at *
    clear hg1 hz1 hf1
    go_wp2_with (refine load_game rfl (.tmp 1) rfl _ rfl g hg2 ?_)
    refine (HK.out _ hf2).mono ?_
    rintro e w3 ⟨S, rfl, _, f3⟩
    have hg3 := hg2.fr f3 (by simp)
    have hr3 := hr.fr f3 (by simp)
    have hf3 := hf2.trans f3
    have c21 := H21.out _ _ hg3
    have ho := OwnI.made w3 n 3 hlt
    have fa : Fr [] w3 (w3.alloc (.cells (madeCells #[.int .i64 0] n) 3)) := (Fr.refl [] w3).alloc _
    have hr4 := hr3.fr fa (by simp)
    have c0 := hr4.cell 0 _ rfl
    have c1 := hr4.cell 1 _ rfl
    have c2 := hr4.cell 2 _ rfl
    have cf := fun i => hr4.frozen i
    have hset := ((hr4.set 0 (.slice (some ⟨w3.heap.size, 0, none⟩) n n)).set 1 (.int .i64 0)).set 2 (.int .i64 0)
    have hlt3 := hr3.lt
    have hfin := HPOST.out (.slice (some ⟨w3.heap.size, 0, none⟩) n n) ((((w3.alloc (.cells (madeCells #[.int .i64 0] n) 3)).setCell ⟨w.heap.size + 1, 0, none⟩ (.slice (some ⟨w3.heap.size, 0, none⟩) n n)).setCell ⟨w.heap.size + 1, 1, none⟩ (.int .i64 0)).setCell ⟨w.heap.size + 1, 2, none⟩ (.int .i64 0))
      ((ho.mono hf3.size).fr ((((Fr.refl [w.heap.size + 1] _).setCell (.inl (by simp)) _).setCell (.inl (by simp)) _).setCell (.inl (by simp)) _) (fun k hk => by simp [Value.ownBlock] at hk; subst hk; simp; omega))
      ((((hf3.trans fa).setCell (.inr (by show _ ≤ w.heap.size + 1; omega)) _).setCell (.inr (by show _ ≤ w.heap.size + 1; omega)) _).setCell (.inr (by show _ ≤ w.heap.size + 1; omega)) _)
    have HFIN := Lib.hid hfin
    have HSET := Lib.hid hset
    clear hg2 hr hf2 f3 hg3 hr3 hf3 ho fa hr4 hset hfin hlt3
    go_wp2_with fail
    have k0 := HSET.out.cell 0 _ rfl
    have k1 := HSET.out.cell 1 _ rfl
    have k2 := HSET.out.cell 2 _ rfl
    exact bodyPost_ret (v := .agg #[.slice (some ⟨w3.heap.size, 0, none⟩) n n, .int .i64 0, .int .i64 0]) (by simp [results, Try.results33, go_sem, k0, k1, k2]) rfl HFIN.out
  · have hsl : stL g = [] := by unfold stL; rw [if_neg h0]
    have e0 : (chkE g != 0) = true := by simpa using h0
    rw [hsl] at hpost
    generalize chkE g = ce at *
    have HK := Lib.hid hK
    have HPOST := Lib.hid hpost
    clear hK h21 hpost h0 hsl hok
    go_enter Try.func33, Try.ntmps33
    go_upto_region 1 with (refine box_game rfl (.tmp 0) rfl g rfl ?_; intro w1 hg1 hz1 hf1)
    have hr : RowAt (w1.alloc (.cells #[.slice none 0 0, .int .i64 0, .int .i64 0] 43)) (w.heap.size + 1) 43 [.slice none 0 0, .int .i64 0, .int .i64 0] := RowAt.new hz1 rfl
    have hg2 := hg1.fr ((Fr.refl [] w1).alloc (.cells #[.slice none 0 0, .int .i64 0, .int .i64 0] 43)) (by simp)
    have hf2 := hf1.alloc (.cells #[.slice none 0 0, .int .i64 0, .int .i64 0] 43)
    generalize w1.alloc (.cells #[.slice none 0 0, .int .i64 0, .int .i64 0] 43) = x2 at *
    clear hg1 hz1 hf1
    go_wp2_with (refine load_game rfl (.tmp 1) rfl _ rfl g hg2 ?_)
    refine (HK.out _ hf2).mono ?_
    rintro e w3 ⟨S, rfl, _, f3⟩
    have hr3 := hr.fr f3 (by simp)
    have hf3 := hf2.trans f3
    have c0 := hr3.cell 0 _ rfl
    have c1 := hr3.cell 1 _ rfl
    have c2 := hr3.cell 2 _ rfl
    have cf := fun i => hr3.frozen i
    have hset := ((hr3.set 0 (.slice none 0 0)).set 1 (.int .i64 0)).set 2 (.int .i64 0)
    have hfin := HPOST.out (.slice none 0 0) (((w3.setCell ⟨w.heap.size + 1, 0, none⟩ (.slice none 0 0)).setCell ⟨w.heap.size + 1, 1, none⟩ (.int .i64 0)).setCell ⟨w.heap.size + 1, 2, none⟩ (.int .i64 0)) (OwnI.nil _ _ _)
      (((hf3.setCell (.inr (by show _ ≤ w.heap.size + 1; omega)) _).setCell (.inr (by show _ ≤ w.heap.size + 1; omega)) _).setCell (.inr (by show _ ≤ w.heap.size + 1; omega)) _)
    have HFIN := Lib.hid hfin
    have HSET := Lib.hid hset
    clear hg2 hr hf2 f3 hr3 hf3 hset hfin
    go_wp2_with fail
    have k0 := HSET.out.cell 0 _ rfl
    have k1 := HSET.out.cell 1 _ rfl
    have k2 := HSET.out.cell 2 _ rfl
    exact bodyPost_ret (v := .agg #[.slice none 0 0, .int .i64 0, .int .i64 0]) (by simp [results, Try.results33, go_sem, k0, k1, k2]) rfl HFIN.out
end Go.Proofs.Ytdinjekpcgndmaa
/-
  LAYER 36: the reference's Start; SameCarry of equal carries.
-/
set_option linter.unusedVariables false
namespace Go.Proofs.Ytdinjekpcgndmaa
open Go.RowKit
set_option maxRecDepth 20000 in
set_option maxHeartbeats 4000000 in
theorem rstart_any (g : Gm) (w : World) (hok : g.Ok w) : Calls Try.prog 35 #[g.val] w (StPost g w) := by
  have hK := fun w' (h : Fr [] w w') => rcheck_any g w' (hok.fr h)
  unfold RChkPost at hK
  have h21 : ∀ w b, GmAt w b g → w.cell? ⟨b, 21, none⟩ = some (.slice g.ta g.tiers.length g.tc) := fun w b h => h.cell 21 _ rfl
  have hpost : ∀ v w', OwnI w' w.heap.size 3 v (stL g) → Fr [] w w' → StPost g w (.returned (.agg #[v, .int .i64 0, .int .i64 0])) w' := fun v w' h k => ⟨v, rfl, h, k⟩
  have hlt := hok.tiers.rd.len.2
  by_cases h0 : chkE g = 0
  · have hn12 := (game_len h0).2
    have hsl : stL g = List.replicate g.tiers.length 0 := by unfold stL; rw [if_pos h0]
    rw [h0] at hK
    rw [hsl] at hpost
    obtain ⟨n, hN⟩ : ∃ n, n = g.tiers.length := ⟨_, rfl⟩
    rw [← hN] at hn12 h21 hpost hlt
    have hmk := fun w => run_make_row' (P := Try.prog) 31 3 (.int .i64 0) 8 Try.underlying31 infoIntS rfl .i64 .i64 n (by omega) (by omega) w
    have HK := Lib.hid hK
    have HPOST := Lib.hid hpost
    have H21 := Lib.hid h21
    clear hK h21 hpost h0 hsl hN hok
    go_enter Try.func35, Try.ntmps35
    go_upto_region 1 with (refine box_game rfl (.tmp 0) rfl g rfl ?_; intro w1 hg1 hz1 hf1)
    have hr : RowAt (w1.alloc (.cells #[.slice none 0 0, .int .i64 0, .int .i64 0] 43)) (w.heap.size + 1) 43 [.slice none 0 0, .int .i64 0, .int .i64 0] := RowAt.new hz1 rfl
    have hg2 := hg1.fr ((Fr.refl [] w1).alloc (.cells #[.slice none 0 0, .int .i64 0, .int .i64 0] 43)) (by simp)
    have hf2 := hf1.alloc (.cells #[.slice none 0 0, .int .i64 0, .int .i64 0] 43)
    generalize w1.alloc (.cells #[.slice none 0 0, .int .i64 0, .int .i64 0] 43) = x2 at *
    clear hg1 hz1 hf1
    go_wp2_with (refine load_game rfl (.tmp 1) rfl _ rfl g hg2 ?_)
    refine (HK.out _ hf2).mono ?_
    rintro e w3 ⟨S, rfl, f3⟩
    have hg3 := hg2.fr f3 (by simp)
    have hr3 := hr.fr f3 (by simp)
    have hf3 := hf2.trans f3
    have c21 := H21.out _ _ hg3
    have ho := OwnI.made w3 n 3 hlt
    have fa : Fr [] w3 (w3.alloc (.cells (madeCells #[.int .i64 0] n) 3)) := (Fr.refl [] w3).alloc _
    have hr4 := hr3.fr fa (by simp)
    have c0 := hr4.cell 0 _ rfl
    have c1 := hr4.cell 1 _ rfl
    have c2 := hr4.cell 2 _ rfl
    have cf := fun i => hr4.frozen i
    have hset := ((hr4.set 0 (.slice (some ⟨w3.heap.size, 0, none⟩) n n)).set 1 (.int .i64 0)).set 2 (.int .i64 0)
    have hlt3 := hr3.lt
    have hfin := HPOST.out (.slice (some ⟨w3.heap.size, 0, none⟩) n n) ((((w3.alloc (.cells (madeCells #[.int .i64 0] n) 3)).setCell ⟨w.heap.size + 1, 0, none⟩ (.slice (some ⟨w3.heap.size, 0, none⟩) n n)).setCell ⟨w.heap.size + 1, 1, none⟩ (.int .i64 0)).setCell ⟨w.heap.size + 1, 2, none⟩ (.int .i64 0))
      ((ho.mono hf3.size).fr ((((Fr.refl [w.heap.size + 1] _).setCell (.inl (by simp)) _).setCell (.inl (by simp)) _).setCell (.inl (by simp)) _) (fun k hk => by simp [Value.ownBlock] at hk; subst hk; simp; omega))
      ((((hf3.trans fa).setCell (.inr (by show _ ≤ w.heap.size + 1; omega)) _).setCell (.inr (by show _ ≤ w.heap.size + 1; omega)) _).setCell (.inr (by show _ ≤ w.heap.size + 1; omega)) _)
    have HFIN := Lib.hid hfin
    have HSET := Lib.hid hset
    clear hg2 hr hf2 f3 hg3 hr3 hf3 ho fa hr4 hset hfin hlt3
    go_wp2_with fail
    have k0 := HSET.out.cell 0 _ rfl
    have k1 := HSET.out.cell 1 _ rfl
    have k2 := HSET.out.cell 2 _ rfl
    exact bodyPost_ret (v := .agg #[.slice (some ⟨w3.heap.size, 0, none⟩) n n, .int .i64 0, .int .i64 0]) (by simp [results, Try.results35, go_sem, k0, k1, k2]) rfl HFIN.out
  · have hsl : stL g = [] := by unfold stL; rw [if_neg h0]
    have e0 : (chkE g != 0) = true := by simpa using h0
    rw [hsl] at hpost
    generalize chkE g = ce at *
    have HK := Lib.hid hK
    have HPOST := Lib.hid hpost
    clear hK h21 hpost h0 hsl hok
    go_enter Try.func35, Try.ntmps35
    go_upto_region 1 with (refine box_game rfl (.tmp 0) rfl g rfl ?_; intro w1 hg1 hz1 hf1)
    have hr : RowAt (w1.alloc (.cells #[.slice none 0 0, .int .i64 0, .int .i64 0] 43)) (w.heap.size + 1) 43 [.slice none 0 0, .int .i64 0, .int .i64 0] := RowAt.new hz1 rfl
    have hg2 := hg1.fr ((Fr.refl [] w1).alloc (.cells #[.slice none 0 0, .int .i64 0, .int .i64 0] 43)) (by simp)
    have hf2 := hf1.alloc (.cells #[.slice none 0 0, .int .i64 0, .int .i64 0] 43)
    generalize w1.alloc (.cells #[.slice none 0 0, .int .i64 0, .int .i64 0] 43) = x2 at *
    clear hg1 hz1 hf1
    go_wp2_with (refine load_game rfl (.tmp 1) rfl _ rfl g hg2 ?_)
    refine (HK.out _ hf2).mono ?_
    rintro e w3 ⟨S, rfl, f3⟩
    have hr3 := hr.fr f3 (by simp)
    have hf3 := hf2.trans f3
    have c0 := hr3.cell 0 _ rfl
    have c1 := hr3.cell 1 _ rfl
    have c2 := hr3.cell 2 _ rfl
    have cf := fun i => hr3.frozen i
    have hset := ((hr3.set 0 (.slice none 0 0)).set 1 (.int .i64 0)).set 2 (.int .i64 0)
    have hfin := HPOST.out (.slice none 0 0) (((w3.setCell ⟨w.heap.size + 1, 0, none⟩ (.slice none 0 0)).setCell ⟨w.heap.size + 1, 1, none⟩ (.int .i64 0)).setCell ⟨w.heap.size + 1, 2, none⟩ (.int .i64 0)) (OwnI.nil _ _ _)
      (((hf3.setCell (.inr (by show _ ≤ w.heap.size + 1; omega)) _).setCell (.inr (by show _ ≤ w.heap.size + 1; omega)) _).setCell (.inr (by show _ ≤ w.heap.size + 1; omega)) _)
    have HFIN := Lib.hid hfin
    have HSET := Lib.hid hset
    clear hg2 hr hf2 f3 hr3 hf3 hset hfin
    go_wp2_with fail
    have k0 := HSET.out.cell 0 _ rfl
    have k1 := HSET.out.cell 1 _ rfl
    have k2 := HSET.out.cell 2 _ rfl
    exact bodyPost_ret (v := .agg #[.slice none 0 0, .int .i64 0, .int .i64 0]) (by simp [results, Try.results35, go_sem, k0, k1, k2]) rfl HFIN.out
set_option maxRecDepth 20000 in
set_option maxHeartbeats 4000000 in
theorem sameC_eq (v1 v2 : Value) (l : List Int) (w : World) (h1 : RdI w v1 l) (h2 : RdI w v2 l) : Calls Try.prog 34 #[.agg #[v1, .int .i64 0, .int .i64 0], .agg #[v2, .int .i64 0, .int .i64 0]] w fun e w' => e = .returned (.bool true) ∧ Fr [] w w' := by
  have hS := fun w' (h : Fr [] w w') => sameInts_eq v1 v2 l w' (h1.below h) (h2.below h)
  have HS := Lib.hid hS
  obtain ⟨a1, c1, rfl, l1, m1, r1⟩ := h1
  obtain ⟨a2, c2, rfl, l2, m2, r2⟩ := h2
  clear hS r1 r2
  go_enter Try.func34, Try.ntmps34
  go_wp2_with fail
  refine (HS.out _ (((Fr.refl [] _).alloc _).alloc _)).mono ?_
  rintro e w1 ⟨rfl, f1⟩
  have F := (((Fr.refl [] w).alloc (.cells #[.slice a1 l.length c1, .int .i64 0, .int .i64 0] 43)).alloc (.cells #[.slice a2 l.length c2, .int .i64 0, .int .i64 0] 43)).trans f1
  have HF := Lib.hid F
  clear F f1
  go_wp2_with fail
  go_ret
  exact ⟨rfl, HF.out⟩
end Go.Proofs.Ytdinjekpcgndmaa
