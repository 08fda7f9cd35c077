/-
  LAYER 36, plain: what Allocate computes, on lists of tiers, counts and amounts. Plain lemmas.
-/
import Derived.Test.YtdinjekpcgndmaaSplitP
import Derived.Test.YtdinjekpcgndmaaFund
import Derived.Test.YtdinjekpcgndmaaCap
import Derived.Test.YtdinjekpcgndmaaTisF
set_option linter.unusedVariables false
namespace Go.Proofs.Ytdinjekpcgndmaa
open Go.RowKit
def vl (T : List Ti) (i : Nat) : Int := (T.getD i default).value
/-- is tier i of the sort? -/
def isK (T : List Ti) (fx : Bool) (i : Nat) : Bool := decide (kd T i = 1) == fx
def selP (T : List Ti) (fx : Bool) (f : Nat → Int) : Nat → List Int
  | 0 => []
  | k + 1 => if isK T fx k = true then selP T fx f k ++ [f k] else selP T fx f k
def cntK (T : List Ti) (fx : Bool) : Nat → Nat
  | 0 => 0
  | k + 1 => if isK T fx k = true then cntK T fx k + 1 else cntK T fx k
theorem selP_len (T : List Ti) (fx : Bool) (f : Nat → Int) : ∀ k, (selP T fx f k).length = cntK T fx k := by
  intro k
  induction k with
  | zero => rfl
  | succ k ih => simp only [selP, cntK]; split <;> simp [ih]
theorem cntK_mono (T : List Ti) (fx : Bool) (i : Nat) : ∀ d, cntK T fx i ≤ cntK T fx (i + d) := by
  intro d
  induction d with
  | zero => exact Nat.le_refl _
  | succ d ih => rw [← Nat.add_assoc]; simp only [cntK]; split <;> omega
theorem cntK_lt {T : List Ti} {fx : Bool} {i k : Nat} (h : i < k) (hi : isK T fx i = true) : cntK T fx i < cntK T fx k := by
  have := cntK_mono T fx (i + 1) (k - (i + 1))
  rw [show i + 1 + (k - (i + 1)) = k by omega] at this
  have e : cntK T fx (i + 1) = cntK T fx i + 1 := by rw [cntK, if_pos hi]
  omega
theorem cntK_le (T : List Ti) (fx : Bool) : ∀ k, cntK T fx k ≤ k := by
  intro k
  induction k with
  | zero => exact Nat.le_refl _
  | succ k ih => simp only [cntK]; split <;> omega
theorem selP_at {T : List Ti} {fx : Bool} {f : Nat → Int} {i : Nat} (hi : isK T fx i = true) : ∀ k, i < k → (selP T fx f k).getD (cntK T fx i) 0 = f i := by
  intro k
  induction k with
  | zero => intro h; omega
  | succ k ih =>
    intro h
    have hl := selP_len T fx f k
    by_cases e : i = k
    · subst e
      rw [selP, if_pos hi]
      simp [List.getD, ← hl]
    · have h2 := cntK_lt (show i < k by omega) hi
      have := ih (by omega)
      rw [selP]
      split
      · simp only [List.getD] at this ⊢
        rw [List.getElem?_append_left (by omega)]
        exact this
      · exact this
theorem selP_all {T : List Ti} {fx : Bool} {f : Nat → Int} {p : Int → Prop} (hp : ∀ i, isK T fx i = true → p (f i)) : ∀ k, ∀ x ∈ selP T fx f k, p x := by
  intro k
  induction k with
  | zero => intro x hx; simp [selP] at hx
  | succ k ih =>
    intro x hx
    rw [selP] at hx
    split at hx
    · rename_i h
      rw [List.mem_append] at hx
      rcases hx with hx | hx
      · exact ih x hx
      · simp at hx; subst hx; exact hp k h
    · exact ih x hx
theorem selP_alln {T : List Ti} {fx : Bool} {f : Nat → Int} {p : Int → Prop} : ∀ k, (∀ i, i < k → isK T fx i = true → p (f i)) → ∀ x ∈ selP T fx f k, p x := by
  intro k
  induction k with
  | zero => intro _ x hx; simp [selP] at hx
  | succ k ih =>
    intro hp x hx
    rw [selP] at hx
    split at hx
    · rename_i h
      rw [List.mem_append] at hx
      rcases hx with hx | hx
      · exact ih (fun i hi => hp i (by omega)) x hx
      · simp at hx; subst hx; exact hp k (by omega) h
    · exact ih (fun i hi => hp i (by omega)) x hx
theorem sumTo_append (a b : List Int) : ∀ k, k ≤ a.length → sumTo (a ++ b) k = sumTo a k := by
  intro k
  induction k with
  | zero => intro _; rfl
  | succ k ih =>
    intro h
    rw [sumTo, sumTo, ih (by omega)]
    simp only [List.getD]
    rw [List.getElem?_append_left (by omega)]
theorem spT_snoc (l : List Int) (x : Int) : spT (l ++ [x]) = spT l + x := by
  unfold spT
  rw [List.length_append, List.length_singleton, sumTo, sumTo_append _ _ _ (Nat.le_refl _)]
  simp [List.getD]
/-- the sum of what lies at the tiers of one sort -/
def sumK (T : List Ti) (fx : Bool) (l : List Int) : Nat → Int
  | 0 => 0
  | k + 1 => sumK T fx l k + if isK T fx k = true then l.getD k 0 else 0
theorem sumK_sel {T : List Ti} {fx : Bool} {l L m : List Int} : ∀ k, (∀ i, i < k → isK T fx i = true → l.getD i 0 = L.getD (cntK T fx i) 0 + m.getD i 0) → sumK T fx l k = sumTo L (cntK T fx k) + sumK T fx m k := by
  intro k
  induction k with
  | zero => intro _; rfl
  | succ k ih =>
    intro h
    rw [sumK, sumK, ih (fun i hi => h i (by omega)), cntK]
    by_cases hk : isK T fx k = true
    · rw [if_pos hk, if_pos hk, if_pos hk, sumTo, h k (by omega) hk]; omega
    · rw [if_neg hk, if_neg hk, if_neg hk]; omega
theorem sumK_nil (T : List Ti) (fx : Bool) : ∀ k, sumK T fx [] k = 0 := by
  intro k
  induction k with
  | zero => rfl
  | succ k ih => rw [sumK, ih]; split <;> simp
theorem sumK_both (T : List Ti) (l : List Int) : ∀ k, sumK T true l k + sumK T false l k = sumTo l k := by
  intro k
  induction k with
  | zero => rfl
  | succ k ih =>
    simp only [sumK, sumTo, isK]
    by_cases h : kd T k = 1 <;> simp [h] <;> omega
/-- the errors of the counts and of the carry -/
def cntB (cs : List Int) : Bool := allR cs 0 2097152
def carB (T : List Ti) (ct : List Int) : Bool := (List.range ct.length).all fun i => inR (ct.getD i 0) 0 1000000000000 && (!isK T true i || ct.getD i 0 == 0)
def agE (T : List Ti) (cs ct : List Int) (cr cl : Int) : Int :=
  if cs.length ≠ T.length then 3 else if cntB cs = false then 2 else if ct.length ≠ T.length then 3 else if carB T ct = false then 2 else if (inR cr 0 1000000000000 && inR cl 0 64) = false then 2 else 0
theorem agE_facts {T : List Ti} {cs ct : List Int} {cr cl : Int} (h : agE T cs ct cr cl = 0) : cs.length = T.length ∧ (∀ i, i < cs.length → 0 ≤ cs.getD i 0 ∧ cs.getD i 0 ≤ 2097152) ∧ ct.length = T.length ∧ (∀ i, i < ct.length → 0 ≤ ct.getD i 0 ∧ ct.getD i 0 ≤ 1000000000000 ∧ (isK T true i = true → ct.getD i 0 = 0)) ∧ (0 ≤ cr ∧ cr ≤ 1000000000000) ∧ 0 ≤ cl ∧ cl ≤ 64 := by
  unfold agE at h
  split at h
  · simp at h
  rename_i h1
  split at h
  · simp at h
  rename_i h2
  split at h
  · simp at h
  rename_i h3
  split at h
  · simp at h
  rename_i h4
  split at h
  · simp at h
  rename_i h5
  have a2 : cntB cs = true := by simpa using h2
  have a4 : carB T ct = true := by simpa using h4
  have a5 : (inR cr 0 1000000000000 && inR cl 0 64) = true := by simpa using h5
  rw [Bool.and_eq_true] at a5
  refine ⟨by omega, fun i hi => ?_, by omega, fun i hi => ?_, inR_of a5.1, inR_of a5.2⟩
  · unfold cntB allR at a2
    rw [List.all_eq_true] at a2
    have := inR_of (a2 cs[i] (List.getElem_mem hi))
    simpa [List.getD, hi] using this
  · unfold carB at a4
    rw [List.all_eq_true] at a4
    have := a4 i (by simpa using hi)
    rw [Bool.and_eq_true, Bool.or_eq_true] at this
    obtain ⟨p1, p2⟩ := this
    have p1 := inR_of p1
    refine ⟨p1.1, p1.2, fun hk => ?_⟩
    rcases p2 with p2 | p2
    · rw [hk] at p2; simp at p2
    · simpa using p2
def ndL (T : List Ti) (cs : List Int) : List Int := selP T true (fun i => vl T i * cs.getD i 0) T.length
def vsL (T : List Ti) : List Int := selP T false (vl T) T.length
def ovN (T : List Ti) (cs : List Int) (av : Int) : Bool := decide (av < spT (ndL T cs))
def pdL (T : List Ti) (cs : List Int) (av : Int) : List Int := if ovN T cs av = true then spL av (ndL T cs) else ndL T cs
def pdS (T : List Ti) (cs : List Int) (av : Int) : Int := if ovN T cs av = true then av else spT (ndL T cs)
def dvB (T : List Ti) : Bool := decide (spT (vsL T) ≠ 0)
def shL (T : List Ti) (rest : Int) : List Int := if dvB T = true then spL rest (vsL T) else []
def rsT (T : List Ti) (cs : List Int) (F B cr : Int) : Int := max 0 (F - B - pdS T cs (F + cr))
def tlL (T : List Ti) (cs ct : List Int) (F B cr : Int) : List Int := (List.range T.length).map fun i =>
  if isK T true i = true then (pdL T cs (F + cr)).getD (cntK T true i) 0 else ct.getD i 0 + (shL T (rsT T cs F B cr)).getD (cntK T false i) 0
def hiB (l : List Int) : Bool := l.any fun x => decide (1000000000000 < x)
def alE (g : Gm) (s : Int) (cs ct : List Int) (cr cl : Int) : Int :=
  if fuE g s ≠ 0 then fuE g s else if agE g.tiers cs ct cr cl ≠ 0 then agE g.tiers cs ct cr cl
  else if 1000000000000 < spT (ndL g.tiers cs) ∨ 1000000000000 < fuA g s + cr then 9
  else if hiB (tlL g.tiers cs ct (fuA g s) (fuB g s) cr) = true then 9 else 0
def alR (g : Gm) (s : Int) (cs : List Int) (cr : Int) : Int := if dvB g.tiers = true then fuB g s else fuB g s + rsT g.tiers cs (fuA g s) (fuB g s) cr
theorem tlL_len (T : List Ti) (cs ct : List Int) (F B cr : Int) : (tlL T cs ct F B cr).length = T.length := by simp [tlL]
theorem tlL_at {T : List Ti} {cs ct : List Int} {F B cr : Int} {i : Nat} (h : i < T.length) : (tlL T cs ct F B cr).getD i 0 = if isK T true i = true then (pdL T cs (F + cr)).getD (cntK T true i) 0 else ct.getD i 0 + (shL T (rsT T cs F B cr)).getD (cntK T false i) 0 := getD_range _ _ _ h
theorem isK_not (T : List Ti) (i : Nat) : isK T false i = !isK T true i := by unfold isK; cases decide (kd T i = 1) <;> rfl
theorem ndL_len (T : List Ti) (cs : List Int) : (ndL T cs).length = cntK T true T.length := selP_len _ _ _ _
theorem vsL_len (T : List Ti) : (vsL T).length = cntK T false T.length := selP_len _ _ _ _
theorem kd_of {T : List Ti} {i : Nat} {t : Ti} (h : T[i]? = some t) : kd T i = t.kind ∧ vl T i = t.value := by simp [kd, vl, List.getD, h]
theorem vl_bd {g : Gm} (h : chkE g = 0) (i : Nat) (hi : i < g.tiers.length) : 0 ≤ vl g.tiers i ∧ vl g.tiers i ≤ 1000000000 := by
  have ht := (chkE_facts h).2.2
  obtain ⟨t, hx⟩ : ∃ t, g.tiers[i]? = some t := ⟨_, List.getElem?_eq_getElem hi⟩
  rw [(kd_of hx).2]
  exact (tis_kind ht i t hx).2
theorem need_bd {v c : Int} (h1 : 0 ≤ v) (h2 : v ≤ 1000000000) (h3 : 0 ≤ c) (h4 : c ≤ 2097152) : 0 ≤ v * c ∧ v * c ≤ 2097152000000000 :=
  ⟨Int.mul_nonneg h1 h3, by
    have a : v * c ≤ 1000000000 * c := Int.mul_le_mul_of_nonneg_right h2 h3
    omega⟩
theorem spT_nonneg {l : List Int} (h : ∀ x ∈ l, 0 ≤ x) : 0 ≤ spT l ∧ ∀ i, i < l.length → l.getD i 0 ≤ spT l := by
  have := sumTo_le_all (l := l) (fun i hi => by have := h l[i] (List.getElem_mem hi); simpa [List.getD, hi] using this) l.length (Nat.le_refl _)
  exact this
theorem nd_bd {g : Gm} {cs : List Int} (h : chkE g = 0) (hl : cs.length = g.tiers.length) (hc : ∀ i, i < cs.length → 0 ≤ cs.getD i 0 ∧ cs.getD i 0 ≤ 2097152) : ∀ x ∈ ndL g.tiers cs, 0 ≤ x ∧ x ≤ 2097152000000000 :=
  selP_alln _ fun i hi _ => by
    have a := vl_bd h i hi
    have b := hc i (by omega)
    exact need_bd a.1 a.2 b.1 b.2
theorem vs_bd {g : Gm} (h : chkE g = 0) : ∀ x ∈ vsL g.tiers, 0 ≤ x ∧ x ≤ 1000000000 := selP_alln _ fun i hi _ => vl_bd h i hi
theorem amtB_iff_getD {l : List Int} (h : ∀ x ∈ l, 0 ≤ x ∧ x ≤ 1000000000000) : amtB l = true := amtB_iff.2 h
/-- the needs are divided without an error -/
theorem nd_split {g : Gm} {cs : List Int} {av : Int} (h : chkE g = 0) (hl : cs.length = g.tiers.length) (hc : ∀ i, i < cs.length → 0 ≤ cs.getD i 0 ∧ cs.getD i 0 ≤ 2097152) (h0 : 0 ≤ av) (h1 : av ≤ 1000000000000) (h2 : spT (ndL g.tiers cs) ≤ 1000000000000) (ho : ovN g.tiers cs av = true) :
    spE av (ndL g.tiers cs) = 0 := by
  have hb := nd_bd h hl hc
  obtain ⟨s1, s2⟩ := spT_nonneg (fun x hx => (hb x hx).1)
  unfold ovN at ho
  simp only [decide_eq_true_eq] at ho
  have hn := (game_len h).2
  have hle := cntK_le g.tiers true g.tiers.length
  have hlen := ndL_len g.tiers cs
  have hz : (ndL g.tiers cs).length ≠ 0 := by
    intro e
    have : spT (ndL g.tiers cs) = 0 := by unfold spT; rw [e]; rfl
    omega
  have ha : amtB (ndL g.tiers cs) = true := amtB_of fun j hj => by
    have := s2 j hj
    have h3 := (hb _ (List.getElem_mem hj)).1
    have e : (ndL g.tiers cs).getD j 0 = (ndL g.tiers cs)[j] := by simp [List.getD, hj]
    omega
  unfold spE
  rw [inR_yes h0 h1, inR_yes (by omega) (by omega), ha]
  simp
  omega
theorem vs_split {g : Gm} {rest : Int} (h : chkE g = 0) (h0 : 0 ≤ rest) (h1 : rest ≤ 1000000000000) (hd : dvB g.tiers = true) : spE rest (vsL g.tiers) = 0 := by
  have hb := vs_bd h
  have hn := (game_len h).2
  have hle := cntK_le g.tiers false g.tiers.length
  have hlen := vsL_len g.tiers
  unfold dvB at hd
  simp only [decide_eq_true_eq] at hd
  have hz : (vsL g.tiers).length ≠ 0 := by
    intro e
    have : spT (vsL g.tiers) = 0 := by unfold spT; rw [e]; rfl
    omega
  have ha : amtB (vsL g.tiers) = true := amtB_iff.2 fun x hx => by have := hb x hx; omega
  unfold spE
  rw [inR_yes h0 h1, inR_yes (by omega) (by omega), ha]
  simp
  omega
theorem dvB_any {l : List Int} (h : ∀ x ∈ l, 0 ≤ x) : decide (spT l ≠ 0) = l.any fun x => x != 0 := by
  have key : ∀ k, k ≤ l.length → (0 ≤ sumTo l k) ∧ (sumTo l k ≠ 0 ↔ ∃ i, i < k ∧ l.getD i 0 ≠ 0) := by
    intro k
    induction k with
    | zero => intro _; simp [sumTo]
    | succ k ih =>
      intro hk
      obtain ⟨a, b⟩ := ih (by omega)
      have c : 0 ≤ l.getD k 0 := by have := h l[k] (List.getElem_mem (by omega)); simpa [List.getD, show k < l.length by omega] using this
      have e2 : sumTo l (k + 1) = sumTo l k + l.getD k 0 := rfl
      rw [e2]
      refine ⟨Int.add_nonneg a c, fun hne => ?_, fun hex => ?_⟩
      · by_cases e : l.getD k 0 = 0
        · obtain ⟨i, hi, hx⟩ := b.1 (fun e3 => hne (by rw [e3, e]; rfl))
          exact ⟨i, Nat.lt_succ_of_lt hi, hx⟩
        · exact ⟨k, Nat.lt_succ_self k, e⟩
      · by_cases e : l.getD k 0 = 0
        · obtain ⟨i, hi, hx⟩ := hex
          have hik : i < k := by
            rcases Nat.lt_or_ge i k with h9 | h9
            · exact h9
            · exact absurd (by rw [show i = k by omega]; exact e) hx
          have := b.2 ⟨i, hik, hx⟩
          rw [e]; omega
        · clear b hex
          omega
  have := (key l.length (Nat.le_refl _)).2
  rw [Bool.eq_iff_iff, List.any_eq_true]
  simp only [decide_eq_true_eq]
  unfold spT
  rw [this]
  constructor
  · rintro ⟨i, hi, hx⟩
    exact ⟨l[i], List.getElem_mem hi, by simpa [List.getD, hi] using hx⟩
  · rintro ⟨x, hx, hne⟩
    obtain ⟨i, hi, rfl⟩ := List.getElem_of_mem hx
    exact ⟨i, hi, by simpa [List.getD, hi] using hne⟩
end Go.Proofs.Ytdinjekpcgndmaa
