/-
  LAYER 2, plain: what Split computes: quotients, rests, and who gets one more. Plain lemmas.
-/
import Derived.Test.YtijdlggoaianbaaRank
import Derived.Test.YtijdlggoaianbaaRollP
set_option linter.unusedVariables false
namespace Go.Proofs.Ytijdlggoaianbaa
/-- the quotients, the rests -/
def spQ (m T : Int) (ws : List Int) : List Int := ws.map fun w => m * w / T
def spR (m T : Int) (ws : List Int) : List Int := ws.map fun w => m * w % T
def keyL (r : List Int) : Nat → Int := fun j => r.getD j 0
/-- behind k rounds -/
def spA (q r : List Int) (k : Nat) : List Int := (List.range q.length).map fun i => q.getD i 0 + if rankN (keyL r) q.length i < k then 1 else 0
def spB (r : List Int) (k : Nat) : List Int := (List.range r.length).map fun i => if rankN (keyL r) r.length i < k then -1 else r.getD i 0
def spT (ws : List Int) : Int := sumTo ws ws.length
def spLeft (m : Int) (ws : List Int) : Int := m - sumTo (spQ m (spT ws) ws) ws.length
def spE (m : Int) (ws : List Int) : Int :=
  if inR m 0 1000000000000 = false then 2 else if inR ws.length 1 64 = false then 3 else if amtB ws = false then 2 else if spT ws = 0 then 10 else 0
def spL (m : Int) (ws : List Int) : List Int := if spE m ws = 0 then spA (spQ m (spT ws) ws) (spR m (spT ws) ws) (spLeft m ws).toNat else []
theorem getD_map (f : Int → Int) (l : List Int) (i : Nat) (h : i < l.length) : (l.map f).getD i 0 = f (l.getD i 0) := by simp [List.getD, h]
theorem getD_range (f : Nat → Int) (n i : Nat) (h : i < n) : ((List.range n).map f).getD i 0 = f i := by simp [List.getD, h]
theorem spA_len (q r : List Int) (k : Nat) : (spA q r k).length = q.length := by simp [spA]
theorem spB_len (r : List Int) (k : Nat) : (spB r k).length = r.length := by simp [spB]
theorem spA_at {q r : List Int} {k i : Nat} (h : i < q.length) : (spA q r k).getD i 0 = q.getD i 0 + if rankN (keyL r) q.length i < k then 1 else 0 := getD_range _ _ _ h
theorem spB_at {r : List Int} {k i : Nat} (h : i < r.length) : (spB r k).getD i 0 = if rankN (keyL r) r.length i < k then -1 else r.getD i 0 := getD_range _ _ _ h
theorem ext_getD {a b : List Int} (hl : a.length = b.length) (h : ∀ i, i < a.length → a.getD i 0 = b.getD i 0) : a = b := by
  apply List.ext_getElem hl
  intro i h1 h2
  have := h i h1
  simpa [List.getD, h1, h2] using this
theorem spA_zero (q r : List Int) : spA q r 0 = q := ext_getD (spA_len _ _ _) fun i hi => by rw [spA_len] at hi; rw [spA_at hi]; simp
theorem spB_zero (r : List Int) : spB r 0 = r := ext_getD (spB_len _ _) fun i hi => by rw [spB_len] at hi; rw [spB_at hi]; simp
/-- the one whose turn it is in round k -/
def ordK (r : List Int) (n k : Nat) : Nat := (ordL (keyL r) n).getD k 0
theorem spA_succ {q r : List Int} {n k : Nat} (hq : q.length = n + 1) (hk : k < n + 1) : spA q r (k + 1) = (spA q r k).set (ordK r n k) ((spA q r k).getD (ordK r n k) 0 + 1) := by
  have ho := ordL_lt (keyL r) n k hk
  have hr := rank_ord (keyL r) n k hk
  refine ext_getD (by simp [spA_len]) fun i hi => ?_
  rw [spA_len] at hi
  rw [spA_at hi, getD_set _ _ _ _ (by rw [spA_len, hq]; exact ho), spA_at hi, spA_at (by rw [hq]; exact ho)]
  unfold ordK
  by_cases h : i = (ordL (keyL r) n).getD k 0
  · rw [if_pos h, h, hq, hr]; simp
  · rw [if_neg h, hq]
    have : rankN (keyL r) (n + 1) i ≠ k := fun e => h (rank_inj (keyL r) n i _ (by omega) ho (by rw [e, hr]))
    by_cases h2 : rankN (keyL r) (n + 1) i < k
    · rw [if_pos h2, if_pos (by omega)]
    · rw [if_neg h2, if_neg (by omega)]
theorem spB_succ {r : List Int} {n k : Nat} (hq : r.length = n + 1) (hk : k < n + 1) : spB r (k + 1) = (spB r k).set (ordK r n k) (-1) := by
  have ho := ordL_lt (keyL r) n k hk
  have hr := rank_ord (keyL r) n k hk
  refine ext_getD (by simp [spB_len]) fun i hi => ?_
  rw [spB_len] at hi
  rw [spB_at hi, getD_set _ _ _ _ (by rw [spB_len, hq]; exact ho), spB_at hi]
  unfold ordK
  by_cases h : i = (ordL (keyL r) n).getD k 0
  · rw [if_pos h, h, hq, hr]; simp
  · rw [if_neg h, hq]
    have : rankN (keyL r) (n + 1) i ≠ k := fun e => h (rank_inj (keyL r) n i _ (by omega) ho (by rw [e, hr]))
    by_cases h2 : rankN (keyL r) (n + 1) i < k
    · rw [if_pos h2, if_pos (by omega)]
    · rw [if_neg h2, if_neg (by omega)]
/-- the first of the greatest elements among the first j -/
structure IsGr (l : List Int) (j b : Nat) : Prop where
  lt : b < j
  max : ∀ i, i < j → l.getD i 0 ≤ l.getD b 0
  first : ∀ i, i < b → l.getD i 0 < l.getD b 0
theorem isGr_one (l : List Int) : IsGr l 1 0 := by
  refine ⟨by omega, fun i hi => ?_, fun i hi => by omega⟩
  obtain rfl : i = 0 := by omega
  exact Int.le_refl _
theorem isGr_keep {l : List Int} {j b : Nat} (h : IsGr l j b) (k : l.getD j 0 ≤ l.getD b 0) : IsGr l (j + 1) b := by
  refine ⟨by have := h.lt; omega, fun i hi => ?_, h.first⟩
  by_cases e : i = j
  · rw [e]; exact k
  · exact h.max i (by omega)
theorem isGr_new {l : List Int} {j b : Nat} (h : IsGr l j b) (k : l.getD b 0 < l.getD j 0) : IsGr l (j + 1) j := by
  refine ⟨by omega, fun i hi => ?_, fun i hi => by have := h.max i hi; omega⟩
  by_cases e : i = j
  · rw [e]; exact Int.le_refl _
  · have := h.max i (by omega); omega
theorem isGr_eq {l : List Int} {j a b : Nat} (h : IsGr l j a) (k : IsGr l j b) : a = b := by
  rcases Nat.lt_trichotomy a b with e | e | e
  · have := k.first a e; have := h.max b k.lt; omega
  · exact e
  · have := h.first b e; have := k.max a h.lt; omega
theorem spB_gr {r : List Int} {n k : Nat} (hq : r.length = n + 1) (hk : k < n + 1) (h0 : ∀ i, i < n + 1 → 0 ≤ r.getD i 0) : IsGr (spB r k) (n + 1) (ordK r n k) := by
  have ho := ordL_lt (keyL r) n k hk
  have hr := rank_ord (keyL r) n k hk
  have hat : (spB r k).getD (ordK r n k) 0 = r.getD (ordK r n k) 0 := by rw [spB_at (by rw [hq]; exact ho), hq]; unfold ordK; rw [hr, if_neg (by omega)]
  have hcase : ∀ i, i < n + 1 → i ≠ ordK r n k → (spB r k).getD i 0 = -1 ∨ ((spB r k).getD i 0 = r.getD i 0 ∧ befB (keyL r) (ordK r n k) i = true) := by
    intro i hi hne
    rw [spB_at (by omega), hq]
    by_cases h2 : rankN (keyL r) (n + 1) i < k
    · rw [if_pos h2]; exact .inl rfl
    · rw [if_neg h2]
      refine .inr ⟨rfl, ?_⟩
      obtain ⟨t, ht, e⟩ := ord_rank (keyL r) n i hi
      have hrt := rank_ord (keyL r) n t ht
      rw [e] at hrt
      have hkt : t ≠ k := fun e2 => hne (by unfold ordK; rw [← e, e2])
      have := ordL_sorted (keyL r) n k t (by omega) (by omega)
      rw [e] at this
      exact this
  refine ⟨ho, fun i hi => ?_, fun i hi => ?_⟩
  · by_cases e : i = ordK r n k
    · subst e; exact Int.le_refl _
    · rw [hat]
      rcases hcase i hi e with h | ⟨h, h2⟩
      · rw [h]; have := h0 _ ho; unfold ordK; omega
      · rw [h]; unfold befB keyL at h2; simp only [decide_eq_true_eq] at h2; omega
  · have ho' : ordK r n k < n + 1 := ho
    rw [hat]
    rcases hcase i (by omega) (by omega) with h | ⟨h, h2⟩
    · rw [h]; have := h0 _ ho'; omega
    · rw [h]; unfold befB keyL at h2; simp only [decide_eq_true_eq] at h2; omega
/-- what is left: between none and less than all -/
theorem sum_quot {m T : Int} (hT : 0 < T) (ws : List Int) : ∀ k, k ≤ ws.length → T * sumTo (spQ m T ws) k + sumTo (spR m T ws) k = m * sumTo ws k := by
  intro k
  induction k with
  | zero => intro _; simp [sumTo]
  | succ k ih =>
    intro hk
    have h1 := ih (by omega)
    have e1 : (spQ m T ws).getD k 0 = m * ws.getD k 0 / T := getD_map (fun w => m * w / T) ws k (by omega)
    have e2 : (spR m T ws).getD k 0 = m * ws.getD k 0 % T := getD_map (fun w => m * w % T) ws k (by omega)
    have h2 := Int.mul_ediv_add_emod (m * ws.getD k 0) T
    simp only [sumTo, e1, e2, Int.mul_add]
    omega
theorem sum_rest {m T : Int} (hT : 0 < T) (ws : List Int) : ∀ k, k ≤ ws.length → 0 ≤ sumTo (spR m T ws) k ∧ sumTo (spR m T ws) k ≤ (T - 1) * k := by
  intro k
  induction k with
  | zero => intro _; simp [sumTo]
  | succ k ih =>
    intro hk
    have h1 := ih (by omega)
    have e2 : (spR m T ws).getD k 0 = m * ws.getD k 0 % T := getD_map (fun w => m * w % T) ws k (by omega)
    have h2 := Int.emod_nonneg (m * ws.getD k 0) (show T ≠ 0 by omega)
    have h3 := Int.emod_lt_of_pos (m * ws.getD k 0) hT
    simp only [sumTo, e2]
    have : (T - 1) * ((k + 1 : Nat) : Int) = (T - 1) * k + (T - 1) := by push_cast; rw [Int.mul_add, Int.mul_one]
    omega
theorem left_bd {m : Int} {ws : List Int} (hT : 0 < spT ws) (hn : 0 < ws.length) : 0 ≤ spLeft m ws ∧ spLeft m ws < ws.length ∧ spT ws * spLeft m ws = sumTo (spR m (spT ws) ws) ws.length := by
  have h1 := sum_quot (m := m) hT ws ws.length (Nat.le_refl _)
  have h2 := sum_rest (m := m) hT ws ws.length (Nat.le_refl _)
  have e : spT ws * spLeft m ws = sumTo (spR m (spT ws) ws) ws.length := by
    unfold spLeft
    rw [Int.mul_sub]
    have : m * sumTo ws ws.length = spT ws * m := by unfold spT; rw [Int.mul_comm]
    omega
  refine ⟨?_, ?_, e⟩
  · refine Int.not_lt.1 fun hneg => ?_
    have : spT ws * spLeft m ws ≤ spT ws * (-1) := Int.mul_le_mul_of_nonneg_left (by omega) (by omega)
    omega
  · refine Int.not_le.1 fun hge => ?_
    have a : spT ws * (ws.length : Int) ≤ spT ws * spLeft m ws := Int.mul_le_mul_of_nonneg_left hge (by omega)
    have b : (spT ws - 1) * (ws.length : Int) = spT ws * ws.length - ws.length := by rw [Int.sub_mul, Int.one_mul]
    omega
theorem sum_spA (q r : List Int) (k : Nat) : ∀ j, j ≤ q.length → sumTo (spA q r k) j = sumTo q j + (List.range j).countP (fun i => decide (rankN (keyL r) q.length i < k)) := by
  intro j
  induction j with
  | zero => intro _; simp [sumTo]
  | succ j ih =>
    intro hj
    rw [sumTo, sumTo, ih (by omega), spA_at (by omega), List.range_succ, List.countP_append]
    by_cases h : rankN (keyL r) q.length j < k
    · simp [h]; omega
    · simp [h]; omega
theorem spQ_len (m T : Int) (ws : List Int) : (spQ m T ws).length = ws.length := by simp [spQ]
theorem spR_len (m T : Int) (ws : List Int) : (spR m T ws).length = ws.length := by simp [spR]
theorem spE_facts {m : Int} {ws : List Int} (h : spE m ws = 0) : (0 ≤ m ∧ m ≤ 1000000000000) ∧ (1 ≤ ws.length ∧ ws.length ≤ 64) ∧ amtB ws = true ∧ 0 < spT ws := by
  unfold spE at h
  split at h
  · simp at h
  rename_i h1
  split at h
  · simp at h
  rename_i h2
  split at h
  · simp at h
  rename_i h3
  split at h
  · simp at h
  rename_i h4
  have a := inR_of (by simpa using h1)
  have b := inR_of (by simpa using h2)
  have c : amtB ws = true := by simpa using h3
  have := (sumTo_bd c ws.length).1
  refine ⟨a, by omega, c, ?_⟩
  unfold spT at *
  omega
theorem spL_len {m : Int} {ws : List Int} (h : spE m ws = 0) : (spL m ws).length = ws.length := by unfold spL; rw [if_pos h, spA_len, spQ_len]
/-- nothing is lost -/
theorem spL_sum {m : Int} {ws : List Int} (h : spE m ws = 0) : sumTo (spL m ws) ws.length = m := by
  obtain ⟨_, ⟨h1, _⟩, _, hT⟩ := spE_facts h
  obtain ⟨b1, b2, _⟩ := left_bd (m := m) hT (by omega)
  obtain ⟨n, hn⟩ : ∃ n, ws.length = n + 1 := ⟨ws.length - 1, by omega⟩
  have hs := sum_spA (spQ m (spT ws) ws) (spR m (spT ws) ws) (spLeft m ws).toNat ws.length (by rw [spQ_len]; exact Nat.le_refl _)
  have hc := rank_count (keyL (spR m (spT ws) ws)) n (spLeft m ws).toNat (by omega)
  unfold spL
  rw [if_pos h, hs, spQ_len, hn, hc]
  have : spLeft m ws = m - sumTo (spQ m (spT ws) ws) (n + 1) := by unfold spLeft; rw [hn]
  omega
theorem spQ_at {m T : Int} {ws : List Int} {i : Nat} (h : i < ws.length) : (spQ m T ws).getD i 0 = m * ws.getD i 0 / T := getD_map (fun w => m * w / T) ws i h
theorem spR_at {m T : Int} {ws : List Int} {i : Nat} (h : i < ws.length) : (spR m T ws).getD i 0 = m * ws.getD i 0 % T := getD_map (fun w => m * w % T) ws i h
/-- a part is what is due, or one more, which then was no whole number -/
theorem sum_pos {m T : Int} (hT : 0 < T) (ws : List Int) : ∀ k, k ≤ ws.length → sumTo (spR m T ws) k ≤ (T - 1) * ((List.range k).countP (fun i => decide (0 < (spR m T ws).getD i 0))) := by
  intro k
  induction k with
  | zero => intro _; simp [sumTo]
  | succ k ih =>
    intro hk
    have h1 := ih (by omega)
    have h2 := Int.emod_nonneg (m * ws.getD k 0) (show T ≠ 0 by omega)
    have h3 := Int.emod_lt_of_pos (m * ws.getD k 0) hT
    have e2 : (spR m T ws).getD k 0 = m * ws.getD k 0 % T := spR_at (by omega)
    rw [sumTo, List.range_succ, List.countP_append]
    by_cases h : 0 < (spR m T ws).getD k 0
    · have e3 : List.countP (fun i => decide (0 < (spR m T ws).getD i 0)) [k] = 1 := by rw [List.countP_singleton]; rw [if_pos (by simpa using h)]
      rw [e3]
      push_cast
      rw [Int.mul_add, Int.mul_one]
      omega
    · have e3 : List.countP (fun i => decide (0 < (spR m T ws).getD i 0)) [k] = 0 := by rw [List.countP_singleton]; rw [if_neg (by simpa using h)]
      rw [e3]
      push_cast
      rw [Int.mul_add, Int.mul_zero]
      omega
theorem left_pos {m : Int} {ws : List Int} (hT : 0 < spT ws) (hn : 0 < ws.length) {i : Nat} (hi : i < ws.length) (hr : rankN (keyL (spR m (spT ws) ws)) ws.length i < (spLeft m ws).toNat) : 0 < (spR m (spT ws) ws).getD i 0 := by
  obtain ⟨b1, b2, b3⟩ := left_bd (m := m) hT hn
  have hp := sum_pos (m := m) hT ws ws.length (Nat.le_refl _)
  refine Int.not_le.1 fun hz => ?_
  have hmono : (List.range ws.length).countP (fun j => decide (0 < (spR m (spT ws) ws).getD j 0)) ≤ rankN (keyL (spR m (spT ws) ws)) ws.length i := by
    unfold rankN
    apply List.countP_mono_left
    intro j hj h
    unfold befB keyL
    simp only [decide_eq_true_eq] at h ⊢
    omega
  have hlt : (List.range ws.length).countP (fun j => decide (0 < (spR m (spT ws) ws).getD j 0)) < (spLeft m ws).toNat := Nat.lt_of_le_of_lt hmono hr
  generalize (List.range ws.length).countP (fun j => decide (0 < (spR m (spT ws) ws).getD j 0)) = c at *
  have a : spT ws * ((c : Int) + 1) ≤ spT ws * spLeft m ws := Int.mul_le_mul_of_nonneg_left (by omega) (by omega)
  rw [Int.mul_add, Int.mul_one] at a
  rw [Int.sub_mul, Int.one_mul] at hp
  omega
theorem spL_at {m : Int} {ws : List Int} (h : spE m ws = 0) {i : Nat} (hi : i < ws.length) :
    (spL m ws).getD i 0 = m * ws.getD i 0 / spT ws ∨ ((spL m ws).getD i 0 = m * ws.getD i 0 / spT ws + 1 ∧ 0 < m * ws.getD i 0 % spT ws) := by
  obtain ⟨_, ⟨h1, _⟩, _, hT⟩ := spE_facts h
  have hp := left_pos (m := m) hT (by omega) hi
  rw [spR_at hi] at hp
  unfold spL
  rw [if_pos h, spA_at (by rw [spQ_len]; exact hi), spQ_at hi, spQ_len]
  by_cases hr : rankN (keyL (spR m (spT ws) ws)) ws.length i < (spLeft m ws).toNat
  · rw [if_pos hr]; exact .inr ⟨rfl, hp hr⟩
  · rw [if_neg hr, Int.add_zero]; exact .inl rfl
theorem spL_nonneg {m : Int} {ws : List Int} (h : spE m ws = 0) {i : Nat} (hi : i < ws.length) : 0 ≤ (spL m ws).getD i 0 := by
  obtain ⟨⟨hm, _⟩, _, hw, hT⟩ := spE_facts h
  have := (amtB_at hw i).1
  have h1 : 0 ≤ m * ws.getD i 0 / spT ws := Int.ediv_nonneg (Int.mul_nonneg hm this) (by omega)
  rcases spL_at h hi with e | ⟨e, _⟩ <;> omega
/-- less than is asked for: no part is greater than its weight -/
theorem spL_le {m : Int} {ws : List Int} (h : spE m ws = 0) (hm : m ≤ spT ws) {i : Nat} (hi : i < ws.length) : (spL m ws).getD i 0 ≤ ws.getD i 0 := by
  obtain ⟨⟨hm0, _⟩, _, hw, hT⟩ := spE_facts h
  have h0 := (amtB_at hw i).1
  have hsp := spL_at h hi
  generalize ws.getD i 0 = x at *
  have a : m * x ≤ spT ws * x := Int.mul_le_mul_of_nonneg_right hm h0
  have b := Int.mul_ediv_add_emod (m * x) (spT ws)
  have c := Int.emod_nonneg (m * x) (show spT ws ≠ 0 by omega)
  have d : spT ws * (m * x / spT ws) ≤ spT ws * x := by omega
  have e : m * x / spT ws ≤ x := Int.le_of_mul_le_mul_left d hT
  rcases hsp with f | ⟨f, g⟩
  · omega
  · have : ¬ m * x / spT ws = x := by
      intro e2; rw [e2] at b; omega
    omega
theorem sumTo_le_all {l : List Int} (h : ∀ i, i < l.length → 0 ≤ l.getD i 0) : ∀ k, k ≤ l.length → 0 ≤ sumTo l k ∧ ∀ i, i < k → l.getD i 0 ≤ sumTo l k := by
  intro k
  induction k with
  | zero => intro _; exact ⟨by simp [sumTo], fun i hi => by omega⟩
  | succ k ih =>
    intro hk
    obtain ⟨h1, h2⟩ := ih (by omega)
    have h3 := h k (by omega)
    rw [sumTo]
    refine ⟨by omega, fun i hi => ?_⟩
    by_cases e : i = k
    · subst e; omega
    · have := h2 i (by omega); omega
/-- and none is greater than all -/
theorem spL_max {m : Int} {ws : List Int} (h : spE m ws = 0) {i : Nat} (hi : i < ws.length) : (spL m ws).getD i 0 ≤ m := by
  have hl := spL_len h
  have := (sumTo_le_all (l := spL m ws) (fun j hj => spL_nonneg h (by omega)) ws.length (by omega)).2 i hi
  rw [spL_sum h] at this
  exact this
end Go.Proofs.Ytijdlggoaianbaa
