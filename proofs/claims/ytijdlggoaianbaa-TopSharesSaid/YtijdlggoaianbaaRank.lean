/-
  RANKS, plain: a stable insertion sort of the numbers below n by a row of keys, the greatest key first; the rank of an index; how many have a rank below k. Plain lemmas.
-/
import Derived.Sort.LotA
set_option linter.unusedVariables false
namespace Go.Proofs.Ytijdlggoaianbaa
open Go.Sort
/-- a comes before b: its key is greater, or it is the same and a is less -/
def befB (r : Nat → Int) (a b : Nat) : Bool := decide (r b < r a ∨ (r a = r b ∧ a < b))
/-- as the program compares -/
def gtB (r : Nat → Int) (a b : Nat) : Bool := decide (r b < r a)
def rankN (r : Nat → Int) (n i : Nat) : Nat := (List.range n).countP fun j => befB r j i
theorem bef_irrefl (r : Nat → Int) (a : Nat) : befB r a a = false := by unfold befB; simp
theorem bef_trans {r : Nat → Int} {a b c : Nat} (h : befB r a b = true) (k : befB r b c = true) : befB r a c = true := by
  unfold befB at *; simp only [decide_eq_true_eq] at *; omega
theorem bef_total (r : Nat → Int) {a b : Nat} (h : a ≠ b) : befB r a b = true ∨ befB r b a = true := by
  unfold befB; simp only [decide_eq_true_eq]; omega
theorem bef_asymm {r : Nat → Int} {a b : Nat} (h : befB r a b = true) : befB r b a = false := by
  cases hb : befB r b a
  · rfl
  · have := bef_trans h hb; rw [bef_irrefl] at this; simp at this
section
variable {n : Nat}
def gtF (r : Nat → Int) : Fin (n + 1) → Fin (n + 1) → Bool := fun a b => gtB r a.val b.val
def befF (r : Nat → Int) : Fin (n + 1) → Fin (n + 1) → Bool := fun a b => befB r a.val b.val
theorem befF_swo (r : Nat → Int) : SWO (befF (n := n) r) where
  irrefl x := bef_irrefl r _
  trans x y z h1 h2 := bef_trans h1 h2
  ntrans x y z h1 h2 := by
    unfold befF befB at *
    simp only [decide_eq_false_iff_not] at *
    omega
theorem inner_eq (r : Nat → Int) : ∀ (j : Nat) (d : Array (Fin (n + 1))), j < d.size → (∀ t, t < j → (d[t]!).val < (d[j]!).val) → insInner (gtF r) 0 j d = insInner (befF r) 0 j d := by
  intro j
  induction j with
  | zero => intro d _ _; rfl
  | succ j ih =>
    intro d hj h
    have e : gtF r d[j + 1]! d[j]! = befF r d[j + 1]! d[j]! := by
      unfold gtF befF gtB befB
      rw [decide_eq_decide]
      have := h j (by omega)
      omega
    simp only [insInner, e]
    split
    · apply ih
      · rw [swp_size]; omega
      · intro t ht
        rw [swp_other _ _ _ _ (by omega) (by omega), swp_right _ _ _ (by omega)]
        exact h t (by omega)
    · rfl
theorem inner_size {α : Type} [Inhabited α] (lt : α → α → Bool) : ∀ (j : Nat) (d : Array α), (insInner lt 0 j d).size = d.size := by
  intro j
  induction j with
  | zero => intro d; rfl
  | succ j ih =>
    intro d
    simp only [insInner]
    split
    · rw [ih, swp_size]
    · rfl
theorem inner_above {α : Type} [Inhabited α] (lt : α → α → Bool) : ∀ (j : Nat) (d : Array α) (t : Nat), j < t → (insInner lt 0 j d)[t]! = d[t]! := by
  intro j
  induction j with
  | zero => intro d t _; rfl
  | succ j ih =>
    intro d t ht
    simp only [insInner]
    split
    · rw [ih _ t (by omega), swp_other _ _ _ _ (by omega) (by omega)]
    · rfl
theorem inner_all {α : Type} [Inhabited α] (lt : α → α → Bool) (p : α → Prop) : ∀ (j : Nat) (d : Array α), j < d.size → (∀ t, t ≤ j → p d[t]!) → ∀ t, t ≤ j → p (insInner lt 0 j d)[t]! := by
  intro j
  induction j with
  | zero => intro d _ h t ht; exact h t ht
  | succ j ih =>
    intro d hj h t ht
    simp only [insInner]
    split
    · by_cases e : t = j + 1
      · subst e
        rw [inner_above _ _ _ _ (by omega), swp_left _ _ _ (by omega) (by omega)]
        exact h j (by omega)
      · refine ih _ (by rw [swp_size]; omega) (fun s hs => ?_) t (by omega)
        by_cases e2 : s = j
        · subst e2; rw [swp_right _ _ _ (by omega)]; exact h _ (by omega)
        · rw [swp_other _ _ _ _ (by omega) e2]; exact h _ (by omega)
    · exact h t ht
theorem outer_eq (r : Nat → Int) (m : Nat) : ∀ (f i : Nat) (d : Array (Fin (n + 1))), f + i = m → m ≤ d.size → (∀ t, i ≤ t → t < m → (d[t]!).val = t) → (∀ t, t < i → (d[t]!).val < i) → insOuter (gtF r) 0 m i d = insOuter (befF r) 0 m i d := by
  intro f
  induction f with
  | zero =>
    intro i d hi _ _ _
    have hn : ¬ i < m := by omega
    rw [insOuter.eq_def (gtF r), insOuter.eq_def (befF r), if_neg hn, if_neg hn]
  | succ f ih =>
    intro i d hi hm h1 h2
    have hp : i < m := by omega
    rw [insOuter.eq_def (gtF r), insOuter.eq_def (befF r), if_pos hp, if_pos hp]
    have hii := h1 i (by omega) (by omega)
    rw [inner_eq r i d (by omega) (fun t ht => by rw [hii]; exact h2 t ht)]
    refine ih (i + 1) _ (by omega) (by rw [inner_size]; exact hm) (fun t ht hl => ?_) (fun t ht => ?_)
    · rw [inner_above _ _ _ _ (by omega)]; exact h1 t (by omega) hl
    · refine inner_all (befF r) (fun x => x.val < i + 1) i d (by omega) (fun s hs => ?_) t (by omega)
      by_cases e : s = i
      · subst e; rw [hii]; omega
      · have := h2 s (by omega); omega
/-- the numbers from 0 to n in order -/
def upF (n : Nat) : Array (Fin (n + 1)) := (List.finRange (n + 1)).toArray
theorem upF_size (n : Nat) : (upF n).size = n + 1 := by simp [upF]
theorem upF_at (n t : Nat) (h : t < n + 1) : ((upF n)[t]!).val = t := by
  have : t < (upF n).size := by rw [upF_size]; exact h
  rw [getElem!_pos (upF n) t this]
  simp [upF]
theorem sort_eq (r : Nat → Int) : insertionSort (gtF r) (upF n) 0 (n + 1) = insertionSort (befF r) (upF n) 0 (n + 1) := by
  unfold insertionSort
  refine outer_eq r (n + 1) n 1 _ (by omega) (by rw [upF_size]; exact Nat.le_refl _) (fun t ht hl => upF_at n t hl) (fun t ht => ?_)
  have : t = 0 := by omega
  subst this
  rw [upF_at n 0 (by omega)]; omega
/-- the sorted order as a list of numbers -/
def ordL (r : Nat → Int) (n : Nat) : List Nat := (insertionSort (gtF r) (upF n) 0 (n + 1)).toList.map Fin.val
theorem sort_holds (r : Nat → Int) : PermIn 0 (n + 1) (upF n) (insertionSort (befF r) (upF n) 0 (n + 1)) ∧ SortedIn (befF r) 0 (n + 1) (insertionSort (befF r) (upF n) 0 (n + 1)) :=
  insertionSort_holds (befF_swo r) (upF n) 0 (n + 1) (by omega) (by rw [upF_size]; exact Nat.le_refl _)
theorem sort_size (r : Nat → Int) : (insertionSort (gtF r) (upF n) 0 (n + 1)).size = n + 1 := by
  rw [sort_eq, (sort_holds r).1.1, upF_size]
theorem ordL_perm (r : Nat → Int) (n : Nat) : (ordL r n).Perm (List.range (n + 1)) := by
  have h := (sort_holds (n := n) r).1
  have hs := h.1
  obtain ⟨_, _, h3⟩ := h
  unfold ordL
  rw [sort_eq]
  have e1 : ((upF n).extract 0 (n + 1)).toList = (upF n).toList := by rw [Array.extract_eq_self_of_le (by rw [upF_size]; exact Nat.le_refl _)]
  have e2 : ((insertionSort (befF r) (upF n) 0 (n + 1)).extract 0 (n + 1)).toList = (insertionSort (befF r) (upF n) 0 (n + 1)).toList := by rw [Array.extract_eq_self_of_le (by rw [hs, upF_size]; exact Nat.le_refl _)]
  rw [e1, e2] at h3
  refine (h3.map Fin.val).trans ?_
  have : (upF n).toList.map Fin.val = List.range (n + 1) := by
    apply List.ext_getElem
    · simp [upF]
    · intro i h1 h2; simp [upF]
  rw [this]
theorem ordL_len (r : Nat → Int) (n : Nat) : (ordL r n).length = n + 1 := by
  have := (ordL_perm r n).length_eq; simpa using this
theorem ordL_sorted (r : Nat → Int) (n i j : Nat) (hij : i < j) (hj : j < n + 1) : befB r ((ordL r n).getD i 0) ((ordL r n).getD j 0) = true := by
  have hp := ordL_perm r n
  have hl := ordL_len r n
  have hnd : (ordL r n).Nodup := hp.nodup_iff.2 List.nodup_range
  have hne : (ordL r n).getD i 0 ≠ (ordL r n).getD j 0 := by
    simp only [List.getD, List.getElem?_eq_getElem (show i < (ordL r n).length by omega), List.getElem?_eq_getElem (show j < (ordL r n).length by omega), Option.getD_some]
    exact List.pairwise_iff_getElem.1 hnd i j (by omega) (by omega) hij
  have hs := (sort_holds (n := n) r).2 i j (by omega) hij hj
  have hz := (sort_holds (n := n) r).1.1
  rw [upF_size] at hz
  have ed : ∀ t, t < n + 1 → (ordL r n).getD t 0 = ((insertionSort (befF r) (upF n) 0 (n + 1))[t]!).val := by
    intro t ht
    unfold ordL
    rw [sort_eq]
    simp [List.getD, hz, ht]
  rcases bef_total r hne with h | h
  · exact h
  · rw [ed i (by omega), ed j hj] at h
    have h' : befF r (insertionSort (befF r) (upF n) 0 (n + 1))[j]! (insertionSort (befF r) (upF n) 0 (n + 1))[i]! = true := h
    rw [hs] at h'; simp at h'
theorem countP_sorted (r : Nat → Int) : ∀ (l : List Nat) (k : Nat), (∀ i j, i < j → j < l.length → befB r (l.getD i 0) (l.getD j 0) = true) → k < l.length → l.countP (fun j => befB r j (l.getD k 0)) = k := by
  intro l
  induction l with
  | nil => intro k _ hk; simp at hk
  | cons a l ih =>
    intro k h hk
    cases k with
    | zero =>
      have ha : ∀ x ∈ l, befB r x a = false := by
        intro x hx
        obtain ⟨j, hj, rfl⟩ := List.getElem_of_mem hx
        have := h 0 (j + 1) (by omega) (by simp; omega)
        have e : (a :: l).getD (j + 1) 0 = l[j] := by simp [List.getD, hj]
        rw [e] at this
        exact bef_asymm this
      rw [List.countP_cons, show (a :: l).getD 0 0 = a from rfl, bef_irrefl]
      have : l.countP (fun j => befB r j a) = 0 := by
        rw [List.countP_eq_zero]; intro x hx; rw [ha x hx]; simp
      rw [this]; simp
    | succ k =>
      have h0 := h 0 (k + 1) (by omega) hk
      rw [show (a :: l).getD 0 0 = a from rfl] at h0
      have e : ∀ t, (a :: l).getD (t + 1) 0 = l.getD t 0 := fun t => by simp [List.getD]
      rw [List.countP_cons, h0, e, ih k (fun i j hij hj => by have := h (i + 1) (j + 1) (by omega) (by simp; omega); rw [e, e] at this; exact this) (by simp at hk; omega)]
      simp
/-- the k-th in order has rank k -/
theorem rank_ord (r : Nat → Int) (n k : Nat) (hk : k < n + 1) : rankN r (n + 1) ((ordL r n).getD k 0) = k := by
  unfold rankN
  rw [← (ordL_perm r n).countP_eq]
  exact countP_sorted r _ k (fun i j hij hj => ordL_sorted r n i j hij (by rw [ordL_len] at hj; exact hj)) (by rw [ordL_len]; exact hk)
theorem ordL_lt (r : Nat → Int) (n k : Nat) (hk : k < n + 1) : (ordL r n).getD k 0 < n + 1 := by
  have hm : (ordL r n).getD k 0 ∈ ordL r n := by
    have : k < (ordL r n).length := by rw [ordL_len]; exact hk
    simp only [List.getD, List.getElem?_eq_getElem this, Option.getD_some]
    exact List.getElem_mem this
  have := (ordL_perm r n).mem_iff.1 hm
  simpa using this
theorem ord_rank (r : Nat → Int) (n i : Nat) (hi : i < n + 1) : ∃ k, k < n + 1 ∧ (ordL r n).getD k 0 = i := by
  have hm : i ∈ ordL r n := (ordL_perm r n).mem_iff.2 (by simpa using hi)
  obtain ⟨k, hk, e⟩ := List.getElem_of_mem hm
  exact ⟨k, by rw [ordL_len] at hk; exact hk, by simp [List.getD, hk, e]⟩
theorem rank_inj (r : Nat → Int) (n i j : Nat) (hi : i < n + 1) (hj : j < n + 1) (h : rankN r (n + 1) i = rankN r (n + 1) j) : i = j := by
  obtain ⟨a, ha, rfl⟩ := ord_rank r n i hi
  obtain ⟨b, hb, rfl⟩ := ord_rank r n j hj
  rw [rank_ord r n a ha, rank_ord r n b hb] at h
  subst h; rfl
theorem rank_lt (r : Nat → Int) (n i : Nat) (hi : i < n + 1) : rankN r (n + 1) i < n + 1 := by
  obtain ⟨a, ha, rfl⟩ := ord_rank r n i hi
  rw [rank_ord r n a ha]; exact ha
/-- how many have a rank below k -/
theorem rank_count (r : Nat → Int) (n k : Nat) (hk : k ≤ n + 1) : (List.range (n + 1)).countP (fun i => decide (rankN r (n + 1) i < k)) = k := by
  rw [← (ordL_perm r n).countP_eq]
  have hgen : ∀ (l : List Nat) (b : Nat), (∀ i, i < l.length → rankN r (n + 1) (l.getD i 0) = b + i) → l.countP (fun i => decide (rankN r (n + 1) i < k)) = min l.length (k - b) := by
    intro l
    induction l with
    | nil => intro b _; simp
    | cons a l ih =>
      intro b h
      have h0 := h 0 (by simp)
      rw [show (a :: l).getD 0 0 = a from rfl] at h0
      have e : ∀ t, (a :: l).getD (t + 1) 0 = l.getD t 0 := fun t => by simp [List.getD]
      rw [List.countP_cons, ih (b + 1) (fun i hi => by have := h (i + 1) (by simp; omega); rw [e] at this; omega), h0]
      by_cases hlt : b < k
      · simp [hlt]; omega
      · simp [hlt]; omega
  rw [hgen _ 0 (fun i hi => by rw [rank_ord r n i (by rw [ordL_len] at hi; exact hi)]; omega), ordL_len]
  omega
end
end Go.Proofs.Ytijdlggoaianbaa
