/-
  LAYER 37, plain: what Cap and Flow compute, on lists of tiers and of amounts. Plain lemmas.
-/
import Derived.Test.YtijdlggoaianbaaChkF
set_option linter.unusedVariables false
namespace Go.Proofs.Ytijdlggoaianbaa
open Go.RowKit
theorem getD_set (l : List Int) (i j : Nat) (x : Int) (hi : i < l.length) : (l.set i x).getD j 0 = if j = i then x else l.getD j 0 := by
  simp only [List.getD, List.getElem?_set]
  by_cases h : i = j
  · subst h; simp [hi]
  · simp [h, Ne.symm h]
def kd (T : List Ti) (i : Nat) : Int := (T.getD i default).kind
/-- the sum of the first k elements -/
def sumTo (l : List Int) : Nat → Int
  | 0 => 0
  | k + 1 => sumTo l k + l.getD k 0
theorem sumTo_set (l : List Int) (j : Nat) (x : Int) (hj : j < l.length) : ∀ n, sumTo (l.set j (l.getD j 0 + x)) n = sumTo l n + if j < n then x else 0 := by
  intro n
  induction n with
  | zero => simp [sumTo]
  | succ n ih =>
    simp only [sumTo, ih, getD_set l j n _ hj]
    by_cases h : n = j
    · subst h; simp; omega
    · by_cases h2 : j < n
      · simp [h, h2, show j < n + 1 by omega]; omega
      · simp [h, h2, show ¬ j < n + 1 by omega]
theorem sumTo_zero (m : Nat) : ∀ n, sumTo (List.replicate m 0) n = 0 := by
  intro n
  induction n with
  | zero => rfl
  | succ n ih =>
    have : (List.replicate m (0 : Int)).getD n 0 = 0 := by
      simp only [List.getD, List.getElem?_replicate]; split <;> rfl
    simp only [sumTo, ih, this]; rfl
/-- amounts -/
def amtB (l : List Int) : Bool := allR l 0 1000000000000
theorem amtB_iff {l : List Int} : amtB l = true ↔ ∀ z ∈ l, 0 ≤ z ∧ z ≤ 1000000000000 := by simp [amtB, allR, inR]
theorem amtB_at {l : List Int} (h : amtB l = true) (j : Nat) : 0 ≤ l.getD j 0 ∧ l.getD j 0 ≤ 1000000000000 := by
  by_cases hj : j < l.length
  · have := amtB_iff.1 h l[j] (List.getElem_mem hj)
    simpa [List.getD, hj] using this
  · simp [List.getD, hj]
theorem amtB_of {l : List Int} (h : ∀ j, j < l.length → 0 ≤ l.getD j 0 ∧ l.getD j 0 ≤ 1000000000000) : amtB l = true := by
  rw [amtB_iff]
  intro z hz
  obtain ⟨j, hj, rfl⟩ := List.getElem_of_mem hz
  have := h j hj
  simpa [List.getD, hj] using this
theorem sumTo_bd {l : List Int} (h : amtB l = true) : ∀ n : Nat, 0 ≤ sumTo l n ∧ sumTo l n ≤ 1000000000000 * n := by
  intro n
  induction n with
  | zero => simp [sumTo]
  | succ n ih =>
    have := amtB_at h n
    simp only [sumTo]; omega
/-- the first tier from k on, of f tiers, that is not fixed -/
def nxtTo (T : List Ti) : Nat → Nat → Int
  | 0, _ => -1
  | f + 1, k => if kd T k = 1 then nxtTo T f (k + 1) else k
def nxtE (T : List Ti) (i : Nat) : Int := nxtTo T (T.length - (i + 1)) (i + 1)
theorem nxtTo_of (T : List Ti) : ∀ (f k : Nat), (nxtTo T f k = -1 ∧ ∀ j, k ≤ j → j < k + f → kd T j = 1) ∨ (∃ j : Nat, nxtTo T f k = j ∧ k ≤ j ∧ j < k + f ∧ kd T j ≠ 1) := by
  intro f
  induction f with
  | zero => intro k; left; exact ⟨rfl, by intro j h1 h2; omega⟩
  | succ f ih =>
    intro k
    by_cases h : kd T k = 1
    · rw [nxtTo, if_pos h]
      rcases ih (k + 1) with ⟨h1, h2⟩ | ⟨j, h1, h2, h3, h4⟩
      · left
        refine ⟨h1, fun j hj hj2 => ?_⟩
        by_cases hk : j = k
        · subst hk; exact h
        · exact h2 j (by omega) (by omega)
      · right; exact ⟨j, h1, by omega, by omega, h4⟩
    · rw [nxtTo, if_neg h]
      right; exact ⟨k, rfl, by omega, by omega, h⟩
theorem nxtE_of (T : List Ti) (i : Nat) : (nxtE T i = -1 ∧ ∀ j, i < j → j < T.length → kd T j = 1) ∨ (∃ j : Nat, nxtE T i = j ∧ i < j ∧ j < T.length ∧ kd T j ≠ 1) := by
  unfold nxtE
  rcases nxtTo_of T (T.length - (i + 1)) (i + 1) with ⟨h1, h2⟩ | ⟨j, h1, h2, h3, h4⟩
  · left; exact ⟨h1, fun j hj hj2 => h2 j (by omega) (by omega)⟩
  · right; exact ⟨j, h1, by omega, by omega, h4⟩
/-- .. and has winners -/
def latTo (T : List Ti) (cs : List Int) : Nat → Nat → Int
  | 0, _ => -1
  | f + 1, k => if kd T k ≠ 1 ∧ cs.getD k 0 ≠ 0 then k else latTo T cs f (k + 1)
def latE (T : List Ti) (cs : List Int) (i : Nat) : Int := latTo T cs (T.length - (i + 1)) (i + 1)
theorem latTo_of (T : List Ti) (cs : List Int) : ∀ (f k : Nat), (latTo T cs f k = -1 ∧ ∀ j, k ≤ j → j < k + f → kd T j = 1 ∨ cs.getD j 0 = 0) ∨ (∃ j : Nat, latTo T cs f k = j ∧ k ≤ j ∧ j < k + f ∧ kd T j ≠ 1 ∧ cs.getD j 0 ≠ 0) := by
  intro f
  induction f with
  | zero => intro k; left; exact ⟨rfl, by intro j h1 h2; omega⟩
  | succ f ih =>
    intro k
    by_cases h : kd T k ≠ 1 ∧ cs.getD k 0 ≠ 0
    · rw [latTo, if_pos h]
      right; exact ⟨k, rfl, by omega, by omega, h⟩
    · rw [latTo, if_neg h]
      rcases ih (k + 1) with ⟨h1, h2⟩ | ⟨j, h1, h2, h3, h4⟩
      · left
        refine ⟨h1, fun j hj hj2 => ?_⟩
        by_cases hk : j = k
        · subst hk
          by_cases h5 : kd T j = 1
          · exact .inl h5
          · right; by_cases h6 : cs.getD j 0 = 0
            · exact h6
            · exact absurd ⟨h5, h6⟩ h
        · exact h2 j (by omega) (by omega)
      · right; exact ⟨j, h1, by omega, by omega, h4⟩
theorem latE_of (T : List Ti) (cs : List Int) (i : Nat) : (latE T cs i = -1 ∧ ∀ j, i < j → j < T.length → kd T j = 1 ∨ cs.getD j 0 = 0) ∨ (∃ j : Nat, latE T cs i = j ∧ i < j ∧ j < T.length ∧ kd T j ≠ 1 ∧ cs.getD j 0 ≠ 0) := by
  unfold latE
  rcases latTo_of T cs (T.length - (i + 1)) (i + 1) with ⟨h1, h2⟩ | ⟨j, h1, h2, h3, h4⟩
  · left; exact ⟨h1, fun j hj hj2 => h2 j (by omega) (by omega)⟩
  · right; exact ⟨j, h1, by omega, by omega, h4⟩
/-- the error of a game or of the amounts of its tiers -/
def rchkE (g : Gm) (ts : List Int) : Int := if chkE g ≠ 0 then chkE g else if ts.length ≠ g.tiers.length then 2 else allE ts 0 1000000000000
theorem rchkE_facts {g : Gm} {ts : List Int} (h : rchkE g ts = 0) : chkE g = 0 ∧ ts.length = g.tiers.length ∧ amtB ts = true := by
  unfold rchkE at h
  split at h
  · rename_i h1; exact absurd h h1
  rename_i h1
  split at h
  · simp at h
  rename_i h2
  unfold allE at h
  split at h
  · exact ⟨by omega, by omega, by assumption⟩
  · simp at h
/-- one round of Cap: none, if an amount becomes too great -/
def capStep (T : List Ti) (cap : Int) (l : List Int) (i : Nat) : Option (List Int) :=
  if kd T i ≠ 3 ∨ l.getD i 0 ≤ cap then some l
  else if nxtE T i < 0 then some l
  else if 1000000000000 < l.getD (nxtE T i).toNat 0 + (l.getD i 0 - cap) then none
  else some ((l.set (nxtE T i).toNat (l.getD (nxtE T i).toNat 0 + (l.getD i 0 - cap))).set i cap)
def capTo (T : List Ti) (cap : Int) : Nat → Nat → List Int → Option (List Int)
  | 0, _, l => some l
  | f + 1, i, l => match capStep T cap l i with
    | none => none
    | some l' => capTo T cap f (i + 1) l'
/-- the amounts behind Cap, and the error -/
def capR (g : Gm) (ts : List Int) : Option (List Int) := if g.cap = 0 then some ts else capTo g.tiers g.cap g.tiers.length 0 ts
def capE (g : Gm) (ts : List Int) : Int := if rchkE g ts ≠ 0 then rchkE g ts else match capR g ts with | none => 9 | some _ => 0
def capL (g : Gm) (ts : List Int) : List Int := if rchkE g ts ≠ 0 then [] else match capR g ts with | none => [] | some l => l
structure CapInv (T : List Ti) (cap : Int) (ts : List Int) (k : Nat) (l : List Int) : Prop where
  len : l.length = ts.length
  amt : amtB l = true
  sum : sumTo l ts.length = sumTo ts ts.length
  fixed : ∀ i, kd T i = 1 → l.getD i 0 = ts.getD i 0
  most : ∀ i, kd T i ≠ 3 → ts.getD i 0 ≤ l.getD i 0
  capped : ∀ i, i < k → kd T i = 3 → 0 ≤ nxtE T i → l.getD i 0 ≤ cap
theorem CapInv.start (T : List Ti) (cap : Int) (ts : List Int) (h : amtB ts = true) : CapInv T cap ts 0 ts := ⟨rfl, h, rfl, fun _ _ => rfl, fun _ _ => Int.le_refl _, fun _ h => by omega⟩
theorem CapInv.step {T : List Ti} {cap : Int} {ts l l' : List Int} {k : Nat} (h : CapInv T cap ts k l) (hT : ts.length = T.length) (hk : k < T.length) (hc : 0 ≤ cap) (hc2 : cap ≤ 1000000000000) (hs : capStep T cap l k = some l') : CapInv T cap ts (k + 1) l' := by
  unfold capStep at hs
  have hl := h.len
  split at hs
  · rename_i h1
    obtain rfl := Option.some.inj hs
    refine ⟨h.len, h.amt, h.sum, h.fixed, h.most, fun i hi h3 hn => ?_⟩
    by_cases hik : i = k
    · subst hik; omega
    · exact h.capped i (by omega) h3 hn
  rename_i h1
  split at hs
  · rename_i h2
    obtain rfl := Option.some.inj hs
    refine ⟨h.len, h.amt, h.sum, h.fixed, h.most, fun i hi h3 hn => ?_⟩
    by_cases hik : i = k
    · subst hik; omega
    · exact h.capped i (by omega) h3 hn
  rename_i h2
  split at hs
  · simp at hs
  rename_i h3
  obtain rfl := Option.some.inj hs
  rcases nxtE_of T k with ⟨h4, _⟩ | ⟨j, h4, h5, h6, h7⟩
  · omega
  rw [h4] at h3 ⊢
  simp only [Int.toNat_natCast] at h3 ⊢
  have hk3 : kd T k = 3 := by omega
  have hov : ¬ l.getD k 0 ≤ cap := by omega
  have hjl : j < l.length := by omega
  have hkl : k < (l.set j (l.getD j 0 + (l.getD k 0 - cap))).length := by rw [List.length_set]; omega
  have hat : ∀ i, ((l.set j (l.getD j 0 + (l.getD k 0 - cap))).set k cap).getD i 0 = if i = k then cap else if i = j then l.getD j 0 + (l.getD k 0 - cap) else l.getD i 0 := by
    intro i
    rw [getD_set _ _ _ _ hkl, getD_set _ _ _ _ hjl]
  have hkj : ¬ k = j := by omega
  refine ⟨by simp; exact hl, ?_, ?_, ?_, ?_, ?_⟩
  · apply amtB_of
    intro i hi
    rw [hat]
    have b1 := amtB_at h.amt i
    have b2 := amtB_at h.amt j
    split
    · omega
    · split <;> omega
  · have e1 := sumTo_set l j (l.getD k 0 - cap) hjl ts.length
    have e2 := sumTo_set (l.set j (l.getD j 0 + (l.getD k 0 - cap))) k (cap - l.getD k 0) hkl ts.length
    have e3 : (l.set j (l.getD j 0 + (l.getD k 0 - cap))).getD k 0 = l.getD k 0 := by rw [getD_set _ _ _ _ hjl, if_neg hkj]
    rw [e3, show l.getD k 0 + (cap - l.getD k 0) = cap by omega] at e2
    rw [e2, e1, if_pos (by omega), if_pos (by omega), h.sum]
    omega
  · intro i hi
    rw [hat, if_neg (by intro e; subst e; omega), if_neg (by intro e; subst e; exact h7 hi)]
    exact h.fixed i hi
  · intro i hi
    rw [hat, if_neg (by intro e; subst e; omega)]
    have := h.most i hi
    split
    · rename_i e; subst e; omega
    · exact this
  · intro i hi h8 h9
    rw [hat]
    split
    · omega
    · rename_i e1
      rw [if_neg (by omega)]
      exact h.capped i (by omega) h8 h9
theorem capTo_inv {T : List Ti} {cap : Int} {ts : List Int} (hT : ts.length = T.length) (hc : 0 ≤ cap) (hc2 : cap ≤ 1000000000000) : ∀ (f k : Nat) (l l' : List Int), f + k = T.length → CapInv T cap ts k l → capTo T cap f k l = some l' → CapInv T cap ts T.length l' := by
  intro f
  induction f with
  | zero =>
    intro k l l' hk h hs
    obtain rfl := Option.some.inj hs
    rw [← hk, Nat.zero_add]; exact h
  | succ f ih =>
    intro k l l' hk h hs
    rw [capTo] at hs
    cases hst : capStep T cap l k with
    | none => rw [hst] at hs; simp at hs
    | some m => rw [hst] at hs; exact ih (k + 1) m l' (by omega) (h.step hT (by omega) hc hc2 hst) hs
theorem capTo_go {T : List Ti} {cap : Int} {l l' : List Int} {f k : Nat} (h : capStep T cap l k = some l') : capTo T cap (f + 1) k l = capTo T cap f (k + 1) l' := by rw [capTo, h]
theorem capTo_no {T : List Ti} {cap : Int} {l : List Int} {f k : Nat} (h : capStep T cap l k = none) : capTo T cap (f + 1) k l = none := by rw [capTo, h]
theorem badT_bd {g : Gm} (h : badT g = false) : 0 ≤ g.cap ∧ g.cap ≤ 1000000000000 ∧ 0 ≤ g.rolls ∧ g.rolls ≤ 64 ∧ 0 ≤ g.pool ∧ g.pool ≤ 10000 ∧ 0 ≤ g.reserve ∧ g.reserve ≤ 10000 ∧ 1 ≤ g.round ∧ g.round ≤ 1000000 := by
  unfold badT inR at h
  simp only [Bool.not_eq_false', Bool.and_eq_true, decide_eq_true_eq] at h
  omega
theorem head_bd {g : Gm} (h : chkE g = 0) : badM g = false ∧ badT g = false := by
  have := (chkE_facts h).1
  unfold headB at this
  simp at this
  exact ⟨this.1.2, this.2⟩
theorem capL_of {g : Gm} {ts : List Int} (h : rchkE g ts = 0) : capL g ts = match capR g ts with | none => [] | some l => l := by
  unfold capL; rw [if_neg (by omega)]
theorem capE_of {g : Gm} {ts : List Int} (h : rchkE g ts = 0) : capE g ts = match capR g ts with | none => 9 | some _ => 0 := by
  unfold capE; rw [if_neg (by omega)]
theorem cap_facts {g : Gm} {ts : List Int} (h : capE g ts = 0) : rchkE g ts = 0 ∧ CapInv g.tiers g.cap ts (if g.cap = 0 then 0 else g.tiers.length) (capL g ts) ∧ (g.cap = 0 → capL g ts = ts) := by
  have h1 : rchkE g ts = 0 := by
    unfold capE at h
    split at h
    · rename_i h1; exact absurd h h1
    · rename_i h1; omega
  obtain ⟨q1, q2, q3⟩ := rchkE_facts h1
  have hb := badT_bd (head_bd q1).2
  refine ⟨h1, ?_⟩
  rw [capE_of h1] at h
  by_cases hc : g.cap = 0
  · have hR : capR g ts = some ts := if_pos hc
    have hL : capL g ts = ts := by rw [capL_of h1, hR]
    rw [hL, if_pos hc]
    exact ⟨CapInv.start _ _ _ q3, fun _ => rfl⟩
  · have hR : capR g ts = capTo g.tiers g.cap g.tiers.length 0 ts := if_neg hc
    rw [hR] at h
    cases hs : capTo g.tiers g.cap g.tiers.length 0 ts with
    | none => rw [hs] at h; simp at h
    | some l =>
      have hL : capL g ts = l := by rw [capL_of h1, hR, hs]
      rw [hL, if_neg hc]
      exact ⟨capTo_inv q2 hb.1 hb.2.1 _ 0 ts l (by omega) (CapInv.start _ _ _ q3) hs, fun h => absurd h hc⟩
theorem cap_err {g : Gm} {ts : List Int} (h : ¬ capE g ts = 0) : capL g ts = [] := by
  unfold capE at h
  unfold capL
  split at h
  · rename_i h1; rw [if_pos h1]
  · rename_i h1
    rw [if_neg h1]
    cases hs : capR g ts with
    | none => rfl
    | some l => rw [hs] at h; simp at h
end Go.Proofs.Ytijdlggoaianbaa
