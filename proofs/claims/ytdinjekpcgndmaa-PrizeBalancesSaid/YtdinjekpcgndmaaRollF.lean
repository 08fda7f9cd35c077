/-
  LAYER 37, plain: what Flow computes, and what follows of it. Plain lemmas.
-/
import Derived.Test.YtdinjekpcgndmaaRollP
set_option linter.unusedVariables false
namespace Go.Proofs.Ytdinjekpcgndmaa
open Go.RowKit
/-- the first jackpot from k on, of f tiers -/
def fstTo (T : List Ti) : Nat → Nat → Int
  | 0, _ => -1
  | f + 1, k => if kd T k = 3 then k else fstTo T f (k + 1)
def fstE (T : List Ti) : Int := fstTo T T.length 0
theorem fstTo_of (T : List Ti) : ∀ (f k : Nat), (fstTo T f k = -1 ∧ ∀ j, k ≤ j → j < k + f → kd T j ≠ 3) ∨ (∃ j : Nat, fstTo T f k = j ∧ k ≤ j ∧ j < k + f ∧ kd T j = 3) := by
  intro f
  induction f with
  | zero => intro k; left; exact ⟨rfl, by intro j h1 h2; omega⟩
  | succ f ih =>
    intro k
    by_cases h : kd T k = 3
    · rw [fstTo, if_pos h]
      right; exact ⟨k, rfl, by omega, by omega, h⟩
    · rw [fstTo, if_neg h]
      rcases ih (k + 1) with ⟨h1, h2⟩ | ⟨j, h1, h2, h3, h4⟩
      · left
        refine ⟨h1, fun j hj hj2 => ?_⟩
        by_cases hk : j = k
        · subst hk; exact h
        · exact h2 j (by omega) (by omega)
      · right; exact ⟨j, h1, by omega, by omega, h4⟩
theorem fstE_of (T : List Ti) : (fstE T = -1 ∧ ∀ j, j < T.length → kd T j ≠ 3) ∨ (∃ j : Nat, fstE T = j ∧ j < T.length ∧ kd T j = 3) := by
  unfold fstE
  rcases fstTo_of T T.length 0 with ⟨h1, h2⟩ | ⟨j, h1, h2, h3, h4⟩
  · left; exact ⟨h1, fun j hj => h2 j (by omega) (by omega)⟩
  · right; exact ⟨j, h1, by omega, h4⟩
def mustB (g : Gm) (rolls : Int) : Bool := decide (g.rolls ≠ 0 ∧ g.rolls ≤ rolls + 1)
/-- a round of Flow: where the amount of tier i goes (true: to the pools), and to which tier -/
def flAt (T : List Ti) (cs : List Int) (must : Bool) (i : Nat) : Bool × Nat :=
  if kd T i = 1 ∨ cs.getD i 0 ≠ 0 then (true, i)
  else if 0 ≤ latE T cs i ∧ (kd T i = 2 ∨ must = true) then (true, (latE T cs i).toNat)
  else if kd T i = 2 ∧ 0 ≤ fstE T then (false, (fstE T).toNat)
  else (false, i)
def flTo (T : List Ti) (cs ts : List Int) (must : Bool) (n : Nat) : Nat → List Int × List Int
  | 0 => (List.replicate n 0, List.replicate n 0)
  | k + 1 =>
    let s := flTo T cs ts must n k
    let x := flAt T cs must k
    if x.1 = true then (s.1.set x.2 (s.1.getD x.2 0 + ts.getD k 0), s.2) else (s.1, s.2.set x.2 (s.2.getD x.2 0 + ts.getD k 0))
theorem flAt_lt {T : List Ti} {cs : List Int} {must : Bool} {i : Nat} (hi : i < T.length) : (flAt T cs must i).2 < T.length := by
  unfold flAt
  split
  · exact hi
  · split
    · rename_i h
      rcases latE_of T cs i with ⟨h1, _⟩ | ⟨j, h1, h2, h3, _⟩
      · omega
      · simp only [h1, Int.toNat_natCast]; exact h3
    · split
      · rcases fstE_of T with ⟨h1, _⟩ | ⟨j, h1, h2, _⟩
        · omega
        · simp only [h1, Int.toNat_natCast]; exact h2
      · exact hi
structure FlInv (T : List Ti) (cs ts : List Int) (k : Nat) (P C : List Int) : Prop where
  lp : P.length = T.length
  lc : C.length = T.length
  bp : ∀ i, 0 ≤ P.getD i 0 ∧ P.getD i 0 ≤ 1000000000000 * k
  bc : ∀ i, 0 ≤ C.getD i 0 ∧ C.getD i 0 ≤ 1000000000000 * k
  sum : sumTo P T.length + sumTo C T.length = sumTo ts k
  fixed : ∀ i, i < T.length → kd T i = 1 → P.getD i 0 = (if i < k then ts.getD i 0 else 0) ∧ C.getD i 0 = 0
  none : ∀ i, kd T i ≠ 1 → cs.getD i 0 = 0 → P.getD i 0 = 0
  some : ∀ i, i < k → kd T i ≠ 1 → cs.getD i 0 ≠ 0 → ts.getD i 0 ≤ P.getD i 0
  share : ∀ i, kd T i = 2 → cs.getD i 0 ≠ 0 → C.getD i 0 = 0
theorem rep_getD (m i : Nat) : (List.replicate m (0 : Int)).getD i 0 = 0 := by
  simp only [List.getD, List.getElem?_replicate]; split <;> rfl
theorem flTo_inv {T : List Ti} {cs ts : List Int} {must : Bool} (ha : amtB ts = true) : ∀ k, k ≤ T.length → FlInv T cs ts k (flTo T cs ts must T.length k).1 (flTo T cs ts must T.length k).2 := by
  intro k
  induction k with
  | zero =>
    intro _
    refine ⟨by simp [flTo], by simp [flTo], fun i => ?_, fun i => ?_, ?_, fun i _ _ => ?_, fun i _ _ => ?_, fun i h => by omega, fun i _ _ => ?_⟩
    · simp only [flTo, rep_getD]; omega
    · simp only [flTo, rep_getD]; omega
    · simp only [flTo, sumTo_zero, sumTo]; omega
    · simp only [flTo, rep_getD]; simp
    · simp only [flTo, rep_getD]
    · simp only [flTo, rep_getD]
  | succ k ih =>
    intro hk
    have h := ih (by omega)
    have hlt := flAt_lt (cs := cs) (must := must) (show k < T.length by omega)
    have hat : ∃ b j, flAt T cs must k = (b, j) := ⟨_, _, rfl⟩
    have ht := amtB_at ha k
    rw [flTo]
    obtain ⟨P, C, hPC⟩ : ∃ P C, flTo T cs ts must T.length k = (P, C) := ⟨_, _, rfl⟩
    rw [hPC] at h ⊢
    simp only at h ⊢
    obtain ⟨b, j, hbj⟩ := hat
    rw [hbj] at hlt ⊢
    simp only at hlt ⊢
    -- what is known of the place
    have hpl : b = true → (j = k ∧ (kd T k = 1 ∨ cs.getD k 0 ≠ 0)) ∨ (k < j ∧ kd T j ≠ 1 ∧ cs.getD j 0 ≠ 0 ∧ kd T k ≠ 1 ∧ cs.getD k 0 = 0) := by
      intro hb
      unfold flAt at hbj
      split at hbj
      · rename_i h1; simp at hbj; left; exact ⟨hbj.2.symm, h1⟩
      rename_i h1
      split at hbj
      · rename_i h2
        simp at hbj
        right
        rcases latE_of T cs k with ⟨h3, _⟩ | ⟨i, h3, h4, h5, h6, h7⟩
        · omega
        · have : j = i := by rw [← hbj.2, h3]; simp
          subst this
          refine ⟨h4, h6, h7, by omega, by omega⟩
      · split at hbj <;> (simp at hbj; subst hb; simp at hbj)
    have hpc : b = false → kd T k ≠ 1 ∧ cs.getD k 0 = 0 ∧ (kd T j = 3 ∨ j = k) := by
      intro hb
      unfold flAt at hbj
      split at hbj
      · simp at hbj; subst hb; simp at hbj
      rename_i h1
      split at hbj
      · simp at hbj; subst hb; simp at hbj
      split at hbj
      · rename_i h2
        simp at hbj
        refine ⟨by omega, by omega, ?_⟩
        left
        rcases fstE_of T with ⟨h3, _⟩ | ⟨i, h3, h4, h5⟩
        · omega
        · have : j = i := by rw [← hbj.2, h3]; simp
          subst this; exact h5
      · simp at hbj
        exact ⟨by omega, by omega, .inr hbj.2.symm⟩
    cases b
    · obtain ⟨n1, n2, n3⟩ := hpc rfl
      simp only [Bool.false_eq_true, if_false]
      have hjc : j < C.length := by rw [h.lc]; exact hlt
      have hg := fun i => getD_set C j i (C.getD j 0 + ts.getD k 0) hjc
      refine ⟨h.lp, by simp; exact h.lc, fun i => ?_, fun i => ?_, ?_, fun i hi h1 => ?_, h.none, fun i hi h1 h2 => ?_, fun i h1 h2 => ?_⟩
      · have := h.bp i; omega
      · rw [hg]
        have b1 := h.bc i
        have b2 := h.bc j
        split <;> omega
      · rw [sumTo_set C j _ hjc, if_pos hlt, sumTo]
        have := h.sum; omega
      · rw [hg]
        have := h.fixed i hi h1
        refine ⟨?_, ?_⟩
        · rw [this.1]
          by_cases e : i = k
          · subst e; exact absurd h1 n1
          · by_cases e2 : i < k
            · rw [if_pos e2, if_pos (by omega)]
            · rw [if_neg e2, if_neg (by omega)]
        · rw [if_neg ?_]
          · exact this.2
          · intro e; subst e
            rcases n3 with n3 | n3
            · omega
            · subst n3; exact n1 h1
      · by_cases e : i = k
        · subst e; exact absurd n2 h2
        · exact h.some i (by omega) h1 h2
      · rw [hg, if_neg ?_]
        · exact h.share i h1 h2
        · intro e; subst e
          rcases n3 with n3 | n3
          · omega
          · subst n3; exact h2 n2
    · have hp := hpl rfl
      simp only [if_true]
      have hjc : j < P.length := by rw [h.lp]; exact hlt
      have hg := fun i => getD_set P j i (P.getD j 0 + ts.getD k 0) hjc
      refine ⟨by simp; exact h.lp, h.lc, fun i => ?_, fun i => ?_, ?_, fun i hi h1 => ?_, fun i h1 h2 => ?_, fun i hi h1 h2 => ?_, h.share⟩
      · rw [hg]
        have b1 := h.bp i
        have b2 := h.bp j
        split <;> omega
      · have := h.bc i; omega
      · rw [sumTo_set P j _ hjc, if_pos hlt, sumTo]
        have := h.sum; omega
      · rw [hg]
        have := h.fixed i hi h1
        refine ⟨?_, this.2⟩
        by_cases e : i = j
        · rw [if_pos e]
          subst e
          rcases hp with ⟨rfl, _⟩ | ⟨e1, e2, _⟩
          · rw [this.1, if_neg (by omega), if_pos (by omega)]; omega
          · exact absurd h1 e2
        · rw [if_neg e, this.1]
          by_cases e2 : i < k
          · rw [if_pos e2, if_pos (by omega)]
          · by_cases e3 : i = k
            · subst e3
              rcases hp with ⟨e4, _⟩ | ⟨_, _, _, e5, _⟩
              · omega
              · exact absurd h1 e5
            · rw [if_neg e2, if_neg (by omega)]
      · rw [hg, if_neg ?_]
        · exact h.none i h1 h2
        · intro e; subst e
          rcases hp with ⟨rfl, e4⟩ | ⟨_, _, e4, _⟩
          · rcases e4 with e4 | e4
            · exact h1 e4
            · exact e4 h2
          · exact e4 h2
      · rw [hg]
        by_cases e : i = j
        · rw [if_pos e]
          subst e
          have b2 := h.bp i
          by_cases e2 : i = k
          · subst e2; omega
          · have := h.some i (by omega) h1 h2; omega
        · rw [if_neg e]
          by_cases e2 : i = k
          · subst e2
            rcases hp with ⟨e4, _⟩ | ⟨_, _, _, _, e5⟩
            · omega
            · exact absurd e5 h2
          · exact h.some i (by omega) h1 h2
/-- is there such an index below n? -/
def anyTo (p : Nat → Bool) : Nat → Bool
  | 0 => false
  | n + 1 => anyTo p n || p n
theorem anyTo_false {p : Nat → Bool} : ∀ {n : Nat}, anyTo p n = false → ∀ i, i < n → p i = false := by
  intro n
  induction n with
  | zero => intro _ i h; omega
  | succ n ih =>
    intro h i hi
    rw [anyTo, Bool.or_eq_false_iff] at h
    by_cases e : i = n
    · subst e; exact h.2
    · exact ih h.1 i (by omega)
theorem anyTo_true {p : Nat → Bool} : ∀ {n : Nat}, anyTo p n = true → ∃ i, i < n ∧ p i = true := by
  intro n
  induction n with
  | zero => intro h; simp [anyTo] at h
  | succ n ih =>
    intro h
    rw [anyTo, Bool.or_eq_true] at h
    rcases h with h | h
    · obtain ⟨i, h1, h2⟩ := ih h; exact ⟨i, by omega, h2⟩
    · exact ⟨n, by omega, h⟩
theorem anyTo_mk {p : Nat → Bool} {n i : Nat} (hi : i < n) (h : p i = true) : anyTo p n = true := by
  cases hb : anyTo p n
  · rw [anyTo_false hb i hi] at h; simp at h
  · rfl
theorem anyTo_no {p : Nat → Bool} {n : Nat} (h : ∀ i, i < n → p i = false) : anyTo p n = false := by
  cases hb : anyTo p n
  · rfl
  · obtain ⟨i, h1, h2⟩ := anyTo_true hb
    rw [h i h1] at h2; simp at h2
def jackP (T : List Ti) (i : Nat) : Bool := decide (kd T i = 3)
/-- the jackpot of tier i goes to winners -/
def wonP (T : List Ti) (cs : List Int) (must : Bool) (i : Nat) : Bool := decide (kd T i = 3 ∧ (cs.getD i 0 ≠ 0 ∨ (must = true ∧ 0 ≤ latE T cs i)))
def ovP (s : List Int × List Int) (i : Nat) : Bool := decide (1000000000000 < s.1.getD i 0 ∨ 1000000000000 < s.2.getD i 0)
def negB (cs : List Int) : Bool := cs.any fun z => decide (z < 0)
/-- what Flow returns -/
def flS (g : Gm) (ts cs : List Int) (rolls : Int) : List Int × List Int := flTo g.tiers cs ts (mustB g rolls) g.tiers.length g.tiers.length
def flE (g : Gm) (ts cs : List Int) (rolls : Int) : Int :=
  if rchkE g ts ≠ 0 then rchkE g ts else if cs.length ≠ g.tiers.length ∨ rolls < 0 ∨ 64 < rolls then 2 else if negB cs = true then 2
  else if anyTo (ovP (flS g ts cs rolls)) g.tiers.length = true then 9 else 0
def rolE (T : List Ti) (cs : List Int) (must : Bool) (rolls : Int) : Int := if anyTo (jackP T) T.length = false then 0 else if anyTo (wonP T cs must) T.length = true then 0 else min (rolls + 1) 64
def flP (g : Gm) (ts cs : List Int) (rolls : Int) : List Int := if flE g ts cs rolls = 0 then (flS g ts cs rolls).1 else []
def flC (g : Gm) (ts cs : List Int) (rolls : Int) : List Int := if flE g ts cs rolls = 0 then (flS g ts cs rolls).2 else []
def flN (g : Gm) (ts cs : List Int) (rolls : Int) : Int := if flE g ts cs rolls = 0 then rolE g.tiers cs (mustB g rolls) rolls else 0
theorem flE_facts {g : Gm} {ts cs : List Int} {rolls : Int} (h : flE g ts cs rolls = 0) : rchkE g ts = 0 ∧ cs.length = g.tiers.length ∧ 0 ≤ rolls ∧ rolls ≤ 64 ∧ (∀ i, 0 ≤ cs.getD i 0) ∧ anyTo (ovP (flS g ts cs rolls)) g.tiers.length = false := by
  unfold flE at h
  split at h
  · rename_i h1; exact absurd h h1
  rename_i h1
  split at h
  · simp at h
  rename_i h2
  split at h
  · simp at h
  rename_i h3
  split at h
  · simp at h
  rename_i h4
  refine ⟨by omega, by omega, by omega, by omega, fun i => ?_, by simpa using h4⟩
  by_cases hi : i < cs.length
  · unfold negB at h3
    simp at h3
    have := h3 cs[i] (List.getElem_mem hi)
    simpa [List.getD, hi] using this
  · simp [List.getD, hi]
theorem fl_facts {g : Gm} {ts cs : List Int} {rolls : Int} (h : flE g ts cs rolls = 0) : ts.length = g.tiers.length ∧ cs.length = g.tiers.length ∧ 0 ≤ rolls ∧ rolls ≤ 64 ∧ (∀ i, 0 ≤ cs.getD i 0) ∧ FlInv g.tiers cs ts g.tiers.length (flP g ts cs rolls) (flC g ts cs rolls) ∧
    amtB ts = true ∧ amtB (flP g ts cs rolls) = true ∧ amtB (flC g ts cs rolls) = true := by
  obtain ⟨h1, h2, h3, h4, h5, h6⟩ := flE_facts h
  obtain ⟨q1, q2, q3⟩ := rchkE_facts h1
  have hi : FlInv g.tiers cs ts g.tiers.length (flP g ts cs rolls) (flC g ts cs rolls) := by
    unfold flP flC
    rw [if_pos h, if_pos h]
    exact flTo_inv q3 _ (Nat.le_refl _)
  have hov := anyTo_false h6
  refine ⟨q2, h2, h3, h4, h5, hi, q3, ?_, ?_⟩
  · apply amtB_of
    intro j hj
    have := hov j (by have := hi.lp; omega)
    have hb := hi.bp j
    unfold flP at hb ⊢
    rw [if_pos h] at hb ⊢
    unfold ovP at this
    simp at this
    exact ⟨hb.1, this.1⟩
  · apply amtB_of
    intro j hj
    have := hov j (by have := hi.lc; omega)
    have hb := hi.bc j
    unfold flC at hb ⊢
    rw [if_pos h] at hb ⊢
    unfold ovP at this
    simp at this
    exact ⟨hb.1, this.2⟩
theorem rolE_bd (T : List Ti) (cs : List Int) (must : Bool) (rolls : Int) (h : 0 ≤ rolls) : 0 ≤ rolE T cs must rolls ∧ rolE T cs must rolls ≤ 64 := by
  unfold rolE
  split
  · omega
  · split <;> omega
end Go.Proofs.Ytdinjekpcgndmaa
