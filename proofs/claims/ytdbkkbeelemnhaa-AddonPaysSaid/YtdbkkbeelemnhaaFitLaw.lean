/-
  What is drawn for add-ons, in plain numbers: the factor is one of the add-on's, the serial number has its digits.
-/
import Derived.Test.YtdbkkbeelemnhaaDrawA
set_option linter.unusedVariables false
namespace Go.Proofs.Ytdbkkbeelemnhaa
open Go.RowKit
/-- a list of add-ons that is right: each of a known kind, no kind twice -/
structure AdsR (l : List Ad) : Prop where
  kind : ∀ (i : Nat) (a : Ad), l[i]? = some a → (a.kind = 1 ∧ 1 ≤ a.factors.length ∧ a.factors.length ≤ 8) ∨ (a.kind = 2 ∧ 1 ≤ a.digits ∧ a.digits ≤ 8 ∧ (a.prizes.length : Int) = a.digits)
  once : ∀ (i j : Nat) (a b : Ad), i < j → l[i]? = some a → l[j]? = some b → a.kind ≠ b.kind
theorem adsR_of {l : List Ad} (h : addsE l = 0) : AdsR l := by
  obtain ⟨_, q2⟩ := addsE_facts h
  refine ⟨fun i a ha => ?_, fun i j a b hij ha hb hk => ?_⟩
  · obtain ⟨_, hk, _, _, h1, h2⟩ := adE_facts (q2 i a ha).1
    rcases hk with hk | hk
    · exact .inl ⟨hk, (h1 hk).2.2.1, (h1 hk).2.2.2.1⟩
    · exact .inr ⟨hk, (h2 hk).2.1, (h2 hk).2.2.1, (h2 hk).2.2.2.1⟩
  · have hs := (q2 j b hb).2
    unfold sameK at hs
    rw [List.any_eq_false] at hs
    have hm : a ∈ l.take j := List.mem_of_getElem? (by rw [List.getElem?_take_of_lt hij]; exact ha)
    have := hs a hm
    simp [hk] at this
theorem getD_some {l : List Ad} {k : Nat} {a : Ad} (h : l[k]? = some a) : l.getD k default = a := by simp [List.getD, h]
/-- an error that is none behind all is none ahead -/
theorem drTo_ok {l : List Ad} {s : Int} {n : Nat} (h : (drTo l s n).err = 0) : ∀ k, k ≤ n → (drTo l s k).err = 0 := by
  intro k hk
  rcases Nat.lt_or_ge k n with hlt | hge
  · by_cases h0 : (drTo l s k).err = 0
    · exact h0
    · obtain ⟨j, rfl⟩ : ∃ j, n = k + j := ⟨n - k, by omega⟩
      rw [drTo_stay l s k h0 j] at h
      exact absurd h h0
  · obtain rfl : k = n := by omega
    exact h
def fB (l : List Ad) (N : Int) : Nat → Bool
  | 0 => N == 0
  | k + 1 => if (l.getD k default).kind = 2 then fB l N k else (l.getD k default).factors.any (· == N)
def gB (l : List Ad) (z : Nat) : Nat → Bool
  | 0 => z == 0
  | k + 1 => if (l.getD k default).kind = 2 then (z : Int) == (l.getD k default).digits else gB l z k
section
variable {l : List Ad} {s : Int} (hl : AdsR l) (h : (drTo l s l.length).err = 0)
include hl h
theorem step_one {k : Nat} {a : Ad} (ha : l[k]? = some a) : drTo l s (k + 1) = drOne a (drTo l s k) ∧ (drOne a (drTo l s k)).err = 0 := by
  have _ := hl
  have hk := (List.getElem?_eq_some_iff.1 ha).1
  have h0 := drTo_ok h k (by omega)
  have h1 := drTo_go l s k h0
  rw [getD_some ha] at h1
  exact ⟨h1, by rw [← h1]; exact drTo_ok h (k + 1) (by omega)⟩
/-- behind the last factor the number stays -/
theorem num_stay : ∀ (d k : Nat), k + d = l.length → (∀ i a, k ≤ i → l[i]? = some a → a.kind ≠ 1) → (drTo l s l.length).num = (drTo l s k).num := by
  intro d
  induction d with
  | zero => intro k hk _; rw [← hk]; rfl
  | succ d ih =>
    intro k hk hno
    obtain ⟨a, ha⟩ : ∃ a, l[k]? = some a := ⟨_, List.getElem?_eq_getElem (by omega)⟩
    rw [ih (k + 1) (by omega) (fun i b hi hb => hno i b (by omega) hb)]
    obtain ⟨h1, _⟩ := step_one hl h ha
    rw [h1]
    unfold drOne
    rw [if_neg (hno k a (by omega) ha)]
theorem txt_stay : ∀ (d k : Nat), k + d = l.length → (∀ i a, k ≤ i → l[i]? = some a → a.kind ≠ 2) → (drTo l s l.length).txt = (drTo l s k).txt := by
  intro d
  induction d with
  | zero => intro k hk _; rw [← hk]; rfl
  | succ d ih =>
    intro k hk hno
    obtain ⟨a, ha⟩ : ∃ a, l[k]? = some a := ⟨_, List.getElem?_eq_getElem (by omega)⟩
    rw [ih (k + 1) (by omega) (fun i b hi hb => hno i b (by omega) hb)]
    obtain ⟨h1, _⟩ := step_one hl h ha
    rw [h1]
    unfold drOne
    rw [if_pos (by rcases hl.kind k a ha with ⟨x, _⟩ | ⟨x, _⟩; exact x; exact absurd x (hno k a (by omega) ha))]
/-- the number that a factor add-on draws is one of its factors -/
theorem num_in {k : Nat} {a : Ad} (ha : l[k]? = some a) (hk : a.kind = 1) : a.factors.any (· == (drTo l s l.length).num) = true := by
  have hlt := (List.getElem?_eq_some_iff.1 ha).1
  rw [num_stay hl h (l.length - (k + 1)) (k + 1) (by omega) (fun i b hi hb hb1 => hl.once k i a b (by omega) ha hb (by omega))]
  obtain ⟨h1, h2⟩ := step_one hl h ha
  rw [h1]
  unfold drOne at h2 ⊢
  rw [if_pos hk] at h2 ⊢
  simp only at h2 ⊢
  obtain ⟨_, _, v0, v1⟩ := bE_zero _ _ _ h2
  rw [List.any_eq_true]
  refine ⟨a.factors.getD (bV a.factors.length (drTo l s k).S (drTo l s k).U).toNat 0, ?_, by simp⟩
  have hlt2 : (bV a.factors.length (drTo l s k).S (drTo l s k).U).toNat < a.factors.length := by omega
  rw [show a.factors.getD (bV a.factors.length (drTo l s k).S (drTo l s k).U).toNat 0 = a.factors[(bV a.factors.length (drTo l s k).S (drTo l s k).U).toNat] by simp [List.getD, hlt2]]
  exact List.getElem_mem _
/-- the serial number that is drawn -/
theorem txt_is {k : Nat} {a : Ad} (ha : l[k]? = some a) (hk : a.kind = 2) : ∃ S U : Int, (drTo l s l.length).txt = serS S U a.digits.toNat ∧ seE 10 S U a.digits.toNat = 0 := by
  have hlt := (List.getElem?_eq_some_iff.1 ha).1
  rw [txt_stay hl h (l.length - (k + 1)) (k + 1) (by omega) (fun i b hi hb hb1 => hl.once k i a b (by omega) ha hb (by omega))]
  obtain ⟨h1, h2⟩ := step_one hl h ha
  rw [h1]
  unfold drOne at h2 ⊢
  rw [if_neg (by omega)] at h2 ⊢
  exact ⟨_, _, rfl, h2⟩
theorem fB_ok : fB l (drTo l s l.length).num l.length = true := by
  have hq : ∀ k, k ≤ l.length → fB l (drTo l s l.length).num k = true ∨ ∃ i a, k ≤ i ∧ l[i]? = some a ∧ a.kind = 1 := by
    intro k
    induction k with
    | zero =>
      intro _
      by_cases he : ∃ i a, 0 ≤ i ∧ l[i]? = some a ∧ a.kind = 1
      · exact .inr he
      · left
        have := num_stay hl h l.length 0 (by omega) (fun i a hi ha hk => he ⟨i, a, hi, ha, hk⟩)
        unfold fB; rw [this]; rfl
    | succ k ih =>
      intro hk
      obtain ⟨a, ha⟩ : ∃ a, l[k]? = some a := ⟨_, List.getElem?_eq_getElem (by omega)⟩
      unfold fB
      rw [getD_some ha]
      rcases hl.kind k a ha with ⟨hk1, _⟩ | ⟨hk2, _⟩
      · left; rw [if_neg (by omega)]; exact num_in hl h ha hk1
      · rw [if_pos hk2]
        rcases ih (by omega) with h1 | ⟨i, b, hi, hb, hb1⟩
        · exact .inl h1
        · refine .inr ⟨i, b, ?_, hb, hb1⟩
          rcases Nat.lt_or_ge k i with hlt | hge
          · omega
          · obtain rfl : i = k := by omega
            rw [ha] at hb
            obtain rfl := Option.some.inj hb
            omega
  rcases hq l.length (Nat.le_refl _) with h1 | ⟨i, a, hi, ha, _⟩
  · exact h1
  · have := (List.getElem?_eq_some_iff.1 ha).1; omega
theorem gB_ok : gB l (drTo l s l.length).txt.size l.length = true := by
  have hq : ∀ k, k ≤ l.length → gB l (drTo l s l.length).txt.size k = true ∨ ∃ i a, k ≤ i ∧ l[i]? = some a ∧ a.kind = 2 := by
    intro k
    induction k with
    | zero =>
      intro _
      by_cases he : ∃ i a, 0 ≤ i ∧ l[i]? = some a ∧ a.kind = 2
      · exact .inr he
      · left
        have := txt_stay hl h l.length 0 (by omega) (fun i a hi ha hk => he ⟨i, a, hi, ha, hk⟩)
        unfold gB; rw [this]; rfl
    | succ k ih =>
      intro hk
      obtain ⟨a, ha⟩ : ∃ a, l[k]? = some a := ⟨_, List.getElem?_eq_getElem (by omega)⟩
      unfold gB
      rw [getD_some ha]
      rcases hl.kind k a ha with ⟨hk1, _⟩ | ⟨hk2, hd1, _⟩
      · rw [if_neg (by omega)]
        rcases ih (by omega) with h1 | ⟨i, b, hi, hb, hb1⟩
        · exact .inl h1
        · refine .inr ⟨i, b, ?_, hb, hb1⟩
          rcases Nat.lt_or_ge k i with hlt | hge
          · omega
          · obtain rfl : i = k := by omega
            rw [ha] at hb
            obtain rfl := Option.some.inj hb
            omega
      · left; rw [if_pos hk2]
        obtain ⟨S, U, ht, _⟩ := txt_is hl h ha hk2
        rw [ht, serS_size]
        simp; omega
  rcases hq l.length (Nat.le_refl _) with h1 | ⟨i, a, hi, ha, _⟩
  · exact h1
  · have := (List.getElem?_eq_some_iff.1 ha).1; omega
/-- the serial number has digits alone -/
theorem txt_digits : ∀ (q : Nat) (hq : q < (drTo l s l.length).txt.size), 48 ≤ ((drTo l s l.length).txt[q].toNat : Int) ∧ ((drTo l s l.length).txt[q].toNat : Int) ≤ 57 := by
  have key : ∀ (T : ByteArray), (T.size = 0 ∨ ∃ S U n, T = serS S U n ∧ seE 10 S U n = 0) → ∀ (q : Nat) (hq : q < T.size), 48 ≤ (T[q].toNat : Int) ∧ (T[q].toNat : Int) ≤ 57 := by
    rintro T (h0 | ⟨S, U, n, rfl, he⟩) q hq
    · omega
    · rw [serS_size] at hq
      obtain ⟨v0, v1⟩ := dgV_bd 10 S U q (seE_all 10 S U n he q hq)
      have hb : (serS S U n)[q] = UInt8.ofNat (serB S U q).toNat := by
        show (serS S U n).data[q] = _
        simp [serS, strOfNums]
      rw [hb]
      unfold serB
      have h2 : (48 + dgV 10 S U q).toNat < 256 := by omega
      have h3 : (UInt8.ofNat (48 + dgV 10 S U q).toNat).toNat = (48 + dgV 10 S U q).toNat := by
        rw [UInt8.toNat_ofNat']; omega
      rw [h3]; omega
  refine key _ ?_
  by_cases he : ∃ i a, 0 ≤ i ∧ l[i]? = some a ∧ a.kind = 2
  · obtain ⟨i, a, _, ha, hk⟩ := he
    obtain ⟨S, U, ht, h2⟩ := txt_is hl h ha hk
    exact .inr ⟨S, U, _, ht, h2⟩
  · left
    rw [txt_stay hl h l.length 0 (by omega) (fun i a hi ha hk => he ⟨i, a, hi, ha, hk⟩)]
    rfl
end
end Go.Proofs.Ytdbkkbeelemnhaa
