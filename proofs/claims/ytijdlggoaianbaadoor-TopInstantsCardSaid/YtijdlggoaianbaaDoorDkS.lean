/-
  TopInstants: deck.scatter's free list, plain; what gives one prize.
-/
import Derived.Test.YtijdlggoaianbaaDoorDkG
import Derived.Test.YtijdlggoaianbaaDoorAppI
set_option linter.unusedVariables false
namespace Go.Proofs.YtijdlggoaianbaaDoor
open Go.RowKit
def frL (pr : Nat → Int) : Nat → List Int
  | 0 => []
  | k + 1 => if pr k = 0 then frL pr k ++ [(k : Int)] else frL pr k
theorem frL_mem (pr : Nat → Int) (x : Int) : ∀ k, x ∈ frL pr k → 0 ≤ x ∧ x < (k : Int) ∧ pr x.toNat = 0
  | 0, h => by simp [frL] at h
  | k + 1, h => by
    unfold frL at h
    split at h
    · rename_i hz
      rcases List.mem_append.1 h with h | h
      · have := frL_mem pr x k h; omega
      · simp at h
        subst h
        exact ⟨by omega, by omega, hz⟩
    · have := frL_mem pr x k h; omega
theorem frL_nodup (pr : Nat → Int) : ∀ k, (frL pr k).Nodup
  | 0 => List.nodup_nil
  | k + 1 => by
    unfold frL
    split
    · rw [List.nodup_append]
      refine ⟨frL_nodup pr k, by simp, ?_⟩
      intro x hx y hy
      simp at hy
      have := frL_mem pr x k hx
      omega
    · exact frL_nodup pr k
theorem frL_len (pr : Nat → Int) : ∀ k, (∀ i, i < k → 0 ≤ pr i) → ((frL pr k).length : Int) + sumN (posF pr) k = (k : Int)
  | 0, _ => by simp [frL, sumN]
  | k + 1, h => by
    have ih := frL_len pr k (fun i hi => h i (by omega))
    have hk := h k (by omega)
    unfold frL sumN posF
    split
    · rename_i hz
      rw [if_neg (by omega)]
      simp
      unfold posF at ih
      omega
    · rename_i hz
      rw [if_pos (by omega)]
      simp
      unfold posF at ih
      omega
/-- the free list, of which i places are given -/
structure ScF (N L : Nat) (fl : List Int) (i : Nat) (pr : Nat → Int) (S C : Int) : Prop where
  len : fl.length = L
  nd : fl.Nodup
  bd : ∀ x ∈ fl, 0 ≤ x ∧ x < (N : Int)
  z : ∀ j, i ≤ j → j < L → pr (fl.getD j 0).toNat = 0
  f : PrF N pr S C
theorem swp_getD (l : List Int) (i q k : Nat) (hi : i < l.length) (hq : q < l.length) (hk : k < l.length) : (swp l i q).getD k 0 = if k = q then l.getD i 0 else if k = i then l.getD q 0 else l.getD k 0 := by
  unfold swp
  simp only [List.getD_eq_getElem?_getD, List.getElem?_set]
  by_cases h1 : k = q
  · subst h1
    simp [hk]
  · rw [if_neg (fun e => h1 e.symm), if_neg h1]
    by_cases h2 : k = i
    · subst h2
      simp [hk]
    · rw [if_neg (fun e => h2 e.symm), if_neg h2]
theorem getD_inj {l : List Int} (h : l.Nodup) {i j : Nat} (hi : i < l.length) (hj : j < l.length) (e : l.getD i 0 = l.getD j 0) : i = j := by
  simp only [List.getD_eq_getElem?_getD, List.getElem?_eq_getElem hi, List.getElem?_eq_getElem hj, Option.getD_some] at e
  have hp := List.pairwise_iff_getElem.1 h
  rcases Nat.lt_trichotomy i j with h1 | h1 | h1
  · exact absurd e (hp i j hi hj h1)
  · exact h1
  · exact absurd e.symm (hp j i hj hi h1)
theorem getD_mem' {l : List Int} {i : Nat} (hi : i < l.length) : l.getD i 0 ∈ l := by
  simp only [List.getD_eq_getElem?_getD, List.getElem?_eq_getElem hi, Option.getD_some]
  exact List.getElem_mem hi
theorem ScF.step {N L : Nat} {fl : List Int} {i : Nat} {pr : Nat → Int} {S C : Int} (h : ScF N L fl i pr S C) (q : Nat) (hi : i ≤ q) (hq : q < L) (x : Int) (h1 : 1 ≤ x) (h2 : x ≤ 500) :
    ∃ j : Nat, (swp fl i q).getD i 0 = (j : Int) ∧ j < N ∧ pr j = 0 ∧ ScF N L (swp fl i q) (i + 1) (upd pr j x) (S + x) (C + 1) := by
  have hl := h.len
  have hil : i < fl.length := by omega
  have hql : q < fl.length := by omega
  have hpm := swp_perm fl i q hil hql
  have hm := h.bd _ (getD_mem' hql)
  have hv : (swp fl i q).getD i 0 = fl.getD q 0 := by
    rw [swp_getD fl i q i hil hql hil]
    split
    · rename_i e; rw [e]
    · simp
  have hz := h.z q hi hq
  refine ⟨(fl.getD q 0).toNat, by rw [hv]; omega, by omega, hz, ?_⟩
  have hnd : (swp fl i q).Nodup := hpm.nodup_iff.2 h.nd
  refine ⟨by rw [swp_len, hl], hnd, fun y hy => h.bd y (hpm.mem_iff.1 hy), ?_, h.f.give _ x (by omega) hz h1 h2⟩
  intro k hk hkL
  have hne : (swp fl i q).getD k 0 ≠ (swp fl i q).getD i 0 := fun e => by
    have := getD_inj hnd (by rw [swp_len]; omega) (by rw [swp_len]; omega) e
    omega
  have hkm := h.bd _ (hpm.mem_iff.1 (getD_mem' (l := swp fl i q) (i := k) (by rw [swp_len]; omega)))
  unfold upd
  rw [if_neg (fun e => hne (by rw [hv]; omega)), swp_getD fl i q k hil hql (by omega)]
  split
  · exact h.z i (by omega) (by omega)
  · split
    · omega
    · exact h.z k (by omega) hkL
def Sc1Post (N L Z i base b gf gt ib cap : Nat) (Cd : Nat → ByteArray) (S C x u : Int) (w : World) (e : Ending) (w' : World) : Prop :=
  e = .returned (.bool true) ∧ ∃ (fl' : List Int) (pr' : Nat → Int) (s' u' : Int), StrAt w' b s' u' ∧ u ≤ u' ∧ u' ≤ u + 64 ∧ OwnI w' base 3 (.slice (some ⟨gf, 0, none⟩) L cap) fl' ∧ TkAt w' gt N Z Cd pr' ∧ ScF N L fl' (i + 1) pr' (S + x) (C + 1) ∧ w'.cell? ⟨ib, 0, none⟩ = some (.int .i64 ((i : Int) + 1)) ∧ w'.frozen? ⟨ib, 0, none⟩ = false ∧ Fr [b, gf, gt, ib] w w'
set_option maxRecDepth 20000 in
set_option maxHeartbeats 4000000 in
theorem scat1_any (N L Z i base b gf gt sb fb ib eb lb cap : Nat) (Cd : Nat → ByteArray) (fl : List Int) (pr : Nat → Int) (S C x s u : Int) (w : World) (hL : L ≤ 36) (hN : N ≤ 36) (hi : i < L) (hx1 : 1 ≤ x) (hx2 : x ≤ 500) (hu0 : 0 ≤ u) (hu1 : u ≤ 999999990000)
    (hs : StrAt w b s u) (ho : OwnI w base 3 (.slice (some ⟨gf, 0, none⟩) L cap) fl) (ht : TkAt w gt N Z Cd pr) (hc : ScF N L fl i pr S C)
    (cs : w.cell? ⟨sb, 0, none⟩ = some (.pointer (some ⟨b, 0, none⟩))) (cf : w.cell? ⟨fb, 0, none⟩ = some (.slice (some ⟨gf, 0, none⟩) L cap)) (ci : w.cell? ⟨ib, 0, none⟩ = some (.int .i64 i)) (cif : w.frozen? ⟨ib, 0, none⟩ = false) (cl : w.cell? ⟨lb, 0, none⟩ = some (.slice (some ⟨gt, 0, none⟩) N N))
    (hd1 : gf ≠ b) (hd2 : gf ≠ gt) (hd3 : gf ≠ ib) (hd4 : gf ≠ fb) (hd5 : gf ≠ lb) (hd6 : b ≠ gt) (hd7 : b ≠ ib) (hd8 : b ≠ fb) (hd9 : b ≠ lb) (hd10 : gt ≠ ib) (hd11 : gt ≠ fb) (hd12 : gt ≠ lb) (hd13 : fb ≠ ib) (hd14 : ib ≠ lb) :
    Calls Tryd.prog 23 #[.int .i64 x, .pointer (some ⟨sb, 0, none⟩), .pointer (some ⟨fb, 0, none⟩), .pointer (some ⟨ib, 0, none⟩), .pointer (some ⟨eb, 0, none⟩), .pointer (some ⟨lb, 0, none⟩)] w (Sc1Post N L Z i base b gf gt ib cap Cd S C x u w) := by
  have hB := below_any b s u ((L : Int) - (i : Int)) w hs hu0 (by omega)
  have hz := bE_zero ((L : Int) - (i : Int)) s u (below_ok (by omega) (by omega) s u)
  have hub := bU_bd ((L : Int) - (i : Int)) s u
  rw [below_ok (by omega) (by omega) s u] at hB
  obtain ⟨_, _, v0, v1⟩ := hz
  generalize bV ((L : Int) - (i : Int)) s u = V at *
  generalize bU ((L : Int) - (i : Int)) s u = U at *
  generalize bS ((L : Int) - (i : Int)) s u = S2 at *
  obtain ⟨q, hq⟩ : ∃ q : Nat, (i : Int) + V = (q : Int) := ⟨((i : Int) + V).toNat, by omega⟩
  obtain ⟨j, hj, hjN, hj0, hc2⟩ := hc.step q (by omega) (by omega) x hx1 hx2
  have HB := Lib.hid hB
  have HC2 := Lib.hid hc2
  have HO := Lib.hid ho
  have HT := Lib.hid ht
  have HUB := Lib.hid hub
  have hfl : fl.length = L := hc.len
  have HFL := Lib.hid hfl
  clear hB hc2 ho ht hub hs hc
  go_enter Tryd.func23, Tryd.ntmps23
  go_wp2_with fail
  refine HB.out.mono ?_
  rintro e w1 ⟨rfl, hs1, ho1⟩
  have f1 := ho1.fr
  have ho := HO.out.fr f1 (by intro k hk; simp [Value.ownBlock] at hk; subst hk; simpa using hd1)
  have ht := HT.out.fr f1 (by simpa using hd6.symm)
  have cf := f1.cell_some cf (by simpa using hd8.symm)
  have ci := f1.cell_some ci (by simpa using hd7.symm)
  have cl := f1.cell_some cl (by simpa using hd9.symm)
  have cif := (f1.frozen (p := ⟨ib, 0, none⟩) (lt_of_cell (by assumption)) (by simpa using hd7.symm)).trans cif
  have ri := ho.cell i (by omega)
  have rq := ho.cell q (by omega)
  have fi := ho.frozen i
  have fq := ho.frozen q
  have hset := (ho.set i (fl.getD q 0)).set q (fl.getD i 0)
  have HSW : (fl.set i (fl.getD q 0)).set q (fl.getD i 0) = swp fl i q := rfl
  rw [HSW] at hset
  clear HSW
  have HT1 := Lib.hid ht
  have HS1 := Lib.hid hs1
  have HF1 := Lib.hid f1
  have HSET := Lib.hid hset
  clear ht hs1 f1 hset ho1
  have qL : (q : Int) < (L : Int) := by omega
  have iL : (i : Int) < (L : Int) := by omega
  have jN : (j : Int) < (N : Int) := by omega
  obtain ⟨v', hy'⟩ := cell?_setCell_some (w := w1) (p := ⟨gf, i, none⟩) (x := .int .i64 (fl.getD q 0)) (q := ⟨gf, q, none⟩) (v := .int .i64 (fl.getD q 0)) rq
  generalize fl.getD i 0 = xi at *
  generalize fl.getD q 0 = xq at *
  go_wp2_with fail
  go_region
  as_aux_lemma =>
    obtain ⟨w2, hw2⟩ : ∃ w2, w2 = ((w1.setCell ⟨gf, i, none⟩ (.int .i64 xq)).setCell ⟨gf, q, none⟩ (.int .i64 xi)).drew := ⟨_, rfl⟩
    rw [← hw2]
    have f2 : Fr [gf] w1 w2 := by rw [hw2]; exact ((((Fr.refl [gf] w1).setCell (.inl (by simp)) _).setCell (.inl (by simp)) _).drew)
    have o2 : OwnI w2 base 3 (.slice (some ⟨gf, 0, none⟩) L cap) (swp fl i q) := by rw [hw2]; exact HSET.out.fr ((Fr.refl [] _).drew) (by simp)
    have ri2 := o2.cell i (by rw [swp_len]; have := HFL.out; omega)
    rw [hj] at ri2
    have cf := f2.cell_some cf (by simpa using hd4.symm)
    have ci := f2.cell_some ci (by simpa using hd3.symm)
    have cl := f2.cell_some cl (by simpa using hd5.symm)
    have cif := (f2.frozen (p := ⟨ib, 0, none⟩) (lt_of_cell (by assumption)) (by simpa using hd3.symm)).trans cif
    have t2 := HT1.out.fr f2 (by simpa using hd2.symm)
    have k2 := t2.c2 j hjN
    have kf := t2.fz (j * 4 + 2)
    have HT2 := Lib.hid t2
    have HO2 := Lib.hid o2
    have HF2 := Lib.hid f2
    have HW2 := Lib.hid hw2
    clear t2 o2 f2 hw2 hy' rq ri fi fq
    go_wp2_with fail
    go_region
    as_aux_lemma =>
      obtain ⟨w3, hw3⟩ : ∃ w3, w3 = (w2.setCell ⟨gt, j * 4 + 2, none⟩ (.int .i64 x)).drew := ⟨_, rfl⟩
      rw [← hw3]
      have f3 : Fr [gt] w2 w3 := by rw [hw3]; exact ((Fr.refl [gt] w2).setCell (.inl (by simp)) _).drew
      have t3 : TkAt w3 gt N Z Cd (upd pr j x) := by rw [hw3]; exact (HT2.out.set j hjN x).fr ((Fr.refl [] _).drew) (by simp)
      have ci := f3.cell_some ci (by simpa using hd10.symm)
      have cif := (f3.frozen (p := ⟨ib, 0, none⟩) (lt_of_cell (by assumption)) (by simpa using hd10.symm)).trans cif
      have HT3 := Lib.hid t3
      have HF3 := Lib.hid f3
      have HW3 := Lib.hid hw3
      have HCI := Lib.hid ci
      have HCIF := Lib.hid cif
      clear t3 f3 hw3
      go_wp2_with fail
      go_ret
      have f4 : Fr [ib] w3 (w3.setCell ⟨ib, 0, none⟩ (.int .i64 ((i : Int) + 1))) := (Fr.refl [ib] w3).setCell (.inl (by simp)) _
      have f14 : Fr [b, gf, gt, ib] w (w3.setCell ⟨ib, 0, none⟩ (.int .i64 ((i : Int) + 1))) := (((HF1.out.mono (by simp)).trans (HF2.out.mono (by simp))).trans (HF3.out.mono (by simp))).trans (f4.mono (by simp))
      exact ⟨rfl, swp fl i q, upd pr j x, S2, U, ((HS1.out.fr HF2.out (by simpa using hd1.symm)).fr HF3.out (by simpa using hd6)).fr f4 (by simpa using hd7), HUB.out.1, HUB.out.2, ((HO2.out.fr HF3.out (by intro k hk; simp [Value.ownBlock] at hk; subst hk; simpa using hd2))).fr f4 (by intro k hk; simp [Value.ownBlock] at hk; subst hk; simpa using hd3), HT3.out.fr f4 (by simpa using hd10), HC2.out, set_same _ _ _ _ _ HCI.out, (by rw [frozen_set]; exact HCIF.out), f14⟩
end Go.Proofs.YtijdlggoaianbaaDoor
