/-
  Price of add-ons (layer 40), with validMask and num.Add.
-/
import Derived.Test.YtdbkkbeelemnhaaCheck
set_option linter.unusedVariables false
namespace Go.Proofs.Ytdbkkbeelemnhaa
open Go.RowKit
set_option maxHeartbeats 400000 in
theorem add_small (a b : Int) (w : World) (ha0 : 0 ≤ a) (ha1 : a ≤ 1000000000000000) (hb0 : 0 ≤ b) (hb1 : b ≤ 1000000000000000) :
    Calls Try.prog 43 #[.int .i64 a, .int .i64 b] w fun e w' => e = .returned (.tuple #[.int .i64 (a + b), .int .i64 0]) ∧ w = w' := by
  by_cases hb : 0 < b
  · have d1 : decide (0 < b) = true := by simpa using hb
    have d2 : decide (b < 0) = false := by simp; omega
    go_enter Try.func43, Try.ntmps43
    go_wp2_with fail
    go_ret2
    exact ⟨rfl, rfl⟩
  · have d1 : decide (0 < b) = false := by simpa using hb
    have d2 : decide (b < 0) = false := by simp; omega
    go_enter Try.func43, Try.ntmps43
    go_wp2_with fail
    go_ret2
    exact ⟨rfl, rfl⟩
/-- is it a mask of n add-ons? -/
def maskB (n : Nat) (m : Int) : Bool := decide (0 ≤ m ∧ m < 2 ^ n)
set_option maxRecDepth 20000 in
set_option maxHeartbeats 1000000 in
theorem valid_any (g : Gm) (m : Int) (w : World) (hn : g.addons.length ≤ 4) :
    Calls Try.prog 42 #[g.val, .int .i64 m] w fun e w' => e = .returned (.bool (maskB g.addons.length m)) ∧ Fr [] w w' := by
  have h20 : ∀ w b, GmAt w b g → w.cell? ⟨b, 20, none⟩ = some (.slice g.aa g.addons.length g.ac) := fun w b h => h.cell 20 _ rfl
  obtain ⟨n, hN⟩ : ∃ n, n = g.addons.length := ⟨_, rfl⟩
  rw [← hN] at hn h20 ⊢
  have H20 := Lib.hid h20
  clear h20 hN
  by_cases h0 : 0 ≤ m
  · have d0 : decide (0 ≤ m) = true := by simpa using h0
    have hc : n = 0 ∨ n = 1 ∨ n = 2 ∨ n = 3 ∨ n = 4 := by omega
    obtain ⟨q, hq⟩ : ∃ q, q = maskB n m := ⟨_, rfl⟩
    rw [← hq]
    rcases hc with rfl | rfl | rfl | rfl | rfl
    all_goals
      simp only [maskB, h0, true_and, Int.reducePow] at hq
      have HQ := Lib.hid hq
      clear hq
      go_enter Try.func42, Try.ntmps42
      go_wp2_with (refine box_game rfl (.tmp 0) rfl g rfl ?_; intro w1 hg1 hz1 hf1; have c20 := H20.out _ _ hg1)
      go_ret
      exact ⟨ret_b (by rw [HQ.out]), hf1⟩
  · have d0 : decide (0 ≤ m) = false := by simpa using h0
    have hq : maskB n m = false := by simp [maskB]; omega
    rw [hq]
    clear hq
    go_enter Try.func42, Try.ntmps42
    go_wp2_with (refine box_game rfl (.tmp 0) rfl g rfl ?_; intro w1 hg1 hz1 hf1; have c20 := H20.out _ _ hg1)
    go_ret
    exact ⟨rfl, hf1⟩
/-- what a right list of add-ons is -/
theorem adE_facts {a : Ad} (h : adE a = 0) : nameB a.name = true ∧ (a.kind = 1 ∨ a.kind = 2) ∧ 0 ≤ a.price ∧ a.price ≤ 1000000 ∧
    (a.kind = 1 → a.digits = 0 ∧ a.prizes.length = 0 ∧ 1 ≤ a.factors.length ∧ a.factors.length ≤ 8 ∧ allR a.factors 1 100 = true) ∧
    (a.kind = 2 → a.factors.length = 0 ∧ 1 ≤ a.digits ∧ a.digits ≤ 8 ∧ (a.prizes.length : Int) = a.digits ∧ allR a.prizes 0 1000000000 = true) := by
  unfold adE at h
  split at h
  · simp at h
  rename_i h1
  split at h
  · simp at h
  rename_i h2
  split at h
  · simp at h
  rename_i h3
  have hp := inR_of (by simpa using h3)
  refine ⟨by simpa using h1, by omega, hp.1, hp.2, fun hk => ?_, fun hk => ?_⟩
  · rw [if_pos hk] at h
    split at h
    · simp at h
    rename_i h4
    split at h
    · simp at h
    rename_i h5
    have hl := inR_of (by simpa using h5)
    refine ⟨by omega, by omega, by omega, by omega, ?_⟩
    unfold allE at h
    split at h
    · assumption
    · simp at h
  · rw [if_neg (by omega)] at h
    split at h
    · simp at h
    rename_i h4
    split at h
    · simp at h
    rename_i h5
    have hl := inR_of (by simpa using h5)
    split at h
    · simp at h
    rename_i h6
    refine ⟨by omega, hl.1, hl.2, by omega, ?_⟩
    unfold allE at h
    split at h
    · assumption
    · simp at h
theorem addsTo_facts {l : List Ad} : ∀ (f k : Nat), f + k = l.length → addsTo l f k = 0 → ∀ i a, k ≤ i → l[i]? = some a → adE a = 0 ∧ sameK l i a = false := by
  intro f
  induction f with
  | zero =>
    intro k hk _ i a hi ha
    have := (List.getElem?_eq_some_iff.1 ha).1
    omega
  | succ f ih =>
    intro k hk h i a hi ha
    obtain ⟨x, hx⟩ : ∃ x, l[k]? = some x := ⟨_, List.getElem?_eq_getElem (by omega)⟩
    rw [addsTo, hx] at h
    simp only at h
    split at h
    · rename_i he; exact absurd h he
    rename_i he
    split at h
    · simp at h
    rename_i hs
    by_cases hik : i = k
    · subst hik
      rw [hx] at ha
      obtain rfl := Option.some.inj ha
      refine ⟨by simpa using he, ?_⟩
      simp at hs
      exact hs.2
    · exact ih (k + 1) (by omega) h i a (by omega) ha
theorem addsE_facts {l : List Ad} (h : addsE l = 0) : l.length ≤ 4 ∧ ∀ i a, l[i]? = some a → adE a = 0 ∧ sameK l i a = false := by
  unfold addsE at h
  split at h
  · simp at h
  · exact ⟨by omega, fun i a ha => addsTo_facts l.length 0 (by omega) h i a (by omega) ha⟩
theorem chkE_facts {g : Gm} (h : chkE g = 0) : headB g = true ∧ addsE g.addons = 0 ∧ tisE g = 0 := by
  unfold chkE at h
  split at h
  · simp at h
  rename_i h1
  split at h
  · simp at h
  rename_i h2
  split at h
  · simp at h
  rename_i h3
  split at h
  · rename_i h4; exact absurd h h4
  rename_i h4
  refine ⟨?_, by simpa using h4, h⟩
  unfold headB
  simp at h1 h3
  have hk : g.kind = 1 ∨ g.kind = 2 := by omega
  simp [h1, h3.1, h3.2, hk]
/-- is the i-th add-on selected? -/
def bitB (m : Int) (i : Nat) : Bool := decide (m / 2 ^ i % 2 = 1)
theorem bit_fin : ∀ (a : Fin 16) (k : Fin 4), (bits BinOp.and IntKind.i64 (((a.val : Nat) : Int) / 2 ^ k.val) 1 == 0) = !bitB ((a.val : Nat) : Int) k.val := by decide +kernel
theorem bit_and (m : Int) (k : Nat) (h0 : 0 ≤ m) (h1 : m < 16) (hk : k ≤ 3) : (bits BinOp.and IntKind.i64 (m / 2 ^ k) 1 == 0) = !bitB m k := by
  obtain ⟨a, rfl⟩ := Int.eq_ofNat_of_zero_le h0
  exact bit_fin ⟨a, by omega⟩ ⟨k, by omega⟩
def priTo (l : List Ad) (m : Int) : Nat → Int
  | 0 => 0
  | k + 1 => priTo l m k + if bitB m k = true then (l.getD k default).price else 0
theorem priTo_bd (l : List Ad) (m : Int) (h : ∀ (i : Nat) (a : Ad), l[i]? = some a → 0 ≤ a.price ∧ a.price ≤ 1000000) : ∀ k, k ≤ l.length → 0 ≤ priTo l m k ∧ priTo l m k ≤ 1000000 * k := by
  intro k
  induction k with
  | zero => intro _; simp [priTo]
  | succ k ih =>
    intro hk
    have := ih (by omega)
    have hx := h k l[k] (List.getElem?_eq_getElem (by omega))
    have hg : l.getD k default = l[k] := by simp [List.getD, show k < l.length by omega]
    unfold priTo
    rw [hg]
    split <;> omega
/-- what Price returns: the error and the sum -/
def priE (g : Gm) (m : Int) : Int := if chkE g ≠ 0 then chkE g else if maskB g.addons.length m = false then 2 else 0
def priV (g : Gm) (m : Int) : Int := if priE g m = 0 then priTo g.addons m g.addons.length else 0
set_option maxRecDepth 20000 in
set_option maxHeartbeats 2000000 in
theorem price_any (g : Gm) (m : Int) (w : World) (hok : g.Ok w) :
    Calls Try.prog 25 #[g.val, .int .i64 m] w fun e w' => e = .returned (.tuple #[.int .i64 (priV g m), .int .i64 (priE g m)]) ∧ Fr [] w w' := by
  have hC := fun w' (h : Fr [] w w') => check_any g w' (hok.fr h)
  have h20 : ∀ w b, GmAt w b g → w.cell? ⟨b, 20, none⟩ = some (.slice g.aa g.addons.length g.ac) := fun w b h => h.cell 20 _ rfl
  have H20 := Lib.hid h20
  unfold ChkPost at hC
  by_cases he : chkE g = 0
  · obtain ⟨p1, p2, p3⟩ := chkE_facts he
    obtain ⟨q1, q2⟩ := addsE_facts p2
    have hV := fun w => valid_any g m w q1
    have hpr : ∀ (i : Nat) (a : Ad), g.addons[i]? = some a → 0 ≤ a.price ∧ a.price ≤ 1000000 := fun i a ha => by
      have := adE_facts (q2 i a ha).1; omega
    have hbd := priTo_bd g.addons m hpr
    rw [he] at hC
    cases hm : maskB g.addons.length m
    · have e1 : priE g m = 2 := by unfold priE; rw [he, hm]; simp
      have e2 : priV g m = 0 := by unfold priV; rw [e1]; simp
      rw [hm] at hV
      rw [e1, e2]
      have HC := Lib.hid hC
      have HV := Lib.hid hV
      clear hC hV h20 he hm e1 e2 p1 p2 p3 q1 q2 hpr hbd hok
      go_enter Try.func25, Try.ntmps25
      go_wp2_with (first | (refine box_game rfl (.tmp 0) rfl g rfl ?_; intro w1 hg1 hz1 hf1) | (refine load_game rfl (.tmp 2) rfl _ rfl g hg1 ?_))
      refine (HC.out _ hf1).mono ?_
      rintro e w2 ⟨S, rfl, _, f2⟩
      have hg2 := hg1.fr f2 (by simp)
      go_wp2_with (refine load_game rfl (.tmp 2) rfl _ rfl g hg2 ?_)
      refine (HV.out _).mono ?_
      rintro e w3 ⟨rfl, f3⟩
      go_wp2_with fail
      go_ret2
      exact ⟨rfl, (hf1.trans f2).trans f3⟩
    · have e1 : priE g m = 0 := by unfold priE; rw [he, hm]; simp
      have e2 : priV g m = priTo g.addons m g.addons.length := by unfold priV; rw [e1]; simp
      rw [hm] at hV
      rw [e1, e2]
      have hmb : 0 ≤ m ∧ m < 16 := by
        have h2 : (2 : Int) ^ g.addons.length ≤ 16 := by
          have : (2 : Int) ^ g.addons.length ≤ 2 ^ 4 := by
            have := Nat.pow_le_pow_right (show 0 < 2 by omega) q1
            exact_mod_cast this
          simpa using this
        simp [maskB] at hm
        omega
      obtain ⟨hm0, hm1⟩ := hmb
      obtain ⟨n, hN⟩ : ∃ n, n = g.addons.length := ⟨_, rfl⟩
      rw [← hN] at q1 hbd ⊢
      have h20' := H20.out
      obtain ⟨A, hA⟩ : ∃ A, A = g.aa := ⟨_, rfl⟩
      rw [← hN, ← hA] at h20'
      have HA := Lib.hid hA
      clear hA
      have HH20 := Lib.hid h20'
      have hAds := hok.addons
      have HAD := Lib.hid hAds
      have HN := Lib.hid hN
      have HC := Lib.hid hC
      have HV := Lib.hid hV
      have HPR := Lib.hid hpr
      have HBD := Lib.hid hbd
      clear hC hV h20 h20' H20 he hm e1 e2 p1 p2 p3 q2 hpr hbd hok hN hAds
      go_enter Try.func25, Try.ntmps25
      go_wp2_with (first | (refine box_game rfl (.tmp 0) rfl g rfl ?_; intro w1 hg1 hz1 hf1) | (refine load_game rfl (.tmp 2) rfl _ rfl g hg1 ?_))
      refine (HC.out _ hf1).mono ?_
      rintro e w2 ⟨S, rfl, _, f2⟩
      have hg2 := hg1.fr f2 (by simp)
      go_wp2_with (refine load_game rfl (.tmp 2) rfl _ rfl g hg2 ?_)
      refine (HV.out _).mono ?_
      rintro e w3 ⟨rfl, f3⟩
      have c20 := HH20.out _ _ (hg2.fr f3 (by simp))
      have hF3 := (hf1.trans f2).trans f3
      clear f2 f3 hg2 HC HV hz1
      go_wp2_with fail
      go_loopw [8, 27] (fun s i wr => ∃ k : Nat, k ≤ n ∧ i = .int .i64 k ∧ s = .int .i64 (priTo g.addons m k) ∧ Fr [] w3 wr) (fun _ i _ => n - (intOf i).toNat)
      case atStart => exact ⟨0, by omega, rfl, rfl, Fr.refl _ _⟩
      case round =>
        obtain ⟨k, hk, rfl, rfl, hf⟩ := hrel
        by_cases hlt : k < n
        · obtain ⟨x, hx⟩ : ∃ x, g.addons[k]? = some x := ⟨_, List.getElem?_eq_getElem (by have := HN.out; omega)⟩
          obtain ⟨b, o, hta, hcell⟩ := RdF.at (f := Ad.cells) HAD.out.rd hx
          rw [← HA.out] at hta
          subst hta
          have hpx := HPR.out k x hx
          have hbk := HBD.out k (by have := HN.out; omega)
          have hst : priTo g.addons m (k + 1) = priTo g.addons m k + if bitB m k = true then x.price else 0 := by
            have : g.addons.getD k default = x := by simp [List.getD, hx]
            rw [priTo, this]
          have hF := hF3.trans hf
          have c0 := hF.cell_some (hcell 0 _ rfl) (by simp)
          have c1 := hF.cell_some (hcell 1 _ rfl) (by simp)
          have c2 := hF.cell_some (hcell 2 _ rfl) (by simp)
          have c3 := hF.cell_some (hcell 3 _ rfl) (by simp)
          have c4 := hF.cell_some (hcell 4 _ rfl) (by simp)
          have c5 := hF.cell_some (hcell 5 _ rfl) (by simp)
          rw [Nat.add_zero] at c0
          obtain ⟨name, kind, price, fa, fc, factors, digits, pa, pc, prizes⟩ := x
          simp only at c0 c1 c2 c3 c4 c5 hpx hst
          obtain ⟨hpx0, hpx1⟩ := hpx
          obtain ⟨hbk0, hbk1⟩ := hbk
          have HST := Lib.hid hst
          clear hx hcell hst
          generalize priTo g.addons m k = sk at *
          generalize factors.length = fl at *
          generalize prizes.length = pl at *
          have hk3 : k ≤ 3 := by omega
          have hbit := bit_and m k hm0 hm1 hk3
          cases hq : bitB m k
          · rw [hq] at hbit
            have hs2 : priTo g.addons m (k + 1) = sk := by rw [HST.out, hq]; simp
            have HS2 := Lib.hid hs2
            have hbit' : (bits BinOp.and IntKind.i64 (m / 2 ^ k) 1 == 0) = true := hbit
            clear hbit hs2 hq HST
            go_wp2_with fail
            exact ⟨⟨k + 1, by omega, by go_num, by rw [HS2.out], hf.alloc _⟩, by simp [intOf]; omega⟩
          · rw [hq] at hbit
            have hs2 : priTo g.addons m (k + 1) = sk + price := by rw [HST.out, hq]; simp
            have HS2 := Lib.hid hs2
            have hbit' : (bits BinOp.and IntKind.i64 (m / 2 ^ k) 1 == 0) = false := hbit
            clear hbit hs2 hq HST
            go_wp2_with fail
            refine (add_small _ _ _ (by omega) (by omega) (by omega) (by omega)).mono ?_
            rintro e w5 ⟨rfl, rfl⟩
            go_wp2_with fail
            exact ⟨⟨k + 1, by omega, by go_num, by rw [HS2.out], hf.alloc _⟩, by simp [intOf]; omega⟩
        · obtain rfl : k = n := by omega
          go_wp2_with fail
          go_ret2
          exact ⟨rfl, hF3.trans hf⟩
  · have e1 : priE g m = chkE g := by unfold priE; rw [if_pos he]
    have e2 : priV g m = 0 := by unfold priV; rw [e1, if_neg he]
    rw [e1, e2]
    obtain ⟨E, hE⟩ : ∃ E, E = chkE g := ⟨_, rfl⟩
    rw [← hE] at hC he ⊢
    have HC := Lib.hid hC
    have d1 : (E != 0) = true := by simpa using he
    clear hC h20 he e1 e2 hE hok
    go_enter Try.func25, Try.ntmps25
    go_wp2_with (first | (refine box_game rfl (.tmp 0) rfl g rfl ?_; intro w1 hg1 hz1 hf1) | (refine load_game rfl (.tmp 2) rfl _ rfl g hg1 ?_))
    refine (HC.out _ hf1).mono ?_
    rintro e w2 ⟨S, rfl, _, f2⟩
    go_wp2_with fail
    go_ret2
    exact ⟨rfl, hf1.trans f2⟩
end Go.Proofs.Ytdbkkbeelemnhaa
