/-
  Price of the reference of layer 40, with power, valid, Selected: in terms of the same plain functions as Price.
-/
import Derived.Test.YtdbkkbeelemnhaaPrice
import Derived.Test.YtdbkkbeelemnhaaRCheck
set_option linter.unusedVariables false
namespace Go.Proofs.Ytdbkkbeelemnhaa
open Go.RowKit
theorem pow_bd (k : Nat) (h : k ≤ 4) : (1 : Int) ≤ 2 ^ k ∧ (2 : Int) ^ k ≤ 16 := by
  have : k = 0 ∨ k = 1 ∨ k = 2 ∨ k = 3 ∨ k = 4 := by omega
  rcases this with rfl | rfl | rfl | rfl | rfl <;> decide
theorem power_any (n : Nat) (w : World) (hn : n ≤ 4) : Calls Try.prog 66 #[.int .i64 n] w fun e w' => e = .returned (.int .i64 ((2 : Int) ^ n)) ∧ w = w' := by
  obtain ⟨f, hf⟩ : ∃ f : Nat → Int, f = fun k => (2 : Int) ^ k := ⟨_, rfl⟩
  have h0 : f 0 = 1 := by rw [hf]; rfl
  have hs : ∀ k, f (k + 1) = 2 * f k := by intro k; rw [hf]; show (2 : Int) ^ (k + 1) = 2 * 2 ^ k; rw [Int.pow_succ, Int.mul_comm]
  have hb : ∀ k, k ≤ 4 → 1 ≤ f k ∧ f k ≤ 16 := by intro k hk; rw [hf]; exact pow_bd k hk
  rw [show (2 : Int) ^ n = f n by rw [hf]]
  have H0 := Lib.hid h0
  have HS := Lib.hid hs
  have HB := Lib.hid hb
  clear h0 hs hb hf
  go_enter Try.func66, Try.ntmps66
  go_wp2
  go_loop [3, 4] (fun p i => ∃ k : Nat, k ≤ n ∧ i = .int .i64 k ∧ p = .int .i64 (f k)) (fun _ i => n - (intOf i).toNat)
  case atStart => exact ⟨0, Nat.zero_le _, rfl, by rw [H0.out]⟩
  case round =>
    obtain ⟨k, hk, rfl, rfl⟩ := hrel
    by_cases hlt : k < n
    · have hsk := HS.out k
      obtain ⟨b0, b1⟩ := HB.out k (by omega)
      have HSK := Lib.hid hsk
      clear hsk
      go_wp2
      go_round
      case rel => exact ⟨k + 1, by omega, by go_num, by rw [HSK.out]⟩
      case measure => simp [intOf]; omega
    · obtain rfl : k = n := by omega
      go_wp2
      go_ret
      exact ⟨rfl, rfl⟩
set_option maxRecDepth 20000 in
set_option maxHeartbeats 1000000 in
theorem rvalid_any (g : Gm) (m : Int) (w : World) (hn : g.addons.length ≤ 4) :
    Calls Try.prog 45 #[g.val, .int .i64 m] w fun e w' => e = .returned (.bool (maskB g.addons.length m)) ∧ Fr [] w w' := by
  have h20 : ∀ w b, GmAt w b g → w.cell? ⟨b, 20, none⟩ = some (.slice g.aa g.addons.length g.ac) := fun w b h => h.cell 20 _ rfl
  obtain ⟨n, hN⟩ : ∃ n, n = g.addons.length := ⟨_, rfl⟩
  rw [← hN] at hn h20 ⊢
  have H20 := Lib.hid h20
  clear h20 hN
  have hq : maskB n m = if decide (0 ≤ m) = true then decide (m < 2 ^ n) else false := by
    unfold maskB
    by_cases h : 0 ≤ m <;> simp [h]
  have HQ := Lib.hid hq
  clear hq
  have hP := fun w => power_any n w hn
  have HP := Lib.hid hP
  clear hP
  cases h0 : decide (0 ≤ m)
  · go_enter Try.func45, Try.ntmps45
    go_wp2_with (refine box_game rfl (.tmp 0) rfl g rfl ?_; intro w1 hg1 hz1 hf1; have c20 := H20.out _ _ hg1)
    go_ret
    exact ⟨ret_b (by rw [HQ.out, h0]; rfl), hf1⟩
  · go_enter Try.func45, Try.ntmps45
    go_wp2_with (refine box_game rfl (.tmp 0) rfl g rfl ?_; intro w1 hg1 hz1 hf1; have c20 := H20.out _ _ hg1)
    refine (HP.out _).mono ?_
    rintro e w' ⟨rfl, rfl⟩
    generalize (2 : Int) ^ n = p at *
    go_wp2_with fail
    go_ret
    exact ⟨ret_b (by rw [HQ.out, h0]; rfl), hf1⟩
theorem rsel_any (m : Int) (k : Nat) (w : World) (h0 : 0 ≤ m) (hm : m < 16) (hk : k ≤ 3) : Calls Try.prog 46 #[.int .i64 m, .int .i64 k] w fun e w' => e = .returned (.bool (bitB m k)) ∧ w = w' := by
  obtain ⟨b, hb⟩ : ∃ b, b = bitB m k := ⟨_, rfl⟩
  rw [← hb]
  unfold bitB at hb
  have hP := fun w => power_any k w (by omega)
  have hpb := pow_bd k (by omega)
  generalize hp : (2 : Int) ^ k = p at *
  have hd := Int.ediv_nonneg h0 (show 0 ≤ p by omega)
  have hd2 : m / p ≤ m := Int.ediv_le_self _ h0
  have hb2 : b = (m / p % 2 == 1) := by rw [hb]; first | rfl | (rw [Bool.eq_iff_iff]; simp)
  have HB := Lib.hid hb2
  have HP := Lib.hid hP
  obtain ⟨p1, p2⟩ := hpb
  clear hb hb2 hP hp
  go_enter Try.func46, Try.ntmps46
  go_wp2_with fail
  refine (HP.out _).mono ?_
  rintro e w' ⟨rfl, rfl⟩
  go_wp2_with fail
  go_ret
  exact ⟨ret_b HB.out.symm, rfl⟩
set_option maxRecDepth 20000 in
set_option maxHeartbeats 2000000 in
theorem rprice_any (g : Gm) (m : Int) (w : World) (hok : g.Ok w) :
    Calls Try.prog 26 #[g.val, .int .i64 m] w fun e w' => e = .returned (.tuple #[.int .i64 (priV g m), .int .i64 (priE g m)]) ∧ Fr [] w w' := by
  have hC := fun w' (h : Fr [] w w') => rcheck_any g w' (hok.fr h)
  have h20 : ∀ w b, GmAt w b g → w.cell? ⟨b, 20, none⟩ = some (.slice g.aa g.addons.length g.ac) := fun w b h => h.cell 20 _ rfl
  unfold RChkPost at hC
  by_cases he : chkE g = 0
  · obtain ⟨p1, p2, p3⟩ := chkE_facts he
    obtain ⟨q1, q2⟩ := addsE_facts p2
    have hV := fun w => rvalid_any g m w q1
    have hpr : ∀ (i : Nat) (a : Ad), g.addons[i]? = some a → 0 ≤ a.price ∧ a.price ≤ 1000000 := fun i a ha => by
      have := adE_facts (q2 i a ha).1; omega
    have hbd := priTo_bd g.addons m hpr
    rw [he] at hC
    cases hm : maskB g.addons.length m
    · have e1 : priE g m = 2 := by unfold priE; rw [he, hm]; simp
      have e2 : priV g m = 0 := by unfold priV; rw [e1]; simp
      rw [hm] at hV
      rw [e1, e2]
      have HC := Lib.hid hC
      have HV := Lib.hid hV
      clear hC hV h20 he hm e1 e2 p1 p2 p3 q1 q2 hpr hbd hok
      go_enter Try.func26, Try.ntmps26
      go_wp2_with (first | (refine box_game rfl (.tmp 0) rfl g rfl ?_; intro w1 hg1 hz1 hf1) | (refine load_game rfl (.tmp 2) rfl _ rfl g hg1 ?_))
      refine (HC.out _ hf1).mono ?_
      rintro e w2 ⟨S, rfl, f2⟩
      have hg2 := hg1.fr f2 (by simp)
      go_wp2_with (refine load_game rfl (.tmp 2) rfl _ rfl g hg2 ?_)
      refine (HV.out _).mono ?_
      rintro e w3 ⟨rfl, f3⟩
      go_wp2_with fail
      go_ret2
      exact ⟨rfl, (hf1.trans f2).trans f3⟩
    · have e1 : priE g m = 0 := by unfold priE; rw [he, hm]; simp
      have e2 : priV g m = priTo g.addons m g.addons.length := by unfold priV; rw [e1]; simp
      rw [hm] at hV
      rw [e1, e2]
      have hmb : 0 ≤ m ∧ m < 16 := by
        have h2 := (pow_bd g.addons.length q1).2
        simp [maskB] at hm
        omega
      obtain ⟨hm0, hm1⟩ := hmb
      obtain ⟨n, hN⟩ : ∃ n, n = g.addons.length := ⟨_, rfl⟩
      rw [← hN] at q1 hbd h20 ⊢
      obtain ⟨A, hA⟩ : ∃ A, A = g.aa := ⟨_, rfl⟩
      rw [← hA] at h20
      have HA := Lib.hid hA
      have HH20 := Lib.hid h20
      have hAds := hok.addons
      have HAD := Lib.hid hAds
      have HN := Lib.hid hN
      have HC := Lib.hid hC
      have HV := Lib.hid hV
      have HPR := Lib.hid hpr
      have HBD := Lib.hid hbd
      clear hC hV h20 he hm e1 e2 p1 p2 p3 q2 hpr hbd hok hN hAds hA
      go_enter Try.func26, Try.ntmps26
      go_wp2_with (first | (refine box_game rfl (.tmp 0) rfl g rfl ?_; intro w1 hg1 hz1 hf1) | (refine load_game rfl (.tmp 2) rfl _ rfl g hg1 ?_))
      refine (HC.out _ hf1).mono ?_
      rintro e w2 ⟨S, rfl, f2⟩
      have hg2 := hg1.fr f2 (by simp)
      go_wp2_with (refine load_game rfl (.tmp 2) rfl _ rfl g hg2 ?_)
      refine (HV.out _).mono ?_
      rintro e w3 ⟨rfl, f3⟩
      have c20 := HH20.out _ _ (hg2.fr f3 (by simp))
      have hF3 := (hf1.trans f2).trans f3
      clear f2 f3 hg2 HC HV hz1
      go_wp2_with fail
      go_loopw [8, 9] (fun s i wr => ∃ k : Nat, k ≤ n ∧ i = .int .i64 k ∧ s = .int .i64 (priTo g.addons m k) ∧ Fr [] w3 wr) (fun _ i _ => n - (intOf i).toNat)
      case atStart => exact ⟨0, by omega, rfl, rfl, Fr.refl _ _⟩
      case round =>
        obtain ⟨k, hk, rfl, rfl, hf⟩ := hrel
        have r20 := hf.cell_some c20 (by simp)
        by_cases hlt : k < n
        · obtain ⟨x, hx⟩ : ∃ x, g.addons[k]? = some x := ⟨_, List.getElem?_eq_getElem (by have := HN.out; omega)⟩
          obtain ⟨b, o, hta, hcell⟩ := RdF.at (f := Ad.cells) HAD.out.rd hx
          rw [← HA.out] at hta
          subst hta
          have hpx := HPR.out k x hx
          have hbk := HBD.out k (by have := HN.out; omega)
          have hst : priTo g.addons m (k + 1) = priTo g.addons m k + if bitB m k = true then x.price else 0 := by
            have : g.addons.getD k default = x := by simp [List.getD, hx]
            rw [priTo, this]
          have hF := hF3.trans hf
          have c2 := hF.cell_some (hcell 2 _ rfl) (by simp)
          obtain ⟨hpx0, hpx1⟩ := hpx
          obtain ⟨hbk0, hbk1⟩ := hbk
          generalize x.price = price at *
          have HST := Lib.hid hst
          clear hx hcell hst
          generalize priTo g.addons m k = sk at *
          have hk3 : k ≤ 3 := by omega
          go_wp2_with fail
          refine (rsel_any m k _ hm0 hm1 hk3).mono ?_
          rintro e w5 ⟨rfl, rfl⟩
          have hkn : (k : Int) < (n : Int) := by omega
          have hk0 : (0 : Int) ≤ (k : Int) := by omega
          cases hq : bitB m k
          · have hs2 : priTo g.addons m (k + 1) = sk := by rw [HST.out, hq]; simp
            have HS2 := Lib.hid hs2
            clear hs2 hq HST
            go_wp2_with fail
            exact ⟨⟨k + 1, by omega, by go_num, by rw [HS2.out], hf⟩, by simp [intOf]; omega⟩
          · have hs2 : priTo g.addons m (k + 1) = sk + price := by rw [HST.out, hq]; simp
            have HS2 := Lib.hid hs2
            clear hs2 hq HST
            go_wp2_with fail
            exact ⟨⟨k + 1, by omega, by go_num, by rw [HS2.out], hf⟩, by simp [intOf]; omega⟩
        · obtain rfl : k = n := by omega
          go_wp2_with fail
          go_ret2
          exact ⟨rfl, hF3.trans hf⟩
  · have e1 : priE g m = chkE g := by unfold priE; rw [if_pos he]
    have e2 : priV g m = 0 := by unfold priV; rw [e1, if_neg he]
    rw [e1, e2]
    obtain ⟨E, hE⟩ : ∃ E, E = chkE g := ⟨_, rfl⟩
    rw [← hE] at hC he ⊢
    have HC := Lib.hid hC
    have d1 : (E != 0) = true := by simpa using he
    clear hC h20 he e1 e2 hE hok
    go_enter Try.func26, Try.ntmps26
    go_wp2_with (first | (refine box_game rfl (.tmp 0) rfl g rfl ?_; intro w1 hg1 hz1 hf1) | (refine load_game rfl (.tmp 2) rfl _ rfl g hg1 ?_))
    refine (HC.out _ hf1).mono ?_
    rintro e w2 ⟨S, rfl, f2⟩
    go_wp2_with fail
    go_ret2
    exact ⟨rfl, hf1.trans f2⟩
end Go.Proofs.Ytdbkkbeelemnhaa
