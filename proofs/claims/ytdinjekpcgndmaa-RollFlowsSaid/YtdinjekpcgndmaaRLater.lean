/-
  LAYER 37, the reference: flowing, jackpot, first, later (with counts that are not negative).
-/
import Derived.Test.YtdinjekpcgndmaaRollF
import Derived.Test.YtdinjekpcgndmaaLater
import Derived.Test.YtdinjekpcgndmaaIdxF
set_option linter.unusedVariables false
namespace Go.Proofs.Ytdinjekpcgndmaa
open Go.RowKit
set_option maxRecDepth 20000 in
set_option maxHeartbeats 1000000 in
theorem flowing_any (g : Gm) (i : Nat) (w : World) (hok : Tis w g.ta g.tc g.tiers) (hi : i < g.tiers.length) : Calls Try.prog 59 #[g.val, .int .i64 i] w fun e w' => e = .returned (.bool (kd g.tiers i != 1)) ∧ Fr [] w w' := by
  obtain ⟨x, hx⟩ : ∃ x, g.tiers[i]? = some x := ⟨_, List.getElem?_eq_getElem hi⟩
  obtain ⟨b, o, hta, hcell⟩ := RdF.at (f := Ti.cells) hok.rd hx
  have c4 := hcell 4 _ rfl
  have hkd : kd g.tiers i = x.kind := by simp [kd, List.getD, hx]
  rw [hkd]
  have h21 : ∀ w b, GmAt w b g → w.cell? ⟨b, 21, none⟩ = some (.slice g.ta g.tiers.length g.tc) := fun w b h => h.cell 21 _ rfl
  rw [hta] at h21
  have hle := hok.rd.len.2
  unfold maxLen at hle
  obtain ⟨n, hN⟩ : ∃ n, n = g.tiers.length := ⟨_, rfl⟩
  rw [← hN] at h21 hle hi
  generalize x.kind = z at *
  have h1 : (i : Int) < (n : Int) := by omega
  have h0 : (0 : Int) ≤ (i : Int) := by omega
  have H21 := Lib.hid h21
  have HC := Lib.hid c4
  clear h21 hok hx hta hcell hkd hN c4
  go_enter Try.func59, Try.ntmps59
  go_wp2_with (refine box_game rfl (.tmp 0) rfl g rfl ?_; intro w1 hg1 hz1 hf1; have c21 := H21.out _ _ hg1; have c4 := hf1.cell_some HC.out (by simp))
  go_ret
  exact ⟨rfl, hf1⟩
set_option maxRecDepth 20000 in
set_option maxHeartbeats 1000000 in
theorem jackpot_any (g : Gm) (i : Nat) (w : World) (hok : Tis w g.ta g.tc g.tiers) (hi : i < g.tiers.length) : Calls Try.prog 60 #[g.val, .int .i64 i] w fun e w' => e = .returned (.bool (kd g.tiers i == 3)) ∧ Fr [] w w' := by
  obtain ⟨x, hx⟩ : ∃ x, g.tiers[i]? = some x := ⟨_, List.getElem?_eq_getElem hi⟩
  obtain ⟨b, o, hta, hcell⟩ := RdF.at (f := Ti.cells) hok.rd hx
  have c4 := hcell 4 _ rfl
  have hkd : kd g.tiers i = x.kind := by simp [kd, List.getD, hx]
  rw [hkd]
  have h21 : ∀ w b, GmAt w b g → w.cell? ⟨b, 21, none⟩ = some (.slice g.ta g.tiers.length g.tc) := fun w b h => h.cell 21 _ rfl
  rw [hta] at h21
  have hle := hok.rd.len.2
  unfold maxLen at hle
  obtain ⟨n, hN⟩ : ∃ n, n = g.tiers.length := ⟨_, rfl⟩
  rw [← hN] at h21 hle hi
  generalize x.kind = z at *
  have h1 : (i : Int) < (n : Int) := by omega
  have h0 : (0 : Int) ≤ (i : Int) := by omega
  have H21 := Lib.hid h21
  have HC := Lib.hid c4
  clear h21 hok hx hta hcell hkd hN c4
  go_enter Try.func60, Try.ntmps60
  go_wp2_with (refine box_game rfl (.tmp 0) rfl g rfl ?_; intro w1 hg1 hz1 hf1; have c21 := H21.out _ _ hg1; have c4 := hf1.cell_some HC.out (by simp))
  go_ret
  exact ⟨rfl, hf1⟩
set_option maxRecDepth 20000 in
set_option maxHeartbeats 2000000 in
theorem first_any (g : Gm) (w : World) (hok : Tis w g.ta g.tc g.tiers) : Calls Try.prog 57 #[g.val] w fun e w' => e = .returned (.int .i64 (fstE g.tiers)) ∧ Fr [] w w' := by
  have hJ := fun w' (h : Fr [] w w') (i : Nat) (hi : i < g.tiers.length) => jackpot_any g i w' (hok.fr h) hi
  have h21 : ∀ w b, GmAt w b g → w.cell? ⟨b, 21, none⟩ = some (.slice g.ta g.tiers.length g.tc) := fun w b h => h.cell 21 _ rfl
  have hle := hok.rd.len.2
  unfold maxLen at hle
  obtain ⟨E, hE⟩ : ∃ E, E = fstE g.tiers := ⟨_, rfl⟩
  rw [← hE]
  unfold fstE at hE
  obtain ⟨n, hN⟩ : ∃ n, n = g.tiers.length := ⟨_, rfl⟩
  rw [← hN] at h21 hle hE hJ
  have H21 := Lib.hid h21
  have HJ := Lib.hid hJ
  have HV := Lib.hid hE
  clear h21 hJ hE hN hok
  go_enter Try.func57, Try.ntmps57
  go_wp2_with (refine box_game rfl (.tmp 0) rfl g rfl ?_; intro w1 hg1 hz1 hf1; have c21 := H21.out _ _ hg1)
  clear hz1
  go_loopw [3] (fun j wr => ∃ k : Nat, k ≤ n ∧ j = .int .i64 k ∧ Fr [] w1 wr ∧ Hid (E = fstTo g.tiers (n - k) k)) (fun j _ => n - (intOf j).toNat)
  case atStart => exact ⟨0, by omega, rfl, Fr.refl _ _, HV⟩
  case round =>
    obtain ⟨k, hk, rfl, hf, HT⟩ := hrel
    have r21 := hf.cell_some c21 (by simp)
    have hF := hf1.trans hf
    by_cases hlt : k < n
    · have hg := hg1.fr hf (by simp)
      have hT := HT.out
      rw [show n - k = (n - (k + 1)) + 1 by omega] at hT
      have hyes := @fstTo_yes g.tiers (n - (k + 1)) k
      have hno := @fstTo_no g.tiers (n - (k + 1)) k
      have hc := HJ.out wr hF k hlt
      generalize kd g.tiers k = z at *
      have HC := Lib.hid hc
      have HYES := Lib.hid hyes
      have HNO := Lib.hid hno
      have HT2 := Lib.hid hT
      clear hc hyes hno hT
      by_cases h1 : z = 3
      · have e1 : (z == 3) = true := by simpa using h1
        have hq := HT2.out.trans (HYES.out h1)
        have HQ := Lib.hid hq
        clear hq h1
        go_wp2_with (refine load_game rfl (.tmp 1) rfl _ rfl g hg ?_)
        refine HC.out.mono ?_
        rintro e w2 ⟨rfl, f2⟩
        go_wp2_with fail
        go_ret
        exact ⟨ret_i HQ.out.symm, hF.trans f2⟩
      · have e1 : (z == 3) = false := by simpa using h1
        have hq := HT2.out.trans (HNO.out h1)
        have HQ := Lib.hid hq
        clear hq h1
        go_wp2_with (refine load_game rfl (.tmp 1) rfl _ rfl g hg ?_)
        refine HC.out.mono ?_
        rintro e w2 ⟨rfl, f2⟩
        go_wp2_with fail
        exact ⟨⟨k + 1, by omega, by go_num, hf.trans f2, HQ⟩, by simp [intOf]; omega⟩
    · obtain rfl : n = k := by omega
      have hq : E = -1 := by rw [HT.out, Nat.sub_self]; rfl
      have HQ := Lib.hid hq
      clear hq
      go_wp2_with fail
      go_ret
      exact ⟨ret_i HQ.out.symm, hF⟩
set_option maxRecDepth 20000 in
set_option maxHeartbeats 2000000 in
theorem rlater_any (g : Gm) (v : Value) (cs : List Int) (i : Nat) (w : World) (hok : Tis w g.ta g.tc g.tiers) (hr : RdI w v cs) (hn : cs.length = g.tiers.length) (hi : i < g.tiers.length) (hp : ∀ j, 0 ≤ cs.getD j 0) :
    Calls Try.prog 58 #[g.val, .int .i64 i, v] w fun e w' => e = .returned (.int .i64 (latE g.tiers cs i)) ∧ Fr [] w w' := by
  have hJ := fun w' (h : Fr [] w w') (i : Nat) (hi : i < g.tiers.length) => flowing_any g i w' (hok.fr h) hi
  obtain ⟨a, cap, rfl, hc1, hc2, hrd⟩ := hr
  have hle : cs.length ≤ 9223372036854775807 := Nat.le_trans hc1 hc2
  have h21 : ∀ w b, GmAt w b g → w.cell? ⟨b, 21, none⟩ = some (.slice g.ta g.tiers.length g.tc) := fun w b h => h.cell 21 _ rfl
  obtain ⟨E, hE⟩ : ∃ E, E = latE g.tiers cs i := ⟨_, rfl⟩
  rw [← hE]
  unfold latE at hE
  obtain ⟨n, hN⟩ : ∃ n, n = g.tiers.length := ⟨_, rfl⟩
  rw [hn] at hrd hle ⊢
  rw [← hN] at hrd hle hi hE h21 hJ ⊢
  have H21 := Lib.hid h21
  have HRD := Lib.hid hrd
  have HV := Lib.hid hE
  have HJ := Lib.hid hJ
  have HPOS := Lib.hid hp
  have en : ((n : Int) == 0) = false := by simp; omega
  clear hN h21 hrd hc1 hc2 hok hE hn hJ hp
  go_enter Try.func58, Try.ntmps58
  go_wp2_with (refine box_game rfl (.tmp 0) rfl g rfl ?_; intro w1 hg1 hz1 hf1; have c21 := H21.out _ _ hg1)
  clear hz1
  go_loopw [7] (fun j wr => ∃ k : Nat, i + 1 ≤ k ∧ k ≤ n ∧ j = .int .i64 k ∧ Fr [] w1 wr ∧ Hid (E = latTo g.tiers cs (n - k) k)) (fun j _ => n - (intOf j).toNat)
  case atStart => exact ⟨i + 1, by omega, by omega, by go_num, Fr.refl _ _, HV⟩
  case round =>
    obtain ⟨k, hk1, hk, rfl, hf, HT⟩ := hrel
    have r21 := hf.cell_some c21 (by simp)
    have hF := hf1.trans hf
    by_cases hlt : k < n
    · have hg := hg1.fr hf (by simp)
      obtain ⟨g1, o1, rfl, hcc⟩ := HRD.out k hlt
      have cc := hF.cell_some hcc (by simp)
      have hT := HT.out
      rw [show n - k = (n - (k + 1)) + 1 by omega] at hT
      have hyes := @latTo_yes g.tiers cs (n - (k + 1)) k
      have hno := @latTo_no g.tiers cs (n - (k + 1)) k
      have hc := HJ.out wr hF k hlt
      have hpk := HPOS.out k
      generalize kd g.tiers k = z at *
      generalize cs.getD k 0 = y at *
      have hkn : (k : Int) < (n : Int) := by omega
      have hk0 : (0 : Int) ≤ (k : Int) := by omega
      have HC := Lib.hid hc
      have HYES := Lib.hid hyes
      have HNO := Lib.hid hno
      have HT2 := Lib.hid hT
      clear hc hyes hno hT hcc
      by_cases h1 : z = 1
      · have e1 : (z != 1) = false := by simpa using h1
        have hq := HT2.out.trans (HNO.out (.inl h1))
        have HQ := Lib.hid hq
        clear hq h1 hpk
        go_wp2_with (refine load_game rfl (.tmp 3) rfl _ rfl g hg ?_)
        refine HC.out.mono ?_
        rintro e w2 ⟨rfl, f2⟩
        go_wp2_with fail
        exact ⟨⟨k + 1, by omega, by omega, by go_num, hf.trans f2, HQ⟩, by simp [intOf]; omega⟩
      · have e1 : (z != 1) = true := by simpa using h1
        by_cases h2 : y = 0
        · have e2 : decide (0 < y) = false := by simp; omega
          have hq := HT2.out.trans (HNO.out (.inr h2))
          have HQ := Lib.hid hq
          clear hq h1 hpk h2
          go_wp2_with (refine load_game rfl (.tmp 3) rfl _ rfl g hg ?_)
          refine HC.out.mono ?_
          rintro e w2 ⟨rfl, f2⟩
          have cc2 := f2.cell_some cc (by simp)
          go_wp2_with fail
          exact ⟨⟨k + 1, by omega, by omega, by go_num, hf.trans f2, HQ⟩, by simp [intOf]; omega⟩
        · have e2 : decide (0 < y) = true := by simp; omega
          have hq := HT2.out.trans (HYES.out h1 h2)
          have HQ := Lib.hid hq
          clear hq h1 hpk h2
          go_wp2_with (refine load_game rfl (.tmp 3) rfl _ rfl g hg ?_)
          refine HC.out.mono ?_
          rintro e w2 ⟨rfl, f2⟩
          have cc2 := f2.cell_some cc (by simp)
          go_wp2_with fail
          go_ret
          exact ⟨ret_i HQ.out.symm, hF.trans f2⟩
    · obtain rfl : n = k := by omega
      have hq : E = -1 := by rw [HT.out, Nat.sub_self]; rfl
      have HQ := Lib.hid hq
      clear hq
      go_wp2_with fail
      go_ret
      exact ⟨ret_i HQ.out.symm, hF⟩
end Go.Proofs.Ytdinjekpcgndmaa
