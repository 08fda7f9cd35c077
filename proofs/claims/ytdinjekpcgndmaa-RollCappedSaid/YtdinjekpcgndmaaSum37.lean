/-
  LAYER 37: sum and behind of the statements.
-/
import Derived.Test.YtdinjekpcgndmaaRollF
import Derived.Test.YtdinjekpcgndmaaCap
set_option linter.unusedVariables false
namespace Go.Proofs.Ytdinjekpcgndmaa
open Go.RowKit
set_option maxHeartbeats 1000000 in
theorem sum37_any (v : Value) (l : List Int) (w : World) (hr : RdI w v l) (ha : amtB l = true) (hl : l.length ≤ 1000) :
    Calls Try.prog 26 #[v] w fun e w' => e = .returned (.int .i64 (sumTo l l.length)) ∧ w = w' := by
  obtain ⟨a, cap, rfl, hc1, hc2, hrd⟩ := hr
  have hbd := fun n => sumTo_bd ha n
  have hat := fun n => amtB_at ha n
  obtain ⟨n, hN⟩ : ∃ n, n = l.length := ⟨_, rfl⟩
  rw [← hN] at hrd hl ⊢
  have HRD := Lib.hid hrd
  have HBD := Lib.hid hbd
  have HAT := Lib.hid hat
  clear hN hc1 hc2 hrd hbd hat ha
  go_enter Try.func26, Try.ntmps26
  go_wp2_with fail
  go_loop [3, 4] (fun s i => ∃ k : Nat, k ≤ n ∧ i = .int .i64 k ∧ s = .int .i64 (sumTo l k)) (fun _ i => n - (intOf i).toNat)
  case atStart => exact ⟨0, by omega, rfl, rfl⟩
  case round =>
    obtain ⟨k, hk, rfl, rfl⟩ := hrel
    by_cases hlt : k < n
    · obtain ⟨g, o, rfl, hcell⟩ := HRD.out k hlt
      have hb := HBD.out k
      have ht := HAT.out k
      have hs : sumTo l (k + 1) = sumTo l k + l.getD k 0 := rfl
      have HS := Lib.hid hs
      clear hs
      generalize l.getD k 0 = x at *
      generalize hsk : sumTo l k = s at *
      have HSK := Lib.hid hsk
      clear hsk
      have h1 : 0 ≤ s := hb.1
      have h2 : s ≤ 1000000000000000 := by omega
      have h3 : 0 ≤ x := ht.1
      have h4 : x ≤ 1000000000000 := ht.2
      have hkn : (k : Int) < (n : Int) := by omega
      clear hb ht
      go_wp2_with fail
      go_round
      case rel => exact ⟨k + 1, by omega, by go_num, by rw [HS.out]⟩
      case measure => simp [intOf]; omega
    · obtain rfl : n = k := by omega
      go_wp2_with fail
      go_ret
      exact ⟨rfl, rfl⟩
set_option maxRecDepth 20000 in
set_option maxHeartbeats 1000000 in
theorem behind_any (g : Gm) (i : Nat) (w : World) (hok : Tis w g.ta g.tc g.tiers) (hi : i < g.tiers.length) : Calls Try.prog 27 #[g.val, .int .i64 i] w fun e w' => e = .returned (.bool (decide (0 ≤ nxtE g.tiers i))) ∧ Fr [] w w' := by
  have h21 : ∀ w b, GmAt w b g → w.cell? ⟨b, 21, none⟩ = some (.slice g.ta g.tiers.length g.tc) := fun w b h => h.cell 21 _ rfl
  have hle := hok.rd.len.2
  unfold maxLen at hle
  obtain ⟨E, hE⟩ : ∃ E, E = nxtE g.tiers i := ⟨_, rfl⟩
  rw [← hE]
  unfold nxtE at hE
  obtain ⟨x0, hx0⟩ : ∃ x, g.tiers[0]? = some x := ⟨_, List.getElem?_eq_getElem (by omega)⟩
  obtain ⟨b, o, hta, _⟩ := RdF.at (f := Ti.cells) hok.rd hx0
  obtain ⟨n, hN⟩ : ∃ n, n = g.tiers.length := ⟨_, rfl⟩
  rw [← hN] at hi hE h21 hle
  rw [hta] at h21
  have HTA := Lib.hid hta
  have HN := Lib.hid hN
  have H21 := Lib.hid h21
  have HV := Lib.hid hE
  have HOK := Lib.hid hok
  clear hN h21 hok hE hta hx0
  go_enter Try.func27, Try.ntmps27
  go_wp2_with (refine box_game rfl (.tmp 0) rfl g rfl ?_; intro w1 hg1 hz1 hf1; have c21 := H21.out _ _ hg1)
  clear hg1 hz1
  go_loop [5] (fun j => ∃ k : Nat, i + 1 ≤ k ∧ k ≤ n ∧ j = .int .i64 k ∧ Hid (E = nxtTo g.tiers (n - k) k)) (fun j => n - (intOf j).toNat)
  case atStart => exact ⟨i + 1, by omega, by omega, by go_num, HV⟩
  case round =>
    obtain ⟨k, hk1, hk, rfl, HT⟩ := hrel
    by_cases hlt : k < n
    · obtain ⟨x, hx⟩ : ∃ x, g.tiers[k]? = some x := ⟨_, List.getElem?_eq_getElem (by have := HN.out; omega)⟩
      obtain ⟨b', o', hta', hcell⟩ := RdF.at (f := Ti.cells) HOK.out.rd hx
      rw [HTA.out] at hta'
      simp only [Option.some.injEq, Addr.mk.injEq, and_true] at hta'
      obtain ⟨rfl, rfl⟩ := hta'
      have c4 := hf1.cell_some (hcell 4 _ rfl) (by simp)
      have hkd : kd g.tiers k = x.kind := by simp [kd, List.getD, hx]
      have hT := HT.out
      rw [show n - k = (n - (k + 1)) + 1 by omega] at hT
      have hyes := @nxtTo_yes g.tiers (n - (k + 1)) k
      have hno := @nxtTo_no g.tiers (n - (k + 1)) k
      rw [hkd] at hyes hno
      generalize x.kind = z at *
      have hkn : (k : Int) < (n : Int) := by omega
      have hk0 : (0 : Int) ≤ (k : Int) := by omega
      have HYES := Lib.hid hyes
      have HNO := Lib.hid hno
      have HT2 := Lib.hid hT
      clear hcell hx hkd hT hyes hno HT
      by_cases h1 : z = 1
      · have hq := HT2.out.trans (HNO.out h1)
        have HQ := Lib.hid hq
        have e1 : (z != 1) = false := by simpa using h1
        clear hq h1
        go_wp2_with fail
        go_round
        case rel => exact ⟨k + 1, by omega, by omega, by go_num, HQ⟩
        case measure => simp [intOf]; omega
      · have e1 : (z != 1) = true := by simpa using h1
        have hq := HT2.out.trans (HYES.out h1)
        have hd : decide (0 ≤ E) = true := by simp; omega
        have HQ := Lib.hid hd
        clear hq h1 hd
        go_wp2_with fail
        go_ret
        exact ⟨ret_b HQ.out.symm, hf1⟩
    · obtain rfl : n = k := by omega
      have hq : E = -1 := by rw [HT.out, Nat.sub_self]; rfl
      have hd : decide (0 ≤ E) = false := by simp; omega
      have HQ := Lib.hid hd
      clear hq hd
      go_wp2_with fail
      go_ret
      exact ⟨ret_b HQ.out.symm, hf1⟩
end Go.Proofs.Ytdinjekpcgndmaa
