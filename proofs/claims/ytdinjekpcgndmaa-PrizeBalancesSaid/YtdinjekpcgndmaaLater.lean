/-
  LAYER 37: later of the program: the first later tier that is not fixed and has winners.
-/
import Derived.Test.YtdinjekpcgndmaaRollP
set_option linter.unusedVariables false
namespace Go.Proofs.Ytdinjekpcgndmaa
open Go.RowKit
theorem latTo_yes {T : List Ti} {cs : List Int} {f k : Nat} (h1 : kd T k ≠ 1) (h2 : cs.getD k 0 ≠ 0) : latTo T cs (f + 1) k = k := by rw [latTo, if_pos ⟨h1, h2⟩]
theorem latTo_no {T : List Ti} {cs : List Int} {f k : Nat} (h : kd T k = 1 ∨ cs.getD k 0 = 0) : latTo T cs (f + 1) k = latTo T cs f (k + 1) := by rw [latTo, if_neg (by omega)]
set_option maxRecDepth 20000 in
set_option maxHeartbeats 2000000 in
theorem later_any (g : Gm) (v : Value) (cs : List Int) (i : Nat) (w : World) (hok : Tis w g.ta g.tc g.tiers) (hr : RdI w v cs) (hn : cs.length = g.tiers.length) (hi : i < g.tiers.length) :
    Calls Try.prog 54 #[g.val, v, .int .i64 i] w fun e w' => e = .returned (.int .i64 (latE g.tiers cs i)) ∧ Fr [] w w' := by
  obtain ⟨a, cap, rfl, hc1, hc2, hrd⟩ := hr
  have hle : cs.length ≤ 9223372036854775807 := Nat.le_trans hc1 hc2
  have h21 : ∀ w b, GmAt w b g → w.cell? ⟨b, 21, none⟩ = some (.slice g.ta g.tiers.length g.tc) := fun w b h => h.cell 21 _ rfl
  obtain ⟨E, hE⟩ : ∃ E, E = latE g.tiers cs i := ⟨_, rfl⟩
  rw [← hE]
  unfold latE at hE
  obtain ⟨x0, hx0⟩ : ∃ x, g.tiers[0]? = some x := ⟨_, List.getElem?_eq_getElem (by omega)⟩
  obtain ⟨b, o, hta, _⟩ := RdF.at (f := Ti.cells) hok.rd hx0
  obtain ⟨n, hN⟩ : ∃ n, n = g.tiers.length := ⟨_, rfl⟩
  rw [hn] at hrd hle ⊢
  rw [← hN] at hrd hle hi hE h21 ⊢
  rw [hta] at h21
  have HTA := Lib.hid hta
  have HN := Lib.hid hN
  have H21 := Lib.hid h21
  have HRD := Lib.hid hrd
  have HV := Lib.hid hE
  have HOK := Lib.hid hok
  clear hN h21 hrd hc1 hc2 hok hE hn hta hx0
  go_enter Try.func54, Try.ntmps54
  go_wp2_with (refine box_game rfl (.tmp 0) rfl g rfl ?_; intro w1 hg1 hz1 hf1; have c21 := H21.out _ _ hg1)
  clear hg1 hz1
  go_loop [7] (fun j => ∃ k : Nat, i + 1 ≤ k ∧ k ≤ n ∧ j = .int .i64 k ∧ Hid (E = latTo g.tiers cs (n - k) k)) (fun j => n - (intOf j).toNat)
  case atStart => exact ⟨i + 1, by omega, by omega, by go_num, HV⟩
  case round =>
    obtain ⟨k, hk1, hk, rfl, HT⟩ := hrel
    by_cases hlt : k < n
    · obtain ⟨x, hx⟩ : ∃ x, g.tiers[k]? = some x := ⟨_, List.getElem?_eq_getElem (by have := HN.out; omega)⟩
      obtain ⟨b', o', hta', hcell⟩ := RdF.at (f := Ti.cells) HOK.out.rd hx
      rw [HTA.out] at hta'
      simp only [Option.some.injEq, Addr.mk.injEq, and_true] at hta'
      obtain ⟨rfl, rfl⟩ := hta'
      have c4 := hf1.cell_some (hcell 4 _ rfl) (by simp)
      obtain ⟨g1, o1, rfl, hc⟩ := HRD.out k hlt
      have cc := hf1.cell_some hc (by simp)
      have hkd : kd g.tiers k = x.kind := by simp [kd, List.getD, hx]
      have hT := HT.out
      rw [show n - k = (n - (k + 1)) + 1 by omega] at hT
      have hyes := @latTo_yes g.tiers cs (n - (k + 1)) k
      have hno := @latTo_no g.tiers cs (n - (k + 1)) k
      rw [hkd] at hyes hno
      generalize cs.getD k 0 = y at *
      generalize x.kind = z at *
      have hkn : (k : Int) < (n : Int) := by omega
      have hk0 : (0 : Int) ≤ (k : Int) := by omega
      have HYES := Lib.hid hyes
      have HNO := Lib.hid hno
      have HT2 := Lib.hid hT
      clear hcell hx hc hkd hT hyes hno HT
      by_cases h1 : z = 1
      · have hq := HT2.out.trans (HNO.out (.inl h1))
        have HQ := Lib.hid hq
        have e1 : (z != 1) = false := by simpa using h1
        clear hq h1
        go_wp2_with fail
        go_round
        case rel => exact ⟨k + 1, by omega, by omega, by go_num, HQ⟩
        case measure => simp [intOf]; omega
      · have e1 : (z != 1) = true := by simpa using h1
        by_cases h2 : y = 0
        · have hq := HT2.out.trans (HNO.out (.inr h2))
          have HQ := Lib.hid hq
          have e2 : (y != 0) = false := by simpa using h2
          clear hq h1 h2
          go_wp2_with fail
          go_round
          case rel => exact ⟨k + 1, by omega, by omega, by go_num, HQ⟩
          case measure => simp [intOf]; omega
        · have hq := HT2.out.trans (HYES.out h1 h2)
          have HQ := Lib.hid hq
          have e2 : (y != 0) = true := by simpa using h2
          clear hq h1 h2
          go_wp2_with fail
          go_ret
          exact ⟨ret_i HQ.out.symm, hf1⟩
    · obtain rfl : k = n := by omega
      have hq : E = -1 := by rw [HT.out, Nat.sub_self]; rfl
      have HQ := Lib.hid hq
      clear hq
      go_wp2_with fail
      go_ret
      exact ⟨ret_i HQ.out.symm, hf1⟩
end Go.Proofs.Ytdinjekpcgndmaa
