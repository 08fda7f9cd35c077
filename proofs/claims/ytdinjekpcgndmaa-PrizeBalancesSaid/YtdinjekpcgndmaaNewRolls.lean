/-
  LAYER 37: newRolls: the number of draws without a jackpot winner behind this draw.
-/
import Derived.Test.YtdinjekpcgndmaaRollF
import Derived.Test.YtdinjekpcgndmaaLater
set_option linter.unusedVariables false
namespace Go.Proofs.Ytdinjekpcgndmaa
open Go.RowKit
/-- a game is loaded whole, behind a guard that lets it -/
theorem load_game_gd {ops : Array Oper} {rest : List Oper} {o : Oper} {a : Act} {w : World} {Q : Exit → Act → World → Prop} (x : Operand) (ho : o.op = .load 25 x) (b : Nat) (hx : a.eval x = .pointer (some ⟨b, 0, none⟩))
    (g : Gm) (hg : GmAt w b g) (hgd : Region.wanted o (yielded ops a.tmps) = true) (h : wpList Try.prog ops Q rest (a.put o.dst g.val) w) : wpList Try.prog ops Q (o :: rest) a w :=
  wpList_step fun K hK => by
    rw [if_pos hgd]
    exact wp_load_row 25 x ho b hx 25 g.cells.toArray (0, 0) _ hg Try.underlying25 rfl infoGame (hK _ _ (by rw [← Gm.val_eq]; exact h))
theorem rolE_won {T : List Ti} {cs : List Int} {must : Bool} {rolls : Int} {k : Nat} (hk : k < T.length) (h : wonP T cs must k = true) : rolE T cs must rolls = 0 := by
  unfold rolE
  rw [if_pos (anyTo_mk hk h)]
  split <;> rfl
theorem rolE_end {T : List Ti} {cs : List Int} {must : Bool} {rolls : Int} (q : Bool) (hq : q = anyTo (jackP T) T.length) (h : anyTo (wonP T cs must) T.length = false) : rolE T cs must rolls = if q = true then min (rolls + 1) 64 else 0 := by
  unfold rolE
  rw [← hq, h]
  cases q <;> simp
set_option maxRecDepth 20000 in
set_option maxHeartbeats 4000000 in
theorem newRolls_any (g : Gm) (v : Value) (cs : List Int) (rolls : Int) (must : Bool) (w : World) (hok : Tis w g.ta g.tc g.tiers) (hr : RdI w v cs) (hn : cs.length = g.tiers.length) (hn0 : 0 < g.tiers.length) (hr0 : 0 ≤ rolls) (hr1 : rolls ≤ 64) :
    Calls Try.prog 55 #[g.val, v, .int .i64 rolls, .bool must] w fun e w' => e = .returned (.int .i64 (rolE g.tiers cs must rolls)) ∧ Fr [] w w' := by
  have hL := fun w' (h : Fr [] w w') (i : Nat) (hi : i < g.tiers.length) => later_any g v cs i w' (hok.fr h) (hr.below h) hn hi
  obtain ⟨a, cap, rfl, hc1, hc2, hrd⟩ := hr
  have hle : cs.length ≤ 9223372036854775807 := Nat.le_trans hc1 hc2
  have h21 : ∀ w b, GmAt w b g → w.cell? ⟨b, 21, none⟩ = some (.slice g.ta g.tiers.length g.tc) := fun w b h => h.cell 21 _ rfl
  have hwon := fun k => @rolE_won g.tiers cs must rolls k
  have hend := @rolE_end g.tiers cs must rolls
  generalize rolE g.tiers cs must rolls = E at *
  obtain ⟨x0, hx0⟩ : ∃ x, g.tiers[0]? = some x := ⟨_, List.getElem?_eq_getElem hn0⟩
  obtain ⟨b, o, hta, _⟩ := RdF.at (f := Ti.cells) hok.rd hx0
  rw [hta] at h21
  have HTA := Lib.hid hta
  obtain ⟨n, hN⟩ : ∃ n, n = g.tiers.length := ⟨_, rfl⟩
  rw [hn] at hrd hle hL ⊢
  rw [← hN] at hrd hle h21 hL hwon hend ⊢
  have HN := Lib.hid hN
  have H21 := Lib.hid h21
  have HRD := Lib.hid hrd
  have HL := Lib.hid hL
  have HWON := Lib.hid hwon
  have HEND := Lib.hid hend
  have HOK := Lib.hid hok
  clear hN h21 hrd hL hwon hend hok hc1 hc2 hn hta hx0 hn0
  go_enter Try.func55, Try.ntmps55
  go_wp2_with (refine box_game rfl (.tmp 0) rfl g rfl ?_; intro w1 hg1 hz1 hf1; have c21 := H21.out _ _ hg1)
  clear hz1
  go_loopw [9, 15] (fun j i wr => ∃ (k : Nat) (q : Bool), k ≤ n ∧ i = .int .i64 k ∧ j = .bool q ∧ Fr [] w1 wr ∧ Hid (q = anyTo (jackP g.tiers) k) ∧ Hid (anyTo (wonP g.tiers cs must) k = false)) (fun _ i _ => n - (intOf i).toNat)
  case atStart => exact ⟨0, false, by omega, rfl, rfl, Fr.refl _ _, Lib.hid rfl, Lib.hid rfl⟩
  case round =>
    obtain ⟨k, q, hk, rfl, rfl, hf, HJ, HW⟩ := hrel
    have hF := hf1.trans hf
    by_cases hlt : k < n
    · obtain ⟨x, hx⟩ : ∃ x, g.tiers[k]? = some x := ⟨_, List.getElem?_eq_getElem (by have := HN.out; omega)⟩
      obtain ⟨b', o', hta', hcell⟩ := RdF.at (f := Ti.cells) HOK.out.rd hx
      rw [HTA.out] at hta'
      simp only [Option.some.injEq, Addr.mk.injEq, and_true] at hta'
      obtain ⟨rfl, rfl⟩ := hta'
      have c0 := hF.cell_some (hcell 0 _ rfl) (by simp)
      have c1 := hF.cell_some (hcell 1 _ rfl) (by simp)
      have c2 := hF.cell_some (hcell 2 _ rfl) (by simp)
      have c3 := hF.cell_some (hcell 3 _ rfl) (by simp)
      have c4 := hF.cell_some (hcell 4 _ rfl) (by simp)
      have c5 := hF.cell_some (hcell 5 _ rfl) (by simp)
      rw [Nat.add_zero] at c0
      have hkd : kd g.tiers k = x.kind := by simp [kd, List.getD, hx]
      obtain ⟨g1, o1, rfl, hc⟩ := HRD.out k hlt
      have cc := hF.cell_some hc (by simp)
      have hwk : wonP g.tiers cs must k = decide (kd g.tiers k = 3 ∧ (cs.getD k 0 ≠ 0 ∨ (must = true ∧ 0 ≤ latE g.tiers cs k))) := rfl
      have hjk : jackP g.tiers k = decide (kd g.tiers k = 3) := rfl
      rw [hkd] at hwk hjk
      have hLk := fun w' (h : Fr [] w w') => HL.out w' h k hlt
      generalize cs.getD k 0 = y at *
      generalize latE g.tiers cs k = lt at *
      have hwin := HWON.out k hlt
      have hnext : wonP g.tiers cs must k = false → anyTo (wonP g.tiers cs must) (k + 1) = false := fun h => by rw [anyTo, HW.out, h]; rfl
      have hjn : q = anyTo (jackP g.tiers) k := HJ.out
      have hjn1 : anyTo (jackP g.tiers) (k + 1) = (q || jackP g.tiers k) := by rw [anyTo, ← hjn]
      obtain ⟨tm, tb, te, to_, tk, tv⟩ := x
      simp only at c0 c1 c2 c3 c4 c5 hwk hjk
      have m1 := fun ob => ((Fr.refl [] wr).alloc ob).cell_some cc (by simp)
      have HG := Lib.hid ((hg1.fr hf (by simp)))
      have hszr : w1.heap.size ≤ wr.heap.size := hf.size
      have hlt1 : w.heap.size < w1.heap.size := hg1.lt
      have hlt2 : w.heap.size < wr.heap.size := by omega
      have HLK := Lib.hid hLk
      have HWIN := Lib.hid hwin
      have HNEXT := Lib.hid hnext
      have HJ1 := Lib.hid hjn1
      have hkn : (k : Int) < (n : Int) := by omega
      have hk0 : (0 : Int) ≤ (k : Int) := by omega
      have hFa : ∀ o, Fr [] w1 (wr.alloc o) := fun o => hf.alloc o
      have HFA := Lib.hid hFa
      clear hcell hx hc hkd hLk hwin hnext hjn hjn1 HJ HW cc hFa
      obtain ⟨wo, rfl⟩ : ∃ wo : World, wo = wr := ⟨_, rfl⟩
      by_cases h3 : tk = 3
      · have e3 : (tk != 3) = false := by simpa using h3
        have hq : anyTo (jackP g.tiers) (k + 1) = true := by rw [HJ1.out, hjk]; simp [h3]
        have HQ := Lib.hid hq
        clear hq hjk
        by_cases hy : y = 0
        · have ey : (y != 0) = false := by simpa using hy
          cases must
          · have hw : wonP g.tiers cs false k = false := by rw [hwk]; simp [hy]
            have hn1 := HNEXT.out hw
            have HN1 := Lib.hid hn1
            clear hw hn1 hwk h3 hy
            go_wp2_with fail
            exact ⟨⟨k + 1, true, by omega, by go_num, rfl, HFA.out _, Lib.hid HQ.out.symm, HN1⟩, by simp [intOf]; omega⟩
          · have hw : wonP g.tiers cs true k = decide (0 ≤ lt) := by rw [hwk]; simp [hy, h3]
            have HW2 := Lib.hid hw
            clear hw hwk h3 hy
            go_wp2_with (refine load_game_gd (.tmp 4) rfl _ rfl g (HG.out.fr ((Fr.refl [] wo).alloc _) (by simp)) rfl ?_)
            refine (HLK.out _ (hf1.trans (HFA.out _))).mono ?_
            rintro e w3 ⟨rfl, f3⟩
            by_cases hl : 0 ≤ lt
            · have hw := HW2.out
              rw [decide_eq_true hl] at hw
              have hq := HWIN.out hw
              have HE := Lib.hid hq
              have el : decide (0 ≤ lt) = true := by simpa using hl
              clear hw hq
              go_wp2_with fail
              go_ret
              exact ⟨ret_i HE.out.symm, (hf1.trans (HFA.out _)).trans f3⟩
            · have hw := HW2.out
              rw [decide_eq_false hl] at hw
              have hn1 := HNEXT.out hw
              have HN1 := Lib.hid hn1
              have el : decide (0 ≤ lt) = false := by simpa using hl
              clear hw hn1 hl
              go_wp2_with fail
              exact ⟨⟨k + 1, true, by omega, by go_num, rfl, (HFA.out _).trans f3, Lib.hid HQ.out.symm, HN1⟩, by simp [intOf]; omega⟩
        · have ey : (y != 0) = true := by simpa using hy
          have hw : wonP g.tiers cs must k = true := by rw [hwk]; simp [hy, h3]
          have hq := HWIN.out hw
          have HE := Lib.hid hq
          clear hw hq hwk h3 hy
          go_wp2_with fail
          go_ret
          exact ⟨ret_i HE.out.symm, hf1.trans (HFA.out _)⟩
      · have e3 : (tk != 3) = true := by simpa using h3
        have hq : anyTo (jackP g.tiers) (k + 1) = q := by rw [HJ1.out, hjk]; simp [h3]
        have hw : wonP g.tiers cs must k = false := by rw [hwk]; simp [h3]
        have hn1 := HNEXT.out hw
        have HN1 := Lib.hid hn1
        have HQ := Lib.hid hq
        clear hw hn1 hwk h3 hq hjk
        go_wp2_with fail
        exact ⟨⟨k + 1, q, by omega, by go_num, rfl, HFA.out _, Lib.hid HQ.out.symm, HN1⟩, by simp [intOf]; omega⟩
    · obtain rfl : k = n := by omega
      have hq := HEND.out q HJ.out HW.out
      cases q
      · have HQ := Lib.hid hq
        clear hq
        go_wp2_with fail
        go_ret
        exact ⟨ret_i (by rw [HQ.out]; simp), hF⟩
      · have HQ := Lib.hid hq
        clear hq
        go_wp2_with fail
        all_goals
          go_ret
          exact ⟨ret_i (by rw [HQ.out]; simp only [if_true]; omega), hF⟩
end Go.Proofs.Ytdinjekpcgndmaa
