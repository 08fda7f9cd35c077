/-
  LAYER 36: the reference's parts: whether a tier is fixed, sums, needs, values, places.
-/
import Derived.Test.YtdinjekpcgndmaaRSplitR
import Derived.Test.YtdinjekpcgndmaaPoolA
set_option linter.unusedVariables false
namespace Go.Proofs.Ytdinjekpcgndmaa
open Go.RowKit
theorem load_game_i {ops : Array Oper} {rest : List Oper} {o : Oper} {a : Act} {w : World} {Q : Exit → Act → World → Prop} (x : Operand) (ho : o.op = .load 25 x) (b : Nat) (hx : a.eval x = .pointer (some ⟨b, 0, none⟩))
    (g : Gm) (hg : GmAt w b g) (hgd : Region.wanted o (yielded ops a.tmps) = true) (h : wpList Try.prog ops Q rest (a.put o.dst g.val) w) : wpList Try.prog ops Q (o :: rest) a w :=
  wpList_step fun K hK => by
    rw [if_pos hgd]
    exact wp_load_row 25 x ho b hx 25 g.cells.toArray (0, 0) _ hg Try.underlying25 rfl infoGame (hK _ _ (by rw [← Gm.val_eq]; exact h))
theorem fixed_any (g : Gm) (i : Nat) (w : World) (hok : g.Ok w) (hi : i < g.tiers.length) : Calls Try.prog 100 #[g.val, .int .i64 i] w fun e w' => e = .returned (.bool (decide (kd g.tiers i = 1))) ∧ Fr [] w w' := by
  have h21 : ∀ w b, GmAt w b g → w.cell? ⟨b, 21, none⟩ = some (.slice g.ta g.tiers.length g.tc) := fun w b h => h.cell 21 _ rfl
  have hle := hok.tiers.rd.len.2
  unfold maxLen at hle
  obtain ⟨t, ht⟩ : ∃ t, g.tiers[i]? = some t := ⟨_, List.getElem?_eq_getElem hi⟩
  obtain ⟨bt, ot, hta, hct⟩ := RdF.at (f := Ti.cells) hok.tiers.rd ht
  have h4 := hct 4 _ rfl
  rw [hta] at h21
  rw [(kd_of ht).1]
  obtain ⟨tm, tb, te, to_, tk, tv⟩ := t
  simp only at h4 ⊢
  obtain ⟨n, hN⟩ : ∃ n, n = g.tiers.length := ⟨_, rfl⟩
  rw [← hN] at h21 hi hle
  have hin : (i : Int) < (n : Int) := by omega
  have H21 := Lib.hid h21
  have hk : decide (tk = 1) = (tk == 1) := by by_cases h : tk = 1 <;> simp [h]
  rw [hk]
  clear h21 hct ht hta hok hN hk
  go_enter Try.func100, Try.ntmps100
  go_wp2_with (refine box_game rfl (.tmp 0) rfl g rfl ?_; intro w1 hg1 hz1 hf1; have c21 := H21.out _ _ hg1; have c4 := hf1.cell_some h4 (by simp))
  go_ret
  exact ⟨rfl, hf1⟩
theorem sumTo_bdB {l : List Int} {B : Int} (h : ∀ x ∈ l, 0 ≤ x ∧ x ≤ B) : ∀ k : Nat, k ≤ l.length → 0 ≤ sumTo l k ∧ sumTo l k ≤ B * k := by
  intro k
  induction k with
  | zero => intro _; simp [sumTo]
  | succ k ih =>
    intro hk
    obtain ⟨a, b⟩ := ih (by omega)
    have c := h l[k] (List.getElem_mem (by omega))
    have d : l.getD k 0 = l[k] := by simp [List.getD, show k < l.length by omega]
    have e : B * ((k + 1 : Nat) : Int) = B * k + B := by push_cast; rw [Int.mul_add, Int.mul_one]
    rw [sumTo, d, e]; omega
set_option maxRecDepth 20000 in
set_option maxHeartbeats 1000000 in
theorem radd_any (v : Value) (l : List Int) (w : World) (hr : RdI w v l) (ha : ∀ x ∈ l, 0 ≤ x ∧ x ≤ 2097152000000000) (hl : l.length ≤ 12) : Calls Try.prog 69 #[v] w fun e w' => e = .returned (.int .i64 (spT l)) ∧ w = w' := by
  obtain ⟨a2, c2, rfl, l2, m2, r2⟩ := hr
  have hkb := sumTo_bdB ha
  have hx : ∀ k, k < l.length → 0 ≤ l.getD k 0 ∧ l.getD k 0 ≤ 2097152000000000 := fun k hk => by
    have := ha l[k] (List.getElem_mem hk)
    simpa [List.getD, hk] using this
  have hsu : ∀ k, sumTo l (k + 1) = sumTo l k + l.getD k 0 := fun k => rfl
  obtain ⟨S, hS⟩ : ∃ S, S = spT l := ⟨_, rfl⟩
  have hS2 : S = sumTo l l.length := hS
  rw [← hS]
  obtain ⟨n, hN⟩ : ∃ n, n = l.length := ⟨_, rfl⟩
  rw [← hN] at r2 l2 hl hkb hx hS2 ⊢
  have HR := Lib.hid r2
  have HKB := Lib.hid hkb
  have HX := Lib.hid hx
  have HSU := Lib.hid hsu
  have HS2 := Lib.hid hS2
  clear hN r2 hkb hx hsu ha hS hS2
  unfold maxLen at m2
  go_enter Try.func69, Try.ntmps69
  go_wp2_with fail
  go_loop [4, 3] (fun i s => ∃ k : Nat, k ≤ n ∧ i = .int .i64 k ∧ s = .int .i64 (sumTo l k)) (fun i _ => n - (intOf i).toNat)
  case atStart => exact ⟨0, by omega, rfl, rfl⟩
  case round =>
    obtain ⟨k, hk, rfl, rfl⟩ := hrel
    by_cases hlt : k < n
    · obtain ⟨g1, o1, rfl, k1⟩ := HR.out k hlt
      have hb1 := HKB.out k (by omega)
      have hx := HX.out k hlt
      have HS := Lib.hid (HSU.out k)
      have hkn : (k : Int) < (n : Int) := by omega
      generalize l.getD k 0 = x at *
      generalize sumTo l k = s at *
      go_wp2_with fail
      go_round
      case rel => exact ⟨k + 1, by omega, by go_num, by rw [HS.out]⟩
      case measure => simp [intOf]; omega
    · obtain rfl : n = k := by omega
      have hs := HS2.out
      rw [← hs]
      clear hs
      go_wp2_with fail
      go_ret
      exact ⟨rfl, rfl⟩
set_option maxRecDepth 20000 in
set_option maxHeartbeats 4000000 in
theorem rvals_any (g : Gm) (w : World) (hok : g.Ok w) (hch : chkE g = 0) : Calls Try.prog 71 #[g.val] w fun e w' => ∃ v, e = .returned v ∧ OwnI w' w.heap.size 3 v (vsL g.tiers) ∧ Fr [] w w' := by
  have h21 : ∀ w b, GmAt w b g → w.cell? ⟨b, 21, none⟩ = some (.slice g.ta g.tiers.length g.tc) := fun w b h => h.cell 21 _ rfl
  have hn12 := (game_len hch).2
  have hFX := fun i w' (hi : i < g.tiers.length) (h : Fr [] w w') => fixed_any g i w' (hok.fr h) hi
  have hsl := fun k => selP_len g.tiers false (vl g.tiers) k
  have hcl := cntK_le g.tiers false
  have hpost : ∀ v w', OwnI w' w.heap.size 3 v (vsL g.tiers) → Fr [] w w' → ∃ v', Ending.returned v = .returned v' ∧ OwnI w' w.heap.size 3 v' (vsL g.tiers) ∧ Fr [] w w' := fun v w' h k => ⟨v, rfl, h, k⟩
  unfold vsL at hpost ⊢
  obtain ⟨n, hN⟩ : ∃ n, n = g.tiers.length := ⟨_, rfl⟩
  rw [← hN] at h21 hn12 hFX hpost ⊢
  have HN := Lib.hid hN
  have H21 := Lib.hid h21
  have HOK := Lib.hid hok
  have HFX := Lib.hid hFX
  have HSL := Lib.hid hsl
  have HCL := Lib.hid hcl
  have HPOST := Lib.hid hpost
  clear hN h21 hok hFX hsl hcl hpost hch
  go_enter Try.func71, Try.ntmps71
  go_upto_block 0 with (first | (refine box_game rfl (.tmp 0) rfl g rfl ?_; intro w1 hg1 hz1 hf1) | go_step3)
  have HF1 := Lib.hid hf1
  have HG1 := Lib.hid hg1
  have hs1 : w.heap.size ≤ w1.heap.size := by omega
  clear hg1 hz1 hf1
  go_wp2_with fail
  go_loopw [4, 3] (fun i v wr => ∃ k : Nat, k ≤ n ∧ i = .int .i64 k ∧ OwnI wr w1.heap.size 3 v (selP g.tiers false (vl g.tiers) k) ∧ Fr [] w1 wr) (fun i _ _ => n - (intOf i).toNat)
  case atStart => exact ⟨0, by omega, rfl, OwnI.nil _ _ _, Fr.refl _ _⟩
  case round =>
    obtain ⟨k, hk, rfl, ho, hf⟩ := hrel
    have hg := HG1.out.fr hf (by simp)
    have c21 := H21.out _ _ hg
    by_cases hlt : k < n
    · obtain ⟨t, ht⟩ : ∃ t, g.tiers[k]? = some t := ⟨_, List.getElem?_eq_getElem (by have := HN.out; omega)⟩
      obtain ⟨bt, ot, hta, hct⟩ := RdF.at (f := Ti.cells) HOK.out.tiers.rd ht
      have hc5 := (HF1.out.trans hf).cell_some (hct 5 _ rfl) (by simp)
      rw [hta] at c21
      have hl1 := HSL.out k
      have hle1 := HCL.out k
      obtain ⟨hkd, hvl⟩ := kd_of ht
      have hfx := HFX.out k wr hlt (HF1.out.trans hf)
      have hyes := @sel_yes g.tiers false (vl g.tiers) k
      have hno := @sel_no g.tiers false (vl g.tiers) k
      have hkk : isK g.tiers false k = !decide (t.kind = 1) := by unfold isK; rw [hkd]; cases decide (t.kind = 1) <;> rfl
      rw [hkk] at hyes hno
      rw [hkd] at hfx
      obtain ⟨tm, tb, te, to_, tk, tv⟩ := t
      simp only at hc5 hfx hkk hvl hyes hno
      rw [hvl] at hyes
      have hkn : (k : Int) < (n : Int) := by omega
      have hlk : (selP g.tiers false (vl g.tiers) k).length ≤ 12 := by rw [hl1]; omega
      have HO := Lib.hid ho
      have HFK := Lib.hid hf
      by_cases h1 : tk = 1
      · have y1 := hno (by simpa using h1)
        rw [show decide (tk = 1) = true by simpa using h1] at hfx
        have HFXX := Lib.hid hfx
        have HY := Lib.hid y1
        clear hyes hno y1 hl1 hle1 hct ht hta hkd hvl hkk hf ho h1 hfx
        go_wp2_with (refine load_game rfl (.tmp 1) rfl _ rfl g hg ?_)
        refine HFXX.out.mono ?_
        rintro e w3 ⟨rfl, f3⟩
        have HO3 := Lib.hid (HO.out.fr f3 (by simp))
        have HF3 := Lib.hid (HFK.out.trans f3)
        clear f3 hc5 c21 hg
        go_wp2_with fail
        go_roundw
        case rel => exact ⟨k + 1, by omega, by go_num, by rw [HY.out]; exact HO3.out, HF3.out⟩
        case measure => simp [intOf]; omega
      · obtain ⟨y1, _⟩ := hyes (by simpa using h1)
        rw [show decide (tk = 1) = false by simpa using h1] at hfx
        have HFXX := Lib.hid hfx
        have HY := Lib.hid y1
        clear hyes hno y1 hl1 hle1 hct ht hta hkd hvl hkk hf ho h1 hfx
        generalize selP g.tiers false (vl g.tiers) k = l at *
        go_wp2_with (refine load_game rfl (.tmp 1) rfl _ rfl g hg ?_)
        refine HFXX.out.mono ?_
        rintro e w3 ⟨rfl, f3⟩
        have HO3 := Lib.hid (HO.out.fr f3 (by simp))
        have HF3 := Lib.hid (HFK.out.trans f3)
        have hc5 := f3.cell_some hc5 (by simp)
        have c21 := f3.cell_some c21 (by simp)
        have hsz3 : w1.heap.size ≤ w3.heap.size := HF3.out.size
        clear f3 hg
        go_wp2_with (at_builtin; refine app_iF _ _ rfl tv rfl (.tmp 16) (.tmp 23) rfl w1.heap.size u3 l rfl HO3.out rfl (by omega) hsz3 ?_; intro v' w6 ho6 hfn; have HF6 := Lib.hid (hfn [] w1 (fun q hq => .inr (HO3.out.block q hq).1) HF3.out); have HO6 := Lib.hid ho6; clear ho6 hfn hc5 c21)
        go_roundw
        case rel => exact ⟨k + 1, by omega, by go_num, by rw [HY.out]; exact HO6.out, HF6.out⟩
        case measure => simp [intOf]; omega
    · obtain rfl : n = k := by omega
      have HP := Lib.hid (HPOST.out _ _ (ho.mono hs1) (HF1.out.trans hf))
      clear ho hf hg
      go_wp2_with fail
      go_ret
      exact HP.out
set_option maxRecDepth 20000 in
set_option maxHeartbeats 4000000 in
theorem rneeds_any (g : Gm) (v2 : Value) (cs : List Int) (w : World) (hok : g.Ok w) (h2 : RdI w v2 cs) (hch : chkE g = 0) (hlen : cs.length = g.tiers.length) (hcs : ∀ i, i < cs.length → 0 ≤ cs.getD i 0 ∧ cs.getD i 0 ≤ 2097152) :
    Calls Try.prog 68 #[g.val, v2] w fun e w' => ∃ v, e = .returned v ∧ OwnI w' w.heap.size 3 v (ndL g.tiers cs) ∧ Fr [] w w' := by
  have h21 : ∀ w b, GmAt w b g → w.cell? ⟨b, 21, none⟩ = some (.slice g.ta g.tiers.length g.tc) := fun w b h => h.cell 21 _ rfl
  have hn12 := (game_len hch).2
  have hvb := vl_bd hch
  have hFX := fun i w' (hi : i < g.tiers.length) (h : Fr [] w w') => fixed_any g i w' (hok.fr h) hi
  have hsl := fun k => selP_len g.tiers true (fun i => vl g.tiers i * cs.getD i 0) k
  have hcl := cntK_le g.tiers true
  have hpost : ∀ v w', OwnI w' w.heap.size 3 v (ndL g.tiers cs) → Fr [] w w' → ∃ v', Ending.returned v = .returned v' ∧ OwnI w' w.heap.size 3 v' (ndL g.tiers cs) ∧ Fr [] w w' := fun v w' h k => ⟨v, rfl, h, k⟩
  unfold ndL at hpost ⊢
  obtain ⟨n, hN⟩ : ∃ n, n = g.tiers.length := ⟨_, rfl⟩
  rw [← hN] at h21 hn12 hFX hpost hvb hlen ⊢
  obtain ⟨a2, c2, rfl, l2, m2, r2⟩ := h2
  rw [hlen] at l2 r2 hcs ⊢
  unfold maxLen at m2
  have HN := Lib.hid hN
  have H21 := Lib.hid h21
  have HOK := Lib.hid hok
  have HFX := Lib.hid hFX
  have HSL := Lib.hid hsl
  have HCL := Lib.hid hcl
  have HPOST := Lib.hid hpost
  have HVB := Lib.hid hvb
  have HCS := Lib.hid hcs
  have HR2 := Lib.hid r2
  clear hN h21 hok hFX hsl hcl hpost hch hvb hcs r2 hlen
  go_enter Try.func68, Try.ntmps68
  go_upto_block 0 with (first | (refine box_game rfl (.tmp 0) rfl g rfl ?_; intro w1 hg1 hz1 hf1) | go_step3)
  have HF1 := Lib.hid hf1
  have HG1 := Lib.hid hg1
  have hs1 : w.heap.size < w1.heap.size := by omega
  clear hg1 hz1 hf1
  go_wp2_with fail
  go_loopw [6, 5] (fun i v wr => ∃ k : Nat, k ≤ n ∧ i = .int .i64 k ∧ OwnI wr w1.heap.size 3 v (selP g.tiers true (fun i => vl g.tiers i * cs.getD i 0) k) ∧ Fr [] w1 wr) (fun i _ _ => n - (intOf i).toNat)
  case atStart => exact ⟨0, by omega, rfl, OwnI.nil _ _ _, Fr.refl _ _⟩
  case round =>
    obtain ⟨k, hk, rfl, ho, hf⟩ := hrel
    have hg := HG1.out.fr hf (by simp)
    have c21 := H21.out _ _ hg
    by_cases hlt : k < n
    · obtain ⟨t, ht⟩ : ∃ t, g.tiers[k]? = some t := ⟨_, List.getElem?_eq_getElem (by have := HN.out; omega)⟩
      obtain ⟨bt, ot, hta, hct⟩ := RdF.at (f := Ti.cells) HOK.out.tiers.rd ht
      have hbt : bt < w.heap.size := lt_of_cell (hct 5 _ rfl)
      have hc5 := (HF1.out.trans hf).cell_some (hct 5 _ rfl) (by simp)
      obtain ⟨b, o, rfl, hcell⟩ := HR2.out k hlt
      have hbw0 : b < w.heap.size := lt_of_cell hcell
      have cc := (HF1.out.trans hf).cell_some hcell (by simp)
      rw [hta] at c21
      have hl1 := HSL.out k
      have hle1 := HCL.out k
      obtain ⟨hkd, hvl⟩ := kd_of ht
      have hfx := HFX.out k wr hlt (HF1.out.trans hf)
      have hyes := @sel_yes g.tiers true (fun i => vl g.tiers i * cs.getD i 0) k
      have hno := @sel_no g.tiers true (fun i => vl g.tiers i * cs.getD i 0) k
      have hkk : isK g.tiers true k = decide (t.kind = 1) := by unfold isK; rw [hkd]; simp
      have hb1 := HVB.out k hlt
      have hb2 := HCS.out k hlt
      rw [hkk] at hyes hno
      rw [hkd] at hfx
      rw [hvl] at hb1
      obtain ⟨tm, tb, te, to_, tk, tv⟩ := t
      simp only at hc5 hfx hkk hvl hyes hno hb1
      rw [hvl] at hyes
      generalize hgc : cs.getD k 0 = c at *
      have hw1 : IntKind.i64.wrap (tv * c) = tv * c := IntWalk.i64_in _ (by have := need_bd hb1.1 hb1.2 hb2.1 hb2.2; omega)
      have hkn : (k : Int) < (n : Int) := by omega
      have hlk : (selP g.tiers true (fun i => vl g.tiers i * cs.getD i 0) k).length ≤ 12 := by rw [hl1]; omega
      have HO := Lib.hid ho
      have HFK := Lib.hid hf
      by_cases h1 : tk = 1
      · obtain ⟨y1, _⟩ := hyes (by simpa using h1)
        rw [show decide (tk = 1) = true by simpa using h1] at hfx
        have HFXX := Lib.hid hfx
        have HY := Lib.hid y1
        clear hyes hno y1 hl1 hle1 hct ht hta hkd hvl hkk hf ho h1 hfx hgc hcell
        generalize selP g.tiers true (fun i => vl g.tiers i * cs.getD i 0) k = l at *
        go_wp2_with (refine load_game rfl (.tmp 2) rfl _ rfl g hg ?_)
        refine HFXX.out.mono ?_
        rintro e w5 ⟨rfl, f3⟩
        have HO5 := Lib.hid (HO.out.fr f3 (by simp))
        have HF5 := Lib.hid (HFK.out.trans f3)
        have hc5 := f3.cell_some hc5 (by simp)
        have c21 := f3.cell_some c21 (by simp)
        have cc := f3.cell_some cc (by simp)
        have hsz5 : w1.heap.size ≤ w5.heap.size := HF5.out.size
        have nb0 : w.heap.size ∉ u5.ownBlock.toList := fun hm => by have := (HO5.out.block w.heap.size (by simpa using hm)).1; omega
        have nb1 : bt ∉ u5.ownBlock.toList := fun hm => by have := (HO5.out.block bt (by simpa using hm)).1; omega
        have nb2 : b ∉ u5.ownBlock.toList := fun hm => by have := (HO5.out.block b (by simpa using hm)).1; omega
        clear f3 hg
        go_wp2_with fail
        refine wp_region_held_drew (S := (fun w' => Fr u5.ownBlock.toList w5 w')) (by kernel_rfl) (Fr.refl _ w5).drew (fun hHeld => ?_)
        refine wpAnyH_take (i := 0) (oi := ⟨some 17, _, _, _, _, _⟩) (v := u5) rfl (by kernel_rfl) (by kernel_rfl) (by kernel_rfl) (fun _ _ _ h => h) (Or.inl ⟨by rfl, ?_⟩) hHeld ?_
        · intro w hSw; (try dsimp only at hSw); go_simp
        (try simp only [Act.put, List.setIfInBounds_toArray, List.set_cons_zero, List.set_cons_succ])
        refine wpAnyH_take (i := 1) (oi := ⟨some 18, _, _, _, _, _⟩) (v := .pointer (some ⟨w.heap.size, 21, none⟩)) rfl (by kernel_rfl) (by kernel_rfl) (by kernel_rfl) (fun _ _ _ h => h) (Or.inl ⟨by rfl, ?_⟩) hHeld ?_
        · intro w hSw; (try dsimp only at hSw); go_simp
        (try simp only [Act.put, List.setIfInBounds_toArray, List.set_cons_zero, List.set_cons_succ])
        refine wpAnyH_take (i := 2) (oi := ⟨some 19, _, _, _, _, _⟩) (v := .slice (some ⟨bt, ot, none⟩) n g.tc) rfl (by kernel_rfl) (by kernel_rfl) (by kernel_rfl) (fun _ _ _ h => h) (Or.inl ⟨by rfl, ?_⟩) hHeld ?_
        · intro w hSw; (try dsimp only at hSw); have hcF := hSw.cell_some c21 nb0; clear hSw; go_simp
        (try simp only [Act.put, List.setIfInBounds_toArray, List.set_cons_zero, List.set_cons_succ])
        refine wpAnyH_take (i := 3) (oi := ⟨some 20, _, _, _, _, _⟩) (v := .int .i64 k) rfl (by kernel_rfl) (by kernel_rfl) (by kernel_rfl) (fun _ _ _ h => h) (Or.inl ⟨by rfl, ?_⟩) hHeld ?_
        · intro w hSw; (try dsimp only at hSw); go_simp
        (try simp only [Act.put, List.setIfInBounds_toArray, List.set_cons_zero, List.set_cons_succ])
        refine wpAnyH_take (i := 4) (oi := ⟨some 21, _, _, _, _, _⟩) (v := .pointer (some ⟨bt, ot + k * 6, none⟩)) rfl (by kernel_rfl) (by kernel_rfl) (by kernel_rfl) (fun _ _ _ h => h) (Or.inl ⟨by rfl, ?_⟩) hHeld ?_
        · intro w hSw; (try dsimp only at hSw); go_simp
        (try simp only [Act.put, List.setIfInBounds_toArray, List.set_cons_zero, List.set_cons_succ])
        refine wpAnyH_take (i := 5) (oi := ⟨some 22, _, _, _, _, _⟩) (v := .pointer (some ⟨bt, ot + k * 6 + 5, none⟩)) rfl (by kernel_rfl) (by kernel_rfl) (by kernel_rfl) (fun _ _ _ h => h) (Or.inl ⟨by rfl, ?_⟩) hHeld ?_
        · intro w hSw; (try dsimp only at hSw); go_simp
        (try simp only [Act.put, List.setIfInBounds_toArray, List.set_cons_zero, List.set_cons_succ])
        refine wpAnyH_take (i := 6) (oi := ⟨some 23, _, _, _, _, _⟩) (v := .int .i64 tv) rfl (by kernel_rfl) (by kernel_rfl) (by kernel_rfl) (fun _ _ _ h => h) (Or.inl ⟨by rfl, ?_⟩) hHeld ?_
        · intro w hSw; (try dsimp only at hSw); have hcF := hSw.cell_some hc5 nb1; clear hSw; go_simp
        (try simp only [Act.put, List.setIfInBounds_toArray, List.set_cons_zero, List.set_cons_succ])
        refine wpAnyH_take (i := 7) (oi := ⟨some 24, _, _, _, _, _⟩) (v := .slice (some ⟨b, o, none⟩) n c2) rfl (by kernel_rfl) (by kernel_rfl) (by kernel_rfl) (fun _ _ _ h => h) (Or.inl ⟨by rfl, ?_⟩) hHeld ?_
        · intro w hSw; (try dsimp only at hSw); go_simp
        (try simp only [Act.put, List.setIfInBounds_toArray, List.set_cons_zero, List.set_cons_succ])
        refine wpAnyH_take (i := 8) (oi := ⟨some 25, _, _, _, _, _⟩) (v := .int .i64 k) rfl (by kernel_rfl) (by kernel_rfl) (by kernel_rfl) (fun _ _ _ h => h) (Or.inl ⟨by rfl, ?_⟩) hHeld ?_
        · intro w hSw; (try dsimp only at hSw); go_simp
        (try simp only [Act.put, List.setIfInBounds_toArray, List.set_cons_zero, List.set_cons_succ])
        refine wpAnyH_take (i := 9) (oi := ⟨some 26, _, _, _, _, _⟩) (v := .pointer (some ⟨b, o + k, none⟩)) rfl (by kernel_rfl) (by kernel_rfl) (by kernel_rfl) (fun _ _ _ h => h) (Or.inl ⟨by rfl, ?_⟩) hHeld ?_
        · intro w hSw; (try dsimp only at hSw); go_simp
        (try simp only [Act.put, List.setIfInBounds_toArray, List.set_cons_zero, List.set_cons_succ])
        refine wpAnyH_take (i := 10) (oi := ⟨some 27, _, _, _, _, _⟩) (v := .int .i64 c) rfl (by kernel_rfl) (by kernel_rfl) (by kernel_rfl) (fun _ _ _ h => h) (Or.inl ⟨by rfl, ?_⟩) hHeld ?_
        · intro w hSw; (try dsimp only at hSw); have hcF := hSw.cell_some cc nb2; clear hSw; go_simp
        (try simp only [Act.put, List.setIfInBounds_toArray, List.set_cons_zero, List.set_cons_succ])
        refine wpAnyH_take (i := 11) (oi := ⟨some 28, _, _, _, _, _⟩) (v := .int .i64 (tv * c)) rfl (by kernel_rfl) (by kernel_rfl) (by kernel_rfl) (fun _ _ _ h => h) (Or.inl ⟨by rfl, ?_⟩) hHeld ?_
        · intro w hSw; (try dsimp only at hSw); go_simp
        (try simp only [Act.put, List.setIfInBounds_toArray, List.set_cons_zero, List.set_cons_succ])
        refine wpAnyH_ready (rs := [12]) (by kernel_rfl) (by simp) ?_
        refine AllReadyH.cons (o := ⟨some 29, _, _, _, _, _⟩) rfl (fun K hK => ?_) AllReadyH.nil
        rw [if_pos (by rfl)]
        go_simp
        have e5 : Fr [] w5 (w5.alloc (.cells #[.int .i64 (tv * c)] 3)).drew := ((Fr.refl [] w5).alloc _).drew
        refine hK.out _ _ (e5.mono (by simp)) (fun hHeld' => ?_)
        clear hK K hHeld
        have hHeld := hHeld'
        clear hHeld'
        (try simp only [Act.put, List.setIfInBounds_toArray, List.set_cons_zero, List.set_cons_succ])
        refine wpAnyH_ready (rs := [13]) (by kernel_rfl) (by simp) ?_
        refine AllReadyH.cons (o := ⟨some 30, _, _, _, _, _⟩) rfl (fun K hK => ?_) AllReadyH.nil
        rw [if_pos (by rfl)]
        refine app_wp w5.drew w5.heap.size rfl (tv * c) (.tmp 17) (.tmp 29) rfl w1.heap.size u5 l rfl (HO5.out.fr (Fr.refl [] _).drew (by simp)) rfl (by omega) hsz5 ?_
        intro v' w6 ho6 hfn
        have hF6 : Fr [] w1 w6 := hfn [] w1 (fun q hq => .inr (HO5.out.block q hq).1) HF5.out.drew
        have hF56 : Fr u5.ownBlock.toList w5 w6 := hfn _ w5 (fun q hq => .inl (by have hq' : u5.ownBlock = some q := hq; rw [hq']; simp)) (Fr.refl _ _).drew
        refine hK.out _ _ (hF56) (fun hHeld' => ?_)
        clear hK K hHeld
        have hHeld := hHeld'
        clear hHeld'
        (try simp only [Act.put, List.setIfInBounds_toArray, List.set_cons_zero, List.set_cons_succ])
        refine wpAnyH_take (i := 14) (oi := ⟨some 5, _, _, _, _, _⟩) (v := v') rfl (by kernel_rfl) (by kernel_rfl) (by kernel_rfl) (fun _ _ _ h => h) (Or.inl ⟨by rfl, ?_⟩) hHeld ?_
        · intro w hSw; (try dsimp only at hSw); go_simp
        (try simp only [Act.put, List.setIfInBounds_toArray, List.set_cons_zero, List.set_cons_succ])
        refine wpAnyH_done (by kernel_rfl) ?_ _
        have HO6 := Lib.hid ho6
        have HF6 := Lib.hid hF6
        clear hc5 c21 cc e5 hfn hF56 hHeld ho6 hF6
        go_wp2_with fail
        go_roundw
        case rel => exact ⟨k + 1, by omega, by go_num, by rw [HY.out]; exact HO6.out, HF6.out⟩
        case measure => simp [intOf]; omega
      · have y1 := hno (by simpa using h1)
        rw [show decide (tk = 1) = false by simpa using h1] at hfx
        have HFXX := Lib.hid hfx
        have HY := Lib.hid y1
        clear hyes hno y1 hl1 hle1 hct ht hta hkd hvl hkk hf ho h1 hfx hgc hcell
        go_wp2_with (refine load_game rfl (.tmp 2) rfl _ rfl g hg ?_)
        refine HFXX.out.mono ?_
        rintro e w3 ⟨rfl, f3⟩
        have HO3 := Lib.hid (HO.out.fr f3 (by simp))
        have HF3 := Lib.hid (HFK.out.trans f3)
        clear f3 hc5 c21 hg cc
        go_wp2_with fail
        go_roundw
        case rel => exact ⟨k + 1, by omega, by go_num, by rw [HY.out]; exact HO3.out, HF3.out⟩
        case measure => simp [intOf]; omega
    · obtain rfl : n = k := by omega
      have HP := Lib.hid (HPOST.out _ _ (ho.mono (by omega)) (HF1.out.trans hf))
      clear ho hf hg
      go_wp2_with fail
      go_ret
      exact HP.out
end Go.Proofs.Ytdinjekpcgndmaa
