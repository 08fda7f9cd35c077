/-
  LAYER 36: the reference's errors of the arguments; values put at the places of their tiers.
-/
import Derived.Test.YtdinjekpcgndmaaRAllocP
set_option linter.unusedVariables false
namespace Go.Proofs.Ytdinjekpcgndmaa
open Go.RowKit
def plF (T : List Ti) (fx : Bool) (l : List Int) (i : Nat) : Int := if isK T fx i = true then l.getD (cntK T fx i) 0 else 0
def plL (T : List Ti) (fx : Bool) (l : List Int) : List Int := upTo (plF T fx l) T.length T.length
theorem plL_len (T : List Ti) (fx : Bool) (l : List Int) : (plL T fx l).length = T.length := upTo_len _ _ _
theorem plL_at {T : List Ti} {fx : Bool} {l : List Int} {i : Nat} (h : i < T.length) : (plL T fx l).getD i 0 = plF T fx l i := by unfold plL; rw [upTo_at _ _ _ _ h, if_pos h]
theorem upTo_skip (f : Nat → Int) (n k : Nat) (h : f k = 0) : upTo f n (k + 1) = upTo f n k := ext_getD (by rw [upTo_len, upTo_len]) fun i hi => by
  rw [upTo_len] at hi
  rw [upTo_at _ _ _ _ hi, upTo_at _ _ _ _ hi]
  by_cases e : i = k
  · subst e; rw [if_pos (by omega), if_neg (by omega), h]
  · by_cases h2 : i < k
    · rw [if_pos (by omega), if_pos h2]
    · rw [if_neg (by omega), if_neg h2]
set_option maxRecDepth 20000 in
set_option maxHeartbeats 4000000 in
theorem place_any (g : Gm) (fx : Bool) (v : Value) (l : List Int) (w : World) (hok : g.Ok w) (hch : chkE g = 0) (hr : RdI w v l) (hl : l.length = cntK g.tiers fx g.tiers.length) :
    Calls Try.prog 72 #[g.val, .bool fx, v] w fun e w' => ∃ u, e = .returned u ∧ OwnI w' w.heap.size 3 u (plL g.tiers fx l) ∧ Fr [] w w' := by
  have h21 : ∀ w b, GmAt w b g → w.cell? ⟨b, 21, none⟩ = some (.slice g.ta g.tiers.length g.tc) := fun w b h => h.cell 21 _ rfl
  have hn12 := game_len hch
  have hFX := fun i w' (hi : i < g.tiers.length) (h : Fr [] w w') => fixed_any g i w' (hok.fr h) hi
  have hcl := cntK_le g.tiers fx
  have hlt0 := fun (k : Nat) (hk : k < g.tiers.length) (h : isK g.tiers fx k = true) => cntK_lt hk h
  have hpost : ∀ v w', OwnI w' w.heap.size 3 v (plL g.tiers fx l) → Fr [] w w' → ∃ v', Ending.returned v = .returned v' ∧ OwnI w' w.heap.size 3 v' (plL g.tiers fx l) ∧ Fr [] w w' := fun v w' h k => ⟨v, rfl, h, k⟩
  have hyes : ∀ k, isK g.tiers fx k = true → plF g.tiers fx l k = l.getD (cntK g.tiers fx k) 0 ∧ cntK g.tiers fx (k + 1) = cntK g.tiers fx k + 1 := fun k h => ⟨by unfold plF; rw [if_pos h], cnt_yes h⟩
  have hno : ∀ k, isK g.tiers fx k = false → plF g.tiers fx l k = 0 ∧ cntK g.tiers fx (k + 1) = cntK g.tiers fx k := fun k h => ⟨by unfold plF; rw [if_neg (by simp [h])], cnt_no h⟩
  obtain ⟨n, hN⟩ : ∃ n, n = g.tiers.length := ⟨_, rfl⟩
  unfold plL at hpost ⊢
  rw [← hN] at h21 hn12 hFX hpost hl hlt0 ⊢
  obtain ⟨a2, c2, rfl, l2, m2, r2⟩ := hr
  unfold maxLen at m2
  rw [hl] at l2 r2 ⊢
  have hmk := fun w => run_make_row' (P := Try.prog) 31 3 (.int .i64 0) 8 Try.underlying31 infoIntS rfl .i64 .i64 n (by omega) (by omega) w
  have HN := Lib.hid hN
  have H21 := Lib.hid h21
  have HFX := Lib.hid hFX
  have HCL := Lib.hid hcl
  have HLT := Lib.hid hlt0
  have HPOST := Lib.hid hpost
  have HYES := Lib.hid hyes
  have HNO := Lib.hid hno
  have HR := Lib.hid r2
  clear hN h21 hok hFX hcl hlt0 hpost hch hyes hno r2 hl
  go_enter Try.func72, Try.ntmps72
  go_upto_region 1 with (refine box_game rfl (.tmp 0) rfl g rfl ?_; intro w1 hg1 hz1 hf1)
  have c21 := H21.out _ _ hg1
  go_upto_block 0 with (fail)
  have ho1 := OwnI.made w1 n 3 (by unfold maxLen; omega)
  have e1 : Fr [] w1 (w1.alloc (.cells (madeCells #[.int .i64 0] n) 3)) := (Fr.refl [] w1).alloc _
  have hg2 := hg1.fr e1 (by simp)
  generalize w1.alloc (.cells (madeCells #[.int .i64 0] n) 3) = w2 at *
  obtain ⟨gP, hgP⟩ : ∃ b, b = w.heap.size + 1 := ⟨_, rfl⟩
  rw [hz1, ← hgP] at ho1
  rw [← hgP]
  rw [← upTo_zero (plF g.tiers fx l)] at ho1
  have HF2 := Lib.hid (hf1.trans e1)
  have HG2 := Lib.hid hg2
  have HO1 := Lib.hid ho1
  have hgw : w.heap.size < gP := by omega
  clear hmk hg1 hz1 hf1 c21 ho1 e1 hg2 hgP
  go_wp2_with fail
  go_loopw [9, 8] (fun i j wr => ∃ k : Nat, k ≤ n ∧ i = .int .i64 k ∧ j = .int .i64 (cntK g.tiers fx k : Nat) ∧ OwnI wr gP 3 (.slice (some ⟨gP, 0, none⟩) n n) (upTo (plF g.tiers fx l) n k) ∧ Fr [gP] w2 wr) (fun i _ _ => n - (intOf i).toNat)
  case atStart => exact ⟨0, by omega, rfl, rfl, HO1.out, Fr.refl _ _⟩
  case round =>
    obtain ⟨k, hk, rfl, rfl, ho, hf⟩ := hrel
    have hg := HG2.out.fr hf (by simp; omega)
    have c21 := H21.out _ _ hg
    have hFw : Fr [] w wr := HF2.out.trans' hf (by intro i hi; simp at hi; right; omega)
    by_cases hlt : k < n
    · have hfx := HFX.out k wr hlt hFw
      have hkk : isK g.tiers fx k = (decide (kd g.tiers k = 1) == fx) := rfl
      have hyes := HYES.out k
      have hno := HNO.out k
      have hltk := HLT.out k hlt
      have hle1 := HCL.out k
      have hle2 := HCL.out (k + 1)
      have hsu := upTo_succ (plF g.tiers fx l) n k hlt
      have hsk := upTo_skip (plF g.tiers fx l) n k
      have hlu := upTo_len (plF g.tiers fx l) n k
      have hkn : (k : Int) < (n : Int) := by omega
      generalize hbb : decide (kd g.tiers k = 1) = bb at *
      have HO := Lib.hid ho
      have HFK := Lib.hid hf
      have HFX2 := Lib.hid hfx
      by_cases h1 : isK g.tiers fx k = true
      · obtain ⟨y1, y2⟩ := hyes h1
        have hc1 := hltk h1
        obtain ⟨b, o, rfl, hcell⟩ := HR.out (cntK g.tiers fx k) hc1
        have hcc := hFw.cell_some hcell (by simp)
        have hbw : b < w.heap.size := lt_of_cell hcell
        rw [← y1] at hcc
        have hbe : (bb == fx) = true := by rw [← hkk]; exact h1
        have co := ho.cell k (by rw [hlu]; exact hlt)
        have fo := ho.frozen k
        have HY2 := Lib.hid y2
        have HSU := Lib.hid hsu
        clear hyes hno hltk hsk hbb hkk h1 y1 y2 hsu ho hf hfx hcell
        generalize plF g.tiers fx l k = x at *
        generalize (upTo (plF g.tiers fx l) n k).getD k 0 = y at *
        generalize cntK g.tiers fx k = c0 at *
        generalize cntK g.tiers fx n = cn at *
        have hc1' : (c0 : Int) < (cn : Int) := by omega
        have hcn : c0 ≤ 12 := by omega
        go_wp2_with (refine load_game rfl (.tmp 3) rfl _ rfl g hg ?_)
        refine HFX2.out.mono ?_
        rintro e w3 ⟨rfl, f3⟩
        have HO3 := Lib.hid (HO.out.fr f3 (by simp))
        have HF3 := Lib.hid (HFK.out.trans (f3.mono (by simp)))
        have hcc := f3.cell_some hcc (by simp)
        have co := f3.cell_some co (by simp)
        have fo : w3.frozen? ⟨gP, k, none⟩ = false := HO3.out.frozen k
        have HSET := Lib.hid (HO3.out.set k x)
        have HFS := Lib.hid (HF3.out.setCell (p := ⟨gP, k, none⟩) (.inl (by simp)) (.int .i64 x))
        clear f3 hg c21 hFw
        go_wp2_with fail
        go_roundw
        case rel => exact ⟨k + 1, by omega, by go_num, by rw [HY2.out]; go_num, by rw [← HSU.out]; exact HSET.out, HFS.out⟩
        case measure => simp [intOf]; omega
      · have h1 : isK g.tiers fx k = false := by simpa using h1
        obtain ⟨y1, y2⟩ := hno h1
        have hbe : (bb == fx) = false := by rw [← hkk]; exact h1
        have HY2 := Lib.hid y2
        have HSK := Lib.hid (hsk y1)
        clear hyes hno hltk hsk hbb hkk h1 y1 y2 hsu ho hf hfx
        generalize cntK g.tiers fx k = c0 at *
        go_wp2_with (refine load_game rfl (.tmp 3) rfl _ rfl g hg ?_)
        refine HFX2.out.mono ?_
        rintro e w3 ⟨rfl, f3⟩
        have HO3 := Lib.hid (HO.out.fr f3 (by simp))
        have HF3 := Lib.hid (HFK.out.trans (f3.mono (by simp)))
        clear f3 hg c21 hFw
        go_wp2_with fail
        go_roundw
        case rel => exact ⟨k + 1, by omega, by go_num, by rw [HY2.out], by rw [HSK.out]; exact HO3.out, HF3.out⟩
        case measure => simp [intOf]; omega
    · obtain rfl : n = k := by omega
      have HP := Lib.hid (HPOST.out _ _ (ho.mono (by omega)) hFw)
      clear ho hf hg hFw
      go_wp2_with fail
      go_ret
      exact HP.out
set_option maxRecDepth 20000 in
set_option maxHeartbeats 4000000 in
theorem rargs_any (g : Gm) (s : Int) (v2 vt : Value) (cs ct : List Int) (cr cl : Int) (w : World) (hok : g.Ok w) (hs : inR s 0 1000000000000 = true) (h2 : RdI w v2 cs) (h3 : RdI w vt ct) :
    Calls Try.prog 67 #[g.val, .int .i64 s, v2, .agg #[vt, .int .i64 cr, .int .i64 cl]] w fun e w' => e = .returned (.int .i64 (agE g.tiers cs ct cr cl)) ∧ Fr [] w w' := by
  have hAM := amount36_any s
  rw [hs] at hAM
  have HAM := Lib.hid hAM
  clear hAM hs
  have hFX := fun i w' (hi : i < g.tiers.length) (h : Fr [] w w') => fixed_any g i w' (hok.fr h) hi
  have h21 : ∀ w b, GmAt w b g → w.cell? ⟨b, 21, none⟩ = some (.slice g.ta g.tiers.length g.tc) := fun w b h => h.cell 21 _ rfl
  have hle := hok.tiers.rd.len.2
  unfold maxLen at hle
  have hE1 := @ag_1 g.tiers cs ct cr cl
  have hE2 := @ag_2 g.tiers cs ct cr cl
  have hE3 := @ag_3 g.tiers cs ct cr cl
  have hE4 := @ag_4 g.tiers cs ct cr cl
  have hE5 := @ag_5 g.tiers cs ct cr cl
  generalize agE g.tiers cs ct cr cl = E at *
  obtain ⟨n, hN⟩ : ∃ n, n = g.tiers.length := ⟨_, rfl⟩
  rw [← hN] at h21 hle hE1 hE2 hE3 hE4 hE5 hFX
  obtain ⟨a2, c2, rfl, l2, m2, r2⟩ := h2
  obtain ⟨a3, c3, rfl, l3, m3, r3⟩ := h3
  have hcn := @cntB_no cs
  have hcy := @cntB_yes cs
  have hkn := @carB_no g.tiers ct
  have hky := @carB_yes g.tiers ct
  obtain ⟨p, hp⟩ : ∃ p, p = cs.length := ⟨_, rfl⟩
  obtain ⟨q, hq⟩ : ∃ q, q = ct.length := ⟨_, rfl⟩
  rw [← hp] at l2 r2 hE1 hE2 hE3 hE4 hE5 hcn hcy ⊢
  rw [← hq] at l3 r3 hE3 hE4 hE5 hkn hky ⊢
  unfold maxLen at m2 m3
  have HE1 := Lib.hid hE1
  have HE2 := Lib.hid hE2
  have HE3 := Lib.hid hE3
  have HE4 := Lib.hid hE4
  have HE5 := Lib.hid hE5
  have HCN := Lib.hid hcn
  have HCY := Lib.hid hcy
  have HKN := Lib.hid hkn
  have HKY := Lib.hid hky
  have HN := Lib.hid hN
  have HFX := Lib.hid hFX
  have H21 := Lib.hid h21
  have HOK := Lib.hid hok
  have HR2 := Lib.hid r2
  have HR3 := Lib.hid r3
  clear hFX hE1 hE2 hE3 hE4 hE5 hcn hcy hkn hky hN h21 hok r2 r3 hp hq
  by_cases hpn : p = n
  · have HP := Lib.hid hpn
    have e1 : ((p : Int) != (n : Int)) = false := by simp; omega
    clear hpn
    go_enter Try.func67, Try.ntmps67
    go_upto_region 3 with (first | (refine box_game rfl (.tmp 0) rfl g rfl ?_; intro w1 hg1 hz1 hf1; have c21 := H21.out _ _ hg1) | (go_at_call 47; refine (HAM.out _).mono ?_; rintro e w' ⟨rfl, rfl⟩))
    have hF2 : Fr [] w (w1.alloc (.cells #[.slice a3 q c3, .int .i64 cr, .int .i64 cl] 43)) := hf1.alloc _
    have d0 : (w1.alloc (.cells #[.slice a3 q c3, .int .i64 cr, .int .i64 cl] 43)).cell? ⟨w.heap.size + 1, 0, none⟩ = some (.slice a3 q c3) := by rw [← hz1, World.cell?_alloc_new]; rfl
    have d1 : (w1.alloc (.cells #[.slice a3 q c3, .int .i64 cr, .int .i64 cl] 43)).cell? ⟨w.heap.size + 1, 1, none⟩ = some (.int .i64 cr) := by rw [← hz1, World.cell?_alloc_new]; rfl
    have d2 : (w1.alloc (.cells #[.slice a3 q c3, .int .i64 cr, .int .i64 cl] 43)).cell? ⟨w.heap.size + 1, 2, none⟩ = some (.int .i64 cl) := by rw [← hz1, World.cell?_alloc_new]; rfl
    have d3 : (w1.alloc (.cells #[.slice a3 q c3, .int .i64 cr, .int .i64 cl] 43)).cell? ⟨w.heap.size, 21, none⟩ = some (.slice g.ta n g.tc) := ((Fr.refl [] w1).alloc _).cell_some c21 (by simp)
    have hg2 := hg1.fr ((Fr.refl [] w1).alloc (.cells #[.slice a3 q c3, .int .i64 cr, .int .i64 cl] 43)) (by simp)
    generalize w1.alloc (.cells #[.slice a3 q c3, .int .i64 cr, .int .i64 cl] 43) = w2 at *
    have HF2 := Lib.hid hF2
    have HG2 := Lib.hid hg2
    clear hg1 hz1 hf1 c21 hF2 hg2
    go_upto_block 0 with (fail)
    go_cut [9] (fun _ wx => cntB cs = true ∧ w2 = wx)
    case first =>
      go_wp2_with fail
      go_loop [9] (fun i => ∃ k : Nat, k ≤ p ∧ i = .int .i64 k ∧ Hid (∀ j, j < k → inR (cs.getD j 0) 0 2097152 = true)) (fun i => p - (intOf i).toNat)
      case atStart => exact ⟨0, by omega, rfl, Lib.hid (fun j hj => by omega)⟩
      case round =>
        obtain ⟨k, hk, rfl, HA⟩ := hrel
        by_cases hlt : k < p
        · obtain ⟨b, o, rfl, hcell⟩ := HR2.out k hlt
          have hc := HF2.out.cell_some hcell (by simp)
          have hkp : (k : Int) < (p : Int) := by omega
          have ha : inR (cs.getD k 0) 0 2097152 = true → ∀ j, j < k + 1 → inR (cs.getD j 0) 0 2097152 = true := fun h j hj => by
            by_cases e : j = k
            · rw [e]; exact h
            · exact HA.out j (by omega)
          have hno := fun h => HE2.out HP.out (HCN.out k hlt h)
          have hy := @inR_yes (cs.getD k 0) 0 2097152
          have hl := @inR_lo (cs.getD k 0) 0 2097152
          have hh := @inR_hi (cs.getD k 0) 0 2097152
          by_cases x1 : cs.getD k 0 < 0
          · have hq := hno (hl x1)
            have hd : decide (cs.getD k 0 < 0) = true := by simpa using x1
            have HQ := Lib.hid hq
            generalize cs.getD k 0 = x at *
            clear ha hno hy hl hh hcell x1 hq
            go_wp2_with fail
            go_ret
            exact ⟨ret_i HQ.out.symm, HF2.out⟩
          · have hd : decide (cs.getD k 0 < 0) = false := by simpa using x1
            by_cases x2 : 2097152 < cs.getD k 0
            · have hq := hno (hh x2)
              have hd2 : decide (2097152 < cs.getD k 0) = true := by simpa using x2
              have HQ := Lib.hid hq
              generalize cs.getD k 0 = x at *
              clear ha hno hy hl hh hcell x1 x2 hq
              go_wp2_with fail
              go_ret
              exact ⟨ret_i HQ.out.symm, HF2.out⟩
            · have hd2 : decide (2097152 < cs.getD k 0) = false := by simpa using x2
              have HB := Lib.hid (ha (hy (by omega) (by omega)))
              generalize hgx : cs.getD k 0 = x at *
              clear ha hno hy hl hh hcell x1 x2 hgx
              go_wp2_with fail
              go_round
              case rel => exact ⟨k + 1, by omega, by go_num, HB⟩
              case measure => simp [intOf]; omega
        · obtain rfl : p = k := by omega
          have HB := Lib.hid (HCY.out HA.out)
          go_wp2_with fail
          go_meet
          exact ⟨HB.out, rfl⟩
    case rest =>
      obtain ⟨hcb, rfl⟩ := hcut
      have HCB := Lib.hid hcb
      clear hcb
      by_cases hqn : q = n
      · have HQN := Lib.hid hqn
        have e2 : ((q : Int) != (n : Int)) = false := by simp; omega
        have hqn2 : (q : Int) = (n : Int) := by omega
        clear hqn
        go_upto_block 2 with (fail)
        go_cut [10] (fun _ wx => carB g.tiers ct = true ∧ Fr [] w2 wx)
        case first =>
          go_wp2_with fail
          go_loopw [10] (fun i wr => ∃ k : Nat, k ≤ q ∧ i = .int .i64 k ∧ Hid (∀ j, j < k → carK g.tiers ct j = true) ∧ Fr [] w2 wr) (fun i _ => q - (intOf i).toNat)
          case atStart => exact ⟨0, by omega, rfl, Lib.hid (fun j hj => by omega), Fr.refl _ _⟩
          case round =>
            obtain ⟨k, hk, rfl, HA, hf⟩ := hrel
            have d0 := hf.cell_some d0 (by simp)
            have d1 := hf.cell_some d1 (by simp)
            have d2 := hf.cell_some d2 (by simp)
            have d3 := hf.cell_some d3 (by simp)
            have hg := HG2.out.fr hf (by simp)
            have HF3 := Lib.hid (HF2.out.trans hf)
            by_cases hlt : k < q
            · obtain ⟨b, o, rfl, hcell⟩ := HR3.out k hlt
              have hc := HF3.out.cell_some hcell (by simp)
              obtain ⟨t, ht⟩ : ∃ t, g.tiers[k]? = some t := ⟨_, List.getElem?_eq_getElem (by have := HN.out; have := HQN.out; omega)⟩
              obtain ⟨bt, ot, hta, hct⟩ := RdF.at (f := Ti.cells) HOK.out.tiers.rd ht
              have c4 := HF3.out.cell_some (hct 4 _ rfl) (by simp)
              rw [hta] at d3
              have hkq : (k : Int) < (q : Int) := by omega
              have hkn : (k : Int) < (n : Int) := by omega
              have hkd := (kd_of ht).1
              have hkn' : k < n := by omega
              have HFK := Lib.hid hf
              have ha : carK g.tiers ct k = true → ∀ j, j < k + 1 → carK g.tiers ct j = true := fun h j hj => by
                by_cases e : j = k
                · rw [e]; exact h
                · exact HA.out j (by omega)
              have hno := fun h => HE4.out HP.out HCB.out HQN.out (HKN.out k hlt h)
              have hK : carK g.tiers ct k = (inR (ct.getD k 0) 0 1000000000000 && (!decide (t.kind = 1) || ct.getD k 0 == 0)) := by
                unfold carK isK; rw [hkd]; simp
              have hv := amount36_any (ct.getD k 0)
              have hfx := HFX.out k wr hkn' HF3.out
              rw [hkd] at hfx
              obtain ⟨tm, tb, te, to_, tk, tv⟩ := t
              simp only at c4 hK hkd hfx
              rw [hK] at ha hno
              generalize hgx : ct.getD k 0 = x at *
              by_cases x1 : inR x 0 1000000000000 = true
              · by_cases x2 : tk = 1
                · by_cases x3 : x = 0
                  · subst x3
                    have HB := Lib.hid (ha (by simp [x1]))
                    rw [x1] at hv
                    have HV := Lib.hid hv
                    rw [show decide (tk = 1) = true by simpa using x2] at hfx
                    have HFXX := Lib.hid hfx
                    clear ha hno hK hv x1 x2 hcell hct ht hta hkd hgx hfx c4 hf
                    go_wp2_with fail
                    refine (HV.out _).mono ?_
                    rintro e w3 ⟨rfl, rfl⟩
                    go_wp2_with (refine load_game_i (.tmp 4) rfl _ rfl g hg rfl ?_)
                    refine HFXX.out.mono ?_
                    rintro e w4 ⟨rfl, f4⟩
                    have hc := f4.cell_some hc (by simp)
                    have d0 := f4.cell_some d0 (by simp)
                    have HF4 := Lib.hid (HFK.out.trans f4)
                    clear f4 hg
                    go_wp2_with fail
                    go_roundw
                    case rel => exact ⟨k + 1, by omega, by go_num, HB, HF4.out⟩
                    case measure => simp [intOf]; omega
                  · have HQ := Lib.hid (hno (by simp [x1, x2, x3]))
                    rw [x1] at hv
                    have HV := Lib.hid hv
                    rw [show decide (tk = 1) = true by simpa using x2] at hfx
                    have HFXX := Lib.hid hfx
                    have e4 : (x != 0) = true := by simpa using x3
                    clear ha hno hK hv x1 x2 x3 hcell hct ht hta hkd hgx hfx c4 hf
                    go_wp2_with fail
                    refine (HV.out _).mono ?_
                    rintro e w3 ⟨rfl, rfl⟩
                    go_wp2_with (refine load_game_i (.tmp 4) rfl _ rfl g hg rfl ?_)
                    refine HFXX.out.mono ?_
                    rintro e w4 ⟨rfl, f4⟩
                    have hc := f4.cell_some hc (by simp)
                    have d0 := f4.cell_some d0 (by simp)
                    have HF4 := Lib.hid (HFK.out.trans f4)
                    clear f4 hg
                    go_wp2_with fail
                    go_ret
                    exact ⟨ret_i HQ.out.symm, HF2.out.trans HF4.out⟩
                · have HB := Lib.hid (ha (by simp [x1, x2]))
                  rw [x1] at hv
                  have HV := Lib.hid hv
                  rw [show decide (tk = 1) = false by simpa using x2] at hfx
                  have HFXX := Lib.hid hfx
                  clear ha hno hK hv x1 x2 hcell hct ht hta hkd hgx hfx c4 hf
                  go_wp2_with fail
                  refine (HV.out _).mono ?_
                  rintro e w3 ⟨rfl, rfl⟩
                  go_wp2_with (refine load_game_i (.tmp 4) rfl _ rfl g hg rfl ?_)
                  refine HFXX.out.mono ?_
                  rintro e w4 ⟨rfl, f4⟩
                  have hc := f4.cell_some hc (by simp)
                  have d0 := f4.cell_some d0 (by simp)
                  have HF4 := Lib.hid (HFK.out.trans f4)
                  clear f4 hg
                  go_wp2_with fail
                  go_roundw
                  case rel => exact ⟨k + 1, by omega, by go_num, HB, HF4.out⟩
                  case measure => simp [intOf]; omega
              · have x1 : inR x 0 1000000000000 = false := by simpa using x1
                have HQ := Lib.hid (hno (by simp [x1]))
                rw [x1] at hv
                have HV := Lib.hid hv
                clear ha hno hK hv x1 hcell hct ht hta hkd hgx hfx c4 hf
                go_wp2_with fail
                refine (HV.out _).mono ?_
                rintro e w3 ⟨rfl, rfl⟩
                go_wp2_with fail
                go_ret
                exact ⟨ret_i HQ.out.symm, HF3.out⟩
            · obtain rfl : q = k := by omega
              have HB := Lib.hid (HKY.out HA.out)
              have HFK2 := Lib.hid hf
              clear hf
              go_wp2_with fail
              go_meet
              exact ⟨HB.out, HFK2.out⟩
        case rest =>
          obtain ⟨hkb, hf⟩ := hcut
          obtain ⟨x2', rfl⟩ : ∃ x : World, x = wc := ⟨_, rfl⟩
          have d1 := hf.cell_some d1 (by simp)
          have d2 := hf.cell_some d2 (by simp)
          have HF5 := Lib.hid (HF2.out.trans hf)
          clear hf
          have hE := HE5.out HP.out HCB.out HQN.out hkb
          have hv := amount36_any cr
          have hlo := @inR_lo cl 0 64
          have hhi := @inR_hi cl 0 64
          have hin := @inR_yes cl 0 64
          clear hkb
          by_cases x1 : inR cr 0 1000000000000 = true
          · rw [x1] at hE hv
            have HV := Lib.hid hv
            by_cases x2 : cl < 0
            · rw [hlo x2] at hE
              simp at hE
              have HQ := Lib.hid hE
              have e4 : decide (cl < 0) = true := by simpa using x2
              clear hE hv x1 x2 hlo hhi hin
              go_wp2_with fail
              refine (HV.out _).mono ?_
              rintro e w3 ⟨rfl, rfl⟩
              go_wp2_with fail
              go_ret
              exact ⟨ret_i HQ.out.symm, HF5.out⟩
            · have e4 : decide (cl < 0) = false := by simpa using x2
              by_cases x3 : 64 < cl
              · rw [hhi x3] at hE
                simp at hE
                have HQ := Lib.hid hE
                have e5 : decide (64 < cl) = true := by simpa using x3
                clear hE hv x1 x2 x3 hlo hhi hin
                go_wp2_with fail
                refine (HV.out _).mono ?_
                rintro e w3 ⟨rfl, rfl⟩
                go_wp2_with fail
                go_ret
                exact ⟨ret_i HQ.out.symm, HF5.out⟩
              · rw [hin (by omega) (by omega)] at hE
                simp at hE
                have HQ := Lib.hid hE
                have e5 : decide (64 < cl) = false := by simpa using x3
                clear hE hv x1 x2 x3 hlo hhi hin
                go_wp2_with fail
                refine (HV.out _).mono ?_
                rintro e w3 ⟨rfl, rfl⟩
                go_wp2_with fail
                go_ret
                exact ⟨ret_i HQ.out.symm, HF5.out⟩
          · have x1 : inR cr 0 1000000000000 = false := by simpa using x1
            rw [x1] at hE hv
            simp at hE
            have HQ := Lib.hid hE
            have HV := Lib.hid hv
            clear hE hv x1 hlo hhi hin
            go_wp2_with fail
            refine (HV.out _).mono ?_
            rintro e w3 ⟨rfl, rfl⟩
            go_wp2_with fail
            go_ret
            exact ⟨ret_i HQ.out.symm, HF5.out⟩
      · have HQ := Lib.hid (HE3.out HP.out HCB.out hqn)
        have e2 : ((q : Int) != (n : Int)) = true := by simp; omega
        clear hqn
        go_wp2_with fail
        go_ret
        exact ⟨ret_i HQ.out.symm, HF2.out⟩
  · have hq := HE1.out hpn
    subst hq
    have e1 : ((p : Int) != (n : Int)) = true := by simp; omega
    clear hpn
    go_enter Try.func67, Try.ntmps67
    go_wp2_with (first | (refine box_game rfl (.tmp 0) rfl g rfl ?_; intro w1 hg1 hz1 hf1; have c21 := H21.out _ _ hg1) | (go_at_call 47; refine (HAM.out _).mono ?_; rintro e w' ⟨rfl, rfl⟩))
    go_ret
    exact ⟨rfl, hf1.alloc _⟩
end Go.Proofs.Ytdinjekpcgndmaa
