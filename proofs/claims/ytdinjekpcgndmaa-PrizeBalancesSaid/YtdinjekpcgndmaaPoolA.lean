/-
  LAYER 36: Allocate.
-/
import Derived.Test.YtdinjekpcgndmaaPoolW
set_option linter.unusedVariables false
namespace Go.Proofs.Ytdinjekpcgndmaa
open Go.RowKit
theorem drop_cons {l : List Int} {m : Nat} (h : m < l.length) : l.drop m = l.getD m 0 :: l.drop (m + 1) := by
  rw [List.drop_eq_getElem_cons h]
  simp [List.getD, h]
theorem pdL_len {T : List Ti} {cs : List Int} {av : Int} (h : ovN T cs av = true → spE av (ndL T cs) = 0) : (pdL T cs av).length = cntK T true T.length := by
  unfold pdL
  split
  · rename_i ho; rw [spL_len (h ho), ndL_len]
  · exact ndL_len T cs
theorem hiB_yes {l : List Int} {k : Nat} (hk : k < l.length) (h : 1000000000000 < l.getD k 0) : hiB l = true := by
  unfold hiB; rw [List.any_eq_true]
  exact ⟨l[k], List.getElem_mem hk, by simpa [List.getD, hk] using h⟩
theorem hiB_no {l : List Int} (h : ∀ k, k < l.length → l.getD k 0 ≤ 1000000000000) : hiB l = false := by
  cases hb : hiB l
  · rfl
  · unfold hiB at hb; rw [List.any_eq_true] at hb
    obtain ⟨x, hx, hd⟩ := hb
    obtain ⟨k, hk, rfl⟩ := List.getElem_of_mem hx
    have := h k hk
    simp [List.getD, hk] at this
    simp at hd; omega
theorem take_snoc' {l : List Int} {k : Nat} (h : k < l.length) : l.take (k + 1) = l.take k ++ [l.getD k 0] := by
  rw [List.take_add_one]; simp [List.getD, h]
theorem cnt_yes {T : List Ti} {fx : Bool} {k : Nat} (h : isK T fx k = true) : cntK T fx (k + 1) = cntK T fx k + 1 := by rw [cntK, if_pos h]
theorem cnt_no {T : List Ti} {fx : Bool} {k : Nat} (h : isK T fx k = false) : cntK T fx (k + 1) = cntK T fx k := by rw [cntK, if_neg (by simp [h])]
set_option maxRecDepth 100000 in
set_option maxHeartbeats 8000000 in
theorem alloc_any (g : Gm) (s : Int) (v2 vt : Value) (cs ct : List Int) (cr cl : Int) (w : World) (hok : g.Ok w) (h2 : RdI w v2 cs) (h3 : RdI w vt ct) :
    Calls Try.prog 28 #[g.val, .int .i64 s, v2, .agg #[vt, .int .i64 cr, .int .i64 cl]] w (AlPost g s cs ct cr cl w) := by
  have hFU := fun w' (h : Fr [] w w') => fund_any g s w' (hok.fr h)
  have hPC := fun w' (h : Fr [] w w') => pchk_any g v2 vt cs ct cr cl w' (hok.fr h) (h2.below h) (h3.below h)
  unfold FuPost at hFU
  have hE1 := @alE_1 g s cs ct cr cl
  have hE2 := @alE_2 g s cs ct cr cl
  have hE3 := @alE_3 g s cs ct cr cl
  have hE4 := @alE_4 g s cs ct cr cl
  have hER := fun E h h0 => @al_err g s cs ct cr cl E h h0 w
  have HFU := Lib.hid hFU
  have HPC := Lib.hid hPC
  have HER := Lib.hid hER
  obtain ⟨a2, c2, rfl, l2, m2, r2⟩ := h2
  obtain ⟨a3, c3, rfl, l3, m3, r3⟩ := h3
  by_cases h0 : fuE g s = 0
  · obtain ⟨hch, hs01, hB0, hBA, hAs⟩ := fuE_facts h0
    have hNE := fun x (h : Fr [] w x) (hag : agE g.tiers cs ct cr cl = 0) => needs_any g (.slice a2 cs.length c2) cs x (hok.fr h) (RdI.below ⟨a2, c2, rfl, l2, m2, r2⟩ h) hch (agE_facts hag).1 (agE_facts hag).2.1
    have hDI := fun rest x (h : Fr [] w x) (h1 : 0 ≤ rest) (h2 : rest ≤ 1000000000000) => divide_any g rest x (hok.fr h) hch h1 h2
    have hag := @agE_facts g.tiers cs ct cr cl
    have hOK := fun h => @al_ok g s cs ct cr cl h w
    rw [h0] at hFU
    have hER2 := fun h => HER.out _ (hE2 h0 h) h
    have hER3 := fun h h' => HER.out _ (hE3 h0 h h') (by omega)
    have HER9 := Lib.hid (fun h => HER.out 9 h (by omega))
    have hE4' := hE4 h0
    have HFU := Lib.hid hFU
    have HNE := Lib.hid hNE
    have HDI := Lib.hid hDI
    have HAG := Lib.hid hag
    have HER2 := Lib.hid hER2
    have HER3 := Lib.hid hER3
    have HE4 := Lib.hid hE4'
    have HOK := Lib.hid hOK
    have HCH := Lib.hid hch
    have HOKG := Lib.hid hok
    have hlc : ct.length ≤ c3 := l3
    clear hFU hPC hE1 hE2 hE3 hE4 hER hag hOK hER2 hER3 hE4' hNE hDI h0 hok hch
    generalize hgA : fuA g s = A at *
    generalize hgB : fuB g s = B at *
    have HGA := Lib.hid hgA
    have HGB := Lib.hid hgB
    have HR2 := Lib.hid r2
    have HR3 := Lib.hid r3
    have HL2 := Lib.hid l2
    have HM2 := Lib.hid m2
    have HM3 := Lib.hid m3
    clear hgA hgB r2 r3 l2 m2 m3
    go_enter Try.func28, Try.ntmps28
    go_upto_region 1 with (refine box_game rfl (.tmp 0) rfl g rfl ?_; intro w1 hg1 hz1 hf1)
    have hM := alM_start (vt := .slice a3 ct.length c3) (cr := cr) (cl := cl) (T1 := 43) (T2 := 45) hg1 hz1 hf1
    simp only [Nat.add_assoc, Nat.reduceAdd]
    generalize World.alloc _ _ = x at hM ⊢
    clear hg1 hz1 hf1
    have hg := hM.hg
    go_wp2_with (refine load_game rfl (.tmp 4) rfl _ rfl g hg ?_)
    refine (HFU.out _ hM.fr).mono ?_
    rintro e x2 ⟨rfl, f2⟩
    have hM2 := hM.go f2 (by simp)
    have hg2 := hM2.hg
    have k0 := hM2.c0
    have k1 := hM2.c1
    have k2 := hM2.c2
    clear hg hM f2 HFU
    go_wp2_with (refine load_game rfl (.tmp 4) rfl _ rfl g hg2 ?_)
    refine (HPC.out _ hM2.fr).mono ?_
    rintro e x3 ⟨rfl, f3⟩
    have hM3 := hM2.go f3 (by simp)
    clear hM2 hg2 k0 k1 k2 f3 HPC
    by_cases ha : agE g.tiers cs ct cr cl = 0
    · have HAF := Lib.hid (HAG.out ha)
      have HA := Lib.hid ha
      rw [ha]
      clear ha
      have hg3 := hM3.hg
      have hNE := HNE.out _ hM3.fr HA.out
      have HNE2 := Lib.hid hNE
      clear HNE hNE HER HER2 HAG
      go_wp2_with (refine load_game rfl (.tmp 4) rfl _ rfl g hg3 ?_)
      refine HNE2.out.mono ?_
      rintro e x4 ⟨vn, rfl, ho4, f4⟩
      obtain ⟨an, cn, rfl, hcn1, hcn2⟩ := ho4.any
      have hM3s := hM3.size
      have hM4 := hM3.go f4 (by simp)
      clear hM3 f4 hg3
      go_upto_region 8 with (fail)
      have hM5 := hM4.go ((Fr.refl [] x4).alloc (.cells #[.slice an (ndL g.tiers cs).length cn] 31)) (by simp)
      have cN : (x4.alloc (.cells #[.slice an (ndL g.tiers cs).length cn] 31)).cell? ⟨x4.heap.size, 0, none⟩ = some (.slice an (ndL g.tiers cs).length cn) := by rw [World.cell?_alloc_new]; rfl
      have fN : (x4.alloc (.cells #[.slice an (ndL g.tiers cs).length cn] 31)).frozen? ⟨x4.heap.size, 0, none⟩ = false := World.frozen?_alloc_new _ _ _ _
      have ho5 := (ho4.fr ((Fr.refl [] x4).alloc (.cells #[.slice an (ndL g.tiers cs).length cn] 31)) (by simp)).mono (show w.heap.size + 3 ≤ x3.heap.size by have := hM4.size; have := hM3s; omega)
      have hzN : x4.heap.size < (x4.alloc (.cells #[.slice an (ndL g.tiers cs).length cn] 31)).heap.size := by simp
      have hown : ∀ k, (Value.slice an (ndL g.tiers cs).length cn).ownBlock = some k → k < x4.heap.size := fun k hk => (ho4.block k hk).2
      have hbN := hM4.size
      generalize x4.alloc (.cells #[.slice an (ndL g.tiers cs).length cn] 31) = x5 at *
      generalize x4.heap.size = bN at *
      have HOW := Lib.hid hown
      have HO5 := Lib.hid ho5
      clear hM4 ho4 ho5 hown hM3s
      have c1 := hM5.c1
      have hF0 := HAF.out.2.2.2.2.1.1
      have hF1 := HAF.out.2.2.2.2.1.2
      by_cases hov : 1000000000000 < spT (ndL g.tiers cs) ∨ 1000000000000 < A + cr
      · have hR := HER3.out HA.out hov
        have HR := Lib.hid hR
        have r0 := hM5.r0
        have r1 := hM5.r1
        have r2' := hM5.r2
        have r3' := hM5.r3
        have f0 := hM5.f0
        have f1 := hM5.f1
        have f2' := hM5.f2
        have f3' := hM5.f3
        have HM5 := Lib.hid hM5
        clear hM5 hR
        generalize spT (ndL g.tiers cs) = S0 at *
        by_cases hv1 : 1000000000000 < S0
        · have d1 : decide (1000000000000 < S0) = true := by simpa using hv1
          clear hov hv1
          go_wp2_with fail
          obtain ⟨k0, k1, k2, k3⟩ := cells4 r0 r1 r2' r3' (.int .i64 0) (.int .i64 0) (.int .i64 0) (.slice none 0 0)
          exact bodyPost_ret (v := .tuple #[.agg #[.int .i64 0, .int .i64 0, .int .i64 0, .slice none 0 0], .int .i64 9]) (by simp [results, Try.results28, go_sem, k0, k1, k2, k3]) rfl (HR.out _ (HM5.out.put4 _ _ _ _))
        · have d1 : decide (1000000000000 < S0) = false := by simpa using hv1
          have hv2 : 1000000000000 < A + cr := by omega
          have d2 : decide (1000000000000 < A + cr) = true := by simpa using hv2
          clear hov hv1
          go_wp2_with fail
          obtain ⟨k0, k1, k2, k3⟩ := cells4 r0 r1 r2' r3' (.int .i64 0) (.int .i64 0) (.int .i64 0) (.slice none 0 0)
          exact bodyPost_ret (v := .tuple #[.agg #[.int .i64 0, .int .i64 0, .int .i64 0, .slice none 0 0], .int .i64 9]) (by simp [results, Try.results28, go_sem, k0, k1, k2, k3]) rfl (HR.out _ (HM5.out.put4 _ _ _ _))
      · have hE4 := HE4.out HA.out hov
        have d1 : decide (1000000000000 < spT (ndL g.tiers cs)) = false := by simp; omega
        have d2 : decide (1000000000000 < A + cr) = false := by simp; omega
        have hsp : ∀ (ho : ovN g.tiers cs (A + cr) = true), spE (A + cr) (ndL g.tiers cs) = 0 := fun ho => nd_split HCH.out HAF.out.1 HAF.out.2.1 (by omega) (by omega) (by omega) ho
        have HSP := Lib.hid hsp
        have HPL := Lib.hid (pdL_len hsp)
        have HE := Lib.hid hE4
        clear hE4 hsp HER3 HE4
        have hpd1 : ovN g.tiers cs (A + cr) = true → pdL g.tiers cs (A + cr) = spL (A + cr) (ndL g.tiers cs) ∧ pdS g.tiers cs (A + cr) = A + cr := fun h => by unfold pdL pdS; rw [if_pos h, if_pos h]; exact ⟨rfl, rfl⟩
        have hpd2 : ovN g.tiers cs (A + cr) = false → pdL g.tiers cs (A + cr) = ndL g.tiers cs ∧ pdS g.tiers cs (A + cr) = spT (ndL g.tiers cs) := fun h => by unfold pdL pdS; rw [if_neg (by simp [h]), if_neg (by simp [h])]; exact ⟨rfl, rfl⟩
        have hnl : (ndL g.tiers cs).length ≤ 20 := by
          rw [ndL_len]; have := cntK_le g.tiers true g.tiers.length; have := (game_len HCH.out).2; omega
        have hS0 := (spT_nonneg (fun x hx => (nd_bd HCH.out HAF.out.1 HAF.out.2.1 x hx).1)).1
        have HPD1 := Lib.hid hpd1
        have HPD2 := Lib.hid hpd2
        have HNL := Lib.hid hnl
        have hbS : 0 ≤ pdS g.tiers cs (A + cr) ∧ pdS g.tiers cs (A + cr) ≤ 1000000000000 := by
          cases hh : ovN g.tiers cs (A + cr)
          · rw [(hpd2 hh).2]; omega
          · rw [(hpd1 hh).2]; omega
        clear hpd1 hpd2 hnl hov
        go_upto_if 64 with (fail)
        go_cut [15] (fun sm wx => sm = .int .i64 (pdS g.tiers cs (A + cr)) ∧ ∃ vp, wx.cell? ⟨bN, 0, none⟩ = some vp ∧ wx.frozen? ⟨bN, 0, none⟩ = false ∧ OwnI wx (w.heap.size + 3) 3 vp (pdL g.tiers cs (A + cr)) ∧ AlM g (.slice a3 ct.length c3) cr cl w wx ∧ (∀ k, vp.ownBlock = some k → k ≠ bN))
        case first =>
          by_cases hov : A + cr < spT (ndL g.tiers cs)
          · have hb : ovN g.tiers cs (A + cr) = true := by unfold ovN; simpa using hov
            have hE0 := HSP.out hb
            have hS := split_any (A + cr) _ (ndL g.tiers cs) x5 HO5.out.rd HNL.out
            unfold SpPost at hS
            obtain ⟨p1, p2⟩ := HPD1.out hb
            rw [hE0, ← p1] at hS
            have HS := Lib.hid hS
            have HP2 := Lib.hid p2
            have d3 : decide (A + cr < spT (ndL g.tiers cs)) = true := by simpa using hov
            have hz5 := hM5.size
            have HM5 := Lib.hid hM5
            clear hM5 hE0 hS p1 p2 hov
            rw [d3]
            go_wp2_with fail
            refine HS.out.mono ?_
            rintro e x6 ⟨vp, rfl, ho6, f6⟩
            have hown6 : ∀ k, vp.ownBlock = some k → x5.heap.size ≤ k := fun k hk => (ho6.block k hk).1
            obtain ⟨ap, cp, rfl, hcp1, hcp2⟩ := ho6.any
            have hM6 := HM5.out.go f6 (by simp)
            have cN6 := f6.cell_some cN (by simp)
            have fN6 : x6.frozen? ⟨bN, 0, none⟩ = false := by rw [f6.frozen hzN (by simp)]; exact fN
            have c16 := hM6.c1
            have e6 : ∀ v : Value, Fr [bN] x6 (x6.setCell ⟨bN, 0, none⟩ v) := fun v => (Fr.refl _ _).setCell (.inl (by simp)) _
            have HM6 := Lib.hid (fun v => hM6.go (e6 v) (by simp; omega))
            have HO6 := Lib.hid (fun v => (ho6.fr (e6 v) (fun k hk => by have := hown6 k hk; simp; omega)).mono (show w.heap.size + 3 ≤ x5.heap.size from hz5))
            have HC6 := Lib.hid (fun v => World.cell?_setCell_same (v := v) x6 ⟨bN, 0, none⟩ cN6)
            have HOWN := Lib.hid hown6
            clear hM6 ho6 f6 hown6 e6 HM5
            go_wp2_with fail
            go_meet
            exact ⟨by rw [HP2.out], _, HC6.out _, by rw [World.frozen?_setCell]; exact fN6, HO6.out _, HM6.out _, fun k hk => by have := HOWN.out k hk; omega⟩
          · have hb : ovN g.tiers cs (A + cr) = false := by unfold ovN; simpa using hov
            obtain ⟨p1, p2⟩ := HPD2.out hb
            have HP1 := Lib.hid p1
            have HP2 := Lib.hid p2
            have d3 : decide (A + cr < spT (ndL g.tiers cs)) = false := by simpa using hov
            have HM5 := Lib.hid hM5
            clear hM5 p1 p2 hov
            rw [d3]
            go_wp2_with fail
            go_meet
            exact ⟨by rw [HP2.out], _, cN, fN, by rw [HP1.out]; exact HO5.out, HM5.out, fun k hk => by have := HOW.out k hk; omega⟩
        case rest =>
          obtain ⟨rfl, vp, cN6, fN6, ho6, hM6, hne6⟩ := hcut
          obtain ⟨x6, rfl⟩ : ∃ x6 : World, x6 = wc := ⟨_, rfl⟩
          clear cN fN hM5 c1 hzN HO5 HOW HSP HPD1 HPD2 HNL d1 d2 hS0 hF0 hF1
          have hrs : rsT g.tiers cs A B cr = max 0 (A - B - pdS g.tiers cs (A + cr)) := rfl
          have halr : alR g s cs cr = if dvB g.tiers = true then B else B + rsT g.tiers cs A B cr := by unfold alR; rw [HGA.out, HGB.out]
          generalize hgS : pdS g.tiers cs (A + cr) = S at *
          have HGS := Lib.hid hgS
          clear hgS
          obtain ⟨R, hR⟩ : ∃ R, R = rsT g.tiers cs A B cr := ⟨_, rfl⟩
          rw [← hR] at hrs halr
          have hR0 : 0 ≤ R := by omega
          have hR1 : R ≤ 1000000000000 := by omega
          have HRS := Lib.hid hrs
          have HALR := Lib.hid halr
          have HR := Lib.hid hR
          clear hrs halr hR
          go_upto_region 15 with (fail)
          go_cut [16] (fun r wx => r = .int .i64 R ∧ x6 = wx)
          case first =>
            by_cases hp : 0 ≤ A - B - S
            · have he : R = A - B - S := by have := HRS.out; omega
              have d1 : decide (0 < A - B - S) = true ∨ A - B - S = 0 := by by_cases h : 0 < A - B - S; exact .inl (by simpa using h); exact .inr (by omega)
              have HE1 := Lib.hid he
              clear he
              go_wp2_with fail
              all_goals
                go_meet
                exact ⟨by rw [HE1.out]; congr 1; omega, rfl⟩
            · have he : R = 0 := by have := HRS.out; omega
              have HE1 := Lib.hid he
              clear he
              go_wp2_with fail
              all_goals
                go_meet
                exact ⟨by rw [HE1.out]; congr 1; omega, rfl⟩
          case rest =>
            obtain ⟨rfl, rfl⟩ := hcut
            have hg6 := hM6.hg
            have hDI := HDI.out R x6 hM6.fr hR0 hR1
            have HD := Lib.hid hDI
            clear hDI HDI
            go_wp2_with (refine load_game rfl (.tmp 4) rfl _ rfl g hg6 ?_)
            refine HD.out.mono ?_
            rintro e x7 ⟨vs, rfl, ho7, f7⟩
            obtain ⟨gN, rN6, gNo⟩ := ho6.rdb2
            obtain ⟨gP, rP7, gPo⟩ := ho7.rdb2
            have z6 := hM6.size
            have gN1 : gN < x6.heap.size ∧ gN ≠ bN := by
              rcases gNo with h | h
              · omega
              · exact ⟨(ho6.block gN h).2, hne6 gN h⟩
            have z7 := f7.size
            have bN6 := lt_of_cell cN6
            have bN6 : bN < x6.heap.size := bN6
            have gP1 : gP < x7.heap.size ∧ gP ≠ bN := by
              rcases gPo with h | h
              · omega
              · have := ho7.block gP h; omega
            obtain ⟨asl, c7, rfl, hcs1, hcs2⟩ := ho7.any
            have hM7 := hM6.go f7 (by simp)
            have cN7 := f7.cell_some cN6 (by simp)
            have fN7 : x7.frozen? ⟨bN, 0, none⟩ = false := by rw [f7.frozen bN6 (by simp)]; exact fN6
            have rN7 := rN6.fr f7 (by simp)
            clear hM6 cN6 fN6 ho6 hne6 hg6 rN6 gNo gPo f7 ho7 HD
            go_upto_region 17 with (fail)
            have e8 : Fr [] x7 (x7.alloc (.cells #[.slice asl (shL g.tiers R).length c7] 31)) := (Fr.refl [] x7).alloc _
            have cP8 : (x7.alloc (.cells #[.slice asl (shL g.tiers R).length c7] 31)).cell? ⟨x7.heap.size, 0, none⟩ = some (.slice asl (shL g.tiers R).length c7) := by rw [World.cell?_alloc_new]; rfl
            have fP8 : (x7.alloc (.cells #[.slice asl (shL g.tiers R).length c7] 31)).frozen? ⟨x7.heap.size, 0, none⟩ = false := World.frozen?_alloc_new _ _ _ _
            have z8 : (x7.alloc (.cells #[.slice asl (shL g.tiers R).length c7] 31)).heap.size = x7.heap.size + 1 := by simp
            generalize x7.alloc (.cells #[.slice asl (shL g.tiers R).length c7] 31) = x8 at *
            have hM8 := hM7.go e8 (by simp)
            have cN8 := e8.cell_some cN7 (by simp)
            have fN8 : x8.frozen? ⟨bN, 0, none⟩ = false := by rw [e8.frozen (show bN < _ by omega) (by simp)]; exact fN7
            have rN8 := rN7.fr e8 (by simp)
            have rP8 := rP7.fr e8 (by simp)
            generalize x7.heap.size = bP at *
            clear hM7 cN7 fN7 rN7 rP7 e8
            obtain ⟨d, hd⟩ : ∃ d, d = dvB g.tiers := ⟨_, rfl⟩
            rw [← hd]
            obtain ⟨B', hB'⟩ : ∃ B', B' = alR g s cs cr := ⟨_, rfl⟩
            have halr2 := HALR.out
            rw [← hd, ← hB'] at halr2
            have HD := Lib.hid hd
            have HBB := Lib.hid hB'
            have HALR2 := Lib.hid halr2
            clear hd hB' halr2 HALR
            go_upto_if 100 with (fail)
            go_cut [11] (fun b wx => b = .int .i64 B' ∧ x8 = wx)
            case first =>
              cases d
              · have he : B' = B + R := by have := HALR2.out; simpa using this
                have HE1 := Lib.hid he
                clear he
                go_wp2_with fail
                go_meet
                exact ⟨by rw [HE1.out], rfl⟩
              · have he : B' = B := by have := HALR2.out; simpa using this
                have HE1 := Lib.hid he
                clear he
                go_wp2_with fail
                go_meet
                exact ⟨by rw [HE1.out], rfl⟩
            case rest =>
              obtain ⟨rfl, rfl⟩ := hcut
              clear HALR2
              go_upto_region 22 with (fail)
              have e9 : Fr [] x8 (x8.alloc (.cells #[.int .i64 s, .int .i64 A, .int .i64 B', .slice none 0 0] 45)) := (Fr.refl [] x8).alloc _
              have hB : AlB w (bP + 2) bN bP (bP + 1) gN gP := ⟨by omega, by omega, by omega, by omega, by omega, by omega⟩
              have hz9 : (x8.alloc (.cells #[.int .i64 s, .int .i64 A, .int .i64 B', .slice none 0 0] 45)).heap.size = bP + 2 := by simp; omega
              have hW : AlW g (.slice a3 ct.length c3) cr cl w (bP + 2) bN bP (bP + 1) gN gP s A B' vp (.slice asl (shL g.tiers R).length c7) (.slice none 0 0) (pdL g.tiers cs (A + cr)) (shL g.tiers R) [] (x8.alloc (.cells #[.int .i64 s, .int .i64 A, .int .i64 B', .slice none 0 0] 45)) :=
                ⟨hM8.go e9 (by simp), by omega, e9.cell_some cN8 (by simp), by rw [e9.frozen (show bN < _ by omega) (by simp)]; exact fN8, rN8.fr e9 (by simp), e9.cell_some cP8 (by simp), by rw [e9.frozen (show bP < _ by omega) (by simp)]; exact fP8, rP8.fr e9 (by simp),
                 new_cell z8 rfl, new_cell z8 rfl, new_cell z8 rfl, new_cell z8 rfl, by rw [← z8]; exact World.frozen?_alloc_new _ _ _ _, OwnI.nil _ _ _⟩
              generalize x8.alloc (.cells #[.int .i64 s, .int .i64 A, .int .i64 B', .slice none 0 0] 45) = x9 at *
              have c21 := hW.hM.hg.cell 21 _ rfl
              have htn := (game_len HCH.out).2
              have HW0 := Lib.hid hW
              have HB := Lib.hid hB
              clear hM8 cN8 fN8 rN8 cP8 fP8 rP8 e9 hz9 z8 hW hB gN1 gP1 bN6 z6 z7 hcs1 hcs2 hbS
              obtain ⟨n, hn⟩ : ∃ n, n = g.tiers.length := ⟨_, rfl⟩
              rw [← hn] at c21 htn
              have HN := Lib.hid hn
              clear hn
              obtain ⟨base, hbase⟩ : ∃ base, base = bP + 2 := ⟨_, rfl⟩
              rw [← hbase] at HW0 HB
              have HBASE := Lib.hid hbase
              clear hbase
              have htl := tlL_len g.tiers cs ct A B cr
              have htl2 : (tlL g.tiers cs ct A B cr).length = n := by rw [htl, HN.out]
              have HTL := Lib.hid htl2
              have hslen : dvB g.tiers = true → (shL g.tiers R).length = cntK g.tiers false g.tiers.length := fun h => by
                unfold shL; rw [if_pos h, spL_len (vs_split HCH.out hR0 hR1 h), vsL_len]
              have hsbd : dvB g.tiers = true → ∀ m, m < (shL g.tiers R).length → 0 ≤ (shL g.tiers R).getD m 0 ∧ (shL g.tiers R).getD m 0 ≤ 1000000000000 := fun h m hm => by
                have hv := vs_split HCH.out hR0 hR1 h
                unfold shL at hm ⊢
                rw [if_pos h] at hm ⊢
                rw [spL_len hv] at hm
                have := spL_max hv hm
                exact ⟨spL_nonneg hv hm, by omega⟩
              have HSLEN := Lib.hid hslen
              have HSBD := Lib.hid hsbd
              clear hslen hsbd
              clear htl htl2
              go_wp2_with fail
              go_loopw [111] (fun i wr => ∃ k : Nat, k ≤ n ∧ i = .int .i64 k ∧ (∃ vN vP vT, AlW g (.slice a3 ct.length c3) cr cl w base bN bP (bP + 1) gN gP s A B' vN vP vT ((pdL g.tiers cs (A + cr)).drop (cntK g.tiers true k)) ((shL g.tiers R).drop (cntK g.tiers false k)) ((tlL g.tiers cs ct A B cr).take k) wr) ∧ Hid (∀ j, j < k → (tlL g.tiers cs ct A B cr).getD j 0 ≤ 1000000000000)) (fun i _ => n - (intOf i).toNat)
              case atStart => exact ⟨0, by omega, rfl, ⟨_, _, _, HW0.out⟩, Lib.hid (fun j hj => by omega)⟩
              case round =>
                obtain ⟨k, hk, rfl, ⟨vN, vP, vT, hW⟩, HH⟩ := hrel
                by_cases hlt : k < n
                · obtain ⟨t, ht⟩ : ∃ t, g.tiers[k]? = some t := ⟨_, List.getElem?_eq_getElem (by have := HN.out; omega)⟩
                  obtain ⟨bt, ot, hta, hct⟩ := RdF.at (f := Ti.cells) HOKG.out.tiers.rd ht
                  have hfw := hW.hM.fr
                  have c0 := hfw.cell_some (hct 0 _ rfl) (by simp)
                  have c1 := hfw.cell_some (hct 1 _ rfl) (by simp)
                  have c2' := hfw.cell_some (hct 2 _ rfl) (by simp)
                  have c3' := hfw.cell_some (hct 3 _ rfl) (by simp)
                  have c4 := hfw.cell_some (hct 4 _ rfl) (by simp)
                  have c5 := hfw.cell_some (hct 5 _ rfl) (by simp)
                  rw [Nat.add_zero] at c0
                  obtain ⟨ga, hga⟩ : ∃ ga, g.ta = ga := ⟨_, rfl⟩
                  rw [hga] at hta ⊢
                  subst hta
                  have hkd := (kd_of ht).1
                  have hctl := HAF.out.2.2.1
                  obtain ⟨gc, oc, rfl, hcc⟩ := HR3.out k (by have := HN.out; omega)
                  have hkl : k < ct.length := by have := HN.out; omega
                  have kc := hW.hM.fr.cell_some hcc (by simp)
                  have hcb := HAF.out.2.2.2.1 k hkl
                  obtain ⟨tm, tb, te, to_, tk, tv⟩ := t
                  simp only at c0 c1 c2' c3' c4 c5 hkd
                  have hkn : (k : Int) < (n : Int) := by omega
                  have hkc : (k : Int) < (ct.length : Int) := by omega
                  have h47 : c3 ≤ maxLen := HM3.out
                  unfold maxLen at h47
                  have HW1 := Lib.hid hW
                  clear hfw hct hga hcc hctl
                  go_upto_region 26 with (fail)
                  have e10 : Fr [] wr (wr.alloc (.cells #[.int .i64 tm, .int .i64 tb, .int .i64 te, .int .i64 to_, .int .i64 tk, .int .i64 tv] 40)) := (Fr.refl [] wr).alloc _
                  have hW10 := HW1.out.go HB.out e10 (by simp) _ (HW1.out.oT.fr e10 (by simp))
                  have d4 : (wr.alloc (.cells #[.int .i64 tm, .int .i64 tb, .int .i64 te, .int .i64 to_, .int .i64 tk, .int .i64 tv] 40)).cell? ⟨wr.heap.size, 4, none⟩ = some (.int .i64 tk) := by rw [World.cell?_alloc_new]; rfl
                  have kc10 := e10.cell_some kc (by simp)
                  generalize wr.alloc (.cells #[.int .i64 tm, .int .i64 tb, .int .i64 te, .int .i64 to_, .int .i64 tk, .int .i64 tv] 40) = x10 at *
                  have k0 := hW10.hM.c0
                  have hat := tlL_at (T := g.tiers) (cs := cs) (ct := ct) (F := A) (B := B) (cr := cr) (show k < g.tiers.length by have := HN.out; omega)
                  rw [← HR.out] at hat
                  have hkk : isK g.tiers true k = decide (tk = 1) := by unfold isK; rw [hkd]; simp
                  have hkk2 : isK g.tiers false k = !decide (tk = 1) := by rw [isK_not, hkk]
                  obtain ⟨Y, hY⟩ : ∃ Y, Y = (tlL g.tiers cs ct A B cr).getD k 0 := ⟨_, rfl⟩
                  rw [← hY, hkk] at hat
                  have HY := Lib.hid hY
                  have HAT := Lib.hid hat
                  have HKK := Lib.hid hkk
                  have HKK2 := Lib.hid hkk2
                  have HW10 := Lib.hid hW10
                  have cN10 := hW10.cN
                  have fN10 := hW10.fN
                  have cP10 := hW10.cP
                  have fP10 := hW10.fP
                  clear hY hat hkk hkk2 hW10 hW HW1 c0 c1 c2' c3' c4 c5 ht hkd kc e10 HW0
                  generalize hgX : ct.getD k 0 = X at *
                  have HGX := Lib.hid hgX
                  have hX0 : 0 ≤ X := hcb.1
                  have hX1 : X ≤ 1000000000000 := hcb.2.1
                  clear hgX hcb
                  go_upto_if 123 with (fail)
                  go_cut [23] (fun am wx => am = .int .i64 Y ∧ ∃ vN vP, AlW g (.slice (some ⟨gc, oc, none⟩) ct.length c3) cr cl w base bN bP (bP + 1) gN gP s A B' vN vP vT ((pdL g.tiers cs (A + cr)).drop (cntK g.tiers true (k + 1))) ((shL g.tiers R).drop (cntK g.tiers false (k + 1))) ((tlL g.tiers cs ct A B cr).take k) wx)
                  case first =>
                    by_cases h1 : tk = 1
                    · have ek : (tk == 1) = true := by simpa using h1
                      have hk1 : isK g.tiers true k = true := by rw [HKK.out]; simpa using h1
                      have hk2 : isK g.tiers false k = false := by rw [HKK2.out]; simpa using h1
                      have hm := cntK_lt (T := g.tiers) (fx := true) (i := k) (k := g.tiers.length) (by have := HN.out; omega) hk1
                      rw [← HPL.out] at hm
                      have hdr := drop_cons hm
                      have hyv : Y = (pdL g.tiers cs (A + cr)).getD (cntK g.tiers true k) 0 := by rw [HAT.out, if_pos (by simpa using h1)]
                      have hT := take_any bN gN vN _ _ x10 cN10 (by have := HW10.out.rN; rw [hdr] at this; exact this) fN10
                      rw [← hyv] at hT
                      have hS := HW10.out.setN HB.out hdr
                      rw [← cnt_yes hk1, ← cnt_no hk2] at hS
                      have HT := Lib.hid hT
                      have HS := Lib.hid hS
                      clear hk1 hk2 hm hdr hyv hT hS h1 HW10
                      go_wp2_with fail
                      refine HT.out.mono ?_
                      rintro e x11 ⟨rfl, rfl⟩
                      go_wp2_with fail
                      go_meet
                      exact ⟨rfl, _, _, HS.out⟩
                    · have ek : (tk == 1) = false := by simpa using h1
                      have hk1 : isK g.tiers true k = false := by rw [HKK.out]; simpa using h1
                      have hk2 : isK g.tiers false k = true := by rw [HKK2.out]; simpa using h1
                      have hyv : Y = X + (shL g.tiers R).getD (cntK g.tiers false k) 0 := by rw [HAT.out, if_neg (by simpa using h1)]
                      cases d
                      · have hsh : shL g.tiers R = [] := by unfold shL; rw [if_neg (by simp [← HD.out])]
                        rw [hsh] at hyv
                        have hy2 : Y = X := by rw [hyv]; simp
                        have HY2 := Lib.hid hy2
                        have hW11 := HW10.out
                        rw [← cnt_no hk1] at hW11
                        have hde : (shL g.tiers R).drop (cntK g.tiers false k) = (shL g.tiers R).drop (cntK g.tiers false (k + 1)) := by rw [hsh]; simp
                        rw [hde] at hW11
                        have HW11 := Lib.hid hW11
                        clear hde
                        clear hk1 hk2 hyv h1 HW10 hsh hy2 hW11
                        go_wp2_with fail
                        go_meet
                        exact ⟨by rw [HY2.out], _, _, HW11.out⟩
                      · have hm := cntK_lt (T := g.tiers) (fx := false) (i := k) (k := g.tiers.length) (by have := HN.out; omega) hk2
                        rw [← HSLEN.out HD.out.symm] at hm
                        have hdr := drop_cons hm
                        have hbp := HSBD.out HD.out.symm _ hm
                        have hT := take_any bP gP vP _ _ x10 cP10 (by have := HW10.out.rP; rw [hdr] at this; exact this) fP10
                        have hS := HW10.out.setP HB.out hdr
                        rw [← cnt_yes hk2, ← cnt_no hk1] at hS
                        generalize (shL g.tiers R).getD (cntK g.tiers false k) 0 = p at *
                        have HT := Lib.hid hT
                        have HS := Lib.hid hS
                        have HY2 := Lib.hid hyv
                        obtain ⟨p0, p1⟩ := hbp
                        clear hk1 hk2 hm hdr hyv hT hS h1 HW10
                        go_wp2_with fail
                        refine HT.out.mono ?_
                        rintro e x11 ⟨rfl, rfl⟩
                        go_wp2_with fail
                        go_meet
                        exact ⟨by rw [HY2.out], _, _, HS.out⟩
                  case rest =>
                    obtain ⟨rfl, vN', vP', hW12⟩ := hcut
                    obtain ⟨x12, rfl⟩ : ∃ x12 : World, x12 = wc := ⟨_, rfl⟩
                    by_cases hbig : 1000000000000 < Y
                    · have hyes := hiB_yes (l := tlL g.tiers cs ct A B cr) (k := k) (by rw [HTL.out]; exact hlt) (by rw [← HY.out]; exact hbig)
                      have hE9 := HE.out
                      rw [hyes] at hE9
                      simp only [if_true] at hE9
                      have HR9 := Lib.hid (HER9.out hE9)
                      have d9 : decide (1000000000000 < Y) = true := by simpa using hbig
                      have r0 := hW12.hM.r0
                      have r1 := hW12.hM.r1
                      have r2' := hW12.hM.r2
                      have r3' := hW12.hM.r3
                      have f0 := hW12.hM.f0
                      have f1 := hW12.hM.f1
                      have f2' := hW12.hM.f2
                      have f3' := hW12.hM.f3
                      have HW12 := Lib.hid hW12
                      clear hW12 hyes hE9 hbig
                      go_wp2_with fail
                      obtain ⟨k0, k1, k2, k3⟩ := cells4 r0 r1 r2' r3' (.int .i64 0) (.int .i64 0) (.int .i64 0) (.slice none 0 0)
                      exact bodyPost_ret (v := .tuple #[.agg #[.int .i64 0, .int .i64 0, .int .i64 0, .slice none 0 0], .int .i64 9]) (by simp [results, Try.results28, go_sem, k0, k1, k2, k3]) rfl (HR9.out _ (HW12.out.hM.put4 _ _ _ _))
                    · have d9 : decide (1000000000000 < Y) = false := by simpa using hbig
                      have hts := take_snoc' (l := tlL g.tiers cs ct A B cr) (k := k) (by rw [HTL.out]; exact hlt)
                      rw [← HY.out] at hts
                      have hnx : ∀ j, j < k + 1 → (tlL g.tiers cs ct A B cr).getD j 0 ≤ 1000000000000 := fun j hj => by
                        by_cases e : j = k
                        · rw [e, ← HY.out]; omega
                        · exact HH.out j (by omega)
                      have htk : ((tlL g.tiers cs ct A B cr).take k).length ≤ 1000000000 := by rw [List.length_take]; omega
                      have HTS := Lib.hid hts
                      have HNX := Lib.hid hnx
                      have HTK := Lib.hid htk
                      have q3 := hW12.q3
                      have fR := hW12.fR
                      have hsz12 := hW12.size
                      have HW12 := Lib.hid hW12
                      obtain ⟨aT, cT, hvT, hT1, hT2⟩ := hW12.oT.any
                      clear hW12 hts hnx htk hbig
                      generalize hlT : (tlL g.tiers cs ct A B cr).take k = lT at *
                      have HLT := Lib.hid hlT
                      clear hlT
                      obtain ⟨q, hq⟩ : ∃ q, q = lT.length := ⟨_, rfl⟩
                      rw [← hq] at hvT hT1
                      subst hvT
                      clear hq
                      go_wp2_with (at_builtin; refine app_iF x12 x12.heap.size rfl Y rfl (.tmp 135) (.tmp 137) rfl base (.slice aT q cT) lT rfl HW12.out.oT rfl HTK.out hsz12 ?_; intro v' x13 ho13 hfn; have hF13 : Fr (Value.slice aT q cT).ownBlock.toList x12 x13 := hfn _ x12 (fun i hi => .inl (by rw [hi]; simp)) (Fr.refl _ _); have nb : bP + 1 ∉ (Value.slice aT q cT).ownBlock.toList := (fun hm => by have := HW12.out.oT.block (bP + 1) (by simpa using hm); have := HB.out.r; omega); have q13 := hF13.cell_some q3 nb; have f13 : x13.frozen? ⟨bP + 1, 3, none⟩ = false := (by rw [hF13.frozen (lt_of_cell q3) nb]; exact fR); have HWN := Lib.hid (HW12.out.setT HB.out hF13 ho13); obtain ⟨aV, cV, hvV, _, _⟩ := ho13.any; subst hvV; clear hfn hF13 nb ho13 q3 fR)
                      have hWN := HWN.out
                      rw [List.length_append, List.length_singleton] at hWN
                      exact ⟨⟨k + 1, by omega, by go_num, ⟨_, _, _, by rw [HTS.out]; exact hWN⟩, HNX⟩, by simp [intOf]; omega⟩
                · obtain rfl : n = k := by omega
                  have hno := hiB_no (l := tlL g.tiers cs ct A B cr) (by rw [HTL.out]; exact HH.out)
                  have hE0 := HE.out
                  rw [hno] at hE0
                  simp only [Bool.false_eq_true, if_false] at hE0
                  have hfin := HOK.out hE0
                  rw [← HBB.out] at hfin
                  have HFIN := Lib.hid hfin
                  rw [List.take_of_length_le (by rw [HTL.out]; exact Nat.le_refl _)] at hW
                  obtain ⟨aT, cT, hvT, hT1, hT2⟩ := hW.oT.any
                  rw [HTL.out] at hvT hT1
                  subst hvT
                  have q0 := hW.q0
                  have q1 := hW.q1
                  have q2 := hW.q2
                  have q3 := hW.q3
                  have r0 := hW.hM.r0
                  have r1 := hW.hM.r1
                  have r2' := hW.hM.r2
                  have r3' := hW.hM.r3
                  have f0 := hW.hM.f0
                  have f1 := hW.hM.f1
                  have f2' := hW.hM.f2
                  have f3' := hW.hM.f3
                  have HW := Lib.hid hW
                  clear hW hno hE0 hfin HW0 hk hlt HH
                  generalize tlL g.tiers cs ct A B cr = TL at *
                  go_wp2_with fail
                  obtain ⟨k0, k1, k2, k3⟩ := cells4 r0 r1 r2' r3' (.int .i64 s) (.int .i64 A) (.int .i64 B') (.slice aT n cT)
                  refine bodyPost_ret (v := .tuple #[.agg #[.int .i64 s, .int .i64 A, .int .i64 B', .slice aT n cT], .int .i64 0]) (by simp [results, Try.results28, go_sem, k0, k1, k2, k3]) rfl (HFIN.out _ _ ?_ (HW.out.hM.put4 _ _ _ _))
                  have e4 : Fr [w.heap.size + 2] wr ((((wr.setCell ⟨w.heap.size + 2, 0, none⟩ (.int .i64 s)).setCell ⟨w.heap.size + 2, 1, none⟩ (.int .i64 A)).setCell ⟨w.heap.size + 2, 2, none⟩ (.int .i64 B')).setCell ⟨w.heap.size + 2, 3, none⟩ (.slice aT n cT)) :=
                    ((((Fr.refl _ _).setCell (.inl (by simp)) _).setCell (.inl (by simp)) _).setCell (.inl (by simp)) _).setCell (.inl (by simp)) _
                  have hb9 := HB.out.n
                  exact (HW.out.oT.fr e4 (fun i hi => by have := HW.out.oT.block i hi; simp; omega)).mono (by omega)
    · have hR := HER2.out ha
      have e1 : (agE g.tiers cs ct cr cl != 0) = true := by simpa using ha
      have HR := Lib.hid hR
      have r0 := hM3.r0
      have r1 := hM3.r1
      have r2' := hM3.r2
      have r3' := hM3.r3
      have f0 := hM3.f0
      have f1 := hM3.f1
      have f2' := hM3.f2
      have f3' := hM3.f3
      have HM3 := Lib.hid hM3
      clear hM3 ha hR
      generalize agE g.tiers cs ct cr cl = E at *
      go_wp2_with fail
      obtain ⟨k0, k1, k2, k3⟩ := cells4 r0 r1 r2' r3' (.int .i64 0) (.int .i64 0) (.int .i64 0) (.slice none 0 0)
      exact bodyPost_ret (v := .tuple #[.agg #[.int .i64 0, .int .i64 0, .int .i64 0, .slice none 0 0], .int .i64 E]) (by simp [results, Try.results28, go_sem, k0, k1, k2, k3]) rfl (HR.out _ (HM3.out.put4 _ _ _ _))
  · have hR := HER.out _ (hE1 h0) h0
    have e1 : (fuE g s != 0) = true := by simpa using h0
    have HR := Lib.hid hR
    clear hFU hPC hE1 hE2 hE3 hE4 hER hR h0 hok
    generalize fuE g s = E at *
    generalize fuA g s = A at *
    generalize fuB g s = B at *
    go_enter Try.func28, Try.ntmps28
    go_upto_region 1 with (refine box_game rfl (.tmp 0) rfl g rfl ?_; intro w1 hg1 hz1 hf1)
    have hM := alM_start (vt := .slice a3 ct.length c3) (cr := cr) (cl := cl) (T1 := 43) (T2 := 45) hg1 hz1 hf1
    simp only [Nat.add_assoc, Nat.reduceAdd]
    generalize World.alloc _ _ = x at hM ⊢
    clear hg1 hz1 hf1
    have hg := hM.hg
    go_wp2_with (refine load_game rfl (.tmp 4) rfl _ rfl g hg ?_)
    refine (HFU.out _ hM.fr).mono ?_
    rintro e x2 ⟨rfl, f2⟩
    have hM2 := hM.go f2 (by simp)
    have r0 := hM2.r0
    have r1 := hM2.r1
    have r2' := hM2.r2
    have r3' := hM2.r3
    have f0 := hM2.f0
    have f1 := hM2.f1
    have f2' := hM2.f2
    have f3' := hM2.f3
    have HM2 := Lib.hid hM2
    clear hg hM f2 hM2
    go_wp2_with fail
    obtain ⟨k0, k1, k2, k3⟩ := cells4 r0 r1 r2' r3' (.int .i64 0) (.int .i64 0) (.int .i64 0) (.slice none 0 0)
    exact bodyPost_ret (v := .tuple #[.agg #[.int .i64 0, .int .i64 0, .int .i64 0, .slice none 0 0], .int .i64 E]) (by simp [results, Try.results28, go_sem, k0, k1, k2, k3]) rfl (HR.out _ (HM2.out.put4 _ _ _ _))
end Go.Proofs.Ytdinjekpcgndmaa
