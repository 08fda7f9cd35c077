/-
  LAYER 37: Flow.
-/
import Derived.Test.YtdinjekpcgndmaaFlowP
import Derived.Deep.DeepCutAuto
import Derived.StillTailTactics
set_option linter.unusedVariables false
namespace Go.Proofs.Ytdinjekpcgndmaa
open Go.RowKit
set_option maxRecDepth 20000 in
set_option maxHeartbeats 8000000 in
theorem flow_any (g : Gm) (v1 v2 : Value) (ts cs : List Int) (rolls : Int) (w : World) (hok : g.Ok w) (hr1 : RdI w v1 ts) (hr2 : RdI w v2 cs) : Calls Try.prog 22 #[g.val, v1, v2, .int .i64 rolls] w (FlPost g ts cs rolls w) := by
  have hK := fun w' (h : Fr [] w w') => rchk_any g v1 ts w' (hok.fr h) (hr1.below h)
  have hB := fun E (w' : World) => @fl_bad g ts cs rolls E w w'
  have hE0 : flE g ts cs rolls = if rchkE g ts ≠ 0 then rchkE g ts else if cs.length ≠ g.tiers.length ∨ rolls < 0 ∨ 64 < rolls then 2 else if negB cs = true then 2 else if anyTo (ovP (flS g ts cs rolls)) g.tiers.length = true then 9 else 0 := rfl
  have h21 : ∀ w b, GmAt w b g → w.cell? ⟨b, 21, none⟩ = some (.slice g.ta g.tiers.length g.tc) := fun w b h => h.cell 21 _ rfl
  by_cases he : rchkE g ts = 0
  · rw [if_neg (by omega)] at hE0
    obtain ⟨q1, q2, q3⟩ := rchkE_facts he
    obtain ⟨n1, n2⟩ := game_len q1
    have hbt := badT_bd (head_bd q1).2
    rw [he] at hK
    obtain ⟨x0, hx0⟩ : ∃ x, g.tiers[0]? = some x := ⟨_, List.getElem?_eq_getElem (by omega)⟩
    obtain ⟨b, o, hta, hcl0⟩ := RdF.at (f := Ti.cells) hok.tiers.rd hx0
    have hbw : b < w.heap.size := lt_of_cell (hcl0 0 _ rfl)
    rw [hta] at h21
    have hr1' := hr1
    have hr2' := hr2
    obtain ⟨a1, vc1, rfl, hvc1, hvc2, hvr1⟩ := hr1
    obtain ⟨a2, vc2, rfl, hvc3, hvc4, hvr2⟩ := hr2
    have hcl : cs.length ≤ 9223372036854775807 := Nat.le_trans hvc3 hvc4
    by_cases hn : cs.length = g.tiers.length
    · by_cases hr0 : 0 ≤ rolls
      · by_cases hr64 : rolls ≤ 64
        · rw [if_neg (by omega)] at hE0
          have hneg : negB cs = true → flE g ts cs rolls = 2 := fun h => by rw [hE0, if_pos h]
          have hov : negB cs = false → anyTo (ovP (flS g ts cs rolls)) g.tiers.length = true → flE g ts cs rolls = 9 := fun h k => by rw [hE0, if_neg (by simp [h]), if_pos k]
          have hfin : negB cs = false → anyTo (ovP (flS g ts cs rolls)) g.tiers.length = false → flE g ts cs rolls = 0 := fun h k => by rw [hE0, if_neg (by simp [h]), if_neg (by simp [k])]
          have hG := fun (w' : World) p c N L M => @fl_good g ts cs rolls w w' p c N L M
          have hLt := fun w' (h : Fr [] w w') (i : Nat) (hi : i < g.tiers.length) => later_any g _ cs i w' (hok.tiers.fr h) (hr2'.below h) hn hi
          have hNR := fun w' (h : Fr [] w w') (must : Bool) => newRolls_any g _ cs rolls must w' (hok.tiers.fr h) (hr2'.below h) hn (by omega) hr0 hr64
          have hIX := fun w' (h : Fr [] w w') => idxF_any g.ta g.tc g.tiers w' (hok.tiers.fr h)
          have hfo := fstE_of g.tiers
          have hMU : mustB g rolls = decide (g.rolls ≠ 0 ∧ g.rolls ≤ rolls + 1) := rfl
          have hSS : flS g ts cs rolls = flTo g.tiers cs ts (mustB g rolls) g.tiers.length g.tiers.length := rfl
          have hinv := fun k => @flTo_inv g.tiers cs ts (mustB g rolls) q3 k
          have h19 : ∀ w b, GmAt w b g → w.cell? ⟨b, 19, none⟩ = some (.int .i64 g.rolls) := fun w b h => h.cell 19 _ rfl
          rw [hta] at hIX
          have HTA := Lib.hid hta
          obtain ⟨gr, hgr⟩ : ∃ r, r = g.rolls := ⟨_, rfl⟩
          rw [← hgr] at hMU h19
          have hgr0 : 0 ≤ gr := by rw [hgr]; exact hbt.2.2.1
          have hgr1 : gr ≤ 64 := by rw [hgr]; exact hbt.2.2.2.1
          obtain ⟨n, hNn⟩ : ∃ n, n = g.tiers.length := ⟨_, rfl⟩
          rw [hn] at hvr2 hcl hLt hNR ⊢
          rw [q2] at hvr1 hK ⊢
          rw [← hNn] at h21 n1 n2 hvr1 hvr2 hcl hLt hNR hov hfin hIX hK hSS hinv ⊢
          obtain ⟨must, hmu⟩ : ∃ m, m = mustB g rolls := ⟨_, rfl⟩
          rw [← hmu] at hMU hinv hSS
          have hamt := fun k => amtB_at q3 k
          have hGm : ∀ (w' : World) p c N L M, flE g ts cs rolls = 0 → flS g ts cs rolls = (L, M) → rolE g.tiers cs must rolls = N → OwnI w' w.heap.size 3 p L → OwnI w' w.heap.size 3 c M → Fr [] w w' → FlPost g ts cs rolls w (.returned (.tuple #[p, c, .int .i64 N, .int .i64 0])) w' := by
            intro w' p c N L M h1 h2 h3 h4 h5 h6
            rw [hmu] at h3
            exact hG w' p c N L M h1 h2 h3 h4 h5 h6
          have hcn : cs.length = n := by rw [hn, hNn]
          have HCN := Lib.hid hcn
          have HTN := Lib.hid (show ts.length = n by rw [q2, hNn])
          have HNn := Lib.hid hNn
          have HK := Lib.hid hK
          have HB := Lib.hid hB
          have HNEG := Lib.hid hneg
          have HOV := Lib.hid hov
          have HFIN := Lib.hid hfin
          have HG := Lib.hid hGm
          have HLT := Lib.hid hLt
          have HNR := Lib.hid hNR
          have HIX := Lib.hid hIX
          have HFO := Lib.hid hfo
          have HMU := Lib.hid hMU
          have HSS := Lib.hid hSS
          have HINV := Lib.hid hinv
          have HAMT := Lib.hid hamt
          have H19 := Lib.hid h19
          have H21 := Lib.hid h21
          have HR1 := Lib.hid hvr1
          have HR2 := Lib.hid hvr2
          have HOK := Lib.hid hok
          have e0 : ((n : Int) != n) = false := by simp
          have e1 : decide (rolls < 0) = false := by simpa using hr0
          have e2 : decide (64 < rolls) = false := by simpa using hr64
          have hn0 : (0 : Int) ≤ (n : Int) := by omega
          clear hK hB hE0 h21 q1 q2 q3 hbt hx0 hta hcl0 hr1' hr2' hvc1 hvc2 hvc3 hvc4 hvr1 hvr2 hn hneg hov hfin hG hLt hNR hIX hfo hMU hSS hinv h19 hgr hNn hmu hamt hcn hok hGm he
          go_enter Try.func22, Try.ntmps22
          go_wp2_with (first | (refine box_game rfl (.tmp 0) rfl g rfl ?_; intro w1 hg1 hz1 hf1) | (refine load_game rfl (.tmp 4) rfl _ rfl g hg1 ?_))
          refine (HK.out _ hf1).mono ?_
          rintro e w2 ⟨rfl, f2⟩
          have hg2 := hg1.fr f2 (by simp)
          have hF2 := hf1.trans f2
          have c19 := H19.out _ _ hg2
          have c21 := H21.out _ _ hg2
          have hsz2 := hF2.size
          have hB1 := hg2.lt
          clear hz1 hg1 hf1 f2 HK
          go_wp2_with fail
          go_loop [45] (fun i => ∃ k : Nat, k ≤ n ∧ i = .int .i64 k ∧ Hid (∀ j, j < k → ¬ cs.getD j 0 < 0)) (fun i => n - (intOf i).toNat)
          case atStart => exact ⟨0, by omega, rfl, Lib.hid (by omega)⟩
          case round =>
            obtain ⟨k, hk, rfl, HA⟩ := hrel
            by_cases hlt : k < n
            · obtain ⟨g1, o1, rfl, hcell⟩ := HR2.out k hlt
              have hcell := hF2.cell_some hcell (by simp)
              have hyes := negB_yes (cs := cs) k (by have := HCN.out; omega)
              obtain ⟨x, hx⟩ : ∃ x, x = cs.getD k 0 := ⟨_, rfl⟩
              rw [← hx] at hcell hyes
              have HX := Lib.hid hx
              have HYES := Lib.hid hyes
              clear hx hyes
              by_cases hb : x < 0
              · have hq := HNEG.out (HYES.out hb)
                have HQ := Lib.hid hq
                have eb : decide (x < 0) = true := by simpa using hb
                clear hq hb
                go_wp2_with fail
                exact bodyPost_ret (v := .tuple #[.slice none 0 0, .slice none 0 0, .int .i64 0, .int .i64 2]) (by simp [results, Try.results22, go_sem]) rfl (HB.out _ _ HQ.out (by omega) hF2)
              · have eb : decide (x < 0) = false := by simpa using hb
                go_wp2_with fail
                go_round
                case rel =>
                  refine ⟨k + 1, by omega, by go_num, Lib.hid fun j hj => ?_⟩
                  by_cases hjk : j < k
                  · exact HA.out j hjk
                  · obtain rfl : j = k := by omega
                    rw [← HX.out]; exact hb
                case measure => simp [intOf]; omega
            · obtain rfl : n = k := by omega
              have hng := negB_no (cs := cs) (by rw [HCN.out]; exact HA.out)
              have HNG := Lib.hid hng
              clear hng HA HNEG
              go_upto_region 12 with (fail)
              go_cut [15] (fun m wx => m = .bool must ∧ wx = w2)
              case first =>
                by_cases hz : gr = 0
                · have hm : must = false := by rw [HMU.out]; simp [hz]
                  have HM := Lib.hid hm
                  have ez : (gr != 0) = false := by simpa using hz
                  clear hm hz
                  go_wp2_with fail
                  go_meet
                  case rel => exact ⟨by rw [HM.out], rfl⟩
                · have ez : (gr != 0) = true := by simpa using hz
                  by_cases hge : gr ≤ rolls + 1
                  · have hm : must = true := by rw [HMU.out]; simp [hz, hge]
                    have HM := Lib.hid hm
                    have eg : decide (gr ≤ rolls + 1) = true := by simpa using hge
                    clear hm hz
                    go_wp2_with fail
                    go_meet
                    case rel => exact ⟨by rw [HM.out], rfl⟩
                  · have hm : must = false := by rw [HMU.out]; simp [hge]
                    have HM := Lib.hid hm
                    have eg : decide (gr ≤ rolls + 1) = false := by simpa using hge
                    clear hm hz
                    go_wp2_with fail
                    go_meet
                    case rel => exact ⟨by rw [HM.out], rfl⟩
              case rest =>
                obtain ⟨rfl, rfl⟩ := hcut
                clear HMU c19 hgr0 hgr1 H19
                go_wp2_with fail
                refine (HIX.out _ hF2).mono ?_
                rintro e w3 ⟨rfl, f3⟩
                have hg3 := hg2.fr f3 (by simp)
                have hF3 := hF2.trans f3
                have c21 := H21.out _ _ hg3
                have hsz3 : w.heap.size ≤ w3.heap.size := hF3.size
                have hB3 := hg3.lt
                clear hg2 hF2 f3 HIX hsz2 hB1
                have hfo := HFO.out
                obtain ⟨fs, hfs⟩ : ∃ x, x = fstE g.tiers := ⟨_, rfl⟩
                rw [← hfs] at hfo ⊢
                have HFS := Lib.hid hfs
                have HFO2 := Lib.hid hfo
                clear hfs hfo HFO
                go_upto_region 14 with (fail)
                go_cut [17, 18] (fun p c wx => ∃ gp gc : Nat, p = .slice (some ⟨gp, 0, none⟩) n n ∧ c = .slice (some ⟨gc, 0, none⟩) n n ∧ gp ≠ gc ∧ w3.heap.size ≤ gp ∧ w3.heap.size ≤ gc ∧ gp < wx.heap.size ∧ gc < wx.heap.size ∧ OwnI wx w3.heap.size 3 p (List.replicate n 0) ∧ OwnI wx w3.heap.size 3 c (List.replicate n 0) ∧ Fr [] w3 wx)
                case first =>
                  have hmk := fun w => run_make_row' (P := Try.prog) 31 3 (.int .i64 0) 8 Try.underlying31 infoIntC rfl .i64 .i64 n (by omega) (by omega) w
                  go_region
                  all_goals
                    go_wp2_with fail
                    go_meet
                    case rel =>
                      obtain ⟨z, o1, o2, f⟩ := two_made (w := w3) (n := n) (e := 3) (by unfold maxLen; omega) _ rfl
                      first
                      | exact ⟨_, _, rfl, rfl, by omega, by omega, by omega, by omega, by omega, o1, o2, f⟩
                      | exact ⟨_, _, rfl, rfl, by omega, by omega, by omega, by omega, by omega, o2, o1, f⟩
                case rest =>
                  obtain ⟨gp, gc, rfl, rfl, hne, hp1, hc1, hp2, hc2, hop0, hoc0, hfc⟩ := hcut
                  have hgc := hg3.fr hfc (by simp)
                  have hFc := hF3.trans hfc
                  have k21 := hfc.cell_some c21 (by simp)
                  have HP0 := Lib.hid hop0
                  have HC0 := Lib.hid hoc0
                  have HGC := Lib.hid hgc
                  have HFC := Lib.hid hFc
                  have hgpw : w.heap.size < gp := by omega
                  have hgcw : w.heap.size < gc := by omega
                  clear hg3 hF3 c21 hop0 hoc0 hfc hgc hFc
                  go_wp2_with fail
                  go_loopw [74] (fun i wr => ∃ (k : Nat) (P C : List Int), k ≤ n ∧ i = .int .i64 k ∧ OwnI wr w3.heap.size 3 (.slice (some ⟨gp, 0, none⟩) n n) P ∧ OwnI wr w3.heap.size 3 (.slice (some ⟨gc, 0, none⟩) n n) C ∧ Hid (flTo g.tiers cs ts must n k = (P, C)) ∧ Fr [gp, gc] wc wr) (fun i _ => n - (intOf i).toNat)
                  case atStart => exact ⟨0, _, _, by omega, rfl, HP0.out, HC0.out, Lib.hid rfl, Fr.refl _ _⟩
                  case round =>
                    obtain ⟨k, P, C, hk, rfl, hop, hoc, HTT, hf⟩ := hrel
                    by_cases hlt : k < n
                    · obtain ⟨x, hx⟩ : ∃ x, g.tiers[k]? = some x := ⟨_, List.getElem?_eq_getElem (by have := HNn.out; omega)⟩
                      obtain ⟨b', o', hta', hcell⟩ := RdF.at (f := Ti.cells) HOK.out.tiers.rd hx
                      rw [HTA.out] at hta'
                      simp only [Option.some.injEq, Addr.mk.injEq, and_true] at hta'
                      obtain ⟨rfl, rfl⟩ := hta'
                      have c0 := hf.cell_some (HFC.out.cell_some (hcell 0 _ rfl) (by simp)) (by simp; omega)
                      have c1 := hf.cell_some (HFC.out.cell_some (hcell 1 _ rfl) (by simp)) (by simp; omega)
                      have c2 := hf.cell_some (HFC.out.cell_some (hcell 2 _ rfl) (by simp)) (by simp; omega)
                      have c3 := hf.cell_some (HFC.out.cell_some (hcell 3 _ rfl) (by simp)) (by simp; omega)
                      have c4 := hf.cell_some (HFC.out.cell_some (hcell 4 _ rfl) (by simp)) (by simp; omega)
                      have c5 := hf.cell_some (HFC.out.cell_some (hcell 5 _ rfl) (by simp)) (by simp; omega)
                      rw [Nat.add_zero] at c0
                      obtain ⟨g1, o1, rfl, hct⟩ := HR1.out k hlt
                      obtain ⟨g2, o2, rfl, hcc⟩ := HR2.out k hlt
                      have hg1w : g1 < w.heap.size := lt_of_cell hct
                      have hg2w : g2 < w.heap.size := lt_of_cell hcc
                      have ct := hf.cell_some (HFC.out.cell_some hct (by simp)) (by simp; omega)
                      have cc := hf.cell_some (HFC.out.cell_some hcc (by simp)) (by simp; omega)
                      have hkd : kd g.tiers k = x.kind := by simp [kd, List.getD, hx]
                      have hlat := latE_of g.tiers cs k
                      have hta := HAMT.out k
                      have hiv := HINV.out k (by have := HNn.out; omega)
                      rw [HTT.out] at hiv
                      have HINV2 := Lib.hid hiv
                      have hpl : P.length = n := by rw [hiv.lp, ← HNn.out]
                      have hcl : C.length = n := by rw [hiv.lc, ← HNn.out]
                      have hLk := HLT.out _ (((HFC.out.back2 hf (by omega) (by omega)).alloc (.cells #[.int .i64 x.main, .int .i64 x.bonus, .int .i64 x.extra, .int .i64 x.mode, .int .i64 x.kind, .int .i64 x.value] 40))) k hlt
                      have hGa := (HGC.out.fr hf (by simp; omega)).fr ((Fr.refl [] wr).alloc (.cells #[.int .i64 x.main, .int .i64 x.bonus, .int .i64 x.extra, .int .i64 x.mode, .int .i64 x.kind, .int .i64 x.value] 40)) (by simp)
                      obtain ⟨y, hy⟩ : ∃ y, y = cs.getD k 0 := ⟨_, rfl⟩
                      obtain ⟨tx, htk⟩ : ∃ y, y = ts.getD k 0 := ⟨_, rfl⟩
                      obtain ⟨lt, hltt⟩ : ∃ y, y = latE g.tiers cs k := ⟨_, rfl⟩
                      rw [← hy] at cc
                      rw [← htk] at ct hta
                      rw [← hltt] at hlat hLk
                      obtain ⟨tm, tb, te, to_, tk, tv⟩ := x
                      simp only at c0 c1 c2 c3 c4 c5 hkd hLk hGa
                      have HLK := Lib.hid hLk
                      have HGA := Lib.hid hGa
                      have HKD := Lib.hid hkd
                      have HY := Lib.hid hy
                      have HLTT := Lib.hid hltt
                      have HLAT := Lib.hid hlat
                      have HTKK := Lib.hid htk
                      have HOP := Lib.hid hop
                      have HOC := Lib.hid hoc
                      have hkn : (k : Int) < (n : Int) := by omega
                      have hk0 : (0 : Int) ≤ (k : Int) := by omega
                      have ht0 : 0 ≤ tx := hta.1
                      have ht1 : tx ≤ 1000000000000 := hta.2
                      have hFa := fun o => (Fr.refl [] wr).alloc o
                      have HFA := Lib.hid hFa
                      clear hcell hx hkd hlat hta hiv hLk hGa hy hltt hct hcc htk hop hoc hFa k21
                      obtain ⟨wo, rfl⟩ : ∃ wo : World, wo = wr := ⟨_, rfl⟩
                      go_wp2_with (refine load_game rfl (.tmp 4) rfl _ rfl g HGA.out ?_)
                      refine HLK.out.mono ?_
                      rintro e w5 ⟨rfl, f5⟩
                      have hA5 := (HFA.out _).trans f5
                      have d4 : w5.cell? ⟨wo.heap.size, 4, none⟩ = some (.int .i64 tk) := f5.cell_some (new_cell rfl rfl) (by simp)
                      have ct := hA5.cell_some ct (by simp)
                      have cc := hA5.cell_some cc (by simp)
                      have hop5 := HOP.out.fr hA5 (by simp)
                      have hoc5 := HOC.out.fr hA5 (by simp)
                      have hf5 := hf.trans (hA5.mono (cs := [gp, gc]) (by simp))
                      have HF5 := Lib.hid hf5
                      have htk := HTKK.out
                      clear c0 c1 c2 c3 c4 c5 hA5 f5 hf HLK HGA HOP HOC HFA hf5
                      by_cases h1 : tk = 1
                      · have e1 : (tk == 1) = true := by simpa using h1
                        have hq := flTo_pool HTT.out (flAt_own (.inl (by rw [HKD.out]; exact h1)))
                        have HQ := Lib.hid hq
                        have cj := hop5.cell k (by omega)
                        have fj := hop5.frozen k
                        have hb := HINV2.out.bp k
                        have hset := fun X => hop5.set k X
                        have hoth := fun X => hoc5.fr ((Fr.refl [gp] w5).setCell (p := ⟨gp, k, none⟩) (.inl (by simp)) (.int .i64 X)) (by simp [Value.ownBlock]; omega)
                        have HSET := Lib.hid hset
                        have HOTH := Lib.hid hoth
                        have HP5 := Lib.hid hop5
                        have HC5 := Lib.hid hoc5
                        generalize hpj : P.getD k 0 = pj at *
                        have HPJ := Lib.hid hpj
                        have hb0 : 0 ≤ pj := hb.1
                        have hb1 : pj ≤ 12000000000000 := by have := hb.2; omega
                        have HTK := Lib.hid htk
                        clear hq hset hoth hb hpj hop5 hoc5 htk
                        go_wp2_with fail
                        go_still_tail 10, (by kernel_rfl)
                        change wpList _ _ _ _ _ w5.drew
                        go_wp2_with fail
                        exact ⟨⟨k + 1, _, _, by omega, by go_num, HSET.out _, HOTH.out _, Lib.hid (by rw [HQ.out, HTK.out]), Fr.drew (Fr.setCell HF5.out (.inl (by simp)) _)⟩, by simp [intOf]; omega⟩
                      have e1 : (tk == 1) = false := by simpa using h1
                      by_cases h2 : y = 0
                      · have e2 : (y != 0) = false := by simpa using h2
                        rcases HLAT.out with ⟨hl, _⟩ | ⟨j, hl, hj1, hj2, _, _⟩
                        · have HLL := Lib.hid (HLTT.out.symm.trans hl)
                          subst hl
                          by_cases h3 : tk = 2
                          · have e3 : (tk == 2) = true := by simpa using h3
                            rcases HFO2.out with ⟨hfs, _⟩ | ⟨jf, hfs, hj2, _⟩
                            · have HFF := Lib.hid (HFS.out.symm.trans hfs)
                              have e6 : decide (0 ≤ fs) = false := by simp; omega
                              clear hfs
                              have hq := flTo_carry HTT.out (flAt_stay (by rw [HKD.out]; exact h1) (by rw [← HY.out]; exact h2) (by rw [HLL.out]; omega) (by rw [HFF.out]; omega))
                              have HQ := Lib.hid hq
                              have cj := hoc5.cell k (by omega)
                              have fj := hoc5.frozen k
                              have hb := HINV2.out.bc k
                              have hset := fun X => hoc5.set k X
                              have hoth := fun X => hop5.fr ((Fr.refl [gc] w5).setCell (p := ⟨gc, k, none⟩) (.inl (by simp)) (.int .i64 X)) (by simp [Value.ownBlock]; omega)
                              have HSET := Lib.hid hset
                              have HOTH := Lib.hid hoth
                              have HP5 := Lib.hid hop5
                              have HC5 := Lib.hid hoc5
                              generalize hpj : C.getD k 0 = pj at *
                              have HPJ := Lib.hid hpj
                              have hb0 : 0 ≤ pj := hb.1
                              have hb1 : pj ≤ 12000000000000 := by have := hb.2; omega
                              have HTK := Lib.hid htk
                              clear hq hset hoth hb hpj hop5 hoc5 htk
                              go_wp2_with fail
                              go_still_tail 10, (by kernel_rfl)
                              change wpList _ _ _ _ _ w5.drew
                              go_wp2_with fail
                              exact ⟨⟨k + 1, _, _, by omega, by go_num, HOTH.out _, HSET.out _, Lib.hid (by rw [HQ.out, HTK.out]), Fr.drew (Fr.setCell HF5.out (.inl (by simp)) _)⟩, by simp [intOf]; omega⟩
                            · have HFF := Lib.hid (HFS.out.symm.trans hfs)
                              subst hfs
                              have hjn : (jf : Int) < (n : Int) := by have := HNn.out; omega
                              have hj0 : (0 : Int) ≤ (jf : Int) := by omega
                              have hq := flTo_carry HTT.out (flAt_fst (by rw [← HY.out]; exact h2) HLL.out (by rw [HKD.out]; exact h3) HFF.out)
                              have HQ := Lib.hid hq
                              have cj := hoc5.cell jf (by omega)
                              have fj := hoc5.frozen jf
                              have hb := HINV2.out.bc jf
                              have hset := fun X => hoc5.set jf X
                              have hoth := fun X => hop5.fr ((Fr.refl [gc] w5).setCell (p := ⟨gc, jf, none⟩) (.inl (by simp)) (.int .i64 X)) (by simp [Value.ownBlock]; omega)
                              have HSET := Lib.hid hset
                              have HOTH := Lib.hid hoth
                              have HP5 := Lib.hid hop5
                              have HC5 := Lib.hid hoc5
                              generalize hpj : C.getD jf 0 = pj at *
                              have HPJ := Lib.hid hpj
                              have hb0 : 0 ≤ pj := hb.1
                              have hb1 : pj ≤ 12000000000000 := by have := hb.2; omega
                              have HTK := Lib.hid htk
                              clear hq hset hoth hb hpj hop5 hoc5 htk
                              go_wp2_with fail
                              go_still_tail 10, (by kernel_rfl)
                              change wpList _ _ _ _ _ w5.drew
                              go_wp2_with fail
                              exact ⟨⟨k + 1, _, _, by omega, by go_num, HOTH.out _, HSET.out _, Lib.hid (by rw [HQ.out, HTK.out]), Fr.drew (Fr.setCell HF5.out (.inl (by simp)) _)⟩, by simp [intOf]; omega⟩
                          · have e3 : (tk == 2) = false := by simpa using h3
                            have hq := flTo_carry HTT.out (flAt_stay (by rw [HKD.out]; exact h1) (by rw [← HY.out]; exact h2) (by rw [HLL.out]; omega) (by rw [HKD.out]; omega))
                            have HQ := Lib.hid hq
                            have cj := hoc5.cell k (by omega)
                            have fj := hoc5.frozen k
                            have hb := HINV2.out.bc k
                            have hset := fun X => hoc5.set k X
                            have hoth := fun X => hop5.fr ((Fr.refl [gc] w5).setCell (p := ⟨gc, k, none⟩) (.inl (by simp)) (.int .i64 X)) (by simp [Value.ownBlock]; omega)
                            have HSET := Lib.hid hset
                            have HOTH := Lib.hid hoth
                            have HP5 := Lib.hid hop5
                            have HC5 := Lib.hid hoc5
                            generalize hpj : C.getD k 0 = pj at *
                            have HPJ := Lib.hid hpj
                            have hb0 : 0 ≤ pj := hb.1
                            have hb1 : pj ≤ 12000000000000 := by have := hb.2; omega
                            have HTK := Lib.hid htk
                            clear hq hset hoth hb hpj hop5 hoc5 htk
                            go_wp2_with fail
                            go_still_tail 10, (by kernel_rfl)
                            change wpList _ _ _ _ _ w5.drew
                            go_wp2_with fail
                            exact ⟨⟨k + 1, _, _, by omega, by go_num, HOTH.out _, HSET.out _, Lib.hid (by rw [HQ.out, HTK.out]), Fr.drew (Fr.setCell HF5.out (.inl (by simp)) _)⟩, by simp [intOf]; omega⟩
                        · have HLL := Lib.hid (HLTT.out.symm.trans hl)
                          subst hl
                          by_cases h3 : tk = 2
                          · have e3 : (tk == 2) = true := by simpa using h3
                            have hjn : (j : Int) < (n : Int) := by have := HNn.out; omega
                            have hj0 : (0 : Int) ≤ (j : Int) := by omega
                            have hq := flTo_pool HTT.out (flAt_lat (by rw [HKD.out]; exact h1) (by rw [← HY.out]; exact h2) HLL.out (.inl (by rw [HKD.out]; exact h3)))
                            have HQ := Lib.hid hq
                            have cj := hop5.cell j (by omega)
                            have fj := hop5.frozen j
                            have hb := HINV2.out.bp j
                            have hset := fun X => hop5.set j X
                            have hoth := fun X => hoc5.fr ((Fr.refl [gp] w5).setCell (p := ⟨gp, j, none⟩) (.inl (by simp)) (.int .i64 X)) (by simp [Value.ownBlock]; omega)
                            have HSET := Lib.hid hset
                            have HOTH := Lib.hid hoth
                            have HP5 := Lib.hid hop5
                            have HC5 := Lib.hid hoc5
                            generalize hpj : P.getD j 0 = pj at *
                            have HPJ := Lib.hid hpj
                            have hb0 : 0 ≤ pj := hb.1
                            have hb1 : pj ≤ 12000000000000 := by have := hb.2; omega
                            have HTK := Lib.hid htk
                            clear hq hset hoth hb hpj hop5 hoc5 htk
                            go_wp2_with fail
                            go_still_tail 10, (by kernel_rfl)
                            change wpList _ _ _ _ _ w5.drew
                            go_wp2_with fail
                            exact ⟨⟨k + 1, _, _, by omega, by go_num, HSET.out _, HOTH.out _, Lib.hid (by rw [HQ.out, HTK.out]), Fr.drew (Fr.setCell HF5.out (.inl (by simp)) _)⟩, by simp [intOf]; omega⟩
                          · have e3 : (tk == 2) = false := by simpa using h3
                            cases must
                            · skip
                              have hq := flTo_carry HTT.out (flAt_stay (by rw [HKD.out]; exact h1) (by rw [← HY.out]; exact h2) (by rw [HKD.out]; simp; omega) (by rw [HKD.out]; omega))
                              have HQ := Lib.hid hq
                              have cj := hoc5.cell k (by omega)
                              have fj := hoc5.frozen k
                              have hb := HINV2.out.bc k
                              have hset := fun X => hoc5.set k X
                              have hoth := fun X => hop5.fr ((Fr.refl [gc] w5).setCell (p := ⟨gc, k, none⟩) (.inl (by simp)) (.int .i64 X)) (by simp [Value.ownBlock]; omega)
                              have HSET := Lib.hid hset
                              have HOTH := Lib.hid hoth
                              have HP5 := Lib.hid hop5
                              have HC5 := Lib.hid hoc5
                              generalize hpj : C.getD k 0 = pj at *
                              have HPJ := Lib.hid hpj
                              have hb0 : 0 ≤ pj := hb.1
                              have hb1 : pj ≤ 12000000000000 := by have := hb.2; omega
                              have HTK := Lib.hid htk
                              clear hq hset hoth hb hpj hop5 hoc5 htk
                              go_wp2_with fail
                              go_still_tail 10, (by kernel_rfl)
                              change wpList _ _ _ _ _ w5.drew
                              go_wp2_with fail
                              exact ⟨⟨k + 1, _, _, by omega, by go_num, HOTH.out _, HSET.out _, Lib.hid (by rw [HQ.out, HTK.out]), Fr.drew (Fr.setCell HF5.out (.inl (by simp)) _)⟩, by simp [intOf]; omega⟩
                            · skip
                              have hjn : (j : Int) < (n : Int) := by have := HNn.out; omega
                              have hj0 : (0 : Int) ≤ (j : Int) := by omega
                              have hq := flTo_pool HTT.out (flAt_lat (by rw [HKD.out]; exact h1) (by rw [← HY.out]; exact h2) HLL.out (.inr rfl))
                              have HQ := Lib.hid hq
                              have cj := hop5.cell j (by omega)
                              have fj := hop5.frozen j
                              have hb := HINV2.out.bp j
                              have hset := fun X => hop5.set j X
                              have hoth := fun X => hoc5.fr ((Fr.refl [gp] w5).setCell (p := ⟨gp, j, none⟩) (.inl (by simp)) (.int .i64 X)) (by simp [Value.ownBlock]; omega)
                              have HSET := Lib.hid hset
                              have HOTH := Lib.hid hoth
                              have HP5 := Lib.hid hop5
                              have HC5 := Lib.hid hoc5
                              generalize hpj : P.getD j 0 = pj at *
                              have HPJ := Lib.hid hpj
                              have hb0 : 0 ≤ pj := hb.1
                              have hb1 : pj ≤ 12000000000000 := by have := hb.2; omega
                              have HTK := Lib.hid htk
                              clear hq hset hoth hb hpj hop5 hoc5 htk
                              go_wp2_with fail
                              go_still_tail 10, (by kernel_rfl)
                              change wpList _ _ _ _ _ w5.drew
                              go_wp2_with fail
                              exact ⟨⟨k + 1, _, _, by omega, by go_num, HSET.out _, HOTH.out _, Lib.hid (by rw [HQ.out, HTK.out]), Fr.drew (Fr.setCell HF5.out (.inl (by simp)) _)⟩, by simp [intOf]; omega⟩
                      · have e2 : (y != 0) = true := by simpa using h2
                        have hq := flTo_pool HTT.out (flAt_own (.inr (by rw [← HY.out]; exact h2)))
                        have HQ := Lib.hid hq
                        have cj := hop5.cell k (by omega)
                        have fj := hop5.frozen k
                        have hb := HINV2.out.bp k
                        have hset := fun X => hop5.set k X
                        have hoth := fun X => hoc5.fr ((Fr.refl [gp] w5).setCell (p := ⟨gp, k, none⟩) (.inl (by simp)) (.int .i64 X)) (by simp [Value.ownBlock]; omega)
                        have HSET := Lib.hid hset
                        have HOTH := Lib.hid hoth
                        have HP5 := Lib.hid hop5
                        have HC5 := Lib.hid hoc5
                        generalize hpj : P.getD k 0 = pj at *
                        have HPJ := Lib.hid hpj
                        have hb0 : 0 ≤ pj := hb.1
                        have hb1 : pj ≤ 12000000000000 := by have := hb.2; omega
                        have HTK := Lib.hid htk
                        clear hq hset hoth hb hpj hop5 hoc5 htk
                        go_wp2_with fail
                        go_still_tail 10, (by kernel_rfl)
                        change wpList _ _ _ _ _ w5.drew
                        go_wp2_with fail
                        exact ⟨⟨k + 1, _, _, by omega, by go_num, HSET.out _, HOTH.out _, Lib.hid (by rw [HQ.out, HTK.out]), Fr.drew (Fr.setCell HF5.out (.inl (by simp)) _)⟩, by simp [intOf]; omega⟩
                    · obtain rfl : n = k := by omega
                      have hss := HSS.out.trans HTT.out
                      have hov := fun h => HOV.out HNG.out h
                      have hfin := fun h => HFIN.out HNG.out h
                      rw [hss] at hov hfin
                      have HSS2 := Lib.hid hss
                      have HOV2 := Lib.hid hov
                      have HFIN2 := Lib.hid hfin
                      have hFw := HFC.out.back2 hf (by omega) (by omega)
                      have hiv := HINV.out n (by omega)
                      rw [HTT.out] at hiv
                      have hpl : P.length = n := by rw [hiv.lp, ← HNn.out]
                      have hcl : C.length = n := by rw [hiv.lc, ← HNn.out]
                      have hgw := HGC.out.fr hf (by simp; omega)
                      have HFW := Lib.hid hFw
                      have HGW := Lib.hid hgw
                      have HOP := Lib.hid hop
                      have HOC := Lib.hid hoc
                      have r21 := hf.cell_some k21 (by simp; omega)
                      clear hss hov hfin hiv hgw hFw hop hoc HSS HOV HFIN HTT HP0 HC0 HGC HINV HAMT hf k21 HLT HFO2 HR1 HR2
                      obtain ⟨wo, rfl⟩ : ∃ wo : World, wo = wr := ⟨_, rfl⟩
                      go_wp2_with fail
                      go_loop [156] (fun i => ∃ k : Nat, k ≤ n ∧ i = .int .i64 k ∧ Hid (anyTo (ovP (P, C)) k = false)) (fun i => n - (intOf i).toNat)
                      case atStart => exact ⟨0, by omega, rfl, Lib.hid rfl⟩
                      case round =>
                        obtain ⟨k, hk, rfl, HA⟩ := hrel
                        by_cases hlt2 : k < n
                        · have cp := HOP.out.cell k (by omega)
                          have cc := HOC.out.cell k (by omega)
                          have hov := fun h => HOV2.out (anyTo_mk (p := ovP (P, C)) hlt2 h)
                          have hnx : ovP (P, C) k = false → anyTo (ovP (P, C)) (k + 1) = false := fun h => by rw [anyTo, HA.out, h]; rfl
                          have hdef : ovP (P, C) k = decide (1000000000000 < P.getD k 0 ∨ 1000000000000 < C.getD k 0) := rfl
                          generalize P.getD k 0 = pk at *
                          generalize C.getD k 0 = ck at *
                          have hkn : (k : Int) < (n : Int) := by omega
                          have hk0 : (0 : Int) ≤ (k : Int) := by omega
                          have HOV3 := Lib.hid hov
                          have HNX := Lib.hid hnx
                          have HDEF := Lib.hid hdef
                          clear hov hnx hdef
                          by_cases h1 : 1000000000000 < pk
                          · have d1 : decide (1000000000000 < pk) = true := by simpa using h1
                            have hq := HOV3.out (by rw [HDEF.out]; simp [h1])
                            have HQ := Lib.hid hq
                            clear hq
                            go_wp2_with fail
                            exact bodyPost_ret (v := .tuple #[.slice none 0 0, .slice none 0 0, .int .i64 0, .int .i64 9]) (by simp [results, Try.results22, go_sem]) rfl (HB.out _ _ HQ.out (by omega) HFW.out)
                          · have d1 : decide (1000000000000 < pk) = false := by simpa using h1
                            by_cases h2 : 1000000000000 < ck
                            · have d2 : decide (1000000000000 < ck) = true := by simpa using h2
                              have hq := HOV3.out (by rw [HDEF.out]; simp [h2])
                              have HQ := Lib.hid hq
                              clear hq
                              go_wp2_with fail
                              exact bodyPost_ret (v := .tuple #[.slice none 0 0, .slice none 0 0, .int .i64 0, .int .i64 9]) (by simp [results, Try.results22, go_sem]) rfl (HB.out _ _ HQ.out (by omega) HFW.out)
                            · have d2 : decide (1000000000000 < ck) = false := by simpa using h2
                              have hq := HNX.out (by rw [HDEF.out, decide_eq_false_iff_not]; omega)
                              have HQ := Lib.hid hq
                              clear hq
                              go_wp2_with fail
                              go_round
                              case rel => exact ⟨k + 1, by omega, by go_num, HQ⟩
                              case measure => simp [intOf]; omega
                        · obtain rfl : n = k := by omega
                          have hq := HFIN2.out HA.out
                          have HQ := Lib.hid hq
                          clear hq
                          go_wp2_with (refine load_game rfl (.tmp 4) rfl _ rfl g HGW.out ?_)
                          refine (HNR.out _ HFW.out must).mono ?_
                          rintro e w7 ⟨rfl, f7⟩
                          have hp7 := (HOP.out.fr f7 (by simp)).mono hsz3
                          have hc7 := (HOC.out.fr f7 (by simp)).mono hsz3
                          have hF7 := HFW.out.trans f7
                          have HP7 := Lib.hid hp7
                          have HC7 := Lib.hid hc7
                          have HF7 := Lib.hid hF7
                          clear hp7 hc7 hF7 f7
                          go_wp2_with fail
                          exact bodyPost_ret (v := .tuple #[.slice (some ⟨gp, 0, none⟩) n n, .slice (some ⟨gc, 0, none⟩) n n, .int .i64 (rolE g.tiers cs must rolls), .int .i64 0]) (by simp [results, Try.results22, go_sem]) rfl (HG.out _ _ _ _ _ _ HQ.out HSS2.out rfl HP7.out HC7.out HF7.out)
        · skip
          have HK := Lib.hid hK
          have HB := Lib.hid hB
          have hq : flE g ts cs rolls = 2 := by rw [hE0, if_pos (by omega)]
          have HQ := Lib.hid hq
          have hle := hok.tiers.rd.len.2
          unfold maxLen at hle
          have H21 := Lib.hid h21
          obtain ⟨n, hNn⟩ : ∃ n, n = g.tiers.length := ⟨_, rfl⟩
          obtain ⟨m, hm⟩ : ∃ m, m = cs.length := ⟨_, rfl⟩
          rw [← hNn] at H21 hn n1 n2 hle
          rw [← hm] at hcl hn ⊢
          have e0 : ((m : Int) != n) = false := by simp; omega
          have e1 : decide (rolls < 0) = false := by simpa using hr0
          have e2 : decide (64 < rolls) = true := by simp; omega
          clear hK hB hE0 q1 q2 q3 hbt hx0 hta hcl0 hr1' hr2' hvc1 hvc2 hvc3 hvc4 hvr1 hvr2 hq h21 hok hNn hm he hn
          go_enter Try.func22, Try.ntmps22
          go_wp2_with (first | (refine box_game rfl (.tmp 0) rfl g rfl ?_; intro w1 hg1 hz1 hf1) | (refine load_game rfl (.tmp 4) rfl _ rfl g hg1 ?_))
          refine (HK.out _ hf1).mono ?_
          rintro e w2 ⟨rfl, f2⟩
          have c21 := H21.out _ _ (hg1.fr f2 (by simp))
          go_wp2_with fail
          exact bodyPost_ret (v := .tuple #[.slice none 0 0, .slice none 0 0, .int .i64 0, .int .i64 2]) (by simp [results, Try.results22, go_sem]) rfl (HB.out _ _ HQ.out (by omega) (hf1.trans f2))
      · skip
        have HK := Lib.hid hK
        have HB := Lib.hid hB
        have hq : flE g ts cs rolls = 2 := by rw [hE0, if_pos (by omega)]
        have HQ := Lib.hid hq
        have hle := hok.tiers.rd.len.2
        unfold maxLen at hle
        have H21 := Lib.hid h21
        obtain ⟨n, hNn⟩ : ∃ n, n = g.tiers.length := ⟨_, rfl⟩
        obtain ⟨m, hm⟩ : ∃ m, m = cs.length := ⟨_, rfl⟩
        rw [← hNn] at H21 hn n1 n2 hle
        rw [← hm] at hcl hn ⊢
        have e0 : ((m : Int) != n) = false := by simp; omega
        have e1 : decide (rolls < 0) = true := by simp; omega
        clear hK hB hE0 q1 q2 q3 hbt hx0 hta hcl0 hr1' hr2' hvc1 hvc2 hvc3 hvc4 hvr1 hvr2 hq h21 hok hNn hm he hn
        go_enter Try.func22, Try.ntmps22
        go_wp2_with (first | (refine box_game rfl (.tmp 0) rfl g rfl ?_; intro w1 hg1 hz1 hf1) | (refine load_game rfl (.tmp 4) rfl _ rfl g hg1 ?_))
        refine (HK.out _ hf1).mono ?_
        rintro e w2 ⟨rfl, f2⟩
        have c21 := H21.out _ _ (hg1.fr f2 (by simp))
        go_wp2_with fail
        exact bodyPost_ret (v := .tuple #[.slice none 0 0, .slice none 0 0, .int .i64 0, .int .i64 2]) (by simp [results, Try.results22, go_sem]) rfl (HB.out _ _ HQ.out (by omega) (hf1.trans f2))
    · skip
      have HK := Lib.hid hK
      have HB := Lib.hid hB
      have hq : flE g ts cs rolls = 2 := by rw [hE0, if_pos (by omega)]
      have HQ := Lib.hid hq
      have hle := hok.tiers.rd.len.2
      unfold maxLen at hle
      have H21 := Lib.hid h21
      obtain ⟨n, hNn⟩ : ∃ n, n = g.tiers.length := ⟨_, rfl⟩
      obtain ⟨m, hm⟩ : ∃ m, m = cs.length := ⟨_, rfl⟩
      rw [← hNn] at H21 hn n1 n2 hle
      rw [← hm] at hcl hn ⊢
      have e0 : ((m : Int) != n) = true := by simp; omega
      clear hK hB hE0 q1 q2 q3 hbt hx0 hta hcl0 hr1' hr2' hvc1 hvc2 hvc3 hvc4 hvr1 hvr2 hq h21 hok hNn hm he hn
      go_enter Try.func22, Try.ntmps22
      go_wp2_with (first | (refine box_game rfl (.tmp 0) rfl g rfl ?_; intro w1 hg1 hz1 hf1) | (refine load_game rfl (.tmp 4) rfl _ rfl g hg1 ?_))
      refine (HK.out _ hf1).mono ?_
      rintro e w2 ⟨rfl, f2⟩
      have c21 := H21.out _ _ (hg1.fr f2 (by simp))
      go_wp2_with fail
      exact bodyPost_ret (v := .tuple #[.slice none 0 0, .slice none 0 0, .int .i64 0, .int .i64 2]) (by simp [results, Try.results22, go_sem]) rfl (HB.out _ _ HQ.out (by omega) (hf1.trans f2))
  · rw [if_pos he] at hE0
    generalize rchkE g ts = ce at *
    have ez : (ce != 0) = true := by simpa using he
    have HK := Lib.hid hK
    have HB := Lib.hid hB
    have HE := Lib.hid hE0
    have HNZ := Lib.hid he
    clear hK hB hE0 he hok hr1 hr2 h21
    go_enter Try.func22, Try.ntmps22
    go_wp2_with (first | (refine box_game rfl (.tmp 0) rfl g rfl ?_; intro w1 hg1 hz1 hf1) | (refine load_game rfl (.tmp 4) rfl _ rfl g hg1 ?_))
    refine (HK.out _ hf1).mono ?_
    rintro e w2 ⟨rfl, f2⟩
    go_wp2_with fail
    exact bodyPost_ret (v := .tuple #[.slice none 0 0, .slice none 0 0, .int .i64 0, .int .i64 ce]) (by simp [results, Try.results22, go_sem]) rfl (HB.out _ _ HE.out HNZ.out (hf1.trans f2))
end Go.Proofs.Ytdinjekpcgndmaa
