/-
  LAYER 37: Cap.
-/
import Derived.Test.YtdinjekpcgndmaaRollC
import Derived.Test.YtdinjekpcgndmaaClone
import Derived.Deep.RegionHeld3
set_option linter.unusedVariables false
namespace Go.Proofs.Ytdinjekpcgndmaa
open Go.RowKit
def CapPost (g : Gm) (ts : List Int) (w : World) (e : Ending) (w' : World) : Prop := ∃ v, e = .returned (.tuple #[v, .int .i64 (capE g ts)]) ∧ OwnI w' w.heap.size 3 v (capL g ts) ∧ Fr [] w w'
theorem cap_post {g : Gm} {ts l : List Int} {E : Int} {w w' : World} (v : Value) (hE : capE g ts = E) (hL : capL g ts = l) (ho : OwnI w' w.heap.size 3 v l) (hf : Fr [] w w') : CapPost g ts w (.returned (.tuple #[v, .int .i64 E])) w' := by
  subst hE; subst hL; exact ⟨v, rfl, ho, hf⟩
theorem capStep_skip {T : List Ti} {cap : Int} {l : List Int} {i : Nat} (h : kd T i ≠ 3 ∨ l.getD i 0 ≤ cap) : capStep T cap l i = some l := by unfold capStep; rw [if_pos h]
theorem capStep_none {T : List Ti} {cap : Int} {l : List Int} {i : Nat} (h : ¬ (kd T i ≠ 3 ∨ l.getD i 0 ≤ cap)) (hn : nxtE T i = -1) : capStep T cap l i = some l := by unfold capStep; rw [if_neg h, if_pos (by omega)]
theorem capStep_ov {T : List Ti} {cap : Int} {l : List Int} {i j : Nat} (h : ¬ (kd T i ≠ 3 ∨ l.getD i 0 ≤ cap)) (hn : nxtE T i = j) (hx : 1000000000000 < l.getD j 0 + (l.getD i 0 - cap)) : capStep T cap l i = none := by
  unfold capStep; rw [if_neg h, if_neg (by omega), hn, Int.toNat_natCast, if_pos hx]
theorem capStep_go {T : List Ti} {cap : Int} {l : List Int} {i j : Nat} (h : ¬ (kd T i ≠ 3 ∨ l.getD i 0 ≤ cap)) (hn : nxtE T i = j) (hx : ¬ 1000000000000 < l.getD j 0 + (l.getD i 0 - cap)) : capStep T cap l i = some ((l.set j (l.getD j 0 + (l.getD i 0 - cap))).set i cap) := by
  unfold capStep; rw [if_neg h, if_neg (by omega), hn, Int.toNat_natCast, if_neg hx]
theorem nxtTo_yes {T : List Ti} {f k : Nat} (h : kd T k ≠ 1) : nxtTo T (f + 1) k = k := by rw [nxtTo, if_neg h]
theorem nxtTo_no {T : List Ti} {f k : Nat} (h : kd T k = 1) : nxtTo T (f + 1) k = nxtTo T f (k + 1) := by rw [nxtTo, if_pos h]
theorem cap_some {g : Gm} {ts l : List Int} (h : rchkE g ts = 0) (hr : capR g ts = some l) : capE g ts = 0 ∧ capL g ts = l := by rw [capE_of h, capL_of h, hr]; exact ⟨rfl, rfl⟩
theorem cap_none {g : Gm} {ts : List Int} (h : rchkE g ts = 0) (hr : capR g ts = none) : capE g ts = 9 ∧ capL g ts = [] := by rw [capE_of h, capL_of h, hr]; exact ⟨rfl, rfl⟩
theorem Fr.back {w a b : World} {g0 : Nat} (h : Fr [] w a) (k : Fr [g0] a b) (hg : w.heap.size ≤ g0) : Fr [] w b := h.trans' k (by intro i hi; simp at hi; subst hi; exact .inr hg)
theorem game_len {g : Gm} (h : chkE g = 0) : 1 ≤ g.tiers.length ∧ g.tiers.length ≤ 12 := by
  have := (chkE_facts h).2.2
  unfold tisE at this
  split at this
  · simp at this
  · rename_i h1
    have := inR_of (by simpa using h1)
    omega
set_option maxRecDepth 20000 in
set_option maxHeartbeats 4000000 in
theorem cap_any (g : Gm) (v : Value) (ts : List Int) (w : World) (hok : g.Ok w) (hr : RdI w v ts) : Calls Try.prog 25 #[g.val, v] w (CapPost g ts w) := by
  have hK := fun w' (h : Fr [] w w') => rchk_any g v ts w' (hok.fr h) (hr.below h)
  have hP := fun E l (w' : World) => @cap_post g ts l E w w'
  by_cases he : rchkE g ts = 0
  · obtain ⟨q1, q2, q3⟩ := rchkE_facts he
    obtain ⟨n1, n2⟩ := game_len q1
    have hb := badT_bd (head_bd q1).2
    have hS := fun l => @cap_some g ts l he
    have hN := @cap_none g ts he
    have hC := fun w' (h : Fr [] w w') => clone_any v ts w' (hr.below h) (by omega) (by omega)
    rw [he] at hK
    have hc0 := hb.1
    have hc1 := hb.2.1
    have h18 : ∀ w b, GmAt w b g → w.cell? ⟨b, 18, none⟩ = some (.int .i64 g.cap) := fun w b h => h.cell 18 _ rfl
    have h21 : ∀ w b, GmAt w b g → w.cell? ⟨b, 21, none⟩ = some (.slice g.ta g.tiers.length g.tc) := fun w b h => h.cell 21 _ rfl
    obtain ⟨x0, hx0⟩ : ∃ x, g.tiers[0]? = some x := ⟨_, List.getElem?_eq_getElem (by omega)⟩
    obtain ⟨b, o, hta, hcl0⟩ := RdF.at (f := Ti.cells) hok.tiers.rd hx0
    have hbw : b < w.heap.size := lt_of_cell (hcl0 0 _ rfl)
    rw [hta] at h21
    have HTA := Lib.hid hta
    have hcr : capR g ts = if g.cap = 0 then some ts else capTo g.tiers g.cap g.tiers.length 0 ts := rfl
    have hst := CapInv.start g.tiers g.cap ts q3
    have hstep := fun l l' k => @CapInv.step g.tiers g.cap ts l l' k
    obtain ⟨cap, hcap⟩ : ∃ c, c = g.cap := ⟨_, rfl⟩
    rw [← hcap] at hc0 hc1 h18 hcr hst hstep
    obtain ⟨n, hNn⟩ : ∃ n, n = g.tiers.length := ⟨_, rfl⟩
    rw [← hNn] at h21 hcr n1 n2 q2 hstep
    have HQ2 := Lib.hid q2
    have HNn := Lib.hid hNn
    have HK := Lib.hid hK
    have HP := Lib.hid hP
    have HS := Lib.hid hS
    have HN := Lib.hid hN
    have HC := Lib.hid hC
    have H18 := Lib.hid h18
    have H21 := Lib.hid h21
    have HCR := Lib.hid hcr
    have HST := Lib.hid hst
    have HSTEP := Lib.hid hstep
    have HOK := Lib.hid hok
    obtain ⟨a, vc, rfl, hvc1, hvc2, hvr⟩ := hr
    have hvn : ts.length = n := q2
    rw [hvn] at HK HC ⊢
    clear hK hP hS hN hC h18 h21 hcr hok hstep hst hta hcl0 hx0 hb hcap hNn q1 q2 q3 he hvr hvc1 hvc2 hvn
    by_cases hz : cap = 0
    · have ez : (cap == 0) = true := by simpa using hz
      have hr2 := HCR.out
      rw [if_pos hz] at hr2
      obtain ⟨s1, s2⟩ := HS.out _ hr2
      have HS1 := Lib.hid s1
      have HS2 := Lib.hid s2
      clear hr2 s1 s2 hz hc0 hc1
      go_enter Try.func25, Try.ntmps25
      go_wp2_with (first | (refine box_game rfl (.tmp 0) rfl g rfl ?_; intro w1 hg1 hz1 hf1) | go_step3 | (refine load_game rfl (.tmp 2) rfl _ rfl g hg1 ?_))
      refine (HK.out _ hf1).mono ?_
      rintro e w2 ⟨rfl, f2⟩
      have hg2 := hg1.fr f2 (by simp)
      have hF2 := hf1.trans f2
      go_wp2_with fail
      refine (HC.out _ hF2).mono ?_
      rintro e w3 ⟨v3, rfl, ho3, f3⟩
      have c18 := H18.out _ _ (hg2.fr f3 (by simp))
      go_wp2_with fail
      (try rw [Exit.noGoto_ret])
      go_ret2
      exact HP.out _ _ _ _ HS1.out HS2.out (ho3.mono hF2.size) (hF2.trans f3)
    · have ez : (cap == 0) = false := by simpa using hz
      have hr2 := HCR.out
      rw [if_neg hz] at hr2
      have HR := Lib.hid hr2
      clear hr2 hz
      go_enter Try.func25, Try.ntmps25
      go_wp2_with (first | (refine box_game rfl (.tmp 0) rfl g rfl ?_; intro w1 hg1 hz1 hf1) | go_step3 | (refine load_game rfl (.tmp 2) rfl _ rfl g hg1 ?_))
      refine (HK.out _ hf1).mono ?_
      rintro e w2 ⟨rfl, f2⟩
      have hg2 := hg1.fr f2 (by simp)
      have hF2 := hf1.trans f2
      go_wp2_with fail
      refine (HC.out _ hF2).mono ?_
      rintro e w3 ⟨v3, rfl, ho3, f3⟩
      have hg3 := hg2.fr f3 (by simp)
      have hF3 := hF2.trans f3
      have c18 := H18.out _ _ hg3
      have c21 := H21.out _ _ hg3
      have hbw2 := hF2.size
      have hB1 := hg2.lt
      obtain ⟨g0, cap0, rfl, hgb, hgl, _, _⟩ := ho3.form (by have := HQ2.out; omega)
      rw [HQ2.out] at ho3 ⊢
      have HO3 := Lib.hid ho3
      have HG3 := Lib.hid hg3
      have HF3 := Lib.hid hF3
      have hgw : w.heap.size ≤ g0 := by omega
      have hgw2 : w.heap.size < g0 := by omega
      clear hz1 hg1 hf1 f2 hg2 hF2 f3 hg3 hF3 ho3 HK HC
      go_wp2_with fail
      go_step3
      go_wp2_with fail
      have hn0 : (0 : Int) ≤ (n : Int) := by omega
      go_loopw [26] (fun i wr => ∃ (k : Nat) (l : List Int), k ≤ n ∧ i = .int .i64 k ∧ OwnI wr w2.heap.size 3 (.slice (some ⟨g0, 0, none⟩) n cap0) l ∧ Hid (CapInv g.tiers cap ts k l) ∧ Fr [g0] w3 wr ∧ Hid (capR g ts = capTo g.tiers cap (n - k) k l)) (fun i _ => n - (intOf i).toNat)
      case atStart => exact ⟨0, ts, by omega, rfl, HO3.out, HST, Fr.refl _ _, HR⟩
      case round =>
        obtain ⟨k, l, hk, rfl, ho, HI, hf, HT⟩ := hrel
        have r18 := hf.cell_some c18 (by simp; omega)
        have r21 := hf.cell_some c21 (by simp; omega)
        have hFb := HF3.out.back hf hgw
        by_cases hlt : k < n
        · obtain ⟨x, hx⟩ : ∃ x, g.tiers[k]? = some x := ⟨_, List.getElem?_eq_getElem (by have := HNn.out; omega)⟩
          obtain ⟨b', o', hta', hcell⟩ := RdF.at (f := Ti.cells) HOK.out.tiers.rd hx
          rw [HTA.out] at hta'
          simp only [Option.some.injEq, Addr.mk.injEq, and_true] at hta'
          obtain ⟨rfl, rfl⟩ := hta'
          have c0 := hf.cell_some (HF3.out.cell_some (hcell 0 _ rfl) (by simp)) (by simp; omega)
          have c1 := hf.cell_some (HF3.out.cell_some (hcell 1 _ rfl) (by simp)) (by simp; omega)
          have c2 := hf.cell_some (HF3.out.cell_some (hcell 2 _ rfl) (by simp)) (by simp; omega)
          have c3 := hf.cell_some (HF3.out.cell_some (hcell 3 _ rfl) (by simp)) (by simp; omega)
          have c4 := hf.cell_some (HF3.out.cell_some (hcell 4 _ rfl) (by simp)) (by simp; omega)
          have c5 := hf.cell_some (HF3.out.cell_some (hcell 5 _ rfl) (by simp)) (by simp; omega)
          rw [Nat.add_zero] at c0
          have hkd : kd g.tiers k = x.kind := by simp [kd, List.getD, hx]
          have hll : l.length = n := HI.out.len.trans HQ2.out
          have cl := ho.cell k (by omega)
          have hamt := amtB_at HI.out.amt k
          have HAMT := Lib.hid HI.out.amt
          have hT := HT.out
          rw [show n - k = (n - (k + 1)) + 1 by omega] at hT
          have hgo := fun l' => @capTo_go g.tiers cap l l' (n - (k + 1)) k
          have hno := @capTo_no g.tiers cap l (n - (k + 1)) k
          have hinv := fun l' (h : capStep g.tiers cap l k = some l') => HSTEP.out l l' k HI.out HQ2.out hlt hc0 hc1 h
          have hskip := @capStep_skip g.tiers cap l k
          have hnone := @capStep_none g.tiers cap l k
          have hov := fun j => @capStep_ov g.tiers cap l k j
          have hstp := fun j => @capStep_go g.tiers cap l k j
          rw [hkd] at hskip hnone hov hstp
          obtain ⟨y, hy⟩ : ∃ y, y = l.getD k 0 := ⟨_, rfl⟩
          rw [← hy] at cl hamt hskip hnone hov hstp
          obtain ⟨tm, tb, te, to_, tk, tv⟩ := x
          simp only at c0 c1 c2 c3 c4 c5 hskip hnone hov hstp
          have m1 := fun ob => ((Fr.refl [] wr).alloc ob).cell_some cl (by simp)
          have m18 := fun ob => ((Fr.refl [] wr).alloc ob).cell_some r18 (by simp)
          have hFa : ∀ o, Fr [] wr (wr.alloc o) := fun o => (Fr.refl [] wr).alloc o
          have HFA := Lib.hid hFa
          have HT2 := Lib.hid hT
          have HGO := Lib.hid hgo
          have HNO := Lib.hid hno
          have HINV := Lib.hid hinv
          have HSKIP := Lib.hid hskip
          have HNONE := Lib.hid hnone
          have HOV := Lib.hid hov
          have HSTP := Lib.hid hstp
          have HY := Lib.hid hy
          have HOO := Lib.hid ho
          have HLL := Lib.hid hll
          have HR18 := Lib.hid r18
          have HR21 := Lib.hid r21
          have hkn : (k : Int) < (n : Int) := by omega
          have hk0 : (0 : Int) ≤ (k : Int) := by omega
          have hy0 : 0 ≤ y := hamt.1
          have hy1 : y ≤ 1000000000000 := hamt.2
          clear hcell hx hkd hll hamt hT hgo hno hinv hskip hnone hov hstp hy cl r18 r21 hFa HI HT ho hFb
          obtain ⟨wo, rfl⟩ : ∃ wo : World, wo = wr := ⟨_, rfl⟩
          by_cases h3 : tk = 3
          · have e3 : (tk != 3) = false := by simpa using h3
            by_cases hle : y ≤ cap
            · have el : decide (y ≤ cap) = true := by simpa using hle
              have hs := HSKIP.out (.inr hle)
              have hi := HINV.out _ hs
              have hq := HT2.out.trans (HGO.out _ hs)
              have HI2 := Lib.hid hi
              have HQ := Lib.hid hq
              clear hs hi hq h3 hle
              go_wp2_with fail
              go_quiet (fail)
              go_wp2
              exact ⟨⟨k + 1, l, by omega, by go_num, HOO.out.fr ((HFA.out _).drewN _) (by simp), HI2, (hf.alloc _).drewN _, HQ⟩, by simp [intOf]; omega⟩
            · have el : decide (y ≤ cap) = false := by simpa using hle
              have hcond : ¬ (tk ≠ 3 ∨ y ≤ cap) := by omega
              have HCOND := Lib.hid hcond
              have hly : cap < y := by omega
              clear h3 hle hcond
              go_wp2_with fail
              go_quiet (fail)
              obtain ⟨wq, hwq⟩ : ∃ wq, wq = (wo.alloc (.cells #[.int .i64 tm, .int .i64 tb, .int .i64 te, .int .i64 to_, .int .i64 tk, .int .i64 tv] 40)).drewN nq := ⟨_, rfl⟩
              have hA : Fr [] wo wq := by rw [hwq]; exact (HFA.out _).drewN _
              rw [← hwq]
              clear hwq m1 m18
              have hfq := hf.trans (hA.mono (cs := [g0]) (by simp))
              have hoq := HOO.out.fr hA (by simp)
              have s18 := hA.cell_some HR18.out (by simp)
              have s21 := hA.cell_some HR21.out (by simp)
              have HHF := Lib.hid hfq
              have HOQ := Lib.hid hoq
              clear hfq hoq hf c0 c1 c2 c3 c4 c5
              go_wp2_with fail
              go_loop [10] (fun j => ∃ m : Nat, k + 1 ≤ m ∧ m ≤ n ∧ j = .int .i64 m ∧ Hid (nxtE g.tiers k = nxtTo g.tiers (n - m) m)) (fun j => n - (intOf j).toNat)
              case atStart => exact ⟨k + 1, by omega, by omega, by go_num, Lib.hid (by unfold nxtE; rw [← HNn.out])⟩
              case round =>
                obtain ⟨m, hm1, hm, rfl, HX⟩ := hrel
                by_cases hlm : m < n
                · obtain ⟨z, hz⟩ : ∃ x, g.tiers[m]? = some x := ⟨_, List.getElem?_eq_getElem (by have := HNn.out; omega)⟩
                  obtain ⟨b', o', hta', hcell⟩ := RdF.at (f := Ti.cells) HOK.out.tiers.rd hz
                  rw [HTA.out] at hta'
                  simp only [Option.some.injEq, Addr.mk.injEq, and_true] at hta'
                  obtain ⟨rfl, rfl⟩ := hta'
                  have d4 := HHF.out.cell_some (HF3.out.cell_some (hcell 4 _ rfl) (by simp)) (by simp; omega)
                  have hkd : kd g.tiers m = z.kind := by simp [kd, List.getD, hz]
                  have hX := HX.out
                  rw [show n - m = (n - (m + 1)) + 1 by omega] at hX
                  have hyes := @nxtTo_yes g.tiers (n - (m + 1)) m
                  have hnn := @nxtTo_no g.tiers (n - (m + 1)) m
                  rw [hkd] at hyes hnn
                  generalize z.kind = zk at *
                  have hmn : (m : Int) < (n : Int) := by omega
                  have hm0 : (0 : Int) ≤ (m : Int) := by omega
                  have HXX := Lib.hid hX
                  have HYES := Lib.hid hyes
                  have HNN := Lib.hid hnn
                  clear hcell hz hkd hX hyes hnn HX
                  by_cases h1 : zk = 1
                  · have e1 : (zk == 1) = true := by simpa using h1
                    have hq := HXX.out.trans (HNN.out h1)
                    have HQ := Lib.hid hq
                    clear hq h1
                    go_wp2_with fail
                    go_round
                    case rel => exact ⟨m + 1, by omega, by omega, by go_num, HQ⟩
                    case measure => simp [intOf]; omega
                  · have e1 : (zk == 1) = false := by simpa using h1
                    have hq := HXX.out.trans (HYES.out h1)
                    have hov := HOV.out m HCOND.out hq
                    have hstp := HSTP.out m HCOND.out hq
                    have ck := HOQ.out.cell k (by have := HLL.out; omega)
                    have cm := HOQ.out.cell m (by have := HLL.out; omega)
                    have fk := HOQ.out.frozen k
                    have fm := HOQ.out.frozen m
                    have ham := amtB_at HAMT.out m
                    rw [← HY.out] at ck
                    have hset := fun X => (HOQ.out.set m X).set k cap
                    generalize l.getD m 0 = u at *
                    have hne : ¬ k = m := by omega
                    have hne2 : ¬ m = k := by omega
                    have hu0 : 0 ≤ u := ham.1
                    have hu1 : u ≤ 1000000000000 := ham.2
                    have HSET := Lib.hid hset
                    have HOV2 := Lib.hid hov
                    have HSTP2 := Lib.hid hstp
                    clear hq hov hstp ham hset h1
                    by_cases hgt : 1000000000000 < u + (y - cap)
                    · have eg : decide (1000000000000 < u + (y - cap)) = true := by simpa using hgt
                      have hs := HOV2.out hgt
                      have hq := HT2.out.trans (HNO.out hs)
                      obtain ⟨s1, s2⟩ := HN.out hq
                      have HS1 := Lib.hid s1
                      have HS2 := Lib.hid s2
                      clear hs hq s1 s2
                      go_wp2_with fail
                      go_region
                      go_wp2_with fail
                      (try rw [Exit.noGoto_ret])
                      go_ret2
                      refine HP.out _ _ _ _ HS1.out HS2.out (OwnI.nil _ _ _) (HF3.out.back ?_ hgw)
                      exact Fr.drew (Fr.setCell (Fr.setCell HHF.out (.inl (by simp)) _) (.inl (by simp)) _)
                    · have eg : decide (1000000000000 < u + (y - cap)) = false := by simpa using hgt
                      have hs := HSTP2.out (by omega)
                      have hi := HINV.out _ hs
                      have hq := HT2.out.trans (HGO.out _ hs)
                      have HI2 := Lib.hid hi
                      have HQ := Lib.hid hq
                      clear hs hi hq
                      go_wp2_with fail
                      go_region
                      go_wp2_with fail
                      exact ⟨⟨k + 1, _, by omega, by go_num, HSET.out _, HI2, Fr.drew (Fr.setCell (Fr.setCell HHF.out (.inl (by simp)) _) (.inl (by simp)) _), HQ⟩, by simp [intOf]; omega⟩
                · obtain rfl : m = n := by omega
                  have hq : nxtE g.tiers k = -1 := by rw [HX.out, Nat.sub_self]; rfl
                  have hs := HNONE.out HCOND.out hq
                  have hi := HINV.out _ hs
                  have hq2 := HT2.out.trans (HGO.out _ hs)
                  have HI2 := Lib.hid hi
                  have HQ := Lib.hid hq2
                  clear hs hi hq hq2
                  go_wp2_with fail
                  exact ⟨⟨k + 1, l, by omega, by go_num, HOQ.out, HI2, HHF.out, HQ⟩, by simp [intOf]; omega⟩
          · have e3 : (tk != 3) = true := by simpa using h3
            have hs := HSKIP.out (.inl h3)
            have hi := HINV.out _ hs
            have hq := HT2.out.trans (HGO.out _ hs)
            have HI2 := Lib.hid hi
            have HQ := Lib.hid hq
            clear hs hi hq h3
            go_wp2_with fail
            go_quiet (fail)
            go_wp2
            exact ⟨⟨k + 1, l, by omega, by go_num, HOO.out.fr ((HFA.out _).drewN _) (by simp), HI2, (hf.alloc _).drewN _, HQ⟩, by simp [intOf]; omega⟩
        · obtain rfl : k = n := by omega
          have hq : capR g ts = some l := by rw [HT.out, Nat.sub_self]; rfl
          obtain ⟨s1, s2⟩ := HS.out _ hq
          have HS1 := Lib.hid s1
          have HS2 := Lib.hid s2
          have HOW := Lib.hid (ho.mono hbw2)
          have HFB := Lib.hid hFb
          clear hq s1 s2 ho hFb
          go_wp2_with fail
          (try rw [Exit.noGoto_ret])
          go_ret2
          exact HP.out _ _ _ _ HS1.out HS2.out HOW.out HFB.out
  · have hE : capE g ts = rchkE g ts := if_pos he
    have hL := cap_err (g := g) (ts := ts) (by rw [hE]; exact he)
    generalize rchkE g ts = ce at *
    have ez : (ce != 0) = true := by simpa using he
    have HK := Lib.hid hK
    have HP := Lib.hid hP
    have HE := Lib.hid hE
    have HL := Lib.hid hL
    clear hK hP hE hL he hok hr
    go_enter Try.func25, Try.ntmps25
    go_wp2_with (first | (refine box_game rfl (.tmp 0) rfl g rfl ?_; intro w1 hg1 hz1 hf1) | go_step3 | (refine load_game rfl (.tmp 2) rfl _ rfl g hg1 ?_))
    refine (HK.out _ hf1).mono ?_
    rintro e w2 ⟨rfl, f2⟩
    go_wp2_with fail
    (try rw [Exit.noGoto_ret])
    go_ret2
    exact HP.out _ _ _ _ HE.out HL.out (OwnI.nil _ _ _) (hf1.trans f2)
end Go.Proofs.Ytdinjekpcgndmaa
