/-
  LAYER 37: Flow of the reference: the same as the program's.
-/
import Derived.Test.YtdinjekpcgndmaaFlowP
import Derived.Deep.DeepCutAuto
import Derived.StillTailTactics
import Derived.Test.YtdinjekpcgndmaaRLater
import Derived.Test.YtdinjekpcgndmaaTisF
set_option linter.unusedVariables false
namespace Go.Proofs.Ytdinjekpcgndmaa
open Go.RowKit
attribute [local go_sem ↓] Go.wp_at_zero Go.wp_at_succ
theorem Fr.rangeN {bs : List Nat} {w w' : World} (h : Fr bs w w') {b o : Nat} {cs : List Value} (hr : w.rangeAt b o cs) (hn : b ∉ bs) : w'.rangeAt b o cs := fun j v hv => h.cell_some (hr j v hv) hn
/-- what holds within a round of Flow -/
structure RSt (g : Gm) (w w3 : World) (e : TypeId) (gp gc n : Nat) (L M : List Int) (a1 : Addr) (tx : Int) (a2 : Addr) (y : Int) (x : World) : Prop where
  gm : GmAt x w.heap.size g
  fw : Fr [] w x
  op : OwnI x w.heap.size e (.slice (some ⟨gp, 0, none⟩) n n) L
  oc : OwnI x w.heap.size e (.slice (some ⟨gc, 0, none⟩) n n) M
  ct : x.cell? a1 = some (.int .i64 tx)
  cc : x.cell? a2 = some (.int .i64 y)
  ff : Fr [gp, gc] w3 x
theorem RSt.fr {g : Gm} {w w3 x x' : World} {e : TypeId} {gp gc n : Nat} {L M : List Int} {a1 a2 : Addr} {tx y : Int} (h : RSt g w w3 e gp gc n L M a1 tx a2 y x) (hf : Fr [] x x') : RSt g w w3 e gp gc n L M a1 tx a2 y x' :=
  ⟨h.gm.fr hf (by simp), h.fw.trans hf, h.op.fr hf (by simp), h.oc.fr hf (by simp), hf.cell_some h.ct (by simp), hf.cell_some h.cc (by simp), h.ff.trans (hf.mono (by simp))⟩
theorem RSt.pool {g : Gm} {w w3 x : World} {e : TypeId} {gp gc n : Nat} {L M : List Int} {a1 a2 : Addr} {tx y : Int} (h : RSt g w w3 e gp gc n L M a1 tx a2 y x) (h1 : a1.block < w.heap.size) (h2 : a2.block < w.heap.size) (hp : w.heap.size < gp) (hne : gp ≠ gc) (j : Nat) (X : Int) :
    RSt g w w3 e gp gc n (L.set j X) M a1 tx a2 y (x.setCell ⟨gp, j, none⟩ (.int .i64 X)) := by
  have f1 : Fr [gp] x (x.setCell ⟨gp, j, none⟩ (.int .i64 X)) := (Fr.refl [gp] x).setCell (.inl (by simp)) _
  exact ⟨h.gm.fr f1 (by simp; omega), h.fw.back f1 (by omega), h.op.set j X, h.oc.fr f1 (by simp [Value.ownBlock]; omega), f1.cell_some h.ct (by simp; omega), f1.cell_some h.cc (by simp; omega), h.ff.trans (f1.mono (by simp))⟩
theorem RSt.carry {g : Gm} {w w3 x : World} {e : TypeId} {gp gc n : Nat} {L M : List Int} {a1 a2 : Addr} {tx y : Int} (h : RSt g w w3 e gp gc n L M a1 tx a2 y x) (h1 : a1.block < w.heap.size) (h2 : a2.block < w.heap.size) (hp : w.heap.size < gc) (hne : gp ≠ gc) (j : Nat) (X : Int) :
    RSt g w w3 e gp gc n L (M.set j X) a1 tx a2 y (x.setCell ⟨gc, j, none⟩ (.int .i64 X)) := by
  have f1 : Fr [gc] x (x.setCell ⟨gc, j, none⟩ (.int .i64 X)) := (Fr.refl [gc] x).setCell (.inl (by simp)) _
  exact ⟨h.gm.fr f1 (by simp; omega), h.fw.back f1 (by omega), h.op.fr f1 (by simp [Value.ownBlock]; omega), h.oc.set j X, f1.cell_some h.ct (by simp; omega), f1.cell_some h.cc (by simp; omega), h.ff.trans (f1.mono (by simp))⟩
def RRel (g : Gm) (cs ts : List Int) (must : Bool) (n : Nat) (w w3 : World) (e : TypeId) (gp gc : Nat) (fb : Bool) (s i : Value) (wr : World) : Prop :=
  ∃ (k : Nat) (q : Bool) (L M : List Int), k ≤ n ∧ i = .int .i64 k ∧ s = .bool q ∧ OwnI wr w.heap.size e (.slice (some ⟨gp, 0, none⟩) n n) L ∧ OwnI wr w.heap.size e (.slice (some ⟨gc, 0, none⟩) n n) M ∧ Hid (flTo g.tiers cs ts must n k = (L, M)) ∧ Hid (q = (fb || anyTo (wonP g.tiers cs must) k)) ∧ Fr [gp, gc] w3 wr
theorem rrel_mk {g : Gm} {cs ts : List Int} {must : Bool} {n : Nat} {w w3 : World} {e : TypeId} {gp gc : Nat} {fb : Bool} {s i : Value} {wr : World} (k : Nat) (q : Bool) (L M : List Int) (hk : k ≤ n) (hi : i = .int .i64 k) (hs : s = .bool q)
    (hp : OwnI wr w.heap.size e (.slice (some ⟨gp, 0, none⟩) n n) L) (hc : OwnI wr w.heap.size e (.slice (some ⟨gc, 0, none⟩) n n) M) (hT : flTo g.tiers cs ts must n k = (L, M)) (hq : q = (fb || anyTo (wonP g.tiers cs must) k)) (hf : Fr [gp, gc] w3 wr) :
    RRel g cs ts must n w w3 e gp gc fb s i wr := ⟨k, q, L, M, hk, hi, hs, hp, hc, hT, hq, hf⟩
theorem RSt.dr {g : Gm} {w w3 x : World} {e : TypeId} {gp gc n : Nat} {L M : List Int} {a1 a2 : Addr} {tx y : Int} (h : RSt g w w3 e gp gc n L M a1 tx a2 y x) : RSt g w w3 e gp gc n L M a1 tx a2 y x.drew := h.fr (Fr.refl [] x).drew
theorem two_made0 {w : World} {n : Nat} {e : TypeId} (hn : n ≤ maxLen) : ∀ W, W = ((w.alloc (.cells (madeCells #[Value.int .i64 0] n) e)).alloc (.cells (madeCells #[Value.int .i64 0] n) e)) →
    W.heap.size = w.heap.size + 2 ∧ OwnI W w.heap.size e (.slice (some ⟨w.heap.size, 0, none⟩) n n) (List.replicate n 0) ∧ OwnI W w.heap.size e (.slice (some ⟨w.heap.size + 1, 0, none⟩) n n) (List.replicate n 0) ∧ Fr [] w W := by
  intro W hW
  subst hW
  have h1 := made_own (w := w) (o := .cells (madeCells #[Value.int .i64 0] n) e) rfl hn rfl
  have h2 := made_own (w := w.alloc (.cells (madeCells #[Value.int .i64 0] n) e)) (o := .cells (madeCells #[Value.int .i64 0] n) e) (g0 := w.heap.size + 1) (by simp) hn rfl
  refine ⟨by simp, ?_, ?_, (((Fr.refl [] w).alloc _).alloc _)⟩
  · exact h1.fr (((Fr.refl [] _).alloc _)) (by simp)
  · exact h2.mono (by omega)
set_option maxRecDepth 20000 in
set_option maxHeartbeats 8000000 in
theorem rflow_any (g : Gm) (v1 v2 : Value) (ts cs : List Int) (rolls : Int) (w : World) (hok : g.Ok w) (hr1 : RdI w v1 ts) (hr2 : RdI w v2 cs) : Calls Try.prog 23 #[g.val, v1, v2, .int .i64 rolls] w (FlPost g ts cs rolls w) := by
  have hK := fun w' (h : Fr [] w w') => amounts_any g v1 ts w' (hok.fr h) (hr1.below h)
  have hB := fun E (w' : World) => @fl_bad g ts cs rolls E w w'
  have hE0 : flE g ts cs rolls = if rchkE g ts ≠ 0 then rchkE g ts else if cs.length ≠ g.tiers.length ∨ rolls < 0 ∨ 64 < rolls then 2 else if negB cs = true then 2 else if anyTo (ovP (flS g ts cs rolls)) g.tiers.length = true then 9 else 0 := rfl
  have h21 : ∀ w b, GmAt w b g → w.cell? ⟨b, 21, none⟩ = some (.slice g.ta g.tiers.length g.tc) := fun w b h => h.cell 21 _ rfl
  by_cases he : rchkE g ts = 0
  · rw [if_neg (by omega)] at hE0
    obtain ⟨q1, q2, q3⟩ := rchkE_facts he
    obtain ⟨n1, n2⟩ := game_len q1
    have hbt := badT_bd (head_bd q1).2
    have hkinds := fun i t (h : g.tiers[i]? = some t) => (tis_kind (chkE_facts q1).2.2 i t h).1
    rw [he] at hK
    obtain ⟨a1, vc1, rfl, hvc1, hvc2, hvr1⟩ := id hr1
    obtain ⟨a2, vc2, rfl, hvc3, hvc4, hvr2⟩ := id hr2
    have hcl : cs.length ≤ 9223372036854775807 := Nat.le_trans hvc3 hvc4
    by_cases hn : cs.length = g.tiers.length
    · by_cases hr0 : 0 ≤ rolls
      · by_cases hr64 : rolls ≤ 64
        · rw [if_neg (by omega)] at hE0
          have hneg : negB cs = true → flE g ts cs rolls = 2 := fun h => by rw [hE0, if_pos h]
          have hov : negB cs = false → anyTo (ovP (flS g ts cs rolls)) g.tiers.length = true → flE g ts cs rolls = 9 := fun h k => by rw [hE0, if_neg (by simp [h]), if_pos k]
          have hfin : negB cs = false → anyTo (ovP (flS g ts cs rolls)) g.tiers.length = false → flE g ts cs rolls = 0 := fun h k => by rw [hE0, if_neg (by simp [h]), if_neg (by simp [k])]
          have hG := fun (w' : World) p c N L M => @fl_good g ts cs rolls w w' p c N L M
          have hLt := fun (hp : ∀ j, 0 ≤ cs.getD j 0) w' (h : Fr [] w w') (i : Nat) (hi : i < g.tiers.length) => rlater_any g _ cs i w' (hok.tiers.fr h) (hr2.below h) hn hi hp
          have hFI := fun w' (h : Fr [] w w') => first_any g w' (hok.tiers.fr h)
          have hFIA := fun w' (h : Fr [] w w') => first_any g w' (hok.tiers.fr h)
          have hJK := fun w' (h : Fr [] w w') (i : Nat) (hi : i < g.tiers.length) => jackpot_any g i w' (hok.tiers.fr h) hi
          have hFL := fun w' (h : Fr [] w w') (i : Nat) (hi : i < g.tiers.length) => flowing_any g i w' (hok.tiers.fr h) hi
          have hfo := fstE_of g.tiers
          have hMU : mustB g rolls = decide (g.rolls ≠ 0 ∧ g.rolls ≤ rolls + 1) := rfl
          have hSS : flS g ts cs rolls = flTo g.tiers cs ts (mustB g rolls) g.tiers.length g.tiers.length := rfl
          have hinv := fun k => @flTo_inv g.tiers cs ts (mustB g rolls) q3 k
          have h19 : ∀ w b, GmAt w b g → w.cell? ⟨b, 19, none⟩ = some (.int .i64 g.rolls) := fun w b h => h.cell 19 _ rfl
          have hgr : ∀ w b, GmAt w b g → w.rangeAt b 0 g.cells := fun w b h j v hv => by rw [Nat.zero_add]; exact h.cell j v hv
          simp only [show g.val = .agg g.cells.toArray from rfl] at hFIA
          obtain ⟨cs0, hcs0⟩ : ∃ c, c = g.cells := ⟨_, rfl⟩
          have hcl0 : cs0.length = 22 := by rw [hcs0]; rfl
          rw [← hcs0] at hFIA hgr
          have hrr := rolE_ref g.tiers cs (mustB g rolls) rolls
          obtain ⟨gr, hgrr⟩ : ∃ r, r = g.rolls := ⟨_, rfl⟩
          rw [← hgrr] at hMU h19
          have hgr0 : 0 ≤ gr := by rw [hgrr]; exact hbt.2.2.1
          have hgr1 : gr ≤ 64 := by rw [hgrr]; exact hbt.2.2.2.1
          obtain ⟨n, hNn⟩ : ∃ n, n = g.tiers.length := ⟨_, rfl⟩
          have hcn : cs.length = n := by rw [hn, hNn]
          rw [hn] at hvr2 hcl hLt ⊢
          rw [q2] at hvr1 hK ⊢
          rw [← hNn] at h21 n1 n2 hvr1 hvr2 hcl hLt hov hfin hK hSS hinv hJK hFL hrr ⊢
          obtain ⟨must, hmu⟩ : ∃ m, m = mustB g rolls := ⟨_, rfl⟩
          rw [← hmu] at hMU hinv hSS hrr
          have hamt := fun k => amtB_at q3 k
          have hGm : ∀ (w' : World) p c N L M, flE g ts cs rolls = 0 → flS g ts cs rolls = (L, M) → rolE g.tiers cs must rolls = N → OwnI w' w.heap.size 3 p L → OwnI w' w.heap.size 3 c M → Fr [] w w' → FlPost g ts cs rolls w (.returned (.tuple #[p, c, .int .i64 N, .int .i64 0])) w' := by
            intro w' p c N L M h1 h2 h3 h4 h5 h6
            rw [hmu] at h3
            exact hG w' p c N L M h1 h2 h3 h4 h5 h6
          have HCN := Lib.hid hcn
          have HTN := Lib.hid (show ts.length = n by rw [q2, hNn])
          have HNn := Lib.hid hNn
          have HK := Lib.hid hK
          have HB := Lib.hid hB
          have HNEG := Lib.hid hneg
          have HOV := Lib.hid hov
          have HFIN := Lib.hid hfin
          have HG := Lib.hid hGm
          have HLT := Lib.hid hLt
          have HFI := Lib.hid hFI
          have HFIA := Lib.hid hFIA
          have HJK := Lib.hid hJK
          have HFL := Lib.hid hFL
          have HKI := Lib.hid hkinds
          have HFO := Lib.hid hfo
          have HMU := Lib.hid hMU
          have HSS := Lib.hid hSS
          have HINV := Lib.hid hinv
          have HAMT := Lib.hid hamt
          have HGR := Lib.hid hgr
          have HCL0 := Lib.hid hcl0
          have HRR := Lib.hid hrr
          have H19 := Lib.hid h19
          have H21 := Lib.hid h21
          have HR1 := Lib.hid hvr1
          have HR2 := Lib.hid hvr2
          have e0 : ((n : Int) != n) = false := by simp
          have e1 : decide (rolls < 0) = false := by simpa using hr0
          have e2 : decide (64 < rolls) = false := by simpa using hr64
          have hn0 : (0 : Int) ≤ (n : Int) := by omega
          clear hK hB hE0 h21 q1 q2 q3 hbt hr1 hr2 hvc1 hvc2 hvc3 hvc4 hvr1 hvr2 hn hneg hov hfin hG hLt hFI hFIA hJK hFL hkinds hfo hMU hSS hinv h19 hgr hgrr hcs0 hcl0 hrr hNn hmu hamt hcn hok hGm he
          go_enter Try.func23, Try.ntmps23
          go_wp2_with (first | (refine box_game rfl (.tmp 0) rfl g rfl ?_; intro w1 hg1 hz1 hf1) | (refine load_game rfl (.tmp 4) rfl _ rfl g hg1 ?_))
          refine (HK.out _ hf1).mono ?_
          rintro e w2 ⟨rfl, f2⟩
          have hg2 := hg1.fr f2 (by simp)
          have hF2 := hf1.trans f2
          have c19 := H19.out _ _ hg2
          have c21 := H21.out _ _ hg2
          have hsz2 := hF2.size
          have hB1 := hg2.lt
          clear hz1 hg1 hf1 f2 HK
          go_wp2_with fail
          go_loop [13] (fun i => ∃ k : Nat, k ≤ n ∧ i = .int .i64 k ∧ Hid (∀ j, j < k → ¬ cs.getD j 0 < 0)) (fun i => n - (intOf i).toNat)
          case atStart => exact ⟨0, by omega, rfl, Lib.hid (by omega)⟩
          case round =>
            obtain ⟨k, hk, rfl, HA⟩ := hrel
            by_cases hlt : k < n
            · obtain ⟨g1, o1, rfl, hcell⟩ := HR2.out k hlt
              have hcell := hF2.cell_some hcell (by simp)
              have hyes := negB_yes (cs := cs) k (by have := HCN.out; omega)
              obtain ⟨x, hx⟩ : ∃ x, x = cs.getD k 0 := ⟨_, rfl⟩
              rw [← hx] at hcell hyes
              have HX := Lib.hid hx
              have HYES := Lib.hid hyes
              clear hx hyes
              by_cases hb : x < 0
              · have hq := HNEG.out (HYES.out hb)
                have HQ := Lib.hid hq
                have eb : decide (x < 0) = true := by simpa using hb
                clear hq hb
                go_wp2_with fail
                exact bodyPost_ret (v := .tuple #[.slice none 0 0, .slice none 0 0, .int .i64 0, .int .i64 2]) (by simp [results, Try.results23, go_sem]) rfl (HB.out _ _ HQ.out (by omega) hF2)
              · have eb : decide (x < 0) = false := by simpa using hb
                go_wp2_with fail
                go_round
                case rel =>
                  refine ⟨k + 1, by omega, by go_num, Lib.hid fun j hj => ?_⟩
                  by_cases hjk : j < k
                  · exact HA.out j hjk
                  · obtain rfl : j = k := by omega
                    rw [← HX.out]; exact hb
                case measure => simp [intOf]; omega
            · obtain rfl : n = k := by omega
              have hng := negB_no (cs := cs) (by rw [HCN.out]; exact HA.out)
              have hpos : ∀ j, 0 ≤ cs.getD j 0 := by
                intro j
                by_cases hj : j < n
                · have := HA.out j hj; omega
                · have : cs.getD j 0 = 0 := by
                    have := HCN.out
                    simp [List.getD, show ¬ j < cs.length by omega]
                  omega
              have HNG := Lib.hid hng
              have HPOS := Lib.hid hpos
              clear hng HA HNEG hpos
              go_upto_region 11 with (fail)
              go_cut [14] (fun m wx => m = .bool must ∧ wx = w2)
              case first =>
                by_cases hz : gr = 0
                · have hm : must = false := by rw [HMU.out]; simp [hz]
                  have HM := Lib.hid hm
                  have ez : (gr != 0) = false := by simpa using hz
                  clear hm hz
                  go_wp2_with fail
                  go_meet
                  case rel => exact ⟨by rw [HM.out], rfl⟩
                · have ez : (gr != 0) = true := by simpa using hz
                  by_cases hge : gr ≤ rolls + 1
                  · have hm : must = true := by rw [HMU.out]; simp [hz, hge]
                    have HM := Lib.hid hm
                    have eg : decide (gr ≤ rolls + 1) = true := by simpa using hge
                    clear hm hz
                    go_wp2_with fail
                    go_meet
                    case rel => exact ⟨by rw [HM.out], rfl⟩
                  · have hm : must = false := by rw [HMU.out]; simp [hge]
                    have HM := Lib.hid hm
                    have eg : decide (gr ≤ rolls + 1) = false := by simpa using hge
                    clear hm hz
                    go_wp2_with fail
                    go_meet
                    case rel => exact ⟨by rw [HM.out], rfl⟩
              case rest =>
                obtain ⟨rfl, hww⟩ := hcut
                obtain rfl : w2 = wc := hww.symm
                clear HMU c19 hgr0 hgr1 H19
                have hmk := fun w => run_make_row' (P := Try.prog) 31 3 (.int .i64 0) 8 Try.underlying31 infoIntC rfl .i64 .i64 n (by omega) (by omega) w
                obtain ⟨z, o1, o2, f⟩ := two_made0 (w := w2) (n := n) (e := 3) (by unfold maxLen; omega) _ rfl
                have ZZ := Lib.hid z
                have HO1 := Lib.hid o1
                have HO2 := Lib.hid o2
                have HFM := Lib.hid f
                have HGM := Lib.hid (hg2.fr f (by simp))
                clear z o1 o2 f
                go_wp2_with (refine load_game rfl (.tmp 4) rfl _ rfl g HGM.out ?_)
                refine (HFI.out _ (hF2.trans HFM.out)).mono ?_
                rintro e w3 ⟨rfl, f3⟩
                have hp0 := (HO1.out.fr f3 (by simp)).mono hsz2
                have hc0 := (HO2.out.fr f3 (by simp)).mono hsz2
                have hg3 := HGM.out.fr f3 (by simp)
                have hF3 := (hF2.trans HFM.out).trans f3
                obtain ⟨gp, hgp⟩ : ∃ x, x = w2.heap.size := ⟨_, rfl⟩
                have hsz3 : w2.heap.size + 2 ≤ w3.heap.size := by have := f3.size; rw [ZZ.out] at this; exact this
                rw [← hgp] at hp0 hc0 hsz3 hB1 hsz2 ⊢
                obtain ⟨gc, hgc⟩ : ∃ x, x = gp + 1 := ⟨_, rfl⟩
                rw [← hgc] at hc0 ⊢
                have hgpw : w.heap.size < gp := hB1
                have hgcw : w.heap.size < gc := by omega
                have hne : gp ≠ gc := by omega
                have HP0 := Lib.hid hp0
                have HC0 := Lib.hid hc0
                have HG3 := Lib.hid hg3
                have HF3 := Lib.hid hF3
                have hfo := HFO.out
                have hrr := HRR.out
                obtain ⟨fs, hfs⟩ : ∃ x, x = fstE g.tiers := ⟨_, rfl⟩
                rw [← hfs] at hfo hrr ⊢
                have hFIA := HFIA.out
                have hFI := HFI.out
                rw [← hfs] at hFIA hFI
                have HFIA2 := Lib.hid hFIA
                have HFI2 := Lib.hid hFI
                have HFS := Lib.hid hfs
                have HFO2 := Lib.hid hfo
                have HRR2 := Lib.hid hrr
                clear hfs hfo HFO hmk hp0 hc0 hg3 hF3 hgp hgc hg2 hF2 HO1 HO2 HFM HGM ZZ f3 c21 hFIA hFI HFIA HFI hrr HRR hsz2 hB1
                go_wp2_with fail
                obtain ⟨fb, hfb⟩ : ∃ b, b = decide (fs < 0) := ⟨_, rfl⟩
                have hrr := HRR2.out
                rw [← hfb] at hrr ⊢
                have HRR2 := Lib.hid hrr
                clear hfb hrr
                go_loopw [17, 18] (fun s i wr => RRel g cs ts must n w w3 3 gp gc fb s i wr) (fun _ i _ => n - (intOf i).toNat)
                case atStart => exact rrel_mk 0 _ _ _ (by omega) rfl rfl HP0.out HC0.out rfl (by simp [anyTo]) (Fr.refl _ _)
                case round =>
                  obtain ⟨k, q, L, M, hk, rfl, rfl, hop, hoc, HTT, HWQ, hf⟩ := hrel
                  by_cases hlt : k < n
                  · obtain ⟨x, hx⟩ : ∃ x, g.tiers[k]? = some x := ⟨_, List.getElem?_eq_getElem (by have := HNn.out; omega)⟩
                    obtain ⟨g1, o1, rfl, hct⟩ := HR1.out k hlt
                    obtain ⟨g2, o2, rfl, hcc⟩ := HR2.out k hlt
                    have hg1w : g1 < w.heap.size := lt_of_cell hct
                    have hg2w : g2 < w.heap.size := lt_of_cell hcc
                    have hkd : kd g.tiers k = x.kind := by simp [kd, List.getD, hx]
                    have hki := HKI.out k x hx
                    have hlat := latE_of g.tiers cs k
                    have hta := HAMT.out k
                    have hiv := HINV.out k (by have := HNn.out; omega)
                    rw [HTT.out] at hiv
                    have HINV2 := Lib.hid hiv
                    have hpl : L.length = n := by rw [hiv.lp, ← HNn.out]
                    have hcl : M.length = n := by rw [hiv.lc, ← HNn.out]
                    have hwk : wonP g.tiers cs must k = decide (kd g.tiers k = 3 ∧ (cs.getD k 0 ≠ 0 ∨ (must = true ∧ 0 ≤ latE g.tiers cs k))) := rfl
                    have hwn : (fb || anyTo (wonP g.tiers cs must) (k + 1)) = (q || wonP g.tiers cs must k) := by rw [anyTo, HWQ.out, Bool.or_assoc]
                    have hs := RSt.mk (g := g) (w := w) (w3 := w3) (e := 3) (gp := gp) (gc := gc) (n := n) (L := L) (M := M) (a1 := ⟨g1, o1 + k, none⟩) (tx := ts.getD k 0) (a2 := ⟨g2, o2 + k, none⟩) (y := cs.getD k 0) (x := wr) (HG3.out.fr hf (by simp; omega)) (HF3.out.back2 hf (by omega) (by omega)) hop hoc (hf.cell_some (HF3.out.cell_some hct (by simp)) (by simp; omega)) (hf.cell_some (HF3.out.cell_some hcc (by simp)) (by simp; omega)) hf
                    have hLk := HLT.out HPOS.out _ hs.fw k hlt
                    have hypos := HPOS.out k
                    obtain ⟨y, hy⟩ : ∃ y, y = cs.getD k 0 := ⟨_, rfl⟩
                    obtain ⟨tx, htk⟩ : ∃ y, y = ts.getD k 0 := ⟨_, rfl⟩
                    obtain ⟨lt, hltt⟩ : ∃ y, y = latE g.tiers cs k := ⟨_, rfl⟩
                    have hJk := fun w' h => HJK.out w' h k hlt
                    have hFk := fun w' h => HFL.out w' h k hlt
                    rw [← hy] at hs hwk hypos
                    rw [← htk] at hs hta
                    rw [← hltt] at hlat hLk hwk
                    rw [hkd] at hwk hJk hFk
                    generalize x.kind = tk at *
                    have HLK := Lib.hid hLk
                    have HJKK := Lib.hid hJk
                    have HFK := Lib.hid hFk
                    have HKD := Lib.hid hkd
                    have HY := Lib.hid hy
                    have HLTT := Lib.hid hltt
                    have HLAT := Lib.hid hlat
                    have HTKK := Lib.hid htk
                    have HWK := Lib.hid hwk
                    have HWN := Lib.hid hwn
                    have hkn : (k : Int) < (n : Int) := by omega
                    have hk0 : (0 : Int) ≤ (k : Int) := by omega
                    have ht0 : 0 ≤ tx := hta.1
                    have ht1 : tx ≤ 1000000000000 := hta.2
                    clear hx hkd hlat hta hiv hLk hJk hFk hy hltt hct hcc htk hop hoc hwk hwn hf HWQ
                    obtain ⟨wo, rfl⟩ : ∃ wo : World, wo = wr := ⟨_, rfl⟩
                    go_wp2_with (refine load_game rfl (.tmp 4) rfl _ rfl g hs.gm ?_)
                    refine HLK.out.mono ?_
                    rintro e w5 ⟨rfl, f5⟩
                    have hs := hs.fr f5
                    clear f5 HLK
                    go_wp2_with (refine load_game rfl (.tmp 4) rfl _ rfl g hs.gm ?_)
                    refine (HFK.out _ hs.fw).mono ?_
                    rintro e w6 ⟨rfl, f6⟩
                    have hs := hs.fr f6
                    clear f6 HFK
                    by_cases h1 : tk = 1
                    · have e1 : (tk != 1) = false := by simpa using h1
                      as_aux_lemma =>
                        have hq := flTo_pool HTT.out (flAt_own (.inl (by rw [HKD.out]; exact h1)))
                        have HQ := Lib.hid hq
                        have cj := hs.op.cell k (by omega)
                        have fj := hs.op.frozen k
                        have hb := HINV2.out.bp k
                        have hst := fun X => (hs.pool hg1w hg2w hgpw hne k X).dr
                        have HST := Lib.hid hst
                        have ctx := hs.ct
                        have ccx := hs.cc
                        generalize hpj : L.getD k 0 = pj at *
                        have HPJ := Lib.hid hpj
                        have hb0 : 0 ≤ pj := hb.1
                        have hb1 : pj ≤ 12000000000000 := by have := hb.2; omega
                        clear hq hst hb hpj
                        go_wp2_with fail
                        go_still_tail 12, (by kernel_rfl)
                        change wpList _ _ _ _ _ w6.drew
                        have hse := HST.out (pj + tx)
                        go_wp2_with fail
                        exact ⟨rrel_mk (k + 1) _ _ _ (by omega) (by go_num) rfl hse.op hse.oc (by rw [HQ.out, HTKK.out]) (by rw [HWN.out, HWK.out]; simp [show ¬ tk = 3 by omega] <;> rfl) hse.ff, by simp [intOf]; omega⟩
                    have e1 : (tk != 1) = true := by simpa using h1
                    by_cases h2 : y = 0
                    · have e2 : decide (0 < y) = false := by simp; omega
                      have ccx := hs.cc
                      go_wp2_with (refine load_game rfl (.tmp 4) rfl _ rfl g hs.gm ?_)
                      refine (HJKK.out _ hs.fw).mono ?_
                      rintro e w7 ⟨rfl, f7⟩
                      have hs := hs.fr f7
                      clear f7
                      clear ccx
                      by_cases h3 : tk = 3
                      · have e3 : (tk == 3) = true := by simpa using h3
                        cases must
                        · skip
                          as_aux_lemma =>
                            have hq := flTo_carry HTT.out (flAt_stay (by rw [HKD.out]; exact h1) (by rw [← HY.out]; exact h2) (by rw [HKD.out]; simp; omega) (by rw [HKD.out]; omega))
                            have HQ := Lib.hid hq
                            have cj := hs.oc.cell k (by omega)
                            have fj := hs.oc.frozen k
                            have hb := HINV2.out.bc k
                            have hst := fun X => (hs.carry hg1w hg2w hgcw hne k X).dr
                            have HST := Lib.hid hst
                            have ctx := hs.ct
                            have ccx := hs.cc
                            generalize hpj : M.getD k 0 = pj at *
                            have HPJ := Lib.hid hpj
                            have hb0 : 0 ≤ pj := hb.1
                            have hb1 : pj ≤ 12000000000000 := by have := hb.2; omega
                            clear hq hst hb hpj
                            go_wp2_with fail
                            go_still_tail 12, (by kernel_rfl)
                            change wpList _ _ _ _ _ w7.drew
                            have hse := HST.out (pj + tx)
                            go_wp2_with fail
                            exact ⟨rrel_mk (k + 1) _ _ _ (by omega) (by go_num) rfl hse.op hse.oc (by rw [HQ.out, HTKK.out]) (by rw [HWN.out, HWK.out]; simp [h2] <;> rfl) hse.ff, by simp [intOf]; omega⟩
                        · skip
                          rcases HLAT.out with ⟨hl, _⟩ | ⟨j, hl, hj1, hj2, _, _⟩
                          · have HLL := Lib.hid (HLTT.out.symm.trans hl)
                            subst hl
                            go_wp2_with (refine load_game rfl (.tmp 4) rfl _ rfl g hs.gm ?_)
                            refine (HJKK.out _ hs.fw).mono ?_
                            rintro e w8 ⟨rfl, f8⟩
                            have hs := hs.fr f8
                            clear f8
                            as_aux_lemma =>
                              have hq := flTo_carry HTT.out (flAt_stay (by rw [HKD.out]; exact h1) (by rw [← HY.out]; exact h2) (by rw [HLL.out]; omega) (by rw [HKD.out]; omega))
                              have HQ := Lib.hid hq
                              have cj := hs.oc.cell k (by omega)
                              have fj := hs.oc.frozen k
                              have hb := HINV2.out.bc k
                              have hst := fun X => (hs.carry hg1w hg2w hgcw hne k X).dr
                              have HST := Lib.hid hst
                              have ctx := hs.ct
                              have ccx := hs.cc
                              generalize hpj : M.getD k 0 = pj at *
                              have HPJ := Lib.hid hpj
                              have hb0 : 0 ≤ pj := hb.1
                              have hb1 : pj ≤ 12000000000000 := by have := hb.2; omega
                              clear hq hst hb hpj
                              go_wp2_with fail
                              go_still_tail 12, (by kernel_rfl)
                              change wpList _ _ _ _ _ w8.drew
                              have hse := HST.out (pj + tx)
                              go_wp2_with fail
                              exact ⟨rrel_mk (k + 1) _ _ _ (by omega) (by go_num) rfl hse.op hse.oc (by rw [HQ.out, HTKK.out]) (by rw [HWN.out, HWK.out]; simp [h2] <;> rfl) hse.ff, by simp [intOf]; omega⟩
                          · have HLL := Lib.hid (HLTT.out.symm.trans hl)
                            subst hl
                            have hjn : (j : Int) < (n : Int) := by have := HNn.out; omega
                            have hj0 : (0 : Int) ≤ (j : Int) := by omega
                            as_aux_lemma =>
                              have hq := flTo_pool HTT.out (flAt_lat (by rw [HKD.out]; exact h1) (by rw [← HY.out]; exact h2) HLL.out (.inr rfl))
                              have HQ := Lib.hid hq
                              have cj := hs.op.cell j (by omega)
                              have fj := hs.op.frozen j
                              have hb := HINV2.out.bp j
                              have hst := fun X => (hs.pool hg1w hg2w hgpw hne j X).dr
                              have HST := Lib.hid hst
                              have ctx := hs.ct
                              have ccx := hs.cc
                              generalize hpj : L.getD j 0 = pj at *
                              have HPJ := Lib.hid hpj
                              have hb0 : 0 ≤ pj := hb.1
                              have hb1 : pj ≤ 12000000000000 := by have := hb.2; omega
                              clear hq hst hb hpj
                              go_wp2_with fail
                              go_still_tail 12, (by kernel_rfl)
                              change wpList _ _ _ _ _ w7.drew
                              have hse := HST.out (pj + tx)
                              cases q
                              · skip
                                go_wp2_with (refine load_game_gd (.tmp 4) rfl _ rfl g hse.gm rfl ?_)
                                refine (HJKK.out _ hse.fw).mono ?_
                                rintro e w9 ⟨rfl, f9⟩
                                have hse := hse.fr f9
                                go_wp2_with fail
                                exact ⟨rrel_mk (k + 1) _ _ _ (by omega) (by go_num) rfl hse.op hse.oc (by rw [HQ.out, HTKK.out]) (by rw [HWN.out, HWK.out]; simp [h3] <;> rfl) hse.ff, by simp [intOf]; omega⟩
                              · skip
                                go_wp2_with fail
                                exact ⟨rrel_mk (k + 1) _ _ _ (by omega) (by go_num) rfl hse.op hse.oc (by rw [HQ.out, HTKK.out]) (by rw [HWN.out, HWK.out]; simp [h3] <;> rfl) hse.ff, by simp [intOf]; omega⟩
                      · have e3 : (tk == 3) = false := by simpa using h3
                        have h22 : tk = 2 := by omega
                        rcases HLAT.out with ⟨hl, _⟩ | ⟨j, hl, hj1, hj2, _, _⟩
                        · have HLL := Lib.hid (HLTT.out.symm.trans hl)
                          subst hl
                          go_wp2_with (refine load_game rfl (.tmp 4) rfl _ rfl g hs.gm ?_)
                          refine (HJKK.out _ hs.fw).mono ?_
                          rintro e w8 ⟨rfl, f8⟩
                          have hs := hs.fr f8
                          clear f8
                          rcases HFO2.out with ⟨hfs, _⟩ | ⟨jf, hfs, hj2, _⟩
                          · have HFF := Lib.hid (HFS.out.symm.trans hfs)
                            have e6 : decide (fs < 0) = true := by simp; omega
                            clear hfs
                            go_wp2_with (refine load_game_gd (.tmp 4) rfl _ rfl g hs.gm rfl ?_)
                            refine (HFI2.out _ hs.fw).mono ?_
                            rintro e w9 ⟨rfl, f9⟩
                            have hs := hs.fr f9
                            clear f9
                            as_aux_lemma =>
                              have hq := flTo_carry HTT.out (flAt_stay (by rw [HKD.out]; exact h1) (by rw [← HY.out]; exact h2) (by rw [HLL.out]; omega) (by rw [HFF.out]; omega))
                              have HQ := Lib.hid hq
                              have cj := hs.oc.cell k (by omega)
                              have fj := hs.oc.frozen k
                              have hb := HINV2.out.bc k
                              have hst := fun X => (hs.carry hg1w hg2w hgcw hne k X).dr
                              have HST := Lib.hid hst
                              have ctx := hs.ct
                              have ccx := hs.cc
                              generalize hpj : M.getD k 0 = pj at *
                              have HPJ := Lib.hid hpj
                              have hb0 : 0 ≤ pj := hb.1
                              have hb1 : pj ≤ 12000000000000 := by have := hb.2; omega
                              clear hq hst hb hpj
                              go_wp2_with fail
                              go_still_tail 12, (by kernel_rfl)
                              change wpList _ _ _ _ _ w9.drew
                              have hse := HST.out (pj + tx)
                              go_wp2_with fail
                              exact ⟨rrel_mk (k + 1) _ _ _ (by omega) (by go_num) rfl hse.op hse.oc (by rw [HQ.out, HTKK.out]) (by rw [HWN.out, HWK.out]; simp [h2] <;> rfl) hse.ff, by simp [intOf]; omega⟩
                          · have HFF := Lib.hid (HFS.out.symm.trans hfs)
                            have e6 : decide (fs < 0) = false := by simp; omega
                            go_wp2_with (refine load_game_gd (.tmp 4) rfl _ rfl g hs.gm rfl ?_)
                            refine (HFI2.out _ hs.fw).mono ?_
                            rintro e w9 ⟨rfl, f9⟩
                            have hs := hs.fr f9
                            clear f9
                            subst hfs
                            clear e6
                            have hjn : (jf : Int) < (n : Int) := by have := HNn.out; omega
                            have hj0 : (0 : Int) ≤ (jf : Int) := by omega
                            as_aux_lemma =>
                              have hq := flTo_carry HTT.out (flAt_fst (by rw [← HY.out]; exact h2) HLL.out (by rw [HKD.out]; exact h22) HFF.out)
                              have HQ := Lib.hid hq
                              have hb := HINV2.out.bc jf
                              generalize hpj : M.getD jf 0 = pj at *
                              have HPJ := Lib.hid hpj
                              have hb0 : 0 ≤ pj := hb.1
                              have hb1 : pj ≤ 12000000000000 := by have := hb.2; omega
                              clear hq hb hpj
                              have hadd : IntKind.i64.wrap (pj + tx) = pj + tx := IntWalk.i64_in _ (by omega)
                              have hRa := HGR.out _ _ hs.gm
                              have hu1 := Try.underlying25
                              have hi1 : (Try.prog.info? 25).map (·.size) = some cs0.length := by rw [HCL0.out]; exact infoGame
                              have ctx := hs.ct
                              have hgcx : w.heap.size ≠ gc := by omega
                              have hgcy : g1 ≠ gc := by omega
                              go_wp2_with fail
                              refine wp_region_held_drew (S := (fun w' => Fr [gc] w9 w')) (by kernel_rfl) (Fr.refl [gc] _).drew (fun hHeld => ?_)
                              refine wpAnyH_take (i := 0) (oi := ⟨some 81, _, _, _, _, _⟩) (v := .slice (some ⟨gc, 0, none⟩) n n) rfl (by kernel_rfl) (by kernel_rfl) (by kernel_rfl) (fun _ _ _ h => h) (Or.inl ⟨by rfl, ?_⟩) hHeld ?_
                              · intro w hSw; (try dsimp only at hSw); go_simp
                              (try simp only [Act.put, List.setIfInBounds_toArray, List.set_cons_zero, List.set_cons_succ])
                              refine' wpAnyH_take (i := 1) (oi := ⟨some 82, _, _, _, _, _⟩) (v := _) rfl (by kernel_rfl) (by kernel_rfl) (by kernel_rfl) (fun _ _ _ h => h) (yieldsIf_load_mid (by rfl) _ _ rfl _ _ rfl _ _ (fun w h => h.rangeN hRa (by simp; omega)) hu1 rfl hi1) hHeld ?_
                              (try simp only [Act.put, List.setIfInBounds_toArray, List.set_cons_zero, List.set_cons_succ])
                              refine wpAnyH_take (i := 3) (oi := ⟨some 84, _, _, _, _, _⟩) (v := .slice (some ⟨gc, 0, none⟩) n n) rfl (by kernel_rfl) (by kernel_rfl) (by kernel_rfl) (fun _ _ _ h => h) (Or.inl ⟨by rfl, ?_⟩) hHeld ?_
                              · intro w hSw; (try dsimp only at hSw); go_simp
                              (try simp only [Act.put, List.setIfInBounds_toArray, List.set_cons_zero, List.set_cons_succ])
                              refine' wpAnyH_take (i := 4) (oi := ⟨some 85, _, _, _, _, _⟩) (v := _) rfl (by kernel_rfl) (by kernel_rfl) (by kernel_rfl) (fun _ _ _ h => h) (yieldsIf_load_mid (by rfl) _ _ rfl _ _ rfl _ _ (fun w h => h.rangeN hRa (by simp; omega)) hu1 rfl hi1) hHeld ?_
                              (try simp only [Act.put, List.setIfInBounds_toArray, List.set_cons_zero, List.set_cons_succ])
                              refine wpAnyH_take (i := 8) (oi := ⟨some 89, _, _, _, _, _⟩) (v := .slice (some ⟨g1, o1, none⟩) n vc1) rfl (by kernel_rfl) (by kernel_rfl) (by kernel_rfl) (fun _ _ _ h => h) (Or.inl ⟨by rfl, ?_⟩) hHeld ?_
                              · intro w hSw; (try dsimp only at hSw); go_simp
                              (try simp only [Act.put, List.setIfInBounds_toArray, List.set_cons_zero, List.set_cons_succ])
                              refine wpAnyH_take (i := 9) (oi := ⟨some 90, _, _, _, _, _⟩) (v := .int .i64 k) rfl (by kernel_rfl) (by kernel_rfl) (by kernel_rfl) (fun _ _ _ h => h) (Or.inl ⟨by rfl, ?_⟩) hHeld ?_
                              · intro w hSw; (try dsimp only at hSw); go_simp
                              (try simp only [Act.put, List.setIfInBounds_toArray, List.set_cons_zero, List.set_cons_succ])
                              refine wpAnyH_take (i := 10) (oi := ⟨some 91, _, _, _, _, _⟩) (v := .pointer (some ⟨g1, o1 + k, none⟩)) rfl (by kernel_rfl) (by kernel_rfl) (by kernel_rfl) (fun _ _ _ h => h) (Or.inl ⟨by rfl, ?_⟩) hHeld ?_
                              · intro w hSw; (try dsimp only at hSw); go_simp
                              (try simp only [Act.put, List.setIfInBounds_toArray, List.set_cons_zero, List.set_cons_succ])
                              refine wpAnyH_take (i := 11) (oi := ⟨some 92, _, _, _, _, _⟩) (v := .int .i64 tx) rfl (by kernel_rfl) (by kernel_rfl) (by kernel_rfl) (fun _ _ _ h => h) (Or.inl ⟨by rfl, ?_⟩) hHeld ?_
                              · intro w hSw; (try dsimp only at hSw); have hcF := hSw.cell_some ctx (by simp; omega); clear hSw; go_simp
                              (try simp only [Act.put, List.setIfInBounds_toArray, List.set_cons_zero, List.set_cons_succ])
                              refine wpAnyH_ready (rs := [2]) (by kernel_rfl) (by simp) ?_
                              refine AllReadyH.cons (o := ⟨some 83, _, _, _, _, _⟩) rfl (fun K hK => ?_) AllReadyH.nil
                              rw [if_pos (by rfl)]
                              go_simp
                              refine (HFIA2.out _ hs.dr.fw).mono ?_
                              rintro e w10 ⟨rfl, f10⟩
                              have hs10 := hs.dr.fr f10
                              refine hK.out _ _ (hHeld.trans (f10.mono (by simp))) (fun hHeld' => ?_)
                              clear hK K hHeld
                              have hHeld := hHeld'
                              clear hHeld'
                              (try simp only [Act.put, List.setIfInBounds_toArray, List.set_cons_zero, List.set_cons_succ])
                              refine wpAnyH_ready (rs := [5]) (by kernel_rfl) (by simp) ?_
                              refine AllReadyH.cons (o := ⟨some 86, _, _, _, _, _⟩) rfl (fun K hK => ?_) AllReadyH.nil
                              rw [if_pos (by rfl)]
                              go_simp
                              refine (HFIA2.out _ hs10.fw).mono ?_
                              rintro e w11 ⟨rfl, f11⟩
                              have hs11 := hs10.fr f11
                              refine hK.out _ _ (hHeld.trans (f11.mono (by simp))) (fun hHeld' => ?_)
                              clear hK K hHeld
                              have hHeld := hHeld'
                              clear hHeld'
                              (try simp only [Act.put, List.setIfInBounds_toArray, List.set_cons_zero, List.set_cons_succ])
                              have cj := hs11.oc.cell jf (by omega)
                              rw [HPJ.out] at cj
                              have fj := hs11.oc.frozen jf
                              refine wpAnyH_take (i := 6) (oi := ⟨some 87, _, _, _, _, _⟩) (v := .pointer (some ⟨gc, jf, none⟩)) rfl (by kernel_rfl) (by kernel_rfl) (by kernel_rfl) (fun _ _ _ h => h) (Or.inl ⟨by rfl, ?_⟩) hHeld ?_
                              · intro w hSw; (try dsimp only at hSw); go_simp
                              (try simp only [Act.put, List.setIfInBounds_toArray, List.set_cons_zero, List.set_cons_succ])
                              refine wpAnyH_ready (rs := [7]) (by kernel_rfl) (by simp) ?_
                              refine AllReadyH.cons (o := ⟨some 88, _, _, _, _, _⟩) rfl (fun K hK => ?_) AllReadyH.nil
                              rw [if_pos (by rfl)]
                              go_simp
                              refine hK.out _ _ (hHeld) (fun hHeld' => ?_)
                              clear hK K hHeld
                              have hHeld := hHeld'
                              clear hHeld'
                              (try simp only [Act.put, List.setIfInBounds_toArray, List.set_cons_zero, List.set_cons_succ])
                              refine wpAnyH_take (i := 12) (oi := ⟨some 93, _, _, _, _, _⟩) (v := .int .i64 (pj + tx)) rfl (by kernel_rfl) (by kernel_rfl) (by kernel_rfl) (fun _ _ _ h => h) (Or.inl ⟨by rfl, ?_⟩) hHeld ?_
                              · intro w hSw; (try dsimp only at hSw); go_simp
                              (try simp only [Act.put, List.setIfInBounds_toArray, List.set_cons_zero, List.set_cons_succ])
                              refine wpAnyH_take (i := 13) (oi := ⟨some 94, _, _, _, _, _⟩) (v := .pointer (some ⟨gc, jf, none⟩)) rfl (by kernel_rfl) (by kernel_rfl) (by kernel_rfl) (fun _ _ _ h => h) (Or.inl ⟨by rfl, ?_⟩) hHeld ?_
                              · intro w hSw; (try dsimp only at hSw); go_simp
                              (try simp only [Act.put, List.setIfInBounds_toArray, List.set_cons_zero, List.set_cons_succ])
                              refine wpAnyH_ready (rs := [14]) (by kernel_rfl) (by simp) ?_
                              refine AllReadyH.cons (o := ⟨none, _, _, _, _, _⟩) rfl (fun K hK => ?_) AllReadyH.nil
                              rw [if_pos (by rfl)]
                              go_simp
                              refine hK.out _ _ (hHeld.setCell (.inl (by simp)) _) (fun hHeld' => ?_)
                              clear hK K hHeld
                              have hHeld := hHeld'
                              clear hHeld'
                              (try simp only [Act.put, List.setIfInBounds_toArray, List.set_cons_zero, List.set_cons_succ])
                              have hse := hs11.carry hg1w hg2w hgcw hne jf (pj + tx)
                              clear hHeld cj fj
                              refine wpAnyH_done (by kernel_rfl) ?_ _
                              go_wp2_with fail
                              exact ⟨rrel_mk (k + 1) _ _ _ (by omega) (by go_num) rfl hse.op hse.oc (by rw [HQ.out, HTKK.out]) (by rw [HWN.out, HWK.out]; simp [h2] <;> rfl) hse.ff, by simp [intOf]; omega⟩
                        · have HLL := Lib.hid (HLTT.out.symm.trans hl)
                          subst hl
                          have hjn : (j : Int) < (n : Int) := by have := HNn.out; omega
                          have hj0 : (0 : Int) ≤ (j : Int) := by omega
                          as_aux_lemma =>
                            have hq := flTo_pool HTT.out (flAt_lat (by rw [HKD.out]; exact h1) (by rw [← HY.out]; exact h2) HLL.out (.inl (by rw [HKD.out]; exact h22)))
                            have HQ := Lib.hid hq
                            have cj := hs.op.cell j (by omega)
                            have fj := hs.op.frozen j
                            have hb := HINV2.out.bp j
                            have hst := fun X => (hs.pool hg1w hg2w hgpw hne j X).dr
                            have HST := Lib.hid hst
                            have ctx := hs.ct
                            have ccx := hs.cc
                            generalize hpj : L.getD j 0 = pj at *
                            have HPJ := Lib.hid hpj
                            have hb0 : 0 ≤ pj := hb.1
                            have hb1 : pj ≤ 12000000000000 := by have := hb.2; omega
                            clear hq hst hb hpj
                            go_wp2_with fail
                            go_still_tail 12, (by kernel_rfl)
                            change wpList _ _ _ _ _ w7.drew
                            have hse := HST.out (pj + tx)
                            cases q
                            · skip
                              go_wp2_with (refine load_game_gd (.tmp 4) rfl _ rfl g hse.gm rfl ?_)
                              refine (HJKK.out _ hse.fw).mono ?_
                              rintro e w9 ⟨rfl, f9⟩
                              have hse := hse.fr f9
                              go_wp2_with fail
                              exact ⟨rrel_mk (k + 1) _ _ _ (by omega) (by go_num) rfl hse.op hse.oc (by rw [HQ.out, HTKK.out]) (by rw [HWN.out, HWK.out]; simp [h3] <;> rfl) hse.ff, by simp [intOf]; omega⟩
                            · skip
                              go_wp2_with fail
                              exact ⟨rrel_mk (k + 1) _ _ _ (by omega) (by go_num) rfl hse.op hse.oc (by rw [HQ.out, HTKK.out]) (by rw [HWN.out, HWK.out]; simp [h3] <;> rfl) hse.ff, by simp [intOf]; omega⟩
                    · have e2 : decide (0 < y) = true := by simp; omega
                      as_aux_lemma =>
                        have hq := flTo_pool HTT.out (flAt_own (.inr (by rw [← HY.out]; exact h2)))
                        have HQ := Lib.hid hq
                        have cj := hs.op.cell k (by omega)
                        have fj := hs.op.frozen k
                        have hb := HINV2.out.bp k
                        have hst := fun X => (hs.pool hg1w hg2w hgpw hne k X).dr
                        have HST := Lib.hid hst
                        have ctx := hs.ct
                        have ccx := hs.cc
                        generalize hpj : L.getD k 0 = pj at *
                        have HPJ := Lib.hid hpj
                        have hb0 : 0 ≤ pj := hb.1
                        have hb1 : pj ≤ 12000000000000 := by have := hb.2; omega
                        clear hq hst hb hpj
                        go_wp2_with fail
                        go_still_tail 12, (by kernel_rfl)
                        change wpList _ _ _ _ _ w6.drew
                        have hse := HST.out (pj + tx)
                        cases q
                        · skip
                          go_wp2_with (refine load_game_gd (.tmp 4) rfl _ rfl g hse.gm rfl ?_)
                          refine (HJKK.out _ hse.fw).mono ?_
                          rintro e w9 ⟨rfl, f9⟩
                          have hse := hse.fr f9
                          go_wp2_with fail
                          exact ⟨rrel_mk (k + 1) _ _ _ (by omega) (by go_num) rfl hse.op hse.oc (by rw [HQ.out, HTKK.out]) (by rw [HWN.out, HWK.out]; simp [h2] <;> rfl) hse.ff, by simp [intOf]; omega⟩
                        · skip
                          go_wp2_with fail
                          exact ⟨rrel_mk (k + 1) _ _ _ (by omega) (by go_num) rfl hse.op hse.oc (by rw [HQ.out, HTKK.out]) (by rw [HWN.out, HWK.out]; simp [h2] <;> rfl) hse.ff, by simp [intOf]; omega⟩
                  · obtain rfl : n = k := by omega
                    have hss := HSS.out.trans HTT.out
                    have hov := fun h => HOV.out HNG.out h
                    have hfin := fun h => HFIN.out HNG.out h
                    rw [hss] at hov hfin
                    have hrr := HRR2.out
                    rw [← HWQ.out] at hrr
                    have HRR3 := Lib.hid hrr
                    have HSS2 := Lib.hid hss
                    have HOV2 := Lib.hid hov
                    have HFIN2 := Lib.hid hfin
                    have hFw := HF3.out.back2 hf (by omega) (by omega)
                    have hiv := HINV.out n (by omega)
                    rw [HTT.out] at hiv
                    have hpl : L.length = n := by rw [hiv.lp, ← HNn.out]
                    have hcl : M.length = n := by rw [hiv.lc, ← HNn.out]
                    have HFW := Lib.hid hFw
                    have HOP := Lib.hid hop
                    have HOC := Lib.hid hoc
                    clear hss hov hfin hiv hFw hop hoc HSS HOV HFIN HTT HP0 HC0 HINV HAMT hf HLT HFO2 HR1 HR2 hrr HRR2 HWQ
                    obtain ⟨wo, rfl⟩ : ∃ wo : World, wo = wr := ⟨_, rfl⟩
                    go_wp2_with fail
                    go_loop [20] (fun i => ∃ k : Nat, k ≤ n ∧ i = .int .i64 k ∧ Hid (anyTo (ovP (L, M)) k = false)) (fun i => n - (intOf i).toNat)
                    case atStart => exact ⟨0, by omega, rfl, Lib.hid rfl⟩
                    case round =>
                      obtain ⟨k, hk, rfl, HA⟩ := hrel
                      by_cases hlt2 : k < n
                      · have cp := HOP.out.cell k (by omega)
                        have cc := HOC.out.cell k (by omega)
                        have hov := fun h => HOV2.out (anyTo_mk (p := ovP (L, M)) hlt2 h)
                        have hnx : ovP (L, M) k = false → anyTo (ovP (L, M)) (k + 1) = false := fun h => by rw [anyTo, HA.out, h]; rfl
                        have hdef : ovP (L, M) k = decide (1000000000000 < L.getD k 0 ∨ 1000000000000 < M.getD k 0) := rfl
                        generalize L.getD k 0 = pk at *
                        generalize M.getD k 0 = ck at *
                        have hkn : (k : Int) < (n : Int) := by omega
                        have hk0 : (0 : Int) ≤ (k : Int) := by omega
                        have HOV3 := Lib.hid hov
                        have HNX := Lib.hid hnx
                        have HDEF := Lib.hid hdef
                        clear hov hnx hdef
                        by_cases h1 : 1000000000000 < pk
                        · have d1 : decide (1000000000000 < pk) = true := by simpa using h1
                          have hq := HOV3.out (by rw [HDEF.out]; simp [h1])
                          have HQ := Lib.hid hq
                          clear hq
                          go_wp2_with fail
                          exact bodyPost_ret (v := .tuple #[.slice none 0 0, .slice none 0 0, .int .i64 0, .int .i64 9]) (by simp [results, Try.results23, go_sem]) rfl (HB.out _ _ HQ.out (by omega) HFW.out)
                        · have d1 : decide (1000000000000 < pk) = false := by simpa using h1
                          by_cases h2 : 1000000000000 < ck
                          · have d2 : decide (1000000000000 < ck) = true := by simpa using h2
                            have hq := HOV3.out (by rw [HDEF.out]; simp [h2])
                            have HQ := Lib.hid hq
                            clear hq
                            go_wp2_with fail
                            exact bodyPost_ret (v := .tuple #[.slice none 0 0, .slice none 0 0, .int .i64 0, .int .i64 9]) (by simp [results, Try.results23, go_sem]) rfl (HB.out _ _ HQ.out (by omega) HFW.out)
                          · have d2 : decide (1000000000000 < ck) = false := by simpa using h2
                            have hq := HNX.out (by rw [HDEF.out, decide_eq_false_iff_not]; omega)
                            have HQ := Lib.hid hq
                            clear hq
                            go_wp2_with fail
                            go_round
                            case rel => exact ⟨k + 1, by omega, by go_num, HQ⟩
                            case measure => simp [intOf]; omega
                      · obtain rfl : n = k := by omega
                        have hq := HFIN2.out HA.out
                        have HQ := Lib.hid hq
                        clear hq
                        cases q
                        · have hrr := HRR3.out
                          rw [if_neg (by simp)] at hrr
                          have HR4 := Lib.hid hrr
                          clear hrr
                          go_wp2_with fail
                          · exact bodyPost_ret (v := .tuple #[.slice (some ⟨gp, 0, none⟩) n n, .slice (some ⟨gc, 0, none⟩) n n, .int .i64 64, .int .i64 0]) (by simp [results, Try.results23, go_sem]) rfl (HG.out _ _ _ _ _ _ HQ.out HSS2.out (by rw [HR4.out]; omega) HOP.out HOC.out HFW.out)
                          · exact bodyPost_ret (v := .tuple #[.slice (some ⟨gp, 0, none⟩) n n, .slice (some ⟨gc, 0, none⟩) n n, .int .i64 (rolls + 1), .int .i64 0]) (by simp [results, Try.results23, go_sem]) rfl (HG.out _ _ _ _ _ _ HQ.out HSS2.out (by rw [HR4.out]; omega) HOP.out HOC.out HFW.out)
                        · have hrr := HRR3.out
                          rw [if_pos rfl] at hrr
                          have HR4 := Lib.hid hrr
                          clear hrr
                          go_wp2_with fail
                          exact bodyPost_ret (v := .tuple #[.slice (some ⟨gp, 0, none⟩) n n, .slice (some ⟨gc, 0, none⟩) n n, .int .i64 0, .int .i64 0]) (by simp [results, Try.results23, go_sem]) rfl (HG.out _ _ _ _ _ _ HQ.out HSS2.out HR4.out HOP.out HOC.out HFW.out)
        · skip
          have HK := Lib.hid hK
          have HB := Lib.hid hB
          have hq : flE g ts cs rolls = 2 := by rw [hE0, if_pos (by omega)]
          have HQ := Lib.hid hq
          have hle := hok.tiers.rd.len.2
          unfold maxLen at hle
          have H21 := Lib.hid h21
          obtain ⟨n, hNn⟩ : ∃ n, n = g.tiers.length := ⟨_, rfl⟩
          obtain ⟨m, hm⟩ : ∃ m, m = cs.length := ⟨_, rfl⟩
          rw [← hNn] at H21 hn n1 n2 hle
          rw [← hm] at hcl hn ⊢
          have e0 : ((m : Int) != n) = false := by simp; omega
          have e1 : decide (rolls < 0) = false := by simpa using hr0
          have e2 : decide (64 < rolls) = true := by simp; omega
          clear hK hB hE0 q1 q2 q3 hbt hr1 hr2 hvc1 hvc2 hvc3 hvc4 hvr1 hvr2 hq h21 hok hNn hm he hn hkinds
          go_enter Try.func23, Try.ntmps23
          go_wp2_with (first | (refine box_game rfl (.tmp 0) rfl g rfl ?_; intro w1 hg1 hz1 hf1) | (refine load_game rfl (.tmp 4) rfl _ rfl g hg1 ?_))
          refine (HK.out _ hf1).mono ?_
          rintro e w2 ⟨rfl, f2⟩
          have c21 := H21.out _ _ (hg1.fr f2 (by simp))
          go_wp2_with fail
          exact bodyPost_ret (v := .tuple #[.slice none 0 0, .slice none 0 0, .int .i64 0, .int .i64 2]) (by simp [results, Try.results23, go_sem]) rfl (HB.out _ _ HQ.out (by omega) (hf1.trans f2))
      · skip
        have HK := Lib.hid hK
        have HB := Lib.hid hB
        have hq : flE g ts cs rolls = 2 := by rw [hE0, if_pos (by omega)]
        have HQ := Lib.hid hq
        have hle := hok.tiers.rd.len.2
        unfold maxLen at hle
        have H21 := Lib.hid h21
        obtain ⟨n, hNn⟩ : ∃ n, n = g.tiers.length := ⟨_, rfl⟩
        obtain ⟨m, hm⟩ : ∃ m, m = cs.length := ⟨_, rfl⟩
        rw [← hNn] at H21 hn n1 n2 hle
        rw [← hm] at hcl hn ⊢
        have e0 : ((m : Int) != n) = false := by simp; omega
        have e1 : decide (rolls < 0) = true := by simp; omega
        clear hK hB hE0 q1 q2 q3 hbt hr1 hr2 hvc1 hvc2 hvc3 hvc4 hvr1 hvr2 hq h21 hok hNn hm he hn hkinds
        go_enter Try.func23, Try.ntmps23
        go_wp2_with (first | (refine box_game rfl (.tmp 0) rfl g rfl ?_; intro w1 hg1 hz1 hf1) | (refine load_game rfl (.tmp 4) rfl _ rfl g hg1 ?_))
        refine (HK.out _ hf1).mono ?_
        rintro e w2 ⟨rfl, f2⟩
        have c21 := H21.out _ _ (hg1.fr f2 (by simp))
        go_wp2_with fail
        exact bodyPost_ret (v := .tuple #[.slice none 0 0, .slice none 0 0, .int .i64 0, .int .i64 2]) (by simp [results, Try.results23, go_sem]) rfl (HB.out _ _ HQ.out (by omega) (hf1.trans f2))
    · skip
      have HK := Lib.hid hK
      have HB := Lib.hid hB
      have hq : flE g ts cs rolls = 2 := by rw [hE0, if_pos (by omega)]
      have HQ := Lib.hid hq
      have hle := hok.tiers.rd.len.2
      unfold maxLen at hle
      have H21 := Lib.hid h21
      obtain ⟨n, hNn⟩ : ∃ n, n = g.tiers.length := ⟨_, rfl⟩
      obtain ⟨m, hm⟩ : ∃ m, m = cs.length := ⟨_, rfl⟩
      rw [← hNn] at H21 hn n1 n2 hle
      rw [← hm] at hcl hn ⊢
      have e0 : ((m : Int) != n) = true := by simp; omega
      clear hK hB hE0 q1 q2 q3 hbt hr1 hr2 hvc1 hvc2 hvc3 hvc4 hvr1 hvr2 hq h21 hok hNn hm he hn hkinds
      go_enter Try.func23, Try.ntmps23
      go_wp2_with (first | (refine box_game rfl (.tmp 0) rfl g rfl ?_; intro w1 hg1 hz1 hf1) | (refine load_game rfl (.tmp 4) rfl _ rfl g hg1 ?_))
      refine (HK.out _ hf1).mono ?_
      rintro e w2 ⟨rfl, f2⟩
      have c21 := H21.out _ _ (hg1.fr f2 (by simp))
      go_wp2_with fail
      exact bodyPost_ret (v := .tuple #[.slice none 0 0, .slice none 0 0, .int .i64 0, .int .i64 2]) (by simp [results, Try.results23, go_sem]) rfl (HB.out _ _ HQ.out (by omega) (hf1.trans f2))
  · rw [if_pos he] at hE0
    generalize rchkE g ts = ce at *
    have ez : (ce != 0) = true := by simpa using he
    have HK := Lib.hid hK
    have HB := Lib.hid hB
    have HE := Lib.hid hE0
    have HNZ := Lib.hid he
    clear hK hB hE0 he hok hr1 hr2 h21
    go_enter Try.func23, Try.ntmps23
    go_wp2_with (first | (refine box_game rfl (.tmp 0) rfl g rfl ?_; intro w1 hg1 hz1 hf1) | (refine load_game rfl (.tmp 4) rfl _ rfl g hg1 ?_))
    refine (HK.out _ hf1).mono ?_
    rintro e w2 ⟨rfl, f2⟩
    go_wp2_with fail
    exact bodyPost_ret (v := .tuple #[.slice none 0 0, .slice none 0 0, .int .i64 0, .int .i64 ce]) (by simp [results, Try.results23, go_sem]) rfl (HB.out _ _ HE.out HNZ.out (hf1.trans f2))
end Go.Proofs.Ytdinjekpcgndmaa
