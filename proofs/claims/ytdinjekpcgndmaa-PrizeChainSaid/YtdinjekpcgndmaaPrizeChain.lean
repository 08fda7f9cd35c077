/-
  PrizeChain: for all tiers and draws the statement returns true: over draws in a row nothing is lost. No conditions.
-/
import Derived.Test.YtdinjekpcgndmaaPrizeBase
import Derived.IntWalk
import Derived.BigQuiet
import Derived.ProofKit
import Derived.OpenShut
import Derived.ShutString
import Derived.ChangeOld
namespace Go.Proofs.Ytdinjekpcgndmaa.prizeChain
open Go.ChangeShapes Go.WideShapes Go.ChangeAt Go.RowKit
open Go.ChangeMaps (open_string shut_string)
set_option linter.unusedVariables false
attribute [local go_sem ↓] Go.wp_at_zero Go.wp_at_succ
def withCR (g : Gm) (c r : Int) : Gm := { g with cap := c, rolls := r }
theorem gm_set_cr {w : World} {b : Nat} {g : Gm} (h : GmAt w b g) (c r : Int) : GmAt ((w.setCell ⟨b, 18, none⟩ (.int .i64 c)).setCell ⟨b, 19, none⟩ (.int .i64 r)) b (withCR g c r) := by
  unfold GmAt at h ⊢
  simp [World.setCell, Array.getElem?_modify, h, Gm.cells, withCR]
theorem withCR_ok {w : World} {g : Gm} (h : g.Ok w) {c r : Int} (hc : W64 c) (hr : W64 r) : (withCR g c r).Ok w :=
  ⟨h.name, h.kind, h.price, h.main, h.of_, h.bonus, h.bonusof, h.extra, h.draws, h.system, h.days, h.at_, h.close, h.cancel, h.expiry, h.pool, h.reserve, h.round, hc, hr, h.addons, h.tiers⟩
theorem ch_ok (a : Option Addr) (c : Nat) (T : List Ti) {m : Nat} (hm : m ≤ 5) : chkE (withCR (pl38 a c 5000 1000 10 (plT (pnT T m) (m + 1))) 20000 3) = 0 :=
  pl38_chk hm (by kernel_rfl) rfl rfl rfl rfl (by kernel_rfl) (by kernel_rfl) rfl rfl
/-- what draw j sold, and its counts -/
def rw_ (L : List (List Int)) (j : Nat) : List Int := L.getD j []
def rF (L : List (List Int)) (j i : Nat) : Int := (rw_ L j).getD (i + 1) 0 % 4
theorem u16_at {w : World} {a : Option Addr} {n c : Nat} {L : List (List Int)} (h : RdF 7 u16F w (.slice a n c) L) {j : Nat} (hj : j < L.length) : ∃ g o, a = some ⟨g, o, none⟩ ∧ ∀ i, i < 7 → w.cell? ⟨g, o + j * 7 + i, none⟩ = some (.int .u16 ((rw_ L j).getD i 0)) := by
  obtain ⟨a', c', hv, _, _, h3⟩ := h
  simp only [Value.slice.injEq] at hv
  obtain ⟨rfl, _, rfl⟩ := hv
  obtain ⟨g, o, rfl, hc⟩ := h3 j L[j] (by simp [hj])
  refine ⟨g, o, rfl, fun i hi => ?_⟩
  have := hc i (.int .u16 (L[j].getD i 0)) (by simp only [u16F, List.mem_map, List.mem_range]; exact ⟨i, hi, rfl⟩)
  have e : rw_ L j = L[j] := by simp [rw_, List.getD, hj]
  rw [e, Nat.add_assoc]
  exact this
/-- the memory between two draws: the carry lies whole in its block -/
structure ChM (g : Gm) (n bc : Nat) (x5 : World) (j : Nat) (F P : Int) (x : World) (C : List Int) (a : Option Addr) (c : Nat) (R N : Int) : Prop where
  ch : ChF g C R N F P j
  row : RowAt x bc 43 [.slice a n c, .int .i64 R, .int .i64 N]
  own : OwnI x x5.heap.size 3 (.slice a n c) C
  ne : ∀ k, (Value.slice a n c).ownBlock = some k → k ≠ bc
  fr : Fr [] x5 x
  bcx : x5.heap.size ≤ bc
theorem ChM.go {g : Gm} {n bc : Nat} {x5 : World} {j : Nat} {F P : Int} {x y : World} {C : List Int} {a : Option Addr} {c : Nat} {R N : Int} (h : ChM g n bc x5 j F P x C a c R N) (k : Fr [] x y) : ChM g n bc x5 j F P y C a c R N :=
  ⟨h.ch, h.row.fr k (by simp), h.own.fr k (by simp), h.ne, h.fr.trans k, h.bcx⟩
theorem ChM.go2 {g : Gm} {n bc : Nat} {x5 : World} {j : Nat} {F P : Int} {x y : World} {C : List Int} {a : Option Addr} {c : Nat} {R N : Int} {gl : Nat} (h : ChM g n bc x5 j F P x C a c R N) (k : Fr [gl] x y) (h1 : bc < gl) (h2 : ∀ q, (Value.slice a n c).ownBlock = some q → q < gl) (h3 : x5.heap.size ≤ gl) : ChM g n bc x5 j F P y C a c R N :=
  ⟨h.ch, h.row.fr k (by simp; omega), h.own.fr k (fun q hq => by have := h2 q hq; simp; omega), h.ne, h.fr.trans' k (by intro i hi; simp at hi; right; omega), h.bcx⟩
/-- what lies behind the region that calls Award: both results in blocks of their own -/
def AwO (wz : World) (n : Nat) (s A R1 R2 R3 R4 R5 : Int) (PL C2 : List Int) (p q e : Value) (x : World) : Prop := ∃ (bP bA : Nat) (vT vC vE : Value) (aP aN : Option Addr) (cP cN : Nat),
  p = .pointer (some ⟨bP, 0, none⟩) ∧ q = .pointer (some ⟨bA, 0, none⟩) ∧ e = .int .i64 0 ∧ RowAt x bP 45 [.int .i64 s, .int .i64 A, .int .i64 R1, vT] ∧
  RowAt x bA 60 [vC, vE, .slice aP n cP, .int .i64 R2, .int .i64 R3, .slice aN n cN, .int .i64 R4, .int .i64 R5] ∧ OwnI x wz.heap.size 3 (.slice aP n cP) PL ∧ OwnI x wz.heap.size 3 (.slice aN n cN) C2 ∧ Fr [] wz x
set_option maxRecDepth 20000 in
set_option maxHeartbeats 8000000 in
theorem walk (v0 : Value) (T : List Ti) (v1 : Value) (L : List (List Int)) (w : World) (h0 : RdF 6 tiF w v0 T) (h1 : RdF 7 u16F w v1 L) (hL : ∀ z ∈ L, ∀ i, i < 7 → (Lit.int .u16 (z.getD i 0)).wf = true) :
    Calls Try.prog 14 #[v0, v1] w fun e w' => e = .returned (.bool true) ∧ Below w.heap.size w w' := by
  simp [Lit.wf, IntKind.min, IntKind.max, IntKind.signed, IntKind.bits] at hL
  obtain ⟨aT0, cT0, rfl, hT1, hT2, _⟩ := id h0
  obtain ⟨aL, cL, rfl, hl1, hl2, _⟩ := id h1
  unfold maxLen at hT2 hl2
  have hPN := fun x (h : Fr [] w x) => pn_any T x aT0 cT0 (h0.below h)
  unfold PnPost at hPN
  have hm5 : min T.length 5 ≤ 5 := Nat.min_le_right _ _
  generalize min T.length 5 = m at *
  have hmm : min (m + 1) 6 = m + 1 := by omega
  have hPL := fun x (av : Option Addr) (cv : Nat) (h : RdF 6 tiF x (.slice av (pnT T m).length cv) (pnT T m)) => plain38_any _ (pnT T m) 5000 1000 10 x av cv rfl h (pnT_ok T m) rfl rfl rfl
  unfold Pl38Post at hPL
  rw [pnT_len, hmm] at hPL
  have hCH := fun a c => ch_ok a c T hm5
  have HPN := Lib.hid hPN
  have HPL := Lib.hid hPL
  have HCH := Lib.hid hCH
  have HL1 := Lib.hid h1
  have HLB := Lib.hid hL
  clear hPN hPL hCH h0 h1 hL hmm
  go_enter Try.func14, Try.ntmps14
  go_wp2_with fail
  refine (HPN.out _ (Fr.refl _ _)).mono ?_
  rintro e x2 ⟨v, rfl, ho, f2⟩
  obtain ⟨av, cv, rfl, _, _, hrf⟩ := ho.form
  have F2 := f2
  rw [pnT_len] at hrf
  have hP := HPL.out _ av cv hrf
  have HP := Lib.hid hP
  clear ho hrf hP f2
  rw [pnT_len]
  go_wp2_with fail
  refine HP.out.mono ?_
  rintro e x3 ⟨ga, gc, rfl, hok, f3⟩
  have hch := HCH.out ga gc
  have F3 := F2.trans f3
  clear HCH HP f3 F2
  go_upto_region 2 with (refine store_game rfl (.tmp 5) (.tmp 21) rfl x3.heap.size rfl _ (heap_alloc_new _ _) rfl (pl38 ga gc 5000 1000 10 (plT (pnT T m) (m + 1))) rfl ?_; intro x4 hg4 hz4 hf4)
  have f4 : Fr [] x3 x4 := ((Fr.refl [] x3).alloc _).trans' hf4 (by intro i hi; simp at hi; right; omega)
  have c18 := hg4.cell 18 _ rfl
  have c19 := hg4.cell 19 _ rfl
  simp only [pl38] at c18 c19
  have z18 := gm_frozen hg4 18
  have z19 := gm_frozen hg4 19
  have f5 : Fr [] x3 ((x4.setCell ⟨x3.heap.size, 18, none⟩ (.int .i64 20000)).setCell ⟨x3.heap.size, 19, none⟩ (.int .i64 3)) := (f4.setCell (.inr (Nat.le_refl _)) _).setCell (.inr (Nat.le_refl _)) _
  have hg5 := gm_set_cr hg4 20000 3
  have hok5 := withCR_ok (hok.fr f5) (c := 20000) (r := 3) rfl rfl
  have F5 := F3.trans f5
  have hbw : w.heap.size ≤ x3.heap.size := F3.size
  generalize hg : withCR (pl38 ga gc 5000 1000 10 (plT (pnT T m) (m + 1))) 20000 3 = g at *
  have gt : g.tiers = plT (pnT T m) (m + 1) := by rw [← hg]; rfl
  have gp : g.pool = 5000 := by rw [← hg]; rfl
  generalize x3.heap.size = bg at *
  have gn : g.tiers.length = m + 1 := by rw [gt, plT_len]
  obtain ⟨n, hn⟩ : ∃ n, n = m + 1 := ⟨_, rfl⟩
  rw [← hn] at gn
  go_upto_region 3 with (fail)
  have hxx : ∃ x5, x5 = (x4.setCell ⟨bg, 18, none⟩ (.int .i64 20000)).setCell ⟨bg, 19, none⟩ (.int .i64 3) := ⟨_, rfl⟩
  obtain ⟨x5, hx5⟩ := hxx
  rw [← hx5] at hg5 hok5 F5 ⊢
  clear hx5 c18 c19 z18 z19 f5 f4 hf4 hz4 hg4 F3 hok hg
  have hST := start_any g x5 hok5
  unfold StPost at hST
  rw [show stL g = List.replicate n 0 by unfold stL; rw [if_pos hch, gn]] at hST
  have HST := Lib.hid hST
  have HF5 := Lib.hid F5
  have HOK5 := Lib.hid hok5
  have HGT := Lib.hid gt
  have HGP := Lib.hid gp
  have HGN := Lib.hid gn
  have HN := Lib.hid hn
  have HCHE := Lib.hid hch
  have H21 := Lib.hid (show ∀ x, GmAt x bg g → x.cell? ⟨bg, 21, none⟩ = some (.slice g.ta n g.tc) from fun x h => by rw [← gn]; exact h.cell 21 _ rfl)
  have hn6 : n ≤ 6 := by omega
  have hn1 : 1 ≤ n := by omega
  clear F5 hok5 gt gp gn hch hST hn
  go_wp2_with (refine load_game rfl (.tmp 5) rfl _ rfl g hg5 ?_)
  refine HST.out.mono ?_
  rintro e x6 ⟨vS, rfl, oS, f6⟩
  obtain ⟨aS, cS, rfl, hS1, hS2⟩ := oS.any
  rw [List.length_replicate] at hS1 ⊢
  have hg6 := hg5.fr f6 (by simp)
  clear HST
  go_upto_region 4 with (fail)
  have hrc : RowAt (x6.alloc (.cells #[.slice aS n cS, .int .i64 0, .int .i64 0] 43)) x6.heap.size 43 [.slice aS n cS, .int .i64 0, .int .i64 0] := RowAt.new rfl rfl
  have e7 : Fr [] x6 (x6.alloc (.cells #[.slice aS n cS, .int .i64 0, .int .i64 0] 43)) := (Fr.refl [] x6).alloc _
  have hblk := fun k hk => (oS.block k hk).2
  have oS7 := oS.fr e7 (by simp)
  rw [List.length_replicate] at oS7 hblk
  have f57 := f6.trans e7
  have hg7 := hg6.fr e7 (by simp)
  have hbc : x5.heap.size ≤ x6.heap.size := f6.size
  have hbg : bg < x5.heap.size := hg5.lt
  generalize x6.alloc (.cells #[.slice aS n cS, .int .i64 0, .int .i64 0] 43) = x7 at *
  generalize x6.heap.size = bc at *
  have HRC := Lib.hid hrc
  have HOS := Lib.hid oS7
  have HBLK := Lib.hid hblk
  have HF57 := Lib.hid f57
  have HG5 := Lib.hid hg5
  have HC0 := Lib.hid (ChF.zero g)
  clear hrc oS oS7 hblk f57 hg6 hg7 e7 f6 hg5
  have HM7 : Hid (ChM g n bc x5 0 0 0 x7 (List.replicate n 0) aS cS 0 0) := Lib.hid ⟨by rw [← HGN.out]; exact HC0.out, HRC.out, HOS.out, fun k hk => by have := HBLK.out k hk; omega, HF57.out, hbc⟩
  clear HC0 HRC HOS HBLK
  go_upto_block 0 with (fail)
  go_cut [7, 8] (fun vF vP wx => ∃ (j : Nat) (F P : Int) (C : List Int) (a : Option Addr) (c : Nat) (R N : Int), j ≤ 20 ∧ vF = .int .i64 F ∧ vP = .int .i64 P ∧ ChM g n bc x5 j F P wx C a c R N)
  case first =>
    go_wp2_with fail
    go_loopw [9, 7, 8] (fun i vF vP wr => ∃ (j : Nat) (F P : Int) (C : List Int) (a : Option Addr) (c : Nat) (R N : Int), j ≤ 20 ∧ i = .int .i64 j ∧ vF = .int .i64 F ∧ vP = .int .i64 P ∧ ChM g n bc x5 j F P wr C a c R N) (fun i _ _ _ => 20 - (intOf i).toNat)
    case atStart => exact ⟨0, 0, 0, _, _, _, _, _, by omega, rfl, rfl, rfl, HM7.out⟩
    case round =>
      obtain ⟨j, F, P, C, a, c, R, N, hj, rfl, rfl, rfl, hM⟩ := hrel
      obtain ⟨wo, rfl⟩ : ∃ x : World, x = wr := ⟨_, rfl⟩
      by_cases hlt : j < L.length ∧ j < 20
      · obtain ⟨hjl, hj20⟩ := hlt
        have d1 : decide ((j : Int) < (L.length : Int)) = true := by simp; omega
        have d2 : decide (j < L.length) = true := by simpa using hjl
        have d3 : decide ((j : Int) < 20) = true := by simp; omega
        have d4 : decide (j < 20) = true := by simp; omega
        obtain ⟨gR, oR, rfl, hrow⟩ := u16_at HL1.out hjl
        have hFw := HF5.out.trans hM.fr
        have hrc := fun i (hi : i < 7) => hFw.cell_some (hrow i hi) (by simp)
        have hrb := HLB.out (rw_ L j) (by simp [rw_, List.getD, hjl])
        have hg := HG5.out.fr hM.fr (by simp)
        have c21 := H21.out _ hg
        have hmk := fun w => run_make_row' (P := Try.prog) 31 3 (.int .i64 0) 8 Try.underlying31 infoIntS rfl .i64 .i64 n (by omega) (by omega) w
        have HM := Lib.hid hM
        have HRC := Lib.hid hrc
        have HRB := Lib.hid hrb
        have HFW := Lib.hid hFw
        have HG := Lib.hid hg
        have hsz : x5.heap.size ≤ wo.heap.size := hM.fr.size
        have hwg : w.heap.size ≤ wo.heap.size := hFw.size
        have hbcg : bc < wo.heap.size := hM.row.lt
        have hog := fun q hq => (hM.own.block q hq).2
        have hgR : gR < w.heap.size := lt_of_cell (hrow 0 (by omega))
        clear hM hrow hFw hrc hrb hg HM7
        go_upto_region 9 with (fail)
        have ho := OwnI.made wo n 3 (by unfold maxLen; omega)
        rw [← upTo_zero (rF L j)] at ho
        have e1 : Fr [] wo (wo.alloc (.cells (madeCells #[.int .i64 0] n) 3)) := (Fr.refl [] wo).alloc _
        have HM1 := Lib.hid (HM.out.go e1)
        have HFW1 := Lib.hid (HFW.out.trans e1)
        have HG1 := Lib.hid (HG.out.fr e1 (by simp))
        have HRC1 := Lib.hid (fun i (hi : i < 7) => e1.cell_some (HRC.out i hi) (by simp))
        generalize wo.alloc (.cells (madeCells #[.int .i64 0] n) 3) = y1 at *
        generalize wo.heap.size = gl at *
        have HO := Lib.hid ho
        clear hmk ho e1 c21 HM HFW HG d1 d2 d3 d4 HRC
        go_upto_block 2 with (fail)
        go_cut [] (fun wx => OwnI wx gl 3 (.slice (some ⟨gl, 0, none⟩) n n) (upTo (rF L j) n n) ∧ Fr [gl] y1 wx)
        case first =>
          go_wp2_with fail
          go_loopw [42] (fun i wr => ∃ k : Nat, k ≤ n ∧ i = .int .i64 k ∧ OwnI wr gl 3 (.slice (some ⟨gl, 0, none⟩) n n) (upTo (rF L j) n k) ∧ Fr [gl] y1 wr) (fun i _ => n - (intOf i).toNat)
          case atStart => exact ⟨0, by omega, rfl, HO.out, Fr.refl _ _⟩
          case round =>
            obtain ⟨k, hk, rfl, ho, hf⟩ := hrel
            by_cases hlt : k < n
            · have hkn : (k : Int) < (n : Int) := by omega
              have hc2 : wr.cell? ⟨gR, oR + j * 7 + (k + 1), none⟩ = some (.int .u16 ((rw_ L j).getD (k + 1) 0)) := hf.cell_some (HRC1.out (k + 1) (by omega)) (by simp; omega)
              have hb : 0 ≤ (rw_ L j).getD (k + 1) 0 ∧ (rw_ L j).getD (k + 1) 0 ≤ 65535 := HRB.out (k + 1) (by omega)
              have hul := upTo_len (rF L j) n k
              have co := ho.cell k (by rw [hul]; exact hlt)
              have fo := ho.frozen k
              have hus := upTo_succ (rF L j) n k hlt
              have hrf : rF L j k = (rw_ L j).getD (k + 1) 0 % 4 := rfl
              rw [hrf] at hus
              have HUS := Lib.hid hus
              have HSET := Lib.hid (ho.set k ((rw_ L j).getD (k + 1) 0 % 4))
              have HFS := Lib.hid (hf.setCell (p := ⟨gl, k, none⟩) (.inl (by simp)) (.int .i64 ((rw_ L j).getD (k + 1) 0 % 4)))
              obtain ⟨b0, b1⟩ := hb
              have hjn : (j : Int) < (L.length : Int) := by omega
              clear ho hf hus hrf
              generalize (upTo (rF L j) n k).getD k 0 = y at *
              generalize (rw_ L j).getD (k + 1) 0 = z at *
              have hz : wrap64 (z.tmod 4) = z % 4 := by rw [Int.tmod_eq_emod_of_nonneg b0]; unfold wrap64; omega
              go_wp2_with fail
              go_roundw
              case rel => exact ⟨k + 1, by omega, by go_num, by rw [← HUS.out]; exact HSET.out, HFS.out⟩
              case measure => simp [intOf]; omega
            · obtain rfl : n = k := by omega
              have HO2 := Lib.hid ho
              have HF2 := Lib.hid hf
              clear ho hf
              go_wp2_with fail
              go_meet
              exact ⟨HO2.out, HF2.out⟩
        case rest =>
          obtain ⟨ho, hf⟩ := hcut
          obtain ⟨wz, hwz⟩ : ∃ x : World, x = wc := ⟨_, rfl⟩
          rw [← hwz] at ho hf ⊢
          clear hwz
          have hM := HM1.out.go2 hf hbcg hog hsz
          have hFw := HFW1.out.trans' hf (by intro i hi; simp at hi; right; omega)
          have hgz := HG1.out.fr hf (by simp; have := HG1.out.lt; omega)
          have hrz := hf.cell_some (HRC1.out 0 (by omega)) (by simp; omega)
          have hs0 : 0 ≤ (rw_ L j).getD 0 0 ∧ (rw_ L j).getD 0 0 ≤ 65535 := HRB.out 0 (by omega)
          obtain ⟨cs, hcs⟩ : ∃ cs, cs = upTo (rF L j) n n := ⟨_, rfl⟩
          rw [← hcs] at ho
          have hcl : cs.length = n := by rw [hcs, upTo_len]
          have hcb : ∀ i, i < cs.length → 0 ≤ cs.getD i 0 ∧ cs.getD i 0 ≤ 65535 := fun i hi => by
            rw [hcs, upTo_at _ _ _ _ (by omega), if_pos (by omega)]
            unfold rF
            omega
          generalize (rw_ L j).getD 0 0 = s at *
          obtain ⟨hE0, hN, hfu, hps, hpb⟩ := hM.ch.step hj20 HCHE.out HGT.out hm5 hs0.1 hs0.2 (by rw [hcl]; exact HN.out) hcb
          have hAF := (awE_facts hE0).2.1
          have hAW := fun x (h : Fr [] wz x) => award_any g s (.slice (some ⟨gl, 0, none⟩) n n) (.slice a n c) cs C R N x (HOK5.out.fr (hM.fr.trans h)) (ho.rd.below h) (hM.own.rd.below h)
          unfold AwPost at hAW
          have k1 : ∀ v, awV1 g s cs C R N v = .agg #[.int .i64 s, .int .i64 (fuA g s), .int .i64 (alR g s cs R), v] := fun v => by unfold awV1; rw [if_pos hE0]
          have k2 : ∀ vC vE vP vN, awV2 g s cs C R N vC vE vP vN = .agg #[vC, vE, vP, .int .i64 (awB g s cs C R N), .int .i64 (awD g s cs R), vN, .int .i64 (awR g s cs C R N), .int .i64 (awN g s cs C R N)] := fun vC vE vP vN => by unfold awV2; rw [if_pos hE0]
          have k3 : ∀ l, awZ g s cs C R N l = l := fun l => by unfold awZ; rw [if_pos hE0]
          simp only [k1, k2, k3, hE0] at hAW
          have hpl : (paL g (awF g s cs C R N) cs g.tiers.length).length = n := by rw [paL_len, HGN.out]
          have hcn : (awC g s cs C R N).length = n := by rw [hAF.len.2.1, HGN.out]
          have hgr : ∀ w b, GmAt w b g → w.rangeAt b 0 g.cells := fun w b h j v hv => by rw [Nat.zero_add]; exact h.cell j v hv
          have hR3 := hgr _ _ hgz
          simp only [show g.val = .agg g.cells.toArray from rfl] at hAW
          obtain ⟨gcs, hgcs⟩ : ∃ gcs, gcs = g.cells := ⟨_, rfl⟩
          have hgcl : gcs.length = 22 := by rw [hgcs]; rfl
          rw [← hgcs] at hAW hR3
          generalize hPL : paL g (awF g s cs C R N) cs g.tiers.length = PL at *
          generalize eaL g (awF g s cs C R N) cs g.tiers.length = EL at *
          generalize awC g s cs C R N = C2 at *
          generalize awT g s cs C R = TT at *
          generalize alR g s cs R = R1 at *
          generalize awB g s cs C R N = R2 at *
          generalize awD g s cs R = R3 at *
          generalize awR g s cs C R N = R4 at *
          generalize awN g s cs C R N = R5 at *
          generalize fuA g s = A at *
          have c0 := hM.row.cell 0 _ rfl
          have c1 := hM.row.cell 1 _ rfl
          have c2 := hM.row.cell 2 _ rfl
          have hu1 := Try.underlying25
          have hi1 : (Try.prog.info? 25).map (·.size) = some gcs.length := by rw [hgcl]; exact infoGame
          rw [Nat.add_zero] at hrz
          have hkeep : ∀ w', Fr [] wz w' → (w'.rangeAt bg 0 gcs ∧ w'.cell? ⟨bc, 0, none⟩ = some (.slice a n c) ∧ w'.cell? ⟨bc, 1, none⟩ = some (.int .i64 R) ∧ w'.cell? ⟨bc, 2, none⟩ = some (.int .i64 N) ∧ w'.cell? ⟨gR, oR + j * 7, none⟩ = some (.int .u16 s) ∧ Fr [] wz w') :=
            fun w' fr => ⟨fr.range hR3, fr.cell_some c0 (by simp), fr.cell_some c1 (by simp), fr.cell_some c2 (by simp), fr.cell_some hrz (by simp), fr⟩
          have HK := Lib.hid hkeep
          have HAW := Lib.hid hAW
          have HMZ := Lib.hid hM
          have HCS := Lib.hid ho
          have HN2 := Lib.hid hN
          have HPS := Lib.hid hps
          have HPB := Lib.hid hpb
          have HFZ := Lib.hid hFw
          have HGZ := Lib.hid hgz
          have hjn : (j : Int) < (L.length : Int) := by omega
          obtain ⟨s0, s1⟩ := hs0
          obtain ⟨A0, A1⟩ := hfu
          clear hkeep hAW hM ho hN hps hpb hFw hgz hf k1 k2 k3 hE0 hAF hgr hgcs hgcl hR3 c0 c1 c2 hrz hcs hcb hog HM1 HFW1 HG1 HRC1 HRB HO hPL
          have hsw : IntKind.i64.wrap s = s := IntWalk.i64_in _ (by omega)
          go_upto_region 14 with (fail)
          go_cut [12, 13, 14] (fun p q e wx => AwO wz n s A R1 R2 R3 R4 R5 PL C2 p q e wx)
          case first =>
            refine wp_region_held_drew (S := (fun w' => w'.rangeAt bg 0 gcs ∧ w'.cell? ⟨bc, 0, none⟩ = some (.slice a n c) ∧ w'.cell? ⟨bc, 1, none⟩ = some (.int .i64 R) ∧ w'.cell? ⟨bc, 2, none⟩ = some (.int .i64 N) ∧ w'.cell? ⟨gR, oR + j * 7, none⟩ = some (.int .u16 s) ∧ Fr [] wz w')) (by kernel_rfl) (HK.out _ (Fr.refl [] _).drew) (fun hHeld => ?_)
            refine' wpAnyH_take (i := 0) (oi := ⟨some 59, _, _, _, _, _⟩) (v := _) rfl (by kernel_rfl) (by kernel_rfl) (by kernel_rfl) (fun _ _ _ h => h) (yieldsIf_load_mid (by rfl) _ _ rfl _ _ rfl _ _ (fun w h => h.1) hu1 rfl hi1) hHeld ?_
            (try simp only [Act.put, List.setIfInBounds_toArray, List.set_cons_zero, List.set_cons_succ])
            refine wpAnyH_take (i := 1) (oi := ⟨some 60, _, _, _, _, _⟩) (v := .slice (some ⟨gR, oR, none⟩) L.length cL) rfl (by kernel_rfl) (by kernel_rfl) (by kernel_rfl) (fun _ _ _ h => h) (Or.inl ⟨by rfl, ?_⟩) hHeld ?_
            · intro w hSw; (try dsimp only at hSw); go_simp
            (try simp only [Act.put, List.setIfInBounds_toArray, List.set_cons_zero, List.set_cons_succ])
            refine wpAnyH_take (i := 2) (oi := ⟨some 61, _, _, _, _, _⟩) (v := .int .i64 j) rfl (by kernel_rfl) (by kernel_rfl) (by kernel_rfl) (fun _ _ _ h => h) (Or.inl ⟨by rfl, ?_⟩) hHeld ?_
            · intro w hSw; (try dsimp only at hSw); go_simp
            (try simp only [Act.put, List.setIfInBounds_toArray, List.set_cons_zero, List.set_cons_succ])
            refine wpAnyH_take (i := 3) (oi := ⟨some 62, _, _, _, _, _⟩) (v := .pointer (some ⟨gR, oR + j * 7, none⟩)) rfl (by kernel_rfl) (by kernel_rfl) (by kernel_rfl) (fun _ _ _ h => h) (Or.inl ⟨by rfl, ?_⟩) hHeld ?_
            · intro w hSw; (try dsimp only at hSw); go_simp
            (try simp only [Act.put, List.setIfInBounds_toArray, List.set_cons_zero, List.set_cons_succ])
            refine wpAnyH_take (i := 4) (oi := ⟨some 63, _, _, _, _, _⟩) (v := .pointer (some ⟨gR, oR + j * 7, none⟩)) rfl (by kernel_rfl) (by kernel_rfl) (by kernel_rfl) (fun _ _ _ h => h) (Or.inl ⟨by rfl, ?_⟩) hHeld ?_
            · intro w hSw; (try dsimp only at hSw); go_simp
            (try simp only [Act.put, List.setIfInBounds_toArray, List.set_cons_zero, List.set_cons_succ])
            refine wpAnyH_take (i := 5) (oi := ⟨some 64, _, _, _, _, _⟩) (v := .int .u16 s) rfl (by kernel_rfl) (by kernel_rfl) (by kernel_rfl) (fun _ _ _ h => h) (Or.inl ⟨by rfl, ?_⟩) hHeld ?_
            · intro w hSw; (try dsimp only at hSw); go_simp
            (try simp only [Act.put, List.setIfInBounds_toArray, List.set_cons_zero, List.set_cons_succ])
            refine wpAnyH_take (i := 6) (oi := ⟨some 65, _, _, _, _, _⟩) (v := .int .i64 s) rfl (by kernel_rfl) (by kernel_rfl) (by kernel_rfl) (fun _ _ _ h => h) (Or.inl ⟨by rfl, ?_⟩) hHeld ?_
            · intro w hSw; (try dsimp only at hSw); go_simp
            (try simp only [Act.put, List.setIfInBounds_toArray, List.set_cons_zero, List.set_cons_succ])
            refine wpAnyH_take (i := 7) (oi := ⟨some 66, _, _, _, _, _⟩) (v := .slice (some ⟨gl, 0, none⟩) n n) rfl (by kernel_rfl) (by kernel_rfl) (by kernel_rfl) (fun _ _ _ h => h) (Or.inl ⟨by rfl, ?_⟩) hHeld ?_
            · intro w hSw; (try dsimp only at hSw); go_simp
            (try simp only [Act.put, List.setIfInBounds_toArray, List.set_cons_zero, List.set_cons_succ])
            refine wpAnyH_take (i := 8) (oi := ⟨some 67, _, _, _, _, _⟩) (v := .agg #[.slice a n c, .int .i64 R, .int .i64 N]) rfl (by kernel_rfl) (by kernel_rfl) (by kernel_rfl) (fun _ _ _ h => h) (Or.inl ⟨by rfl, ?_⟩) hHeld ?_
            · intro w hSw; (try dsimp only at hSw); go_simp
            (try simp only [Act.put, List.setIfInBounds_toArray, List.set_cons_zero, List.set_cons_succ])
            obtain ⟨y0, hy0⟩ : ∃ y, y = wz.drew := ⟨_, rfl⟩
            rw [← hy0] at hHeld ⊢
            clear hy0
            refine wpAnyH_ready (rs := [9, 14, 15]) (by kernel_rfl) (by simp) ?_
            refine AllReadyH.cons (o := ⟨some 68, _, _, _, _, _⟩) rfl (fun K hK => ?_) (AllReadyH.cons (o := ⟨some 12, _, _, _, _, _⟩) rfl (fun K hK => ?_) (AllReadyH.cons (o := ⟨some 13, _, _, _, _, _⟩) rfl (fun K hK => ?_) AllReadyH.nil))
            all_goals rw [if_pos (by rfl)]
            all_goals go_simp
            · skip
              have hbw := hHeld.2.2.2.2.2.size
              refine (HAW.out _ hHeld.2.2.2.2.2).mono ?_
              rintro e y1 ⟨vT, vC, vE, vP, vN, rfl, oT, oC, oE, oP, oN, fc⟩
              obtain ⟨aT, nT, cT, rfl⟩ := oT.sl
              obtain ⟨aC, nC, cC, rfl⟩ := oC.sl
              obtain ⟨aE, nE, cE, rfl⟩ := oE.sl
              obtain ⟨aP, cP, rfl, _, _⟩ := oP.any
              obtain ⟨aN, cN, rfl, _, _⟩ := oN.any
              rw [hpl] at oP ⊢
              rw [hcn] at oN ⊢
              have oP := oP.mono hbw
              have oN := oN.mono hbw
              clear oT oC oE hbw
              refine hK.out _ _ (HK.out _ (hHeld.2.2.2.2.2.trans fc)) (fun hHeld' => ?_)
              clear hK K hHeld
              have hHeld := hHeld'
              clear hHeld'
              (try simp only [Act.put, List.setIfInBounds_toArray, List.set_cons_zero, List.set_cons_succ])
              clear fc
              refine wpAnyH_take (i := 10) (oi := ⟨some 58, _, _, _, _, _⟩) (v := .tuple #[.agg #[.int .i64 s, .int .i64 A, .int .i64 R1, .slice aT nT cT], .agg #[.slice aC nC cC, .slice aE nE cE, .slice aP n cP, .int .i64 R2, .int .i64 R3, .slice aN n cN, .int .i64 R4, .int .i64 R5], .int .i64 0]) rfl (by kernel_rfl) (by kernel_rfl) (by kernel_rfl) (fun _ _ _ h => h) (Or.inl ⟨by rfl, ?_⟩) hHeld ?_
              · intro w hSw; (try dsimp only at hSw); go_simp
              (try simp only [Act.put, List.setIfInBounds_toArray, List.set_cons_zero, List.set_cons_succ])
              refine wpAnyH_take (i := 11) (oi := ⟨some 69, _, _, _, _, _⟩) (v := .agg #[.int .i64 s, .int .i64 A, .int .i64 R1, .slice aT nT cT]) rfl (by kernel_rfl) (by kernel_rfl) (by kernel_rfl) (fun _ _ _ h => h) (Or.inl ⟨by rfl, ?_⟩) hHeld ?_
              · intro w hSw; (try dsimp only at hSw); go_simp
              (try simp only [Act.put, List.setIfInBounds_toArray, List.set_cons_zero, List.set_cons_succ])
              refine wpAnyH_take (i := 12) (oi := ⟨some 70, _, _, _, _, _⟩) (v := .agg #[.slice aC nC cC, .slice aE nE cE, .slice aP n cP, .int .i64 R2, .int .i64 R3, .slice aN n cN, .int .i64 R4, .int .i64 R5]) rfl (by kernel_rfl) (by kernel_rfl) (by kernel_rfl) (fun _ _ _ h => h) (Or.inl ⟨by rfl, ?_⟩) hHeld ?_
              · intro w hSw; (try dsimp only at hSw); go_simp
              (try simp only [Act.put, List.setIfInBounds_toArray, List.set_cons_zero, List.set_cons_succ])
              refine wpAnyH_take (i := 13) (oi := ⟨some 71, _, _, _, _, _⟩) (v := .int .i64 0) rfl (by kernel_rfl) (by kernel_rfl) (by kernel_rfl) (fun _ _ _ h => h) (Or.inl ⟨by rfl, ?_⟩) hHeld ?_
              · intro w hSw; (try dsimp only at hSw); go_simp
              (try simp only [Act.put, List.setIfInBounds_toArray, List.set_cons_zero, List.set_cons_succ])
              refine wpAnyH_ready (rs := [14, 15]) (by kernel_rfl) (by simp) ?_
              refine AllReadyH.cons (o := ⟨some 12, _, _, _, _, _⟩) rfl (fun K hK => ?_) (AllReadyH.cons (o := ⟨some 13, _, _, _, _, _⟩) rfl (fun K hK => ?_) AllReadyH.nil)
              all_goals rw [if_pos (by rfl)]
              all_goals go_simp
              · skip
                have rP : RowAt (y1.alloc (.cells #[.int .i64 0, .int .i64 0, .int .i64 0, .slice none 0 0] 45)) y1.heap.size 45 [.int .i64 0, .int .i64 0, .int .i64 0, .slice none 0 0] := RowAt.new rfl rfl
                have fa : Fr [] y1 (y1.alloc (.cells #[.int .i64 0, .int .i64 0, .int .i64 0, .slice none 0 0] 45)) := (Fr.refl [] _).alloc _
                have hbP : wz.heap.size ≤ y1.heap.size := hHeld.2.2.2.2.2.size
                have xPP : ∀ k, (Value.slice aP n cP).ownBlock = some k → k ∉ [y1.heap.size] := fun k hk => by have := (oP.block k hk).2; simp; omega
                have oP := oP.fr fa (by simp)
                have xNP : ∀ k, (Value.slice aN n cN).ownBlock = some k → k ∉ [y1.heap.size] := fun k hk => by have := (oN.block k hk).2; simp; omega
                have oN := oN.fr fa (by simp)
                generalize y1.alloc (.cells #[.int .i64 0, .int .i64 0, .int .i64 0, .slice none 0 0] 45) = y2 at *
                generalize y1.heap.size = bP at *
                refine hK.out _ _ (HK.out _ (hHeld.2.2.2.2.2.trans fa)) (fun hHeld' => ?_)
                clear hK K hHeld
                have hHeld := hHeld'
                clear hHeld'
                (try simp only [Act.put, List.setIfInBounds_toArray, List.set_cons_zero, List.set_cons_succ])
                clear fa
                refine wpAnyH_ready (rs := [15]) (by kernel_rfl) (by simp) ?_
                refine AllReadyH.cons (o := ⟨some 13, _, _, _, _, _⟩) rfl (fun K hK => ?_) AllReadyH.nil
                rw [if_pos (by rfl)]
                go_simp
                have rA : RowAt (y2.alloc (.cells #[.slice none 0 0, .slice none 0 0, .slice none 0 0, .int .i64 0, .int .i64 0, .slice none 0 0, .int .i64 0, .int .i64 0] 60)) y2.heap.size 60 aw0 := RowAt.new rfl rfl
                have fa : Fr [] y2 (y2.alloc (.cells #[.slice none 0 0, .slice none 0 0, .slice none 0 0, .int .i64 0, .int .i64 0, .slice none 0 0, .int .i64 0, .int .i64 0] 60)) := (Fr.refl [] _).alloc _
                have hbA : wz.heap.size ≤ y2.heap.size := hHeld.2.2.2.2.2.size
                have xPA : ∀ k, (Value.slice aP n cP).ownBlock = some k → k ∉ [y2.heap.size] := fun k hk => by have := (oP.block k hk).2; simp; omega
                have oP := oP.fr fa (by simp)
                have xNA : ∀ k, (Value.slice aN n cN).ownBlock = some k → k ∉ [y2.heap.size] := fun k hk => by have := (oN.block k hk).2; simp; omega
                have oN := oN.fr fa (by simp)
                have ne : bP ≠ y2.heap.size := by have := rP.lt; omega
                have rP := rP.fr fa (by simp)
                generalize y2.alloc (.cells #[.slice none 0 0, .slice none 0 0, .slice none 0 0, .int .i64 0, .int .i64 0, .slice none 0 0, .int .i64 0, .int .i64 0] 60) = y3 at *
                generalize y2.heap.size = bA at *
                refine hK.out _ _ (HK.out _ (hHeld.2.2.2.2.2.trans fa)) (fun hHeld' => ?_)
                clear hK K hHeld
                have hHeld := hHeld'
                clear hHeld'
                (try simp only [Act.put, List.setIfInBounds_toArray, List.set_cons_zero, List.set_cons_succ])
                clear fa
                have p0 := rP.cell 0 _ rfl
                have q0 := rP.frozen 0
                have p1 := rP.cell 1 _ rfl
                have q1 := rP.frozen 1
                have p2 := rP.cell 2 _ rfl
                have q2 := rP.frozen 2
                have p3 := rP.cell 3 _ rfl
                have q3 := rP.frozen 3
                refine wpAnyH_ready (rs := [16]) (by kernel_rfl) (by simp) ?_
                refine AllReadyH.cons (o := ⟨none, _, _, _, _, _⟩) rfl (fun K hK => ?_) AllReadyH.nil
                rw [if_pos (by rfl)]
                go_simp
                have rP := put_p rP rfl (.int .i64 s) (.int .i64 A) (.int .i64 R1) (.slice aT nT cT)
                have fs := fr4 (x := y3) (b := bP) (.int .i64 s) (.int .i64 A) (.int .i64 R1) (.slice aT nT cT)
                have rA := rA.fr fs (by simp; omega)
                have oP := oP.fr fs xPP
                have oN := oN.fr fs xNP
                have g0 : Fr [] wz _ := hHeld.2.2.2.2.2.trans' fs (by intro i hi; simp at hi; right; omega)
                clear p0 q0 p1 q1 p2 q2 p3 q3
                generalize (((y3.setCell ⟨bP, 0, none⟩ (.int .i64 s)).setCell ⟨bP, 1, none⟩ (.int .i64 A)).setCell ⟨bP, 2, none⟩ (.int .i64 R1)).setCell ⟨bP, 3, none⟩ (.slice aT nT cT) = z1 at *
                refine hK.out _ _ (HK.out _ g0) (fun hHeld' => ?_)
                clear hK K hHeld
                have hHeld := hHeld'
                clear hHeld'
                (try simp only [Act.put, List.setIfInBounds_toArray, List.set_cons_zero, List.set_cons_succ])
                clear g0 fs
                have p0 := rA.cell 0 _ rfl
                have q0 := rA.frozen 0
                have p1 := rA.cell 1 _ rfl
                have q1 := rA.frozen 1
                have p2 := rA.cell 2 _ rfl
                have q2 := rA.frozen 2
                have p3 := rA.cell 3 _ rfl
                have q3 := rA.frozen 3
                have p4 := rA.cell 4 _ rfl
                have q4 := rA.frozen 4
                have p5 := rA.cell 5 _ rfl
                have q5 := rA.frozen 5
                have p6 := rA.cell 6 _ rfl
                have q6 := rA.frozen 6
                have p7 := rA.cell 7 _ rfl
                have q7 := rA.frozen 7
                refine wpAnyH_ready (rs := [17]) (by kernel_rfl) (by simp) ?_
                refine AllReadyH.cons (o := ⟨none, _, _, _, _, _⟩) rfl (fun K hK => ?_) AllReadyH.nil
                rw [if_pos (by rfl)]
                go_simp
                have rA := put_a rA rfl (.slice aC nC cC) (.slice aE nE cE) (.slice aP n cP) (.int .i64 R2) (.int .i64 R3) (.slice aN n cN) (.int .i64 R4) (.int .i64 R5)
                have fs := fr8 (x := z1) (b := bA) (.slice aC nC cC) (.slice aE nE cE) (.slice aP n cP) (.int .i64 R2) (.int .i64 R3) (.slice aN n cN) (.int .i64 R4) (.int .i64 R5)
                have rP := rP.fr fs (by simp; omega)
                have oP := oP.fr fs xPA
                have oN := oN.fr fs xNA
                have g0 : Fr [] wz _ := hHeld.2.2.2.2.2.trans' fs (by intro i hi; simp at hi; right; omega)
                clear p0 q0 p1 q1 p2 q2 p3 q3 p4 q4 p5 q5 p6 q6 p7 q7
                generalize (((((((z1.setCell ⟨bA, 0, none⟩ (.slice aC nC cC)).setCell ⟨bA, 1, none⟩ (.slice aE nE cE)).setCell ⟨bA, 2, none⟩ (.slice aP n cP)).setCell ⟨bA, 3, none⟩ (.int .i64 R2)).setCell ⟨bA, 4, none⟩ (.int .i64 R3)).setCell ⟨bA, 5, none⟩ (.slice aN n cN)).setCell ⟨bA, 6, none⟩ (.int .i64 R4)).setCell ⟨bA, 7, none⟩ (.int .i64 R5) = z2 at *
                refine hK.out _ _ (HK.out _ g0) (fun hHeld' => ?_)
                clear hK K hHeld
                have hHeld := hHeld'
                clear hHeld'
                (try simp only [Act.put, List.setIfInBounds_toArray, List.set_cons_zero, List.set_cons_succ])
                clear g0 fs
                refine wpAnyH_take (i := 18) (oi := ⟨some 14, _, _, _, _, _⟩) (v := .int .i64 0) rfl (by kernel_rfl) (by kernel_rfl) (by kernel_rfl) (fun _ _ _ h => h) (Or.inl ⟨by rfl, ?_⟩) hHeld ?_
                · intro w hSw; (try dsimp only at hSw); go_simp
                (try simp only [Act.put, List.setIfInBounds_toArray, List.set_cons_zero, List.set_cons_succ])
                have hW := Lib.hid hHeld.2.2.2.2.2
                clear hHeld
                refine wpAnyH_done (by kernel_rfl) ?_ _
                have HRP := Lib.hid rP
                have HRA := Lib.hid rA
                have HOP := Lib.hid oP
                have HON := Lib.hid oN
                clear rP rA oP oN ne xPP xPA xNP xNA
                go_wp2_with fail
                go_meet
                exact ⟨bP, bA, _, _, _, aP, aN, cP, cN, rfl, rfl, rfl, HRP.out, HRA.out, HOP.out, HON.out, hW.out⟩
              · skip
                have rA : RowAt (y1.alloc (.cells #[.slice none 0 0, .slice none 0 0, .slice none 0 0, .int .i64 0, .int .i64 0, .slice none 0 0, .int .i64 0, .int .i64 0] 60)) y1.heap.size 60 aw0 := RowAt.new rfl rfl
                have fa : Fr [] y1 (y1.alloc (.cells #[.slice none 0 0, .slice none 0 0, .slice none 0 0, .int .i64 0, .int .i64 0, .slice none 0 0, .int .i64 0, .int .i64 0] 60)) := (Fr.refl [] _).alloc _
                have hbA : wz.heap.size ≤ y1.heap.size := hHeld.2.2.2.2.2.size
                have xPA : ∀ k, (Value.slice aP n cP).ownBlock = some k → k ∉ [y1.heap.size] := fun k hk => by have := (oP.block k hk).2; simp; omega
                have oP := oP.fr fa (by simp)
                have xNA : ∀ k, (Value.slice aN n cN).ownBlock = some k → k ∉ [y1.heap.size] := fun k hk => by have := (oN.block k hk).2; simp; omega
                have oN := oN.fr fa (by simp)
                generalize y1.alloc (.cells #[.slice none 0 0, .slice none 0 0, .slice none 0 0, .int .i64 0, .int .i64 0, .slice none 0 0, .int .i64 0, .int .i64 0] 60) = y2 at *
                generalize y1.heap.size = bA at *
                refine hK.out _ _ (HK.out _ (hHeld.2.2.2.2.2.trans fa)) (fun hHeld' => ?_)
                clear hK K hHeld
                have hHeld := hHeld'
                clear hHeld'
                (try simp only [Act.put, List.setIfInBounds_toArray, List.set_cons_zero, List.set_cons_succ])
                clear fa
                refine wpAnyH_ready (rs := [14]) (by kernel_rfl) (by simp) ?_
                refine AllReadyH.cons (o := ⟨some 12, _, _, _, _, _⟩) rfl (fun K hK => ?_) AllReadyH.nil
                rw [if_pos (by rfl)]
                go_simp
                have rP : RowAt (y2.alloc (.cells #[.int .i64 0, .int .i64 0, .int .i64 0, .slice none 0 0] 45)) y2.heap.size 45 [.int .i64 0, .int .i64 0, .int .i64 0, .slice none 0 0] := RowAt.new rfl rfl
                have fa : Fr [] y2 (y2.alloc (.cells #[.int .i64 0, .int .i64 0, .int .i64 0, .slice none 0 0] 45)) := (Fr.refl [] _).alloc _
                have hbP : wz.heap.size ≤ y2.heap.size := hHeld.2.2.2.2.2.size
                have xPP : ∀ k, (Value.slice aP n cP).ownBlock = some k → k ∉ [y2.heap.size] := fun k hk => by have := (oP.block k hk).2; simp; omega
                have oP := oP.fr fa (by simp)
                have xNP : ∀ k, (Value.slice aN n cN).ownBlock = some k → k ∉ [y2.heap.size] := fun k hk => by have := (oN.block k hk).2; simp; omega
                have oN := oN.fr fa (by simp)
                have ne : bA ≠ y2.heap.size := by have := rA.lt; omega
                have rA := rA.fr fa (by simp)
                generalize y2.alloc (.cells #[.int .i64 0, .int .i64 0, .int .i64 0, .slice none 0 0] 45) = y3 at *
                generalize y2.heap.size = bP at *
                refine hK.out _ _ (HK.out _ (hHeld.2.2.2.2.2.trans fa)) (fun hHeld' => ?_)
                clear hK K hHeld
                have hHeld := hHeld'
                clear hHeld'
                (try simp only [Act.put, List.setIfInBounds_toArray, List.set_cons_zero, List.set_cons_succ])
                clear fa
                have p0 := rP.cell 0 _ rfl
                have q0 := rP.frozen 0
                have p1 := rP.cell 1 _ rfl
                have q1 := rP.frozen 1
                have p2 := rP.cell 2 _ rfl
                have q2 := rP.frozen 2
                have p3 := rP.cell 3 _ rfl
                have q3 := rP.frozen 3
                refine wpAnyH_ready (rs := [16]) (by kernel_rfl) (by simp) ?_
                refine AllReadyH.cons (o := ⟨none, _, _, _, _, _⟩) rfl (fun K hK => ?_) AllReadyH.nil
                rw [if_pos (by rfl)]
                go_simp
                have rP := put_p rP rfl (.int .i64 s) (.int .i64 A) (.int .i64 R1) (.slice aT nT cT)
                have fs := fr4 (x := y3) (b := bP) (.int .i64 s) (.int .i64 A) (.int .i64 R1) (.slice aT nT cT)
                have rA := rA.fr fs (by simp; omega)
                have oP := oP.fr fs xPP
                have oN := oN.fr fs xNP
                have g0 : Fr [] wz _ := hHeld.2.2.2.2.2.trans' fs (by intro i hi; simp at hi; right; omega)
                clear p0 q0 p1 q1 p2 q2 p3 q3
                generalize (((y3.setCell ⟨bP, 0, none⟩ (.int .i64 s)).setCell ⟨bP, 1, none⟩ (.int .i64 A)).setCell ⟨bP, 2, none⟩ (.int .i64 R1)).setCell ⟨bP, 3, none⟩ (.slice aT nT cT) = z1 at *
                refine hK.out _ _ (HK.out _ g0) (fun hHeld' => ?_)
                clear hK K hHeld
                have hHeld := hHeld'
                clear hHeld'
                (try simp only [Act.put, List.setIfInBounds_toArray, List.set_cons_zero, List.set_cons_succ])
                clear g0 fs
                have p0 := rA.cell 0 _ rfl
                have q0 := rA.frozen 0
                have p1 := rA.cell 1 _ rfl
                have q1 := rA.frozen 1
                have p2 := rA.cell 2 _ rfl
                have q2 := rA.frozen 2
                have p3 := rA.cell 3 _ rfl
                have q3 := rA.frozen 3
                have p4 := rA.cell 4 _ rfl
                have q4 := rA.frozen 4
                have p5 := rA.cell 5 _ rfl
                have q5 := rA.frozen 5
                have p6 := rA.cell 6 _ rfl
                have q6 := rA.frozen 6
                have p7 := rA.cell 7 _ rfl
                have q7 := rA.frozen 7
                refine wpAnyH_ready (rs := [17]) (by kernel_rfl) (by simp) ?_
                refine AllReadyH.cons (o := ⟨none, _, _, _, _, _⟩) rfl (fun K hK => ?_) AllReadyH.nil
                rw [if_pos (by rfl)]
                go_simp
                have rA := put_a rA rfl (.slice aC nC cC) (.slice aE nE cE) (.slice aP n cP) (.int .i64 R2) (.int .i64 R3) (.slice aN n cN) (.int .i64 R4) (.int .i64 R5)
                have fs := fr8 (x := z1) (b := bA) (.slice aC nC cC) (.slice aE nE cE) (.slice aP n cP) (.int .i64 R2) (.int .i64 R3) (.slice aN n cN) (.int .i64 R4) (.int .i64 R5)
                have rP := rP.fr fs (by simp; omega)
                have oP := oP.fr fs xPA
                have oN := oN.fr fs xNA
                have g0 : Fr [] wz _ := hHeld.2.2.2.2.2.trans' fs (by intro i hi; simp at hi; right; omega)
                clear p0 q0 p1 q1 p2 q2 p3 q3 p4 q4 p5 q5 p6 q6 p7 q7
                generalize (((((((z1.setCell ⟨bA, 0, none⟩ (.slice aC nC cC)).setCell ⟨bA, 1, none⟩ (.slice aE nE cE)).setCell ⟨bA, 2, none⟩ (.slice aP n cP)).setCell ⟨bA, 3, none⟩ (.int .i64 R2)).setCell ⟨bA, 4, none⟩ (.int .i64 R3)).setCell ⟨bA, 5, none⟩ (.slice aN n cN)).setCell ⟨bA, 6, none⟩ (.int .i64 R4)).setCell ⟨bA, 7, none⟩ (.int .i64 R5) = z2 at *
                refine hK.out _ _ (HK.out _ g0) (fun hHeld' => ?_)
                clear hK K hHeld
                have hHeld := hHeld'
                clear hHeld'
                (try simp only [Act.put, List.setIfInBounds_toArray, List.set_cons_zero, List.set_cons_succ])
                clear g0 fs
                refine wpAnyH_take (i := 18) (oi := ⟨some 14, _, _, _, _, _⟩) (v := .int .i64 0) rfl (by kernel_rfl) (by kernel_rfl) (by kernel_rfl) (fun _ _ _ h => h) (Or.inl ⟨by rfl, ?_⟩) hHeld ?_
                · intro w hSw; (try dsimp only at hSw); go_simp
                (try simp only [Act.put, List.setIfInBounds_toArray, List.set_cons_zero, List.set_cons_succ])
                have hW := Lib.hid hHeld.2.2.2.2.2
                clear hHeld
                refine wpAnyH_done (by kernel_rfl) ?_ _
                have HRP := Lib.hid rP
                have HRA := Lib.hid rA
                have HOP := Lib.hid oP
                have HON := Lib.hid oN
                clear rP rA oP oN ne xPP xPA xNP xNA
                go_wp2_with fail
                go_meet
                exact ⟨bP, bA, _, _, _, aP, aN, cP, cN, rfl, rfl, rfl, HRP.out, HRA.out, HOP.out, HON.out, hW.out⟩
            · skip
              have rP : RowAt (y0.alloc (.cells #[.int .i64 0, .int .i64 0, .int .i64 0, .slice none 0 0] 45)) y0.heap.size 45 [.int .i64 0, .int .i64 0, .int .i64 0, .slice none 0 0] := RowAt.new rfl rfl
              have fa : Fr [] y0 (y0.alloc (.cells #[.int .i64 0, .int .i64 0, .int .i64 0, .slice none 0 0] 45)) := (Fr.refl [] _).alloc _
              have hbP : wz.heap.size ≤ y0.heap.size := hHeld.2.2.2.2.2.size
              generalize y0.alloc (.cells #[.int .i64 0, .int .i64 0, .int .i64 0, .slice none 0 0] 45) = y1 at *
              generalize y0.heap.size = bP at *
              refine hK.out _ _ (HK.out _ (hHeld.2.2.2.2.2.trans fa)) (fun hHeld' => ?_)
              clear hK K hHeld
              have hHeld := hHeld'
              clear hHeld'
              (try simp only [Act.put, List.setIfInBounds_toArray, List.set_cons_zero, List.set_cons_succ])
              clear fa
              refine wpAnyH_ready (rs := [9, 15]) (by kernel_rfl) (by simp) ?_
              refine AllReadyH.cons (o := ⟨some 68, _, _, _, _, _⟩) rfl (fun K hK => ?_) (AllReadyH.cons (o := ⟨some 13, _, _, _, _, _⟩) rfl (fun K hK => ?_) AllReadyH.nil)
              all_goals rw [if_pos (by rfl)]
              all_goals go_simp
              · skip
                have ltP := rP.lt
                have hbw := hHeld.2.2.2.2.2.size
                refine (HAW.out _ hHeld.2.2.2.2.2).mono ?_
                rintro e y2 ⟨vT, vC, vE, vP, vN, rfl, oT, oC, oE, oP, oN, fc⟩
                obtain ⟨aT, nT, cT, rfl⟩ := oT.sl
                obtain ⟨aC, nC, cC, rfl⟩ := oC.sl
                obtain ⟨aE, nE, cE, rfl⟩ := oE.sl
                obtain ⟨aP, cP, rfl, _, _⟩ := oP.any
                obtain ⟨aN, cN, rfl, _, _⟩ := oN.any
                rw [hpl] at oP ⊢
                rw [hcn] at oN ⊢
                have rP := rP.fr fc (by simp)
                have xPP : ∀ k, (Value.slice aP n cP).ownBlock = some k → k ∉ [bP] := fun k hk => by have := (oP.block k hk).1; simp; omega
                have xNP : ∀ k, (Value.slice aN n cN).ownBlock = some k → k ∉ [bP] := fun k hk => by have := (oN.block k hk).1; simp; omega
                have oP := oP.mono hbw
                have oN := oN.mono hbw
                clear oT oC oE hbw ltP
                refine hK.out _ _ (HK.out _ (hHeld.2.2.2.2.2.trans fc)) (fun hHeld' => ?_)
                clear hK K hHeld
                have hHeld := hHeld'
                clear hHeld'
                (try simp only [Act.put, List.setIfInBounds_toArray, List.set_cons_zero, List.set_cons_succ])
                clear fc
                refine wpAnyH_take (i := 10) (oi := ⟨some 58, _, _, _, _, _⟩) (v := .tuple #[.agg #[.int .i64 s, .int .i64 A, .int .i64 R1, .slice aT nT cT], .agg #[.slice aC nC cC, .slice aE nE cE, .slice aP n cP, .int .i64 R2, .int .i64 R3, .slice aN n cN, .int .i64 R4, .int .i64 R5], .int .i64 0]) rfl (by kernel_rfl) (by kernel_rfl) (by kernel_rfl) (fun _ _ _ h => h) (Or.inl ⟨by rfl, ?_⟩) hHeld ?_
                · intro w hSw; (try dsimp only at hSw); go_simp
                (try simp only [Act.put, List.setIfInBounds_toArray, List.set_cons_zero, List.set_cons_succ])
                refine wpAnyH_take (i := 11) (oi := ⟨some 69, _, _, _, _, _⟩) (v := .agg #[.int .i64 s, .int .i64 A, .int .i64 R1, .slice aT nT cT]) rfl (by kernel_rfl) (by kernel_rfl) (by kernel_rfl) (fun _ _ _ h => h) (Or.inl ⟨by rfl, ?_⟩) hHeld ?_
                · intro w hSw; (try dsimp only at hSw); go_simp
                (try simp only [Act.put, List.setIfInBounds_toArray, List.set_cons_zero, List.set_cons_succ])
                refine wpAnyH_take (i := 12) (oi := ⟨some 70, _, _, _, _, _⟩) (v := .agg #[.slice aC nC cC, .slice aE nE cE, .slice aP n cP, .int .i64 R2, .int .i64 R3, .slice aN n cN, .int .i64 R4, .int .i64 R5]) rfl (by kernel_rfl) (by kernel_rfl) (by kernel_rfl) (fun _ _ _ h => h) (Or.inl ⟨by rfl, ?_⟩) hHeld ?_
                · intro w hSw; (try dsimp only at hSw); go_simp
                (try simp only [Act.put, List.setIfInBounds_toArray, List.set_cons_zero, List.set_cons_succ])
                refine wpAnyH_take (i := 13) (oi := ⟨some 71, _, _, _, _, _⟩) (v := .int .i64 0) rfl (by kernel_rfl) (by kernel_rfl) (by kernel_rfl) (fun _ _ _ h => h) (Or.inl ⟨by rfl, ?_⟩) hHeld ?_
                · intro w hSw; (try dsimp only at hSw); go_simp
                (try simp only [Act.put, List.setIfInBounds_toArray, List.set_cons_zero, List.set_cons_succ])
                refine wpAnyH_ready (rs := [15]) (by kernel_rfl) (by simp) ?_
                refine AllReadyH.cons (o := ⟨some 13, _, _, _, _, _⟩) rfl (fun K hK => ?_) AllReadyH.nil
                rw [if_pos (by rfl)]
                go_simp
                have rA : RowAt (y2.alloc (.cells #[.slice none 0 0, .slice none 0 0, .slice none 0 0, .int .i64 0, .int .i64 0, .slice none 0 0, .int .i64 0, .int .i64 0] 60)) y2.heap.size 60 aw0 := RowAt.new rfl rfl
                have fa : Fr [] y2 (y2.alloc (.cells #[.slice none 0 0, .slice none 0 0, .slice none 0 0, .int .i64 0, .int .i64 0, .slice none 0 0, .int .i64 0, .int .i64 0] 60)) := (Fr.refl [] _).alloc _
                have hbA : wz.heap.size ≤ y2.heap.size := hHeld.2.2.2.2.2.size
                have ne : bP ≠ y2.heap.size := by have := rP.lt; omega
                have rP := rP.fr fa (by simp)
                have xPA : ∀ k, (Value.slice aP n cP).ownBlock = some k → k ∉ [y2.heap.size] := fun k hk => by have := (oP.block k hk).2; simp; omega
                have oP := oP.fr fa (by simp)
                have xNA : ∀ k, (Value.slice aN n cN).ownBlock = some k → k ∉ [y2.heap.size] := fun k hk => by have := (oN.block k hk).2; simp; omega
                have oN := oN.fr fa (by simp)
                generalize y2.alloc (.cells #[.slice none 0 0, .slice none 0 0, .slice none 0 0, .int .i64 0, .int .i64 0, .slice none 0 0, .int .i64 0, .int .i64 0] 60) = y3 at *
                generalize y2.heap.size = bA at *
                refine hK.out _ _ (HK.out _ (hHeld.2.2.2.2.2.trans fa)) (fun hHeld' => ?_)
                clear hK K hHeld
                have hHeld := hHeld'
                clear hHeld'
                (try simp only [Act.put, List.setIfInBounds_toArray, List.set_cons_zero, List.set_cons_succ])
                clear fa
                have p0 := rP.cell 0 _ rfl
                have q0 := rP.frozen 0
                have p1 := rP.cell 1 _ rfl
                have q1 := rP.frozen 1
                have p2 := rP.cell 2 _ rfl
                have q2 := rP.frozen 2
                have p3 := rP.cell 3 _ rfl
                have q3 := rP.frozen 3
                refine wpAnyH_ready (rs := [16]) (by kernel_rfl) (by simp) ?_
                refine AllReadyH.cons (o := ⟨none, _, _, _, _, _⟩) rfl (fun K hK => ?_) AllReadyH.nil
                rw [if_pos (by rfl)]
                go_simp
                have rP := put_p rP rfl (.int .i64 s) (.int .i64 A) (.int .i64 R1) (.slice aT nT cT)
                have fs := fr4 (x := y3) (b := bP) (.int .i64 s) (.int .i64 A) (.int .i64 R1) (.slice aT nT cT)
                have rA := rA.fr fs (by simp; omega)
                have oP := oP.fr fs xPP
                have oN := oN.fr fs xNP
                have g0 : Fr [] wz _ := hHeld.2.2.2.2.2.trans' fs (by intro i hi; simp at hi; right; omega)
                clear p0 q0 p1 q1 p2 q2 p3 q3
                generalize (((y3.setCell ⟨bP, 0, none⟩ (.int .i64 s)).setCell ⟨bP, 1, none⟩ (.int .i64 A)).setCell ⟨bP, 2, none⟩ (.int .i64 R1)).setCell ⟨bP, 3, none⟩ (.slice aT nT cT) = z1 at *
                refine hK.out _ _ (HK.out _ g0) (fun hHeld' => ?_)
                clear hK K hHeld
                have hHeld := hHeld'
                clear hHeld'
                (try simp only [Act.put, List.setIfInBounds_toArray, List.set_cons_zero, List.set_cons_succ])
                clear g0 fs
                have p0 := rA.cell 0 _ rfl
                have q0 := rA.frozen 0
                have p1 := rA.cell 1 _ rfl
                have q1 := rA.frozen 1
                have p2 := rA.cell 2 _ rfl
                have q2 := rA.frozen 2
                have p3 := rA.cell 3 _ rfl
                have q3 := rA.frozen 3
                have p4 := rA.cell 4 _ rfl
                have q4 := rA.frozen 4
                have p5 := rA.cell 5 _ rfl
                have q5 := rA.frozen 5
                have p6 := rA.cell 6 _ rfl
                have q6 := rA.frozen 6
                have p7 := rA.cell 7 _ rfl
                have q7 := rA.frozen 7
                refine wpAnyH_ready (rs := [17]) (by kernel_rfl) (by simp) ?_
                refine AllReadyH.cons (o := ⟨none, _, _, _, _, _⟩) rfl (fun K hK => ?_) AllReadyH.nil
                rw [if_pos (by rfl)]
                go_simp
                have rA := put_a rA rfl (.slice aC nC cC) (.slice aE nE cE) (.slice aP n cP) (.int .i64 R2) (.int .i64 R3) (.slice aN n cN) (.int .i64 R4) (.int .i64 R5)
                have fs := fr8 (x := z1) (b := bA) (.slice aC nC cC) (.slice aE nE cE) (.slice aP n cP) (.int .i64 R2) (.int .i64 R3) (.slice aN n cN) (.int .i64 R4) (.int .i64 R5)
                have rP := rP.fr fs (by simp; omega)
                have oP := oP.fr fs xPA
                have oN := oN.fr fs xNA
                have g0 : Fr [] wz _ := hHeld.2.2.2.2.2.trans' fs (by intro i hi; simp at hi; right; omega)
                clear p0 q0 p1 q1 p2 q2 p3 q3 p4 q4 p5 q5 p6 q6 p7 q7
                generalize (((((((z1.setCell ⟨bA, 0, none⟩ (.slice aC nC cC)).setCell ⟨bA, 1, none⟩ (.slice aE nE cE)).setCell ⟨bA, 2, none⟩ (.slice aP n cP)).setCell ⟨bA, 3, none⟩ (.int .i64 R2)).setCell ⟨bA, 4, none⟩ (.int .i64 R3)).setCell ⟨bA, 5, none⟩ (.slice aN n cN)).setCell ⟨bA, 6, none⟩ (.int .i64 R4)).setCell ⟨bA, 7, none⟩ (.int .i64 R5) = z2 at *
                refine hK.out _ _ (HK.out _ g0) (fun hHeld' => ?_)
                clear hK K hHeld
                have hHeld := hHeld'
                clear hHeld'
                (try simp only [Act.put, List.setIfInBounds_toArray, List.set_cons_zero, List.set_cons_succ])
                clear g0 fs
                refine wpAnyH_take (i := 18) (oi := ⟨some 14, _, _, _, _, _⟩) (v := .int .i64 0) rfl (by kernel_rfl) (by kernel_rfl) (by kernel_rfl) (fun _ _ _ h => h) (Or.inl ⟨by rfl, ?_⟩) hHeld ?_
                · intro w hSw; (try dsimp only at hSw); go_simp
                (try simp only [Act.put, List.setIfInBounds_toArray, List.set_cons_zero, List.set_cons_succ])
                have hW := Lib.hid hHeld.2.2.2.2.2
                clear hHeld
                refine wpAnyH_done (by kernel_rfl) ?_ _
                have HRP := Lib.hid rP
                have HRA := Lib.hid rA
                have HOP := Lib.hid oP
                have HON := Lib.hid oN
                clear rP rA oP oN ne xPP xPA xNP xNA
                go_wp2_with fail
                go_meet
                exact ⟨bP, bA, _, _, _, aP, aN, cP, cN, rfl, rfl, rfl, HRP.out, HRA.out, HOP.out, HON.out, hW.out⟩
              · skip
                have rA : RowAt (y1.alloc (.cells #[.slice none 0 0, .slice none 0 0, .slice none 0 0, .int .i64 0, .int .i64 0, .slice none 0 0, .int .i64 0, .int .i64 0] 60)) y1.heap.size 60 aw0 := RowAt.new rfl rfl
                have fa : Fr [] y1 (y1.alloc (.cells #[.slice none 0 0, .slice none 0 0, .slice none 0 0, .int .i64 0, .int .i64 0, .slice none 0 0, .int .i64 0, .int .i64 0] 60)) := (Fr.refl [] _).alloc _
                have hbA : wz.heap.size ≤ y1.heap.size := hHeld.2.2.2.2.2.size
                have ne : bP ≠ y1.heap.size := by have := rP.lt; omega
                have rP := rP.fr fa (by simp)
                generalize y1.alloc (.cells #[.slice none 0 0, .slice none 0 0, .slice none 0 0, .int .i64 0, .int .i64 0, .slice none 0 0, .int .i64 0, .int .i64 0] 60) = y2 at *
                generalize y1.heap.size = bA at *
                refine hK.out _ _ (HK.out _ (hHeld.2.2.2.2.2.trans fa)) (fun hHeld' => ?_)
                clear hK K hHeld
                have hHeld := hHeld'
                clear hHeld'
                (try simp only [Act.put, List.setIfInBounds_toArray, List.set_cons_zero, List.set_cons_succ])
                clear fa
                refine wpAnyH_ready (rs := [9]) (by kernel_rfl) (by simp) ?_
                refine AllReadyH.cons (o := ⟨some 68, _, _, _, _, _⟩) rfl (fun K hK => ?_) AllReadyH.nil
                rw [if_pos (by rfl)]
                go_simp
                have ltP := rP.lt
                have ltA := rA.lt
                have hbw := hHeld.2.2.2.2.2.size
                refine (HAW.out _ hHeld.2.2.2.2.2).mono ?_
                rintro e y3 ⟨vT, vC, vE, vP, vN, rfl, oT, oC, oE, oP, oN, fc⟩
                obtain ⟨aT, nT, cT, rfl⟩ := oT.sl
                obtain ⟨aC, nC, cC, rfl⟩ := oC.sl
                obtain ⟨aE, nE, cE, rfl⟩ := oE.sl
                obtain ⟨aP, cP, rfl, _, _⟩ := oP.any
                obtain ⟨aN, cN, rfl, _, _⟩ := oN.any
                rw [hpl] at oP ⊢
                rw [hcn] at oN ⊢
                have rP := rP.fr fc (by simp)
                have xPP : ∀ k, (Value.slice aP n cP).ownBlock = some k → k ∉ [bP] := fun k hk => by have := (oP.block k hk).1; simp; omega
                have xNP : ∀ k, (Value.slice aN n cN).ownBlock = some k → k ∉ [bP] := fun k hk => by have := (oN.block k hk).1; simp; omega
                have rA := rA.fr fc (by simp)
                have xPA : ∀ k, (Value.slice aP n cP).ownBlock = some k → k ∉ [bA] := fun k hk => by have := (oP.block k hk).1; simp; omega
                have xNA : ∀ k, (Value.slice aN n cN).ownBlock = some k → k ∉ [bA] := fun k hk => by have := (oN.block k hk).1; simp; omega
                have oP := oP.mono hbw
                have oN := oN.mono hbw
                clear oT oC oE hbw ltP ltA
                refine hK.out _ _ (HK.out _ (hHeld.2.2.2.2.2.trans fc)) (fun hHeld' => ?_)
                clear hK K hHeld
                have hHeld := hHeld'
                clear hHeld'
                (try simp only [Act.put, List.setIfInBounds_toArray, List.set_cons_zero, List.set_cons_succ])
                clear fc
                refine wpAnyH_take (i := 10) (oi := ⟨some 58, _, _, _, _, _⟩) (v := .tuple #[.agg #[.int .i64 s, .int .i64 A, .int .i64 R1, .slice aT nT cT], .agg #[.slice aC nC cC, .slice aE nE cE, .slice aP n cP, .int .i64 R2, .int .i64 R3, .slice aN n cN, .int .i64 R4, .int .i64 R5], .int .i64 0]) rfl (by kernel_rfl) (by kernel_rfl) (by kernel_rfl) (fun _ _ _ h => h) (Or.inl ⟨by rfl, ?_⟩) hHeld ?_
                · intro w hSw; (try dsimp only at hSw); go_simp
                (try simp only [Act.put, List.setIfInBounds_toArray, List.set_cons_zero, List.set_cons_succ])
                refine wpAnyH_take (i := 11) (oi := ⟨some 69, _, _, _, _, _⟩) (v := .agg #[.int .i64 s, .int .i64 A, .int .i64 R1, .slice aT nT cT]) rfl (by kernel_rfl) (by kernel_rfl) (by kernel_rfl) (fun _ _ _ h => h) (Or.inl ⟨by rfl, ?_⟩) hHeld ?_
                · intro w hSw; (try dsimp only at hSw); go_simp
                (try simp only [Act.put, List.setIfInBounds_toArray, List.set_cons_zero, List.set_cons_succ])
                refine wpAnyH_take (i := 12) (oi := ⟨some 70, _, _, _, _, _⟩) (v := .agg #[.slice aC nC cC, .slice aE nE cE, .slice aP n cP, .int .i64 R2, .int .i64 R3, .slice aN n cN, .int .i64 R4, .int .i64 R5]) rfl (by kernel_rfl) (by kernel_rfl) (by kernel_rfl) (fun _ _ _ h => h) (Or.inl ⟨by rfl, ?_⟩) hHeld ?_
                · intro w hSw; (try dsimp only at hSw); go_simp
                (try simp only [Act.put, List.setIfInBounds_toArray, List.set_cons_zero, List.set_cons_succ])
                refine wpAnyH_take (i := 13) (oi := ⟨some 71, _, _, _, _, _⟩) (v := .int .i64 0) rfl (by kernel_rfl) (by kernel_rfl) (by kernel_rfl) (fun _ _ _ h => h) (Or.inl ⟨by rfl, ?_⟩) hHeld ?_
                · intro w hSw; (try dsimp only at hSw); go_simp
                (try simp only [Act.put, List.setIfInBounds_toArray, List.set_cons_zero, List.set_cons_succ])
                have p0 := rP.cell 0 _ rfl
                have q0 := rP.frozen 0
                have p1 := rP.cell 1 _ rfl
                have q1 := rP.frozen 1
                have p2 := rP.cell 2 _ rfl
                have q2 := rP.frozen 2
                have p3 := rP.cell 3 _ rfl
                have q3 := rP.frozen 3
                refine wpAnyH_ready (rs := [16]) (by kernel_rfl) (by simp) ?_
                refine AllReadyH.cons (o := ⟨none, _, _, _, _, _⟩) rfl (fun K hK => ?_) AllReadyH.nil
                rw [if_pos (by rfl)]
                go_simp
                have rP := put_p rP rfl (.int .i64 s) (.int .i64 A) (.int .i64 R1) (.slice aT nT cT)
                have fs := fr4 (x := y3) (b := bP) (.int .i64 s) (.int .i64 A) (.int .i64 R1) (.slice aT nT cT)
                have rA := rA.fr fs (by simp; omega)
                have oP := oP.fr fs xPP
                have oN := oN.fr fs xNP
                have g0 : Fr [] wz _ := hHeld.2.2.2.2.2.trans' fs (by intro i hi; simp at hi; right; omega)
                clear p0 q0 p1 q1 p2 q2 p3 q3
                generalize (((y3.setCell ⟨bP, 0, none⟩ (.int .i64 s)).setCell ⟨bP, 1, none⟩ (.int .i64 A)).setCell ⟨bP, 2, none⟩ (.int .i64 R1)).setCell ⟨bP, 3, none⟩ (.slice aT nT cT) = z1 at *
                refine hK.out _ _ (HK.out _ g0) (fun hHeld' => ?_)
                clear hK K hHeld
                have hHeld := hHeld'
                clear hHeld'
                (try simp only [Act.put, List.setIfInBounds_toArray, List.set_cons_zero, List.set_cons_succ])
                clear g0 fs
                have p0 := rA.cell 0 _ rfl
                have q0 := rA.frozen 0
                have p1 := rA.cell 1 _ rfl
                have q1 := rA.frozen 1
                have p2 := rA.cell 2 _ rfl
                have q2 := rA.frozen 2
                have p3 := rA.cell 3 _ rfl
                have q3 := rA.frozen 3
                have p4 := rA.cell 4 _ rfl
                have q4 := rA.frozen 4
                have p5 := rA.cell 5 _ rfl
                have q5 := rA.frozen 5
                have p6 := rA.cell 6 _ rfl
                have q6 := rA.frozen 6
                have p7 := rA.cell 7 _ rfl
                have q7 := rA.frozen 7
                refine wpAnyH_ready (rs := [17]) (by kernel_rfl) (by simp) ?_
                refine AllReadyH.cons (o := ⟨none, _, _, _, _, _⟩) rfl (fun K hK => ?_) AllReadyH.nil
                rw [if_pos (by rfl)]
                go_simp
                have rA := put_a rA rfl (.slice aC nC cC) (.slice aE nE cE) (.slice aP n cP) (.int .i64 R2) (.int .i64 R3) (.slice aN n cN) (.int .i64 R4) (.int .i64 R5)
                have fs := fr8 (x := z1) (b := bA) (.slice aC nC cC) (.slice aE nE cE) (.slice aP n cP) (.int .i64 R2) (.int .i64 R3) (.slice aN n cN) (.int .i64 R4) (.int .i64 R5)
                have rP := rP.fr fs (by simp; omega)
                have oP := oP.fr fs xPA
                have oN := oN.fr fs xNA
                have g0 : Fr [] wz _ := hHeld.2.2.2.2.2.trans' fs (by intro i hi; simp at hi; right; omega)
                clear p0 q0 p1 q1 p2 q2 p3 q3 p4 q4 p5 q5 p6 q6 p7 q7
                generalize (((((((z1.setCell ⟨bA, 0, none⟩ (.slice aC nC cC)).setCell ⟨bA, 1, none⟩ (.slice aE nE cE)).setCell ⟨bA, 2, none⟩ (.slice aP n cP)).setCell ⟨bA, 3, none⟩ (.int .i64 R2)).setCell ⟨bA, 4, none⟩ (.int .i64 R3)).setCell ⟨bA, 5, none⟩ (.slice aN n cN)).setCell ⟨bA, 6, none⟩ (.int .i64 R4)).setCell ⟨bA, 7, none⟩ (.int .i64 R5) = z2 at *
                refine hK.out _ _ (HK.out _ g0) (fun hHeld' => ?_)
                clear hK K hHeld
                have hHeld := hHeld'
                clear hHeld'
                (try simp only [Act.put, List.setIfInBounds_toArray, List.set_cons_zero, List.set_cons_succ])
                clear g0 fs
                refine wpAnyH_take (i := 18) (oi := ⟨some 14, _, _, _, _, _⟩) (v := .int .i64 0) rfl (by kernel_rfl) (by kernel_rfl) (by kernel_rfl) (fun _ _ _ h => h) (Or.inl ⟨by rfl, ?_⟩) hHeld ?_
                · intro w hSw; (try dsimp only at hSw); go_simp
                (try simp only [Act.put, List.setIfInBounds_toArray, List.set_cons_zero, List.set_cons_succ])
                have hW := Lib.hid hHeld.2.2.2.2.2
                clear hHeld
                refine wpAnyH_done (by kernel_rfl) ?_ _
                have HRP := Lib.hid rP
                have HRA := Lib.hid rA
                have HOP := Lib.hid oP
                have HON := Lib.hid oN
                clear rP rA oP oN ne xPP xPA xNP xNA
                go_wp2_with fail
                go_meet
                exact ⟨bP, bA, _, _, _, aP, aN, cP, cN, rfl, rfl, rfl, HRP.out, HRA.out, HOP.out, HON.out, hW.out⟩
            · skip
              have rA : RowAt (y0.alloc (.cells #[.slice none 0 0, .slice none 0 0, .slice none 0 0, .int .i64 0, .int .i64 0, .slice none 0 0, .int .i64 0, .int .i64 0] 60)) y0.heap.size 60 aw0 := RowAt.new rfl rfl
              have fa : Fr [] y0 (y0.alloc (.cells #[.slice none 0 0, .slice none 0 0, .slice none 0 0, .int .i64 0, .int .i64 0, .slice none 0 0, .int .i64 0, .int .i64 0] 60)) := (Fr.refl [] _).alloc _
              have hbA : wz.heap.size ≤ y0.heap.size := hHeld.2.2.2.2.2.size
              generalize y0.alloc (.cells #[.slice none 0 0, .slice none 0 0, .slice none 0 0, .int .i64 0, .int .i64 0, .slice none 0 0, .int .i64 0, .int .i64 0] 60) = y1 at *
              generalize y0.heap.size = bA at *
              refine hK.out _ _ (HK.out _ (hHeld.2.2.2.2.2.trans fa)) (fun hHeld' => ?_)
              clear hK K hHeld
              have hHeld := hHeld'
              clear hHeld'
              (try simp only [Act.put, List.setIfInBounds_toArray, List.set_cons_zero, List.set_cons_succ])
              clear fa
              refine wpAnyH_ready (rs := [9, 14]) (by kernel_rfl) (by simp) ?_
              refine AllReadyH.cons (o := ⟨some 68, _, _, _, _, _⟩) rfl (fun K hK => ?_) (AllReadyH.cons (o := ⟨some 12, _, _, _, _, _⟩) rfl (fun K hK => ?_) AllReadyH.nil)
              all_goals rw [if_pos (by rfl)]
              all_goals go_simp
              · skip
                have ltA := rA.lt
                have hbw := hHeld.2.2.2.2.2.size
                refine (HAW.out _ hHeld.2.2.2.2.2).mono ?_
                rintro e y2 ⟨vT, vC, vE, vP, vN, rfl, oT, oC, oE, oP, oN, fc⟩
                obtain ⟨aT, nT, cT, rfl⟩ := oT.sl
                obtain ⟨aC, nC, cC, rfl⟩ := oC.sl
                obtain ⟨aE, nE, cE, rfl⟩ := oE.sl
                obtain ⟨aP, cP, rfl, _, _⟩ := oP.any
                obtain ⟨aN, cN, rfl, _, _⟩ := oN.any
                rw [hpl] at oP ⊢
                rw [hcn] at oN ⊢
                have rA := rA.fr fc (by simp)
                have xPA : ∀ k, (Value.slice aP n cP).ownBlock = some k → k ∉ [bA] := fun k hk => by have := (oP.block k hk).1; simp; omega
                have xNA : ∀ k, (Value.slice aN n cN).ownBlock = some k → k ∉ [bA] := fun k hk => by have := (oN.block k hk).1; simp; omega
                have oP := oP.mono hbw
                have oN := oN.mono hbw
                clear oT oC oE hbw ltA
                refine hK.out _ _ (HK.out _ (hHeld.2.2.2.2.2.trans fc)) (fun hHeld' => ?_)
                clear hK K hHeld
                have hHeld := hHeld'
                clear hHeld'
                (try simp only [Act.put, List.setIfInBounds_toArray, List.set_cons_zero, List.set_cons_succ])
                clear fc
                refine wpAnyH_take (i := 10) (oi := ⟨some 58, _, _, _, _, _⟩) (v := .tuple #[.agg #[.int .i64 s, .int .i64 A, .int .i64 R1, .slice aT nT cT], .agg #[.slice aC nC cC, .slice aE nE cE, .slice aP n cP, .int .i64 R2, .int .i64 R3, .slice aN n cN, .int .i64 R4, .int .i64 R5], .int .i64 0]) rfl (by kernel_rfl) (by kernel_rfl) (by kernel_rfl) (fun _ _ _ h => h) (Or.inl ⟨by rfl, ?_⟩) hHeld ?_
                · intro w hSw; (try dsimp only at hSw); go_simp
                (try simp only [Act.put, List.setIfInBounds_toArray, List.set_cons_zero, List.set_cons_succ])
                refine wpAnyH_take (i := 11) (oi := ⟨some 69, _, _, _, _, _⟩) (v := .agg #[.int .i64 s, .int .i64 A, .int .i64 R1, .slice aT nT cT]) rfl (by kernel_rfl) (by kernel_rfl) (by kernel_rfl) (fun _ _ _ h => h) (Or.inl ⟨by rfl, ?_⟩) hHeld ?_
                · intro w hSw; (try dsimp only at hSw); go_simp
                (try simp only [Act.put, List.setIfInBounds_toArray, List.set_cons_zero, List.set_cons_succ])
                refine wpAnyH_take (i := 12) (oi := ⟨some 70, _, _, _, _, _⟩) (v := .agg #[.slice aC nC cC, .slice aE nE cE, .slice aP n cP, .int .i64 R2, .int .i64 R3, .slice aN n cN, .int .i64 R4, .int .i64 R5]) rfl (by kernel_rfl) (by kernel_rfl) (by kernel_rfl) (fun _ _ _ h => h) (Or.inl ⟨by rfl, ?_⟩) hHeld ?_
                · intro w hSw; (try dsimp only at hSw); go_simp
                (try simp only [Act.put, List.setIfInBounds_toArray, List.set_cons_zero, List.set_cons_succ])
                refine wpAnyH_take (i := 13) (oi := ⟨some 71, _, _, _, _, _⟩) (v := .int .i64 0) rfl (by kernel_rfl) (by kernel_rfl) (by kernel_rfl) (fun _ _ _ h => h) (Or.inl ⟨by rfl, ?_⟩) hHeld ?_
                · intro w hSw; (try dsimp only at hSw); go_simp
                (try simp only [Act.put, List.setIfInBounds_toArray, List.set_cons_zero, List.set_cons_succ])
                refine wpAnyH_ready (rs := [14]) (by kernel_rfl) (by simp) ?_
                refine AllReadyH.cons (o := ⟨some 12, _, _, _, _, _⟩) rfl (fun K hK => ?_) AllReadyH.nil
                rw [if_pos (by rfl)]
                go_simp
                have rP : RowAt (y2.alloc (.cells #[.int .i64 0, .int .i64 0, .int .i64 0, .slice none 0 0] 45)) y2.heap.size 45 [.int .i64 0, .int .i64 0, .int .i64 0, .slice none 0 0] := RowAt.new rfl rfl
                have fa : Fr [] y2 (y2.alloc (.cells #[.int .i64 0, .int .i64 0, .int .i64 0, .slice none 0 0] 45)) := (Fr.refl [] _).alloc _
                have hbP : wz.heap.size ≤ y2.heap.size := hHeld.2.2.2.2.2.size
                have ne : bA ≠ y2.heap.size := by have := rA.lt; omega
                have rA := rA.fr fa (by simp)
                have xPP : ∀ k, (Value.slice aP n cP).ownBlock = some k → k ∉ [y2.heap.size] := fun k hk => by have := (oP.block k hk).2; simp; omega
                have oP := oP.fr fa (by simp)
                have xNP : ∀ k, (Value.slice aN n cN).ownBlock = some k → k ∉ [y2.heap.size] := fun k hk => by have := (oN.block k hk).2; simp; omega
                have oN := oN.fr fa (by simp)
                generalize y2.alloc (.cells #[.int .i64 0, .int .i64 0, .int .i64 0, .slice none 0 0] 45) = y3 at *
                generalize y2.heap.size = bP at *
                refine hK.out _ _ (HK.out _ (hHeld.2.2.2.2.2.trans fa)) (fun hHeld' => ?_)
                clear hK K hHeld
                have hHeld := hHeld'
                clear hHeld'
                (try simp only [Act.put, List.setIfInBounds_toArray, List.set_cons_zero, List.set_cons_succ])
                clear fa
                have p0 := rP.cell 0 _ rfl
                have q0 := rP.frozen 0
                have p1 := rP.cell 1 _ rfl
                have q1 := rP.frozen 1
                have p2 := rP.cell 2 _ rfl
                have q2 := rP.frozen 2
                have p3 := rP.cell 3 _ rfl
                have q3 := rP.frozen 3
                refine wpAnyH_ready (rs := [16]) (by kernel_rfl) (by simp) ?_
                refine AllReadyH.cons (o := ⟨none, _, _, _, _, _⟩) rfl (fun K hK => ?_) AllReadyH.nil
                rw [if_pos (by rfl)]
                go_simp
                have rP := put_p rP rfl (.int .i64 s) (.int .i64 A) (.int .i64 R1) (.slice aT nT cT)
                have fs := fr4 (x := y3) (b := bP) (.int .i64 s) (.int .i64 A) (.int .i64 R1) (.slice aT nT cT)
                have rA := rA.fr fs (by simp; omega)
                have oP := oP.fr fs xPP
                have oN := oN.fr fs xNP
                have g0 : Fr [] wz _ := hHeld.2.2.2.2.2.trans' fs (by intro i hi; simp at hi; right; omega)
                clear p0 q0 p1 q1 p2 q2 p3 q3
                generalize (((y3.setCell ⟨bP, 0, none⟩ (.int .i64 s)).setCell ⟨bP, 1, none⟩ (.int .i64 A)).setCell ⟨bP, 2, none⟩ (.int .i64 R1)).setCell ⟨bP, 3, none⟩ (.slice aT nT cT) = z1 at *
                refine hK.out _ _ (HK.out _ g0) (fun hHeld' => ?_)
                clear hK K hHeld
                have hHeld := hHeld'
                clear hHeld'
                (try simp only [Act.put, List.setIfInBounds_toArray, List.set_cons_zero, List.set_cons_succ])
                clear g0 fs
                have p0 := rA.cell 0 _ rfl
                have q0 := rA.frozen 0
                have p1 := rA.cell 1 _ rfl
                have q1 := rA.frozen 1
                have p2 := rA.cell 2 _ rfl
                have q2 := rA.frozen 2
                have p3 := rA.cell 3 _ rfl
                have q3 := rA.frozen 3
                have p4 := rA.cell 4 _ rfl
                have q4 := rA.frozen 4
                have p5 := rA.cell 5 _ rfl
                have q5 := rA.frozen 5
                have p6 := rA.cell 6 _ rfl
                have q6 := rA.frozen 6
                have p7 := rA.cell 7 _ rfl
                have q7 := rA.frozen 7
                refine wpAnyH_ready (rs := [17]) (by kernel_rfl) (by simp) ?_
                refine AllReadyH.cons (o := ⟨none, _, _, _, _, _⟩) rfl (fun K hK => ?_) AllReadyH.nil
                rw [if_pos (by rfl)]
                go_simp
                have rA := put_a rA rfl (.slice aC nC cC) (.slice aE nE cE) (.slice aP n cP) (.int .i64 R2) (.int .i64 R3) (.slice aN n cN) (.int .i64 R4) (.int .i64 R5)
                have fs := fr8 (x := z1) (b := bA) (.slice aC nC cC) (.slice aE nE cE) (.slice aP n cP) (.int .i64 R2) (.int .i64 R3) (.slice aN n cN) (.int .i64 R4) (.int .i64 R5)
                have rP := rP.fr fs (by simp; omega)
                have oP := oP.fr fs xPA
                have oN := oN.fr fs xNA
                have g0 : Fr [] wz _ := hHeld.2.2.2.2.2.trans' fs (by intro i hi; simp at hi; right; omega)
                clear p0 q0 p1 q1 p2 q2 p3 q3 p4 q4 p5 q5 p6 q6 p7 q7
                generalize (((((((z1.setCell ⟨bA, 0, none⟩ (.slice aC nC cC)).setCell ⟨bA, 1, none⟩ (.slice aE nE cE)).setCell ⟨bA, 2, none⟩ (.slice aP n cP)).setCell ⟨bA, 3, none⟩ (.int .i64 R2)).setCell ⟨bA, 4, none⟩ (.int .i64 R3)).setCell ⟨bA, 5, none⟩ (.slice aN n cN)).setCell ⟨bA, 6, none⟩ (.int .i64 R4)).setCell ⟨bA, 7, none⟩ (.int .i64 R5) = z2 at *
                refine hK.out _ _ (HK.out _ g0) (fun hHeld' => ?_)
                clear hK K hHeld
                have hHeld := hHeld'
                clear hHeld'
                (try simp only [Act.put, List.setIfInBounds_toArray, List.set_cons_zero, List.set_cons_succ])
                clear g0 fs
                refine wpAnyH_take (i := 18) (oi := ⟨some 14, _, _, _, _, _⟩) (v := .int .i64 0) rfl (by kernel_rfl) (by kernel_rfl) (by kernel_rfl) (fun _ _ _ h => h) (Or.inl ⟨by rfl, ?_⟩) hHeld ?_
                · intro w hSw; (try dsimp only at hSw); go_simp
                (try simp only [Act.put, List.setIfInBounds_toArray, List.set_cons_zero, List.set_cons_succ])
                have hW := Lib.hid hHeld.2.2.2.2.2
                clear hHeld
                refine wpAnyH_done (by kernel_rfl) ?_ _
                have HRP := Lib.hid rP
                have HRA := Lib.hid rA
                have HOP := Lib.hid oP
                have HON := Lib.hid oN
                clear rP rA oP oN ne xPP xPA xNP xNA
                go_wp2_with fail
                go_meet
                exact ⟨bP, bA, _, _, _, aP, aN, cP, cN, rfl, rfl, rfl, HRP.out, HRA.out, HOP.out, HON.out, hW.out⟩
              · skip
                have rP : RowAt (y1.alloc (.cells #[.int .i64 0, .int .i64 0, .int .i64 0, .slice none 0 0] 45)) y1.heap.size 45 [.int .i64 0, .int .i64 0, .int .i64 0, .slice none 0 0] := RowAt.new rfl rfl
                have fa : Fr [] y1 (y1.alloc (.cells #[.int .i64 0, .int .i64 0, .int .i64 0, .slice none 0 0] 45)) := (Fr.refl [] _).alloc _
                have hbP : wz.heap.size ≤ y1.heap.size := hHeld.2.2.2.2.2.size
                have ne : bA ≠ y1.heap.size := by have := rA.lt; omega
                have rA := rA.fr fa (by simp)
                generalize y1.alloc (.cells #[.int .i64 0, .int .i64 0, .int .i64 0, .slice none 0 0] 45) = y2 at *
                generalize y1.heap.size = bP at *
                refine hK.out _ _ (HK.out _ (hHeld.2.2.2.2.2.trans fa)) (fun hHeld' => ?_)
                clear hK K hHeld
                have hHeld := hHeld'
                clear hHeld'
                (try simp only [Act.put, List.setIfInBounds_toArray, List.set_cons_zero, List.set_cons_succ])
                clear fa
                refine wpAnyH_ready (rs := [9]) (by kernel_rfl) (by simp) ?_
                refine AllReadyH.cons (o := ⟨some 68, _, _, _, _, _⟩) rfl (fun K hK => ?_) AllReadyH.nil
                rw [if_pos (by rfl)]
                go_simp
                have ltA := rA.lt
                have ltP := rP.lt
                have hbw := hHeld.2.2.2.2.2.size
                refine (HAW.out _ hHeld.2.2.2.2.2).mono ?_
                rintro e y3 ⟨vT, vC, vE, vP, vN, rfl, oT, oC, oE, oP, oN, fc⟩
                obtain ⟨aT, nT, cT, rfl⟩ := oT.sl
                obtain ⟨aC, nC, cC, rfl⟩ := oC.sl
                obtain ⟨aE, nE, cE, rfl⟩ := oE.sl
                obtain ⟨aP, cP, rfl, _, _⟩ := oP.any
                obtain ⟨aN, cN, rfl, _, _⟩ := oN.any
                rw [hpl] at oP ⊢
                rw [hcn] at oN ⊢
                have rA := rA.fr fc (by simp)
                have xPA : ∀ k, (Value.slice aP n cP).ownBlock = some k → k ∉ [bA] := fun k hk => by have := (oP.block k hk).1; simp; omega
                have xNA : ∀ k, (Value.slice aN n cN).ownBlock = some k → k ∉ [bA] := fun k hk => by have := (oN.block k hk).1; simp; omega
                have rP := rP.fr fc (by simp)
                have xPP : ∀ k, (Value.slice aP n cP).ownBlock = some k → k ∉ [bP] := fun k hk => by have := (oP.block k hk).1; simp; omega
                have xNP : ∀ k, (Value.slice aN n cN).ownBlock = some k → k ∉ [bP] := fun k hk => by have := (oN.block k hk).1; simp; omega
                have oP := oP.mono hbw
                have oN := oN.mono hbw
                clear oT oC oE hbw ltA ltP
                refine hK.out _ _ (HK.out _ (hHeld.2.2.2.2.2.trans fc)) (fun hHeld' => ?_)
                clear hK K hHeld
                have hHeld := hHeld'
                clear hHeld'
                (try simp only [Act.put, List.setIfInBounds_toArray, List.set_cons_zero, List.set_cons_succ])
                clear fc
                refine wpAnyH_take (i := 10) (oi := ⟨some 58, _, _, _, _, _⟩) (v := .tuple #[.agg #[.int .i64 s, .int .i64 A, .int .i64 R1, .slice aT nT cT], .agg #[.slice aC nC cC, .slice aE nE cE, .slice aP n cP, .int .i64 R2, .int .i64 R3, .slice aN n cN, .int .i64 R4, .int .i64 R5], .int .i64 0]) rfl (by kernel_rfl) (by kernel_rfl) (by kernel_rfl) (fun _ _ _ h => h) (Or.inl ⟨by rfl, ?_⟩) hHeld ?_
                · intro w hSw; (try dsimp only at hSw); go_simp
                (try simp only [Act.put, List.setIfInBounds_toArray, List.set_cons_zero, List.set_cons_succ])
                refine wpAnyH_take (i := 11) (oi := ⟨some 69, _, _, _, _, _⟩) (v := .agg #[.int .i64 s, .int .i64 A, .int .i64 R1, .slice aT nT cT]) rfl (by kernel_rfl) (by kernel_rfl) (by kernel_rfl) (fun _ _ _ h => h) (Or.inl ⟨by rfl, ?_⟩) hHeld ?_
                · intro w hSw; (try dsimp only at hSw); go_simp
                (try simp only [Act.put, List.setIfInBounds_toArray, List.set_cons_zero, List.set_cons_succ])
                refine wpAnyH_take (i := 12) (oi := ⟨some 70, _, _, _, _, _⟩) (v := .agg #[.slice aC nC cC, .slice aE nE cE, .slice aP n cP, .int .i64 R2, .int .i64 R3, .slice aN n cN, .int .i64 R4, .int .i64 R5]) rfl (by kernel_rfl) (by kernel_rfl) (by kernel_rfl) (fun _ _ _ h => h) (Or.inl ⟨by rfl, ?_⟩) hHeld ?_
                · intro w hSw; (try dsimp only at hSw); go_simp
                (try simp only [Act.put, List.setIfInBounds_toArray, List.set_cons_zero, List.set_cons_succ])
                refine wpAnyH_take (i := 13) (oi := ⟨some 71, _, _, _, _, _⟩) (v := .int .i64 0) rfl (by kernel_rfl) (by kernel_rfl) (by kernel_rfl) (fun _ _ _ h => h) (Or.inl ⟨by rfl, ?_⟩) hHeld ?_
                · intro w hSw; (try dsimp only at hSw); go_simp
                (try simp only [Act.put, List.setIfInBounds_toArray, List.set_cons_zero, List.set_cons_succ])
                have p0 := rP.cell 0 _ rfl
                have q0 := rP.frozen 0
                have p1 := rP.cell 1 _ rfl
                have q1 := rP.frozen 1
                have p2 := rP.cell 2 _ rfl
                have q2 := rP.frozen 2
                have p3 := rP.cell 3 _ rfl
                have q3 := rP.frozen 3
                refine wpAnyH_ready (rs := [16]) (by kernel_rfl) (by simp) ?_
                refine AllReadyH.cons (o := ⟨none, _, _, _, _, _⟩) rfl (fun K hK => ?_) AllReadyH.nil
                rw [if_pos (by rfl)]
                go_simp
                have rP := put_p rP rfl (.int .i64 s) (.int .i64 A) (.int .i64 R1) (.slice aT nT cT)
                have fs := fr4 (x := y3) (b := bP) (.int .i64 s) (.int .i64 A) (.int .i64 R1) (.slice aT nT cT)
                have rA := rA.fr fs (by simp; omega)
                have oP := oP.fr fs xPP
                have oN := oN.fr fs xNP
                have g0 : Fr [] wz _ := hHeld.2.2.2.2.2.trans' fs (by intro i hi; simp at hi; right; omega)
                clear p0 q0 p1 q1 p2 q2 p3 q3
                generalize (((y3.setCell ⟨bP, 0, none⟩ (.int .i64 s)).setCell ⟨bP, 1, none⟩ (.int .i64 A)).setCell ⟨bP, 2, none⟩ (.int .i64 R1)).setCell ⟨bP, 3, none⟩ (.slice aT nT cT) = z1 at *
                refine hK.out _ _ (HK.out _ g0) (fun hHeld' => ?_)
                clear hK K hHeld
                have hHeld := hHeld'
                clear hHeld'
                (try simp only [Act.put, List.setIfInBounds_toArray, List.set_cons_zero, List.set_cons_succ])
                clear g0 fs
                have p0 := rA.cell 0 _ rfl
                have q0 := rA.frozen 0
                have p1 := rA.cell 1 _ rfl
                have q1 := rA.frozen 1
                have p2 := rA.cell 2 _ rfl
                have q2 := rA.frozen 2
                have p3 := rA.cell 3 _ rfl
                have q3 := rA.frozen 3
                have p4 := rA.cell 4 _ rfl
                have q4 := rA.frozen 4
                have p5 := rA.cell 5 _ rfl
                have q5 := rA.frozen 5
                have p6 := rA.cell 6 _ rfl
                have q6 := rA.frozen 6
                have p7 := rA.cell 7 _ rfl
                have q7 := rA.frozen 7
                refine wpAnyH_ready (rs := [17]) (by kernel_rfl) (by simp) ?_
                refine AllReadyH.cons (o := ⟨none, _, _, _, _, _⟩) rfl (fun K hK => ?_) AllReadyH.nil
                rw [if_pos (by rfl)]
                go_simp
                have rA := put_a rA rfl (.slice aC nC cC) (.slice aE nE cE) (.slice aP n cP) (.int .i64 R2) (.int .i64 R3) (.slice aN n cN) (.int .i64 R4) (.int .i64 R5)
                have fs := fr8 (x := z1) (b := bA) (.slice aC nC cC) (.slice aE nE cE) (.slice aP n cP) (.int .i64 R2) (.int .i64 R3) (.slice aN n cN) (.int .i64 R4) (.int .i64 R5)
                have rP := rP.fr fs (by simp; omega)
                have oP := oP.fr fs xPA
                have oN := oN.fr fs xNA
                have g0 : Fr [] wz _ := hHeld.2.2.2.2.2.trans' fs (by intro i hi; simp at hi; right; omega)
                clear p0 q0 p1 q1 p2 q2 p3 q3 p4 q4 p5 q5 p6 q6 p7 q7
                generalize (((((((z1.setCell ⟨bA, 0, none⟩ (.slice aC nC cC)).setCell ⟨bA, 1, none⟩ (.slice aE nE cE)).setCell ⟨bA, 2, none⟩ (.slice aP n cP)).setCell ⟨bA, 3, none⟩ (.int .i64 R2)).setCell ⟨bA, 4, none⟩ (.int .i64 R3)).setCell ⟨bA, 5, none⟩ (.slice aN n cN)).setCell ⟨bA, 6, none⟩ (.int .i64 R4)).setCell ⟨bA, 7, none⟩ (.int .i64 R5) = z2 at *
                refine hK.out _ _ (HK.out _ g0) (fun hHeld' => ?_)
                clear hK K hHeld
                have hHeld := hHeld'
                clear hHeld'
                (try simp only [Act.put, List.setIfInBounds_toArray, List.set_cons_zero, List.set_cons_succ])
                clear g0 fs
                refine wpAnyH_take (i := 18) (oi := ⟨some 14, _, _, _, _, _⟩) (v := .int .i64 0) rfl (by kernel_rfl) (by kernel_rfl) (by kernel_rfl) (fun _ _ _ h => h) (Or.inl ⟨by rfl, ?_⟩) hHeld ?_
                · intro w hSw; (try dsimp only at hSw); go_simp
                (try simp only [Act.put, List.setIfInBounds_toArray, List.set_cons_zero, List.set_cons_succ])
                have hW := Lib.hid hHeld.2.2.2.2.2
                clear hHeld
                refine wpAnyH_done (by kernel_rfl) ?_ _
                have HRP := Lib.hid rP
                have HRA := Lib.hid rA
                have HOP := Lib.hid oP
                have HON := Lib.hid oN
                clear rP rA oP oN ne xPP xPA xNP xNA
                go_wp2_with fail
                go_meet
                exact ⟨bP, bA, _, _, _, aP, aN, cP, cN, rfl, rfl, rfl, HRP.out, HRA.out, HOP.out, HON.out, hW.out⟩
          case rest =>
            obtain ⟨bP, bA, vT, vC, vE, aP, aN, cP, cN, rfl, rfl, rfl, hrP, hrA, hoP, hoN, hfc⟩ := hcut
            obtain ⟨x1, hx1⟩ : ∃ x : World, x = wc := ⟨_, rfl⟩
            rw [← hx1] at hrP hrA hoP hoN hfc ⊢
            clear hx1 HAW HK HCS hu1 hi1
            have p1 := hrP.cell 1 _ rfl
            have a2 := hrA.cell 2 _ rfl
            have a5 := hrA.cell 5 _ rfl
            have a6 := hrA.cell 6 _ rfl
            have a7 := hrA.cell 7 _ rfl
            have hrow := HMZ.out.row.fr hfc (by simp)
            have b0 := hrow.cell 0 _ rfl
            have b1 := hrow.cell 1 _ rfl
            have b2 := hrow.cell 2 _ rfl
            have f0 := hrow.frozen 0
            have f1 := hrow.frozen 1
            have f2 := hrow.frozen 2
            have hset := ((hrow.set 0 (.slice aN n cN)).set 1 (.int .i64 R4)).set 2 (.int .i64 R5)
            simp only [List.set_cons_zero, List.set_cons_succ] at hset
            have fs : Fr [bc] x1 (((x1.setCell ⟨bc, 0, none⟩ (.slice aN n cN)).setCell ⟨bc, 1, none⟩ (.int .i64 R4)).setCell ⟨bc, 2, none⟩ (.int .i64 R5)) := (((Fr.refl [bc] x1).setCell (.inl (by simp)) _).setCell (.inl (by simp)) _).setCell (.inl (by simp)) _
            have hneN : ∀ k, (Value.slice aN n cN).ownBlock = some k → k ≠ bc := fun k hk => by have := (hoN.block k hk).1; have := HMZ.out.row.lt; omega
            have hn2 := HN2.out
            have hr20 := hn2.R1 (by omega)
            rw [HGN.out] at hn2 hr20
            obtain ⟨_, hP20, _, _, hF20⟩ := hr20
            have hPt : ∀ k, k ≤ n → 0 ≤ sumTo PL k ∧ sumTo PL k ≤ sumTo PL n := by
              intro k hk
              have key : ∀ d, k + d ≤ n → sumTo PL k ≤ sumTo PL (k + d) := by
                intro d
                induction d with
                | zero => intro _; exact Int.le_refl _
                | succ d ih =>
                  intro hd
                  have h1 := ih (by omega)
                  have h2 := (HPB.out (k + d) (by rw [HGN.out]; omega)).1
                  show sumTo PL k ≤ sumTo PL (k + d) + PL.getD (k + d) 0
                  omega
              have := key (n - k) (by omega)
              rw [show k + (n - k) = n by omega] at this
              exact ⟨HPS.out k (by rw [HGN.out]; exact hk), this⟩
            have hFA := hn2.F1
            have hM2 : ChM g n bc x5 (j + 1) (F + A) (P + sumTo PL n) (((x1.setCell ⟨bc, 0, none⟩ (.slice aN n cN)).setCell ⟨bc, 1, none⟩ (.int .i64 R4)).setCell ⟨bc, 2, none⟩ (.int .i64 R5)) C2 aN cN R4 R5 :=
              ⟨hn2, hset, (hoN.mono HMZ.out.fr.size).fr fs (fun k hk => by have := hneN k hk; simpa using this), hneN, (HMZ.out.fr.trans hfc).trans' fs (fun i hi => by simp at hi; subst hi; exact .inr HMZ.out.bcx), HMZ.out.bcx⟩
            have hP0 := HMZ.out.ch.P0
            have hrr := hoP.rd
            obtain ⟨a', c', hv, _, _, hrr⟩ := hrr
            simp only [Value.slice.injEq] at hv
            obtain ⟨rfl, hnn, rfl⟩ := hv
            rw [hpl] at hrr
            have HM2 := Lib.hid hM2
            have HPT := Lib.hid hPt
            have HRR := Lib.hid hrr
            have hj1 : F + A ≤ 1310700 := by omega
            clear hnn hrP hrA hoP hoN hfc hrow hset fs hneN hn2 hM2 hPt hrr HPS HPB HN2 HMZ hFA
            have en : ((n : Int) != (n : Int)) = false := by simp
            go_upto_block 4 with (fail)
            go_cut [8] (fun t wx => t = .int .i64 (P + sumTo PL n) ∧ x1 = wx)
            case first =>
              go_wp2_with fail
              go_loop [97, 8] (fun i t => ∃ k : Nat, k ≤ n ∧ i = .int .i64 k ∧ t = .int .i64 (P + sumTo PL k)) (fun i _ => n - (intOf i).toNat)
              case atStart => exact ⟨0, by omega, rfl, by simp [sumTo]⟩
              case round =>
                obtain ⟨k, hk, rfl, rfl⟩ := hrel
                by_cases hlt : k < n
                · have hkn : (k : Int) < (n : Int) := by omega
                  obtain ⟨g1, o1, rfl, hc1⟩ := HRR.out k hlt
                  have hs1 := HPT.out k (by omega)
                  have hs2 := HPT.out (k + 1) (by omega)
                  have hsu : sumTo PL (k + 1) = sumTo PL k + PL.getD k 0 := rfl
                  rw [hsu] at hs2
                  have HSU := Lib.hid hsu
                  clear hsu
                  obtain ⟨t0, t1⟩ := hs1
                  obtain ⟨t2, t3⟩ := hs2
                  generalize PL.getD k 0 = x at *
                  generalize sumTo PL k = sk at *
                  generalize sumTo PL n = sn at *
                  go_wp2_with fail
                  go_round
                  case rel => exact ⟨k + 1, by omega, by go_num, by rw [HSU.out]; go_num⟩
                  case measure => simp [intOf]; omega
                · obtain rfl : n = k := by omega
                  go_wp2_with fail
                  go_meet
                  exact ⟨rfl, rfl⟩
            case rest =>
              obtain ⟨rfl, rfl⟩ := hcut
              generalize sumTo PL n = sn at *
              go_wp2_with fail
              go_roundw
              case rel => exact ⟨j + 1, F + A, _, C2, aN, cN, R4, R5, by omega, by go_num, by go_num, rfl, HM2.out⟩
              case measure => simp [intOf]; omega
      · have HM := Lib.hid hM
        by_cases hjl : j < L.length
        · have d1 : decide ((j : Int) < (L.length : Int)) = true := by simp; omega
          have d2 : decide (j < L.length) = true := by simpa using hjl
          have d3 : decide ((j : Int) < 20) = false := by simp; omega
          have d4 : decide (j < 20) = false := by simp; omega
          clear hM hlt
          go_wp2_with fail
          go_meet
          exact ⟨j, F, P, C, a, c, R, N, hj, rfl, rfl, HM.out⟩
        · have d1 : decide ((j : Int) < (L.length : Int)) = false := by simp; omega
          have d2 : decide (j < L.length) = false := by simpa using hjl
          clear hM hlt
          go_wp2_with fail
          go_meet
          exact ⟨j, F, P, C, a, c, R, N, hj, rfl, rfl, HM.out⟩
  case rest =>
    obtain ⟨j, F, P, C, a, c, R, N, hj, rfl, rfl, hM⟩ := hcut
    obtain ⟨wo, rfl⟩ : ∃ x : World, x = wc := ⟨_, rfl⟩
    have q0 := hM.row.cell 0 _ rfl
    have q1 := hM.row.cell 1 _ rfl
    have hr := hM.own.rd
    have hR1 := hM.ch.R1 hj
    have hbal := hM.ch.bal
    have hR0 := hM.ch.R0
    have hP0 := hM.ch.P0
    have hCl := hM.ch.len
    have hC0 := fun i hi => hM.ch.C01 i hi
    rw [HGN.out] at hbal hR1 hCl
    have hsn := sumTo_nn (l := C) (n := n) (fun i hi => (hC0 i (by omega)).1)
    have hst : ∀ k, k ≤ n → sumTo C k ≤ sumTo C n := by
      intro k hk
      have key : ∀ d, k + d ≤ n → sumTo C k ≤ sumTo C (k + d) := by
        intro d
        induction d with
        | zero => intro _; exact Int.le_refl _
        | succ d ih =>
          intro hd
          have h1 := ih (by omega)
          have h2 := (hC0 (k + d) (by omega)).1
          show sumTo C k ≤ sumTo C (k + d) + C.getD (k + d) 0
          omega
      have := key (n - k) (by omega)
      rwa [show k + (n - k) = n by omega] at this
    have HFx := Lib.hid (HF5.out.trans hM.fr)
    obtain ⟨a', c', hv, _, _, hrr⟩ := hr
    simp only [Value.slice.injEq] at hv
    obtain ⟨rfl, hnn, rfl⟩ := hv
    clear hnn
    rw [hCl] at hrr
    have HRR := Lib.hid hrr
    have HSN := Lib.hid hsn
    have HST2 := Lib.hid hst
    have HBAL := Lib.hid hbal
    obtain ⟨r1, r2, r3, r4, r5⟩ := hR1
    clear hM hrr hsn hst hbal hC0 hCl HM7 HL1 HLB
    have e1 : (F == F) = true := by simp
    go_upto_block 6 with (fail)
    go_cut [16] (fun t wx => t = .int .i64 (R + sumTo C n) ∧ wo = wx)
    case first =>
      go_wp2_with fail
      go_loop [115, 16] (fun i t => ∃ k : Nat, k ≤ n ∧ i = .int .i64 k ∧ t = .int .i64 (R + sumTo C k)) (fun i _ => n - (intOf i).toNat)
      case atStart => exact ⟨0, by omega, rfl, by simp [sumTo]⟩
      case round =>
        obtain ⟨k, hk, rfl, rfl⟩ := hrel
        by_cases hlt : k < n
        · have hkn : (k : Int) < (n : Int) := by omega
          obtain ⟨g1, o1, rfl, hc1⟩ := HRR.out k hlt
          have hs1 := HSN.out k (by omega)
          have hs2 := HSN.out (k + 1) (by omega)
          have hs3 := HST2.out (k + 1) (by omega)
          have hs4 := HST2.out k (by omega)
          have hsu : sumTo C (k + 1) = sumTo C k + C.getD k 0 := rfl
          rw [hsu] at hs2 hs3
          have HSU := Lib.hid hsu
          clear hsu
          generalize C.getD k 0 = x at *
          generalize sumTo C k = sk at *
          go_wp2_with fail
          go_round
          case rel => exact ⟨k + 1, by omega, by go_num, by rw [HSU.out]; go_num⟩
          case measure => simp [intOf]; omega
        · obtain rfl : n = k := by omega
          go_wp2_with fail
          go_meet
          exact ⟨rfl, rfl⟩
    case rest =>
      obtain ⟨rfl, rfl⟩ := hcut
      have hbal := HBAL.out
      have e2 : (F == P + (R + sumTo C n)) = true := by simpa using hbal
      clear hbal HRR HSN HST2 HBAL
      generalize sumTo C n = SC at *
      go_wp2_with fail
      refine (works_any _).mono ?_
      rintro e x12 ⟨rfl, f12⟩
      have HF12 := Lib.hid (HFx.out.trans f12)
      clear f12
      go_wp2_with fail
      go_ret
      exact ⟨rfl, HF12.out.below⟩
theorem own : ownKnob Try.prog.godebug = none := by kernel_rfl
theorem laidOut : laidOutB Try.prog = true := by kernel_rfl
set_option maxRecDepth 100000 in
theorem lifted (os : Os) (started : os.Started) (H : Type) (enc : TypeId × Value → H) :
    ReturnsInHanded {} Try.checked os 14 .any (Rows.prizeChainSpec.pre6 enc Try.prog Try.f14 Rows.prizeChainRow.domain false) (Rows.prizeChainSpec.post enc Try.prog Try.f14 false true false false) := by
  refine returnsInHanded_of_change (C := Try.checked) own started (by kernel_rfl) Try.func14
    (ChangeSpec.witness6 (enc := enc) (C := Try.checked) false ⟨#[], #[.slice none 0 0, .slice none 0 0], []⟩ 8 (by kernel_rfl) (by kernel_rfl) (by kernel_rfl) (by kernel_rfl)) ?_
  intro W base args ds gs before hval0 hW hcnd _
  have hval : ∀ (j : Nat) t v, Try.f14.params[j]? = some t → args[j]? = some v → Value.okWide Try.prog W .any base t v := hval0
  have hW' := hW
  obtain ⟨p, q, hA0, hV, rfl, hfz, hnd⟩ := hW
  have hA : DataW.TrodAll enc Try.prog W 0 (fun _ => true) true Try.f14.params.toList args.toList ds p := hA0
  rw [Try.params14] at hA hval
  obtain ⟨v0, vs0, d0, ds0, p0, q0, hargs, rfl, rfl, h0, r0⟩ := trodAll_cons hA
  obtain ⟨v1, vs1, d1, ds1, p1, q1, rfl, rfl, rfl, h1, r1⟩ := trodAll_cons r0
  obtain ⟨rfl, rfl, rfl⟩ := trodAll_nil r1
  obtain rfl : args = #[v0, v1] := by cases args; simp_all
  obtain ⟨rfl, rfl⟩ := trodVars_none hV
  have k0 := h0
  have lt0 : ∀ x ∈ p0, x.block < W.heap.size := by obtain ⟨m, hm⟩ := k0; exact DataW.trod_lt m _ _ _ hm
  obtain ⟨T0, hr0, _⟩ := open_tiers (hval 0 23 v0 rfl rfl) h0
  have k1 := h1
  have lt1 : ∀ x ∈ p1, x.block < W.heap.size := by obtain ⟨m, hm⟩ := k1; exact DataW.trod_lt m _ _ _ hm
  obtain ⟨l1, hr1, hq1⟩ := open_u16s (hval 1 64 v1 rfl rfl) h1
  clear hA0 hval0
  refine (walk v0 T0 v1 l1 W hr0 hr1 hq1).mono fun e W' ⟨he, bel⟩ => ?_
  subst he
  exact ⟨_, rfl, _, _, _, [], _, [], hW', trodAll_mk1 (shut_bool Try.underlying4 _), (trodAll_cons_mk (Below.trod laidOut (by kernel_rfl) (of_decide_eq_true (by kernel_rfl)) k0 bel lt0) (trodAll_cons_mk (Below.trod laidOut (by kernel_rfl) (of_decide_eq_true (by kernel_rfl)) k1 bel lt1) trodAll_mk0)), rfl, bel.frame _, fun h => by cases h⟩
theorem over : Rows.prizeChainRow.holds Try.pinned (OpenSpec.ofChange Rows.prizeChainSpec) :=
  OpenClaim.holds_of_wide 14 Try.f14 rfl rfl rfl rfl rfl rfl rfl ⟨rfl, rfl, rfl, rfl, rfl⟩ rfl rfl rfl rfl rfl (by kernel_rfl) Try.func14 (by kernel_rfl)
    (of_decide_eq_true (by kernel_rfl)) (by unfold Func.isWrapper; first | (rw [if_pos (by decide +kernel)]; kernel_rfl) | (rw [if_neg (by decide +kernel)]; exact ⟨rfl, rfl⟩))
    (fun os started H enc _ => lifted os started H enc)
/-- THE STATEMENT -/
theorem proved : Rows.PrizeChainSaid := over
end Go.Proofs.Ytdinjekpcgndmaa.prizeChain
