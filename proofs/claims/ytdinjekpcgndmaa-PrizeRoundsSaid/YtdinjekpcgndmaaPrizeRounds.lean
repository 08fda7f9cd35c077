/-
  PrizeRounds: for all tiers, counts and numbers the statement returns true: prizes of share and jackpot tiers are multiples of Round, those of fixed tiers at most their value. No conditions.
-/
import Derived.Test.YtdinjekpcgndmaaPrizeBase
import Derived.IntWalk
import Derived.BigQuiet
import Derived.ProofKit
import Derived.OpenShut
import Derived.ShutString
import Derived.ChangeOld
namespace Go.Proofs.Ytdinjekpcgndmaa.prizeRounds
open Go.ChangeShapes Go.WideShapes Go.ChangeAt Go.RowKit
open Go.ChangeMaps (open_string shut_string)
set_option linter.unusedVariables false
attribute [local go_sem ↓] Go.wp_at_zero Go.wp_at_succ
def cF (L : List Int) (i : Nat) : Int := if i < L.length then L.getD i 0 else 0
theorem cF_bd {L : List Int} (hL : ∀ z ∈ L, 0 ≤ z ∧ z ≤ 255) (i : Nat) : 0 ≤ cF L i ∧ cF L i ≤ 255 := by
  unfold cF
  split
  · rename_i h
    have := hL L[i] (List.getElem_mem h)
    simpa [List.getD, h] using this
  · omega
theorem u8_at {w : World} {a : Option Addr} {n c : Nat} {L : List Int} (h : RdF 1 u8F w (.slice a n c) L) {k : Nat} (hk : k < L.length) : ∃ g o, a = some ⟨g, o, none⟩ ∧ w.cell? ⟨g, o + k, none⟩ = some (.int .u8 (L.getD k 0)) := by
  obtain ⟨a', c', hv, _, _, h3⟩ := h
  simp only [Value.slice.injEq] at hv
  obtain ⟨rfl, _, rfl⟩ := hv
  obtain ⟨g, o, rfl, hc⟩ := h3 k L[k] (by simp [hk])
  refine ⟨g, o, rfl, ?_⟩
  have := hc 0 (.int .u8 L[k]) (by simp [u8F])
  simpa [List.getD, hk] using this
theorem upTo_skip' (f : Nat → Int) (n k : Nat) (h : f k = 0) : upTo f n (k + 1) = upTo f n k := ext_getD (by rw [upTo_len, upTo_len]) fun i hi => by
  rw [upTo_len] at hi
  rw [upTo_at _ _ _ _ hi, upTo_at _ _ _ _ hi]
  by_cases e : i = k
  · subst e; rw [if_pos (by omega), if_neg (by omega), h]
  · by_cases h2 : i < k
    · rw [if_pos (by omega), if_pos h2]
    · rw [if_neg (by omega), if_neg h2]
theorem sel_bd {T : List Ti} {f : Nat → Int} {B : Int} (hB : 0 ≤ B) (hT : T.length ≤ 6) (hf : ∀ i, i < T.length → 0 ≤ f i ∧ f i ≤ B) (k : Nat) (hk : k ≤ T.length) : 0 ≤ spT (selP T true f k) ∧ spT (selP T true f k) ≤ B * 6 := by
  have hb : ∀ x ∈ selP T true f k, 0 ≤ x ∧ x ≤ B := selP_alln _ fun i hi _ => hf i (by omega)
  have h := sumTo_bdC hb (selP T true f k).length (Nat.le_refl _)
  have hl : (selP T true f k).length ≤ 6 := by rw [selP_len]; have := cntK_le T true k; omega
  refine ⟨h.1, Int.le_trans h.2 ?_⟩
  exact Int.mul_le_mul_of_nonneg_left (by omega) hB
set_option maxRecDepth 20000 in
set_option maxHeartbeats 8000000 in
theorem walk (v0 : Value) (T : List Ti) (v1 : Value) (L : List Int) (v2 : Value) (a b c : Int) (w : World) (h0 : RdF 6 tiF w v0 T) (h1 : RdF 1 u8F w v1 L) (hL : ∀ z ∈ L, (Lit.int .u8 z).wf = true) (hv2 : v2 = .agg #[.int .u32 a, .int .u32 b, .int .u32 c])
    (hw2 : (Lit.int .u32 a).wf = true ∧ (Lit.int .u32 b).wf = true ∧ (Lit.int .u32 c).wf = true) :
    Calls Try.prog 13 #[v0, v1, v2] w fun e w' => e = .returned (.bool true) ∧ Below w.heap.size w w' := by
  subst hv2
  simp [Lit.wf, IntKind.min, IntKind.max, IntKind.signed, IntKind.bits] at hL hw2
  obtain ⟨⟨a0', a1'⟩, ⟨b0', b1'⟩, _, _⟩ := hw2
  obtain ⟨aT0, cT0, rfl, hT1, hT2, _⟩ := id h0
  obtain ⟨aL, cL, rfl, hl1, hl2, _⟩ := id h1
  unfold maxLen at hT2 hl2
  have hPN := fun x (h : Fr [] w x) => pn_any T x aT0 cT0 (h0.below h)
  unfold PnPost at hPN
  have hm5 : min T.length 5 ≤ 5 := Nat.min_le_right _ _
  generalize min T.length 5 = m at *
  have hmm : min (m + 1) 6 = m + 1 := by omega
  have hPL := fun x (av : Option Addr) (cv : Nat) (h : RdF 6 tiF x (.slice av (pnT T m).length cv) (pnT T m)) => plain38_any _ (pnT T m) 6000 500 50 x av cv rfl h (pnT_ok T m) rfl rfl rfl
  unfold Pl38Post at hPL
  rw [pnT_len, hmm] at hPL
  have hCH := fun a c => rd_ok a c T hm5
  have hcb := cF_bd hL
  obtain ⟨cs, hcs⟩ : ∃ cs, cs = upTo (cF L) (m + 1) (m + 1) := ⟨_, rfl⟩
  have hcl : cs.length = m + 1 := by rw [hcs, upTo_len]
  have hca : ∀ i, i < m + 1 → cs.getD i 0 = cF L i := fun i hi => by rw [hcs, upTo_at _ _ _ _ hi, if_pos hi]
  have HPN := Lib.hid hPN
  have HPL := Lib.hid hPL
  have HCH := Lib.hid hCH
  have HCB := Lib.hid hcb
  have HCS := Lib.hid hcs
  have HCL := Lib.hid hcl
  have HCA := Lib.hid hca
  have HL1 := Lib.hid h1
  clear hPN hPL hCH hcb hcs hcl hca h0 h1 hL hmm
  go_enter Try.func13, Try.ntmps13
  go_upto_region 1 with (fail)
  have i0 : (w.alloc (.cells #[.int .u32 a, .int .u32 b, .int .u32 c] 56)).cell? ⟨w.heap.size, 0, none⟩ = some (.int .u32 a) := new_cell rfl rfl
  have i1 : (w.alloc (.cells #[.int .u32 a, .int .u32 b, .int .u32 c] 56)).cell? ⟨w.heap.size, 1, none⟩ = some (.int .u32 b) := new_cell rfl rfl
  have F1 : Fr [] w (w.alloc (.cells #[.int .u32 a, .int .u32 b, .int .u32 c] 56)) := (Fr.refl [] w).alloc _
  generalize w.alloc (.cells #[.int .u32 a, .int .u32 b, .int .u32 c] 56) = x1 at *
  go_wp2_with fail
  refine (HPN.out _ F1).mono ?_
  rintro e x2 ⟨v, rfl, ho, f2⟩
  obtain ⟨av, cv, rfl, _, _, hrf⟩ := ho.form
  have F2 := F1.trans f2
  rw [pnT_len] at hrf
  have hP := HPL.out _ av cv hrf
  have HP := Lib.hid hP
  have i0 := f2.cell_some i0 (by simp)
  have i1 := f2.cell_some i1 (by simp)
  clear ho hrf hP F1 f2
  rw [pnT_len]
  go_wp2_with fail
  refine HP.out.mono ?_
  rintro e x3 ⟨ga, gc, rfl, hok, f3⟩
  have hch := HCH.out ga gc
  obtain ⟨g, hg⟩ : ∃ g, g = pl38 ga gc 6000 500 50 (plT (pnT T m) (m + 1)) := ⟨_, rfl⟩
  rw [← hg] at hok hch ⊢
  have gt : g.tiers = plT (pnT T m) (m + 1) := by rw [hg]; rfl
  have gp : g.pool = 6000 := by rw [hg]; rfl
  have gr : g.round = 50 := by rw [hg]; rfl
  have F3 := F2.trans f3
  have i0 := f3.cell_some i0 (by simp)
  have i0' := i0
  have i1 := f3.cell_some i1 (by simp)
  clear hg HCH HP f3 F2
  go_upto_region 2 with (refine store_game rfl (.tmp 7) (.tmp 19) rfl x3.heap.size rfl _ (heap_alloc_new _ _) rfl g rfl ?_; intro x4 hg4 hz4 hf4)
  have f4 : Fr [] x3 x4 := ((Fr.refl [] x3).alloc _).trans' hf4 (by intro i hi; simp at hi; right; omega)
  have F4 := F3.trans f4
  have hok4 := hok.fr f4
  have i0 := f4.cell_some i0 (by simp)
  have i1 := f4.cell_some i1 (by simp)
  have hbw : w.heap.size < x3.heap.size := lt_of_cell i0'
  generalize x3.heap.size = bg at *
  have gn : g.tiers.length = m + 1 := by rw [gt, plT_len]
  obtain ⟨n, hn⟩ : ∃ n, n = m + 1 := ⟨_, rfl⟩
  rw [← hn] at gn
  have hST := start_any g x4 hok4
  unfold StPost at hST
  rw [show stL g = List.replicate n 0 by unfold stL; rw [if_pos hch, gn]] at hST
  have HST := Lib.hid hST
  have HF4 := Lib.hid F4
  have HOK4 := Lib.hid hok4
  have HGT := Lib.hid gt
  have HGP := Lib.hid gp
  have HGR := Lib.hid gr
  have HGN := Lib.hid gn
  have HN := Lib.hid hn
  have HCHE := Lib.hid hch
  have H21 := Lib.hid (show ∀ x, GmAt x bg g → x.cell? ⟨bg, 21, none⟩ = some (.slice g.ta n g.tc) from fun x h => by rw [← gn]; exact h.cell 21 _ rfl)
  clear hok f4 hf4 hz4 F3 F4 hok4 gt gp gr gn hch hST
  have hn6 : n ≤ 6 := by omega
  have hn1 : 1 ≤ n := by omega
  clear hn
  go_wp2_with (refine load_game rfl (.tmp 7) rfl _ rfl g hg4 ?_)
  refine HST.out.mono ?_
  rintro e x5 ⟨vS, rfl, oS, f5⟩
  obtain ⟨aS, cS, rfl, hS1, hS2⟩ := oS.any
  rw [List.length_replicate] at hS1 ⊢
  have hg5 := hg4.fr f5 (by simp)
  have i0 := f5.cell_some i0 (by simp)
  have i1 := f5.cell_some i1 (by simp)
  have F5 := HF4.out.trans f5
  have hbg := hg5.lt
  clear hg4 HST
  go_upto_region 3 with (fail)
  have hrc : RowAt (x5.alloc (.cells #[.slice aS n cS, .int .i64 0, .int .i64 0] 43)) x5.heap.size 43 [.slice aS n cS, .int .i64 0, .int .i64 0] := RowAt.new rfl rfl
  have e6 : Fr [] x5 (x5.alloc (.cells #[.slice aS n cS, .int .i64 0, .int .i64 0] 43)) := (Fr.refl [] x5).alloc _
  have hblk := fun k hk => (oS.block k hk).2
  have oS6 := oS.fr e6 (by simp)
  rw [List.length_replicate] at oS6 hblk
  have F6 := F5.trans e6
  have hf56 := f5.trans e6
  have hg6 := hg5.fr e6 (by simp)
  have i0 := e6.cell_some i0 (by simp)
  have i1 := e6.cell_some i1 (by simp)
  generalize x5.alloc (.cells #[.slice aS n cS, .int .i64 0, .int .i64 0] 43) = x6 at *
  have hbc : x4.heap.size ≤ x5.heap.size := f5.size
  generalize x5.heap.size = bc at *
  clear oS hg5 F5 f5 e6 i0'
  have c21 := H21.out _ hg6
  have q0 := hrc.cell 0 _ rfl
  have q1 := hrc.cell 1 _ rfl
  have qf := hrc.frozen 1
  have en : ((n : Int) != (n : Int)) = false := by simp
  go_upto_region 6 with (fail)
  have hset := hrc.set 1 (.int .i64 b)
  simp only [List.set_cons_zero, List.set_cons_succ] at hset
  have fs : Fr [] x4 (x6.setCell ⟨bc, 1, none⟩ (.int .i64 b)) := hf56.setCell (.inr hbc) _
  have fs6 : Fr [bc] x6 (x6.setCell ⟨bc, 1, none⟩ (.int .i64 b)) := (Fr.refl _ _).setCell (.inl (by simp)) _
  have hg7 := hg6.fr fs6 (by simp; omega)
  have i0 := fs6.cell_some i0 (by simp; omega)
  have i1 := fs6.cell_some i1 (by simp; omega)
  have oS7 := oS6.fr fs6 (fun k hk => by have := hblk k hk; simp; omega)
  have F47 := fs
  have F7 := HF4.out.trans fs
  generalize x6.setCell ⟨bc, 1, none⟩ (.int .i64 b) = x7 at *
  have c21 := H21.out _ hg7
  have hmk := fun w => run_make_row' (P := Try.prog) 31 3 (.int .i64 0) 8 Try.underlying31 infoIntS rfl .i64 .i64 n (by omega) (by omega) w
  clear hrc q0 q1 qf hf56 fs fs6 hg6 F6 oS6
  go_upto_region 7 with (fail)
  have ho8 := OwnI.made x7 n 3 (by unfold maxLen; omega)
  have e8 : Fr [] x7 (x7.alloc (.cells (madeCells #[.int .i64 0] n) 3)) := (Fr.refl [] x7).alloc _
  rw [← upTo_zero (cF L)] at ho8
  have hg8 := hg7.fr e8 (by simp)
  have i0 := e8.cell_some i0 (by simp)
  have hset8 := hset.fr e8 (by simp)
  have F8 := F7.trans e8
  have F48 := F47.trans e8
  have hw8 : x4.heap.size ≤ x7.heap.size := F47.size
  have oS8 := oS7.fr e8 (by simp)
  generalize x7.alloc (.cells (madeCells #[.int .i64 0] n) 3) = x8 at *
  have hbgl : bg < x7.heap.size := hg7.lt
  have hbcl : bc < x7.heap.size := hset.lt
  generalize x7.heap.size = gl at *
  have HG8 := Lib.hid hg8
  have HSET8 := Lib.hid hset8
  have HOS8 := Lib.hid oS8
  have HBLK := Lib.hid hblk
  have HF48 := Lib.hid F48
  have HF8 := Lib.hid F8
  have HO8 := Lib.hid ho8
  have HI0 := Lib.hid i0
  have hfb : ∀ i, i < n → 0 ≤ vl g.tiers i * cs.getD i 0 ∧ vl g.tiers i * cs.getD i 0 ≤ 1000000000 * 255 := fun i hi => by
    have h1 := vl_bd HCHE.out i (by rw [HGN.out]; exact hi)
    have h2 := HCB.out i
    rw [← HCA.out i (by have := HN.out; omega)] at h2
    refine ⟨Int.mul_nonneg h1.1 h2.1, ?_⟩
    calc vl g.tiers i * cs.getD i 0 ≤ 1000000000 * cs.getD i 0 := Int.mul_le_mul_of_nonneg_right h1.2 h2.1
      _ ≤ 1000000000 * 255 := Int.mul_le_mul_of_nonneg_left h2.2 (by omega)
  have hsb := fun k (hk : k ≤ n) => sel_bd (T := g.tiers) (f := fun i => vl g.tiers i * cs.getD i 0) (B := 1000000000 * 255) (by omega) (by rw [HGN.out]; exact hn6) (by rw [HGN.out]; exact hfb) k (by rw [HGN.out]; exact hk)
  have HFB := Lib.hid hfb
  have HSB := Lib.hid hsb
  clear hmk hset hset8 oS7 oS8 hblk F47 F48 hg7 hg8 ho8 e8 F7 F8 i0 i1 c21 hfb hsb
  go_upto_block 0 with (fail)
  go_cut [10] (fun nd wx => nd = .int .i64 (spT (ndL g.tiers cs)) ∧ OwnI wx gl 3 (.slice (some ⟨gl, 0, none⟩) n n) cs ∧ Fr [gl] x8 wx)
  case first =>
   go_wp2_with fail
   go_loopw [39, 10] (fun j nd wr => ∃ k : Nat, k ≤ n ∧ j = .int .i64 k ∧ nd = .int .i64 (spT (selP g.tiers true (fun i => vl g.tiers i * cs.getD i 0) k)) ∧ OwnI wr gl 3 (.slice (some ⟨gl, 0, none⟩) n n) (upTo (cF L) n k) ∧ Fr [gl] x8 wr) (fun j _ _ => n - (intOf j).toNat)
   case atStart => exact ⟨0, by omega, rfl, rfl, HO8.out, Fr.refl _ _⟩
   case round =>
     obtain ⟨k, hk, rfl, rfl, ho, hf⟩ := hrel
     have hgr := HG8.out.fr hf (by simp; omega)
     have hFw : Fr [] w wr := HF8.out.trans' hf (by intro i hi; simp at hi; right; omega)
     by_cases hlt : k < n
     · have hkn : (k : Int) < (n : Int) := by omega
       have hk6 : k < 6 := by omega
       obtain ⟨t, ht⟩ : ∃ t, g.tiers[k]? = some t := ⟨_, List.getElem?_eq_getElem (by rw [HGN.out]; exact hlt)⟩
       obtain ⟨bt, ot, hta, hct⟩ := RdF.at (f := Ti.cells) HOK4.out.tiers.rd ht
       have hcsk := HCA.out k (by have := HN.out; omega)
       have hcb := HCB.out k
       have c21 := H21.out _ hgr
       have HTA := Lib.hid hta
       have HCT := Lib.hid hct
       have HT := Lib.hid ht
       have HO := Lib.hid ho
       have HF := Lib.hid hf
       have hus := upTo_succ (cF L) n k hlt
       have hsk := upTo_skip' (cF L) n k
       have hul := upTo_len (cF L) n k
       clear ht hct ho hf hta
       go_upto_if 45 with (fail)
       go_cut [] (fun wx => OwnI wx gl 3 (.slice (some ⟨gl, 0, none⟩) n n) (upTo (cF L) n (k + 1)) ∧ Fr [gl] x8 wx)
       case first =>
         by_cases hkL : k < L.length
         · have d1 : decide ((k : Int) < (L.length : Int)) = true := by simp; omega
           have d2 : decide (k < L.length) = true := by simpa using hkL
           obtain ⟨gL, oL, rfl, hcell⟩ := u8_at HL1.out hkL
           have hcc := hFw.cell_some hcell (by simp)
           have hcf : cF L k = L.getD k 0 := by unfold cF; rw [if_pos hkL]
           rw [hcf] at hcb hus
           have co := HO.out.cell k (by rw [hul]; exact hlt)
           have fo := HO.out.frozen k
           have HUS := Lib.hid hus
           have hkL2 : (k : Int) < (L.length : Int) := by omega
           have HSET := Lib.hid (HO.out.set k (L.getD k 0))
           have HFS := Lib.hid (HF.out.setCell (p := ⟨gl, k, none⟩) (.inl (by simp)) (.int .i64 (L.getD k 0)))
           obtain ⟨z0, z1⟩ := hcb
           clear hcell hcf hus hsk hcsk c21 hkL hgr hFw
           generalize L.getD k 0 = z at *
           generalize (upTo (cF L) n k).getD k 0 = y at *
           (first | rw [d1] | rw [d2])
           go_wp2_with fail
           go_meet
           exact ⟨by rw [← HUS.out]; exact HSET.out, HFS.out⟩
         · have d1 : decide ((k : Int) < (L.length : Int)) = false := by simp; omega
           have d2 : decide (k < L.length) = false := by simpa using hkL
           have hcf : cF L k = 0 := by unfold cF; rw [if_neg hkL]
           have HSK := Lib.hid (hsk hcf)
           clear hus hsk hcsk c21 hkL hcf hgr hFw
           (first | rw [d1] | rw [d2])
           go_wp2_with fail
           go_meet
           exact ⟨by rw [HSK.out]; exact HO.out, HF.out⟩
       case rest =>
         obtain ⟨ho, hf⟩ := hcut
         obtain ⟨wz, rfl⟩ : ∃ x : World, x = wc := ⟨_, rfl⟩
         clear hgr c21 hFw HO HF hus hsk hul
         have hgr := HG8.out.fr hf (by simp; omega)
         have c21 := H21.out _ hgr
         have hFw : Fr [] w wz := HF8.out.trans' hf (by intro i hi; simp at hi; right; omega)
         have hF4 : Fr [] x4 wz := HF48.out.trans' hf (by intro i hi; simp at hi; right; omega)
         rw [HTA.out] at c21
         have c4 := hF4.cell_some (HCT.out 4 _ rfl) (by simp)
         have c5 := hF4.cell_some (HCT.out 5 _ rfl) (by simp)
         have hkv := kd_of HT.out
         obtain ⟨tm, tb, te, to_, tk, tv⟩ := t
         simp only at c4 c5 hkv
         have hsy := @sel_yes g.tiers true (fun i => vl g.tiers i * cs.getD i 0) k
         have hsn := @sel_no g.tiers true (fun i => vl g.tiers i * cs.getD i 0) k
         have hik : isK g.tiers true k = decide (tk = 1) := by unfold isK; rw [hkv.1]; simp
         have HO := Lib.hid ho
         have HF := Lib.hid hf
         by_cases h1 : tk = 1
         · have e1 : (tk == 1) = true := by simpa using h1
           have hy := hsy (by rw [hik]; simpa using h1)
           have hcl := ho.cell k (by rw [upTo_len]; exact hlt)
           rw [upTo_at _ _ _ _ hlt, if_pos (by omega), ← hcsk] at hcl
           have hb1 := HSB.out k (by omega)
           have hb2 := HFB.out k hlt
           have hy2 := hy.2
           (try simp only at hy2)
           rw [hkv.2] at hy2 hb2
           have HY := Lib.hid hy2
           obtain ⟨s0, s1⟩ := hb1
           obtain ⟨p0, p1⟩ := hb2
           clear hy hy2 hsy hsn hik hkv ho hf hcsk h1 hcb hgr hFw hF4
           generalize cs.getD k 0 = y at *
           generalize spT (selP g.tiers true (fun i => vl g.tiers i * cs.getD i 0) k) = S at *
           have hq1 : IntKind.i64.wrap (tv * y) = tv * y := IntWalk.i64_in _ (by omega)
           have hq2 : IntKind.i64.wrap (S + tv * y) = S + tv * y := IntWalk.i64_in _ (by omega)
           go_wp2_with fail
           go_quiet (fail)
           clear hq1 hq2 c4 c5 c21 hcl
           have HO2 := Lib.hid (HO.out.fr ((Fr.refl [] wz).drewN nq) (by simp))
           have HF2 := Lib.hid (HF.out.drewN nq)
           generalize wz.drewN nq = w2 at *
           go_wp2_with fail
           go_roundw
           case rel => exact ⟨k + 1, by omega, by go_num, by rw [HY.out], HO2.out, HF2.out⟩
           case measure => simp [intOf]; omega
         · have e1 : (tk == 1) = false := by simpa using h1
           have HY := Lib.hid (hsn (by rw [hik]; simpa using h1))
           clear hsy hsn hik hkv ho hf hcsk h1 hcb hgr hFw hF4
           generalize hSS : spT (selP g.tiers true (fun i => vl g.tiers i * cs.getD i 0) k) = S at *
           have HSS := Lib.hid hSS
           clear hSS
           go_wp2_with fail
           go_roundw
           case rel => exact ⟨k + 1, by omega, by go_num, by rw [HY.out, HSS.out], HO.out, HF.out⟩
           case measure => simp [intOf]; omega
     · obtain rfl : n = k := by omega
       have hcsE : upTo (cF L) n n = cs := by rw [HCS.out, ← HN.out]
       rw [hcsE] at ho
       have hnd : spT (selP g.tiers true (fun i => vl g.tiers i * cs.getD i 0) n) = spT (ndL g.tiers cs) := by unfold ndL; rw [HGN.out]
       rw [hnd]
       have HO := Lib.hid ho
       have HF := Lib.hid hf
       generalize spT (ndL g.tiers cs) = S at *
       clear ho hf hcsE hnd hgr hFw
       go_wp2_with fail
       go_meet
       exact ⟨rfl, HO.out, HF.out⟩
  case rest =>
    obtain ⟨rfl, ho, hf⟩ := hcut
    obtain ⟨wo, rfl⟩ : ∃ x : World, x = wc := ⟨_, rfl⟩
    have hgr := HG8.out.fr hf (by simp; omega)
    have hrow := HSET8.out.fr hf (by simp; omega)
    have q0 := hrow.cell 0 _ rfl
    have q1 := hrow.cell 1 _ rfl
    have q2 := hrow.cell 2 _ rfl
    have i0 := hf.cell_some HI0.out (by simp; omega)
    have hF4 : Fr [] x4 wo := HF48.out.trans' hf (by intro i hi; simp at hi; right; omega)
    have hFw : Fr [] w wo := HF8.out.trans' hf (by intro i hi; simp at hi; right; omega)
    have oS := HOS8.out.fr hf (fun k hk => by have := HBLK.out k hk; simp; omega)
    have hE0 := pl38_aw HCHE.out HGT.out hm5 a0' (by omega) b0' (by omega) HCL.out (fun i hi => by rw [HCA.out i (by have := HCL.out; omega)]; have := HCB.out i; omega)
    have hAF := (awE_facts hE0).2.1
    rw [← HN.out] at hE0 hAF
    have hAW := award_any g a (.slice (some ⟨gl, 0, none⟩) n n) (.slice aS n cS) cs (List.replicate n 0) b 0 wo (HOK4.out.fr hF4) ho.rd oS.rd
    unfold AwPost at hAW
    have k1 : ∀ v, awV1 g a cs (List.replicate n 0) b 0 v = .agg #[.int .i64 a, .int .i64 (fuA g a), .int .i64 (alR g a cs b), v] := fun v => by unfold awV1; rw [if_pos hE0]
    have k2 : ∀ vC vE vP vN, awV2 g a cs (List.replicate n 0) b 0 vC vE vP vN = .agg #[vC, vE, vP, .int .i64 (awB g a cs (List.replicate n 0) b 0), .int .i64 (awD g a cs b), vN, .int .i64 (awR g a cs (List.replicate n 0) b 0), .int .i64 (awN g a cs (List.replicate n 0) b 0)] := fun vC vE vP vN => by unfold awV2; rw [if_pos hE0]
    have k3 : ∀ l, awZ g a cs (List.replicate n 0) b 0 l = l := fun l => by unfold awZ; rw [if_pos hE0]
    simp only [k1, k2, k3, hE0] at hAW
    have hA : fuA g a = a * 6000 / 10000 := by unfold fuA; rw [if_pos ⟨HCHE.out, inR_yes a0' (by omega)⟩, HGP.out]
    have hea := fun i (hi : i < n) => hAF.each (i := i) (by rw [HGN.out]; exact hi) (E := (eaL g (awF g a cs (List.replicate n 0) b 0) cs g.tiers.length).getD i 0) (eaL_at (by rw [HGN.out]; exact hi))
    rw [HGR.out] at hea
    have hel : (eaL g (awF g a cs (List.replicate n 0) b 0) cs g.tiers.length).length = n := by rw [eaL_len, HGN.out]
    generalize hEL : eaL g (awF g a cs (List.replicate n 0) b 0) cs g.tiers.length = EL at *
    rw [hA] at hAW hea
    generalize alR g a cs b = R1 at *
    generalize awB g a cs (List.replicate n 0) b 0 = R2 at *
    generalize awD g a cs b = R3 at *
    generalize awR g a cs (List.replicate n 0) b 0 = R4 at *
    generalize awN g a cs (List.replicate n 0) b 0 = R5 at *
    obtain ⟨A, hAA⟩ : ∃ A, A = a * 6000 / 10000 := ⟨_, rfl⟩
    have hA0 : 0 ≤ A := by omega
    have hA1 : A ≤ 4294967296 := by omega
    have m1 : (a * 6000).tdiv 10000 = A := by rw [Int.tdiv_eq_ediv_of_nonneg (by omega), hAA]
    have e3 : (A != A) = false := by simp
    have e4 : (A != a * 6000 / 10000) = false := by rw [← hAA]; simp
    rw [← hAA] at hAW hea
    have HAW := Lib.hid hAW
    have HEA := Lib.hid hea
    have HEL := Lib.hid hel
    have HO := Lib.hid ho
    have HFw := Lib.hid hFw
    have HF4 := Lib.hid hF4
    generalize spT (ndL g.tiers cs) = S at *
    clear hAW hea hel hEL hAF hE0 k1 k2 k3 hA ho hf hFw hF4 oS hrow hAA
    go_wp2_with (refine load_game rfl (.tmp 7) rfl _ rfl g hgr ?_)
    refine HAW.out.mono ?_
    rintro e x9 ⟨vT, vC, vE, vP, vN, rfl, oT, oC, oE, oP, oN, f9⟩
    obtain ⟨aT, nT, cT, rfl⟩ := oT.sl
    obtain ⟨aC, nC, cC, rfl⟩ := oC.sl
    obtain ⟨aP, nP, cP, rfl⟩ := oP.sl
    obtain ⟨aN, nN, cN, rfl⟩ := oN.sl
    obtain ⟨aE, cE, rfl, hE1, hE2⟩ := oE.any
    rw [HEL.out] at hE1 ⊢
    have hrE := oE.rd
    rw [HEL.out] at hrE
    have ho9 := HO.out.fr f9 (by simp)
    have hg9 := hgr.fr f9 (by simp)
    have i0 := f9.cell_some i0 (by simp)
    have q1 := f9.cell_some q1 (by simp)
    have F9 := HFw.out.trans f9
    have F49 := HF4.out.trans f9
    clear q0 q2 oT oC oP oN oE hgr f9 HAW
    go_upto_region 17 with (fail)
    have e10 : Fr [] x9 ((x9.alloc (.cells #[.int .i64 a, .int .i64 A, .int .i64 R1, .slice aT nT cT] 45)).alloc (.cells #[.slice aC nC cC, .slice aE n cE, .slice aP nP cP, .int .i64 R2, .int .i64 R3, .slice aN nN cN, .int .i64 R4, .int .i64 R5] 60)) := ((Fr.refl [] x9).alloc _).alloc _
    have hrp : RowAt ((x9.alloc (.cells #[.int .i64 a, .int .i64 A, .int .i64 R1, .slice aT nT cT] 45)).alloc (.cells #[.slice aC nC cC, .slice aE n cE, .slice aP nP cP, .int .i64 R2, .int .i64 R3, .slice aN nN cN, .int .i64 R4, .int .i64 R5] 60)) x9.heap.size 45 [.int .i64 a, .int .i64 A, .int .i64 R1, .slice aT nT cT] := (RowAt.new rfl rfl).fr ((Fr.refl [] _).alloc _) (by simp)
    have hra : RowAt ((x9.alloc (.cells #[.int .i64 a, .int .i64 A, .int .i64 R1, .slice aT nT cT] 45)).alloc (.cells #[.slice aC nC cC, .slice aE n cE, .slice aP nP cP, .int .i64 R2, .int .i64 R3, .slice aN nN cN, .int .i64 R4, .int .i64 R5] 60)) (x9.heap.size + 1) 60 [.slice aC nC cC, .slice aE n cE, .slice aP nP cP, .int .i64 R2, .int .i64 R3, .slice aN nN cN, .int .i64 R4, .int .i64 R5] := RowAt.new (by simp) rfl
    generalize (x9.alloc _).alloc _ = x10 at *
    have p1 := hrp.cell 1 _ rfl
    have a1 := hra.cell 1 _ rfl
    have i0 := e10.cell_some i0 (by simp)
    have q1 := e10.cell_some q1 (by simp)
    have ho10 := ho9.fr e10 (by simp)
    have hg10 := hg9.fr e10 (by simp)
    have hrE10 := hrE.below e10
    have F10 := F9.trans e10
    have F410 := F49.trans e10
    generalize x9.heap.size = bP at *
    clear hrp hra hrE ho9 hg9 F9 F49 e10
    have en : ((n : Int) != (n : Int)) = false := by simp
    go_upto_region 19 with (fail)
    have c21 := H21.out _ hg10
    have HG10 := Lib.hid hg10
    have HO10 := Lib.hid ho10
    have HE10 := Lib.hid hrE10
    have HF10 := Lib.hid F10
    have HF410 := Lib.hid F410
    have HP1 := Lib.hid p1
    have HA1 := Lib.hid a1
    have HQ1 := Lib.hid q1
    clear hg10 ho10 hrE10 F10 F410 p1 a1 q1 i0 e3 e4 m1 en
    go_wp2_with fail
    go_loopw [109] (fun j wr => ∃ k : Nat, k ≤ n ∧ j = .int .i64 k ∧ Fr [] x10 wr) (fun j _ => n - (intOf j).toNat)
    case atStart => exact ⟨0, by omega, rfl, Fr.refl _ _⟩
    case round =>
      obtain ⟨k, hk, rfl, hf⟩ := hrel
      by_cases hlt : k < n
      · have hkn : (k : Int) < (n : Int) := by omega
        obtain ⟨t, ht⟩ : ∃ t, g.tiers[k]? = some t := ⟨_, List.getElem?_eq_getElem (by rw [HGN.out]; exact hlt)⟩
        obtain ⟨bt, ot, hta, hct⟩ := RdF.at (f := Ti.cells) HOK4.out.tiers.rd ht
        have hF4 := HF410.out.trans hf
        have t0 := hF4.cell_some (hct 0 _ rfl) (by simp)
        have t1 := hF4.cell_some (hct 1 _ rfl) (by simp)
        have t2 := hF4.cell_some (hct 2 _ rfl) (by simp)
        have t3 := hF4.cell_some (hct 3 _ rfl) (by simp)
        have t4 := hF4.cell_some (hct 4 _ rfl) (by simp)
        have t5 := hF4.cell_some (hct 5 _ rfl) (by simp)
        rw [Nat.add_zero] at t0
        have hkv := kd_of ht
        obtain ⟨tm, tb, te, to_, tk, tv⟩ := t
        simp only at t0 t1 t2 t3 t4 t5 hkv
        obtain ⟨hE0, hEV, hE50, hEZ⟩ := HEA.out k hlt
        rw [hkv.1] at hEV hE50
        rw [hkv.2] at hEV
        obtain ⟨_, _, hh, _, _, rE⟩ := HE10.out
        simp only [Value.slice.injEq] at hh
        obtain ⟨hh1, hh2, hh3⟩ := hh
        obtain ⟨gE, oE, hae, hcE⟩ := rE k (by rw [HEL.out]; exact hlt)
        rw [← hh1] at hae
        subst hae
        have hcl := HO10.out.cell k (by rw [HCL.out, ← HN.out]; exact hlt)
        have hfa : Fr [] x10 (wr.alloc (.cells #[.int .i64 tm, .int .i64 tb, .int .i64 te, .int .i64 to_, .int .i64 tk, .int .i64 tv] 40)) := hf.alloc _
        have zE := hfa.cell_some hcE (by simp)
        have zl := hfa.cell_some hcl (by simp)
        have zp := hfa.cell_some HP1.out (by simp)
        have za := hfa.cell_some HA1.out (by simp)
        have zq := hfa.cell_some HQ1.out (by simp)
        have n4 : (wr.alloc (.cells #[.int .i64 tm, .int .i64 tb, .int .i64 te, .int .i64 to_, .int .i64 tk, .int .i64 tv] 40)).cell? ⟨wr.heap.size, 4, none⟩ = some (.int .i64 tk) := new_cell rfl rfl
        have n5 : (wr.alloc (.cells #[.int .i64 tm, .int .i64 tb, .int .i64 te, .int .i64 to_, .int .i64 tk, .int .i64 tv] 40)).cell? ⟨wr.heap.size, 5, none⟩ = some (.int .i64 tv) := new_cell rfl rfl
        have hcb := HCB.out k
        rw [← HCA.out k (by have := HN.out; omega)] at hcb
        have HFA := Lib.hid hfa
        clear hct ht hkv hcE hcl hfa hF4 hf hh1 hh2 hh3 rE c21
        rw [hta]
        clear hta
        generalize EL.getD k 0 = E at *
        generalize cs.getD k 0 = y at *
        have dm : (E.tmod 50 != 0) = false ∨ tk = 1 := by
          by_cases h1 : tk = 1
          · exact .inr h1
          · left
            rw [Int.tmod_eq_emod_of_nonneg hE0, hE50 h1]; simp
        have dy : (0 < y) ∨ (y = 0) := by omega
        by_cases h1 : tk = 1
        · obtain ⟨v1, v2⟩ := hEV h1
          have d1 : (tk == 1) = true := by simpa using h1
          have d2 : (tk != 1) = false := by simpa using h1
          have d3 : decide (tv < E) = false := by simp; omega
          rcases dy with hy | hy
          · have d4 : decide (0 < y) = true := by simpa using hy
            have d5 : (y == 0) = false := by simp; omega
            by_cases hS : S ≤ A + b
            · have d6 : decide (S ≤ A + b) = true := by simpa using hS
              have d7 : (E != tv) = false := by simp; exact v2 hy hS
              clear hEV hE50 hEZ dm h1 v1 v2 hy hS hE0 hcb
              go_wp2_with fail
              generalize wr.alloc _ = wy at *
              generalize wr.heap.size = hb at *
              have hq1 : IntKind.i64.wrap (A + b) = A + b := IntWalk.i64_in _ (by omega)
              refine wp_region_quiet_lit (by kernel_rfl) (by kernel_rfl) ?_
              dsimp only [List.append]
              repeat (go_big_quiet_step (fail))
              refine wpQuiet_nil ?_
              intro _ hw'
              obtain ⟨nq, hw''⟩ := hw'
              subst hw''
              clear hq1 zE zl zp za zq n4 n5
              go_wp2_with fail
              go_roundw
              case rel => exact ⟨k + 1, by omega, by go_num, HFA.out.drewN nq⟩
              case measure => simp [intOf]; omega
            · have d6 : decide (S ≤ A + b) = false := by simpa using hS
              clear hEV hE50 hEZ dm h1 v1 v2 hy hS hE0 hcb
              go_wp2_with fail
              generalize wr.alloc _ = wy at *
              generalize wr.heap.size = hb at *
              have hq1 : IntKind.i64.wrap (A + b) = A + b := IntWalk.i64_in _ (by omega)
              refine wp_region_quiet_lit (by kernel_rfl) (by kernel_rfl) ?_
              dsimp only [List.append]
              repeat (go_big_quiet_step (fail))
              refine wpQuiet_nil ?_
              intro _ hw'
              obtain ⟨nq, hw''⟩ := hw'
              subst hw''
              clear hq1 zE zl zp za zq n4 n5
              go_wp2_with fail
              go_roundw
              case rel => exact ⟨k + 1, by omega, by go_num, HFA.out.drewN nq⟩
              case measure => simp [intOf]; omega
          · have d4 : decide (0 < y) = false := by simp; omega
            have d5 : (y == 0) = true := by simpa using hy
            have d6 : (E != 0) = false := by simp; exact hEZ hy
            clear hEV hE50 hEZ dm h1 v1 v2 hy hE0 hcb
            go_wp2_with fail
            generalize wr.alloc _ = wy at *
            generalize wr.heap.size = hb at *
            have hq1 : IntKind.i64.wrap (A + b) = A + b := IntWalk.i64_in _ (by omega)
            refine wp_region_quiet_lit (by kernel_rfl) (by kernel_rfl) ?_
            dsimp only [List.append]
            repeat (go_big_quiet_step (fail))
            refine wpQuiet_nil ?_
            intro _ hw'
            obtain ⟨nq, hw''⟩ := hw'
            subst hw''
            clear hq1 zE zl zp za zq n4 n5
            go_wp2_with fail
            go_roundw
            case rel => exact ⟨k + 1, by omega, by go_num, HFA.out.drewN nq⟩
            case measure => simp [intOf]; omega
        · have d1 : (tk == 1) = false := by simpa using h1
          have d2 : (tk != 1) = true := by simpa using h1
          have d3 : (E.tmod 50 != 0) = false := by
            rcases dm with h | h
            · exact h
            · exact absurd h h1
          have d4 : (E % 50 != 0) = false := by rw [hE50 h1]; simp
          rcases dy with hy | hy
          · have d5 : (y == 0) = false := by simp; omega
            clear hEV hE50 hEZ dm h1 hy hcb
            go_wp2_with fail
            generalize wr.alloc _ = wy at *
            generalize wr.heap.size = hb at *
            have hq1 : IntKind.i64.wrap (A + b) = A + b := IntWalk.i64_in _ (by omega)
            refine wp_region_quiet_lit (by kernel_rfl) (by kernel_rfl) ?_
            dsimp only [List.append]
            repeat (go_big_quiet_step (fail))
            refine wpQuiet_nil ?_
            intro _ hw'
            obtain ⟨nq, hw''⟩ := hw'
            subst hw''
            clear hq1 zE zl zp za zq n4 n5
            go_wp2_with fail
            go_roundw
            case rel => exact ⟨k + 1, by omega, by go_num, HFA.out.drewN nq⟩
            case measure => simp [intOf]; omega
          · have d5 : (y == 0) = true := by simpa using hy
            have d6 : (E != 0) = false := by simp; exact hEZ hy
            clear hEV hE50 hEZ dm h1 hy hcb
            go_wp2_with fail
            generalize wr.alloc _ = wy at *
            generalize wr.heap.size = hb at *
            have hq1 : IntKind.i64.wrap (A + b) = A + b := IntWalk.i64_in _ (by omega)
            refine wp_region_quiet_lit (by kernel_rfl) (by kernel_rfl) ?_
            dsimp only [List.append]
            repeat (go_big_quiet_step (fail))
            refine wpQuiet_nil ?_
            intro _ hw'
            obtain ⟨nq, hw''⟩ := hw'
            subst hw''
            clear hq1 zE zl zp za zq n4 n5
            go_wp2_with fail
            go_roundw
            case rel => exact ⟨k + 1, by omega, by go_num, HFA.out.drewN nq⟩
            case measure => simp [intOf]; omega
      · obtain rfl : n = k := by omega
        have HF11 := Lib.hid (HF10.out.trans hf)
        clear hf c21
        go_wp2_with fail
        refine (works_any _).mono ?_
        rintro e x12 ⟨rfl, f12⟩
        have HF12 := Lib.hid (HF11.out.trans f12)
        clear f12
        go_wp2_with fail
        go_ret
        exact ⟨rfl, HF12.out.below⟩
theorem own : ownKnob Try.prog.godebug = none := by kernel_rfl
theorem laidOut : laidOutB Try.prog = true := by kernel_rfl
set_option maxRecDepth 100000 in
theorem lifted (os : Os) (started : os.Started) (H : Type) (enc : TypeId × Value → H) :
    ReturnsInHanded {} Try.checked os 13 .any (Rows.prizeRoundsSpec.pre6 enc Try.prog Try.f13 Rows.prizeRoundsRow.domain false) (Rows.prizeRoundsSpec.post enc Try.prog Try.f13 false true false false) := by
  refine returnsInHanded_of_change (C := Try.checked) own started (by kernel_rfl) Try.func13
    (ChangeSpec.witness6 (enc := enc) (C := Try.checked) false ⟨#[], #[.slice none 0 0, .slice none 0 0, .agg #[.int .u32 0, .int .u32 0, .int .u32 0]], []⟩ 8 (by kernel_rfl) (by kernel_rfl) (by kernel_rfl) (by kernel_rfl)) ?_
  intro W base args ds gs before hval0 hW hcnd _
  have hval : ∀ (j : Nat) t v, Try.f13.params[j]? = some t → args[j]? = some v → Value.okWide Try.prog W .any base t v := hval0
  have hW' := hW
  obtain ⟨p, q, hA0, hV, rfl, hfz, hnd⟩ := hW
  have hA : DataW.TrodAll enc Try.prog W 0 (fun _ => true) true Try.f13.params.toList args.toList ds p := hA0
  rw [Try.params13] at hA hval
  obtain ⟨v0, vs0, d0, ds0, p0, q0, hargs, rfl, rfl, h0, r0⟩ := trodAll_cons hA
  obtain ⟨v1, vs1, d1, ds1, p1, q1, rfl, rfl, rfl, h1, r1⟩ := trodAll_cons r0
  obtain ⟨v2, vs2, d2, ds2, p2, q2, rfl, rfl, rfl, h2, r2⟩ := trodAll_cons r1
  obtain ⟨rfl, rfl, rfl⟩ := trodAll_nil r2
  obtain rfl : args = #[v0, v1, v2] := by cases args; simp_all
  obtain ⟨rfl, rfl⟩ := trodVars_none hV
  have k0 := h0
  have lt0 : ∀ x ∈ p0, x.block < W.heap.size := by obtain ⟨m, hm⟩ := k0; exact DataW.trod_lt m _ _ _ hm
  obtain ⟨T0, hr0, _⟩ := open_tiers (hval 0 23 v0 rfl rfl) h0
  have k1 := h1
  have lt1 : ∀ x ∈ p1, x.block < W.heap.size := by obtain ⟨m, hm⟩ := k1; exact DataW.trod_lt m _ _ _ hm
  obtain ⟨l1, hr1, hq1⟩ := open_u8s (hval 1 54 v1 rfl rfl) h1
  have k2 := h2
  have lt2 : ∀ x ∈ p2, x.block < W.heap.size := by obtain ⟨m, hm⟩ := k2; exact DataW.trod_lt m _ _ _ hm
  obtain ⟨a2, b2, c2, hv2, hw2⟩ := open_u32x3 (hval 2 56 v2 rfl rfl) h2
  clear hA0 hval0
  refine (walk v0 T0 v1 l1 v2 a2 b2 c2 W hr0 hr1 hq1 hv2 hw2).mono fun e W' ⟨he, bel⟩ => ?_
  subst he
  exact ⟨_, rfl, _, _, _, [], _, [], hW', trodAll_mk1 (shut_bool Try.underlying4 _), (trodAll_cons_mk (Below.trod laidOut (by kernel_rfl) (of_decide_eq_true (by kernel_rfl)) k0 bel lt0) (trodAll_cons_mk (Below.trod laidOut (by kernel_rfl) (of_decide_eq_true (by kernel_rfl)) k1 bel lt1) (trodAll_cons_mk (Below.trod laidOut (by kernel_rfl) (of_decide_eq_true (by kernel_rfl)) k2 bel lt2) trodAll_mk0))), rfl, bel.frame _, fun h => by cases h⟩
theorem over : Rows.prizeRoundsRow.holds Try.pinned (OpenSpec.ofChange Rows.prizeRoundsSpec) :=
  OpenClaim.holds_of_wide 13 Try.f13 rfl rfl rfl rfl rfl rfl rfl ⟨rfl, rfl, rfl, rfl, rfl⟩ rfl rfl rfl rfl rfl (by kernel_rfl) Try.func13 (by kernel_rfl)
    (of_decide_eq_true (by kernel_rfl)) (by unfold Func.isWrapper; first | (rw [if_pos (by decide +kernel)]; kernel_rfl) | (rw [if_neg (by decide +kernel)]; exact ⟨rfl, rfl⟩))
    (fun os started H enc _ => lifted os started H enc)
/-- THE STATEMENT -/
theorem proved : Rows.PrizeRoundsSaid := over
end Go.Proofs.Ytdinjekpcgndmaa.prizeRounds
