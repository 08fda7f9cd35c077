/-
  PrizeMust: for every number of rolls, sales and winners the statement returns true: a jackpot that must be won is paid in the draw that Rolls names, to the winners of a later tier. No conditions.
-/
import Derived.Test.YtdinjekpcgndmaaPrizeBase
import Derived.Test.YtdinjekpcgndmaaIntArg
import Derived.IntWalk
import Derived.ProofKit
import Derived.OpenShut
import Derived.ShutString
import Derived.ChangeOld
namespace Go.Proofs.Ytdinjekpcgndmaa.prizeMust
open Go.ChangeShapes Go.WideShapes Go.ChangeAt Go.RowKit
open Go.ChangeMaps (open_string shut_string)
set_option linter.unusedVariables false
attribute [local go_sem ↓] Go.wp_at_zero Go.wp_at_succ
theorem gm_set_rolls {w : World} {b : Nat} {g : Gm} (h : GmAt w b g) (r : Int) : GmAt (w.setCell ⟨b, 19, none⟩ (.int .i64 r)) b (withR g r) := by
  unfold GmAt at h ⊢
  simp [World.setCell, Array.getElem?_modify, h, Gm.cells, withR]
theorem withR_ok {w : World} {g : Gm} (h : g.Ok w) {r : Int} (hr : W64 r) : (withR g r).Ok w :=
  ⟨h.name, h.kind, h.price, h.main, h.of_, h.bonus, h.bonusof, h.extra, h.draws, h.system, h.days, h.at_, h.close, h.cancel, h.expiry, h.pool, h.reserve, h.round, h.cap, hr, h.addons, h.tiers⟩
theorem own2_cell {w : World} {base : Nat} {v : Value} {l : List Int} (h : OwnI w base 3 v l) (hl : l.length = 2) : ∃ g c, v = .slice (some ⟨g, 0, none⟩) 2 c ∧ w.cell? ⟨g, 1, none⟩ = some (.int .i64 (l.getD 1 0)) := by
  obtain ⟨g, c, hv, _, hg, _, _⟩ := h.form (by omega)
  subst hv
  have := h.cell 1 (by omega)
  exact ⟨g, c, by rw [hl], this⟩
/-- what Award leaves in the draws -/
theorem ms_award {a : Option Addr} {c : Nat} {r S n i : Int} (F : MsF a c r S n i) (v2 vt : Value) (w : World) (hok : (msG a c r).Ok w) (h2 : RdI w v2 [0, n]) (h3 : RdI w vt [S * (i - 1), 0]) :
    Calls Try.prog 38 #[(msG a c r).val, .int .i64 S, v2, .agg #[vt, .int .i64 0, .int .i64 (i - 1)]] w fun e w' => ∃ vT vC vE vP vN, e = .returned (.tuple #[.agg #[.int .i64 S, .int .i64 S, .int .i64 0, vT], .agg #[vC, vE, vP, .int .i64 (if r ≤ i then S * i % n else 0), .int .i64 0, vN, .int .i64 (if r ≤ i then S * i % n else 0), .int .i64 (if r ≤ i then 0 else i)], .int .i64 0]) ∧
      (∃ a n c, vT = .slice a n c) ∧ (∃ a n c, vC = .slice a n c) ∧ (∃ a n c, vE = .slice a n c) ∧ (∃ g c, vP = .slice (some ⟨g, 0, none⟩) 2 c ∧ w'.cell? ⟨g, 1, none⟩ = some (.int .i64 (if r ≤ i then S * i / n * n else 0))) ∧ OwnI w' w.heap.size 3 vN (if r ≤ i then [0, 0] else [S * i, 0]) ∧ Fr [] w w' := by
  refine (award_any (msG a c r) S v2 vt [0, n] [S * (i - 1), 0] 0 (i - 1) w hok h2 h3).mono ?_
  rintro e w' ⟨vT, vC, vE, vP, vN, rfl, oT, oC, oE, oP, oN, f⟩
  have hz : ∀ l, awZ (msG a c r) S [0, n] [S * (i - 1), 0] 0 (i - 1) l = l := fun l => by unfold awZ; rw [if_pos F.qe]
  rw [hz] at oT oC oE oP oN
  have e1 : awV1 (msG a c r) S [0, n] [S * (i - 1), 0] 0 (i - 1) vT = .agg #[.int .i64 S, .int .i64 S, .int .i64 0, vT] := by unfold awV1; rw [if_pos F.qe, F.qv, F.qd]
  have e2 : awV2 (msG a c r) S [0, n] [S * (i - 1), 0] 0 (i - 1) vC vE vP vN = .agg #[vC, vE, vP, .int .i64 (if r ≤ i then S * i % n else 0), .int .i64 0, vN, .int .i64 (if r ≤ i then S * i % n else 0), .int .i64 (if r ≤ i then 0 else i)] := by
    unfold awV2; rw [if_pos F.qe, F.qb, F.qdd, F.qrr, F.qn]
  refine ⟨vT, vC, vE, vP, vN, by rw [e1, e2, F.qe], oT.sl, oC.sl, oE.sl, ?_, ?_, f⟩
  · have hl := paL_len (msG a c r) (awF (msG a c r) S [0, n] [S * (i - 1), 0] 0 (i - 1)) [0, n] (msG a c r).tiers.length
    obtain ⟨g, k, hv, hc⟩ := own2_cell oP (by rw [hl]; rfl)
    exact ⟨g, k, hv, by rw [hc]; exact congrArg some (congrArg (Value.int .i64) F.qp)⟩
  · rw [F.qc] at oN
    exact oN
theorem ms_plain (w : World) : Calls Try.prog 36 #[.slice (some ⟨w.heap.size, 0, none⟩) 2 2, .int .i64 10000, .int .i64 0, .int .i64 1] (w.alloc (.cells #[.int .i64 0, .int .i64 0, .int .i64 0, .int .i64 0, .int .i64 3, .int .i64 1, .int .i64 0, .int .i64 0, .int .i64 0, .int .i64 0, .int .i64 2, .int .i64 0] 40)) fun e w' =>
    ∃ a c, e = .returned (pl38 a c 10000 0 1 msT).val ∧ (pl38 a c 10000 0 1 msT).Ok w' ∧ Fr [] (w.alloc (.cells #[.int .i64 0, .int .i64 0, .int .i64 0, .int .i64 0, .int .i64 3, .int .i64 1, .int .i64 0, .int .i64 0, .int .i64 0, .int .i64 0, .int .i64 2, .int .i64 0] 40)) w' := by
  obtain ⟨T, hT⟩ : ∃ T : List Ti, T = [⟨0, 0, 0, 0, 3, 1⟩, ⟨0, 0, 0, 0, 2, 0⟩] := ⟨_, rfl⟩
  have hr0 := rdf36_rows 6 Ti.cells (w := w) rfl T 40 2 (by rw [hT]; rfl) (by omega) (by intro x hx; rfl) #[.int .i64 0, .int .i64 0, .int .i64 0, .int .i64 0, .int .i64 3, .int .i64 1, .int .i64 0, .int .i64 0, .int .i64 0, .int .i64 0, .int .i64 2, .int .i64 0] (by rw [hT]; rfl)
  have hl : T.length = 2 := by rw [hT]; rfl
  have hTo : ∀ x ∈ T, x.Ok := by
    intro y hy
    rw [hT] at hy
    simp at hy
    rcases hy with rfl | rfl <;> exact ⟨rfl, rfl, rfl, rfl, rfl, rfl⟩
  have hm : plT T (min T.length 6) = msT := by rw [hT]; rfl
  have hP := plain38_any (.slice (some ⟨w.heap.size, 0, none⟩) 2 2) T 10000 0 1 _ (some ⟨w.heap.size, 0, none⟩) 2 (by rw [hl]) (by rw [hl]; exact hr0) hTo rfl rfl rfl
  unfold Pl38Post at hP
  rw [hm] at hP
  exact hP
set_option maxRecDepth 20000 in
set_option maxHeartbeats 4000000 in
theorem walk (r S n : Int) (w : World) (w0 : (Lit.int .u8 r).wf = true) (w1 : (Lit.int .u16 S).wf = true) (w2 : (Lit.int .u8 n).wf = true) :
    Calls Try.prog 15 #[.int .u8 r, .int .u16 S, .int .u8 n] w fun e w' => e = .returned (.bool true) ∧ Below w.heap.size w w' := by
  simp [Lit.wf, IntKind.min, IntKind.max, IntKind.signed, IntKind.bits] at w0 w1 w2
  obtain ⟨r0, r1⟩ := w0
  obtain ⟨s0, s1⟩ := w1
  obtain ⟨n0, n1⟩ := w2
  have m0 : 0 ≤ r % 8 := by omega
  have m1 : r % 8 ≤ 7 := by omega
  have hMF := fun (a : Option Addr) (c : Nat) (i : Int) (h1 : 1 ≤ i) (h2 : i ≤ r % 8 + 1) => @msF a c (r % 8 + 1) S (n + 1) i (by omega) (by omega) s0 s1 (by omega) (by omega) h1 h2
  have hchk := fun (a : Option Addr) (c : Nat) => ms_chk a c (show 1 ≤ r % 8 + 1 by omega) (by omega)
  obtain ⟨r8, hr8⟩ : ∃ x, r % 8 = x := ⟨_, rfl⟩
  rw [hr8] at hMF hchk m0 m1
  have HMF := Lib.hid hMF
  have HCHK := Lib.hid hchk
  clear hMF hchk
  go_enter Try.func15, Try.ntmps15
  go_wp2_with fail
  refine (ms_plain w).mono ?_
  rintro e x1 ⟨a, c, rfl, hok, f1⟩
  have f1' : Fr [] w x1 := ((Fr.refl [] w).alloc _).trans f1
  go_upto_region 3 with (refine store_game rfl (.tmp 8) (.tmp 26) rfl x1.heap.size rfl _ (heap_alloc_new _ _) rfl (pl38 a c 10000 0 1 msT) rfl ?_; intro x2 hg2 hz2 hf2)
  have f2 : Fr [] x1 x2 := ((Fr.refl [] x1).alloc _).trans' hf2 (by intro i hi; simp at hi; right; omega)
  have f3 : Fr [] x1 (x2.setCell ⟨x1.heap.size, 19, none⟩ (.int .i64 (r8 + 1))) := f2.setCell (.inr (Nat.le_refl _)) _
  have hb8 : w.heap.size ≤ x1.heap.size := f1'.size
  have c19 := hg2.cell 19 _ rfl
  simp only [pl38] at c19
  have z19 := gm_frozen hg2 19
  have hg3 := gm_set_rolls hg2 (r8 + 1)
  have hok3 : (msG a c (r8 + 1)).Ok (x2.setCell ⟨x1.heap.size, 19, none⟩ (.int .i64 (r8 + 1))) := withR_ok (hok.fr f3) (by unfold W64; simp [Lit.wf, IntKind.min, IntKind.max, IntKind.signed, IntKind.bits]; omega)
  change GmAt _ _ (msG a c (r8 + 1)) at hg3
  generalize x1.heap.size = b8 at *
  have HF3 := Lib.hid (f1'.trans f3)
  have HG3 := Lib.hid hg3
  have HOK3 := Lib.hid hok3
  clear hok f1 f1' f2 f3 hf2 hz2 hg2 hg3 hok3
  go_upto_region 4 with (fail)
  generalize World.setCell _ _ _ = x3 at *
  clear c19 z19
  have hg3 := HG3.out
  go_wp2_with (refine load_game rfl (.tmp 8) rfl _ rfl (msG a c (r8 + 1)) hg3 ?_)
  refine (start_any _ _ HOK3.out).mono ?_
  rintro e x4 ⟨vt, rfl, ot, f4⟩
  have hsl : stL (msG a c (r8 + 1)) = [0, 0] := by unfold stL; rw [if_pos (HCHK.out a c)]; rfl
  rw [hsl] at ot
  obtain ⟨at_, nt, ct, rfl⟩ := ot.sl
  have hg4 := hg3.fr f4 (by simp)
  have HF4 := Lib.hid (HF3.out.trans f4)
  have HOK4 := Lib.hid (HOK3.out.fr f4)
  have HG4 := Lib.hid hg4
  clear hg3 HG3 HOK3 HF3 f4 hsl
  go_upto_region 5 with (fail)
  have hrc : RowAt (x4.alloc (.cells #[.slice at_ nt ct, .int .i64 0, .int .i64 0] 43)) x4.heap.size 43 [.slice at_ nt ct, .int .i64 0, .int .i64 0] := RowAt.new rfl rfl
  have e5 : Fr [] x4 (x4.alloc (.cells #[.slice at_ nt ct, .int .i64 0, .int .i64 0] 43)) := (Fr.refl [] x4).alloc _
  have hr5 := ot.rd.below e5
  have hb89 : b8 < x4.heap.size := hg4.lt
  generalize x4.alloc (.cells #[.slice at_ nt ct, .int .i64 0, .int .i64 0] 43) = x5 at *
  obtain ⟨b9, hb9e⟩ : ∃ b, b = x4.heap.size := ⟨_, rfl⟩
  rw [← hb9e] at hrc hb89 ⊢
  have HB9 := Lib.hid hb9e
  have HRC := Lib.hid hrc
  have HE5 := Lib.hid e5
  have HR5 := Lib.hid hr5
  clear hrc e5 hr5 hg4 ot hb9e
  go_wp2_with fail
  go_loopw [11] (fun i wr => ∃ (k : Nat) (vt : Value), 1 ≤ k ∧ (k : Int) ≤ r8 + 1 ∧ i = .int .i64 k ∧ RowAt wr b9 43 [vt, .int .i64 0, .int .i64 ((k : Int) - 1)] ∧ (∃ a n c, vt = .slice a n c) ∧ RdI wr vt [S * ((k : Int) - 1), 0] ∧ Fr [] x4 wr) (fun i _ => (r8 + 1 - intOf i).toNat)
  case atStart => exact ⟨1, _, by omega, by omega, rfl, HRC.out, ⟨_, _, _, rfl⟩, by simpa using HR5.out, HE5.out⟩
  case round =>
    obtain ⟨k, vt, hk1, hk2, rfl, hrc, ⟨av, nv, cv, rfl⟩, hrv, hF⟩ := hrel
    have hg := HG4.out.fr hF (by simp)
    have hok := HOK4.out.fr hF
    have F := HMF.out a c (k : Int) (by omega) hk2
    have hAW := fun v2 w' (h : Fr [] wr w') (h2 : RdI w' v2 [0, n + 1]) => ms_award F v2 (.slice av nv cv) w' (hok.fr h) h2 (hrv.below h)
    have HAW := Lib.hid hAW
    have c0 := hrc.cell 0 _ rfl
    have c1 := hrc.cell 1 _ rfl
    have c2 := hrc.cell 2 _ rfl
    have HRC := Lib.hid hrc
    have HFW := Lib.hid hF
    have HOKW := Lib.hid hok
    have HGW := Lib.hid hg
    clear HR5 HE5 F hAW hrv hrc hF hok
    have ea : Fr [] wr (wr.alloc (.cells #[.int .i64 0, .int .i64 (n + 1)] 3)) := (Fr.refl [] wr).alloc _
    have hra2 : RdI (wr.alloc (.cells #[.int .i64 0, .int .i64 (n + 1)] 3)) (.slice (some ⟨wr.heap.size, 0, none⟩) 2 2) [0, n + 1] := rdi_mk rfl [0, n + 1] 3 2 rfl (by omega)
    have d0 := ea.cell_some c0 (by simp)
    have d1 := ea.cell_some c1 (by simp)
    have d2 := ea.cell_some c2 (by simp)
    have HAW2 := Lib.hid (HAW.out _ _ ea hra2)
    have HEA := Lib.hid ea
    have HNB := Lib.hid hb89
    clear HAW hra2 ea c0 c1 c2
    by_cases hlt : (k : Int) < r8 + 1
    · have e1 : decide ((k : Int) < r8 + 1) = true := by simpa using hlt
      have hle : ¬ r8 + 1 ≤ (k : Int) := by omega
      have HLE := Lib.hid hle
      clear hlt hle
      go_wp2_with (refine load_game rfl (.tmp 8) rfl _ rfl (msG a c (r8 + 1)) hg ?_)
      refine HAW2.out.mono ?_
      rintro e y5 ⟨vT, vC, vE, vP, vN, rfl, ⟨aT, nT, cT, rfl⟩, ⟨aC, nC, cC, rfl⟩, ⟨aE, nE, cE, rfl⟩, ⟨gP, cP, rfl, qP⟩, oN, f5⟩
      have hle2 : ¬ r8 + 1 ≤ (k : Int) := by have := HLE.out; omega
      rw [if_neg hle2] at qP oN
      rw [if_neg hle2, if_neg hle2]
      clear hle2
      obtain ⟨aN, cN, rfl, hlN, _, _⟩ : ∃ aN cN, vN = .slice aN 2 cN ∧ 2 ≤ cN ∧ cN ≤ maxLen ∧ True := by
        obtain ⟨aN, cN, hv, h1, h2⟩ := oN.any
        exact ⟨aN, cN, hv, h1, h2, trivial⟩
      have hq9 : y5.heap.size + 1 ≠ b9 := by have := HRC.out.lt; have := HEA.out.size; have := f5.size; omega
      have hnb : ∀ q, (Value.slice aN 2 cN).ownBlock = some q → q ∉ [b9] := fun q hq => by have := (oN.block q hq).1; have := HRC.out.lt; have := HEA.out.size; simp; omega
      have HNB9 := Lib.hid hnb
      clear hnb
      have FW := HEA.out.trans f5
      have HC5 := Lib.hid (HRC.out.fr FW (by simp))
      have HF5' := Lib.hid (HFW.out.trans FW)
      clear d0 d1 d2 hg HGW HRC HFW HOKW HAW2 HEA FW f5
      go_upto_region 10 with (fail)
      have e6 : Fr [] y5 ((y5.alloc (.cells #[.int .i64 S, .int .i64 S, .int .i64 0, .slice aT nT cT] 45)).alloc (.cells #[.slice aC nC cC, .slice aE nE cE, .slice (some ⟨gP, 0, none⟩) 2 cP, .int .i64 0, .int .i64 0, .slice aN 2 cN, .int .i64 0, .int .i64 k] 60)) := ((Fr.refl [] y5).alloc _).alloc _
      have hra : RowAt ((y5.alloc (.cells #[.int .i64 S, .int .i64 S, .int .i64 0, .slice aT nT cT] 45)).alloc (.cells #[.slice aC nC cC, .slice aE nE cE, .slice (some ⟨gP, 0, none⟩) 2 cP, .int .i64 0, .int .i64 0, .slice aN 2 cN, .int .i64 0, .int .i64 k] 60)) (y5.heap.size + 1) 60 [.slice aC nC cC, .slice aE nE cE, .slice (some ⟨gP, 0, none⟩) 2 cP, .int .i64 0, .int .i64 0, .slice aN 2 cN, .int .i64 0, .int .i64 k] := RowAt.new (by simp) rfl
      generalize (y5.alloc _).alloc _ = y6 at *
      have hrN6 := oN.fr e6 (by simp)
      have hrc6 := HC5.out.fr e6 (by simp)
      have c0 := hrc6.cell 0 _ rfl
      have c1 := hrc6.cell 1 _ rfl
      have c2 := hrc6.cell 2 _ rfl
      have cf := fun i => hrc6.frozen i
      have a2 := hra.cell 2 _ rfl
      have a5 := hra.cell 5 _ rfl
      have a6 := hra.cell 6 _ rfl
      have a7 := hra.cell 7 _ rfl
      have qP6 := e6.cell_some qP (by simp)
      generalize y5.heap.size = bq at *
      have hset := ((hrc6.set 0 (.slice aN 2 cN)).set 1 (.int .i64 0)).set 2 (.int .i64 k)
      have fset : Fr [b9] y6 (((y6.setCell ⟨b9, 0, none⟩ (.slice aN 2 cN)).setCell ⟨b9, 1, none⟩ (.int .i64 0)).setCell ⟨b9, 2, none⟩ (.int .i64 k)) := (((Fr.refl [b9] _).setCell (.inl (by simp)) _).setCell (.inl (by simp)) _).setCell (.inl (by simp)) _
      have HSET := Lib.hid hset
      have HFS := Lib.hid fset
      have HF6 := Lib.hid (HF5'.out.trans e6)
      have HRN := Lib.hid hrN6
      clear oN hrc6 hra e6 HC5 HF5' hrN6 hset fset qP
      go_wp2_with fail
      go_roundw
      case rel =>
        refine ⟨k + 1, .slice aN 2 cN, by omega, by have := HLE.out; omega, by go_num, ?_, ⟨_, _, _, rfl⟩, ?_, HF6.out.trans' HFS.out (by intro i hi; simp at hi; right; have := HB9.out; omega)⟩
        · rw [show ((k + 1 : Nat) : Int) - 1 = (k : Int) by omega]; exact HSET.out
        · rw [show ((k + 1 : Nat) : Int) - 1 = (k : Int) by omega]
          exact (HRN.out.fr HFS.out HNB9.out).rd
      case measure => (have := HLE.out; simp [intOf]; omega)
    · have e1 : decide ((k : Int) < r8 + 1) = false := by simpa using hlt
      have hkr : (k : Int) = r8 + 1 := by omega
      have hle : r8 + 1 ≤ (k : Int) := by omega
      have HLE := Lib.hid hkr
      have HAW3 := HAW2.out
      rw [if_pos hle, if_pos hle, if_pos hle, if_pos hle, hkr] at HAW3
      simp only [Int.add_sub_cancel] at HAW3
      have HAW4 := Lib.hid HAW3
      have hd2 := d2
      rw [hkr] at hd2
      have p0 : 0 ≤ S * (r8 + 1) := Int.mul_nonneg s0 (by omega)
      have p1 : S * (r8 + 1) ≤ 65535 * 8 := Int.mul_le_mul s1 (by omega) (by omega) (by omega)
      have t1 : (S * (r8 + 1)).tdiv (n + 1) = S * (r8 + 1) / (n + 1) := Int.tdiv_eq_ediv_of_nonneg p0
      have t2 : (S * (r8 + 1)).tmod (n + 1) = S * (r8 + 1) % (n + 1) := Int.tmod_eq_emod_of_nonneg p0
      have q0 : 0 ≤ S * (r8 + 1) / (n + 1) := Int.ediv_nonneg p0 (by omega)
      have q1 : S * (r8 + 1) / (n + 1) ≤ S * (r8 + 1) := Int.ediv_le_self _ p0
      have q2 : S * (r8 + 1) / (n + 1) * (n + 1) ≤ S * (r8 + 1) := Int.ediv_mul_le _ (by omega)
      have q3 : 0 ≤ S * (r8 + 1) / (n + 1) * (n + 1) := Int.mul_nonneg q0 (by omega)
      have q4 := Int.emod_nonneg (S * (r8 + 1)) (show n + 1 ≠ 0 by omega)
      have q5 := Int.emod_lt_of_pos (S * (r8 + 1)) (show 0 < n + 1 by omega)
      have v1 : IntKind.i64.wrap (S * (r8 + 1) / (n + 1)) = S * (r8 + 1) / (n + 1) := IntWalk.i64_in _ (by omega)
      have v2 : IntKind.i64.wrap (S * (r8 + 1) / (n + 1) * (n + 1)) = S * (r8 + 1) / (n + 1) * (n + 1) := IntWalk.i64_in _ (by omega)
      have v3 : IntKind.i64.wrap (S * (r8 + 1) % (n + 1)) = S * (r8 + 1) % (n + 1) := IntWalk.i64_in _ (by omega)
      have e2 : (n + 1 == 0) = false := by simp; omega
      have e3 : ¬ n + 1 = 0 := by omega
      rw [hkr, Int.add_sub_cancel] at d2
      clear hle HAW3 hd2 hlt HAW2 hkr
      go_wp2_with (refine load_game rfl (.tmp 8) rfl _ rfl (msG a c (r8 + 1)) hg ?_)
      (with_reducible refine HAW4.out.mono ?_)
      rintro e y5 ⟨vT, vC, vE, vP, vN, rfl, ⟨aT, nT, cT, rfl⟩, ⟨aC, nC, cC, rfl⟩, ⟨aE, nE, cE, rfl⟩, ⟨gP, cP, rfl, qP⟩, oN, f5⟩
      obtain ⟨aN, nN, cN, rfl⟩ := oN.sl
      have HF5' := Lib.hid ((HFW.out.trans HEA.out).trans f5)
      clear d0 d1 d2 hg HGW HRC HFW HOKW HEA f5 oN HAW4
      go_upto_region 15 with (fail)
      have e6 : Fr [] y5 ((y5.alloc (.cells #[.int .i64 S, .int .i64 S, .int .i64 0, .slice aT nT cT] 45)).alloc (.cells #[.slice aC nC cC, .slice aE nE cE, .slice (some ⟨gP, 0, none⟩) 2 cP, .int .i64 (S * (r8 + 1) % (n + 1)), .int .i64 0, .slice aN nN cN, .int .i64 (S * (r8 + 1) % (n + 1)), .int .i64 0] 60)) := ((Fr.refl [] y5).alloc _).alloc _
      have hra : RowAt ((y5.alloc (.cells #[.int .i64 S, .int .i64 S, .int .i64 0, .slice aT nT cT] 45)).alloc (.cells #[.slice aC nC cC, .slice aE nE cE, .slice (some ⟨gP, 0, none⟩) 2 cP, .int .i64 (S * (r8 + 1) % (n + 1)), .int .i64 0, .slice aN nN cN, .int .i64 (S * (r8 + 1) % (n + 1)), .int .i64 0] 60)) (y5.heap.size + 1) 60 [.slice aC nC cC, .slice aE nE cE, .slice (some ⟨gP, 0, none⟩) 2 cP, .int .i64 (S * (r8 + 1) % (n + 1)), .int .i64 0, .slice aN nN cN, .int .i64 (S * (r8 + 1) % (n + 1)), .int .i64 0] := RowAt.new (by simp) rfl
      generalize (y5.alloc _).alloc _ = y6 at *
      have a2 := hra.cell 2 _ rfl
      have a3 := hra.cell 3 _ rfl
      have a6 := hra.cell 6 _ rfl
      have a7 := hra.cell 7 _ rfl
      have qP := e6.cell_some qP (by simp)
      have HF6 := Lib.hid (HF5'.out.trans e6)
      obtain ⟨bA, hbA⟩ : ∃ b, b = y5.heap.size + 1 := ⟨_, rfl⟩
      rw [← hbA] at a2 a3 a6 a7 ⊢
      clear hra e6 HF5' hbA
      refine wp_region_held_drew (S := (fun w' => Fr [] y6 w')) (by kernel_rfl) (Fr.refl [] _).drew (fun hHeld => ?_)
      refine wpAnyH_take (i := 0) (oi := ⟨some 89, _, _, _, _, _⟩) (v := .int .i64 0) rfl (by kernel_rfl) (by kernel_rfl) (by kernel_rfl) (fun _ _ _ h => h) (Or.inl ⟨by rfl, ?_⟩) hHeld ?_
      · intro w hSw; (try dsimp only at hSw); go_simp
      (try simp only [Act.put, List.setIfInBounds_toArray, List.set_cons_zero, List.set_cons_succ])
      refine wpAnyH_take (i := 1) (oi := ⟨some 90, _, _, _, _, _⟩) (v := .bool true) rfl (by kernel_rfl) (by kernel_rfl) (by kernel_rfl) (fun _ _ _ h => h) (Or.inl ⟨by rfl, ?_⟩) hHeld ?_
      · intro w hSw; (try dsimp only at hSw); go_simp
      (try simp only [Act.put, List.setIfInBounds_toArray, List.set_cons_zero, List.set_cons_succ])
      refine wpAnyH_take (i := 2) (oi := ⟨some 91, _, _, _, _, _⟩) (v := .bool true) rfl (by kernel_rfl) (by kernel_rfl) (by kernel_rfl) (fun _ _ _ h => h) (Or.inl ⟨by rfl, ?_⟩) hHeld ?_
      · intro w hSw; (try dsimp only at hSw); go_simp
      (try simp only [Act.put, List.setIfInBounds_toArray, List.set_cons_zero, List.set_cons_succ])
      refine wpAnyH_take (i := 3) (oi := ⟨some 92, _, _, _, _, _⟩) (v := .pointer (some ⟨bA, 2, none⟩)) rfl (by kernel_rfl) (by kernel_rfl) (by kernel_rfl) (fun _ _ _ h => h) (Or.inl ⟨by rfl, ?_⟩) hHeld ?_
      · intro w hSw; (try dsimp only at hSw); go_simp
      (try simp only [Act.put, List.setIfInBounds_toArray, List.set_cons_zero, List.set_cons_succ])
      refine wpAnyH_take (i := 4) (oi := ⟨some 93, _, _, _, _, _⟩) (v := .slice (some ⟨gP, 0, none⟩) 2 cP) rfl (by kernel_rfl) (by kernel_rfl) (by kernel_rfl) (fun _ _ _ h => h) (Or.inl ⟨by rfl, ?_⟩) hHeld ?_
      · intro w hSw; (try dsimp only at hSw); have hcF := hSw.cell_some a2 (by simp); clear hSw; go_simp
      (try simp only [Act.put, List.setIfInBounds_toArray, List.set_cons_zero, List.set_cons_succ])
      refine wpAnyH_take (i := 5) (oi := ⟨some 94, _, _, _, _, _⟩) (v := .int .i64 2) rfl (by kernel_rfl) (by kernel_rfl) (by kernel_rfl) (fun _ _ _ h => h) (Or.inl ⟨by rfl, ?_⟩) hHeld ?_
      · intro w hSw; (try dsimp only at hSw); go_simp
      (try simp only [Act.put, List.setIfInBounds_toArray, List.set_cons_zero, List.set_cons_succ])
      refine wpAnyH_take (i := 6) (oi := ⟨some 95, _, _, _, _, _⟩) (v := .bool true) rfl (by kernel_rfl) (by kernel_rfl) (by kernel_rfl) (fun _ _ _ h => h) (Or.inl ⟨by rfl, ?_⟩) hHeld ?_
      · intro w hSw; (try dsimp only at hSw); go_simp
      (try simp only [Act.put, List.setIfInBounds_toArray, List.set_cons_zero, List.set_cons_succ])
      refine wpAnyH_take (i := 7) (oi := ⟨some 96, _, _, _, _, _⟩) (v := .bool true) rfl (by kernel_rfl) (by kernel_rfl) (by kernel_rfl) (fun _ _ _ h => h) (Or.inl ⟨by rfl, ?_⟩) hHeld ?_
      · intro w hSw; (try dsimp only at hSw); go_simp
      (try simp only [Act.put, List.setIfInBounds_toArray, List.set_cons_zero, List.set_cons_succ])
      refine wpAnyH_take (i := 8) (oi := ⟨some 97, _, _, _, _, _⟩) (v := .bool true) rfl (by kernel_rfl) (by kernel_rfl) (by kernel_rfl) (fun _ _ _ h => h) (Or.inl ⟨by rfl, ?_⟩) hHeld ?_
      · intro w hSw; (try dsimp only at hSw); go_simp
      (try simp only [Act.put, List.setIfInBounds_toArray, List.set_cons_zero, List.set_cons_succ])
      refine wpAnyH_take (i := 9) (oi := ⟨some 98, _, _, _, _, _⟩) (v := .pointer (some ⟨bA, 2, none⟩)) rfl (by kernel_rfl) (by kernel_rfl) (by kernel_rfl) (fun _ _ _ h => h) (Or.inl ⟨by rfl, ?_⟩) hHeld ?_
      · intro w hSw; (try dsimp only at hSw); go_simp
      (try simp only [Act.put, List.setIfInBounds_toArray, List.set_cons_zero, List.set_cons_succ])
      refine wpAnyH_take (i := 10) (oi := ⟨some 99, _, _, _, _, _⟩) (v := .slice (some ⟨gP, 0, none⟩) 2 cP) rfl (by kernel_rfl) (by kernel_rfl) (by kernel_rfl) (fun _ _ _ h => h) (Or.inl ⟨by rfl, ?_⟩) hHeld ?_
      · intro w hSw; (try dsimp only at hSw); have hcF := hSw.cell_some a2 (by simp); clear hSw; go_simp
      (try simp only [Act.put, List.setIfInBounds_toArray, List.set_cons_zero, List.set_cons_succ])
      refine wpAnyH_take (i := 11) (oi := ⟨some 100, _, _, _, _, _⟩) (v := .pointer (some ⟨gP, 1, none⟩)) rfl (by kernel_rfl) (by kernel_rfl) (by kernel_rfl) (fun _ _ _ h => h) (Or.inl ⟨by rfl, ?_⟩) hHeld ?_
      · intro w hSw; (try dsimp only at hSw); go_simp
      (try simp only [Act.put, List.setIfInBounds_toArray, List.set_cons_zero, List.set_cons_succ])
      refine wpAnyH_take (i := 12) (oi := ⟨some 101, _, _, _, _, _⟩) (v := .int .i64 (S * (r8 + 1) / (n + 1) * (n + 1))) rfl (by kernel_rfl) (by kernel_rfl) (by kernel_rfl) (fun _ _ _ h => h) (Or.inl ⟨by rfl, ?_⟩) hHeld ?_
      · intro w hSw; (try dsimp only at hSw); have hcF := hSw.cell_some qP (by simp); clear hSw; go_simp
      (try simp only [Act.put, List.setIfInBounds_toArray, List.set_cons_zero, List.set_cons_succ])
      refine wpAnyH_take (i := 13) (oi := ⟨some 102, _, _, _, _, _⟩) (v := .int .i64 (S * (r8 + 1))) rfl (by kernel_rfl) (by kernel_rfl) (by kernel_rfl) (fun _ _ _ h => h) (Or.inl ⟨by rfl, ?_⟩) hHeld ?_
      · intro w hSw; (try dsimp only at hSw); go_simp
      (try simp only [Act.put, List.setIfInBounds_toArray, List.set_cons_zero, List.set_cons_succ])
      refine wpAnyH_take (i := 14) (oi := ⟨some 103, _, _, _, _, _⟩) (v := .int .i64 (n + 1)) rfl (by kernel_rfl) (by kernel_rfl) (by kernel_rfl) (fun _ _ _ h => h) (Or.inl ⟨by rfl, ?_⟩) hHeld ?_
      · intro w hSw; (try dsimp only at hSw); go_simp
      (try simp only [Act.put, List.setIfInBounds_toArray, List.set_cons_zero, List.set_cons_succ])
      refine wpAnyH_take (i := 15) (oi := ⟨some 104, _, _, _, _, _⟩) (v := .int .i64 (S * (r8 + 1) / (n + 1))) rfl (by kernel_rfl) (by kernel_rfl) (by kernel_rfl) (fun _ _ _ h => h) (Or.inl ⟨by rfl, ?_⟩) hHeld ?_
      · intro w hSw; (try dsimp only at hSw); go_simp
      (try simp only [Act.put, List.setIfInBounds_toArray, List.set_cons_zero, List.set_cons_succ])
      refine wpAnyH_take (i := 16) (oi := ⟨some 105, _, _, _, _, _⟩) (v := .int .i64 (n + 1)) rfl (by kernel_rfl) (by kernel_rfl) (by kernel_rfl) (fun _ _ _ h => h) (Or.inl ⟨by rfl, ?_⟩) hHeld ?_
      · intro w hSw; (try dsimp only at hSw); go_simp
      (try simp only [Act.put, List.setIfInBounds_toArray, List.set_cons_zero, List.set_cons_succ])
      refine wpAnyH_take (i := 17) (oi := ⟨some 106, _, _, _, _, _⟩) (v := .int .i64 (S * (r8 + 1) / (n + 1) * (n + 1))) rfl (by kernel_rfl) (by kernel_rfl) (by kernel_rfl) (fun _ _ _ h => h) (Or.inl ⟨by rfl, ?_⟩) hHeld ?_
      · intro w hSw; (try dsimp only at hSw); go_simp
      (try simp only [Act.put, List.setIfInBounds_toArray, List.set_cons_zero, List.set_cons_succ])
      refine wpAnyH_take (i := 18) (oi := ⟨some 107, _, _, _, _, _⟩) (v := .bool true) rfl (by kernel_rfl) (by kernel_rfl) (by kernel_rfl) (fun _ _ _ h => h) (Or.inl ⟨by rfl, ?_⟩) hHeld ?_
      · intro w hSw; (try dsimp only at hSw); go_simp
      (try simp only [Act.put, List.setIfInBounds_toArray, List.set_cons_zero, List.set_cons_succ])
      refine wpAnyH_take (i := 19) (oi := ⟨some 108, _, _, _, _, _⟩) (v := .bool true) rfl (by kernel_rfl) (by kernel_rfl) (by kernel_rfl) (fun _ _ _ h => h) (Or.inl ⟨by rfl, ?_⟩) hHeld ?_
      · intro w hSw; (try dsimp only at hSw); go_simp
      (try simp only [Act.put, List.setIfInBounds_toArray, List.set_cons_zero, List.set_cons_succ])
      refine wpAnyH_take (i := 20) (oi := ⟨some 109, _, _, _, _, _⟩) (v := .bool true) rfl (by kernel_rfl) (by kernel_rfl) (by kernel_rfl) (fun _ _ _ h => h) (Or.inl ⟨by rfl, ?_⟩) hHeld ?_
      · intro w hSw; (try dsimp only at hSw); go_simp
      (try simp only [Act.put, List.setIfInBounds_toArray, List.set_cons_zero, List.set_cons_succ])
      refine wpAnyH_take (i := 21) (oi := ⟨some 110, _, _, _, _, _⟩) (v := .pointer (some ⟨bA, 3, none⟩)) rfl (by kernel_rfl) (by kernel_rfl) (by kernel_rfl) (fun _ _ _ h => h) (Or.inl ⟨by rfl, ?_⟩) hHeld ?_
      · intro w hSw; (try dsimp only at hSw); go_simp
      (try simp only [Act.put, List.setIfInBounds_toArray, List.set_cons_zero, List.set_cons_succ])
      refine wpAnyH_take (i := 22) (oi := ⟨some 111, _, _, _, _, _⟩) (v := .int .i64 (S * (r8 + 1) % (n + 1))) rfl (by kernel_rfl) (by kernel_rfl) (by kernel_rfl) (fun _ _ _ h => h) (Or.inl ⟨by rfl, ?_⟩) hHeld ?_
      · intro w hSw; (try dsimp only at hSw); have hcF := hSw.cell_some a3 (by simp); clear hSw; go_simp
      (try simp only [Act.put, List.setIfInBounds_toArray, List.set_cons_zero, List.set_cons_succ])
      refine wpAnyH_take (i := 23) (oi := ⟨some 112, _, _, _, _, _⟩) (v := .int .i64 (S * (r8 + 1))) rfl (by kernel_rfl) (by kernel_rfl) (by kernel_rfl) (fun _ _ _ h => h) (Or.inl ⟨by rfl, ?_⟩) hHeld ?_
      · intro w hSw; (try dsimp only at hSw); go_simp
      (try simp only [Act.put, List.setIfInBounds_toArray, List.set_cons_zero, List.set_cons_succ])
      refine wpAnyH_take (i := 24) (oi := ⟨some 113, _, _, _, _, _⟩) (v := .int .i64 (n + 1)) rfl (by kernel_rfl) (by kernel_rfl) (by kernel_rfl) (fun _ _ _ h => h) (Or.inl ⟨by rfl, ?_⟩) hHeld ?_
      · intro w hSw; (try dsimp only at hSw); go_simp
      (try simp only [Act.put, List.setIfInBounds_toArray, List.set_cons_zero, List.set_cons_succ])
      refine wpAnyH_take (i := 25) (oi := ⟨some 114, _, _, _, _, _⟩) (v := .int .i64 (S * (r8 + 1) % (n + 1))) rfl (by kernel_rfl) (by kernel_rfl) (by kernel_rfl) (fun _ _ _ h => h) (Or.inl ⟨by rfl, ?_⟩) hHeld ?_
      · intro w hSw; (try dsimp only at hSw); go_simp
      (try simp only [Act.put, List.setIfInBounds_toArray, List.set_cons_zero, List.set_cons_succ])
      refine wpAnyH_take (i := 26) (oi := ⟨some 115, _, _, _, _, _⟩) (v := .bool true) rfl (by kernel_rfl) (by kernel_rfl) (by kernel_rfl) (fun _ _ _ h => h) (Or.inl ⟨by rfl, ?_⟩) hHeld ?_
      · intro w hSw; (try dsimp only at hSw); go_simp
      (try simp only [Act.put, List.setIfInBounds_toArray, List.set_cons_zero, List.set_cons_succ])
      refine wpAnyH_take (i := 27) (oi := ⟨some 116, _, _, _, _, _⟩) (v := .bool true) rfl (by kernel_rfl) (by kernel_rfl) (by kernel_rfl) (fun _ _ _ h => h) (Or.inl ⟨by rfl, ?_⟩) hHeld ?_
      · intro w hSw; (try dsimp only at hSw); go_simp
      (try simp only [Act.put, List.setIfInBounds_toArray, List.set_cons_zero, List.set_cons_succ])
      refine wpAnyH_take (i := 28) (oi := ⟨some 117, _, _, _, _, _⟩) (v := .bool true) rfl (by kernel_rfl) (by kernel_rfl) (by kernel_rfl) (fun _ _ _ h => h) (Or.inl ⟨by rfl, ?_⟩) hHeld ?_
      · intro w hSw; (try dsimp only at hSw); go_simp
      (try simp only [Act.put, List.setIfInBounds_toArray, List.set_cons_zero, List.set_cons_succ])
      refine wpAnyH_take (i := 29) (oi := ⟨some 118, _, _, _, _, _⟩) (v := .pointer (some ⟨bA, 5, none⟩)) rfl (by kernel_rfl) (by kernel_rfl) (by kernel_rfl) (fun _ _ _ h => h) (Or.inl ⟨by rfl, ?_⟩) hHeld ?_
      · intro w hSw; (try dsimp only at hSw); go_simp
      (try simp only [Act.put, List.setIfInBounds_toArray, List.set_cons_zero, List.set_cons_succ])
      refine wpAnyH_take (i := 30) (oi := ⟨some 119, _, _, _, _, _⟩) (v := .pointer (some ⟨bA, 7, none⟩)) rfl (by kernel_rfl) (by kernel_rfl) (by kernel_rfl) (fun _ _ _ h => h) (Or.inl ⟨by rfl, ?_⟩) hHeld ?_
      · intro w hSw; (try dsimp only at hSw); go_simp
      (try simp only [Act.put, List.setIfInBounds_toArray, List.set_cons_zero, List.set_cons_succ])
      refine wpAnyH_take (i := 31) (oi := ⟨some 120, _, _, _, _, _⟩) (v := .int .i64 0) rfl (by kernel_rfl) (by kernel_rfl) (by kernel_rfl) (fun _ _ _ h => h) (Or.inl ⟨by rfl, ?_⟩) hHeld ?_
      · intro w hSw; (try dsimp only at hSw); have hcF := hSw.cell_some a7 (by simp); clear hSw; go_simp
      (try simp only [Act.put, List.setIfInBounds_toArray, List.set_cons_zero, List.set_cons_succ])
      refine wpAnyH_take (i := 32) (oi := ⟨some 121, _, _, _, _, _⟩) (v := .bool true) rfl (by kernel_rfl) (by kernel_rfl) (by kernel_rfl) (fun _ _ _ h => h) (Or.inl ⟨by rfl, ?_⟩) hHeld ?_
      · intro w hSw; (try dsimp only at hSw); go_simp
      (try simp only [Act.put, List.setIfInBounds_toArray, List.set_cons_zero, List.set_cons_succ])
      refine wpAnyH_take (i := 33) (oi := ⟨some 122, _, _, _, _, _⟩) (v := .bool true) rfl (by kernel_rfl) (by kernel_rfl) (by kernel_rfl) (fun _ _ _ h => h) (Or.inl ⟨by rfl, ?_⟩) hHeld ?_
      · intro w hSw; (try dsimp only at hSw); go_simp
      (try simp only [Act.put, List.setIfInBounds_toArray, List.set_cons_zero, List.set_cons_succ])
      refine wpAnyH_take (i := 34) (oi := ⟨some 123, _, _, _, _, _⟩) (v := .bool true) rfl (by kernel_rfl) (by kernel_rfl) (by kernel_rfl) (fun _ _ _ h => h) (Or.inl ⟨by rfl, ?_⟩) hHeld ?_
      · intro w hSw; (try dsimp only at hSw); go_simp
      (try simp only [Act.put, List.setIfInBounds_toArray, List.set_cons_zero, List.set_cons_succ])
      refine wpAnyH_take (i := 35) (oi := ⟨some 124, _, _, _, _, _⟩) (v := .pointer (some ⟨bA, 5, none⟩)) rfl (by kernel_rfl) (by kernel_rfl) (by kernel_rfl) (fun _ _ _ h => h) (Or.inl ⟨by rfl, ?_⟩) hHeld ?_
      · intro w hSw; (try dsimp only at hSw); go_simp
      (try simp only [Act.put, List.setIfInBounds_toArray, List.set_cons_zero, List.set_cons_succ])
      refine wpAnyH_take (i := 36) (oi := ⟨some 125, _, _, _, _, _⟩) (v := .pointer (some ⟨bA, 6, none⟩)) rfl (by kernel_rfl) (by kernel_rfl) (by kernel_rfl) (fun _ _ _ h => h) (Or.inl ⟨by rfl, ?_⟩) hHeld ?_
      · intro w hSw; (try dsimp only at hSw); go_simp
      (try simp only [Act.put, List.setIfInBounds_toArray, List.set_cons_zero, List.set_cons_succ])
      refine wpAnyH_take (i := 37) (oi := ⟨some 126, _, _, _, _, _⟩) (v := .int .i64 (S * (r8 + 1) % (n + 1))) rfl (by kernel_rfl) (by kernel_rfl) (by kernel_rfl) (fun _ _ _ h => h) (Or.inl ⟨by rfl, ?_⟩) hHeld ?_
      · intro w hSw; (try dsimp only at hSw); have hcF := hSw.cell_some a6 (by simp); clear hSw; go_simp
      (try simp only [Act.put, List.setIfInBounds_toArray, List.set_cons_zero, List.set_cons_succ])
      refine wpAnyH_take (i := 38) (oi := ⟨some 127, _, _, _, _, _⟩) (v := .int .i64 (S * (r8 + 1))) rfl (by kernel_rfl) (by kernel_rfl) (by kernel_rfl) (fun _ _ _ h => h) (Or.inl ⟨by rfl, ?_⟩) hHeld ?_
      · intro w hSw; (try dsimp only at hSw); go_simp
      (try simp only [Act.put, List.setIfInBounds_toArray, List.set_cons_zero, List.set_cons_succ])
      refine wpAnyH_take (i := 39) (oi := ⟨some 128, _, _, _, _, _⟩) (v := .int .i64 (n + 1)) rfl (by kernel_rfl) (by kernel_rfl) (by kernel_rfl) (fun _ _ _ h => h) (Or.inl ⟨by rfl, ?_⟩) hHeld ?_
      · intro w hSw; (try dsimp only at hSw); go_simp
      (try simp only [Act.put, List.setIfInBounds_toArray, List.set_cons_zero, List.set_cons_succ])
      refine wpAnyH_take (i := 40) (oi := ⟨some 129, _, _, _, _, _⟩) (v := .int .i64 (S * (r8 + 1) % (n + 1))) rfl (by kernel_rfl) (by kernel_rfl) (by kernel_rfl) (fun _ _ _ h => h) (Or.inl ⟨by rfl, ?_⟩) hHeld ?_
      · intro w hSw; (try dsimp only at hSw); go_simp
      (try simp only [Act.put, List.setIfInBounds_toArray, List.set_cons_zero, List.set_cons_succ])
      refine wpAnyH_take (i := 41) (oi := ⟨some 130, _, _, _, _, _⟩) (v := .bool true) rfl (by kernel_rfl) (by kernel_rfl) (by kernel_rfl) (fun _ _ _ h => h) (Or.inl ⟨by rfl, ?_⟩) hHeld ?_
      · intro w hSw; (try dsimp only at hSw); go_simp
      (try simp only [Act.put, List.setIfInBounds_toArray, List.set_cons_zero, List.set_cons_succ])
      refine wpAnyH_take (i := 42) (oi := ⟨some 131, _, _, _, _, _⟩) (v := .bool true) rfl (by kernel_rfl) (by kernel_rfl) (by kernel_rfl) (fun _ _ _ h => h) (Or.inl ⟨by rfl, ?_⟩) hHeld ?_
      · intro w hSw; (try dsimp only at hSw); go_simp
      (try simp only [Act.put, List.setIfInBounds_toArray, List.set_cons_zero, List.set_cons_succ])
      refine wpAnyH_take (i := 43) (oi := ⟨some 132, _, _, _, _, _⟩) (v := .bool true) rfl (by kernel_rfl) (by kernel_rfl) (by kernel_rfl) (fun _ _ _ h => h) (Or.inl ⟨by rfl, ?_⟩) hHeld ?_
      · intro w hSw; (try dsimp only at hSw); go_simp
      (try simp only [Act.put, List.setIfInBounds_toArray, List.set_cons_zero, List.set_cons_succ])
      refine wpAnyH_ready (rs := [44]) (by kernel_rfl) (by simp) ?_
      refine AllReadyH.cons (o := ⟨some 133, _, _, _, _, _⟩) rfl (fun K hK => ?_) AllReadyH.nil
      rw [if_pos (by rfl)]
      go_simp
      refine (works_any _).mono ?_
      rintro e w9 ⟨rfl, fr⟩
      refine hK.out _ _ (hHeld.trans fr) (fun hHeld' => ?_)
      clear hK K hHeld
      have hHeld := hHeld'
      clear hHeld'
      (try simp only [Act.put, List.setIfInBounds_toArray, List.set_cons_zero, List.set_cons_succ])
      refine wpAnyH_take (i := 45) (oi := ⟨some 134, _, _, _, _, _⟩) (v := .bool true) rfl (by kernel_rfl) (by kernel_rfl) (by kernel_rfl) (fun _ _ _ h => h) (Or.inl ⟨by rfl, ?_⟩) hHeld ?_
      · intro w hSw; (try dsimp only at hSw); go_simp
      (try simp only [Act.put, List.setIfInBounds_toArray, List.set_cons_zero, List.set_cons_succ])
      refine wpAnyH_take (i := 46) (oi := ⟨some 6, _, _, _, _, _⟩) (v := .bool true) rfl (by kernel_rfl) (by kernel_rfl) (by kernel_rfl) (fun _ _ _ h => h) (Or.inl ⟨by rfl, ?_⟩) hHeld ?_
      · intro w hSw; (try dsimp only at hSw); go_simp
      (try simp only [Act.put, List.setIfInBounds_toArray, List.set_cons_zero, List.set_cons_succ])
      have HFIN := Lib.hid (HF4.out.trans (HF6.out.trans hHeld))
      clear hHeld fr a2 a3 a6 a7 qP
      refine wpAnyH_done (by kernel_rfl) ?_ _
      go_wp2_with fail
      go_ret
      exact ⟨rfl, HFIN.out.below⟩
theorem own : ownKnob Try.prog.godebug = none := by kernel_rfl
theorem laidOut : laidOutB Try.prog = true := by kernel_rfl
set_option maxRecDepth 100000 in
theorem lifted (os : Os) (started : os.Started) (H : Type) (enc : TypeId × Value → H) :
    ReturnsInHanded {} Try.checked os 15 .any (Rows.prizeMustSpec.pre6 enc Try.prog Try.f15 Rows.prizeMustRow.domain false) (Rows.prizeMustSpec.post enc Try.prog Try.f15 false true false false) := by
  refine returnsInHanded_of_change (C := Try.checked) own started (by kernel_rfl) Try.func15
    (ChangeSpec.witness6 (enc := enc) (C := Try.checked) false ⟨#[], #[.int .u8 0, .int .u16 0, .int .u8 0], []⟩ 8 (by kernel_rfl) (by kernel_rfl) (by kernel_rfl) (by kernel_rfl)) ?_
  intro W base args ds gs before hval0 hW hcnd _
  have hval : ∀ (j : Nat) t v, Try.f15.params[j]? = some t → args[j]? = some v → Value.okWide Try.prog W .any base t v := hval0
  have hW' := hW
  obtain ⟨p, q, hA0, hV, rfl, hfz, hnd⟩ := hW
  have hA : DataW.TrodAll enc Try.prog W 0 (fun _ => true) true Try.f15.params.toList args.toList ds p := hA0
  rw [Try.params15] at hA hval
  obtain ⟨v0, vs0, d0, ds0, p0, q0, hargs, rfl, rfl, h0, r0⟩ := trodAll_cons hA
  obtain ⟨v1, vs1, d1, ds1, p1, q1, rfl, rfl, rfl, h1, r1⟩ := trodAll_cons r0
  obtain ⟨v2, vs2, d2, ds2, p2, q2, rfl, rfl, rfl, h2, r2⟩ := trodAll_cons r1
  obtain ⟨rfl, rfl, rfl⟩ := trodAll_nil r2
  obtain rfl : args = #[v0, v1, v2] := by cases args; simp_all
  obtain ⟨rfl, rfl⟩ := trodVars_none hV
  obtain ⟨a0, rfl, rfl, rfl, w0⟩ := open_int Try.underlying5 (hval 0 5 v0 rfl rfl) h0
  obtain ⟨a1, rfl, rfl, rfl, w1⟩ := open_int Try.underlying65 (hval 1 65 v1 rfl rfl) h1
  obtain ⟨a2, rfl, rfl, rfl, w2⟩ := open_int Try.underlying5 (hval 2 5 v2 rfl rfl) h2
  clear hA0 hval0
  refine (walk a0 a1 a2 W w0 w1 w2).mono fun e W' ⟨he, bel⟩ => ?_
  subst he
  exact ⟨_, rfl, _, _, _, [], _, [], hW', trodAll_mk1 (shut_bool Try.underlying4 _), (trodAll_cons_mk (shut_int Try.underlying5 w0) (trodAll_cons_mk (shut_int Try.underlying65 w1) (trodAll_cons_mk (shut_int Try.underlying5 w2) trodAll_mk0))), rfl, bel.frame _, fun h => by cases h⟩
theorem over : Rows.prizeMustRow.holds Try.pinned (OpenSpec.ofChange Rows.prizeMustSpec) :=
  OpenClaim.holds_of_wide 15 Try.f15 rfl rfl rfl rfl rfl rfl rfl ⟨rfl, rfl, rfl, rfl, rfl⟩ rfl rfl rfl rfl rfl (by kernel_rfl) Try.func15 (by kernel_rfl)
    (of_decide_eq_true (by kernel_rfl)) (by unfold Func.isWrapper; first | (rw [if_pos (by decide +kernel)]; kernel_rfl) | (rw [if_neg (by decide +kernel)]; exact ⟨rfl, rfl⟩))
    (fun os started H enc _ => lifted os started H enc)
/-- THE STATEMENT -/
theorem proved : Rows.PrizeMustSaid := over
end Go.Proofs.Ytdinjekpcgndmaa.prizeMust
