/-
  LAYER 36: the reference's Allocate.
-/
import Derived.Test.YtdinjekpcgndmaaRArgs
set_option linter.unusedVariables false
namespace Go.Proofs.Ytdinjekpcgndmaa
open Go.RowKit
theorem mem_getD {l : List Int} {p : Int → Prop} (h : ∀ i, i < l.length → p (l.getD i 0)) : ∀ x ∈ l, p x := fun x hx => by
  obtain ⟨i, hi, rfl⟩ := List.getElem_of_mem hx
  have := h i hi
  simpa [List.getD, hi] using this
theorem getD_mem {l : List Int} {B : Int} (hB : 0 ≤ B) (h : ∀ x ∈ l, 0 ≤ x ∧ x ≤ B) (i : Nat) : 0 ≤ l.getD i 0 ∧ l.getD i 0 ≤ B := by
  by_cases hi : i < l.length
  · have := h l[i] (List.getElem_mem hi)
    simpa [List.getD, hi] using this
  · have e : l.getD i 0 = 0 := by simp [List.getD, List.getElem?_eq_none (Nat.le_of_not_lt hi)]
    rw [e]; exact ⟨by omega, hB⟩
theorem pd_facts {g : Gm} {cs : List Int} {av : Int} (h : chkE g = 0) (hl : cs.length = g.tiers.length) (hc : ∀ i, i < cs.length → 0 ≤ cs.getD i 0 ∧ cs.getD i 0 ≤ 2097152) (h0 : 0 ≤ av) (h1 : av ≤ 1000000000000) (h2 : spT (ndL g.tiers cs) ≤ 1000000000000) :
    (∀ x ∈ pdL g.tiers cs av, 0 ≤ x ∧ x ≤ 1000000000000) ∧ spT (pdL g.tiers cs av) = pdS g.tiers cs av ∧ (0 ≤ pdS g.tiers cs av ∧ pdS g.tiers cs av ≤ 1000000000000) ∧ (pdL g.tiers cs av).length = cntK g.tiers true g.tiers.length := by
  have hb := nd_bd h hl hc
  obtain ⟨s1, s2⟩ := spT_nonneg (fun x hx => (hb x hx).1)
  have hlen := pdL_len (T := g.tiers) (cs := cs) (av := av) (nd_split h hl hc h0 h1 h2)
  cases ho : ovN g.tiers cs av
  · have e1 : pdL g.tiers cs av = ndL g.tiers cs := by unfold pdL; rw [if_neg (by simp [ho])]
    have e2 : pdS g.tiers cs av = spT (ndL g.tiers cs) := by unfold pdS; rw [if_neg (by simp [ho])]
    rw [e1, e2]
    rw [e1] at hlen
    exact ⟨mem_getD fun i hi => ⟨(getD_mem (by omega) hb i).1, by have := s2 i hi; omega⟩, rfl, ⟨s1, h2⟩, hlen⟩
  · have hE := nd_split h hl hc h0 h1 h2 ho
    have e1 : pdL g.tiers cs av = spL av (ndL g.tiers cs) := by unfold pdL; rw [if_pos ho]
    have e2 : pdS g.tiers cs av = av := by unfold pdS; rw [if_pos ho]
    rw [e1, e2]
    rw [e1] at hlen
    have hL := spL_len hE
    exact ⟨mem_getD fun i hi => ⟨spL_nonneg hE (by omega), by have := spL_max hE (i := i) (by omega); omega⟩, by unfold spT; rw [hL]; exact spL_sum hE, ⟨h0, h1⟩, hlen⟩
def shQ (T : List Ti) (R : Int) : List Int := if dvB T = true then spL R (vsL T) else List.replicate (vsL T).length 0
theorem shQ_facts {g : Gm} {R : Int} (h : chkE g = 0) (h0 : 0 ≤ R) (h1 : R ≤ 1000000000000) : (∀ x ∈ shQ g.tiers R, 0 ≤ x ∧ x ≤ 1000000000000) ∧ (shQ g.tiers R).length = cntK g.tiers false g.tiers.length := by
  unfold shQ
  split
  · rename_i hd
    have hE := vs_split h h0 h1 hd
    have hL := spL_len hE
    exact ⟨mem_getD fun i hi => ⟨spL_nonneg hE (by omega), by have := spL_max hE (i := i) (by omega); omega⟩, by rw [hL, vsL_len]⟩
  · refine ⟨fun x hx => ?_, by rw [List.length_replicate, vsL_len]⟩
    have := List.eq_of_mem_replicate hx
    omega
theorem shQ_at (T : List Ti) (R : Int) (i : Nat) : (shQ T R).getD i 0 = (shL T R).getD i 0 := by
  unfold shQ shL
  split
  · rfl
  · rw [getD_rep]; simp
theorem plF_bd {T : List Ti} {fx : Bool} {l : List Int} {B : Int} (hB : 0 ≤ B) (h : ∀ x ∈ l, 0 ≤ x ∧ x ≤ B) (i : Nat) : 0 ≤ plF T fx l i ∧ plF T fx l i ≤ B := by
  unfold plF
  split
  · exact getD_mem hB h _
  · exact ⟨by omega, hB⟩
theorem tl_place {T : List Ti} {cs ct : List Int} {A B cr : Int} {i : Nat} (hi : i < T.length) (hct : isK T true i = true → ct.getD i 0 = 0) :
    plF T true (pdL T cs (A + cr)) i + plF T false (shQ T (rsT T cs A B cr)) i + ct.getD i 0 = (tlL T cs ct A B cr).getD i 0 := by
  rw [tlL_at hi]
  unfold plF
  rw [isK_not, shQ_at]
  cases hk : isK T true i
  · simp; omega
  · rw [hct hk]; simp
set_option maxRecDepth 20000 in
set_option maxHeartbeats 4000000 in
theorem rargs_bad (g : Gm) (s : Int) (v2 vt : Value) (cr cl : Int) (w : World) (hs : inR s 0 1000000000000 = false) :
    Calls Try.prog 67 #[g.val, .int .i64 s, v2, .agg #[vt, .int .i64 cr, .int .i64 cl]] w fun e w' => e = .returned (.int .i64 2) ∧ Fr [] w w' := by
  have hAM := amount36_any s
  rw [hs] at hAM
  have HAM := Lib.hid hAM
  clear hAM hs
  go_enter Try.func67, Try.ntmps67
  go_wp2_with (first | (refine box_game rfl (.tmp 0) rfl g rfl ?_; intro w1 hg1 hz1 hf1) | (go_at_call 47; refine (HAM.out _).mono ?_; rintro e w' ⟨rfl, rfl⟩))
  go_ret
  exact ⟨rfl, hf1.alloc _⟩
set_option maxRecDepth 100000 in
set_option maxHeartbeats 8000000 in
theorem ralloc_any (g : Gm) (s : Int) (v2 vt : Value) (cs ct : List Int) (cr cl : Int) (w : World) (hok : g.Ok w) (h2 : RdI w v2 cs) (h3 : RdI w vt ct) :
    Calls Try.prog 29 #[g.val, .int .i64 s, v2, .agg #[vt, .int .i64 cr, .int .i64 cl]] w (AlPost g s cs ct cr cl w) := by
  have hCK := fun w' (h : Fr [] w w') => rcheck_any g w' (hok.fr h)
  unfold RChkPost at hCK
  obtain ⟨EA, hAR, hEA0, hEA1⟩ : ∃ EA : Int, (∀ w', Fr [] w w' → Calls Try.prog 67 #[g.val, .int .i64 s, v2, .agg #[vt, .int .i64 cr, .int .i64 cl]] w' fun e w'' => e = .returned (.int .i64 EA) ∧ Fr [] w' w'') ∧ (chkE g = 0 → EA ≠ 0 → alE g s cs ct cr cl = EA) ∧ (chkE g = 0 → EA = 0 → fuE g s = 0 ∧ agE g.tiers cs ct cr cl = 0) := by
    by_cases hs : inR s 0 1000000000000 = true
    · have hf : chkE g = 0 → fuE g s = 0 := fun hc => by unfold fuE; rw [if_neg (by omega), if_pos hs]
      exact ⟨agE g.tiers cs ct cr cl, fun w' h => rargs_any g s v2 vt cs ct cr cl w' (hok.fr h) hs (h2.below h) (h3.below h), fun hc h => alE_2 (hf hc) h, fun hc h => ⟨hf hc, h⟩⟩
    · have hs' : inR s 0 1000000000000 = false := by simpa using hs
      refine ⟨2, fun w' h => rargs_bad g s v2 vt cr cl w' hs', fun hc _ => ?_, fun _ h => by omega⟩
      have hf : fuE g s = 2 := by unfold fuE; rw [if_neg (by omega), if_neg hs]
      rw [alE_1 (by omega), hf]
  have hER := fun E h h0 => @al_err g s cs ct cr cl E h h0 w
  have h2' := h2
  have h3' := h3
  obtain ⟨a2, c2, rfl, l2, m2, r2⟩ := h2
  obtain ⟨a3, c3, rfl, l3, m3, r3⟩ := h3
  have HCK := Lib.hid hCK
  have HAR := Lib.hid hAR
  have hlc : ct.length ≤ c3 := l3
  by_cases hch : chkE g = 0
  · by_cases ha : EA = 0
    · obtain ⟨h0, hag⟩ := hEA1 hch ha
      obtain ⟨_, hs01, hB0, hBA, hAs⟩ := fuE_facts h0
      obtain ⟨q1', q2', q3', q4', q5', q6'⟩ := agE_facts hag
      have hFU := fun w' (h : Fr [] w w') => rfund_any g s w' (hok.fr h)
      unfold FuPost at hFU
      rw [h0] at hFU
      have hNE := fun x (h : Fr [] w x) => rneeds_any g (.slice a2 cs.length c2) cs x (hok.fr h) (h2'.below h) hch q1' q2'
      have hVA := fun x (h : Fr [] w x) => rvals_any g x (hok.fr h) hch
      have hPLA := fun fx v l x (h : Fr [] w x) => place_any g fx v l x (hok.fr h) hch
      have hn12 := game_len hch
      have hnd := nd_bd hch q1' q2'
      have hvs := vs_bd hch
      have hndl : (ndL g.tiers cs).length ≤ 12 := by rw [ndL_len]; have := cntK_le g.tiers true g.tiers.length; omega
      have hvsl : (vsL g.tiers).length ≤ 12 := by rw [vsL_len]; have := cntK_le g.tiers false g.tiers.length; omega
      have hnd0 := (spT_nonneg (fun x hx => (hnd x hx).1)).1
      have hvs0 := (spT_nonneg (fun x hx => (hvs x hx).1)).1
      have hADN := fun v x (h : RdI x v (ndL g.tiers cs)) => radd_any v _ x h hnd hndl
      have hADV := fun v x (h : RdI x v (vsL g.tiers)) => radd_any v _ x h (fun y hy => ⟨(hvs y hy).1, by have := (hvs y hy).2; omega⟩) hvsl
      have hE3 := alE_3 h0 hag
      have hE4 := alE_4 h0 hag
      have hOK := fun h => @al_ok g s cs ct cr cl h w
      generalize hgA : fuA g s = A at *
      generalize hgB : fuB g s = B at *
      subst ha
      have hER3 := fun h' => hER _ (hE3 h') (by omega)
      have hPDF := pd_facts (av := A + cr) hch q1' q2' (by omega)
      have hNSP := nd_split (av := A + cr) hch q1' q2' (by omega)
      have hSHF := fun R => shQ_facts (R := R) hch
      have hVSP := fun R => vs_split (rest := R) hch
      have hal : alR g s cs cr = if dvB g.tiers = true then B else B + rsT g.tiers cs A B cr := by unfold alR; rw [hgA, hgB]
      have hrs : rsT g.tiers cs A B cr = max 0 (A - B - pdS g.tiers cs (A + cr)) := rfl
      have htp := fun i (hi : i < g.tiers.length) => tl_place (T := g.tiers) (cs := cs) (ct := ct) (A := A) (B := B) (cr := cr) hi (fun hk => (q4' i (by omega)).2.2 hk)
      have hctb := fun i (hi : i < g.tiers.length) => (show 0 ≤ ct.getD i 0 ∧ ct.getD i 0 ≤ 1000000000000 from ⟨(q4' i (by omega)).1, (q4' i (by omega)).2.1⟩)
      have hdv : decide (0 < spT (vsL g.tiers)) = dvB g.tiers := by unfold dvB; by_cases hz : spT (vsL g.tiers) = 0 <;> simp [hz] <;> omega
      have hcc0 := q5'.1
      have hcc1 := q5'.2
      have HFU := Lib.hid hFU
      have HNE := Lib.hid hNE
      have HVA := Lib.hid hVA
      have HPLA := Lib.hid hPLA
      have HADN := Lib.hid hADN
      have HADV := Lib.hid hADV
      have HER3 := Lib.hid hER3
      have HER9 := Lib.hid (fun h => hER 9 h (by omega))
      have HE4 := Lib.hid hE4
      have HOK := Lib.hid hOK
      have HPDF := Lib.hid hPDF
      have HNSP := Lib.hid hNSP
      have HSHF := Lib.hid hSHF
      have HVSP := Lib.hid hVSP
      have HAL := Lib.hid hal
      have HRS := Lib.hid hrs
      have HTP := Lib.hid htp
      have HCTB := Lib.hid hctb
      have HDV := Lib.hid hdv
      have HN12 := Lib.hid hn12
      have HNDL := Lib.hid hndl
      have HVSL := Lib.hid hvsl
      have HCTL := Lib.hid q3'
      have HR3 := Lib.hid h3'
      clear hCK hAR hEA0 hEA1 hER h2' h3' hok hch h0 hag q1' q2' q3' q4' q5' q6' hFU hNE hVA hPLA hn12 hnd hvs hndl hvsl hADN hADV hE3 hE4 hOK hgA hgB hER3 hPDF hNSP hSHF hVSP hal hrs htp hctb hdv l2 m2 r2 l3 m3 r3
      go_enter Try.func29, Try.ntmps29
      go_upto_region 1 with (refine box_game rfl (.tmp 0) rfl g rfl ?_; intro w1 hg1 hz1 hf1)
      have hM := alM_start (vt := .slice a3 ct.length c3) (cr := cr) (cl := cl) (T1 := 43) (T2 := 45) hg1 hz1 hf1
      simp only [Nat.add_assoc, Nat.reduceAdd]
      generalize World.alloc _ _ = x at hM ⊢
      clear hg1 hz1 hf1
      have hg := hM.hg
      go_wp2_with (refine load_game rfl (.tmp 4) rfl _ rfl g hg ?_)
      refine (HCK.out _ hM.fr).mono ?_
      rintro e x2 ⟨S, rfl, f2⟩
      have hM2 := hM.go f2 (by simp)
      have hg2 := hM2.hg
      have q0 := hM2.c0
      have q1 := hM2.c1
      have q2 := hM2.c2
      clear hg hM f2 HCK
      go_wp2_with (refine load_game rfl (.tmp 4) rfl _ rfl g hg2 ?_)
      refine (HAR.out _ hM2.fr).mono ?_
      rintro e x3 ⟨rfl, f3⟩
      have hM3 := hM2.go f3 (by simp)
      have hg3 := hM3.hg
      clear hM2 hg2 q0 q1 q2 f3 HAR
      go_wp2_with (refine load_game rfl (.tmp 4) rfl _ rfl g hg3 ?_)
      refine (HFU.out _ hM3.fr).mono ?_
      rintro e x4 ⟨rfl, f4⟩
      have hM4 := hM3.go f4 (by simp)
      have hg4 := hM4.hg
      clear hM3 hg3 f4 HFU
      go_wp2_with (refine load_game rfl (.tmp 4) rfl _ rfl g hg4 ?_)
      refine (HNE.out _ hM4.fr).mono ?_
      rintro e x5 ⟨vn, rfl, ho5, f5⟩
      obtain ⟨an, cn, rfl, hcn1, hcn2⟩ := ho5.any
      have hs4 := hM4.size
      have hM5 := hM4.go f5 (by simp)
      have hO5 := ho5.mono (show w.heap.size + 3 ≤ x4.heap.size from hs4)
      have c1 := hM5.c1
      clear hM4 hg4 f5 HNE ho5
      go_wp2_with fail
      refine (HADN.out _ _ hO5.rd).mono ?_
      rintro e x6 ⟨rfl, rfl⟩
      by_cases hov : 1000000000000 < spT (ndL g.tiers cs) ∨ 1000000000000 < A + cr
      · have HR := Lib.hid (HER3.out hov)
        have r0 := hM5.r0
        have r1 := hM5.r1
        have r2' := hM5.r2
        have r3' := hM5.r3
        have f0 := hM5.f0
        have f1 := hM5.f1
        have f2' := hM5.f2
        have f3' := hM5.f3
        have HME := Lib.hid hM5
        clear hM5 hO5
        generalize spT (ndL g.tiers cs) = S0 at *
        by_cases hv1 : 1000000000000 < S0
        · have d1 : decide (1000000000000 < S0) = true := by simpa using hv1
          clear hov hv1
          go_wp2_with fail
          obtain ⟨k0, k1, k2, k3⟩ := cells4 r0 r1 r2' r3' (.int .i64 0) (.int .i64 0) (.int .i64 0) (.slice none 0 0)
          exact bodyPost_ret (v := .tuple #[.agg #[.int .i64 0, .int .i64 0, .int .i64 0, .slice none 0 0], .int .i64 9]) (by simp [results, Try.results29, go_sem, k0, k1, k2, k3]) rfl (HR.out _ (HME.out.put4 _ _ _ _))
        · have d1 : decide (1000000000000 < S0) = false := by simpa using hv1
          have hv2 : 1000000000000 < A + cr := by omega
          have d2 : decide (1000000000000 < A + cr) = true := by simpa using hv2
          clear hov hv1
          go_wp2_with fail
          obtain ⟨k0, k1, k2, k3⟩ := cells4 r0 r1 r2' r3' (.int .i64 0) (.int .i64 0) (.int .i64 0) (.slice none 0 0)
          exact bodyPost_ret (v := .tuple #[.agg #[.int .i64 0, .int .i64 0, .int .i64 0, .slice none 0 0], .int .i64 9]) (by simp [results, Try.results29, go_sem, k0, k1, k2, k3]) rfl (HR.out _ (HME.out.put4 _ _ _ _))
      · have hE4 := HE4.out hov
        have d1 : decide (1000000000000 < spT (ndL g.tiers cs)) = false := by simp; omega
        have d2 : decide (1000000000000 < A + cr) = false := by simp; omega
        obtain ⟨hP1, hP2, hP3, hP4⟩ := HPDF.out (by omega) (by omega)
        have hSP := HNSP.out (by omega) (by omega)
        have hov1 : spT (ndL g.tiers cs) ≤ 1000000000000 := by omega
        have hov2 : A + cr ≤ 1000000000000 := by omega
        have HE := Lib.hid hE4
        have HP1 := Lib.hid hP1
        have HP2 := Lib.hid hP2
        have HP4 := Lib.hid hP4
        have HSP := Lib.hid hSP
        have HM5 := Lib.hid hM5
        have HO5 := Lib.hid hO5
        clear hE4 hP1 hP2 hP4 hSP hov HPDF HNSP HE4 HER3 hM5 hO5
        go_upto_region 12 with (fail)
        have hAQ : ∀ n, Calls Try.prog 69 #[.slice an (ndL g.tiers cs).length cn] (x5.drewN n) fun e w' => e = .returned (.int .i64 (spT (ndL g.tiers cs))) ∧ w' = x5.drewN n := fun n => (HADN.out _ _ (HO5.out.rd.below ((Fr.refl [] x5).drewN n))).mono fun e w' h => ⟨h.1, h.2.symm⟩
        have HAQ := Lib.hid hAQ
        have hav : IntKind.i64.wrap (A + cr) = A + cr := IntWalk.i64_in _ (by omega)
        clear hAQ HADN
        go_quiet ((go_at_call 69; exact Calls.quiet_of_same (HAQ.out _)))
        clear hav HAQ
        have e6 : Fr [] x5 (x5.drewN nq) := (Fr.refl [] x5).drewN nq
        have HM6 := Lib.hid (HM5.out.go e6 (by simp))
        have HO6 := Lib.hid (HO5.out.fr e6 (by simp))
        have c1 := e6.cell_some c1 (by simp)
        generalize x5.drewN nq = x6 at *
        clear e6 HM5 HO5
        go_upto_if 70 with (fail)
        go_cut [16] (fun vp wx => AlM g (.slice a3 ct.length c3) cr cl w wx ∧ OwnI wx (w.heap.size + 3) 3 vp (pdL g.tiers cs (A + cr)))
        case first =>
          by_cases hov : A + cr < spT (ndL g.tiers cs)
          · have hb : ovN g.tiers cs (A + cr) = true := by unfold ovN; simpa using hov
            have hS := rsplit_any (A + cr) _ (ndL g.tiers cs) x6 HO6.out.rd (HSP.out hb) (by have := HNDL.out; omega)
            unfold SpPost at hS
            rw [show spL (A + cr) (ndL g.tiers cs) = pdL g.tiers cs (A + cr) by unfold pdL; rw [if_pos hb]] at hS
            have HS := Lib.hid hS
            have d3 : decide (A + cr < spT (ndL g.tiers cs)) = true := by simpa using hov
            clear hS hov hb
            rw [d3]
            go_wp2_with fail
            refine HS.out.mono ?_
            rintro e x7 ⟨vp, rfl, ho7, f7⟩
            have HM7 := Lib.hid (HM6.out.go f7 (by simp))
            have HO7 := Lib.hid (ho7.mono HM6.out.size)
            clear ho7 f7 c1
            go_wp2_with fail
            go_meet
            exact ⟨HM7.out, HO7.out⟩
          · have hb : ovN g.tiers cs (A + cr) = false := by unfold ovN; simpa using hov
            have hpd : pdL g.tiers cs (A + cr) = ndL g.tiers cs := by unfold pdL; rw [if_neg (by simp [hb])]
            have HPD := Lib.hid hpd
            have d3 : decide (A + cr < spT (ndL g.tiers cs)) = false := by simpa using hov
            clear hov hb hpd
            rw [d3]
            go_wp2_with fail
            go_meet
            exact ⟨HM6.out, by rw [HPD.out]; exact HO6.out⟩
        case rest =>
          obtain ⟨hM7, hO7⟩ := hcut
          obtain ⟨x7, rfl⟩ : ∃ x : World, x = wc := ⟨_, rfl⟩
          obtain ⟨ap, cp, rfl, hcp1, hcp2⟩ := hO7.any
          clear c1 HSP HM6 HO6 d1 d2
          have hAD := radd_any _ _ x7 hO7.rd (fun y hy => ⟨(HP1.out y hy).1, by have := (HP1.out y hy).2; omega⟩) (by rw [HP4.out]; have := cntK_le g.tiers true g.tiers.length; have := HN12.out; omega)
          rw [HP2.out] at hAD
          have HAD := Lib.hid hAD
          have HM7 := Lib.hid hM7
          have HO7 := Lib.hid hO7
          have hrs := HRS.out
          have hRb : 0 ≤ rsT g.tiers cs A B cr ∧ rsT g.tiers cs A B cr ≤ 1000000000000 := by rw [hrs]; omega
          have hRcase : (A - B - pdS g.tiers cs (A + cr) < 0 → rsT g.tiers cs A B cr = 0) ∧ (¬ A - B - pdS g.tiers cs (A + cr) < 0 → rsT g.tiers cs A B cr = A - B - pdS g.tiers cs (A + cr)) := ⟨fun h => by rw [hrs]; omega, fun h => by rw [hrs]; omega⟩
          have HRC := Lib.hid hRcase
          obtain ⟨hR0, hR1⟩ := hRb
          clear hAD hM7 hO7 hrs hRcase HRS
          generalize rsT g.tiers cs A B cr = R at *
          generalize pdS g.tiers cs (A + cr) = S at *
          have hq1 : IntKind.i64.wrap (A - B) = A - B := IntWalk.i64_in _ (by omega)
          have hq2 : IntKind.i64.wrap (A - B - S) = A - B - S := IntWalk.i64_in _ (by omega)
          go_wp2_with fail
          refine HAD.out.mono ?_
          rintro e x8 ⟨rfl, rfl⟩
          clear hq1 hq2 HAD
          go_upto_if 87 with (fail)
          go_cut [17] (fun r wx => r = .int .i64 R ∧ x7 = wx)
          case first =>
            by_cases hneg : A - B - S < 0
            · have HZ := Lib.hid (HRC.out.1 hneg)
              have d3 : decide (A - B - S < 0) = true := by simpa using hneg
              clear hneg
              rw [d3]
              go_wp2_with fail
              go_meet
              exact ⟨by rw [HZ.out], rfl⟩
            · have HZ := Lib.hid (HRC.out.2 (by omega))
              have d3 : decide (A - B - S < 0) = false := by simpa using hneg
              clear hneg
              rw [d3]
              go_wp2_with fail
              go_meet
              exact ⟨by rw [HZ.out], rfl⟩
          case rest =>
            obtain ⟨rfl, rfl⟩ := hcut
            clear HRC
            have hmk := fun w => run_make_row' (P := Try.prog) 31 3 (.int .i64 0) 8 Try.underlying31 infoIntS rfl .i64 .i64 (vsL g.tiers).length (by have := HVSL.out; omega) (by have := HVSL.out; omega) w
            have hg7 := HM7.out.hg
            go_wp2_with (refine load_game rfl (.tmp 4) rfl _ rfl g hg7 ?_)
            refine (HVA.out _ HM7.out.fr).mono ?_
            rintro e x8 ⟨vv, rfl, ho8, f8⟩
            obtain ⟨av, cv, rfl, hcv1, hcv2⟩ := ho8.any
            have hs7 := HM7.out.size
            have HM8 := Lib.hid (HM7.out.go f8 (by simp))
            have HO8 := Lib.hid (HO7.out.fr f8 (by simp))
            clear ho8 hg7 HM7 HO7 f8
            go_upto_region 18 with (fail)
            have ho9 := OwnI.made x8 (vsL g.tiers).length 3 (by unfold maxLen; have := HVSL.out; omega)
            have e9 : Fr [] x8 (x8.alloc (.cells (madeCells #[.int .i64 0] (vsL g.tiers).length) 3)) := (Fr.refl [] x8).alloc _
            have HM9 := Lib.hid (HM8.out.go e9 (by simp))
            have HO9 := Lib.hid (HO8.out.fr e9 (by simp))
            have HZ9 := Lib.hid (ho9.mono HM8.out.size)
            have hg9 := HM9.out.hg
            generalize x8.alloc (.cells (madeCells #[.int .i64 0] (vsL g.tiers).length) 3) = x9 at *
            generalize x8.heap.size = bz at *
            clear hmk ho9 e9 HM8 HO8
            go_wp2_with (refine load_game rfl (.tmp 4) rfl _ rfl g hg9 ?_)
            refine (HVA.out _ HM9.out.fr).mono ?_
            rintro e x10 ⟨vv2, rfl, ho10, f10⟩
            obtain ⟨av2, cv2, rfl, hcw1, hcw2⟩ := ho10.any
            have HM10 := Lib.hid (HM9.out.go f10 (by simp))
            have HO10 := Lib.hid (HO9.out.fr f10 (by simp))
            have HZ10 := Lib.hid (HZ9.out.fr f10 (by simp))
            have hg10 := HM10.out.hg
            have hAV := HADV.out _ _ ho10.rd
            have HAV := Lib.hid hAV
            clear ho10 hg9 f10 HM9 HO9 HZ9 hAV
            go_wp2_with fail
            refine HAV.out.mono ?_
            rintro e x11 ⟨rfl, rfl⟩
            clear HAV
            go_upto_if 95 with (fail)
            go_cut [18, 13] (fun vs rv wx => rv = .int .i64 (alR g s cs cr) ∧ AlM g (.slice a3 ct.length c3) cr cl w wx ∧ OwnI wx (w.heap.size + 3) 3 (.slice ap (pdL g.tiers cs (A + cr)).length cp) (pdL g.tiers cs (A + cr)) ∧ OwnI wx (w.heap.size + 3) 3 vs (shQ g.tiers R))
            case first =>
              have hdv := HDV.out
              cases hd : dvB g.tiers
              · rw [hd] at hdv
                have hal := HAL.out
                rw [hd] at hal
                simp at hal
                have HALL := Lib.hid hal
                have hsq : shQ g.tiers R = List.replicate (vsL g.tiers).length 0 := by unfold shQ; rw [if_neg (by simp [hd])]
                have HSQ := Lib.hid hsq
                clear hal hsq hd
                rw [hdv]
                go_wp2_with fail
                go_meet
                exact ⟨by rw [HALL.out], HM10.out, HO10.out, by rw [HSQ.out]; exact HZ10.out⟩
              · rw [hd] at hdv
                have hal := HAL.out
                rw [hd] at hal
                simp at hal
                have HALL := Lib.hid hal
                have hsq : spL R (vsL g.tiers) = shQ g.tiers R := by unfold shQ; rw [if_pos hd]
                have hE := HVSP.out R hR0 hR1 hd
                have hS := fun v x (h : RdI x v (vsL g.tiers)) => rsplit_any R v (vsL g.tiers) x h hE (by have := HVSL.out; omega)
                unfold SpPost at hS
                rw [hsq] at hS
                have HS := Lib.hid hS
                clear hal hsq hd hE hS
                rw [hdv]
                go_wp2_with (refine load_game rfl (.tmp 4) rfl _ rfl g hg10 ?_)
                refine (HVA.out _ HM10.out.fr).mono ?_
                rintro e x11 ⟨vv3, rfl, ho11, f11⟩
                have HM11 := Lib.hid (HM10.out.go f11 (by simp))
                have HO11 := Lib.hid (HO10.out.fr f11 (by simp))
                have hSS := HS.out _ _ ho11.rd
                have HSS := Lib.hid hSS
                clear hSS ho11 f11 hg10
                go_wp2_with fail
                refine HSS.out.mono ?_
                rintro e x12 ⟨vs, rfl, ho12, f12⟩
                have HM12 := Lib.hid (HM11.out.go f12 (by simp))
                have HO12 := Lib.hid (HO11.out.fr f12 (by simp))
                have HV12 := Lib.hid (ho12.mono HM11.out.size)
                clear ho12 f12
                go_wp2_with fail
                go_meet
                exact ⟨by rw [HALL.out], HM12.out, HO12.out, HV12.out⟩
            case rest =>
              obtain ⟨rfl, hM13, hO13, hV13⟩ := hcut
              obtain ⟨x13, rfl⟩ : ∃ x : World, x = wc := ⟨_, rfl⟩
              obtain ⟨hSH1, hSH2⟩ := HSHF.out R hR0 hR1
              have hg13 := hM13.hg
              have HSH1 := Lib.hid hSH1
              have HSH2 := Lib.hid hSH2
              obtain ⟨as', cs', rfl, hcs1, hcs2⟩ := hV13.any
              have HM13 := Lib.hid hM13
              have HO13 := Lib.hid hO13
              have HV13 := Lib.hid hV13
              clear hM13 hO13 hV13 hSH1 hSH2 HM10 HO10 HZ10 hg10 HADV HVA HVSP HSHF HDV HAL
              go_wp2_with (refine load_game rfl (.tmp 4) rfl _ rfl g hg13 ?_)
              refine (HPLA.out true _ _ _ HM13.out.fr HO13.out.rd HP4.out).mono ?_
              rintro e x14 ⟨u1, rfl, ho14, f14⟩
              obtain ⟨a1, cc1, rfl, hce1, hce2⟩ := ho14.any
              have HM14 := Lib.hid (HM13.out.go f14 (by simp))
              have HV14 := Lib.hid (HV13.out.fr f14 (by simp))
              have HU14 := Lib.hid (ho14.mono HM13.out.size)
              have hg14 := HM14.out.hg
              clear ho14 hg13 f14 HM13 HO13 HV13
              go_wp2_with (refine load_game rfl (.tmp 4) rfl _ rfl g hg14 ?_)
              refine (HPLA.out false _ _ _ HM14.out.fr HV14.out.rd HSH2.out).mono ?_
              rintro e x15 ⟨u2, rfl, ho15, f15⟩
              obtain ⟨b1, cb1, rfl, hcf1, hcf2⟩ := ho15.any
              have HM15 := Lib.hid (HM14.out.go f15 (by simp))
              have HU15 := Lib.hid (HU14.out.fr f15 (by simp))
              have HW15 := Lib.hid (ho15.mono HM14.out.size)
              clear ho15 hg14 f15 HM14 HV14 HU14
              rw [plL_len] at hce1 hcf1 ⊢
              rw [plL_len]
              have HRU := HU15.out.rd
              have HRW := HW15.out.rd
              rw [plL_len] at HRU HRW
              obtain ⟨_, _, hh1, _, _, ru⟩ := HRU
              injection hh1 with hh1a hh1b hh1c
              subst hh1a hh1c
              obtain ⟨_, _, hh2, _, _, rw'⟩ := HRW
              injection hh2 with hh2a hh2b hh2c
              subst hh2a hh2c
              have hr3 := HR3.out.below HM15.out.fr
              obtain ⟨_, _, hh3, _, _, rc⟩ := hr3
              injection hh3 with hh3a hh3b hh3c
              subst hh3a hh3c
              rw [plL_len] at ru rw'
              obtain ⟨n, hN⟩ : ∃ n, n = g.tiers.length := ⟨_, rfl⟩
              have htl := tlL_len g.tiers cs ct A B cr
              have hctl := HCTL.out
              have hp1 := fun i => plF_bd (T := g.tiers) (fx := true) (by omega) HP1.out i
              have hp2 := fun i => plF_bd (T := g.tiers) (fx := false) (by omega) HSH1.out i
              have htp := HTP.out
              have hcb := HCTB.out
              have hat1 := fun i hi => plL_at (T := g.tiers) (fx := true) (l := pdL g.tiers cs (A + cr)) (i := i) hi
              have hat2 := fun i hi => plL_at (T := g.tiers) (fx := false) (l := shQ g.tiers R) (i := i) hi
              have h21 : ∀ w b, GmAt w b g → w.cell? ⟨b, 21, none⟩ = some (.slice g.ta g.tiers.length g.tc) := fun w b h => h.cell 21 _ rfl
              have hn12 := HN12.out.2
              rw [← hN] at htl hctl ru rw' hce1 hcf1 htp hcb hat1 hat2 h21 hn12 ⊢
              rw [hctl] at rc hlc ⊢
              have HTL := Lib.hid htl
              have HPB1 := Lib.hid hp1
              have HPB2 := Lib.hid hp2
              have HCB := Lib.hid hcb
              have hsum : ∀ i, i < n → (plL g.tiers true (pdL g.tiers cs (A + cr))).getD i 0 + (plL g.tiers false (shQ g.tiers R)).getD i 0 + ct.getD i 0 = (tlL g.tiers cs ct A B cr).getD i 0 := fun i hi => by rw [hat1 i hi, hat2 i hi]; exact htp i hi
              have hb1 : ∀ i, i < n → 0 ≤ (plL g.tiers true (pdL g.tiers cs (A + cr))).getD i 0 ∧ (plL g.tiers true (pdL g.tiers cs (A + cr))).getD i 0 ≤ 1000000000000 := fun i hi => by rw [hat1 i hi]; exact hp1 i
              have hb2 : ∀ i, i < n → 0 ≤ (plL g.tiers false (shQ g.tiers R)).getD i 0 ∧ (plL g.tiers false (shQ g.tiers R)).getD i 0 ≤ 1000000000000 := fun i hi => by rw [hat2 i hi]; exact hp2 i
              have HSUM := Lib.hid hsum
              have HB1 := Lib.hid hb1
              have HB2 := Lib.hid hb2
              have HRU := Lib.hid ru
              have HRW := Lib.hid rw'
              have HRC := Lib.hid rc
              have H21 := Lib.hid h21
              have hM15 := HM15.out
              rw [hctl] at hM15
              have HM15 := Lib.hid hM15
              clear htl hctl hp1 hp2 htp hcb hat1 hat2 h21 ru rw' rc hsum hb1 hb2 hM15 HTP HCTB HSH1 HU15 HW15 HP1 HP2 HP4 HPLA HSH2 HPB1 HPB2 hcp1 hcp2 hcs1 hcs2 hcv1 hcv2 hcw1 hcw2 hN HN12 HNDL HVSL HCTL HR3
              generalize plL g.tiers true (pdL g.tiers cs (A + cr)) = PL1 at *
              generalize plL g.tiers false (shQ g.tiers R) = PL2 at *
              generalize tlL g.tiers cs ct A B cr = TL at *
              generalize pdL g.tiers cs (A + cr) = PD at *
              generalize shQ g.tiers R = SQ at *
              have hs15 := HM15.out.size
              go_wp2_with fail
              go_loopw [22, 21] (fun i vT wr => ∃ k : Nat, k ≤ n ∧ i = .int .i64 k ∧ OwnI wr x15.heap.size 3 vT (TL.take k) ∧ Fr [] x15 wr ∧ Hid (∀ j, j < k → TL.getD j 0 ≤ 1000000000000)) (fun i _ _ => n - (intOf i).toNat)
              case atStart => exact ⟨0, by omega, rfl, by simpa using OwnI.nil _ _ _, Fr.refl _ _, Lib.hid (fun j hj => by omega)⟩
              case round =>
                obtain ⟨k, hk, rfl, hoT, hf, HH⟩ := hrel
                have hM16 := HM15.out.go hf (by simp)
                have c21 := H21.out _ _ hM16.hg
                by_cases hlt : k < n
                · obtain ⟨g1, o1, rfl, hc1⟩ := HRU.out k hlt
                  obtain ⟨g2, o2, rfl, hc2⟩ := HRW.out k hlt
                  obtain ⟨g3, o3, rfl, hc3⟩ := HRC.out k hlt
                  have z1 := hf.cell_some hc1 (by simp)
                  have z2 := hf.cell_some hc2 (by simp)
                  have z3 := hf.cell_some hc3 (by simp)
                  have k0 := hM16.c0
                  have hsum := HSUM.out k hlt
                  have hb1 := HB1.out k hlt
                  have hb2 := HB2.out k hlt
                  have hb3 := HCB.out k hlt
                  have hiy := fun h => hiB_yes (l := TL) (k := k) (by rw [HTL.out]; exact hlt) h
                  have hnx : TL.getD k 0 ≤ 1000000000000 → ∀ j, j < k + 1 → TL.getD j 0 ≤ 1000000000000 := fun hY j hj => by
                    by_cases e : j = k
                    · rw [e]; exact hY
                    · exact HH.out j (by omega)
                  have hts := take_snoc' (l := TL) (k := k) (by rw [HTL.out]; exact hlt)
                  have htk : (TL.take k).length ≤ 1000000000 := by rw [List.length_take]; omega
                  have hkn : (k : Int) < (n : Int) := by omega
                  have HIY := Lib.hid hiy
                  have HNX := Lib.hid hnx
                  have HTS := Lib.hid hts
                  have HTK := Lib.hid htk
                  have HOT := Lib.hid hoT
                  have HF := Lib.hid hf
                  have HM16 := Lib.hid hM16
                  clear hiy hnx hts htk hoT hf hM16 hc1 hc2 hc3
                  generalize PL1.getD k 0 = p at *
                  generalize PL2.getD k 0 = q at *
                  generalize ct.getD k 0 = c at *
                  generalize TL.getD k 0 = Y at *
                  obtain rfl : c = Y - (p + q) := by omega
                  have hq1 : IntKind.i64.wrap (p + q) = p + q := IntWalk.i64_in _ (by omega)
                  have hq2 : IntKind.i64.wrap (p + q + (Y - (p + q))) = Y := by rw [show p + q + (Y - (p + q)) = Y by omega]; exact IntWalk.i64_in _ (by omega)
                  go_wp2_with fail
                  go_quiet (fail)
                  clear hq1 hq2
                  have e6 : Fr [] wr (wr.drewN nq) := (Fr.refl [] wr).drewN nq
                  have HM17 := Lib.hid (HM16.out.go e6 (by simp))
                  have HO17 := Lib.hid (HOT.out.fr e6 (by simp))
                  have HF17 := Lib.hid (HF.out.trans e6)
                  generalize wr.drewN nq = wq at *
                  clear e6 HM16 HOT HF z1 z2 z3 k0 c21
                  by_cases hbig : 1000000000000 < Y
                  · have hE9 := HE.out
                    rw [HIY.out hbig] at hE9
                    simp only [if_true] at hE9
                    have HR := Lib.hid (HER9.out hE9)
                    have d9 : decide (1000000000000 < Y) = true := by simpa using hbig
                    have hM17 := HM17.out
                    have r0 := hM17.r0
                    have r1 := hM17.r1
                    have r2' := hM17.r2
                    have r3' := hM17.r3
                    have f0 := hM17.f0
                    have f1 := hM17.f1
                    have f2' := hM17.f2
                    have f3' := hM17.f3
                    have HME := Lib.hid hM17
                    clear hM17 hE9 hbig
                    go_wp2_with fail
                    obtain ⟨k0, k1, k2, k3⟩ := cells4 r0 r1 r2' r3' (.int .i64 0) (.int .i64 0) (.int .i64 0) (.slice none 0 0)
                    exact bodyPost_ret (v := .tuple #[.agg #[.int .i64 0, .int .i64 0, .int .i64 0, .slice none 0 0], .int .i64 9]) (by simp [results, Try.results29, go_sem, k0, k1, k2, k3]) rfl (HR.out _ (HME.out.put4 _ _ _ _))
                  · have d9 : decide (1000000000000 < Y) = false := by simpa using hbig
                    have HNXX := Lib.hid (HNX.out (by omega))
                    have hszq : x15.heap.size ≤ wq.heap.size := HF17.out.size
                    clear hbig
                    generalize TL.take k = lT at *
                    go_wp2_with (at_builtin; refine app_iF _ _ rfl Y rfl (.tmp 137) (.tmp 139) rfl x15.heap.size u21 lT rfl HO17.out rfl HTK.out hszq ?_; intro v' wn hon hfn; have HFN := Lib.hid (hfn [] x15 (fun q hq => .inr (HO17.out.block q hq).1) HF17.out); have HON := Lib.hid hon; clear hon hfn)
                    go_roundw
                    case rel => exact ⟨k + 1, by omega, by go_num, by rw [HTS.out]; exact HON.out, HFN.out, HNXX⟩
                    case measure => simp [intOf]; omega
                · obtain rfl : n = k := by omega
                  have hno := hiB_no (l := TL) (by rw [HTL.out]; exact HH.out)
                  have hE0 := HE.out
                  rw [hno] at hE0
                  simp only [Bool.false_eq_true, if_false] at hE0
                  have HFIN := Lib.hid (HOK.out hE0)
                  rw [List.take_of_length_le (by rw [HTL.out]; exact Nat.le_refl _)] at hoT
                  obtain ⟨aT, cT, hvT, hT1, hT2⟩ := hoT.any
                  rw [HTL.out] at hvT hT1
                  subst hvT
                  have r0 := hM16.r0
                  have r1 := hM16.r1
                  have r2' := hM16.r2
                  have r3' := hM16.r3
                  have f0 := hM16.f0
                  have f1 := hM16.f1
                  have f2' := hM16.f2
                  have f3' := hM16.f3
                  have HM16 := Lib.hid hM16
                  have HOT := Lib.hid hoT
                  clear hM16 hoT hno hE0 hlt HH hf
                  generalize alR g s cs cr = B' at *
                  go_wp2_with fail
                  obtain ⟨k0, k1, k2, k3⟩ := cells4 r0 r1 r2' r3' (.int .i64 s) (.int .i64 A) (.int .i64 B') (.slice aT n cT)
                  refine bodyPost_ret (v := .tuple #[.agg #[.int .i64 s, .int .i64 A, .int .i64 B', .slice aT n cT], .int .i64 0]) (by simp [results, Try.results29, go_sem, k0, k1, k2, k3]) rfl (HFIN.out _ _ ?_ (HM16.out.put4 _ _ _ _))
                  have e4 : Fr [w.heap.size + 2] wr ((((wr.setCell ⟨w.heap.size + 2, 0, none⟩ (.int .i64 s)).setCell ⟨w.heap.size + 2, 1, none⟩ (.int .i64 A)).setCell ⟨w.heap.size + 2, 2, none⟩ (.int .i64 B')).setCell ⟨w.heap.size + 2, 3, none⟩ (.slice aT n cT)) :=
                    ((((Fr.refl _ _).setCell (.inl (by simp)) _).setCell (.inl (by simp)) _).setCell (.inl (by simp)) _).setCell (.inl (by simp)) _
                  exact (HOT.out.fr e4 (fun i hi => by have := HOT.out.block i hi; simp; omega)).mono (by omega)
    · have HR := Lib.hid (hER _ (hEA0 hch ha) ha)
      have e1 : (EA != 0) = true := by simpa using ha
      rw [hch] at hCK
      have HCK := Lib.hid hCK
      clear hCK hAR hEA0 hEA1 hER h2' h3' hok hch ha
      go_enter Try.func29, Try.ntmps29
      go_upto_region 1 with (refine box_game rfl (.tmp 0) rfl g rfl ?_; intro w1 hg1 hz1 hf1)
      have hM := alM_start (vt := .slice a3 ct.length c3) (cr := cr) (cl := cl) (T1 := 43) (T2 := 45) hg1 hz1 hf1
      simp only [Nat.add_assoc, Nat.reduceAdd]
      generalize World.alloc _ _ = x at hM ⊢
      clear hg1 hz1 hf1
      have hg := hM.hg
      go_wp2_with (refine load_game rfl (.tmp 4) rfl _ rfl g hg ?_)
      refine (HCK.out _ hM.fr).mono ?_
      rintro e x2 ⟨S, rfl, f2⟩
      have hM2 := hM.go f2 (by simp)
      have hg2 := hM2.hg
      have q0 := hM2.c0
      have q1 := hM2.c1
      have q2 := hM2.c2
      clear hg hM f2 HCK
      go_wp2_with (refine load_game rfl (.tmp 4) rfl _ rfl g hg2 ?_)
      refine (HAR.out _ hM2.fr).mono ?_
      rintro e x3 ⟨rfl, f3⟩
      have hM3 := hM2.go f3 (by simp)
      have r0 := hM3.r0
      have r1 := hM3.r1
      have r2' := hM3.r2
      have r3' := hM3.r3
      have f0 := hM3.f0
      have f1 := hM3.f1
      have f2' := hM3.f2
      have f3' := hM3.f3
      have HME := Lib.hid hM3
      clear hM2 hg2 q0 q1 q2 f3 hM3
      go_wp2_with fail
      obtain ⟨k0, k1, k2, k3⟩ := cells4 r0 r1 r2' r3' (.int .i64 0) (.int .i64 0) (.int .i64 0) (.slice none 0 0)
      exact bodyPost_ret (v := .tuple #[.agg #[.int .i64 0, .int .i64 0, .int .i64 0, .slice none 0 0], .int .i64 EA]) (by simp [results, Try.results29, go_sem, k0, k1, k2, k3]) rfl (HR.out _ (HME.out.put4 _ _ _ _))
  · have hE : alE g s cs ct cr cl = chkE g := by
      have hf : fuE g s = chkE g := by unfold fuE; rw [if_pos hch]
      rw [alE_1 (by rw [hf]; exact hch), hf]
    have HR := Lib.hid (hER _ hE hch)
    have e1 : (chkE g != 0) = true := by simpa using hch
    clear hCK hAR hEA0 hEA1 hER h2' h3' hok hch hE
    generalize chkE g = E at *
    go_enter Try.func29, Try.ntmps29
    go_upto_region 1 with (refine box_game rfl (.tmp 0) rfl g rfl ?_; intro w1 hg1 hz1 hf1)
    have hM := alM_start (vt := .slice a3 ct.length c3) (cr := cr) (cl := cl) (T1 := 43) (T2 := 45) hg1 hz1 hf1
    simp only [Nat.add_assoc, Nat.reduceAdd]
    generalize World.alloc _ _ = x at hM ⊢
    clear hg1 hz1 hf1
    have hg := hM.hg
    go_wp2_with (refine load_game rfl (.tmp 4) rfl _ rfl g hg ?_)
    refine (HCK.out _ hM.fr).mono ?_
    rintro e x2 ⟨S, rfl, f2⟩
    have hM2 := hM.go f2 (by simp)
    have hg2 := hM2.hg
    have q0 := hM2.c0
    have q1 := hM2.c1
    have q2 := hM2.c2
    clear hg hM f2 HCK
    have r0 := hM2.r0
    have r1 := hM2.r1
    have r2' := hM2.r2
    have r3' := hM2.r3
    have f0 := hM2.f0
    have f1 := hM2.f1
    have f2' := hM2.f2
    have f3' := hM2.f3
    have HME := Lib.hid hM2
    clear hM2 hg2 q0 q1 q2
    go_wp2_with fail
    obtain ⟨k0, k1, k2, k3⟩ := cells4 r0 r1 r2' r3' (.int .i64 0) (.int .i64 0) (.int .i64 0) (.slice none 0 0)
    exact bodyPost_ret (v := .tuple #[.agg #[.int .i64 0, .int .i64 0, .int .i64 0, .slice none 0 0], .int .i64 E]) (by simp [results, Try.results29, go_sem, k0, k1, k2, k3]) rfl (HR.out _ (HME.out.put4 _ _ _ _))
end Go.Proofs.Ytdinjekpcgndmaa
