/-
  RollWinners: for every game, amounts, counts and number of rolls the statement returns true: where the pools lie behind Flow. No conditions.
-/
import Derived.Test.YtdinjekpcgndmaaAwake
import Derived.Test.YtdinjekpcgndmaaRollLaw
import Derived.Test.YtdinjekpcgndmaaIntArg
import Derived.ProofKit
import Derived.BigQuiet
import Derived.OpenShut
import Derived.ShutString
import Derived.ChangeOld
namespace Go.Proofs.Ytdinjekpcgndmaa.rollWinners
open Go.ChangeShapes Go.WideShapes Go.ChangeAt Go.RowKit
open Go.ChangeMaps (open_string shut_string)
set_option linter.unusedVariables false
set_option maxRecDepth 20000 in
set_option maxHeartbeats 3000000 in
theorem walk (v0 : Value) (g : Gm) (v1 : Value) (ts : List Int) (v2 : Value) (cs : List Int) (rolls : Int) (w : World) (hv0 : v0 = g.val) (hok : g.Ok w) (hr1 : RdI w v1 ts) (hr2 : RdI w v2 cs) (hro : (Lit.int .i64 rolls).wf = true) :
    Calls Try.prog 7 #[v0, v1, v2, .int .i64 rolls] w fun e w' => e = .returned (.bool true) ∧ Below w.heap.size w w' := by
  subst hv0
  have hFlow := fun w' (h : Fr [] w w') => flow_any g v1 v2 ts cs rolls w' (hok.fr h) (hr1.below h) (hr2.below h)
  have h21 : ∀ w b, GmAt w b g → w.cell? ⟨b, 21, none⟩ = some (.slice g.ta g.tiers.length g.tc) := fun w b h => h.cell 21 _ rfl
  have hf0 := @fl_law0 g ts cs rolls
  have hfi := fun h => (@fl_facts g ts cs rolls h).2.2.2.2
  obtain ⟨a1, k1, rfl, hk1, hk2, hrd1⟩ := hr1
  obtain ⟨a2, k2, rfl, hk3, hk4, hrd2⟩ := hr2
  have hl1 : ts.length ≤ 9223372036854775807 := Nat.le_trans hk1 hk2
  have hl2 : cs.length ≤ 9223372036854775807 := Nat.le_trans hk3 hk4
  unfold FlPost at hFlow
  generalize flE g ts cs rolls = E2 at *
  generalize flP g ts cs rolls = P at *
  generalize flC g ts cs rolls = C at *
  generalize flN g ts cs rolls = N at *
  obtain ⟨n, hn⟩ : ∃ n, n = g.tiers.length := ⟨_, rfl⟩
  rw [← hn] at h21 hf0 hfi
  have HFLOW := Lib.hid hFlow
  have H21 := Lib.hid h21
  have HF0 := Lib.hid hf0
  have HFI := Lib.hid hfi
  have HN := Lib.hid hn
  have HOK := Lib.hid hok
  have HRD1 := Lib.hid hrd1
  have HRD2 := Lib.hid hrd2
  clear hFlow h21 hf0 hfi hok hn hk1 hk2 hk3 hk4 hrd1 hrd2
  by_cases hb1 : 40 < ts.length
  · have d1 : decide (40 < (ts.length : Int)) = true := by simp; omega
    go_enter Try.func7, Try.ntmps7
    go_wp2_with (refine box_game rfl (.tmp 0) rfl g rfl ?_; intro w1 hg1 hz1 hf1)
    refine (awake_any _).mono ?_
    rintro e w2 ⟨rfl, f2⟩
    go_wp2_with fail
    go_ret
    exact ⟨rfl, (hf1.trans f2).below⟩
  have d1 : decide (40 < (ts.length : Int)) = false := by simp; omega
  by_cases hb2 : 40 < cs.length
  · have d2 : decide (40 < (cs.length : Int)) = true := by simp; omega
    go_enter Try.func7, Try.ntmps7
    go_wp2_with (refine box_game rfl (.tmp 0) rfl g rfl ?_; intro w1 hg1 hz1 hf1)
    refine (awake_any _).mono ?_
    rintro e w2 ⟨rfl, f2⟩
    go_wp2_with fail
    go_ret
    exact ⟨rfl, (hf1.trans f2).below⟩
  have d2 : decide (40 < (cs.length : Int)) = false := by simp; omega
  go_enter Try.func7, Try.ntmps7
  go_wp2_with (first | (refine box_game rfl (.tmp 0) rfl g rfl ?_; intro w1 hg1 hz1 hf1) | (refine load_game rfl (.tmp 4) rfl _ rfl g hg1 ?_))
  refine (HFLOW.out _ hf1).mono ?_
  rintro e w3 ⟨vp, vc, rfl, op, oc, f3⟩
  have hg3 := hg1.fr f3 (by simp)
  have hF3 := hf1.trans f3
  have c21 := H21.out _ _ hg3
  have HF3 := Lib.hid hF3
  have HDONE := Lib.hid (fun w4 => awake_any w4)
  clear hg1 hz1 hf1 f3 HFLOW hF3 hg3
  by_cases h2 : E2 = 0
  · obtain ⟨p1, p2, p3, p4, p5, p6, p7, p8, p9, p10, p11, p12⟩ := HF0.out h2
    obtain ⟨hpos, hinv, _, _, _⟩ := HFI.out h2
    obtain ⟨gp, kp, rfl, _, _, _, _⟩ := op.form (by omega)
    obtain ⟨gc, kc, rfl, _, _, _, _⟩ := oc.form (by omega)
    rw [p1] at op ⊢
    rw [p2] at oc ⊢
    have e2 : (E2 != 0) = false := by simpa using h2
    have HINV := Lib.hid hinv
    have HPOS := Lib.hid hpos
    have HRD1 := Lib.hid HRD1.out
    have HRD2 := Lib.hid HRD2.out
    rw [p3] at HRD1 hl1 ⊢
    rw [p4] at HRD2 hl2 ⊢
    have HOP := Lib.hid op
    have HOC := Lib.hid oc
    have HP1 := Lib.hid p1
    have HP2 := Lib.hid p2
    obtain ⟨x0, hx0⟩ : ∃ x, g.tiers[0]? = some x := ⟨_, List.getElem?_eq_getElem (by have := HN.out; omega)⟩
    obtain ⟨b, o, hta, _⟩ := RdF.at (f := Ti.cells) HOK.out.tiers.rd hx0
    rw [hta] at c21
    have HTA := Lib.hid hta
    have hnn : ((n : Int) != n) = false := by simp
    clear p1 p2 p3 p4 p5 p6 p7 p8 p9 p10 h2 HF0 HFI hta hx0 d2 d1 hb1 hb2 op oc hinv hpos
    go_wp2_with fail
    go_loopw [13] (fun i wr => ∃ k : Nat, k ≤ n ∧ i = .int .i64 k ∧ Fr [] w3 wr) (fun i _ => n - (intOf i).toNat)
    case atStart => exact ⟨0, by omega, rfl, Fr.refl _ _⟩
    case round =>
      obtain ⟨k, hk, rfl, hf⟩ := hrel
      have r21 := hf.cell_some c21 (by simp)
      have hFr := HF3.out.trans hf
      by_cases hlt : k < n
      · obtain ⟨x, hx⟩ : ∃ x, g.tiers[k]? = some x := ⟨_, List.getElem?_eq_getElem (by have := HN.out; omega)⟩
        obtain ⟨b1, o1, hta', hcell⟩ := RdF.at (f := Ti.cells) HOK.out.tiers.rd hx
        rw [HTA.out] at hta'
        simp only [Option.some.injEq, Addr.mk.injEq, and_true] at hta'
        obtain ⟨rfl, rfl⟩ := hta'
        have c4 := hFr.cell_some (hcell 4 _ rfl) (by simp)
        obtain ⟨g1, o1, rfl, hct⟩ := HRD1.out k hlt
        obtain ⟨g2, o2, rfl, hcc⟩ := HRD2.out k hlt
        have ct := hFr.cell_some hct (by simp)
        have cc := hFr.cell_some hcc (by simp)
        have cp := hf.cell_some (HOP.out.cell k (by have := HP1.out; omega)) (by simp)
        have ck := hf.cell_some (HOC.out.cell k (by have := HP2.out; omega)) (by simp)
        have hkd : kd g.tiers k = x.kind := by simp [kd, List.getD, hx]
        have hfix := HINV.out.fixed k (by have := HN.out; omega)
        have hnone := HINV.out.none k
        have hsome := HINV.out.some k hlt
        have hshare := HINV.out.share k
        have hbc := HINV.out.bc k
        have hyp := HPOS.out k
        rw [hkd] at hfix hnone hsome hshare
        rw [if_pos hlt] at hfix
        generalize P.getD k 0 = p at *
        generalize C.getD k 0 = c at *
        generalize ts.getD k 0 = t at *
        generalize cs.getD k 0 = y at *
        generalize x.kind = tk at *
        have hkn : (k : Int) < (n : Int) := by omega
        have hk0 : (0 : Int) ≤ (k : Int) := by omega
        have hc0 : 0 ≤ c := hbc.1
        have HFR := Lib.hid hFr
        clear hcell hx hct hcc hkd hbc hFr
        by_cases h1 : tk = 1
        · obtain ⟨rfl, rfl⟩ := hfix h1
          have e1 : (tk == 1) = true := by simpa using h1
          have et : (p != p) = false := by simp
          clear hfix hnone hsome hshare h1 hyp hc0
          go_wp2_with fail
          refine wp_region_quiet_lit (by kernel_rfl) (by kernel_rfl) ?_
          dsimp only [List.append]
          repeat (go_big_quiet_step (fail))
          refine wpQuiet_nil ?_
          intro _ hw'
          obtain ⟨nq, hw''⟩ := hw'
          subst hw''
          go_wp2
          exact ⟨⟨k + 1, by omega, by go_num, hf.drewN _⟩, by simp [intOf]; omega⟩
        · have e1 : (tk == 1) = false := by simpa using h1
          have ecn : decide (c < 0) = false := by simp; omega
          by_cases hy : y = 0
          · obtain rfl := hnone h1 hy
            subst hy
            by_cases hcz : c = 0
            · have ec : (c != 0) = false := by simpa using hcz
              clear hfix hnone hsome hshare h1 hyp hcz
              go_wp2_with fail
              refine wp_region_quiet_lit (by kernel_rfl) (by kernel_rfl) ?_
              dsimp only [List.append]
              repeat (go_big_quiet_step (fail))
              refine wpQuiet_nil ?_
              intro _ hw'
              obtain ⟨nq, hw''⟩ := hw'
              subst hw''
              go_wp2
              exact ⟨⟨k + 1, by omega, by go_num, hf.drewN _⟩, by simp [intOf]; omega⟩
            · have ec : (c != 0) = true := by simpa using hcz
              clear hfix hnone hsome hshare h1 hyp hcz
              go_wp2_with fail
              refine wp_region_quiet_lit (by kernel_rfl) (by kernel_rfl) ?_
              dsimp only [List.append]
              repeat (go_big_quiet_step (fail))
              refine wpQuiet_nil ?_
              intro _ hw'
              obtain ⟨nq, hw''⟩ := hw'
              subst hw''
              go_wp2
              exact ⟨⟨k + 1, by omega, by go_num, hf.drewN _⟩, by simp [intOf]; omega⟩
          · have hpt := hsome h1 hy
            have ey : (y == 0) = false := by simpa using hy
            have ey2 : decide (0 < y) = true := by simp; omega
            have ep : decide (p < t) = false := by simp; omega
            by_cases hcz : c = 0
            · have ec : (c != 0) = false := by simpa using hcz
              clear hfix hnone hsome hshare h1 hyp hcz hy
              go_wp2_with fail
              refine wp_region_quiet_lit (by kernel_rfl) (by kernel_rfl) ?_
              dsimp only [List.append]
              repeat (go_big_quiet_step (fail))
              refine wpQuiet_nil ?_
              intro _ hw'
              obtain ⟨nq, hw''⟩ := hw'
              subst hw''
              go_wp2
              exact ⟨⟨k + 1, by omega, by go_num, hf.drewN _⟩, by simp [intOf]; omega⟩
            · have ec : (c != 0) = true := by simpa using hcz
              have e22 : (tk == 2) = false := by
                rw [beq_eq_false_iff_ne]
                intro h; exact hcz (hshare h hy)
              clear hfix hnone hsome hshare h1 hyp hcz hy
              go_wp2_with fail
              refine wp_region_quiet_lit (by kernel_rfl) (by kernel_rfl) ?_
              dsimp only [List.append]
              repeat (go_big_quiet_step (fail))
              refine wpQuiet_nil ?_
              intro _ hw'
              obtain ⟨nq, hw''⟩ := hw'
              subst hw''
              go_wp2
              exact ⟨⟨k + 1, by omega, by go_num, hf.drewN _⟩, by simp [intOf]; omega⟩
      · obtain rfl : n = k := by omega
        go_wp2_with fail
        refine (HDONE.out _).mono ?_
        rintro e w9 ⟨rfl, f9⟩
        go_wp2_with fail
        go_ret
        exact ⟨rfl, (hFr.trans f9).below⟩
  · have e2 : (E2 != 0) = true := by simpa using h2
    clear h2
    go_wp2_with fail
    refine (HDONE.out _).mono ?_
    rintro e w9 ⟨rfl, f9⟩
    go_wp2_with fail
    go_ret
    exact ⟨rfl, (HF3.out.trans f9).below⟩
theorem own : ownKnob Try.prog.godebug = none := by kernel_rfl
theorem laidOut : laidOutB Try.prog = true := by kernel_rfl
set_option maxRecDepth 100000 in
theorem lifted (os : Os) (started : os.Started) (H : Type) (enc : TypeId × Value → H) :
    ReturnsInHanded {} Try.checked os 7 .any (Rows.rollWinnersSpec.pre6 enc Try.prog Try.f7 Rows.rollWinnersRow.domain false) (Rows.rollWinnersSpec.post enc Try.prog Try.f7 false true false false) := by
  refine returnsInHanded_of_change (C := Try.checked) own started (by kernel_rfl) Try.func7
    (ChangeSpec.witness6 (enc := enc) (C := Try.checked) false ⟨#[], #[.agg #[.string ByteArray.empty, .int .i64 0, .int .i64 0, .int .i64 0, .int .i64 0, .int .i64 0, .int .i64 0, .int .i64 0, .int .i64 0, .int .i64 0, .int .i64 0, .int .i64 0, .int .i64 0, .int .i64 0, .int .i64 0, .int .i64 0, .int .i64 0, .int .i64 0, .int .i64 0, .int .i64 0, .slice none 0 0, .slice none 0 0], .slice none 0 0, .slice none 0 0, .int .i64 0], []⟩ 8 (by kernel_rfl) (by kernel_rfl) (by kernel_rfl) (by kernel_rfl)) ?_
  intro W base args ds gs before hval0 hW hcnd _
  have hval : ∀ (j : Nat) t v, Try.f7.params[j]? = some t → args[j]? = some v → Value.okWide Try.prog W .any base t v := hval0
  have hW' := hW
  obtain ⟨p, q, hA0, hV, rfl, hfz, hnd⟩ := hW
  have hA : DataW.TrodAll enc Try.prog W 0 (fun _ => true) true Try.f7.params.toList args.toList ds p := hA0
  rw [Try.params7] at hA hval
  obtain ⟨v0, vs0, d0, ds0, p0, q0, hargs, rfl, rfl, h0, r0⟩ := trodAll_cons hA
  obtain ⟨v1, vs1, d1, ds1, p1, q1, rfl, rfl, rfl, h1, r1⟩ := trodAll_cons r0
  obtain ⟨v2, vs2, d2, ds2, p2, q2, rfl, rfl, rfl, h2, r2⟩ := trodAll_cons r1
  obtain ⟨v3, vs3, d3, ds3, p3, q3, rfl, rfl, rfl, h3, r3⟩ := trodAll_cons r2
  obtain ⟨rfl, rfl, rfl⟩ := trodAll_nil r3
  obtain rfl : args = #[v0, v1, v2, v3] := by cases args; simp_all
  obtain ⟨rfl, rfl⟩ := trodVars_none hV
  have k0 := h0
  have lt0 : ∀ x ∈ p0, x.block < W.heap.size := by obtain ⟨m, hm⟩ := k0; exact DataW.trod_lt m _ _ _ hm
  obtain ⟨g0, hv0, hg0⟩ := open_game (hval 0 25 v0 rfl rfl) h0
  have k1 := h1
  have lt1 : ∀ x ∈ p1, x.block < W.heap.size := by obtain ⟨m, hm⟩ := k1; exact DataW.trod_lt m _ _ _ hm
  obtain ⟨l1, hr1, _⟩ := open_intarg (hval 1 31 v1 rfl rfl) h1
  have k2 := h2
  have lt2 : ∀ x ∈ p2, x.block < W.heap.size := by obtain ⟨m, hm⟩ := k2; exact DataW.trod_lt m _ _ _ hm
  obtain ⟨l2, hr2, _⟩ := open_intarg (hval 2 31 v2 rfl rfl) h2
  obtain ⟨a3, rfl, rfl, rfl, w3⟩ := open_int Try.underlying3 (hval 3 3 v3 rfl rfl) h3
  clear hA0 hval0
  refine (walk v0 g0 v1 l1 v2 l2 a3 W hv0 hg0 hr1 hr2 w3).mono fun e W' ⟨he, bel⟩ => ?_
  subst he
  exact ⟨_, rfl, _, _, _, [], _, [], hW', trodAll_mk1 (shut_bool Try.underlying4 _), (trodAll_cons_mk (Below.trod laidOut (by kernel_rfl) (of_decide_eq_true (by kernel_rfl)) k0 bel lt0) (trodAll_cons_mk (Below.trod laidOut (by kernel_rfl) (of_decide_eq_true (by kernel_rfl)) k1 bel lt1) (trodAll_cons_mk (Below.trod laidOut (by kernel_rfl) (of_decide_eq_true (by kernel_rfl)) k2 bel lt2) (trodAll_cons_mk (shut_int Try.underlying3 w3) trodAll_mk0)))), rfl, bel.frame _, fun h => by cases h⟩
theorem over : Rows.rollWinnersRow.holds Try.pinned (OpenSpec.ofChange Rows.rollWinnersSpec) :=
  OpenClaim.holds_of_wide 7 Try.f7 rfl rfl rfl rfl rfl rfl rfl ⟨rfl, rfl, rfl, rfl, rfl⟩ rfl rfl rfl rfl rfl (by kernel_rfl) Try.func7 (by kernel_rfl)
    (of_decide_eq_true (by kernel_rfl)) (by unfold Func.isWrapper; first | (rw [if_pos (by decide +kernel)]; kernel_rfl) | (rw [if_neg (by decide +kernel)]; exact ⟨rfl, rfl⟩))
    (fun os started H enc _ => lifted os started H enc)
/-- THE STATEMENT -/
theorem proved : Rows.RollWinnersSaid := over
end Go.Proofs.Ytdinjekpcgndmaa.rollWinners
