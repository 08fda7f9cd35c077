/-
  PoolNeeds: for every game, sales, counts and carry the statement returns true: the pool of a fixed tier is at most its need, and less only if the reserve fund gives all; other pools are at least what was carried. No conditions.
-/
import Derived.Test.YtdinjekpcgndmaaSum36
import Derived.Test.YtdinjekpcgndmaaPoolF
import Derived.Test.YtdinjekpcgndmaaCarry
import Derived.Test.YtdinjekpcgndmaaTier2
import Derived.Test.YtdinjekpcgndmaaNew
import Derived.BigQuiet
import Derived.IntWalk
import Derived.Test.YtdinjekpcgndmaaIntArg
import Derived.ProofKit
import Derived.OpenShut
import Derived.ShutString
import Derived.ChangeOld
namespace Go.Proofs.Ytdinjekpcgndmaa.poolNeeds
open Go.ChangeShapes Go.WideShapes Go.ChangeAt Go.RowKit
open Go.ChangeMaps (open_string shut_string)
set_option linter.unusedVariables false
set_option maxRecDepth 20000 in
set_option maxHeartbeats 4000000 in
theorem walk (v0 : Value) (g : Gm) (s : Int) (v2 : Value) (cs : List Int) (v3 vt : Value) (ct : List Int) (cr cl : Int) (w : World) (hv0 : v0 = g.val) (hok : g.Ok w) (hro : (Lit.int .i64 s).wf = true) (hr2 : RdI w v2 cs) (hv3 : v3 = .agg #[vt, .int .i64 cr, .int .i64 cl]) (hr3 : RdI w vt ct) :
    Calls Try.prog 11 #[v0, .int .i64 s, v2, v3] w fun e w' => e = .returned (.bool true) ∧ Below w.heap.size w w' := by
  subst hv0 hv3
  have hAL := fun w' (h : Fr [] w w') => alloc_any g s v2 vt cs ct cr cl w' (hok.fr h) (hr2.below h) (hr3.below h)
  unfold AlPost at hAL
  obtain ⟨a2, c2, rfl, l2, m2, r2⟩ := hr2
  have hr3' := hr3
  obtain ⟨a3, c3, rfl, l3, m3, r3⟩ := hr3
  by_cases hE : alE g s cs ct cr cl = 0
  · have F := alE_facts hE
    have hFU := fun w' (h : Fr [] w w') => fund_any g s w' (hok.fr h)
    unfold FuPost at hFU
    rw [F.fu] at hFU
    have eL : alL g s cs ct cr cl = tlL g.tiers cs ct (fuA g s) (fuB g s) cr := by unfold alL; rw [if_pos hE]
    have eV : ∀ v, alV g s cs ct cr cl v = .agg #[.int .i64 s, .int .i64 (fuA g s), .int .i64 (alR g s cs cr), v] := fun v => by unfold alV; rw [if_pos hE]
    rw [hE, eL] at hAL
    have hn := game_len F.ch
    have tb : ∀ j, j < ct.length → 0 ≤ ct.getD j 0 ∧ ct.getD j 0 ≤ 1000000000000 := fun j hj => ⟨(F.tb j hj).1, (F.tb j hj).2.1⟩
    have hS1 := fun v w' (h : Fr [] w w') (hr : RdI w' v (tlL g.tiers cs ct (fuA g s) (fuB g s) cr)) => sum36_any g v _ true w' (hok.fr h) hr (tlL_len _ _ _ _ _ _) (by rw [tlL_len]; omega) F.tl01
    rw [tlL_len, F.fix] at hS1
    have hS01 := F.S01
    have hfix := fun i (hi : i < g.tiers.length) (hk : isK g.tiers true i = true) => F.at_fix hi hk
    have hoth := fun i (hi : i < g.tiers.length) (hk : isK g.tiers true i = false) => F.at_oth hi hk
    have hvl := fun i (hi : i < g.tiers.length) => vl_bd F.ch i hi
    have hcb := F.cb
    have htl01 := F.tl01
    have f1 := F.B0; have f2 := F.BA; have f3 := F.As; have f4 := F.s01; have f5 := F.r01
    have htl := tlL_len g.tiers cs ct (fuA g s) (fuB g s) cr
    have hctl := F.ctl
    have hcsl := F.csl
    generalize alR g s cs cr = B' at *
    generalize pdS g.tiers cs (fuA g s + cr) = S at *
    generalize tlL g.tiers cs ct (fuA g s) (fuB g s) cr = TL at *
    generalize fuA g s = A at *
    generalize fuB g s = B at *
    have HFIX := Lib.hid hfix
    have HOTH := Lib.hid hoth
    have HVL := Lib.hid hvl
    have HCB := Lib.hid hcb
    have HTL01 := Lib.hid htl01
    have HTB := Lib.hid tb
    have HCSL := Lib.hid hcsl
    have HR2 := Lib.hid r2
    have HR3 := Lib.hid r3
    have HOKG := Lib.hid hok
    clear hfix hoth hvl hcb htl01 hcsl
    have HAL := Lib.hid hAL
    have HFU := Lib.hid hFU
    have HS1 := Lib.hid hS1
    have HEV := Lib.hid eV
    have HTL := Lib.hid htl
    have HCTL := Lib.hid hctl
    have h21 : ∀ w b, GmAt w b g → w.cell? ⟨b, 21, none⟩ = some (.slice g.ta g.tiers.length g.tc) := fun w b h => h.cell 21 _ rfl
    have H21 := Lib.hid h21
    clear hAL hFU hS1 eV htl hctl eL hE F tb hr3' hok r2 r3 h21
    go_enter Try.func11, Try.ntmps11
    go_upto_region 1 with (refine box_game rfl (.tmp 0) rfl g rfl ?_; intro w1 hg1 hz1 hf1)
    have k0 : (w1.alloc (.cells #[.slice a3 ct.length c3, .int .i64 cr, .int .i64 cl] 43)).cell? ⟨w.heap.size + 1, 0, none⟩ = some (.slice a3 ct.length c3) := new_cell hz1 rfl
    have k1 : (w1.alloc (.cells #[.slice a3 ct.length c3, .int .i64 cr, .int .i64 cl] 43)).cell? ⟨w.heap.size + 1, 1, none⟩ = some (.int .i64 cr) := new_cell hz1 rfl
    have k2 : (w1.alloc (.cells #[.slice a3 ct.length c3, .int .i64 cr, .int .i64 cl] 43)).cell? ⟨w.heap.size + 1, 2, none⟩ = some (.int .i64 cl) := new_cell hz1 rfl
    have hg2 := hg1.fr ((Fr.refl [] w1).alloc (.cells #[.slice a3 ct.length c3, .int .i64 cr, .int .i64 cl] 43)) (by simp)
    have F2 := hf1.alloc (.cells #[.slice a3 ct.length c3, .int .i64 cr, .int .i64 cl] 43)
    generalize w1.alloc (.cells #[.slice a3 ct.length c3, .int .i64 cr, .int .i64 cl] 43) = x2 at *
    clear hg1 hz1 hf1
    go_wp2_with (refine load_game rfl (.tmp 4) rfl _ rfl g hg2 ?_)
    refine (HAL.out _ F2).mono ?_
    rintro e x3 ⟨v, rfl, ho, f3'⟩
    obtain ⟨av, cv, rfl, hcv1, hcv2⟩ := ho.any
    rw [HEV.out]
    rw [HTL.out] at hcv1 ⊢
    have F3 := F2.trans f3'
    have k0' := f3'.cell_some k0 (by simp)
    have k1' := f3'.cell_some k1 (by simp)
    have hg3 := hg2.fr f3' (by simp)
    clear k0 k1 k2 hg2 F2 f3'
    go_upto_region 2 with (fail)
    have q0 : (x3.alloc (.cells #[.int .i64 s, .int .i64 A, .int .i64 B', .slice av g.tiers.length cv] 45)).cell? ⟨x3.heap.size, 0, none⟩ = some (.int .i64 s) := new_cell rfl rfl
    have q1 : (x3.alloc (.cells #[.int .i64 s, .int .i64 A, .int .i64 B', .slice av g.tiers.length cv] 45)).cell? ⟨x3.heap.size, 1, none⟩ = some (.int .i64 A) := new_cell rfl rfl
    have q2 : (x3.alloc (.cells #[.int .i64 s, .int .i64 A, .int .i64 B', .slice av g.tiers.length cv] 45)).cell? ⟨x3.heap.size, 2, none⟩ = some (.int .i64 B') := new_cell rfl rfl
    have q3 : (x3.alloc (.cells #[.int .i64 s, .int .i64 A, .int .i64 B', .slice av g.tiers.length cv] 45)).cell? ⟨x3.heap.size, 3, none⟩ = some (.slice av g.tiers.length cv) := new_cell rfl rfl
    have e4 : Fr [] x3 (x3.alloc (.cells #[.int .i64 s, .int .i64 A, .int .i64 B', .slice av g.tiers.length cv] 45)) := (Fr.refl [] x3).alloc _
    generalize x3.alloc (.cells #[.int .i64 s, .int .i64 A, .int .i64 B', .slice av g.tiers.length cv] 45) = x4 at *
    have F4 := F3.trans e4
    have k0 := e4.cell_some k0' (by simp)
    have k1 := e4.cell_some k1' (by simp)
    have hg4 := hg3.fr e4 (by simp)
    have hr := ho.rd.below e4
    rw [HTL.out] at hr
    generalize x3.heap.size = bq at *
    clear k0' k1' hg3 F3 ho e4
    go_wp2_with (refine load_game rfl (.tmp 4) rfl _ rfl g hg4 ?_)
    refine (HFU.out _ F4).mono ?_
    rintro e x5 ⟨rfl, f5⟩
    have F5 := F4.trans f5
    have k0' := f5.cell_some k0 (by simp)
    have k1' := f5.cell_some k1 (by simp)
    have hg5 := hg4.fr f5 (by simp)
    have c21 := H21.out _ _ hg5
    have hr5 := hr.below f5
    have q0' := f5.cell_some q0 (by simp)
    have q1' := f5.cell_some q1 (by simp)
    have q2' := f5.cell_some q2 (by simp)
    have q3' := f5.cell_some q3 (by simp)
    have en1 : ((g.tiers.length : Int) != (g.tiers.length : Int)) = false := by simp
    have en2 : ((ct.length : Int) != (g.tiers.length : Int)) = false := by rw [HCTL.out]; simp
    clear k0 k1 hg4 F4 f5 hr q0 q1 q2 q3
    have en3 : ((cs.length : Int) != (g.tiers.length : Int)) = false := by rw [HCSL.out]; simp
    obtain ⟨n, hn'⟩ : ∃ n, n = g.tiers.length := ⟨_, rfl⟩
    rw [← hn'] at hn c21 en1 en2 en3 q3' hr5 hcv1 ⊢
    have HN := Lib.hid hn'
    have HRP := Lib.hid hr5
    have HF := Lib.hid F5
    have hgr : ∀ w b, GmAt w b g → w.rangeAt b 0 g.cells := fun w b h j v hv => by rw [Nat.zero_add]; exact h.cell j v hv
    have hRa := hgr _ _ hg5
    have hS1 := HS1.out
    simp only [show g.val = .agg g.cells.toArray from rfl] at hS1
    obtain ⟨cs0, hcs0⟩ : ∃ c, c = g.cells := ⟨_, rfl⟩
    have hcl0 : cs0.length = 22 := by rw [hcs0]; rfl
    rw [← hcs0] at hS1 hRa
    have HS1 := Lib.hid hS1
    have HRA := Lib.hid hRa
    have HCL0 := Lib.hid hcl0
    have hlct : ct.length = n := by rw [HCTL.out, HN.out]
    have hlcs : cs.length = n := by rw [HCSL.out, HN.out]
    rw [hlct] at k0' en2 l3 ⊢
    rw [hlcs] at en3 l2 ⊢
    have HLT := Lib.hid hlct
    have HLS := Lib.hid hlcs
    unfold maxLen at m2 m3
    clear hn' hr5 F5 hg5 hgr hS1 hRa hcs0 hcl0 hlct hlcs HAL HFU HEV
    go_wp2_with fail
    go_loopw [14] (fun i wr => ∃ k : Nat, k ≤ n ∧ i = .int .i64 k ∧ Fr [] x5 wr) (fun i _ => n - (intOf i).toNat)
    case atStart => exact ⟨0, by omega, rfl, Fr.refl _ _⟩
    case round =>
      obtain ⟨k, hk, rfl, hf⟩ := hrel
      have c21 := hf.cell_some c21 (by simp)
      have HFW := Lib.hid (HF.out.trans hf)
      have HRP := Lib.hid (HRP.out.below hf)
      by_cases hlt : k < n
      · have k0 := hf.cell_some k0' (by simp)
        have k1 := hf.cell_some k1' (by simp)
        have q3 := hf.cell_some q3' (by simp)
        obtain ⟨t, ht⟩ : ∃ t, g.tiers[k]? = some t := ⟨_, List.getElem?_eq_getElem (by have := HN.out; omega)⟩
        obtain ⟨bt, ot, hta, hct⟩ := RdF.at (f := Ti.cells) HOKG.out.tiers.rd ht
        have c4 := HFW.out.cell_some (hct 4 _ rfl) (by simp)
        have c5 := HFW.out.cell_some (hct 5 _ rfl) (by simp)
        rw [hta] at c21
        obtain ⟨ap, cap', hap, _, _, hpr⟩ := HRP.out
        simp only [Value.slice.injEq] at hap
        obtain ⟨rfl, hln, rfl⟩ := hap
        obtain ⟨gp, op, rfl, cp⟩ := hpr k (by omega)
        obtain ⟨gc, oc, rfl, cc⟩ := HR3.out k (by have := HLT.out; omega)
        obtain ⟨gs, os, rfl, cn⟩ := HR2.out k (by have := HLS.out; omega)
        have cc := HFW.out.cell_some cc (by simp)
        have cn := HFW.out.cell_some cn (by simp)
        have hfix := HFIX.out k (by have := HN.out; omega)
        have hoth := HOTH.out k (by have := HN.out; omega)
        have hcb := HCB.out k (by have := HLS.out; omega)
        have htb := HTB.out k (by have := HLT.out; omega)
        have htl := HTL01.out k (by omega)
        have hvl := HVL.out k (by have := HN.out; omega)
        obtain ⟨hkd, hvv⟩ := kd_of ht
        have hkk : isK g.tiers true k = decide (t.kind = 1) := by unfold isK; rw [hkd]; simp
        rw [hkk] at hfix hoth
        rw [hvv] at hfix hvl
        obtain ⟨tm, tb', te, to_, tk, tv⟩ := t
        simp only at c4 c5 hfix hoth hvl
        generalize TL.getD k 0 = p at *
        generalize cs.getD k 0 = cnt at *
        generalize ct.getD k 0 = cc' at *
        have hkn : (k : Int) < (n : Int) := by omega
        by_cases h1 : tk = 1
        · obtain ⟨f1, f2, f3, f4⟩ := hfix (by simpa using h1)
          have e1 : (tk != 1) = false := by simpa using h1
          have nb := need_bd hvl.1 hvl.2 hcb.1 hcb.2
          have hw1 : IntKind.i64.wrap (tv * cnt) = tv * cnt := IntWalk.i64_in _ (by omega)
          have nb1 := nb.1
          have nb2 := nb.2
          have d1 : decide (tv * cnt < p) = false := by simp; omega
          have hu1 := Try.underlying25
          have hi1 : (Try.prog.info? 25).map (·.size) = some cs0.length := by rw [HCL0.out]; exact infoGame
          have hRa : wr.rangeAt w.heap.size 0 cs0 := hf.range HRA.out
          clear hfix hoth h1 hkk hkd hvv ht hta hct hpr f4 htb hln HRA
          by_cases h2 : p < tv * cnt
          · have hS := f3 h2
            have d2 : decide (p < tv * cnt) = true := by simpa using h2
            subst hS
            have hAB : A + cr - (A - B) = cr + B := by omega
            have v1 : IntKind.i64.wrap (A - B) = A - B := IntWalk.i64_in _ (by omega)
            have v2 : IntKind.i64.wrap (A + cr - (A - B)) = cr + B := by rw [hAB]; exact IntWalk.i64_in _ (by omega)
            have v3 : IntKind.i64.wrap (cr + B) = cr + B := IntWalk.i64_in _ (by omega)
            have e5 : (cr + B != cr + B) = false := by simp
            clear f3 hAB h2
            go_wp2_with fail
            go_quiet (fail)
            obtain ⟨wq, hwq⟩ : ∃ wq, wq = wr.drewN nq := ⟨_, rfl⟩
            have hFd : Fr [] wr wq := by rw [hwq]; exact (Fr.refl [] wr).drewN _
            rw [← hwq]
            clear hwq
            have HFW2 := Lib.hid (HFW.out.trans hFd)
            have HRP2 := Lib.hid (HRP.out.below hFd)
            have q3 := hFd.cell_some q3 (by simp)
            have cp := hFd.cell_some cp (by simp)
            have k1 := hFd.cell_some k1 (by simp)
            have hRa := hFd.range hRa
            have HF9 := Lib.hid (hf.trans hFd)
            clear hFd c4 c5 c21 cn cc k0 hf
            go_wp2_with fail
            refine wp_region_held_drew (S := (fun w' => Fr [] wq w')) (by kernel_rfl) (Fr.refl [] _).drew (fun hHeld => ?_)
            refine wpAnyH_take (i := 0) (oi := ⟨some 98, _, _, _, _, _⟩) (v := .pointer (some ⟨bq, 3, none⟩)) rfl (by kernel_rfl) (by kernel_rfl) (by kernel_rfl) (fun _ _ _ h => h) (Or.inl ⟨by rfl, ?_⟩) hHeld ?_
            · intro w hSw; (try dsimp only at hSw); go_simp
            (try simp only [Act.put, List.setIfInBounds_toArray, List.set_cons_zero, List.set_cons_succ])
            refine wpAnyH_take (i := 1) (oi := ⟨some 99, _, _, _, _, _⟩) (v := .slice (some ⟨gp, op, none⟩) n cv) rfl (by kernel_rfl) (by kernel_rfl) (by kernel_rfl) (fun _ _ _ h => h) (Or.inl ⟨by rfl, ?_⟩) hHeld ?_
            · intro w hSw; (try dsimp only at hSw); have hcF := hSw.cell_some q3 (by simp); clear hSw; go_simp
            (try simp only [Act.put, List.setIfInBounds_toArray, List.set_cons_zero, List.set_cons_succ])
            refine wpAnyH_take (i := 2) (oi := ⟨some 100, _, _, _, _, _⟩) (v := .int .i64 k) rfl (by kernel_rfl) (by kernel_rfl) (by kernel_rfl) (fun _ _ _ h => h) (Or.inl ⟨by rfl, ?_⟩) hHeld ?_
            · intro w hSw; (try dsimp only at hSw); go_simp
            (try simp only [Act.put, List.setIfInBounds_toArray, List.set_cons_zero, List.set_cons_succ])
            refine wpAnyH_take (i := 3) (oi := ⟨some 101, _, _, _, _, _⟩) (v := .pointer (some ⟨gp, op + k, none⟩)) rfl (by kernel_rfl) (by kernel_rfl) (by kernel_rfl) (fun _ _ _ h => h) (Or.inl ⟨by rfl, ?_⟩) hHeld ?_
            · intro w hSw; (try dsimp only at hSw); go_simp
            (try simp only [Act.put, List.setIfInBounds_toArray, List.set_cons_zero, List.set_cons_succ])
            refine wpAnyH_take (i := 4) (oi := ⟨some 102, _, _, _, _, _⟩) (v := .int .i64 p) rfl (by kernel_rfl) (by kernel_rfl) (by kernel_rfl) (fun _ _ _ h => h) (Or.inl ⟨by rfl, ?_⟩) hHeld ?_
            · intro w hSw; (try dsimp only at hSw); have hcF := hSw.cell_some cp (by simp); clear hSw; go_simp
            (try simp only [Act.put, List.setIfInBounds_toArray, List.set_cons_zero, List.set_cons_succ])
            refine wpAnyH_take (i := 5) (oi := ⟨some 103, _, _, _, _, _⟩) (v := .int .i64 (tv * cnt)) rfl (by kernel_rfl) (by kernel_rfl) (by kernel_rfl) (fun _ _ _ h => h) (Or.inl ⟨by rfl, ?_⟩) hHeld ?_
            · intro w hSw; (try dsimp only at hSw); go_simp
            (try simp only [Act.put, List.setIfInBounds_toArray, List.set_cons_zero, List.set_cons_succ])
            refine wpAnyH_take (i := 6) (oi := ⟨some 104, _, _, _, _, _⟩) (v := .bool false) rfl (by kernel_rfl) (by kernel_rfl) (by kernel_rfl) (fun _ _ _ h => h) (Or.inl ⟨by rfl, ?_⟩) hHeld ?_
            · intro w hSw; (try dsimp only at hSw); go_simp
            (try simp only [Act.put, List.setIfInBounds_toArray, List.set_cons_zero, List.set_cons_succ])
            refine wpAnyH_take (i := 7) (oi := ⟨some 105, _, _, _, _, _⟩) (v := .bool false) rfl (by kernel_rfl) (by kernel_rfl) (by kernel_rfl) (fun _ _ _ h => h) (Or.inl ⟨by rfl, ?_⟩) hHeld ?_
            · intro w hSw; (try dsimp only at hSw); go_simp
            (try simp only [Act.put, List.setIfInBounds_toArray, List.set_cons_zero, List.set_cons_succ])
            refine wpAnyH_take (i := 8) (oi := ⟨some 106, _, _, _, _, _⟩) (v := .pointer (some ⟨bq, 3, none⟩)) rfl (by kernel_rfl) (by kernel_rfl) (by kernel_rfl) (fun _ _ _ h => h) (Or.inl ⟨by rfl, ?_⟩) hHeld ?_
            · intro w hSw; (try dsimp only at hSw); go_simp
            (try simp only [Act.put, List.setIfInBounds_toArray, List.set_cons_zero, List.set_cons_succ])
            refine wpAnyH_take (i := 9) (oi := ⟨some 107, _, _, _, _, _⟩) (v := .slice (some ⟨gp, op, none⟩) n cv) rfl (by kernel_rfl) (by kernel_rfl) (by kernel_rfl) (fun _ _ _ h => h) (Or.inl ⟨by rfl, ?_⟩) hHeld ?_
            · intro w hSw; (try dsimp only at hSw); have hcF := hSw.cell_some q3 (by simp); clear hSw; go_simp
            (try simp only [Act.put, List.setIfInBounds_toArray, List.set_cons_zero, List.set_cons_succ])
            refine wpAnyH_take (i := 10) (oi := ⟨some 108, _, _, _, _, _⟩) (v := .int .i64 k) rfl (by kernel_rfl) (by kernel_rfl) (by kernel_rfl) (fun _ _ _ h => h) (Or.inl ⟨by rfl, ?_⟩) hHeld ?_
            · intro w hSw; (try dsimp only at hSw); go_simp
            (try simp only [Act.put, List.setIfInBounds_toArray, List.set_cons_zero, List.set_cons_succ])
            refine wpAnyH_take (i := 11) (oi := ⟨some 109, _, _, _, _, _⟩) (v := .pointer (some ⟨gp, op + k, none⟩)) rfl (by kernel_rfl) (by kernel_rfl) (by kernel_rfl) (fun _ _ _ h => h) (Or.inl ⟨by rfl, ?_⟩) hHeld ?_
            · intro w hSw; (try dsimp only at hSw); go_simp
            (try simp only [Act.put, List.setIfInBounds_toArray, List.set_cons_zero, List.set_cons_succ])
            refine wpAnyH_take (i := 12) (oi := ⟨some 110, _, _, _, _, _⟩) (v := .int .i64 p) rfl (by kernel_rfl) (by kernel_rfl) (by kernel_rfl) (fun _ _ _ h => h) (Or.inl ⟨by rfl, ?_⟩) hHeld ?_
            · intro w hSw; (try dsimp only at hSw); have hcF := hSw.cell_some cp (by simp); clear hSw; go_simp
            (try simp only [Act.put, List.setIfInBounds_toArray, List.set_cons_zero, List.set_cons_succ])
            refine wpAnyH_take (i := 13) (oi := ⟨some 111, _, _, _, _, _⟩) (v := .int .i64 (tv * cnt)) rfl (by kernel_rfl) (by kernel_rfl) (by kernel_rfl) (fun _ _ _ h => h) (Or.inl ⟨by rfl, ?_⟩) hHeld ?_
            · intro w hSw; (try dsimp only at hSw); go_simp
            (try simp only [Act.put, List.setIfInBounds_toArray, List.set_cons_zero, List.set_cons_succ])
            refine wpAnyH_take (i := 14) (oi := ⟨some 112, _, _, _, _, _⟩) (v := .bool true) rfl (by kernel_rfl) (by kernel_rfl) (by kernel_rfl) (fun _ _ _ h => h) (Or.inl ⟨by rfl, ?_⟩) hHeld ?_
            · intro w hSw; (try dsimp only at hSw); go_simp
            (try simp only [Act.put, List.setIfInBounds_toArray, List.set_cons_zero, List.set_cons_succ])
            refine wpAnyH_take (i := 15) (oi := ⟨some 113, _, _, _, _, _⟩) (v := .bool true) rfl (by kernel_rfl) (by kernel_rfl) (by kernel_rfl) (fun _ _ _ h => h) (Or.inl ⟨by rfl, ?_⟩) hHeld ?_
            · intro w hSw; (try dsimp only at hSw); go_simp
            (try simp only [Act.put, List.setIfInBounds_toArray, List.set_cons_zero, List.set_cons_succ])
            refine' wpAnyH_take (i := 16) (oi := ⟨some 114, _, _, _, _, _⟩) (v := _) rfl (by kernel_rfl) (by kernel_rfl) (by kernel_rfl) (fun _ _ _ h => h) (yieldsIf_load_mid (by rfl) _ _ rfl _ _ rfl _ _ (fun w h => h.range hRa) hu1 rfl hi1) hHeld ?_
            (try simp only [Act.put, List.setIfInBounds_toArray, List.set_cons_zero, List.set_cons_succ])
            refine wpAnyH_take (i := 17) (oi := ⟨some 115, _, _, _, _, _⟩) (v := .pointer (some ⟨bq, 3, none⟩)) rfl (by kernel_rfl) (by kernel_rfl) (by kernel_rfl) (fun _ _ _ h => h) (Or.inl ⟨by rfl, ?_⟩) hHeld ?_
            · intro w hSw; (try dsimp only at hSw); go_simp
            (try simp only [Act.put, List.setIfInBounds_toArray, List.set_cons_zero, List.set_cons_succ])
            refine wpAnyH_take (i := 18) (oi := ⟨some 116, _, _, _, _, _⟩) (v := .slice (some ⟨gp, op, none⟩) n cv) rfl (by kernel_rfl) (by kernel_rfl) (by kernel_rfl) (fun _ _ _ h => h) (Or.inl ⟨by rfl, ?_⟩) hHeld ?_
            · intro w hSw; (try dsimp only at hSw); have hcF := hSw.cell_some q3 (by simp); clear hSw; go_simp
            (try simp only [Act.put, List.setIfInBounds_toArray, List.set_cons_zero, List.set_cons_succ])
            refine wpAnyH_take (i := 20) (oi := ⟨some 118, _, _, _, _, _⟩) (v := .int .i64 A) rfl (by kernel_rfl) (by kernel_rfl) (by kernel_rfl) (fun _ _ _ h => h) (Or.inl ⟨by rfl, ?_⟩) hHeld ?_
            · intro w hSw; (try dsimp only at hSw); go_simp
            (try simp only [Act.put, List.setIfInBounds_toArray, List.set_cons_zero, List.set_cons_succ])
            refine wpAnyH_take (i := 21) (oi := ⟨some 119, _, _, _, _, _⟩) (v := .int .i64 B) rfl (by kernel_rfl) (by kernel_rfl) (by kernel_rfl) (fun _ _ _ h => h) (Or.inl ⟨by rfl, ?_⟩) hHeld ?_
            · intro w hSw; (try dsimp only at hSw); go_simp
            (try simp only [Act.put, List.setIfInBounds_toArray, List.set_cons_zero, List.set_cons_succ])
            refine wpAnyH_take (i := 22) (oi := ⟨some 120, _, _, _, _, _⟩) (v := .int .i64 (A - B)) rfl (by kernel_rfl) (by kernel_rfl) (by kernel_rfl) (fun _ _ _ h => h) (Or.inl ⟨by rfl, ?_⟩) hHeld ?_
            · intro w hSw; (try dsimp only at hSw); go_simp
            (try simp only [Act.put, List.setIfInBounds_toArray, List.set_cons_zero, List.set_cons_succ])
            refine wpAnyH_take (i := 24) (oi := ⟨some 122, _, _, _, _, _⟩) (v := .pointer (some ⟨w.heap.size + 1, 1, none⟩)) rfl (by kernel_rfl) (by kernel_rfl) (by kernel_rfl) (fun _ _ _ h => h) (Or.inl ⟨by rfl, ?_⟩) hHeld ?_
            · intro w hSw; (try dsimp only at hSw); go_simp
            (try simp only [Act.put, List.setIfInBounds_toArray, List.set_cons_zero, List.set_cons_succ])
            refine wpAnyH_take (i := 25) (oi := ⟨some 123, _, _, _, _, _⟩) (v := .int .i64 cr) rfl (by kernel_rfl) (by kernel_rfl) (by kernel_rfl) (fun _ _ _ h => h) (Or.inl ⟨by rfl, ?_⟩) hHeld ?_
            · intro w hSw; (try dsimp only at hSw); have hcF := hSw.cell_some k1 (by simp); clear hSw; go_simp
            (try simp only [Act.put, List.setIfInBounds_toArray, List.set_cons_zero, List.set_cons_succ])
            refine wpAnyH_take (i := 26) (oi := ⟨some 124, _, _, _, _, _⟩) (v := .int .i64 B) rfl (by kernel_rfl) (by kernel_rfl) (by kernel_rfl) (fun _ _ _ h => h) (Or.inl ⟨by rfl, ?_⟩) hHeld ?_
            · intro w hSw; (try dsimp only at hSw); go_simp
            (try simp only [Act.put, List.setIfInBounds_toArray, List.set_cons_zero, List.set_cons_succ])
            refine wpAnyH_take (i := 27) (oi := ⟨some 125, _, _, _, _, _⟩) (v := .int .i64 (cr + B)) rfl (by kernel_rfl) (by kernel_rfl) (by kernel_rfl) (fun _ _ _ h => h) (Or.inl ⟨by rfl, ?_⟩) hHeld ?_
            · intro w hSw; (try dsimp only at hSw); go_simp
            (try simp only [Act.put, List.setIfInBounds_toArray, List.set_cons_zero, List.set_cons_succ])
            refine wpAnyH_ready (rs := [19]) (by kernel_rfl) (by simp) ?_
            refine AllReadyH.cons (o := ⟨some 117, _, _, _, _, _⟩) rfl (fun K hK => ?_) AllReadyH.nil
            rw [if_pos (by rfl)]
            go_simp
            refine (HS1.out _ _ (HFW2.out.trans hHeld) (HRP2.out.below hHeld)).mono ?_
            rintro e w7 ⟨rfl, fr⟩
            refine hK.out _ _ (hHeld.trans fr) (fun hHeld' => ?_)
            clear hK K hHeld
            have hHeld := hHeld'
            clear hHeld'
            (try simp only [Act.put, List.setIfInBounds_toArray, List.set_cons_zero, List.set_cons_succ])
            clear fr
            refine wpAnyH_take (i := 23) (oi := ⟨some 121, _, _, _, _, _⟩) (v := .int .i64 (cr + B)) rfl (by kernel_rfl) (by kernel_rfl) (by kernel_rfl) (fun _ _ _ h => h) (Or.inl ⟨by rfl, ?_⟩) hHeld ?_
            · intro w hSw; (try dsimp only at hSw); go_simp
            (try simp only [Act.put, List.setIfInBounds_toArray, List.set_cons_zero, List.set_cons_succ])
            refine wpAnyH_take (i := 28) (oi := ⟨some 126, _, _, _, _, _⟩) (v := .bool false) rfl (by kernel_rfl) (by kernel_rfl) (by kernel_rfl) (fun _ _ _ h => h) (Or.inl ⟨by rfl, ?_⟩) hHeld ?_
            · intro w hSw; (try dsimp only at hSw); go_simp
            (try simp only [Act.put, List.setIfInBounds_toArray, List.set_cons_zero, List.set_cons_succ])
            refine wpAnyH_take (i := 29) (oi := ⟨some 127, _, _, _, _, _⟩) (v := .bool false) rfl (by kernel_rfl) (by kernel_rfl) (by kernel_rfl) (fun _ _ _ h => h) (Or.inl ⟨by rfl, ?_⟩) hHeld ?_
            · intro w hSw; (try dsimp only at hSw); go_simp
            (try simp only [Act.put, List.setIfInBounds_toArray, List.set_cons_zero, List.set_cons_succ])
            refine wpAnyH_take (i := 30) (oi := ⟨some 128, _, _, _, _, _⟩) (v := .bool false) rfl (by kernel_rfl) (by kernel_rfl) (by kernel_rfl) (fun _ _ _ h => h) (Or.inl ⟨by rfl, ?_⟩) hHeld ?_
            · intro w hSw; (try dsimp only at hSw); go_simp
            (try simp only [Act.put, List.setIfInBounds_toArray, List.set_cons_zero, List.set_cons_succ])
            have HF10 := Lib.hid (HF9.out.trans hHeld)
            clear hHeld
            refine wpAnyH_done (by kernel_rfl) ?_ _
            go_wp2_with fail
            go_roundw
            case rel => exact ⟨k + 1, by omega, by go_num, HF10.out⟩
            case measure => simp [intOf]; omega
          · have d2 : decide (p < tv * cnt) = false := by simp; omega
            clear f3 h2
            go_wp2_with fail
            go_quiet (fail)
            obtain ⟨wq, hwq⟩ : ∃ wq, wq = wr.drewN nq := ⟨_, rfl⟩
            have hFd : Fr [] wr wq := by rw [hwq]; exact (Fr.refl [] wr).drewN _
            rw [← hwq]
            clear hwq
            have HFW2 := Lib.hid (HFW.out.trans hFd)
            have HRP2 := Lib.hid (HRP.out.below hFd)
            have q3 := hFd.cell_some q3 (by simp)
            have cp := hFd.cell_some cp (by simp)
            have k1 := hFd.cell_some k1 (by simp)
            have hRa := hFd.range hRa
            have HF9 := Lib.hid (hf.trans hFd)
            clear hFd c4 c5 c21 cn cc k0 hf
            go_wp2_with fail
            refine wp_region_held_drew (S := (fun w' => Fr [] wq w')) (by kernel_rfl) (Fr.refl [] _).drew (fun hHeld => ?_)
            refine wpAnyH_take (i := 0) (oi := ⟨some 98, _, _, _, _, _⟩) (v := .pointer (some ⟨bq, 3, none⟩)) rfl (by kernel_rfl) (by kernel_rfl) (by kernel_rfl) (fun _ _ _ h => h) (Or.inl ⟨by rfl, ?_⟩) hHeld ?_
            · intro w hSw; (try dsimp only at hSw); go_simp
            (try simp only [Act.put, List.setIfInBounds_toArray, List.set_cons_zero, List.set_cons_succ])
            refine wpAnyH_take (i := 1) (oi := ⟨some 99, _, _, _, _, _⟩) (v := .slice (some ⟨gp, op, none⟩) n cv) rfl (by kernel_rfl) (by kernel_rfl) (by kernel_rfl) (fun _ _ _ h => h) (Or.inl ⟨by rfl, ?_⟩) hHeld ?_
            · intro w hSw; (try dsimp only at hSw); have hcF := hSw.cell_some q3 (by simp); clear hSw; go_simp
            (try simp only [Act.put, List.setIfInBounds_toArray, List.set_cons_zero, List.set_cons_succ])
            refine wpAnyH_take (i := 2) (oi := ⟨some 100, _, _, _, _, _⟩) (v := .int .i64 k) rfl (by kernel_rfl) (by kernel_rfl) (by kernel_rfl) (fun _ _ _ h => h) (Or.inl ⟨by rfl, ?_⟩) hHeld ?_
            · intro w hSw; (try dsimp only at hSw); go_simp
            (try simp only [Act.put, List.setIfInBounds_toArray, List.set_cons_zero, List.set_cons_succ])
            refine wpAnyH_take (i := 3) (oi := ⟨some 101, _, _, _, _, _⟩) (v := .pointer (some ⟨gp, op + k, none⟩)) rfl (by kernel_rfl) (by kernel_rfl) (by kernel_rfl) (fun _ _ _ h => h) (Or.inl ⟨by rfl, ?_⟩) hHeld ?_
            · intro w hSw; (try dsimp only at hSw); go_simp
            (try simp only [Act.put, List.setIfInBounds_toArray, List.set_cons_zero, List.set_cons_succ])
            refine wpAnyH_take (i := 4) (oi := ⟨some 102, _, _, _, _, _⟩) (v := .int .i64 p) rfl (by kernel_rfl) (by kernel_rfl) (by kernel_rfl) (fun _ _ _ h => h) (Or.inl ⟨by rfl, ?_⟩) hHeld ?_
            · intro w hSw; (try dsimp only at hSw); have hcF := hSw.cell_some cp (by simp); clear hSw; go_simp
            (try simp only [Act.put, List.setIfInBounds_toArray, List.set_cons_zero, List.set_cons_succ])
            refine wpAnyH_take (i := 5) (oi := ⟨some 103, _, _, _, _, _⟩) (v := .int .i64 (tv * cnt)) rfl (by kernel_rfl) (by kernel_rfl) (by kernel_rfl) (fun _ _ _ h => h) (Or.inl ⟨by rfl, ?_⟩) hHeld ?_
            · intro w hSw; (try dsimp only at hSw); go_simp
            (try simp only [Act.put, List.setIfInBounds_toArray, List.set_cons_zero, List.set_cons_succ])
            refine wpAnyH_take (i := 6) (oi := ⟨some 104, _, _, _, _, _⟩) (v := .bool false) rfl (by kernel_rfl) (by kernel_rfl) (by kernel_rfl) (fun _ _ _ h => h) (Or.inl ⟨by rfl, ?_⟩) hHeld ?_
            · intro w hSw; (try dsimp only at hSw); go_simp
            (try simp only [Act.put, List.setIfInBounds_toArray, List.set_cons_zero, List.set_cons_succ])
            refine wpAnyH_take (i := 7) (oi := ⟨some 105, _, _, _, _, _⟩) (v := .bool false) rfl (by kernel_rfl) (by kernel_rfl) (by kernel_rfl) (fun _ _ _ h => h) (Or.inl ⟨by rfl, ?_⟩) hHeld ?_
            · intro w hSw; (try dsimp only at hSw); go_simp
            (try simp only [Act.put, List.setIfInBounds_toArray, List.set_cons_zero, List.set_cons_succ])
            refine wpAnyH_take (i := 8) (oi := ⟨some 106, _, _, _, _, _⟩) (v := .pointer (some ⟨bq, 3, none⟩)) rfl (by kernel_rfl) (by kernel_rfl) (by kernel_rfl) (fun _ _ _ h => h) (Or.inl ⟨by rfl, ?_⟩) hHeld ?_
            · intro w hSw; (try dsimp only at hSw); go_simp
            (try simp only [Act.put, List.setIfInBounds_toArray, List.set_cons_zero, List.set_cons_succ])
            refine wpAnyH_take (i := 9) (oi := ⟨some 107, _, _, _, _, _⟩) (v := .slice (some ⟨gp, op, none⟩) n cv) rfl (by kernel_rfl) (by kernel_rfl) (by kernel_rfl) (fun _ _ _ h => h) (Or.inl ⟨by rfl, ?_⟩) hHeld ?_
            · intro w hSw; (try dsimp only at hSw); have hcF := hSw.cell_some q3 (by simp); clear hSw; go_simp
            (try simp only [Act.put, List.setIfInBounds_toArray, List.set_cons_zero, List.set_cons_succ])
            refine wpAnyH_take (i := 10) (oi := ⟨some 108, _, _, _, _, _⟩) (v := .int .i64 k) rfl (by kernel_rfl) (by kernel_rfl) (by kernel_rfl) (fun _ _ _ h => h) (Or.inl ⟨by rfl, ?_⟩) hHeld ?_
            · intro w hSw; (try dsimp only at hSw); go_simp
            (try simp only [Act.put, List.setIfInBounds_toArray, List.set_cons_zero, List.set_cons_succ])
            refine wpAnyH_take (i := 11) (oi := ⟨some 109, _, _, _, _, _⟩) (v := .pointer (some ⟨gp, op + k, none⟩)) rfl (by kernel_rfl) (by kernel_rfl) (by kernel_rfl) (fun _ _ _ h => h) (Or.inl ⟨by rfl, ?_⟩) hHeld ?_
            · intro w hSw; (try dsimp only at hSw); go_simp
            (try simp only [Act.put, List.setIfInBounds_toArray, List.set_cons_zero, List.set_cons_succ])
            refine wpAnyH_take (i := 12) (oi := ⟨some 110, _, _, _, _, _⟩) (v := .int .i64 p) rfl (by kernel_rfl) (by kernel_rfl) (by kernel_rfl) (fun _ _ _ h => h) (Or.inl ⟨by rfl, ?_⟩) hHeld ?_
            · intro w hSw; (try dsimp only at hSw); have hcF := hSw.cell_some cp (by simp); clear hSw; go_simp
            (try simp only [Act.put, List.setIfInBounds_toArray, List.set_cons_zero, List.set_cons_succ])
            refine wpAnyH_take (i := 13) (oi := ⟨some 111, _, _, _, _, _⟩) (v := .int .i64 (tv * cnt)) rfl (by kernel_rfl) (by kernel_rfl) (by kernel_rfl) (fun _ _ _ h => h) (Or.inl ⟨by rfl, ?_⟩) hHeld ?_
            · intro w hSw; (try dsimp only at hSw); go_simp
            (try simp only [Act.put, List.setIfInBounds_toArray, List.set_cons_zero, List.set_cons_succ])
            refine wpAnyH_take (i := 14) (oi := ⟨some 112, _, _, _, _, _⟩) (v := .bool false) rfl (by kernel_rfl) (by kernel_rfl) (by kernel_rfl) (fun _ _ _ h => h) (Or.inl ⟨by rfl, ?_⟩) hHeld ?_
            · intro w hSw; (try dsimp only at hSw); go_simp
            (try simp only [Act.put, List.setIfInBounds_toArray, List.set_cons_zero, List.set_cons_succ])
            refine wpAnyH_take (i := 15) (oi := ⟨some 113, _, _, _, _, _⟩) (v := .bool false) rfl (by kernel_rfl) (by kernel_rfl) (by kernel_rfl) (fun _ _ _ h => h) (Or.inl ⟨by rfl, ?_⟩) hHeld ?_
            · intro w hSw; (try dsimp only at hSw); go_simp
            (try simp only [Act.put, List.setIfInBounds_toArray, List.set_cons_zero, List.set_cons_succ])
            refine wpAnyH_take (i := 16) (oi := ⟨some 114, _, _, _, _, _⟩) (v := undef) rfl (by kernel_rfl) (by kernel_rfl) (by kernel_rfl) (fun _ _ _ h => h) (Or.inr ⟨by rfl, rfl⟩) hHeld ?_
            (try simp only [Act.put, List.setIfInBounds_toArray, List.set_cons_zero, List.set_cons_succ])
            refine wpAnyH_take (i := 17) (oi := ⟨some 115, _, _, _, _, _⟩) (v := undef) rfl (by kernel_rfl) (by kernel_rfl) (by kernel_rfl) (fun _ _ _ h => h) (Or.inr ⟨by rfl, rfl⟩) hHeld ?_
            (try simp only [Act.put, List.setIfInBounds_toArray, List.set_cons_zero, List.set_cons_succ])
            refine wpAnyH_take (i := 18) (oi := ⟨some 116, _, _, _, _, _⟩) (v := undef) rfl (by kernel_rfl) (by kernel_rfl) (by kernel_rfl) (fun _ _ _ h => h) (Or.inr ⟨by rfl, rfl⟩) hHeld ?_
            (try simp only [Act.put, List.setIfInBounds_toArray, List.set_cons_zero, List.set_cons_succ])
            refine wpAnyH_take (i := 19) (oi := ⟨some 117, _, _, _, _, _⟩) (v := undef) rfl (by kernel_rfl) (by kernel_rfl) (by kernel_rfl) (fun _ _ _ h => h) (Or.inr ⟨by rfl, rfl⟩) hHeld ?_
            (try simp only [Act.put, List.setIfInBounds_toArray, List.set_cons_zero, List.set_cons_succ])
            refine wpAnyH_take (i := 20) (oi := ⟨some 118, _, _, _, _, _⟩) (v := undef) rfl (by kernel_rfl) (by kernel_rfl) (by kernel_rfl) (fun _ _ _ h => h) (Or.inr ⟨by rfl, rfl⟩) hHeld ?_
            (try simp only [Act.put, List.setIfInBounds_toArray, List.set_cons_zero, List.set_cons_succ])
            refine wpAnyH_take (i := 21) (oi := ⟨some 119, _, _, _, _, _⟩) (v := undef) rfl (by kernel_rfl) (by kernel_rfl) (by kernel_rfl) (fun _ _ _ h => h) (Or.inr ⟨by rfl, rfl⟩) hHeld ?_
            (try simp only [Act.put, List.setIfInBounds_toArray, List.set_cons_zero, List.set_cons_succ])
            refine wpAnyH_take (i := 22) (oi := ⟨some 120, _, _, _, _, _⟩) (v := undef) rfl (by kernel_rfl) (by kernel_rfl) (by kernel_rfl) (fun _ _ _ h => h) (Or.inr ⟨by rfl, rfl⟩) hHeld ?_
            (try simp only [Act.put, List.setIfInBounds_toArray, List.set_cons_zero, List.set_cons_succ])
            refine wpAnyH_take (i := 23) (oi := ⟨some 121, _, _, _, _, _⟩) (v := undef) rfl (by kernel_rfl) (by kernel_rfl) (by kernel_rfl) (fun _ _ _ h => h) (Or.inr ⟨by rfl, rfl⟩) hHeld ?_
            (try simp only [Act.put, List.setIfInBounds_toArray, List.set_cons_zero, List.set_cons_succ])
            refine wpAnyH_take (i := 24) (oi := ⟨some 122, _, _, _, _, _⟩) (v := undef) rfl (by kernel_rfl) (by kernel_rfl) (by kernel_rfl) (fun _ _ _ h => h) (Or.inr ⟨by rfl, rfl⟩) hHeld ?_
            (try simp only [Act.put, List.setIfInBounds_toArray, List.set_cons_zero, List.set_cons_succ])
            refine wpAnyH_take (i := 25) (oi := ⟨some 123, _, _, _, _, _⟩) (v := undef) rfl (by kernel_rfl) (by kernel_rfl) (by kernel_rfl) (fun _ _ _ h => h) (Or.inr ⟨by rfl, rfl⟩) hHeld ?_
            (try simp only [Act.put, List.setIfInBounds_toArray, List.set_cons_zero, List.set_cons_succ])
            refine wpAnyH_take (i := 26) (oi := ⟨some 124, _, _, _, _, _⟩) (v := undef) rfl (by kernel_rfl) (by kernel_rfl) (by kernel_rfl) (fun _ _ _ h => h) (Or.inr ⟨by rfl, rfl⟩) hHeld ?_
            (try simp only [Act.put, List.setIfInBounds_toArray, List.set_cons_zero, List.set_cons_succ])
            refine wpAnyH_take (i := 27) (oi := ⟨some 125, _, _, _, _, _⟩) (v := undef) rfl (by kernel_rfl) (by kernel_rfl) (by kernel_rfl) (fun _ _ _ h => h) (Or.inr ⟨by rfl, rfl⟩) hHeld ?_
            (try simp only [Act.put, List.setIfInBounds_toArray, List.set_cons_zero, List.set_cons_succ])
            refine wpAnyH_take (i := 28) (oi := ⟨some 126, _, _, _, _, _⟩) (v := undef) rfl (by kernel_rfl) (by kernel_rfl) (by kernel_rfl) (fun _ _ _ h => h) (Or.inr ⟨by rfl, rfl⟩) hHeld ?_
            (try simp only [Act.put, List.setIfInBounds_toArray, List.set_cons_zero, List.set_cons_succ])
            refine wpAnyH_take (i := 29) (oi := ⟨some 127, _, _, _, _, _⟩) (v := .bool false) rfl (by kernel_rfl) (by kernel_rfl) (by kernel_rfl) (fun _ _ _ h => h) (Or.inl ⟨by rfl, ?_⟩) hHeld ?_
            · intro w hSw; (try dsimp only at hSw); go_simp
            (try simp only [Act.put, List.setIfInBounds_toArray, List.set_cons_zero, List.set_cons_succ])
            refine wpAnyH_take (i := 30) (oi := ⟨some 128, _, _, _, _, _⟩) (v := .bool false) rfl (by kernel_rfl) (by kernel_rfl) (by kernel_rfl) (fun _ _ _ h => h) (Or.inl ⟨by rfl, ?_⟩) hHeld ?_
            · intro w hSw; (try dsimp only at hSw); go_simp
            (try simp only [Act.put, List.setIfInBounds_toArray, List.set_cons_zero, List.set_cons_succ])
            have HF10 := Lib.hid (HF9.out.trans hHeld)
            clear hHeld
            refine wpAnyH_done (by kernel_rfl) ?_ _
            go_wp2_with fail
            go_roundw
            case rel => exact ⟨k + 1, by omega, by go_num, HF10.out⟩
            case measure => simp [intOf]; omega
        · have hle := hoth (by simpa using h1)
          have e1 : (tk != 1) = true := by simpa using h1
          have d1 : decide (p < cc') = false := by simp; omega
          clear hfix hoth h1 hkk hkd hvv ht hta hct hpr hln HRA
          go_wp2_with fail
          go_quiet (fail)
          go_wp2_with fail
          go_roundw
          case rel => exact ⟨k + 1, by omega, by go_num, hf.drewN _⟩
          case measure => simp [intOf]; omega
      · obtain rfl : n = k := by omega
        clear hf
        go_wp2_with fail
        refine (lives36_any _).mono ?_
        rintro e x9 ⟨rfl, f9⟩
        go_wp2_with fail
        go_ret
        exact ⟨rfl, (HFW.out.trans f9).below⟩
  · have e1 : (alE g s cs ct cr cl != 0) = true := by simpa using hE
    have eV : ∀ v, alV g s cs ct cr cl v = .agg #[.int .i64 0, .int .i64 0, .int .i64 0, v] := fun v => by unfold alV; rw [if_neg hE]
    have HEV := Lib.hid eV
    have HAL := Lib.hid hAL
    clear hAL hok r2 r3 hr3' hE eV
    generalize alE g s cs ct cr cl = E at *
    go_enter Try.func11, Try.ntmps11
    go_upto_region 1 with (refine box_game rfl (.tmp 0) rfl g rfl ?_; intro w1 hg1 hz1 hf1)
    have k0 : (w1.alloc (.cells #[.slice a3 ct.length c3, .int .i64 cr, .int .i64 cl] 43)).cell? ⟨w.heap.size + 1, 0, none⟩ = some (.slice a3 ct.length c3) := new_cell hz1 rfl
    have k1 : (w1.alloc (.cells #[.slice a3 ct.length c3, .int .i64 cr, .int .i64 cl] 43)).cell? ⟨w.heap.size + 1, 1, none⟩ = some (.int .i64 cr) := new_cell hz1 rfl
    have k2 : (w1.alloc (.cells #[.slice a3 ct.length c3, .int .i64 cr, .int .i64 cl] 43)).cell? ⟨w.heap.size + 1, 2, none⟩ = some (.int .i64 cl) := new_cell hz1 rfl
    have hg2 := hg1.fr ((Fr.refl [] w1).alloc (.cells #[.slice a3 ct.length c3, .int .i64 cr, .int .i64 cl] 43)) (by simp)
    have F2 := hf1.alloc (.cells #[.slice a3 ct.length c3, .int .i64 cr, .int .i64 cl] 43)
    generalize w1.alloc (.cells #[.slice a3 ct.length c3, .int .i64 cr, .int .i64 cl] 43) = x2 at *
    clear hg1 hz1 hf1
    go_wp2_with (refine load_game rfl (.tmp 4) rfl _ rfl g hg2 ?_)
    refine (HAL.out _ F2).mono ?_
    rintro e x3 ⟨v, rfl, ho, f3'⟩
    obtain ⟨av, cv, rfl, _, _⟩ := ho.any
    rw [HEV.out]
    have HF3 := Lib.hid (F2.trans f3')
    clear k0 k1 k2 hg2 F2 f3' ho
    go_wp2_with fail
    refine (lives36_any _).mono ?_
    rintro e x5 ⟨rfl, f5⟩
    have HF5 := Lib.hid ((HF3.out.alloc (.cells #[.int .i64 0, .int .i64 0, .int .i64 0, .slice av (alL g s cs ct cr cl).length cv] 45)).trans f5)
    clear f5
    go_wp2_with fail
    go_ret
    exact ⟨rfl, HF5.out.below⟩
theorem own : ownKnob Try.prog.godebug = none := by kernel_rfl
theorem laidOut : laidOutB Try.prog = true := by kernel_rfl
set_option maxRecDepth 100000 in
theorem lifted (os : Os) (started : os.Started) (H : Type) (enc : TypeId × Value → H) :
    ReturnsInHanded {} Try.checked os 11 .any (Rows.poolNeedsSpec.pre6 enc Try.prog Try.f11 Rows.poolNeedsRow.domain false) (Rows.poolNeedsSpec.post enc Try.prog Try.f11 false true false false) := by
  refine returnsInHanded_of_change (C := Try.checked) own started (by kernel_rfl) Try.func11
    (ChangeSpec.witness6 (enc := enc) (C := Try.checked) false ⟨#[], #[.agg #[.string ByteArray.empty, .int .i64 0, .int .i64 0, .int .i64 0, .int .i64 0, .int .i64 0, .int .i64 0, .int .i64 0, .int .i64 0, .int .i64 0, .int .i64 0, .int .i64 0, .int .i64 0, .int .i64 0, .int .i64 0, .int .i64 0, .int .i64 0, .int .i64 0, .int .i64 0, .int .i64 0, .slice none 0 0, .slice none 0 0], .int .i64 0, .slice none 0 0, .agg #[.slice none 0 0, .int .i64 0, .int .i64 0]], []⟩ 8 (by kernel_rfl) (by kernel_rfl) (by kernel_rfl) (by kernel_rfl)) ?_
  intro W base args ds gs before hval0 hW hcnd _
  have hval : ∀ (j : Nat) t v, Try.f11.params[j]? = some t → args[j]? = some v → Value.okWide Try.prog W .any base t v := hval0
  have hW' := hW
  obtain ⟨p, q, hA0, hV, rfl, hfz, hnd⟩ := hW
  have hA : DataW.TrodAll enc Try.prog W 0 (fun _ => true) true Try.f11.params.toList args.toList ds p := hA0
  rw [Try.params11] at hA hval
  obtain ⟨v0, vs0, d0, ds0, p0, q0, hargs, rfl, rfl, h0, r0⟩ := trodAll_cons hA
  obtain ⟨v1, vs1, d1, ds1, p1, q1, rfl, rfl, rfl, h1, r1⟩ := trodAll_cons r0
  obtain ⟨v2, vs2, d2, ds2, p2, q2, rfl, rfl, rfl, h2, r2⟩ := trodAll_cons r1
  obtain ⟨v3, vs3, d3, ds3, p3, q3, rfl, rfl, rfl, h3, r3⟩ := trodAll_cons r2
  obtain ⟨rfl, rfl, rfl⟩ := trodAll_nil r3
  obtain rfl : args = #[v0, v1, v2, v3] := by cases args; simp_all
  obtain ⟨rfl, rfl⟩ := trodVars_none hV
  have k0 := h0
  have lt0 : ∀ x ∈ p0, x.block < W.heap.size := by obtain ⟨m, hm⟩ := k0; exact DataW.trod_lt m _ _ _ hm
  obtain ⟨g0, hv0, hg0⟩ := open_game (hval 0 25 v0 rfl rfl) h0
  obtain ⟨a1, rfl, rfl, rfl, w1⟩ := open_int Try.underlying3 (hval 1 3 v1 rfl rfl) h1
  have k2 := h2
  have lt2 : ∀ x ∈ p2, x.block < W.heap.size := by obtain ⟨m, hm⟩ := k2; exact DataW.trod_lt m _ _ _ hm
  obtain ⟨l2, hr2, _⟩ := open_intarg (hval 2 31 v2 rfl rfl) h2
  have k3 := h3
  have lt3 : ∀ x ∈ p3, x.block < W.heap.size := by obtain ⟨m, hm⟩ := k3; exact DataW.trod_lt m _ _ _ hm
  obtain ⟨cv3, cl3, cr3, ck3, hv3, hr3⟩ := open_carry (hval 3 43 v3 rfl rfl) h3
  clear hA0 hval0
  refine (walk v0 g0 a1 v2 l2 v3 cv3 cl3 cr3 ck3 W hv0 hg0 w1 hr2 hv3 hr3).mono fun e W' ⟨he, bel⟩ => ?_
  subst he
  exact ⟨_, rfl, _, _, _, [], _, [], hW', trodAll_mk1 (shut_bool Try.underlying4 _), (trodAll_cons_mk (Below.trod laidOut (by kernel_rfl) (of_decide_eq_true (by kernel_rfl)) k0 bel lt0) (trodAll_cons_mk (shut_int Try.underlying3 w1) (trodAll_cons_mk (Below.trod laidOut (by kernel_rfl) (of_decide_eq_true (by kernel_rfl)) k2 bel lt2) (trodAll_cons_mk (Below.trod laidOut (by kernel_rfl) (of_decide_eq_true (by kernel_rfl)) k3 bel lt3) trodAll_mk0)))), rfl, bel.frame _, fun h => by cases h⟩
theorem over : Rows.poolNeedsRow.holds Try.pinned (OpenSpec.ofChange Rows.poolNeedsSpec) :=
  OpenClaim.holds_of_wide 11 Try.f11 rfl rfl rfl rfl rfl rfl rfl ⟨rfl, rfl, rfl, rfl, rfl⟩ rfl rfl rfl rfl rfl (by kernel_rfl) Try.func11 (by kernel_rfl)
    (of_decide_eq_true (by kernel_rfl)) (by unfold Func.isWrapper; first | (rw [if_pos (by decide +kernel)]; kernel_rfl) | (rw [if_neg (by decide +kernel)]; exact ⟨rfl, rfl⟩))
    (fun os started H enc _ => lifted os started H enc)
/-- THE STATEMENT -/
theorem proved : Rows.PoolNeedsSaid := over
end Go.Proofs.Ytdinjekpcgndmaa.poolNeeds
