/-
  PoolBalances: for every game, sales, counts and carry the statement returns true: the pools and what is put into the reserve fund are the fund, what was carried, and what the reserve fund gives. No conditions.
-/
import Derived.Test.YtdinjekpcgndmaaSum36
import Derived.Test.YtdinjekpcgndmaaPoolF
import Derived.Test.YtdinjekpcgndmaaCarry
import Derived.Test.YtdinjekpcgndmaaIntArg
import Derived.ProofKit
import Derived.OpenShut
import Derived.ShutString
import Derived.ChangeOld
namespace Go.Proofs.Ytdinjekpcgndmaa.poolBalances
open Go.ChangeShapes Go.WideShapes Go.ChangeAt Go.RowKit
open Go.ChangeMaps (open_string shut_string)
set_option linter.unusedVariables false
theorem bal {A B S R CS cr B' : Int} {d : Bool} (h1 : R = max 0 (A - B - S)) (h2 : B' = if d = true then B else B + R) (h3 : S ≤ A + cr) (hB : 0 ≤ B) (h4 : 0 ≤ cr) :
    (S + ((if d = true then R else 0) + CS) + B' = A + CS + (if S - (A - B) < 0 then 0 else S - (A - B))) ∧ (if S - (A - B) < 0 then 0 else S - (A - B)) ≤ cr + B ∧ B ≤ B' := by
  cases d <;> simp at h2 ⊢ <;> split <;> omega
set_option maxRecDepth 20000 in
set_option maxHeartbeats 4000000 in
theorem walk (v0 : Value) (g : Gm) (s : Int) (v2 : Value) (cs : List Int) (v3 vt : Value) (ct : List Int) (cr cl : Int) (w : World) (hv0 : v0 = g.val) (hok : g.Ok w) (hro : (Lit.int .i64 s).wf = true) (hr2 : RdI w v2 cs) (hv3 : v3 = .agg #[vt, .int .i64 cr, .int .i64 cl]) (hr3 : RdI w vt ct) :
    Calls Try.prog 10 #[v0, .int .i64 s, v2, v3] w fun e w' => e = .returned (.bool true) ∧ Below w.heap.size w w' := by
  subst hv0 hv3
  have hAL := fun w' (h : Fr [] w w') => alloc_any g s v2 vt cs ct cr cl w' (hok.fr h) (hr2.below h) (hr3.below h)
  unfold AlPost at hAL
  obtain ⟨a2, c2, rfl, l2, m2, r2⟩ := hr2
  have hr3' := hr3
  obtain ⟨a3, c3, rfl, l3, m3, r3⟩ := hr3
  by_cases hE : alE g s cs ct cr cl = 0
  · have F := alE_facts hE
    have hFU := fun w' (h : Fr [] w w') => fund_any g s w' (hok.fr h)
    unfold FuPost at hFU
    rw [F.fu] at hFU
    have eL : alL g s cs ct cr cl = tlL g.tiers cs ct (fuA g s) (fuB g s) cr := by unfold alL; rw [if_pos hE]
    have eV : ∀ v, alV g s cs ct cr cl v = .agg #[.int .i64 s, .int .i64 (fuA g s), .int .i64 (alR g s cs cr), v] := fun v => by unfold alV; rw [if_pos hE]
    rw [hE, eL] at hAL
    have hn := game_len F.ch
    have tb : ∀ j, j < ct.length → 0 ≤ ct.getD j 0 ∧ ct.getD j 0 ≤ 1000000000000 := fun j hj => ⟨(F.tb j hj).1, (F.tb j hj).2.1⟩
    have hS1 := fun v w' (h : Fr [] w w') (hr : RdI w' v (tlL g.tiers cs ct (fuA g s) (fuB g s) cr)) => sum36_any g v _ true w' (hok.fr h) hr (tlL_len _ _ _ _ _ _) (by rw [tlL_len]; omega) F.tl01
    have hS2 := fun v w' (h : Fr [] w w') (hr : RdI w' v (tlL g.tiers cs ct (fuA g s) (fuB g s) cr)) => sum36_any g v _ false w' (hok.fr h) hr (tlL_len _ _ _ _ _ _) (by rw [tlL_len]; omega) F.tl01
    have hS3 := fun w' (h : Fr [] w w') => sum36_any g _ ct false w' (hok.fr h) (hr3'.below h) F.ctl (by rw [F.ctl]; omega) tb
    rw [tlL_len, F.fix] at hS1
    rw [tlL_len, F.oth] at hS2
    rw [show sumK g.tiers false ct ct.length = sumK g.tiers false ct g.tiers.length by rw [F.ctl]] at hS3
    have hb3 := @sumK_bd g.tiers false ct tb g.tiers.length (by rw [F.ctl]; exact Nat.le_refl _)
    have hS01 := F.S01
    have hR01 := F.R01
    have hrs : rsT g.tiers cs (fuA g s) (fuB g s) cr = max 0 (fuA g s - fuB g s - pdS g.tiers cs (fuA g s + cr)) := rfl
    have har : alR g s cs cr = if dvB g.tiers = true then fuB g s else fuB g s + rsT g.tiers cs (fuA g s) (fuB g s) cr := rfl
    obtain ⟨z1, z2, z3⟩ := bal (CS := sumK g.tiers false ct g.tiers.length) hrs har hS01.2 F.B0 F.r01.1
    have f1 := F.B0; have f2 := F.BA; have f3 := F.As; have f4 := F.s01; have f5 := F.r01
    have htl := tlL_len g.tiers cs ct (fuA g s) (fuB g s) cr
    have hctl := F.ctl
    have har2 : alR g s cs cr ≤ 3000000000000 := by rw [har]; split <;> omega
    have hoth : 0 ≤ (if dvB g.tiers = true then rsT g.tiers cs (fuA g s) (fuB g s) cr else 0) ∧ (if dvB g.tiers = true then rsT g.tiers cs (fuA g s) (fuB g s) cr else 0) ≤ 1000000000000 := by split <;> omega
    generalize (if dvB g.tiers = true then rsT g.tiers cs (fuA g s) (fuB g s) cr else 0) = Q at *
    generalize alR g s cs cr = B' at *
    generalize pdS g.tiers cs (fuA g s + cr) = S at *
    generalize tlL g.tiers cs ct (fuA g s) (fuB g s) cr = TL at *
    generalize sumK g.tiers false ct g.tiers.length = CS at *
    generalize fuA g s = A at *
    generalize fuB g s = B at *
    have hCS : CS ≤ 1000000000000 * 12 := by omega
    have hCS0 : 0 ≤ CS := hb3.1
    have hB0 : 0 ≤ B' := by omega
    have HAL := Lib.hid hAL
    have HFU := Lib.hid hFU
    have HS1 := Lib.hid hS1
    have HS2 := Lib.hid hS2
    have HS3 := Lib.hid hS3
    have HEV := Lib.hid eV
    have HTL := Lib.hid htl
    have HCTL := Lib.hid hctl
    have HZ1 := Lib.hid z1
    have HZ2 := Lib.hid z2
    have HZ3 := Lib.hid z3
    have h21 : ∀ w b, GmAt w b g → w.cell? ⟨b, 21, none⟩ = some (.slice g.ta g.tiers.length g.tc) := fun w b h => h.cell 21 _ rfl
    have H21 := Lib.hid h21
    clear hAL hFU hS1 hS2 hS3 eV htl hctl z1 z2 z3 hrs har eL hE F tb hr3' hok r2 r3 h21 hb3 hR01
    go_enter Try.func10, Try.ntmps10
    go_upto_region 1 with (refine box_game rfl (.tmp 0) rfl g rfl ?_; intro w1 hg1 hz1 hf1)
    have k0 : (w1.alloc (.cells #[.slice a3 ct.length c3, .int .i64 cr, .int .i64 cl] 43)).cell? ⟨w.heap.size + 1, 0, none⟩ = some (.slice a3 ct.length c3) := new_cell hz1 rfl
    have k1 : (w1.alloc (.cells #[.slice a3 ct.length c3, .int .i64 cr, .int .i64 cl] 43)).cell? ⟨w.heap.size + 1, 1, none⟩ = some (.int .i64 cr) := new_cell hz1 rfl
    have k2 : (w1.alloc (.cells #[.slice a3 ct.length c3, .int .i64 cr, .int .i64 cl] 43)).cell? ⟨w.heap.size + 1, 2, none⟩ = some (.int .i64 cl) := new_cell hz1 rfl
    have hg2 := hg1.fr ((Fr.refl [] w1).alloc (.cells #[.slice a3 ct.length c3, .int .i64 cr, .int .i64 cl] 43)) (by simp)
    have F2 := hf1.alloc (.cells #[.slice a3 ct.length c3, .int .i64 cr, .int .i64 cl] 43)
    generalize w1.alloc (.cells #[.slice a3 ct.length c3, .int .i64 cr, .int .i64 cl] 43) = x2 at *
    clear hg1 hz1 hf1
    go_wp2_with (refine load_game rfl (.tmp 4) rfl _ rfl g hg2 ?_)
    refine (HAL.out _ F2).mono ?_
    rintro e x3 ⟨v, rfl, ho, f3'⟩
    obtain ⟨av, cv, rfl, hcv1, hcv2⟩ := ho.any
    rw [HEV.out]
    rw [HTL.out] at hcv1 ⊢
    have F3 := F2.trans f3'
    have k0' := f3'.cell_some k0 (by simp)
    have k1' := f3'.cell_some k1 (by simp)
    have hg3 := hg2.fr f3' (by simp)
    clear k0 k1 k2 hg2 F2 f3'
    go_upto_region 2 with (fail)
    have q0 : (x3.alloc (.cells #[.int .i64 s, .int .i64 A, .int .i64 B', .slice av g.tiers.length cv] 45)).cell? ⟨x3.heap.size, 0, none⟩ = some (.int .i64 s) := new_cell rfl rfl
    have q1 : (x3.alloc (.cells #[.int .i64 s, .int .i64 A, .int .i64 B', .slice av g.tiers.length cv] 45)).cell? ⟨x3.heap.size, 1, none⟩ = some (.int .i64 A) := new_cell rfl rfl
    have q2 : (x3.alloc (.cells #[.int .i64 s, .int .i64 A, .int .i64 B', .slice av g.tiers.length cv] 45)).cell? ⟨x3.heap.size, 2, none⟩ = some (.int .i64 B') := new_cell rfl rfl
    have q3 : (x3.alloc (.cells #[.int .i64 s, .int .i64 A, .int .i64 B', .slice av g.tiers.length cv] 45)).cell? ⟨x3.heap.size, 3, none⟩ = some (.slice av g.tiers.length cv) := new_cell rfl rfl
    have e4 : Fr [] x3 (x3.alloc (.cells #[.int .i64 s, .int .i64 A, .int .i64 B', .slice av g.tiers.length cv] 45)) := (Fr.refl [] x3).alloc _
    generalize x3.alloc (.cells #[.int .i64 s, .int .i64 A, .int .i64 B', .slice av g.tiers.length cv] 45) = x4 at *
    have F4 := F3.trans e4
    have k0 := e4.cell_some k0' (by simp)
    have k1 := e4.cell_some k1' (by simp)
    have hg4 := hg3.fr e4 (by simp)
    have hr := ho.rd.below e4
    rw [HTL.out] at hr
    generalize x3.heap.size = bq at *
    clear k0' k1' hg3 F3 ho e4
    go_wp2_with (refine load_game rfl (.tmp 4) rfl _ rfl g hg4 ?_)
    refine (HFU.out _ F4).mono ?_
    rintro e x5 ⟨rfl, f5⟩
    have F5 := F4.trans f5
    have k0' := f5.cell_some k0 (by simp)
    have k1' := f5.cell_some k1 (by simp)
    have hg5 := hg4.fr f5 (by simp)
    have c21 := H21.out _ _ hg5
    have hr5 := hr.below f5
    have q0' := f5.cell_some q0 (by simp)
    have q1' := f5.cell_some q1 (by simp)
    have q2' := f5.cell_some q2 (by simp)
    have q3' := f5.cell_some q3 (by simp)
    have en1 : ((g.tiers.length : Int) != (g.tiers.length : Int)) = false := by simp
    have en2 : ((ct.length : Int) != (g.tiers.length : Int)) = false := by rw [HCTL.out]; simp
    clear k0 k1 hg4 F4 f5 hr q0 q1 q2 q3
    go_wp2_with (refine load_game rfl (.tmp 4) rfl _ rfl g hg5 ?_)
    have M5 : GmAt x5 w.heap.size g ∧ x5.cell? ⟨w.heap.size + 1, 0, none⟩ = some (.slice a3 ct.length c3) ∧ x5.cell? ⟨w.heap.size + 1, 1, none⟩ = some (.int .i64 cr) ∧ x5.cell? ⟨bq, 0, none⟩ = some (.int .i64 s) ∧ x5.cell? ⟨bq, 1, none⟩ = some (.int .i64 A) ∧ x5.cell? ⟨bq, 2, none⟩ = some (.int .i64 B') ∧ x5.cell? ⟨bq, 3, none⟩ = some (.slice av g.tiers.length cv) ∧ RdI x5 (.slice av g.tiers.length cv) TL ∧ Fr [] w x5 := ⟨hg5, k0', k1', q0', q1', q2', q3', hr5, F5⟩
    have step : ∀ x y : World, Fr [] x y → (GmAt x w.heap.size g ∧ x.cell? ⟨w.heap.size + 1, 0, none⟩ = some (.slice a3 ct.length c3) ∧ x.cell? ⟨w.heap.size + 1, 1, none⟩ = some (.int .i64 cr) ∧ x.cell? ⟨bq, 0, none⟩ = some (.int .i64 s) ∧ x.cell? ⟨bq, 1, none⟩ = some (.int .i64 A) ∧ x.cell? ⟨bq, 2, none⟩ = some (.int .i64 B') ∧ x.cell? ⟨bq, 3, none⟩ = some (.slice av g.tiers.length cv) ∧ RdI x (.slice av g.tiers.length cv) TL ∧ Fr [] w x) →
        (GmAt y w.heap.size g ∧ y.cell? ⟨w.heap.size + 1, 0, none⟩ = some (.slice a3 ct.length c3) ∧ y.cell? ⟨w.heap.size + 1, 1, none⟩ = some (.int .i64 cr) ∧ y.cell? ⟨bq, 0, none⟩ = some (.int .i64 s) ∧ y.cell? ⟨bq, 1, none⟩ = some (.int .i64 A) ∧ y.cell? ⟨bq, 2, none⟩ = some (.int .i64 B') ∧ y.cell? ⟨bq, 3, none⟩ = some (.slice av g.tiers.length cv) ∧ RdI y (.slice av g.tiers.length cv) TL ∧ Fr [] w y) := fun x y f h =>
      ⟨h.1.fr f (by simp), f.cell_some h.2.1 (by simp), f.cell_some h.2.2.1 (by simp), f.cell_some h.2.2.2.1 (by simp), f.cell_some h.2.2.2.2.1 (by simp), f.cell_some h.2.2.2.2.2.1 (by simp), f.cell_some h.2.2.2.2.2.2.1 (by simp), h.2.2.2.2.2.2.2.1.below f, h.2.2.2.2.2.2.2.2.trans f⟩
    have ST := Lib.hid step
    refine (HS1.out _ _ F5 hr5).mono ?_
    rintro e x6 ⟨rfl, f6⟩
    have M6 := ST.out _ _ f6 M5
    have HM6 := Lib.hid M6
    clear M5 hg5 k0' k1' q0' q1' q2' q3' hr5 F5 f6 c21 step M6
    obtain ⟨hg6, k0, k1, q0, q1, q2, q3, hr6, F6⟩ := HM6.out
    go_wp2_with (refine load_game rfl (.tmp 4) rfl _ rfl g hg6 ?_)
    refine (HS2.out _ _ F6 hr6).mono ?_
    rintro e x7 ⟨rfl, f7⟩
    have M7 := ST.out _ _ f7 HM6.out
    have HM7 := Lib.hid M7
    clear hg6 k0 k1 q0 q1 q2 q3 hr6 F6 f7 HM6 M7
    obtain ⟨hg7, k0, k1, q0, q1, q2, q3, hr7, F7⟩ := HM7.out
    go_wp2_with (refine load_game rfl (.tmp 4) rfl _ rfl g hg7 ?_)
    refine (HS3.out _ F7).mono ?_
    rintro e x8 ⟨rfl, f8⟩
    have M8 := ST.out _ _ f8 HM7.out
    have HM8 := Lib.hid M8
    clear hg7 k0 k1 q0 q1 q2 q3 hr7 F7 f8 HM7 M8
    obtain ⟨_, _, k1, q0, q1, q2, _, _, F8⟩ := HM8.out
    have t1 : (A == A) = true := by simp
    have t2 : (s == s) = true := by simp
    have t5 : decide (B ≤ B') = true := by simpa using HZ3.out
    have HF8 := Lib.hid F8
    by_cases hg : S - (A - B) < 0
    · have t0 : decide (S - (A - B) < 0) = true := by simpa using hg
      have z1 := HZ1.out
      have z2 := HZ2.out
      rw [if_pos hg] at z1 z2
      have t3 : (S + (Q + CS) + B' == A + CS + 0) = true := by simpa using z1
      have t3' : (S + (Q + CS) + B' == A + CS) = true := by rw [Int.add_zero] at t3; exact t3
      have t4 : decide (0 ≤ cr + B) = true := by simpa using z2
      clear z1 z2 hg F8 HM8
      go_wp2_with fail
      refine (lives36_any _).mono ?_
      rintro e x9 ⟨rfl, f9⟩
      go_wp2_with fail
      go_ret
      exact ⟨rfl, (HF8.out.trans f9).below⟩
    · have t0 : decide (S - (A - B) < 0) = false := by simpa using hg
      have z1 := HZ1.out
      have z2 := HZ2.out
      rw [if_neg hg] at z1 z2
      have t3 : (S + (Q + CS) + B' == A + CS + (S - (A - B))) = true := by simpa using z1
      have t4 : decide (S - (A - B) ≤ cr + B) = true := by simpa using z2
      have z0 : 0 ≤ S - (A - B) := by omega
      clear z1 z2 hg F8 HM8
      go_wp2_with fail
      refine (lives36_any _).mono ?_
      rintro e x9 ⟨rfl, f9⟩
      go_wp2_with fail
      go_ret
      exact ⟨rfl, (HF8.out.trans f9).below⟩
  · have e1 : (alE g s cs ct cr cl != 0) = true := by simpa using hE
    have eV : ∀ v, alV g s cs ct cr cl v = .agg #[.int .i64 0, .int .i64 0, .int .i64 0, v] := fun v => by unfold alV; rw [if_neg hE]
    have HEV := Lib.hid eV
    have HAL := Lib.hid hAL
    clear hAL hok r2 r3 hr3' hE eV
    generalize alE g s cs ct cr cl = E at *
    go_enter Try.func10, Try.ntmps10
    go_upto_region 1 with (refine box_game rfl (.tmp 0) rfl g rfl ?_; intro w1 hg1 hz1 hf1)
    have k0 : (w1.alloc (.cells #[.slice a3 ct.length c3, .int .i64 cr, .int .i64 cl] 43)).cell? ⟨w.heap.size + 1, 0, none⟩ = some (.slice a3 ct.length c3) := new_cell hz1 rfl
    have k1 : (w1.alloc (.cells #[.slice a3 ct.length c3, .int .i64 cr, .int .i64 cl] 43)).cell? ⟨w.heap.size + 1, 1, none⟩ = some (.int .i64 cr) := new_cell hz1 rfl
    have k2 : (w1.alloc (.cells #[.slice a3 ct.length c3, .int .i64 cr, .int .i64 cl] 43)).cell? ⟨w.heap.size + 1, 2, none⟩ = some (.int .i64 cl) := new_cell hz1 rfl
    have hg2 := hg1.fr ((Fr.refl [] w1).alloc (.cells #[.slice a3 ct.length c3, .int .i64 cr, .int .i64 cl] 43)) (by simp)
    have F2 := hf1.alloc (.cells #[.slice a3 ct.length c3, .int .i64 cr, .int .i64 cl] 43)
    generalize w1.alloc (.cells #[.slice a3 ct.length c3, .int .i64 cr, .int .i64 cl] 43) = x2 at *
    clear hg1 hz1 hf1
    go_wp2_with (refine load_game rfl (.tmp 4) rfl _ rfl g hg2 ?_)
    refine (HAL.out _ F2).mono ?_
    rintro e x3 ⟨v, rfl, ho, f3'⟩
    obtain ⟨av, cv, rfl, _, _⟩ := ho.any
    rw [HEV.out]
    have HF3 := Lib.hid (F2.trans f3')
    clear k0 k1 k2 hg2 F2 f3' ho
    go_wp2_with fail
    refine (lives36_any _).mono ?_
    rintro e x5 ⟨rfl, f5⟩
    have HF5 := Lib.hid ((HF3.out.alloc (.cells #[.int .i64 0, .int .i64 0, .int .i64 0, .slice av (alL g s cs ct cr cl).length cv] 45)).trans f5)
    clear f5
    go_wp2_with fail
    go_ret
    exact ⟨rfl, HF5.out.below⟩
theorem own : ownKnob Try.prog.godebug = none := by kernel_rfl
theorem laidOut : laidOutB Try.prog = true := by kernel_rfl
set_option maxRecDepth 100000 in
theorem lifted (os : Os) (started : os.Started) (H : Type) (enc : TypeId × Value → H) :
    ReturnsInHanded {} Try.checked os 10 .any (Rows.poolBalancesSpec.pre6 enc Try.prog Try.f10 Rows.poolBalancesRow.domain false) (Rows.poolBalancesSpec.post enc Try.prog Try.f10 false true false false) := by
  refine returnsInHanded_of_change (C := Try.checked) own started (by kernel_rfl) Try.func10
    (ChangeSpec.witness6 (enc := enc) (C := Try.checked) false ⟨#[], #[.agg #[.string ByteArray.empty, .int .i64 0, .int .i64 0, .int .i64 0, .int .i64 0, .int .i64 0, .int .i64 0, .int .i64 0, .int .i64 0, .int .i64 0, .int .i64 0, .int .i64 0, .int .i64 0, .int .i64 0, .int .i64 0, .int .i64 0, .int .i64 0, .int .i64 0, .int .i64 0, .int .i64 0, .slice none 0 0, .slice none 0 0], .int .i64 0, .slice none 0 0, .agg #[.slice none 0 0, .int .i64 0, .int .i64 0]], []⟩ 8 (by kernel_rfl) (by kernel_rfl) (by kernel_rfl) (by kernel_rfl)) ?_
  intro W base args ds gs before hval0 hW hcnd _
  have hval : ∀ (j : Nat) t v, Try.f10.params[j]? = some t → args[j]? = some v → Value.okWide Try.prog W .any base t v := hval0
  have hW' := hW
  obtain ⟨p, q, hA0, hV, rfl, hfz, hnd⟩ := hW
  have hA : DataW.TrodAll enc Try.prog W 0 (fun _ => true) true Try.f10.params.toList args.toList ds p := hA0
  rw [Try.params10] at hA hval
  obtain ⟨v0, vs0, d0, ds0, p0, q0, hargs, rfl, rfl, h0, r0⟩ := trodAll_cons hA
  obtain ⟨v1, vs1, d1, ds1, p1, q1, rfl, rfl, rfl, h1, r1⟩ := trodAll_cons r0
  obtain ⟨v2, vs2, d2, ds2, p2, q2, rfl, rfl, rfl, h2, r2⟩ := trodAll_cons r1
  obtain ⟨v3, vs3, d3, ds3, p3, q3, rfl, rfl, rfl, h3, r3⟩ := trodAll_cons r2
  obtain ⟨rfl, rfl, rfl⟩ := trodAll_nil r3
  obtain rfl : args = #[v0, v1, v2, v3] := by cases args; simp_all
  obtain ⟨rfl, rfl⟩ := trodVars_none hV
  have k0 := h0
  have lt0 : ∀ x ∈ p0, x.block < W.heap.size := by obtain ⟨m, hm⟩ := k0; exact DataW.trod_lt m _ _ _ hm
  obtain ⟨g0, hv0, hg0⟩ := open_game (hval 0 25 v0 rfl rfl) h0
  obtain ⟨a1, rfl, rfl, rfl, w1⟩ := open_int Try.underlying3 (hval 1 3 v1 rfl rfl) h1
  have k2 := h2
  have lt2 : ∀ x ∈ p2, x.block < W.heap.size := by obtain ⟨m, hm⟩ := k2; exact DataW.trod_lt m _ _ _ hm
  obtain ⟨l2, hr2, _⟩ := open_intarg (hval 2 31 v2 rfl rfl) h2
  have k3 := h3
  have lt3 : ∀ x ∈ p3, x.block < W.heap.size := by obtain ⟨m, hm⟩ := k3; exact DataW.trod_lt m _ _ _ hm
  obtain ⟨cv3, cl3, cr3, ck3, hv3, hr3⟩ := open_carry (hval 3 43 v3 rfl rfl) h3
  clear hA0 hval0
  refine (walk v0 g0 a1 v2 l2 v3 cv3 cl3 cr3 ck3 W hv0 hg0 w1 hr2 hv3 hr3).mono fun e W' ⟨he, bel⟩ => ?_
  subst he
  exact ⟨_, rfl, _, _, _, [], _, [], hW', trodAll_mk1 (shut_bool Try.underlying4 _), (trodAll_cons_mk (Below.trod laidOut (by kernel_rfl) (of_decide_eq_true (by kernel_rfl)) k0 bel lt0) (trodAll_cons_mk (shut_int Try.underlying3 w1) (trodAll_cons_mk (Below.trod laidOut (by kernel_rfl) (of_decide_eq_true (by kernel_rfl)) k2 bel lt2) (trodAll_cons_mk (Below.trod laidOut (by kernel_rfl) (of_decide_eq_true (by kernel_rfl)) k3 bel lt3) trodAll_mk0)))), rfl, bel.frame _, fun h => by cases h⟩
theorem over : Rows.poolBalancesRow.holds Try.pinned (OpenSpec.ofChange Rows.poolBalancesSpec) :=
  OpenClaim.holds_of_wide 10 Try.f10 rfl rfl rfl rfl rfl rfl rfl ⟨rfl, rfl, rfl, rfl, rfl⟩ rfl rfl rfl rfl rfl (by kernel_rfl) Try.func10 (by kernel_rfl)
    (of_decide_eq_true (by kernel_rfl)) (by unfold Func.isWrapper; first | (rw [if_pos (by decide +kernel)]; kernel_rfl) | (rw [if_neg (by decide +kernel)]; exact ⟨rfl, rfl⟩))
    (fun os started H enc _ => lifted os started H enc)
/-- THE STATEMENT -/
theorem proved : Rows.PoolBalancesSaid := over
end Go.Proofs.Ytdinjekpcgndmaa.poolBalances
