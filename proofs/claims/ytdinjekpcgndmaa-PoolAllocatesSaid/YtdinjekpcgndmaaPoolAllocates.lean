/-
  PoolAllocates: for every game, sales, counts and carry the statement returns true: the program's Allocate and the reference's answer alike. No conditions.
-/
import Derived.Test.YtdinjekpcgndmaaPrizeBase
import Derived.Test.YtdinjekpcgndmaaRAlloc
import Derived.ProofKit
import Derived.OpenShut
import Derived.ShutString
import Derived.ChangeOld
namespace Go.Proofs.Ytdinjekpcgndmaa.poolAllocates
open Go.ChangeShapes Go.WideShapes Go.ChangeAt Go.RowKit
open Go.ChangeMaps (open_string shut_string)
set_option linter.unusedVariables false
set_option maxRecDepth 20000 in
set_option maxHeartbeats 4000000 in
theorem walk (v0 : Value) (g : Gm) (s : Int) (v2 : Value) (cs : List Int) (v3 vt : Value) (ct : List Int) (cr cl : Int) (w : World) (hv0 : v0 = g.val) (hok : g.Ok w) (hro : (Lit.int .i64 s).wf = true) (hr2 : RdI w v2 cs) (hv3 : v3 = .agg #[vt, .int .i64 cr, .int .i64 cl]) (hr3 : RdI w vt ct) :
    Calls Try.prog 9 #[v0, .int .i64 s, v2, v3] w fun e w' => e = .returned (.bool true) ∧ Below w.heap.size w w' := by
  subst hv0 hv3
  have hAL := fun w' (h : Fr [] w w') => alloc_any g s v2 vt cs ct cr cl w' (hok.fr h) (hr2.below h) (hr3.below h)
  have hRA := fun w' (h : Fr [] w w') => ralloc_any g s v2 vt cs ct cr cl w' (hok.fr h) (hr2.below h) (hr3.below h)
  unfold AlPost at hAL hRA
  obtain ⟨X0, X1, X2, eV⟩ : ∃ X0 X1 X2 : Int, ∀ v, alV g s cs ct cr cl v = .agg #[.int .i64 X0, .int .i64 X1, .int .i64 X2, v] := by
    unfold alV
    split
    · exact ⟨_, _, _, fun _ => rfl⟩
    · exact ⟨_, _, _, fun _ => rfl⟩
  simp only [eV] at hAL hRA
  obtain ⟨a2, c2, rfl, l2, m2, r2⟩ := hr2
  obtain ⟨a3, c3, rfl, l3, m3, r3⟩ := hr3
  have HAL := Lib.hid hAL
  have HRA := Lib.hid hRA
  clear hAL hRA hok r2 r3 eV
  generalize alE g s cs ct cr cl = E at *
  generalize alL g s cs ct cr cl = L at *
  have e1 : (E == E) = true := by simp
  go_enter Try.func9, Try.ntmps9
  go_upto_region 1 with (refine box_game rfl (.tmp 0) rfl g rfl ?_; intro w1 hg1 hz1 hf1)
  have k0 : (w1.alloc (.cells #[.slice a3 ct.length c3, .int .i64 cr, .int .i64 cl] 43)).cell? ⟨w.heap.size + 1, 0, none⟩ = some (.slice a3 ct.length c3) := new_cell hz1 rfl
  have k1 : (w1.alloc (.cells #[.slice a3 ct.length c3, .int .i64 cr, .int .i64 cl] 43)).cell? ⟨w.heap.size + 1, 1, none⟩ = some (.int .i64 cr) := new_cell hz1 rfl
  have k2 : (w1.alloc (.cells #[.slice a3 ct.length c3, .int .i64 cr, .int .i64 cl] 43)).cell? ⟨w.heap.size + 1, 2, none⟩ = some (.int .i64 cl) := new_cell hz1 rfl
  have hg2 := hg1.fr ((Fr.refl [] w1).alloc (.cells #[.slice a3 ct.length c3, .int .i64 cr, .int .i64 cl] 43)) (by simp)
  have F2 := hf1.alloc (.cells #[.slice a3 ct.length c3, .int .i64 cr, .int .i64 cl] 43)
  generalize w1.alloc (.cells #[.slice a3 ct.length c3, .int .i64 cr, .int .i64 cl] 43) = x2 at *
  clear hg1 hz1 hf1
  go_wp2_with (refine load_game rfl (.tmp 4) rfl _ rfl g hg2 ?_)
  refine (HAL.out _ F2).mono ?_
  rintro e x3 ⟨v, rfl, ho, f3'⟩
  obtain ⟨av, cv, rfl, hcv1, hcv2⟩ := ho.any
  have F3 := F2.trans f3'
  have j0 := f3'.cell_some k0 (by simp)
  have j1 := f3'.cell_some k1 (by simp)
  have j2 := f3'.cell_some k2 (by simp)
  have hg3 := hg2.fr f3' (by simp)
  clear k0 k1 k2 hg2 F2 f3'
  go_upto_region 2 with (fail)
  have q0 : (x3.alloc (.cells #[.int .i64 X0, .int .i64 X1, .int .i64 X2, .slice av L.length cv] 45)).cell? ⟨x3.heap.size, 0, none⟩ = some (.int .i64 X0) := new_cell rfl rfl
  have q1 : (x3.alloc (.cells #[.int .i64 X0, .int .i64 X1, .int .i64 X2, .slice av L.length cv] 45)).cell? ⟨x3.heap.size, 1, none⟩ = some (.int .i64 X1) := new_cell rfl rfl
  have q2 : (x3.alloc (.cells #[.int .i64 X0, .int .i64 X1, .int .i64 X2, .slice av L.length cv] 45)).cell? ⟨x3.heap.size, 2, none⟩ = some (.int .i64 X2) := new_cell rfl rfl
  have q3 : (x3.alloc (.cells #[.int .i64 X0, .int .i64 X1, .int .i64 X2, .slice av L.length cv] 45)).cell? ⟨x3.heap.size, 3, none⟩ = some (.slice av L.length cv) := new_cell rfl rfl
  have e4 : Fr [] x3 (x3.alloc (.cells #[.int .i64 X0, .int .i64 X1, .int .i64 X2, .slice av L.length cv] 45)) := (Fr.refl [] x3).alloc _
  generalize x3.alloc (.cells #[.int .i64 X0, .int .i64 X1, .int .i64 X2, .slice av L.length cv] 45) = x4 at *
  have F4 := F3.trans e4
  have k0 := e4.cell_some j0 (by simp)
  have k1 := e4.cell_some j1 (by simp)
  have k2 := e4.cell_some j2 (by simp)
  have hg4 := hg3.fr e4 (by simp)
  have hr := ho.rd.below e4
  generalize x3.heap.size = bq at *
  clear j0 j1 j2 hg3 F3 ho e4
  go_wp2_with (refine load_game rfl (.tmp 4) rfl _ rfl g hg4 ?_)
  refine (HRA.out _ F4).mono ?_
  rintro e x5 ⟨v', rfl, ho, f5⟩
  obtain ⟨av', cv', rfl, hcw1, hcw2⟩ := ho.any
  have F5 := F4.trans f5
  have hr5 := hr.below f5
  have q0' := f5.cell_some q0 (by simp)
  have q1' := f5.cell_some q1 (by simp)
  have q2' := f5.cell_some q2 (by simp)
  have q3' := f5.cell_some q3 (by simp)
  clear k0 k1 k2 hg4 F4 f5 hr q0 q1 q2 q3
  go_upto_region 3 with (fail)
  have p0 : (x5.alloc (.cells #[.int .i64 X0, .int .i64 X1, .int .i64 X2, .slice av' L.length cv'] 45)).cell? ⟨x5.heap.size, 0, none⟩ = some (.int .i64 X0) := new_cell rfl rfl
  have p1 : (x5.alloc (.cells #[.int .i64 X0, .int .i64 X1, .int .i64 X2, .slice av' L.length cv'] 45)).cell? ⟨x5.heap.size, 1, none⟩ = some (.int .i64 X1) := new_cell rfl rfl
  have p2 : (x5.alloc (.cells #[.int .i64 X0, .int .i64 X1, .int .i64 X2, .slice av' L.length cv'] 45)).cell? ⟨x5.heap.size, 2, none⟩ = some (.int .i64 X2) := new_cell rfl rfl
  have p3 : (x5.alloc (.cells #[.int .i64 X0, .int .i64 X1, .int .i64 X2, .slice av' L.length cv'] 45)).cell? ⟨x5.heap.size, 3, none⟩ = some (.slice av' L.length cv') := new_cell rfl rfl
  have e6 : Fr [] x5 (x5.alloc (.cells #[.int .i64 X0, .int .i64 X1, .int .i64 X2, .slice av' L.length cv'] 45)) := (Fr.refl [] x5).alloc _
  generalize x5.alloc (.cells #[.int .i64 X0, .int .i64 X1, .int .i64 X2, .slice av' L.length cv'] 45) = x6 at *
  have F6 := F5.trans e6
  have q0 := e6.cell_some q0' (by simp)
  have q1 := e6.cell_some q1' (by simp)
  have q2 := e6.cell_some q2' (by simp)
  have q3 := e6.cell_some q3' (by simp)
  have hr1 := hr5.below e6
  have hr2 := ho.rd.below e6
  have HS := Lib.hid (same36_eq _ _ L X0 X1 X2 x6 hr1 hr2)
  have HF6 := Lib.hid F6
  generalize x5.heap.size = bp at *
  clear q0' q1' q2' q3' F5 ho hr5 e6 hr1 hr2 F6
  go_wp2_with fail
  refine HS.out.mono ?_
  rintro e x7 ⟨rfl, f7⟩
  have HF7 := Lib.hid (HF6.out.trans f7)
  clear f7 q0 q1 q2 q3 p0 p1 p2 p3
  go_wp2_with fail
  refine (lives36_any _).mono ?_
  rintro e x8 ⟨rfl, f8⟩
  have HF8 := Lib.hid (HF7.out.trans f8)
  clear f8
  go_wp2_with fail
  go_ret
  exact ⟨rfl, HF8.out.below⟩
theorem own : ownKnob Try.prog.godebug = none := by kernel_rfl
theorem laidOut : laidOutB Try.prog = true := by kernel_rfl
set_option maxRecDepth 100000 in
theorem lifted (os : Os) (started : os.Started) (H : Type) (enc : TypeId × Value → H) :
    ReturnsInHanded {} Try.checked os 9 .any (Rows.poolAllocatesSpec.pre6 enc Try.prog Try.f9 Rows.poolAllocatesRow.domain false) (Rows.poolAllocatesSpec.post enc Try.prog Try.f9 false true false false) := by
  refine returnsInHanded_of_change (C := Try.checked) own started (by kernel_rfl) Try.func9
    (ChangeSpec.witness6 (enc := enc) (C := Try.checked) false ⟨#[], #[.agg #[.string ByteArray.empty, .int .i64 0, .int .i64 0, .int .i64 0, .int .i64 0, .int .i64 0, .int .i64 0, .int .i64 0, .int .i64 0, .int .i64 0, .int .i64 0, .int .i64 0, .int .i64 0, .int .i64 0, .int .i64 0, .int .i64 0, .int .i64 0, .int .i64 0, .int .i64 0, .int .i64 0, .slice none 0 0, .slice none 0 0], .int .i64 0, .slice none 0 0, .agg #[.slice none 0 0, .int .i64 0, .int .i64 0]], []⟩ 8 (by kernel_rfl) (by kernel_rfl) (by kernel_rfl) (by kernel_rfl)) ?_
  intro W base args ds gs before hval0 hW hcnd _
  have hval : ∀ (j : Nat) t v, Try.f9.params[j]? = some t → args[j]? = some v → Value.okWide Try.prog W .any base t v := hval0
  have hW' := hW
  obtain ⟨p, q, hA0, hV, rfl, hfz, hnd⟩ := hW
  have hA : DataW.TrodAll enc Try.prog W 0 (fun _ => true) true Try.f9.params.toList args.toList ds p := hA0
  rw [Try.params9] at hA hval
  obtain ⟨v0, vs0, d0, ds0, p0, q0, hargs, rfl, rfl, h0, r0⟩ := trodAll_cons hA
  obtain ⟨v1, vs1, d1, ds1, p1, q1, rfl, rfl, rfl, h1, r1⟩ := trodAll_cons r0
  obtain ⟨v2, vs2, d2, ds2, p2, q2, rfl, rfl, rfl, h2, r2⟩ := trodAll_cons r1
  obtain ⟨v3, vs3, d3, ds3, p3, q3, rfl, rfl, rfl, h3, r3⟩ := trodAll_cons r2
  obtain ⟨rfl, rfl, rfl⟩ := trodAll_nil r3
  obtain rfl : args = #[v0, v1, v2, v3] := by cases args; simp_all
  obtain ⟨rfl, rfl⟩ := trodVars_none hV
  have k0 := h0
  have lt0 : ∀ x ∈ p0, x.block < W.heap.size := by obtain ⟨m, hm⟩ := k0; exact DataW.trod_lt m _ _ _ hm
  obtain ⟨g0, hv0, hg0⟩ := open_game (hval 0 25 v0 rfl rfl) h0
  obtain ⟨a1, rfl, rfl, rfl, w1⟩ := open_int Try.underlying3 (hval 1 3 v1 rfl rfl) h1
  have k2 := h2
  have lt2 : ∀ x ∈ p2, x.block < W.heap.size := by obtain ⟨m, hm⟩ := k2; exact DataW.trod_lt m _ _ _ hm
  obtain ⟨l2, hr2, _⟩ := open_intarg (hval 2 31 v2 rfl rfl) h2
  have k3 := h3
  have lt3 : ∀ x ∈ p3, x.block < W.heap.size := by obtain ⟨m, hm⟩ := k3; exact DataW.trod_lt m _ _ _ hm
  obtain ⟨cv3, cl3, cr3, ck3, hv3, hr3⟩ := open_carry (hval 3 43 v3 rfl rfl) h3
  clear hA0 hval0
  refine (walk v0 g0 a1 v2 l2 v3 cv3 cl3 cr3 ck3 W hv0 hg0 w1 hr2 hv3 hr3).mono fun e W' ⟨he, bel⟩ => ?_
  subst he
  exact ⟨_, rfl, _, _, _, [], _, [], hW', trodAll_mk1 (shut_bool Try.underlying4 _), (trodAll_cons_mk (Below.trod laidOut (by kernel_rfl) (of_decide_eq_true (by kernel_rfl)) k0 bel lt0) (trodAll_cons_mk (shut_int Try.underlying3 w1) (trodAll_cons_mk (Below.trod laidOut (by kernel_rfl) (of_decide_eq_true (by kernel_rfl)) k2 bel lt2) (trodAll_cons_mk (Below.trod laidOut (by kernel_rfl) (of_decide_eq_true (by kernel_rfl)) k3 bel lt3) trodAll_mk0)))), rfl, bel.frame _, fun h => by cases h⟩
theorem over : Rows.poolAllocatesRow.holds Try.pinned (OpenSpec.ofChange Rows.poolAllocatesSpec) :=
  OpenClaim.holds_of_wide 9 Try.f9 rfl rfl rfl rfl rfl rfl rfl ⟨rfl, rfl, rfl, rfl, rfl⟩ rfl rfl rfl rfl rfl (by kernel_rfl) Try.func9 (by kernel_rfl)
    (of_decide_eq_true (by kernel_rfl)) (by unfold Func.isWrapper; first | (rw [if_pos (by decide +kernel)]; kernel_rfl) | (rw [if_neg (by decide +kernel)]; exact ⟨rfl, rfl⟩))
    (fun os started H enc _ => lifted os started H enc)
/-- THE STATEMENT -/
theorem proved : Rows.PoolAllocatesSaid := over
end Go.Proofs.Ytdinjekpcgndmaa.poolAllocates
