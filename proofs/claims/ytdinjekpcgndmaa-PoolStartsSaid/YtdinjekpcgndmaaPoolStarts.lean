/-
  PoolStarts: for every game the statement returns true: the first carry of the program and of the reference are alike, and both Allocates answer alike at it. No conditions.
-/
import Derived.Test.YtdinjekpcgndmaaPrizeBase
import Derived.Test.YtdinjekpcgndmaaRAlloc
import Derived.ProofKit
import Derived.OpenShut
import Derived.ShutString
import Derived.ChangeOld
namespace Go.Proofs.Ytdinjekpcgndmaa.poolStarts
open Go.ChangeShapes Go.WideShapes Go.ChangeAt Go.RowKit
open Go.ChangeMaps (open_string shut_string)
set_option linter.unusedVariables false
attribute [local go_sem ↓] Go.wp_at_zero Go.wp_at_succ
set_option maxRecDepth 20000 in
set_option maxHeartbeats 8000000 in
theorem walk (v0 : Value) (g : Gm) (w : World) (hv0 : v0 = g.val) (hok : g.Ok w) :
    Calls Try.prog 12 #[v0] w fun e w' => e = .returned (.bool true) ∧ Below w.heap.size w w' := by
  subst hv0
  have hgr : ∀ w b, GmAt w b g → w.rangeAt b 0 g.cells := fun w b h j v hv => by rw [Nat.zero_add]; exact h.cell j v hv
  have hST := fun w' (h : Fr [] w w') => start_any g w' (hok.fr h)
  have hRS := fun w' (h : Fr [] w w') => rstart_any g w' (hok.fr h)
  have hLV := fun w' => lives36_any w'
  have hSC := fun v1 v2 w' h1 h2 => sameC_eq v1 v2 (stL g) w' h1 h2
  have hl12 : (stL g).length ≤ 12 := by
    unfold stL
    split
    · rename_i hc; rw [List.length_replicate]; exact (game_len hc).2
    · simp
  have hAL := fun w' (h : Fr [] w w') v2 vt (h2 : RdI w' v2 (List.replicate (stL g).length 0)) (h3 : RdI w' vt (stL g)) => alloc_any g 0 v2 vt _ _ 0 0 w' (hok.fr h) h2 h3
  have hRA := fun w' (h : Fr [] w w') v2 vt (h2 : RdI w' v2 (List.replicate (stL g).length 0)) (h3 : RdI w' vt (stL g)) => ralloc_any g 0 v2 vt _ _ 0 0 w' (hok.fr h) h2 h3
  unfold AlPost at hAL hRA
  unfold StPost at hST hRS
  obtain ⟨L, hL⟩ : ∃ L, L = stL g := ⟨_, rfl⟩
  rw [← hL] at hST hRS hSC hl12 hAL hRA
  obtain ⟨m, hm⟩ : ∃ m, m = L.length := ⟨_, rfl⟩
  rw [← hm] at hl12 hAL hRA
  obtain ⟨X0, X1, X2, eV⟩ : ∃ X0 X1 X2 : Int, ∀ v, alV g 0 (List.replicate m 0) L 0 0 v = .agg #[.int .i64 X0, .int .i64 X1, .int .i64 X2, v] := by
    unfold alV
    split
    · exact ⟨_, _, _, fun _ => rfl⟩
    · exact ⟨_, _, _, fun _ => rfl⟩
  simp only [eV] at hAL hRA
  generalize alE g 0 (List.replicate m 0) L 0 0 = E at *
  generalize alL g 0 (List.replicate m 0) L 0 0 = LL at *
  simp only [show g.val = .agg g.cells.toArray from rfl] at hRS hAL hRA
  obtain ⟨cs, hcs⟩ : ∃ cs, cs = g.cells := ⟨_, rfl⟩
  have hcl : cs.length = 22 := by rw [hcs]; rfl
  rw [← hcs] at hRS hAL hRA hgr
  have hmk := fun w => run_make_row' (P := Try.prog) 31 3 (.int .i64 0) 8 Try.underlying31 infoIntS rfl .i64 .i64 m (by omega) (by omega) w
  have e0 : (E == E) = true := by simp
  have HST := Lib.hid hST
  have HRS := Lib.hid hRS
  have HSC := Lib.hid hSC
  have HAL := Lib.hid hAL
  have HRA := Lib.hid hRA
  have HLV := Lib.hid hLV
  have HGR := Lib.hid hgr
  have HCL := Lib.hid hcl
  have HM := Lib.hid hm
  clear hST hRS hSC hAL hRA hLV hgr hcl hm hcs hL hok eV
  go_enter Try.func12, Try.ntmps12
  go_upto_region 1 with (refine box_game rfl (.tmp 0) rfl g rfl ?_; intro w1 hg1 hz1 hf1)
  go_wp2_with (refine load_game rfl (.tmp 1) rfl _ rfl g hg1 ?_)
  refine (HST.out _ hf1).mono ?_
  rintro e x2 ⟨v, rfl, ho, f2⟩
  obtain ⟨av, cv, rfl, hcv1, hcv2⟩ := ho.any
  have F2 := hf1.trans f2
  have hg2 := hg1.fr f2 (by simp)
  rw [← HM.out] at hcv1 ⊢
  clear hg1 hz1 hf1 f2
  go_upto_region 2 with (fail)
  have c0 : (x2.alloc (.cells #[.slice av m cv, .int .i64 0, .int .i64 0] 43)).cell? ⟨x2.heap.size, 0, none⟩ = some (.slice av m cv) := new_cell rfl rfl
  have c1 : (x2.alloc (.cells #[.slice av m cv, .int .i64 0, .int .i64 0] 43)).cell? ⟨x2.heap.size, 1, none⟩ = some (.int .i64 0) := new_cell rfl rfl
  have c2 : (x2.alloc (.cells #[.slice av m cv, .int .i64 0, .int .i64 0] 43)).cell? ⟨x2.heap.size, 2, none⟩ = some (.int .i64 0) := new_cell rfl rfl
  have e3 : Fr [] x2 (x2.alloc (.cells #[.slice av m cv, .int .i64 0, .int .i64 0] 43)) := (Fr.refl [] x2).alloc _
  have F3 := F2.trans e3
  have hR3 := HGR.out _ _ (hg2.fr e3 (by simp))
  have hr3 := ho.rd.below e3
  rw [← HM.out] at hr3
  generalize x2.alloc (.cells #[.slice av m cv, .int .i64 0, .int .i64 0] 43) = x3 at *
  generalize x2.heap.size = bc at *
  have hu1 := Try.underlying25
  have hi1 : (Try.prog.info? 25).map (·.size) = some cs.length := by rw [HCL.out]; exact infoGame
  have hkeep : ∀ w', Fr [] x3 w' → (w'.rangeAt w.heap.size 0 cs ∧ w'.cell? ⟨bc, 0, none⟩ = some (.slice av m cv) ∧ w'.cell? ⟨bc, 1, none⟩ = some (.int .i64 0) ∧ w'.cell? ⟨bc, 2, none⟩ = some (.int .i64 0) ∧ Fr [] x3 w') :=
    fun w' fr => ⟨fr.range hR3, fr.cell_some c0 (by simp), fr.cell_some c1 (by simp), fr.cell_some c2 (by simp), fr⟩
  have HK := Lib.hid hkeep
  have HF3 := Lib.hid F3
  have HR3 := Lib.hid hr3
  clear hkeep c0 c1 c2 hR3 e3 F3 F2 hg2 ho hr3
  go_cut [14] (fun b wx => b = .bool false ∧ Fr [] x3 wx)
  case first =>
    refine wp_region_held_drew (S := (fun w' => w'.rangeAt w.heap.size 0 cs ∧ w'.cell? ⟨bc, 0, none⟩ = some (.slice av m cv) ∧ w'.cell? ⟨bc, 1, none⟩ = some (.int .i64 0) ∧ w'.cell? ⟨bc, 2, none⟩ = some (.int .i64 0) ∧ Fr [] x3 w')) (by kernel_rfl) (HK.out _ (Fr.refl [] _).drew) (fun hHeld => ?_)
    refine wpAnyH_take (i := 0) (oi := ⟨some 10, _, _, _, _, _⟩) (v := .agg #[.slice av m cv, .int .i64 0, .int .i64 0]) rfl (by kernel_rfl) (by kernel_rfl) (by kernel_rfl) (fun _ _ _ h => h) (Or.inl ⟨by rfl, ?_⟩) hHeld ?_
    · intro w hSw; (try dsimp only at hSw); go_simp
    (try simp only [Act.put, List.setIfInBounds_toArray, List.set_cons_zero, List.set_cons_succ])
    refine' wpAnyH_take (i := 1) (oi := ⟨some 11, _, _, _, _, _⟩) (v := _) rfl (by kernel_rfl) (by kernel_rfl) (by kernel_rfl) (fun _ _ _ h => h) (yieldsIf_load_mid (by rfl) _ _ rfl _ _ rfl _ _ (fun w h => h.1) hu1 rfl hi1) hHeld ?_
    (try simp only [Act.put, List.setIfInBounds_toArray, List.set_cons_zero, List.set_cons_succ])
    refine wpAnyH_ready (rs := [2]) (by kernel_rfl) (by simp) ?_
    refine AllReadyH.cons (o := ⟨some 12, _, _, _, _, _⟩) rfl (fun K hK => ?_) AllReadyH.nil
    rw [if_pos (by rfl)]
    go_simp
    refine (HRS.out _ (HF3.out.trans hHeld.2.2.2.2)).mono ?_
    rintro e x4 ⟨v', rfl, ho', fr⟩
    refine hK.out _ _ (HK.out _ (hHeld.2.2.2.2.trans fr)) (fun hHeld' => ?_)
    clear hK K hHeld
    have hHeld := hHeld'
    clear hHeld'
    (try simp only [Act.put, List.setIfInBounds_toArray, List.set_cons_zero, List.set_cons_succ])
    refine wpAnyH_ready (rs := [3]) (by kernel_rfl) (by simp) ?_
    refine AllReadyH.cons (o := ⟨some 13, _, _, _, _, _⟩) rfl (fun K hK => ?_) AllReadyH.nil
    rw [if_pos (by rfl)]
    go_simp
    refine (HSC.out _ _ _ (HR3.out.below hHeld.2.2.2.2) ho'.rd).mono ?_
    rintro e x5 ⟨rfl, fr2⟩
    refine hK.out _ _ (HK.out _ (hHeld.2.2.2.2.trans fr2)) (fun hHeld' => ?_)
    clear hK K hHeld
    have hHeld := hHeld'
    clear hHeld'
    (try simp only [Act.put, List.setIfInBounds_toArray, List.set_cons_zero, List.set_cons_succ])
    refine wpAnyH_take (i := 4) (oi := ⟨some 14, _, _, _, _, _⟩) (v := .bool false) rfl (by kernel_rfl) (by kernel_rfl) (by kernel_rfl) (fun _ _ _ h => h) (Or.inl ⟨by rfl, ?_⟩) hHeld ?_
    · intro w hSw; (try dsimp only at hSw); go_simp
    (try simp only [Act.put, List.setIfInBounds_toArray, List.set_cons_zero, List.set_cons_succ])
    have hW := Lib.hid hHeld.2.2.2.2
    clear hHeld
    refine wpAnyH_done (by kernel_rfl) ?_ _
    go_wp2_with fail
    go_meet
    exact ⟨rfl, hW.out⟩
  case rest =>
    obtain ⟨rfl, hcut⟩ := hcut
    obtain ⟨x5, hx5⟩ : ∃ x : World, x = wc := ⟨_, rfl⟩
    rw [← hx5] at hcut ⊢
    clear hx5
    have HW5 := Lib.hid hcut
    clear hcut
    go_upto_region 4 with (fail)
    go_cut [5] (fun e wx => e = .int .i64 E ∧ Fr [] x3 wx)
    case first =>
      refine wp_region_held_drew (S := (fun w' => w'.rangeAt w.heap.size 0 cs ∧ w'.cell? ⟨bc, 0, none⟩ = some (.slice av m cv) ∧ w'.cell? ⟨bc, 1, none⟩ = some (.int .i64 0) ∧ w'.cell? ⟨bc, 2, none⟩ = some (.int .i64 0) ∧ Fr [] x3 w')) (by kernel_rfl) (HK.out _ HW5.out.drew) (fun hHeld => ?_)
      obtain ⟨y0, hy0⟩ : ∃ y, y = x5.drew := ⟨_, rfl⟩
      rw [← hy0] at hHeld ⊢
      clear hy0
      refine' wpAnyH_take (i := 0) (oi := ⟨some 16, _, _, _, _, _⟩) (v := _) rfl (by kernel_rfl) (by kernel_rfl) (by kernel_rfl) (fun _ _ _ h => h) (yieldsIf_load_mid (by rfl) _ _ rfl _ _ rfl _ _ (fun w h => h.1) hu1 rfl hi1) hHeld ?_
      (try simp only [Act.put, List.setIfInBounds_toArray, List.set_cons_zero, List.set_cons_succ])
      refine wpAnyH_take (i := 1) (oi := ⟨some 17, _, _, _, _, _⟩) (v := .pointer (some ⟨bc, 0, none⟩)) rfl (by kernel_rfl) (by kernel_rfl) (by kernel_rfl) (fun _ _ _ h => h) (Or.inl ⟨by rfl, ?_⟩) hHeld ?_
      · intro w hSw; (try dsimp only at hSw); go_simp
      (try simp only [Act.put, List.setIfInBounds_toArray, List.set_cons_zero, List.set_cons_succ])
      refine wpAnyH_take (i := 2) (oi := ⟨some 18, _, _, _, _, _⟩) (v := .slice av m cv) rfl (by kernel_rfl) (by kernel_rfl) (by kernel_rfl) (fun _ _ _ h => h) (Or.inl ⟨by rfl, ?_⟩) hHeld ?_
      · intro w hSw; (try dsimp only at hSw); go_simp
      (try simp only [Act.put, List.setIfInBounds_toArray, List.set_cons_zero, List.set_cons_succ])
      refine wpAnyH_take (i := 3) (oi := ⟨some 19, _, _, _, _, _⟩) (v := .int .i64 m) rfl (by kernel_rfl) (by kernel_rfl) (by kernel_rfl) (fun _ _ _ h => h) (Or.inl ⟨by rfl, ?_⟩) hHeld ?_
      · intro w hSw; (try dsimp only at hSw); go_simp
      (try simp only [Act.put, List.setIfInBounds_toArray, List.set_cons_zero, List.set_cons_succ])
      refine wpAnyH_take (i := 5) (oi := ⟨some 21, _, _, _, _, _⟩) (v := .agg #[.slice av m cv, .int .i64 0, .int .i64 0]) rfl (by kernel_rfl) (by kernel_rfl) (by kernel_rfl) (fun _ _ _ h => h) (Or.inl ⟨by rfl, ?_⟩) hHeld ?_
      · intro w hSw; (try dsimp only at hSw); go_simp
      (try simp only [Act.put, List.setIfInBounds_toArray, List.set_cons_zero, List.set_cons_succ])
      refine wpAnyH_ready (rs := [4, 10]) (by kernel_rfl) (by simp) ?_
      refine AllReadyH.cons (o := ⟨some 20, _, _, _, _, _⟩) rfl (fun K hK => ?_) (AllReadyH.cons (o := ⟨some 4, _, _, _, _, _⟩) rfl (fun K hK => ?_) AllReadyH.nil)
      all_goals rw [if_pos (by rfl)]
      all_goals go_simp
      · skip
        have ho := OwnI.made y0 m 3 (by unfold maxLen; omega)
        have fm : Fr [] y0 (y0.alloc (.cells (madeCells #[.int .i64 0] m) 3)) := (Fr.refl [] _).alloc _
        generalize y0.alloc (.cells (madeCells #[.int .i64 0] m) 3) = y1 at *
        generalize hzm : y0.heap.size = bm at *
        refine hK.out _ _ (HK.out _ (hHeld.2.2.2.2.trans fm)) (fun hHeld' => ?_)
        clear hK K hHeld
        have hHeld := hHeld'
        clear hHeld'
        (try simp only [Act.put, List.setIfInBounds_toArray, List.set_cons_zero, List.set_cons_succ])
        refine wpAnyH_ready (rs := [6, 10]) (by kernel_rfl) (by simp) ?_
        refine AllReadyH.cons (o := ⟨some 22, _, _, _, _, _⟩) rfl (fun K hK => ?_) (AllReadyH.cons (o := ⟨some 4, _, _, _, _, _⟩) rfl (fun K hK => ?_) AllReadyH.nil)
        all_goals rw [if_pos (by rfl)]
        all_goals go_simp
        · skip
          refine (HRA.out _ (HF3.out.trans hHeld.2.2.2.2) _ _ ho.rd (HR3.out.below hHeld.2.2.2.2)).mono ?_
          rintro e y2 ⟨v9, rfl, ho9, fc⟩
          refine hK.out _ _ (HK.out _ (hHeld.2.2.2.2.trans fc)) (fun hHeld' => ?_)
          clear hK K hHeld
          have hHeld := hHeld'
          clear hHeld'
          (try simp only [Act.put, List.setIfInBounds_toArray, List.set_cons_zero, List.set_cons_succ])
          clear ho fm
          obtain ⟨a9, c9, rfl, _, _⟩ := ho9.any
          refine wpAnyH_take (i := 7) (oi := ⟨some 15, _, _, _, _, _⟩) (v := .tuple #[.agg #[.int .i64 X0, .int .i64 X1, .int .i64 X2, .slice a9 LL.length c9], .int .i64 E]) rfl (by kernel_rfl) (by kernel_rfl) (by kernel_rfl) (fun _ _ _ h => h) (Or.inl ⟨by rfl, ?_⟩) hHeld ?_
          · intro w hSw; (try dsimp only at hSw); go_simp
          (try simp only [Act.put, List.setIfInBounds_toArray, List.set_cons_zero, List.set_cons_succ])
          refine wpAnyH_take (i := 8) (oi := ⟨some 23, _, _, _, _, _⟩) (v := .agg #[.int .i64 X0, .int .i64 X1, .int .i64 X2, .slice a9 LL.length c9]) rfl (by kernel_rfl) (by kernel_rfl) (by kernel_rfl) (fun _ _ _ h => h) (Or.inl ⟨by rfl, ?_⟩) hHeld ?_
          · intro w hSw; (try dsimp only at hSw); go_simp
          (try simp only [Act.put, List.setIfInBounds_toArray, List.set_cons_zero, List.set_cons_succ])
          refine wpAnyH_take (i := 9) (oi := ⟨some 24, _, _, _, _, _⟩) (v := .int .i64 E) rfl (by kernel_rfl) (by kernel_rfl) (by kernel_rfl) (fun _ _ _ h => h) (Or.inl ⟨by rfl, ?_⟩) hHeld ?_
          · intro w hSw; (try dsimp only at hSw); go_simp
          (try simp only [Act.put, List.setIfInBounds_toArray, List.set_cons_zero, List.set_cons_succ])
          refine wpAnyH_ready (rs := [10]) (by kernel_rfl) (by simp) ?_
          refine AllReadyH.cons (o := ⟨some 4, _, _, _, _, _⟩) rfl (fun K hK => ?_) AllReadyH.nil
          rw [if_pos (by rfl)]
          go_simp

          have p0 : (y2.alloc (.cells #[.int .i64 0, .int .i64 0, .int .i64 0, .slice none 0 0] 45)).cell? ⟨y2.heap.size, 0, none⟩ = some (.int .i64 0) := new_cell rfl rfl
          have p1 : (y2.alloc (.cells #[.int .i64 0, .int .i64 0, .int .i64 0, .slice none 0 0] 45)).cell? ⟨y2.heap.size, 1, none⟩ = some (.int .i64 0) := new_cell rfl rfl
          have p2 : (y2.alloc (.cells #[.int .i64 0, .int .i64 0, .int .i64 0, .slice none 0 0] 45)).cell? ⟨y2.heap.size, 2, none⟩ = some (.int .i64 0) := new_cell rfl rfl
          have p3 : (y2.alloc (.cells #[.int .i64 0, .int .i64 0, .int .i64 0, .slice none 0 0] 45)).cell? ⟨y2.heap.size, 3, none⟩ = some (.slice none 0 0) := new_cell rfl rfl
          have pf : ∀ i, (y2.alloc (.cells #[.int .i64 0, .int .i64 0, .int .i64 0, .slice none 0 0] 45)).frozen? ⟨y2.heap.size, i, none⟩ = false := fun i => World.frozen?_alloc_new _ _ _ _
          have fa : Fr [] y2 (y2.alloc (.cells #[.int .i64 0, .int .i64 0, .int .i64 0, .slice none 0 0] 45)) := (Fr.refl [] _).alloc _
          have hb4 : x3.heap.size ≤ y2.heap.size := hHeld.2.2.2.2.size
          generalize y2.alloc (.cells #[.int .i64 0, .int .i64 0, .int .i64 0, .slice none 0 0] 45) = y3 at *
          generalize y2.heap.size = b4 at *
          refine hK.out _ _ (HK.out _ (hHeld.2.2.2.2.trans fa)) (fun hHeld' => ?_)
          clear hK K hHeld
          have hHeld := hHeld'
          clear hHeld'
          (try simp only [Act.put, List.setIfInBounds_toArray, List.set_cons_zero, List.set_cons_succ])
          have q0 := pf 0
          have q1 := pf 1
          have q2 := pf 2
          have q3 := pf 3
          clear ho9 fc fa pf
          refine wpAnyH_ready (rs := [11]) (by kernel_rfl) (by simp) ?_
          refine AllReadyH.cons (o := ⟨none, _, _, _, _, _⟩) rfl (fun K hK => ?_) AllReadyH.nil
          rw [if_pos (by rfl)]
          go_simp
          refine hK.out _ _ (HK.out _ ((((hHeld.2.2.2.2.setCell (.inr (by exact hb4)) _).setCell (.inr (by exact hb4)) _).setCell (.inr (by exact hb4)) _).setCell (.inr (by exact hb4)) _)) (fun hHeld' => ?_)
          clear hK K hHeld
          have hHeld := hHeld'
          clear hHeld'
          (try simp only [Act.put, List.setIfInBounds_toArray, List.set_cons_zero, List.set_cons_succ])
          refine wpAnyH_take (i := 12) (oi := ⟨some 5, _, _, _, _, _⟩) (v := .int .i64 E) rfl (by kernel_rfl) (by kernel_rfl) (by kernel_rfl) (fun _ _ _ h => h) (Or.inl ⟨by rfl, ?_⟩) hHeld ?_
          · intro w hSw; (try dsimp only at hSw); go_simp
          (try simp only [Act.put, List.setIfInBounds_toArray, List.set_cons_zero, List.set_cons_succ])
          have hW := Lib.hid hHeld.2.2.2.2
          clear hHeld p0 p1 p2 p3 q0 q1 q2 q3
          refine wpAnyH_done (by kernel_rfl) ?_ _
          go_wp2_with fail
          go_meet
          exact ⟨rfl, hW.out⟩
        · skip
          have hr2 := ho.rd
          clear ho fm

          have p0 : (y1.alloc (.cells #[.int .i64 0, .int .i64 0, .int .i64 0, .slice none 0 0] 45)).cell? ⟨y1.heap.size, 0, none⟩ = some (.int .i64 0) := new_cell rfl rfl
          have p1 : (y1.alloc (.cells #[.int .i64 0, .int .i64 0, .int .i64 0, .slice none 0 0] 45)).cell? ⟨y1.heap.size, 1, none⟩ = some (.int .i64 0) := new_cell rfl rfl
          have p2 : (y1.alloc (.cells #[.int .i64 0, .int .i64 0, .int .i64 0, .slice none 0 0] 45)).cell? ⟨y1.heap.size, 2, none⟩ = some (.int .i64 0) := new_cell rfl rfl
          have p3 : (y1.alloc (.cells #[.int .i64 0, .int .i64 0, .int .i64 0, .slice none 0 0] 45)).cell? ⟨y1.heap.size, 3, none⟩ = some (.slice none 0 0) := new_cell rfl rfl
          have pf : ∀ i, (y1.alloc (.cells #[.int .i64 0, .int .i64 0, .int .i64 0, .slice none 0 0] 45)).frozen? ⟨y1.heap.size, i, none⟩ = false := fun i => World.frozen?_alloc_new _ _ _ _
          have fa : Fr [] y1 (y1.alloc (.cells #[.int .i64 0, .int .i64 0, .int .i64 0, .slice none 0 0] 45)) := (Fr.refl [] _).alloc _
          have hb4 : x3.heap.size ≤ y1.heap.size := hHeld.2.2.2.2.size
          generalize y1.alloc (.cells #[.int .i64 0, .int .i64 0, .int .i64 0, .slice none 0 0] 45) = y2 at *
          generalize y1.heap.size = b4 at *
          refine hK.out _ _ (HK.out _ (hHeld.2.2.2.2.trans fa)) (fun hHeld' => ?_)
          clear hK K hHeld
          have hHeld := hHeld'
          clear hHeld'
          (try simp only [Act.put, List.setIfInBounds_toArray, List.set_cons_zero, List.set_cons_succ])
          have hr2 := hr2.below fa
          clear fa
          have hlt4 := lt_of_cell p0
          refine wpAnyH_ready (rs := [6]) (by kernel_rfl) (by simp) ?_
          refine AllReadyH.cons (o := ⟨some 22, _, _, _, _, _⟩) rfl (fun K hK => ?_) AllReadyH.nil
          rw [if_pos (by rfl)]
          go_simp

          refine (HRA.out _ (HF3.out.trans hHeld.2.2.2.2) _ _ hr2 (HR3.out.below hHeld.2.2.2.2)).mono ?_
          rintro e y3 ⟨v9, rfl, ho9, fc⟩
          refine hK.out _ _ (HK.out _ (hHeld.2.2.2.2.trans fc)) (fun hHeld' => ?_)
          clear hK K hHeld
          have hHeld := hHeld'
          clear hHeld'
          (try simp only [Act.put, List.setIfInBounds_toArray, List.set_cons_zero, List.set_cons_succ])

          have p0 := fc.cell_some p0 (by simp)
          have p1 := fc.cell_some p1 (by simp)
          have p2 := fc.cell_some p2 (by simp)
          have p3 := fc.cell_some p3 (by simp)
          have pf : ∀ i, y3.frozen? ⟨b4, i, none⟩ = false := fun i => (fc.frozen (show (⟨b4, i, none⟩ : Addr).block < _ from hlt4) (by simp)).trans (pf i)
          clear hr2 hlt4

          obtain ⟨a9, c9, rfl, _, _⟩ := ho9.any
          refine wpAnyH_take (i := 7) (oi := ⟨some 15, _, _, _, _, _⟩) (v := .tuple #[.agg #[.int .i64 X0, .int .i64 X1, .int .i64 X2, .slice a9 LL.length c9], .int .i64 E]) rfl (by kernel_rfl) (by kernel_rfl) (by kernel_rfl) (fun _ _ _ h => h) (Or.inl ⟨by rfl, ?_⟩) hHeld ?_
          · intro w hSw; (try dsimp only at hSw); go_simp
          (try simp only [Act.put, List.setIfInBounds_toArray, List.set_cons_zero, List.set_cons_succ])
          refine wpAnyH_take (i := 8) (oi := ⟨some 23, _, _, _, _, _⟩) (v := .agg #[.int .i64 X0, .int .i64 X1, .int .i64 X2, .slice a9 LL.length c9]) rfl (by kernel_rfl) (by kernel_rfl) (by kernel_rfl) (fun _ _ _ h => h) (Or.inl ⟨by rfl, ?_⟩) hHeld ?_
          · intro w hSw; (try dsimp only at hSw); go_simp
          (try simp only [Act.put, List.setIfInBounds_toArray, List.set_cons_zero, List.set_cons_succ])
          refine wpAnyH_take (i := 9) (oi := ⟨some 24, _, _, _, _, _⟩) (v := .int .i64 E) rfl (by kernel_rfl) (by kernel_rfl) (by kernel_rfl) (fun _ _ _ h => h) (Or.inl ⟨by rfl, ?_⟩) hHeld ?_
          · intro w hSw; (try dsimp only at hSw); go_simp
          (try simp only [Act.put, List.setIfInBounds_toArray, List.set_cons_zero, List.set_cons_succ])
          have q0 := pf 0
          have q1 := pf 1
          have q2 := pf 2
          have q3 := pf 3
          clear ho9 fc pf
          refine wpAnyH_ready (rs := [11]) (by kernel_rfl) (by simp) ?_
          refine AllReadyH.cons (o := ⟨none, _, _, _, _, _⟩) rfl (fun K hK => ?_) AllReadyH.nil
          rw [if_pos (by rfl)]
          go_simp
          refine hK.out _ _ (HK.out _ ((((hHeld.2.2.2.2.setCell (.inr (by exact hb4)) _).setCell (.inr (by exact hb4)) _).setCell (.inr (by exact hb4)) _).setCell (.inr (by exact hb4)) _)) (fun hHeld' => ?_)
          clear hK K hHeld
          have hHeld := hHeld'
          clear hHeld'
          (try simp only [Act.put, List.setIfInBounds_toArray, List.set_cons_zero, List.set_cons_succ])
          refine wpAnyH_take (i := 12) (oi := ⟨some 5, _, _, _, _, _⟩) (v := .int .i64 E) rfl (by kernel_rfl) (by kernel_rfl) (by kernel_rfl) (fun _ _ _ h => h) (Or.inl ⟨by rfl, ?_⟩) hHeld ?_
          · intro w hSw; (try dsimp only at hSw); go_simp
          (try simp only [Act.put, List.setIfInBounds_toArray, List.set_cons_zero, List.set_cons_succ])
          have hW := Lib.hid hHeld.2.2.2.2
          clear hHeld p0 p1 p2 p3 q0 q1 q2 q3
          refine wpAnyH_done (by kernel_rfl) ?_ _
          go_wp2_with fail
          go_meet
          exact ⟨rfl, hW.out⟩
      · skip
        have p0 : (y0.alloc (.cells #[.int .i64 0, .int .i64 0, .int .i64 0, .slice none 0 0] 45)).cell? ⟨y0.heap.size, 0, none⟩ = some (.int .i64 0) := new_cell rfl rfl
        have p1 : (y0.alloc (.cells #[.int .i64 0, .int .i64 0, .int .i64 0, .slice none 0 0] 45)).cell? ⟨y0.heap.size, 1, none⟩ = some (.int .i64 0) := new_cell rfl rfl
        have p2 : (y0.alloc (.cells #[.int .i64 0, .int .i64 0, .int .i64 0, .slice none 0 0] 45)).cell? ⟨y0.heap.size, 2, none⟩ = some (.int .i64 0) := new_cell rfl rfl
        have p3 : (y0.alloc (.cells #[.int .i64 0, .int .i64 0, .int .i64 0, .slice none 0 0] 45)).cell? ⟨y0.heap.size, 3, none⟩ = some (.slice none 0 0) := new_cell rfl rfl
        have pf : ∀ i, (y0.alloc (.cells #[.int .i64 0, .int .i64 0, .int .i64 0, .slice none 0 0] 45)).frozen? ⟨y0.heap.size, i, none⟩ = false := fun i => World.frozen?_alloc_new _ _ _ _
        have fa : Fr [] y0 (y0.alloc (.cells #[.int .i64 0, .int .i64 0, .int .i64 0, .slice none 0 0] 45)) := (Fr.refl [] _).alloc _
        have hb4 : x3.heap.size ≤ y0.heap.size := hHeld.2.2.2.2.size
        generalize y0.alloc (.cells #[.int .i64 0, .int .i64 0, .int .i64 0, .slice none 0 0] 45) = y1 at *
        generalize y0.heap.size = b4 at *
        refine hK.out _ _ (HK.out _ (hHeld.2.2.2.2.trans fa)) (fun hHeld' => ?_)
        clear hK K hHeld
        have hHeld := hHeld'
        clear hHeld'
        (try simp only [Act.put, List.setIfInBounds_toArray, List.set_cons_zero, List.set_cons_succ])
        clear fa
        refine wpAnyH_ready (rs := [4]) (by kernel_rfl) (by simp) ?_
        refine AllReadyH.cons (o := ⟨some 20, _, _, _, _, _⟩) rfl (fun K hK => ?_) AllReadyH.nil
        rw [if_pos (by rfl)]
        go_simp

        have hlt3 := lt_of_cell p0
        have ho := OwnI.made y1 m 3 (by unfold maxLen; omega)
        have fm : Fr [] y1 (y1.alloc (.cells (madeCells #[.int .i64 0] m) 3)) := (Fr.refl [] _).alloc _
        generalize y1.alloc (.cells (madeCells #[.int .i64 0] m) 3) = y2 at *
        generalize hzm : y1.heap.size = bm at *
        refine hK.out _ _ (HK.out _ (hHeld.2.2.2.2.trans fm)) (fun hHeld' => ?_)
        clear hK K hHeld
        have hHeld := hHeld'
        clear hHeld'
        (try simp only [Act.put, List.setIfInBounds_toArray, List.set_cons_zero, List.set_cons_succ])
        have p0 := fm.cell_some p0 (by simp)
        have p1 := fm.cell_some p1 (by simp)
        have p2 := fm.cell_some p2 (by simp)
        have p3 := fm.cell_some p3 (by simp)
        have pf : ∀ i, y2.frozen? ⟨b4, i, none⟩ = false := fun i => (fm.frozen (show (⟨b4, i, none⟩ : Addr).block < _ by rw [hzm]; exact hlt3) (by simp)).trans (pf i)
        have hlt4 := lt_of_cell p0
        refine wpAnyH_ready (rs := [6]) (by kernel_rfl) (by simp) ?_
        refine AllReadyH.cons (o := ⟨some 22, _, _, _, _, _⟩) rfl (fun K hK => ?_) AllReadyH.nil
        rw [if_pos (by rfl)]
        go_simp

        refine (HRA.out _ (HF3.out.trans hHeld.2.2.2.2) _ _ ho.rd (HR3.out.below hHeld.2.2.2.2)).mono ?_
        rintro e y3 ⟨v9, rfl, ho9, fc⟩
        refine hK.out _ _ (HK.out _ (hHeld.2.2.2.2.trans fc)) (fun hHeld' => ?_)
        clear hK K hHeld
        have hHeld := hHeld'
        clear hHeld'
        (try simp only [Act.put, List.setIfInBounds_toArray, List.set_cons_zero, List.set_cons_succ])

        have p0 := fc.cell_some p0 (by simp)
        have p1 := fc.cell_some p1 (by simp)
        have p2 := fc.cell_some p2 (by simp)
        have p3 := fc.cell_some p3 (by simp)
        have pf : ∀ i, y3.frozen? ⟨b4, i, none⟩ = false := fun i => (fc.frozen (show (⟨b4, i, none⟩ : Addr).block < _ from hlt4) (by simp)).trans (pf i)
        clear ho fm hlt3 hlt4

        obtain ⟨a9, c9, rfl, _, _⟩ := ho9.any
        refine wpAnyH_take (i := 7) (oi := ⟨some 15, _, _, _, _, _⟩) (v := .tuple #[.agg #[.int .i64 X0, .int .i64 X1, .int .i64 X2, .slice a9 LL.length c9], .int .i64 E]) rfl (by kernel_rfl) (by kernel_rfl) (by kernel_rfl) (fun _ _ _ h => h) (Or.inl ⟨by rfl, ?_⟩) hHeld ?_
        · intro w hSw; (try dsimp only at hSw); go_simp
        (try simp only [Act.put, List.setIfInBounds_toArray, List.set_cons_zero, List.set_cons_succ])
        refine wpAnyH_take (i := 8) (oi := ⟨some 23, _, _, _, _, _⟩) (v := .agg #[.int .i64 X0, .int .i64 X1, .int .i64 X2, .slice a9 LL.length c9]) rfl (by kernel_rfl) (by kernel_rfl) (by kernel_rfl) (fun _ _ _ h => h) (Or.inl ⟨by rfl, ?_⟩) hHeld ?_
        · intro w hSw; (try dsimp only at hSw); go_simp
        (try simp only [Act.put, List.setIfInBounds_toArray, List.set_cons_zero, List.set_cons_succ])
        refine wpAnyH_take (i := 9) (oi := ⟨some 24, _, _, _, _, _⟩) (v := .int .i64 E) rfl (by kernel_rfl) (by kernel_rfl) (by kernel_rfl) (fun _ _ _ h => h) (Or.inl ⟨by rfl, ?_⟩) hHeld ?_
        · intro w hSw; (try dsimp only at hSw); go_simp
        (try simp only [Act.put, List.setIfInBounds_toArray, List.set_cons_zero, List.set_cons_succ])
        have q0 := pf 0
        have q1 := pf 1
        have q2 := pf 2
        have q3 := pf 3
        clear ho9 fc pf
        refine wpAnyH_ready (rs := [11]) (by kernel_rfl) (by simp) ?_
        refine AllReadyH.cons (o := ⟨none, _, _, _, _, _⟩) rfl (fun K hK => ?_) AllReadyH.nil
        rw [if_pos (by rfl)]
        go_simp
        refine hK.out _ _ (HK.out _ ((((hHeld.2.2.2.2.setCell (.inr (by exact hb4)) _).setCell (.inr (by exact hb4)) _).setCell (.inr (by exact hb4)) _).setCell (.inr (by exact hb4)) _)) (fun hHeld' => ?_)
        clear hK K hHeld
        have hHeld := hHeld'
        clear hHeld'
        (try simp only [Act.put, List.setIfInBounds_toArray, List.set_cons_zero, List.set_cons_succ])
        refine wpAnyH_take (i := 12) (oi := ⟨some 5, _, _, _, _, _⟩) (v := .int .i64 E) rfl (by kernel_rfl) (by kernel_rfl) (by kernel_rfl) (fun _ _ _ h => h) (Or.inl ⟨by rfl, ?_⟩) hHeld ?_
        · intro w hSw; (try dsimp only at hSw); go_simp
        (try simp only [Act.put, List.setIfInBounds_toArray, List.set_cons_zero, List.set_cons_succ])
        have hW := Lib.hid hHeld.2.2.2.2
        clear hHeld p0 p1 p2 p3 q0 q1 q2 q3
        refine wpAnyH_done (by kernel_rfl) ?_ _
        go_wp2_with fail
        go_meet
        exact ⟨rfl, hW.out⟩
    case rest =>
      obtain ⟨rfl, hcut⟩ := hcut
      obtain ⟨x6, hx6⟩ : ∃ x : World, x = wc := ⟨_, rfl⟩
      rw [← hx6] at hcut ⊢
      clear hx6 HW5
      have HW5 := Lib.hid hcut
      clear hcut
      go_upto_region 5 with (fail)
      go_cut [7] (fun e wx => e = .int .i64 E ∧ Fr [] x3 wx)
      case first =>
        refine wp_region_held_drew (S := (fun w' => w'.rangeAt w.heap.size 0 cs ∧ w'.cell? ⟨bc, 0, none⟩ = some (.slice av m cv) ∧ w'.cell? ⟨bc, 1, none⟩ = some (.int .i64 0) ∧ w'.cell? ⟨bc, 2, none⟩ = some (.int .i64 0) ∧ Fr [] x3 w')) (by kernel_rfl) (HK.out _ HW5.out.drew) (fun hHeld => ?_)
        obtain ⟨y0, hy0⟩ : ∃ y, y = x6.drew := ⟨_, rfl⟩
        rw [← hy0] at hHeld ⊢
        clear hy0
        refine' wpAnyH_take (i := 0) (oi := ⟨some 26, _, _, _, _, _⟩) (v := _) rfl (by kernel_rfl) (by kernel_rfl) (by kernel_rfl) (fun _ _ _ h => h) (yieldsIf_load_mid (by rfl) _ _ rfl _ _ rfl _ _ (fun w h => h.1) hu1 rfl hi1) hHeld ?_
        (try simp only [Act.put, List.setIfInBounds_toArray, List.set_cons_zero, List.set_cons_succ])
        refine wpAnyH_take (i := 1) (oi := ⟨some 27, _, _, _, _, _⟩) (v := .pointer (some ⟨bc, 0, none⟩)) rfl (by kernel_rfl) (by kernel_rfl) (by kernel_rfl) (fun _ _ _ h => h) (Or.inl ⟨by rfl, ?_⟩) hHeld ?_
        · intro w hSw; (try dsimp only at hSw); go_simp
        (try simp only [Act.put, List.setIfInBounds_toArray, List.set_cons_zero, List.set_cons_succ])
        refine wpAnyH_take (i := 2) (oi := ⟨some 28, _, _, _, _, _⟩) (v := .slice av m cv) rfl (by kernel_rfl) (by kernel_rfl) (by kernel_rfl) (fun _ _ _ h => h) (Or.inl ⟨by rfl, ?_⟩) hHeld ?_
        · intro w hSw; (try dsimp only at hSw); go_simp
        (try simp only [Act.put, List.setIfInBounds_toArray, List.set_cons_zero, List.set_cons_succ])
        refine wpAnyH_take (i := 3) (oi := ⟨some 29, _, _, _, _, _⟩) (v := .int .i64 m) rfl (by kernel_rfl) (by kernel_rfl) (by kernel_rfl) (fun _ _ _ h => h) (Or.inl ⟨by rfl, ?_⟩) hHeld ?_
        · intro w hSw; (try dsimp only at hSw); go_simp
        (try simp only [Act.put, List.setIfInBounds_toArray, List.set_cons_zero, List.set_cons_succ])
        refine wpAnyH_take (i := 5) (oi := ⟨some 31, _, _, _, _, _⟩) (v := .agg #[.slice av m cv, .int .i64 0, .int .i64 0]) rfl (by kernel_rfl) (by kernel_rfl) (by kernel_rfl) (fun _ _ _ h => h) (Or.inl ⟨by rfl, ?_⟩) hHeld ?_
        · intro w hSw; (try dsimp only at hSw); go_simp
        (try simp only [Act.put, List.setIfInBounds_toArray, List.set_cons_zero, List.set_cons_succ])
        refine wpAnyH_ready (rs := [4, 10]) (by kernel_rfl) (by simp) ?_
        refine AllReadyH.cons (o := ⟨some 30, _, _, _, _, _⟩) rfl (fun K hK => ?_) (AllReadyH.cons (o := ⟨some 6, _, _, _, _, _⟩) rfl (fun K hK => ?_) AllReadyH.nil)
        all_goals rw [if_pos (by rfl)]
        all_goals go_simp
        · skip
          have ho := OwnI.made y0 m 3 (by unfold maxLen; omega)
          have fm : Fr [] y0 (y0.alloc (.cells (madeCells #[.int .i64 0] m) 3)) := (Fr.refl [] _).alloc _
          generalize y0.alloc (.cells (madeCells #[.int .i64 0] m) 3) = y1 at *
          generalize hzm : y0.heap.size = bm at *
          refine hK.out _ _ (HK.out _ (hHeld.2.2.2.2.trans fm)) (fun hHeld' => ?_)
          clear hK K hHeld
          have hHeld := hHeld'
          clear hHeld'
          (try simp only [Act.put, List.setIfInBounds_toArray, List.set_cons_zero, List.set_cons_succ])
          refine wpAnyH_ready (rs := [6, 10]) (by kernel_rfl) (by simp) ?_
          refine AllReadyH.cons (o := ⟨some 32, _, _, _, _, _⟩) rfl (fun K hK => ?_) (AllReadyH.cons (o := ⟨some 6, _, _, _, _, _⟩) rfl (fun K hK => ?_) AllReadyH.nil)
          all_goals rw [if_pos (by rfl)]
          all_goals go_simp
          · skip
            refine (HAL.out _ (HF3.out.trans hHeld.2.2.2.2) _ _ ho.rd (HR3.out.below hHeld.2.2.2.2)).mono ?_
            rintro e y2 ⟨v9, rfl, ho9, fc⟩
            refine hK.out _ _ (HK.out _ (hHeld.2.2.2.2.trans fc)) (fun hHeld' => ?_)
            clear hK K hHeld
            have hHeld := hHeld'
            clear hHeld'
            (try simp only [Act.put, List.setIfInBounds_toArray, List.set_cons_zero, List.set_cons_succ])
            clear ho fm
            obtain ⟨a9, c9, rfl, _, _⟩ := ho9.any
            refine wpAnyH_take (i := 7) (oi := ⟨some 25, _, _, _, _, _⟩) (v := .tuple #[.agg #[.int .i64 X0, .int .i64 X1, .int .i64 X2, .slice a9 LL.length c9], .int .i64 E]) rfl (by kernel_rfl) (by kernel_rfl) (by kernel_rfl) (fun _ _ _ h => h) (Or.inl ⟨by rfl, ?_⟩) hHeld ?_
            · intro w hSw; (try dsimp only at hSw); go_simp
            (try simp only [Act.put, List.setIfInBounds_toArray, List.set_cons_zero, List.set_cons_succ])
            refine wpAnyH_take (i := 8) (oi := ⟨some 33, _, _, _, _, _⟩) (v := .agg #[.int .i64 X0, .int .i64 X1, .int .i64 X2, .slice a9 LL.length c9]) rfl (by kernel_rfl) (by kernel_rfl) (by kernel_rfl) (fun _ _ _ h => h) (Or.inl ⟨by rfl, ?_⟩) hHeld ?_
            · intro w hSw; (try dsimp only at hSw); go_simp
            (try simp only [Act.put, List.setIfInBounds_toArray, List.set_cons_zero, List.set_cons_succ])
            refine wpAnyH_take (i := 9) (oi := ⟨some 34, _, _, _, _, _⟩) (v := .int .i64 E) rfl (by kernel_rfl) (by kernel_rfl) (by kernel_rfl) (fun _ _ _ h => h) (Or.inl ⟨by rfl, ?_⟩) hHeld ?_
            · intro w hSw; (try dsimp only at hSw); go_simp
            (try simp only [Act.put, List.setIfInBounds_toArray, List.set_cons_zero, List.set_cons_succ])
            refine wpAnyH_ready (rs := [10]) (by kernel_rfl) (by simp) ?_
            refine AllReadyH.cons (o := ⟨some 6, _, _, _, _, _⟩) rfl (fun K hK => ?_) AllReadyH.nil
            rw [if_pos (by rfl)]
            go_simp

            have p0 : (y2.alloc (.cells #[.int .i64 0, .int .i64 0, .int .i64 0, .slice none 0 0] 45)).cell? ⟨y2.heap.size, 0, none⟩ = some (.int .i64 0) := new_cell rfl rfl
            have p1 : (y2.alloc (.cells #[.int .i64 0, .int .i64 0, .int .i64 0, .slice none 0 0] 45)).cell? ⟨y2.heap.size, 1, none⟩ = some (.int .i64 0) := new_cell rfl rfl
            have p2 : (y2.alloc (.cells #[.int .i64 0, .int .i64 0, .int .i64 0, .slice none 0 0] 45)).cell? ⟨y2.heap.size, 2, none⟩ = some (.int .i64 0) := new_cell rfl rfl
            have p3 : (y2.alloc (.cells #[.int .i64 0, .int .i64 0, .int .i64 0, .slice none 0 0] 45)).cell? ⟨y2.heap.size, 3, none⟩ = some (.slice none 0 0) := new_cell rfl rfl
            have pf : ∀ i, (y2.alloc (.cells #[.int .i64 0, .int .i64 0, .int .i64 0, .slice none 0 0] 45)).frozen? ⟨y2.heap.size, i, none⟩ = false := fun i => World.frozen?_alloc_new _ _ _ _
            have fa : Fr [] y2 (y2.alloc (.cells #[.int .i64 0, .int .i64 0, .int .i64 0, .slice none 0 0] 45)) := (Fr.refl [] _).alloc _
            have hb4 : x3.heap.size ≤ y2.heap.size := hHeld.2.2.2.2.size
            generalize y2.alloc (.cells #[.int .i64 0, .int .i64 0, .int .i64 0, .slice none 0 0] 45) = y3 at *
            generalize y2.heap.size = b4 at *
            refine hK.out _ _ (HK.out _ (hHeld.2.2.2.2.trans fa)) (fun hHeld' => ?_)
            clear hK K hHeld
            have hHeld := hHeld'
            clear hHeld'
            (try simp only [Act.put, List.setIfInBounds_toArray, List.set_cons_zero, List.set_cons_succ])
            have q0 := pf 0
            have q1 := pf 1
            have q2 := pf 2
            have q3 := pf 3
            clear ho9 fc fa pf
            refine wpAnyH_ready (rs := [11]) (by kernel_rfl) (by simp) ?_
            refine AllReadyH.cons (o := ⟨none, _, _, _, _, _⟩) rfl (fun K hK => ?_) AllReadyH.nil
            rw [if_pos (by rfl)]
            go_simp
            refine hK.out _ _ (HK.out _ ((((hHeld.2.2.2.2.setCell (.inr (by exact hb4)) _).setCell (.inr (by exact hb4)) _).setCell (.inr (by exact hb4)) _).setCell (.inr (by exact hb4)) _)) (fun hHeld' => ?_)
            clear hK K hHeld
            have hHeld := hHeld'
            clear hHeld'
            (try simp only [Act.put, List.setIfInBounds_toArray, List.set_cons_zero, List.set_cons_succ])
            refine wpAnyH_take (i := 12) (oi := ⟨some 7, _, _, _, _, _⟩) (v := .int .i64 E) rfl (by kernel_rfl) (by kernel_rfl) (by kernel_rfl) (fun _ _ _ h => h) (Or.inl ⟨by rfl, ?_⟩) hHeld ?_
            · intro w hSw; (try dsimp only at hSw); go_simp
            (try simp only [Act.put, List.setIfInBounds_toArray, List.set_cons_zero, List.set_cons_succ])
            have hW := Lib.hid hHeld.2.2.2.2
            clear hHeld p0 p1 p2 p3 q0 q1 q2 q3
            refine wpAnyH_done (by kernel_rfl) ?_ _
            go_wp2_with fail
            go_meet
            exact ⟨rfl, hW.out⟩
          · skip
            have hr2 := ho.rd
            clear ho fm

            have p0 : (y1.alloc (.cells #[.int .i64 0, .int .i64 0, .int .i64 0, .slice none 0 0] 45)).cell? ⟨y1.heap.size, 0, none⟩ = some (.int .i64 0) := new_cell rfl rfl
            have p1 : (y1.alloc (.cells #[.int .i64 0, .int .i64 0, .int .i64 0, .slice none 0 0] 45)).cell? ⟨y1.heap.size, 1, none⟩ = some (.int .i64 0) := new_cell rfl rfl
            have p2 : (y1.alloc (.cells #[.int .i64 0, .int .i64 0, .int .i64 0, .slice none 0 0] 45)).cell? ⟨y1.heap.size, 2, none⟩ = some (.int .i64 0) := new_cell rfl rfl
            have p3 : (y1.alloc (.cells #[.int .i64 0, .int .i64 0, .int .i64 0, .slice none 0 0] 45)).cell? ⟨y1.heap.size, 3, none⟩ = some (.slice none 0 0) := new_cell rfl rfl
            have pf : ∀ i, (y1.alloc (.cells #[.int .i64 0, .int .i64 0, .int .i64 0, .slice none 0 0] 45)).frozen? ⟨y1.heap.size, i, none⟩ = false := fun i => World.frozen?_alloc_new _ _ _ _
            have fa : Fr [] y1 (y1.alloc (.cells #[.int .i64 0, .int .i64 0, .int .i64 0, .slice none 0 0] 45)) := (Fr.refl [] _).alloc _
            have hb4 : x3.heap.size ≤ y1.heap.size := hHeld.2.2.2.2.size
            generalize y1.alloc (.cells #[.int .i64 0, .int .i64 0, .int .i64 0, .slice none 0 0] 45) = y2 at *
            generalize y1.heap.size = b4 at *
            refine hK.out _ _ (HK.out _ (hHeld.2.2.2.2.trans fa)) (fun hHeld' => ?_)
            clear hK K hHeld
            have hHeld := hHeld'
            clear hHeld'
            (try simp only [Act.put, List.setIfInBounds_toArray, List.set_cons_zero, List.set_cons_succ])
            have hr2 := hr2.below fa
            clear fa
            have hlt4 := lt_of_cell p0
            refine wpAnyH_ready (rs := [6]) (by kernel_rfl) (by simp) ?_
            refine AllReadyH.cons (o := ⟨some 32, _, _, _, _, _⟩) rfl (fun K hK => ?_) AllReadyH.nil
            rw [if_pos (by rfl)]
            go_simp

            refine (HAL.out _ (HF3.out.trans hHeld.2.2.2.2) _ _ hr2 (HR3.out.below hHeld.2.2.2.2)).mono ?_
            rintro e y3 ⟨v9, rfl, ho9, fc⟩
            refine hK.out _ _ (HK.out _ (hHeld.2.2.2.2.trans fc)) (fun hHeld' => ?_)
            clear hK K hHeld
            have hHeld := hHeld'
            clear hHeld'
            (try simp only [Act.put, List.setIfInBounds_toArray, List.set_cons_zero, List.set_cons_succ])

            have p0 := fc.cell_some p0 (by simp)
            have p1 := fc.cell_some p1 (by simp)
            have p2 := fc.cell_some p2 (by simp)
            have p3 := fc.cell_some p3 (by simp)
            have pf : ∀ i, y3.frozen? ⟨b4, i, none⟩ = false := fun i => (fc.frozen (show (⟨b4, i, none⟩ : Addr).block < _ from hlt4) (by simp)).trans (pf i)
            clear hr2 hlt4

            obtain ⟨a9, c9, rfl, _, _⟩ := ho9.any
            refine wpAnyH_take (i := 7) (oi := ⟨some 25, _, _, _, _, _⟩) (v := .tuple #[.agg #[.int .i64 X0, .int .i64 X1, .int .i64 X2, .slice a9 LL.length c9], .int .i64 E]) rfl (by kernel_rfl) (by kernel_rfl) (by kernel_rfl) (fun _ _ _ h => h) (Or.inl ⟨by rfl, ?_⟩) hHeld ?_
            · intro w hSw; (try dsimp only at hSw); go_simp
            (try simp only [Act.put, List.setIfInBounds_toArray, List.set_cons_zero, List.set_cons_succ])
            refine wpAnyH_take (i := 8) (oi := ⟨some 33, _, _, _, _, _⟩) (v := .agg #[.int .i64 X0, .int .i64 X1, .int .i64 X2, .slice a9 LL.length c9]) rfl (by kernel_rfl) (by kernel_rfl) (by kernel_rfl) (fun _ _ _ h => h) (Or.inl ⟨by rfl, ?_⟩) hHeld ?_
            · intro w hSw; (try dsimp only at hSw); go_simp
            (try simp only [Act.put, List.setIfInBounds_toArray, List.set_cons_zero, List.set_cons_succ])
            refine wpAnyH_take (i := 9) (oi := ⟨some 34, _, _, _, _, _⟩) (v := .int .i64 E) rfl (by kernel_rfl) (by kernel_rfl) (by kernel_rfl) (fun _ _ _ h => h) (Or.inl ⟨by rfl, ?_⟩) hHeld ?_
            · intro w hSw; (try dsimp only at hSw); go_simp
            (try simp only [Act.put, List.setIfInBounds_toArray, List.set_cons_zero, List.set_cons_succ])
            have q0 := pf 0
            have q1 := pf 1
            have q2 := pf 2
            have q3 := pf 3
            clear ho9 fc pf
            refine wpAnyH_ready (rs := [11]) (by kernel_rfl) (by simp) ?_
            refine AllReadyH.cons (o := ⟨none, _, _, _, _, _⟩) rfl (fun K hK => ?_) AllReadyH.nil
            rw [if_pos (by rfl)]
            go_simp
            refine hK.out _ _ (HK.out _ ((((hHeld.2.2.2.2.setCell (.inr (by exact hb4)) _).setCell (.inr (by exact hb4)) _).setCell (.inr (by exact hb4)) _).setCell (.inr (by exact hb4)) _)) (fun hHeld' => ?_)
            clear hK K hHeld
            have hHeld := hHeld'
            clear hHeld'
            (try simp only [Act.put, List.setIfInBounds_toArray, List.set_cons_zero, List.set_cons_succ])
            refine wpAnyH_take (i := 12) (oi := ⟨some 7, _, _, _, _, _⟩) (v := .int .i64 E) rfl (by kernel_rfl) (by kernel_rfl) (by kernel_rfl) (fun _ _ _ h => h) (Or.inl ⟨by rfl, ?_⟩) hHeld ?_
            · intro w hSw; (try dsimp only at hSw); go_simp
            (try simp only [Act.put, List.setIfInBounds_toArray, List.set_cons_zero, List.set_cons_succ])
            have hW := Lib.hid hHeld.2.2.2.2
            clear hHeld p0 p1 p2 p3 q0 q1 q2 q3
            refine wpAnyH_done (by kernel_rfl) ?_ _
            go_wp2_with fail
            go_meet
            exact ⟨rfl, hW.out⟩
        · skip
          have p0 : (y0.alloc (.cells #[.int .i64 0, .int .i64 0, .int .i64 0, .slice none 0 0] 45)).cell? ⟨y0.heap.size, 0, none⟩ = some (.int .i64 0) := new_cell rfl rfl
          have p1 : (y0.alloc (.cells #[.int .i64 0, .int .i64 0, .int .i64 0, .slice none 0 0] 45)).cell? ⟨y0.heap.size, 1, none⟩ = some (.int .i64 0) := new_cell rfl rfl
          have p2 : (y0.alloc (.cells #[.int .i64 0, .int .i64 0, .int .i64 0, .slice none 0 0] 45)).cell? ⟨y0.heap.size, 2, none⟩ = some (.int .i64 0) := new_cell rfl rfl
          have p3 : (y0.alloc (.cells #[.int .i64 0, .int .i64 0, .int .i64 0, .slice none 0 0] 45)).cell? ⟨y0.heap.size, 3, none⟩ = some (.slice none 0 0) := new_cell rfl rfl
          have pf : ∀ i, (y0.alloc (.cells #[.int .i64 0, .int .i64 0, .int .i64 0, .slice none 0 0] 45)).frozen? ⟨y0.heap.size, i, none⟩ = false := fun i => World.frozen?_alloc_new _ _ _ _
          have fa : Fr [] y0 (y0.alloc (.cells #[.int .i64 0, .int .i64 0, .int .i64 0, .slice none 0 0] 45)) := (Fr.refl [] _).alloc _
          have hb4 : x3.heap.size ≤ y0.heap.size := hHeld.2.2.2.2.size
          generalize y0.alloc (.cells #[.int .i64 0, .int .i64 0, .int .i64 0, .slice none 0 0] 45) = y1 at *
          generalize y0.heap.size = b4 at *
          refine hK.out _ _ (HK.out _ (hHeld.2.2.2.2.trans fa)) (fun hHeld' => ?_)
          clear hK K hHeld
          have hHeld := hHeld'
          clear hHeld'
          (try simp only [Act.put, List.setIfInBounds_toArray, List.set_cons_zero, List.set_cons_succ])
          clear fa
          refine wpAnyH_ready (rs := [4]) (by kernel_rfl) (by simp) ?_
          refine AllReadyH.cons (o := ⟨some 30, _, _, _, _, _⟩) rfl (fun K hK => ?_) AllReadyH.nil
          rw [if_pos (by rfl)]
          go_simp

          have hlt3 := lt_of_cell p0
          have ho := OwnI.made y1 m 3 (by unfold maxLen; omega)
          have fm : Fr [] y1 (y1.alloc (.cells (madeCells #[.int .i64 0] m) 3)) := (Fr.refl [] _).alloc _
          generalize y1.alloc (.cells (madeCells #[.int .i64 0] m) 3) = y2 at *
          generalize hzm : y1.heap.size = bm at *
          refine hK.out _ _ (HK.out _ (hHeld.2.2.2.2.trans fm)) (fun hHeld' => ?_)
          clear hK K hHeld
          have hHeld := hHeld'
          clear hHeld'
          (try simp only [Act.put, List.setIfInBounds_toArray, List.set_cons_zero, List.set_cons_succ])
          have p0 := fm.cell_some p0 (by simp)
          have p1 := fm.cell_some p1 (by simp)
          have p2 := fm.cell_some p2 (by simp)
          have p3 := fm.cell_some p3 (by simp)
          have pf : ∀ i, y2.frozen? ⟨b4, i, none⟩ = false := fun i => (fm.frozen (show (⟨b4, i, none⟩ : Addr).block < _ by rw [hzm]; exact hlt3) (by simp)).trans (pf i)
          have hlt4 := lt_of_cell p0
          refine wpAnyH_ready (rs := [6]) (by kernel_rfl) (by simp) ?_
          refine AllReadyH.cons (o := ⟨some 32, _, _, _, _, _⟩) rfl (fun K hK => ?_) AllReadyH.nil
          rw [if_pos (by rfl)]
          go_simp

          refine (HAL.out _ (HF3.out.trans hHeld.2.2.2.2) _ _ ho.rd (HR3.out.below hHeld.2.2.2.2)).mono ?_
          rintro e y3 ⟨v9, rfl, ho9, fc⟩
          refine hK.out _ _ (HK.out _ (hHeld.2.2.2.2.trans fc)) (fun hHeld' => ?_)
          clear hK K hHeld
          have hHeld := hHeld'
          clear hHeld'
          (try simp only [Act.put, List.setIfInBounds_toArray, List.set_cons_zero, List.set_cons_succ])

          have p0 := fc.cell_some p0 (by simp)
          have p1 := fc.cell_some p1 (by simp)
          have p2 := fc.cell_some p2 (by simp)
          have p3 := fc.cell_some p3 (by simp)
          have pf : ∀ i, y3.frozen? ⟨b4, i, none⟩ = false := fun i => (fc.frozen (show (⟨b4, i, none⟩ : Addr).block < _ from hlt4) (by simp)).trans (pf i)
          clear ho fm hlt3 hlt4

          obtain ⟨a9, c9, rfl, _, _⟩ := ho9.any
          refine wpAnyH_take (i := 7) (oi := ⟨some 25, _, _, _, _, _⟩) (v := .tuple #[.agg #[.int .i64 X0, .int .i64 X1, .int .i64 X2, .slice a9 LL.length c9], .int .i64 E]) rfl (by kernel_rfl) (by kernel_rfl) (by kernel_rfl) (fun _ _ _ h => h) (Or.inl ⟨by rfl, ?_⟩) hHeld ?_
          · intro w hSw; (try dsimp only at hSw); go_simp
          (try simp only [Act.put, List.setIfInBounds_toArray, List.set_cons_zero, List.set_cons_succ])
          refine wpAnyH_take (i := 8) (oi := ⟨some 33, _, _, _, _, _⟩) (v := .agg #[.int .i64 X0, .int .i64 X1, .int .i64 X2, .slice a9 LL.length c9]) rfl (by kernel_rfl) (by kernel_rfl) (by kernel_rfl) (fun _ _ _ h => h) (Or.inl ⟨by rfl, ?_⟩) hHeld ?_
          · intro w hSw; (try dsimp only at hSw); go_simp
          (try simp only [Act.put, List.setIfInBounds_toArray, List.set_cons_zero, List.set_cons_succ])
          refine wpAnyH_take (i := 9) (oi := ⟨some 34, _, _, _, _, _⟩) (v := .int .i64 E) rfl (by kernel_rfl) (by kernel_rfl) (by kernel_rfl) (fun _ _ _ h => h) (Or.inl ⟨by rfl, ?_⟩) hHeld ?_
          · intro w hSw; (try dsimp only at hSw); go_simp
          (try simp only [Act.put, List.setIfInBounds_toArray, List.set_cons_zero, List.set_cons_succ])
          have q0 := pf 0
          have q1 := pf 1
          have q2 := pf 2
          have q3 := pf 3
          clear ho9 fc pf
          refine wpAnyH_ready (rs := [11]) (by kernel_rfl) (by simp) ?_
          refine AllReadyH.cons (o := ⟨none, _, _, _, _, _⟩) rfl (fun K hK => ?_) AllReadyH.nil
          rw [if_pos (by rfl)]
          go_simp
          refine hK.out _ _ (HK.out _ ((((hHeld.2.2.2.2.setCell (.inr (by exact hb4)) _).setCell (.inr (by exact hb4)) _).setCell (.inr (by exact hb4)) _).setCell (.inr (by exact hb4)) _)) (fun hHeld' => ?_)
          clear hK K hHeld
          have hHeld := hHeld'
          clear hHeld'
          (try simp only [Act.put, List.setIfInBounds_toArray, List.set_cons_zero, List.set_cons_succ])
          refine wpAnyH_take (i := 12) (oi := ⟨some 7, _, _, _, _, _⟩) (v := .int .i64 E) rfl (by kernel_rfl) (by kernel_rfl) (by kernel_rfl) (fun _ _ _ h => h) (Or.inl ⟨by rfl, ?_⟩) hHeld ?_
          · intro w hSw; (try dsimp only at hSw); go_simp
          (try simp only [Act.put, List.setIfInBounds_toArray, List.set_cons_zero, List.set_cons_succ])
          have hW := Lib.hid hHeld.2.2.2.2
          clear hHeld p0 p1 p2 p3 q0 q1 q2 q3
          refine wpAnyH_done (by kernel_rfl) ?_ _
          go_wp2_with fail
          go_meet
          exact ⟨rfl, hW.out⟩
      case rest =>
        obtain ⟨rfl, hcut⟩ := hcut
        obtain ⟨x7, hx7⟩ : ∃ x : World, x = wc := ⟨_, rfl⟩
        rw [← hx7] at hcut ⊢
        clear hx7 HW5 hmk
        go_wp2_with fail
        refine (HLV.out _).mono ?_
        rintro e x8 ⟨rfl, f8⟩
        go_wp2_with fail
        go_ret
        exact ⟨rfl, ((HF3.out.trans hcut).trans f8).below⟩
theorem own : ownKnob Try.prog.godebug = none := by kernel_rfl
theorem laidOut : laidOutB Try.prog = true := by kernel_rfl
set_option maxRecDepth 100000 in
theorem lifted (os : Os) (started : os.Started) (H : Type) (enc : TypeId × Value → H) :
    ReturnsInHanded {} Try.checked os 12 .any (Rows.poolStartsSpec.pre6 enc Try.prog Try.f12 Rows.poolStartsRow.domain false) (Rows.poolStartsSpec.post enc Try.prog Try.f12 false true false false) := by
  refine returnsInHanded_of_change (C := Try.checked) own started (by kernel_rfl) Try.func12
    (ChangeSpec.witness6 (enc := enc) (C := Try.checked) false ⟨#[], #[.agg #[.string ByteArray.empty, .int .i64 0, .int .i64 0, .int .i64 0, .int .i64 0, .int .i64 0, .int .i64 0, .int .i64 0, .int .i64 0, .int .i64 0, .int .i64 0, .int .i64 0, .int .i64 0, .int .i64 0, .int .i64 0, .int .i64 0, .int .i64 0, .int .i64 0, .int .i64 0, .int .i64 0, .slice none 0 0, .slice none 0 0]], []⟩ 8 (by kernel_rfl) (by kernel_rfl) (by kernel_rfl) (by kernel_rfl)) ?_
  intro W base args ds gs before hval0 hW hcnd _
  have hval : ∀ (j : Nat) t v, Try.f12.params[j]? = some t → args[j]? = some v → Value.okWide Try.prog W .any base t v := hval0
  have hW' := hW
  obtain ⟨p, q, hA0, hV, rfl, hfz, hnd⟩ := hW
  have hA : DataW.TrodAll enc Try.prog W 0 (fun _ => true) true Try.f12.params.toList args.toList ds p := hA0
  rw [Try.params12] at hA hval
  obtain ⟨v0, vs0, d0, ds0, p0, q0, hargs, rfl, rfl, h0, r0⟩ := trodAll_cons hA
  obtain ⟨rfl, rfl, rfl⟩ := trodAll_nil r0
  obtain rfl : args = #[v0] := by cases args; simp_all
  obtain ⟨rfl, rfl⟩ := trodVars_none hV
  have k0 := h0
  have lt0 : ∀ x ∈ p0, x.block < W.heap.size := by obtain ⟨m, hm⟩ := k0; exact DataW.trod_lt m _ _ _ hm
  obtain ⟨g0, hv0, hg0⟩ := open_game (hval 0 25 v0 rfl rfl) h0
  clear hA0 hval0
  refine (walk v0 g0 W hv0 hg0).mono fun e W' ⟨he, bel⟩ => ?_
  subst he
  exact ⟨_, rfl, _, _, _, [], _, [], hW', trodAll_mk1 (shut_bool Try.underlying4 _), (trodAll_cons_mk (Below.trod laidOut (by kernel_rfl) (of_decide_eq_true (by kernel_rfl)) k0 bel lt0) trodAll_mk0), rfl, bel.frame _, fun h => by cases h⟩
theorem over : Rows.poolStartsRow.holds Try.pinned (OpenSpec.ofChange Rows.poolStartsSpec) :=
  OpenClaim.holds_of_wide 12 Try.f12 rfl rfl rfl rfl rfl rfl rfl ⟨rfl, rfl, rfl, rfl, rfl⟩ rfl rfl rfl rfl rfl (by kernel_rfl) Try.func12 (by kernel_rfl)
    (of_decide_eq_true (by kernel_rfl)) (by unfold Func.isWrapper; first | (rw [if_pos (by decide +kernel)]; kernel_rfl) | (rw [if_neg (by decide +kernel)]; exact ⟨rfl, rfl⟩))
    (fun os started H enc _ => lifted os started H enc)
/-- THE STATEMENT -/
theorem proved : Rows.PoolStartsSaid := over
end Go.Proofs.Ytdinjekpcgndmaa.poolStarts
