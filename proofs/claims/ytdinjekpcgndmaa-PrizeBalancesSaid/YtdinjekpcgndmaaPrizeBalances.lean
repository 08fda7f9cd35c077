/-
  PrizeBalances: for every game, carry and sale the statement returns true: what Award returns balances. No conditions.
-/
import Derived.Test.YtdinjekpcgndmaaPrizeBase
import Derived.IntWalk
import Derived.BigQuiet
import Derived.ProofKit
import Derived.OpenShut
import Derived.ShutString
import Derived.ChangeOld
namespace Go.Proofs.Ytdinjekpcgndmaa.prizeBalances
open Go.ChangeShapes Go.WideShapes Go.ChangeAt Go.RowKit
open Go.ChangeMaps (open_string shut_string)
set_option linter.unusedVariables false
attribute [local go_sem ↓] Go.wp_at_zero Go.wp_at_succ
set_option maxRecDepth 20000 in
theorem open_sold {H : Type} {enc : TypeId × Value → H} {w : World} {base : Nat} {spare : Nat → Bool} {held : Bool} {r : Reach} {b0 : Nat} {v : Value} {d : DataW H} {ps : List MemPlace}
    (hval : Value.okWide Try.prog w r b0 70 v) (h : DataW.Trod enc Try.prog w base spare held 70 v d ps) : ∃ (s : Int) (vk : Value) (ks : List Int), v = .agg #[.int .i64 s, vk] ∧ RdI w vk ks := by
  have U := Try.underlying70
  obtain ⟨cs, rfl, hsz⟩ := okWide_struct U hval
  obtain ⟨l⟩ := cs
  have hC : Try.prog.cellsOf 70 = 2 := by kernel_rfl
  rw [hC] at hsz
  obtain ⟨fuel, hy0⟩ := h
  have hy : DataW.trod enc Try.prog w base spare held fuel 70 l = some (d, ps) := by simpa [Value.cells] using hy0
  obtain ⟨c0, k0, h0⟩ := field_int (ft := 3) U hy 0 0 rfl (by kernel_rfl) Try.underlying3
  obtain ⟨c1, a1, p1, h1, r1, _⟩ := field_ints (ft := 31) U hy 1 1 rfl (by kernel_rfl) Try.underlying31 (by kernel_rfl) Try.underlying3
  refine ⟨c0, .slice a1 c1.length p1, c1, ?_, r1⟩
  clear hy hy0 hval U hC
  match l, hsz with
  | [x0, x1], _ =>
    simp at h0 h1
    simp [h0, h1]
set_option maxRecDepth 20000 in
set_option maxHeartbeats 8000000 in
theorem walk (v0 : Value) (g : Gm) (v1 vt : Value) (ct : List Int) (cr cl : Int) (v2 : Value) (s : Int) (vk : Value) (ks : List Int) (w : World) (hv0 : v0 = g.val) (hok : g.Ok w)
    (hv1 : v1 = .agg #[vt, .int .i64 cr, .int .i64 cl]) (hr1 : RdI w vt ct) (hv2 : v2 = .agg #[.int .i64 s, vk]) (hr2 : RdI w vk ks) :
    Calls Try.prog 16 #[v0, v1, v2] w fun e w' => e = .returned (.bool true) ∧ Below w.heap.size w w' := by
  subst hv0 hv1 hv2
  obtain ⟨ac, cc, rfl, hc1, hc2, _⟩ := id hr1
  obtain ⟨ak, ck, rfl, hk1, hk2, _⟩ := id hr2
  unfold maxLen at hc2 hk2
  obtain ⟨hf1, hl1⟩ := RdI.few hr1
  obtain ⟨hf2, hl2⟩ := RdI.few hr2
  rw [← hl1] at hf1
  rw [← hl2] at hf2
  have hFC := fun w => few_any ac ct.length cc w hc1 (by omega)
  have hFK := fun w => few_any ak ks.length ck w hk1 (by omega)
  rw [← hl1] at hFC
  rw [← hl2] at hFK
  have hSM := fun x (h : Fr [] w x) => small_any g x (hok.fr h)
  unfold SmPost at hSM
  clear hl1 hl2 hr1 hr2
  generalize ct.take 14 = C1 at *
  generalize ks.take 14 = K1 at *
  generalize ct.length = nc at *
  generalize ks.length = nk at *
  have HFC := Lib.hid hFC
  have HFK := Lib.hid hFK
  have HSM := Lib.hid hSM
  have HR1 := Lib.hid hf1
  have HR2 := Lib.hid hf2
  have HOK := Lib.hid hok
  clear hFC hFK hSM hf1 hf2 hok hc1 hc2 hk1 hk2
  go_enter Try.func16, Try.ntmps16
  go_upto_region 1 with (refine box_game rfl (.tmp 0) rfl g rfl ?_; intro w1 hg1 hz1 hf1)
  obtain ⟨b, hb⟩ : ∃ b, b = w.heap.size := ⟨_, rfl⟩
  have hrC : RowAt ((w1.alloc (.cells #[.slice ac nc cc, .int .i64 cr, .int .i64 cl] 43)).alloc (.cells #[.int .i64 s, .slice ak nk ck] 70)) (b + 1) 43 [.slice ac nc cc, .int .i64 cr, .int .i64 cl] := (RowAt.new (by rw [hz1, hb]) rfl).fr ((Fr.refl [] _).alloc _) (by simp)
  have hrS : RowAt ((w1.alloc (.cells #[.slice ac nc cc, .int .i64 cr, .int .i64 cl] 43)).alloc (.cells #[.int .i64 s, .slice ak nk ck] 70)) (b + 2) 70 [.int .i64 s, .slice ak nk ck] := RowAt.new (by simp [hz1, hb]) rfl
  have e1 : Fr [] w1 ((w1.alloc (.cells #[.slice ac nc cc, .int .i64 cr, .int .i64 cl] 43)).alloc (.cells #[.int .i64 s, .slice ak nk ck] 70)) := ((Fr.refl [] w1).alloc _).alloc _
  have hz2 : ((w1.alloc (.cells #[.slice ac nc cc, .int .i64 cr, .int .i64 cl] 43)).alloc (.cells #[.int .i64 s, .slice ak nk ck] 70)).heap.size = b + 3 := by simp [hz1, hb]
  have hg2 := hg1.fr e1 (by simp)
  have F1 := hf1.trans e1
  (try simp only [World.size_alloc])
  (try rw [hz1])
  generalize (w1.alloc (.cells #[.slice ac nc cc, .int .i64 cr, .int .i64 cl] 43)).alloc (.cells #[.int .i64 s, .slice ak nk ck] 70) = x1 at *
  rw [← hb] at hg2 ⊢
  have HB := Lib.hid hb
  have HX1 := Lib.hid F1
  have HZ2 := Lib.hid hz2
  obtain ⟨m, hm⟩ : ∃ m, m = min g.addons.length 6 := ⟨_, rfl⟩
  have hSM := HSM.out
  rw [← hm] at hSM
  have HSM := Lib.hid hSM
  have HM := Lib.hid hm
  clear hg1 hz1 hf1 e1 hb F1 hSM hz2 hm
  go_cut [] (fun wx => ∃ a c, GmAt wx b (smG g a c) ∧ OwnA wx (b + 3) (.slice a m c) (smL g.addons m) ∧ RowAt wx (b + 1) 43 [.slice ac C1.length cc, .int .i64 cr, .int .i64 cl] ∧ RowAt wx (b + 2) 70 [.int .i64 s, .slice ak K1.length ck] ∧ Fr [b, b + 1, b + 2] x1 wx)
  case first =>
    refine wp_region_held_drew (S := (fun w' => Fr [b, b + 1, b + 2] x1 w')) (by kernel_rfl) (Fr.refl _ x1).drew (fun hHeld => ?_)
    have hg := hg2.fr (Fr.refl [] x1).drew (by simp)
    have hC := hrC.fr (Fr.refl [] x1).drew (by simp)
    have hS := hrS.fr (Fr.refl [] x1).drew (by simp)
    have f0 : Fr [] w x1.drew := HX1.out.drew
    generalize x1.drew = y0 at *
    clear hg2 hrC hrS
    have cC := hC.cell 0 _ rfl
    have cS := hS.cell 1 _ rfl
    refine wpAnyH_take (i := 2) (oi := ⟨some 15, _, _, _, _, _⟩) (v := .pointer (some ⟨b + 1, 0, none⟩)) rfl (by kernel_rfl) (by kernel_rfl) (by kernel_rfl) (fun _ _ _ h => h) (Or.inl ⟨by rfl, ?_⟩) hHeld ?_
    · intro w hSw; (try dsimp only at hSw); go_simp
    (try simp only [Act.put, List.setIfInBounds_toArray, List.set_cons_zero, List.set_cons_succ])
    refine wpAnyH_take (i := 5) (oi := ⟨some 18, _, _, _, _, _⟩) (v := .pointer (some ⟨b + 2, 1, none⟩)) rfl (by kernel_rfl) (by kernel_rfl) (by kernel_rfl) (fun _ _ _ h => h) (Or.inl ⟨by rfl, ?_⟩) hHeld ?_
    · intro w hSw; (try dsimp only at hSw); go_simp
    (try simp only [Act.put, List.setIfInBounds_toArray, List.set_cons_zero, List.set_cons_succ])
    refine wpAnyH_ready (rs := [0, 3, 6]) (by kernel_rfl) (by simp) ?_
    refine AllReadyH.cons (o := ⟨some 13, _, _, _, _, _⟩) rfl (fun K hK => ?_) (AllReadyH.cons (o := ⟨some 16, _, _, _, _, _⟩) rfl (fun K hK => ?_) (AllReadyH.cons (o := ⟨some 19, _, _, _, _, _⟩) rfl (fun K hK => ?_) AllReadyH.nil))
    · skip
      rw [if_pos (by rfl)]
      refine wp_load_row 25 (.tmp 3) rfl b rfl 25 g.cells.toArray (0, 0) _ hg Try.underlying25 rfl infoGame ?_
      rw [← Gm.val_eq]
      refine hK.out _ _ (hHeld) (fun hHeld' => ?_)
      clear hK K hHeld
      have hHeld := hHeld'
      clear hHeld'
      (try simp only [Act.put, List.setIfInBounds_toArray, List.set_cons_zero, List.set_cons_succ])
      refine wpAnyH_ready (rs := [1, 3, 6]) (by kernel_rfl) (by simp) ?_
      refine AllReadyH.cons (o := ⟨some 14, _, _, _, _, _⟩) rfl (fun K hK => ?_) (AllReadyH.cons (o := ⟨some 16, _, _, _, _, _⟩) rfl (fun K hK => ?_) (AllReadyH.cons (o := ⟨some 19, _, _, _, _, _⟩) rfl (fun K hK => ?_) AllReadyH.nil))
      · skip
        rw [if_pos (by rfl)]
        go_simp
        refine (HSM.out _ f0).mono ?_
        rintro e y1 ⟨ag, cg, rfl, hog, fsm⟩
        have hg := hg.fr fsm (by simp)
        have hC := hC.fr fsm (by simp)
        have hS := hS.fr fsm (by simp)
        have cC := fsm.cell_some cC (by simp)
        have cS := fsm.cell_some cS (by simp)
        have hog := hog.mono (show b + 3 ≤ y0.heap.size by rw [← HZ2.out]; exact hHeld.size)
        refine hK.out _ _ (hHeld.trans (fsm.mono (by simp))) (fun hHeld' => ?_)
        clear hK K hHeld
        have hHeld := hHeld'
        clear hHeld'
        (try simp only [Act.put, List.setIfInBounds_toArray, List.set_cons_zero, List.set_cons_succ])
        clear fsm f0
        refine wpAnyH_ready (rs := [3, 6]) (by kernel_rfl) (by simp) ?_
        refine AllReadyH.cons (o := ⟨some 16, _, _, _, _, _⟩) rfl (fun K hK => ?_) (AllReadyH.cons (o := ⟨some 19, _, _, _, _, _⟩) rfl (fun K hK => ?_) AllReadyH.nil)
        · skip
          rw [if_pos (by rfl)]
          go_simp
          refine hK.out _ _ (hHeld) (fun hHeld' => ?_)
          clear hK K hHeld
          have hHeld := hHeld'
          clear hHeld'
          (try simp only [Act.put, List.setIfInBounds_toArray, List.set_cons_zero, List.set_cons_succ])
          refine wpAnyH_ready (rs := [4, 6]) (by kernel_rfl) (by simp) ?_
          refine AllReadyH.cons (o := ⟨some 17, _, _, _, _, _⟩) rfl (fun K hK => ?_) (AllReadyH.cons (o := ⟨some 19, _, _, _, _, _⟩) rfl (fun K hK => ?_) AllReadyH.nil)
          · skip
            rw [if_pos (by rfl)]
            go_simp
            refine (HFC.out _).mono ?_
            rintro e w9 ⟨rfl, rfl⟩
            refine hK.out _ _ (hHeld) (fun hHeld' => ?_)
            clear hK K hHeld
            have hHeld := hHeld'
            clear hHeld'
            (try simp only [Act.put, List.setIfInBounds_toArray, List.set_cons_zero, List.set_cons_succ])
            refine wpAnyH_ready (rs := [6]) (by kernel_rfl) (by simp) ?_
            refine AllReadyH.cons (o := ⟨some 19, _, _, _, _, _⟩) rfl (fun K hK => ?_) AllReadyH.nil
            rw [if_pos (by rfl)]
            go_simp
            refine hK.out _ _ (hHeld) (fun hHeld' => ?_)
            clear hK K hHeld
            have hHeld := hHeld'
            clear hHeld'
            (try simp only [Act.put, List.setIfInBounds_toArray, List.set_cons_zero, List.set_cons_succ])
            refine wpAnyH_ready (rs := [7]) (by kernel_rfl) (by simp) ?_
            refine AllReadyH.cons (o := ⟨some 20, _, _, _, _, _⟩) rfl (fun K hK => ?_) AllReadyH.nil
            rw [if_pos (by rfl)]
            go_simp
            refine (HFK.out _).mono ?_
            rintro e w9 ⟨rfl, rfl⟩
            refine hK.out _ _ (hHeld) (fun hHeld' => ?_)
            clear hK K hHeld
            have hHeld := hHeld'
            clear hHeld'
            (try simp only [Act.put, List.setIfInBounds_toArray, List.set_cons_zero, List.set_cons_succ])
            refine wpAnyH_ready (rs := [8]) (by kernel_rfl) (by simp) ?_
            refine AllReadyH.cons (o := ⟨none, _, _, _, _, _⟩) rfl (fun K hK => ?_) AllReadyH.nil
            rw [if_pos (by rfl)]
            refine store_game_op (.tmp 3) (.tmp 14) rfl b rfl _ hg rfl (smG g ag cg) rfl ?_
            intro y2 hg2 hz2 hf2
            have hC := hC.fr hf2 (by simp)
            have hS := hS.fr hf2 (by simp)
            have hog := hog.fr hf2 (fun q hq => by have := (hog.block q hq).1; simp; omega)
            refine hK.out _ _ (hHeld.trans (hf2.mono (by simp))) (fun hHeld' => ?_)
            clear hK K hHeld
            have hHeld := hHeld'
            clear hHeld'
            (try simp only [Act.put, List.setIfInBounds_toArray, List.set_cons_zero, List.set_cons_succ])
            clear hf2 hz2 hg cC cS
            have cC := hC.cell 0 _ rfl
            have zC := hC.frozen 0
            refine wpAnyH_take (i := 9) (oi := ⟨some 21, _, _, _, _, _⟩) (v := .pointer (some ⟨b + 1, 0, none⟩)) rfl (by kernel_rfl) (by kernel_rfl) (by kernel_rfl) (fun _ _ _ h => h) (Or.inl ⟨by rfl, ?_⟩) hHeld ?_
            · intro w hSw; (try dsimp only at hSw); go_simp
            (try simp only [Act.put, List.setIfInBounds_toArray, List.set_cons_zero, List.set_cons_succ])
            refine wpAnyH_ready (rs := [10]) (by kernel_rfl) (by simp) ?_
            refine AllReadyH.cons (o := ⟨none, _, _, _, _, _⟩) rfl (fun K hK => ?_) AllReadyH.nil
            rw [if_pos (by rfl)]
            go_simp
            have fs : Fr [b + 1] y2 (y2.setCell ⟨b + 1, 0, none⟩ (.slice ac C1.length cc)) := (Fr.refl [b + 1] y2).setCell (.inl (by simp)) _
            have hC := hC.set 0 (.slice ac C1.length cc)
            simp only [List.set_cons_zero] at hC
            have hS := hS.fr fs (by simp)
            have hg2 := hg2.fr fs (by simp)
            have hog := hog.fr fs (fun q hq => by have := (hog.block q hq).1; simp; omega)
            clear cC zC
            generalize y2.setCell ⟨b + 1, 0, none⟩ (.slice ac C1.length cc) = y3 at *
            refine hK.out _ _ (hHeld.trans (fs.mono (by simp))) (fun hHeld' => ?_)
            clear hK K hHeld
            have hHeld := hHeld'
            clear hHeld'
            (try simp only [Act.put, List.setIfInBounds_toArray, List.set_cons_zero, List.set_cons_succ])
            clear fs
            have cS := hS.cell 1 _ rfl
            have zS := hS.frozen 1
            refine wpAnyH_take (i := 11) (oi := ⟨some 22, _, _, _, _, _⟩) (v := .pointer (some ⟨b + 2, 1, none⟩)) rfl (by kernel_rfl) (by kernel_rfl) (by kernel_rfl) (fun _ _ _ h => h) (Or.inl ⟨by rfl, ?_⟩) hHeld ?_
            · intro w hSw; (try dsimp only at hSw); go_simp
            (try simp only [Act.put, List.setIfInBounds_toArray, List.set_cons_zero, List.set_cons_succ])
            refine wpAnyH_ready (rs := [12]) (by kernel_rfl) (by simp) ?_
            refine AllReadyH.cons (o := ⟨none, _, _, _, _, _⟩) rfl (fun K hK => ?_) AllReadyH.nil
            rw [if_pos (by rfl)]
            go_simp
            have fs : Fr [b + 2] y3 (y3.setCell ⟨b + 2, 1, none⟩ (.slice ak K1.length ck)) := (Fr.refl [b + 2] y3).setCell (.inl (by simp)) _
            have hS := hS.set 1 (.slice ak K1.length ck)
            simp only [List.set_cons_zero, List.set_cons_succ] at hS
            have hC := hC.fr fs (by simp)
            have hg2 := hg2.fr fs (by simp)
            have hog := hog.fr fs (fun q hq => by have := (hog.block q hq).1; simp; omega)
            clear cS zS
            generalize y3.setCell ⟨b + 2, 1, none⟩ (.slice ak K1.length ck) = y4 at *
            refine hK.out _ _ (hHeld.trans (fs.mono (by simp))) (fun hHeld' => ?_)
            clear hK K hHeld
            have hHeld := hHeld'
            clear hHeld'
            (try simp only [Act.put, List.setIfInBounds_toArray, List.set_cons_zero, List.set_cons_succ])
            clear fs
            have HW := Lib.hid hHeld
            have HG := Lib.hid hg2
            have HCC := Lib.hid hC
            have HSS := Lib.hid hS
            have HOG := Lib.hid hog
            clear hHeld hg2 hC hS hog
            refine wpAnyH_done (by kernel_rfl) ?_ _
            go_wp2_with fail
            go_meet
            exact ⟨ag, cg, HG.out, HOG.out, HCC.out, HSS.out, HW.out⟩
          · skip
            rw [if_pos (by rfl)]
            go_simp
            refine hK.out _ _ (hHeld) (fun hHeld' => ?_)
            clear hK K hHeld
            have hHeld := hHeld'
            clear hHeld'
            (try simp only [Act.put, List.setIfInBounds_toArray, List.set_cons_zero, List.set_cons_succ])
            refine wpAnyH_ready (rs := [4]) (by kernel_rfl) (by simp) ?_
            refine AllReadyH.cons (o := ⟨some 17, _, _, _, _, _⟩) rfl (fun K hK => ?_) AllReadyH.nil
            rw [if_pos (by rfl)]
            go_simp
            refine (HFC.out _).mono ?_
            rintro e w9 ⟨rfl, rfl⟩
            refine hK.out _ _ (hHeld) (fun hHeld' => ?_)
            clear hK K hHeld
            have hHeld := hHeld'
            clear hHeld'
            (try simp only [Act.put, List.setIfInBounds_toArray, List.set_cons_zero, List.set_cons_succ])
            refine wpAnyH_ready (rs := [7]) (by kernel_rfl) (by simp) ?_
            refine AllReadyH.cons (o := ⟨some 20, _, _, _, _, _⟩) rfl (fun K hK => ?_) AllReadyH.nil
            rw [if_pos (by rfl)]
            go_simp
            refine (HFK.out _).mono ?_
            rintro e w9 ⟨rfl, rfl⟩
            refine hK.out _ _ (hHeld) (fun hHeld' => ?_)
            clear hK K hHeld
            have hHeld := hHeld'
            clear hHeld'
            (try simp only [Act.put, List.setIfInBounds_toArray, List.set_cons_zero, List.set_cons_succ])
            refine wpAnyH_ready (rs := [8]) (by kernel_rfl) (by simp) ?_
            refine AllReadyH.cons (o := ⟨none, _, _, _, _, _⟩) rfl (fun K hK => ?_) AllReadyH.nil
            rw [if_pos (by rfl)]
            refine store_game_op (.tmp 3) (.tmp 14) rfl b rfl _ hg rfl (smG g ag cg) rfl ?_
            intro y2 hg2 hz2 hf2
            have hC := hC.fr hf2 (by simp)
            have hS := hS.fr hf2 (by simp)
            have hog := hog.fr hf2 (fun q hq => by have := (hog.block q hq).1; simp; omega)
            refine hK.out _ _ (hHeld.trans (hf2.mono (by simp))) (fun hHeld' => ?_)
            clear hK K hHeld
            have hHeld := hHeld'
            clear hHeld'
            (try simp only [Act.put, List.setIfInBounds_toArray, List.set_cons_zero, List.set_cons_succ])
            clear hf2 hz2 hg cC cS
            have cC := hC.cell 0 _ rfl
            have zC := hC.frozen 0
            refine wpAnyH_take (i := 9) (oi := ⟨some 21, _, _, _, _, _⟩) (v := .pointer (some ⟨b + 1, 0, none⟩)) rfl (by kernel_rfl) (by kernel_rfl) (by kernel_rfl) (fun _ _ _ h => h) (Or.inl ⟨by rfl, ?_⟩) hHeld ?_
            · intro w hSw; (try dsimp only at hSw); go_simp
            (try simp only [Act.put, List.setIfInBounds_toArray, List.set_cons_zero, List.set_cons_succ])
            refine wpAnyH_ready (rs := [10]) (by kernel_rfl) (by simp) ?_
            refine AllReadyH.cons (o := ⟨none, _, _, _, _, _⟩) rfl (fun K hK => ?_) AllReadyH.nil
            rw [if_pos (by rfl)]
            go_simp
            have fs : Fr [b + 1] y2 (y2.setCell ⟨b + 1, 0, none⟩ (.slice ac C1.length cc)) := (Fr.refl [b + 1] y2).setCell (.inl (by simp)) _
            have hC := hC.set 0 (.slice ac C1.length cc)
            simp only [List.set_cons_zero] at hC
            have hS := hS.fr fs (by simp)
            have hg2 := hg2.fr fs (by simp)
            have hog := hog.fr fs (fun q hq => by have := (hog.block q hq).1; simp; omega)
            clear cC zC
            generalize y2.setCell ⟨b + 1, 0, none⟩ (.slice ac C1.length cc) = y3 at *
            refine hK.out _ _ (hHeld.trans (fs.mono (by simp))) (fun hHeld' => ?_)
            clear hK K hHeld
            have hHeld := hHeld'
            clear hHeld'
            (try simp only [Act.put, List.setIfInBounds_toArray, List.set_cons_zero, List.set_cons_succ])
            clear fs
            have cS := hS.cell 1 _ rfl
            have zS := hS.frozen 1
            refine wpAnyH_take (i := 11) (oi := ⟨some 22, _, _, _, _, _⟩) (v := .pointer (some ⟨b + 2, 1, none⟩)) rfl (by kernel_rfl) (by kernel_rfl) (by kernel_rfl) (fun _ _ _ h => h) (Or.inl ⟨by rfl, ?_⟩) hHeld ?_
            · intro w hSw; (try dsimp only at hSw); go_simp
            (try simp only [Act.put, List.setIfInBounds_toArray, List.set_cons_zero, List.set_cons_succ])
            refine wpAnyH_ready (rs := [12]) (by kernel_rfl) (by simp) ?_
            refine AllReadyH.cons (o := ⟨none, _, _, _, _, _⟩) rfl (fun K hK => ?_) AllReadyH.nil
            rw [if_pos (by rfl)]
            go_simp
            have fs : Fr [b + 2] y3 (y3.setCell ⟨b + 2, 1, none⟩ (.slice ak K1.length ck)) := (Fr.refl [b + 2] y3).setCell (.inl (by simp)) _
            have hS := hS.set 1 (.slice ak K1.length ck)
            simp only [List.set_cons_zero, List.set_cons_succ] at hS
            have hC := hC.fr fs (by simp)
            have hg2 := hg2.fr fs (by simp)
            have hog := hog.fr fs (fun q hq => by have := (hog.block q hq).1; simp; omega)
            clear cS zS
            generalize y3.setCell ⟨b + 2, 1, none⟩ (.slice ak K1.length ck) = y4 at *
            refine hK.out _ _ (hHeld.trans (fs.mono (by simp))) (fun hHeld' => ?_)
            clear hK K hHeld
            have hHeld := hHeld'
            clear hHeld'
            (try simp only [Act.put, List.setIfInBounds_toArray, List.set_cons_zero, List.set_cons_succ])
            clear fs
            have HW := Lib.hid hHeld
            have HG := Lib.hid hg2
            have HCC := Lib.hid hC
            have HSS := Lib.hid hS
            have HOG := Lib.hid hog
            clear hHeld hg2 hC hS hog
            refine wpAnyH_done (by kernel_rfl) ?_ _
            go_wp2_with fail
            go_meet
            exact ⟨ag, cg, HG.out, HOG.out, HCC.out, HSS.out, HW.out⟩
        · skip
          rw [if_pos (by rfl)]
          go_simp
          refine hK.out _ _ (hHeld) (fun hHeld' => ?_)
          clear hK K hHeld
          have hHeld := hHeld'
          clear hHeld'
          (try simp only [Act.put, List.setIfInBounds_toArray, List.set_cons_zero, List.set_cons_succ])
          refine wpAnyH_ready (rs := [3]) (by kernel_rfl) (by simp) ?_
          refine AllReadyH.cons (o := ⟨some 16, _, _, _, _, _⟩) rfl (fun K hK => ?_) AllReadyH.nil
          rw [if_pos (by rfl)]
          go_simp
          refine hK.out _ _ (hHeld) (fun hHeld' => ?_)
          clear hK K hHeld
          have hHeld := hHeld'
          clear hHeld'
          (try simp only [Act.put, List.setIfInBounds_toArray, List.set_cons_zero, List.set_cons_succ])
          refine wpAnyH_ready (rs := [4]) (by kernel_rfl) (by simp) ?_
          refine AllReadyH.cons (o := ⟨some 17, _, _, _, _, _⟩) rfl (fun K hK => ?_) AllReadyH.nil
          rw [if_pos (by rfl)]
          go_simp
          refine (HFC.out _).mono ?_
          rintro e w9 ⟨rfl, rfl⟩
          refine hK.out _ _ (hHeld) (fun hHeld' => ?_)
          clear hK K hHeld
          have hHeld := hHeld'
          clear hHeld'
          (try simp only [Act.put, List.setIfInBounds_toArray, List.set_cons_zero, List.set_cons_succ])
          refine wpAnyH_ready (rs := [7]) (by kernel_rfl) (by simp) ?_
          refine AllReadyH.cons (o := ⟨some 20, _, _, _, _, _⟩) rfl (fun K hK => ?_) AllReadyH.nil
          rw [if_pos (by rfl)]
          go_simp
          refine (HFK.out _).mono ?_
          rintro e w9 ⟨rfl, rfl⟩
          refine hK.out _ _ (hHeld) (fun hHeld' => ?_)
          clear hK K hHeld
          have hHeld := hHeld'
          clear hHeld'
          (try simp only [Act.put, List.setIfInBounds_toArray, List.set_cons_zero, List.set_cons_succ])
          refine wpAnyH_ready (rs := [8]) (by kernel_rfl) (by simp) ?_
          refine AllReadyH.cons (o := ⟨none, _, _, _, _, _⟩) rfl (fun K hK => ?_) AllReadyH.nil
          rw [if_pos (by rfl)]
          refine store_game_op (.tmp 3) (.tmp 14) rfl b rfl _ hg rfl (smG g ag cg) rfl ?_
          intro y2 hg2 hz2 hf2
          have hC := hC.fr hf2 (by simp)
          have hS := hS.fr hf2 (by simp)
          have hog := hog.fr hf2 (fun q hq => by have := (hog.block q hq).1; simp; omega)
          refine hK.out _ _ (hHeld.trans (hf2.mono (by simp))) (fun hHeld' => ?_)
          clear hK K hHeld
          have hHeld := hHeld'
          clear hHeld'
          (try simp only [Act.put, List.setIfInBounds_toArray, List.set_cons_zero, List.set_cons_succ])
          clear hf2 hz2 hg cC cS
          have cC := hC.cell 0 _ rfl
          have zC := hC.frozen 0
          refine wpAnyH_take (i := 9) (oi := ⟨some 21, _, _, _, _, _⟩) (v := .pointer (some ⟨b + 1, 0, none⟩)) rfl (by kernel_rfl) (by kernel_rfl) (by kernel_rfl) (fun _ _ _ h => h) (Or.inl ⟨by rfl, ?_⟩) hHeld ?_
          · intro w hSw; (try dsimp only at hSw); go_simp
          (try simp only [Act.put, List.setIfInBounds_toArray, List.set_cons_zero, List.set_cons_succ])
          refine wpAnyH_ready (rs := [10]) (by kernel_rfl) (by simp) ?_
          refine AllReadyH.cons (o := ⟨none, _, _, _, _, _⟩) rfl (fun K hK => ?_) AllReadyH.nil
          rw [if_pos (by rfl)]
          go_simp
          have fs : Fr [b + 1] y2 (y2.setCell ⟨b + 1, 0, none⟩ (.slice ac C1.length cc)) := (Fr.refl [b + 1] y2).setCell (.inl (by simp)) _
          have hC := hC.set 0 (.slice ac C1.length cc)
          simp only [List.set_cons_zero] at hC
          have hS := hS.fr fs (by simp)
          have hg2 := hg2.fr fs (by simp)
          have hog := hog.fr fs (fun q hq => by have := (hog.block q hq).1; simp; omega)
          clear cC zC
          generalize y2.setCell ⟨b + 1, 0, none⟩ (.slice ac C1.length cc) = y3 at *
          refine hK.out _ _ (hHeld.trans (fs.mono (by simp))) (fun hHeld' => ?_)
          clear hK K hHeld
          have hHeld := hHeld'
          clear hHeld'
          (try simp only [Act.put, List.setIfInBounds_toArray, List.set_cons_zero, List.set_cons_succ])
          clear fs
          have cS := hS.cell 1 _ rfl
          have zS := hS.frozen 1
          refine wpAnyH_take (i := 11) (oi := ⟨some 22, _, _, _, _, _⟩) (v := .pointer (some ⟨b + 2, 1, none⟩)) rfl (by kernel_rfl) (by kernel_rfl) (by kernel_rfl) (fun _ _ _ h => h) (Or.inl ⟨by rfl, ?_⟩) hHeld ?_
          · intro w hSw; (try dsimp only at hSw); go_simp
          (try simp only [Act.put, List.setIfInBounds_toArray, List.set_cons_zero, List.set_cons_succ])
          refine wpAnyH_ready (rs := [12]) (by kernel_rfl) (by simp) ?_
          refine AllReadyH.cons (o := ⟨none, _, _, _, _, _⟩) rfl (fun K hK => ?_) AllReadyH.nil
          rw [if_pos (by rfl)]
          go_simp
          have fs : Fr [b + 2] y3 (y3.setCell ⟨b + 2, 1, none⟩ (.slice ak K1.length ck)) := (Fr.refl [b + 2] y3).setCell (.inl (by simp)) _
          have hS := hS.set 1 (.slice ak K1.length ck)
          simp only [List.set_cons_zero, List.set_cons_succ] at hS
          have hC := hC.fr fs (by simp)
          have hg2 := hg2.fr fs (by simp)
          have hog := hog.fr fs (fun q hq => by have := (hog.block q hq).1; simp; omega)
          clear cS zS
          generalize y3.setCell ⟨b + 2, 1, none⟩ (.slice ak K1.length ck) = y4 at *
          refine hK.out _ _ (hHeld.trans (fs.mono (by simp))) (fun hHeld' => ?_)
          clear hK K hHeld
          have hHeld := hHeld'
          clear hHeld'
          (try simp only [Act.put, List.setIfInBounds_toArray, List.set_cons_zero, List.set_cons_succ])
          clear fs
          have HW := Lib.hid hHeld
          have HG := Lib.hid hg2
          have HCC := Lib.hid hC
          have HSS := Lib.hid hS
          have HOG := Lib.hid hog
          clear hHeld hg2 hC hS hog
          refine wpAnyH_done (by kernel_rfl) ?_ _
          go_wp2_with fail
          go_meet
          exact ⟨ag, cg, HG.out, HOG.out, HCC.out, HSS.out, HW.out⟩
      · skip
        rw [if_pos (by rfl)]
        go_simp
        refine hK.out _ _ (hHeld) (fun hHeld' => ?_)
        clear hK K hHeld
        have hHeld := hHeld'
        clear hHeld'
        (try simp only [Act.put, List.setIfInBounds_toArray, List.set_cons_zero, List.set_cons_succ])
        refine wpAnyH_ready (rs := [1, 6]) (by kernel_rfl) (by simp) ?_
        refine AllReadyH.cons (o := ⟨some 14, _, _, _, _, _⟩) rfl (fun K hK => ?_) (AllReadyH.cons (o := ⟨some 19, _, _, _, _, _⟩) rfl (fun K hK => ?_) AllReadyH.nil)
        · skip
          rw [if_pos (by rfl)]
          go_simp
          refine (HSM.out _ f0).mono ?_
          rintro e y1 ⟨ag, cg, rfl, hog, fsm⟩
          have hg := hg.fr fsm (by simp)
          have hC := hC.fr fsm (by simp)
          have hS := hS.fr fsm (by simp)
          have cC := fsm.cell_some cC (by simp)
          have cS := fsm.cell_some cS (by simp)
          have hog := hog.mono (show b + 3 ≤ y0.heap.size by rw [← HZ2.out]; exact hHeld.size)
          refine hK.out _ _ (hHeld.trans (fsm.mono (by simp))) (fun hHeld' => ?_)
          clear hK K hHeld
          have hHeld := hHeld'
          clear hHeld'
          (try simp only [Act.put, List.setIfInBounds_toArray, List.set_cons_zero, List.set_cons_succ])
          clear fsm f0
          refine wpAnyH_ready (rs := [4, 6]) (by kernel_rfl) (by simp) ?_
          refine AllReadyH.cons (o := ⟨some 17, _, _, _, _, _⟩) rfl (fun K hK => ?_) (AllReadyH.cons (o := ⟨some 19, _, _, _, _, _⟩) rfl (fun K hK => ?_) AllReadyH.nil)
          · skip
            rw [if_pos (by rfl)]
            go_simp
            refine (HFC.out _).mono ?_
            rintro e w9 ⟨rfl, rfl⟩
            refine hK.out _ _ (hHeld) (fun hHeld' => ?_)
            clear hK K hHeld
            have hHeld := hHeld'
            clear hHeld'
            (try simp only [Act.put, List.setIfInBounds_toArray, List.set_cons_zero, List.set_cons_succ])
            refine wpAnyH_ready (rs := [6]) (by kernel_rfl) (by simp) ?_
            refine AllReadyH.cons (o := ⟨some 19, _, _, _, _, _⟩) rfl (fun K hK => ?_) AllReadyH.nil
            rw [if_pos (by rfl)]
            go_simp
            refine hK.out _ _ (hHeld) (fun hHeld' => ?_)
            clear hK K hHeld
            have hHeld := hHeld'
            clear hHeld'
            (try simp only [Act.put, List.setIfInBounds_toArray, List.set_cons_zero, List.set_cons_succ])
            refine wpAnyH_ready (rs := [7]) (by kernel_rfl) (by simp) ?_
            refine AllReadyH.cons (o := ⟨some 20, _, _, _, _, _⟩) rfl (fun K hK => ?_) AllReadyH.nil
            rw [if_pos (by rfl)]
            go_simp
            refine (HFK.out _).mono ?_
            rintro e w9 ⟨rfl, rfl⟩
            refine hK.out _ _ (hHeld) (fun hHeld' => ?_)
            clear hK K hHeld
            have hHeld := hHeld'
            clear hHeld'
            (try simp only [Act.put, List.setIfInBounds_toArray, List.set_cons_zero, List.set_cons_succ])
            refine wpAnyH_ready (rs := [8]) (by kernel_rfl) (by simp) ?_
            refine AllReadyH.cons (o := ⟨none, _, _, _, _, _⟩) rfl (fun K hK => ?_) AllReadyH.nil
            rw [if_pos (by rfl)]
            refine store_game_op (.tmp 3) (.tmp 14) rfl b rfl _ hg rfl (smG g ag cg) rfl ?_
            intro y2 hg2 hz2 hf2
            have hC := hC.fr hf2 (by simp)
            have hS := hS.fr hf2 (by simp)
            have hog := hog.fr hf2 (fun q hq => by have := (hog.block q hq).1; simp; omega)
            refine hK.out _ _ (hHeld.trans (hf2.mono (by simp))) (fun hHeld' => ?_)
            clear hK K hHeld
            have hHeld := hHeld'
            clear hHeld'
            (try simp only [Act.put, List.setIfInBounds_toArray, List.set_cons_zero, List.set_cons_succ])
            clear hf2 hz2 hg cC cS
            have cC := hC.cell 0 _ rfl
            have zC := hC.frozen 0
            refine wpAnyH_take (i := 9) (oi := ⟨some 21, _, _, _, _, _⟩) (v := .pointer (some ⟨b + 1, 0, none⟩)) rfl (by kernel_rfl) (by kernel_rfl) (by kernel_rfl) (fun _ _ _ h => h) (Or.inl ⟨by rfl, ?_⟩) hHeld ?_
            · intro w hSw; (try dsimp only at hSw); go_simp
            (try simp only [Act.put, List.setIfInBounds_toArray, List.set_cons_zero, List.set_cons_succ])
            refine wpAnyH_ready (rs := [10]) (by kernel_rfl) (by simp) ?_
            refine AllReadyH.cons (o := ⟨none, _, _, _, _, _⟩) rfl (fun K hK => ?_) AllReadyH.nil
            rw [if_pos (by rfl)]
            go_simp
            have fs : Fr [b + 1] y2 (y2.setCell ⟨b + 1, 0, none⟩ (.slice ac C1.length cc)) := (Fr.refl [b + 1] y2).setCell (.inl (by simp)) _
            have hC := hC.set 0 (.slice ac C1.length cc)
            simp only [List.set_cons_zero] at hC
            have hS := hS.fr fs (by simp)
            have hg2 := hg2.fr fs (by simp)
            have hog := hog.fr fs (fun q hq => by have := (hog.block q hq).1; simp; omega)
            clear cC zC
            generalize y2.setCell ⟨b + 1, 0, none⟩ (.slice ac C1.length cc) = y3 at *
            refine hK.out _ _ (hHeld.trans (fs.mono (by simp))) (fun hHeld' => ?_)
            clear hK K hHeld
            have hHeld := hHeld'
            clear hHeld'
            (try simp only [Act.put, List.setIfInBounds_toArray, List.set_cons_zero, List.set_cons_succ])
            clear fs
            have cS := hS.cell 1 _ rfl
            have zS := hS.frozen 1
            refine wpAnyH_take (i := 11) (oi := ⟨some 22, _, _, _, _, _⟩) (v := .pointer (some ⟨b + 2, 1, none⟩)) rfl (by kernel_rfl) (by kernel_rfl) (by kernel_rfl) (fun _ _ _ h => h) (Or.inl ⟨by rfl, ?_⟩) hHeld ?_
            · intro w hSw; (try dsimp only at hSw); go_simp
            (try simp only [Act.put, List.setIfInBounds_toArray, List.set_cons_zero, List.set_cons_succ])
            refine wpAnyH_ready (rs := [12]) (by kernel_rfl) (by simp) ?_
            refine AllReadyH.cons (o := ⟨none, _, _, _, _, _⟩) rfl (fun K hK => ?_) AllReadyH.nil
            rw [if_pos (by rfl)]
            go_simp
            have fs : Fr [b + 2] y3 (y3.setCell ⟨b + 2, 1, none⟩ (.slice ak K1.length ck)) := (Fr.refl [b + 2] y3).setCell (.inl (by simp)) _
            have hS := hS.set 1 (.slice ak K1.length ck)
            simp only [List.set_cons_zero, List.set_cons_succ] at hS
            have hC := hC.fr fs (by simp)
            have hg2 := hg2.fr fs (by simp)
            have hog := hog.fr fs (fun q hq => by have := (hog.block q hq).1; simp; omega)
            clear cS zS
            generalize y3.setCell ⟨b + 2, 1, none⟩ (.slice ak K1.length ck) = y4 at *
            refine hK.out _ _ (hHeld.trans (fs.mono (by simp))) (fun hHeld' => ?_)
            clear hK K hHeld
            have hHeld := hHeld'
            clear hHeld'
            (try simp only [Act.put, List.setIfInBounds_toArray, List.set_cons_zero, List.set_cons_succ])
            clear fs
            have HW := Lib.hid hHeld
            have HG := Lib.hid hg2
            have HCC := Lib.hid hC
            have HSS := Lib.hid hS
            have HOG := Lib.hid hog
            clear hHeld hg2 hC hS hog
            refine wpAnyH_done (by kernel_rfl) ?_ _
            go_wp2_with fail
            go_meet
            exact ⟨ag, cg, HG.out, HOG.out, HCC.out, HSS.out, HW.out⟩
          · skip
            rw [if_pos (by rfl)]
            go_simp
            refine hK.out _ _ (hHeld) (fun hHeld' => ?_)
            clear hK K hHeld
            have hHeld := hHeld'
            clear hHeld'
            (try simp only [Act.put, List.setIfInBounds_toArray, List.set_cons_zero, List.set_cons_succ])
            refine wpAnyH_ready (rs := [4]) (by kernel_rfl) (by simp) ?_
            refine AllReadyH.cons (o := ⟨some 17, _, _, _, _, _⟩) rfl (fun K hK => ?_) AllReadyH.nil
            rw [if_pos (by rfl)]
            go_simp
            refine (HFC.out _).mono ?_
            rintro e w9 ⟨rfl, rfl⟩
            refine hK.out _ _ (hHeld) (fun hHeld' => ?_)
            clear hK K hHeld
            have hHeld := hHeld'
            clear hHeld'
            (try simp only [Act.put, List.setIfInBounds_toArray, List.set_cons_zero, List.set_cons_succ])
            refine wpAnyH_ready (rs := [7]) (by kernel_rfl) (by simp) ?_
            refine AllReadyH.cons (o := ⟨some 20, _, _, _, _, _⟩) rfl (fun K hK => ?_) AllReadyH.nil
            rw [if_pos (by rfl)]
            go_simp
            refine (HFK.out _).mono ?_
            rintro e w9 ⟨rfl, rfl⟩
            refine hK.out _ _ (hHeld) (fun hHeld' => ?_)
            clear hK K hHeld
            have hHeld := hHeld'
            clear hHeld'
            (try simp only [Act.put, List.setIfInBounds_toArray, List.set_cons_zero, List.set_cons_succ])
            refine wpAnyH_ready (rs := [8]) (by kernel_rfl) (by simp) ?_
            refine AllReadyH.cons (o := ⟨none, _, _, _, _, _⟩) rfl (fun K hK => ?_) AllReadyH.nil
            rw [if_pos (by rfl)]
            refine store_game_op (.tmp 3) (.tmp 14) rfl b rfl _ hg rfl (smG g ag cg) rfl ?_
            intro y2 hg2 hz2 hf2
            have hC := hC.fr hf2 (by simp)
            have hS := hS.fr hf2 (by simp)
            have hog := hog.fr hf2 (fun q hq => by have := (hog.block q hq).1; simp; omega)
            refine hK.out _ _ (hHeld.trans (hf2.mono (by simp))) (fun hHeld' => ?_)
            clear hK K hHeld
            have hHeld := hHeld'
            clear hHeld'
            (try simp only [Act.put, List.setIfInBounds_toArray, List.set_cons_zero, List.set_cons_succ])
            clear hf2 hz2 hg cC cS
            have cC := hC.cell 0 _ rfl
            have zC := hC.frozen 0
            refine wpAnyH_take (i := 9) (oi := ⟨some 21, _, _, _, _, _⟩) (v := .pointer (some ⟨b + 1, 0, none⟩)) rfl (by kernel_rfl) (by kernel_rfl) (by kernel_rfl) (fun _ _ _ h => h) (Or.inl ⟨by rfl, ?_⟩) hHeld ?_
            · intro w hSw; (try dsimp only at hSw); go_simp
            (try simp only [Act.put, List.setIfInBounds_toArray, List.set_cons_zero, List.set_cons_succ])
            refine wpAnyH_ready (rs := [10]) (by kernel_rfl) (by simp) ?_
            refine AllReadyH.cons (o := ⟨none, _, _, _, _, _⟩) rfl (fun K hK => ?_) AllReadyH.nil
            rw [if_pos (by rfl)]
            go_simp
            have fs : Fr [b + 1] y2 (y2.setCell ⟨b + 1, 0, none⟩ (.slice ac C1.length cc)) := (Fr.refl [b + 1] y2).setCell (.inl (by simp)) _
            have hC := hC.set 0 (.slice ac C1.length cc)
            simp only [List.set_cons_zero] at hC
            have hS := hS.fr fs (by simp)
            have hg2 := hg2.fr fs (by simp)
            have hog := hog.fr fs (fun q hq => by have := (hog.block q hq).1; simp; omega)
            clear cC zC
            generalize y2.setCell ⟨b + 1, 0, none⟩ (.slice ac C1.length cc) = y3 at *
            refine hK.out _ _ (hHeld.trans (fs.mono (by simp))) (fun hHeld' => ?_)
            clear hK K hHeld
            have hHeld := hHeld'
            clear hHeld'
            (try simp only [Act.put, List.setIfInBounds_toArray, List.set_cons_zero, List.set_cons_succ])
            clear fs
            have cS := hS.cell 1 _ rfl
            have zS := hS.frozen 1
            refine wpAnyH_take (i := 11) (oi := ⟨some 22, _, _, _, _, _⟩) (v := .pointer (some ⟨b + 2, 1, none⟩)) rfl (by kernel_rfl) (by kernel_rfl) (by kernel_rfl) (fun _ _ _ h => h) (Or.inl ⟨by rfl, ?_⟩) hHeld ?_
            · intro w hSw; (try dsimp only at hSw); go_simp
            (try simp only [Act.put, List.setIfInBounds_toArray, List.set_cons_zero, List.set_cons_succ])
            refine wpAnyH_ready (rs := [12]) (by kernel_rfl) (by simp) ?_
            refine AllReadyH.cons (o := ⟨none, _, _, _, _, _⟩) rfl (fun K hK => ?_) AllReadyH.nil
            rw [if_pos (by rfl)]
            go_simp
            have fs : Fr [b + 2] y3 (y3.setCell ⟨b + 2, 1, none⟩ (.slice ak K1.length ck)) := (Fr.refl [b + 2] y3).setCell (.inl (by simp)) _
            have hS := hS.set 1 (.slice ak K1.length ck)
            simp only [List.set_cons_zero, List.set_cons_succ] at hS
            have hC := hC.fr fs (by simp)
            have hg2 := hg2.fr fs (by simp)
            have hog := hog.fr fs (fun q hq => by have := (hog.block q hq).1; simp; omega)
            clear cS zS
            generalize y3.setCell ⟨b + 2, 1, none⟩ (.slice ak K1.length ck) = y4 at *
            refine hK.out _ _ (hHeld.trans (fs.mono (by simp))) (fun hHeld' => ?_)
            clear hK K hHeld
            have hHeld := hHeld'
            clear hHeld'
            (try simp only [Act.put, List.setIfInBounds_toArray, List.set_cons_zero, List.set_cons_succ])
            clear fs
            have HW := Lib.hid hHeld
            have HG := Lib.hid hg2
            have HCC := Lib.hid hC
            have HSS := Lib.hid hS
            have HOG := Lib.hid hog
            clear hHeld hg2 hC hS hog
            refine wpAnyH_done (by kernel_rfl) ?_ _
            go_wp2_with fail
            go_meet
            exact ⟨ag, cg, HG.out, HOG.out, HCC.out, HSS.out, HW.out⟩
        · skip
          rw [if_pos (by rfl)]
          go_simp
          refine hK.out _ _ (hHeld) (fun hHeld' => ?_)
          clear hK K hHeld
          have hHeld := hHeld'
          clear hHeld'
          (try simp only [Act.put, List.setIfInBounds_toArray, List.set_cons_zero, List.set_cons_succ])
          refine wpAnyH_ready (rs := [1]) (by kernel_rfl) (by simp) ?_
          refine AllReadyH.cons (o := ⟨some 14, _, _, _, _, _⟩) rfl (fun K hK => ?_) AllReadyH.nil
          rw [if_pos (by rfl)]
          go_simp
          refine (HSM.out _ f0).mono ?_
          rintro e y1 ⟨ag, cg, rfl, hog, fsm⟩
          have hg := hg.fr fsm (by simp)
          have hC := hC.fr fsm (by simp)
          have hS := hS.fr fsm (by simp)
          have cC := fsm.cell_some cC (by simp)
          have cS := fsm.cell_some cS (by simp)
          have hog := hog.mono (show b + 3 ≤ y0.heap.size by rw [← HZ2.out]; exact hHeld.size)
          refine hK.out _ _ (hHeld.trans (fsm.mono (by simp))) (fun hHeld' => ?_)
          clear hK K hHeld
          have hHeld := hHeld'
          clear hHeld'
          (try simp only [Act.put, List.setIfInBounds_toArray, List.set_cons_zero, List.set_cons_succ])
          clear fsm f0
          refine wpAnyH_ready (rs := [4]) (by kernel_rfl) (by simp) ?_
          refine AllReadyH.cons (o := ⟨some 17, _, _, _, _, _⟩) rfl (fun K hK => ?_) AllReadyH.nil
          rw [if_pos (by rfl)]
          go_simp
          refine (HFC.out _).mono ?_
          rintro e w9 ⟨rfl, rfl⟩
          refine hK.out _ _ (hHeld) (fun hHeld' => ?_)
          clear hK K hHeld
          have hHeld := hHeld'
          clear hHeld'
          (try simp only [Act.put, List.setIfInBounds_toArray, List.set_cons_zero, List.set_cons_succ])
          refine wpAnyH_ready (rs := [7]) (by kernel_rfl) (by simp) ?_
          refine AllReadyH.cons (o := ⟨some 20, _, _, _, _, _⟩) rfl (fun K hK => ?_) AllReadyH.nil
          rw [if_pos (by rfl)]
          go_simp
          refine (HFK.out _).mono ?_
          rintro e w9 ⟨rfl, rfl⟩
          refine hK.out _ _ (hHeld) (fun hHeld' => ?_)
          clear hK K hHeld
          have hHeld := hHeld'
          clear hHeld'
          (try simp only [Act.put, List.setIfInBounds_toArray, List.set_cons_zero, List.set_cons_succ])
          refine wpAnyH_ready (rs := [8]) (by kernel_rfl) (by simp) ?_
          refine AllReadyH.cons (o := ⟨none, _, _, _, _, _⟩) rfl (fun K hK => ?_) AllReadyH.nil
          rw [if_pos (by rfl)]
          refine store_game_op (.tmp 3) (.tmp 14) rfl b rfl _ hg rfl (smG g ag cg) rfl ?_
          intro y2 hg2 hz2 hf2
          have hC := hC.fr hf2 (by simp)
          have hS := hS.fr hf2 (by simp)
          have hog := hog.fr hf2 (fun q hq => by have := (hog.block q hq).1; simp; omega)
          refine hK.out _ _ (hHeld.trans (hf2.mono (by simp))) (fun hHeld' => ?_)
          clear hK K hHeld
          have hHeld := hHeld'
          clear hHeld'
          (try simp only [Act.put, List.setIfInBounds_toArray, List.set_cons_zero, List.set_cons_succ])
          clear hf2 hz2 hg cC cS
          have cC := hC.cell 0 _ rfl
          have zC := hC.frozen 0
          refine wpAnyH_take (i := 9) (oi := ⟨some 21, _, _, _, _, _⟩) (v := .pointer (some ⟨b + 1, 0, none⟩)) rfl (by kernel_rfl) (by kernel_rfl) (by kernel_rfl) (fun _ _ _ h => h) (Or.inl ⟨by rfl, ?_⟩) hHeld ?_
          · intro w hSw; (try dsimp only at hSw); go_simp
          (try simp only [Act.put, List.setIfInBounds_toArray, List.set_cons_zero, List.set_cons_succ])
          refine wpAnyH_ready (rs := [10]) (by kernel_rfl) (by simp) ?_
          refine AllReadyH.cons (o := ⟨none, _, _, _, _, _⟩) rfl (fun K hK => ?_) AllReadyH.nil
          rw [if_pos (by rfl)]
          go_simp
          have fs : Fr [b + 1] y2 (y2.setCell ⟨b + 1, 0, none⟩ (.slice ac C1.length cc)) := (Fr.refl [b + 1] y2).setCell (.inl (by simp)) _
          have hC := hC.set 0 (.slice ac C1.length cc)
          simp only [List.set_cons_zero] at hC
          have hS := hS.fr fs (by simp)
          have hg2 := hg2.fr fs (by simp)
          have hog := hog.fr fs (fun q hq => by have := (hog.block q hq).1; simp; omega)
          clear cC zC
          generalize y2.setCell ⟨b + 1, 0, none⟩ (.slice ac C1.length cc) = y3 at *
          refine hK.out _ _ (hHeld.trans (fs.mono (by simp))) (fun hHeld' => ?_)
          clear hK K hHeld
          have hHeld := hHeld'
          clear hHeld'
          (try simp only [Act.put, List.setIfInBounds_toArray, List.set_cons_zero, List.set_cons_succ])
          clear fs
          have cS := hS.cell 1 _ rfl
          have zS := hS.frozen 1
          refine wpAnyH_take (i := 11) (oi := ⟨some 22, _, _, _, _, _⟩) (v := .pointer (some ⟨b + 2, 1, none⟩)) rfl (by kernel_rfl) (by kernel_rfl) (by kernel_rfl) (fun _ _ _ h => h) (Or.inl ⟨by rfl, ?_⟩) hHeld ?_
          · intro w hSw; (try dsimp only at hSw); go_simp
          (try simp only [Act.put, List.setIfInBounds_toArray, List.set_cons_zero, List.set_cons_succ])
          refine wpAnyH_ready (rs := [12]) (by kernel_rfl) (by simp) ?_
          refine AllReadyH.cons (o := ⟨none, _, _, _, _, _⟩) rfl (fun K hK => ?_) AllReadyH.nil
          rw [if_pos (by rfl)]
          go_simp
          have fs : Fr [b + 2] y3 (y3.setCell ⟨b + 2, 1, none⟩ (.slice ak K1.length ck)) := (Fr.refl [b + 2] y3).setCell (.inl (by simp)) _
          have hS := hS.set 1 (.slice ak K1.length ck)
          simp only [List.set_cons_zero, List.set_cons_succ] at hS
          have hC := hC.fr fs (by simp)
          have hg2 := hg2.fr fs (by simp)
          have hog := hog.fr fs (fun q hq => by have := (hog.block q hq).1; simp; omega)
          clear cS zS
          generalize y3.setCell ⟨b + 2, 1, none⟩ (.slice ak K1.length ck) = y4 at *
          refine hK.out _ _ (hHeld.trans (fs.mono (by simp))) (fun hHeld' => ?_)
          clear hK K hHeld
          have hHeld := hHeld'
          clear hHeld'
          (try simp only [Act.put, List.setIfInBounds_toArray, List.set_cons_zero, List.set_cons_succ])
          clear fs
          have HW := Lib.hid hHeld
          have HG := Lib.hid hg2
          have HCC := Lib.hid hC
          have HSS := Lib.hid hS
          have HOG := Lib.hid hog
          clear hHeld hg2 hC hS hog
          refine wpAnyH_done (by kernel_rfl) ?_ _
          go_wp2_with fail
          go_meet
          exact ⟨ag, cg, HG.out, HOG.out, HCC.out, HSS.out, HW.out⟩
      · skip
        rw [if_pos (by rfl)]
        go_simp
        refine hK.out _ _ (hHeld) (fun hHeld' => ?_)
        clear hK K hHeld
        have hHeld := hHeld'
        clear hHeld'
        (try simp only [Act.put, List.setIfInBounds_toArray, List.set_cons_zero, List.set_cons_succ])
        refine wpAnyH_ready (rs := [1, 3]) (by kernel_rfl) (by simp) ?_
        refine AllReadyH.cons (o := ⟨some 14, _, _, _, _, _⟩) rfl (fun K hK => ?_) (AllReadyH.cons (o := ⟨some 16, _, _, _, _, _⟩) rfl (fun K hK => ?_) AllReadyH.nil)
        · skip
          rw [if_pos (by rfl)]
          go_simp
          refine (HSM.out _ f0).mono ?_
          rintro e y1 ⟨ag, cg, rfl, hog, fsm⟩
          have hg := hg.fr fsm (by simp)
          have hC := hC.fr fsm (by simp)
          have hS := hS.fr fsm (by simp)
          have cC := fsm.cell_some cC (by simp)
          have cS := fsm.cell_some cS (by simp)
          have hog := hog.mono (show b + 3 ≤ y0.heap.size by rw [← HZ2.out]; exact hHeld.size)
          refine hK.out _ _ (hHeld.trans (fsm.mono (by simp))) (fun hHeld' => ?_)
          clear hK K hHeld
          have hHeld := hHeld'
          clear hHeld'
          (try simp only [Act.put, List.setIfInBounds_toArray, List.set_cons_zero, List.set_cons_succ])
          clear fsm f0
          refine wpAnyH_ready (rs := [3]) (by kernel_rfl) (by simp) ?_
          refine AllReadyH.cons (o := ⟨some 16, _, _, _, _, _⟩) rfl (fun K hK => ?_) AllReadyH.nil
          rw [if_pos (by rfl)]
          go_simp
          refine hK.out _ _ (hHeld) (fun hHeld' => ?_)
          clear hK K hHeld
          have hHeld := hHeld'
          clear hHeld'
          (try simp only [Act.put, List.setIfInBounds_toArray, List.set_cons_zero, List.set_cons_succ])
          refine wpAnyH_ready (rs := [4]) (by kernel_rfl) (by simp) ?_
          refine AllReadyH.cons (o := ⟨some 17, _, _, _, _, _⟩) rfl (fun K hK => ?_) AllReadyH.nil
          rw [if_pos (by rfl)]
          go_simp
          refine (HFC.out _).mono ?_
          rintro e w9 ⟨rfl, rfl⟩
          refine hK.out _ _ (hHeld) (fun hHeld' => ?_)
          clear hK K hHeld
          have hHeld := hHeld'
          clear hHeld'
          (try simp only [Act.put, List.setIfInBounds_toArray, List.set_cons_zero, List.set_cons_succ])
          refine wpAnyH_ready (rs := [7]) (by kernel_rfl) (by simp) ?_
          refine AllReadyH.cons (o := ⟨some 20, _, _, _, _, _⟩) rfl (fun K hK => ?_) AllReadyH.nil
          rw [if_pos (by rfl)]
          go_simp
          refine (HFK.out _).mono ?_
          rintro e w9 ⟨rfl, rfl⟩
          refine hK.out _ _ (hHeld) (fun hHeld' => ?_)
          clear hK K hHeld
          have hHeld := hHeld'
          clear hHeld'
          (try simp only [Act.put, List.setIfInBounds_toArray, List.set_cons_zero, List.set_cons_succ])
          refine wpAnyH_ready (rs := [8]) (by kernel_rfl) (by simp) ?_
          refine AllReadyH.cons (o := ⟨none, _, _, _, _, _⟩) rfl (fun K hK => ?_) AllReadyH.nil
          rw [if_pos (by rfl)]
          refine store_game_op (.tmp 3) (.tmp 14) rfl b rfl _ hg rfl (smG g ag cg) rfl ?_
          intro y2 hg2 hz2 hf2
          have hC := hC.fr hf2 (by simp)
          have hS := hS.fr hf2 (by simp)
          have hog := hog.fr hf2 (fun q hq => by have := (hog.block q hq).1; simp; omega)
          refine hK.out _ _ (hHeld.trans (hf2.mono (by simp))) (fun hHeld' => ?_)
          clear hK K hHeld
          have hHeld := hHeld'
          clear hHeld'
          (try simp only [Act.put, List.setIfInBounds_toArray, List.set_cons_zero, List.set_cons_succ])
          clear hf2 hz2 hg cC cS
          have cC := hC.cell 0 _ rfl
          have zC := hC.frozen 0
          refine wpAnyH_take (i := 9) (oi := ⟨some 21, _, _, _, _, _⟩) (v := .pointer (some ⟨b + 1, 0, none⟩)) rfl (by kernel_rfl) (by kernel_rfl) (by kernel_rfl) (fun _ _ _ h => h) (Or.inl ⟨by rfl, ?_⟩) hHeld ?_
          · intro w hSw; (try dsimp only at hSw); go_simp
          (try simp only [Act.put, List.setIfInBounds_toArray, List.set_cons_zero, List.set_cons_succ])
          refine wpAnyH_ready (rs := [10]) (by kernel_rfl) (by simp) ?_
          refine AllReadyH.cons (o := ⟨none, _, _, _, _, _⟩) rfl (fun K hK => ?_) AllReadyH.nil
          rw [if_pos (by rfl)]
          go_simp
          have fs : Fr [b + 1] y2 (y2.setCell ⟨b + 1, 0, none⟩ (.slice ac C1.length cc)) := (Fr.refl [b + 1] y2).setCell (.inl (by simp)) _
          have hC := hC.set 0 (.slice ac C1.length cc)
          simp only [List.set_cons_zero] at hC
          have hS := hS.fr fs (by simp)
          have hg2 := hg2.fr fs (by simp)
          have hog := hog.fr fs (fun q hq => by have := (hog.block q hq).1; simp; omega)
          clear cC zC
          generalize y2.setCell ⟨b + 1, 0, none⟩ (.slice ac C1.length cc) = y3 at *
          refine hK.out _ _ (hHeld.trans (fs.mono (by simp))) (fun hHeld' => ?_)
          clear hK K hHeld
          have hHeld := hHeld'
          clear hHeld'
          (try simp only [Act.put, List.setIfInBounds_toArray, List.set_cons_zero, List.set_cons_succ])
          clear fs
          have cS := hS.cell 1 _ rfl
          have zS := hS.frozen 1
          refine wpAnyH_take (i := 11) (oi := ⟨some 22, _, _, _, _, _⟩) (v := .pointer (some ⟨b + 2, 1, none⟩)) rfl (by kernel_rfl) (by kernel_rfl) (by kernel_rfl) (fun _ _ _ h => h) (Or.inl ⟨by rfl, ?_⟩) hHeld ?_
          · intro w hSw; (try dsimp only at hSw); go_simp
          (try simp only [Act.put, List.setIfInBounds_toArray, List.set_cons_zero, List.set_cons_succ])
          refine wpAnyH_ready (rs := [12]) (by kernel_rfl) (by simp) ?_
          refine AllReadyH.cons (o := ⟨none, _, _, _, _, _⟩) rfl (fun K hK => ?_) AllReadyH.nil
          rw [if_pos (by rfl)]
          go_simp
          have fs : Fr [b + 2] y3 (y3.setCell ⟨b + 2, 1, none⟩ (.slice ak K1.length ck)) := (Fr.refl [b + 2] y3).setCell (.inl (by simp)) _
          have hS := hS.set 1 (.slice ak K1.length ck)
          simp only [List.set_cons_zero, List.set_cons_succ] at hS
          have hC := hC.fr fs (by simp)
          have hg2 := hg2.fr fs (by simp)
          have hog := hog.fr fs (fun q hq => by have := (hog.block q hq).1; simp; omega)
          clear cS zS
          generalize y3.setCell ⟨b + 2, 1, none⟩ (.slice ak K1.length ck) = y4 at *
          refine hK.out _ _ (hHeld.trans (fs.mono (by simp))) (fun hHeld' => ?_)
          clear hK K hHeld
          have hHeld := hHeld'
          clear hHeld'
          (try simp only [Act.put, List.setIfInBounds_toArray, List.set_cons_zero, List.set_cons_succ])
          clear fs
          have HW := Lib.hid hHeld
          have HG := Lib.hid hg2
          have HCC := Lib.hid hC
          have HSS := Lib.hid hS
          have HOG := Lib.hid hog
          clear hHeld hg2 hC hS hog
          refine wpAnyH_done (by kernel_rfl) ?_ _
          go_wp2_with fail
          go_meet
          exact ⟨ag, cg, HG.out, HOG.out, HCC.out, HSS.out, HW.out⟩
        · skip
          rw [if_pos (by rfl)]
          go_simp
          refine hK.out _ _ (hHeld) (fun hHeld' => ?_)
          clear hK K hHeld
          have hHeld := hHeld'
          clear hHeld'
          (try simp only [Act.put, List.setIfInBounds_toArray, List.set_cons_zero, List.set_cons_succ])
          refine wpAnyH_ready (rs := [1]) (by kernel_rfl) (by simp) ?_
          refine AllReadyH.cons (o := ⟨some 14, _, _, _, _, _⟩) rfl (fun K hK => ?_) AllReadyH.nil
          rw [if_pos (by rfl)]
          go_simp
          refine (HSM.out _ f0).mono ?_
          rintro e y1 ⟨ag, cg, rfl, hog, fsm⟩
          have hg := hg.fr fsm (by simp)
          have hC := hC.fr fsm (by simp)
          have hS := hS.fr fsm (by simp)
          have cC := fsm.cell_some cC (by simp)
          have cS := fsm.cell_some cS (by simp)
          have hog := hog.mono (show b + 3 ≤ y0.heap.size by rw [← HZ2.out]; exact hHeld.size)
          refine hK.out _ _ (hHeld.trans (fsm.mono (by simp))) (fun hHeld' => ?_)
          clear hK K hHeld
          have hHeld := hHeld'
          clear hHeld'
          (try simp only [Act.put, List.setIfInBounds_toArray, List.set_cons_zero, List.set_cons_succ])
          clear fsm f0
          refine wpAnyH_ready (rs := [4]) (by kernel_rfl) (by simp) ?_
          refine AllReadyH.cons (o := ⟨some 17, _, _, _, _, _⟩) rfl (fun K hK => ?_) AllReadyH.nil
          rw [if_pos (by rfl)]
          go_simp
          refine (HFC.out _).mono ?_
          rintro e w9 ⟨rfl, rfl⟩
          refine hK.out _ _ (hHeld) (fun hHeld' => ?_)
          clear hK K hHeld
          have hHeld := hHeld'
          clear hHeld'
          (try simp only [Act.put, List.setIfInBounds_toArray, List.set_cons_zero, List.set_cons_succ])
          refine wpAnyH_ready (rs := [7]) (by kernel_rfl) (by simp) ?_
          refine AllReadyH.cons (o := ⟨some 20, _, _, _, _, _⟩) rfl (fun K hK => ?_) AllReadyH.nil
          rw [if_pos (by rfl)]
          go_simp
          refine (HFK.out _).mono ?_
          rintro e w9 ⟨rfl, rfl⟩
          refine hK.out _ _ (hHeld) (fun hHeld' => ?_)
          clear hK K hHeld
          have hHeld := hHeld'
          clear hHeld'
          (try simp only [Act.put, List.setIfInBounds_toArray, List.set_cons_zero, List.set_cons_succ])
          refine wpAnyH_ready (rs := [8]) (by kernel_rfl) (by simp) ?_
          refine AllReadyH.cons (o := ⟨none, _, _, _, _, _⟩) rfl (fun K hK => ?_) AllReadyH.nil
          rw [if_pos (by rfl)]
          refine store_game_op (.tmp 3) (.tmp 14) rfl b rfl _ hg rfl (smG g ag cg) rfl ?_
          intro y2 hg2 hz2 hf2
          have hC := hC.fr hf2 (by simp)
          have hS := hS.fr hf2 (by simp)
          have hog := hog.fr hf2 (fun q hq => by have := (hog.block q hq).1; simp; omega)
          refine hK.out _ _ (hHeld.trans (hf2.mono (by simp))) (fun hHeld' => ?_)
          clear hK K hHeld
          have hHeld := hHeld'
          clear hHeld'
          (try simp only [Act.put, List.setIfInBounds_toArray, List.set_cons_zero, List.set_cons_succ])
          clear hf2 hz2 hg cC cS
          have cC := hC.cell 0 _ rfl
          have zC := hC.frozen 0
          refine wpAnyH_take (i := 9) (oi := ⟨some 21, _, _, _, _, _⟩) (v := .pointer (some ⟨b + 1, 0, none⟩)) rfl (by kernel_rfl) (by kernel_rfl) (by kernel_rfl) (fun _ _ _ h => h) (Or.inl ⟨by rfl, ?_⟩) hHeld ?_
          · intro w hSw; (try dsimp only at hSw); go_simp
          (try simp only [Act.put, List.setIfInBounds_toArray, List.set_cons_zero, List.set_cons_succ])
          refine wpAnyH_ready (rs := [10]) (by kernel_rfl) (by simp) ?_
          refine AllReadyH.cons (o := ⟨none, _, _, _, _, _⟩) rfl (fun K hK => ?_) AllReadyH.nil
          rw [if_pos (by rfl)]
          go_simp
          have fs : Fr [b + 1] y2 (y2.setCell ⟨b + 1, 0, none⟩ (.slice ac C1.length cc)) := (Fr.refl [b + 1] y2).setCell (.inl (by simp)) _
          have hC := hC.set 0 (.slice ac C1.length cc)
          simp only [List.set_cons_zero] at hC
          have hS := hS.fr fs (by simp)
          have hg2 := hg2.fr fs (by simp)
          have hog := hog.fr fs (fun q hq => by have := (hog.block q hq).1; simp; omega)
          clear cC zC
          generalize y2.setCell ⟨b + 1, 0, none⟩ (.slice ac C1.length cc) = y3 at *
          refine hK.out _ _ (hHeld.trans (fs.mono (by simp))) (fun hHeld' => ?_)
          clear hK K hHeld
          have hHeld := hHeld'
          clear hHeld'
          (try simp only [Act.put, List.setIfInBounds_toArray, List.set_cons_zero, List.set_cons_succ])
          clear fs
          have cS := hS.cell 1 _ rfl
          have zS := hS.frozen 1
          refine wpAnyH_take (i := 11) (oi := ⟨some 22, _, _, _, _, _⟩) (v := .pointer (some ⟨b + 2, 1, none⟩)) rfl (by kernel_rfl) (by kernel_rfl) (by kernel_rfl) (fun _ _ _ h => h) (Or.inl ⟨by rfl, ?_⟩) hHeld ?_
          · intro w hSw; (try dsimp only at hSw); go_simp
          (try simp only [Act.put, List.setIfInBounds_toArray, List.set_cons_zero, List.set_cons_succ])
          refine wpAnyH_ready (rs := [12]) (by kernel_rfl) (by simp) ?_
          refine AllReadyH.cons (o := ⟨none, _, _, _, _, _⟩) rfl (fun K hK => ?_) AllReadyH.nil
          rw [if_pos (by rfl)]
          go_simp
          have fs : Fr [b + 2] y3 (y3.setCell ⟨b + 2, 1, none⟩ (.slice ak K1.length ck)) := (Fr.refl [b + 2] y3).setCell (.inl (by simp)) _
          have hS := hS.set 1 (.slice ak K1.length ck)
          simp only [List.set_cons_zero, List.set_cons_succ] at hS
          have hC := hC.fr fs (by simp)
          have hg2 := hg2.fr fs (by simp)
          have hog := hog.fr fs (fun q hq => by have := (hog.block q hq).1; simp; omega)
          clear cS zS
          generalize y3.setCell ⟨b + 2, 1, none⟩ (.slice ak K1.length ck) = y4 at *
          refine hK.out _ _ (hHeld.trans (fs.mono (by simp))) (fun hHeld' => ?_)
          clear hK K hHeld
          have hHeld := hHeld'
          clear hHeld'
          (try simp only [Act.put, List.setIfInBounds_toArray, List.set_cons_zero, List.set_cons_succ])
          clear fs
          have HW := Lib.hid hHeld
          have HG := Lib.hid hg2
          have HCC := Lib.hid hC
          have HSS := Lib.hid hS
          have HOG := Lib.hid hog
          clear hHeld hg2 hC hS hog
          refine wpAnyH_done (by kernel_rfl) ?_ _
          go_wp2_with fail
          go_meet
          exact ⟨ag, cg, HG.out, HOG.out, HCC.out, HSS.out, HW.out⟩
    · skip
      rw [if_pos (by rfl)]
      go_simp
      refine hK.out _ _ (hHeld) (fun hHeld' => ?_)
      clear hK K hHeld
      have hHeld := hHeld'
      clear hHeld'
      (try simp only [Act.put, List.setIfInBounds_toArray, List.set_cons_zero, List.set_cons_succ])
      refine wpAnyH_ready (rs := [0, 6]) (by kernel_rfl) (by simp) ?_
      refine AllReadyH.cons (o := ⟨some 13, _, _, _, _, _⟩) rfl (fun K hK => ?_) (AllReadyH.cons (o := ⟨some 19, _, _, _, _, _⟩) rfl (fun K hK => ?_) AllReadyH.nil)
      · skip
        rw [if_pos (by rfl)]
        refine wp_load_row 25 (.tmp 3) rfl b rfl 25 g.cells.toArray (0, 0) _ hg Try.underlying25 rfl infoGame ?_
        rw [← Gm.val_eq]
        refine hK.out _ _ (hHeld) (fun hHeld' => ?_)
        clear hK K hHeld
        have hHeld := hHeld'
        clear hHeld'
        (try simp only [Act.put, List.setIfInBounds_toArray, List.set_cons_zero, List.set_cons_succ])
        refine wpAnyH_ready (rs := [1, 6]) (by kernel_rfl) (by simp) ?_
        refine AllReadyH.cons (o := ⟨some 14, _, _, _, _, _⟩) rfl (fun K hK => ?_) (AllReadyH.cons (o := ⟨some 19, _, _, _, _, _⟩) rfl (fun K hK => ?_) AllReadyH.nil)
        · skip
          rw [if_pos (by rfl)]
          go_simp
          refine (HSM.out _ f0).mono ?_
          rintro e y1 ⟨ag, cg, rfl, hog, fsm⟩
          have hg := hg.fr fsm (by simp)
          have hC := hC.fr fsm (by simp)
          have hS := hS.fr fsm (by simp)
          have cC := fsm.cell_some cC (by simp)
          have cS := fsm.cell_some cS (by simp)
          have hog := hog.mono (show b + 3 ≤ y0.heap.size by rw [← HZ2.out]; exact hHeld.size)
          refine hK.out _ _ (hHeld.trans (fsm.mono (by simp))) (fun hHeld' => ?_)
          clear hK K hHeld
          have hHeld := hHeld'
          clear hHeld'
          (try simp only [Act.put, List.setIfInBounds_toArray, List.set_cons_zero, List.set_cons_succ])
          clear fsm f0
          refine wpAnyH_ready (rs := [4, 6]) (by kernel_rfl) (by simp) ?_
          refine AllReadyH.cons (o := ⟨some 17, _, _, _, _, _⟩) rfl (fun K hK => ?_) (AllReadyH.cons (o := ⟨some 19, _, _, _, _, _⟩) rfl (fun K hK => ?_) AllReadyH.nil)
          · skip
            rw [if_pos (by rfl)]
            go_simp
            refine (HFC.out _).mono ?_
            rintro e w9 ⟨rfl, rfl⟩
            refine hK.out _ _ (hHeld) (fun hHeld' => ?_)
            clear hK K hHeld
            have hHeld := hHeld'
            clear hHeld'
            (try simp only [Act.put, List.setIfInBounds_toArray, List.set_cons_zero, List.set_cons_succ])
            refine wpAnyH_ready (rs := [6]) (by kernel_rfl) (by simp) ?_
            refine AllReadyH.cons (o := ⟨some 19, _, _, _, _, _⟩) rfl (fun K hK => ?_) AllReadyH.nil
            rw [if_pos (by rfl)]
            go_simp
            refine hK.out _ _ (hHeld) (fun hHeld' => ?_)
            clear hK K hHeld
            have hHeld := hHeld'
            clear hHeld'
            (try simp only [Act.put, List.setIfInBounds_toArray, List.set_cons_zero, List.set_cons_succ])
            refine wpAnyH_ready (rs := [7]) (by kernel_rfl) (by simp) ?_
            refine AllReadyH.cons (o := ⟨some 20, _, _, _, _, _⟩) rfl (fun K hK => ?_) AllReadyH.nil
            rw [if_pos (by rfl)]
            go_simp
            refine (HFK.out _).mono ?_
            rintro e w9 ⟨rfl, rfl⟩
            refine hK.out _ _ (hHeld) (fun hHeld' => ?_)
            clear hK K hHeld
            have hHeld := hHeld'
            clear hHeld'
            (try simp only [Act.put, List.setIfInBounds_toArray, List.set_cons_zero, List.set_cons_succ])
            refine wpAnyH_ready (rs := [8]) (by kernel_rfl) (by simp) ?_
            refine AllReadyH.cons (o := ⟨none, _, _, _, _, _⟩) rfl (fun K hK => ?_) AllReadyH.nil
            rw [if_pos (by rfl)]
            refine store_game_op (.tmp 3) (.tmp 14) rfl b rfl _ hg rfl (smG g ag cg) rfl ?_
            intro y2 hg2 hz2 hf2
            have hC := hC.fr hf2 (by simp)
            have hS := hS.fr hf2 (by simp)
            have hog := hog.fr hf2 (fun q hq => by have := (hog.block q hq).1; simp; omega)
            refine hK.out _ _ (hHeld.trans (hf2.mono (by simp))) (fun hHeld' => ?_)
            clear hK K hHeld
            have hHeld := hHeld'
            clear hHeld'
            (try simp only [Act.put, List.setIfInBounds_toArray, List.set_cons_zero, List.set_cons_succ])
            clear hf2 hz2 hg cC cS
            have cC := hC.cell 0 _ rfl
            have zC := hC.frozen 0
            refine wpAnyH_take (i := 9) (oi := ⟨some 21, _, _, _, _, _⟩) (v := .pointer (some ⟨b + 1, 0, none⟩)) rfl (by kernel_rfl) (by kernel_rfl) (by kernel_rfl) (fun _ _ _ h => h) (Or.inl ⟨by rfl, ?_⟩) hHeld ?_
            · intro w hSw; (try dsimp only at hSw); go_simp
            (try simp only [Act.put, List.setIfInBounds_toArray, List.set_cons_zero, List.set_cons_succ])
            refine wpAnyH_ready (rs := [10]) (by kernel_rfl) (by simp) ?_
            refine AllReadyH.cons (o := ⟨none, _, _, _, _, _⟩) rfl (fun K hK => ?_) AllReadyH.nil
            rw [if_pos (by rfl)]
            go_simp
            have fs : Fr [b + 1] y2 (y2.setCell ⟨b + 1, 0, none⟩ (.slice ac C1.length cc)) := (Fr.refl [b + 1] y2).setCell (.inl (by simp)) _
            have hC := hC.set 0 (.slice ac C1.length cc)
            simp only [List.set_cons_zero] at hC
            have hS := hS.fr fs (by simp)
            have hg2 := hg2.fr fs (by simp)
            have hog := hog.fr fs (fun q hq => by have := (hog.block q hq).1; simp; omega)
            clear cC zC
            generalize y2.setCell ⟨b + 1, 0, none⟩ (.slice ac C1.length cc) = y3 at *
            refine hK.out _ _ (hHeld.trans (fs.mono (by simp))) (fun hHeld' => ?_)
            clear hK K hHeld
            have hHeld := hHeld'
            clear hHeld'
            (try simp only [Act.put, List.setIfInBounds_toArray, List.set_cons_zero, List.set_cons_succ])
            clear fs
            have cS := hS.cell 1 _ rfl
            have zS := hS.frozen 1
            refine wpAnyH_take (i := 11) (oi := ⟨some 22, _, _, _, _, _⟩) (v := .pointer (some ⟨b + 2, 1, none⟩)) rfl (by kernel_rfl) (by kernel_rfl) (by kernel_rfl) (fun _ _ _ h => h) (Or.inl ⟨by rfl, ?_⟩) hHeld ?_
            · intro w hSw; (try dsimp only at hSw); go_simp
            (try simp only [Act.put, List.setIfInBounds_toArray, List.set_cons_zero, List.set_cons_succ])
            refine wpAnyH_ready (rs := [12]) (by kernel_rfl) (by simp) ?_
            refine AllReadyH.cons (o := ⟨none, _, _, _, _, _⟩) rfl (fun K hK => ?_) AllReadyH.nil
            rw [if_pos (by rfl)]
            go_simp
            have fs : Fr [b + 2] y3 (y3.setCell ⟨b + 2, 1, none⟩ (.slice ak K1.length ck)) := (Fr.refl [b + 2] y3).setCell (.inl (by simp)) _
            have hS := hS.set 1 (.slice ak K1.length ck)
            simp only [List.set_cons_zero, List.set_cons_succ] at hS
            have hC := hC.fr fs (by simp)
            have hg2 := hg2.fr fs (by simp)
            have hog := hog.fr fs (fun q hq => by have := (hog.block q hq).1; simp; omega)
            clear cS zS
            generalize y3.setCell ⟨b + 2, 1, none⟩ (.slice ak K1.length ck) = y4 at *
            refine hK.out _ _ (hHeld.trans (fs.mono (by simp))) (fun hHeld' => ?_)
            clear hK K hHeld
            have hHeld := hHeld'
            clear hHeld'
            (try simp only [Act.put, List.setIfInBounds_toArray, List.set_cons_zero, List.set_cons_succ])
            clear fs
            have HW := Lib.hid hHeld
            have HG := Lib.hid hg2
            have HCC := Lib.hid hC
            have HSS := Lib.hid hS
            have HOG := Lib.hid hog
            clear hHeld hg2 hC hS hog
            refine wpAnyH_done (by kernel_rfl) ?_ _
            go_wp2_with fail
            go_meet
            exact ⟨ag, cg, HG.out, HOG.out, HCC.out, HSS.out, HW.out⟩
          · skip
            rw [if_pos (by rfl)]
            go_simp
            refine hK.out _ _ (hHeld) (fun hHeld' => ?_)
            clear hK K hHeld
            have hHeld := hHeld'
            clear hHeld'
            (try simp only [Act.put, List.setIfInBounds_toArray, List.set_cons_zero, List.set_cons_succ])
            refine wpAnyH_ready (rs := [4]) (by kernel_rfl) (by simp) ?_
            refine AllReadyH.cons (o := ⟨some 17, _, _, _, _, _⟩) rfl (fun K hK => ?_) AllReadyH.nil
            rw [if_pos (by rfl)]
            go_simp
            refine (HFC.out _).mono ?_
            rintro e w9 ⟨rfl, rfl⟩
            refine hK.out _ _ (hHeld) (fun hHeld' => ?_)
            clear hK K hHeld
            have hHeld := hHeld'
            clear hHeld'
            (try simp only [Act.put, List.setIfInBounds_toArray, List.set_cons_zero, List.set_cons_succ])
            refine wpAnyH_ready (rs := [7]) (by kernel_rfl) (by simp) ?_
            refine AllReadyH.cons (o := ⟨some 20, _, _, _, _, _⟩) rfl (fun K hK => ?_) AllReadyH.nil
            rw [if_pos (by rfl)]
            go_simp
            refine (HFK.out _).mono ?_
            rintro e w9 ⟨rfl, rfl⟩
            refine hK.out _ _ (hHeld) (fun hHeld' => ?_)
            clear hK K hHeld
            have hHeld := hHeld'
            clear hHeld'
            (try simp only [Act.put, List.setIfInBounds_toArray, List.set_cons_zero, List.set_cons_succ])
            refine wpAnyH_ready (rs := [8]) (by kernel_rfl) (by simp) ?_
            refine AllReadyH.cons (o := ⟨none, _, _, _, _, _⟩) rfl (fun K hK => ?_) AllReadyH.nil
            rw [if_pos (by rfl)]
            refine store_game_op (.tmp 3) (.tmp 14) rfl b rfl _ hg rfl (smG g ag cg) rfl ?_
            intro y2 hg2 hz2 hf2
            have hC := hC.fr hf2 (by simp)
            have hS := hS.fr hf2 (by simp)
            have hog := hog.fr hf2 (fun q hq => by have := (hog.block q hq).1; simp; omega)
            refine hK.out _ _ (hHeld.trans (hf2.mono (by simp))) (fun hHeld' => ?_)
            clear hK K hHeld
            have hHeld := hHeld'
            clear hHeld'
            (try simp only [Act.put, List.setIfInBounds_toArray, List.set_cons_zero, List.set_cons_succ])
            clear hf2 hz2 hg cC cS
            have cC := hC.cell 0 _ rfl
            have zC := hC.frozen 0
            refine wpAnyH_take (i := 9) (oi := ⟨some 21, _, _, _, _, _⟩) (v := .pointer (some ⟨b + 1, 0, none⟩)) rfl (by kernel_rfl) (by kernel_rfl) (by kernel_rfl) (fun _ _ _ h => h) (Or.inl ⟨by rfl, ?_⟩) hHeld ?_
            · intro w hSw; (try dsimp only at hSw); go_simp
            (try simp only [Act.put, List.setIfInBounds_toArray, List.set_cons_zero, List.set_cons_succ])
            refine wpAnyH_ready (rs := [10]) (by kernel_rfl) (by simp) ?_
            refine AllReadyH.cons (o := ⟨none, _, _, _, _, _⟩) rfl (fun K hK => ?_) AllReadyH.nil
            rw [if_pos (by rfl)]
            go_simp
            have fs : Fr [b + 1] y2 (y2.setCell ⟨b + 1, 0, none⟩ (.slice ac C1.length cc)) := (Fr.refl [b + 1] y2).setCell (.inl (by simp)) _
            have hC := hC.set 0 (.slice ac C1.length cc)
            simp only [List.set_cons_zero] at hC
            have hS := hS.fr fs (by simp)
            have hg2 := hg2.fr fs (by simp)
            have hog := hog.fr fs (fun q hq => by have := (hog.block q hq).1; simp; omega)
            clear cC zC
            generalize y2.setCell ⟨b + 1, 0, none⟩ (.slice ac C1.length cc) = y3 at *
            refine hK.out _ _ (hHeld.trans (fs.mono (by simp))) (fun hHeld' => ?_)
            clear hK K hHeld
            have hHeld := hHeld'
            clear hHeld'
            (try simp only [Act.put, List.setIfInBounds_toArray, List.set_cons_zero, List.set_cons_succ])
            clear fs
            have cS := hS.cell 1 _ rfl
            have zS := hS.frozen 1
            refine wpAnyH_take (i := 11) (oi := ⟨some 22, _, _, _, _, _⟩) (v := .pointer (some ⟨b + 2, 1, none⟩)) rfl (by kernel_rfl) (by kernel_rfl) (by kernel_rfl) (fun _ _ _ h => h) (Or.inl ⟨by rfl, ?_⟩) hHeld ?_
            · intro w hSw; (try dsimp only at hSw); go_simp
            (try simp only [Act.put, List.setIfInBounds_toArray, List.set_cons_zero, List.set_cons_succ])
            refine wpAnyH_ready (rs := [12]) (by kernel_rfl) (by simp) ?_
            refine AllReadyH.cons (o := ⟨none, _, _, _, _, _⟩) rfl (fun K hK => ?_) AllReadyH.nil
            rw [if_pos (by rfl)]
            go_simp
            have fs : Fr [b + 2] y3 (y3.setCell ⟨b + 2, 1, none⟩ (.slice ak K1.length ck)) := (Fr.refl [b + 2] y3).setCell (.inl (by simp)) _
            have hS := hS.set 1 (.slice ak K1.length ck)
            simp only [List.set_cons_zero, List.set_cons_succ] at hS
            have hC := hC.fr fs (by simp)
            have hg2 := hg2.fr fs (by simp)
            have hog := hog.fr fs (fun q hq => by have := (hog.block q hq).1; simp; omega)
            clear cS zS
            generalize y3.setCell ⟨b + 2, 1, none⟩ (.slice ak K1.length ck) = y4 at *
            refine hK.out _ _ (hHeld.trans (fs.mono (by simp))) (fun hHeld' => ?_)
            clear hK K hHeld
            have hHeld := hHeld'
            clear hHeld'
            (try simp only [Act.put, List.setIfInBounds_toArray, List.set_cons_zero, List.set_cons_succ])
            clear fs
            have HW := Lib.hid hHeld
            have HG := Lib.hid hg2
            have HCC := Lib.hid hC
            have HSS := Lib.hid hS
            have HOG := Lib.hid hog
            clear hHeld hg2 hC hS hog
            refine wpAnyH_done (by kernel_rfl) ?_ _
            go_wp2_with fail
            go_meet
            exact ⟨ag, cg, HG.out, HOG.out, HCC.out, HSS.out, HW.out⟩
        · skip
          rw [if_pos (by rfl)]
          go_simp
          refine hK.out _ _ (hHeld) (fun hHeld' => ?_)
          clear hK K hHeld
          have hHeld := hHeld'
          clear hHeld'
          (try simp only [Act.put, List.setIfInBounds_toArray, List.set_cons_zero, List.set_cons_succ])
          refine wpAnyH_ready (rs := [1]) (by kernel_rfl) (by simp) ?_
          refine AllReadyH.cons (o := ⟨some 14, _, _, _, _, _⟩) rfl (fun K hK => ?_) AllReadyH.nil
          rw [if_pos (by rfl)]
          go_simp
          refine (HSM.out _ f0).mono ?_
          rintro e y1 ⟨ag, cg, rfl, hog, fsm⟩
          have hg := hg.fr fsm (by simp)
          have hC := hC.fr fsm (by simp)
          have hS := hS.fr fsm (by simp)
          have cC := fsm.cell_some cC (by simp)
          have cS := fsm.cell_some cS (by simp)
          have hog := hog.mono (show b + 3 ≤ y0.heap.size by rw [← HZ2.out]; exact hHeld.size)
          refine hK.out _ _ (hHeld.trans (fsm.mono (by simp))) (fun hHeld' => ?_)
          clear hK K hHeld
          have hHeld := hHeld'
          clear hHeld'
          (try simp only [Act.put, List.setIfInBounds_toArray, List.set_cons_zero, List.set_cons_succ])
          clear fsm f0
          refine wpAnyH_ready (rs := [4]) (by kernel_rfl) (by simp) ?_
          refine AllReadyH.cons (o := ⟨some 17, _, _, _, _, _⟩) rfl (fun K hK => ?_) AllReadyH.nil
          rw [if_pos (by rfl)]
          go_simp
          refine (HFC.out _).mono ?_
          rintro e w9 ⟨rfl, rfl⟩
          refine hK.out _ _ (hHeld) (fun hHeld' => ?_)
          clear hK K hHeld
          have hHeld := hHeld'
          clear hHeld'
          (try simp only [Act.put, List.setIfInBounds_toArray, List.set_cons_zero, List.set_cons_succ])
          refine wpAnyH_ready (rs := [7]) (by kernel_rfl) (by simp) ?_
          refine AllReadyH.cons (o := ⟨some 20, _, _, _, _, _⟩) rfl (fun K hK => ?_) AllReadyH.nil
          rw [if_pos (by rfl)]
          go_simp
          refine (HFK.out _).mono ?_
          rintro e w9 ⟨rfl, rfl⟩
          refine hK.out _ _ (hHeld) (fun hHeld' => ?_)
          clear hK K hHeld
          have hHeld := hHeld'
          clear hHeld'
          (try simp only [Act.put, List.setIfInBounds_toArray, List.set_cons_zero, List.set_cons_succ])
          refine wpAnyH_ready (rs := [8]) (by kernel_rfl) (by simp) ?_
          refine AllReadyH.cons (o := ⟨none, _, _, _, _, _⟩) rfl (fun K hK => ?_) AllReadyH.nil
          rw [if_pos (by rfl)]
          refine store_game_op (.tmp 3) (.tmp 14) rfl b rfl _ hg rfl (smG g ag cg) rfl ?_
          intro y2 hg2 hz2 hf2
          have hC := hC.fr hf2 (by simp)
          have hS := hS.fr hf2 (by simp)
          have hog := hog.fr hf2 (fun q hq => by have := (hog.block q hq).1; simp; omega)
          refine hK.out _ _ (hHeld.trans (hf2.mono (by simp))) (fun hHeld' => ?_)
          clear hK K hHeld
          have hHeld := hHeld'
          clear hHeld'
          (try simp only [Act.put, List.setIfInBounds_toArray, List.set_cons_zero, List.set_cons_succ])
          clear hf2 hz2 hg cC cS
          have cC := hC.cell 0 _ rfl
          have zC := hC.frozen 0
          refine wpAnyH_take (i := 9) (oi := ⟨some 21, _, _, _, _, _⟩) (v := .pointer (some ⟨b + 1, 0, none⟩)) rfl (by kernel_rfl) (by kernel_rfl) (by kernel_rfl) (fun _ _ _ h => h) (Or.inl ⟨by rfl, ?_⟩) hHeld ?_
          · intro w hSw; (try dsimp only at hSw); go_simp
          (try simp only [Act.put, List.setIfInBounds_toArray, List.set_cons_zero, List.set_cons_succ])
          refine wpAnyH_ready (rs := [10]) (by kernel_rfl) (by simp) ?_
          refine AllReadyH.cons (o := ⟨none, _, _, _, _, _⟩) rfl (fun K hK => ?_) AllReadyH.nil
          rw [if_pos (by rfl)]
          go_simp
          have fs : Fr [b + 1] y2 (y2.setCell ⟨b + 1, 0, none⟩ (.slice ac C1.length cc)) := (Fr.refl [b + 1] y2).setCell (.inl (by simp)) _
          have hC := hC.set 0 (.slice ac C1.length cc)
          simp only [List.set_cons_zero] at hC
          have hS := hS.fr fs (by simp)
          have hg2 := hg2.fr fs (by simp)
          have hog := hog.fr fs (fun q hq => by have := (hog.block q hq).1; simp; omega)
          clear cC zC
          generalize y2.setCell ⟨b + 1, 0, none⟩ (.slice ac C1.length cc) = y3 at *
          refine hK.out _ _ (hHeld.trans (fs.mono (by simp))) (fun hHeld' => ?_)
          clear hK K hHeld
          have hHeld := hHeld'
          clear hHeld'
          (try simp only [Act.put, List.setIfInBounds_toArray, List.set_cons_zero, List.set_cons_succ])
          clear fs
          have cS := hS.cell 1 _ rfl
          have zS := hS.frozen 1
          refine wpAnyH_take (i := 11) (oi := ⟨some 22, _, _, _, _, _⟩) (v := .pointer (some ⟨b + 2, 1, none⟩)) rfl (by kernel_rfl) (by kernel_rfl) (by kernel_rfl) (fun _ _ _ h => h) (Or.inl ⟨by rfl, ?_⟩) hHeld ?_
          · intro w hSw; (try dsimp only at hSw); go_simp
          (try simp only [Act.put, List.setIfInBounds_toArray, List.set_cons_zero, List.set_cons_succ])
          refine wpAnyH_ready (rs := [12]) (by kernel_rfl) (by simp) ?_
          refine AllReadyH.cons (o := ⟨none, _, _, _, _, _⟩) rfl (fun K hK => ?_) AllReadyH.nil
          rw [if_pos (by rfl)]
          go_simp
          have fs : Fr [b + 2] y3 (y3.setCell ⟨b + 2, 1, none⟩ (.slice ak K1.length ck)) := (Fr.refl [b + 2] y3).setCell (.inl (by simp)) _
          have hS := hS.set 1 (.slice ak K1.length ck)
          simp only [List.set_cons_zero, List.set_cons_succ] at hS
          have hC := hC.fr fs (by simp)
          have hg2 := hg2.fr fs (by simp)
          have hog := hog.fr fs (fun q hq => by have := (hog.block q hq).1; simp; omega)
          clear cS zS
          generalize y3.setCell ⟨b + 2, 1, none⟩ (.slice ak K1.length ck) = y4 at *
          refine hK.out _ _ (hHeld.trans (fs.mono (by simp))) (fun hHeld' => ?_)
          clear hK K hHeld
          have hHeld := hHeld'
          clear hHeld'
          (try simp only [Act.put, List.setIfInBounds_toArray, List.set_cons_zero, List.set_cons_succ])
          clear fs
          have HW := Lib.hid hHeld
          have HG := Lib.hid hg2
          have HCC := Lib.hid hC
          have HSS := Lib.hid hS
          have HOG := Lib.hid hog
          clear hHeld hg2 hC hS hog
          refine wpAnyH_done (by kernel_rfl) ?_ _
          go_wp2_with fail
          go_meet
          exact ⟨ag, cg, HG.out, HOG.out, HCC.out, HSS.out, HW.out⟩
      · skip
        rw [if_pos (by rfl)]
        go_simp
        refine hK.out _ _ (hHeld) (fun hHeld' => ?_)
        clear hK K hHeld
        have hHeld := hHeld'
        clear hHeld'
        (try simp only [Act.put, List.setIfInBounds_toArray, List.set_cons_zero, List.set_cons_succ])
        refine wpAnyH_ready (rs := [0]) (by kernel_rfl) (by simp) ?_
        refine AllReadyH.cons (o := ⟨some 13, _, _, _, _, _⟩) rfl (fun K hK => ?_) AllReadyH.nil
        rw [if_pos (by rfl)]
        refine wp_load_row 25 (.tmp 3) rfl b rfl 25 g.cells.toArray (0, 0) _ hg Try.underlying25 rfl infoGame ?_
        rw [← Gm.val_eq]
        refine hK.out _ _ (hHeld) (fun hHeld' => ?_)
        clear hK K hHeld
        have hHeld := hHeld'
        clear hHeld'
        (try simp only [Act.put, List.setIfInBounds_toArray, List.set_cons_zero, List.set_cons_succ])
        refine wpAnyH_ready (rs := [1]) (by kernel_rfl) (by simp) ?_
        refine AllReadyH.cons (o := ⟨some 14, _, _, _, _, _⟩) rfl (fun K hK => ?_) AllReadyH.nil
        rw [if_pos (by rfl)]
        go_simp
        refine (HSM.out _ f0).mono ?_
        rintro e y1 ⟨ag, cg, rfl, hog, fsm⟩
        have hg := hg.fr fsm (by simp)
        have hC := hC.fr fsm (by simp)
        have hS := hS.fr fsm (by simp)
        have cC := fsm.cell_some cC (by simp)
        have cS := fsm.cell_some cS (by simp)
        have hog := hog.mono (show b + 3 ≤ y0.heap.size by rw [← HZ2.out]; exact hHeld.size)
        refine hK.out _ _ (hHeld.trans (fsm.mono (by simp))) (fun hHeld' => ?_)
        clear hK K hHeld
        have hHeld := hHeld'
        clear hHeld'
        (try simp only [Act.put, List.setIfInBounds_toArray, List.set_cons_zero, List.set_cons_succ])
        clear fsm f0
        refine wpAnyH_ready (rs := [4]) (by kernel_rfl) (by simp) ?_
        refine AllReadyH.cons (o := ⟨some 17, _, _, _, _, _⟩) rfl (fun K hK => ?_) AllReadyH.nil
        rw [if_pos (by rfl)]
        go_simp
        refine (HFC.out _).mono ?_
        rintro e w9 ⟨rfl, rfl⟩
        refine hK.out _ _ (hHeld) (fun hHeld' => ?_)
        clear hK K hHeld
        have hHeld := hHeld'
        clear hHeld'
        (try simp only [Act.put, List.setIfInBounds_toArray, List.set_cons_zero, List.set_cons_succ])
        refine wpAnyH_ready (rs := [7]) (by kernel_rfl) (by simp) ?_
        refine AllReadyH.cons (o := ⟨some 20, _, _, _, _, _⟩) rfl (fun K hK => ?_) AllReadyH.nil
        rw [if_pos (by rfl)]
        go_simp
        refine (HFK.out _).mono ?_
        rintro e w9 ⟨rfl, rfl⟩
        refine hK.out _ _ (hHeld) (fun hHeld' => ?_)
        clear hK K hHeld
        have hHeld := hHeld'
        clear hHeld'
        (try simp only [Act.put, List.setIfInBounds_toArray, List.set_cons_zero, List.set_cons_succ])
        refine wpAnyH_ready (rs := [8]) (by kernel_rfl) (by simp) ?_
        refine AllReadyH.cons (o := ⟨none, _, _, _, _, _⟩) rfl (fun K hK => ?_) AllReadyH.nil
        rw [if_pos (by rfl)]
        refine store_game_op (.tmp 3) (.tmp 14) rfl b rfl _ hg rfl (smG g ag cg) rfl ?_
        intro y2 hg2 hz2 hf2
        have hC := hC.fr hf2 (by simp)
        have hS := hS.fr hf2 (by simp)
        have hog := hog.fr hf2 (fun q hq => by have := (hog.block q hq).1; simp; omega)
        refine hK.out _ _ (hHeld.trans (hf2.mono (by simp))) (fun hHeld' => ?_)
        clear hK K hHeld
        have hHeld := hHeld'
        clear hHeld'
        (try simp only [Act.put, List.setIfInBounds_toArray, List.set_cons_zero, List.set_cons_succ])
        clear hf2 hz2 hg cC cS
        have cC := hC.cell 0 _ rfl
        have zC := hC.frozen 0
        refine wpAnyH_take (i := 9) (oi := ⟨some 21, _, _, _, _, _⟩) (v := .pointer (some ⟨b + 1, 0, none⟩)) rfl (by kernel_rfl) (by kernel_rfl) (by kernel_rfl) (fun _ _ _ h => h) (Or.inl ⟨by rfl, ?_⟩) hHeld ?_
        · intro w hSw; (try dsimp only at hSw); go_simp
        (try simp only [Act.put, List.setIfInBounds_toArray, List.set_cons_zero, List.set_cons_succ])
        refine wpAnyH_ready (rs := [10]) (by kernel_rfl) (by simp) ?_
        refine AllReadyH.cons (o := ⟨none, _, _, _, _, _⟩) rfl (fun K hK => ?_) AllReadyH.nil
        rw [if_pos (by rfl)]
        go_simp
        have fs : Fr [b + 1] y2 (y2.setCell ⟨b + 1, 0, none⟩ (.slice ac C1.length cc)) := (Fr.refl [b + 1] y2).setCell (.inl (by simp)) _
        have hC := hC.set 0 (.slice ac C1.length cc)
        simp only [List.set_cons_zero] at hC
        have hS := hS.fr fs (by simp)
        have hg2 := hg2.fr fs (by simp)
        have hog := hog.fr fs (fun q hq => by have := (hog.block q hq).1; simp; omega)
        clear cC zC
        generalize y2.setCell ⟨b + 1, 0, none⟩ (.slice ac C1.length cc) = y3 at *
        refine hK.out _ _ (hHeld.trans (fs.mono (by simp))) (fun hHeld' => ?_)
        clear hK K hHeld
        have hHeld := hHeld'
        clear hHeld'
        (try simp only [Act.put, List.setIfInBounds_toArray, List.set_cons_zero, List.set_cons_succ])
        clear fs
        have cS := hS.cell 1 _ rfl
        have zS := hS.frozen 1
        refine wpAnyH_take (i := 11) (oi := ⟨some 22, _, _, _, _, _⟩) (v := .pointer (some ⟨b + 2, 1, none⟩)) rfl (by kernel_rfl) (by kernel_rfl) (by kernel_rfl) (fun _ _ _ h => h) (Or.inl ⟨by rfl, ?_⟩) hHeld ?_
        · intro w hSw; (try dsimp only at hSw); go_simp
        (try simp only [Act.put, List.setIfInBounds_toArray, List.set_cons_zero, List.set_cons_succ])
        refine wpAnyH_ready (rs := [12]) (by kernel_rfl) (by simp) ?_
        refine AllReadyH.cons (o := ⟨none, _, _, _, _, _⟩) rfl (fun K hK => ?_) AllReadyH.nil
        rw [if_pos (by rfl)]
        go_simp
        have fs : Fr [b + 2] y3 (y3.setCell ⟨b + 2, 1, none⟩ (.slice ak K1.length ck)) := (Fr.refl [b + 2] y3).setCell (.inl (by simp)) _
        have hS := hS.set 1 (.slice ak K1.length ck)
        simp only [List.set_cons_zero, List.set_cons_succ] at hS
        have hC := hC.fr fs (by simp)
        have hg2 := hg2.fr fs (by simp)
        have hog := hog.fr fs (fun q hq => by have := (hog.block q hq).1; simp; omega)
        clear cS zS
        generalize y3.setCell ⟨b + 2, 1, none⟩ (.slice ak K1.length ck) = y4 at *
        refine hK.out _ _ (hHeld.trans (fs.mono (by simp))) (fun hHeld' => ?_)
        clear hK K hHeld
        have hHeld := hHeld'
        clear hHeld'
        (try simp only [Act.put, List.setIfInBounds_toArray, List.set_cons_zero, List.set_cons_succ])
        clear fs
        have HW := Lib.hid hHeld
        have HG := Lib.hid hg2
        have HCC := Lib.hid hC
        have HSS := Lib.hid hS
        have HOG := Lib.hid hog
        clear hHeld hg2 hC hS hog
        refine wpAnyH_done (by kernel_rfl) ?_ _
        go_wp2_with fail
        go_meet
        exact ⟨ag, cg, HG.out, HOG.out, HCC.out, HSS.out, HW.out⟩
    · skip
      rw [if_pos (by rfl)]
      go_simp
      refine hK.out _ _ (hHeld) (fun hHeld' => ?_)
      clear hK K hHeld
      have hHeld := hHeld'
      clear hHeld'
      (try simp only [Act.put, List.setIfInBounds_toArray, List.set_cons_zero, List.set_cons_succ])
      refine wpAnyH_ready (rs := [0, 3]) (by kernel_rfl) (by simp) ?_
      refine AllReadyH.cons (o := ⟨some 13, _, _, _, _, _⟩) rfl (fun K hK => ?_) (AllReadyH.cons (o := ⟨some 16, _, _, _, _, _⟩) rfl (fun K hK => ?_) AllReadyH.nil)
      · skip
        rw [if_pos (by rfl)]
        refine wp_load_row 25 (.tmp 3) rfl b rfl 25 g.cells.toArray (0, 0) _ hg Try.underlying25 rfl infoGame ?_
        rw [← Gm.val_eq]
        refine hK.out _ _ (hHeld) (fun hHeld' => ?_)
        clear hK K hHeld
        have hHeld := hHeld'
        clear hHeld'
        (try simp only [Act.put, List.setIfInBounds_toArray, List.set_cons_zero, List.set_cons_succ])
        refine wpAnyH_ready (rs := [1, 3]) (by kernel_rfl) (by simp) ?_
        refine AllReadyH.cons (o := ⟨some 14, _, _, _, _, _⟩) rfl (fun K hK => ?_) (AllReadyH.cons (o := ⟨some 16, _, _, _, _, _⟩) rfl (fun K hK => ?_) AllReadyH.nil)
        · skip
          rw [if_pos (by rfl)]
          go_simp
          refine (HSM.out _ f0).mono ?_
          rintro e y1 ⟨ag, cg, rfl, hog, fsm⟩
          have hg := hg.fr fsm (by simp)
          have hC := hC.fr fsm (by simp)
          have hS := hS.fr fsm (by simp)
          have cC := fsm.cell_some cC (by simp)
          have cS := fsm.cell_some cS (by simp)
          have hog := hog.mono (show b + 3 ≤ y0.heap.size by rw [← HZ2.out]; exact hHeld.size)
          refine hK.out _ _ (hHeld.trans (fsm.mono (by simp))) (fun hHeld' => ?_)
          clear hK K hHeld
          have hHeld := hHeld'
          clear hHeld'
          (try simp only [Act.put, List.setIfInBounds_toArray, List.set_cons_zero, List.set_cons_succ])
          clear fsm f0
          refine wpAnyH_ready (rs := [3]) (by kernel_rfl) (by simp) ?_
          refine AllReadyH.cons (o := ⟨some 16, _, _, _, _, _⟩) rfl (fun K hK => ?_) AllReadyH.nil
          rw [if_pos (by rfl)]
          go_simp
          refine hK.out _ _ (hHeld) (fun hHeld' => ?_)
          clear hK K hHeld
          have hHeld := hHeld'
          clear hHeld'
          (try simp only [Act.put, List.setIfInBounds_toArray, List.set_cons_zero, List.set_cons_succ])
          refine wpAnyH_ready (rs := [4]) (by kernel_rfl) (by simp) ?_
          refine AllReadyH.cons (o := ⟨some 17, _, _, _, _, _⟩) rfl (fun K hK => ?_) AllReadyH.nil
          rw [if_pos (by rfl)]
          go_simp
          refine (HFC.out _).mono ?_
          rintro e w9 ⟨rfl, rfl⟩
          refine hK.out _ _ (hHeld) (fun hHeld' => ?_)
          clear hK K hHeld
          have hHeld := hHeld'
          clear hHeld'
          (try simp only [Act.put, List.setIfInBounds_toArray, List.set_cons_zero, List.set_cons_succ])
          refine wpAnyH_ready (rs := [7]) (by kernel_rfl) (by simp) ?_
          refine AllReadyH.cons (o := ⟨some 20, _, _, _, _, _⟩) rfl (fun K hK => ?_) AllReadyH.nil
          rw [if_pos (by rfl)]
          go_simp
          refine (HFK.out _).mono ?_
          rintro e w9 ⟨rfl, rfl⟩
          refine hK.out _ _ (hHeld) (fun hHeld' => ?_)
          clear hK K hHeld
          have hHeld := hHeld'
          clear hHeld'
          (try simp only [Act.put, List.setIfInBounds_toArray, List.set_cons_zero, List.set_cons_succ])
          refine wpAnyH_ready (rs := [8]) (by kernel_rfl) (by simp) ?_
          refine AllReadyH.cons (o := ⟨none, _, _, _, _, _⟩) rfl (fun K hK => ?_) AllReadyH.nil
          rw [if_pos (by rfl)]
          refine store_game_op (.tmp 3) (.tmp 14) rfl b rfl _ hg rfl (smG g ag cg) rfl ?_
          intro y2 hg2 hz2 hf2
          have hC := hC.fr hf2 (by simp)
          have hS := hS.fr hf2 (by simp)
          have hog := hog.fr hf2 (fun q hq => by have := (hog.block q hq).1; simp; omega)
          refine hK.out _ _ (hHeld.trans (hf2.mono (by simp))) (fun hHeld' => ?_)
          clear hK K hHeld
          have hHeld := hHeld'
          clear hHeld'
          (try simp only [Act.put, List.setIfInBounds_toArray, List.set_cons_zero, List.set_cons_succ])
          clear hf2 hz2 hg cC cS
          have cC := hC.cell 0 _ rfl
          have zC := hC.frozen 0
          refine wpAnyH_take (i := 9) (oi := ⟨some 21, _, _, _, _, _⟩) (v := .pointer (some ⟨b + 1, 0, none⟩)) rfl (by kernel_rfl) (by kernel_rfl) (by kernel_rfl) (fun _ _ _ h => h) (Or.inl ⟨by rfl, ?_⟩) hHeld ?_
          · intro w hSw; (try dsimp only at hSw); go_simp
          (try simp only [Act.put, List.setIfInBounds_toArray, List.set_cons_zero, List.set_cons_succ])
          refine wpAnyH_ready (rs := [10]) (by kernel_rfl) (by simp) ?_
          refine AllReadyH.cons (o := ⟨none, _, _, _, _, _⟩) rfl (fun K hK => ?_) AllReadyH.nil
          rw [if_pos (by rfl)]
          go_simp
          have fs : Fr [b + 1] y2 (y2.setCell ⟨b + 1, 0, none⟩ (.slice ac C1.length cc)) := (Fr.refl [b + 1] y2).setCell (.inl (by simp)) _
          have hC := hC.set 0 (.slice ac C1.length cc)
          simp only [List.set_cons_zero] at hC
          have hS := hS.fr fs (by simp)
          have hg2 := hg2.fr fs (by simp)
          have hog := hog.fr fs (fun q hq => by have := (hog.block q hq).1; simp; omega)
          clear cC zC
          generalize y2.setCell ⟨b + 1, 0, none⟩ (.slice ac C1.length cc) = y3 at *
          refine hK.out _ _ (hHeld.trans (fs.mono (by simp))) (fun hHeld' => ?_)
          clear hK K hHeld
          have hHeld := hHeld'
          clear hHeld'
          (try simp only [Act.put, List.setIfInBounds_toArray, List.set_cons_zero, List.set_cons_succ])
          clear fs
          have cS := hS.cell 1 _ rfl
          have zS := hS.frozen 1
          refine wpAnyH_take (i := 11) (oi := ⟨some 22, _, _, _, _, _⟩) (v := .pointer (some ⟨b + 2, 1, none⟩)) rfl (by kernel_rfl) (by kernel_rfl) (by kernel_rfl) (fun _ _ _ h => h) (Or.inl ⟨by rfl, ?_⟩) hHeld ?_
          · intro w hSw; (try dsimp only at hSw); go_simp
          (try simp only [Act.put, List.setIfInBounds_toArray, List.set_cons_zero, List.set_cons_succ])
          refine wpAnyH_ready (rs := [12]) (by kernel_rfl) (by simp) ?_
          refine AllReadyH.cons (o := ⟨none, _, _, _, _, _⟩) rfl (fun K hK => ?_) AllReadyH.nil
          rw [if_pos (by rfl)]
          go_simp
          have fs : Fr [b + 2] y3 (y3.setCell ⟨b + 2, 1, none⟩ (.slice ak K1.length ck)) := (Fr.refl [b + 2] y3).setCell (.inl (by simp)) _
          have hS := hS.set 1 (.slice ak K1.length ck)
          simp only [List.set_cons_zero, List.set_cons_succ] at hS
          have hC := hC.fr fs (by simp)
          have hg2 := hg2.fr fs (by simp)
          have hog := hog.fr fs (fun q hq => by have := (hog.block q hq).1; simp; omega)
          clear cS zS
          generalize y3.setCell ⟨b + 2, 1, none⟩ (.slice ak K1.length ck) = y4 at *
          refine hK.out _ _ (hHeld.trans (fs.mono (by simp))) (fun hHeld' => ?_)
          clear hK K hHeld
          have hHeld := hHeld'
          clear hHeld'
          (try simp only [Act.put, List.setIfInBounds_toArray, List.set_cons_zero, List.set_cons_succ])
          clear fs
          have HW := Lib.hid hHeld
          have HG := Lib.hid hg2
          have HCC := Lib.hid hC
          have HSS := Lib.hid hS
          have HOG := Lib.hid hog
          clear hHeld hg2 hC hS hog
          refine wpAnyH_done (by kernel_rfl) ?_ _
          go_wp2_with fail
          go_meet
          exact ⟨ag, cg, HG.out, HOG.out, HCC.out, HSS.out, HW.out⟩
        · skip
          rw [if_pos (by rfl)]
          go_simp
          refine hK.out _ _ (hHeld) (fun hHeld' => ?_)
          clear hK K hHeld
          have hHeld := hHeld'
          clear hHeld'
          (try simp only [Act.put, List.setIfInBounds_toArray, List.set_cons_zero, List.set_cons_succ])
          refine wpAnyH_ready (rs := [1]) (by kernel_rfl) (by simp) ?_
          refine AllReadyH.cons (o := ⟨some 14, _, _, _, _, _⟩) rfl (fun K hK => ?_) AllReadyH.nil
          rw [if_pos (by rfl)]
          go_simp
          refine (HSM.out _ f0).mono ?_
          rintro e y1 ⟨ag, cg, rfl, hog, fsm⟩
          have hg := hg.fr fsm (by simp)
          have hC := hC.fr fsm (by simp)
          have hS := hS.fr fsm (by simp)
          have cC := fsm.cell_some cC (by simp)
          have cS := fsm.cell_some cS (by simp)
          have hog := hog.mono (show b + 3 ≤ y0.heap.size by rw [← HZ2.out]; exact hHeld.size)
          refine hK.out _ _ (hHeld.trans (fsm.mono (by simp))) (fun hHeld' => ?_)
          clear hK K hHeld
          have hHeld := hHeld'
          clear hHeld'
          (try simp only [Act.put, List.setIfInBounds_toArray, List.set_cons_zero, List.set_cons_succ])
          clear fsm f0
          refine wpAnyH_ready (rs := [4]) (by kernel_rfl) (by simp) ?_
          refine AllReadyH.cons (o := ⟨some 17, _, _, _, _, _⟩) rfl (fun K hK => ?_) AllReadyH.nil
          rw [if_pos (by rfl)]
          go_simp
          refine (HFC.out _).mono ?_
          rintro e w9 ⟨rfl, rfl⟩
          refine hK.out _ _ (hHeld) (fun hHeld' => ?_)
          clear hK K hHeld
          have hHeld := hHeld'
          clear hHeld'
          (try simp only [Act.put, List.setIfInBounds_toArray, List.set_cons_zero, List.set_cons_succ])
          refine wpAnyH_ready (rs := [7]) (by kernel_rfl) (by simp) ?_
          refine AllReadyH.cons (o := ⟨some 20, _, _, _, _, _⟩) rfl (fun K hK => ?_) AllReadyH.nil
          rw [if_pos (by rfl)]
          go_simp
          refine (HFK.out _).mono ?_
          rintro e w9 ⟨rfl, rfl⟩
          refine hK.out _ _ (hHeld) (fun hHeld' => ?_)
          clear hK K hHeld
          have hHeld := hHeld'
          clear hHeld'
          (try simp only [Act.put, List.setIfInBounds_toArray, List.set_cons_zero, List.set_cons_succ])
          refine wpAnyH_ready (rs := [8]) (by kernel_rfl) (by simp) ?_
          refine AllReadyH.cons (o := ⟨none, _, _, _, _, _⟩) rfl (fun K hK => ?_) AllReadyH.nil
          rw [if_pos (by rfl)]
          refine store_game_op (.tmp 3) (.tmp 14) rfl b rfl _ hg rfl (smG g ag cg) rfl ?_
          intro y2 hg2 hz2 hf2
          have hC := hC.fr hf2 (by simp)
          have hS := hS.fr hf2 (by simp)
          have hog := hog.fr hf2 (fun q hq => by have := (hog.block q hq).1; simp; omega)
          refine hK.out _ _ (hHeld.trans (hf2.mono (by simp))) (fun hHeld' => ?_)
          clear hK K hHeld
          have hHeld := hHeld'
          clear hHeld'
          (try simp only [Act.put, List.setIfInBounds_toArray, List.set_cons_zero, List.set_cons_succ])
          clear hf2 hz2 hg cC cS
          have cC := hC.cell 0 _ rfl
          have zC := hC.frozen 0
          refine wpAnyH_take (i := 9) (oi := ⟨some 21, _, _, _, _, _⟩) (v := .pointer (some ⟨b + 1, 0, none⟩)) rfl (by kernel_rfl) (by kernel_rfl) (by kernel_rfl) (fun _ _ _ h => h) (Or.inl ⟨by rfl, ?_⟩) hHeld ?_
          · intro w hSw; (try dsimp only at hSw); go_simp
          (try simp only [Act.put, List.setIfInBounds_toArray, List.set_cons_zero, List.set_cons_succ])
          refine wpAnyH_ready (rs := [10]) (by kernel_rfl) (by simp) ?_
          refine AllReadyH.cons (o := ⟨none, _, _, _, _, _⟩) rfl (fun K hK => ?_) AllReadyH.nil
          rw [if_pos (by rfl)]
          go_simp
          have fs : Fr [b + 1] y2 (y2.setCell ⟨b + 1, 0, none⟩ (.slice ac C1.length cc)) := (Fr.refl [b + 1] y2).setCell (.inl (by simp)) _
          have hC := hC.set 0 (.slice ac C1.length cc)
          simp only [List.set_cons_zero] at hC
          have hS := hS.fr fs (by simp)
          have hg2 := hg2.fr fs (by simp)
          have hog := hog.fr fs (fun q hq => by have := (hog.block q hq).1; simp; omega)
          clear cC zC
          generalize y2.setCell ⟨b + 1, 0, none⟩ (.slice ac C1.length cc) = y3 at *
          refine hK.out _ _ (hHeld.trans (fs.mono (by simp))) (fun hHeld' => ?_)
          clear hK K hHeld
          have hHeld := hHeld'
          clear hHeld'
          (try simp only [Act.put, List.setIfInBounds_toArray, List.set_cons_zero, List.set_cons_succ])
          clear fs
          have cS := hS.cell 1 _ rfl
          have zS := hS.frozen 1
          refine wpAnyH_take (i := 11) (oi := ⟨some 22, _, _, _, _, _⟩) (v := .pointer (some ⟨b + 2, 1, none⟩)) rfl (by kernel_rfl) (by kernel_rfl) (by kernel_rfl) (fun _ _ _ h => h) (Or.inl ⟨by rfl, ?_⟩) hHeld ?_
          · intro w hSw; (try dsimp only at hSw); go_simp
          (try simp only [Act.put, List.setIfInBounds_toArray, List.set_cons_zero, List.set_cons_succ])
          refine wpAnyH_ready (rs := [12]) (by kernel_rfl) (by simp) ?_
          refine AllReadyH.cons (o := ⟨none, _, _, _, _, _⟩) rfl (fun K hK => ?_) AllReadyH.nil
          rw [if_pos (by rfl)]
          go_simp
          have fs : Fr [b + 2] y3 (y3.setCell ⟨b + 2, 1, none⟩ (.slice ak K1.length ck)) := (Fr.refl [b + 2] y3).setCell (.inl (by simp)) _
          have hS := hS.set 1 (.slice ak K1.length ck)
          simp only [List.set_cons_zero, List.set_cons_succ] at hS
          have hC := hC.fr fs (by simp)
          have hg2 := hg2.fr fs (by simp)
          have hog := hog.fr fs (fun q hq => by have := (hog.block q hq).1; simp; omega)
          clear cS zS
          generalize y3.setCell ⟨b + 2, 1, none⟩ (.slice ak K1.length ck) = y4 at *
          refine hK.out _ _ (hHeld.trans (fs.mono (by simp))) (fun hHeld' => ?_)
          clear hK K hHeld
          have hHeld := hHeld'
          clear hHeld'
          (try simp only [Act.put, List.setIfInBounds_toArray, List.set_cons_zero, List.set_cons_succ])
          clear fs
          have HW := Lib.hid hHeld
          have HG := Lib.hid hg2
          have HCC := Lib.hid hC
          have HSS := Lib.hid hS
          have HOG := Lib.hid hog
          clear hHeld hg2 hC hS hog
          refine wpAnyH_done (by kernel_rfl) ?_ _
          go_wp2_with fail
          go_meet
          exact ⟨ag, cg, HG.out, HOG.out, HCC.out, HSS.out, HW.out⟩
      · skip
        rw [if_pos (by rfl)]
        go_simp
        refine hK.out _ _ (hHeld) (fun hHeld' => ?_)
        clear hK K hHeld
        have hHeld := hHeld'
        clear hHeld'
        (try simp only [Act.put, List.setIfInBounds_toArray, List.set_cons_zero, List.set_cons_succ])
        refine wpAnyH_ready (rs := [0]) (by kernel_rfl) (by simp) ?_
        refine AllReadyH.cons (o := ⟨some 13, _, _, _, _, _⟩) rfl (fun K hK => ?_) AllReadyH.nil
        rw [if_pos (by rfl)]
        refine wp_load_row 25 (.tmp 3) rfl b rfl 25 g.cells.toArray (0, 0) _ hg Try.underlying25 rfl infoGame ?_
        rw [← Gm.val_eq]
        refine hK.out _ _ (hHeld) (fun hHeld' => ?_)
        clear hK K hHeld
        have hHeld := hHeld'
        clear hHeld'
        (try simp only [Act.put, List.setIfInBounds_toArray, List.set_cons_zero, List.set_cons_succ])
        refine wpAnyH_ready (rs := [1]) (by kernel_rfl) (by simp) ?_
        refine AllReadyH.cons (o := ⟨some 14, _, _, _, _, _⟩) rfl (fun K hK => ?_) AllReadyH.nil
        rw [if_pos (by rfl)]
        go_simp
        refine (HSM.out _ f0).mono ?_
        rintro e y1 ⟨ag, cg, rfl, hog, fsm⟩
        have hg := hg.fr fsm (by simp)
        have hC := hC.fr fsm (by simp)
        have hS := hS.fr fsm (by simp)
        have cC := fsm.cell_some cC (by simp)
        have cS := fsm.cell_some cS (by simp)
        have hog := hog.mono (show b + 3 ≤ y0.heap.size by rw [← HZ2.out]; exact hHeld.size)
        refine hK.out _ _ (hHeld.trans (fsm.mono (by simp))) (fun hHeld' => ?_)
        clear hK K hHeld
        have hHeld := hHeld'
        clear hHeld'
        (try simp only [Act.put, List.setIfInBounds_toArray, List.set_cons_zero, List.set_cons_succ])
        clear fsm f0
        refine wpAnyH_ready (rs := [4]) (by kernel_rfl) (by simp) ?_
        refine AllReadyH.cons (o := ⟨some 17, _, _, _, _, _⟩) rfl (fun K hK => ?_) AllReadyH.nil
        rw [if_pos (by rfl)]
        go_simp
        refine (HFC.out _).mono ?_
        rintro e w9 ⟨rfl, rfl⟩
        refine hK.out _ _ (hHeld) (fun hHeld' => ?_)
        clear hK K hHeld
        have hHeld := hHeld'
        clear hHeld'
        (try simp only [Act.put, List.setIfInBounds_toArray, List.set_cons_zero, List.set_cons_succ])
        refine wpAnyH_ready (rs := [7]) (by kernel_rfl) (by simp) ?_
        refine AllReadyH.cons (o := ⟨some 20, _, _, _, _, _⟩) rfl (fun K hK => ?_) AllReadyH.nil
        rw [if_pos (by rfl)]
        go_simp
        refine (HFK.out _).mono ?_
        rintro e w9 ⟨rfl, rfl⟩
        refine hK.out _ _ (hHeld) (fun hHeld' => ?_)
        clear hK K hHeld
        have hHeld := hHeld'
        clear hHeld'
        (try simp only [Act.put, List.setIfInBounds_toArray, List.set_cons_zero, List.set_cons_succ])
        refine wpAnyH_ready (rs := [8]) (by kernel_rfl) (by simp) ?_
        refine AllReadyH.cons (o := ⟨none, _, _, _, _, _⟩) rfl (fun K hK => ?_) AllReadyH.nil
        rw [if_pos (by rfl)]
        refine store_game_op (.tmp 3) (.tmp 14) rfl b rfl _ hg rfl (smG g ag cg) rfl ?_
        intro y2 hg2 hz2 hf2
        have hC := hC.fr hf2 (by simp)
        have hS := hS.fr hf2 (by simp)
        have hog := hog.fr hf2 (fun q hq => by have := (hog.block q hq).1; simp; omega)
        refine hK.out _ _ (hHeld.trans (hf2.mono (by simp))) (fun hHeld' => ?_)
        clear hK K hHeld
        have hHeld := hHeld'
        clear hHeld'
        (try simp only [Act.put, List.setIfInBounds_toArray, List.set_cons_zero, List.set_cons_succ])
        clear hf2 hz2 hg cC cS
        have cC := hC.cell 0 _ rfl
        have zC := hC.frozen 0
        refine wpAnyH_take (i := 9) (oi := ⟨some 21, _, _, _, _, _⟩) (v := .pointer (some ⟨b + 1, 0, none⟩)) rfl (by kernel_rfl) (by kernel_rfl) (by kernel_rfl) (fun _ _ _ h => h) (Or.inl ⟨by rfl, ?_⟩) hHeld ?_
        · intro w hSw; (try dsimp only at hSw); go_simp
        (try simp only [Act.put, List.setIfInBounds_toArray, List.set_cons_zero, List.set_cons_succ])
        refine wpAnyH_ready (rs := [10]) (by kernel_rfl) (by simp) ?_
        refine AllReadyH.cons (o := ⟨none, _, _, _, _, _⟩) rfl (fun K hK => ?_) AllReadyH.nil
        rw [if_pos (by rfl)]
        go_simp
        have fs : Fr [b + 1] y2 (y2.setCell ⟨b + 1, 0, none⟩ (.slice ac C1.length cc)) := (Fr.refl [b + 1] y2).setCell (.inl (by simp)) _
        have hC := hC.set 0 (.slice ac C1.length cc)
        simp only [List.set_cons_zero] at hC
        have hS := hS.fr fs (by simp)
        have hg2 := hg2.fr fs (by simp)
        have hog := hog.fr fs (fun q hq => by have := (hog.block q hq).1; simp; omega)
        clear cC zC
        generalize y2.setCell ⟨b + 1, 0, none⟩ (.slice ac C1.length cc) = y3 at *
        refine hK.out _ _ (hHeld.trans (fs.mono (by simp))) (fun hHeld' => ?_)
        clear hK K hHeld
        have hHeld := hHeld'
        clear hHeld'
        (try simp only [Act.put, List.setIfInBounds_toArray, List.set_cons_zero, List.set_cons_succ])
        clear fs
        have cS := hS.cell 1 _ rfl
        have zS := hS.frozen 1
        refine wpAnyH_take (i := 11) (oi := ⟨some 22, _, _, _, _, _⟩) (v := .pointer (some ⟨b + 2, 1, none⟩)) rfl (by kernel_rfl) (by kernel_rfl) (by kernel_rfl) (fun _ _ _ h => h) (Or.inl ⟨by rfl, ?_⟩) hHeld ?_
        · intro w hSw; (try dsimp only at hSw); go_simp
        (try simp only [Act.put, List.setIfInBounds_toArray, List.set_cons_zero, List.set_cons_succ])
        refine wpAnyH_ready (rs := [12]) (by kernel_rfl) (by simp) ?_
        refine AllReadyH.cons (o := ⟨none, _, _, _, _, _⟩) rfl (fun K hK => ?_) AllReadyH.nil
        rw [if_pos (by rfl)]
        go_simp
        have fs : Fr [b + 2] y3 (y3.setCell ⟨b + 2, 1, none⟩ (.slice ak K1.length ck)) := (Fr.refl [b + 2] y3).setCell (.inl (by simp)) _
        have hS := hS.set 1 (.slice ak K1.length ck)
        simp only [List.set_cons_zero, List.set_cons_succ] at hS
        have hC := hC.fr fs (by simp)
        have hg2 := hg2.fr fs (by simp)
        have hog := hog.fr fs (fun q hq => by have := (hog.block q hq).1; simp; omega)
        clear cS zS
        generalize y3.setCell ⟨b + 2, 1, none⟩ (.slice ak K1.length ck) = y4 at *
        refine hK.out _ _ (hHeld.trans (fs.mono (by simp))) (fun hHeld' => ?_)
        clear hK K hHeld
        have hHeld := hHeld'
        clear hHeld'
        (try simp only [Act.put, List.setIfInBounds_toArray, List.set_cons_zero, List.set_cons_succ])
        clear fs
        have HW := Lib.hid hHeld
        have HG := Lib.hid hg2
        have HCC := Lib.hid hC
        have HSS := Lib.hid hS
        have HOG := Lib.hid hog
        clear hHeld hg2 hC hS hog
        refine wpAnyH_done (by kernel_rfl) ?_ _
        go_wp2_with fail
        go_meet
        exact ⟨ag, cg, HG.out, HOG.out, HCC.out, HSS.out, HW.out⟩
  case rest =>
    obtain ⟨ag, cg, hg2, hog, hC, hS, hf2⟩ := hcut
    obtain ⟨x2, hx2⟩ : ∃ x : World, x = wc := ⟨_, rfl⟩
    rw [← hx2] at hg2 hog hC hS hf2 ⊢
    have F2 : Fr [] w x2 := HX1.out.trans' hf2 (by intro i hi; simp at hi; right; have := HB.out; omega)
    have hrd : RdF 6 adF x2 (.slice ag (smL g.addons (min g.addons.length 6)).length cg) (smL g.addons (min g.addons.length 6)) := by
      obtain ⟨a', c', hv, _, _, hrd⟩ := hog.form
      simp only [Value.slice.injEq] at hv
      obtain ⟨rfl, _, rfl⟩ := hv
      rw [← HM.out]; exact hrd
    have hok2 := smG_ok HOK.out F2 hrd
    have hlt := hg2.lt
    obtain ⟨gg, hgg⟩ : ∃ gg, gg = smG g ag cg := ⟨_, rfl⟩
    rw [← hgg] at hg2 hok2
    have hAW := award_any gg s (.slice ak K1.length ck) (.slice ac C1.length cc) K1 C1 cr cl x2 hok2 (HR2.out.below F2) (HR1.out.below F2)
    unfold AwPost at hAW
    have c0 := hC.cell 0 _ rfl
    have c1 := hC.cell 1 _ rfl
    have c2 := hC.cell 2 _ rfl
    have s0 := hS.cell 0 _ rfl
    have s1 := hS.cell 1 _ rfl
    have HF2 := Lib.hid F2
    have HG2 := Lib.hid hg2
    have HC2 := Lib.hid hC
    have hrc2 := HR1.out.below F2
    have HRC := Lib.hid hrc2
    clear hog hf2 hrd hx2 hS HOK HSM HX1 HM HFC HFK HZ2 hg2 hC hrc2 HR1 HR2 hgg hrC hrS
    by_cases hE : awE gg s K1 C1 cr cl = 0
    · have hB := bal_f hE
      have k1 : ∀ v, awV1 gg s K1 C1 cr cl v = .agg #[.int .i64 s, .int .i64 (fuA gg s), .int .i64 (alR gg s K1 cr), v] := fun v => by unfold awV1; rw [if_pos hE]
      have k2 : ∀ vC vE vP vN, awV2 gg s K1 C1 cr cl vC vE vP vN = .agg #[vC, vE, vP, .int .i64 (awB gg s K1 C1 cr cl), .int .i64 (awD gg s K1 cr), vN, .int .i64 (awR gg s K1 C1 cr cl), .int .i64 (awN gg s K1 C1 cr cl)] := fun vC vE vP vN => by unfold awV2; rw [if_pos hE]
      have k3 : ∀ l, awZ gg s K1 C1 cr cl l = l := fun l => by unfold awZ; rw [if_pos hE]
      simp only [k1, k2, k3, hE] at hAW
      have h21 : ∀ x, GmAt x b gg → x.cell? ⟨b, 21, none⟩ = some (.slice gg.ta gg.tiers.length gg.tc) := fun x h => h.cell 21 _ rfl
      obtain ⟨n, hn⟩ : ∃ n, n = gg.tiers.length := ⟨_, rfl⟩
      rw [← hn] at h21 hB hAW
      generalize paL gg (awF gg s K1 C1 cr cl) K1 n = PL at *
      generalize eaL gg (awF gg s K1 C1 cr cl) K1 n = EL at *
      generalize awC gg s K1 C1 cr cl = C2 at *
      generalize awT gg s K1 C1 cr = TT at *
      generalize alR gg s K1 cr = R1 at *
      generalize awB gg s K1 C1 cr cl = R2 at *
      generalize awD gg s K1 cr = R3 at *
      generalize awR gg s K1 C1 cr cl = R4 at *
      generalize awN gg s K1 C1 cr cl = R5 at *
      generalize fuA gg s = A at *
      have H21 := Lib.hid h21
      have HBF := Lib.hid hB
      have HAW := Lib.hid hAW
      clear hE hB k1 k2 k3 h21 hAW hok2 hn F2
      go_wp2_with (refine load_game rfl (.tmp 3) rfl _ rfl gg HG2.out ?_)
      refine HAW.out.mono ?_
      rintro e x3 ⟨vT, vC, vE, vP, vN, rfl, oT, oC, oE, oP, oN, f3⟩
      obtain ⟨aT, nT, cT, rfl⟩ := oT.sl
      obtain ⟨aC, cC, rfl, _, _⟩ := oC.any
      obtain ⟨aE, cE, rfl, _, _⟩ := oE.any
      obtain ⟨aP, cP, rfl, _, _⟩ := oP.any
      obtain ⟨aN, cN, rfl, _, _⟩ := oN.any
      have lC := HBF.out.ls
      have lE := HBF.out.le
      have lP := HBF.out.lp
      have lN := HBF.out.l2
      have lc := HBF.out.lc
      rw [lC] at oC ⊢
      rw [lE] at oE ⊢
      rw [lP] at oP ⊢
      rw [lN] at oN ⊢
      have hrc3 := HRC.out.below f3
      have rC := oC.rd
      have rE := oE.rd
      have rP := oP.rd
      have rN := oN.rd
      have hg3 := HG2.out.fr f3 (by simp)
      have hC3 := HC2.out.fr f3 (by simp)
      have F3 := HF2.out.trans f3
      clear oT oC oE oP oN f3 c0 c1 c2 s0 s1 HAW HRC HG2 HC2 HF2
      go_upto_region 3 with (fail)
      have e10 : Fr [] x3 ((x3.alloc (.cells #[.int .i64 s, .int .i64 A, .int .i64 R1, .slice aT nT cT] 45)).alloc (.cells #[.slice aC n cC, .slice aE n cE, .slice aP n cP, .int .i64 R2, .int .i64 R3, .slice aN n cN, .int .i64 R4, .int .i64 R5] 60)) := ((Fr.refl [] x3).alloc _).alloc _
      have hrp : RowAt ((x3.alloc (.cells #[.int .i64 s, .int .i64 A, .int .i64 R1, .slice aT nT cT] 45)).alloc (.cells #[.slice aC n cC, .slice aE n cE, .slice aP n cP, .int .i64 R2, .int .i64 R3, .slice aN n cN, .int .i64 R4, .int .i64 R5] 60)) x3.heap.size 45 [.int .i64 s, .int .i64 A, .int .i64 R1, .slice aT nT cT] := (RowAt.new rfl rfl).fr ((Fr.refl [] _).alloc _) (by simp)
      have hra : RowAt ((x3.alloc (.cells #[.int .i64 s, .int .i64 A, .int .i64 R1, .slice aT nT cT] 45)).alloc (.cells #[.slice aC n cC, .slice aE n cE, .slice aP n cP, .int .i64 R2, .int .i64 R3, .slice aN n cN, .int .i64 R4, .int .i64 R5] 60)) (x3.heap.size + 1) 60 [.slice aC n cC, .slice aE n cE, .slice aP n cP, .int .i64 R2, .int .i64 R3, .slice aN n cN, .int .i64 R4, .int .i64 R5] := RowAt.new (by simp) rfl
      generalize (x3.alloc _).alloc _ = x4 at *
      have hC4 := hC3.fr e10 (by simp)
      have hg4 := hg3.fr e10 (by simp)
      have rC := rC.below e10
      have rE := rE.below e10
      have rP := rP.below e10
      have rN := rN.below e10
      have rc := hrc3.below e10
      have F4 := F3.trans e10
      generalize x3.heap.size = bP at *
      rw [lc] at hC4 rc
      obtain ⟨_, _, hh, _, _, qC⟩ := id rC
      simp only [Value.slice.injEq] at hh
      obtain ⟨rfl, hxx, rfl⟩ := hh
      clear hxx
      obtain ⟨_, _, hh, _, _, qE⟩ := id rE
      simp only [Value.slice.injEq] at hh
      obtain ⟨rfl, hxx, rfl⟩ := hh
      clear hxx
      obtain ⟨_, _, hh, _, _, qP⟩ := id rP
      simp only [Value.slice.injEq] at hh
      obtain ⟨rfl, hxx, rfl⟩ := hh
      clear hxx
      obtain ⟨_, _, hh, _, _, qN⟩ := id rN
      simp only [Value.slice.injEq] at hh
      obtain ⟨rfl, hxx, rfl⟩ := hh
      clear hxx
      obtain ⟨_, _, hh, _, _, qc⟩ := id rc
      simp only [Value.slice.injEq] at hh
      obtain ⟨rfl, hxx, rfl⟩ := hh
      clear hxx
      rw [lC] at qC
      rw [lE] at qE
      rw [lP] at qP
      rw [lN] at qN
      rw [lc] at qc
      have HQC := Lib.hid qC
      have HQE := Lib.hid qE
      have HQP := Lib.hid qP
      have HQN := Lib.hid qN
      have HQc := Lib.hid qc
      have HC4 := Lib.hid hC4
      have HG4 := Lib.hid hg4
      have HRP := Lib.hid hrp
      have HRA := Lib.hid hra
      have HF4 := Lib.hid F4
      have HRc := Lib.hid rc
      have HRP2 := Lib.hid rP
      have HRN2 := Lib.hid rN
      have HLL := Lib.hid (And.intro lP (And.intro lN lc))
      clear qC qE qP qN qc hC4 hg4 hrp hra F4 rC rE rP rN rc hrc3 hg3 hC3 F3 e10 lC lE lP lN lc
      obtain ⟨A0, A1⟩ := HBF.out.A01
      obtain ⟨q0, q1⟩ := HBF.out.c01
      obtain ⟨R40, R41⟩ := HBF.out.R01
      have B0 := HBF.out.B0
      have D0 := HBF.out.D0
      have hn12 := HBF.out.n12
      have p1 := HRP.out.cell 1 _ rfl
      have k1 := HC4.out.cell 1 _ rfl
      have a6 := HRA.out.cell 6 _ rfl
      go_upto_region 5 with (fail)
      go_quiet (fail)
      clear p1 k1 a6
      have f45 : Fr [] x4 (x4.drewN nq) := (Fr.refl [] x4).drewN nq
      generalize x4.drewN nq = x5 at *
      have HF45 := Lib.hid f45
      have c21 := H21.out _ (HG4.out.fr f45 (by simp))
      have k0 := (HC4.out.fr f45 (by simp)).cell 0 _ rfl
      have a0 := (HRA.out.fr f45 (by simp)).cell 0 _ rfl
      have a1 := (HRA.out.fr f45 (by simp)).cell 1 _ rfl
      have a2 := (HRA.out.fr f45 (by simp)).cell 2 _ rfl
      have a5 := (HRA.out.fr f45 (by simp)).cell 5 _ rfl
      have en : ((n : Int) != (n : Int)) = false := by simp
      clear f45
      go_upto_block 0 with (fail)
      clear c21 k0 a0 a1 a2 a5 en
      have hsum : ∀ k, k ≤ n → 0 ≤ sumTo C1 k ∧ sumTo C1 k ≤ 1000000000000 * k ∧ 0 ≤ sumTo PL k ∧ sumTo PL k ≤ 1000000000000 * k ∧ 0 ≤ sumTo C2 k ∧ sumTo C2 k ≤ 1000000000000 * k := by
        intro k
        induction k with
        | zero => intro _; simp [sumTo]
        | succ k ih =>
          intro hk
          have h1 := ih (by omega)
          have h2 := HBF.out.each k (by omega)
          rw [sumTo, sumTo, sumTo]
          push_cast
          omega
      have HSUM := Lib.hid hsum
      clear hsum
      have hac : IntKind.i64.wrap (A + cr) = A + cr := IntWalk.i64_in _ (by omega)
      (try rw [hac])
      clear hac
      go_cut [10, 11] (fun u v wx => ∃ U : Int, u = .int .i64 U ∧ v = .int .i64 U ∧ Fr [] x5 wx)
      case first =>
        go_wp2_with fail
        go_loopw [115, 10, 11] (fun i u v wr => ∃ k : Nat, k ≤ n ∧ i = .int .i64 k ∧ u = .int .i64 (A + cr + sumTo C1 k) ∧ v = .int .i64 (R4 + (sumTo PL k + sumTo C2 k)) ∧ Fr [] x5 wr) (fun i _ _ _ => n - (intOf i).toNat)
        case atStart => exact ⟨0, by omega, rfl, by simp [sumTo], by simp [sumTo], Fr.refl _ _⟩
        case round =>
          obtain ⟨k, hk, rfl, rfl, rfl, hf⟩ := hrel
          by_cases hlt : k < n
          · have hkn : (k : Int) < (n : Int) := by omega
            have hfw := HF45.out.trans hf
            obtain ⟨gC, oC, rfl, zC⟩ := HQC.out k hlt
            obtain ⟨gE, oE, rfl, zE⟩ := HQE.out k hlt
            obtain ⟨gP, oP, rfl, zP⟩ := HQP.out k hlt
            obtain ⟨gN, oN, rfl, zN⟩ := HQN.out k hlt
            obtain ⟨gc, oc, rfl, zc⟩ := HQc.out k hlt
            have zC := hfw.cell_some zC (by simp)
            have zE := hfw.cell_some zE (by simp)
            have zP := hfw.cell_some zP (by simp)
            have zN := hfw.cell_some zN (by simp)
            have zc := hfw.cell_some zc (by simp)
            have a0 := (HRA.out.fr hfw (by simp)).cell 0 _ rfl
            have a1 := (HRA.out.fr hfw (by simp)).cell 1 _ rfl
            have a2 := (HRA.out.fr hfw (by simp)).cell 2 _ rfl
            have a5 := (HRA.out.fr hfw (by simp)).cell 5 _ rfl
            have k0 := (HC4.out.fr hfw (by simp)).cell 0 _ rfl
            obtain ⟨h1, h2, h3, h4, h5, h6, h7⟩ := HBF.out.each k hlt
            obtain ⟨s1, s2, s3, s4, s5, s6⟩ := HSUM.out k (by omega)
            have hu1 : sumTo C1 (k + 1) = sumTo C1 k + C1.getD k 0 := rfl
            have hu2 : sumTo PL (k + 1) = sumTo PL k + PL.getD k 0 := rfl
            have hu3 : sumTo C2 (k + 1) = sumTo C2 k + C2.getD k 0 := rfl
            have HU1 := Lib.hid hu1
            have HU2 := Lib.hid hu2
            have HU3 := Lib.hid hu3
            have HF := Lib.hid hf
            clear hu1 hu2 hu3 hf hfw
            have hk12 : (k : Int) ≤ 12 := by omega
            generalize sumTo C1 k = S1 at *
            generalize sumTo PL k = S2 at *
            generalize sumTo C2 k = S3 at *
            generalize C1.getD k 0 = y1 at *
            generalize PL.getD k 0 = y2 at *
            generalize C2.getD k 0 = y3 at *
            generalize EL.getD k 0 = y4 at *
            generalize K1.getD k 0 = y5 at *
            have s2' : S1 ≤ 12000000000000 := by omega
            have s4' : S2 ≤ 12000000000000 := by omega
            have s6' : S3 ≤ 12000000000000 := by omega
            clear s2 s4 s6
            have d1 : decide (y2 < 0) = false := by simp; omega
            have d2 : decide (y3 < 0) = false := by simp; omega
            have d3 : (y2 != y4 * y5) = false := by simp; exact h7
            have hw : IntKind.i64.wrap (y4 * y5) = y4 * y5 := IntWalk.i64_in _ (by omega)
            have H7 := Lib.hid h7
            clear h7
            go_upto_region 11 with (fail)
            go_quiet (fail)
            clear d1 d2 d3 hw zC zE a0 a1
            have zP := ((Fr.refl [] wr).drewN nq).cell_some zP (by simp)
            have zN := ((Fr.refl [] wr).drewN nq).cell_some zN (by simp)
            have zc := ((Fr.refl [] wr).drewN nq).cell_some zc (by simp)
            have a2 := ((Fr.refl [] wr).drewN nq).cell_some a2 (by simp)
            have a5 := ((Fr.refl [] wr).drewN nq).cell_some a5 (by simp)
            have k0 := ((Fr.refl [] wr).drewN nq).cell_some k0 (by simp)
            have HF := Lib.hid (HF.out.drewN nq)
            generalize wr.drewN nq = wz at *
            go_upto_region 14 with (fail)
            go_quiet (fail)
            have HF := Lib.hid (HF.out.drewN nq)
            clear zP zN a2 a5 k0 zc
            generalize wz.drewN nq = wq at *
            go_wp2_with fail
            go_roundw
            case rel => exact ⟨k + 1, by omega, by go_num, by rw [HU1.out]; go_num, by rw [HU2.out, HU3.out]; go_num, HF.out⟩
            case measure => simp [intOf] <;> omega
          · obtain rfl : n = k := by omega
            have HF := Lib.hid hf
            clear hf
            have HBAL := Lib.hid HBF.out.bal
            go_wp2_with fail
            go_meet
            exact ⟨_, rfl, by rw [HBAL.out], HF.out⟩
      case rest =>
        obtain ⟨U, rfl, rfl, hf⟩ := hcut
        obtain ⟨x6, hx6⟩ : ∃ x : World, x = wc := ⟨_, rfl⟩
        rw [← hx6] at hf ⊢
        have hfw := HF45.out.trans hf
        have e1 : (U == U) = true := by simp
        have d1 : decide (0 ≤ R4) = true := by simpa using R40
        have d2 : decide (0 ≤ R2) = true := by simpa using B0
        have d3 : decide (0 ≤ R3) = true := by simpa using D0
        have hBL := bal_any s A R1 cr cl R2 R3 R4 R5 aT ac aC aE aP aN nT cT cc n cC n cE cP cN C1 PL C2 x6 (by rw [HLL.out.2.2]; exact HRc.out.below hfw) (by rw [HLL.out.1]; exact HRP2.out.below hfw) (by rw [HLL.out.2.1]; exact HRN2.out.below hfw)
        rw [HBF.out.blb, HLL.out.1, HLL.out.2.1, HLL.out.2.2] at hBL
        have p0 := (HRP.out.fr hfw (by simp)).cell 0 _ rfl
        have p1 := (HRP.out.fr hfw (by simp)).cell 1 _ rfl
        have p2 := (HRP.out.fr hfw (by simp)).cell 2 _ rfl
        have p3 := (HRP.out.fr hfw (by simp)).cell 3 _ rfl
        have k0 := (HC4.out.fr hfw (by simp)).cell 0 _ rfl
        have k1 := (HC4.out.fr hfw (by simp)).cell 1 _ rfl
        have k2 := (HC4.out.fr hfw (by simp)).cell 2 _ rfl
        have a0 := (HRA.out.fr hfw (by simp)).cell 0 _ rfl
        have a1 := (HRA.out.fr hfw (by simp)).cell 1 _ rfl
        have a2 := (HRA.out.fr hfw (by simp)).cell 2 _ rfl
        have a3 := (HRA.out.fr hfw (by simp)).cell 3 _ rfl
        have a4 := (HRA.out.fr hfw (by simp)).cell 4 _ rfl
        have a5 := (HRA.out.fr hfw (by simp)).cell 5 _ rfl
        have a6 := (HRA.out.fr hfw (by simp)).cell 6 _ rfl
        have a7 := (HRA.out.fr hfw (by simp)).cell 7 _ rfl
        have HBL := Lib.hid hBL
        have HF6 := Lib.hid (HF4.out.trans hfw)
        clear hx6 hf hfw hBL
        go_wp2_with fail
        refine HBL.out.mono ?_
        rintro e x7 ⟨rfl, f7⟩
        have HF7 := Lib.hid (HF6.out.trans f7)
        clear p0 p1 p2 p3 k0 k1 k2 a0 a1 a2 a3 a4 a5 a6 a7 f7
        go_wp2_with fail
        refine (works_any _).mono ?_
        rintro e x8 ⟨rfl, f8⟩
        have HF8 := Lib.hid (HF7.out.trans f8)
        clear f8
        go_wp2_with fail
        go_ret
        exact ⟨rfl, HF8.out.below⟩
    · have k1 : ∀ v, awV1 gg s K1 C1 cr cl v = .agg #[.int .i64 0, .int .i64 0, .int .i64 0, v] := fun v => by unfold awV1; rw [if_neg hE]
      have k2 : ∀ vC vE vP vN, awV2 gg s K1 C1 cr cl vC vE vP vN = .agg #[vC, vE, vP, .int .i64 0, .int .i64 0, vN, .int .i64 0, .int .i64 0] := fun vC vE vP vN => by unfold awV2; rw [if_neg hE]
      have k3 : ∀ l, awZ gg s K1 C1 cr cl l = [] := fun l => by unfold awZ; rw [if_neg hE]
      have e0 : (awE gg s K1 C1 cr cl != 0) = true := by simpa using hE
      simp only [k1, k2, k3] at hAW
      generalize awE gg s K1 C1 cr cl = E at *
      have HAW := Lib.hid hAW
      clear hE k1 k2 k3 hAW hok2 F2
      go_wp2_with (refine load_game rfl (.tmp 3) rfl _ rfl gg HG2.out ?_)
      refine HAW.out.mono ?_
      rintro e x3 ⟨vT, vC, vE, vP, vN, rfl, oT, oC, oE, oP, oN, f3⟩
      obtain ⟨aT, cT, rfl, _, _⟩ := oT.any
      obtain ⟨aP, cP, rfl, _, _⟩ := oP.any
      obtain ⟨aC, nC, cC, rfl⟩ := oC.sl
      obtain ⟨aE, nE, cE, rfl⟩ := oE.sl
      obtain ⟨aN, nN, cN, rfl⟩ := oN.sl
      have HF3 := Lib.hid (HF2.out.trans f3)
      simp only [List.length_nil]
      clear oT oC oE oP oN f3 c0 c1 c2 s0 s1 HAW HRC HG2 HC2 HF2
      go_wp2_with fail
      refine (works_any _).mono ?_
      rintro e x8 ⟨rfl, f8⟩
      have HF8 := Lib.hid (((HF3.out.alloc _).alloc _).trans f8)
      clear f8
      go_wp2_with fail
      go_ret
      exact ⟨rfl, HF8.out.below⟩
theorem own : ownKnob Try.prog.godebug = none := by kernel_rfl
theorem laidOut : laidOutB Try.prog = true := by kernel_rfl
set_option maxRecDepth 100000 in
theorem lifted (os : Os) (started : os.Started) (H : Type) (enc : TypeId × Value → H) :
    ReturnsInHanded {} Try.checked os 16 .any (Rows.prizeBalancesSpec.pre6 enc Try.prog Try.f16 Rows.prizeBalancesRow.domain false) (Rows.prizeBalancesSpec.post enc Try.prog Try.f16 false true false false) := by
  refine returnsInHanded_of_change (C := Try.checked) own started (by kernel_rfl) Try.func16
    (ChangeSpec.witness6 (enc := enc) (C := Try.checked) false ⟨#[], #[.agg #[.string ByteArray.empty, .int .i64 0, .int .i64 0, .int .i64 0, .int .i64 0, .int .i64 0, .int .i64 0, .int .i64 0, .int .i64 0, .int .i64 0, .int .i64 0, .int .i64 0, .int .i64 0, .int .i64 0, .int .i64 0, .int .i64 0, .int .i64 0, .int .i64 0, .int .i64 0, .int .i64 0, .slice none 0 0, .slice none 0 0], .agg #[.slice none 0 0, .int .i64 0, .int .i64 0], .agg #[.int .i64 0, .slice none 0 0]], []⟩ 8 (by kernel_rfl) (by kernel_rfl) (by kernel_rfl) (by kernel_rfl)) ?_
  intro W base args ds gs before hval0 hW hcnd _
  have hval : ∀ (j : Nat) t v, Try.f16.params[j]? = some t → args[j]? = some v → Value.okWide Try.prog W .any base t v := hval0
  have hW' := hW
  obtain ⟨p, q, hA0, hV, rfl, hfz, hnd⟩ := hW
  have hA : DataW.TrodAll enc Try.prog W 0 (fun _ => true) true Try.f16.params.toList args.toList ds p := hA0
  rw [Try.params16] at hA hval
  obtain ⟨v0, vs0, d0, ds0, p0, q0, hargs, rfl, rfl, h0, r0⟩ := trodAll_cons hA
  obtain ⟨v1, vs1, d1, ds1, p1, q1, rfl, rfl, rfl, h1, r1⟩ := trodAll_cons r0
  obtain ⟨v2, vs2, d2, ds2, p2, q2, rfl, rfl, rfl, h2, r2⟩ := trodAll_cons r1
  obtain ⟨rfl, rfl, rfl⟩ := trodAll_nil r2
  obtain rfl : args = #[v0, v1, v2] := by cases args; simp_all
  obtain ⟨rfl, rfl⟩ := trodVars_none hV
  have k0 := h0
  have lt0 : ∀ x ∈ p0, x.block < W.heap.size := by obtain ⟨m, hm⟩ := k0; exact DataW.trod_lt m _ _ _ hm
  obtain ⟨g0, hv0, hg0⟩ := open_game (hval 0 25 v0 rfl rfl) h0
  have k1 := h1
  have lt1 : ∀ x ∈ p1, x.block < W.heap.size := by obtain ⟨m, hm⟩ := k1; exact DataW.trod_lt m _ _ _ hm
  obtain ⟨vt1, ct1, cr1, cl1, hv1, hr1⟩ := open_carry (hval 1 43 v1 rfl rfl) h1
  have k2 := h2
  have lt2 : ∀ x ∈ p2, x.block < W.heap.size := by obtain ⟨m, hm⟩ := k2; exact DataW.trod_lt m _ _ _ hm
  obtain ⟨s2, vk2, ks2, hv2, hr2⟩ := open_sold (hval 2 70 v2 rfl rfl) h2
  clear hA0 hval0
  refine (walk v0 g0 v1 vt1 ct1 cr1 cl1 v2 s2 vk2 ks2 W hv0 hg0 hv1 hr1 hv2 hr2).mono fun e W' ⟨he, bel⟩ => ?_
  subst he
  exact ⟨_, rfl, _, _, _, [], _, [], hW', trodAll_mk1 (shut_bool Try.underlying4 _), (trodAll_cons_mk (Below.trod laidOut (by kernel_rfl) (of_decide_eq_true (by kernel_rfl)) k0 bel lt0) (trodAll_cons_mk (Below.trod laidOut (by kernel_rfl) (of_decide_eq_true (by kernel_rfl)) k1 bel lt1) (trodAll_cons_mk (Below.trod laidOut (by kernel_rfl) (of_decide_eq_true (by kernel_rfl)) k2 bel lt2) trodAll_mk0))), rfl, bel.frame _, fun h => by cases h⟩
theorem over : Rows.prizeBalancesRow.holds Try.pinned (OpenSpec.ofChange Rows.prizeBalancesSpec) :=
  OpenClaim.holds_of_wide 16 Try.f16 rfl rfl rfl rfl rfl rfl rfl ⟨rfl, rfl, rfl, rfl, rfl⟩ rfl rfl rfl rfl rfl (by kernel_rfl) Try.func16 (by kernel_rfl)
    (of_decide_eq_true (by kernel_rfl)) (by unfold Func.isWrapper; first | (rw [if_pos (by decide +kernel)]; kernel_rfl) | (rw [if_neg (by decide +kernel)]; exact ⟨rfl, rfl⟩))
    (fun os started H enc _ => lifted os started H enc)
/-- THE STATEMENT -/
theorem proved : Rows.PrizeBalancesSaid := over
end Go.Proofs.Ytdinjekpcgndmaa.prizeBalances
