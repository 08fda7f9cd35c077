/-
  Check of the reference of layer 12: the first error of a game.
-/
import Derived.Test.YtijdlggoaianbaaRNums
import Derived.Test.YtijdlggoaianbaaRTiers
import Derived.Test.YtijdlggoaianbaaRAddonsE
import Derived.Test.YtijdlggoaianbaaCheck
set_option linter.unusedVariables false
namespace Go.Proofs.Ytijdlggoaianbaa
open Go.RowKit
attribute [local go_sem ↓] Go.wp_at_zero Go.wp_at_succ
def RChkPost (g : Gm) (w : World) (e : Ending) (w' : World) : Prop := ∃ S : ByteArray, e = .returned (.tuple #[.int .i64 (chkE g), .string S]) ∧ Fr [] w w'
theorem rchk_post {g : Gm} {w w' : World} (E : Int) (S : ByteArray) (hE : chkE g = E) (hf : Fr [] w w') : RChkPost g w (.returned (.tuple #[.int .i64 E, .string S])) w' := by subst hE; exact ⟨S, rfl, hf⟩
theorem bad_of {g : Gm} (hn : nameB g.name = true) (hk : g.kind = 1 ∨ g.kind = 2) (hb : ¬ (badM g = false ∧ badT g = false)) : chkE g = 2 := by
  unfold chkE
  rw [if_neg (by simp [hn]), if_neg (by omega), if_pos]
  cases h1 : badM g <;> cases h2 : badT g <;> simp [h1, h2] at hb ⊢
theorem good_of {g : Gm} (hn : nameB g.name = true) (hk : g.kind = 1 ∨ g.kind = 2) (hb : badM g = false ∧ badT g = false) : chkE g = if addsE g.addons ≠ 0 then addsE g.addons else tisE g := by
  unfold chkE
  rw [if_neg (by simp [hn]), if_neg (by omega), if_neg (by simp [hb.1, hb.2])]
theorem badM_bd {g : Gm} (h : badM g = false) : g.main ≤ 10 ∧ g.bonus ≤ 4 ∧ g.extra ≤ 4 := by
  unfold badM inR at h
  simp only [Bool.not_eq_false', Bool.and_eq_true, decide_eq_true_eq] at h
  obtain ⟨⟨⟨⟨⟨⟨⟨⟨h1, h2⟩, h3⟩, h4⟩, h5⟩, h6⟩, h7⟩, h8⟩, h9⟩ := h
  split at h4 <;> split at h6 <;> omega
set_option maxRecDepth 20000 in
set_option maxHeartbeats 4000000 in
theorem rcheck_any (g : Gm) (w : World) (hok : g.Ok w) : Calls Try.prog 48 #[g.val] w (RChkPost g w) := by
  have hP := fun E S (w' : World) => @rchk_post g w w' E S
  have hA := fun w' (h : Fr [] w w') => raddons_any g.aa g.ac g.addons w' (hok.addons.fr h)
  have h20 : ∀ w b, GmAt w b g → w.cell? ⟨b, 20, none⟩ = some (.slice g.aa g.addons.length g.ac) := fun w b h => h.cell 20 _ rfl
  have h0 : ∀ w b, GmAt w b g → w.cell? ⟨b, 0, none⟩ = some (.string g.name) := fun w b h => h.cell 0 _ rfl
  have h1 : ∀ w b, GmAt w b g → w.cell? ⟨b, 1, none⟩ = some (.int .i64 g.kind) := fun w b h => h.cell 1 _ rfl
  have H20 := Lib.hid h20
  have H0 := Lib.hid h0
  have H1 := Lib.hid h1
  have HA := Lib.hid hA
  clear h20 h0 h1 hA
  cases hn : nameB g.name
  · have hE : chkE g = 4 := by unfold chkE; rw [if_pos hn]
    rw [hE] at hP
    have HP := Lib.hid hP
    clear hP hE hok
    go_enter Try.func48, Try.ntmps48
    go_wp2_with (first | (refine box_game rfl (.tmp 0) rfl g rfl ?_; intro w1 hg1 hz1 hf1; have c0 := H0.out _ _ hg1) | (go_at_call 61; refine (rname_any _ _).mono ?_; rintro e w' ⟨rfl, rfl⟩))
    go_ret2
    exact HP.out _ _ _ rfl hf1
  · by_cases hk : g.kind = 1 ∨ g.kind = 2
    · have hkb : (g.kind != 1) = false ∨ ((g.kind != 1) = true ∧ (g.kind != 2) = false) := by
        by_cases h1 : g.kind = 1
        · left; simp [h1]
        · right; have : g.kind = 2 := by omega
          simp [this]
      have hbad := bad_of hn hk
      have hgood := good_of hn hk
      have hiff := fld_iff g hk
      have hI := fun (hb : badM g = false) w' (h : Fr [] w w') => rtiers_any g w' (hok.tiers.fr h) hk (badM_bd hb).1 (badM_bd hb).2.1 (badM_bd hb).2.2
      have hL := fun w => lowest_any g w
      have hH := fun w => highest_any g w
      have hfb : ∀ j, inR ((numsL g).getD j 0) ((lowsL g).getD j 0) ((hisL g (difX g)).getD j 0) = fldB g j := fun j => rfl
      have hl2 : (lowsL g).length = 18 := rfl
      have hl3 : (hisL g (difX g)).length = 18 := by unfold hisL hisB; split <;> split <;> simp [hisX_len]
      have hl1 : (numsL g).length = 18 := rfl
      have hN := fun w => numbers_any g w
      have hgr : ∀ w b, GmAt w b g → w.rangeAt b 0 g.cells := fun w b h j v hv => by rw [Nat.zero_add]; exact h.cell j v hv
      simp only [agg_cells] at hL hH
      obtain ⟨cs, hcs⟩ : ∃ cs, cs = g.cells := ⟨_, rfl⟩
      have hcl : cs.length = 22 := by rw [hcs]; rfl
      rw [← hcs] at hL hH hgr
      generalize numsL g = l1 at *
      generalize lowsL g = l2 at *
      generalize hisL g (difX g) = l3 at *
      generalize chkE g = CE at *
      have HP := Lib.hid hP
      have HK := Lib.hid hk
      have HBAD := Lib.hid hbad
      have HGOOD := Lib.hid hgood
      have HIFF := Lib.hid hiff
      have HI := Lib.hid hI
      have HL := Lib.hid hL
      have HH := Lib.hid hH
      have HFB := Lib.hid hfb
      have HL1 := Lib.hid hl1
      have HL2 := Lib.hid hl2
      have HL3 := Lib.hid hl3
      have HN := Lib.hid hN
      have HGR := Lib.hid hgr
      have HCL := Lib.hid hcl
      clear hP hk hbad hgood hiff hI hL hH hfb hl1 hl2 hl3 hN hgr hcl hcs hok
      rcases hkb with hk1 | ⟨hk1, hk2⟩
      all_goals
        go_enter Try.func48, Try.ntmps48
        go_wp2_with (first | (refine box_game rfl (.tmp 0) rfl g rfl ?_; intro w1 hg1 hz1 hf1; have c0 := H0.out _ _ hg1; have c1 := H1.out _ _ hg1) | (go_at_call 61; refine (rname_any _ _).mono ?_; rintro e w' ⟨rfl, rfl⟩) | (refine load_game rfl (.tmp 1) rfl _ rfl g hg1 ?_))
        refine (HN.out _).mono ?_
        rintro e w2 ⟨b2, rfl, hr2, f2⟩
        have hF2 := hf1.trans f2
        have hg2 := hg1.fr f2 (by simp)
        clear f2 c0 c1 hg1 hf1 hz1 HN
        go_wp2_with fail
        go_loopw [5] (fun i wr => ∃ k : Nat, k ≤ 18 ∧ i = .int .i64 k ∧ Fr [] w2 wr ∧ Hid (∀ j, j < k → fldB g j = true)) (fun i _ => 18 - (intOf i).toNat)
        case atStart => exact ⟨0, by omega, rfl, Fr.refl _ _, Lib.hid (by omega)⟩
        case round =>
          obtain ⟨k, hk, rfl, hf, HJ⟩ := hrel
          have hgr := hg2.fr hf (by simp)
          have hrr := hr2.frk hf (by simp)
          by_cases hlt : k < 18
          · have d1 := rdi_at hrr k (by have := HL1.out; omega)
            have hR := HGR.out _ _ hgr
            have hu1 := Try.underlying47
            have hi1 : (Try.prog.info? 47).map (·.size) = some cs.length := by rw [HCL.out]; exact infoGame
            have hki : (k : Int) < 18 := by omega
            have hk0 : (0 : Int) ≤ (k : Int) := by omega
            have hfk := HFB.out k
            generalize l1.getD k 0 = x1 at *
            generalize hx2 : l2.getD k 0 = x2 at *
            generalize hx3 : l3.getD k 0 = x3 at *
            have HX2 := Lib.hid hx2
            have HX3 := Lib.hid hx3
            have hin := fun w => in_any x1 x2 x3 w
            rw [hfk] at hin
            have HIN := Lib.hid hin
            clear hx2 hx3 hfk hin hgr hrr
            go_wp2_with fail
            refine wp_region_held_drew (S := (fun w' => w'.rangeAt w.heap.size 0 cs ∧ w'.cell? ⟨b2, k, none⟩ = some (.int .i64 x1) ∧ Fr [] wr w')) (by kernel_rfl) ⟨hR, d1, (Fr.refl [] _).drew⟩ (fun hHeld => ?_)
            refine wpAnyH_take (i := 0) (oi := ⟨some 27, _, _, _, _, _⟩) (v := .slice (some ⟨b2, 0, none⟩) 18 18) rfl (by kernel_rfl) (by kernel_rfl) (by kernel_rfl) (fun _ _ _ h => h) (Or.inl ⟨by rfl, ?_⟩) hHeld ?_
            · intro w hSw; (try dsimp only at hSw); go_simp
            (try simp only [Act.put, List.setIfInBounds_toArray, List.set_cons_zero, List.set_cons_succ])
            refine wpAnyH_take (i := 1) (oi := ⟨some 28, _, _, _, _, _⟩) (v := .int .i64 k) rfl (by kernel_rfl) (by kernel_rfl) (by kernel_rfl) (fun _ _ _ h => h) (Or.inl ⟨by rfl, ?_⟩) hHeld ?_
            · intro w hSw; (try dsimp only at hSw); go_simp
            (try simp only [Act.put, List.setIfInBounds_toArray, List.set_cons_zero, List.set_cons_succ])
            refine wpAnyH_take (i := 2) (oi := ⟨some 29, _, _, _, _, _⟩) (v := .pointer (some ⟨b2, k, none⟩)) rfl (by kernel_rfl) (by kernel_rfl) (by kernel_rfl) (fun _ _ _ h => h) (Or.inl ⟨by rfl, ?_⟩) hHeld ?_
            · intro w hSw; (try dsimp only at hSw); go_simp
            (try simp only [Act.put, List.setIfInBounds_toArray, List.set_cons_zero, List.set_cons_succ])
            refine wpAnyH_take (i := 3) (oi := ⟨some 30, _, _, _, _, _⟩) (v := .int .i64 x1) rfl (by kernel_rfl) (by kernel_rfl) (by kernel_rfl) (fun _ _ _ h => h) (Or.inl ⟨by rfl, ?_⟩) hHeld ?_
            · intro w hSw; (try dsimp only at hSw); go_simp
            (try simp only [Act.put, List.setIfInBounds_toArray, List.set_cons_zero, List.set_cons_succ])
            refine' wpAnyH_take (i := 4) (oi := ⟨some 31, _, _, _, _, _⟩) (v := _) rfl (by kernel_rfl) (by kernel_rfl) (by kernel_rfl) (fun _ _ _ h => h) (yieldsIf_load_mid (by rfl) _ _ rfl _ _ rfl _ _ (fun w h => h.1) hu1 rfl hi1) hHeld ?_
            (try simp only [Act.put, List.setIfInBounds_toArray, List.set_cons_zero, List.set_cons_succ])
            refine wpAnyH_take (i := 6) (oi := ⟨some 33, _, _, _, _, _⟩) (v := .int .i64 k) rfl (by kernel_rfl) (by kernel_rfl) (by kernel_rfl) (fun _ _ _ h => h) (Or.inl ⟨by rfl, ?_⟩) hHeld ?_
            · intro w hSw; (try dsimp only at hSw); go_simp
            (try simp only [Act.put, List.setIfInBounds_toArray, List.set_cons_zero, List.set_cons_succ])
            refine' wpAnyH_take (i := 9) (oi := ⟨some 36, _, _, _, _, _⟩) (v := _) rfl (by kernel_rfl) (by kernel_rfl) (by kernel_rfl) (fun _ _ _ h => h) (yieldsIf_load_mid (by rfl) _ _ rfl _ _ rfl _ _ (fun w h => h.1) hu1 rfl hi1) hHeld ?_
            (try simp only [Act.put, List.setIfInBounds_toArray, List.set_cons_zero, List.set_cons_succ])
            refine wpAnyH_take (i := 11) (oi := ⟨some 38, _, _, _, _, _⟩) (v := .int .i64 k) rfl (by kernel_rfl) (by kernel_rfl) (by kernel_rfl) (fun _ _ _ h => h) (Or.inl ⟨by rfl, ?_⟩) hHeld ?_
            · intro w hSw; (try dsimp only at hSw); go_simp
            (try simp only [Act.put, List.setIfInBounds_toArray, List.set_cons_zero, List.set_cons_succ])
            refine wpAnyH_ready (rs := [5]) (by kernel_rfl) (by simp) ?_
            refine AllReadyH.cons (o := ⟨some 32, _, _, _, _, _⟩) rfl (fun K hK => ?_) AllReadyH.nil
            rw [if_pos (by rfl)]
            go_simp
            refine (HL.out _).mono ?_
            rintro e w3 ⟨b3, rfl, hr3, fr⟩
            have d3 := rdi_at hr3 k (by have := HL2.out; omega)
            rw [HX2.out] at d3
            refine hK.out _ _ (⟨fr.range hHeld.1, fr.cell_some hHeld.2.1 (by simp), hHeld.2.2.trans fr⟩) (fun hHeld' => ?_)
            clear hK K hHeld
            have hHeld := hHeld'
            clear hHeld'
            (try simp only [Act.put, List.setIfInBounds_toArray, List.set_cons_zero, List.set_cons_succ])
            refine wpAnyH_str (S' := (fun w' => (w'.rangeAt w.heap.size 0 cs ∧ w'.cell? ⟨b2, k, none⟩ = some (.int .i64 x1) ∧ Fr [] wr w') ∧ w'.cell? ⟨b3, k, none⟩ = some (.int .i64 x2))) (fun w' h => h.1) _ _ _ _ ?_
            have hHeld' := And.intro hHeld d3
            clear hHeld d3 hr3 fr
            have hHeld := hHeld'
            clear hHeld'
            refine wpAnyH_take (i := 7) (oi := ⟨some 34, _, _, _, _, _⟩) (v := .pointer (some ⟨b3, k, none⟩)) rfl (by kernel_rfl) (by kernel_rfl) (by kernel_rfl) (fun _ _ _ h => h) (Or.inl ⟨by rfl, ?_⟩) hHeld ?_
            · intro w hSw; (try dsimp only at hSw); go_simp
            (try simp only [Act.put, List.setIfInBounds_toArray, List.set_cons_zero, List.set_cons_succ])
            refine wpAnyH_take (i := 8) (oi := ⟨some 35, _, _, _, _, _⟩) (v := .int .i64 x2) rfl (by kernel_rfl) (by kernel_rfl) (by kernel_rfl) (fun _ _ _ h => h) (Or.inl ⟨by rfl, ?_⟩) hHeld ?_
            · intro w hSw; (try dsimp only at hSw); go_simp
            (try simp only [Act.put, List.setIfInBounds_toArray, List.set_cons_zero, List.set_cons_succ])
            refine wpAnyH_ready (rs := [10]) (by kernel_rfl) (by simp) ?_
            refine AllReadyH.cons (o := ⟨some 37, _, _, _, _, _⟩) rfl (fun K hK => ?_) AllReadyH.nil
            rw [if_pos (by rfl)]
            go_simp
            refine (HH.out _).mono ?_
            rintro e w4 ⟨b4, rfl, hr4, fr⟩
            have d4 := rdi_at hr4 k (by have := HL3.out; omega)
            rw [HX3.out] at d4
            refine hK.out _ _ (⟨⟨fr.range hHeld.1.1, fr.cell_some hHeld.1.2.1 (by simp), hHeld.1.2.2.trans fr⟩, fr.cell_some hHeld.2 (by simp)⟩) (fun hHeld' => ?_)
            clear hK K hHeld
            have hHeld := hHeld'
            clear hHeld'
            (try simp only [Act.put, List.setIfInBounds_toArray, List.set_cons_zero, List.set_cons_succ])
            refine wpAnyH_str (S' := (fun w' => ((w'.rangeAt w.heap.size 0 cs ∧ w'.cell? ⟨b2, k, none⟩ = some (.int .i64 x1) ∧ Fr [] wr w') ∧ w'.cell? ⟨b3, k, none⟩ = some (.int .i64 x2)) ∧ w'.cell? ⟨b4, k, none⟩ = some (.int .i64 x3))) (fun w' h => h.1) _ _ _ _ ?_
            have hHeld' := And.intro hHeld d4
            clear hHeld d4 hr4 fr
            have hHeld := hHeld'
            clear hHeld'
            refine wpAnyH_take (i := 12) (oi := ⟨some 39, _, _, _, _, _⟩) (v := .pointer (some ⟨b4, k, none⟩)) rfl (by kernel_rfl) (by kernel_rfl) (by kernel_rfl) (fun _ _ _ h => h) (Or.inl ⟨by rfl, ?_⟩) hHeld ?_
            · intro w hSw; (try dsimp only at hSw); go_simp
            (try simp only [Act.put, List.setIfInBounds_toArray, List.set_cons_zero, List.set_cons_succ])
            refine wpAnyH_take (i := 13) (oi := ⟨some 40, _, _, _, _, _⟩) (v := .int .i64 x3) rfl (by kernel_rfl) (by kernel_rfl) (by kernel_rfl) (fun _ _ _ h => h) (Or.inl ⟨by rfl, ?_⟩) hHeld ?_
            · intro w hSw; (try dsimp only at hSw); go_simp
            (try simp only [Act.put, List.setIfInBounds_toArray, List.set_cons_zero, List.set_cons_succ])
            refine wpAnyH_ready (rs := [14]) (by kernel_rfl) (by simp) ?_
            refine AllReadyH.cons (o := ⟨some 41, _, _, _, _, _⟩) rfl (fun K hK => ?_) AllReadyH.nil
            rw [if_pos (by rfl)]
            go_simp
            refine (HIN.out _).mono ?_
            rintro e w5 ⟨rfl, rfl⟩
            refine hK.out _ _ (hHeld) (fun hHeld' => ?_)
            clear hK K hHeld
            have hHeld := hHeld'
            clear hHeld'
            (try simp only [Act.put, List.setIfInBounds_toArray, List.set_cons_zero, List.set_cons_succ])
            refine wpAnyH_take (i := 15) (oi := ⟨some 42, _, _, _, _, _⟩) (v := .bool (!fldB g k)) rfl (by kernel_rfl) (by kernel_rfl) (by kernel_rfl) (fun _ _ _ h => h) (Or.inl ⟨by rfl, ?_⟩) hHeld ?_
            · intro w hSw; (try dsimp only at hSw); go_simp
            (try simp only [Act.put, List.setIfInBounds_toArray, List.set_cons_zero, List.set_cons_succ])
            have hW := hHeld.1.1.2.2
            clear hHeld d1 hR hu1 hi1
            refine wpAnyH_done (by kernel_rfl) ?_ _
            cases hb : fldB g k
            · have hce : CE = 2 := HBAD.out (fun h => by have := HIFF.out.2 h k hlt; rw [hb] at this; simp at this)
              have HCE := Lib.hid hce
              have HW := Lib.hid hW
              clear hce hW hb
              go_wp2_with fail
              refine wp_region_held_drew (S := (fun w' => Fr [] w4 w')) (by kernel_rfl) (Fr.refl [] _).drew (fun hHeld => ?_)
              refine wpAnyH_take (i := 1) (oi := ⟨some 44, _, _, _, _, _⟩) (v := .int .i64 k) rfl (by kernel_rfl) (by kernel_rfl) (by kernel_rfl) (fun _ _ _ h => h) (Or.inl ⟨by rfl, ?_⟩) hHeld ?_
              · intro w hSw; (try dsimp only at hSw); go_simp
              (try simp only [Act.put, List.setIfInBounds_toArray, List.set_cons_zero, List.set_cons_succ])
              refine wpAnyH_ready (rs := [0]) (by kernel_rfl) (by simp) ?_
              refine AllReadyH.cons (o := ⟨some 43, _, _, _, _, _⟩) rfl (fun K hK => ?_) AllReadyH.nil
              rw [if_pos (by rfl)]
              go_simp
              refine (fields_any _).mono ?_
              rintro e w6 ⟨b6, rfl, hr6, fr⟩
              obtain ⟨S6, d6⟩ := hr6 k hlt
              refine hK.out _ _ (hHeld.trans fr) (fun hHeld' => ?_)
              clear hK K hHeld
              have hHeld := hHeld'
              clear hHeld'
              (try simp only [Act.put, List.setIfInBounds_toArray, List.set_cons_zero, List.set_cons_succ])
              refine wpAnyH_str (S' := (fun w' => Fr [] w4 w' ∧ w'.cell? ⟨b6, k, none⟩ = some (.string S6))) (fun w' h => h.1) _ _ _ _ ?_
              have hHeld' := And.intro hHeld d6
              clear hHeld d6 hr6 fr
              have hHeld := hHeld'
              clear hHeld'
              refine wpAnyH_take (i := 2) (oi := ⟨some 45, _, _, _, _, _⟩) (v := .pointer (some ⟨b6, k, none⟩)) rfl (by kernel_rfl) (by kernel_rfl) (by kernel_rfl) (fun _ _ _ h => h) (Or.inl ⟨by rfl, ?_⟩) hHeld ?_
              · intro w hSw; (try dsimp only at hSw); go_simp
              (try simp only [Act.put, List.setIfInBounds_toArray, List.set_cons_zero, List.set_cons_succ])
              refine wpAnyH_take (i := 3) (oi := ⟨some 46, _, _, _, _, _⟩) (v := .string S6) rfl (by kernel_rfl) (by kernel_rfl) (by kernel_rfl) (fun _ _ _ h => h) (Or.inl ⟨by rfl, ?_⟩) hHeld ?_
              · intro w hSw; (try dsimp only at hSw); go_simp
              (try simp only [Act.put, List.setIfInBounds_toArray, List.set_cons_zero, List.set_cons_succ])
              refine wpAnyH_take (i := 4) (oi := ⟨some 2, _, _, _, _, _⟩) (v := .int .i64 2) rfl (by kernel_rfl) (by kernel_rfl) (by kernel_rfl) (fun _ _ _ h => h) (Or.inl ⟨by rfl, ?_⟩) hHeld ?_
              · intro w hSw; (try dsimp only at hSw); go_simp
              (try simp only [Act.put, List.setIfInBounds_toArray, List.set_cons_zero, List.set_cons_succ])
              refine wpAnyH_take (i := 5) (oi := ⟨some 3, _, _, _, _, _⟩) (v := .string S6) rfl (by kernel_rfl) (by kernel_rfl) (by kernel_rfl) (fun _ _ _ h => h) (Or.inl ⟨by rfl, ?_⟩) hHeld ?_
              · intro w hSw; (try dsimp only at hSw); go_simp
              (try simp only [Act.put, List.setIfInBounds_toArray, List.set_cons_zero, List.set_cons_succ])
              have hW2 := hHeld.1
              clear hHeld
              refine wpAnyH_done (by kernel_rfl) ?_ _
              have HW2 := Lib.hid hW2
              clear hW2
              go_wp2_with fail
              go_ret2
              exact HP.out _ _ _ HCE.out ((hF2.trans hf).trans (HW.out.trans HW2.out))
            · have hj : ∀ j, j < k + 1 → fldB g j = true := by
                intro j hj
                by_cases hjk : j < k
                · exact HJ.out j hjk
                · obtain rfl : j = k := by omega
                  exact hb
              have HJ2 := Lib.hid hj
              have HW := Lib.hid hW
              clear hj hW
              go_wp2_with fail
              exact ⟨⟨k + 1, by omega, by go_num, hf.trans HW.out, HJ2⟩, by simp [intOf]; omega⟩
          · obtain rfl : k = 18 := by omega
            have hbb := HIFF.out.1 HJ.out
            have hce := HGOOD.out hbb
            have hti := HI.out hbb.1
            have hF := hF2.trans hf
            have c20 := H20.out _ _ hgr
            generalize addsE g.addons = ea at *
            generalize tisE g = et at *
            have HCE := Lib.hid hce
            have HTI := Lib.hid hti
            clear hce hti hbb hrr
            go_wp2_with fail
            refine (HA.out _ hF).mono ?_
            rintro e w4 ⟨rfl, f4⟩
            have hg4 := hgr.fr f4 (by simp)
            have hF4 := hF.trans f4
            clear c20 f4 hgr
            by_cases he : ea = 0
            · subst he
              have hce := HCE.out
              simp only [ne_eq, not_true_eq_false, if_false] at hce
              have HCE2 := Lib.hid hce
              clear hce HCE
              go_wp2_with (refine load_game rfl (.tmp 1) rfl _ rfl g hg4 ?_)
              refine (HTI.out _ hF4).mono ?_
              rintro e w5 ⟨rfl, f5⟩
              have hF5 := hF4.trans f5
              clear f5 HTI
              by_cases ht : et = 0
              · subst ht
                go_wp2_with fail
                go_ret2
                exact HP.out _ _ _ HCE2.out hF5
              · have dt : (et != 0) = true := by simpa using ht
                clear ht
                go_wp2_with fail
                go_ret2
                exact HP.out _ _ _ HCE2.out hF5
            · have de : (ea != 0) = true := by simpa using he
              have hce := HCE.out
              rw [if_pos he] at hce
              have HCE2 := Lib.hid hce
              clear hce HCE he
              go_wp2_with fail
              go_ret2
              exact HP.out _ _ _ HCE2.out hF4
    · have hE : chkE g = 7 := by unfold chkE; rw [if_neg (by simp [hn]), if_pos (by omega)]
      have hk1 : (g.kind != 1) = true := by simp; omega
      have hk2 : (g.kind != 2) = true := by simp; omega
      rw [hE] at hP
      have HP := Lib.hid hP
      clear hP hE hok hk
      go_enter Try.func48, Try.ntmps48
      go_wp2_with (first | (refine box_game rfl (.tmp 0) rfl g rfl ?_; intro w1 hg1 hz1 hf1; have c0 := H0.out _ _ hg1; have c1 := H1.out _ _ hg1) | (go_at_call 61; refine (rname_any _ _).mono ?_; rintro e w' ⟨rfl, rfl⟩))
      go_ret2
      exact HP.out _ _ _ rfl hf1
end Go.Proofs.Ytijdlggoaianbaa
