/-
  Tiers of the reference of layer 12: the first error of a game's tiers. Conditions: the game's kind and fields are in range.
-/
import Derived.Test.YtijdlggoaianbaaRTier
import Derived.Test.YtijdlggoaianbaaRCov
import Derived.Test.YtijdlggoaianbaaTiers
set_option linter.unusedVariables false
namespace Go.Proofs.Ytijdlggoaianbaa
open Go.RowKit
attribute [local go_sem ↓] Go.wp_at_zero Go.wp_at_succ
theorem agg_cells (g : Gm) : g.val = .agg g.cells.toArray := rfl
theorem keepR {w w' : World} {b c : Nat} {cs ds : List Value} {v : Value} {w0 : World} (h : w.rangeAt b 0 cs ∧ w.cell? ⟨b, 21, none⟩ = some v ∧ w.rangeAt c 0 ds ∧ Fr [] w0 w) (hf : Fr [] w w') :
    w'.rangeAt b 0 cs ∧ w'.cell? ⟨b, 21, none⟩ = some v ∧ w'.rangeAt c 0 ds ∧ Fr [] w0 w' := ⟨hf.range h.1, hf.cell_some h.2.1 (by simp), hf.range h.2.2.1, h.2.2.2.trans hf⟩
set_option maxRecDepth 20000 in
set_option maxHeartbeats 4000000 in
theorem rtiers_any (g : Gm) (w : World) (hok : Tis w g.ta g.tc g.tiers) (hk : g.kind = 1 ∨ g.kind = 2) (hm : g.main ≤ 10) (hb : g.bonus ≤ 4) (he : g.extra ≤ 4) :
    Calls Try.prog 68 #[g.val] w fun e w' => e = .returned (.int .i64 (tisE g)) ∧ Fr [] w w' := by
  have hle := hok.rd.len.2
  unfold maxLen at hle
  obtain ⟨E, hE⟩ : ∃ E, E = tisE g := ⟨_, rfl⟩
  rw [← hE]
  simp only [tisE] at hE
  obtain ⟨n, hN⟩ : ∃ n, n = g.tiers.length := ⟨_, rfl⟩
  rw [← hN] at hE hle
  have h21 : ∀ w b, GmAt w b g → w.cell? ⟨b, 21, none⟩ = some (.slice g.ta n g.tc) := by intro w b h; rw [hN]; exact h.cell 21 _ rfl
  have H21 := Lib.hid h21
  clear h21
  cases hi : inR (n : Int) 1 12
  · have hv : E = 3 := by rw [hE, hi]; rfl
    have HV := Lib.hid hv
    have HN := Lib.hid hN
    clear hv hE hN hok
    go_enter Try.func68, Try.ntmps68
    go_wp2_with (first | (refine box_game rfl (.tmp 0) rfl g rfl ?_; intro w1 hg1 hz1 hf1; have c21 := H21.out _ _ hg1) | (go_at_call 63; refine (in_any _ _ _ _).mono ?_; rintro e w' ⟨rfl, rfl⟩))
    go_ret
    exact ⟨ret_i HV.out.symm, hf1⟩
  · have hn12 := inR_of hi
    have hv : E = tisTo g g.tiers n 0 := by rw [hE, hi]; rfl
    have hC := fun (t : Ti) (w : World) => rtier_any g t w hk hm hb he
    have hV := fun (a b : Ti) (w : World) (ha : tiE g a = 0) (hb : tiE g b = 0) => rcov_any g a b w hk ha hb
    simp only [agg_cells] at hC hV
    obtain ⟨cs, hcs⟩ : ∃ cs, cs = g.cells := ⟨_, rfl⟩
    have hcl : cs.length = 22 := by rw [hcs]; rfl
    have hgr : ∀ w b, GmAt w b g → w.rangeAt b 0 cs := fun w b h j v hv => by rw [Nat.zero_add]; exact h.cell j v (by rw [← hcs]; exact hv)
    rw [← hcs] at hC hV
    have HV := Lib.hid hv
    have HN := Lib.hid hN
    have HC := Lib.hid hC
    have HCV := Lib.hid hV
    have HCL := Lib.hid hcl
    have HGR := Lib.hid hgr
    obtain ⟨x0, hx0⟩ : ∃ x, g.tiers[0]? = some x := ⟨_, List.getElem?_eq_getElem (by omega)⟩
    obtain ⟨b, o, hta, _⟩ := RdF.at (f := Ti.cells) hok.rd hx0
    have HTA := Lib.hid hta
    have h21' := H21.out
    rw [hta] at h21'
    have H21' := Lib.hid h21'
    clear hx0 hta h21' H21
    have HOK := Lib.hid hok
    have hn1 : (1 : Int) ≤ n := hn12.1
    have hn2 : (n : Int) ≤ 12 := hn12.2
    clear hv hE hN hC hV hok hn12 hcl hgr hcs hk hm hb he
    go_enter Try.func68, Try.ntmps68
    go_wp2_with (first | (refine box_game rfl (.tmp 0) rfl g rfl ?_; intro w1 hg1 hz1 hf1; have c21 := H21'.out _ _ hg1) | (go_at_call 63; refine (in_any _ _ _ _).mono ?_; rintro e w' ⟨rfl, rfl⟩))
    have HZ1 := Lib.hid hz1
    have hR1 := HGR.out _ _ hg1
    clear hz1
    go_loopw [3] (fun i wr => ∃ k : Nat, k ≤ n ∧ i = .int .i64 k ∧ Fr [] w1 wr ∧ Hid (E = tisTo g g.tiers (n - k) k) ∧ Hid (∀ j x, j < k → g.tiers[j]? = some x → tiE g x = 0)) (fun i _ => n - (intOf i).toNat)
    case atStart => exact ⟨0, by omega, rfl, Fr.refl _ _, HV, Lib.hid (by omega)⟩
    case round =>
      obtain ⟨k, hk, rfl, hf, HT, HP⟩ := hrel
      by_cases hlt : k < n
      · obtain ⟨x, hx⟩ : ∃ x, g.tiers[k]? = some x := ⟨_, List.getElem?_eq_getElem (by have := HN.out; omega)⟩
        obtain ⟨b', o', hta', hcell⟩ := RdF.at (f := Ti.cells) HOK.out.rd hx
        rw [HTA.out] at hta'
        simp only [Option.some.injEq, Addr.mk.injEq, and_true] at hta'
        obtain ⟨rfl, rfl⟩ := hta'
        have hfu : n - k = (n - (k + 1)) + 1 := by omega
        have hT := HT.out
        rw [hfu] at hT
        have hTe : tiE g x ≠ 0 → E = tiE g x := fun h => hT.trans (tisTo_err hx h)
        have hTs : tiE g x = 0 → covered g g.tiers k x = true → E = 6 := fun h h2 => hT.trans (tisTo_cov hx h h2)
        have hTg : tiE g x = 0 → covered g g.tiers k x = false → E = tisTo g g.tiers (n - (k + 1)) (k + 1) := fun h h2 => hT.trans (tisTo_go hx h h2)
        have hcy := fun j y (hj : j < k) (hy : g.tiers[j]? = some y) => covered_yes (g := g) (t := x) hj hy
        have hcn := covered_no (g := g) (l := g.tiers) (k := k) (t := x)
        have hcx := HC.out x
        have hvx := fun a => HCV.out a x
        have hF := (hf1.trans hf)
        have r21 := hf.cell_some c21 (by simp)
        have rG := hf.range hR1
        have c0 := hF.cell_some (hcell 0 _ rfl) (by simp)
        have c1 := hF.cell_some (hcell 1 _ rfl) (by simp)
        have c2 := hF.cell_some (hcell 2 _ rfl) (by simp)
        have c3 := hF.cell_some (hcell 3 _ rfl) (by simp)
        have c4 := hF.cell_some (hcell 4 _ rfl) (by simp)
        have c5 := hF.cell_some (hcell 5 _ rfl) (by simp)
        rw [Nat.add_zero] at c0
        have hpn : tiE g x = 0 → ∀ j y, j < k + 1 → g.tiers[j]? = some y → tiE g y = 0 := by
          intro h j y hj hy
          by_cases hjk : j < k
          · exact HP.out j y hjk hy
          · obtain rfl : j = k := by omega
            rw [hx] at hy
            obtain rfl := Option.some.inj hy
            exact h
        have HPN := Lib.hid hpn
        have HX := Lib.hid hx
        clear hpn
        generalize hq : tiE g x = e1 at *
        have HQ := Lib.hid hq
        clear hq
        generalize covered g g.tiers k x = q at *
        obtain ⟨tm, tb, te, to_, tk, tv⟩ := x
        simp only [Ti.val] at hcx hvx
        simp only at c0 c1 c2 c3 c4 c5
        have HTE := Lib.hid hTe
        have HTS := Lib.hid hTs
        have HTG := Lib.hid hTg
        have HCY := Lib.hid hcy
        have HCN := Lib.hid hcn
        have HCX := Lib.hid hcx
        have HVX := Lib.hid hvx
        have hkn : (k : Int) < (n : Int) := by omega
        have hk0 : (0 : Int) ≤ (k : Int) := by omega
        clear hcell hT hfu hTe hTs hTg hcy hcn hcx hvx hx HT
        obtain ⟨wo, rfl⟩ : ∃ wo : World, wo = wr := ⟨_, rfl⟩
        go_wp2_with fail
        have hu1 := Try.underlying47
        have hi1 : (Try.prog.info? 47).map (·.size) = some cs.length := by rw [HCL.out]; exact infoGame
        have hkeep : ∀ w', Fr [] wo w' → (w'.rangeAt w.heap.size 0 cs ∧ w'.cell? ⟨w.heap.size, 21, none⟩ = some (.slice (some ⟨b, o, none⟩) n g.tc) ∧ w'.cell? ⟨b, o + k * 6, none⟩ = some (.int .i64 tm) ∧ w'.cell? ⟨b, o + k * 6 + 1, none⟩ = some (.int .i64 tb) ∧ w'.cell? ⟨b, o + k * 6 + 2, none⟩ = some (.int .i64 te) ∧ w'.cell? ⟨b, o + k * 6 + 3, none⟩ = some (.int .i64 to_) ∧ w'.cell? ⟨b, o + k * 6 + 4, none⟩ = some (.int .i64 tk) ∧ w'.cell? ⟨b, o + k * 6 + 5, none⟩ = some (.int .i64 tv) ∧ Fr [] wo w') :=
          fun w' fr => ⟨fr.range rG, fr.cell_some r21 (by simp), fr.cell_some c0 (by simp), fr.cell_some c1 (by simp), fr.cell_some c2 (by simp), fr.cell_some c3 (by simp), fr.cell_some c4 (by simp), fr.cell_some c5 (by simp), fr⟩
        have HK := Lib.hid hkeep
        clear hkeep c0 c1 c2 c3 c4 c5 r21
        refine wp_region_held_drew (S := (fun w' => w'.rangeAt w.heap.size 0 cs ∧ w'.cell? ⟨w.heap.size, 21, none⟩ = some (.slice (some ⟨b, o, none⟩) n g.tc) ∧ w'.cell? ⟨b, o + k * 6, none⟩ = some (.int .i64 tm) ∧ w'.cell? ⟨b, o + k * 6 + 1, none⟩ = some (.int .i64 tb) ∧ w'.cell? ⟨b, o + k * 6 + 2, none⟩ = some (.int .i64 te) ∧ w'.cell? ⟨b, o + k * 6 + 3, none⟩ = some (.int .i64 to_) ∧ w'.cell? ⟨b, o + k * 6 + 4, none⟩ = some (.int .i64 tk) ∧ w'.cell? ⟨b, o + k * 6 + 5, none⟩ = some (.int .i64 tv) ∧ Fr [] wo w')) (by kernel_rfl) (HK.out _ (Fr.refl [] _).drew) (fun hHeld => ?_)
        refine' wpAnyH_take (i := 0) (oi := ⟨some 18, _, _, _, _, _⟩) (v := _) rfl (by kernel_rfl) (by kernel_rfl) (by kernel_rfl) (fun _ _ _ h => h) (yieldsIf_load_mid (by rfl) _ _ rfl _ _ rfl _ _ (fun w h => h.1) hu1 rfl hi1) hHeld ?_
        (try simp only [Act.put, List.setIfInBounds_toArray, List.set_cons_zero, List.set_cons_succ])
        refine wpAnyH_take (i := 1) (oi := ⟨some 19, _, _, _, _, _⟩) (v := .pointer (some ⟨w.heap.size, 21, none⟩)) rfl (by kernel_rfl) (by kernel_rfl) (by kernel_rfl) (fun _ _ _ h => h) (Or.inl ⟨by rfl, ?_⟩) hHeld ?_
        · intro w hSw; (try dsimp only at hSw); go_simp
        (try simp only [Act.put, List.setIfInBounds_toArray, List.set_cons_zero, List.set_cons_succ])
        refine wpAnyH_take (i := 2) (oi := ⟨some 20, _, _, _, _, _⟩) (v := .slice (some ⟨b, o, none⟩) n g.tc) rfl (by kernel_rfl) (by kernel_rfl) (by kernel_rfl) (fun _ _ _ h => h) (Or.inl ⟨by rfl, ?_⟩) hHeld ?_
        · intro w hSw; (try dsimp only at hSw); go_simp
        (try simp only [Act.put, List.setIfInBounds_toArray, List.set_cons_zero, List.set_cons_succ])
        refine wpAnyH_take (i := 3) (oi := ⟨some 21, _, _, _, _, _⟩) (v := .int .i64 k) rfl (by kernel_rfl) (by kernel_rfl) (by kernel_rfl) (fun _ _ _ h => h) (Or.inl ⟨by rfl, ?_⟩) hHeld ?_
        · intro w hSw; (try dsimp only at hSw); go_simp
        (try simp only [Act.put, List.setIfInBounds_toArray, List.set_cons_zero, List.set_cons_succ])
        refine wpAnyH_take (i := 4) (oi := ⟨some 22, _, _, _, _, _⟩) (v := .pointer (some ⟨b, o + k * 6, none⟩)) rfl (by kernel_rfl) (by kernel_rfl) (by kernel_rfl) (fun _ _ _ h => h) (Or.inl ⟨by rfl, ?_⟩) hHeld ?_
        · intro w hSw; (try dsimp only at hSw); go_simp
        (try simp only [Act.put, List.setIfInBounds_toArray, List.set_cons_zero, List.set_cons_succ])
        refine wpAnyH_take (i := 5) (oi := ⟨some 23, _, _, _, _, _⟩) (v := .agg #[.int .i64 tm, .int .i64 tb, .int .i64 te, .int .i64 to_, .int .i64 tk, .int .i64 tv]) rfl (by kernel_rfl) (by kernel_rfl) (by kernel_rfl) (fun _ _ _ h => h) (Or.inl ⟨by rfl, ?_⟩) hHeld ?_
        · intro w hSw; (try dsimp only at hSw); go_simp
        (try simp only [Act.put, List.setIfInBounds_toArray, List.set_cons_zero, List.set_cons_succ])
        refine wpAnyH_ready (rs := [6]) (by kernel_rfl) (by simp) ?_
        refine AllReadyH.cons (o := ⟨some 24, _, _, _, _, _⟩) rfl (fun K hK => ?_) AllReadyH.nil
        rw [if_pos (by rfl)]
        go_simp
        refine (HCX.out _).mono ?_
        rintro e w3 ⟨rfl, fr⟩
        refine hK.out _ _ (HK.out _ (hHeld.2.2.2.2.2.2.2.2.trans fr)) (fun hHeld' => ?_)
        clear hK K fr hHeld
        have hHeld := hHeld'
        clear hHeld'
        (try simp only [Act.put, List.setIfInBounds_toArray, List.set_cons_zero, List.set_cons_succ])
        refine wpAnyH_take (i := 7) (oi := ⟨some 4, _, _, _, _, _⟩) (v := .int .i64 e1) rfl (by kernel_rfl) (by kernel_rfl) (by kernel_rfl) (fun _ _ _ h => h) (Or.inl ⟨by rfl, ?_⟩) hHeld ?_
        · intro w hSw; (try dsimp only at hSw); go_simp
        (try simp only [Act.put, List.setIfInBounds_toArray, List.set_cons_zero, List.set_cons_succ])
        have hW3 : Fr [] wo w3 := hHeld.2.2.2.2.2.2.2.2
        refine wpAnyH_done (by kernel_rfl) ?_ _
        by_cases hez : e1 = 0
        · subst hez
          have hd0 : decide ((0 : Int) ≠ 0) = false := rfl
          have HE0 := Lib.hid (HPN.out rfl)
          have HKW := Lib.hid hW3
          have r21 := (hf.trans hW3).cell_some c21 (by simp)
          have rG3 := hW3.range rG
          have hHK : ∀ w', Fr [] w3 w' → _ := fun w' fr => HK.out w' (hW3.trans fr)
          have HK3 := Lib.hid hHK
          clear hHeld hHK hd0 HK
          go_wp2_with fail
          go_loopw [5] (fun i wr => ∃ j : Nat, j ≤ k ∧ i = .int .i64 j ∧ Fr [] w3 wr ∧ Hid (∀ i x, i < j → g.tiers[i]? = some x → covB g x ⟨tm, tb, te, to_, tk, tv⟩ = false)) (fun i _ => k - (intOf i).toNat)
          case atStart => exact ⟨0, by omega, rfl, Fr.refl _ _, Lib.hid (by omega)⟩
          case round =>
            obtain ⟨j, hj, rfl, hg, HJ⟩ := hrel
            by_cases hlt3 : j < k
            · obtain ⟨y, hy⟩ : ∃ y, g.tiers[j]? = some y := ⟨_, List.getElem?_eq_getElem (by have := HN.out; omega)⟩
              obtain ⟨b', o', hta', hcell'⟩ := RdF.at (f := Ti.cells) HOK.out.rd hy
              rw [HTA.out] at hta'
              simp only [Option.some.injEq, Addr.mk.injEq, and_true] at hta'
              obtain ⟨rfl, rfl⟩ := hta'
              have hFF := (hF.trans HKW.out).trans hg
              have c0 := hFF.cell_some (hcell' 0 _ rfl) (by simp)
              have c1 := hFF.cell_some (hcell' 1 _ rfl) (by simp)
              have c2 := hFF.cell_some (hcell' 2 _ rfl) (by simp)
              have c3 := hFF.cell_some (hcell' 3 _ rfl) (by simp)
              have c4 := hFF.cell_some (hcell' 4 _ rfl) (by simp)
              have c5 := hFF.cell_some (hcell' 5 _ rfl) (by simp)
              rw [Nat.add_zero] at c0
              have hye := HP.out j y hlt3 hy
              have hvy := fun w => HVX.out y w hye (by first | trivial | rfl)
              have hyes := HCY.out j y hlt3 hy
              have hno : covB g y ⟨tm, tb, te, to_, tk, tv⟩ = false → ∀ i x, i < j + 1 → g.tiers[i]? = some x → covB g x ⟨tm, tb, te, to_, tk, tv⟩ = false := by
                intro h i x hi hx
                by_cases hij : i < j
                · exact HJ.out i x hij hx
                · obtain rfl : i = j := by omega
                  rw [hy] at hx
                  obtain rfl := Option.some.inj hx
                  exact h
              generalize covB g y ⟨tm, tb, te, to_, tk, tv⟩ = cq at *
              obtain ⟨ym, yb, ye, yo, yk, yv⟩ := y
              simp only at c0 c1 c2 c3 c4 c5 hvy
              have HVY := Lib.hid hvy
              have HYES := Lib.hid hyes
              have HNO := Lib.hid hno
              have hjk : (j : Int) < (k : Int) := by omega
              have hjn : (j : Int) < (n : Int) := by omega
              have hj0 : (0 : Int) ≤ (j : Int) := by omega
              have x21 := hg.cell_some r21 (by simp)
              have hkeep4 : ∀ w', Fr [] wr w' → (w'.cell? ⟨b, o + j * 6, none⟩ = some (.int .i64 ym) ∧ w'.cell? ⟨b, o + j * 6 + 1, none⟩ = some (.int .i64 yb) ∧ w'.cell? ⟨b, o + j * 6 + 2, none⟩ = some (.int .i64 ye) ∧ w'.cell? ⟨b, o + j * 6 + 3, none⟩ = some (.int .i64 yo) ∧ w'.cell? ⟨b, o + j * 6 + 4, none⟩ = some (.int .i64 yk) ∧ w'.cell? ⟨b, o + j * 6 + 5, none⟩ = some (.int .i64 yv) ∧ Fr [] wr w') :=
                fun w' fr => ⟨fr.cell_some c0 (by simp), fr.cell_some c1 (by simp), fr.cell_some c2 (by simp), fr.cell_some c3 (by simp), fr.cell_some c4 (by simp), fr.cell_some c5 (by simp), fr⟩
              have HK4 := Lib.hid hkeep4
              have HK5 := Lib.hid (fun w' (fr : Fr [] wr w') => HK3.out w' (hg.trans fr))
              clear hy hcell' hvy hyes hno hFF HJ hye hkeep4 c0 c1 c2 c3 c4 c5
              go_wp2_with fail
              refine wp_region_held_drew (S := (fun w' => (w'.rangeAt w.heap.size 0 cs ∧ w'.cell? ⟨w.heap.size, 21, none⟩ = some (.slice (some ⟨b, o, none⟩) n g.tc) ∧ w'.cell? ⟨b, o + k * 6, none⟩ = some (.int .i64 tm) ∧ w'.cell? ⟨b, o + k * 6 + 1, none⟩ = some (.int .i64 tb) ∧ w'.cell? ⟨b, o + k * 6 + 2, none⟩ = some (.int .i64 te) ∧ w'.cell? ⟨b, o + k * 6 + 3, none⟩ = some (.int .i64 to_) ∧ w'.cell? ⟨b, o + k * 6 + 4, none⟩ = some (.int .i64 tk) ∧ w'.cell? ⟨b, o + k * 6 + 5, none⟩ = some (.int .i64 tv) ∧ Fr [] wo w') ∧ (w'.cell? ⟨b, o + j * 6, none⟩ = some (.int .i64 ym) ∧ w'.cell? ⟨b, o + j * 6 + 1, none⟩ = some (.int .i64 yb) ∧ w'.cell? ⟨b, o + j * 6 + 2, none⟩ = some (.int .i64 ye) ∧ w'.cell? ⟨b, o + j * 6 + 3, none⟩ = some (.int .i64 yo) ∧ w'.cell? ⟨b, o + j * 6 + 4, none⟩ = some (.int .i64 yk) ∧ w'.cell? ⟨b, o + j * 6 + 5, none⟩ = some (.int .i64 yv) ∧ Fr [] wr w'))) (by kernel_rfl) ⟨HK5.out _ (Fr.refl [] _).drew, HK4.out _ (Fr.refl [] _).drew⟩ (fun hHeld => ?_)
              refine' wpAnyH_take (i := 0) (oi := ⟨some 33, _, _, _, _, _⟩) (v := _) rfl (by kernel_rfl) (by kernel_rfl) (by kernel_rfl) (fun _ _ _ h => h) (yieldsIf_load_mid (by rfl) _ _ rfl _ _ rfl _ _ (fun w h => h.1.1) hu1 rfl hi1) hHeld ?_
              (try simp only [Act.put, List.setIfInBounds_toArray, List.set_cons_zero, List.set_cons_succ])
              refine wpAnyH_take (i := 1) (oi := ⟨some 34, _, _, _, _, _⟩) (v := .pointer (some ⟨w.heap.size, 21, none⟩)) rfl (by kernel_rfl) (by kernel_rfl) (by kernel_rfl) (fun _ _ _ h => h) (Or.inl ⟨by rfl, ?_⟩) hHeld ?_
              · intro w hSw; (try dsimp only at hSw); go_simp
              (try simp only [Act.put, List.setIfInBounds_toArray, List.set_cons_zero, List.set_cons_succ])
              refine wpAnyH_take (i := 2) (oi := ⟨some 35, _, _, _, _, _⟩) (v := .slice (some ⟨b, o, none⟩) n g.tc) rfl (by kernel_rfl) (by kernel_rfl) (by kernel_rfl) (fun _ _ _ h => h) (Or.inl ⟨by rfl, ?_⟩) hHeld ?_
              · intro w hSw; (try dsimp only at hSw); go_simp
              (try simp only [Act.put, List.setIfInBounds_toArray, List.set_cons_zero, List.set_cons_succ])
              refine wpAnyH_take (i := 3) (oi := ⟨some 36, _, _, _, _, _⟩) (v := .int .i64 j) rfl (by kernel_rfl) (by kernel_rfl) (by kernel_rfl) (fun _ _ _ h => h) (Or.inl ⟨by rfl, ?_⟩) hHeld ?_
              · intro w hSw; (try dsimp only at hSw); go_simp
              (try simp only [Act.put, List.setIfInBounds_toArray, List.set_cons_zero, List.set_cons_succ])
              refine wpAnyH_take (i := 4) (oi := ⟨some 37, _, _, _, _, _⟩) (v := .pointer (some ⟨b, o + j * 6, none⟩)) rfl (by kernel_rfl) (by kernel_rfl) (by kernel_rfl) (fun _ _ _ h => h) (Or.inl ⟨by rfl, ?_⟩) hHeld ?_
              · intro w hSw; (try dsimp only at hSw); go_simp
              (try simp only [Act.put, List.setIfInBounds_toArray, List.set_cons_zero, List.set_cons_succ])
              refine wpAnyH_take (i := 5) (oi := ⟨some 38, _, _, _, _, _⟩) (v := .agg #[.int .i64 ym, .int .i64 yb, .int .i64 ye, .int .i64 yo, .int .i64 yk, .int .i64 yv]) rfl (by kernel_rfl) (by kernel_rfl) (by kernel_rfl) (fun _ _ _ h => h) (Or.inl ⟨by rfl, ?_⟩) hHeld ?_
              · intro w hSw; (try dsimp only at hSw); go_simp
              (try simp only [Act.put, List.setIfInBounds_toArray, List.set_cons_zero, List.set_cons_succ])
              refine wpAnyH_take (i := 6) (oi := ⟨some 39, _, _, _, _, _⟩) (v := .pointer (some ⟨w.heap.size, 21, none⟩)) rfl (by kernel_rfl) (by kernel_rfl) (by kernel_rfl) (fun _ _ _ h => h) (Or.inl ⟨by rfl, ?_⟩) hHeld ?_
              · intro w hSw; (try dsimp only at hSw); go_simp
              (try simp only [Act.put, List.setIfInBounds_toArray, List.set_cons_zero, List.set_cons_succ])
              refine wpAnyH_take (i := 7) (oi := ⟨some 40, _, _, _, _, _⟩) (v := .slice (some ⟨b, o, none⟩) n g.tc) rfl (by kernel_rfl) (by kernel_rfl) (by kernel_rfl) (fun _ _ _ h => h) (Or.inl ⟨by rfl, ?_⟩) hHeld ?_
              · intro w hSw; (try dsimp only at hSw); go_simp
              (try simp only [Act.put, List.setIfInBounds_toArray, List.set_cons_zero, List.set_cons_succ])
              refine wpAnyH_take (i := 8) (oi := ⟨some 41, _, _, _, _, _⟩) (v := .int .i64 k) rfl (by kernel_rfl) (by kernel_rfl) (by kernel_rfl) (fun _ _ _ h => h) (Or.inl ⟨by rfl, ?_⟩) hHeld ?_
              · intro w hSw; (try dsimp only at hSw); go_simp
              (try simp only [Act.put, List.setIfInBounds_toArray, List.set_cons_zero, List.set_cons_succ])
              refine wpAnyH_take (i := 9) (oi := ⟨some 42, _, _, _, _, _⟩) (v := .pointer (some ⟨b, o + k * 6, none⟩)) rfl (by kernel_rfl) (by kernel_rfl) (by kernel_rfl) (fun _ _ _ h => h) (Or.inl ⟨by rfl, ?_⟩) hHeld ?_
              · intro w hSw; (try dsimp only at hSw); go_simp
              (try simp only [Act.put, List.setIfInBounds_toArray, List.set_cons_zero, List.set_cons_succ])
              refine wpAnyH_take (i := 10) (oi := ⟨some 43, _, _, _, _, _⟩) (v := .agg #[.int .i64 tm, .int .i64 tb, .int .i64 te, .int .i64 to_, .int .i64 tk, .int .i64 tv]) rfl (by kernel_rfl) (by kernel_rfl) (by kernel_rfl) (fun _ _ _ h => h) (Or.inl ⟨by rfl, ?_⟩) hHeld ?_
              · intro w hSw; (try dsimp only at hSw); go_simp
              (try simp only [Act.put, List.setIfInBounds_toArray, List.set_cons_zero, List.set_cons_succ])
              refine wpAnyH_ready (rs := [11]) (by kernel_rfl) (by simp) ?_
              refine AllReadyH.cons (o := ⟨some 44, _, _, _, _, _⟩) rfl (fun K hK => ?_) AllReadyH.nil
              rw [if_pos (by rfl)]
              go_simp
              refine (HVY.out _).mono ?_
              rintro e w5 ⟨rfl, fr⟩
              refine hK.out _ _ (⟨HK5.out _ (hHeld.2.2.2.2.2.2.2.trans fr), HK4.out _ (hHeld.2.2.2.2.2.2.2.trans fr)⟩) (fun hHeld' => ?_)
              clear hK K hHeld
              have hHeld := hHeld'
              clear hHeld'
              (try simp only [Act.put, List.setIfInBounds_toArray, List.set_cons_zero, List.set_cons_succ])
              have hW5 : Fr [] w3 w5 := hg.trans hHeld.2.2.2.2.2.2.2
              clear fr hHeld
              refine wpAnyH_done (by kernel_rfl) ?_ _
              cases cq
              · clear HYES
                go_wp2_with fail
                exact ⟨⟨j + 1, by omega, by go_num, hW5, Lib.hid (HNO.out (by simp))⟩, by simp [intOf]; omega⟩
              · have hq := HTS.out (by simp) (HYES.out (by simp))
                have HQQ := Lib.hid hq
                clear hq HNO HYES
                go_wp2_with fail
                go_ret
                exact ⟨ret_i HQQ.out.symm, (hF.trans HKW.out).trans hW5⟩
            · obtain rfl : j = k := by omega
              have hq := HTG.out (by simp) (HCN.out (fun i x hi hx => HJ.out i x hi hx))
              have HQQ := Lib.hid hq
              clear hq
              go_wp2_with fail
              exact ⟨⟨j + 1, by omega, by go_num, (hf.trans HKW.out).trans hg, HQQ, HE0⟩, by simp [intOf]; omega⟩
        · have hq := HTE.out hez
          have HQQ := Lib.hid hq
          have dd : (e1 != 0) = true := by simpa using hez
          have HKW := Lib.hid hW3
          clear hq hez hHeld hW3
          go_wp2_with fail
          go_ret
          exact ⟨ret_i HQQ.out.symm, hF.trans HKW.out⟩
      · obtain rfl : k = n := by omega
        have hq : E = 0 := by rw [HT.out, Nat.sub_self]; rfl
        have HQ := Lib.hid hq
        clear hq
        have r21 := hf.cell_some c21 (by simp)
        go_wp2_with fail
        go_ret
        exact ⟨ret_i HQ.out.symm, hf1.trans hf⟩
end Go.Proofs.Ytijdlggoaianbaa
