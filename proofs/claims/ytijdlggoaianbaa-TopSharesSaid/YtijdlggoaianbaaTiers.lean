/-
  checkTiers (layer 12): the first error of a game's tiers.
-/
import Derived.Test.YtijdlggoaianbaaCovers
import Derived.WalkMore
import Derived.Deep.LoopGhost
set_option linter.unusedVariables false
namespace Go.Proofs.Ytijdlggoaianbaa
open Go.RowKit
def covered (g : Gm) (l : List Ti) (k : Nat) (t : Ti) : Bool := (l.take k).any fun e => covB g e t
def tisTo (g : Gm) (l : List Ti) : Nat → Nat → Int
  | 0, _ => 0
  | f + 1, k => match l[k]? with
    | none => 0
    | some t => if tiE g t ≠ 0 then tiE g t else if covered g l k t = true then 6 else tisTo g l f (k + 1)
/-- the first error of a game's tiers -/
def tisE (g : Gm) : Int := if inR g.tiers.length 1 12 = false then 3 else tisTo g g.tiers g.tiers.length 0
theorem tisTo_err {g : Gm} {l : List Ti} {f k : Nat} {t : Ti} (h : l[k]? = some t) (he : tiE g t ≠ 0) : tisTo g l (f + 1) k = tiE g t := by
  rw [tisTo, h]; exact if_pos he
theorem tisTo_cov {g : Gm} {l : List Ti} {f k : Nat} {t : Ti} (h : l[k]? = some t) (he : tiE g t = 0) (hs : covered g l k t = true) : tisTo g l (f + 1) k = 6 := by
  rw [tisTo, h]; simp only; rw [if_neg (by simp [he]), if_pos hs]
theorem tisTo_go {g : Gm} {l : List Ti} {f k : Nat} {t : Ti} (h : l[k]? = some t) (he : tiE g t = 0) (hs : covered g l k t = false) : tisTo g l (f + 1) k = tisTo g l f (k + 1) := by
  rw [tisTo, h]; simp only; rw [if_neg (by simp [he]), if_neg (by simp [hs])]
theorem covered_yes {g : Gm} {l : List Ti} {k j : Nat} {t x : Ti} (hj : j < k) (hx : l[j]? = some x) (h : covB g x t = true) : covered g l k t = true := by
  unfold covered
  rw [List.any_eq_true]
  exact ⟨x, List.mem_of_getElem? (by rw [List.getElem?_take_of_lt hj]; exact hx), h⟩
theorem covered_no {g : Gm} {l : List Ti} {k : Nat} {t : Ti} (h : ∀ j x, j < k → l[j]? = some x → covB g x t = false) : covered g l k t = false := by
  unfold covered
  rw [List.any_eq_false]
  intro x hx
  obtain ⟨j, hj⟩ := List.getElem?_of_mem hx
  have hl := (List.getElem?_eq_some_iff.1 hj).1
  simp at hl
  rw [List.getElem?_take_of_lt (by omega)] at hj
  rw [h j x (by omega) hj]
  simp
set_option maxRecDepth 20000 in
set_option maxHeartbeats 4000000 in
theorem checkTiers_any (g : Gm) (w : World) (hok : Tis w g.ta g.tc g.tiers) :
    Calls Try.prog 35 #[g.val] w fun e w' => e = .returned (.int .i64 (tisE g)) ∧ Fr [] w w' := by
  have hcap : g.tiers.length ≤ g.tc := by
    obtain ⟨_, _, hv, h1, _⟩ := hok.rd
    simp only [Value.slice.injEq] at hv
    rw [hv.2.2]; exact h1
  have hle := hok.rd.len.2
  unfold maxLen at hle
  obtain ⟨E, hE⟩ : ∃ E, E = tisE g := ⟨_, rfl⟩
  rw [← hE]
  simp only [tisE] at hE
  obtain ⟨n, hN⟩ : ∃ n, n = g.tiers.length := ⟨_, rfl⟩
  rw [← hN] at hE hcap hle
  have h21 : ∀ w b, GmAt w b g → w.cell? ⟨b, 21, none⟩ = some (.slice g.ta n g.tc) := by intro w b h; rw [hN]; exact h.cell 21 _ rfl
  have H21 := Lib.hid h21
  clear h21
  cases hi : inR (n : Int) 1 12
  · have hv : E = 3 := by rw [hE, hi]; rfl
    have HV := Lib.hid hv
    have HN := Lib.hid hN
    clear hv hE hN hok
    go_enter Try.func35, Try.ntmps35
    go_wp2_with (refine box_game rfl (.tmp 0) rfl g rfl ?_; intro w1 hg1 hz1 hf1; have c21 := H21.out _ _ hg1)
    go_step3
    go_wp2_with (go_at_call 50; refine (within_any _ _ _ _).mono ?_; rintro e w' ⟨rfl, rfl⟩)
    (try rw [Exit.noGoto_ret])
    go_ret
    exact ⟨ret_i HV.out.symm, hf1⟩
  · have hn12 := inR_of hi
    have hv : E = tisTo g g.tiers n 0 := by rw [hE, hi]; rfl
    have hC := fun (t : Ti) (w : World) => checkTier_any g t w
    have hV := fun (a b : Ti) (w : World) => covers_any g a b w
    have HV := Lib.hid hv
    have HN := Lib.hid hN
    have HC := Lib.hid hC
    have HCV := Lib.hid hV
    obtain ⟨x0, hx0⟩ : ∃ x, g.tiers[0]? = some x := ⟨_, List.getElem?_eq_getElem (by omega)⟩
    obtain ⟨b, o, hta, _⟩ := RdF.at (f := Ti.cells) hok.rd hx0
    have HTA := Lib.hid hta
    have h21' := H21.out
    rw [hta] at h21'
    have H21' := Lib.hid h21'
    clear hx0 hta h21' H21
    have HOK := Lib.hid hok
    have hn1 : (1 : Int) ≤ n := hn12.1
    have hn2 : (n : Int) ≤ 12 := hn12.2
    clear hv hE hN hC hV hok hn12
    go_enter Try.func35, Try.ntmps35
    go_wp2_with (refine box_game rfl (.tmp 0) rfl g rfl ?_; intro w1 hg1 hz1 hf1; have c21 := H21'.out _ _ hg1)
    go_step3
    go_wp2_with (go_at_call 50; refine (within_any _ _ _ _).mono ?_; rintro e w' ⟨rfl, rfl⟩)
    go_step3
    go_wp2_with (go_at_call 50; refine (within_any _ _ _ _).mono ?_; rintro e w' ⟨rfl, rfl⟩)
    have HZ1 := Lib.hid hz1
    clear hz1
    go_loopw [3, 16] (fun f i wr => ∃ k : Nat, k ≤ n ∧ i = .int .i64 k ∧ f = .int .i64 0 ∧ Fr [] w1 wr ∧ Hid (E = tisTo g g.tiers (n - k) k)) (fun _ i _ => n - (intOf i).toNat)
    case atStart => exact ⟨0, by omega, rfl, rfl, Fr.refl _ _, HV⟩
    case round =>
      obtain ⟨k, hk, rfl, rfl, hf, HT⟩ := hrel
      by_cases hlt : k < n
      · obtain ⟨x, hx⟩ : ∃ x, g.tiers[k]? = some x := ⟨_, List.getElem?_eq_getElem (by have := HN.out; omega)⟩
        obtain ⟨b', o', hta', hcell⟩ := RdF.at (f := Ti.cells) HOK.out.rd hx
        rw [HTA.out] at hta'
        simp only [Option.some.injEq, Addr.mk.injEq, and_true] at hta'
        obtain ⟨rfl, rfl⟩ := hta'
        have hfu : n - k = (n - (k + 1)) + 1 := by omega
        have hT := HT.out
        rw [hfu] at hT
        have hTe : tiE g x ≠ 0 → E = tiE g x := fun h => hT.trans (tisTo_err hx h)
        have hTs : tiE g x = 0 → covered g g.tiers k x = true → E = 6 := fun h h2 => hT.trans (tisTo_cov hx h h2)
        have hTg : tiE g x = 0 → covered g g.tiers k x = false → E = tisTo g g.tiers (n - (k + 1)) (k + 1) := fun h h2 => hT.trans (tisTo_go hx h h2)
        have hcy := fun j y (hj : j < k) (hy : g.tiers[j]? = some y) => covered_yes (g := g) (t := x) hj hy
        have hcn := covered_no (g := g) (l := g.tiers) (k := k) (t := x)
        have hcx := HC.out x
        have hvx := fun a => HCV.out a x
        have hF := (hf1.trans hf)
        have c0 := hF.cell_some (hcell 0 _ rfl) (by simp)
        have c1 := hF.cell_some (hcell 1 _ rfl) (by simp)
        have c2 := hF.cell_some (hcell 2 _ rfl) (by simp)
        have c3 := hF.cell_some (hcell 3 _ rfl) (by simp)
        have c4 := hF.cell_some (hcell 4 _ rfl) (by simp)
        have c5 := hF.cell_some (hcell 5 _ rfl) (by simp)
        rw [Nat.add_zero] at c0
        generalize tiE g x = e1 at *
        generalize covered g g.tiers k x = q at *
        obtain ⟨tm, tb, te, to_, tk, tv⟩ := x
        simp only [Ti.val] at hcx hvx
        simp only at c0 c1 c2 c3 c4 c5
        have HTE := Lib.hid hTe
        have HTS := Lib.hid hTs
        have HTG := Lib.hid hTg
        have HCY := Lib.hid hcy
        have HCN := Lib.hid hcn
        have HCX := Lib.hid hcx
        have HVX := Lib.hid hvx
        have HX := Lib.hid hx
        have c21' := hf.cell_some c21 (by simp)
        have HG := Lib.hid (hg1.fr hf (by simp))
        have hszr : w1.heap.size ≤ wr.heap.size := hf.size
        have hlt1 : w.heap.size < w1.heap.size := hg1.lt
        have hlt2 : w.heap.size < wr.heap.size := by omega
        clear hcell hT hfu hTe hTs hTg hcy hcn hcx hvx hx HT
        obtain ⟨wo, rfl⟩ : ∃ wo : World, wo = wr := ⟨_, rfl⟩
        go_wp2_with (refine load_game rfl (.tmp 1) rfl _ rfl g (HG.out.fr ((Fr.refl [] wo).alloc _) (by simp)) ?_)
        refine (HCX.out _).mono ?_
        rintro e w3 ⟨rfl, f3⟩
        have hF3 : Fr [] wo w3 := ((Fr.refl [] wo).alloc _).trans f3
        have d0 : w3.cell? ⟨wo.heap.size, 0, none⟩ = some (.int .i64 tm) := f3.cell_some (new_cell rfl rfl) (by simp)
        have d1 : w3.cell? ⟨wo.heap.size, 1, none⟩ = some (.int .i64 tb) := f3.cell_some (new_cell rfl rfl) (by simp)
        have d2 : w3.cell? ⟨wo.heap.size, 2, none⟩ = some (.int .i64 te) := f3.cell_some (new_cell rfl rfl) (by simp)
        have d3 : w3.cell? ⟨wo.heap.size, 3, none⟩ = some (.int .i64 to_) := f3.cell_some (new_cell rfl rfl) (by simp)
        have d4 : w3.cell? ⟨wo.heap.size, 4, none⟩ = some (.int .i64 tk) := f3.cell_some (new_cell rfl rfl) (by simp)
        have d5 : w3.cell? ⟨wo.heap.size, 5, none⟩ = some (.int .i64 tv) := f3.cell_some (new_cell rfl rfl) (by simp)
        clear f3 c0 c1 c2 c3 c4 c5
        by_cases he : e1 = 0
        · subst he
          have c21'' := hF3.cell_some c21' (by simp)
          have hsz3 : wo.heap.size < w3.heap.size := lt_of_cell d0
          have HG3 := Lib.hid (HG.out.fr hF3 (by simp))
          have hkc : (k : Int) ≤ (g.tc : Int) := by omega
          have hk0 : (0 : Int) ≤ (k : Int) := by omega
          clear HG c21'
          go_wp2_with fail
          go_loopw [3, 31] (fun f i wr => ∃ j : Nat, j ≤ k ∧ i = .int .i64 j ∧ f = .int .i64 0 ∧ Fr [] w3 wr ∧ Hid (∀ i x, i < j → g.tiers[i]? = some x → covB g x ⟨tm, tb, te, to_, tk, tv⟩ = false)) (fun _ i _ => k - (intOf i).toNat)
          case atStart => exact ⟨0, by omega, rfl, rfl, Fr.refl _ _, Lib.hid (by omega)⟩
          case round =>
            obtain ⟨j, hj, rfl, rfl, hg, HJ⟩ := hrel
            by_cases hlt3 : j < k
            · obtain ⟨y, hy⟩ : ∃ y, g.tiers[j]? = some y := ⟨_, List.getElem?_eq_getElem (by have := HN.out; omega)⟩
              obtain ⟨b', o', hta', hcell'⟩ := RdF.at (f := Ti.cells) HOK.out.rd hy
              rw [HTA.out] at hta'
              simp only [Option.some.injEq, Addr.mk.injEq, and_true] at hta'
              obtain ⟨rfl, rfl⟩ := hta'
              have hFF := (hF.trans hF3).trans hg
              have c0 := hFF.cell_some (hcell' 0 _ rfl) (by simp)
              have c1 := hFF.cell_some (hcell' 1 _ rfl) (by simp)
              have c2 := hFF.cell_some (hcell' 2 _ rfl) (by simp)
              have c3 := hFF.cell_some (hcell' 3 _ rfl) (by simp)
              have c4 := hFF.cell_some (hcell' 4 _ rfl) (by simp)
              have c5 := hFF.cell_some (hcell' 5 _ rfl) (by simp)
              rw [Nat.add_zero] at c0
              have hvy := HVX.out y
              have hyes := HCY.out j y hlt3 hy
              have hno : covB g y ⟨tm, tb, te, to_, tk, tv⟩ = false → ∀ i x, i < j + 1 → g.tiers[i]? = some x → covB g x ⟨tm, tb, te, to_, tk, tv⟩ = false := by
                intro h i x hi hx
                by_cases hij : i < j
                · exact HJ.out i x hij hx
                · obtain rfl : i = j := by omega
                  rw [hy] at hx
                  obtain rfl := Option.some.inj hx
                  exact h
              generalize covB g y ⟨tm, tb, te, to_, tk, tv⟩ = cq at *
              obtain ⟨ym, yb, ye, yo, yk, yv⟩ := y
              simp only at c0 c1 c2 c3 c4 c5
              have HVY := Lib.hid hvy
              have HYES := Lib.hid hyes
              have HNO := Lib.hid hno
              have e0 := hg.cell_some d0 (by simp)
              have e1 := hg.cell_some d1 (by simp)
              have e2 := hg.cell_some d2 (by simp)
              have e3 := hg.cell_some d3 (by simp)
              have e4 := hg.cell_some d4 (by simp)
              have e5 := hg.cell_some d5 (by simp)
              have hszr3 : wo.heap.size < wr.heap.size := lt_of_cell e0
              have HG4 := Lib.hid (HG3.out.fr hg (by simp))
              have hjk : (j : Int) < (k : Int) := by omega
              clear hy hcell' hvy hyes hno hFF d0 d1 d2 d3 d4 d5 HJ
              go_wp2_with (refine load_game rfl (.tmp 1) rfl _ rfl g (HG4.out.fr ((Fr.refl [] wr).alloc _) (by simp)) ?_)
              refine (HVY.out _).mono ?_
              rintro e w5 ⟨rfl, f5⟩
              have hF5 : Fr [] w3 w5 := (hg.alloc _).trans f5
              clear f5
              cases cq
              · clear HYES
                go_wp2_with fail
                exact ⟨⟨j + 1, by omega, by go_num, rfl, hF5, Lib.hid (HNO.out (by simp))⟩, by simp [intOf]; omega⟩
              · have hq := HTS.out (by simp) (HYES.out (by simp))
                have HQ := Lib.hid hq
                clear hq HNO HYES
                go_wp2_with fail
                (try rw [Exit.noGoto_ret])
                go_ret
                exact ⟨ret_i HQ.out.symm, (hF.trans hF3).trans hF5⟩
            · obtain rfl : j = k := by omega
              have hq := HTG.out (by simp) (HCN.out (fun i x hi hx => HJ.out i x hi hx))
              have HQ := Lib.hid hq
              clear hq d0 d1 d2 d3 d4 d5
              go_wp2_with fail
              exact ⟨⟨j + 1, by omega, by go_num, rfl, (hf.trans hF3).trans hg, HQ⟩, by simp [intOf]; omega⟩
        · have hq := HTE.out he
          have HQ := Lib.hid hq
          have dd : (e1 != 0) = true := by simpa using he
          clear hq he
          go_wp2_with fail
          (try rw [Exit.noGoto_ret])
          go_ret
          exact ⟨ret_i HQ.out.symm, hF.trans hF3⟩
      · obtain rfl : k = n := by omega
        have hq : E = 0 := by rw [HT.out, Nat.sub_self]; rfl
        have HQ := Lib.hid hq
        clear hq
        go_wp2_with fail
        (try rw [Exit.noGoto_ret])
        go_ret
        exact ⟨ret_i HQ.out.symm, hf1.trans hf⟩
end Go.Proofs.Ytijdlggoaianbaa
