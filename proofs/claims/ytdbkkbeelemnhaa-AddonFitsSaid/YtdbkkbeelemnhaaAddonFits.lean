/-
  AddonFits: for every game and seed the statement returns true: the factor that is drawn is one of the add-on's, and the serial number has its digits. No conditions.
-/
import Derived.Test.YtdbkkbeelemnhaaPlain40
import Derived.Test.YtdbkkbeelemnhaaFitLaw
import Derived.ProofKit
import Derived.OpenShut
import Derived.ShutString
import Derived.ChangeOld
namespace Go.Proofs.Ytdbkkbeelemnhaa.addonFits
open Go.ChangeShapes Go.WideShapes Go.ChangeAt Go.RowKit
open Go.ChangeMaps (open_string shut_string)
set_option linter.unusedVariables false
def anyTo (l : List Int) (N : Int) (k : Nat) : Bool := (l.take k).any (· == N)
theorem any_succ (l : List Int) (N : Int) (k : Nat) (h : k < l.length) : anyTo l N (k + 1) = (anyTo l N k || (l.getD k 0 == N)) := by
  unfold anyTo; rw [take_succ' l k h, List.any_append]; simp
set_option maxRecDepth 20000 in
set_option maxHeartbeats 4000000 in
theorem walk (v : Value) (g : Gm) (s : Int) (w : World) (hv : v = g.val) (hok : g.Ok w) (hs : (Lit.int .u64 s).wf = true) :
    Calls Try.prog 12 #[v, .int .u64 s] w fun e w' => e = .returned (.bool true) ∧ Below w.heap.size w w' := by
  subst hv
  have hs01 : 0 ≤ s ∧ s ≤ 18446744073709551615 := by
    have h : IntKind.u64.min ≤ s ∧ s ≤ IntKind.u64.max := by simpa [Lit.wf] using hs
    have m0 : IntKind.u64.min = 0 := by kernel_rfl
    have m1 : IntKind.u64.max = 18446744073709551615 := by kernel_rfl
    omega
  have hP := fun w' (h : Fr [] w w') => draw40_any g s w' (hok.fr h) hs01.1 hs01.2
  unfold ADPost at hP
  clear hs hs01
  by_cases hE : dE g s = 0
  · have hN : dN g s = (drTo g.addons s g.addons.length).num := by unfold dN; rw [if_pos hE]
    have hT : dT g s = (drTo g.addons s g.addons.length).txt := by unfold dT; rw [if_pos hE]
    have hce : chkE g = 0 ∧ (drTo g.addons s g.addons.length).err = 0 := by
      unfold dE at hE
      split at hE
      · rename_i h; exact absurd hE h
      · rename_i h; exact ⟨by omega, hE⟩
    obtain ⟨_, p2, _⟩ := chkE_facts hce.1
    have hl := adsR_of p2
    have hfb := fB_ok hl hce.2
    have hgb := gB_ok hl hce.2
    have hdg := txt_digits hl hce.2
    rw [hE, hN, hT] at hP
    have h20 : ∀ w b, GmAt w b g → w.cell? ⟨b, 20, none⟩ = some (.slice g.aa g.addons.length g.ac) := fun w b h => h.cell 20 _ rfl
    have hsm : (drTo g.addons s g.addons.length).txt.size ≤ 8 := by
      by_cases he : ∃ i a, 0 ≤ i ∧ g.addons[i]? = some a ∧ a.kind = 2
      · obtain ⟨i, a, _, ha, hk⟩ := he
        obtain ⟨S, U, ht, _⟩ := txt_is hl hce.2 ha hk
        rw [ht, serS_size]
        rcases hl.kind i a ha with ⟨h1, _⟩ | ⟨_, _, h1, _⟩ <;> omega
      · rw [txt_stay hl hce.2 g.addons.length 0 (by omega) (fun i a hi ha hk => he ⟨i, a, hi, ha, hk⟩)]
        show 0 ≤ 8; omega
    have hfs : ∀ k, fB g.addons (drTo g.addons s g.addons.length).num (k + 1) = if (g.addons.getD k default).kind = 2 then fB g.addons (drTo g.addons s g.addons.length).num k else (g.addons.getD k default).factors.any (· == (drTo g.addons s g.addons.length).num) := fun k => rfl
    have hgs : ∀ k, gB g.addons (drTo g.addons s g.addons.length).txt.size (k + 1) = if (g.addons.getD k default).kind = 2 then (((drTo g.addons s g.addons.length).txt.size : Int) == (g.addons.getD k default).digits) else gB g.addons (drTo g.addons s g.addons.length).txt.size k := fun k => rfl
    have hf0 : fB g.addons (drTo g.addons s g.addons.length).num 0 = ((drTo g.addons s g.addons.length).num == 0) := rfl
    have hg0 : gB g.addons (drTo g.addons s g.addons.length).txt.size 0 = ((drTo g.addons s g.addons.length).txt.toList.isEmpty) := by
      rw [ByteArray.toList_eq]
      cases h : (drTo g.addons s g.addons.length).txt.data.toList with
      | nil =>
        have : (drTo g.addons s g.addons.length).txt.size = 0 := by show (drTo g.addons s g.addons.length).txt.data.size = 0; rw [← Array.length_toList, h]; rfl
        unfold gB; rw [this]; rfl
      | cons x xs =>
        have : (drTo g.addons s g.addons.length).txt.size = xs.length + 1 := by show (drTo g.addons s g.addons.length).txt.data.size = _; rw [← Array.length_toList, h]; rfl
        unfold gB; rw [this]; simp
    have hkd := hl.kind
    obtain ⟨_, q1⟩ : True ∧ g.addons.length ≤ 4 := ⟨trivial, (addsE_facts p2).1⟩
    obtain ⟨n, hn⟩ : ∃ n, n = g.addons.length := ⟨_, rfl⟩
    generalize (drTo g.addons s g.addons.length).num = N at *
    generalize (drTo g.addons s g.addons.length).txt = T at *
    rw [← hn] at h20 q1 hfb hgb
    obtain ⟨A, hA⟩ : ∃ A, A = g.aa := ⟨_, rfl⟩
    rw [← hA] at h20
    have HA := Lib.hid hA
    have HN := Lib.hid hn
    have HAD := Lib.hid hok.addons
    have HP := Lib.hid hP
    have H20 := Lib.hid h20
    have HFB := Lib.hid hfb
    have HGB := Lib.hid hgb
    have HDG := Lib.hid hdg
    have HFS := Lib.hid hfs
    have HGS := Lib.hid hgs
    have HF0 := Lib.hid hf0
    have HG0 := Lib.hid hg0
    have HKD := Lib.hid hkd
    have hnle : (n : Int) ≤ 4 := by omega
    clear hE hN hT hce p2 hl hfb hgb hdg hP h20 hfs hgs hf0 hg0 hkd hn hA hok
    go_enter Try.func12, Try.ntmps12
    go_wp2_with (first | (refine box_game rfl (.tmp 0) rfl g rfl ?_; intro w1 hg1 hz1 hf1) | (refine load_game rfl (.tmp 2) rfl _ rfl g hg1 ?_))
    refine (HP.out _ hf1).mono ?_
    rintro e w2 ⟨rfl, f2⟩
    have c20 := H20.out _ _ (hg1.fr f2 (by simp))
    have hF2 := hf1.trans f2
    clear hg1 hf1 f2 hz1 HP
    go_wp2_with fail
    go_loopw [8, 9, 10] (fun fb gb i wr => ∃ k : Nat, k ≤ n ∧ i = .int .i64 k ∧ fb = .bool (fB g.addons N k) ∧ gb = .bool (gB g.addons T.size k) ∧ Fr [] w2 wr) (fun _ _ i _ => n - (intOf i).toNat)
    case atStart => exact ⟨0, by omega, rfl, by rw [HF0.out], by rw [HG0.out], Fr.refl _ _⟩
    case round =>
      obtain ⟨k, hk, rfl, rfl, rfl, hf⟩ := hrel
      have r20 := hf.cell_some c20 (by simp)
      by_cases hlt : k < n
      · obtain ⟨x, hx⟩ : ∃ x, g.addons[k]? = some x := ⟨_, List.getElem?_eq_getElem (by have := HN.out; omega)⟩
        obtain ⟨b, o, hta, hcell⟩ := RdF.at (f := Ad.cells) HAD.out.rd hx
        rw [← HA.out] at hta
        subst hta
        have hF := hF2.trans hf
        have c0 := hF.cell_some (hcell 0 _ rfl) (by simp)
        have c1 := hF.cell_some (hcell 1 _ rfl) (by simp)
        have c2 := hF.cell_some (hcell 2 _ rfl) (by simp)
        have c3 := hF.cell_some (hcell 3 _ rfl) (by simp)
        have c4 := hF.cell_some (hcell 4 _ rfl) (by simp)
        have c5 := hF.cell_some (hcell 5 _ rfl) (by simp)
        rw [Nat.add_zero] at c0
        have hfs := HFS.out k
        have hgs := HGS.out k
        have hxf := HKD.out k x hx
        rw [getD_some hx] at hfs hgs
        have hrf := (HAD.out.ok x (List.mem_of_getElem? hx)).rf
        obtain ⟨_, _, hvf, hfc, hfm, hrf⟩ := hrf
        simp only [Value.slice.injEq] at hvf
        obtain ⟨hvf1, _, hvf2⟩ := hvf
        subst hvf1
        subst hvf2
        obtain ⟨fl, hfl⟩ : ∃ fl, fl = x.factors.length := ⟨_, rfl⟩
        rw [← hfl] at hrf c3 hxf
        have hkd2 : x.kind = 1 ∨ x.kind = 2 := by rcases hxf with ⟨h, _⟩ | ⟨h, _⟩ <;> omega
        have hxl : x.kind = 1 → fl ≤ 8 := fun h => by rcases hxf with ⟨_, _, h8⟩ | ⟨h2, _⟩ <;> omega
        generalize x.factors = facs at *
        generalize x.fc = fc at *
        generalize x.fa = fa at *
        generalize x.name = name at *
        generalize x.price = price at *
        generalize x.digits = digits at *
        generalize x.pa = pa at *
        generalize x.pc = pc at *
        generalize x.prizes.length = pl at *
        generalize x.kind = kd at *
        generalize fB g.addons N k = fk at *
        generalize gB g.addons T.size k = gk at *
        have HFL := Lib.hid hfl
        have HRF := Lib.hid hrf
        have hki : (k : Int) < (n : Int) := by omega
        have hk0 : (0 : Int) ≤ (k : Int) := by omega
        clear hx hcell hxf hfl hrf
        obtain ⟨wo, rfl⟩ : ∃ wo : World, wo = wr := ⟨_, rfl⟩
        rcases hkd2 with rfl | rfl
        · rw [if_neg (by decide)] at hfs hgs
          have HF := Lib.hid hfs
          have HG := Lib.hid hgs
          have hfl8 := hxl rfl
          clear hfs hgs hxl
          have hfl8' : (fl : Int) ≤ 8 := by omega
          have h00 : anyTo facs N 0 = false := rfl
          have H00 := Lib.hid h00
          clear h00
          go_wp2_with fail
          go_loopw [8, 12] (fun fb j wj => ∃ q : Nat, q ≤ fl ∧ j = .int .i64 q ∧ fb = .bool (anyTo facs N q) ∧ Fr [] (wo.alloc (.cells #[.string name, .int .i64 1, .int .i64 price, .slice fa fl fc, .int .i64 digits, .slice pa pl pc] 53)) wj) (fun _ j _ => fl - (intOf j).toNat)
          case atStart => exact ⟨0, by omega, rfl, by rw [H00.out], Fr.refl _ _⟩
          case round =>
            obtain ⟨q, hq, rfl, rfl, hg⟩ := hrel
            have m3 := hg.cell_some (new_cell (w := wo) (T := 53) (C := #[.string name, .int .i64 1, .int .i64 price, .slice fa fl fc, .int .i64 digits, .slice pa pl pc]) (i := 3) rfl rfl) (by simp)
            by_cases hlt2 : q < fl
            · obtain ⟨fg, fo, rfl, hcl⟩ := HRF.out q hlt2
              have hc := hg.cell_some ((hF.alloc _).cell_some hcl (by simp)) (by simp)
              have hst := any_succ facs N q (by have := HFL.out; omega)
              generalize facs.getD q 0 = y at *
              generalize anyTo facs N q = aq at *
              have HST := Lib.hid hst
              have hqi : (q : Int) < (fl : Int) := by omega
              clear hcl hst
              cases aq
              · cases hyn : (y == N)
                · have hst := HST.out
                  rw [hyn] at hst
                  have HST2 := Lib.hid hst
                  clear hst
                  go_wp2_with fail
                  exact ⟨⟨q + 1, by omega, by go_num, by rw [HST2.out]; rfl, hg⟩, by simp [intOf]; omega⟩
                · have hst := HST.out
                  rw [hyn] at hst
                  have HST2 := Lib.hid hst
                  clear hst
                  go_wp2_with fail
                  exact ⟨⟨q + 1, by omega, by go_num, by rw [HST2.out]; rfl, hg⟩, by simp [intOf]; omega⟩
              · have hst := HST.out
                simp only [Bool.true_or] at hst
                have HST2 := Lib.hid hst
                clear hst
                go_wp2_with fail
                exact ⟨⟨q + 1, by omega, by go_num, by rw [HST2.out], hg⟩, by simp [intOf]; omega⟩
            · obtain rfl : q = fl := by omega
              have hall : anyTo facs N q = facs.any (· == N) := by unfold anyTo; rw [HFL.out, List.take_length]
              have HALL := Lib.hid hall
              clear hall
              go_wp2_with fail
              exact ⟨⟨k + 1, by omega, by go_num, by rw [HF.out, HALL.out], by rw [HG.out], (hf.alloc _).trans hg⟩, by simp [intOf]; omega⟩
        · rw [if_pos rfl] at hfs hgs
          have HF := Lib.hid hfs
          have HG := Lib.hid hgs
          clear hfs hgs hxl
          go_wp2_with fail
          exact ⟨⟨k + 1, by omega, by go_num, by rw [HF.out], by rw [HG.out], hf.alloc _⟩, by simp [intOf]; omega⟩
      · obtain rfl : k = n := by omega
        have hfb := HFB.out
        have hgb := HGB.out
        rw [hfb, hgb]
        clear hfb hgb
        go_wp2_with fail
        go_loopw [9, 13] (fun gb j wj => ∃ q : Nat, q ≤ T.size ∧ j = .int .i64 q ∧ gb = .bool true ∧ Fr [] wr wj) (fun _ j _ => T.size - (intOf j).toNat)
        case atStart => exact ⟨0, by omega, rfl, rfl, Fr.refl _ _⟩
        case round =>
          obtain ⟨q, hq, rfl, rfl, hg⟩ := hrel
          by_cases hlt2 : q < T.size
          · obtain ⟨d1, d2⟩ := HDG.out q hlt2
            have hq8 : (T.size : Int) ≤ 8 := by omega
            have hqi : (q : Int) < (T.size : Int) := by omega
            go_wp2_with fail
            exact ⟨⟨q + 1, by omega, by go_num, rfl, hg⟩, by simp [intOf]; omega⟩
          · obtain rfl : q = T.size := by omega
            go_wp2_with fail
            refine (lives40_any _).mono ?_
            rintro e w4 ⟨rfl, f4⟩
            go_wp2_with fail
            go_ret
            exact ⟨rfl, (((hF2.trans hf).trans hg).trans f4).below⟩
  · generalize dE g s = E at *
    have dd : (E != 0) = true := by simpa using hE
    generalize dN g s = N at *
    generalize dT g s = T at *
    have HP := Lib.hid hP
    clear hP hok hE
    go_enter Try.func12, Try.ntmps12
    go_wp2_with (first | (refine box_game rfl (.tmp 0) rfl g rfl ?_; intro w1 hg1 hz1 hf1) | (refine load_game rfl (.tmp 2) rfl _ rfl g hg1 ?_))
    refine (HP.out _ hf1).mono ?_
    rintro e w2 ⟨rfl, f2⟩
    have hF2 := hf1.trans f2
    go_wp2_with fail
    refine (lives40_any _).mono ?_
    rintro e w4 ⟨rfl, f4⟩
    go_wp2_with fail
    go_ret
    exact ⟨rfl, (hF2.trans f4).below⟩
theorem own : ownKnob Try.prog.godebug = none := by kernel_rfl
theorem laidOut : laidOutB Try.prog = true := by kernel_rfl
set_option maxRecDepth 100000 in
theorem lifted (os : Os) (started : os.Started) (H : Type) (enc : TypeId × Value → H) :
    ReturnsInHanded {} Try.checked os 12 .any (Rows.addonFitsSpec.pre6 enc Try.prog Try.f12 Rows.addonFitsRow.domain false) (Rows.addonFitsSpec.post enc Try.prog Try.f12 false true false false) := by
  refine returnsInHanded_of_change (C := Try.checked) own started (by kernel_rfl) Try.func12
    (ChangeSpec.witness6 (enc := enc) (C := Try.checked) false ⟨#[], #[.agg #[.string ByteArray.empty, .int .i64 0, .int .i64 0, .int .i64 0, .int .i64 0, .int .i64 0, .int .i64 0, .int .i64 0, .int .i64 0, .int .i64 0, .int .i64 0, .int .i64 0, .int .i64 0, .int .i64 0, .int .i64 0, .int .i64 0, .int .i64 0, .int .i64 0, .int .i64 0, .int .i64 0, .slice none 0 0, .slice none 0 0], .int .u64 0], []⟩ 8 (by kernel_rfl) (by kernel_rfl) (by kernel_rfl) (by kernel_rfl)) ?_
  intro W base args ds gs before hval0 hW hcnd _
  have hval : ∀ (j : Nat) t v, Try.f12.params[j]? = some t → args[j]? = some v → Value.okWide Try.prog W .any base t v := hval0
  have hW' := hW
  obtain ⟨p, q, hA0, hV, rfl, hfz, hnd⟩ := hW
  have hA : DataW.TrodAll enc Try.prog W 0 (fun _ => true) true Try.f12.params.toList args.toList ds p := hA0
  rw [Try.params12] at hA hval
  obtain ⟨v0, vs0, d0, ds0, p0, q0, hargs, rfl, rfl, h0, r0⟩ := trodAll_cons hA
  obtain ⟨v1, vs1, d1, ds1, p1, q1, rfl, rfl, rfl, h1, r1⟩ := trodAll_cons r0
  obtain ⟨rfl, rfl, rfl⟩ := trodAll_nil r1
  obtain rfl : args = #[v0, v1] := by cases args; simp_all
  obtain ⟨rfl, rfl⟩ := trodVars_none hV
  have k0 := h0
  have lt0 : ∀ x ∈ p0, x.block < W.heap.size := by obtain ⟨m, hm⟩ := k0; exact DataW.trod_lt m _ _ _ hm
  obtain ⟨g0, hv0, hg0⟩ := open_game (hval 0 29 v0 rfl rfl) h0
  obtain ⟨a1, rfl, rfl, rfl, w1⟩ := open_int Try.underlying48 (hval 1 48 v1 rfl rfl) h1
  clear hA0 hval0
  refine (walk v0 g0 a1 W hv0 hg0 w1).mono fun e W' ⟨he, bel⟩ => ?_
  subst he
  exact ⟨_, rfl, _, _, _, [], _, [], hW', trodAll_mk1 (shut_bool Try.underlying4 _), (trodAll_cons_mk (Below.trod laidOut (by kernel_rfl) (of_decide_eq_true (by kernel_rfl)) k0 bel lt0) (trodAll_cons_mk (shut_int Try.underlying48 w1) trodAll_mk0)), rfl, bel.frame _, fun h => by cases h⟩
theorem over : Rows.addonFitsRow.holds Try.pinned (OpenSpec.ofChange Rows.addonFitsSpec) :=
  OpenClaim.holds_of_wide 12 Try.f12 rfl rfl rfl rfl rfl rfl rfl ⟨rfl, rfl, rfl, rfl, rfl⟩ rfl rfl rfl rfl rfl (by kernel_rfl) Try.func12 (by kernel_rfl)
    (of_decide_eq_true (by kernel_rfl)) (by unfold Func.isWrapper; first | (rw [if_pos (by decide +kernel)]; kernel_rfl) | (rw [if_neg (by decide +kernel)]; exact ⟨rfl, rfl⟩))
    (fun os started H enc _ => lifted os started H enc)
/-- THE STATEMENT -/
theorem proved : Rows.AddonFitsSaid := over
end Go.Proofs.Ytdbkkbeelemnhaa.addonFits
