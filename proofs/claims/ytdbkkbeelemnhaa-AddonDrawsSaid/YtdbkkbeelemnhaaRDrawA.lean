/-
  Draw of the reference of layer 40: in terms of the same plain functions as Draw.
-/
import Derived.Test.YtdbkkbeelemnhaaDrawA
import Derived.Test.YtdbkkbeelemnhaaRCheck
set_option linter.unusedVariables false
namespace Go.Proofs.Ytdbkkbeelemnhaa
open Go.RowKit
set_option maxRecDepth 20000 in
set_option maxHeartbeats 2000000 in
theorem rdraw40_any (g : Gm) (s : Int) (w : World) (hok : g.Ok w) (hs0 : 0 ≤ s) (hs1 : s ≤ 18446744073709551615) :
    Calls Try.prog 34 #[g.val, .int .u64 s] w (ADPost g s w) := by
  have hC := fun w' (h : Fr [] w w') => rcheck_any g w' (hok.fr h)
  have h20 : ∀ w b, GmAt w b g → w.cell? ⟨b, 20, none⟩ = some (.slice g.aa g.addons.length g.ac) := fun w b h => h.cell 20 _ rfl
  unfold RChkPost at hC
  have hE0 := fun w' => @ad_err g s w w'
  have hK0 := fun w' => @ad_ok g s w w'
  have hdE : dE g s = if chkE g ≠ 0 then chkE g else (drTo g.addons s g.addons.length).err := rfl
  generalize dE g s = DE at *
  by_cases he : chkE g = 0
  · obtain ⟨p1, p2, p3⟩ := chkE_facts he
    obtain ⟨q1, q2⟩ := addsE_facts p2
    rw [he] at hC hdE
    rw [if_neg (by simp)] at hdE
    have hfac : ∀ (i : Nat) (a : Ad), g.addons[i]? = some a → (a.kind = 1 ∧ 1 ≤ a.factors.length ∧ a.factors.length ≤ 8) ∨ (a.kind = 2 ∧ 1 ≤ a.digits ∧ a.digits ≤ 8) := fun i a ha => by
      obtain ⟨_, hk, _, _, h1, h2⟩ := adE_facts (q2 i a ha).1
      rcases hk with hk | hk
      · exact .inl ⟨hk, (h1 hk).2.2.1, (h1 hk).2.2.2.1⟩
      · exact .inr ⟨hk, (h2 hk).2.1, (h2 hk).2.2.1⟩
    have hbd := drTo_bd g.addons s (fun i a ha hk => by rcases hfac i a ha with ⟨h, _⟩ | ⟨_, _, h⟩ <;> omega)
    have hgo := drTo_go g.addons s
    have her := fun k => drTo_err g.addons s k g.addons.length
    have hd0 : drTo g.addons s 0 = ⟨0, 0, ⟨#[]⟩, s, 0⟩ := rfl
    obtain ⟨n, hN⟩ : ∃ n, n = g.addons.length := ⟨_, rfl⟩
    rw [← hN] at q1 hbd h20 hdE her
    obtain ⟨A, hA⟩ : ∃ A, A = g.aa := ⟨_, rfl⟩
    rw [← hA] at h20
    have HA := Lib.hid hA
    have HH20 := Lib.hid h20
    have hAds := hok.addons
    have HAD := Lib.hid hAds
    have HN := Lib.hid hN
    have HC := Lib.hid hC
    have HE0 := Lib.hid hE0
    have HK0 := Lib.hid hK0
    have HDE := Lib.hid hdE
    have HFAC := Lib.hid hfac
    have HBD := Lib.hid hbd
    have HGO := Lib.hid hgo
    have HER := Lib.hid her
    have HD0 := Lib.hid hd0
    clear hC h20 he p1 p2 p3 q2 hok hN hAds hA hE0 hK0 hdE hfac hbd hgo her hd0
    go_enter Try.func34, Try.ntmps34
    go_wp2_with (first | (refine box_game rfl (.tmp 0) rfl g rfl ?_; intro w1 hg1 hz1 hf1) | (refine load_game rfl (.tmp 2) rfl _ rfl g hg1 ?_))
    refine (HC.out _ hf1).mono ?_
    rintro e w2 ⟨S0, rfl, f2⟩
    have hg2 := hg1.fr f2 (by simp)
    have hF2 := hf1.trans f2
    clear f2 hg1 hz1 hf1 HC
    go_wp2_with fail
    refine (rnew_any _ _).mono ?_
    rintro e w3 ⟨rfl, hs3, hz3, hb3⟩
    have c20 := HH20.out _ _ (hg2.fr (Fr.of_below hb3) (by simp))
    have hF3 := hF2.trans (Fr.of_below hb3)
    have hsz2 : w.heap.size < w2.heap.size := hg2.lt
    generalize w2.heap.size = sb at *
    clear hg2 hF2 hb3
    have hsb : sb < w3.heap.size := hs3.lt
    go_wp2_with fail
    go_loopw [10, 11, 12] (fun nn tt i wr => ∃ k : Nat, k ≤ n ∧ i = .int .i64 k ∧ nn = .int .i64 (drTo g.addons s k).num ∧ tt = .string (drTo g.addons s k).txt ∧ Hid ((drTo g.addons s k).err = 0) ∧ StrAt wr sb (drTo g.addons s k).S (drTo g.addons s k).U ∧ Fr [sb] w3 wr) (fun _ _ i _ => n - (intOf i).toNat)
    case atStart => exact ⟨0, by omega, rfl, by rw [HD0.out], by rw [HD0.out], Lib.hid (by rw [HD0.out]), by rw [HD0.out]; exact hs3, Fr.refl _ _⟩
    case round =>
      obtain ⟨k, hk, rfl, rfl, rfl, H0, hsr, hf⟩ := hrel
      have hF0 : Fr [] w wr := hF3.trans' hf (by simp; omega)
      have r20 := hf.cell_some c20 (by simp; omega)
      by_cases hlt : k < n
      · obtain ⟨x, hx⟩ : ∃ x, g.addons[k]? = some x := ⟨_, List.getElem?_eq_getElem (by have := HN.out; omega)⟩
        obtain ⟨b, o, hta, hcell⟩ := RdF.at (f := Ad.cells) HAD.out.rd hx
        rw [← HA.out] at hta
        subst hta
        have hxok := HAD.out.ok x (List.mem_of_getElem? hx)
        have hxf := HFAC.out k x hx
        have hgx : g.addons.getD k default = x := by simp [List.getD, hx]
        have hgk := HGO.out k H0.out
        have hek := HER.out k H0.out
        rw [hgx] at hgk hek
        obtain ⟨hu0, hu1⟩ := HBD.out k (by have := HN.out; omega)
        have c0 := hF0.cell_some (hcell 0 _ rfl) (by simp)
        have c1 := hF0.cell_some (hcell 1 _ rfl) (by simp)
        have c2 := hF0.cell_some (hcell 2 _ rfl) (by simp)
        have c3 := hF0.cell_some (hcell 3 _ rfl) (by simp)
        have c4 := hF0.cell_some (hcell 4 _ rfl) (by simp)
        have c5 := hF0.cell_some (hcell 5 _ rfl) (by simp)
        rw [Nat.add_zero] at c0
        generalize drTo g.addons s k = D at *
        have HOK := Lib.hid hxok
        have HGK := Lib.hid hgk
        have HEK := Lib.hid hek
        have hki : (k : Int) < (n : Int) := by omega
        have hk0 : (0 : Int) ≤ (k : Int) := by omega
        have hsbw : sb < wr.heap.size := hsr.lt
        clear hx hcell hgx hgk hek hxok
        have hs4 : StrAt (wr.alloc (.cells x.cells.toArray 53)) sb D.S D.U := hsr.fr ((Fr.refl [] _).alloc (.cells x.cells.toArray 53)) (by simp)
        have hF4 : Fr [sb] w3 (wr.alloc (.cells x.cells.toArray 53)) := hf.alloc _
        rcases hxf with ⟨hkd, hl1, hl8⟩ | ⟨hkd, hl1, hl8⟩
        · have hone : drOne x D = ⟨bE x.factors.length D.S D.U, x.factors.getD (bV x.factors.length D.S D.U).toNat 0, D.txt, bS x.factors.length D.S D.U, bU x.factors.length D.S D.U⟩ := by unfold drOne; rw [if_pos hkd]
          have hgk := HGK.out
          have hek := HEK.out
          rw [hone] at hgk hek
          have hFD := rbelow_any sb D.S D.U x.factors.length _ hs4 hu0 (by omega)
          have hz := bE_zero x.factors.length D.S D.U
          have hrf := HOK.out.rf
          obtain ⟨_, _, hvf, hfc, hfm, hrf⟩ := hrf
          simp only [Value.slice.injEq] at hvf
          obtain ⟨hvf1, _, hvf2⟩ := hvf
          subst hvf1
          subst hvf2
          have hlenI : ∃ fl, fl = x.factors.length := ⟨_, rfl⟩
          obtain ⟨fl, hfl⟩ := hlenI
          have hxc : x.cells.toArray = #[.string x.name, .int .i64 x.kind, .int .i64 x.price, .slice x.fa fl x.fc, .int .i64 x.digits, .slice x.pa x.prizes.length x.pc] := by rw [hfl]; rfl
          rw [hxc] at hFD hF4
          rw [← hfl] at hgk hek hFD hz hl1 hl8 hrf c3
          have HFD := Lib.hid hFD
          have HGK2 := Lib.hid hgk
          have HEK2 := Lib.hid hek
          have HZ := Lib.hid hz
          have HRF := Lib.hid hrf
          have HF4 := Lib.hid hF4
          generalize x.factors = facs at *
          generalize x.fc = fc at *
          generalize x.fa = fa at *
          generalize x.name = name at *
          generalize x.price = price at *
          generalize x.digits = digits at *
          generalize x.pa = pa at *
          generalize x.pc = pc at *
          generalize x.prizes.length = pl at *
          generalize x.kind = kd at *
          subst hkd
          clear hone hgk hek hFD hs4 hz hrf hfl hxc hF4 hsr
          have hfl8 : (fl : Int) ≤ 8 := by omega
          go_wp2_with fail
          refine (HFD.out).mono ?_
          rintro e w5 ⟨rfl, hs5, ho⟩
          have hF5 : Fr [sb] w3 w5 := HF4.out.trans ho.fr
          have m3 : w5.cell? ⟨wr.heap.size, 3, none⟩ = some (.slice fa fl fc) := ho.fr.cell_some (new_cell rfl rfl) (by simp; omega)
          generalize hE : bE fl D.S D.U = E at *
          generalize bV fl D.S D.U = V at *
          generalize bS fl D.S D.U = S1 at *
          generalize bU fl D.S D.U = U1 at *
          clear hE c0 c1 c2 c3 c4 c5 HF4 HFD
          by_cases h0 : E = 0
          · subst h0
            obtain ⟨_, _, v0, v1⟩ := HZ.out (by first | trivial | rfl)
            obtain ⟨q, rfl⟩ := Int.eq_ofNat_of_zero_le v0
            obtain ⟨fg, fo, rfl, hcl⟩ := HRF.out q (by omega)
            have hfb : ¬ fg = sb := by have := lt_of_cell hcl; simp at this; omega
            have hc := (ho.fr.cell_some (((hF3.trans' hf (by simp; omega)).alloc _).cell_some hcl (by simp)) (by simpa using hfb))
            have hqi : (q : Int) < (fl : Int) := by omega
            have hyy : facs.getD ((q : Int)).toNat 0 = facs.getD q 0 := by simp
            have hgk := HGK2.out
            rw [hyy] at hgk
            generalize facs.getD q 0 = y at *
            have HS5 := Lib.hid hs5
            have HGK3 := Lib.hid hgk
            clear hs5 hgk hcl ho HEK2 hyy
            go_wp2_with fail
            refine ⟨⟨k + 1, by omega, by go_num, ?_, ?_, ?_, ?_, hF5⟩, by simp [intOf]; omega⟩
            · rw [HGK3.out]
            · rw [HGK3.out]
            · exact Lib.hid (by rw [HGK3.out])
            · rw [HGK3.out]; exact HS5.out
          · have hd : (E != 0) = true := by simpa using h0
            have H00 := Lib.hid h0
            have hde := HEK2.out h0 hlt
            have HDEE := Lib.hid (HDE.out.trans hde)
            clear h0 hde
            go_wp2_with fail
            go_ret3
            exact HE0.out _ E HDEE.out H00.out (hF3.trans' hF5 (by simp; omega))
        · obtain ⟨d, hd⟩ := Int.eq_ofNat_of_zero_le (show 0 ≤ x.digits by omega)
          have hone : drOne x D = ⟨seE 10 D.S D.U d, D.num, serS D.S D.U d, (stq 10 D.S D.U d).1, (stq 10 D.S D.U d).2⟩ := by unfold drOne; rw [if_neg (by omega), hd]; rfl
          have hgk := HGK.out
          have hek := HEK.out
          rw [hone] at hgk hek
          have hSD := rser_any D.S D.U d sb _ hs4 hu0 (by omega) (by omega) (by omega)
          have hxc : x.cells.toArray = #[.string x.name, .int .i64 x.kind, .int .i64 x.price, .slice x.fa x.factors.length x.fc, .int .i64 x.digits, .slice x.pa x.prizes.length x.pc] := rfl
          rw [hxc] at hSD hF4
          unfold SerDPost at hSD
          have HSD := Lib.hid hSD
          have HGK2 := Lib.hid hgk
          have HEK2 := Lib.hid hek
          have HF4 := Lib.hid hF4
          generalize x.fc = fc at *
          generalize x.fa = fa at *
          generalize x.factors.length = fl at *
          generalize x.name = name at *
          generalize x.price = price at *
          generalize x.digits = digits at *
          generalize x.pa = pa at *
          generalize x.pc = pc at *
          generalize x.prizes.length = pl at *
          generalize x.kind = kd at *
          subst hkd
          subst hd
          clear hone hgk hek hSD hs4 hxc hF4 hsr
          go_wp2_with fail
          refine (HSD.out).mono ?_
          rintro e w5 ⟨T1, S1, U1, rfl, hs5, f5, hb5⟩
          have hF5 : Fr [sb] w3 w5 := HF4.out.trans f5
          generalize hE : seE 10 D.S D.U d = E at *
          clear hE c0 c1 c2 c3 c4 c5 HF4 HSD
          by_cases h0 : E = 0
          · subst h0
            obtain ⟨rfl, rfl, rfl⟩ := hb5 (by first | trivial | rfl)
            generalize serS D.S D.U d = y at *
            have hgk := HGK2.out
            have HS5 := Lib.hid hs5
            have HGK3 := Lib.hid hgk
            clear hb5 hs5 HEK2 hgk
            go_wp2_with fail
            refine ⟨⟨k + 1, by omega, by go_num, ?_, ?_, ?_, ?_, hF5⟩, by simp [intOf]; omega⟩
            · rw [HGK3.out]
            · rw [HGK3.out]
            · exact Lib.hid (by rw [HGK3.out])
            · rw [HGK3.out]; exact HS5.out
          · have hd : (E != 0) = true := by simpa using h0
            have H00 := Lib.hid h0
            have hde := HEK2.out h0 hlt
            have HDEE := Lib.hid (HDE.out.trans hde)
            clear h0 hb5 hde
            go_wp2_with fail
            go_ret3
            exact HE0.out _ E HDEE.out H00.out (hF3.trans' hF5 (by simp; omega))
      · obtain rfl : k = n := by omega
        go_wp2_with fail
        go_ret3
        exact HK0.out _ _ _ (by rw [HDE.out]; exact H0.out) (by rw [← HN.out]) (by rw [← HN.out]) hF0
  · obtain ⟨E, hE⟩ : ∃ E, E = chkE g := ⟨_, rfl⟩
    rw [if_pos he] at hdE
    rw [← hE] at hC he hdE
    have HDE := Lib.hid hdE
    have HC := Lib.hid hC
    have HE0 := Lib.hid hE0
    have HNE := Lib.hid he
    have d1 : (E != 0) = true := by simpa using he
    clear hC h20 he hok hE hdE hE0 hK0
    go_enter Try.func34, Try.ntmps34
    go_wp2_with (first | (refine box_game rfl (.tmp 0) rfl g rfl ?_; intro w1 hg1 hz1 hf1) | (refine load_game rfl (.tmp 2) rfl _ rfl g hg1 ?_))
    refine (HC.out _ hf1).mono ?_
    rintro e w2 ⟨S, rfl, f2⟩
    go_wp2_with fail
    go_ret3
    exact HE0.out _ E HDE.out HNE.out (hf1.trans f2)
end Go.Proofs.Ytdbkkbeelemnhaa
