/-
  Draw of add-ons (layer 40).
-/
import Derived.Test.YtdbkkbeelemnhaaDrawM
import Derived.Test.YtdbkkbeelemnhaaPrice
set_option linter.unusedVariables false
namespace Go.Proofs.Ytdbkkbeelemnhaa
open Go.RowKit
/-- what was drawn: the error, the factor, the serial number, the state and the counter of the stream -/
structure Dr where
  err : Int
  num : Int
  txt : ByteArray
  S : Int
  U : Int
def drOne (a : Ad) (d : Dr) : Dr :=
  if a.kind = 1 then ⟨bE a.factors.length d.S d.U, a.factors.getD (bV a.factors.length d.S d.U).toNat 0, d.txt, bS a.factors.length d.S d.U, bU a.factors.length d.S d.U⟩
  else ⟨seE 10 d.S d.U a.digits.toNat, d.num, serS d.S d.U a.digits.toNat, (stq 10 d.S d.U a.digits.toNat).1, (stq 10 d.S d.U a.digits.toNat).2⟩
def drTo (l : List Ad) (s : Int) : Nat → Dr
  | 0 => ⟨0, 0, ⟨#[]⟩, s, 0⟩
  | k + 1 => if (drTo l s k).err ≠ 0 then drTo l s k else drOne (l.getD k default) (drTo l s k)
def dE (g : Gm) (s : Int) : Int := if chkE g ≠ 0 then chkE g else (drTo g.addons s g.addons.length).err
def dN (g : Gm) (s : Int) : Int := if dE g s = 0 then (drTo g.addons s g.addons.length).num else 0
def dT (g : Gm) (s : Int) : ByteArray := if dE g s = 0 then (drTo g.addons s g.addons.length).txt else ⟨#[]⟩
theorem drTo_stay (l : List Ad) (s : Int) (k : Nat) (h : (drTo l s k).err ≠ 0) : ∀ j, drTo l s (k + j) = drTo l s k := by
  intro j
  induction j with
  | zero => rfl
  | succ j ih => rw [show k + (j + 1) = k + j + 1 by omega, drTo, ih, if_pos h]
theorem drTo_go (l : List Ad) (s : Int) (k : Nat) (h : (drTo l s k).err = 0) : drTo l s (k + 1) = drOne (l.getD k default) (drTo l s k) := by rw [drTo, if_neg (by simp [h])]
theorem drTo_err (l : List Ad) (s : Int) (k n : Nat) (h : (drTo l s k).err = 0) (he : (drOne (l.getD k default) (drTo l s k)).err ≠ 0) (hk : k < n) : (drTo l s n).err = (drOne (l.getD k default) (drTo l s k)).err := by
  obtain ⟨j, rfl⟩ : ∃ j, n = k + 1 + j := ⟨n - (k + 1), by omega⟩
  have h1 := drTo_go l s k h
  rw [drTo_stay l s (k + 1) (by rw [h1]; exact he) j, h1]
theorem drOne_bd (a : Ad) (d : Dr) (hd : a.kind ≠ 1 → a.digits ≤ 8) : d.U ≤ (drOne a d).U ∧ (drOne a d).U ≤ d.U + 512 := by
  unfold drOne
  split
  · have := bU_bd a.factors.length d.S d.U
    simp only; omega
  · rename_i hk
    have := stq_bd 10 d.S d.U a.digits.toNat
    have := hd hk
    simp only; omega
theorem drTo_bd (l : List Ad) (s : Int) (hl : ∀ (i : Nat) (a : Ad), l[i]? = some a → a.kind ≠ 1 → a.digits ≤ 8) : ∀ k, k ≤ l.length → 0 ≤ (drTo l s k).U ∧ (drTo l s k).U ≤ 512 * k := by
  intro k
  induction k with
  | zero => intro _; simp [drTo]
  | succ k ih =>
    intro hk
    have h1 := ih (by omega)
    rw [drTo]
    split
    · omega
    · have hx := List.getElem?_eq_getElem (l := l) (i := k) (by omega)
      have hg : l.getD k default = l[k] := by simp [List.getD, show k < l.length by omega]
      rw [hg]
      have := drOne_bd l[k] (drTo l s k) (hl k _ hx)
      omega
def ADPost (g : Gm) (s : Int) (w : World) (e : Ending) (w' : World) : Prop := e = .returned (.tuple #[.int .i64 (dN g s), .string (dT g s), .int .i64 (dE g s)]) ∧ Fr [] w w'
theorem ad_err {g : Gm} {s : Int} {w w' : World} (E : Int) (h : dE g s = E) (h0 : E ≠ 0) (hf : Fr [] w w') : ADPost g s w (.returned (.tuple #[.int .i64 0, .string ⟨#[]⟩, .int .i64 E])) w' := by
  have h1 : dN g s = 0 := by unfold dN; rw [h, if_neg h0]
  have h2 : dT g s = ⟨#[]⟩ := by unfold dT; rw [h, if_neg h0]
  exact ⟨by rw [h1, h2, h], hf⟩
theorem ad_ok {g : Gm} {s : Int} {w w' : World} (N : Int) (T : ByteArray) (h : dE g s = 0) (hn : N = (drTo g.addons s g.addons.length).num) (ht : T = (drTo g.addons s g.addons.length).txt) (hf : Fr [] w w') : ADPost g s w (.returned (.tuple #[.int .i64 N, .string T, .int .i64 0])) w' := by
  have h1 : dN g s = N := by unfold dN; rw [h, if_pos rfl, hn]
  have h2 : dT g s = T := by unfold dT; rw [h, if_pos rfl, ht]
  exact ⟨by rw [h1, h2, h], hf⟩
theorem meth_f (a : Addr) (w : World) : (method 228 77 (.pointer (some a)) "lottery/addon.draw").run Try.prog w = .ok (97, .pointer (some a)) w := by kernel_rfl
theorem meth_s (a : Addr) (w : World) : (method 228 80 (.pointer (some a)) "lottery/addon.draw").run Try.prog w = .ok (100, .pointer (some a)) w := by kernel_rfl
theorem ta_f (a : Addr) (w : World) : (Instr.typeAssert (.iface 77 (.pointer (some a))) 74 77 true).run Try.prog w = .ok (.tuple #[.pointer (some a), .bool true]) w := by kernel_rfl
theorem ta_no (a : Addr) (w : World) : (Instr.typeAssert (.iface 80 (.pointer (some a))) 74 77 true).run Try.prog w = .ok (.tuple #[.pointer none, .bool false]) w := by kernel_rfl
theorem ta_s (a : Addr) (w : World) : (Instr.typeAssert (.iface 80 (.pointer (some a))) 74 80 true).run Try.prog w = .ok (.tuple #[.pointer (some a), .bool true]) w := by kernel_rfl
set_option maxRecDepth 20000 in
set_option maxHeartbeats 2000000 in
theorem draw40_any (g : Gm) (s : Int) (w : World) (hok : g.Ok w) (hs0 : 0 ≤ s) (hs1 : s ≤ 18446744073709551615) :
    Calls Try.prog 33 #[g.val, .int .u64 s] w (ADPost g s w) := by
  have hC := fun w' (h : Fr [] w w') => check_any g w' (hok.fr h)
  have h20 : ∀ w b, GmAt w b g → w.cell? ⟨b, 20, none⟩ = some (.slice g.aa g.addons.length g.ac) := fun w b h => h.cell 20 _ rfl
  unfold ChkPost at hC
  have hE0 := fun w' => @ad_err g s w w'
  have hK0 := fun w' => @ad_ok g s w w'
  have hdE : dE g s = if chkE g ≠ 0 then chkE g else (drTo g.addons s g.addons.length).err := rfl
  generalize dE g s = DE at *
  by_cases he : chkE g = 0
  · obtain ⟨p1, p2, p3⟩ := chkE_facts he
    obtain ⟨q1, q2⟩ := addsE_facts p2
    rw [he] at hC hdE
    rw [if_neg (by simp)] at hdE
    have hfac : ∀ (i : Nat) (a : Ad), g.addons[i]? = some a → (a.kind = 1 ∧ 1 ≤ a.factors.length ∧ a.factors.length ≤ 8) ∨ (a.kind = 2 ∧ 1 ≤ a.digits ∧ a.digits ≤ 8) := fun i a ha => by
      obtain ⟨_, hk, _, _, h1, h2⟩ := adE_facts (q2 i a ha).1
      rcases hk with hk | hk
      · exact .inl ⟨hk, (h1 hk).2.2.1, (h1 hk).2.2.2.1⟩
      · exact .inr ⟨hk, (h2 hk).2.1, (h2 hk).2.2.1⟩
    have hbd := drTo_bd g.addons s (fun i a ha hk => by rcases hfac i a ha with ⟨h, _⟩ | ⟨_, _, h⟩ <;> omega)
    have hgo := drTo_go g.addons s
    have her := fun k => drTo_err g.addons s k g.addons.length
    have hd0 : drTo g.addons s 0 = ⟨0, 0, ⟨#[]⟩, s, 0⟩ := rfl
    obtain ⟨n, hN⟩ : ∃ n, n = g.addons.length := ⟨_, rfl⟩
    rw [← hN] at q1 hbd h20 hdE her
    obtain ⟨A, hA⟩ : ∃ A, A = g.aa := ⟨_, rfl⟩
    rw [← hA] at h20
    have HA := Lib.hid hA
    have HH20 := Lib.hid h20
    have hAds := hok.addons
    have HAD := Lib.hid hAds
    have HN := Lib.hid hN
    have HC := Lib.hid hC
    have HE0 := Lib.hid hE0
    have HK0 := Lib.hid hK0
    have HDE := Lib.hid hdE
    have HFAC := Lib.hid hfac
    have HBD := Lib.hid hbd
    have HGO := Lib.hid hgo
    have HER := Lib.hid her
    have HD0 := Lib.hid hd0
    have mf := meth_f
    have ms := meth_s
    have t1 := ta_f
    have t2 := ta_no
    have t3 := ta_s
    clear hC h20 he p1 p2 p3 q2 hok hN hAds hA hE0 hK0 hdE hfac hbd hgo her hd0
    go_enter Try.func33, Try.ntmps33
    go_wp2_with (first | (refine box_game rfl (.tmp 0) rfl g rfl ?_; intro w1 hg1 hz1 hf1) | (refine load_game rfl (.tmp 2) rfl _ rfl g hg1 ?_))
    refine (HC.out _ hf1).mono ?_
    rintro e w2 ⟨S0, rfl, _, f2⟩
    have hg2 := hg1.fr f2 (by simp)
    have hF2 := hf1.trans f2
    clear f2 hg1 hz1 hf1 HC
    go_wp2_with fail
    refine (new_any _ _).mono ?_
    rintro e w3 ⟨rfl, hs3, hz3, hb3⟩
    have c20 := HH20.out _ _ (hg2.fr (Fr.of_below hb3) (by simp))
    have hF3 := hF2.trans (Fr.of_below hb3)
    have hsz2 : w.heap.size ≤ w2.heap.size := hF2.size
    generalize w2.heap.size = sb at *
    clear hg2 hF2 hb3
    have hsb : sb < w3.heap.size := hs3.lt
    go_wp2_with fail
    go_loopw [10, 11, 31] (fun nn tt i wr => ∃ k : Nat, k ≤ n ∧ i = .int .i64 k ∧ nn = .int .i64 (drTo g.addons s k).num ∧ tt = .string (drTo g.addons s k).txt ∧ Hid ((drTo g.addons s k).err = 0) ∧ StrAt wr sb (drTo g.addons s k).S (drTo g.addons s k).U ∧ Fr [sb] w3 wr) (fun _ _ i _ => n - (intOf i).toNat)
    case atStart => exact ⟨0, by omega, rfl, by rw [HD0.out], by rw [HD0.out], Lib.hid (by rw [HD0.out]), by rw [HD0.out]; exact hs3, Fr.refl _ _⟩
    case round =>
      obtain ⟨k, hk, rfl, rfl, rfl, H0, hsr, hf⟩ := hrel
      have hF0 : Fr [] w wr := hF3.trans' hf (by simp; omega)
      by_cases hlt : k < n
      · obtain ⟨x, hx⟩ : ∃ x, g.addons[k]? = some x := ⟨_, List.getElem?_eq_getElem (by have := HN.out; omega)⟩
        obtain ⟨b, o, hta, hcell⟩ := RdF.at (f := Ad.cells) HAD.out.rd hx
        rw [← HA.out] at hta
        subst hta
        have hxok := HAD.out.ok x (List.mem_of_getElem? hx)
        have hxf := HFAC.out k x hx
        have hgx : g.addons.getD k default = x := by simp [List.getD, hx]
        have hgk := HGO.out k H0.out
        have hek := HER.out k H0.out
        rw [hgx] at hgk hek
        obtain ⟨hu0, hu1⟩ := HBD.out k (by have := HN.out; omega)
        have c0 := hF0.cell_some (hcell 0 _ rfl) (by simp)
        have c1 := hF0.cell_some (hcell 1 _ rfl) (by simp)
        have c2 := hF0.cell_some (hcell 2 _ rfl) (by simp)
        have c3 := hF0.cell_some (hcell 3 _ rfl) (by simp)
        have c4 := hF0.cell_some (hcell 4 _ rfl) (by simp)
        have c5 := hF0.cell_some (hcell 5 _ rfl) (by simp)
        rw [Nat.add_zero] at c0
        have hof1 := fun w => of_factor x w
        have hof2 := fun w => of_serial x w
        generalize drTo g.addons s k = D at *
        have HOK := Lib.hid hxok
        have HGK := Lib.hid hgk
        have HEK := Lib.hid hek
        have HOF1 := Lib.hid hof1
        have HOF2 := Lib.hid hof2
        have hki : (k : Int) < (n : Int) := by omega
        have hk0 : (0 : Int) ≤ (k : Int) := by omega
        clear hx hcell hgx hgk hek hxok hof1 hof2
        obtain ⟨wo, rfl⟩ : ∃ wo : World, wo = wr := ⟨_, rfl⟩
        go_wp2_with fail
        rcases hxf with ⟨hkd, hl1, hl8⟩ | ⟨hkd, hl1, hl8⟩
        · refine (HOF1.out _ hkd).mono ?_
          rintro e w4 ⟨fb, rfl, hfb, hfbl, f4⟩
          have hF4 : Fr [sb] w3 w4 := (hf.alloc (.cells x.cells.toArray 53)).trans' f4 (by simp)
          have hs4 : StrAt w4 sb D.S D.U := (hsr.fr ((Fr.refl [] _).alloc (.cells x.cells.toArray 53)) (by simp)).fr f4 (by simp)
          have hszr : w3.heap.size ≤ wo.heap.size := hf.size
          have hne : sb ≠ fb := by simp at hfbl; omega
          have hFW : Fr [] w w4 := hF3.trans' hF4 (by simp; omega)
          have hone : drOne x D = ⟨bE x.factors.length D.S D.U, x.factors.getD (bV x.factors.length D.S D.U).toNat 0, D.txt, bS x.factors.length D.S D.U, bU x.factors.length D.S D.U⟩ := by unfold drOne; rw [if_pos hkd]
          have hgk := HGK.out
          have hek := HEK.out
          rw [hone] at hgk hek
          have hFD := fdraw_any x D.S D.U fb sb w4 hfb w HOK.out hFW (by omega) hl1 hl8 hs4 hne hu0 (by omega)
          unfold FDPost facCells at hFD
          have HFD := Lib.hid hFD
          have HGK2 := Lib.hid hgk
          have HEK2 := Lib.hid hek
          have HKD := Lib.hid hkd
          clear hone hgk hek hFD hfb hs4 c0 c1 c2 c3 c4 c5 HOF1 HOF2 hsr f4 hkd
          go_wp2_with fail
          refine (HFD.out).mono ?_
          rintro e w5 ⟨rfl, hs5, f5, hb5⟩
          have hF5 : Fr [sb] w3 w5 := hF4.trans' f5 (by simp; right; simp at hfbl; omega)
          generalize hE : bE x.factors.length D.S D.U = E at *
          generalize bV x.factors.length D.S D.U = V at *
          generalize bS x.factors.length D.S D.U = S1 at *
          generalize bU x.factors.length D.S D.U = U1 at *
          clear hE
          by_cases h0 : E = 0
          · subst h0
            have hb5' := hb5 (by first | trivial | rfl)
            have l1 := cell_blk (i := 1) hb5' rfl
            generalize x.factors.getD V.toNat 0 = y at *
            have hgk := HGK2.out
            have HS5 := Lib.hid hs5
            clear hb5 hb5' hs5 HFD HEK2
            have HGK3 := Lib.hid hgk
            clear hgk
            go_wp2_with fail
            refine ⟨⟨k + 1, by omega, by go_num, ?_, ?_, ?_, ?_, hF5⟩, by simp [intOf]; omega⟩
            · rw [HGK3.out]
            · rw [HGK3.out]
            · exact Lib.hid (by rw [HGK3.out])
            · rw [HGK3.out]; exact HS5.out
          · have hd : (E != 0) = true := by simpa using h0
            have H00 := Lib.hid h0
            have hde := HEK2.out h0 hlt
            have HDEE := Lib.hid (HDE.out.trans hde)
            clear h0 hb5 hde
            go_wp2_with fail
            go_ret3
            exact HE0.out _ E HDEE.out H00.out (hF3.trans' hF5 (by simp; omega))
        · refine (HOF2.out _ hkd).mono ?_
          rintro e w4 ⟨fb, rfl, hfb, hfbl, f4⟩
          have hF4 : Fr [sb] w3 w4 := (hf.alloc (.cells x.cells.toArray 53)).trans' f4 (by simp)
          have hs4 : StrAt w4 sb D.S D.U := (hsr.fr ((Fr.refl [] _).alloc (.cells x.cells.toArray 53)) (by simp)).fr f4 (by simp)
          have hszr : w3.heap.size ≤ wo.heap.size := hf.size
          have hne : sb ≠ fb := by simp at hfbl; omega
          obtain ⟨d, hd⟩ := Int.eq_ofNat_of_zero_le (show 0 ≤ x.digits by omega)
          have hone : drOne x D = ⟨seE 10 D.S D.U d, D.num, serS D.S D.U d, (stq 10 D.S D.U d).1, (stq 10 D.S D.U d).2⟩ := by unfold drOne; rw [if_neg (by omega), hd]; rfl
          rw [hd] at hfb
          have hgk := HGK.out
          have hek := HEK.out
          rw [hone] at hgk hek
          have hSD := sdraw_any d ⟨#[]⟩ D.S D.U fb sb w4 hfb (by omega) (by omega) hs4 hne hu0 (by omega)
          unfold SDPost serCells at hSD
          have HSD := Lib.hid hSD
          have HGK2 := Lib.hid hgk
          have HEK2 := Lib.hid hek
          clear hone hgk hek hSD hfb hs4 c0 c1 c2 c3 c4 c5 HOF1 HOF2 hsr f4 hkd hd
          go_wp2_with fail
          refine (HSD.out).mono ?_
          rintro e w5 ⟨S1, U1, rfl, hs5, f5, hb5⟩
          have hF5 : Fr [sb] w3 w5 := hF4.trans' f5 (by simp; right; simp at hfbl; omega)
          generalize hE : seE 10 D.S D.U d = E at *
          clear hE
          by_cases h0 : E = 0
          · subst h0
            obtain ⟨hb5', rfl, rfl⟩ := hb5 (by first | trivial | rfl)
            have l1 := cell_blk (i := 1) hb5' rfl
            generalize serS D.S D.U d = y at *
            have hgk := HGK2.out
            have HS5 := Lib.hid hs5
            have HGK3 := Lib.hid hgk
            clear hb5 hb5' hs5 HSD HEK2 hgk
            go_wp2_with fail
            refine ⟨⟨k + 1, by omega, by go_num, ?_, ?_, ?_, ?_, hF5⟩, by simp [intOf]; omega⟩
            · rw [HGK3.out]
            · rw [HGK3.out]
            · exact Lib.hid (by rw [HGK3.out])
            · rw [HGK3.out]; exact HS5.out
          · have hd : (E != 0) = true := by simpa using h0
            have H00 := Lib.hid h0
            have hde := HEK2.out h0 hlt
            have HDEE := Lib.hid (HDE.out.trans hde)
            clear h0 hb5 hde
            go_wp2_with fail
            go_ret3
            exact HE0.out _ E HDEE.out H00.out (hF3.trans' hF5 (by simp; omega))
      · obtain rfl : k = n := by omega
        go_wp2_with fail
        go_ret3
        exact HK0.out _ _ _ (by rw [HDE.out]; exact H0.out) (by rw [← HN.out]) (by rw [← HN.out]) hF0
  · obtain ⟨E, hE⟩ : ∃ E, E = chkE g := ⟨_, rfl⟩
    rw [if_pos he] at hdE
    rw [← hE] at hC he hdE
    have HDE := Lib.hid hdE
    have HC := Lib.hid hC
    have HE0 := Lib.hid hE0
    have HNE := Lib.hid he
    have d1 : (E != 0) = true := by simpa using he
    clear hC h20 he hok hE hdE hE0 hK0
    go_enter Try.func33, Try.ntmps33
    go_wp2_with (first | (refine box_game rfl (.tmp 0) rfl g rfl ?_; intro w1 hg1 hz1 hf1) | (refine load_game rfl (.tmp 2) rfl _ rfl g hg1 ?_))
    refine (HC.out _ hf1).mono ?_
    rintro e w2 ⟨S, rfl, _, f2⟩
    go_wp2_with fail
    go_ret3
    exact HE0.out _ E HDE.out HNE.out (hf1.trans f2)
end Go.Proofs.Ytdbkkbeelemnhaa
