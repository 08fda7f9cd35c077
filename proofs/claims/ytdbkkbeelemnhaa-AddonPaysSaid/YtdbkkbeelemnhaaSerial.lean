/-
  Serial (layer 40) and that of the reference: the prize of a serial number, in terms of how many last digits agree.
-/
import Derived.Test.YtdbkkbeelemnhaaFactor
set_option linter.unusedVariables false
namespace Go.Proofs.Ytdbkkbeelemnhaa
open Go.RowKit
theorem hits_ex (s t : ByteArray) : ∃ n, IsHits s t n := by
  by_cases h : s.size = t.size
  · have hk : ∀ k, k ≤ s.size → (∃ n, IsHits s t n) ∨ (∀ j, j < k → byteAt s (s.size - 1 - j) = byteAt t (s.size - 1 - j)) := by
      intro k
      induction k with
      | zero => intro _; right; omega
      | succ k ih =>
        intro hk
        rcases ih (by omega) with h1 | h1
        · exact .inl h1
        · by_cases he : byteAt s (s.size - 1 - k) = byteAt t (s.size - 1 - k)
          · right
            intro j hj
            by_cases hjk : j < k
            · exact h1 j hjk
            · obtain rfl : j = k := by omega
              exact he
          · exact .inl ⟨k, .inr ⟨h, by omega, h1, fun _ => he⟩⟩
    rcases hk s.size (Nat.le_refl _) with h1 | h1
    · exact h1
    · exact ⟨s.size, .inr ⟨h, Nat.le_refl _, h1, by omega⟩⟩
  · exact ⟨0, .inl ⟨h, rfl⟩⟩
def serA (a : Ad) (sz n : Nat) : Int := if ((sz : Int) != a.digits) = true then 0 else if n = 0 then 0 else a.prizes.getD (n - 1) 0
def serV (g : Gm) (m : Int) (sz n : Nat) : Int := match selO g m 2 with
  | none => 0
  | some k => serA (g.addons.getD k default) sz n
theorem selTo_some {l : List Ad} {m kind : Int} : ∀ (f k j : Nat), selTo l m kind f k = some j → ∃ x, l[j]? = some x ∧ x.kind = kind ∧ bitB m j = true := by
  intro f
  induction f with
  | zero => intro k j h; simp [selTo] at h
  | succ f ih =>
    intro k j h
    rw [selTo] at h
    split at h
    · simp at h
    · rename_i x hx
      split at h
      · rename_i hc
        simp at h
        subst h
        exact ⟨x, hx, by simpa using hc.1, hc.2⟩
      · exact ih _ _ h
theorem selO_some {g : Gm} {m kind : Int} {j : Nat} (h : selO g m kind = some j) : chkE g = 0 ∧ maskB g.addons.length m = true ∧ ∃ x, g.addons[j]? = some x ∧ x.kind = kind ∧ bitB m j = true := by
  unfold selO at h
  split at h
  · simp at h
  · rename_i h1
    split at h
    · simp at h
    · rename_i h2
      exact ⟨by omega, by simpa using h2, selTo_some _ _ _ h⟩
/-- a selected serial add-on: as many prizes as digits -/
theorem selO_ser {g : Gm} {m : Int} {j : Nat} (h : selO g m 2 = some j) : ∃ x, g.addons[j]? = some x ∧ (x.prizes.length : Int) = x.digits ∧ x.kind = 2 ∧ bitB m j = true := by
  obtain ⟨h1, _, x, hx, hk, hb⟩ := selO_some h
  obtain ⟨_, p2, _⟩ := chkE_facts h1
  obtain ⟨_, q2⟩ := addsE_facts p2
  have := (adE_facts (q2 j x hx).1).2.2.2.2.2 hk
  exact ⟨x, hx, this.2.2.2.1, hk, hb⟩
def SerPost (g : Gm) (m : Int) (s t : ByteArray) (w : World) (e : Ending) (w' : World) : Prop := ∃ n, IsHits s t n ∧ e = .returned (.int .i64 (serV g m s.size n)) ∧ Fr [] w w'
theorem ser_zero {g : Gm} {m : Int} {s t : ByteArray} {w w' : World} (h : ∀ n, serV g m s.size n = 0) (hf : Fr [] w w') : SerPost g m s t w (.returned (.int .i64 0)) w' := by
  obtain ⟨n, hn⟩ := hits_ex s t
  exact ⟨n, hn, by rw [h], hf⟩
theorem ser_some {g : Gm} {m : Int} {s t : ByteArray} {w w' : World} (x : Int) (n : Nat) (hn : IsHits s t n) (h : serV g m s.size n = x) (hf : Fr [] w w') : SerPost g m s t w (.returned (.int .i64 x)) w' := ⟨n, hn, by rw [h], hf⟩
set_option maxRecDepth 20000 in
set_option maxHeartbeats 2000000 in
theorem serial_any (g : Gm) (m : Int) (s : ByteArray) (r : Re) (w : World) (hok : g.Ok w) (hs : s.size ≤ maxLen) (hr : r.serial.size ≤ maxLen) :
    Calls Try.prog 28 #[g.val, .int .i64 m, .string s, r.val] w (SerPost g m s r.serial w) := by
  have hS := fun w' (h : Fr [] w w') => sel_any g m 2 w' (hok.fr h)
  have hH := fun w => hits_any s r.serial w hs hr
  unfold SelPost at hS
  have hsz : s.size ≤ 9223372036854775807 := hs
  have hv0 : selO g m 2 = none → ∀ n, serV g m s.size n = 0 := fun h n => by unfold serV; rw [h]
  have hv1 : ∀ k x, selO g m 2 = some k → g.addons[k]? = some x → ∀ n, serV g m s.size n = serA x s.size n := fun k x h hx n => by
    unfold serV; rw [h]; simp [List.getD, hx]
  have hser := @selO_ser g m
  have hz := fun w' => @ser_zero g m s r.serial w w'
  have hsm := fun w' => @ser_some g m s r.serial w w'
  obtain ⟨ma, mn, mc, ba, bn, bc, ea, en, ec, factor, serial⟩ := r
  simp only [Re.val]
  simp only at hr hH hz hsm
  have HZ := Lib.hid hz
  have HSM := Lib.hid hsm
  have HS := Lib.hid hS
  have HH := Lib.hid hH
  have hOK := hok.addons.ok
  have HOK := Lib.hid hOK
  clear hS hok hH hz hsm hOK hs
  cases ho : selO g m 2 with
  | none =>
    have hvz := hv0 ho
    have HVZ := Lib.hid hvz
    rw [ho] at HS
    have hsn : (none : Option Nat).isSome = false := rfl
    clear hv0 hv1 hser ho hvz
    go_enter Try.func28, Try.ntmps28
    go_wp2_with (first | (refine box_game rfl (.tmp 0) rfl g rfl ?_; intro w1 hg1 hz1 hf1) | (refine load_game rfl (.tmp 4) rfl _ rfl g (hg1.fr ((Fr.refl [] _).alloc _) (by simp)) ?_))
    refine (HS.out _ (hf1.alloc _)).mono ?_
    rintro e w2 ⟨a, rfl, _, f2⟩
    have hF2 : Fr [] w w2 := (hf1.alloc _).trans f2
    obtain ⟨xname, xkind, xprice, xfa, xfc, xfactors, xdigits, xpa, xpc, xprizes⟩ := a
    simp only [Ad.val]
    generalize xfactors.length = fl at *
    generalize xprizes.length = pl at *
    go_wp2_with fail
    go_ret
    exact HZ.out _ HVZ.out (hF2.alloc _)
  | some k =>
    obtain ⟨x, hx, hlen, hkd, _⟩ := hser ho
    have hvx := hv1 k x ho hx
    have hxok := HOK.out x (List.mem_of_getElem? hx)
    have hrp := hxok.rp
    rw [ho] at HS
    have HX := Lib.hid hx
    have HVX := Lib.hid hvx
    have HRP := Lib.hid hrp
    have HLEN := Lib.hid hlen
    clear hv0 hv1 hser ho hvx hxok hx hrp hlen hkd
    go_enter Try.func28, Try.ntmps28
    go_wp2_with (first | (refine box_game rfl (.tmp 0) rfl g rfl ?_; intro w1 hg1 hz1 hf1) | (refine load_game rfl (.tmp 4) rfl _ rfl g (hg1.fr ((Fr.refl [] _).alloc _) (by simp)) ?_))
    refine (HS.out _ (hf1.alloc _)).mono ?_
    rintro e w2 ⟨a, rfl, ha, f2⟩
    have hax : a = x := by have := ha k rfl; rw [HX.out] at this; exact (Option.some.inj this).symm
    subst hax
    have c4 : w2.cell? ⟨w.heap.size + 1, 4, none⟩ = some (.string serial) := f2.cell_some (new_cell hz1 rfl) (by simp)
    have hF2 : Fr [] w w2 := (hf1.alloc _).trans f2
    obtain ⟨xname, xkind, xprice, xfa, xfc, xfactors, xdigits, xpa, xpc, xprizes⟩ := a
    simp only [Ad.val]
    simp only at HLEN HRP
    obtain ⟨_, _, hvp, _, hple, hrp⟩ := HRP.out
    simp only [Value.slice.injEq] at hvp
    obtain ⟨rfl, _, rfl⟩ := hvp
    have hple2 : xprizes.length ≤ 9223372036854775807 := by have := Nat.le_trans (by assumption : xprizes.length ≤ xpc) hple; exact this
    obtain ⟨pl, hpl⟩ : ∃ pl, pl = xprizes.length := ⟨_, rfl⟩
    rw [← hpl] at hrp hple2 ⊢
    have HPL := Lib.hid hpl
    have HHRP := Lib.hid hrp
    generalize xfactors.length = fl at *
    have hlt : w.heap.size + 1 < w2.heap.size := lt_of_cell c4
    have hne : ¬ w2.heap.size = w.heap.size + 1 := by omega
    clear f2 hg1 hf1 ha hpl hrp
    cases hd : ((s.size : Int) != xdigits)
    · have hdd : (s.size : Int) = xdigits := by simpa using hd
      have hsp : s.size = pl := by have := HLEN.out; have := HPL.out; omega
      have HSP := Lib.hid hsp
      have hval : ∀ n, serV g m s.size n = if n = 0 then 0 else xprizes.getD (n - 1) 0 := fun n => by rw [HVX.out n]; unfold serA; simp only; rw [hd]; rfl
      have HVAL := Lib.hid hval
      clear hdd hsp hval
      go_wp2_with fail
      refine (HH.out _).mono ?_
      rintro e w3 ⟨n, hn, rfl, f3⟩
      have hF3 := (hF2.alloc (.cells #[.string xname, .int .i64 xkind, .int .i64 xprice, .slice xfa fl xfc, .int .i64 xdigits, .slice xpa pl xpc] 53)).trans f3
      have c5 : w3.cell? ⟨w2.heap.size, 5, none⟩ = some (.slice xpa pl xpc) := f3.cell_some (new_cell rfl rfl) (by simp)
      clear c4 f3
      have hnle := hn.le
      have HNI := Lib.hid hn
      clear hn
      rcases n with _ | q
      · go_wp2_with fail
        go_ret
        exact HSM.out _ _ 0 HNI.out (by rw [HVAL.out]; rfl) hF3
      · obtain ⟨pg, po, rfl, hcell⟩ := HHRP.out q (by have := HSP.out; omega)
        have hc := hF3.cell_some hcell (by simp)
        have hqp : q < pl := by have := HSP.out; omega
        have hqi : (q : Int) < (pl : Int) := by omega
        have hval2 : serV g m s.size (q + 1) = xprizes.getD q 0 := by rw [HVAL.out]; simp
        have HV2 := Lib.hid hval2
        clear hcell hval2
        generalize xprizes.getD q 0 = y at *
        have dq : ((q : Int) + 1 == 0) = false := by simp; omega
        go_wp2_with fail
        go_ret
        exact HSM.out _ _ (q + 1) HNI.out HV2.out hF3
    · have hval : ∀ n, serV g m s.size n = 0 := fun n => by rw [HVX.out n]; unfold serA; simp only; rw [hd]; rfl
      have HVAL := Lib.hid hval
      clear hval
      go_wp2_with fail
      go_ret
      exact HZ.out _ HVAL.out (hF2.alloc _)
set_option maxRecDepth 20000 in
set_option maxHeartbeats 2000000 in
theorem rserial_any (g : Gm) (m : Int) (s : ByteArray) (r : Re) (w : World) (hok : g.Ok w) (hs : s.size ≤ maxLen) (hr : r.serial.size ≤ maxLen) :
    Calls Try.prog 29 #[g.val, .int .i64 m, .string s, r.val] w (SerPost g m s r.serial w) := by
  have hS := fun w' (h : Fr [] w w') => find_any g m 2 w' (hok.fr h)
  have hH := fun w => rhits_any s r.serial w hs hr
  have hsz : s.size ≤ 9223372036854775807 := hs
  have hv0 : selO g m 2 = none → ∀ n, serV g m s.size n = 0 := fun h n => by unfold serV; rw [h]
  have hv1 : ∀ k x, selO g m 2 = some k → g.addons[k]? = some x → ∀ n, serV g m s.size n = serA x s.size n := fun k x h hx n => by
    unfold serV; rw [h]; simp [List.getD, hx]
  have hser := @selO_ser g m
  have hz := fun w' => @ser_zero g m s r.serial w w'
  have hsm := fun w' => @ser_some g m s r.serial w w'
  have h20 : ∀ w b, GmAt w b g → w.cell? ⟨b, 20, none⟩ = some (.slice g.aa g.addons.length g.ac) := fun w b h => h.cell 20 _ rfl
  obtain ⟨ma, mn, mc, ba, bn, bc, ea, en, ec, factor, serial⟩ := r
  simp only [Re.val]
  simp only at hr hH hz hsm
  have HZ := Lib.hid hz
  have HSM := Lib.hid hsm
  have HS := Lib.hid hS
  have HH := Lib.hid hH
  have H20 := Lib.hid h20
  have hAD := hok.addons
  have HAD := Lib.hid hAD
  clear hS hok hH hz hsm hAD hs h20
  cases ho : selO g m 2 with
  | none =>
    have hvz := hv0 ho
    have HVZ := Lib.hid hvz
    rw [ho] at HS
    simp only [fndV] at HS
    clear hv0 hv1 hser ho hvz
    go_enter Try.func29, Try.ntmps29
    go_wp2_with (first | (refine box_game rfl (.tmp 0) rfl g rfl ?_; intro w1 hg1 hz1 hf1) | (refine load_game rfl (.tmp 4) rfl _ rfl g (hg1.fr ((Fr.refl [] _).alloc _) (by simp)) ?_))
    refine (HS.out _ (hf1.alloc _)).mono ?_
    rintro e w2 ⟨rfl, f2⟩
    have hF2 : Fr [] w w2 := (hf1.alloc _).trans f2
    go_wp2_with fail
    go_ret
    exact HZ.out _ HVZ.out hF2
  | some k =>
    obtain ⟨x, hx, hlen, hkd, _⟩ := hser ho
    have hvx := hv1 k x ho hx
    have hxok := HAD.out.ok x (List.mem_of_getElem? hx)
    have hrp := hxok.rp
    have hkn := (List.getElem?_eq_some_iff.1 hx).1
    rw [ho] at HS
    simp only [fndV] at HS
    obtain ⟨b, o, hta, hcell⟩ := RdF.at (f := Ad.cells) HAD.out.rd hx
    have hle := HAD.out.rd.len.2
    unfold maxLen at hle
    have h20' := H20.out
    rw [hta] at h20'
    obtain ⟨n0, hn0⟩ : ∃ n0, n0 = g.addons.length := ⟨_, rfl⟩
    rw [← hn0] at h20' hkn hle
    have HH20 := Lib.hid h20'
    have HVX := Lib.hid hvx
    have HLEN := Lib.hid hlen
    obtain ⟨_, _, hvp, hpc, hple, hrp⟩ := hrp
    simp only [Value.slice.injEq] at hvp
    obtain ⟨hvp1, _, hvp2⟩ := hvp
    have hple2 : x.prizes.length ≤ 9223372036854775807 := Nat.le_trans hpc hple
    have k4 := hcell 4 _ rfl
    have k5 := hcell 5 _ rfl
    subst hvp1
    subst hvp2
    have hvb : ∀ n, serV g m s.size n = if ((s.size : Int) != x.digits) = true then 0 else if n = 0 then 0 else x.prizes.getD (n - 1) 0 := fun n => by rw [HVX.out n]; rfl
    obtain ⟨pl, hpl⟩ : ∃ pl, pl = x.prizes.length := ⟨_, rfl⟩
    rw [← hpl] at hrp hple2 k5 HLEN
    generalize x.prizes = prizes at *
    generalize x.digits = digits at *
    generalize x.pc = pc at *
    generalize x.pa = pa at *
    have HVB := Lib.hid hvb
    have HHRP := Lib.hid hrp
    have hkn1 : (k : Int) < (n0 : Int) := by omega
    have hk0 : (0 : Int) ≤ (k : Int) := by omega
    clear hv0 hv1 hser ho hvx hxok hx hrp hlen hkd hcell hta H20 h20' hn0 HVX hvb hpl hpc hple
    go_enter Try.func29, Try.ntmps29
    go_wp2_with (first | (refine box_game rfl (.tmp 0) rfl g rfl ?_; intro w1 hg1 hz1 hf1) | (refine load_game rfl (.tmp 4) rfl _ rfl g (hg1.fr ((Fr.refl [] _).alloc _) (by simp)) ?_))
    refine (HS.out _ (hf1.alloc _)).mono ?_
    rintro e w2 ⟨rfl, f2⟩
    have c4 : w2.cell? ⟨w.heap.size + 1, 4, none⟩ = some (.string serial) := f2.cell_some (new_cell hz1 rfl) (by simp)
    have c20 := HH20.out _ _ ((hg1.fr ((Fr.refl [] _).alloc (.cells #[.slice ma mn mc, .slice ba bn bc, .slice ea en ec, .int .i64 factor, .string serial] 38)) (by simp)).fr f2 (by simp))
    have hF2 : Fr [] w w2 := (hf1.alloc _).trans f2
    have d4 := hF2.cell_some k4 (by simp)
    clear f2 hg1 hf1
    cases hd : ((s.size : Int) != digits)
    · have hsp : s.size = pl := by have h1 : (s.size : Int) = digits := by simpa using hd
                                   have := HLEN.out; omega
      have HSP := Lib.hid hsp
      have hval : ∀ n, serV g m s.size n = if n = 0 then 0 else prizes.getD (n - 1) 0 := fun n => by rw [HVB.out n, hd]; rfl
      have HVAL := Lib.hid hval
      clear hsp hval
      go_wp2_with fail
      refine (HH.out _).mono ?_
      rintro e w3 ⟨n, hn, rfl, f3⟩
      have hF3 := hF2.trans f3
      have r20 := f3.cell_some c20 (by simp)
      have d5 := hF3.cell_some k5 (by simp)
      clear c4 f3 c20
      have hnle := hn.le
      have HNI := Lib.hid hn
      clear hn
      rcases n with _ | q
      · go_wp2_with fail
        go_ret
        exact HSM.out _ _ 0 HNI.out (by rw [HVAL.out]; rfl) hF3
      · obtain ⟨pg, po, rfl, hcell⟩ := HHRP.out q (by have := HSP.out; omega)
        have hc := hF3.cell_some hcell (by simp)
        have hqp : q < pl := by have := HSP.out; omega
        have hqi : (q : Int) < (pl : Int) := by omega
        have hval2 : serV g m s.size (q + 1) = prizes.getD q 0 := by rw [HVAL.out]; simp
        have HV2 := Lib.hid hval2
        clear hcell hval2
        generalize prizes.getD q 0 = y at *
        have dq : ((q : Int) + 1 == 0) = false := by simp; omega
        go_wp2_with fail
        go_ret
        exact HSM.out _ _ (q + 1) HNI.out HV2.out hF3
    · have hval : ∀ n, serV g m s.size n = 0 := fun n => by rw [HVB.out n, hd]; rfl
      have HVAL := Lib.hid hval
      clear hval
      go_wp2_with fail
      go_ret
      exact HZ.out _ HVAL.out hF2
end Go.Proofs.Ytdbkkbeelemnhaa
