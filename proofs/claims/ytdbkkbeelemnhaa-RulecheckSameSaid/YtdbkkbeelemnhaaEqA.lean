/-
  Are two lists of add-ons the same? sameAddon, slices.EqualFunc.
-/
import Derived.Test.YtdbkkbeelemnhaaEqI
import Derived.Test.YtdbkkbeelemnhaaAddonE
import Derived.Test.YtdbkkbeelemnhaaGameW
set_option linter.unusedVariables false
namespace Go.Proofs.Ytdbkkbeelemnhaa
open Go.RowKit
def adD (a b : Ad) : Bool :=
  if (a.name.toList == b.name.toList) = false then false else if (a.kind == b.kind) = false then false else if (a.price == b.price) = false then false else if (a.digits == b.digits) = false then false
  else if eqI a.factors b.factors = false then false else eqI a.prizes b.prizes
set_option maxRecDepth 20000 in
set_option maxHeartbeats 2000000 in
theorem sameA_any (a b : Ad) (w : World) (ha : a.Ok w) (hb : b.Ok w) : Calls Try.prog 48 #[a.val, b.val] w fun e w' => e = .returned (.bool (adD a b)) ∧ Fr [] w w' := by
  have hf := fun w' (h : Fr [] w w') => eqI_any _ _ a.factors b.factors w' (ha.rf.below h) (hb.rf.below h)
  have hp := fun w' (h : Fr [] w w') => eqI_any _ _ a.prizes b.prizes w' (ha.rp.below h) (hb.rp.below h)
  obtain ⟨E, hE⟩ : ∃ E, E = adD a b := ⟨_, rfl⟩
  rw [← hE]
  simp only [adD] at hE
  generalize eqI a.factors b.factors = ef at *
  generalize eqI a.prizes b.prizes = ep at *
  obtain ⟨name, kind, price, fa, fc, factors, digits, pa, pc, prizes⟩ := a
  obtain ⟨name2, kind2, price2, fa2, fc2, factors2, digits2, pa2, pc2, prizes2⟩ := b
  simp only at hE hf hp
  simp only [Ad.val]
  generalize factors.length = fl at *
  generalize prizes.length = pl at *
  generalize factors2.length = fl2 at *
  generalize prizes2.length = pl2 at *
  have hF : ∀ o o', Fr [] w ((w.alloc o).alloc o') := fun o o' => ((Fr.refl [] w).alloc o).alloc o'
  have HF := Lib.hid hF
  have HV := Lib.hid hE
  have HEF := Lib.hid hf
  have HEP := Lib.hid hp
  clear hF hE hf hp ha hb
  cases i0 : (name.toList == name2.toList)
  · go_enter Try.func48, Try.ntmps48
    go_wp2_with fail
    go_ret
    exact ⟨retb (by rw [HV.out]; simp [*]), HF.out _ _⟩
  · cases i1 : (kind == kind2)
    · go_enter Try.func48, Try.ntmps48
      go_wp2_with fail
      go_ret
      exact ⟨retb (by rw [HV.out]; simp [*]), HF.out _ _⟩
    · cases i2 : (price == price2)
      · go_enter Try.func48, Try.ntmps48
        go_wp2_with fail
        go_ret
        exact ⟨retb (by rw [HV.out]; simp [*]), HF.out _ _⟩
      · cases i3 : (digits == digits2)
        · go_enter Try.func48, Try.ntmps48
          go_wp2_with fail
          go_ret
          exact ⟨retb (by rw [HV.out]; simp [*]), HF.out _ _⟩
        · have hv := HV.out
          simp only [i0, i1, i2, i3, Bool.true_eq_false, if_false] at hv
          have HV2 := Lib.hid hv
          clear hv HV
          go_enter Try.func48, Try.ntmps48
          go_wp2_with fail
          refine (HEF.out _ (HF.out _ _)).mono ?_
          rintro e w3 ⟨rfl, f3⟩
          have c5 : w3.cell? ⟨w.heap.size, 5, none⟩ = some (.slice pa pl pc) := f3.cell_some (((Fr.refl [] _).alloc (.cells #[.string name2, .int .i64 kind2, .int .i64 price2, .slice fa2 fl2 fc2, .int .i64 digits2, .slice pa2 pl2 pc2] 53)).cell_some (new_cell rfl rfl) (by simp)) (by simp)
          have d5 : w3.cell? ⟨w.heap.size + 1, 5, none⟩ = some (.slice pa2 pl2 pc2) := f3.cell_some (new_cell (by simp) rfl) (by simp)
          have hF3 := (HF.out (.cells #[.string name, .int .i64 kind, .int .i64 price, .slice fa fl fc, .int .i64 digits, .slice pa pl pc] 53) (.cells #[.string name2, .int .i64 kind2, .int .i64 price2, .slice fa2 fl2 fc2, .int .i64 digits2, .slice pa2 pl2 pc2] 53)).trans f3
          clear f3 HEF
          cases ef
          · go_wp2_with fail
            go_ret
            exact ⟨retb (by rw [HV2.out]; simp), hF3⟩
          · go_wp2_with fail
            refine (HEP.out _ hF3).mono ?_
            rintro e w4 ⟨rfl, f4⟩
            go_wp2_with fail
            go_ret
            exact ⟨retb (by rw [HV2.out]; simp), hF3.trans f4⟩
def eqA (l m : List Ad) : Bool := decide (l.length = m.length) && (List.range l.length).all fun k => adD (l.getD k default) (m.getD k default)
theorem eqA_len {l m : List Ad} (h : ¬ l.length = m.length) : eqA l m = false := by unfold eqA; simp [h]
theorem eqA_no {l m : List Ad} (k : Nat) (hk : k < l.length) (h : adD (l.getD k default) (m.getD k default) = false) : eqA l m = false := by
  unfold eqA
  rw [Bool.and_eq_false_iff]; right
  rw [List.all_eq_false]
  exact ⟨k, by simpa using hk, by rw [h]; simp⟩
theorem eqA_yes {l m : List Ad} (hl : l.length = m.length) (h : ∀ k, k < l.length → adD (l.getD k default) (m.getD k default) = true) : eqA l m = true := by
  unfold eqA
  simp only [hl, decide_true, Bool.true_and, List.all_eq_true, List.mem_range]
  intro k hk
  exact h k (by omega)
set_option maxRecDepth 20000 in
set_option maxHeartbeats 2000000 in
theorem eqF_any (a1 a2 : Option Addr) (c1 c2 : Nat) (l m : List Ad) (w : World) (h1 : Ads w a1 c1 l) (h2 : Ads w a2 c2 m) : Calls Try.prog 47 #[.slice a1 l.length c1, .slice a2 m.length c2, .func (.func 48) #[] #[]] w fun e w' => e = .returned (.bool (eqA l m)) ∧ Fr [] w w' := by
  have hlen := @eqA_len l m
  have hno := @eqA_no l m
  have hyes := @eqA_yes l m
  have hx1 := h1.rd.len.2
  have hx2 := h2.rd.len.2
  unfold maxLen at hx1 hx2
  generalize eqA l m = B at *
  obtain ⟨n1, hn1⟩ : ∃ n, n = l.length := ⟨_, rfl⟩
  obtain ⟨n2, hn2⟩ : ∃ n, n = m.length := ⟨_, rfl⟩
  rw [← hn1] at hlen hyes hno hx1 ⊢
  rw [← hn2] at hlen hyes hx2 ⊢
  have HN1 := Lib.hid hn1
  have HN2 := Lib.hid hn2
  have HR1 := Lib.hid h1
  have HR2 := Lib.hid h2
  have HNO := Lib.hid hno
  have HYES := Lib.hid hyes
  clear h1 h2 hno hyes hn1 hn2
  by_cases hne : n1 = n2
  · subst hne
    have e0 : ((n1 : Int) != n1) = false := by simp
    clear hlen
    go_enter Try.func47, Try.ntmps47
    go_wp2_with fail
    go_loopw [17] (fun i wr => ∃ k : Nat, k ≤ n1 ∧ i = .int .i64 k ∧ Fr [] w wr ∧ Hid (∀ j, j < k → adD (l.getD j default) (m.getD j default) = true)) (fun i _ => n1 - (intOf i).toNat)
    case atStart => exact ⟨0, by omega, rfl, Fr.refl _ _, Lib.hid (by omega)⟩
    case round =>
      obtain ⟨k, hk, rfl, hf, HA⟩ := hrel
      by_cases hlt : k < n1
      · obtain ⟨x, hx⟩ : ∃ x, l[k]? = some x := ⟨_, List.getElem?_eq_getElem (by have := HN1.out; omega)⟩
        obtain ⟨y, hy⟩ : ∃ y, m[k]? = some y := ⟨_, List.getElem?_eq_getElem (by have := HN2.out; omega)⟩
        obtain ⟨b, o, rfl, hcell⟩ := RdF.at (f := Ad.cells) HR1.out.rd hx
        obtain ⟨b', o', rfl, hcell'⟩ := RdF.at (f := Ad.cells) HR2.out.rd hy
        have hsa := fun w' (h : Fr [] w w') => sameA_any x y w' ((HR1.out.ok x (List.mem_of_getElem? hx)).fr h) ((HR2.out.ok y (List.mem_of_getElem? hy)).fr h)
        have c0 := hf.cell_some (hcell 0 _ rfl) (by simp)
        have c1' := hf.cell_some (hcell 1 _ rfl) (by simp)
        have c2' := hf.cell_some (hcell 2 _ rfl) (by simp)
        have c3 := hf.cell_some (hcell 3 _ rfl) (by simp)
        have c4 := hf.cell_some (hcell 4 _ rfl) (by simp)
        have c5 := hf.cell_some (hcell 5 _ rfl) (by simp)
        have d0 := hf.cell_some (hcell' 0 _ rfl) (by simp)
        have d1 := hf.cell_some (hcell' 1 _ rfl) (by simp)
        have d2 := hf.cell_some (hcell' 2 _ rfl) (by simp)
        have d3 := hf.cell_some (hcell' 3 _ rfl) (by simp)
        have d4 := hf.cell_some (hcell' 4 _ rfl) (by simp)
        have d5 := hf.cell_some (hcell' 5 _ rfl) (by simp)
        rw [Nat.add_zero] at c0 d0
        have hgx : l.getD k default = x := by simp [List.getD, hx]
        have hgy : m.getD k default = y := by simp [List.getD, hy]
        have hnk := HNO.out k hlt
        rw [hgx, hgy] at hnk
        have hnx : adD x y = true → ∀ j, j < k + 1 → adD (l.getD j default) (m.getD j default) = true := by
          intro h j hj
          by_cases hjk : j < k
          · exact HA.out j hjk
          · obtain rfl : j = k := by omega
            rw [hgx, hgy]; exact h
        generalize adD x y = q at *
        have HNK := Lib.hid hnk
        have HNX := Lib.hid hnx
        have hj1 : (k : Int) < (n1 : Int) := by omega
        have hj0 : (0 : Int) ≤ (k : Int) := by omega
        clear hcell hcell' hnk hgx hgy hx hy hnx
        obtain ⟨name, kind, price, fa, fc, factors, digits, pa, pc, prizes⟩ := x
        obtain ⟨name2, kind2, price2, fa2, fc2, factors2, digits2, pa2, pc2, prizes2⟩ := y
        simp only at c0 c1' c2' c3 c4 c5 d0 d1 d2 d3 d4 d5
        simp only [Ad.val] at hsa
        generalize factors.length = fl at *
        generalize prizes.length = pl at *
        generalize factors2.length = fl2 at *
        generalize prizes2.length = pl2 at *
        have m0 := fun ob => ((Fr.refl [] wr).alloc ob).cell_some d0 (by simp)
        have m1 := fun ob => ((Fr.refl [] wr).alloc ob).cell_some d1 (by simp)
        have m2 := fun ob => ((Fr.refl [] wr).alloc ob).cell_some d2 (by simp)
        have m3 := fun ob => ((Fr.refl [] wr).alloc ob).cell_some d3 (by simp)
        have m4 := fun ob => ((Fr.refl [] wr).alloc ob).cell_some d4 (by simp)
        have m5 := fun ob => ((Fr.refl [] wr).alloc ob).cell_some d5 (by simp)
        have HSA := Lib.hid hsa
        clear hsa d0 d1 d2 d3 d4 d5
        go_wp2_with fail
        refine (HSA.out _ ((hf.alloc _).alloc _)).mono ?_
        rintro e w3 ⟨rfl, f3⟩
        have hF3 := ((hf.alloc (.cells #[.string name, .int .i64 kind, .int .i64 price, .slice fa fl fc, .int .i64 digits, .slice pa pl pc] 53)).alloc (.cells #[.string name2, .int .i64 kind2, .int .i64 price2, .slice fa2 fl2 fc2, .int .i64 digits2, .slice pa2 pl2 pc2] 53)).trans f3
        clear f3
        cases q
        · have hb := HNK.out rfl
          have HB := Lib.hid hb
          clear hb
          go_wp2_with fail
          go_ret
          exact ⟨retb HB.out.symm, hF3⟩
        · have HN := Lib.hid (HNX.out rfl)
          go_wp2_with fail
          exact ⟨⟨k + 1, by omega, by go_num, hF3, HN⟩, by simp [intOf]; omega⟩
      · obtain rfl : k = n1 := by omega
        have hb := HYES.out (by first | trivial | rfl) HA.out
        have HB := Lib.hid hb
        clear hb
        go_wp2
        go_ret
        exact ⟨retb HB.out.symm, hf⟩
  · have e0 : ((n1 : Int) != n2) = true := by simp; omega
    have hb := hlen hne
    have HB := Lib.hid hb
    clear hb hlen hne
    go_enter Try.func47, Try.ntmps47
    go_wp2_with fail
    go_ret
    exact ⟨retb HB.out.symm, Fr.refl _ _⟩
end Go.Proofs.Ytdbkkbeelemnhaa
