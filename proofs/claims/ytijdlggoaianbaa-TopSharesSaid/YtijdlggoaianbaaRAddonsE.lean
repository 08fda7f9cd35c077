/-
  Addons of the reference of layer 12: the first error of a list of add-ons.
-/
import Derived.Test.YtijdlggoaianbaaRAddonE
import Derived.Test.YtijdlggoaianbaaAddonsE
import Derived.BigQuiet
set_option linter.unusedVariables false
namespace Go.Proofs.Ytijdlggoaianbaa
open Go.RowKit
theorem sameN_yes {l : List Ad} {k j : Nat} {x y : Ad} (hj : j < k) (hy : l[j]? = some y) (h : y.name.data.toList = x.name.data.toList) : (sameN l k x || sameK l k x) = true := by
  rw [Bool.or_eq_true]; left
  unfold sameN
  rw [List.any_eq_true]
  exact ⟨y, List.mem_of_getElem? (by rw [List.getElem?_take_of_lt hj]; exact hy), by simpa using h⟩
theorem sameK_yes {l : List Ad} {k j : Nat} {x y : Ad} (hj : j < k) (hy : l[j]? = some y) (h : y.kind = x.kind) : (sameN l k x || sameK l k x) = true := by
  rw [Bool.or_eq_true]; right
  unfold sameK
  rw [List.any_eq_true]
  exact ⟨y, List.mem_of_getElem? (by rw [List.getElem?_take_of_lt hj]; exact hy), by simpa using h⟩
theorem same_no {l : List Ad} {k : Nat} {x : Ad} (h : ∀ j y, j < k → l[j]? = some y → ¬ y.name.data.toList = x.name.data.toList ∧ ¬ y.kind = x.kind) : (sameN l k x || sameK l k x) = false := by
  rw [Bool.or_eq_false_iff]
  unfold sameN sameK
  rw [List.any_eq_false, List.any_eq_false]
  refine ⟨fun y hy => ?_, fun y hy => ?_⟩
  all_goals
    obtain ⟨j, hj⟩ := List.getElem?_of_mem hy
    have hl := (List.getElem?_eq_some_iff.1 hj).1
    simp at hl
    rw [List.getElem?_take_of_lt (by omega)] at hj
    have := h j y (by omega) hj
  · simpa using this.1
  · simpa using this.2
set_option maxRecDepth 20000 in
set_option maxHeartbeats 4000000 in
theorem raddons_any (a : Option Addr) (cap : Nat) (l : List Ad) (w : World) (hok : Ads w a cap l) :
    Calls Try.prog 67 #[.slice a l.length cap] w fun e w' => e = .returned (.int .i64 (addsE l)) ∧ Fr [] w w' := by
  by_cases hlen : 4 < l.length
  · have d1 : decide (4 < (l.length : Int)) = true := by simp; omega
    have d2 : decide (4 < l.length) = true := by simpa using hlen
    have hE : addsE l = 3 := if_pos hlen
    rw [hE]
    clear hE hok
    go_enter Try.func67, Try.ntmps67
    go_wp2_with fail
    go_ret
    exact ⟨rfl, Fr.refl _ _⟩
  · have hE : addsE l = addsTo l l.length 0 := if_neg hlen
    obtain ⟨E, hE'⟩ : ∃ E, E = addsE l := ⟨_, rfl⟩
    rw [← hE'] at hE ⊢
    obtain ⟨n, hN⟩ : ∃ n, n = l.length := ⟨_, rfl⟩
    rw [← hN] at hE hlen ⊢
    have d1 : decide (4 < (n : Int)) = false := by simp; omega
    have d2 : decide (4 < n) = false := by simpa using hlen
    have HN := Lib.hid hN
    have HE := Lib.hid hE
    have HOK := Lib.hid hok
    clear hN hE hE' hok
    go_enter Try.func67, Try.ntmps67
    go_wp2_with fail
    go_loopw [3] (fun i wr => ∃ k : Nat, k ≤ n ∧ i = .int .i64 k ∧ Fr [] w wr ∧ Hid (E = addsTo l (n - k) k)) (fun i _ => n - (intOf i).toNat)
    case atStart => exact ⟨0, by omega, rfl, Fr.refl _ _, Lib.hid HE.out⟩
    case round =>
      obtain ⟨k, hk, rfl, hf, HT⟩ := hrel
      clear HE
      by_cases hlt : k < n
      · obtain ⟨x, hx⟩ : ∃ x, l[k]? = some x := ⟨_, List.getElem?_eq_getElem (by have := HN.out; omega)⟩
        have hxok := HOK.out.ok x (List.mem_of_getElem? hx)
        obtain ⟨g, o, rfl, hcell⟩ := RdF.at (f := Ad.cells) HOK.out.rd hx
        have hfu : n - k = (n - (k + 1)) + 1 := by omega
        have hT := HT.out
        rw [hfu] at hT
        have hC := raddon_any x wr (hxok.fr hf)
        have hTe : adE x ≠ 0 → E = adE x := fun h => hT.trans (addsTo_err hx h)
        have hTs : adE x = 0 → (sameN l k x || sameK l k x) = true → E = 6 := fun h h2 => hT.trans (addsTo_same hx h h2)
        have hTg : adE x = 0 → (sameN l k x || sameK l k x) = false → E = addsTo l (n - (k + 1)) (k + 1) := fun h h2 => hT.trans (addsTo_go hx h h2)
        have hyN := fun j y (hj : j < k) (hy : l[j]? = some y) => sameN_yes (x := x) hj hy
        have hyK := fun j y (hj : j < k) (hy : l[j]? = some y) => sameK_yes (x := x) hj hy
        have hno := same_no (l := l) (k := k) (x := x)
        have c0 := hf.cell_some (hcell 0 _ rfl) (by simp)
        have c1 := hf.cell_some (hcell 1 _ rfl) (by simp)
        have c2 := hf.cell_some (hcell 2 _ rfl) (by simp)
        have c3 := hf.cell_some (hcell 3 _ rfl) (by simp)
        have c4 := hf.cell_some (hcell 4 _ rfl) (by simp)
        have c5 := hf.cell_some (hcell 5 _ rfl) (by simp)
        rw [Nat.add_zero] at c0
        generalize adE x = e1 at *
        generalize (sameN l k x || sameK l k x) = q1 at *
        obtain ⟨name, kind, price, fa, fc, factors, digits, pa, pc, prizes⟩ := x
        simp only [Ad.val] at c0 c1 c2 c3 c4 c5 hC
        simp only at hyN hyK hno
        have HC := Lib.hid hC
        have HTE := Lib.hid hTe
        have HTS := Lib.hid hTs
        have HTG := Lib.hid hTg
        have HYN := Lib.hid hyN
        have HYK := Lib.hid hyK
        have HNO := Lib.hid hno
        clear hx hxok hcell hT hfu hC hTe hTs hTg HT hyN hyK hno
        generalize factors.length = fl at *
        generalize prizes.length = pl at *
        obtain ⟨wo, rfl⟩ : ∃ wo : World, wo = wr := ⟨_, rfl⟩
        go_wp2_with fail
        refine (HC.out).mono ?_
        rintro e w3 ⟨rfl, f3⟩
        have hF3 : Fr [] w w3 := hf.trans f3
        have b0 := f3.cell_some c0 (by simp)
        have b1 := f3.cell_some c1 (by simp)
        clear c0 c1 c2 c3 c4 c5 HC
        by_cases he : e1 = 0
        · subst he
          go_wp2_with fail
          go_loopw [5] (fun i wr => ∃ j : Nat, j ≤ k ∧ i = .int .i64 j ∧ Fr [] w3 wr ∧ Hid (∀ i y, i < j → l[i]? = some y → ¬ y.name.data.toList = name.data.toList ∧ ¬ y.kind = kind)) (fun i _ => k - (intOf i).toNat)
          case atStart => exact ⟨0, by omega, rfl, Fr.refl _ _, Lib.hid (by omega)⟩
          case round =>
            obtain ⟨j, hj, rfl, hg, HJ⟩ := hrel
            by_cases hlt3 : j < k
            · obtain ⟨y, hy⟩ : ∃ y, l[j]? = some y := ⟨_, List.getElem?_eq_getElem (by have := HN.out; omega)⟩
              obtain ⟨g', o', hta', hcell'⟩ := RdF.at (f := Ad.cells) HOK.out.rd hy
              simp only [Option.some.injEq, Addr.mk.injEq, and_true] at hta'
              obtain ⟨rfl, rfl⟩ := hta'
              have hFF := hF3.trans hg
              have c0 := hFF.cell_some (hcell' 0 _ rfl) (by simp)
              have c1 := hFF.cell_some (hcell' 1 _ rfl) (by simp)
              rw [Nat.add_zero] at c0
              have e0 := hg.cell_some b0 (by simp)
              have e1 := hg.cell_some b1 (by simp)
              have hyn := HYN.out j y hlt3 hy
              have hyk := HYK.out j y hlt3 hy
              have hno : ¬ y.name.data.toList = name.data.toList → ¬ y.kind = kind → ∀ i z, i < j + 1 → l[i]? = some z → ¬ z.name.data.toList = name.data.toList ∧ ¬ z.kind = kind := by
                intro h h' i z hi hz
                by_cases hij : i < j
                · exact HJ.out i z hij hz
                · obtain rfl : i = j := by omega
                  rw [hy] at hz
                  obtain rfl := Option.some.inj hz
                  exact ⟨h, h'⟩
              obtain ⟨yname, ykind, yprice, yfa, yfc, yfactors, ydigits, ypa, ypc, yprizes⟩ := y
              simp only at c0 c1 hyn hyk hno
              have HYN2 := Lib.hid hyn
              have HYK2 := Lib.hid hyk
              have HNO2 := Lib.hid hno
              have hjk : (j : Int) < (k : Int) := by omega
              have hjn : (j : Int) < (n : Int) := by omega
              have hkn : (k : Int) < (n : Int) := by omega
              have hj0 : (0 : Int) ≤ (j : Int) := by omega
              have hk0 : (0 : Int) ≤ (k : Int) := by omega
              clear hy hcell' hyn hyk hno hFF HJ
              by_cases hnm : yname.data.toList = name.data.toList
              · have dn : (yname.toList == name.toList) = true := by rw [ByteArray.toList_eq, ByteArray.toList_eq]; simpa using hnm
                have hq := HTS.out (by simp) (HYN2.out hnm)
                have HQ := Lib.hid hq
                clear hq hnm
                go_wp2_with fail
                go_quiet (fail)
                go_wp2
                go_ret
                exact ⟨ret_i HQ.out.symm, (hF3.trans hg).drewN _⟩
              · have dn : (yname.toList == name.toList) = false := by rw [ByteArray.toList_eq, ByteArray.toList_eq]; simpa using hnm
                have HNM := Lib.hid hnm
                clear hnm
                by_cases hkd : ykind = kind
                · have dk : (ykind == kind) = true := by simpa using hkd
                  have hq := HTS.out (by simp) (HYK2.out hkd)
                  have HQ := Lib.hid hq
                  clear hq hkd
                  go_wp2_with fail
                  go_quiet (fail)
                  go_wp2
                  go_ret
                  exact ⟨ret_i HQ.out.symm, (hF3.trans hg).drewN _⟩
                · have dk : (ykind == kind) = false := by simpa using hkd
                  have HKD := Lib.hid hkd
                  clear hkd
                  go_wp2_with fail
                  go_quiet (fail)
                  go_wp2
                  exact ⟨⟨j + 1, by omega, by go_num, hg.drewN _, Lib.hid (HNO2.out HNM.out HKD.out)⟩, by simp [intOf]; omega⟩
            · obtain rfl : j = k := by omega
              have hq := HTG.out (by simp) (HNO.out HJ.out)
              have HQ := Lib.hid hq
              clear hq
              go_wp2_with fail
              exact ⟨⟨j + 1, by omega, by go_num, hF3.trans hg, HQ⟩, by simp [intOf]; omega⟩
        · have hq := HTE.out he
          have HQ := Lib.hid hq
          have d3 : (e1 != 0) = true := by simpa using he
          clear hq HTE HTS HTG he
          go_wp2_with fail
          go_ret
          exact ⟨ret_i HQ.out.symm, hF3⟩
      · obtain rfl : k = n := by omega
        have hq : E = 0 := by rw [HT.out, Nat.sub_self]; rfl
        have HQ := Lib.hid hq
        clear hq
        go_wp2_with fail
        go_ret
        exact ⟨ret_i HQ.out.symm, hf⟩
end Go.Proofs.Ytijdlggoaianbaa
