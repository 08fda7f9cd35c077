/-
  checkAddons (layer 12): the first error of a list of add-ons.
-/
import Derived.Test.YtijdlggoaianbaaAddonE
import Derived.Test.YtijdlggoaianbaaMapB
import Derived.RegionTactic
set_option linter.unusedVariables false
namespace Go.Proofs.Ytijdlggoaianbaa
open Go.RowKit Go.Maps
def sameN (l : List Ad) (k : Nat) (a : Ad) : Bool := (l.take k).any fun b => decide (b.name.data.toList = a.name.data.toList)
def sameK (l : List Ad) (k : Nat) (a : Ad) : Bool := (l.take k).any fun b => decide (b.kind = a.kind)
def addsTo (l : List Ad) : Nat → Nat → Int
  | 0, _ => 0
  | f + 1, k => match l[k]? with
    | none => 0
    | some a => if adE a ≠ 0 then adE a else if (sameN l k a || sameK l k a) = true then 6 else addsTo l f (k + 1)
/-- the first error of a list of add-ons -/
def addsE (l : List Ad) : Int := if 4 < l.length then 3 else addsTo l l.length 0
theorem addsTo_err {l : List Ad} {f k : Nat} {a : Ad} (h : l[k]? = some a) (he : adE a ≠ 0) : addsTo l (f + 1) k = adE a := by
  rw [addsTo, h]; exact if_pos he
theorem addsTo_same {l : List Ad} {f k : Nat} {a : Ad} (h : l[k]? = some a) (he : adE a = 0) (hs : (sameN l k a || sameK l k a) = true) : addsTo l (f + 1) k = 6 := by
  rw [addsTo, h]; simp only; rw [if_neg (by simp [he]), if_pos hs]
theorem addsTo_go {l : List Ad} {f k : Nat} {a : Ad} (h : l[k]? = some a) (he : adE a = 0) (hs : (sameN l k a || sameK l k a) = false) : addsTo l (f + 1) k = addsTo l f (k + 1) := by
  rw [addsTo, h]; simp only; rw [if_neg (by simp [he]), if_neg (by simp [hs])]
def keysN (l : List Ad) : List Lit := l.map fun a => .string a.name.data.toList
def keysK (l : List Ad) : List Lit := l.map fun a => .int .i64 a.kind
theorem keysN_mem (l : List Ad) (k : Nat) (a : Ad) : sameN l k a = true ↔ Lit.string a.name.data.toList ∈ keysN (l.take k) := by
  unfold sameN keysN
  rw [List.any_eq_true, List.mem_map]
  simp
theorem keysK_mem (l : List Ad) (k : Nat) (a : Ad) : sameK l k a = true ↔ Lit.int .i64 a.kind ∈ keysK (l.take k) := by
  unfold sameK keysK
  rw [List.any_eq_true, List.mem_map]
  simp
theorem keysN_snoc (l : List Ad) (k : Nat) (a : Ad) (h : l[k]? = some a) : keysN (l.take (k + 1)) = keysN (l.take k) ++ [.string a.name.data.toList] := by
  unfold keysN; rw [List.take_add_one, h]; simp
theorem keysK_snoc (l : List Ad) (k : Nat) (a : Ad) (h : l[k]? = some a) : keysK (l.take (k + 1)) = keysK (l.take k) ++ [.int .i64 a.kind] := by
  unfold keysK; rw [List.take_add_one, h]; simp
theorem lawN : Keyed Try.prog 9 := string_keyed Try.underlying9
theorem lawK : Keyed Try.prog 3 := int_keyed Try.underlying3
theorem zeroB (w : World) : (zeroValue 4).run Try.prog w = .ok (.bool false) w := by kernel_rfl
set_option maxRecDepth 20000 in
set_option maxHeartbeats 4000000 in
theorem checkAddons_any (a : Option Addr) (cap : Nat) (l : List Ad) (w : World) (hok : Ads w a cap l) :
    Calls Try.prog 34 #[.slice a l.length cap] w fun e w' => e = .returned (.int .i64 (addsE l)) ∧ Fr [] w w' := by
  have hle := hok.rd.len.2
  by_cases hlen : 4 < l.length
  · have d1 : decide (4 < (l.length : Int)) = true := by simp; omega
    have d2 : decide (4 < l.length) = true := by simpa using hlen
    have hE : addsE l = 3 := if_pos hlen
    rw [hE]
    clear hE hok
    go_enter Try.func34, Try.ntmps34
    go_wp2_with fail
    go_ret
    exact ⟨rfl, Fr.refl _ _⟩
  · have hE : addsE l = addsTo l l.length 0 := if_neg hlen
    obtain ⟨E, hE'⟩ : ∃ E, E = addsE l := ⟨_, rfl⟩
    rw [← hE'] at hE ⊢
    obtain ⟨n, hN⟩ : ∃ n, n = l.length := ⟨_, rfl⟩
    rw [← hN] at hE hlen ⊢
    have d1 : decide (4 < (n : Int)) = false := by simp; omega
    have d2 : decide (4 < n) = false := by simpa using hlen
    have HN := Lib.hid hN
    have HE := Lib.hid hE
    have HOK := Lib.hid hok
    have hmm := @run_makeMap Try.prog
    clear hN hE hE' hle hok
    go_enter Try.func34, Try.ntmps34
    go_wp2_with fail
    obtain ⟨w1, hw1⟩ : ∃ w1, w1 = (w.alloc (.map #[] 0)).alloc (.map #[] 0) := ⟨_, rfl⟩
    have sN : SetB Try.prog 9 4 w1 w.heap.size 0 (keysN (l.take 0)) := by rw [hw1]; exact (SetB.made w).fr ((Fr.refl [] _).alloc _) (by simp)
    have sK : SetB Try.prog 3 4 w1 (w.heap.size + 1) 0 (keysK (l.take 0)) := by
      rw [hw1]
      have := SetB.made (P := Try.prog) (k := 3) (e := 4) (w.alloc (.map #[] 0))
      simpa [keysK] using this
    have f1 : Fr [] w w1 := by rw [hw1]; exact ((Fr.refl _ _).alloc _).alloc _
    rw [← hw1]
    clear hw1 hmm
    go_loopw [15] (fun i wr => ∃ k : Nat, k ≤ n ∧ i = .int .i64 k ∧ SetB Try.prog 9 4 wr w.heap.size k (keysN (l.take k)) ∧ SetB Try.prog 3 4 wr (w.heap.size + 1) k (keysK (l.take k)) ∧ Fr [] w wr ∧ Hid (E = addsTo l (n - k) k)) (fun i _ => n - (intOf i).toNat)
    case atStart => exact ⟨0, by omega, rfl, sN, sK, f1, Lib.hid HE.out⟩
    case round =>
      obtain ⟨k, hk, rfl, hsN, hsK, hf, HT⟩ := hrel
      clear sN sK f1 HE
      by_cases hlt : k < n
      · obtain ⟨x, hx⟩ : ∃ x, l[k]? = some x := ⟨_, List.getElem?_eq_getElem (by have := HN.out; omega)⟩
        have hxok := HOK.out.ok x (List.mem_of_getElem? hx)
        obtain ⟨g, o, rfl, hcell⟩ := RdF.at (f := Ad.cells) HOK.out.rd hx
        have hfu : n - k = (n - (k + 1)) + 1 := by omega
        have hT := HT.out
        rw [hfu] at hT
        have hC := fun o => checkAddon_any x (wr.alloc o) ((hxok.fr hf).fr ((Fr.refl [] wr).alloc o))
        have hTe : adE x ≠ 0 → E = adE x := fun h => hT.trans (addsTo_err hx h)
        have hTs : adE x = 0 → (sameN l k x || sameK l k x) = true → E = 6 := fun h h2 => hT.trans (addsTo_same hx h h2)
        have hTg : adE x = 0 → (sameN l k x || sameK l k x) = false → E = addsTo l (n - (k + 1)) (k + 1) := fun h h2 => hT.trans (addsTo_go hx h h2)
        have hkN := keysN_snoc l k x hx
        have hkK := keysK_snoc l k x hx
        have hmN := keysN_mem l k x
        have hmK := keysK_mem l k x
        have c0 := hf.cell_some (hcell 0 _ rfl) (by simp)
        have c1 := hf.cell_some (hcell 1 _ rfl) (by simp)
        have c2 := hf.cell_some (hcell 2 _ rfl) (by simp)
        have c3 := hf.cell_some (hcell 3 _ rfl) (by simp)
        have c4 := hf.cell_some (hcell 4 _ rfl) (by simp)
        have c5 := hf.cell_some (hcell 5 _ rfl) (by simp)
        rw [Nat.add_zero] at c0
        have hnm := hxok.name
        have hkd := hxok.kind
        generalize adE x = e1 at *
        generalize sameN l k x = q1 at *
        generalize sameK l k x = q2 at *
        obtain ⟨name, kind, price, fa, fc, factors, digits, pa, pc, prizes⟩ := x
        simp only [Ad.val] at c0 c1 c2 c3 c4 c5 hkN hkK hmN hmK hC hnm hkd
        have HC := Lib.hid hC
        have HTE := Lib.hid hTe
        have HTS := Lib.hid hTs
        have HTG := Lib.hid hTg
        have HKN := Lib.hid hkN
        have HKK := Lib.hid hkK
        have HMN := Lib.hid hmN
        have HMK := Lib.hid hmK
        have HNM := Lib.hid hnm
        have HKD := Lib.hid hkd
        clear hx hxok hcell hT hfu hC hTe hTs hTg hkN hkK hmN hmK hnm hkd HT
        generalize factors.length = fl at *
        generalize prizes.length = pl at *
        go_wp2_with fail
        refine (HC.out _).mono ?_
        rintro e w3 ⟨rfl, f3⟩
        have hF3 : Fr [] w w3 := (hf.alloc _).trans f3
        have b0 : w3.cell? ⟨wr.heap.size, 0, none⟩ = some (.string name) := f3.cell_some (by simp) (by simp)
        have b1 : w3.cell? ⟨wr.heap.size, 1, none⟩ = some (.int .i64 kind) := f3.cell_some (by simp) (by simp)
        have sN3 := (hsN.fr ((Fr.refl [] wr).alloc _) (by simp)).fr f3 (by simp)
        have sK3 := (hsK.fr ((Fr.refl [] wr).alloc _) (by simp)).fr f3 (by simp)
        have hsz : w.heap.size + 2 ≤ wr.heap.size := by have := hsK.lt; omega
        clear c0 c1 c2 c3 c4 c5 f3 hsN hsK hf HC
        have hl1 := sN3.look (t := 91) lawN Try.underlying91 Try.underlying4 (zeroB _) (WideMaps.keyOf_string_mk Try.underlying9 HNM.out) q1 HMN.out
        have hl2 := sK3.look (t := 92) lawK Try.underlying92 Try.underlying4 (zeroB _) (keyOf_int_mk Try.underlying3 HKD.out) q2 HMK.out
        by_cases he : e1 = 0
        · subst he
          cases q1
          · cases q2
            · have hq := HTG.out rfl rfl
              have HQ := Lib.hid hq
              clear hq HTE HTS HTG
              have D := (Fr.refl [] w3).drew
              have kN := WideMaps.keyOf_string_mk Try.underlying9 HNM.out
              have kK := keyOf_int_mk Try.underlying3 HKD.out
              obtain ⟨wA1, rA1, sA1, fA1⟩ := (sN3.fr D (by simp)).put (t := 91) lawN Try.underlying91 Try.underlying4 (by unfold maxLen; omega) kN trivial
              obtain ⟨wA2, rA2, sA2, fA2⟩ := ((sK3.fr D (by simp)).fr fA1 (by simp)).put (t := 92) lawK Try.underlying92 Try.underlying4 (by unfold maxLen; omega) kK trivial
              obtain ⟨wB1, rB1, sB1, fB1⟩ := (sK3.fr D (by simp)).put (t := 92) lawK Try.underlying92 Try.underlying4 (by unfold maxLen; omega) kK trivial
              obtain ⟨wB2, rB2, sB2, fB2⟩ := ((sN3.fr D (by simp)).fr fB1 (by simp)).put (t := 91) lawN Try.underlying91 Try.underlying4 (by unfold maxLen; omega) kN trivial
              have bA1 : wA1.cell? ⟨wr.heap.size, 1, none⟩ = some (.int .i64 kind) := fA1.cell_some b1 (by simp; omega)
              have bB0 : wB1.cell? ⟨wr.heap.size, 0, none⟩ = some (.string name) := fB1.cell_some b0 (by simp; omega)
              have nA := (sA1.fr fA2 (by simp))
              have kB := (sB1.fr fB2 (by simp))
              have hFA : Fr [] w wA2 := ((hF3.trans D).trans' fA1 (by simp)).trans' fA2 (by simp)
              have hFB : Fr [] w wB2 := ((hF3.trans D).trans' fB1 (by simp)).trans' fB2 (by simp)
              have HNA := Lib.hid nA
              have HKA := Lib.hid sA2
              have HNB := Lib.hid sB2
              have HKB := Lib.hid kB
              have HFA := Lib.hid hFA
              have HFB := Lib.hid hFB
              clear D kN kK sA1 sA2 sB1 sB2 fA1 fA2 fB1 fB2 nA kB hFA hFB sN3 sK3 hF3
              go_wp2_with fail
              go_region
              all_goals
                go_wp2_with fail
                first
                | exact ⟨⟨k + 1, by omega, by go_num, by rw [HKN.out]; exact HNA.out, by rw [HKK.out]; exact HKA.out, HFA.out, HQ⟩, by simp [intOf]; omega⟩
                | exact ⟨⟨k + 1, by omega, by go_num, by rw [HKN.out]; exact HNB.out, by rw [HKK.out]; exact HKB.out, HFB.out, HQ⟩, by simp [intOf]; omega⟩
            · have hq := HTS.out rfl rfl
              have HQ := Lib.hid hq
              clear hq HTE HTS HTG
              go_wp2_with fail
              go_ret
              exact ⟨ret_i HQ.out.symm, hF3⟩
          · have hq := HTS.out rfl rfl
            have HQ := Lib.hid hq
            clear hq HTE HTS HTG
            go_wp2_with fail
            go_ret
            exact ⟨ret_i HQ.out.symm, hF3⟩
        · have hq := HTE.out he
          have HQ := Lib.hid hq
          have d3 : (e1 != 0) = true := by simpa using he
          clear hq HTE HTS HTG he
          go_wp2_with fail
          go_ret
          exact ⟨ret_i HQ.out.symm, hF3⟩
      · obtain rfl : k = n := by omega
        have hq : E = 0 := by rw [HT.out, Nat.sub_self]; rfl
        have HQ := Lib.hid hq
        clear hq
        go_wp2_with fail
        go_ret
        exact ⟨ret_i HQ.out.symm, hf⟩
end Go.Proofs.Ytijdlggoaianbaa
