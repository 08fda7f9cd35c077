/-
  TopShares: a syndicate's shares are right: Check.
-/
import Derived.Test.YtijdlggoaianbaaRollC
import Derived.Test.YtijdlggoaianbaaRow
import Derived.Test.YtijdlggoaianbaaNew
import Derived.BigQuiet
import Derived.IntWalk
import Derived.Deep.RegionHeld3
import Derived.Deep.DeepCutAuto
set_option linter.unusedVariables false
namespace Go.Proofs.Ytijdlggoaianbaa
open Go.RowKit
def shC (x : Int × Int) : List Value := [.int .i64 x.1, .int .i64 x.2]
def shF (x : Int × Int) : List (Nat × Value) := pairs (shC x)
structure ShOk (L : List (Int × Int)) : Prop where
  n1 : 1 ≤ L.length
  n20 : L.length ≤ 20
  at_ : ∀ (i : Nat) (x : Int × Int), L[i]? = some x → x.1 = (i : Int) + 1 ∧ 1 ≤ x.2 ∧ x.2 ≤ 256
set_option maxRecDepth 20000 in
theorem find1_any (bx : Nat) (a b m : Int) (w : World) (hc : w.cell? ⟨bx, 0, none⟩ = some (.int .i64 m)) : Calls Try.prog 76 #[.agg #[.int .i64 a, .int .i64 b], .pointer (some ⟨bx, 0, none⟩)] w fun e w' => e = .returned (.bool (a == m)) ∧ Fr [] w w' := by
  have fa : Fr [] w (w.alloc (.cells #[.int .i64 a, .int .i64 b] 38)) := (Fr.refl [] w).alloc _
  have hc2 := fa.cell_some hc (by simp)
  have n0 : (w.alloc (.cells #[.int .i64 a, .int .i64 b] 38)).cell? ⟨w.heap.size, 0, none⟩ = some (.int .i64 a) := new_cell rfl rfl
  have HFA := Lib.hid fa
  clear fa hc
  go_enter Try.func76, Try.ntmps76
  go_upto_region 1 with (fail)
  generalize w.alloc (.cells #[.int .i64 a, .int .i64 b] 38) = w1 at *
  go_wp2_with fail
  go_ret
  exact ⟨rfl, HFA.out⟩
set_option maxRecDepth 20000 in
set_option maxHeartbeats 2000000 in
theorem index_none (bx k cap : Nat) (a : Option Addr) (L : List (Int × Int)) (m : Int) (w : World) (hr : RdF 2 shF w (.slice a L.length cap) L) (hk : k ≤ L.length) (hl : L.length ≤ 20) (hc : w.cell? ⟨bx, 0, none⟩ = some (.int .i64 m)) (hne : ∀ (i : Nat) (x : Int × Int), i < k → L[i]? = some x → x.1 ≠ m) :
    Calls Try.prog 75 #[.slice a k cap, .func (.func 76) #[] #[.pointer (some ⟨bx, 0, none⟩)]] w fun e w' => e = .returned (.int .i64 (-1)) ∧ Fr [] w w' := by
  have HR := Lib.hid hr
  have HC := Lib.hid hc
  have HNE := Lib.hid hne
  obtain ⟨n, hn⟩ : ∃ n, n = L.length := ⟨_, rfl⟩
  rw [← hn] at hk hl
  have HN := Lib.hid hn
  clear hr hc hne hn
  go_enter Try.func75, Try.ntmps75
  go_wp2_with fail
  go_loopw [9] (fun i wr => ∃ j : Nat, j ≤ k ∧ i = .int .i64 j ∧ Fr [] w wr) (fun i _ => k - (intOf i).toNat)
  case atStart => exact ⟨0, by omega, rfl, Fr.refl _ _⟩
  case round =>
    obtain ⟨j, hj, rfl, hf⟩ := hrel
    by_cases hlt : j < k
    · have hjk : (j : Int) < (k : Int) := by omega
      obtain ⟨x, hx⟩ : ∃ x, L[j]? = some x := ⟨_, List.getElem?_eq_getElem (by have := HN.out; omega)⟩
      obtain ⟨g1, o1, rfl, hct⟩ := RdF.at (f := shC) HR.out hx
      have c0 := hf.cell_some (hct 0 _ rfl) (by simp)
      have c1 := hf.cell_some (hct 1 _ rfl) (by simp)
      rw [Nat.add_zero] at c0
      have hnm := HNE.out j x hlt hx
      obtain ⟨xm, xp⟩ := x
      simp only at c0 c1 hnm
      have fy : Fr [] wr (wr.alloc (.cells #[.int .i64 xm, .int .i64 xp] 38)) := (Fr.refl [] wr).alloc _
      have n0 : (wr.alloc (.cells #[.int .i64 xm, .int .i64 xp] 38)).cell? ⟨wr.heap.size, 0, none⟩ = some (.int .i64 xm) := new_cell rfl rfl
      have n1 : (wr.alloc (.cells #[.int .i64 xm, .int .i64 xp] 38)).cell? ⟨wr.heap.size, 1, none⟩ = some (.int .i64 xp) := new_cell rfl rfl
      have hf1 := find1_any bx xm xp m _ ((hf.trans fy).cell_some HC.out (by simp))
      have hb : (xm == m) = false := by simpa using hnm
      rw [hb] at hf1
      have HF1 := Lib.hid hf1
      have HF := Lib.hid (hf.trans fy)
      clear hct hx hf fy hf1 hb hnm
      go_upto_region 4 with (fail)
      generalize wr.alloc (.cells #[.int .i64 xm, .int .i64 xp] 38) = wy at *
      generalize wr.heap.size = by_ at *
      clear c0 c1
      go_wp2_with fail
      refine HF1.out.mono ?_
      rintro e w4 ⟨rfl, f4⟩
      have HF4 := Lib.hid (HF.out.trans f4)
      clear f4 n0 n1
      go_wp2_with fail
      go_roundw
      case rel => exact ⟨j + 1, by omega, by go_num, HF4.out⟩
      case measure => simp [intOf] <;> omega
    · obtain rfl : j = k := by omega
      have HF := Lib.hid hf
      clear hf
      go_wp2_with fail
      go_ret
      exact ⟨rfl, HF.out⟩
set_option maxRecDepth 20000 in
theorem find_none (k cap : Nat) (a : Option Addr) (L : List (Int × Int)) (m : Int) (w : World) (hr : RdF 2 shF w (.slice a L.length cap) L) (hk : k ≤ L.length) (hl : L.length ≤ 20) (hne : ∀ (i : Nat) (x : Int × Int), i < k → L[i]? = some x → x.1 ≠ m) :
    Calls Try.prog 54 #[.slice a k cap, .int .i64 m] w fun e w' => e = .returned (.int .i64 (-1)) ∧ Fr [] w w' := by
  have fa : Fr [] w (w.alloc (.cells #[.int .i64 m] 3)) := (Fr.refl [] w).alloc _
  have hi := index_none w.heap.size k cap a L m (w.alloc (.cells #[.int .i64 m] 3)) (hr.below fa) hk hl (new_cell rfl rfl) hne
  have HI := Lib.hid hi
  have HFA := Lib.hid fa
  clear hi fa hr hne
  go_enter Try.func54, Try.ntmps54
  go_wp2_with fail
  refine HI.out.mono ?_
  rintro e w2 ⟨rfl, f2⟩
  have HF2 := Lib.hid (HFA.out.trans f2)
  clear f2
  go_wp2_with fail
  go_ret
  exact ⟨rfl, HF2.out⟩
set_option maxRecDepth 20000 in
set_option maxHeartbeats 4000000 in
theorem scheck_any (a : Option Addr) (cap : Nat) (L : List (Int × Int)) (w : World) (hr : RdF 2 shF w (.slice a L.length cap) L) (hL : ShOk L) :
    Calls Try.prog 41 #[.slice a L.length cap] w fun e w' => e = .returned (.int .i64 0) ∧ Fr [] w w' := by
  have hcap : L.length ≤ cap ∧ cap ≤ 9223372036854775807 := by
    obtain ⟨a', c', hv, h1, h2, _⟩ := hr
    simp only [Value.slice.injEq] at hv
    obtain ⟨_, _, rfl⟩ := hv
    unfold maxLen at h2
    omega
  obtain ⟨hc1, hc2⟩ := hcap
  have n1 := hL.n1
  have n20 := hL.n20
  have hfd := fun k m w' (h : Fr [] w w') hk hne => find_none k cap a L m w' (hr.below h) hk n20 hne
  have HR := Lib.hid hr
  have HL := Lib.hid hL
  obtain ⟨n, hn⟩ : ∃ n, n = L.length := ⟨_, rfl⟩
  rw [← hn] at hc1 n1 n20 hfd ⊢
  have HN := Lib.hid hn
  have HFD := Lib.hid hfd
  clear hr hL hn hfd
  have d1 : decide ((n : Int) < 1) = false := by simp; omega
  have d2 : decide (64 < (n : Int)) = false := by simp; omega
  go_enter Try.func41, Try.ntmps41
  go_wp2_with fail
  go_loopw [15] (fun i wr => ∃ k : Nat, k ≤ n ∧ i = .int .i64 k ∧ Fr [] w wr) (fun i _ => n - (intOf i).toNat)
  case atStart => exact ⟨0, by omega, rfl, Fr.refl _ _⟩
  case round =>
    obtain ⟨k, hk, rfl, hf⟩ := hrel
    by_cases hlt : k < n
    · have hkn : (k : Int) < (n : Int) := by omega
      obtain ⟨x, hx⟩ : ∃ x, L[k]? = some x := ⟨_, List.getElem?_eq_getElem (by have := HN.out; omega)⟩
      obtain ⟨g1, o1, rfl, hct⟩ := RdF.at (f := shC) HR.out hx
      have c0 := hf.cell_some (hct 0 _ rfl) (by simp)
      have c1 := hf.cell_some (hct 1 _ rfl) (by simp)
      rw [Nat.add_zero] at c0
      obtain ⟨hx1, hx2, hx3⟩ := HL.out.at_ k x hx
      have hne : ∀ i y, i < k → L[i]? = some y → y.1 ≠ x.1 := fun i y hi hy => by
        have := (HL.out.at_ i y hy).1
        omega
      obtain ⟨xm, xp⟩ := x
      simp only at c0 c1 hx1 hx2 hx3 hne
      have fy : Fr [] wr (wr.alloc (.cells #[.int .i64 xm, .int .i64 xp] 38)) := (Fr.refl [] wr).alloc _
      have n0 : (wr.alloc (.cells #[.int .i64 xm, .int .i64 xp] 38)).cell? ⟨wr.heap.size, 0, none⟩ = some (.int .i64 xm) := new_cell rfl rfl
      have n1' : (wr.alloc (.cells #[.int .i64 xm, .int .i64 xp] 38)).cell? ⟨wr.heap.size, 1, none⟩ = some (.int .i64 xp) := new_cell rfl rfl
      have HF := Lib.hid (hf.trans fy)
      have hff := fun w' (h : Fr [] w w') => HFD.out k xm w' h (by omega) hne
      have HFF := Lib.hid hff
      have e1 : decide (xm < 1) = false := by simp; omega
      have e2 : decide (xp < 1) = false := by simp; omega
      have e3 : decide (1000000 < xp) = false := by simp; omega
      clear hct hx hf fy hne hff hx1
      go_upto_region 6 with (fail)
      generalize wr.alloc (.cells #[.int .i64 xm, .int .i64 xp] 38) = wy at *
      generalize wr.heap.size = by_ at *
      clear c0 c1
      go_upto_region 8 with (fail)
      have hkc : (k : Int) ≤ (cap : Int) := by omega
      have hk0 : (0 : Int) ≤ (k : Int) := by omega
      have hkc2 : k ≤ cap := by omega
      go_cut [39] (fun b wx => b = .bool false ∧ Fr [] w wx)
      case first =>
        refine wp_region_held_drew (S := (fun w' => w'.cell? ⟨by_, 0, none⟩ = some (.int .i64 xm) ∧ Fr [] wy w')) (by kernel_rfl) ⟨(Fr.refl [] wy).drew.cell_some n0 (by simp), (Fr.refl [] wy).drew⟩ (fun hHeld => ?_)
        refine wpAnyH_take (i := 0) (oi := ⟨some 33, _, _, _, _, _⟩) (v := .slice (some ⟨g1, o1, none⟩) n cap) rfl (by kernel_rfl) (by kernel_rfl) (by kernel_rfl) (fun _ _ _ h => h) (Or.inl ⟨by rfl, ?_⟩) hHeld ?_
        · intro w hSw; (try dsimp only at hSw); go_simp
        (try simp only [Act.put, List.setIfInBounds_toArray, List.set_cons_zero, List.set_cons_succ])
        refine wpAnyH_take (i := 1) (oi := ⟨some 34, _, _, _, _, _⟩) (v := .int .i64 k) rfl (by kernel_rfl) (by kernel_rfl) (by kernel_rfl) (fun _ _ _ h => h) (Or.inl ⟨by rfl, ?_⟩) hHeld ?_
        · intro w hSw; (try dsimp only at hSw); go_simp
        (try simp only [Act.put, List.setIfInBounds_toArray, List.set_cons_zero, List.set_cons_succ])
        refine wpAnyH_take (i := 2) (oi := ⟨some 35, _, _, _, _, _⟩) (v := .slice (some ⟨g1, o1, none⟩) k cap) rfl (by kernel_rfl) (by kernel_rfl) (by kernel_rfl) (fun _ _ _ h => h) (Or.inl ⟨by rfl, ?_⟩) hHeld ?_
        · intro w hSw; (try dsimp only at hSw); go_simp
        (try simp only [Act.put, List.setIfInBounds_toArray, List.set_cons_zero, List.set_cons_succ])
        refine wpAnyH_take (i := 3) (oi := ⟨some 36, _, _, _, _, _⟩) (v := .pointer (some ⟨by_, 0, none⟩)) rfl (by kernel_rfl) (by kernel_rfl) (by kernel_rfl) (fun _ _ _ h => h) (Or.inl ⟨by rfl, ?_⟩) hHeld ?_
        · intro w hSw; (try dsimp only at hSw); go_simp
        (try simp only [Act.put, List.setIfInBounds_toArray, List.set_cons_zero, List.set_cons_succ])
        refine wpAnyH_take (i := 4) (oi := ⟨some 37, _, _, _, _, _⟩) (v := .int .i64 xm) rfl (by kernel_rfl) (by kernel_rfl) (by kernel_rfl) (fun _ _ _ h => h) (Or.inl ⟨by rfl, ?_⟩) hHeld ?_
        · intro w hSw; (try dsimp only at hSw); go_simp
        (try simp only [Act.put, List.setIfInBounds_toArray, List.set_cons_zero, List.set_cons_succ])
        refine wpAnyH_ready (rs := [5]) (by kernel_rfl) (by simp) ?_
        refine AllReadyH.cons (o := ⟨some 38, _, _, _, _, _⟩) rfl (fun K hK => ?_) AllReadyH.nil
        rw [if_pos (by rfl)]
        go_simp
        refine (HFF.out _ (HF.out.trans hHeld.2)).mono ?_
        rintro e w4 ⟨rfl, f4⟩
        refine hK.out _ _ (⟨f4.cell_some hHeld.1 (by simp), hHeld.2.trans f4⟩) (fun hHeld' => ?_)
        clear hK K hHeld
        have hHeld := hHeld'
        clear hHeld'
        (try simp only [Act.put, List.setIfInBounds_toArray, List.set_cons_zero, List.set_cons_succ])
        refine wpAnyH_take (i := 6) (oi := ⟨some 39, _, _, _, _, _⟩) (v := .bool false) rfl (by kernel_rfl) (by kernel_rfl) (by kernel_rfl) (fun _ _ _ h => h) (Or.inl ⟨by rfl, ?_⟩) hHeld ?_
        · intro w hSw; (try dsimp only at hSw); go_simp
        (try simp only [Act.put, List.setIfInBounds_toArray, List.set_cons_zero, List.set_cons_succ])
        have HW := Lib.hid (HF.out.trans hHeld.2)
        clear hHeld f4
        refine wpAnyH_done (by kernel_rfl) ?_ _
        go_wp2_with fail
        go_meet
        exact ⟨rfl, HW.out⟩
      case rest =>
        obtain ⟨rfl, hf5⟩ := hcut
        obtain ⟨w5, hw5⟩ : ∃ x : World, x = wc := ⟨_, rfl⟩
        rw [← hw5] at hf5 ⊢
        have HF5 := Lib.hid hf5
        clear hw5 hf5 n0 n1'
        go_wp2_with fail
        go_roundw
        case rel => exact ⟨k + 1, by omega, by go_num, HF5.out⟩
        case measure => simp [intOf] <;> omega
    · obtain rfl : k = n := by omega
      have HF := Lib.hid hf
      clear hf
      go_wp2_with fail
      go_ret
      exact ⟨rfl, HF.out⟩
end Go.Proofs.Ytijdlggoaianbaa
