/-
  TopShares: a syndicate's prize is divided; the payments of an annuity.
-/
import Derived.Test.YtijdlggoaianbaaShSyn
import Derived.Test.YtijdlggoaianbaaSplit
import Derived.Deep.LoopGhost
set_option linter.unusedVariables false
namespace Go.Proofs.Ytijdlggoaianbaa
open Go.RowKit
/-- weights that are all positive, not too great: Split gives no error -/
theorem spE_pos {m : Int} {ws : List Int} (hm : 0 ≤ m ∧ m ≤ 1000000000000) (hl : 1 ≤ ws.length ∧ ws.length ≤ 64) (hw : ∀ i, i < ws.length → 1 ≤ ws.getD i 0 ∧ ws.getD i 0 ≤ 1000000000000) : spE m ws = 0 := by
  have h1 : amtB ws = true := amtB_of fun j hj => by have := hw j hj; omega
  have h2 : 0 < spT ws := by
    have key : ∀ k, k ≤ ws.length → (k : Int) ≤ sumTo ws k := by
      intro k
      induction k with
      | zero => intro _; simp [sumTo]
      | succ k ih =>
        intro hk
        have := ih (by omega)
        have := (hw k (by omega)).1
        rw [sumTo]
        omega
    have := key ws.length (Nat.le_refl _)
    unfold spT
    omega
  unfold spE
  rw [inR_yes hm.1 hm.2, inR_yes (n := (ws.length : Int)) (by omega) (by omega), h1, if_neg (by simp), if_neg (by simp), if_neg (by simp), if_neg (by omega)]
def wF (L : List (Int × Int)) (i : Nat) : Int := (L.getD i (0, 0)).2
def shW (L : List (Int × Int)) : List Int := upTo (wF L) L.length L.length
theorem shW_len (L : List (Int × Int)) : (shW L).length = L.length := upTo_len _ _ _
theorem shW_ok {L : List (Int × Int)} (h : ShOk L) {m : Int} (hm : 0 ≤ m ∧ m ≤ 1000000000000) : spE m (shW L) = 0 := by
  have n1 := h.n1
  have n20 := h.n20
  refine spE_pos hm (by rw [shW_len]; omega) fun i hi => ?_
  rw [shW_len] at hi
  have e : (shW L).getD i 0 = wF L i := by unfold shW; rw [upTo_at _ _ _ _ hi, if_pos hi]
  have := (h.at_ i L[i] (List.getElem?_eq_getElem hi)).2
  have e2 : wF L i = L[i].2 := by unfold wF; simp [List.getD, hi]
  rw [e, e2]
  omega
def wtA : Nat → Int
  | 0 => 1000000
  | k + 1 => wtA k + wtA k * 300 / 10000
theorem wtA_fin : ∀ k : Fin 9, 1000000 ≤ wtA k.val ∧ wtA k.val ≤ 1300000 := by decide +kernel
theorem wtA_bd {k : Nat} (h : k ≤ 8) : 1000000 ≤ wtA k ∧ wtA k ≤ 1300000 := wtA_fin ⟨k, by omega⟩
def anW (y : Nat) : List Int := upTo wtA y y
theorem anW_len (y : Nat) : (anW y).length = y := upTo_len _ _ _
theorem anW_ok {y : Nat} (h1 : 1 ≤ y) (h8 : y ≤ 8) {m : Int} (hm : 0 ≤ m ∧ m ≤ 1000000000000) : spE m (anW y) = 0 := by
  refine spE_pos hm (by rw [anW_len]; omega) fun i hi => ?_
  rw [anW_len] at hi
  have e : (anW y).getD i 0 = wtA i := by unfold anW; rw [upTo_at _ _ _ _ hi, if_pos hi]
  have := wtA_bd (k := i) (by omega)
  rw [e]
  omega
def DivPost (m : Int) (W : List Int) (w : World) (e : Ending) (w' : World) : Prop := ∃ v, e = .returned (.tuple #[v, .int .i64 0]) ∧ OwnI w' w.heap.size 3 v (spL m W) ∧ Fr [] w w'
set_option maxRecDepth 20000 in
set_option maxHeartbeats 4000000 in
theorem divide_any (m : Int) (a : Option Addr) (cap : Nat) (L : List (Int × Int)) (w : World) (hm : 0 ≤ m ∧ m ≤ 1000000000000) (hr : RdF 2 shF w (.slice a L.length cap) L) (hL : ShOk L) :
    Calls Try.prog 24 #[.int .i64 m, .slice a L.length cap] w (DivPost m (shW L) w) := by
  have hC := scheck_any a cap L w hr hL
  have hV := fun w => mvalid_any m w
  rw [inR_yes hm.1 hm.2] at hV
  have hSp := fun v w h => split_any m v (shW L) w h (by rw [shW_len]; exact hL.n20)
  unfold SpPost at hSp
  rw [shW_ok hL hm] at hSp
  have n1 := hL.n1
  have n20 := hL.n20
  have hpost : ∀ v w', OwnI w' w.heap.size 3 v (spL m (shW L)) → Fr [] w w' → DivPost m (shW L) w (.returned (.tuple #[v, .int .i64 0])) w' := fun v w' h1 h2 => ⟨v, rfl, h1, h2⟩
  have hsw : shW L = upTo (wF L) L.length L.length := rfl
  have hwf : ∀ k x, L[k]? = some x → wF L k = x.2 := fun k x hx => by unfold wF; simp [List.getD, hx]
  have HR := Lib.hid hr
  obtain ⟨n, hn⟩ : ∃ n, n = L.length := ⟨_, rfl⟩
  rw [← hn] at hC n1 n20 hsw ⊢
  have hmk := fun w => run_make_row' (P := Try.prog) 25 3 (.int .i64 0) 8 Try.underlying25 infoIntS rfl .i64 .i64 n (by omega) (by omega) w
  have HN := Lib.hid hn
  have HC := Lib.hid hC
  have HV := Lib.hid hV
  have HSP := Lib.hid hSp
  have HPOST := Lib.hid hpost
  have HSW := Lib.hid hsw
  have HWF := Lib.hid hwf
  clear hr hL hn hC hV hSp hpost hsw hwf hm
  go_enter Try.func24, Try.ntmps24
  go_wp2_with fail
  refine HC.out.mono ?_
  rintro e w1 ⟨rfl, f1⟩
  go_wp2_with fail
  refine (HV.out _).mono ?_
  rintro e w2 ⟨rfl, rfl⟩
  go_upto_region 7 with (fail)
  have ho := OwnI.made w1 n 3 (by unfold maxLen; omega)
  rw [← upTo_zero (wF L)] at ho
  have e2 : Fr [] w1 (w1.alloc (.cells (madeCells #[.int .i64 0] n) 3)) := (Fr.refl [] w1).alloc _
  have F2 := f1.trans e2
  have hs1 : w.heap.size ≤ w1.heap.size := f1.size
  generalize w1.alloc (.cells (madeCells #[.int .i64 0] n) 3) = w3 at *
  generalize w1.heap.size = gl at *
  have HO := Lib.hid ho
  have HF2 := Lib.hid F2
  clear ho F2 e2 f1 hmk HC
  go_wp2_with fail
  go_loopw [23] (fun i wr => ∃ k : Nat, k ≤ n ∧ i = .int .i64 k ∧ OwnI wr gl 3 (.slice (some ⟨gl, 0, none⟩) n n) (upTo (wF L) n k) ∧ Fr [gl] w3 wr) (fun i _ => n - (intOf i).toNat)
  case atStart => exact ⟨0, by omega, rfl, HO.out, Fr.refl _ _⟩
  case round =>
    obtain ⟨k, hk, rfl, ho, hf⟩ := hrel
    have hF : Fr [] w wr := HF2.out.trans' hf (by intro i hi; simp at hi; subst hi; exact .inr hs1)
    by_cases hlt : k < n
    · have hkn : (k : Int) < (n : Int) := by omega
      obtain ⟨x, hx⟩ : ∃ x, L[k]? = some x := ⟨_, List.getElem?_eq_getElem (by have := HN.out; omega)⟩
      obtain ⟨g1, o1, rfl, hct⟩ := RdF.at (f := shC) HR.out hx
      have c0 := hF.cell_some (hct 0 _ rfl) (by simp)
      have c1 := hF.cell_some (hct 1 _ rfl) (by simp)
      rw [Nat.add_zero] at c0
      have hwk := HWF.out k x hx
      obtain ⟨xm, xp⟩ := x
      simp only at c0 c1 hwk
      have fy : Fr [] wr (wr.alloc (.cells #[.int .i64 xm, .int .i64 xp] 38)) := (Fr.refl [] wr).alloc _
      have n1' : (wr.alloc (.cells #[.int .i64 xm, .int .i64 xp] 38)).cell? ⟨wr.heap.size, 1, none⟩ = some (.int .i64 xp) := new_cell rfl rfl
      have ho2 := ho.fr fy (by simp)
      have hul := upTo_len (wF L) n k
      have co := ho2.cell k (by rw [hul]; exact hlt)
      have fo := ho2.frozen k
      have hus := upTo_succ (wF L) n k hlt
      rw [hwk] at hus
      have HUS := Lib.hid hus
      have HSET := Lib.hid (ho2.set k xp)
      have hf2 : Fr [gl] w3 (wr.alloc (.cells #[.int .i64 xm, .int .i64 xp] 38)) := hf.alloc _
      clear hct hx hwk ho ho2 hf hus hF fy hul
      generalize (upTo (wF L) n k).getD k 0 = y at *
      go_upto_region 10 with (fail)
      generalize wr.alloc (.cells #[.int .i64 xm, .int .i64 xp] 38) = wy at *
      generalize wr.heap.size = by_ at *
      have HFS := Lib.hid (hf2.setCell (p := ⟨gl, k, none⟩) (.inl (by simp)) (.int .i64 xp))
      clear hf2 c0 c1
      go_wp2_with fail
      go_roundw
      case rel => exact ⟨k + 1, by omega, by go_num, by rw [← HUS.out]; exact HSET.out, HFS.out⟩
      case measure => simp [intOf] <;> omega
    · obtain rfl : n = k := by omega
      have hrd := ho.rd
      rw [← HSW.out] at hrd
      have hsp := HSP.out _ _ hrd
      have HSPP := Lib.hid hsp
      have HF := Lib.hid hF
      clear ho hf hrd hsp hF
      go_wp2_with fail
      refine HSPP.out.mono ?_
      rintro e w4 ⟨u, rfl, hou, f4⟩
      obtain ⟨au, cu, rfl, _, _⟩ := hou.any
      have HOU := Lib.hid hou
      have HF4 := Lib.hid (HF.out.trans f4)
      have hsz : w.heap.size ≤ wr.heap.size := HF.out.size
      clear hou f4
      go_wp2_with fail
      go_ret2
      exact HPOST.out _ _ (HOU.out.mono hsz) HF4.out
theorem spay_any (m : Int) (a : Option Addr) (cap : Nat) (L : List (Int × Int)) (w : World) (hm : 0 ≤ m ∧ m ≤ 1000000000000) (hr : RdF 2 shF w (.slice a L.length cap) L) (hL : ShOk L) :
    Calls Try.prog 9 #[.int .i64 m, .slice a L.length cap] w (DivPost m (shW L) w) := by
  have hD := divide_any m a cap L w hm hr hL
  unfold DivPost at hD
  have hpost : ∀ v w', OwnI w' w.heap.size 3 v (spL m (shW L)) → Fr [] w w' → DivPost m (shW L) w (.returned (.tuple #[v, .int .i64 0])) w' := fun v w' h1 h2 => ⟨v, rfl, h1, h2⟩
  have HD := Lib.hid hD
  have HPOST := Lib.hid hpost
  clear hD hpost hr hL
  generalize L.length = n at *
  go_enter Try.func9, Try.ntmps9
  go_wp2_with fail
  refine HD.out.mono ?_
  rintro e w1 ⟨v, rfl, ho, f1⟩
  obtain ⟨au, cu, rfl, _, _⟩ := ho.any
  have HO := Lib.hid ho
  have HF := Lib.hid f1
  clear ho f1
  go_wp2_with fail
  go_ret2
  exact HPOST.out _ _ HO.out HF.out
set_option maxRecDepth 20000 in
set_option maxHeartbeats 4000000 in
theorem payments_any (m : Int) (y : Nat) (w : World) (hm : 0 ≤ m ∧ m ≤ 1000000000000) (hy1 : 1 ≤ y) (hy8 : y ≤ 8) : Calls Try.prog 10 #[.int .i64 m, .int .i64 y, .int .i64 300] w (DivPost m (anW y) w) := by
  have hV := fun w => mvalid_any m w
  rw [inR_yes hm.1 hm.2] at hV
  have hSp := fun v w h => split_any m v (anW y) w h (by rw [anW_len]; omega)
  unfold SpPost at hSp
  rw [anW_ok hy1 hy8 hm] at hSp
  have hpost : ∀ v w', OwnI w' w.heap.size 3 v (spL m (anW y)) → Fr [] w w' → DivPost m (anW y) w (.returned (.tuple #[v, .int .i64 0])) w' := fun v w' h1 h2 => ⟨v, rfl, h1, h2⟩
  have hsw : anW y = upTo wtA y y := rfl
  have hmk := fun w => run_make_row' (P := Try.prog) 25 3 (.int .i64 0) 8 Try.underlying25 infoIntS rfl .i64 .i64 y (by omega) (by omega) w
  have hwt : ∀ k, wtA (k + 1) = wtA k + wtA k * 300 / 10000 := fun k => rfl
  have hw0 : wtA 0 = 1000000 := rfl
  have HV := Lib.hid hV
  have HSP := Lib.hid hSp
  have HPOST := Lib.hid hpost
  have HSW := Lib.hid hsw
  have HWT := Lib.hid hwt
  have HW0 := Lib.hid hw0
  have d1 : decide ((y : Int) < 1) = false := by simp; omega
  have d2 : decide (40 < (y : Int)) = false := by simp; omega
  clear hV hSp hpost hsw hwt hw0 hm
  go_enter Try.func10, Try.ntmps10
  go_wp2_with fail
  refine (HV.out _).mono ?_
  rintro e w2 ⟨rfl, rfl⟩
  go_upto_region 5 with (fail)
  have ho := OwnI.made w y 3 (by unfold maxLen; omega)
  rw [← upTo_zero wtA] at ho
  have F2 : Fr [] w (w.alloc (.cells (madeCells #[.int .i64 0] y) 3)) := (Fr.refl [] w).alloc _
  generalize w.alloc (.cells (madeCells #[.int .i64 0] y) 3) = w3 at *
  obtain ⟨gl, hgl⟩ : ∃ gl, gl = w.heap.size := ⟨_, rfl⟩
  rw [← hgl] at ho ⊢
  have HGL := Lib.hid hgl
  have HO := Lib.hid ho
  have HF2 := Lib.hid F2
  clear ho F2 hmk hgl
  go_wp2_with fail
  go_loopw [33, 9] (fun i v wr => ∃ (k : Nat) (z : Int), k ≤ y ∧ i = .int .i64 k ∧ v = .int .i64 z ∧ Hid (z = wtA k) ∧ OwnI wr gl 3 (.slice (some ⟨gl, 0, none⟩) y y) (upTo wtA y k) ∧ Fr [gl] w3 wr) (fun i _ _ => y - (intOf i).toNat)
  case atStart => exact ⟨0, 1000000, by omega, rfl, rfl, Lib.hid HW0.out.symm, HO.out, Fr.refl _ _⟩
  case round =>
    obtain ⟨k, z, hk, rfl, rfl, HZ, ho, hf⟩ := hrel
    by_cases hlt : k < y
    · have hkn : (k : Int) < (y : Int) := by omega
      have hb := wtA_bd (k := k) (by omega)
      rw [← HZ.out] at hb
      obtain ⟨b0, b1⟩ := hb
      have hul := upTo_len wtA y k
      have co := ho.cell k (by rw [hul]; exact hlt)
      have fo := ho.frozen k
      have hus := upTo_succ wtA y k hlt
      rw [← HZ.out] at hus
      have HUS := Lib.hid hus
      have HSET := Lib.hid (ho.set k z)
      have HFS := Lib.hid (hf.setCell (p := ⟨gl, k, none⟩) (.inl (by simp)) (.int .i64 z))
      have hzn : z + z * 300 / 10000 = wtA (k + 1) := by rw [HWT.out, HZ.out]
      have HZN := Lib.hid hzn
      have hq : (z * 300).tdiv 10000 = z * 300 / 10000 := Int.tdiv_eq_ediv_of_nonneg (by omega)
      clear ho hf hus hul hzn
      generalize (upTo wtA y k).getD k 0 = q at *
      go_wp2_with fail
      go_roundw
      case rel => exact ⟨k + 1, z + z * 300 / 10000, by omega, by go_num, by go_num, HZN, by rw [← HUS.out]; exact HSET.out, HFS.out⟩
      case measure => simp [intOf] <;> omega
    · obtain rfl : y = k := by omega
      have hrd := ho.rd
      rw [← HSW.out] at hrd
      have hsp := HSP.out _ _ hrd
      have HSPP := Lib.hid hsp
      have HF := Lib.hid (HF2.out.trans' hf (by intro i hi; simp at hi; subst hi; exact .inr (by have := HGL.out; omega)))
      clear ho hf hrd hsp
      go_wp2_with fail
      refine HSPP.out.mono ?_
      rintro e w4 ⟨u, rfl, hou, f4⟩
      obtain ⟨au, cu, rfl, _, _⟩ := hou.any
      have HOU := Lib.hid hou
      have HF4 := Lib.hid (HF.out.trans f4)
      have hsz : w.heap.size ≤ wr.heap.size := HF.out.size
      clear hou f4
      go_wp2_with fail
      go_ret2
      exact HPOST.out _ _ (HOU.out.mono hsz) HF4.out
end Go.Proofs.Ytijdlggoaianbaa
