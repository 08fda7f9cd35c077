/-
  TopInstants: deck.guarantee.
-/
import Derived.Test.YtijdlggoaianbaaDoorDkT
import Derived.Test.YtijdlggoaianbaaDoorPermS
import Derived.Test.YtijdlggoaianbaaDoorBelOk
import Derived.BigRegion
import Derived.LoopN
set_option linter.unusedVariables false
namespace Go.Proofs.YtijdlggoaianbaaDoor
open Go.RowKit
theorem shE_zero (Z : Nat) (hz : Z ≤ 60) (s u : Int) : shE Z s u = 0 := by
  unfold shE
  rw [if_pos (by omega)]
  exact shufL_ok _ (by omega) _ _ _
def GuPost (P Z gt b N : Nat) (C : Nat → ByteArray) (w : World) (e : Ending) (w' : World) : Prop :=
  e = .returned (.int .i64 0) ∧ ∃ (pr : Nat → Int) (st' u' : Int), TkAt w' gt N Z C pr ∧ GuF P Z P pr ∧ StrAt w' b st' u' ∧ 0 ≤ u' ∧ u' ≤ 2000000 ∧ Fr [gt, b] w w'
set_option maxRecDepth 20000 in
set_option maxHeartbeats 4000000 in
theorem guar_any (s : ByteArray) (P Z g n cap c0 c1 gt b N : Nat) (C : Nat → ByteArray) (st : Int) (w : World) (hp : Pl P Z n c0 c1) (hN : N = P * Z) (hl : LvAt w g n c0 c1) (ht : TkAt w gt N Z C (fun _ => 0)) (hs : StrAt w b st 0) (hg1 : g ≠ gt) (hg2 : g ≠ b) (hg3 : gt ≠ b) :
    Calls Tryd.prog 16 #[.agg #[.string s, .int .i64 10, .int .i64 P, .int .i64 Z, .slice (some ⟨g, 0, none⟩) n cap], .slice (some ⟨gt, 0, none⟩) N N, .pointer (some ⟨b, 0, none⟩)] w (GuPost P Z gt b N C w) := by
  obtain ⟨p1, p2, z1, z2, q1, q2, k1, k2, k3⟩ := hp.i
  have hNi : (P : Int) * (Z : Int) = (N : Int) := by rw [hN, Int.natCast_mul]
  rw [hNi] at q1 q2 k2 k3
  obtain ⟨w1, hw1⟩ : ∃ w1, w1 = w.alloc (.cells #[.string s, .int .i64 10, .int .i64 P, .int .i64 Z, .slice (some ⟨g, 0, none⟩) n cap] 26) := ⟨_, rfl⟩
  have fa : Fr [] w w1 := by rw [hw1]; exact (Fr.refl [] w).alloc _
  have c2' : w1.cell? ⟨w.heap.size, 2, none⟩ = some (.int .i64 P) := by rw [hw1]; exact new_cell rfl rfl
  have c3' : w1.cell? ⟨w.heap.size, 3, none⟩ = some (.int .i64 Z) := by rw [hw1]; exact new_cell rfl rfl
  have c4' : w1.cell? ⟨w.heap.size, 4, none⟩ = some (.slice (some ⟨g, 0, none⟩) n cap) := by rw [hw1]; exact new_cell rfl rfl
  have b1 : w.heap.size ≠ gt := by have := ht.lt; omega
  have b2 : w.heap.size ≠ b := by have := hs.lt; omega
  have hl1 := hl.fr fa (by simp)
  have ht1 := ht.fr fa (by simp)
  have hs1 := hs.fr fa (by simp)
  have n12 : 1 ≤ n ∧ n ≤ 2 := by rcases hp.n with h | h <;> omega
  obtain ⟨nn1, nn2⟩ := n12
  have HP := Lib.hid hp
  have HL := Lib.hid hl1
  have HT := Lib.hid ht1
  have HS := Lib.hid hs1
  have HFA := Lib.hid fa
  have HN := Lib.hid hN
  clear hp hl hl1 ht ht1 hs hs1 fa hN
  go_enter Tryd.func16, Tryd.ntmps16
  go_upto_region 1 with (fail)
  rw [← hw1]
  have HW1 := Lib.hid hw1
  clear hw1
  generalize w.heap.size = pb at *
  go_wp2_with fail
  go_loopw [15] (fun i wr => ∃ (k : Nat) (pr : Nat → Int) (sv u : Int), k ≤ P ∧ i = .int .i64 k ∧ TkAt wr gt N Z C pr ∧ GuF P Z k pr ∧ StrAt wr b sv u ∧ 0 ≤ u ∧ u ≤ 300000 * k ∧ Fr [gt, b] w1 wr) (fun i _ => P - (intOf i).toNat)
  case atStart => exact ⟨0, fun _ => 0, st, 0, by omega, rfl, HT.out, GuF.zero P Z, HS.out, by omega, by omega, Fr.refl _ _⟩
  case round =>
    obtain ⟨k, pr, sv, u, hk, rfl, ht, hgu, hs, hu0, hu1, hf⟩ := hrel
    by_cases hlt : k < P
    · have hkP : (k : Int) < (P : Int) := by omega
      have c3 := hf.cell_some c3' (by simp [b1, b2])
      have c4 := hf.cell_some c4' (by simp [b1, b2])
      have hsh := shuffle_any b sv u (Z : Int) wr hs hu0 (by omega)
      have HSH := Lib.hid hsh
      have HT := Lib.hid ht
      have HGU := Lib.hid hgu
      have HF := Lib.hid hf
      clear ht hgu hs hf c2' c3' c4' hsh
      go_wp2_with fail
      refine HSH.out.mono ?_
      rintro e w2 ⟨vo, rfl, ho, hs2, f2⟩
      rw [shE_zero Z (by omega) sv u]
      obtain ⟨hnd, hlen, hbd⟩ : (shL (Z : Int) sv u).Nodup ∧ ((shL (Z : Int) sv u).length : Int) = (Z : Int) ∧ ∀ x ∈ shL (Z : Int) sv u, 1 ≤ x ∧ x ≤ (Z : Int) := by
        rcases shL_facts (Z : Int) sv u (by omega) with h | h
        · have := shE_zero Z (by omega) sv u; omega
        · exact h.2
      obtain ⟨go, co, rfl, _⟩ := ho.form (by omega)
      have hln : (shL (Z : Int) sv u).length = Z := by omega
      rw [hln] at ho ⊢
      have o0 := ho.cell 0 (by omega)
      have hob := hbd ((shL (Z : Int) sv u).getD 0 0) (by rw [List.getD_eq_getElem?_getD, List.getElem?_eq_getElem (by omega)]; exact List.getElem_mem _)
      generalize (shL (Z : Int) sv u).getD 0 0 = o at *
      obtain ⟨ob1, ob2⟩ := hob
      obtain ⟨j, hj, hjN, hg5⟩ := HGU.out.step hlt o ob1 ob2
      rw [← HN.out] at hjN
      have hu2 := shU_bd (Z : Int) sv u
      generalize shU (Z : Int) sv u = u2 at *
      generalize shS (Z : Int) sv u = s2 at *
      have HU := Lib.hid hu2
      have hgo : wr.heap.size ≤ go ∧ go < w2.heap.size ∧ Z ≤ co ∧ co ≤ maxLen := by rename_i h; rwa [hln] at h
      have hgz := lt_of_cell c3
      have hgb : go ≠ gt := by have := HT.out.lt; omega
      have c3 := f2.cell_some c3 (by simp [b2])
      have c4 := f2.cell_some c4 (by simp [b2])
      have t2 := HT.out.fr f2 (by simp [hg3])
      have l2 := (HL.out.fr HF.out (by simp [hg1, hg2])).fr f2 (by simp [hg2])
      have HT2 := Lib.hid t2
      have HL2 := Lib.hid l2
      have HF2 := Lib.hid (HF.out.trans (f2.mono (by simp)))
      have HG5 := Lib.hid hg5
      have HS2 := Lib.hid hs2
      have HGO := Lib.hid hgo
      clear t2 l2 f2 hg5 hs2 hgo ho hnd hlen hbd hln hu2 hgz
      have jk : 0 ≤ (k : Int) * (Z : Int) := Int.mul_nonneg (by omega) (by omega)
      have jk2 : (k : Int) * (Z : Int) ≤ 36 := by omega
      have jN : (j : Int) < (N : Int) := by omega
      go_wp2_with fail
      go_loopw [10, 31] (fun a i wr => Fr [gt] w2 wr ∧ (i = .int .i64 0 ∧ a = .int .i64 0 ∧ TkAt wr gt N Z C pr ∨ (i = .int .i64 1 ∨ n = 2 ∧ i = .int .i64 2) ∧ a = .int .i64 1 ∧ TkAt wr gt N Z C (upd pr j 500))) (fun _ i _ => 2 - (intOf i).toNat)
      case atStart => exact ⟨Fr.refl _ _, .inl ⟨rfl, rfl, HT2.out⟩⟩
      case round =>
        obtain ⟨hf, hr⟩ := hrel
        have hl2 := HL2.out.fr hf (by simp [hg1])
        rcases hr with ⟨rfl, rfl, ht⟩ | ⟨rfl | ⟨h2, rfl⟩, rfl, ht⟩
        · have l0 := hl2.a0
          have l1 := hl2.a1
          have l2 := hl2.a2
          have c3 := hf.cell_some c3 (by simp [b1])
          have o0 := hf.cell_some o0 (by simp [hgb])
          have hz0 := lt_of_cell o0
          obtain ⟨wy, hwy⟩ : ∃ wy, wy = wr.alloc (.cells #[.int .i64 500, .int .i64 c0, .int .i64 1] 28) := ⟨_, rfl⟩
          have fy : Fr [] wr wy := by rw [hwy]; exact (Fr.refl [] wr).alloc _
          have e0 : wy.cell? ⟨wr.heap.size, 0, none⟩ = some (.int .i64 500) := by rw [hwy]; exact new_cell rfl rfl
          have e2 : wy.cell? ⟨wr.heap.size, 2, none⟩ = some (.int .i64 1) := by rw [hwy]; exact new_cell rfl rfl
          have c3 := fy.cell_some c3 (by simp)
          have o0 := fy.cell_some o0 (by simp)
          have ty := ht.fr fy (by simp)
          have tz := ty.set j hjN 500
          have k2 := ty.c2 j hjN
          have kf := ty.fz (j * 4 + 2)
          have HTZ := Lib.hid tz
          have hfz := (hf.trans (fy.mono (by simp))).setCell (p := ⟨gt, j * 4 + 2, none⟩) (.inl (by simp)) (.int .i64 500)
          have HFZ := Lib.hid hfz
          clear hl2 hf fy ht ty tz hfz
          go_upto_region 11 with (fail)
          rw [← hwy]
          have HWY := Lib.hid hwy
          clear hwy
          generalize wr.heap.size = by_ at *
          clear l0 l1 l2
          go_wp2_with fail
          refine wp_loop_rounds 2 ?_
          rw [rounds_succ]
          go_wp2_with fail
          go_region
          generalize wy.setCell ⟨gt, j * 4 + 2, none⟩ (.int .i64 500) = wz at *
          go_wp2_with fail
          rw [rounds_succ]
          go_wp2_with fail
          go_roundw
          case rel => exact ⟨HFZ.out.drew, .inr ⟨.inl rfl, rfl, HTZ.out.fr ((Fr.refl [] _).drew) (by simp)⟩⟩
          case measure => simp [intOf]
        · by_cases h2 : n = 2
          · obtain ⟨l0, l1, l2⟩ := hl2.b h2
            have hn1 : (1 : Int) < (n : Int) := by omega
            have H2 := Lib.hid h2
            obtain ⟨wy, hwy⟩ : ∃ wy, wy = wr.alloc (.cells #[.int .i64 7, .int .i64 c1, .int .i64 0] 28) := ⟨_, rfl⟩
            have fy : Fr [] wr wy := by rw [hwy]; exact (Fr.refl [] wr).alloc _
            have e0 : wy.cell? ⟨wr.heap.size, 0, none⟩ = some (.int .i64 7) := by rw [hwy]; exact new_cell rfl rfl
            have e2 : wy.cell? ⟨wr.heap.size, 2, none⟩ = some (.int .i64 0) := by rw [hwy]; exact new_cell rfl rfl
            have HTZ := Lib.hid (ht.fr fy (by simp))
            have HFZ := Lib.hid (hf.trans (fy.mono (by simp)))
            clear hl2 hf fy ht h2
            go_upto_region 11 with (fail)
            rw [← hwy]
            have HWY := Lib.hid hwy
            clear hwy
            generalize wr.heap.size = by_ at *
            clear l0 l1 l2
            go_wp2_with fail
            refine wp_loop_rounds 1 ?_
            rw [rounds_succ]
            go_wp2_with fail
            go_roundw
            case rel => exact ⟨HFZ.out, .inr ⟨.inr ⟨H2.out, rfl⟩, rfl, HTZ.out⟩⟩
            case measure => simp [intOf]
          · have hn1 : ¬ ((1 : Int) < (n : Int)) := by omega
            clear h2
            have HF3 := Lib.hid hf
            have HT3 := Lib.hid ht
            have HS3 := Lib.hid ((HS2.out.fr hf (by simpa using hg3.symm)))
            clear hl2 hf ht o0 c3 c4
            go_wp2_with fail
            go_roundw
            case rel => exact ⟨k + 1, upd pr j 500, _, _, by omega, by go_num, HT3.out, HG5.out, HS3.out, by have := HU.out; omega, by have := HU.out; omega, HF2.out.trans (HF3.out.mono (by simp))⟩
            case measure => simp [intOf]; omega
        · have hn1 : ¬ ((2 : Int) < (n : Int)) := by omega
          clear h2
          have HF3 := Lib.hid hf
          have HT3 := Lib.hid ht
          have HS3 := Lib.hid ((HS2.out.fr hf (by simpa using hg3.symm)))
          clear hl2 hf ht o0 c3 c4
          go_wp2_with fail
          go_roundw
          case rel => exact ⟨k + 1, upd pr j 500, _, _, by omega, by go_num, HT3.out, HG5.out, HS3.out, by have := HU.out; omega, by have := HU.out; omega, HF2.out.trans (HF3.out.mono (by simp))⟩
          case measure => simp [intOf]; omega
    · obtain rfl : k = P := by omega
      have hz : ¬ ((k : Int) < (k : Int)) := by omega
      have HT := Lib.hid ht
      have HGU := Lib.hid hgu
      have HS2 := Lib.hid hs
      have HF := Lib.hid hf
      clear ht hgu hs hf c2' c3' c4'
      go_wp2_with fail
      go_ret
      exact ⟨rfl, pr, sv, u, HT.out, HGU.out, HS2.out, hu0, by omega, (HFA.out.mono (by simp)).trans HF.out⟩
end Go.Proofs.YtijdlggoaianbaaDoor
