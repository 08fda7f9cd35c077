/-
  TopShares: what is offset against two debts, one after the other.
-/
import Derived.Test.YtijdlggoaianbaaShDebt
import Derived.RegionTactic
import Derived.Deep.DeepCutAuto
import Derived.Deep.LoopGhost
set_option linter.unusedVariables false
namespace Go.Proofs.Ytijdlggoaianbaa
open Go.RowKit
theorem own_room (w : World) : OwnI (w.alloc (.cells (madeCells #[.int .i64 0] 2) 3)) w.heap.size 3 (.slice (some ⟨w.heap.size, 0, none⟩) 0 2) [] :=
  ⟨rfl, .inr ⟨w.heap.size, 2, _, rfl, Nat.le_refl _, heap_alloc_new w _, by simp, by unfold maxLen; omega, by simp [madeCells], by simp⟩⟩
theorem make_room (w : World) : (Instr.makeSlice 25 (.int .i64 0) (.int .i64 2)).run Try.prog w = .ok (.slice (some ⟨w.heap.size, 0, none⟩) 0 2) (w.alloc (.cells (madeCells #[.int .i64 0] 2) 3)) := by
  obtain ⟨i0, hi0, hz0, hz1, hz2⟩ := info_parts infoIntA
  have := run_make (P := Try.prog) (w := w) 25 3 i0 _ Try.underlying25 hi0 hz0 .i64 .i64 0 2 (by omega) (by omega) (by rw [hz2]; omega) (by omega)
  rw [hz1] at this
  exact this
def lsD (x A B : Int) (k : Nat) : List Int := if k = 0 then [] else if k = 1 then [min x A] else [min x A, min (x - min x A) B]
def lfD (x A B : Int) (k : Nat) : Int := if k = 0 then x else if k = 1 then x - min x A else x - min x A - min (x - min x A) B
set_option maxRecDepth 20000 in
set_option maxHeartbeats 4000000 in
theorem each_any (bb bp : Nat) (A B x : Int) (w : World) (hr : RowAt w bb 35 (dbL A B)) (hp : RowAt w bp 77 [.int .i64 x]) (hne : bb ≠ bp) (hA : 1 ≤ A ∧ A ≤ 4294967296) (hB : 1 ≤ B ∧ B ≤ 4294967296) (hx : 0 ≤ x ∧ x ≤ 4294967295) :
    Calls Try.prog 39 #[.slice (some ⟨bb, 0, none⟩) 2 2, .func (.func 40) #[.pointer (some ⟨bp, 0, none⟩)] #[]] w fun e w' => ∃ v, e = .returned v ∧ OwnI w' w.heap.size 3 v (lsD x A B 2) ∧ RowAt w' bp 77 [.int .i64 (lfD x A B 2)] ∧ Fr [bp] w w' := by
  have hS := fun L nm r w h1 h2 => serve_any bp L A nm r w h1 h2 hA
  have hS2 := fun L nm r w h1 h2 => serve_any bp L B nm r w h1 h2 hB
  have hl0 : lsD x A B 0 = [] := rfl
  have hl1 : lsD x A B 1 = [min x A] := rfl
  have hl2 : lsD x A B 2 = [min x A, min (x - min x A) B] := rfl
  have hf0 : lfD x A B 0 = x := rfl
  have hf1 : lfD x A B 1 = x - min x A := rfl
  have hf2 : lfD x A B 2 = x - min x A - min (x - min x A) B := rfl
  have hb1 : 0 ≤ x - min x A ∧ x - min x A ≤ 4294967296 := by omega
  have hx' : 0 ≤ x ∧ x ≤ 4294967296 := by omega
  have hlt := hp.lt
  have HR := Lib.hid hr
  have HP := Lib.hid hp
  have HS := Lib.hid hS
  have HS2 := Lib.hid hS2
  have HB1 := Lib.hid hb1
  have HX := Lib.hid hx'
  have HL1 := Lib.hid hl1
  have HL2 := Lib.hid hl2
  have HFE1 := Lib.hid hf1
  have HFE2 := Lib.hid hf2
  clear hr hp hS hS2 hl0 hl1 hl2 hf0 hf1 hf2 hb1 hx' hx hA hB
  have hmk := make_room
  go_enter Try.func39, Try.ntmps39
  go_upto_region 2 with (fail)
  have ho0 := own_room w
  have f0 : Fr [bp] w (w.alloc (.cells (madeCells #[.int .i64 0] 2) 3)) := (Fr.refl [bp] w).alloc _
  have HP0 := Lib.hid (HP.out.fr ((Fr.refl [] w).alloc (.cells (madeCells #[.int .i64 0] 2) 3)) (by simp))
  generalize w.alloc (.cells (madeCells #[.int .i64 0] 2) 3) = w1 at *
  have HO0 := Lib.hid ho0
  have HF0 := Lib.hid f0
  clear ho0 f0 hmk
  go_wp2_with fail
  go_loopw [13, 5] (fun i v wr => ∃ k : Nat, k ≤ 2 ∧ i = .int .i64 k ∧ OwnI wr w.heap.size 3 v (lsD x A B k) ∧ RowAt wr bp 77 [.int .i64 (lfD x A B k)] ∧ Fr [bp] w wr) (fun i _ _ => 2 - (intOf i).toNat)
  case atStart => exact ⟨0, by omega, rfl, HO0.out, HP0.out, HF0.out⟩
  case round =>
    obtain ⟨k, hk, rfl, ho, hp, hf⟩ := hrel
    have hc : k = 0 ∨ k = 1 ∨ k = 2 := by omega
    have hr := HR.out.fr hf (by simpa using hne)
    rcases hc with rfl | rfl | rfl
    · have c0 := hr.cell 0 _ rfl
      have c1 := hr.cell 1 _ rfl
      have c2 := hr.cell 2 _ rfl
      have HF := Lib.hid hf
      have HO := Lib.hid ho
      have HPP := Lib.hid hp
      clear hr hf ho hp
      go_upto_region 5 with (fail)
      have fy : Fr [] wr (wr.alloc (.cells #[.string ⟨#[97]⟩, .int .i64 1, .int .i64 A] 35)) := (Fr.refl [] wr).alloc _
      have HF2 := Lib.hid (HF.out.trans (fy.mono (by simp)))
      have HO2 := Lib.hid (HO.out.fr fy (by simp))
      have hp2 := HPP.out.fr fy (by simp)
      have n0 : (wr.alloc (.cells #[.string ⟨#[97]⟩, .int .i64 1, .int .i64 A] 35)).cell? ⟨wr.heap.size, 0, none⟩ = some (.string ⟨#[97]⟩) := new_cell rfl rfl
      have n1 : (wr.alloc (.cells #[.string ⟨#[97]⟩, .int .i64 1, .int .i64 A] 35)).cell? ⟨wr.heap.size, 1, none⟩ = some (.int .i64 1) := new_cell rfl rfl
      have n2 : (wr.alloc (.cells #[.string ⟨#[97]⟩, .int .i64 1, .int .i64 A] 35)).cell? ⟨wr.heap.size, 2, none⟩ = some (.int .i64 A) := new_cell rfl rfl
      have hsv := fun wy h => HS.out x ⟨#[97]⟩ 1 wy h HX.out
      generalize wr.alloc (.cells #[.string ⟨#[97]⟩, .int .i64 1, .int .i64 A] 35) = wy at *
      generalize wr.heap.size = by_ at *
      have HSV := Lib.hid (hsv wy hp2)
      clear hsv hp2 fy c0 c1 c2
      go_wp2_with fail
      refine HSV.out.mono ?_
      rintro e w4 ⟨rfl, hp4, f4⟩
      have HF4 := Lib.hid (HF2.out.trans f4)
      have HO4 := Lib.hid (HO2.out.fr f4 (fun q hq => by have := (HO2.out.block q hq).1; simp; omega))
      have HP4 := Lib.hid hp4
      have hsz4 : w.heap.size ≤ w4.heap.size := HF4.out.size
      obtain ⟨G, hG⟩ : ∃ G, G = min x A := ⟨_, rfl⟩
      rw [← hG] at HP4 ⊢
      have HG := Lib.hid hG
      clear hG hp4 f4 n0 n1 n2
      go_wp2_with (at_builtin; refine app_iF _ _ rfl G rfl (.tmp 17) (.tmp 21) rfl w.heap.size u5 (lsD x A B 0) rfl HO4.out rfl (by simp [lsD]) hsz4 ?_; intro v' w6 ho6 hfn; have HF6 := Lib.hid (hfn [bp] w (fun q hq => .inr (HO4.out.block q hq).1) HF4.out); have HO6 := Lib.hid ho6; have HP6 := Lib.hid (HP4.out.fr (hfn _ w4 (fun q hq => .inl (by rw [hq]; exact List.mem_singleton.2 rfl)) (Fr.refl (Value.ownBlock u5).toList w4)) (fun hm => by have := (HO4.out.block bp (by simpa using hm)).1; omega)); clear ho6 hfn)
      go_roundw
      case rel => exact ⟨1, by omega, rfl, by rw [HL1.out, ← HG.out]; exact HO6.out, by rw [HFE1.out, ← HG.out]; exact HP6.out, HF6.out⟩
      case measure => simp [intOf]
    · have c0 := hr.cell 3 _ rfl
      have c1 := hr.cell 4 _ rfl
      have c2 := hr.cell 5 _ rfl
      have HF := Lib.hid hf
      have HO := Lib.hid ho
      have HPP := Lib.hid hp
      clear hr hf ho hp
      go_upto_region 5 with (fail)
      have fy : Fr [] wr (wr.alloc (.cells #[.string ⟨#[98]⟩, .int .i64 1, .int .i64 B] 35)) := (Fr.refl [] wr).alloc _
      have HF2 := Lib.hid (HF.out.trans (fy.mono (by simp)))
      have HO2 := Lib.hid (HO.out.fr fy (by simp))
      have hp2 := HPP.out.fr fy (by simp)
      have n0 : (wr.alloc (.cells #[.string ⟨#[98]⟩, .int .i64 1, .int .i64 B] 35)).cell? ⟨wr.heap.size, 0, none⟩ = some (.string ⟨#[98]⟩) := new_cell rfl rfl
      have n1 : (wr.alloc (.cells #[.string ⟨#[98]⟩, .int .i64 1, .int .i64 B] 35)).cell? ⟨wr.heap.size, 1, none⟩ = some (.int .i64 1) := new_cell rfl rfl
      have n2 : (wr.alloc (.cells #[.string ⟨#[98]⟩, .int .i64 1, .int .i64 B] 35)).cell? ⟨wr.heap.size, 2, none⟩ = some (.int .i64 B) := new_cell rfl rfl
      have hsv := fun wy h => HS2.out (x - min x A) ⟨#[98]⟩ 1 wy h HB1.out
      generalize wr.alloc (.cells #[.string ⟨#[98]⟩, .int .i64 1, .int .i64 B] 35) = wy at *
      generalize wr.heap.size = by_ at *
      have HSV := Lib.hid (hsv wy hp2)
      clear hsv hp2 fy c0 c1 c2
      go_wp2_with fail
      refine HSV.out.mono ?_
      rintro e w4 ⟨rfl, hp4, f4⟩
      have HF4 := Lib.hid (HF2.out.trans f4)
      have HO4 := Lib.hid (HO2.out.fr f4 (fun q hq => by have := (HO2.out.block q hq).1; simp; omega))
      have HP4 := Lib.hid hp4
      have hsz4 : w.heap.size ≤ w4.heap.size := HF4.out.size
      obtain ⟨G, hG⟩ : ∃ G, G = min (x - min x A) B := ⟨_, rfl⟩
      rw [← hG] at HP4 ⊢
      have HG := Lib.hid hG
      clear hG hp4 f4 n0 n1 n2
      go_wp2_with (at_builtin; refine app_iF _ _ rfl G rfl (.tmp 17) (.tmp 21) rfl w.heap.size u5 (lsD x A B 1) rfl HO4.out rfl (by simp [lsD]) hsz4 ?_; intro v' w6 ho6 hfn; have HF6 := Lib.hid (hfn [bp] w (fun q hq => .inr (HO4.out.block q hq).1) HF4.out); have HO6 := Lib.hid ho6; have HP6 := Lib.hid (HP4.out.fr (hfn _ w4 (fun q hq => .inl (by rw [hq]; exact List.mem_singleton.2 rfl)) (Fr.refl (Value.ownBlock u5).toList w4)) (fun hm => by have := (HO4.out.block bp (by simpa using hm)).1; omega)); clear ho6 hfn)
      go_roundw
      case rel => exact ⟨2, by omega, rfl, by rw [HL2.out, ← HG.out]; exact HO6.out, by rw [HFE2.out, ← HG.out]; exact HP6.out, HF6.out⟩
      case measure => simp [intOf]
    · have HF := Lib.hid hf
      have HO := Lib.hid ho
      have HPP := Lib.hid hp
      clear hr hf ho hp
      go_wp2_with fail
      go_ret
      exact ⟨_, rfl, HO.out, HPP.out, HF.out⟩
set_option maxRecDepth 20000 in
set_option maxHeartbeats 4000000 in
theorem offset_any (bb : Nat) (A B x : Int) (w : World) (hr : RowAt w bb 35 (dbL A B)) (hA : 1 ≤ A ∧ A ≤ 4294967296) (hB : 1 ≤ B ∧ B ≤ 4294967296) (hx : 0 ≤ x ∧ x ≤ 4294967295) :
    Calls Try.prog 23 #[.slice (some ⟨bb, 0, none⟩) 2 2, .int .i64 x] w fun e w' => ∃ v, e = .returned (.tuple #[v, .int .i64 (x - min x A - min (x - min x A) B), .int .i64 0]) ∧ OwnI w' w.heap.size 3 v [min x A, min (x - min x A) B] ∧ Fr [] w w' := by
  have hC := dcheck_any bb A B w hr hA hB
  have hV := fun w => mvalid_any x w
  rw [inR_yes hx.1 (by omega)] at hV
  have HR := Lib.hid hr
  have HC := Lib.hid hC
  have HV := Lib.hid hV
  clear hr hC hV
  go_enter Try.func23, Try.ntmps23
  go_wp2_with fail
  refine HC.out.mono ?_
  rintro e w1 ⟨rfl, f1⟩
  go_wp2_with fail
  refine (HV.out _).mono ?_
  rintro e w2 ⟨rfl, rfl⟩
  go_upto_region 7 with (fail)
  have hp : RowAt (w1.alloc (.cells #[.int .i64 x] 77)) w1.heap.size 77 [.int .i64 x] := RowAt.new rfl rfl
  have fp : Fr [] w1 (w1.alloc (.cells #[.int .i64 x] 77)) := (Fr.refl [] w1).alloc _
  have hrb := (HR.out.fr f1 (by simp)).fr fp (by simp)
  have hne : bb ≠ w1.heap.size := by have := (HR.out.fr f1 (by simp)).lt; omega
  have F1 := f1.trans fp
  have hw1 : w.heap.size ≤ w1.heap.size := f1.size
  generalize w1.alloc (.cells #[.int .i64 x] 77) = w3 at *
  generalize w1.heap.size = bp at *
  have hE := each_any bb bp A B x w3 hrb hp hne hA hB hx
  have HE := Lib.hid hE
  have HF1 := Lib.hid F1
  clear hE hrb fp f1 F1 hne
  go_wp2_with fail
  refine HE.out.mono ?_
  rintro e w4 ⟨v, rfl, ho, hp4, f4⟩
  obtain ⟨a, c, rfl, _, _⟩ := ho.any
  have cp := hp4.cell 0 _ rfl
  have HO := Lib.hid ho
  have HF4 := Lib.hid (HF1.out.trans' f4 (by intro i hi; simp at hi; subst hi; exact .inr hw1))
  have hsz : w.heap.size ≤ w3.heap.size := HF1.out.size
  obtain ⟨Z, hZ⟩ : ∃ Z, Z = lfD x A B 2 := ⟨_, rfl⟩
  rw [← hZ] at cp
  have HZ := Lib.hid hZ
  clear ho hp4 f4 hp hZ
  go_upto_region 8 with (fail)
  go_quiet (fail)
  have HO5 := Lib.hid ((HO.out.mono hsz).fr ((Fr.refl [] w4).drewN nq) (by simp))
  have HF5 := Lib.hid (HF4.out.drewN nq)
  clear cp
  generalize w4.drewN nq = w5 at *
  go_wp2_with fail
  refine bodyPost_ret (v := .tuple #[.slice a (lsD x A B 2).length c, .int .i64 Z, .int .i64 0]) (by simp [results, Try.results23, go_sem]) rfl ⟨_, by rw [HZ.out]; rfl, HO5.out, HF5.out⟩
end Go.Proofs.Ytijdlggoaianbaa
