/-
  schedule.Open; the weekly game of the statements, lives and opens.
-/
import Derived.Test.YtijdlggoaianbaaSchedC
import Derived.Test.YtijdlggoaianbaaPlainG
set_option linter.unusedVariables false
namespace Go.Proofs.Ytijdlggoaianbaa
open Go.RowKit
theorem unt_bd {d : Nat} {a u : Int} (hd : d < 128) (hu1 : u ≤ 1073743264) : untV d a u ≤ 745668 := by
  have hp := pc_le hd
  unfold untV
  have h1 : (u / 10080).toNat * pcD d ≤ 106523 * 7 := Nat.mul_le_mul (by omega) hp
  have h2 : cntD d (upD a (u % 10080)) ≤ 7 := Nat.le_trans (cnt_le d _) (by unfold upD; omega)
  omega
set_option maxRecDepth 20000 in
set_option maxHeartbeats 4000000 in
theorem open_any (g : Gm) (t : Int) (w : World) (hok : g.Ok w) (ht0 : -9223372036854775808 ≤ t) (ht1 : t ≤ 9223372036854775807) :
    Calls Try.prog 17 #[g.val, .int .i64 t] w fun e w' => e = .returned (.tuple #[.int .i64 (opV g t), .int .i64 (opE g t)]) ∧ Fr [] w w' := by
  have hK := fun w' (h : Fr [] w w') => check_any g w' (hok.fr h)
  unfold ChkPost at hK
  by_cases hc : chkE g = 0
  · rw [hc] at hK
    by_cases htr : t < 0 ∨ 1073741824 < t
    · have e1 : opE g t = 2 := by unfold opE; rw [if_neg (by omega), if_pos htr]
      have e2 : opV g t = 0 := by unfold opV; rw [e1, if_neg (by omega)]
      rw [e1, e2]
      have HK := Lib.hid hK
      clear hK hok hc e1 e2
      by_cases h1 : t < 0
      · have d1 : decide (t < 0) = true := by simpa using h1
        clear htr h1
        go_enter Try.func17, Try.ntmps17
        go_wp2_with (first | (refine box_game rfl (.tmp 0) rfl g rfl ?_; intro w1 hg1 hz1 hf1) | (refine load_game rfl (.tmp 2) rfl _ rfl g hg1 ?_))
        refine (HK.out _ hf1).mono ?_
        rintro e w2 ⟨S, rfl, _, f2⟩
        go_wp2_with fail
        go_ret2
        exact ⟨rfl, hf1.trans f2⟩
      · have d1 : decide (t < 0) = false := by simpa using h1
        have d2 : decide (1073741824 < t) = true := by simp; omega
        clear htr h1
        go_enter Try.func17, Try.ntmps17
        go_wp2_with (first | (refine box_game rfl (.tmp 0) rfl g rfl ?_; intro w1 hg1 hz1 hf1) | (refine load_game rfl (.tmp 2) rfl _ rfl g hg1 ?_))
        refine (HK.out _ hf1).mono ?_
        rintro e w2 ⟨S, rfl, _, f2⟩
        go_wp2_with fail
        go_ret2
        exact ⟨rfl, hf1.trans f2⟩
    · obtain ⟨d, hd⟩ := df_of hc
      have e1 : opE g t = drE g (untV d g.at_ (t + g.close) + 1) := by unfold opE; rw [if_neg (by omega), if_neg htr, hd.dd]
      have hU := fun w => until_any g d (t + g.close) w hd (by have := hd.c0; omega) (by have := hd.c1; omega)
      have hbd := unt_bd (a := g.at_) hd.hd (show t + g.close ≤ 1073743264 by have := hd.c1; omega)
      have hD := fun w' (h : Fr [] w w') => draw_any g ((untV d g.at_ (t + g.close) : Nat) + 1) w' (hok.fr h) (by omega) (by omega)
      have e2 : opV g t = if drE g (untV d g.at_ (t + g.close) + 1) = 0 then ((untV d g.at_ (t + g.close) : Nat) : Int) + 1 else 0 := by unfold opV; rw [e1, hd.dd]
      rw [e1, e2]
      have d1 : decide (t < 0) = false := by simp; omega
      have d2 : decide (1073741824 < t) = false := by simp; omega
      have k0 := hd.c0
      have k1 := hd.c1
      have h12 : ∀ w b, GmAt w b g → w.cell? ⟨b, 12, none⟩ = some (.int .i64 g.close) := fun w b h => h.cell 12 _ rfl
      have t0 : 0 ≤ t := by omega
      have t1 : t ≤ 1073741824 := by omega
      generalize drV g _ = V at *
      generalize drE g _ = E at *
      generalize untV d g.at_ (t + g.close) = N at *
      generalize g.close = C at *
      have HK := Lib.hid hK
      have HU := Lib.hid hU
      have HD := Lib.hid hD
      have H12 := Lib.hid h12
      clear hK hU hD h12 hok hc hd e1 e2 htr
      by_cases hE : E = 0
      · subst hE
        rw [if_pos rfl]
        go_enter Try.func17, Try.ntmps17
        go_wp2_with (first | (refine box_game rfl (.tmp 0) rfl g rfl ?_; intro w1 hg1 hz1 hf1) | (refine load_game rfl (.tmp 2) rfl _ rfl g hg1 ?_))
        refine (HK.out _ hf1).mono ?_
        rintro e w2 ⟨S, rfl, _, f2⟩
        have hg2 := hg1.fr f2 (by simp)
        have hf2 := hf1.trans f2
        have c12 := H12.out _ _ hg2
        clear hg1 hf1 f2
        go_wp2_with (refine load_game rfl (.tmp 2) rfl _ rfl g hg2 ?_)
        refine (HU.out _).mono ?_
        rintro e w3 ⟨rfl, f3⟩
        have hg3 := hg2.fr f3 (by simp)
        have hf3 := hf2.trans f3
        clear hg2 hf2 f3 c12
        go_wp2_with (refine load_game rfl (.tmp 2) rfl _ rfl g hg3 ?_)
        refine (HD.out _ hf3).mono ?_
        rintro e w4 ⟨rfl, f4⟩
        go_wp2_with fail
        go_ret2
        exact ⟨rfl, hf3.trans f4⟩
      · have e0 : (E != 0) = true := by simpa using hE
        rw [if_neg hE]
        clear hE
        go_enter Try.func17, Try.ntmps17
        go_wp2_with (first | (refine box_game rfl (.tmp 0) rfl g rfl ?_; intro w1 hg1 hz1 hf1) | (refine load_game rfl (.tmp 2) rfl _ rfl g hg1 ?_))
        refine (HK.out _ hf1).mono ?_
        rintro e w2 ⟨S, rfl, _, f2⟩
        have hg2 := hg1.fr f2 (by simp)
        have hf2 := hf1.trans f2
        have c12 := H12.out _ _ hg2
        clear hg1 hf1 f2
        go_wp2_with (refine load_game rfl (.tmp 2) rfl _ rfl g hg2 ?_)
        refine (HU.out _).mono ?_
        rintro e w3 ⟨rfl, f3⟩
        have hg3 := hg2.fr f3 (by simp)
        have hf3 := hf2.trans f3
        clear hg2 hf2 f3 c12
        go_wp2_with (refine load_game rfl (.tmp 2) rfl _ rfl g hg3 ?_)
        refine (HD.out _ hf3).mono ?_
        rintro e w4 ⟨rfl, f4⟩
        go_wp2_with fail
        go_ret2
        exact ⟨rfl, hf3.trans f4⟩
  · have e1 : opE g t = chkE g := by unfold opE; rw [if_pos hc]
    have e2 : opV g t = 0 := by unfold opV; rw [e1, if_neg hc]
    rw [e1, e2]
    have e0 : (chkE g != 0) = true := by simpa using hc
    generalize chkE g = ce at *
    have HK := Lib.hid hK
    clear hK hok hc e1 e2
    go_enter Try.func17, Try.ntmps17
    go_wp2_with (first | (refine box_game rfl (.tmp 0) rfl g rfl ?_; intro w1 hg1 hz1 hf1) | (refine load_game rfl (.tmp 2) rfl _ rfl g hg1 ?_))
    refine (HK.out _ hf1).mono ?_
    rintro e w2 ⟨S, rfl, _, f2⟩
    go_wp2_with fail
    go_ret2
    exact ⟨rfl, hf1.trans f2⟩
/-- the game with a draw each Saturday -/
def w24 (b : Nat) : Gm := ⟨⟨#[97]⟩, 1, 1, 1, 2, 0, 0, 0, 1, 1, 32, 1230, 30, 0, 1, 0, 0, 1, 0, 0, none, 0, [], some ⟨b, 0, none⟩, 1, [⟨1, 0, 0, 0, 1, 0⟩]⟩
set_option maxRecDepth 20000 in
theorem w24_dr (b : Nat) : drE (w24 b) 1 = 0 ∧ drV (w24 b) 1 = 1230 ∧ drE (w24 b) 2 = 0 ∧ drV (w24 b) 2 = 11310 ∧ exV (w24 b) 1 = 2670 ∧ opE (w24 b) 1199 = 0 ∧ opV (w24 b) 1199 = 1 ∧ opE (w24 b) 1200 = 0 ∧ opV (w24 b) 1200 = 2 :=
  ⟨by kernel_rfl, by kernel_rfl, by kernel_rfl, by kernel_rfl, by kernel_rfl, by kernel_rfl, by kernel_rfl, by kernel_rfl, by kernel_rfl⟩
theorem w24_ok (w : World) (b : Nat) (h : RdF 6 tiF w (.slice (some ⟨b, 0, none⟩) 1 1) [⟨1, 0, 0, 0, 1, 0⟩]) : (w24 b).Ok w := by
  refine ⟨(by show 1 ≤ maxLen; unfold maxLen; omega), rfl, rfl, rfl, rfl, rfl, rfl, rfl, rfl, rfl, rfl, rfl, rfl, rfl, rfl, rfl, rfl, rfl, rfl, rfl, ⟨⟨none, 0, rfl, by simp [w24], by simp, by simp [w24]⟩, by simp [w24]⟩, ⟨h, ?_⟩⟩
  intro x hx
  simp [w24] at hx
  subst hx
  exact ⟨rfl, rfl, rfl, rfl, rfl, rfl⟩
set_option maxRecDepth 20000 in
set_option maxHeartbeats 2000000 in
theorem weekly24_any (w : World) : Calls Try.prog 16 #[] w fun e w' => ∃ b, e = .returned (w24 b).val ∧ (w24 b).Ok w' ∧ Fr [] w w' := by
  have hb : ∀ (w : World) (b : Nat), (Instr.build 47 #[(0, .string ⟨#[97]⟩), (1, .int .i64 1), (2, .int .i64 1), (3, .int .i64 1), (4, .int .i64 2), (8, .int .i64 1), (9, .int .i64 1), (10, .int .i64 32), (11, .int .i64 1230), (12, .int .i64 30), (14, .int .i64 1), (17, .int .i64 1), (21, .slice (some ⟨b, 0, none⟩) 1 1)]).run Try.prog w = .ok (w24 b).val w := fun w b => by kernel_rfl
  go_enter Try.func16, Try.ntmps16
  go_wp2_with (refine store_game rfl (.tmp 0) (.tmp 3) rfl w.heap.size rfl _ (heap_alloc2_old _ _ _) rfl (w24 (w.heap.size + 1)) rfl ?_; intro w3 hg3 hz3 hf3)
  refine bodyPost_ret (v := (w24 (w.heap.size + 1)).val) (by rw [Gm.val_eq]; exact results_cell_row rfl _ _ w.heap.size 47 _ (0, 0) _ rfl hg3 Try.underlying47 rfl infoGame) rfl ⟨_, rfl, ?_, ?_⟩
  · refine w24_ok _ _ ?_
    have hr := rdf_one 6 Ti.cells (w.alloc (.cells #[.string ⟨#[]⟩, .int .i64 0, .int .i64 0, .int .i64 0, .int .i64 0, .int .i64 0, .int .i64 0, .int .i64 0, .int .i64 0, .int .i64 0, .int .i64 0, .int .i64 0, .int .i64 0, .int .i64 0, .int .i64 0, .int .i64 0, .int .i64 0, .int .i64 0, .int .i64 0, .int .i64 0, .slice none 0 0, .slice none 0 0] 47)) ⟨1, 0, 0, 0, 1, 0⟩ _ 66 rfl rfl
    rw [show (w.alloc (.cells #[.string ⟨#[]⟩, .int .i64 0, .int .i64 0, .int .i64 0, .int .i64 0, .int .i64 0, .int .i64 0, .int .i64 0, .int .i64 0, .int .i64 0, .int .i64 0, .int .i64 0, .int .i64 0, .int .i64 0, .int .i64 0, .int .i64 0, .int .i64 0, .int .i64 0, .int .i64 0, .int .i64 0, .slice none 0 0, .slice none 0 0] 47)).heap.size = w.heap.size + 1 by simp] at hr
    exact hr.fr hf3 (by simp)
  · exact (((Fr.refl [] w).alloc _).alloc _).trans' hf3 (by simp)
set_option maxHeartbeats 1000000 in
theorem lives24_any (w : World) : Calls Try.prog 12 #[] w fun e w' => e = .returned (.bool true) ∧ Fr [] w w' := by
  go_enter Try.func12, Try.ntmps12
  go_wp2_with fail
  refine (weekly24_any _).mono ?_
  rintro e w1 ⟨b, rfl, hok, f1⟩
  go_wp2_with fail
  refine (draw_any _ 1 _ hok (by omega) (by omega)).mono ?_
  rintro e w2 ⟨rfl, f2⟩
  obtain ⟨p1, p2, _⟩ := w24_dr b
  rw [p1, p2]
  have F2 := f1.trans f2
  clear p1 p2 hok f1 f2
  go_wp2_with fail
  refine (weekly24_any _).mono ?_
  rintro e w3 ⟨b2, rfl, hok, f3⟩
  go_wp2_with fail
  refine (draw_any _ 2 _ hok (by omega) (by omega)).mono ?_
  rintro e w4 ⟨rfl, f4⟩
  obtain ⟨_, _, p1, p2, _⟩ := w24_dr b2
  rw [p1, p2]
  have F4 := (F2.trans f3).trans f4
  clear p1 p2 hok f3 f4 F2
  go_wp2_with fail
  go_ret
  exact ⟨rfl, F4⟩
set_option maxHeartbeats 1000000 in
theorem opens24_any (w : World) : Calls Try.prog 18 #[] w fun e w' => e = .returned (.bool true) ∧ Fr [] w w' := by
  go_enter Try.func18, Try.ntmps18
  go_wp2_with fail
  refine (weekly24_any _).mono ?_
  rintro e w1 ⟨b, rfl, hok, f1⟩
  go_wp2_with fail
  refine (open_any _ 1199 _ hok (by omega) (by omega)).mono ?_
  rintro e w2 ⟨rfl, f2⟩
  obtain ⟨_, _, _, _, _, p1, p2, _⟩ := w24_dr b
  rw [p1, p2]
  have F2 := f1.trans f2
  clear p1 p2 hok f1 f2
  go_wp2_with fail
  refine (weekly24_any _).mono ?_
  rintro e w3 ⟨b2, rfl, hok, f3⟩
  go_wp2_with fail
  refine (open_any _ 1200 _ hok (by omega) (by omega)).mono ?_
  rintro e w4 ⟨rfl, f4⟩
  obtain ⟨_, _, _, _, _, _, _, p1, p2⟩ := w24_dr b2
  rw [p1, p2]
  have F4 := (F2.trans f3).trans f4
  clear p1 p2 hok f3 f4 F2
  go_wp2_with fail
  go_ret
  exact ⟨rfl, F4⟩
end Go.Proofs.Ytijdlggoaianbaa
