/-
  LAYER 36: Same of equal pools, the sum of the pools of one sort; the program divides the fund of the chapter's example.
-/
import Derived.Test.YtdinjekpcgndmaaPoolA
import Derived.Test.YtdinjekpcgndmaaPlain36
set_option linter.unusedVariables false
namespace Go.Proofs.Ytdinjekpcgndmaa
open Go.RowKit
set_option maxHeartbeats 2000000 in
theorem sameInts_eq (v1 v2 : Value) (l : List Int) (w : World) (h1 : RdI w v1 l) (h2 : RdI w v2 l) : Calls Try.prog 73 #[v1, v2] w fun e w' => e = .returned (.bool true) ∧ Fr [] w w' := by
  obtain ⟨a1, c1, rfl, l1, m1, r1⟩ := h1
  obtain ⟨a2, c2, rfl, l2, m2, r2⟩ := h2
  unfold maxLen at m1 m2
  obtain ⟨n, hN⟩ : ∃ n, n = l.length := ⟨_, rfl⟩
  rw [← hN] at r1 r2 l1 l2 ⊢
  have R1 := Lib.hid r1
  have R2 := Lib.hid r2
  have e1 : ((n : Int) != (n : Int)) = false := by simp
  clear r1 r2 hN
  go_enter Try.func73, Try.ntmps73
  go_wp2_with fail
  go_loopw [5] (fun i wr => ∃ k : Nat, k ≤ n ∧ i = .int .i64 k ∧ Fr [] w wr) (fun i _ => n - (intOf i).toNat)
  case atStart => exact ⟨0, by omega, rfl, Fr.refl _ _⟩
  case round =>
    obtain ⟨k, hk, rfl, hf⟩ := hrel
    by_cases hlt : k < n
    · obtain ⟨g1, o1, rfl, k1⟩ := R1.out k hlt
      obtain ⟨g2, o2, rfl, k2⟩ := R2.out k hlt
      have k1' := hf.cell_some k1 (by simp)
      have k2' := hf.cell_some k2 (by simp)
      generalize l.getD k 0 = x at *
      have hkn : (k : Int) < (n : Int) := by omega
      have ex : (x != x) = false := by simp
      clear k1 k2
      go_wp2_with fail
      go_quiet (fail)
      have hf2 := Lib.hid (hf.drewN nq)
      generalize wr.drewN nq = w2 at *
      clear k1' k2' hf
      go_wp2_with fail
      go_roundw
      case rel => exact ⟨k + 1, by omega, by go_num, hf2.out⟩
      case measure => simp [intOf]; omega
    · obtain rfl : n = k := by omega
      go_wp2_with fail
      go_ret
      exact ⟨rfl, hf⟩
theorem same36_eq (v1 v2 : Value) (l : List Int) (s A B : Int) (w : World) (h1 : RdI w v1 l) (h2 : RdI w v2 l) : Calls Try.prog 30 #[.agg #[.int .i64 s, .int .i64 A, .int .i64 B, v1], .agg #[.int .i64 s, .int .i64 A, .int .i64 B, v2]] w fun e w' => e = .returned (.bool true) ∧ Fr [] w w' := by
  have hS := fun w' (h : Fr [] w w') => sameInts_eq v1 v2 l w' (h1.below h) (h2.below h)
  have HS := Lib.hid hS
  have e1 : (s == s) = true := by simp
  have e2 : (A == A) = true := by simp
  have e3 : (B == B) = true := by simp
  obtain ⟨a1, c1, rfl, l1, m1, r1⟩ := h1
  obtain ⟨a2, c2, rfl, l2, m2, r2⟩ := h2
  clear hS r1 r2
  go_enter Try.func30, Try.ntmps30
  go_wp2_with fail
  refine (HS.out _ (((Fr.refl [] _).alloc _).alloc _)).mono ?_
  rintro e w1 ⟨rfl, f1⟩
  have F := (((Fr.refl [] w).alloc (.cells #[.int .i64 s, .int .i64 A, .int .i64 B, .slice a1 l.length c1] 45)).alloc (.cells #[.int .i64 s, .int .i64 A, .int .i64 B, .slice a2 l.length c2] 45)).trans f1
  have HF := Lib.hid F
  clear F f1
  go_wp2_with fail
  go_ret
  exact ⟨rfl, HF.out⟩
theorem sumK_bd {T : List Ti} {fx : Bool} {l : List Int} (h : ∀ j, j < l.length → 0 ≤ l.getD j 0 ∧ l.getD j 0 ≤ 1000000000000) : ∀ k : Nat, k ≤ l.length → 0 ≤ sumK T fx l k ∧ sumK T fx l k ≤ 1000000000000 * k := by
  intro k
  induction k with
  | zero => intro _; simp [sumK]
  | succ k ih =>
    intro hk
    have a := ih (by omega)
    have b := h k (by omega)
    rw [sumK]
    push_cast
    split <;> omega
set_option maxRecDepth 20000 in
set_option maxHeartbeats 4000000 in
theorem sum36_any (g : Gm) (v : Value) (l : List Int) (fx : Bool) (w : World) (hok : g.Ok w) (h2 : RdI w v l) (hl : l.length = g.tiers.length) (hm : l.length ≤ 1000) (hb : ∀ j, j < l.length → 0 ≤ l.getD j 0 ∧ l.getD j 0 ≤ 1000000000000) :
    Calls Try.prog 32 #[g.val, v, .bool fx] w fun e w' => e = .returned (.int .i64 (sumK g.tiers fx l l.length)) ∧ Fr [] w w' := by
  have h21 : ∀ w b, GmAt w b g → w.cell? ⟨b, 21, none⟩ = some (.slice g.ta g.tiers.length g.tc) := fun w b h => h.cell 21 _ rfl
  obtain ⟨a2, c2, rfl, l2, m2, r2⟩ := h2
  unfold maxLen at m2
  have hkb := @sumK_bd g.tiers fx l hb
  rw [← hl] at h21
  have HL := Lib.hid hl
  have hsu : ∀ k, sumK g.tiers fx l (k + 1) = sumK g.tiers fx l k + if isK g.tiers fx k = true then l.getD k 0 else 0 := fun k => rfl
  obtain ⟨n, hN⟩ : ∃ n, n = l.length := ⟨_, rfl⟩
  rw [← hN] at r2 l2 h21 hkb hb hm ⊢
  have HN := Lib.hid hN
  have HR := Lib.hid r2
  have H21 := Lib.hid h21
  have HKB := Lib.hid hkb
  have HB := Lib.hid hb
  have HSU := Lib.hid hsu
  have HOK := Lib.hid hok
  clear hl hN r2 h21 hkb hb hsu hok
  go_enter Try.func32, Try.ntmps32
  go_upto_block 0 with (refine box_game rfl (.tmp 0) rfl g rfl ?_; intro w1 hg1 hz1 hf1; have c21 := H21.out _ _ hg1)
  have HF1 := Lib.hid hf1
  clear hg1 hz1 hf1
  go_wp2_with fail
  go_loop [8, 7] (fun i s => ∃ k : Nat, k ≤ n ∧ i = .int .i64 k ∧ s = .int .i64 (sumK g.tiers fx l k)) (fun i _ => n - (intOf i).toNat)
  case atStart => exact ⟨0, by omega, rfl, rfl⟩
  case round =>
    obtain ⟨k, hk, rfl, rfl⟩ := hrel
    by_cases hlt : k < n
    · obtain ⟨g1, o1, rfl, k1⟩ := HR.out k hlt
      have k1' := HF1.out.cell_some k1 (by simp)
      obtain ⟨t, ht⟩ : ∃ t, g.tiers[k]? = some t := ⟨_, List.getElem?_eq_getElem (by have := HL.out; have := HN.out; omega)⟩
      obtain ⟨bt, ot, hta, hct⟩ := RdF.at (f := Ti.cells) HOK.out.tiers.rd ht
      have c4 := HF1.out.cell_some (hct 4 _ rfl) (by simp)
      rw [hta] at c21
      have hkd := (kd_of ht).1
      have hkk : isK g.tiers fx k = (decide (t.kind = 1) == fx) := by unfold isK; rw [hkd]
      have hs := HSU.out k
      rw [hkk] at hs
      obtain ⟨tm, tb, te, to_, tk, tv⟩ := t
      simp only at c4 hs
      have hb1 := HKB.out k (by omega)
      have hb2 := HKB.out (k + 1) (by omega)
      have hx := HB.out k hlt
      have hkn : (k : Int) < (n : Int) := by omega
      by_cases h1 : tk = 1
      · cases fx
        · rw [if_neg (by simp [h1]), Int.add_zero] at hs
          have HS := Lib.hid hs
          rw [hs] at hb2
          have e1 : (tk == 1) = true := by simpa using h1
          clear hs h1 hkk hkd ht hta hct k1
          generalize l.getD k 0 = x at *
          generalize sumK g.tiers _ l k = s at *
          go_wp2_with fail
          go_round
          case rel => exact ⟨k + 1, by omega, by go_num, by rw [HS.out]⟩
          case measure => simp [intOf]; omega
        · rw [if_pos (by simp [h1])] at hs
          have HS := Lib.hid hs
          rw [hs] at hb2
          have e1 : (tk == 1) = true := by simpa using h1
          clear hs h1 hkk hkd ht hta hct k1
          generalize l.getD k 0 = x at *
          generalize sumK g.tiers _ l k = s at *
          go_wp2_with fail
          go_round
          case rel => exact ⟨k + 1, by omega, by go_num, by rw [HS.out]⟩
          case measure => simp [intOf]; omega
      · cases fx
        · rw [if_pos (by simp [h1])] at hs
          have HS := Lib.hid hs
          rw [hs] at hb2
          have e1 : (tk == 1) = false := by simpa using h1
          clear hs h1 hkk hkd ht hta hct k1
          generalize l.getD k 0 = x at *
          generalize sumK g.tiers _ l k = s at *
          go_wp2_with fail
          go_round
          case rel => exact ⟨k + 1, by omega, by go_num, by rw [HS.out]⟩
          case measure => simp [intOf]; omega
        · rw [if_neg (by simp [h1]), Int.add_zero] at hs
          have HS := Lib.hid hs
          rw [hs] at hb2
          have e1 : (tk == 1) = false := by simpa using h1
          clear hs h1 hkk hkd ht hta hct k1
          generalize l.getD k 0 = x at *
          generalize sumK g.tiers _ l k = s at *
          go_wp2_with fail
          go_round
          case rel => exact ⟨k + 1, by omega, by go_num, by rw [HS.out]⟩
          case measure => simp [intOf]; omega
    · obtain rfl : n = k := by omega
      have HF := HF1
      go_wp2_with fail
      go_ret
      exact ⟨rfl, HF.out⟩
theorem pl36_al (b : Nat) : alE (pl36 b) 2001 [0, 0, 2] [0, 0, 0] 0 0 = 0 ∧ alL (pl36 b) 2001 [0, 0, 2] [0, 0, 0] 0 0 = [200, 100, 600] ∧ ∀ v, alV (pl36 b) 2001 [0, 0, 2] [0, 0, 0] 0 0 v = .agg #[.int .i64 2001, .int .i64 1000, .int .i64 100, v] :=
  ⟨by kernel_rfl, by kernel_rfl, fun v => by kernel_rfl⟩
set_option maxRecDepth 20000 in
set_option maxHeartbeats 2000000 in
theorem lives36_any (w : World) : Calls Try.prog 31 #[] w fun e w' => e = .returned (.bool true) ∧ Fr [] w w' := by
  have HA := Lib.hid (fun b v2 vt w' h h2 h3 => alloc_any (pl36 b) 2001 v2 vt [0, 0, 2] [0, 0, 0] 0 0 w' h h2 h3)
  go_enter Try.func31, Try.ntmps31
  go_wp2_with fail
  refine (plain36_any _).mono ?_
  rintro e w1 ⟨b, rfl, hok, f1⟩
  go_wp2_with fail
  have hr1 : RdI (w1.alloc (.cells #[.int .i64 0, .int .i64 0, .int .i64 2] 3)) (.slice (some ⟨w1.heap.size, 0, none⟩) 3 3) [0, 0, 2] := rdi_mk rfl [0, 0, 2] 3 3 rfl (by omega)
  have hr2 : RdI ((w1.alloc (.cells #[.int .i64 0, .int .i64 0, .int .i64 2] 3)).alloc (.cells #[.int .i64 0, .int .i64 0, .int .i64 0] 3)) (.slice (some ⟨w1.heap.size + 1, 0, none⟩) 3 3) [0, 0, 0] := rdi_mk (by simp) [0, 0, 0] 3 3 rfl (by omega)
  have F2 : Fr [] w1 ((w1.alloc (.cells #[.int .i64 0, .int .i64 0, .int .i64 2] 3)).alloc (.cells #[.int .i64 0, .int .i64 0, .int .i64 0] 3)) := ((Fr.refl [] w1).alloc _).alloc _
  refine (HA.out b _ _ _ (hok.fr F2) (hr1.below ((Fr.refl [] _).alloc _)) hr2).mono ?_
  rintro e w3 ⟨v, rfl, ho, f3⟩
  obtain ⟨q1, q2, q3⟩ := pl36_al b
  rw [q3 v, q1]
  rw [q2] at ho
  obtain ⟨av, cv, rfl, _, _⟩ := ho.any
  have HF := Lib.hid ((f1.trans F2).trans f3)
  have HO := Lib.hid ho
  clear hr1 hr2 F2 f3 q1 q2 q3 ho f1 hok HA
  go_wp2_with fail
  have hr3 : RdI ((w3.alloc (.cells #[.int .i64 2001, .int .i64 1000, .int .i64 100, .slice av 3 cv] 45)).alloc (.cells #[.int .i64 200, .int .i64 100, .int .i64 600] 3)) (.slice (some ⟨w3.heap.size + 1, 0, none⟩) 3 3) [200, 100, 600] := rdi_mk (by simp) [200, 100, 600] 3 3 rfl (by omega)
  have F4 : Fr [] w3 ((w3.alloc (.cells #[.int .i64 2001, .int .i64 1000, .int .i64 100, .slice av 3 cv] 45)).alloc (.cells #[.int .i64 200, .int .i64 100, .int .i64 600] 3)) := ((Fr.refl [] w3).alloc _).alloc _
  refine (same36_eq _ _ [200, 100, 600] _ _ _ _ (HO.out.rd.below F4) hr3).mono ?_
  rintro e w5 ⟨rfl, f5⟩
  have HF5 := Lib.hid ((HF.out.trans F4).trans f5)
  clear hr3 F4 f5
  go_wp2_with fail
  go_ret
  exact ⟨rfl, HF5.out⟩
end Go.Proofs.Ytdinjekpcgndmaa
