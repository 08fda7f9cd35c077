/-
  The reference's weekdays, week, Draw and Expiry.
-/
import Derived.Test.YtijdlggoaianbaaSchedC
import Derived.Test.YtijdlggoaianbaaRCheck
import Derived.Test.YtijdlggoaianbaaAppF
import Derived.BigQuiet
import Derived.RegionTactic
set_option linter.unusedVariables false
namespace Go.Proofs.Ytijdlggoaianbaa
open Go.RowKit
theorem ron_any (k : Nat) (w : World) (hk : k ≤ 1000000) : Calls Try.prog 70 #[.int .i64 (k : Int)] w fun e w' => e = .returned (.int .i64 (((k + 5) % 7 : Nat) : Int)) ∧ w = w' := by
  have e1 : ((k : Int) + 5).tmod 7 = (((k + 5) % 7 : Nat) : Int) := by rw [Int.tmod_eq_emod_of_nonneg (by omega)]; omega
  go_enter Try.func70, Try.ntmps70
  go_wp2_with fail
  go_ret
  exact ⟨rfl, rfl⟩
theorem rin_any (d q : Nat) (w : World) (hd : d < 128) (hq : q ≤ 6) : Calls Try.prog 69 #[.int .i64 (d : Int), .int .i64 (q : Int)] w fun e w' => e = .returned (.bool (d / 2 ^ q % 2 == 1)) ∧ w = w' := by
  have hb : ∀ k, d / 2 ^ k < 128 := fun k => Nat.lt_of_le_of_lt (Nat.div_le_self _ _) hd
  have hs : ∀ k, d / 2 ^ (k + 1) = d / 2 ^ k / 2 := fun k => by rw [Nat.pow_succ, Nat.div_div_eq_div_mul]
  have HB := Lib.hid hb
  have HS := Lib.hid hs
  clear hb hs
  go_enter Try.func69, Try.ntmps69
  go_wp2_with fail
  go_loop [5, 0] (fun i v => ∃ k x : Nat, k ≤ q ∧ i = .int .i64 k ∧ v = .int .i64 (x : Int) ∧ Hid (x = d / 2 ^ k)) (fun i _ => q - (intOf i).toNat)
  case atStart => exact ⟨0, d, by omega, rfl, rfl, Lib.hid (by simp)⟩
  case round =>
    obtain ⟨k, x, hk, rfl, rfl, HX⟩ := hrel
    have hx : x < 128 := by rw [HX.out]; exact HB.out k
    by_cases hlt : k < q
    · have dk : decide ((k : Int) < (q : Int)) = true := by simp; omega
      have dk2 : decide (k < q) = true := by simpa using hlt
      go_wp2_with fail
      go_round
      case rel => exact ⟨k + 1, x / 2, by omega, by go_num, by go_num, Lib.hid (by rw [HX.out, HS.out])⟩
      case measure => simp [intOf] <;> omega
    · obtain rfl : k = q := by omega
      have dk : decide ((k : Int) < (k : Int)) = false := by simp
      have he : (((x : Int).tmod 2) == 1) = (d / 2 ^ k % 2 == 1) := by
        rw [← HX.out, Int.tmod_eq_emod_of_nonneg (by omega)]
        by_cases h : x % 2 = 1
        · have : (x : Int) % 2 = 1 := by omega
          rw [this, h]; rfl
        · have h2 : x % 2 = 0 := by omega
          have : (x : Int) % 2 = 0 := by omega
          rw [this, h2]; rfl
      have he2 : (((x : Int) % 2) == 1) = (d / 2 ^ k % 2 == 1) := by rw [← he, Int.tmod_eq_emod_of_nonneg (by omega)]
      obtain ⟨B, hB⟩ : ∃ B, B = (d / 2 ^ k % 2 == 1) := ⟨_, rfl⟩
      rw [← hB] at he2
      have HB2 := Lib.hid hB
      clear he HX hB
      go_wp2_with fail
      go_ret
      exact ⟨by rw [HB2.out]; rfl, rfl⟩
/-- the times of the first k days -/
def wkL (d : Nat) (a : Int) : Nat → List Int
  | 0 => []
  | k + 1 => if dB d k = true then wkL d a k ++ [1440 * (k : Int) + a] else wkL d a k
theorem wkL_eq (d : Nat) (a : Int) : ∀ k, wkL d a k = ((List.range k).filter (dB d)).map fun (o : Nat) => 1440 * (o : Int) + a := by
  intro k
  induction k with
  | zero => rfl
  | succ k ih =>
    rw [wkL, ih, List.range_succ, List.filter_append, List.map_append]
    by_cases h : dB d k = true
    · rw [if_pos h]; simp [h]
    · rw [if_neg h]; simp [h]
theorem wkL_len (d : Nat) (a : Int) : ∀ k, (wkL d a k).length ≤ k := by
  intro k
  induction k with
  | zero => exact Nat.le_refl _
  | succ k ih =>
    rw [wkL]
    split
    · simp; omega
    · omega
theorem wk7 (d : Nat) (a : Int) : (wkL d a 7).length = pcD d ∧ ∀ i, i < pcD d → (wkL d a 7).getD i 0 = 1440 * (off d i : Nat) + a := by
  have e : wkL d a 7 = (offs d).map fun (o : Nat) => 1440 * (o : Int) + a := wkL_eq d a 7
  rw [e]
  refine ⟨by rw [List.length_map]; rfl, fun i hi => ?_⟩
  have hi' : i < (offs d).length := hi
  simp [List.getD, off, hi']
set_option maxRecDepth 20000 in
set_option maxHeartbeats 4000000 in
theorem rweek_any (g : Gm) (d : Nat) (w : World) (hd : DF g d) : Calls Try.prog 49 #[g.val] w fun e w' => ∃ v, e = .returned v ∧ OwnI w' w.heap.size 3 v (wkL d g.at_ 7) ∧ Fr [] w w' := by
  have h10 : ∀ w b, GmAt w b g → w.cell? ⟨b, 10, none⟩ = some (.int .i64 (d : Int)) := fun w b h => by rw [← hd.days]; exact h.cell 10 _ rfl
  have h11 : ∀ w b, GmAt w b g → w.cell? ⟨b, 11, none⟩ = some (.int .i64 g.at_) := fun w b h => h.cell 11 _ rfl
  have a0 := hd.a0
  have a1 := hd.a1
  have hd1 := hd.hd
  have hln := wkL_len d g.at_
  generalize g.at_ = a at *
  have H10 := Lib.hid h10
  have H11 := Lib.hid h11
  have HLN := Lib.hid hln
  clear h10 h11 hln hd
  go_enter Try.func49, Try.ntmps49
  go_upto_region 1 with (refine box_game rfl (.tmp 0) rfl g rfl ?_; intro w1 hg1 hz1 hf1)
  have HG1 := Lib.hid hg1
  have HF1 := Lib.hid hf1
  have hs1 : w.heap.size ≤ w1.heap.size := by omega
  clear hg1 hz1 hf1
  go_wp2_with fail
  go_loopw [4, 3] (fun i v wr => ∃ k : Nat, k ≤ 7 ∧ i = .int .i64 k ∧ OwnI wr w1.heap.size 3 v (wkL d a k) ∧ Fr [] w1 wr) (fun i _ _ => 7 - (intOf i).toNat)
  case atStart => exact ⟨0, by omega, rfl, OwnI.nil _ _ _, Fr.refl _ _⟩
  case round =>
    obtain ⟨k, hk, rfl, ho, hf⟩ := hrel
    by_cases hlt : k < 7
    · have dk : decide ((k : Int) < 7) = true := by simp; omega
      have hg := HG1.out.fr hf (by simp)
      have c10 := H10.out _ _ hg
      have hON : ∀ n, Calls Try.prog 70 #[.int .i64 (k : Int)] (wr.drewN n) fun e w' => e = .returned (.int .i64 (((k + 5) % 7 : Nat) : Int)) ∧ w' = wr.drewN n := fun n => (ron_any k _ (by omega)).mono fun e w' h => ⟨h.1, h.2.symm⟩
      have hIN : ∀ n, Calls Try.prog 69 #[.int .i64 (d : Int), .int .i64 (((k + 5) % 7 : Nat) : Int)] (wr.drewN n) fun e w' => e = .returned (.bool (dB d k)) ∧ w' = wr.drewN n := fun n => (rin_any d ((k + 5) % 7) _ hd1 (by omega)).mono fun e w' h => ⟨h.1, h.2.symm⟩
      have hy : wkL d a (k + 1) = if dB d k = true then wkL d a k ++ [1440 * (k : Int) + a] else wkL d a k := rfl
      have hlk := HLN.out k
      generalize (k + 5) % 7 = y at *
      have HON := Lib.hid hON
      have HIN := Lib.hid hIN
      have HO := Lib.hid ho
      have HFK := Lib.hid hf
      have HG := Lib.hid hg
      cases hb : dB d k
      · rw [hb, if_neg (by simp)] at hy
        have HY := Lib.hid hy
        rw [hb] at hIN
        have HIN := Lib.hid hIN
        clear hON hIN ho hf hg hb hy
        generalize wkL d a k = l at *
        go_upto_region 5 with (fail)
        go_quiet ((first | (go_at_call 70; exact Calls.quiet_of_same (HON.out _)) | (go_at_call 69; exact Calls.quiet_of_same (HIN.out _))))
        have HO3 := Lib.hid (HO.out.fr ((Fr.refl [] wr).drewN nq) (by simp))
        have HF3 := Lib.hid (HFK.out.drewN nq)
        clear c10
        generalize wr.drewN nq = w3 at *
        go_wp2_with fail
        go_roundw
        case rel => exact ⟨k + 1, by omega, by go_num, by rw [HY.out]; exact HO3.out, HF3.out⟩
        case measure => simp [intOf] <;> omega
      · rw [hb, if_pos rfl] at hy
        have HY := Lib.hid hy
        rw [hb] at hIN
        have HIN := Lib.hid hIN
        clear hON hIN ho hf hg hb hy
        generalize wkL d a k = l at *
        go_upto_region 5 with (fail)
        go_quiet ((first | (go_at_call 70; exact Calls.quiet_of_same (HON.out _)) | (go_at_call 69; exact Calls.quiet_of_same (HIN.out _))))
        have HO3 := Lib.hid (HO.out.fr ((Fr.refl [] wr).drewN nq) (by simp))
        have HF3 := Lib.hid (HFK.out.drewN nq)
        have hg3 := HG.out.fr ((Fr.refl [] wr).drewN nq) (by simp)
        have c11 := H11.out _ _ hg3
        clear c10 hg3
        generalize wr.drewN nq = w3 at *
        have hsz3 : w1.heap.size ≤ w3.heap.size := HF3.out.size
        go_wp2_with (at_builtin; refine app_iF _ _ rfl (1440 * (k : Int) + a) rfl (.tmp 14) (.tmp 20) rfl w1.heap.size u3 l rfl HO3.out rfl (by omega) hsz3 ?_; intro v' w6 ho6 hfn; have HF6 := Lib.hid (hfn [] w1 (fun q hq => .inr (HO3.out.block q hq).1) HF3.out); have HO6 := Lib.hid ho6; clear ho6 hfn c11)
        go_roundw
        case rel => exact ⟨k + 1, by omega, by go_num, by rw [HY.out]; exact HO6.out, HF6.out⟩
        case measure => simp [intOf] <;> omega
    · obtain rfl : k = 7 := by omega
      have HP := Lib.hid (show ∃ v', Ending.returned _ = .returned v' ∧ OwnI _ w.heap.size 3 v' (wkL d a 7) ∧ Fr [] w _ from ⟨_, rfl, ho.mono hs1, HF1.out.trans hf⟩)
      clear ho hf
      go_wp2_with fail
      go_ret
      exact HP.out
theorem tmod_nat (m q : Nat) : (m : Int).tmod (q : Int) = ((m % q : Nat) : Int) := by rw [Int.tmod_eq_emod_of_nonneg (by omega)]; push_cast; rfl
theorem tdiv_nat (m q : Nat) : (m : Int).tdiv (q : Int) = ((m / q : Nat) : Int) := by rw [Int.tdiv_eq_ediv_of_nonneg (by omega)]; push_cast; rfl
set_option maxRecDepth 20000 in
set_option maxHeartbeats 4000000 in
theorem rdraw_any (g : Gm) (n : Int) (w : World) (hok : g.Ok w) (hn0 : -9223372036854775808 ≤ n) (hn1 : n ≤ 9223372036854775807) :
    Calls Try.prog 29 #[g.val, .int .i64 n] w fun e w' => e = .returned (.tuple #[.int .i64 (drV g n), .int .i64 (drE g n)]) ∧ Fr [] w w' := by
  have hK := fun w' (h : Fr [] w w') => rcheck_any g w' (hok.fr h)
  unfold RChkPost at hK
  by_cases hc : chkE g = 0
  · rw [hc] at hK
    by_cases hn : n < 1 ∨ 1073741824 < n
    · have he : drE g n = 2 ∧ drV g n = 0 := by
        by_cases h1 : n < 1
        · exact dr_low hc h1
        · obtain ⟨m, rfl⟩ : ∃ m : Nat, n = (m : Int) + 1 := ⟨(n - 1).toNat, by omega⟩
          obtain ⟨d, hd⟩ := df_of hc
          refine dr_far hc hd ?_
          have := drT_lt (a := g.at_) hd.hd hd.h0 hd.a0 hd.a1 m
          omega
      rw [he.1, he.2]
      have HK := Lib.hid hK
      clear hK hok hc he
      by_cases h1 : n < 1
      · have d1 : decide (n < 1) = true := by simpa using h1
        clear hn h1
        go_enter Try.func29, Try.ntmps29
        go_wp2_with (first | (refine box_game rfl (.tmp 0) rfl g rfl ?_; intro w1 hg1 hz1 hf1) | (refine load_game rfl (.tmp 2) rfl _ rfl g hg1 ?_))
        refine (HK.out _ hf1).mono ?_
        rintro e w2 ⟨S, rfl, f2⟩
        go_wp2_with fail
        go_ret2
        exact ⟨rfl, hf1.trans f2⟩
      · have d1 : decide (n < 1) = false := by simpa using h1
        have d2 : decide (1073741824 < n) = true := by simp; omega
        clear hn h1
        go_enter Try.func29, Try.ntmps29
        go_wp2_with (first | (refine box_game rfl (.tmp 0) rfl g rfl ?_; intro w1 hg1 hz1 hf1) | (refine load_game rfl (.tmp 2) rfl _ rfl g hg1 ?_))
        refine (HK.out _ hf1).mono ?_
        rintro e w2 ⟨S, rfl, f2⟩
        go_wp2_with fail
        go_ret2
        exact ⟨rfl, hf1.trans f2⟩
    · obtain ⟨m, rfl⟩ : ∃ m : Nat, n = (m : Int) + 1 := ⟨(n - 1).toNat, by omega⟩
      obtain ⟨d, hd⟩ := df_of hc
      have hp := pc_pos hd.hd hd.h0
      have hp7 := pc_le hd.hd
      have hWk := fun w => rweek_any g d w hd
      have hrq : m % pcD d < pcD d := Nat.mod_lt _ hp
      obtain ⟨hwl, hwv⟩ := wk7 d g.at_
      have hwv := hwv _ hrq
      have hdt : drT d g.at_ m = 10080 * (m / pcD d : Nat) + 1440 * (off d (m % pcD d) : Nat) + g.at_ := rfl
      have hx0 := hd.a0
      have hx1 := hd.a1
      have hx7 := (off_lt hd.hd hrq).1
      have hfar := fun h => @dr_far g d hc hd m h
      have hok2 := fun h => @dr_ok g d hc hd m h
      have hmd := Nat.div_le_self m (pcD d)
      have t1 := tmod_nat m (pcD d)
      have t2 := tdiv_nat m (pcD d)
      have t3 : (m : Int) % ((pcD d : Nat) : Int) = ((m % pcD d : Nat) : Int) := by push_cast; rfl
      have t4 : (m : Int) / ((pcD d : Nat) : Int) = ((m / pcD d : Nat) : Int) := by push_cast; rfl
      have hm1 : (m : Int) ≤ 1073741823 := by omega
      generalize wkL d g.at_ 7 = L at *
      generalize drE g ((m : Int) + 1) = E at *
      generalize drV g ((m : Int) + 1) = V at *
      generalize m / pcD d = W at *
      generalize hj : m % pcD d = j at *
      generalize pcD d = q at *
      generalize off d j = o at *
      generalize drT d g.at_ m = DT at *
      generalize g.at_ = a at *
      have hq0 : ((q : Int) == 0) = false := by simp; omega
      have hqn : (q : Int) ≠ 0 := by omega
      have hqp : (0 : Int) < (q : Int) := by omega
      have hjq : (j : Int) < (q : Int) := by omega
      have d1 : decide ((m : Int) + 1 < 1) = false := by simp; omega
      have d2 : decide (1073741824 < (m : Int) + 1) = false := by simp; omega
      have hT : 1440 * (o : Int) + a + 10080 * (W : Int) = DT := by rw [hdt]; omega
      have hT1 : DT ≤ 100000000000000 := by rw [hdt]; omega
      have hT0 : 0 ≤ DT := by rw [hdt]; omega
      have HK := Lib.hid hK
      have HW := Lib.hid hWk
      have HFAR := Lib.hid hfar
      have HOK2 := Lib.hid hok2
      have HL := Lib.hid hwl
      have HV := Lib.hid hwv
      clear hK hWk hfar hok2 hwl hwv hdt hd hok hc hj hn
      go_enter Try.func29, Try.ntmps29
      go_wp2_with (first | (refine box_game rfl (.tmp 0) rfl g rfl ?_; intro w1 hg1 hz1 hf1) | (refine load_game rfl (.tmp 2) rfl _ rfl g hg1 ?_))
      refine (HK.out _ hf1).mono ?_
      rintro e w2 ⟨S, rfl, f2⟩
      have hg2 := hg1.fr f2 (by simp)
      have hf2 := hf1.trans f2
      clear hg1 hf1 f2
      go_wp2_with (refine load_game rfl (.tmp 2) rfl _ rfl g hg2 ?_)
      refine (HW.out _).mono ?_
      rintro e w3 ⟨v, rfl, ho, f3⟩
      obtain ⟨gb, cb, rfl, _⟩ := ho.form (by rw [HL.out]; omega)
      have hcl := ho.cell j (by rw [HL.out]; omega)
      rw [HV.out] at hcl
      rw [HL.out]
      have hf3 := hf2.trans f3
      clear hg2 hf2 f3 ho
      generalize hX : 1440 * (o : Int) + a = X at *
      have hX0 : 0 ≤ X := by omega
      have hX1 : X ≤ 100000 := by omega
      clear hX
      go_upto_region 7 with (fail)
      go_quiet (fail)
      have HF3 := Lib.hid (hf3.drewN nq)
      clear hf3 hcl
      (try rw [hT])
      generalize w3.drewN nq = w4 at *
      by_cases hf : 1073741824 < DT
      · have d3 : decide (1073741824 < DT) = true := by simpa using hf
        obtain ⟨rfl, rfl⟩ := HFAR.out hf
        go_wp2_with fail
        go_ret2
        exact ⟨rfl, HF3.out⟩
      · have d3 : decide (1073741824 < DT) = false := by simpa using hf
        obtain ⟨rfl, rfl⟩ := HOK2.out (by omega)
        go_wp2_with fail
        go_ret2
        exact ⟨rfl, HF3.out⟩
  · obtain ⟨e1, e2⟩ := dr_err hc n
    rw [e1, e2]
    have e0 : (chkE g != 0) = true := by simpa using hc
    generalize chkE g = ce at *
    have HK := Lib.hid hK
    clear hK hok hc e1 e2
    go_enter Try.func29, Try.ntmps29
    go_wp2_with (first | (refine box_game rfl (.tmp 0) rfl g rfl ?_; intro w1 hg1 hz1 hf1) | (refine load_game rfl (.tmp 2) rfl _ rfl g hg1 ?_))
    refine (HK.out _ hf1).mono ?_
    rintro e w2 ⟨S, rfl, f2⟩
    go_wp2_with fail
    go_ret2
    exact ⟨rfl, hf1.trans f2⟩
set_option maxRecDepth 20000 in
set_option maxHeartbeats 2000000 in
theorem rexpiry_any (g : Gm) (n : Int) (w : World) (hok : g.Ok w) (hn0 : -9223372036854775808 ≤ n) (hn1 : n ≤ 9223372036854775807) :
    Calls Try.prog 15 #[g.val, .int .i64 n] w fun e w' => e = .returned (.tuple #[.int .i64 (exV g n), .int .i64 (drE g n)]) ∧ Fr [] w w' := by
  have hD := fun w' (h : Fr [] w w') => rdraw_any g n w' (hok.fr h) hn0 hn1
  have h14 : ∀ w b, GmAt w b g → w.cell? ⟨b, 14, none⟩ = some (.int .i64 g.expiry) := fun w b h => h.cell 14 _ rfl
  by_cases h0 : drE g n = 0
  · have hv : exV g n = min (drV g n + g.expiry * 1440) 1073741824 := by unfold exV; rw [if_pos h0]
    obtain ⟨hc, v0, v1⟩ := drV_bd h0
    obtain ⟨d, hd⟩ := df_of hc
    have k0 := hd.e0
    have k1 := hd.e1
    rw [hv, h0]
    rw [h0] at hD
    generalize drV g n = V at *
    generalize hcl : g.expiry = C at *
    rw [show V + C * 1440 = V + 1440 * C by omega]
    by_cases hm : V + 1440 * C ≤ 1073741824
    · have hmm : min (V + 1440 * C) 1073741824 = V + 1440 * C := by omega
      rw [hmm]
      have d1 : decide (1073741824 < V + 1440 * C) = false := by simp; omega
      have HD := Lib.hid hD
      have H14 := Lib.hid h14
      clear hD h14 h0 hv hc hd hok hcl hmm
      go_enter Try.func15, Try.ntmps15
      go_wp2_with (first | (refine box_game rfl (.tmp 0) rfl g rfl ?_; intro w1 hg1 hz1 hf1) | (refine load_game rfl (.tmp 2) rfl _ rfl g hg1 ?_))
      refine (HD.out _ hf1).mono ?_
      rintro e w2 ⟨rfl, f2⟩
      have c14 := H14.out _ _ (hg1.fr f2 (by simp))
      go_wp2_with fail
      go_ret2
      exact ⟨rfl, hf1.trans f2⟩
    · have hmm : min (V + 1440 * C) 1073741824 = 1073741824 := by omega
      rw [hmm]
      have d1 : decide (1073741824 < V + 1440 * C) = true := by simp; omega
      have HD := Lib.hid hD
      have H14 := Lib.hid h14
      clear hD h14 h0 hv hc hd hok hcl hmm
      go_enter Try.func15, Try.ntmps15
      go_wp2_with (first | (refine box_game rfl (.tmp 0) rfl g rfl ?_; intro w1 hg1 hz1 hf1) | (refine load_game rfl (.tmp 2) rfl _ rfl g hg1 ?_))
      refine (HD.out _ hf1).mono ?_
      rintro e w2 ⟨rfl, f2⟩
      have c14 := H14.out _ _ (hg1.fr f2 (by simp))
      go_wp2_with fail
      go_ret2
      exact ⟨rfl, hf1.trans f2⟩
  · have hv : exV g n = 0 := by unfold exV; rw [if_neg h0]
    have e0 : (drE g n != 0) = true := by simpa using h0
    rw [hv]
    generalize drE g n = E at *
    generalize drV g n = V at *
    have HD := Lib.hid hD
    clear hD h14 h0 hv hok
    go_enter Try.func15, Try.ntmps15
    go_wp2_with (first | (refine box_game rfl (.tmp 0) rfl g rfl ?_; intro w1 hg1 hz1 hf1) | (refine load_game rfl (.tmp 2) rfl _ rfl g hg1 ?_))
    refine (HD.out _ hf1).mono ?_
    rintro e w2 ⟨rfl, f2⟩
    go_wp2_with fail
    go_ret2
    exact ⟨rfl, hf1.trans f2⟩
end Go.Proofs.Ytijdlggoaianbaa
