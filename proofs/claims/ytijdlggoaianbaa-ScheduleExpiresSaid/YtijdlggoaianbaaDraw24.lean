/-
  schedule.Draw: the time of a draw.
-/
import Derived.Test.YtijdlggoaianbaaSchedF
import Derived.Test.YtijdlggoaianbaaOnes
import Derived.Test.YtijdlggoaianbaaNext
import Derived.Test.YtijdlggoaianbaaRow
import Derived.IntWalk
set_option linter.unusedVariables false
namespace Go.Proofs.Ytijdlggoaianbaa
open Go.RowKit
set_option maxRecDepth 20000 in
set_option maxHeartbeats 2000000 in
theorem step_any (g : Gm) (d b bt : Nat) (t : Int) (w : World) (hd : DF g d) (hg : GmAt w b g) (hr : RowAt w bt 3 [.int .i64 t]) (ht0 : -1 ≤ t) (ht1 : t ≤ 1073741824) :
    Calls Try.prog 27 #[.pointer (some ⟨b, 0, none⟩), .pointer (some ⟨bt, 0, none⟩)] w fun e w' => e = .returned (.int .i64 (oE (nx d g.at_ t))) ∧ w' = w.setCell ⟨bt, 0, none⟩ (.int .i64 (oV (nx d g.at_ t))) := by
  have hN := fun w => next_any d g.at_ t w hd.hd hd.h0 hd.a0 hd.a1 ht0 ht1
  have c10 := hg.cell 10 _ rfl
  have c11 := hg.cell 11 _ rfl
  rw [hd.days] at c10
  have cb := hr.cell 0 _ rfl
  have fb := hr.frozen 0
  generalize oE (nx d g.at_ t) = E at *
  generalize oV (nx d g.at_ t) = V at *
  generalize g.at_ = a at *
  have HN := Lib.hid hN
  clear hN hg hr hd
  go_enter Try.func27, Try.ntmps27
  go_wp2_with fail
  refine (HN.out _).mono ?_
  rintro e w1 ⟨rfl, rfl⟩
  go_wp2_with fail
  go_ret
  exact ⟨rfl, rfl⟩
set_option maxRecDepth 20000 in
set_option maxHeartbeats 4000000 in
theorem draw_any (g : Gm) (n : Int) (w : World) (hok : g.Ok w) (hn0 : -9223372036854775808 ≤ n) (hn1 : n ≤ 9223372036854775807) :
    Calls Try.prog 11 #[g.val, .int .i64 n] w fun e w' => e = .returned (.tuple #[.int .i64 (drV g n), .int .i64 (drE g n)]) ∧ Fr [] w w' := by
  have hK := fun w' (h : Fr [] w w') => check_any g w' (hok.fr h)
  unfold ChkPost at hK
  by_cases hc : chkE g = 0
  · rw [hc] at hK
    by_cases hn : n < 1
    · obtain ⟨e1, e2⟩ := dr_low hc hn
      rw [e1, e2]
      have d1 : decide (n < 1) = true := by simpa using hn
      have HK := Lib.hid hK
      clear hK hok hc hn e1 e2
      go_enter Try.func11, Try.ntmps11
      go_wp2_with (first | (refine box_game rfl (.tmp 0) rfl g rfl ?_; intro w1 hg1 hz1 hf1) | (refine load_game rfl (.tmp 2) rfl _ rfl g hg1 ?_))
      refine (HK.out _ hf1).mono ?_
      rintro e w2 ⟨S, rfl, _, f2⟩
      go_wp2_with fail
      go_ret2
      exact ⟨rfl, hf1.trans f2⟩
    · obtain ⟨m, rfl⟩ : ∃ m : Nat, n = (m : Int) + 1 := ⟨(n - 1).toNat, by omega⟩
      obtain ⟨d, hd⟩ := df_of hc
      have hp := pc_pos hd.hd hd.h0
      have hp7 := pc_le hd.hd
      have hO := fun w => ones_any d w hd.hd
      have hfar := fun h => @dr_far g d hc hd m h
      have hok2 := fun h => @dr_ok g d hc hd m h
      have hwk := @dr_weeks d g.at_ hd.a0 m
      have hS := fun b bt t w => @step_any g d b bt t w hd
      have hnx := fun i => nx_tt hd.hd hd.h0 hd.a0 hd.a1 (m / pcD d) i
      have htl := fun i => @tt_last d g.at_ hd.hd hd.h0 m i
      have htb := fun i => @tt_bd d g.at_ hd.a0 (m / pcD d) i
      have htt0 : ttD d g.at_ (m / pcD d) 0 = ((m / pcD d : Nat) : Int) * 10080 - 1 := by unfold ttD; rw [if_pos rfl]; omega
      have h10 : ∀ w b, GmAt w b g → w.cell? ⟨b, 10, none⟩ = some (.int .i64 (d : Int)) := fun w b h => by rw [← hd.days]; exact h.cell 10 _ rfl
      have d1 : decide ((m : Int) + 1 < 1) = false := by simp; omega
      have hq : (m : Int) / ((pcD d : Nat) : Int) = ((m / pcD d : Nat) : Int) := by push_cast; rfl
      have hq2 : (m : Int).tdiv ((pcD d : Nat) : Int) = ((m / pcD d : Nat) : Int) := by rw [Int.tdiv_eq_ediv_of_nonneg (by omega), hq]
      have hr : (m : Int) % ((pcD d : Nat) : Int) = ((m % pcD d : Nat) : Int) := by push_cast; rfl
      have hr2 : (m : Int).tmod ((pcD d : Nat) : Int) = ((m % pcD d : Nat) : Int) := by rw [Int.tmod_eq_emod_of_nonneg (by omega), hr]
      have hrb : m % pcD d < pcD d := Nat.mod_lt _ hp
      have hWm : ((m / pcD d : Nat) : Int) ≤ 9223372036854775806 := by have := Nat.div_le_self m (pcD d); omega
      generalize drE g ((m : Int) + 1) = E at *
      generalize drV g ((m : Int) + 1) = V at *
      generalize hT : ttD d g.at_ (m / pcD d) = tt at *
      generalize m / pcD d = W at *
      generalize m % pcD d = r at *
      generalize drT d g.at_ m = DT at *
      generalize g.at_ = a at *
      obtain ⟨q, hqq⟩ : ∃ q, q = pcD d := ⟨_, rfl⟩
      rw [← hqq] at hp hp7 hO hq hq2 hr hr2 hrb
      have hmm : (m : Int) ≤ 9223372036854775806 := by omega
      have hdw : IntKind.u64.wrap (d : Int) = (d : Int) := IntWalk.u64_in _ (by have := hd.hd; omega)
      have hq0 : ((q : Int) == 0) = false := by simp; omega
      have hqn : (q : Int) ≠ 0 := by omega
      have hqp : (0 : Int) < (q : Int) := by omega
      have HK := Lib.hid hK
      have HO := Lib.hid hO
      have HS := Lib.hid hS
      have HNX := Lib.hid hnx
      have HTL := Lib.hid htl
      have HTB := Lib.hid htb
      have HFAR := Lib.hid hfar
      have HOK2 := Lib.hid hok2
      have HWK := Lib.hid hwk
      have H10 := Lib.hid h10
      have HTT0 := Lib.hid htt0
      clear hK hO hS hnx htl htb hfar hok2 hwk h10 htt0 hqq hok hc hd hn hT
      by_cases hw : 106522 < W
      · have d2 : decide (106522 < (W : Int)) = true := by simp; omega
        obtain ⟨rfl, rfl⟩ := HFAR.out (HWK.out hw)
        go_enter Try.func11, Try.ntmps11
        go_wp2_with (first | (refine box_game rfl (.tmp 0) rfl g rfl ?_; intro w1 hg1 hz1 hf1) | (refine load_game rfl (.tmp 2) rfl _ rfl g hg1 ?_))
        refine (HK.out _ hf1).mono ?_
        rintro e w2 ⟨S, rfl, _, f2⟩
        have c10 := H10.out _ _ (hg1.fr f2 (by simp))
        go_wp2_with fail
        refine (HO.out _).mono ?_
        rintro e w3 ⟨rfl, rfl⟩
        go_wp2_with fail
        go_ret2
        exact ⟨rfl, hf1.trans f2⟩
      · have d2 : decide (106522 < (W : Int)) = false := by simp; omega
        have hW : (W : Int) ≤ 106522 := by omega
        go_enter Try.func11, Try.ntmps11
        go_wp2_with (first | (refine box_game rfl (.tmp 0) rfl g rfl ?_; intro w1 hg1 hz1 hf1) | (refine load_game rfl (.tmp 2) rfl _ rfl g hg1 ?_))
        refine (HK.out _ hf1).mono ?_
        rintro e w2 ⟨S, rfl, _, f2⟩
        have hg2 := hg1.fr f2 (by simp)
        have c10 := H10.out _ _ hg2
        have hf2 := hf1.trans f2
        go_wp2_with fail
        refine (HO.out _).mono ?_
        rintro e w3 ⟨rfl, rfl⟩
        go_wp2_with fail
        have hr0 : RowAt (w2.alloc (.cells #[.int .i64 ((W : Int) * 10080 - 1)] 3)) w2.heap.size 3 [.int .i64 (tt 0)] := RowAt.new rfl (by rw [HTT0.out])
        have fa : Fr [] w2 (w2.alloc (.cells #[.int .i64 ((W : Int) * 10080 - 1)] 3)) := (Fr.refl [] w2).alloc _
        have hg3 := hg2.fr fa (by simp)
        have hf3 := hf2.trans fa
        have hlt := hg2.lt
        have ht0 : tt 0 ≤ 1073741824 := by rw [HTT0.out]; omega
        generalize w2.alloc (.cells #[.int .i64 ((W : Int) * 10080 - 1)] 3) = w3 at *
        have hsz : w.heap.size ≤ w2.heap.size := hf2.size
        generalize w2.heap.size = bt at *
        clear hg1 hz1 hf1 f2 hg2 c10 hf2 fa HK HO
        go_loopw [41] (fun i wr => ∃ k : Nat, k ≤ r + 1 ∧ i = .int .i64 k ∧ GmAt wr w.heap.size g ∧ RowAt wr bt 3 [.int .i64 (tt k)] ∧ tt k ≤ 1073741824 ∧ Fr [] w wr) (fun i _ => r + 1 - (intOf i).toNat)
        case atStart => exact ⟨0, by omega, rfl, hg3, hr0, ht0, hf3⟩
        case round =>
          obtain ⟨k, hk, rfl, hg, hr, ht, hf⟩ := hrel
          by_cases hkr : k < r + 1
          · have dk : decide ((k : Int) < (r : Int) + 1) = true := by simp; omega
            have hst := HS.out w.heap.size bt (tt k) wr hg hr (HTB.out k) ht
            have hnk := HNX.out k
            have fs := fun v => (Fr.refl [bt] wr).setCell (p := ⟨bt, 0, none⟩) (.inl (by simp)) v
            by_cases hm : 1073741824 < tt (k + 1)
            · have hl : lim (tt (k + 1)) = none := by unfold lim; rw [if_pos hm]
              rw [hnk, hl] at hst
              simp only [oV, oE] at hst
              obtain ⟨rfl, rfl⟩ := HFAR.out (by have := (HTL.out k (by omega)).1; omega)
              have HST := Lib.hid hst
              have HF := Lib.hid (hf.trans' (fs (.int .i64 0)) (by intro i hi; simp at hi; subst hi; exact .inr hsz))
              clear hst hnk fs hg hr hf hl
              go_wp2_with fail
              refine HST.out.mono ?_
              rintro e w4 ⟨rfl, rfl⟩
              go_wp2_with fail
              go_ret2
              exact ⟨rfl, HF.out⟩
            · have hl : lim (tt (k + 1)) = some (tt (k + 1)) := by unfold lim; rw [if_neg hm]
              rw [hnk, hl] at hst
              simp only [oV, oE] at hst
              have HST := Lib.hid hst
              have HF := Lib.hid (hf.trans' (fs (.int .i64 (tt (k + 1)))) (by intro i hi; simp at hi; subst hi; exact .inr hsz))
              have HG := Lib.hid (hg.fr (fs (.int .i64 (tt (k + 1)))) (by simp; omega))
              have HR := Lib.hid (hr.set 0 (.int .i64 (tt (k + 1))))
              have HM := Lib.hid hm
              clear hst hnk fs hg hr hf hl hm
              go_wp2_with fail
              refine HST.out.mono ?_
              rintro e w4 ⟨rfl, rfl⟩
              go_wp2_with fail
              go_roundw
              case rel => exact ⟨k + 1, by omega, by go_num, HG.out, HR.out, by have := HM.out; omega, HF.out⟩
              case measure => simp [intOf] <;> omega
          · obtain rfl : k = r + 1 := by omega
            have hl := (HTL.out r (by omega)).2
            rw [hl] at hr ht
            obtain ⟨rfl, rfl⟩ := HOK2.out (by omega)
            have ct := hr.cell 0 _ rfl
            have dk : decide (((r + 1 : Nat) : Int) < (r : Int) + 1) = false := by simp
            have HF := Lib.hid hf
            clear hl hr hg hf
            go_wp2_with fail
            go_ret2
            exact ⟨rfl, HF.out⟩
  · obtain ⟨e1, e2⟩ := dr_err hc n
    rw [e1, e2]
    have e0 : (chkE g != 0) = true := by simpa using hc
    generalize chkE g = ce at *
    have HK := Lib.hid hK
    clear hK hok hc e1 e2
    go_enter Try.func11, Try.ntmps11
    go_wp2_with (first | (refine box_game rfl (.tmp 0) rfl g rfl ?_; intro w1 hg1 hz1 hf1) | (refine load_game rfl (.tmp 2) rfl _ rfl g hg1 ?_))
    refine (HK.out _ hf1).mono ?_
    rintro e w2 ⟨S, rfl, _, f2⟩
    go_wp2_with fail
    go_ret2
    exact ⟨rfl, hf1.trans f2⟩
end Go.Proofs.Ytijdlggoaianbaa
