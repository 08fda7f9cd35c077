/-
  slices.IndexFunc of tiers, at the program's question for a jackpot: the first jackpot.
-/
import Derived.Test.YtdinjekpcgndmaaRollF
set_option linter.unusedVariables false
namespace Go.Proofs.Ytdinjekpcgndmaa
open Go.RowKit
set_option maxHeartbeats 1000000 in
theorem isJack_any (m b e o k v : Int) (w : World) : Calls Try.prog 53 #[.agg #[.int .i64 m, .int .i64 b, .int .i64 e, .int .i64 o, .int .i64 k, .int .i64 v]] w fun e w' => e = .returned (.bool (k == 3)) ∧ Fr [] w w' := by
  have hF : ∀ o, Fr [] w (w.alloc o) := fun o => (Fr.refl [] w).alloc o
  have HF := Lib.hid hF
  clear hF
  go_enter Try.func53, Try.ntmps53
  go_wp2_with fail
  go_ret
  exact ⟨rfl, HF.out _⟩
theorem fstTo_yes {T : List Ti} {f k : Nat} (h : kd T k = 3) : fstTo T (f + 1) k = k := by rw [fstTo, if_pos h]
theorem fstTo_no {T : List Ti} {f k : Nat} (h : ¬ kd T k = 3) : fstTo T (f + 1) k = fstTo T f (k + 1) := by rw [fstTo, if_neg h]
set_option maxRecDepth 20000 in
set_option maxHeartbeats 2000000 in
theorem idxF_any (a : Option Addr) (c : Nat) (T : List Ti) (w : World) (hok : Tis w a c T) : Calls Try.prog 52 #[.slice a T.length c, .func (.func 53) #[] #[]] w fun e w' => e = .returned (.int .i64 (fstE T)) ∧ Fr [] w w' := by
  have hle := hok.rd.len.2
  unfold maxLen at hle
  obtain ⟨E, hE⟩ : ∃ E, E = fstE T := ⟨_, rfl⟩
  rw [← hE]
  unfold fstE at hE
  obtain ⟨n, hN⟩ : ∃ n, n = T.length := ⟨_, rfl⟩
  rw [← hN] at hE hle ⊢
  have HN := Lib.hid hN
  have HV := Lib.hid hE
  have HOK := Lib.hid hok
  clear hN hE hok
  go_enter Try.func52, Try.ntmps52
  go_wp2_with fail
  go_loopw [8] (fun i wr => ∃ k : Nat, k ≤ n ∧ i = .int .i64 k ∧ Fr [] w wr ∧ Hid (E = fstTo T (n - k) k)) (fun i _ => n - (intOf i).toNat)
  case atStart => exact ⟨0, by omega, rfl, Fr.refl _ _, HV⟩
  case round =>
    obtain ⟨k, hk, rfl, hf, HT⟩ := hrel
    by_cases hlt : k < n
    · obtain ⟨x, hx⟩ : ∃ x, T[k]? = some x := ⟨_, List.getElem?_eq_getElem (by have := HN.out; omega)⟩
      obtain ⟨b, o, rfl, hcell⟩ := RdF.at (f := Ti.cells) HOK.out.rd hx
      have c0 := hf.cell_some (hcell 0 _ rfl) (by simp)
      have c1 := hf.cell_some (hcell 1 _ rfl) (by simp)
      have c2 := hf.cell_some (hcell 2 _ rfl) (by simp)
      have c3 := hf.cell_some (hcell 3 _ rfl) (by simp)
      have c4 := hf.cell_some (hcell 4 _ rfl) (by simp)
      have c5 := hf.cell_some (hcell 5 _ rfl) (by simp)
      rw [Nat.add_zero] at c0
      have hkd : kd T k = x.kind := by simp [kd, List.getD, hx]
      have hT := HT.out
      rw [show n - k = (n - (k + 1)) + 1 by omega] at hT
      have hyes := @fstTo_yes T (n - (k + 1)) k
      have hno := @fstTo_no T (n - (k + 1)) k
      rw [hkd] at hyes hno
      obtain ⟨tm, tb, te, to_, tk, tv⟩ := x
      simp only at c0 c1 c2 c3 c4 c5 hyes hno
      have hcall := fun w => isJack_any tm tb te to_ tk tv w
      have hkn : (k : Int) < (n : Int) := by omega
      have hk0 : (0 : Int) ≤ (k : Int) := by omega
      by_cases h1 : tk = 3
      · have hq := hT.trans (hyes h1)
        have HQ := Lib.hid hq
        have e1 : (tk == 3) = true := by simpa using h1
        rw [e1] at hcall
        have HC := Lib.hid hcall
        clear hq h1 hyes hno hT hkd hx hcell hcall e1
        go_wp2_with fail
        refine (HC.out _).mono ?_
        rintro e w2 ⟨rfl, f2⟩
        go_wp2_with fail
        go_ret
        exact ⟨ret_i HQ.out.symm, hf.trans f2⟩
      · have hq := hT.trans (hno h1)
        have HQ := Lib.hid hq
        have e1 : (tk == 3) = false := by simpa using h1
        rw [e1] at hcall
        have HC := Lib.hid hcall
        clear hq h1 hyes hno hT hkd hx hcell hcall e1
        go_wp2_with fail
        refine (HC.out _).mono ?_
        rintro e w2 ⟨rfl, f2⟩
        go_wp2_with fail
        exact ⟨⟨k + 1, by omega, by go_num, hf.trans f2, HQ⟩, by simp [intOf]; omega⟩
    · obtain rfl : k = n := by omega
      have hq : E = -1 := by rw [HT.out, Nat.sub_self]; rfl
      have HQ := Lib.hid hq
      clear hq
      go_wp2_with fail
      go_ret
      exact ⟨ret_i HQ.out.symm, hf⟩
end Go.Proofs.Ytdinjekpcgndmaa
