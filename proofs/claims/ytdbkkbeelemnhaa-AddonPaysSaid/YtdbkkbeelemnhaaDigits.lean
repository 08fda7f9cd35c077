/-
  Digits of a stream (layer 14): collect and the reference's digits: as many numbers below a number as asked for.
-/
import Derived.Test.YtdbkkbeelemnhaaAppI
import Derived.Test.YtdbkkbeelemnhaaStream
set_option linter.unusedVariables false
namespace Go.Proofs.Ytdbkkbeelemnhaa
open Go.RowKit
/-- the state and the counter after k numbers below n -/
def stq (n s u : Int) : Nat → Int × Int
  | 0 => (s, u)
  | k + 1 => (bS n (stq n s u k).1 (stq n s u k).2, bU n (stq n s u k).1 (stq n s u k).2)
def dgV (n s u : Int) (k : Nat) : Int := bV n (stq n s u k).1 (stq n s u k).2
def dgtE (n s u : Int) (k : Nat) : Int := bE n (stq n s u k).1 (stq n s u k).2
/-- the first error of k of them -/
def seE (n s u : Int) : Nat → Int
  | 0 => 0
  | k + 1 => if seE n s u k ≠ 0 then seE n s u k else dgtE n s u k
def dgL (n s u : Int) (k : Nat) : List Int := (List.range k).map (dgV n s u)
theorem dgL_len (n s u : Int) (k : Nat) : (dgL n s u k).length = k := by simp [dgL]
theorem dgL_succ (n s u : Int) (k : Nat) : dgL n s u (k + 1) = dgL n s u k ++ [dgV n s u k] := by simp [dgL, List.range_succ]
theorem dgL_getD (n s u : Int) (k j : Nat) (h : j < k) : (dgL n s u k).getD j 0 = dgV n s u j := by simp [dgL, List.getD, h]
theorem stq_bd (n s u : Int) : ∀ k, u ≤ (stq n s u k).2 ∧ (stq n s u k).2 ≤ u + 64 * k := by
  intro k
  induction k with
  | zero => simp [stq]
  | succ k ih =>
    have := bU_bd n (stq n s u k).1 (stq n s u k).2
    simp only [stq]
    omega
theorem seE_stay (n s u : Int) (k : Nat) (h : seE n s u k ≠ 0) : ∀ j, seE n s u (k + j) = seE n s u k := by
  intro j
  induction j with
  | zero => rfl
  | succ j ih => rw [show k + (j + 1) = k + j + 1 by omega, seE, ih, if_pos h]
theorem seE_err (n s u : Int) (k m : Nat) (h0 : seE n s u k = 0) (h : dgtE n s u k ≠ 0) (hm : k < m) : seE n s u m = dgtE n s u k := by
  have h1 : seE n s u (k + 1) = dgtE n s u k := by rw [seE, if_neg (by simp [h0])]
  obtain ⟨j, rfl⟩ : ∃ j, m = k + 1 + j := ⟨m - (k + 1), by omega⟩
  rw [seE_stay n s u (k + 1) (by rw [h1]; exact h) j, h1]
theorem seE_ok (n s u : Int) (k : Nat) (h0 : seE n s u k = 0) (h : dgtE n s u k = 0) : seE n s u (k + 1) = 0 := by rw [seE, if_neg (by simp [h0])]; exact h
theorem dgV_bd (n s u : Int) (k : Nat) (h : dgtE n s u k = 0) : 0 ≤ dgV n s u k ∧ dgV n s u k < n := by
  have := bE_zero n _ _ h
  exact ⟨this.2.2.1, this.2.2.2⟩
/-- the error; where there is none: the numbers, the state and the counter behind them -/
def DigPost (n s u : Int) (k b : Nat) (w : World) (e : Ending) (w' : World) : Prop :=
  ∃ v S U, e = .returned (.tuple #[v, .int .i64 (seE n s u k)]) ∧ StrAt w' b S U ∧ Fr [b] w w' ∧ (seE n s u k = 0 → OwnI w' w.heap.size 3 v (dgL n s u k) ∧ S = (stq n s u k).1 ∧ U = (stq n s u k).2) ∧ (seE n s u k ≠ 0 → v = .slice none 0 0)
theorem dig_err {n s u : Int} {k b : Nat} {w w' : World} (S U E : Int) (hE : seE n s u k = E) (h0 : E ≠ 0) (hs : StrAt w' b S U) (hf : Fr [b] w w') : DigPost n s u k b w (.returned (.tuple #[.slice none 0 0, .int .i64 E])) w' := by
  subst hE; exact ⟨_, S, U, rfl, hs, hf, fun h => absurd h h0, fun _ => rfl⟩
theorem dig_ok {n s u : Int} {k b : Nat} {w w' : World} (v : Value) (h0 : seE n s u k = 0) (hs : StrAt w' b (stq n s u k).1 (stq n s u k).2) (hf : Fr [b] w w') (ho : OwnI w' w.heap.size 3 v (dgL n s u k)) : DigPost n s u k b w (.returned (.tuple #[v, .int .i64 0])) w' :=
  ⟨v, _, _, by rw [h0], hs, hf, fun _ => ⟨ho, rfl, rfl⟩, fun h => absurd h0 h⟩
set_option maxRecDepth 20000 in
set_option maxHeartbeats 1000000 in
theorem rdigits_any (n s u : Int) (K b : Nat) (w : World) (hs : StrAt w b s u) (hu0 : 0 ≤ u) (hu1 : u ≤ 999999990000) (hK : K ≤ 64) :
    Calls Try.prog 70 #[.pointer (some ⟨b, 0, none⟩), .int .i64 n, .int .i64 K] w (DigPost n s u K b w) := by
  have hd := fun w' => @dig_err n s u K b w w'
  have hk := fun w' => @dig_ok n s u K b w w'
  have HD := Lib.hid hd
  have HK := Lib.hid hk
  have hlt := hs.lt
  clear hd hk
  go_enter Try.func70, Try.ntmps70
  go_wp2_with fail
  go_loopw [8, 9] (fun v i wr => ∃ k : Nat, k ≤ K ∧ i = .int .i64 k ∧ Hid (seE n s u k = 0) ∧ StrAt wr b (stq n s u k).1 (stq n s u k).2 ∧ Fr [b] w wr ∧ OwnI wr w.heap.size 3 v (dgL n s u k)) (fun _ i _ => K - (intOf i).toNat)
  case atStart => exact ⟨0, by omega, rfl, Lib.hid rfl, hs, Fr.refl _ _, OwnI.nil _ _ _⟩
  case round =>
    obtain ⟨k, hk, rfl, H0, hsk, hf, ho⟩ := hrel
    by_cases hlt2 : k < K
    · have hbd := stq_bd n s u k
      obtain ⟨hb0, hb1⟩ := hbd
      have hv : bV n (stq n s u k).1 (stq n s u k).2 = dgV n s u k := rfl
      have he : bE n (stq n s u k).1 (stq n s u k).2 = dgtE n s u k := rfl
      have hC := below_any b (stq n s u k).1 (stq n s u k).2 n
      have hC2 := rbelow_any b (stq n s u k).1 (stq n s u k).2 n wr hsk (by omega) (by omega)
      rw [hv, he] at hC2
      have hgo := seE_ok n s u k H0.out
      have her := seE_err n s u k K H0.out
      have hls := dgL_succ n s u k
      have hst1 : (stq n s u (k + 1)).1 = bS n (stq n s u k).1 (stq n s u k).2 := rfl
      have hst2 : (stq n s u (k + 1)).2 = bU n (stq n s u k).1 (stq n s u k).2 := rfl
      have HST1 := Lib.hid hst1
      have HST2 := Lib.hid hst2
      have HC := Lib.hid hC2
      have HGO := Lib.hid hgo
      have HER := Lib.hid her
      have HLS := Lib.hid hls
      clear hv he hC hC2 hgo her hls hst1 hst2
      generalize dgV n s u k = V at *
      generalize dgtE n s u k = E at *
      generalize bS n (stq n s u k).1 (stq n s u k).2 = S1 at *
      generalize bU n (stq n s u k).1 (stq n s u k).2 = U1 at *
      go_wp2_with fail
      refine HC.out.mono ?_
      rintro e w2 ⟨rfl, hs2, ho2⟩
      have hf2 : Fr [b] w w2 := hf.trans ho2.fr
      by_cases hE : E = 0
      · subst hE
        have ho3 : OwnI w2 w.heap.size 3 _ (dgL n s u k) := ho.fr ho2.fr (fun j hj => by have := ho.block j hj; simp; omega)
        have hgo2 := HGO.out rfl
        have HGO2 := Lib.hid hgo2
        have hszz := hf2.size
        clear hgo2 ho
        go_wp2_with (at_builtin; refine app_i w2 V rfl (.tmp 26) (.tmp 28) rfl w.heap.size _ (dgL n s u k) rfl ho3 rfl (by rw [dgL_len]; omega) hszz ?_)
        intro v' w' ho' hkk hF
        have hf' := hF [b] w (Nat.le_refl _) hf2
        have hs' : StrAt w' b S1 U1 := by
          obtain ⟨T, hT⟩ := hs2
          exact ⟨T, (hkk b hlt).trans hT⟩
        go_wp2_with fail
        refine ⟨⟨k + 1, by omega, by go_num, HGO2, ?_, hf', ?_⟩, by simp [intOf]; omega⟩
        · rw [HST1.out, HST2.out]; exact hs'
        · rw [HLS.out]; exact ho'
      · have hd3 : (E != 0) = true := by simpa using hE
        have HE := Lib.hid hE
        clear hE
        go_wp2_with fail
        go_ret2
        exact HD.out _ S1 U1 E (HER.out HE.out hlt2) HE.out hs2 hf2
    · obtain rfl : k = K := by omega
      go_wp2_with fail
      go_ret2
      exact HK.out _ _ H0.out hsk hf ho
end Go.Proofs.Ytdbkkbeelemnhaa
