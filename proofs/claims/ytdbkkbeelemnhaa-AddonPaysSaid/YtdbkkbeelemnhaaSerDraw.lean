/-
  Serial numbers drawn (layer 14): Serial and that of the reference.
-/
import Derived.Test.YtdbkkbeelemnhaaDigits
import Derived.Test.YtdbkkbeelemnhaaOwnK
set_option linter.unusedVariables false
namespace Go.Proofs.Ytdbkkbeelemnhaa
open Go.RowKit
set_option maxRecDepth 20000 in
set_option maxHeartbeats 1000000 in
theorem collect_any (n s u : Int) (K b : Nat) (w : World) (hs : StrAt w b s u) (hu0 : 0 ≤ u) (hu1 : u ≤ 999999990000) (hK : K ≤ 64) :
    Calls Try.prog 102 #[.func (.func 98) #[.pointer (some ⟨b, 0, none⟩)] #[], .int .i64 n, .int .i64 K] w (DigPost n s u K b w) := by
  have hd := fun w' => @dig_err n s u K b w w'
  have hk := fun w' => @dig_ok n s u K b w w'
  have HD := Lib.hid hd
  have HK := Lib.hid hk
  have hlt := hs.lt
  obtain ⟨i0, hi0, hz0, hz1, hz2⟩ := info_parts infoIntA
  have HI0 := Lib.hid hi0
  have HZ0 := Lib.hid hz0
  have HZ1 := Lib.hid hz1
  have hby : i0.bytes * K ≤ 281474976710656 := by rw [hz2]; omega
  have HBY := Lib.hid hby
  clear hd hk hi0 hz0 hz1 hz2 hby
  go_enter Try.func102, Try.ntmps102
  go_wp2_with (at_make; refine wpList_make_own w rfl (.const (.int .i64 0)) (.tmp 11) 36 rfl w.heap.size 3 i0 (.int .i64 0) 1 Try.underlying36 HI0.out HZ0.out HZ1.out .i64 .i64 (K : Int) K rfl rfl rfl HBY.out (by unfold maxLen; omega) (Nat.le_refl _) ?_)
  intro w1 hown hgrow
  have ho1 : OwnI w1 w.heap.size 3 (.slice (some ⟨w.heap.size, 0, none⟩) 0 K) (dgL n s u 0) := hown
  have hf1 : Fr [b] w w1 := (Fr.refl [b] w).grown hgrow (by simp)
  have hs1 : StrAt w1 b s u := by
    obtain ⟨T, hT⟩ := hs
    exact ⟨T, (hgrow.block b hlt (by simp)).trans hT⟩
  clear hown hgrow hs HI0 HZ0 HZ1 HBY
  go_wp2_with fail
  go_loopw [8, 14] (fun v i wr => ∃ k : Nat, k ≤ K ∧ i = .int .i64 k ∧ Hid (seE n s u k = 0) ∧ StrAt wr b (stq n s u k).1 (stq n s u k).2 ∧ Fr [b] w wr ∧ OwnI wr w.heap.size 3 v (dgL n s u k)) (fun _ i _ => K - (intOf i).toNat)
  case atStart => exact ⟨0, by omega, rfl, Lib.hid rfl, hs1, hf1, ho1⟩
  case round =>
    obtain ⟨k, hk, rfl, H0, hsk, hf, ho⟩ := hrel
    by_cases hlt2 : k < K
    · have hbd := stq_bd n s u k
      obtain ⟨hb0, hb1⟩ := hbd
      have hv : bV n (stq n s u k).1 (stq n s u k).2 = dgV n s u k := rfl
      have he : bE n (stq n s u k).1 (stq n s u k).2 = dgtE n s u k := rfl
      have hC2 := below_any b (stq n s u k).1 (stq n s u k).2 n wr hsk (by omega) (by omega)
      rw [hv, he] at hC2
      have hgo := seE_ok n s u k H0.out
      have her := seE_err n s u k K H0.out
      have hls := dgL_succ n s u k
      have hst1 : (stq n s u (k + 1)).1 = bS n (stq n s u k).1 (stq n s u k).2 := rfl
      have hst2 : (stq n s u (k + 1)).2 = bU n (stq n s u k).1 (stq n s u k).2 := rfl
      have HST1 := Lib.hid hst1
      have HST2 := Lib.hid hst2
      have HC := Lib.hid hC2
      have HGO := Lib.hid hgo
      have HER := Lib.hid her
      have HLS := Lib.hid hls
      clear hv he hC2 hgo her hls hst1 hst2
      generalize dgV n s u k = V at *
      generalize dgtE n s u k = E at *
      generalize bS n (stq n s u k).1 (stq n s u k).2 = S1 at *
      generalize bU n (stq n s u k).1 (stq n s u k).2 = U1 at *
      go_wp2_with fail
      refine HC.out.mono ?_
      rintro e w2 ⟨rfl, hs2, ho2⟩
      have hf2 : Fr [b] w w2 := hf.trans ho2.fr
      by_cases hE : E = 0
      · subst hE
        have ho3 : OwnI w2 w.heap.size 3 _ (dgL n s u k) := ho.fr ho2.fr (fun j hj => by have := ho.block j hj; simp; omega)
        have hgo2 := HGO.out rfl
        have HGO2 := Lib.hid hgo2
        have hszz := hf2.size
        clear hgo2 ho
        go_wp2_with (at_builtin; refine app_i w2 V rfl (.tmp 25) (.tmp 27) rfl w.heap.size _ (dgL n s u k) rfl ho3 rfl (by rw [dgL_len]; omega) hszz ?_)
        intro v' w' ho' hkk hF
        have hf' := hF [b] w (Nat.le_refl _) hf2
        have hs' : StrAt w' b S1 U1 := by
          obtain ⟨T, hT⟩ := hs2
          exact ⟨T, (hkk b hlt).trans hT⟩
        go_wp2_with fail
        refine ⟨⟨k + 1, by omega, by go_num, HGO2, ?_, hf', ?_⟩, by simp [intOf]; omega⟩
        · rw [HST1.out, HST2.out]; exact hs'
        · rw [HLS.out]; exact ho'
      · have hd3 : (E != 0) = true := by simpa using hE
        have HE := Lib.hid hE
        clear hE
        go_wp2_with fail
        go_ret2
        exact HD.out _ S1 U1 E (HER.out HE.out hlt2) HE.out hs2 hf2
    · obtain rfl : k = K := by omega
      go_wp2_with fail
      go_ret2
      exact HK.out _ _ H0.out hsk hf ho
/-- the bytes of a serial number -/
def serB (s u : Int) (k : Nat) : Int := 48 + dgV 10 s u k
def serS (s u : Int) (n : Nat) : ByteArray := strOfNums ((List.range n).map (serB s u))
theorem serS_succ (s u : Int) (k : Nat) : serS s u (k + 1) = serS s u k ++ strOfNums [serB s u k] := by
  unfold serS; rw [List.range_succ, List.map_append, List.map_singleton, strOfNums_snoc]
theorem serS_size (s u : Int) (n : Nat) : (serS s u n).size = n := by unfold serS; rw [strOfNums_size]; simp
theorem seE_all (n s u : Int) (K : Nat) (h : seE n s u K = 0) : ∀ k, k < K → dgtE n s u k = 0 := by
  induction K with
  | zero => omega
  | succ K ih =>
    have hK : seE n s u K = 0 := by
      by_cases h0 : seE n s u K = 0
      · exact h0
      · rw [seE, if_pos h0] at h; exact h
    intro k hk
    by_cases hkK : k < K
    · exact ih hK k hkK
    · obtain rfl : k = K := by omega
      rw [seE, if_neg (by simp [hK])] at h; exact h
/-- the error; where there is none: the serial number, the state and the counter behind it -/
def SerDPost (s u : Int) (n b : Nat) (w : World) (e : Ending) (w' : World) : Prop :=
  ∃ T S U, e = .returned (.tuple #[.string T, .int .i64 (seE 10 s u n)]) ∧ StrAt w' b S U ∧ Fr [b] w w' ∧ (seE 10 s u n = 0 → T = serS s u n ∧ S = (stq 10 s u n).1 ∧ U = (stq 10 s u n).2)
theorem serd_err {s u : Int} {n b : Nat} {w w' : World} (T : ByteArray) (S U E : Int) (hE : seE 10 s u n = E) (h0 : E ≠ 0) (hs : StrAt w' b S U) (hf : Fr [b] w w') : SerDPost s u n b w (.returned (.tuple #[.string T, .int .i64 E])) w' := by
  subst hE; exact ⟨T, S, U, rfl, hs, hf, fun h => absurd h h0⟩
theorem serd_ok {s u : Int} {n b : Nat} {w w' : World} (T : ByteArray) (h0 : seE 10 s u n = 0) (hT : T = serS s u n) (hs : StrAt w' b (stq 10 s u n).1 (stq 10 s u n).2) (hf : Fr [b] w w') : SerDPost s u n b w (.returned (.tuple #[.string T, .int .i64 0])) w' :=
  ⟨T, _, _, by rw [h0], hs, hf, fun _ => ⟨hT, rfl, rfl⟩⟩
theorem infoByte : (Try.prog.info? 5).map (fun i => (i.zero, i.size, i.bytes)) = some (some (.int .u8 0), 1, 1) := by kernel_rfl
set_option maxRecDepth 20000 in
set_option maxHeartbeats 1000000 in
theorem qser_any (s u : Int) (n b : Nat) (w : World) (hs : StrAt w b s u) (hu0 : 0 ≤ u) (hu1 : u ≤ 999999990000) (hn1 : 1 ≤ n) (hn8 : n ≤ 8) :
    Calls Try.prog 101 #[.int .i64 n, .pointer (some ⟨b, 0, none⟩)] w (SerDPost s u n b w) := by
  have hmk := fun w => run_make_row' (P := Try.prog) 54 5 (.int .u8 0) 1 Try.underlying54 infoByte rfl .i64 .i64 n (by omega) (by omega) w
  have hC := collect_any 10 s u n b w hs hu0 hu1 (by omega)
  have hd := fun w' => @serd_err s u n b w w'
  have hk := fun w' => @serd_ok s u n b w w'
  have hall := seE_all 10 s u n
  have hlt := hs.lt
  unfold DigPost at hC
  have HC := Lib.hid hC
  have HD := Lib.hid hd
  have HK := Lib.hid hk
  have HALL := Lib.hid hall
  clear hC hd hk hall hs
  go_enter Try.func101, Try.ntmps101
  go_wp2_with fail
  refine HC.out.mono ?_
  rintro e w2 ⟨v, S, U, rfl, hs2, hf2, hok, herr⟩
  generalize hE : seE 10 s u n = E at *
  have HE := Lib.hid hE
  clear hE HC
  by_cases h0 : E = 0
  · subst h0
    obtain ⟨ho, rfl, rfl⟩ := hok rfl
    obtain ⟨g, cap, rfl, hg, hg2, hcc, hcm⟩ := ho.form (by rw [dgL_len]; omega)
    rw [dgL_len] at ho ⊢
    have hdv : ∀ k, k < n → 0 ≤ dgV 10 s u k ∧ dgV 10 s u k < 10 := fun k hk => dgV_bd 10 s u k (HALL.out rfl k hk)
    have HDV := Lib.hid hdv
    have HHO := Lib.hid ho
    have HERR := Lib.hid herr
    clear hok herr hdv ho
    go_wp2_with fail
    obtain ⟨w3, hw3⟩ : ∃ w3, w3 = w2.alloc (.cells (madeCells #[.int .u8 0] n) 5) := ⟨_, rfl⟩
    have hy3 : OwnY w3 w2.heap.size 5 (.slice (some ⟨w2.heap.size, 0, none⟩) n n) (upTo (serB s u) n 0) := by rw [hw3, upTo_zero]; exact OwnY.made _ _ _ (by unfold maxLen; omega)
    have hf3 : Fr [] w2 w3 := by rw [hw3]; exact (Fr.refl [] _).alloc _
    rw [← hw3]
    have hs3 : StrAt w3 b (stq 10 s u n).1 (stq 10 s u n).2 := hs2.fr hf3 (by simp)
    have hF3 : Fr [b] w w3 := hf2.trans' hf3 (by simp)
    have hnn : (n : Int) ≤ 8 := by omega
    have HHS3 := Lib.hid hs3
    clear hw3 hs2 hs3
    go_wp2_with fail
    go_loopw [33] (fun i wr => ∃ k : Nat, k ≤ n ∧ i = .int .i64 k ∧ OwnY wr w2.heap.size 5 (.slice (some ⟨w2.heap.size, 0, none⟩) n n) (upTo (serB s u) n k) ∧ Fr [w2.heap.size] w3 wr) (fun i _ => n - (intOf i).toNat)
    case atStart => exact ⟨0, by omega, rfl, hy3, Fr.refl _ _⟩
    case round =>
      obtain ⟨k, hk, rfl, hy, hf⟩ := hrel
      by_cases hlt2 : k < n
      · obtain ⟨hv0, hv1⟩ := HDV.out k hlt2
        have c1 := HHO.out.cell k (by rw [dgL_len]; exact hlt2)
        rw [dgL_getD 10 s u n k hlt2] at c1
        have c2 := (hf3.cell_some c1 (by simp))
        have c3 := hf.cell_some c2 (by simp; omega)
        have yc := hy.cell k (by rw [upTo_len]; exact hlt2)
        have yf := hy.frozen k
        have hset := upTo_set (serB s u) n k
        have hb : serB s u k = 48 + dgV 10 s u k := rfl
        rw [hb] at hset
        generalize dgV 10 s u k = V at *
        generalize (upTo (serB s u) n k).getD k 0 = y0 at *
        have HSET := Lib.hid hset
        have hki : (k : Int) < (n : Int) := by omega
        clear c1 c2 hset hb
        go_wp2_with fail
        refine ⟨⟨k + 1, by omega, by go_num, ?_, hf.setCell (.inl (by simp)) _⟩, by simp [intOf]; omega⟩
        rw [← HSET.out]
        exact hy.set k (48 + V)
      · obtain rfl : k = n := by omega
        have hcv := run_convert_bytes_arg (P := Try.prog) wr 54 5 Try.underlying54 Try.underlying5 w2.heap.size 0 k k (upTo (serB s u) k k) (upTo_len _ _ _) (fun i hi => by rw [Nat.zero_add]; exact hy.cell i (by rw [upTo_len]; exact hi)) 9 Try.underlying9
        rw [upTo_full] at hcv
        rw [show strOfNums ((List.range k).map (serB s u)) = serS s u k from rfl] at hcv
        go_wp2_with fail
        go_ret2
        exact HK.out _ _ (by first | trivial | rfl) rfl (HHS3.out.fr hf (by simp; have := HHS3.out.lt; omega)) (hF3.trans' hf (by simp; right; have := hf2.size; omega))
  · have hd3 : (E != 0) = true := by simpa using h0
    have H0 := Lib.hid h0
    clear h0 hok herr
    go_wp2_with fail
    go_ret2
    exact HD.out _ _ S U E rfl H0.out hs2 hf2
set_option maxRecDepth 20000 in
set_option maxHeartbeats 1000000 in
theorem rser_any (s u : Int) (n b : Nat) (w : World) (hs : StrAt w b s u) (hu0 : 0 ≤ u) (hu1 : u ≤ 999999990000) (hn1 : 1 ≤ n) (hn8 : n ≤ 8) :
    Calls Try.prog 56 #[.int .i64 n, .pointer (some ⟨b, 0, none⟩)] w (SerDPost s u n b w) := by
  have hC := rdigits_any 10 s u n b w hs hu0 hu1 (by omega)
  have hd := fun w' => @serd_err s u n b w w'
  have hk := fun w' => @serd_ok s u n b w w'
  have hall := seE_all 10 s u n
  have hlt := hs.lt
  have hcv1 : ∀ (w : World) (c : Int) (g : Nat), w.heap.size = g → (convert 54 9 (.slice (some ⟨g, 0, none⟩) 1 1)).run Try.prog (w.alloc (.cells #[.int .u8 c] 5)) = .ok (.string (strOfNums [c])) (w.alloc (.cells #[.int .u8 c] 5)) := fun w c g hg => by
    subst hg
    exact run_convert_bytes_arg (P := Try.prog) _ 54 5 Try.underlying54 Try.underlying5 w.heap.size 0 1 1 [c] rfl (fun i hi => by
      obtain rfl : i = 0 := by omega
      simp) 9 Try.underlying9
  unfold DigPost at hC
  have HC := Lib.hid hC
  have HD := Lib.hid hd
  have HK := Lib.hid hk
  have HALL := Lib.hid hall
  have HCV := Lib.hid hcv1
  clear hC hd hk hall hs hcv1
  go_enter Try.func56, Try.ntmps56
  go_wp2_with fail
  refine HC.out.mono ?_
  rintro e w2 ⟨v, S, U, rfl, hs2, hf2, hok, herr⟩
  generalize hE : seE 10 s u n = E at *
  clear hE HC
  by_cases h0 : E = 0
  · subst h0
    obtain ⟨ho, rfl, rfl⟩ := hok rfl
    obtain ⟨g, cap, rfl, hg, hg2, hcc, hcm⟩ := ho.form (by rw [dgL_len]; omega)
    rw [dgL_len] at ho ⊢
    have hdv : ∀ k, k < n → 0 ≤ dgV 10 s u k ∧ dgV 10 s u k < 10 := fun k hk => dgV_bd 10 s u k (HALL.out rfl k hk)
    have HDV := Lib.hid hdv
    have HHO := Lib.hid ho
    have HHS := Lib.hid hs2
    have hz0 : serS s u 0 = ⟨#[]⟩ := rfl
    have HZ0 := Lib.hid hz0
    have hnn : (n : Int) ≤ 8 := by omega
    clear hok herr hdv ho hs2 hz0
    go_wp2_with fail
    go_loopw [8, 9] (fun t i wr => ∃ k : Nat, k ≤ n ∧ i = .int .i64 k ∧ t = .string (serS s u k) ∧ Fr [] w2 wr) (fun _ i _ => n - (intOf i).toNat)
    case atStart => exact ⟨0, by omega, rfl, by rw [HZ0.out], Fr.refl _ _⟩
    case round =>
      obtain ⟨k, hk, rfl, rfl, hf⟩ := hrel
      by_cases hlt2 : k < n
      · obtain ⟨hv0, hv1⟩ := HDV.out k hlt2
        have c1 := HHO.out.cell k (by rw [dgL_len]; exact hlt2)
        rw [dgL_getD 10 s u n k hlt2] at c1
        have c3 := hf.cell_some c1 (by simp)
        have hset := serS_succ s u k
        have hb : serB s u k = 48 + dgV 10 s u k := rfl
        rw [hb] at hset
        generalize dgV 10 s u k = V at *
        have HSET := Lib.hid hset
        have hki : (k : Int) < (n : Int) := by omega
        have hcv := HCV.out wr (48 + V) wr.heap.size rfl
        have hsz := serS_size s u k
        generalize serS s u k = T at *
        have hT8 : T.size ≤ 8 := by omega
        have hone : (strOfNums [48 + V]).size = 1 := by rw [strOfNums_size]; rfl
        clear c1 hset hb hsz
        go_wp2_with fail
        exact ⟨⟨k + 1, by omega, by go_num, by rw [HSET.out], hf.alloc _⟩, by simp [intOf]; omega⟩
      · obtain rfl : k = n := by omega
        go_wp2_with fail
        go_ret2
        exact HK.out _ _ (by first | trivial | rfl) rfl (HHS.out.fr hf (by simp)) (hf2.trans' hf (by simp))
  · have H0 := Lib.hid h0
    clear h0 hok
    have hv := herr H0.out
    subst hv
    clear herr
    go_wp2_with fail
    go_loopw [8, 9] (fun t i wr => i = .int .i64 0 ∧ t = .string ⟨#[]⟩ ∧ Fr [] w2 wr) (fun _ i _ => 0 - (intOf i).toNat)
    case atStart => exact ⟨rfl, rfl, Fr.refl _ _⟩
    case round =>
      obtain ⟨rfl, rfl, hf⟩ := hrel
      go_wp2_with fail
      go_ret2
      exact HD.out _ _ S U E rfl H0.out (hs2.fr hf (by simp)) (hf2.trans' hf (by simp))
end Go.Proofs.Ytdbkkbeelemnhaa
