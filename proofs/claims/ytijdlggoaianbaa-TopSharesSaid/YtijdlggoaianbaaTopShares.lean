/-
  TopShares: for all prizes, debts and parts the statement returns true: tax, offsets and all payments sum to the prize. No conditions.
-/
import Derived.Test.YtijdlggoaianbaaShPay
import Derived.Test.YtijdlggoaianbaaShDiv
import Derived.Test.YtijdlggoaianbaaShRow
import Derived.StillTailTactics
import Derived.IntWalk
import Derived.BigQuiet
import Derived.ProofKit
import Derived.OpenShut
import Derived.ShutString
import Derived.ChangeOld
namespace Go.Proofs.Ytijdlggoaianbaa.topShares
open Go.ChangeShapes Go.WideShapes Go.ChangeAt Go.RowKit
open Go.ChangeMaps (open_string shut_string)
set_option linter.unusedVariables false
attribute [local go_sem ↓] Go.wp_at_zero Go.wp_at_succ
theorem u8_at {w : World} {a : Option Addr} {n c : Nat} {L : List Int} (h : RdF 1 u8F w (.slice a n c) L) {k : Nat} (hk : k < L.length) : ∃ g o, a = some ⟨g, o, none⟩ ∧ w.cell? ⟨g, o + k, none⟩ = some (.int .u8 (L.getD k 0)) := by
  obtain ⟨a', c', hv, _, _, h3⟩ := h
  simp only [Value.slice.injEq] at hv
  obtain ⟨rfl, _, rfl⟩ := hv
  obtain ⟨g, o, rfl, hc⟩ := h3 k L[k] (by simp [hk])
  refine ⟨g, o, rfl, ?_⟩
  have := hc 0 (.int .u8 L[k]) (by simp [u8F])
  simpa [List.getD, hk] using this
theorem sum_le {l : List Int} {n : Nat} (h : ∀ i, i < n → 0 ≤ l.getD i 0) : ∀ k, k ≤ n → 0 ≤ sumTo l k ∧ sumTo l k ≤ sumTo l n := by
  have key : ∀ d k, k + d ≤ n → sumTo l k ≤ sumTo l (k + d) := by
    intro d
    induction d with
    | zero => intro k _; exact Int.le_refl _
    | succ d ih =>
      intro k hd
      have h1 := ih k (by omega)
      have h2 := h (k + d) (by omega)
      show sumTo l k ≤ sumTo l (k + d) + l.getD (k + d) 0
      omega
  intro k hk
  refine ⟨?_, ?_⟩
  · have := key k 0 (by omega)
    rw [Nat.zero_add] at this
    exact Int.le_trans (by simp [sumTo]) this
  · have := key (n - k) k (by omega)
    rwa [show k + (n - k) = n by omega] at this
set_option maxRecDepth 20000 in
set_option maxHeartbeats 8000000 in
theorem walk (x : Int) (v1 : Value) (A0 B0 : Int) (v2 : Value) (Q : List Int) (w : World) (hwx : (Lit.int .u32 x).wf = true) (hv1 : v1 = .agg #[.int .u32 A0, .int .u32 B0]) (hw1 : (Lit.int .u32 A0).wf = true ∧ (Lit.int .u32 B0).wf = true)
    (h2 : RdF 1 u8F w v2 Q) (hQ : ∀ z ∈ Q, (Lit.int .u8 z).wf = true) :
    Calls Try.prog 3 #[.int .u32 x, v1, v2] w fun e w' => e = .returned (.bool true) ∧ Below w.heap.size w w' := by
  subst hv1
  simp [Lit.wf, IntKind.min, IntKind.max, IntKind.signed, IntKind.bits] at hwx hw1 hQ
  obtain ⟨x0, x1⟩ := hwx
  obtain ⟨⟨a0, a1⟩, ⟨b0, b1⟩⟩ := hw1
  obtain ⟨aQ, cQ, rfl, hq1, hq2, _⟩ := id h2
  unfold maxLen at hq2
  obtain ⟨A, hA⟩ : ∃ A, A = A0 + 1 := ⟨_, rfl⟩
  obtain ⟨B, hB⟩ : ∃ B, B = B0 + 1 := ⟨_, rfl⟩
  have hPay := fun b1 b2 w h1 h2 => pay_any b1 b2 A B x w h1 h2 (by omega) (by omega) ⟨x0, by omega⟩
  have hwa : IntKind.i64.wrap (A0 + 1) = A := by rw [hA]; exact IntWalk.i64_in _ (by omega)
  have hwb : IntKind.i64.wrap (B0 + 1) = B := by rw [hB]; exact IntWalk.i64_in _ (by omega)
  have hA' : A0 + 1 = A := hA.symm
  have hB' : B0 + 1 = B := hB.symm
  have htb := txV_bd x0
  have hnet : 0 ≤ netV x A B ∧ netV x A B ≤ 4294967295 ∧ 0 ≤ of1 x A ∧ of1 x A ≤ 4294967295 ∧ 0 ≤ of2 x A B ∧ of2 x A B ≤ 4294967295 ∧ txV x + of1 x A + of2 x A B + netV x A B = x := by
    unfold netV of2 of1
    omega
  obtain ⟨m, hm⟩ : ∃ m, m = min Q.length 19 := ⟨_, rfl⟩
  have hok := shL_ok (Q := Q) (by intro z hz; have := hQ z hz; omega) (k := m) (by omega)
  have HPAY := Lib.hid hPay
  have HQ := Lib.hid hQ
  have HOK := Lib.hid hok
  have HM := Lib.hid hm
  have HNET := Lib.hid hnet
  have HTB := Lib.hid htb
  have H2 := Lib.hid h2
  have HA := Lib.hid hA
  have HB := Lib.hid hB
  have hmq : m ≤ Q.length := by omega
  have hm19 : m ≤ 19 := by omega
  obtain ⟨nq, hnq⟩ : ∃ nq, nq = Q.length := ⟨_, rfl⟩
  rw [← hnq] at hmq hq1 ⊢
  have HNQ := Lib.hid hnq
  clear hPay hQ hok hm hnet htb h2 hnq hA hB
  go_enter Try.func3, Try.ntmps3
  go_wp2_with fail
  have e3 : Fr [] w (((w.alloc (.cells #[.int .u32 A0, .int .u32 B0] 23)).alloc (.cells #[.int .i64 1000, .int .i64 1500, .int .i64 50000, .int .i64 2500] 32)).alloc (.cells #[.string ⟨#[97]⟩, .int .i64 1, .int .i64 A, .string ⟨#[98]⟩, .int .i64 1, .int .i64 B] 35)) := (((Fr.refl [] w).alloc _).alloc _).alloc _
  have hb1 : RowAt (((w.alloc (.cells #[.int .u32 A0, .int .u32 B0] 23)).alloc (.cells #[.int .i64 1000, .int .i64 1500, .int .i64 50000, .int .i64 2500] 32)).alloc (.cells #[.string ⟨#[97]⟩, .int .i64 1, .int .i64 A, .string ⟨#[98]⟩, .int .i64 1, .int .i64 B] 35)) (w.heap.size + 1) 32 brL := (RowAt.new (by simp) rfl).fr ((Fr.refl [] _).alloc _) (by simp)
  have hb2 : RowAt (((w.alloc (.cells #[.int .u32 A0, .int .u32 B0] 23)).alloc (.cells #[.int .i64 1000, .int .i64 1500, .int .i64 50000, .int .i64 2500] 32)).alloc (.cells #[.string ⟨#[97]⟩, .int .i64 1, .int .i64 A, .string ⟨#[98]⟩, .int .i64 1, .int .i64 B] 35)) (w.heap.size + 1 + 1) 35 (dbL A B) := RowAt.new (by simp) rfl
  generalize ((w.alloc (.cells #[.int .u32 A0, .int .u32 B0] 23)).alloc (.cells #[.int .i64 1000, .int .i64 1500, .int .i64 50000, .int .i64 2500] 32)).alloc (.cells #[.string ⟨#[97]⟩, .int .i64 1, .int .i64 A, .string ⟨#[98]⟩, .int .i64 1, .int .i64 B] 35) = w3 at *
  have HPP := Lib.hid (HPAY.out _ _ _ hb1 hb2)
  have HF3 := Lib.hid e3
  clear HPAY hb1 hb2 e3 hwa hwb hA' hB' HA HB
  generalize netV x A B = N at *
  generalize of1 x A = G1 at *
  generalize of2 x A B = G2 at *
  generalize txV x = T at *
  refine HPP.out.mono ?_
  rintro e w4 ⟨a, c, rfl, ho, f4⟩
  obtain ⟨go, co, hv, _, _, _, _⟩ := ho.form (by simp)
  simp only [Value.slice.injEq] at hv
  obtain ⟨rfl, hvv, rfl⟩ := hv
  clear hvv
  have o0 := ho.cell 0 (by simp)
  have o1 := ho.cell 1 (by simp)
  simp at o0 o1
  have HF4 := Lib.hid (HF3.out.trans f4)
  clear ho f4 HPP HF3
  go_upto_region 2 with (fail)
  have hro : RowAt (w4.alloc (.cells #[.int .i64 x, .int .i64 T, .slice (some ⟨go, 0, none⟩) 2 c, .int .i64 N] 27)) w4.heap.size 27 [.int .i64 x, .int .i64 T, .slice (some ⟨go, 0, none⟩) 2 c, .int .i64 N] := RowAt.new rfl rfl
  have f5 : Fr [] w4 (w4.alloc (.cells #[.int .i64 x, .int .i64 T, .slice (some ⟨go, 0, none⟩) 2 c, .int .i64 N] 27)) := (Fr.refl [] w4).alloc _
  have o0 := f5.cell_some o0 (by simp)
  have o1 := f5.cell_some o1 (by simp)
  have HF5 := Lib.hid (HF4.out.trans f5)
  generalize w4.alloc (.cells #[.int .i64 x, .int .i64 T, .slice (some ⟨go, 0, none⟩) 2 c, .int .i64 N] 27) = w5 at *
  generalize w4.heap.size = bo at *
  have hgo : go < w5.heap.size := lt_of_cell o0
  have HRO := Lib.hid hro
  have k2 := hro.cell 2 _ rfl
  clear hro f5 HF4
  go_upto_block 0 with (fail)
  have hs1 := own_one w5
  have f6 : Fr [] w5 (w5.alloc (.cells #[.int .i64 1, .int .i64 1] 38)) := (Fr.refl [] w5).alloc _
  have HF6 := Lib.hid (HF5.out.trans f6)
  have HRO6 := Lib.hid (HRO.out.fr f6 (by simp))
  have o0 := f6.cell_some o0 (by simp)
  have o1 := f6.cell_some o1 (by simp)
  have h5w : w.heap.size ≤ w5.heap.size := HF5.out.size
  have hbo := HRO.out.lt
  have hz6 : (w5.alloc (.cells #[.int .i64 1, .int .i64 1] 38)).heap.size = w5.heap.size + 1 := by simp
  generalize w5.alloc (.cells #[.int .i64 1, .int .i64 1] 38) = w6 at *
  generalize w5.heap.size = gs at *
  have HS1 := Lib.hid hs1
  have HO0 := Lib.hid o0
  have HO1 := Lib.hid o1
  clear k2 hs1 f6 HF5 HRO o0 o1
  go_cut [9] (fun v wx => ∃ a c, v = .slice a (m + 1) c ∧ OwnH wx gs v (shL Q m) ∧ Fr [gs] w6 wx)
  case first =>
    go_wp2_with fail
    go_loopw [10, 9] (fun i v wr => ∃ (k : Nat) (a : Option Addr) (c : Nat), k ≤ m ∧ i = .int .i64 k ∧ v = .slice a (k + 1) c ∧ OwnH wr gs (.slice a (k + 1) c) (shL Q k) ∧ Fr [gs] w6 wr) (fun i _ _ => m - (intOf i).toNat)
    case atStart => exact ⟨0, some ⟨gs, 0, none⟩, 1, by omega, rfl, rfl, HS1.out, Fr.refl _ _⟩
    case round =>
      obtain ⟨k, a, c, hk, rfl, rfl, ho, hf⟩ := hrel
      by_cases hlt : k < m
      · obtain ⟨g1, o1, rfl, hcell⟩ := u8_at H2.out (k := k) (by have := HM.out; omega)
        have hFw : Fr [] w wr := HF6.out.trans' hf (by intro i hi; simp at hi; subst hi; exact .inr h5w)
        have hc2 := hFw.cell_some hcell (by simp)
        have hq : 0 ≤ Q.getD k 0 ∧ Q.getD k 0 ≤ 255 := by
          have hkl : k < Q.length := by have := HM.out; omega
          have := HQ.out Q[k] (List.getElem_mem hkl)
          simpa [List.getD, hkl] using this
        have hsu := shL_succ Q k
        have hl := shL_len Q k
        have hkn : (k : Int) < (nq : Int) := by omega
        have hk19 : (k : Int) < 19 := by omega
        have hkn' : k < nq := by omega
        have hk19' : k < 19 := by omega
        obtain ⟨q0, q1⟩ := hq
        generalize Q.getD k 0 = z at *
        have HO := Lib.hid ho
        have HF := Lib.hid hf
        have HSU := Lib.hid hsu
        have HL := Lib.hid hl
        have hsz : gs ≤ wr.heap.size := by have := HF.out.size; have := (HS1.out.block gs (by rfl)).2; omega
        clear hcell hFw hsu hl ho hf
        go_wp2_with (at_builtin; refine app_hL _ _ rfl ((k : Int) + 2, z + 1) rfl (.tmp 59) (.tmp 69) rfl gs (.slice a (k + 1) c) (shL Q k) rfl HO.out rfl (by rw [HL.out]; omega) hsz ?_; intro v' w7 ho7 hfn hv7; have HF7 := Lib.hid (hfn [gs] w6 (fun q hq => if h : q = gs then .inl (by simp [h]) else .inr (by have := (HO.out.block q hq).1; omega)) HF.out); have HO7 := Lib.hid ho7; clear ho7 hfn; obtain ⟨g6, c6, rfl⟩ := hv7)
        rw [HL.out] at HO7 ⊢
        go_roundw
        case rel => exact ⟨k + 1, some ⟨g6, 0, none⟩, c6, by omega, by go_num, rfl, by rw [HSU.out]; exact HO7.out, HF7.out⟩
        case measure => simp [intOf] <;> omega
      · obtain rfl : k = m := by omega
        have HO := Lib.hid ho
        have HF := Lib.hid hf
        clear ho hf
        by_cases h6 : k < nq
        · have hk6 : ¬ k < 19 := by have := HM.out; have := HNQ.out; omega
          have e0 : decide (k < nq) = true := by simpa using h6
          have e1 : decide ((k : Int) < (nq : Int)) = true := by simp; omega
          have e2 : decide ((k : Int) < 19) = false := by simp; omega
          have e3 : decide (k < 19) = false := by simp; omega
          clear hk6 h6
          go_wp2_with fail
          go_meet
          exact ⟨a, c, rfl, HO.out, HF.out⟩
        · have e0 : decide (k < nq) = false := by simpa using h6
          have e1 : decide ((k : Int) < (nq : Int)) = false := by simp; omega
          clear h6
          go_wp2_with fail
          go_meet
          exact ⟨a, c, rfl, HO.out, HF.out⟩
  case rest =>
    obtain ⟨a, cs, rfl, ho, hf⟩ := hcut
    obtain ⟨w7, hw7⟩ : ∃ x : World, x = wc := ⟨_, rfl⟩
    rw [← hw7] at ho hf ⊢
    clear hw7
    have F7 : Fr [] w w7 := HF6.out.trans' hf (by intro i hi; simp at hi; subst hi; exact .inr h5w)
    have hro7 := HRO6.out.fr hf (by simp; omega)
    have o0 := hf.cell_some HO0.out (by simp; omega)
    have o1 := hf.cell_some HO1.out (by simp; omega)
    obtain ⟨a', c', hv, _, _, hrd⟩ := ho.form
    have hl := shL_len Q m
    rw [hl] at hv hrd
    simp only [Value.slice.injEq] at hv
    obtain ⟨rfl, _, rfl⟩ := hv
    obtain ⟨n0, n1, g0, g1', g2, g3, hsum⟩ := HNET.out
    have hsp := spay_any N a cs (shL Q m) w7 ⟨n0, by omega⟩ (by rw [hl]; exact hrd) HOK.out
    unfold DivPost at hsp
    have he0 := shW_ok HOK.out (m := N) ⟨n0, by omega⟩
    have hll : (spL N (shW (shL Q m))).length = m + 1 := by rw [spL_len he0, shW_len, hl]
    have hls : sumTo (spL N (shW (shL Q m))) (m + 1) = N := by have := spL_sum he0; rwa [shW_len, hl] at this
    have hln : ∀ i, i < m + 1 → 0 ≤ (spL N (shW (shL Q m))).getD i 0 := fun i hi => spL_nonneg he0 (by rw [shW_len, hl]; exact hi)
    rw [hl] at hsp
    generalize spL N (shW (shL Q m)) = SL at *
    have HSP := Lib.hid hsp
    have HLL := Lib.hid hll
    have HLS := Lib.hid hls
    have HLN := Lib.hid hln
    have HF7 := Lib.hid F7
    have HRO7 := Lib.hid hro7
    have k1 := hro7.cell 1 _ rfl
    have k2 := hro7.cell 2 _ rfl
    have k3 := hro7.cell 3 _ rfl
    have HO0 := Lib.hid o0
    have HO1 := Lib.hid o1
    obtain ⟨t0, t1⟩ := HTB.out
    clear ho hf hl hrd hsp he0 hll hls hln F7 hro7 o0 o1 HS1 HF6 HRO6 H2 HM HNQ
    go_wp2_with fail
    refine HSP.out.mono ?_
    rintro e w8 ⟨u, rfl, hou, f8⟩
    obtain ⟨au, cu, rfl, _, _⟩ := hou.any
    have HF8 := Lib.hid (HF7.out.trans f8)
    have k1 := f8.cell_some k1 (by simp)
    have k2 := f8.cell_some k2 (by simp)
    have o0 := f8.cell_some HO0.out (by simp)
    have o1 := f8.cell_some HO1.out (by simp)
    have hru := hou.rd
    rw [HLL.out] at hru ⊢
    have hen : (((m + 1 : Nat) : Int) != ((m + 1 : Nat) : Int)) = false := by simp
    have hrl := hou.rd
    obtain ⟨_, _, hv, _, _, hre⟩ := hrl
    simp only [Value.slice.injEq] at hv
    obtain ⟨rfl, hvv, rfl⟩ := hv
    clear hvv
    rw [HLL.out] at hre
    have HRE := Lib.hid hre
    clear hou f8 k3 hru hre HSP HF7 HRO7 HO0 HO1
    obtain ⟨n, hn⟩ : ∃ n, n = m + 1 := ⟨_, rfl⟩
    rw [← hn] at HRE hen HLS HLN ⊢
    have hn20 : n ≤ 20 := by omega
    clear HLL
    clear hn
    go_upto_region 12 with (fail)
    go_quiet (fail)
    have HF9 := Lib.hid (HF8.out.drewN nq)
    have f89 : Fr [] w8 (w8.drewN nq) := (Fr.refl [] w8).drewN nq
    have HF89 := Lib.hid f89
    generalize w8.drewN nq = w9 at *
    obtain ⟨D, hD⟩ : ∃ D, D = T + G1 + G2 := ⟨_, rfl⟩
    (try rw [← hD])
    have D0 : 0 ≤ D := by omega
    have hDN : D + N = x := by omega
    have D1 : D ≤ 4294967295 := by omega
    have HDN := Lib.hid hDN
    clear hD k1 k2 o0 o1 f89 HF8 hsum hDN hen
    go_wp2_with fail
    go_loopw [101, 12] (fun i s wr => ∃ (k : Nat) (S : Int), k ≤ n ∧ i = .int .i64 k ∧ s = .int .i64 S ∧ Hid (S = D + sumTo SL k) ∧ Fr [] w9 wr) (fun i _ _ => n - (intOf i).toNat)
    case atStart => exact ⟨0, D, by omega, rfl, rfl, Lib.hid (by simp [sumTo]), Fr.refl _ _⟩
    case round =>
      obtain ⟨k, S, hk, rfl, rfl, HS, hf⟩ := hrel
      have hfw := HF89.out.trans hf
      by_cases hlt : k < n
      · have hkn : (k : Int) < (n : Int) := by omega
        obtain ⟨g1, o1, rfl, hc1⟩ := HRE.out k hlt
        have hc1 := hfw.cell_some hc1 (by simp)
        have hz0 := HLN.out k hlt
        have hb1 := sum_le HLN.out k (by omega)
        have hb2 := (sum_le HLN.out (k + 1) (by omega)).2
        rw [HLS.out] at hb1 hb2
        have hsu : sumTo SL (k + 1) = sumTo SL k + SL.getD k 0 := rfl
        rw [hsu] at hb2
        obtain ⟨s0, s1⟩ := hb1
        have hS0 : 0 ≤ S ∧ S + SL.getD k 0 ≤ 9000000000 := by rw [HS.out]; omega
        have HSU := Lib.hid (show S + SL.getD k 0 = D + sumTo SL (k + 1) by rw [hsu, HS.out]; omega)
        obtain ⟨S0, S1⟩ := hS0
        have hz1 : SL.getD k 0 ≤ 4294967295 := by omega
        clear hb2 hsu s0 s1
        generalize SL.getD k 0 = z at *
        obtain ⟨y, hy⟩ : ∃ y : Nat, y = k % 8 + 1 := ⟨_, rfl⟩
        have hy1 : 1 ≤ y := by omega
        have hy8 : y ≤ 8 := by omega
        have hm1 : (k : Int) % 8 = (y : Int) - 1 := by omega
        have hm2 : (k : Int).tmod 8 = (y : Int) - 1 := by rw [Int.tmod_eq_emod_of_nonneg (by omega), hm1]
        have hpm := fun w => payments_any z y w ⟨hz0, by omega⟩ hy1 hy8
        unfold DivPost at hpm
        have he0 := anW_ok hy1 hy8 (m := z) ⟨hz0, by omega⟩
        have hll : (spL z (anW y)).length = y := by rw [spL_len he0, anW_len]
        have hls : sumTo (spL z (anW y)) y = z := by have := spL_sum he0; rwa [anW_len] at this
        have hln : ∀ i, i < y → 0 ≤ (spL z (anW y)).getD i 0 := fun i hi => spL_nonneg he0 (by rw [anW_len]; exact hi)
        generalize spL z (anW y) = YL at *
        have HPM := Lib.hid hpm
        have HYL := Lib.hid hll
        have HYS := Lib.hid hls
        have HYN := Lib.hid hln
        have HF := Lib.hid hf
        have hew : ((y : Int) != (y : Int)) = false := by simp
        clear hy hpm he0 hll hls hln hf hfw HS
        go_wp2_with fail
        refine (HPM.out _).mono ?_
        rintro e wa ⟨u, rfl, hou, fa⟩
        obtain ⟨au, cu, rfl, _, _⟩ := hou.any
        have HFa := Lib.hid (HF.out.trans fa)
        have hru := hou.rd
        rw [HYL.out] at hru ⊢
        have hrl := hou.rd
        obtain ⟨_, _, hv, _, _, hre⟩ := hrl
        simp only [Value.slice.injEq] at hv
        obtain ⟨rfl, hvv, rfl⟩ := hv
        clear hvv
        rw [HYL.out] at hre
        have HYE := Lib.hid hre
        clear hou fa hru hre hc1 HPM hm1 hm2 HYL
        go_wp2_with fail
        go_loop [126, 12] (fun i s => ∃ j : Nat, j ≤ y ∧ i = .int .i64 j ∧ s = .int .i64 (S + sumTo YL j)) (fun i _ => y - (intOf i).toNat)
        case atStart => exact ⟨0, by omega, rfl, by simp [sumTo]⟩
        case round =>
          obtain ⟨j, hj, rfl, rfl⟩ := hrel
          by_cases hlt2 : j < y
          · have hjy : (j : Int) < (y : Int) := by omega
            obtain ⟨g2, o2, rfl, hc2⟩ := HYE.out j hlt2
            have hq0 := HYN.out j hlt2
            have hb1 := sum_le HYN.out j (by omega)
            have hb2 := (sum_le HYN.out (j + 1) (by omega)).2
            rw [HYS.out] at hb1 hb2
            have hsu : sumTo YL (j + 1) = sumTo YL j + YL.getD j 0 := rfl
            rw [hsu] at hb2
            have HSJ := Lib.hid hsu
            obtain ⟨s0, s1⟩ := hb1
            clear hsu
            generalize YL.getD j 0 = q at *
            generalize sumTo YL j = sj at *
            have dq : decide (q < 0) = false := by simp; omega
            go_wp2_with fail
            go_round
            case rel => exact ⟨j + 1, by omega, by go_num, by rw [HSJ.out]; go_num⟩
            case measure => simp [intOf] <;> omega
          · obtain rfl : y = j := by omega
            have hys := HYS.out
            rw [hys]
            clear hys
            go_wp2_with fail
            go_roundw
            case rel => exact ⟨k + 1, S + z, by omega, by go_num, rfl, HSU, HFa.out⟩
            case measure => simp [intOf] <;> omega
      · obtain rfl : n = k := by omega
        have hSx : S = x := by rw [HS.out, HLS.out]; exact HDN.out
        subst hSx
        have e1 : (S == S) = true := by simp
        have HF := Lib.hid (HF9.out.trans hf)
        clear hf hfw HS HDN
        go_wp2_with fail
        go_ret
        exact ⟨rfl, HF.out.below⟩
theorem own : ownKnob Try.prog.godebug = none := by kernel_rfl
theorem laidOut : laidOutB Try.prog = true := by kernel_rfl
set_option maxRecDepth 100000 in
theorem lifted (os : Os) (started : os.Started) (H : Type) (enc : TypeId × Value → H) :
    ReturnsInHanded {} Try.checked os 3 .any (Rows.topSharesSpec.pre6 enc Try.prog Try.f3 Rows.topSharesRow.domain false) (Rows.topSharesSpec.post enc Try.prog Try.f3 false true false false) := by
  refine returnsInHanded_of_change (C := Try.checked) own started (by kernel_rfl) Try.func3
    (ChangeSpec.witness6 (enc := enc) (C := Try.checked) false ⟨#[], #[.int .u32 0, .agg #[.int .u32 0, .int .u32 0], .slice none 0 0], []⟩ 8 (by kernel_rfl) (by kernel_rfl) (by kernel_rfl) (by kernel_rfl)) ?_
  intro W base args ds gs before hval0 hW hcnd _
  have hval : ∀ (j : Nat) t v, Try.f3.params[j]? = some t → args[j]? = some v → Value.okWide Try.prog W .any base t v := hval0
  have hW' := hW
  obtain ⟨p, q, hA0, hV, rfl, hfz, hnd⟩ := hW
  have hA : DataW.TrodAll enc Try.prog W 0 (fun _ => true) true Try.f3.params.toList args.toList ds p := hA0
  rw [Try.params3] at hA hval
  obtain ⟨v0, vs0, d0, ds0, p0, q0, hargs, rfl, rfl, h0, r0⟩ := trodAll_cons hA
  obtain ⟨v1, vs1, d1, ds1, p1, q1, rfl, rfl, rfl, h1, r1⟩ := trodAll_cons r0
  obtain ⟨v2, vs2, d2, ds2, p2, q2, rfl, rfl, rfl, h2, r2⟩ := trodAll_cons r1
  obtain ⟨rfl, rfl, rfl⟩ := trodAll_nil r2
  obtain rfl : args = #[v0, v1, v2] := by cases args; simp_all
  obtain ⟨rfl, rfl⟩ := trodVars_none hV
  obtain ⟨a0, rfl, rfl, rfl, w0⟩ := open_int Try.underlying22 (hval 0 22 v0 rfl rfl) h0
  have k1 := h1
  have lt1 : ∀ x ∈ p1, x.block < W.heap.size := by obtain ⟨m, hm⟩ := k1; exact DataW.trod_lt m _ _ _ hm
  obtain ⟨a1, b1, hv1, hw1⟩ := open_u32x2 (hval 1 23 v1 rfl rfl) h1
  have k2 := h2
  have lt2 : ∀ x ∈ p2, x.block < W.heap.size := by obtain ⟨m, hm⟩ := k2; exact DataW.trod_lt m _ _ _ hm
  obtain ⟨l2, hr2, hq2⟩ := open_u8s (hval 2 24 v2 rfl rfl) h2
  clear hA0 hval0
  refine (walk a0 v1 a1 b1 v2 l2 W w0 hv1 hw1 hr2 hq2).mono fun e W' ⟨he, bel⟩ => ?_
  subst he
  exact ⟨_, rfl, _, _, _, [], _, [], hW', trodAll_mk1 (shut_bool Try.underlying4 _), (trodAll_cons_mk (shut_int Try.underlying22 w0) (trodAll_cons_mk (Below.trod laidOut (by kernel_rfl) (of_decide_eq_true (by kernel_rfl)) k1 bel lt1) (trodAll_cons_mk (Below.trod laidOut (by kernel_rfl) (of_decide_eq_true (by kernel_rfl)) k2 bel lt2) trodAll_mk0))), rfl, bel.frame _, fun h => by cases h⟩
theorem over : Rows.topSharesRow.holds Try.pinned (OpenSpec.ofChange Rows.topSharesSpec) :=
  OpenClaim.holds_of_wide 3 Try.f3 rfl rfl rfl rfl rfl rfl rfl ⟨rfl, rfl, rfl, rfl, rfl⟩ rfl rfl rfl rfl rfl (by kernel_rfl) Try.func3 (by kernel_rfl)
    (of_decide_eq_true (by kernel_rfl)) (by unfold Func.isWrapper; first | (rw [if_pos (by decide +kernel)]; kernel_rfl) | (rw [if_neg (by decide +kernel)]; exact ⟨rfl, rfl⟩))
    (fun os started H enc _ => lifted os started H enc)
/-- THE STATEMENT -/
theorem proved : Rows.TopSharesSaid := over
end Go.Proofs.Ytijdlggoaianbaa.topShares
