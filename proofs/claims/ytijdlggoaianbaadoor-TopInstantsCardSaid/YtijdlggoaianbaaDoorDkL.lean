/-
  TopInstants: the law.
-/
import Derived.Test.YtijdlggoaianbaaDoorDkV
import Derived.Test.YtijdlggoaianbaaDoorDkR
import Derived.Test.YtijdlggoaianbaaDoorRegK
import Derived.ArgAppend
set_option linter.unusedVariables false
namespace Go.Proofs.YtijdlggoaianbaaDoor
open Go.RowKit
def zL : Array Value := #[.int .i64 0, .int .i64 0, .int .i64 0]
theorem infoLv : (Tryd.prog.info? 28).map (fun i => (i.zero, i.size, i.bytes)) = some (some (.agg zL), 3, 24) := by kernel_rfl
theorem three_cells {w : World} {g : Nat} {a b c : Value} (h0 : w.cell? ⟨g, 0, none⟩ = some a) (h1 : w.cell? ⟨g, 1, none⟩ = some b) (h2 : w.cell? ⟨g, 2, none⟩ = some c) : ∀ j u, [a, b, c][j]? = some u → w.cell? ((⟨g, 0, none⟩ : Addr).add j) = some u := fun j u hj => by
  rw [addr_add, Nat.zero_add]
  match j, hj with
  | 0, hj => simp at hj; rw [h0, hj]
  | 1, hj => simp at hj; rw [h1, hj]
  | 2, hj => simp at hj; rw [h2, hj]
  | j + 3, hj => simp at hj
theorem updB_scB (N a k : Nat) : updB (scB N a k) ((k + a) % N) true = scB N a (k + 1) := by
  funext j
  rw [scB_step]
  rfl
theorem updB_keep {f : Nat → Bool} {i j : Nat} (h : f i = true) : updB f j true i = true := by unfold updB; split <;> simp [h]
theorem updB_same (f : Nat → Bool) (j : Nat) (x : Bool) : updB f j x j = x := by unfold updB; rw [if_pos rfl]
set_option maxRecDepth 20000 in
set_option maxHeartbeats 4000000 in
theorem law_any (s0 s1 s2 s3 : Nat) (sd : Int) (fst : Nat) (w : World) (b0 : s0 < 256) (b1 : s1 < 256) (b2 : s2 < 256) (b3 : s3 < 256) (hsd : 0 ≤ sd ∧ sd < 18446744073709551616) (hf : fst < 256) (hT : HexT w) (hw : 0 < w.heap.size) :
    Calls Tryd.prog 3 #[.agg #[.int .u8 s0, .int .u8 s1, .int .u8 s2, .int .u8 s3], .int .u64 sd, .int .u8 fst] w fun e w' => e = .returned (.bool true) ∧ Fr [] w w' := by
  obtain ⟨P, hP⟩ : ∃ P, P = s0 % 4 + 1 := ⟨_, rfl⟩
  obtain ⟨Z, hZ⟩ : ∃ Z, Z = s1 % 8 + 2 := ⟨_, rfl⟩
  have hPi : (s0 : Int) % 4 + 1 = (P : Int) := by omega
  have hZi : (s1 : Int) % 8 + 2 = (Z : Int) := by omega
  obtain ⟨w1, hw1⟩ : ∃ x, x = w.alloc (.cells #[.int .u8 s0, .int .u8 s1, .int .u8 s2, .int .u8 s3] 22) := ⟨_, rfl⟩
  have f1 : Fr [] w w1 := by rw [hw1]; exact (Fr.refl [] w).alloc _
  have a0 : w1.cell? ⟨w.heap.size, 0, none⟩ = some (.int .u8 s0) := by rw [hw1]; exact new_cell rfl rfl
  have a1 : w1.cell? ⟨w.heap.size, 1, none⟩ = some (.int .u8 s1) := by rw [hw1]; exact new_cell rfl rfl
  have a2 : w1.cell? ⟨w.heap.size, 2, none⟩ = some (.int .u8 s2) := by rw [hw1]; exact new_cell rfl rfl
  have a3 : w1.cell? ⟨w.heap.size, 3, none⟩ = some (.int .u8 s3) := by rw [hw1]; exact new_cell rfl rfl
  have HF1 := Lib.hid f1
  have HT := Lib.hid hT
  have HW := Lib.hid hw
  have HPZ := Lib.hid (And.intro hP hZ)
  clear f1 hT hw hP hZ
  go_enter Tryd.func3, Tryd.ntmps3
  go_upto_region 1 with (fail)
  rw [← hw1]
  have HW1 := Lib.hid hw1
  clear hw1
  generalize hab : w.heap.size = ab at *
  have HAB := Lib.hid hab
  clear hab
  go_upto_region 2 with (fail)
  obtain ⟨w2, hw2⟩ : ∃ x, x = w1.alloc (.cells #[.string dkS, .int .i64 10, .int .i64 P, .int .i64 Z, .slice none 0 0] 26) := ⟨_, rfl⟩
  obtain ⟨pb, hpb⟩ : ∃ x, x = w1.heap.size := ⟨_, rfl⟩
  have f2 : Fr [] w1 w2 := by rw [hw2]; exact (Fr.refl [] w1).alloc _
  have p0 : w2.cell? ⟨pb, 0, none⟩ = some (.string dkS) := by rw [hw2]; exact new_cell hpb rfl
  have p1 : w2.cell? ⟨pb, 1, none⟩ = some (.int .i64 10) := by rw [hw2]; exact new_cell hpb rfl
  have p2 : w2.cell? ⟨pb, 2, none⟩ = some (.int .i64 P) := by rw [hw2]; exact new_cell hpb rfl
  have p3 : w2.cell? ⟨pb, 3, none⟩ = some (.int .i64 Z) := by rw [hw2]; exact new_cell hpb rfl
  have p4 : w2.cell? ⟨pb, 4, none⟩ = some (.slice none 0 0) := by rw [hw2]; exact new_cell hpb rfl
  have pf : w2.frozen? ⟨pb, 4, none⟩ = false := by rw [hw2]; exact World.frozen?_alloc_at _ _ _ _ hpb
  have habp : ab < pb := by rw [hpb]; exact lt_of_cell a0
  have hpz : pb < w2.heap.size := by rw [hw2, hpb]; simp
  have a0 := f2.cell_some a0 (by simp)
  have a1 := f2.cell_some a1 (by simp)
  have a2 := f2.cell_some a2 (by simp)
  have a3 := f2.cell_some a3 (by simp)
  have hdk : (ByteArray.mk #[100, 101, 99, 107]) = dkS := rfl
  rw [hdk, ← hw2, ← hpb]
  have HW2 := Lib.hid hw2
  have HF2 := Lib.hid (HF1.out.trans f2)
  clear hw2 hpb f2 hdk
  obtain ⟨c0, hc0⟩ : ∃ c0, c0 = P + s2 % P := ⟨_, rfl⟩
  have hP1 : 1 ≤ P ∧ P ≤ 4 := by have := HPZ.out.1; omega
  have hZ1 : 2 ≤ Z ∧ Z ≤ 9 := by have := HPZ.out.2; omega
  obtain ⟨hP2, hP3⟩ := hP1
  obtain ⟨hZ2, hZ3⟩ := hZ1
  have hml := Nat.mod_lt s2 (show P > 0 by omega)
  have hc1 : (P : Int) + (s2 : Int) % (P : Int) = (c0 : Int) := by rw [hc0]; omega
  have HC0 := Lib.hid (And.intro hc0 hml)
  have hPi0 : (P : Int) ≠ 0 := by omega
  have hm0 : 0 ≤ (s2 : Int) % (P : Int) := Int.emod_nonneg _ hPi0
  have hm1 : (s2 : Int) % (P : Int) < (P : Int) := Int.emod_lt_of_pos _ (by omega)
  clear hc0 hml hPi hZi
  go_wp2_with fail
  go_region
  obtain ⟨w3, hw3⟩ : ∃ x, x = ((w2.setCell ⟨pb, 4, none⟩ (.slice (some ⟨w2.heap.size, 0, none⟩) 1 1)).alloc (.cells #[.int .i64 500, .int .i64 c0, .int .i64 1] 28)).drew := ⟨_, rfl⟩
  obtain ⟨gl, hgl⟩ : ∃ x, x = w2.heap.size := ⟨_, rfl⟩
  have hgl2 : gl = (w2.setCell ⟨pb, 4, none⟩ (.slice (some ⟨w2.heap.size, 0, none⟩) 1 1)).heap.size := by rw [hgl]; simp
  have f3 : Fr [pb] w2 w3 := by rw [hw3]; exact ((((Fr.refl [pb] w2).setCell (.inl (by simp)) _).alloc _).drew)
  have g0 : w3.cell? ⟨gl, 0, none⟩ = some (.int .i64 500) := by rw [hw3]; exact new_cell hgl2 rfl
  have g1 : w3.cell? ⟨gl, 1, none⟩ = some (.int .i64 c0) := by rw [hw3]; exact new_cell hgl2 rfl
  have g2 : w3.cell? ⟨gl, 2, none⟩ = some (.int .i64 1) := by rw [hw3]; exact new_cell hgl2 rfl
  have q4 : w3.cell? ⟨pb, 4, none⟩ = some (.slice (some ⟨gl, 0, none⟩) 1 1) := by rw [hw3, hgl]; exact (((Fr.refl [] _).alloc _).drew).cell_some (set_same _ _ _ _ _ p4) (by simp)
  have q0 : w3.cell? ⟨pb, 0, none⟩ = some (.string dkS) := by rw [hw3]; exact (((Fr.refl [] _).alloc _).drew).cell_some ((set_other _ _ _ _ _ (by omega)).trans p0) (by simp)
  have q1 : w3.cell? ⟨pb, 1, none⟩ = some (.int .i64 10) := by rw [hw3]; exact (((Fr.refl [] _).alloc _).drew).cell_some ((set_other _ _ _ _ _ (by omega)).trans p1) (by simp)
  have q2 : w3.cell? ⟨pb, 2, none⟩ = some (.int .i64 P) := by rw [hw3]; exact (((Fr.refl [] _).alloc _).drew).cell_some ((set_other _ _ _ _ _ (by omega)).trans p2) (by simp)
  have q3 : w3.cell? ⟨pb, 3, none⟩ = some (.int .i64 Z) := by rw [hw3]; exact (((Fr.refl [] _).alloc _).drew).cell_some ((set_other _ _ _ _ _ (by omega)).trans p3) (by simp)
  have qf : w3.frozen? ⟨pb, 4, none⟩ = false := by rw [hw3]; exact ((((Fr.refl [] _).alloc _).drew).frozen (p := ⟨pb, 4, none⟩) (by simpa using hpz) (by simp)).trans ((frozen_set _ _ _ _).trans pf)
  have hgz : gl < w3.heap.size := by rw [hw3, hgl]; simp
  have hpgl : pb < gl := by omega
  have a3 := f3.cell_some a3 (by simp; omega)
  rw [← hw3, ← hgl]
  have HF3 := Lib.hid (HF2.out.trans' f3 (by have := HAB.out; simp; omega))
  have HW3 := Lib.hid (And.intro hw3 (And.intro hgl hgl2))
  clear hw3 hgl hgl2 p0 p1 p2 p3 p4 pf a0 a1 a2 f3 hm0 hm1 hPi0 hc1
  obtain ⟨N, hN⟩ : ∃ N, N = P * Z := ⟨_, rfl⟩
  have hNi : (P : Int) * (Z : Int) = (N : Int) := by rw [hN, Int.natCast_mul]
  have hPZ2 : P * 2 ≤ N := by rw [hN]; exact Nat.mul_le_mul_left P hZ2
  have hN36 : N ≤ 36 := by rw [hN]; exact Nat.mul_le_mul hP3 hZ3
  have hcN : (c0 : Int) < (N : Int) := by have := HC0.out.1; have := HC0.out.2; omega
  have HN := Lib.hid hN
  clear hN
  go_wp2_with fail
  rcases Int.emod_two_eq (s3 : Int) with hodd | hodd
  · go_big_quiet (fail)
    obtain ⟨w5, hw5⟩ : ∃ x, x = w3.drewN nq := ⟨_, rfl⟩
    have f5 : Fr [] w3 w5 := by rw [hw5]; exact (Fr.refl [] w3).drewN _
    rw [← hw5]
    have HW5 := Lib.hid hw5
    obtain ⟨n, hn⟩ : ∃ n, n = 1 := ⟨_, rfl⟩
    obtain ⟨cap, hcap⟩ : ∃ cap, cap = 1 := ⟨_, rfl⟩
    obtain ⟨c1, hc1⟩ : ∃ c1, c1 = 0 := ⟨_, rfl⟩
    obtain ⟨g, hg⟩ : ∃ g, g = gl := ⟨_, rfl⟩
    have hlv : LvAt w5 g n c0 c1 := ⟨by rw [hg]; exact f5.cell_some g0 (by simp), by rw [hg]; exact f5.cell_some g1 (by simp), by rw [hg]; exact f5.cell_some g2 (by simp), fun h => by omega⟩
    have HPL := Lib.hid (show Pl P Z n c0 c1 from ⟨⟨hP2, hP3⟩, ⟨hZ2, hZ3⟩, .inl ⟨hn, hc1⟩, ⟨by have := HC0.out.1; omega, by have := HN.out; omega⟩, by have := HN.out; omega⟩)
    replace q0 := f5.cell_some q0 (by simp)
    replace q1 := f5.cell_some q1 (by simp)
    replace q2 := f5.cell_some q2 (by simp)
    replace q3 := f5.cell_some q3 (by simp)
    replace q4 := f5.cell_some q4 (by simp)
    replace q4 : w5.cell? ⟨pb, 4, none⟩ = some (.slice (some ⟨g, 0, none⟩) n cap) := by rw [q4, hg, hn, hcap]
    have hpg : pb < g := by omega
    have HF5 := Lib.hid (HF3.out.trans f5)
    have HFIN := Lib.hid (And.intro hn (And.intro hcap (And.intro hc1 hg)))
    clear hw5 f5 hn hcap hc1 hg g0 g1 g2 qf a3 hpgl

    have c12 : 1 ≤ n ∧ n ≤ 2 := by rcases HPL.out.n with h | h <;> omega
    obtain ⟨nn1, nn2⟩ := c12
    obtain ⟨_, _, _, _, _, _, i1, _, i3⟩ := HPL.out.i
    rw [hNi] at i3
    have hpl5 : pb < g := by omega
    have HQ := Lib.hid (And.intro q0 (And.intro q1 (And.intro q2 (And.intro q3 q4))))
    have HPAY := Lib.hid (payout_any dkS P Z g n cap c0 c1 w5 rfl HPL.out hlv)
    have HLV := Lib.hid hlv
    clear hlv
    go_wp2_with fail
    refine HPAY.out.mono ?_
    rintro e w6 ⟨rfl, f6⟩
    clear q0 q1 q2 q3 q4
    obtain ⟨q0, q1, q2, q3, q4⟩ := HQ.out
    have q0 := f6.cell_some q0 (by simp)
    have q1 := f6.cell_some q1 (by simp)
    have q2 := f6.cell_some q2 (by simp)
    have q3 := f6.cell_some q3 (by simp)
    have q4 := f6.cell_some q4 (by simp)
    have HQ6 := Lib.hid (And.intro q0 (And.intro q1 (And.intro q2 (And.intro q3 q4))))
    have HL6 := Lib.hid (HLV.out.fr f6 (by simp))
    have HF6 := Lib.hid (HF5.out.trans f6)
    have hw6 : 0 < w6.heap.size := by have q1 := HF6.out.size; have q2 := HAB.out; have q3 := HW.out; omega
    have HBLD := Lib.hid (build_any dkS P Z g n cap c0 c1 N sd w6 rfl HPL.out HN.out HL6.out (HT.out.fr HF6.out) hw6 hsd)
    clear f6 hw6
    go_wp2_with fail
    refine HBLD.out.mono ?_
    rintro e w7 ⟨gt, pr, rfl, hgt6, ht7, hpr7, f7⟩
    clear q0 q1 q2 q3 q4
    obtain ⟨q0, q1, q2, q3, q4⟩ := HQ6.out
    have hg6 : g < w6.heap.size := HL6.out.lt
    have q0 := f7.cell_some q0 (by simp)
    have q1 := f7.cell_some q1 (by simp)
    have q2 := f7.cell_some q2 (by simp)
    have q3 := f7.cell_some q3 (by simp)
    have q4 := f7.cell_some q4 (by simp)
    have HQ7 := Lib.hid (And.intro q0 (And.intro q1 (And.intro q2 (And.intro q3 q4))))
    have HL7 := Lib.hid (HL6.out.fr f7 (by simp))
    have HF7 := Lib.hid (HF6.out.trans f7)
    have hggt : g < gt := by omega
    have hgt7 := ht7.lt
    have HPN := Lib.hid (pnew_any dkS P Z g n cap c0 c1 gt N sd pr w7 rfl HPL.out HN.out HL7.out ht7 (fun i hi => hpr7.bd i hi))
    have HT7 := Lib.hid ht7
    have HPR := Lib.hid hpr7
    clear f7 ht7 hpr7 hgt6 hg6
    go_wp2_with fail
    refine HPN.out.mono ?_
    rintro e w8 ⟨X, rfl, ⟨xP, xZ, xN, xC, xpr⟩, ⟨xb1, xb2, xb3⟩, hpk, f8⟩
    clear q0 q1 q2 q3 q4
    obtain ⟨q0, q1, q2, q3, q4⟩ := HQ7.out
    have q2 := f8.cell_some q2 (by simp)
    have q3 := f8.cell_some q3 (by simp)
    have q4 := f8.cell_some q4 (by simp)
    have HQ8 := Lib.hid (And.intro q2 (And.intro q3 q4))
    have HL8 := Lib.hid (HL7.out.fr f8 (by simp))
    have HT8 := Lib.hid (HT7.out.fr f8 (by simp))
    have HF8 := Lib.hid (HF7.out.trans f8)
    have HPK := Lib.hid hpk
    have HX := Lib.hid (And.intro xP (And.intro xZ (And.intro xN (And.intro xC xpr))))
    have hxb : gt < X.x ∧ gt < X.gp ∧ gt < X.gs := ⟨by omega, by omega, by omega⟩
    obtain ⟨x1, x2, x3⟩ := hxb
    have HSZ := Lib.hid (show w.heap.size ≤ X.x ∧ w.heap.size ≤ X.gp ∧ w.heap.size ≤ X.gs from by have := HF7.out.size; omega)
    have hXP4 : X.P ≤ 4 := by omega
    have hXN : X.N = X.P * X.Z := by rw [xN, xP, xZ, HN.out]
    have hXZ : 0 < X.Z := by omega
    have hXN36 : X.N ≤ 36 := by omega
    have HXX := Lib.hid (And.intro hXP4 (And.intro hXN (And.intro hXZ hXN36)))
    clear hpk f8 q0 q1 xP xZ xN xC xpr xb1 xb2 xb3 hXP4 hXN hXZ hXN36
    generalize hxx : X.x = xx at *
    have HXE := Lib.hid hxx
    clear hxx
    go_wp2_with fail
    go_loopw [14] (fun i wr => ∃ k : Nat, k ≤ P ∧ i = .int .i64 ((k : Int) + 1) ∧ PkAt X wr (stA 1 k) (stA 3 k) (fun _ => false) (fun _ => false) 0 0 ∧ Fr [X.x, X.gp, X.gs] w8 wr) (fun i _ => P + 1 - (intOf i).toNat)
    case atStart => exact ⟨0, by omega, by simp, by rw [stA_zero, stA_zero]; exact HPK.out, Fr.refl _ _⟩
    case round =>
      obtain ⟨k, hk, rfl, hpk, hf⟩ := hrel
      have hf1 : pb ∉ [X.x, X.gp, X.gs] := by have := HXE.out; simp; omega
      clear q2 q3 q4
      have q2 := hf.cell_some HQ8.out.1 hf1
      have q3 := hf.cell_some HQ8.out.2.1 hf1
      by_cases hlt : k < P
      · have hkP : (k : Int) + 1 ≤ (P : Int) := by omega
        obtain ⟨kz, hkz⟩ : ∃ kz, kz = k * Z := ⟨_, rfl⟩
        have hkzi : (k : Int) * (Z : Int) = (kz : Int) := by rw [hkz, Int.natCast_mul]
        have hkzN : kz < N := by
          have h1 : (k + 1) * Z ≤ P * Z := Nat.mul_le_mul_right Z hlt
          rw [Nat.add_mul, ← HN.out] at h1
          omega
        have hkd : kz / Z = k := by rw [hkz]; exact Nat.mul_div_left k (by omega)
        have ht9 := HT8.out.fr hf (by have := HXE.out; simp; omega)
        have e3 := ht9.c3 kz hkzN
        obtain ⟨xP, xZ, xN, xC, xpr⟩ := HX.out
        have hscr := scr_state X wr (stA 1 k) (stA 3 k) (fun _ => false) (fun _ => false) 0 0 hpk HXX.out.1 HXX.out.2.1 HXX.out.2.2.1 HXX.out.2.2.2 kz (by omega) (by rw [xC]; exact cdS_size _ _) (by rw [xZ, hkd]; exact stA_ge (Nat.le_refl _))
        rw [xC, HXE.out] at hscr
        have HSCR := Lib.hid hscr
        have HPK1 := Lib.hid hpk
        have HF1 := Lib.hid hf
        have HKZ := Lib.hid (And.intro hkz hkd)
        have hkzNi : (kz : Int) < (N : Int) := by omega
        clear hscr hpk hf ht9 xP xZ xN xC xpr hkz hkd
        go_wp2_with fail
        refine HSCR.out.mono ?_
        rintro e w9 ⟨rfl, f9⟩
        have hact := activate_any X w9 (stA 1 k) (stA 3 k) (fun _ => false) (fun _ => false) 0 0 (HPK1.out.fr f9) HXX.out.1 k (by have := HX.out.1; omega) (stA_ge (Nat.le_refl _))
        rw [HXE.out, stA_step, stA_step] at hact
        have HACT := Lib.hid hact
        have HF9 := Lib.hid f9
        clear hact f9 e3 q2 q3
        go_wp2_with fail
        refine HACT.out.mono ?_
        rintro e w10 ⟨rfl, hpk10, f10⟩
        have HPK10 := Lib.hid hpk10
        have HF10 := Lib.hid ((HF1.out.trans (HF9.out.mono (by simp))).trans (f10.mono (by simp)))
        clear hpk10 f10
        go_wp2_with fail
        go_roundw
        case rel => exact ⟨k + 1, by omega, by go_num, HPK10.out, HF10.out⟩
        case measure => simp [intOf]; omega
      · have e : P = k := by omega
        subst e
        have hkP : ¬ ((P : Int) + 1 ≤ (P : Int)) := by omega
        clear hlt hk

        have HPK2 := Lib.hid hpk
        have HF2a := Lib.hid hf
        clear hpk hf q3 hf1
        go_wp2_with fail
        go_loopw [17, 163] (fun a i wr => ∃ (k : Nat) (sc : Nat → Bool), k ≤ N ∧ i = .int .i64 k ∧ a = .int .i64 (sumN (rotF pr N fst) k) ∧ (∀ i, i < k → sc ((i + fst) % N / Z) = true) ∧ PkAt X wr (stA 1 P) (stA 3 P) sc (scB N fst k) (sumN (rotF (posF pr) N fst) k) (sumN (rotF pr N fst) k) ∧ Fr [X.x, X.gp, X.gs] w8 wr) (fun _ i _ => N - (intOf i).toNat)
        case atStart => exact ⟨0, fun _ => false, by omega, rfl, rfl, fun i hi => by omega, by
          have e : scB N fst 0 = fun _ => false := by funext j; exact scB_zero _ _ _
          rw [e]; exact HPK2.out, HF2a.out⟩
        case round =>
          obtain ⟨k, sc, hk, rfl, rfl, hsc, hpk, hf⟩ := hrel
          clear q2
          by_cases hlt : k < N
          · have hkN : (k : Int) < (N : Int) := by omega
            obtain ⟨q, hq⟩ : ∃ q, q = (k + fst) % N := ⟨_, rfl⟩
            have hqN : q < N := by rw [hq]; exact Nat.mod_lt _ (by omega)
            have hqi : ((k : Int) + (fst : Int)) % (N : Int) = (q : Int) := by rw [hq]; simp
            have hqP : q / Z < P := pk_div HN.out (by omega) hqN
            have hfi : (fst : Int) < 256 := by omega
            have hqNi : (q : Int) < (N : Int) := by omega
            have ht9 := HT8.out.fr hf (by have := HXE.out; simp; omega)
            have e0 := ht9.c0 q hqN
            have e1 := ht9.c1 q hqN
            have e2 := ht9.c2 q hqN
            have e3 := ht9.c3 q hqN
            have hpb := HPR.out.bd q hqN
            have hsb := sumN_bd (rotF pr N fst) 500 k (fun i hi => HPR.out.bd _ (Nat.mod_lt _ (by omega)))
            have hmb := sumN_bd (rotF (posF pr) N fst) 1 k (fun i hi => by unfold rotF posF; split <;> omega)
            have hss := sum_step pr N fst k
            have hsm := sum_step (posF pr) N fst k
            have hscb := scB_new (a := fst) hlt
            have hup := updB_scB N fst k
            rw [← hq] at hss hsm hscb hup
            generalize sumN (rotF pr N fst) k = SM at *
            generalize sumN (rotF (posF pr) N fst) k = MN at *
            obtain ⟨wy, hwy⟩ : ∃ wy, wy = wr.alloc (.cells #[.int .i64 ((q : Int) / (Z : Int) + 1), .int .i64 ((q : Int) % (Z : Int) + 1), .int .i64 (pr q), .string (cdS sd q)] 40) := ⟨_, rfl⟩
            have fy : Fr [] wr wy := by rw [hwy]; exact (Fr.refl [] wr).alloc _
            have y2 : wy.cell? ⟨wr.heap.size, 2, none⟩ = some (.int .i64 (pr q)) := by rw [hwy]; exact new_cell rfl rfl
            have y3 : wy.cell? ⟨wr.heap.size, 3, none⟩ = some (.string (cdS sd q)) := by rw [hwy]; exact new_cell rfl rfl
            have hpky := hpk.fr fy
            obtain ⟨xP, xZ, xN, xC, xpr⟩ := HX.out
            have hbt : wr.heap.size ∉ [X.x, X.gp, X.gs] := by have h1 := hpk.lt; have h2 := hpk.pa.lt; have h3 := hpk.bo.lt; simp; omega
            have hscr := scr_ok X wy (stA 1 P) (stA 3 P) sc (scB N fst k) MN SM hpky HXX.out.1 HXX.out.2.1 HXX.out.2.2.1 HXX.out.2.2.2 q (by omega) (by rw [xC]; exact cdS_size _ _) (by rw [xpr]; exact hpb) (by omega) (by omega) (by rw [xZ]; exact stA_lt hqP) (by rw [xZ]; exact stA_lt hqP) hscb
            rw [xC, HXE.out] at hscr
            have HSCR := Lib.hid hscr
            have HFY := Lib.hid (hf.trans (fy.mono (by simp)))
            have HSC := Lib.hid hsc
            have HQQ := Lib.hid (And.intro hq (And.intro hqP (And.intro hss (And.intro hsm (And.intro hscb (And.intro hup hbt))))))
            have HBD := Lib.hid (And.intro hpb (And.intro hsb hmb))
            obtain ⟨hsb1, hsb2⟩ := hsb
            obtain ⟨hpb1, hpb2⟩ := hpb
            clear hscr hpk hpky hf fy ht9 xP xZ xN xC xpr hq hqP hss hsm hscb hup hbt hsc hmb
            go_upto_region 21 with (fail)
            rw [← hwy]
            have HWY := Lib.hid hwy
            clear hwy e0 e1 e2 e3
            generalize wr.heap.size = bt at *
            go_wp2_with fail
            refine HSCR.out.mono ?_
            rintro e w9 ⟨rfl, hpk9, f9⟩
            obtain ⟨xP, xZ, xN, xC, xpr⟩ := HX.out
            obtain ⟨hq, hqP, hss, hsm, hscb, hup, hbt⟩ := HQQ.out
            rw [xpr, xZ, hup] at hpk9
            rw [xpr]
            have y2 := f9.cell_some y2 hbt
            have y3 := f9.cell_some y3 hbt
            have hscr := scr_paid X w9 (stA 1 P) (stA 3 P) (updB sc (q / Z) true) (scB N fst (k + 1)) (MN + posF pr q) (SM + pr q) hpk9 HXX.out.1 HXX.out.2.1 HXX.out.2.2.1 HXX.out.2.2.2 q (by omega) (by rw [xC]; exact cdS_size _ _) (by rw [xZ]; exact stA_lt hqP) (by rw [xZ]; exact stA_lt hqP) (by rw [← hup]; exact updB_same _ _ _)
            rw [xC, HXE.out] at hscr
            have HSCR2 := Lib.hid hscr
            have HPK9 := Lib.hid hpk9
            have HF9 := Lib.hid (HFY.out.trans f9)
            clear hscr hpk9 f9 xP xZ xN xC xpr hq hqP hss hsm hscb hup hbt
            go_wp2_with fail
            refine HSCR2.out.mono ?_
            rintro e w10 ⟨rfl, f10⟩
            have y2 := f10.cell_some y2 (by simp)
            have HPK10 := Lib.hid (HPK9.out.fr f10)
            have HF10 := Lib.hid (HF9.out.trans (f10.mono (by simp)))
            clear f10 y3
            go_wp2_with fail
            go_roundw
            case rel =>
              obtain ⟨hq, hqP, hss, hsm, hscb, hup, hbt⟩ := HQQ.out
              refine ⟨k + 1, updB sc (q / Z) true, by omega, by go_num, by rw [hss], fun i hi => ?_, by rw [hss, hsm]; exact HPK10.out, HF10.out⟩
              by_cases hik : i = k
              · rw [hik, ← hq]; exact updB_same _ _ _
              · exact updB_keep (HSC.out i (by omega))
            case measure => simp [intOf]; omega
          · have e : N = k := by omega
            subst e
            have hkN : ¬ ((N : Int) < (N : Int)) := by omega
            have hs1 : sumN (rotF pr N fst) N = 500 * c0 + 7 * c1 := (sum_rot pr N (by omega) fst).trans HPR.out.sum
            have hs2 : sumN (rotF (posF pr) N fst) N = (c0 : Int) + c1 := (sum_rot (posF pr) N (by omega) fst).trans HPR.out.cnt
            rw [hs1, hs2] at hpk
            rw [hs1]
            have hall : ∀ j, j < P → sc j = true := fun j hj => by
              have hjz : j * Z < N := by rw [HN.out]; exact Nat.mul_lt_mul_of_pos_right hj (by omega)
              obtain ⟨i, hi, he⟩ := rot_surj fst (j * Z) hjz
              have := hsc i hi
              rw [he, Nat.mul_div_left j (by omega)] at this
              exact this
            have hpaid := paid_any X wr _ _ _ _ _ _ hpk
            rw [HXE.out] at hpaid
            have HPAID := Lib.hid hpaid
            have HPK3 := Lib.hid hpk
            have HALL := Lib.hid hall
            have HF3a := Lib.hid hf
            clear hpaid hpk hall hf hlt hk hs1 hs2 hsc
            go_wp2_with fail
            refine HPAID.out.mono ?_
            rintro e w9 ⟨rfl, f9⟩
            have HPK4 := Lib.hid (HPK3.out.fr f9)
            have HF4 := Lib.hid (HF3a.out.trans (f9.mono (by simp)))
            clear f9
            go_wp2_with fail
            go_loopw [26] (fun i wr => ∃ j : Nat, j ≤ P ∧ i = .int .i64 ((j : Int) + 1) ∧ Fr [] w9 wr) (fun i _ => P + 1 - (intOf i).toNat)
            case atStart => exact ⟨0, by omega, by simp, Fr.refl _ _⟩
            case round =>
              obtain ⟨j, hj, rfl, hfj⟩ := hrel
              have hf4 := HF4.out.trans (hfj.mono (by simp))
              have hpbn : pb ∉ [X.x, X.gp, X.gs] := by have := HXE.out; simp; omega
              have q2 := hf4.cell_some HQ8.out.1 hpbn
              have q4 := hf4.cell_some HQ8.out.2.2 hpbn
              by_cases hlt : j < P
              · have hkP2 : (j : Int) + 1 ≤ (P : Int) := by omega
                have hret := return_any X wr _ _ _ _ _ _ (HPK4.out.fr hfj) HXX.out.1 j (by have := HX.out.1; omega) (stA_lt hlt) (stA_lt hlt) (HALL.out j hlt)
                rw [HXE.out] at hret
                have HRET := Lib.hid hret
                have HFJ := Lib.hid hfj
                clear hret hfj hf4 q4 hpbn
                go_wp2_with fail
                refine HRET.out.mono ?_
                rintro e w10 ⟨rfl, rfl⟩
                go_wp2_with fail
                go_roundw
                case rel => exact ⟨j + 1, by omega, by go_num, HFJ.out⟩
                case measure => simp [intOf]; omega
              · have e : P = j := by omega
                subst e
                have hkP2 : ¬ ((P : Int) + 1 ≤ (P : Int)) := by omega
                have HL9 := Lib.hid (HL8.out.fr hf4 (by have := HXE.out; simp; omega))
                have HF9 := Lib.hid (HF8.out.trans' hf4 (by have := HSZ.out; have := HXE.out; simp; omega))
                clear hfj hf4 hpbn hlt hj
                obtain ⟨wq, hwq⟩ : ∃ x, x = wr := ⟨_, rfl⟩
                have HWQ := Lib.hid hwq
                rw [← hwq] at q2 q4 HL9 HF9
                clear hwq
                rw [← HWQ.out]
                go_wp2_with fail
                go_loopw [27, 224] (fun a i wr => Fr [] wq wr ∧ (i = .int .i64 0 ∧ a = .int .i64 0 ∨ i = .int .i64 1 ∧ a = .int .i64 c0 ∨ n = 2 ∧ i = .int .i64 2 ∧ a = .int .i64 ((c0 : Int) + c1))) (fun _ i _ => 2 - (intOf i).toNat)
                case atStart => exact ⟨Fr.refl _ _, .inl ⟨rfl, rfl⟩⟩
                case round =>
                  obtain ⟨hf, hr⟩ := hrel
                  have hl2 := HL9.out.fr hf (by simp)
                  clear q2 q4
                  rcases hr with ⟨rfl, rfl⟩ | ⟨rfl, rfl⟩ | ⟨h2, rfl, rfl⟩
                  · have l0 := hl2.a0
                    have l1 := hl2.a1
                    have l2 := hl2.a2
                    have hn0 : 0 < n := by omega
                    obtain ⟨wz, hwz⟩ : ∃ wz, wz = wr.alloc (.cells #[.int .i64 500, .int .i64 c0, .int .i64 1] 28) := ⟨_, rfl⟩
                    have fz : Fr [] wr wz := by rw [hwz]; exact (Fr.refl [] wr).alloc _
                    have z1 : wz.cell? ⟨wr.heap.size, 1, none⟩ = some (.int .i64 c0) := by rw [hwz]; exact new_cell rfl rfl
                    have HFZ := Lib.hid (hf.trans fz)
                    clear hl2 hf fz
                    go_upto_region 37 with (fail)
                    rw [← hwz]
                    have HWZ := Lib.hid hwz
                    clear hwz
                    generalize wr.heap.size = bz at *
                    clear l0 l1 l2
                    go_wp2_with fail
                    go_roundw
                    case rel => exact ⟨HFZ.out, .inr (.inl ⟨by go_num, by go_num⟩)⟩
                    case measure => simp [intOf]
                  · by_cases h2 : n = 2
                    · obtain ⟨l0, l1, l2⟩ := hl2.b h2
                      have hn1 : (1 : Int) < (n : Int) := by omega
                      have H2 := Lib.hid h2
                      obtain ⟨wz, hwz⟩ : ∃ wz, wz = wr.alloc (.cells #[.int .i64 7, .int .i64 c1, .int .i64 0] 28) := ⟨_, rfl⟩
                      have fz : Fr [] wr wz := by rw [hwz]; exact (Fr.refl [] wr).alloc _
                      have z1 : wz.cell? ⟨wr.heap.size, 1, none⟩ = some (.int .i64 c1) := by rw [hwz]; exact new_cell rfl rfl
                      have HFZ := Lib.hid (hf.trans fz)
                      clear hl2 hf fz h2
                      go_upto_region 37 with (fail)
                      rw [← hwz]
                      have HWZ := Lib.hid hwz
                      clear hwz
                      generalize wr.heap.size = bz at *
                      clear l0 l1 l2
                      go_wp2_with fail
                      go_roundw
                      case rel => exact ⟨HFZ.out, .inr (.inr ⟨H2.out, by go_num, by go_num⟩)⟩
                      case measure => simp [intOf]
                    · have hn1 : ¬ ((1 : Int) < (n : Int)) := by omega
                      have HC1 := Lib.hid (show (c0 : Int) + c1 = (c0 : Int) by have := HPL.out.n; omega)
                      clear h2 hl2
                      have HFF := Lib.hid hf
                      clear hf
                      have hc1e := HC1.out
                      go_wp2_with fail
                      go_ret
                      exact ⟨by first | rfl | simp [hc1e], HF9.out.trans HFF.out⟩
                  · have hn1 : ¬ ((2 : Int) < (n : Int)) := by omega
                    clear h2 hl2
                    have HFF := Lib.hid hf
                    clear hf
                    go_wp2_with fail
                    go_ret
                    exact ⟨rfl, HF9.out.trans HFF.out⟩
  · go_big_quiet (fail)
    obtain ⟨w4, hw4⟩ : ∃ x, x = w3.drewN nq := ⟨_, rfl⟩
    have f4 : Fr [] w3 w4 := by rw [hw4]; exact (Fr.refl [] w3).drewN _
    rw [← hw4]
    have HW4 := Lib.hid hw4
    obtain ⟨c1, hc1⟩ : ∃ c1, c1 = 1 + s3 % (N - c0) := ⟨_, rfl⟩
    have hcn2 : c0 < N := by omega
    have hmi : (s3 : Int) % ((N : Int) - (c0 : Int)) = ((s3 % (N - c0) : Nat) : Int) := by rw [← Int.ofNat_sub (by omega)]; rfl
    have hml2 := Nat.mod_lt s3 (show N - c0 > 0 by omega)
    have hc1i : 1 + (s3 : Int) % ((N : Int) - (c0 : Int)) = (c1 : Int) := by rw [hmi, hc1]; omega
    have hr0 : 0 ≤ (s3 : Int) % ((N : Int) - (c0 : Int)) := by omega
    have hr1 : (s3 : Int) % ((N : Int) - (c0 : Int)) < (N : Int) - (c0 : Int) := by omega
    have hr2 : (N : Int) - (c0 : Int) ≠ 0 := by omega
    have HC1 := Lib.hid (And.intro hc1 hml2)
    replace q0 := f4.cell_some q0 (by simp)
    replace q1 := f4.cell_some q1 (by simp)
    replace q2 := f4.cell_some q2 (by simp)
    replace q3 := f4.cell_some q3 (by simp)
    replace q4 := f4.cell_some q4 (by simp)
    replace g0 := f4.cell_some g0 (by simp)
    replace g1 := f4.cell_some g1 (by simp)
    replace g2 := f4.cell_some g2 (by simp)
    replace a3 := f4.cell_some a3 (by simp)
    replace qf := (f4.frozen (p := ⟨pb, 4, none⟩) (Nat.lt_trans hpgl hgz) (by simp)).trans qf
    have hpz4 : pb < w4.heap.size := lt_of_cell q4
    have hab4 : ab < w4.heap.size := lt_of_cell a3
    have hgl4 : gl < w4.heap.size := lt_of_cell g0
    have HF4 := Lib.hid (HF3.out.trans f4)
    clear hw4 f4 hc1 hmi hml2
    go_wp2_with fail
    refine wp_region_K (S := fun w' => Fr [] w4 w' ∧ w'.cell? ⟨pb, 4, none⟩ = some (.slice (some ⟨gl, 0, none⟩) 1 1) ∧ w'.cell? ⟨ab, 3, none⟩ = some (.int .u8 s3) ∧ w'.cell? ⟨pb, 2, none⟩ = some (.int .i64 P) ∧ w'.cell? ⟨pb, 3, none⟩ = some (.int .i64 Z) ∧ w'.cell? ⟨gl, 1, none⟩ = some (.int .i64 c0)) 22 (by kernel_rfl) ⟨(Fr.refl [] w4).drew, q4, a3, q2, q3, g1⟩ (fun hHeld => ?_)
    refine wpAnyK_take (t := 22) (i := 0) (oi := ⟨some 70, _, _, _, _, _⟩) (v := .pointer (some ⟨pb, 4, none⟩)) (by kernel_rfl) rfl (by kernel_rfl) (by kernel_rfl) (by kernel_rfl) (fun _ _ _ h => h) (Or.inl ⟨by rfl, ?_⟩) hHeld ?_
    · intro w hSw; clear hSw; go_simp; (try (first | (rw [IntKind.wrap_i64]; omega) | exact Int.tmod_eq_emod_of_nonneg (by omega)))
    (try simp only [Act.put, List.setIfInBounds_toArray, List.set_cons_zero, List.set_cons_succ])
    refine wpAnyK_take (t := 22) (i := 1) (oi := ⟨some 71, _, _, _, _, _⟩) (v := .slice (some ⟨gl, 0, none⟩) 1 1) (by kernel_rfl) rfl (by kernel_rfl) (by kernel_rfl) (by kernel_rfl) (fun _ _ _ h => h) (Or.inl ⟨by rfl, ?_⟩) hHeld ?_
    · intro w hSw; have hcF := hSw.2.1; clear hSw; go_simp; (try (first | (rw [IntKind.wrap_i64]; omega) | exact Int.tmod_eq_emod_of_nonneg (by omega)))
    (try simp only [Act.put, List.setIfInBounds_toArray, List.set_cons_zero, List.set_cons_succ])
    refine wpAnyK_take (t := 22) (i := 2) (oi := ⟨some 72, _, _, _, _, _⟩) (v := .pointer (some ⟨ab, 3, none⟩)) (by kernel_rfl) rfl (by kernel_rfl) (by kernel_rfl) (by kernel_rfl) (fun _ _ _ h => h) (Or.inl ⟨by rfl, ?_⟩) hHeld ?_
    · intro w hSw; clear hSw; go_simp; (try (first | (rw [IntKind.wrap_i64]; omega) | exact Int.tmod_eq_emod_of_nonneg (by omega)))
    (try simp only [Act.put, List.setIfInBounds_toArray, List.set_cons_zero, List.set_cons_succ])
    refine wpAnyK_take (t := 22) (i := 3) (oi := ⟨some 73, _, _, _, _, _⟩) (v := .int .u8 s3) (by kernel_rfl) rfl (by kernel_rfl) (by kernel_rfl) (by kernel_rfl) (fun _ _ _ h => h) (Or.inl ⟨by rfl, ?_⟩) hHeld ?_
    · intro w hSw; have hcF := hSw.2.2.1; clear hSw; go_simp; (try (first | (rw [IntKind.wrap_i64]; omega) | exact Int.tmod_eq_emod_of_nonneg (by omega)))
    (try simp only [Act.put, List.setIfInBounds_toArray, List.set_cons_zero, List.set_cons_succ])
    refine wpAnyK_take (t := 22) (i := 4) (oi := ⟨some 74, _, _, _, _, _⟩) (v := .int .i64 s3) (by kernel_rfl) rfl (by kernel_rfl) (by kernel_rfl) (by kernel_rfl) (fun _ _ _ h => h) (Or.inl ⟨by rfl, ?_⟩) hHeld ?_
    · intro w hSw; clear hSw; go_simp; (try (first | (rw [IntKind.wrap_i64]; omega) | exact Int.tmod_eq_emod_of_nonneg (by omega)))
    (try simp only [Act.put, List.setIfInBounds_toArray, List.set_cons_zero, List.set_cons_succ])
    refine wpAnyK_take (t := 22) (i := 5) (oi := ⟨some 75, _, _, _, _, _⟩) (v := .pointer (some ⟨pb, 2, none⟩)) (by kernel_rfl) rfl (by kernel_rfl) (by kernel_rfl) (by kernel_rfl) (fun _ _ _ h => h) (Or.inl ⟨by rfl, ?_⟩) hHeld ?_
    · intro w hSw; clear hSw; go_simp; (try (first | (rw [IntKind.wrap_i64]; omega) | exact Int.tmod_eq_emod_of_nonneg (by omega)))
    (try simp only [Act.put, List.setIfInBounds_toArray, List.set_cons_zero, List.set_cons_succ])
    refine wpAnyK_take (t := 22) (i := 6) (oi := ⟨some 76, _, _, _, _, _⟩) (v := .int .i64 P) (by kernel_rfl) rfl (by kernel_rfl) (by kernel_rfl) (by kernel_rfl) (fun _ _ _ h => h) (Or.inl ⟨by rfl, ?_⟩) hHeld ?_
    · intro w hSw; have hcF := hSw.2.2.2.1; clear hSw; go_simp; (try (first | (rw [IntKind.wrap_i64]; omega) | exact Int.tmod_eq_emod_of_nonneg (by omega)))
    (try simp only [Act.put, List.setIfInBounds_toArray, List.set_cons_zero, List.set_cons_succ])
    refine wpAnyK_take (t := 22) (i := 7) (oi := ⟨some 77, _, _, _, _, _⟩) (v := .pointer (some ⟨pb, 3, none⟩)) (by kernel_rfl) rfl (by kernel_rfl) (by kernel_rfl) (by kernel_rfl) (fun _ _ _ h => h) (Or.inl ⟨by rfl, ?_⟩) hHeld ?_
    · intro w hSw; clear hSw; go_simp; (try (first | (rw [IntKind.wrap_i64]; omega) | exact Int.tmod_eq_emod_of_nonneg (by omega)))
    (try simp only [Act.put, List.setIfInBounds_toArray, List.set_cons_zero, List.set_cons_succ])
    refine wpAnyK_take (t := 22) (i := 8) (oi := ⟨some 78, _, _, _, _, _⟩) (v := .int .i64 Z) (by kernel_rfl) rfl (by kernel_rfl) (by kernel_rfl) (by kernel_rfl) (fun _ _ _ h => h) (Or.inl ⟨by rfl, ?_⟩) hHeld ?_
    · intro w hSw; have hcF := hSw.2.2.2.2.1; clear hSw; go_simp; (try (first | (rw [IntKind.wrap_i64]; omega) | exact Int.tmod_eq_emod_of_nonneg (by omega)))
    (try simp only [Act.put, List.setIfInBounds_toArray, List.set_cons_zero, List.set_cons_succ])
    refine wpAnyK_take (t := 22) (i := 9) (oi := ⟨some 79, _, _, _, _, _⟩) (v := .int .i64 N) (by kernel_rfl) rfl (by kernel_rfl) (by kernel_rfl) (by kernel_rfl) (fun _ _ _ h => h) (Or.inl ⟨by rfl, ?_⟩) hHeld ?_
    · intro w hSw; clear hSw; go_simp; (try (first | (rw [IntKind.wrap_i64]; omega) | exact Int.tmod_eq_emod_of_nonneg (by omega)))
    (try simp only [Act.put, List.setIfInBounds_toArray, List.set_cons_zero, List.set_cons_succ])
    refine wpAnyK_take (t := 22) (i := 10) (oi := ⟨some 80, _, _, _, _, _⟩) (v := .pointer (some ⟨pb, 4, none⟩)) (by kernel_rfl) rfl (by kernel_rfl) (by kernel_rfl) (by kernel_rfl) (fun _ _ _ h => h) (Or.inl ⟨by rfl, ?_⟩) hHeld ?_
    · intro w hSw; clear hSw; go_simp; (try (first | (rw [IntKind.wrap_i64]; omega) | exact Int.tmod_eq_emod_of_nonneg (by omega)))
    (try simp only [Act.put, List.setIfInBounds_toArray, List.set_cons_zero, List.set_cons_succ])
    refine wpAnyK_take (t := 22) (i := 11) (oi := ⟨some 81, _, _, _, _, _⟩) (v := .slice (some ⟨gl, 0, none⟩) 1 1) (by kernel_rfl) rfl (by kernel_rfl) (by kernel_rfl) (by kernel_rfl) (fun _ _ _ h => h) (Or.inl ⟨by rfl, ?_⟩) hHeld ?_
    · intro w hSw; have hcF := hSw.2.1; clear hSw; go_simp; (try (first | (rw [IntKind.wrap_i64]; omega) | exact Int.tmod_eq_emod_of_nonneg (by omega)))
    (try simp only [Act.put, List.setIfInBounds_toArray, List.set_cons_zero, List.set_cons_succ])
    refine wpAnyK_take (t := 22) (i := 12) (oi := ⟨some 82, _, _, _, _, _⟩) (v := .pointer (some ⟨gl, 0, none⟩)) (by kernel_rfl) rfl (by kernel_rfl) (by kernel_rfl) (by kernel_rfl) (fun _ _ _ h => h) (Or.inl ⟨by rfl, ?_⟩) hHeld ?_
    · intro w hSw; clear hSw; go_simp; (try (first | (rw [IntKind.wrap_i64]; omega) | exact Int.tmod_eq_emod_of_nonneg (by omega)))
    (try simp only [Act.put, List.setIfInBounds_toArray, List.set_cons_zero, List.set_cons_succ])
    refine wpAnyK_take (t := 22) (i := 13) (oi := ⟨some 83, _, _, _, _, _⟩) (v := .pointer (some ⟨gl, 1, none⟩)) (by kernel_rfl) rfl (by kernel_rfl) (by kernel_rfl) (by kernel_rfl) (fun _ _ _ h => h) (Or.inl ⟨by rfl, ?_⟩) hHeld ?_
    · intro w hSw; clear hSw; go_simp; (try (first | (rw [IntKind.wrap_i64]; omega) | exact Int.tmod_eq_emod_of_nonneg (by omega)))
    (try simp only [Act.put, List.setIfInBounds_toArray, List.set_cons_zero, List.set_cons_succ])
    refine wpAnyK_take (t := 22) (i := 14) (oi := ⟨some 84, _, _, _, _, _⟩) (v := .int .i64 c0) (by kernel_rfl) rfl (by kernel_rfl) (by kernel_rfl) (by kernel_rfl) (fun _ _ _ h => h) (Or.inl ⟨by rfl, ?_⟩) hHeld ?_
    · intro w hSw; have hcF := hSw.2.2.2.2.2; clear hSw; go_simp; (try (first | (rw [IntKind.wrap_i64]; omega) | exact Int.tmod_eq_emod_of_nonneg (by omega)))
    (try simp only [Act.put, List.setIfInBounds_toArray, List.set_cons_zero, List.set_cons_succ])
    refine wpAnyK_take (t := 22) (i := 15) (oi := ⟨some 85, _, _, _, _, _⟩) (v := .int .i64 ((N : Int) - c0)) (by kernel_rfl) rfl (by kernel_rfl) (by kernel_rfl) (by kernel_rfl) (fun _ _ _ h => h) (Or.inl ⟨by rfl, ?_⟩) hHeld ?_
    · intro w hSw; clear hSw; go_simp; (try (first | (rw [IntKind.wrap_i64]; omega) | exact Int.tmod_eq_emod_of_nonneg (by omega)))
    (try simp only [Act.put, List.setIfInBounds_toArray, List.set_cons_zero, List.set_cons_succ])
    refine wpAnyK_take (t := 22) (i := 16) (oi := ⟨some 86, _, _, _, _, _⟩) (v := .int .i64 ((s3 : Int) % ((N : Int) - c0))) (by kernel_rfl) rfl (by kernel_rfl) (by kernel_rfl) (by kernel_rfl) (fun _ _ _ h => h) (Or.inl ⟨by rfl, ?_⟩) hHeld ?_
    · intro w hSw; clear hSw; go_simp; (try (first | (rw [IntKind.wrap_i64]; omega) | exact Int.tmod_eq_emod_of_nonneg (by omega)))
    (try simp only [Act.put, List.setIfInBounds_toArray, List.set_cons_zero, List.set_cons_succ])
    refine wpAnyK_take (t := 22) (i := 17) (oi := ⟨some 87, _, _, _, _, _⟩) (v := .int .i64 c1) (by kernel_rfl) rfl (by kernel_rfl) (by kernel_rfl) (by kernel_rfl) (fun _ _ _ h => h) (Or.inl ⟨by rfl, ?_⟩) hHeld ?_
    · intro w hSw; clear hSw; go_simp; (try (first | (rw [IntKind.wrap_i64]; omega) | exact Int.tmod_eq_emod_of_nonneg (by omega)))
    (try simp only [Act.put, List.setIfInBounds_toArray, List.set_cons_zero, List.set_cons_succ])
    refine wpAnyK_take (t := 22) (i := 18) (oi := ⟨some 88, _, _, _, _, _⟩) (v := .agg #[.int .i64 7, .int .i64 c1, .int .i64 0]) (by kernel_rfl) rfl (by kernel_rfl) (by kernel_rfl) (by kernel_rfl) (fun _ _ _ h => h) (Or.inl ⟨by rfl, ?_⟩) hHeld ?_
    · intro w hSw; clear hSw; go_simp; (try (first | (rw [IntKind.wrap_i64]; omega) | exact Int.tmod_eq_emod_of_nonneg (by omega)))
    (try simp only [Act.put, List.setIfInBounds_toArray, List.set_cons_zero, List.set_cons_succ])
    refine wpAnyK_one (t := 22) (i := 19) (o := ⟨some 89, _, _, _, _, _⟩) (by kernel_rfl) rfl (fun K hK => ?_)
    rw [if_pos (by rfl)]
    go_simp
    refine hK.out _ _ (fun _ => ⟨hHeld.1.alloc _, ((Fr.refl [] _).alloc _).cell_some hHeld.2.1 (by simp), ((Fr.refl [] _).alloc _).cell_some hHeld.2.2.1 (by simp), ((Fr.refl [] _).alloc _).cell_some hHeld.2.2.2.1 (by simp), ((Fr.refl [] _).alloc _).cell_some hHeld.2.2.2.2.1 (by simp), ((Fr.refl [] _).alloc _).cell_some hHeld.2.2.2.2.2 (by simp)⟩) ?_
    clear hK K hHeld
    (try simp only [Act.put, List.setIfInBounds_toArray, List.set_cons_zero, List.set_cons_succ])
    obtain ⟨wa, hwa⟩ : ∃ x, x = (w4.alloc (.cells #[.int .i64 7, .int .i64 c1, .int .i64 0] 28)).drew := ⟨_, rfl⟩
    obtain ⟨lb, hlb⟩ : ∃ x, x = w4.heap.size := ⟨_, rfl⟩
    have fa : Fr [] w4 wa := by rw [hwa]; exact ((Fr.refl [] w4).alloc _).drew
    have m0 : wa.cell? ⟨lb, 0, none⟩ = some (.int .i64 7) := by rw [hwa]; exact new_cell hlb rfl
    have m1 : wa.cell? ⟨lb, 1, none⟩ = some (.int .i64 c1) := by rw [hwa]; exact new_cell hlb rfl
    have m2 : wa.cell? ⟨lb, 2, none⟩ = some (.int .i64 0) := by rw [hwa]; exact new_cell hlb rfl
    rw [← hwa, ← hlb]
    have HWA := Lib.hid (And.intro hwa hlb)
    have hglb : gl < lb := by omega
    clear hwa hlb
    obtain ⟨i0, hi0, hz0, hz1, hz2⟩ := info_parts infoLv
    refine wpAnyK_one (t := 22) (i := 20) (o := ⟨some 90, _, _, _, _, _⟩) (by kernel_rfl) rfl (fun K hK => ?_)
    rw [if_pos (by rfl)]
    refine wp_append_grows _ (.tmp 71) (.tmp 89) 24 rfl 28 i0 (.agg zL) 3 24 Tryd.underlying24 hi0 hz0 hz1 hz2 rfl (by decide) ⟨gl, 0, none⟩ 1 1 [.int .i64 500, .int .i64 c0, .int .i64 1] rfl rfl (three_cells (fa.cell_some g0 (by simp)) (fa.cell_some g1 (by simp)) (fa.cell_some g2 (by simp))) ⟨lb, 0, none⟩ 1 1 [.int .i64 7, .int .i64 c1, .int .i64 0] rfl rfl (three_cells m0 m1 m2) (by omega) (by unfold maxLen; omega) (by omega) ?_
    intro v' wb hown hgrow
    obtain ⟨g', cap', rfl, hg1', hg2'⟩ : ∃ g' cap', v' = .slice (some ⟨g', 0, none⟩) 2 cap' ∧ wa.heap.size ≤ g' ∧ g' < wb.heap.size := by
      rcases hown.2 with ⟨_, h2⟩ | ⟨g', cap', cur, hv, hb, hh, _⟩
      · omega
      · exact ⟨g', cap', hv, hb, (Array.getElem?_eq_some_iff.1 hh).1⟩
    have fb : Fr [] w4 wb := fa.grown hgrow (by intro k hk; cases hk)
    have lv6 := fun j (hj : j < 6) => World.ownsRow.cellAt hown j (by omega)
    have r0 : wb.cell? ⟨g', 0, none⟩ = some (.int .i64 500) := lv6 0 (by omega)
    have r1 : wb.cell? ⟨g', 1, none⟩ = some (.int .i64 c0) := lv6 1 (by omega)
    have r2 : wb.cell? ⟨g', 2, none⟩ = some (.int .i64 1) := lv6 2 (by omega)
    have r3 : wb.cell? ⟨g', 3, none⟩ = some (.int .i64 7) := lv6 3 (by omega)
    have r4 : wb.cell? ⟨g', 4, none⟩ = some (.int .i64 c1) := lv6 4 (by omega)
    have r5 : wb.cell? ⟨g', 5, none⟩ = some (.int .i64 0) := lv6 5 (by omega)
    have hsa := fa.size
    have hpg : pb < g' := by omega
    have b4 := fb.cell_some q4 (by simp)
    have bf := (fb.frozen (p := ⟨pb, 4, none⟩) hpz4 (by simp)).trans qf
    have b0' := fb.cell_some q0 (by simp)
    have b1' := fb.cell_some q1 (by simp)
    have b2' := fb.cell_some q2 (by simp)
    have b3' := fb.cell_some q3 (by simp)
    have HFB := Lib.hid (HF4.out.trans fb)
    refine hK.out _ _ (fun _ => ⟨fb, b4, fb.cell_some a3 (by simp), b2', b3', fb.cell_some g1 (by simp)⟩) ?_
    clear hK K hown hgrow fa m0 m1 m2 lv6 hi0 hz0 hz1 hz2
    (try simp only [Act.put, List.setIfInBounds_toArray, List.set_cons_zero, List.set_cons_succ])
    refine wpAnyK_take (t := 22) (i := 21) (oi := ⟨some 91, _, _, _, _, _⟩) (v := .pointer (some ⟨pb, 4, none⟩)) (by kernel_rfl) rfl (by kernel_rfl) (by kernel_rfl) (by kernel_rfl) (fun _ _ _ h => h) (Or.inl ⟨by rfl, ?_⟩) ⟨fb, b4, fb.cell_some a3 (by simp), b2', b3', fb.cell_some g1 (by simp)⟩ ?_
    · intro w hSw; clear hSw; go_simp
    (try simp only [Act.put, List.setIfInBounds_toArray, List.set_cons_zero, List.set_cons_succ])
    clear q0 q1 q2 q3 q4 g0 g1 g2 a3 qf fb
    refine wpAnyK_one (t := 22) (i := 22) (o := ⟨none, _, _, _, _, _⟩) (by kernel_rfl) rfl (fun K hK => ?_)
    rw [if_pos (by rfl)]
    go_simp
    refine hK.out _ _ (fun h => absurd rfl h) ?_
    clear hK K
    (try simp only [Act.put, List.setIfInBounds_toArray, List.set_cons_zero, List.set_cons_succ])
    refine wpAnyK_done (by kernel_rfl) ?_ _
    obtain ⟨w5, hw5⟩ : ∃ x, x = wb.setCell ⟨pb, 4, none⟩ (.slice (some ⟨g', 0, none⟩) 2 cap') := ⟨_, rfl⟩
    rw [← hw5]
    have HW5 := Lib.hid hw5
    have f5 : Fr [pb] wb w5 := by rw [hw5]; exact (Fr.refl [pb] wb).setCell (.inl (by simp)) _
    obtain ⟨n, hn⟩ : ∃ n, n = 2 := ⟨_, rfl⟩
    obtain ⟨cap, hcap⟩ : ∃ cap, cap = cap' := ⟨_, rfl⟩
    obtain ⟨g, hg⟩ : ∃ g, g = g' := ⟨_, rfl⟩
    have hlv : LvAt w5 g n c0 c1 := ⟨by rw [hg]; exact f5.cell_some r0 (by simp; omega), by rw [hg]; exact f5.cell_some r1 (by simp; omega), by rw [hg]; exact f5.cell_some r2 (by simp; omega), fun h => ⟨by rw [hg]; exact f5.cell_some r3 (by simp; omega), by rw [hg]; exact f5.cell_some r4 (by simp; omega), by rw [hg]; exact f5.cell_some r5 (by simp; omega)⟩⟩
    have HPL := Lib.hid (show Pl P Z n c0 c1 from ⟨⟨hP2, hP3⟩, ⟨hZ2, hZ3⟩, .inr ⟨hn, by have := HC1.out.1; omega⟩, ⟨by have := HC0.out.1; omega, by have := HN.out; omega⟩, by have := HN.out; have := HC1.out; omega⟩)
    have q0 : w5.cell? ⟨pb, 0, none⟩ = some (.string dkS) := by rw [hw5]; exact (set_other _ _ _ _ _ (by omega)).trans b0'
    have q1 : w5.cell? ⟨pb, 1, none⟩ = some (.int .i64 10) := by rw [hw5]; exact (set_other _ _ _ _ _ (by omega)).trans b1'
    have q2 : w5.cell? ⟨pb, 2, none⟩ = some (.int .i64 P) := by rw [hw5]; exact (set_other _ _ _ _ _ (by omega)).trans b2'
    have q3 : w5.cell? ⟨pb, 3, none⟩ = some (.int .i64 Z) := by rw [hw5]; exact (set_other _ _ _ _ _ (by omega)).trans b3'
    have q4 : w5.cell? ⟨pb, 4, none⟩ = some (.slice (some ⟨g, 0, none⟩) n cap) := by rw [hw5, hg, hn, hcap]; exact set_same _ _ _ _ _ b4
    have hpg2 : pb < g := by omega
    have HF5 := Lib.hid (HFB.out.trans' f5 (by have := HAB.out; simp; omega))
    have HFIN := Lib.hid (And.intro hn (And.intro hcap hg))
    clear hw5 f5 hn hcap hg r0 r1 r2 r3 r4 r5 b0' b1' b2' b3' b4 bf hpg hg1' hg2' hsa hpz4 hab4 hgl4 hglb hc1i hr0 hr1 hr2 hcn2

    have c12 : 1 ≤ n ∧ n ≤ 2 := by rcases HPL.out.n with h | h <;> omega
    obtain ⟨nn1, nn2⟩ := c12
    obtain ⟨_, _, _, _, _, _, i1, _, i3⟩ := HPL.out.i
    rw [hNi] at i3
    have hpl5 : pb < g := by omega
    have HQ := Lib.hid (And.intro q0 (And.intro q1 (And.intro q2 (And.intro q3 q4))))
    have HPAY := Lib.hid (payout_any dkS P Z g n cap c0 c1 w5 rfl HPL.out hlv)
    have HLV := Lib.hid hlv
    clear hlv
    go_wp2_with fail
    refine HPAY.out.mono ?_
    rintro e w6 ⟨rfl, f6⟩
    clear q0 q1 q2 q3 q4
    obtain ⟨q0, q1, q2, q3, q4⟩ := HQ.out
    have q0 := f6.cell_some q0 (by simp)
    have q1 := f6.cell_some q1 (by simp)
    have q2 := f6.cell_some q2 (by simp)
    have q3 := f6.cell_some q3 (by simp)
    have q4 := f6.cell_some q4 (by simp)
    have HQ6 := Lib.hid (And.intro q0 (And.intro q1 (And.intro q2 (And.intro q3 q4))))
    have HL6 := Lib.hid (HLV.out.fr f6 (by simp))
    have HF6 := Lib.hid (HF5.out.trans f6)
    have hw6 : 0 < w6.heap.size := by have q1 := HF6.out.size; have q2 := HAB.out; have q3 := HW.out; omega
    have HBLD := Lib.hid (build_any dkS P Z g n cap c0 c1 N sd w6 rfl HPL.out HN.out HL6.out (HT.out.fr HF6.out) hw6 hsd)
    clear f6 hw6
    go_wp2_with fail
    refine HBLD.out.mono ?_
    rintro e w7 ⟨gt, pr, rfl, hgt6, ht7, hpr7, f7⟩
    clear q0 q1 q2 q3 q4
    obtain ⟨q0, q1, q2, q3, q4⟩ := HQ6.out
    have hg6 : g < w6.heap.size := HL6.out.lt
    have q0 := f7.cell_some q0 (by simp)
    have q1 := f7.cell_some q1 (by simp)
    have q2 := f7.cell_some q2 (by simp)
    have q3 := f7.cell_some q3 (by simp)
    have q4 := f7.cell_some q4 (by simp)
    have HQ7 := Lib.hid (And.intro q0 (And.intro q1 (And.intro q2 (And.intro q3 q4))))
    have HL7 := Lib.hid (HL6.out.fr f7 (by simp))
    have HF7 := Lib.hid (HF6.out.trans f7)
    have hggt : g < gt := by omega
    have hgt7 := ht7.lt
    have HPN := Lib.hid (pnew_any dkS P Z g n cap c0 c1 gt N sd pr w7 rfl HPL.out HN.out HL7.out ht7 (fun i hi => hpr7.bd i hi))
    have HT7 := Lib.hid ht7
    have HPR := Lib.hid hpr7
    clear f7 ht7 hpr7 hgt6 hg6
    go_wp2_with fail
    refine HPN.out.mono ?_
    rintro e w8 ⟨X, rfl, ⟨xP, xZ, xN, xC, xpr⟩, ⟨xb1, xb2, xb3⟩, hpk, f8⟩
    clear q0 q1 q2 q3 q4
    obtain ⟨q0, q1, q2, q3, q4⟩ := HQ7.out
    have q2 := f8.cell_some q2 (by simp)
    have q3 := f8.cell_some q3 (by simp)
    have q4 := f8.cell_some q4 (by simp)
    have HQ8 := Lib.hid (And.intro q2 (And.intro q3 q4))
    have HL8 := Lib.hid (HL7.out.fr f8 (by simp))
    have HT8 := Lib.hid (HT7.out.fr f8 (by simp))
    have HF8 := Lib.hid (HF7.out.trans f8)
    have HPK := Lib.hid hpk
    have HX := Lib.hid (And.intro xP (And.intro xZ (And.intro xN (And.intro xC xpr))))
    have hxb : gt < X.x ∧ gt < X.gp ∧ gt < X.gs := ⟨by omega, by omega, by omega⟩
    obtain ⟨x1, x2, x3⟩ := hxb
    have HSZ := Lib.hid (show w.heap.size ≤ X.x ∧ w.heap.size ≤ X.gp ∧ w.heap.size ≤ X.gs from by have := HF7.out.size; omega)
    have hXP4 : X.P ≤ 4 := by omega
    have hXN : X.N = X.P * X.Z := by rw [xN, xP, xZ, HN.out]
    have hXZ : 0 < X.Z := by omega
    have hXN36 : X.N ≤ 36 := by omega
    have HXX := Lib.hid (And.intro hXP4 (And.intro hXN (And.intro hXZ hXN36)))
    clear hpk f8 q0 q1 xP xZ xN xC xpr xb1 xb2 xb3 hXP4 hXN hXZ hXN36
    generalize hxx : X.x = xx at *
    have HXE := Lib.hid hxx
    clear hxx
    go_wp2_with fail
    go_loopw [14] (fun i wr => ∃ k : Nat, k ≤ P ∧ i = .int .i64 ((k : Int) + 1) ∧ PkAt X wr (stA 1 k) (stA 3 k) (fun _ => false) (fun _ => false) 0 0 ∧ Fr [X.x, X.gp, X.gs] w8 wr) (fun i _ => P + 1 - (intOf i).toNat)
    case atStart => exact ⟨0, by omega, by simp, by rw [stA_zero, stA_zero]; exact HPK.out, Fr.refl _ _⟩
    case round =>
      obtain ⟨k, hk, rfl, hpk, hf⟩ := hrel
      have hf1 : pb ∉ [X.x, X.gp, X.gs] := by have := HXE.out; simp; omega
      clear q2 q3 q4
      have q2 := hf.cell_some HQ8.out.1 hf1
      have q3 := hf.cell_some HQ8.out.2.1 hf1
      by_cases hlt : k < P
      · have hkP : (k : Int) + 1 ≤ (P : Int) := by omega
        obtain ⟨kz, hkz⟩ : ∃ kz, kz = k * Z := ⟨_, rfl⟩
        have hkzi : (k : Int) * (Z : Int) = (kz : Int) := by rw [hkz, Int.natCast_mul]
        have hkzN : kz < N := by
          have h1 : (k + 1) * Z ≤ P * Z := Nat.mul_le_mul_right Z hlt
          rw [Nat.add_mul, ← HN.out] at h1
          omega
        have hkd : kz / Z = k := by rw [hkz]; exact Nat.mul_div_left k (by omega)
        have ht9 := HT8.out.fr hf (by have := HXE.out; simp; omega)
        have e3 := ht9.c3 kz hkzN
        obtain ⟨xP, xZ, xN, xC, xpr⟩ := HX.out
        have hscr := scr_state X wr (stA 1 k) (stA 3 k) (fun _ => false) (fun _ => false) 0 0 hpk HXX.out.1 HXX.out.2.1 HXX.out.2.2.1 HXX.out.2.2.2 kz (by omega) (by rw [xC]; exact cdS_size _ _) (by rw [xZ, hkd]; exact stA_ge (Nat.le_refl _))
        rw [xC, HXE.out] at hscr
        have HSCR := Lib.hid hscr
        have HPK1 := Lib.hid hpk
        have HF1 := Lib.hid hf
        have HKZ := Lib.hid (And.intro hkz hkd)
        have hkzNi : (kz : Int) < (N : Int) := by omega
        clear hscr hpk hf ht9 xP xZ xN xC xpr hkz hkd
        go_wp2_with fail
        refine HSCR.out.mono ?_
        rintro e w9 ⟨rfl, f9⟩
        have hact := activate_any X w9 (stA 1 k) (stA 3 k) (fun _ => false) (fun _ => false) 0 0 (HPK1.out.fr f9) HXX.out.1 k (by have := HX.out.1; omega) (stA_ge (Nat.le_refl _))
        rw [HXE.out, stA_step, stA_step] at hact
        have HACT := Lib.hid hact
        have HF9 := Lib.hid f9
        clear hact f9 e3 q2 q3
        go_wp2_with fail
        refine HACT.out.mono ?_
        rintro e w10 ⟨rfl, hpk10, f10⟩
        have HPK10 := Lib.hid hpk10
        have HF10 := Lib.hid ((HF1.out.trans (HF9.out.mono (by simp))).trans (f10.mono (by simp)))
        clear hpk10 f10
        go_wp2_with fail
        go_roundw
        case rel => exact ⟨k + 1, by omega, by go_num, HPK10.out, HF10.out⟩
        case measure => simp [intOf]; omega
      · have e : P = k := by omega
        subst e
        have hkP : ¬ ((P : Int) + 1 ≤ (P : Int)) := by omega
        clear hlt hk

        have HPK2 := Lib.hid hpk
        have HF2a := Lib.hid hf
        clear hpk hf q3 hf1
        go_wp2_with fail
        go_loopw [17, 163] (fun a i wr => ∃ (k : Nat) (sc : Nat → Bool), k ≤ N ∧ i = .int .i64 k ∧ a = .int .i64 (sumN (rotF pr N fst) k) ∧ (∀ i, i < k → sc ((i + fst) % N / Z) = true) ∧ PkAt X wr (stA 1 P) (stA 3 P) sc (scB N fst k) (sumN (rotF (posF pr) N fst) k) (sumN (rotF pr N fst) k) ∧ Fr [X.x, X.gp, X.gs] w8 wr) (fun _ i _ => N - (intOf i).toNat)
        case atStart => exact ⟨0, fun _ => false, by omega, rfl, rfl, fun i hi => by omega, by
          have e : scB N fst 0 = fun _ => false := by funext j; exact scB_zero _ _ _
          rw [e]; exact HPK2.out, HF2a.out⟩
        case round =>
          obtain ⟨k, sc, hk, rfl, rfl, hsc, hpk, hf⟩ := hrel
          clear q2
          by_cases hlt : k < N
          · have hkN : (k : Int) < (N : Int) := by omega
            obtain ⟨q, hq⟩ : ∃ q, q = (k + fst) % N := ⟨_, rfl⟩
            have hqN : q < N := by rw [hq]; exact Nat.mod_lt _ (by omega)
            have hqi : ((k : Int) + (fst : Int)) % (N : Int) = (q : Int) := by rw [hq]; simp
            have hqP : q / Z < P := pk_div HN.out (by omega) hqN
            have hfi : (fst : Int) < 256 := by omega
            have hqNi : (q : Int) < (N : Int) := by omega
            have ht9 := HT8.out.fr hf (by have := HXE.out; simp; omega)
            have e0 := ht9.c0 q hqN
            have e1 := ht9.c1 q hqN
            have e2 := ht9.c2 q hqN
            have e3 := ht9.c3 q hqN
            have hpb := HPR.out.bd q hqN
            have hsb := sumN_bd (rotF pr N fst) 500 k (fun i hi => HPR.out.bd _ (Nat.mod_lt _ (by omega)))
            have hmb := sumN_bd (rotF (posF pr) N fst) 1 k (fun i hi => by unfold rotF posF; split <;> omega)
            have hss := sum_step pr N fst k
            have hsm := sum_step (posF pr) N fst k
            have hscb := scB_new (a := fst) hlt
            have hup := updB_scB N fst k
            rw [← hq] at hss hsm hscb hup
            generalize sumN (rotF pr N fst) k = SM at *
            generalize sumN (rotF (posF pr) N fst) k = MN at *
            obtain ⟨wy, hwy⟩ : ∃ wy, wy = wr.alloc (.cells #[.int .i64 ((q : Int) / (Z : Int) + 1), .int .i64 ((q : Int) % (Z : Int) + 1), .int .i64 (pr q), .string (cdS sd q)] 40) := ⟨_, rfl⟩
            have fy : Fr [] wr wy := by rw [hwy]; exact (Fr.refl [] wr).alloc _
            have y2 : wy.cell? ⟨wr.heap.size, 2, none⟩ = some (.int .i64 (pr q)) := by rw [hwy]; exact new_cell rfl rfl
            have y3 : wy.cell? ⟨wr.heap.size, 3, none⟩ = some (.string (cdS sd q)) := by rw [hwy]; exact new_cell rfl rfl
            have hpky := hpk.fr fy
            obtain ⟨xP, xZ, xN, xC, xpr⟩ := HX.out
            have hbt : wr.heap.size ∉ [X.x, X.gp, X.gs] := by have h1 := hpk.lt; have h2 := hpk.pa.lt; have h3 := hpk.bo.lt; simp; omega
            have hscr := scr_ok X wy (stA 1 P) (stA 3 P) sc (scB N fst k) MN SM hpky HXX.out.1 HXX.out.2.1 HXX.out.2.2.1 HXX.out.2.2.2 q (by omega) (by rw [xC]; exact cdS_size _ _) (by rw [xpr]; exact hpb) (by omega) (by omega) (by rw [xZ]; exact stA_lt hqP) (by rw [xZ]; exact stA_lt hqP) hscb
            rw [xC, HXE.out] at hscr
            have HSCR := Lib.hid hscr
            have HFY := Lib.hid (hf.trans (fy.mono (by simp)))
            have HSC := Lib.hid hsc
            have HQQ := Lib.hid (And.intro hq (And.intro hqP (And.intro hss (And.intro hsm (And.intro hscb (And.intro hup hbt))))))
            have HBD := Lib.hid (And.intro hpb (And.intro hsb hmb))
            obtain ⟨hsb1, hsb2⟩ := hsb
            obtain ⟨hpb1, hpb2⟩ := hpb
            clear hscr hpk hpky hf fy ht9 xP xZ xN xC xpr hq hqP hss hsm hscb hup hbt hsc hmb
            go_upto_region 21 with (fail)
            rw [← hwy]
            have HWY := Lib.hid hwy
            clear hwy e0 e1 e2 e3
            generalize wr.heap.size = bt at *
            go_wp2_with fail
            refine HSCR.out.mono ?_
            rintro e w9 ⟨rfl, hpk9, f9⟩
            obtain ⟨xP, xZ, xN, xC, xpr⟩ := HX.out
            obtain ⟨hq, hqP, hss, hsm, hscb, hup, hbt⟩ := HQQ.out
            rw [xpr, xZ, hup] at hpk9
            rw [xpr]
            have y2 := f9.cell_some y2 hbt
            have y3 := f9.cell_some y3 hbt
            have hscr := scr_paid X w9 (stA 1 P) (stA 3 P) (updB sc (q / Z) true) (scB N fst (k + 1)) (MN + posF pr q) (SM + pr q) hpk9 HXX.out.1 HXX.out.2.1 HXX.out.2.2.1 HXX.out.2.2.2 q (by omega) (by rw [xC]; exact cdS_size _ _) (by rw [xZ]; exact stA_lt hqP) (by rw [xZ]; exact stA_lt hqP) (by rw [← hup]; exact updB_same _ _ _)
            rw [xC, HXE.out] at hscr
            have HSCR2 := Lib.hid hscr
            have HPK9 := Lib.hid hpk9
            have HF9 := Lib.hid (HFY.out.trans f9)
            clear hscr hpk9 f9 xP xZ xN xC xpr hq hqP hss hsm hscb hup hbt
            go_wp2_with fail
            refine HSCR2.out.mono ?_
            rintro e w10 ⟨rfl, f10⟩
            have y2 := f10.cell_some y2 (by simp)
            have HPK10 := Lib.hid (HPK9.out.fr f10)
            have HF10 := Lib.hid (HF9.out.trans (f10.mono (by simp)))
            clear f10 y3
            go_wp2_with fail
            go_roundw
            case rel =>
              obtain ⟨hq, hqP, hss, hsm, hscb, hup, hbt⟩ := HQQ.out
              refine ⟨k + 1, updB sc (q / Z) true, by omega, by go_num, by rw [hss], fun i hi => ?_, by rw [hss, hsm]; exact HPK10.out, HF10.out⟩
              by_cases hik : i = k
              · rw [hik, ← hq]; exact updB_same _ _ _
              · exact updB_keep (HSC.out i (by omega))
            case measure => simp [intOf]; omega
          · have e : N = k := by omega
            subst e
            have hkN : ¬ ((N : Int) < (N : Int)) := by omega
            have hs1 : sumN (rotF pr N fst) N = 500 * c0 + 7 * c1 := (sum_rot pr N (by omega) fst).trans HPR.out.sum
            have hs2 : sumN (rotF (posF pr) N fst) N = (c0 : Int) + c1 := (sum_rot (posF pr) N (by omega) fst).trans HPR.out.cnt
            rw [hs1, hs2] at hpk
            rw [hs1]
            have hall : ∀ j, j < P → sc j = true := fun j hj => by
              have hjz : j * Z < N := by rw [HN.out]; exact Nat.mul_lt_mul_of_pos_right hj (by omega)
              obtain ⟨i, hi, he⟩ := rot_surj fst (j * Z) hjz
              have := hsc i hi
              rw [he, Nat.mul_div_left j (by omega)] at this
              exact this
            have hpaid := paid_any X wr _ _ _ _ _ _ hpk
            rw [HXE.out] at hpaid
            have HPAID := Lib.hid hpaid
            have HPK3 := Lib.hid hpk
            have HALL := Lib.hid hall
            have HF3a := Lib.hid hf
            clear hpaid hpk hall hf hlt hk hs1 hs2 hsc
            go_wp2_with fail
            refine HPAID.out.mono ?_
            rintro e w9 ⟨rfl, f9⟩
            have HPK4 := Lib.hid (HPK3.out.fr f9)
            have HF4 := Lib.hid (HF3a.out.trans (f9.mono (by simp)))
            clear f9
            go_wp2_with fail
            go_loopw [26] (fun i wr => ∃ j : Nat, j ≤ P ∧ i = .int .i64 ((j : Int) + 1) ∧ Fr [] w9 wr) (fun i _ => P + 1 - (intOf i).toNat)
            case atStart => exact ⟨0, by omega, by simp, Fr.refl _ _⟩
            case round =>
              obtain ⟨j, hj, rfl, hfj⟩ := hrel
              have hf4 := HF4.out.trans (hfj.mono (by simp))
              have hpbn : pb ∉ [X.x, X.gp, X.gs] := by have := HXE.out; simp; omega
              have q2 := hf4.cell_some HQ8.out.1 hpbn
              have q4 := hf4.cell_some HQ8.out.2.2 hpbn
              by_cases hlt : j < P
              · have hkP2 : (j : Int) + 1 ≤ (P : Int) := by omega
                have hret := return_any X wr _ _ _ _ _ _ (HPK4.out.fr hfj) HXX.out.1 j (by have := HX.out.1; omega) (stA_lt hlt) (stA_lt hlt) (HALL.out j hlt)
                rw [HXE.out] at hret
                have HRET := Lib.hid hret
                have HFJ := Lib.hid hfj
                clear hret hfj hf4 q4 hpbn
                go_wp2_with fail
                refine HRET.out.mono ?_
                rintro e w10 ⟨rfl, rfl⟩
                go_wp2_with fail
                go_roundw
                case rel => exact ⟨j + 1, by omega, by go_num, HFJ.out⟩
                case measure => simp [intOf]; omega
              · have e : P = j := by omega
                subst e
                have hkP2 : ¬ ((P : Int) + 1 ≤ (P : Int)) := by omega
                have HL9 := Lib.hid (HL8.out.fr hf4 (by have := HXE.out; simp; omega))
                have HF9 := Lib.hid (HF8.out.trans' hf4 (by have := HSZ.out; have := HXE.out; simp; omega))
                clear hfj hf4 hpbn hlt hj
                obtain ⟨wq, hwq⟩ : ∃ x, x = wr := ⟨_, rfl⟩
                have HWQ := Lib.hid hwq
                rw [← hwq] at q2 q4 HL9 HF9
                clear hwq
                rw [← HWQ.out]
                go_wp2_with fail
                go_loopw [27, 224] (fun a i wr => Fr [] wq wr ∧ (i = .int .i64 0 ∧ a = .int .i64 0 ∨ i = .int .i64 1 ∧ a = .int .i64 c0 ∨ n = 2 ∧ i = .int .i64 2 ∧ a = .int .i64 ((c0 : Int) + c1))) (fun _ i _ => 2 - (intOf i).toNat)
                case atStart => exact ⟨Fr.refl _ _, .inl ⟨rfl, rfl⟩⟩
                case round =>
                  obtain ⟨hf, hr⟩ := hrel
                  have hl2 := HL9.out.fr hf (by simp)
                  clear q2 q4
                  rcases hr with ⟨rfl, rfl⟩ | ⟨rfl, rfl⟩ | ⟨h2, rfl, rfl⟩
                  · have l0 := hl2.a0
                    have l1 := hl2.a1
                    have l2 := hl2.a2
                    have hn0 : 0 < n := by omega
                    obtain ⟨wz, hwz⟩ : ∃ wz, wz = wr.alloc (.cells #[.int .i64 500, .int .i64 c0, .int .i64 1] 28) := ⟨_, rfl⟩
                    have fz : Fr [] wr wz := by rw [hwz]; exact (Fr.refl [] wr).alloc _
                    have z1 : wz.cell? ⟨wr.heap.size, 1, none⟩ = some (.int .i64 c0) := by rw [hwz]; exact new_cell rfl rfl
                    have HFZ := Lib.hid (hf.trans fz)
                    clear hl2 hf fz
                    go_upto_region 37 with (fail)
                    rw [← hwz]
                    have HWZ := Lib.hid hwz
                    clear hwz
                    generalize wr.heap.size = bz at *
                    clear l0 l1 l2
                    go_wp2_with fail
                    go_roundw
                    case rel => exact ⟨HFZ.out, .inr (.inl ⟨by go_num, by go_num⟩)⟩
                    case measure => simp [intOf]
                  · by_cases h2 : n = 2
                    · obtain ⟨l0, l1, l2⟩ := hl2.b h2
                      have hn1 : (1 : Int) < (n : Int) := by omega
                      have H2 := Lib.hid h2
                      obtain ⟨wz, hwz⟩ : ∃ wz, wz = wr.alloc (.cells #[.int .i64 7, .int .i64 c1, .int .i64 0] 28) := ⟨_, rfl⟩
                      have fz : Fr [] wr wz := by rw [hwz]; exact (Fr.refl [] wr).alloc _
                      have z1 : wz.cell? ⟨wr.heap.size, 1, none⟩ = some (.int .i64 c1) := by rw [hwz]; exact new_cell rfl rfl
                      have HFZ := Lib.hid (hf.trans fz)
                      clear hl2 hf fz h2
                      go_upto_region 37 with (fail)
                      rw [← hwz]
                      have HWZ := Lib.hid hwz
                      clear hwz
                      generalize wr.heap.size = bz at *
                      clear l0 l1 l2
                      go_wp2_with fail
                      go_roundw
                      case rel => exact ⟨HFZ.out, .inr (.inr ⟨H2.out, by go_num, by go_num⟩)⟩
                      case measure => simp [intOf]
                    · have hn1 : ¬ ((1 : Int) < (n : Int)) := by omega
                      have HC1 := Lib.hid (show (c0 : Int) + c1 = (c0 : Int) by have := HPL.out.n; omega)
                      clear h2 hl2
                      have HFF := Lib.hid hf
                      clear hf
                      have hc1e := HC1.out
                      go_wp2_with fail
                      go_ret
                      exact ⟨by first | rfl | simp [hc1e], HF9.out.trans HFF.out⟩
                  · have hn1 : ¬ ((2 : Int) < (n : Int)) := by omega
                    clear h2 hl2
                    have HFF := Lib.hid hf
                    clear hf
                    go_wp2_with fail
                    go_ret
                    exact ⟨rfl, HF9.out.trans HFF.out⟩
end Go.Proofs.YtijdlggoaianbaaDoor
