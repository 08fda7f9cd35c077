/-
  TopInstants: deck.scatter.
-/
import Derived.Test.YtijdlggoaianbaaDoorDkS
import Derived.WalkMore
import Derived.Deep.LoopGhost
set_option linter.unusedVariables false
namespace Go.Proofs.YtijdlggoaianbaaDoor
open Go.RowKit
def ScPost (Z gt b N c0 c1 : Nat) (C : Nat → ByteArray) (w : World) (e : Ending) (w' : World) : Prop :=
  e = .returned (.int .i64 0) ∧ ∃ (pr : Nat → Int), TkAt w' gt N Z C pr ∧ PrF N pr (500 * c0 + 7 * c1) (c0 + c1) ∧ Fr [gt, b] w w'
structure LvFix where
  gt : Nat
  gf : Nat
  b : Nat
  ib : Nat
  N : Nat
  Z : Nat
  L : Nat
  base : Nat
  cap : Nat
  C : Nat → ByteArray
  w : World
def LvSt (x : LvFix) (wr : World) (m : Nat) (S C : Int) : Prop :=
  ∃ (fl : List Int) (pr : Nat → Int) (s u : Int), 0 ≤ u ∧ u ≤ 2000000 + 64 * (m : Int) ∧ StrAt wr x.b s u ∧ OwnI wr x.base 3 (.slice (some ⟨x.gf, 0, none⟩) x.L x.cap) fl ∧ TkAt wr x.gt x.N x.Z x.C pr ∧ ScF x.N x.L fl m pr S C ∧ wr.cell? ⟨x.ib, 0, none⟩ = some (.int .i64 m) ∧ wr.frozen? ⟨x.ib, 0, none⟩ = false ∧ Fr [x.b, x.gf, x.gt, x.ib] x.w wr
theorem LvSt.fr0 {x : LvFix} {wr w' : World} {m : Nat} {S C : Int} (h : LvSt x wr m S C) (hf : Fr [] wr w') : LvSt x w' m S C := by
  obtain ⟨fl, pr, s, u, h1, h2, h3, h4, h5, h6, h7, h8, h9⟩ := h
  exact ⟨fl, pr, s, u, h1, h2, h3.fr hf (by simp), h4.fr hf (by simp), h5.fr hf (by simp), h6, hf.cell_some h7 (by simp), (hf.frozen (p := ⟨x.ib, 0, none⟩) (lt_of_cell h7) (by simp)).trans h8, h9.trans (hf.mono (by simp))⟩
theorem LvSt.eq {x : LvFix} {wr : World} {m m' : Nat} {S C S' C' : Int} (h : LvSt x wr m S C) (e1 : m = m') (e2 : S = S') (e3 : C = C') : LvSt x wr m' S' C' := by
  subst e1; subst e2; subst e3; exact h
theorem LvSt.call {x : LvFix} {wr : World} {m : Nat} {S C : Int} (h : LvSt x wr m S C) (p : Int) (sb fb eb lb : Nat) (hL : x.L ≤ 36) (hN : x.N ≤ 36) (hm : m < x.L) (hp1 : 1 ≤ p) (hp2 : p ≤ 500)
    (cs : wr.cell? ⟨sb, 0, none⟩ = some (.pointer (some ⟨x.b, 0, none⟩))) (cf : wr.cell? ⟨fb, 0, none⟩ = some (.slice (some ⟨x.gf, 0, none⟩) x.L x.cap)) (cl : wr.cell? ⟨lb, 0, none⟩ = some (.slice (some ⟨x.gt, 0, none⟩) x.N x.N))
    (h1 : x.b < lb) (h2 : x.gt < lb) (h3 : lb < fb) (h4 : fb < x.gf) (h5 : x.gf < x.ib) (h6 : x.b ≠ x.gt) :
    Calls Tryd.prog 23 #[.int .i64 p, .pointer (some ⟨sb, 0, none⟩), .pointer (some ⟨fb, 0, none⟩), .pointer (some ⟨x.ib, 0, none⟩), .pointer (some ⟨eb, 0, none⟩), .pointer (some ⟨lb, 0, none⟩)] wr fun e w' => e = .returned (.bool true) ∧ LvSt x w' (m + 1) (S + p) (C + 1) ∧ Fr [x.b, x.gf, x.gt, x.ib] wr w' := by
  obtain ⟨fl, pr, s, u, k1, k2, k3, k4, k5, k6, k7, k8, k9⟩ := h
  refine (scat1_any x.N x.L x.Z m x.base x.b x.gf x.gt sb fb x.ib eb lb x.cap x.C fl pr S C p s u wr hL hN hm hp1 hp2 k1 (by omega) k3 k4 k5 k6 cs cf k7 k8 cl (by omega) (by omega) (by omega) (by omega) (by omega) (by omega) (by omega) (by omega) (by omega) (by omega) (by omega) (by omega) (by omega) (by omega)).mono ?_
  rintro e w' ⟨rfl, fl', pr', s', u', q1, q2, q3, q4, q5, q6, q7, q8, q9⟩
  exact ⟨rfl, ⟨fl', pr', s', u', by omega, by omega, q1, q4, q5, q6, by rw [q7]; simp, q8, k9.trans q9⟩, q9⟩
set_option maxRecDepth 20000 in
set_option maxHeartbeats 4000000 in
theorem scat_any (s : ByteArray) (P Z g n cap c0 c1 gt b N : Nat) (C : Nat → ByteArray) (pr : Nat → Int) (st u : Int) (w : World) (hp : Pl P Z n c0 c1) (hN : N = P * Z) (hl : LvAt w g n c0 c1) (ht : TkAt w gt N Z C pr) (hgu : GuF P Z P pr) (hs : StrAt w b st u) (hu0 : 0 ≤ u) (hu1 : u ≤ 2000000) (hg1 : g ≠ gt) (hg2 : g ≠ b) (hg3 : gt ≠ b) :
    Calls Tryd.prog 17 #[.agg #[.string s, .int .i64 10, .int .i64 P, .int .i64 Z, .slice (some ⟨g, 0, none⟩) n cap], .slice (some ⟨gt, 0, none⟩) N N, .pointer (some ⟨b, 0, none⟩)] w (ScPost Z gt b N c0 c1 C w) := by
  obtain ⟨p1, p2, z1, z2, q1, q2, k1, k2, k3⟩ := hp.i
  have hNi : (P : Int) * (Z : Int) = (N : Int) := by rw [hN, Int.natCast_mul]
  have hPZ : (P : Int) * 2 ≤ (P : Int) * (Z : Int) := Int.mul_le_mul_of_nonneg_left z1 (by omega)
  rw [hNi] at q1 q2 k2 k3 hPZ
  have n12 : 1 ≤ n ∧ n ≤ 2 := by rcases hp.n with h | h <;> omega
  obtain ⟨nn1, nn2⟩ := n12
  have hln := frL_len pr N (fun i hi => (hgu.f.bd i (by omega)).1)
  have hcn := hgu.f.cnt
  rw [← hN] at hcn
  rw [hcn] at hln
  have hlk : ∀ k, k ≤ N → ((frL pr k).length : Int) ≤ 36 := fun k hk => by
    have h1 := frL_len pr k (fun i hi => (hgu.f.bd i (by omega)).1)
    have h2 : 0 ≤ sumN (posF pr) k := by
      clear h1 hln hcn
      induction k with
      | zero => simp [sumN]
      | succ k ih => have := ih (by omega); unfold sumN posF; unfold posF at this; split <;> omega
    omega
  obtain ⟨pb, hpb⟩ : ∃ x, x = w.heap.size := ⟨_, rfl⟩
  obtain ⟨lb, hlb⟩ : ∃ x, x = w.heap.size + 1 := ⟨_, rfl⟩
  obtain ⟨sb, hsb⟩ : ∃ x, x = w.heap.size + 1 + 1 := ⟨_, rfl⟩
  obtain ⟨fb, hfb⟩ : ∃ x, x = w.heap.size + 1 + 1 + 1 := ⟨_, rfl⟩
  obtain ⟨w0, hw0⟩ : ∃ w0, w0 = ((w.alloc (.cells #[.string s, .int .i64 10, .int .i64 P, .int .i64 Z, .slice (some ⟨g, 0, none⟩) n cap] 26)).alloc (.cells #[.slice (some ⟨gt, 0, none⟩) N N] 32)).alloc (.cells #[.pointer (some ⟨b, 0, none⟩)] 49) := ⟨_, rfl⟩
  obtain ⟨w1, hw1⟩ : ∃ w1, w1 = w0.alloc (.cells #[.slice none 0 0] 69) := ⟨_, rfl⟩
  have hz0 : w0.heap.size = fb := by rw [hw0, hfb]; simp
  have f01 : Fr [] w0 w1 := by rw [hw1]; exact (Fr.refl [] w0).alloc _
  have f0 : Fr [] w w0 := by rw [hw0]; exact (((Fr.refl [] w).alloc _).alloc _).alloc _
  have fa : Fr [] w w1 := f0.trans f01
  have cp2' : w0.cell? ⟨pb, 2, none⟩ = some (.int .i64 P) := by rw [hw0, hpb]; exact (((Fr.refl [] _).alloc _).alloc _).cell_some (new_cell rfl rfl) (by simp)
  have cp4' : w0.cell? ⟨pb, 4, none⟩ = some (.slice (some ⟨g, 0, none⟩) n cap) := by rw [hw0, hpb]; exact (((Fr.refl [] _).alloc _).alloc _).cell_some (new_cell rfl rfl) (by simp)
  have cl' : w0.cell? ⟨lb, 0, none⟩ = some (.slice (some ⟨gt, 0, none⟩) N N) := by rw [hw0, hlb]; exact ((Fr.refl [] _).alloc _).cell_some (new_cell (by simp) rfl) (by simp)
  have cs' : w0.cell? ⟨sb, 0, none⟩ = some (.pointer (some ⟨b, 0, none⟩)) := by rw [hw0, hsb]; exact new_cell (by simp) rfl
  have cf : w1.cell? ⟨fb, 0, none⟩ = some (.slice none 0 0) := by rw [hw1]; exact new_cell hz0.symm rfl
  have cff : w1.frozen? ⟨fb, 0, none⟩ = false := by rw [hw1]; exact World.frozen?_alloc_at _ _ _ _ hz0.symm
  have cp2 := f01.cell_some cp2' (by simp)
  have cp4 := f01.cell_some cp4' (by simp)
  have cl := f01.cell_some cl' (by simp)
  have cs := f01.cell_some cs' (by simp)
  have hz1 : w1.heap.size = fb + 1 := by rw [hw1]; simp; omega
  have b1 := ht.lt
  have b2 := hs.lt
  have b3 := hl.lt
  have hb0 : w.heap.size ≤ pb := by omega
  have hb1 : pb < lb := by omega
  have g1 : gt < pb := by omega
  have g2 : b < pb := by omega
  have g3 : g < pb := by omega
  have hb2 : lb < sb := by omega
  have hb3 : sb < fb := by omega
  have hl1 := hl.fr fa (by simp)
  have ht1 := ht.fr fa (by simp)
  have hs1 := hs.fr fa (by simp)
  have HP := Lib.hid hp
  have HL := Lib.hid hl1
  have HT := Lib.hid ht1
  have HS := Lib.hid hs1
  have HFA := Lib.hid fa
  have HN := Lib.hid hN
  have HLN := Lib.hid hln
  have HLK := Lib.hid hlk
  have HGU := Lib.hid hgu
  have HZ1 := Lib.hid hz1
  have HCF := Lib.hid (And.intro cf cff)
  have HHB := Lib.hid hb0
  have HB := Lib.hid (And.intro b1 (And.intro b2 b3))
  have HNI := Lib.hid hNi
  have HZ0 := Lib.hid hz0
  have hlz : lb < w0.heap.size := by omega
  clear hp hl hl1 ht ht1 hs hs1 fa hN hln hcn hlk hgu hz1 cf cff b1 b2 b3 hNi f0 f01 hz0
  go_enter Tryd.func17, Tryd.ntmps17
  go_upto_region 2 with (fail)
  rw [← hw0]
  have HW0 := Lib.hid hw0
  clear hw0
  rw [← hsb, ← hlb, ← hpb]
  clear hfb hsb hlb
  clear hpb hb0
  have HC := Lib.hid (And.intro cp2 (And.intro cp4 (And.intro cl cs)))
  clear cp2 cp4 cl cs cp2' cp4' cs'
  go_step3
  go_upto_region 2 with (fail)
  rw [← hw1]
  have HW1 := Lib.hid hw1
  have ck := HC.out
  obtain ⟨cp2, cp4, cl, cs⟩ := ck
  clear hw1 cl' hlz
  rw [HZ0.out]
  go_wp2_with fail
  go_loopw [17] (fun i wr => ∃ k : Nat, k ≤ N ∧ i = .int .i64 k ∧ ∃ v, wr.cell? ⟨fb, 0, none⟩ = some v ∧ wr.frozen? ⟨fb, 0, none⟩ = false ∧ OwnI wr (fb + 1) 3 v (frL pr k) ∧ Fr [fb] w1 wr) (fun i _ => N - (intOf i).toNat)
  case atStart => exact ⟨0, by omega, rfl, _, HCF.out.1, HCF.out.2, OwnI.nil _ _ _, Fr.refl _ _⟩
  case round =>
    obtain ⟨k, hk, rfl, v, cf, cff, ho, hf⟩ := hrel
    by_cases hlt : k < N
    · have hkN : (k : Int) < (N : Int) := by omega
      have t1 := HT.out.fr hf (by simp; omega)
      have e0 := t1.c0 k hlt
      have e1 := t1.c1 k hlt
      have e2 := t1.c2 k hlt
      have e3 := t1.c3 k hlt
      obtain ⟨wy, hwy⟩ : ∃ wy, wy = wr.alloc (.cells #[.int .i64 ((k : Int) / (Z : Int) + 1), .int .i64 ((k : Int) % (Z : Int) + 1), .int .i64 (pr k), .string (C k)] 40) := ⟨_, rfl⟩
      have fy : Fr [] wr wy := by rw [hwy]; exact (Fr.refl [] wr).alloc _
      have y2 : wy.cell? ⟨wr.heap.size, 2, none⟩ = some (.int .i64 (pr k)) := by rw [hwy]; exact new_cell rfl rfl
      have hsz : fb + 1 ≤ wy.heap.size := by have := hf.size; rw [HZ1.out] at this; exact Nat.le_trans this fy.size
      have cfy := fy.cell_some cf (by simp)
      have cffy := (fy.frozen (p := ⟨fb, 0, none⟩) (lt_of_cell (by assumption)) (by simp)).trans cff
      have HO := Lib.hid (ho.fr fy (by simp))
      have HF := Lib.hid (hf.trans (fy.mono (by simp)))
      clear ho hf fy t1 cf cff cp2 cp4 cl cs
      go_upto_region 5 with (fail)
      rw [← hwy]
      have HWY := Lib.hid hwy
      clear hwy
      generalize wr.heap.size = bt at *
      clear e0 e1 e2 e3
      by_cases hz : pr k = 0
      · have HFY := Lib.hid (show frL pr (k + 1) = frL pr k ++ [(k : Int)] by rw [frL, if_pos hz])
        rw [hz] at y2
        clear hz
        go_wp2_with (at_builtin; refine app_i wy (k : Int) rfl (.tmp 25) (.tmp 27) rfl (fb + 1) v (frL pr k) rfl HO.out rfl (by have := HLK.out k hk; omega) hsz ?_)
        intro v' w3 ho3 hk3 hf3
        obtain ⟨av, cv, rfl, _, _⟩ := ho3.any
        generalize (frL pr k ++ [(k : Int)]).length = lv at *
        have f3 : Fr [fb] w1 w3 := hf3 [fb] w1 (by rw [HZ1.out]; exact Nat.le_refl _) HF.out
        have cf3 : w3.cell? ⟨fb, 0, none⟩ = some v := (World.cell?_of_block (w := wy) (hk3 fb (by omega))).trans cfy
        have cff3 : w3.frozen? ⟨fb, 0, none⟩ = false := (World.frozen?_of_block (w := wy) (hk3 fb (by omega))).trans cffy
        have HO3 := Lib.hid ho3
        have HF3 := Lib.hid f3
        have HC3 := Lib.hid cf3
        have HCF3 := Lib.hid cff3
        clear ho3 hk3 hf3 f3 cfy cffy y2
        go_wp2_with fail
        go_roundw
        case rel =>
          refine ⟨k + 1, by omega, by go_num, _, set_same _ _ _ _ _ HC3.out, (frozen_set _ _ _ _).trans HCF3.out, ?_, HF3.out.setCell (.inl (by simp)) _⟩
          rw [HFY.out]
          exact HO3.out.fr ((Fr.refl [fb] _).setCell (p := ⟨fb, 0, none⟩) (.inl (by simp)) _) (fun q hq => by have := (HO3.out.block q hq).1; simp; omega)
        case measure => simp [intOf]; omega
      · have HFY := Lib.hid (show frL pr (k + 1) = frL pr k by rw [frL, if_neg hz])
        go_wp2_with fail
        go_roundw
        case rel =>
          refine ⟨k + 1, by omega, by go_num, v, cfy, cffy, ?_, HF.out⟩
          rw [HFY.out]
          exact HO.out
        case measure => simp [intOf]; omega
    · have e : N = k := by omega
      subst e
      clear hlt
      have hLN := HLN.out
      obtain ⟨L, hL⟩ : ∃ L, L = (frL pr N).length := ⟨_, rfl⟩
      rw [← hL] at hLN
      obtain ⟨gf, cap2, rfl, hg5, hg6, hg7, hg8⟩ := ho.form (by omega)
      rw [← hL] at ho cf hg7
      have HSC := Lib.hid (show ScF N L (frL pr N) 0 pr (500 * P) P from ⟨hL.symm, frL_nodup pr N, fun x hx => ⟨(frL_mem pr x N hx).1, (frL_mem pr x N hx).2.1⟩, fun j _ hj => (frL_mem pr _ N (getD_mem' (by omega))).2.2, by rw [HN.out]; exact HGU.out.f⟩)
      have cp2 := hf.cell_some HC.out.1 (by simp; omega)
      have cp4 := hf.cell_some HC.out.2.1 (by simp; omega)
      have cl := hf.cell_some HC.out.2.2.1 (by simp; omega)
      have cs := hf.cell_some HC.out.2.2.2 (by simp; omega)
      have t4 := HT.out.fr hf (by simp; omega)
      have s4 := HS.out.fr hf (by simp; omega)
      have l4 := HL.out.fr hf (by simp; omega)
      obtain ⟨w5, hw5⟩ : ∃ w5, w5 = (wr.alloc (.cells #[.int .i64 0] 29)).alloc (.cells #[.int .i64 0] 3) := ⟨_, rfl⟩
      have f5 : Fr [] wr w5 := by rw [hw5]; exact ((Fr.refl [] wr).alloc _).alloc _
      obtain ⟨eb, heb⟩ : ∃ x, x = wr.heap.size := ⟨_, rfl⟩
      obtain ⟨ib, hib⟩ : ∃ x, x = wr.heap.size + 1 := ⟨_, rfl⟩
      have ce : w5.cell? ⟨eb, 0, none⟩ = some (.int .i64 0) := by rw [hw5, heb]; exact ((Fr.refl [] _).alloc _).cell_some (new_cell rfl rfl) (by simp)
      have ci : w5.cell? ⟨ib, 0, none⟩ = some (.int .i64 0) := by rw [hw5, hib]; exact new_cell (by simp) rfl
      have cif : w5.frozen? ⟨ib, 0, none⟩ = false := by rw [hw5, hib]; exact World.frozen?_alloc_at _ _ _ _ (by simp)
      have hn1 : gf < eb := by omega
      have hn2 : eb < ib := by omega
      have hfs := hf.size
      have hn3 : fb < gf := by omega
      have cp2' := f5.cell_some cp2 (by simp)
      have cp4' := f5.cell_some cp4 (by simp)
      have cl' := f5.cell_some cl (by simp)
      have cs' := f5.cell_some cs (by simp)
      have cf' := f5.cell_some cf (by simp)
      have hL36 : L ≤ 36 := by omega
      have hN36 : N ≤ 36 := by omega
      have hib5 : ib < w5.heap.size := lt_of_cell ci
      have HLV := Lib.hid (show LvSt ⟨gt, gf, b, ib, N, Z, L, fb + 1, cap2, C, w5⟩ w5 0 (500 * P) P from ⟨frL pr N, pr, st, u, hu0, by omega, s4.fr f5 (by simp), ho.fr f5 (by simp), t4.fr f5 (by simp), HSC.out, ci, cif, Fr.refl _ _⟩)
      have HC5 := Lib.hid (And.intro cp2' (And.intro cp4' (And.intro cl' (And.intro cs' (And.intro cf' ce)))))
      have HL5 := Lib.hid (l4.fr f5 (by simp))
      have HF5 := Lib.hid (hf.trans (f5.mono (by simp)))
      have hmf : ∀ (fn : Fn) (first cap : Array Value) (w : World), (Instr.makeFunc fn first cap).run Tryd.prog w = .ok (.func fn first cap) w := fun _ _ _ _ => rfl
      clear cp2 cp4 cl cs cl' cs' cf' ci cif ce t4 s4 l4 f5 ho cff cf hL hfs cp2' cp4'
      go_upto_region 10 with (fail)
      rw [← hw5, ← hib, ← heb]
      have HW5 := Lib.hid hw5
      clear hw5 hib heb
      obtain ⟨cp2, cp4, cl, cs, cf, ce⟩ := HC5.out
      clear hg5 hg6 hf hk
      go_wp2_with fail
      go_step3
      go_wp2_with fail
      go_loopw [34] (fun i wr => i = .int .i64 0 ∧ LvSt ⟨gt, gf, b, ib, N, Z, L, fb + 1, cap2, C, w5⟩ wr 0 (500 * P) P ∨ i = .int .i64 1 ∧ LvSt ⟨gt, gf, b, ib, N, Z, L, fb + 1, cap2, C, w5⟩ wr (c0 - P) (500 * c0) c0 ∨ n = 2 ∧ i = .int .i64 2 ∧ LvSt ⟨gt, gf, b, ib, N, Z, L, fb + 1, cap2, C, w5⟩ wr (c0 - P + c1) (500 * c0 + 7 * c1) (c0 + c1)) (fun i _ => 2 - (intOf i).toNat)
      case atStart => exact .inl ⟨rfl, HLV.out⟩
      case round =>
        have hff : Fr [b, gf, gt, ib] w5 wr := by
          rcases hrel with ⟨_, h⟩ | ⟨_, h⟩ | ⟨_, _, h⟩ <;> (obtain ⟨_, _, _, _, h⟩ := h; exact h.2.2.2.2.2.2.2.2)
        rcases hrel with ⟨rfl, hst⟩ | ⟨rfl, hst⟩ | ⟨h2, rfl, hst⟩
        · skip
          have l2 := HL5.out.fr hff (by simp; omega)
          have la := l2.a0
          have lb' := l2.a1
          have lc := l2.a2
          have hn0 : 0 < n := by omega
          obtain ⟨K, hK⟩ : ∃ K : Nat, K = c0 - P := ⟨_, rfl⟩
          have hKi : (c0 : Int) - (P : Int) = (K : Int) := by omega
          obtain ⟨wy, hwy⟩ : ∃ wy, wy = wr.alloc (.cells #[.int .i64 500, .int .i64 c0, .int .i64 1] 28) := ⟨_, rfl⟩
          have fy : Fr [] wr wy := by rw [hwy]; exact (Fr.refl [] wr).alloc _
          have e0 : wy.cell? ⟨wr.heap.size, 0, none⟩ = some (.int .i64 500) := by rw [hwy]; exact new_cell rfl rfl
          have e1 : wy.cell? ⟨wr.heap.size, 1, none⟩ = some (.int .i64 c0) := by rw [hwy]; exact new_cell rfl rfl
          have e2 : wy.cell? ⟨wr.heap.size, 2, none⟩ = some (.int .i64 1) := by rw [hwy]; exact new_cell rfl rfl
          have fwy : Fr [b, gf, gt, ib] w5 wy := hff.trans (fy.mono (by simp))
          have cp2 := fwy.cell_some cp2 (by simp; omega)
          have HC6 := Lib.hid (And.intro (fwy.cell_some cl (by simp; omega)) (And.intro (fwy.cell_some cs (by simp; omega)) (fwy.cell_some cf (by simp; omega))))
          have hbl : ib < wr.heap.size := Nat.lt_of_lt_of_le hib5 hff.size
          have HST := Lib.hid (hst.fr0 fy)
          have HKI := Lib.hid (And.intro hK hKi)
          clear fy fwy hff hst l2 cl cs cf cp4 ce hK 
          go_upto_region 14 with (fail)
          rw [← hwy]
          have HWY := Lib.hid hwy
          clear hwy
          generalize wr.heap.size = bl at *
          clear la lb' lc
          go_wp2_with fail
          go_loopw [46] (fun i wr => ∃ k : Nat, k ≤ K ∧ i = .int .i64 k ∧ LvSt ⟨gt, gf, b, ib, N, Z, L, fb + 1, cap2, C, w5⟩ wr (0 + k) (500 * P + 500 * k) (P + k) ∧ Fr [b, gf, gt, ib] wy wr) (fun i _ => K - (intOf i).toNat)
          case atStart => exact ⟨0, by omega, rfl, HST.out.eq (by omega) (by omega) (by omega), Fr.refl _ _⟩
          case round =>
            obtain ⟨k, hk, rfl, hst, hfi⟩ := hrel
            have e0 := hfi.cell_some e0 (by simp; omega)
            obtain ⟨cl, cs, cf⟩ := HC6.out
            have cl := hfi.cell_some cl (by simp; omega)
            have cs := hfi.cell_some cs (by simp; omega)
            have cf := hfi.cell_some cf (by simp; omega)
            clear cp2
            by_cases hkk : k < K
            · have hkI : (k : Int) < (K : Int) := by omega
              have hk2 : 0 + k < L := by have := HKI.out.1; omega
              have HST2 := Lib.hid hst
              have HFI := Lib.hid hfi
              have HCC := Lib.hid (And.intro cl (And.intro cs cf))
              clear hst hfi cl cs cf
              go_wp2_with fail
              refine (HST2.out.call 500 sb fb eb lb hL36 hN36 hk2 (by omega) (by omega) HCC.out.2.1 HCC.out.2.2 HCC.out.1 (by simp; omega) (by simp; omega) (by omega) (by simp; omega) (by simp; omega) (by simpa using hg3.symm)).mono ?_
              rintro e w7 ⟨rfl, hst7, hf7⟩
              have HST7 := Lib.hid hst7
              have HF7 := Lib.hid (HFI.out.trans hf7)
              clear hst7 hf7
              go_wp2_with fail
              go_roundw
              case rel => exact ⟨k + 1, by omega, by go_num, HST7.out.eq (by omega) (by omega) (by omega), HF7.out⟩
              case measure => simp [intOf]; omega
            · have e : k = K := by omega
              subst e
              have hkI : ¬ ((k : Int) < (k : Int)) := by omega
              have HST2 := Lib.hid hst
              clear hst hfi cl cs cf
              go_wp2_with fail
              go_roundw
              case rel => exact (.inr (.inl ⟨by go_num, HST2.out.eq (by have := HKI.out.1; omega) (by omega) (by omega)⟩))
              case measure => simp [intOf]
        · by_cases h2 : n = 2
          · skip
            have l2 := HL5.out.fr hff (by simp; omega)
            obtain ⟨la, lb', lc⟩ := l2.b h2
            have hn1 : (1 : Int) < (n : Int) := by omega
            have H2 := Lib.hid h2
            obtain ⟨wy, hwy⟩ : ∃ wy, wy = wr.alloc (.cells #[.int .i64 7, .int .i64 c1, .int .i64 0] 28) := ⟨_, rfl⟩
            have fy : Fr [] wr wy := by rw [hwy]; exact (Fr.refl [] wr).alloc _
            have e0 : wy.cell? ⟨wr.heap.size, 0, none⟩ = some (.int .i64 7) := by rw [hwy]; exact new_cell rfl rfl
            have e1 : wy.cell? ⟨wr.heap.size, 1, none⟩ = some (.int .i64 c1) := by rw [hwy]; exact new_cell rfl rfl
            have e2 : wy.cell? ⟨wr.heap.size, 2, none⟩ = some (.int .i64 0) := by rw [hwy]; exact new_cell rfl rfl
            have fwy : Fr [b, gf, gt, ib] w5 wy := hff.trans (fy.mono (by simp))
            have cp2 := fwy.cell_some cp2 (by simp; omega)
            have HC6 := Lib.hid (And.intro (fwy.cell_some cl (by simp; omega)) (And.intro (fwy.cell_some cs (by simp; omega)) (fwy.cell_some cf (by simp; omega))))
            have hbl : ib < wr.heap.size := Nat.lt_of_lt_of_le hib5 hff.size
            have HST := Lib.hid (hst.fr0 fy)
            clear fy fwy hff hst l2 cl cs cf cp4 ce h2
            go_upto_region 14 with (fail)
            rw [← hwy]
            have HWY := Lib.hid hwy
            clear hwy
            generalize wr.heap.size = bl at *
            clear la lb' lc
            go_wp2_with fail
            go_loopw [46] (fun i wr => ∃ k : Nat, k ≤ c1 ∧ i = .int .i64 k ∧ LvSt ⟨gt, gf, b, ib, N, Z, L, fb + 1, cap2, C, w5⟩ wr (c0 - P + k) (500 * c0 + 7 * k) (c0 + k) ∧ Fr [b, gf, gt, ib] wy wr) (fun i _ => c1 - (intOf i).toNat)
            case atStart => exact ⟨0, by omega, rfl, HST.out.eq (by omega) (by omega) (by omega), Fr.refl _ _⟩
            case round =>
              obtain ⟨k, hk, rfl, hst, hfi⟩ := hrel
              have e0 := hfi.cell_some e0 (by simp; omega)
              obtain ⟨cl, cs, cf⟩ := HC6.out
              have cl := hfi.cell_some cl (by simp; omega)
              have cs := hfi.cell_some cs (by simp; omega)
              have cf := hfi.cell_some cf (by simp; omega)
              clear cp2
              by_cases hkk : k < c1
              · have hkI : (k : Int) < (c1 : Int) := by omega
                have hk2 : c0 - P + k < L := by omega
                have HST2 := Lib.hid hst
                have HFI := Lib.hid hfi
                have HCC := Lib.hid (And.intro cl (And.intro cs cf))
                clear hst hfi cl cs cf
                go_wp2_with fail
                refine (HST2.out.call 7 sb fb eb lb hL36 hN36 hk2 (by omega) (by omega) HCC.out.2.1 HCC.out.2.2 HCC.out.1 (by simp; omega) (by simp; omega) (by omega) (by simp; omega) (by simp; omega) (by simpa using hg3.symm)).mono ?_
                rintro e w7 ⟨rfl, hst7, hf7⟩
                have HST7 := Lib.hid hst7
                have HF7 := Lib.hid (HFI.out.trans hf7)
                clear hst7 hf7
                go_wp2_with fail
                go_roundw
                case rel => exact ⟨k + 1, by omega, by go_num, HST7.out.eq (by omega) (by omega) (by omega), HF7.out⟩
                case measure => simp [intOf]; omega
              · have e : k = c1 := by omega
                subst e
                have hkI : ¬ ((k : Int) < (k : Int)) := by omega
                have HST2 := Lib.hid hst
                clear hst hfi cl cs cf
                go_wp2_with fail
                go_roundw
                case rel => exact (.inr (.inr ⟨H2.out, by go_num, HST2.out.eq (by omega) (by omega) (by omega)⟩))
                case measure => simp [intOf]
          · have hn1 : ¬ ((1 : Int) < (n : Int)) := by omega
            have HC1 := Lib.hid (show c1 = 0 by have := HP.out.n; omega)
            clear h2
            replace hst := hst.eq (m' := c0 - P + c1) (S' := 500 * c0 + 7 * c1) (C' := c0 + c1) (by have := HC1.out; omega) (by have := HC1.out; omega) (by have := HC1.out; omega)
            have ce := hff.cell_some ce (by simp; omega)
            have HST := Lib.hid hst
            have HFF := Lib.hid hff
            clear hst hff cl cs cf cp2 cp4
            go_wp2_with fail
            go_ret
            obtain ⟨fl, pr', s', u', _, _, _, _, ht9, hsc9, _, _, _⟩ := HST.out
            exact ⟨rfl, pr', ht9, hsc9.f, (((HFA.out.mono (by simp)).trans' HF5.out (by have := HHB.out; simp; omega))).trans' HFF.out (by have := HHB.out; simp; omega)⟩
        · have hn1 : ¬ ((2 : Int) < (n : Int)) := by omega
          clear h2
          have ce := hff.cell_some ce (by simp; omega)
          have HST := Lib.hid hst
          have HFF := Lib.hid hff
          clear hst hff cl cs cf cp2 cp4
          go_wp2_with fail
          go_ret
          obtain ⟨fl, pr', s', u', _, _, _, _, ht9, hsc9, _, _, _⟩ := HST.out
          exact ⟨rfl, pr', ht9, hsc9.f, (((HFA.out.mono (by simp)).trans' HF5.out (by have := HHB.out; simp; omega))).trans' HFF.out (by have := HHB.out; simp; omega)⟩
end Go.Proofs.YtijdlggoaianbaaDoor
