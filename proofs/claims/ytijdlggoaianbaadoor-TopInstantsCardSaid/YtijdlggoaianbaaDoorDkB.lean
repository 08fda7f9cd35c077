/-
  TopInstants: deck.Build.
-/
import Derived.Test.YtijdlggoaianbaaDoorDkC
set_option linter.unusedVariables false
namespace Go.Proofs.YtijdlggoaianbaaDoor
open Go.RowKit
theorem made_cell (z : Array Value) (n j : Nat) (hj : j < n) : (madeCells z n)[j]? = some (z[j % z.size]!) := by simp [madeCells, hj]
def zT : Array Value := #[.int .i64 0, .int .i64 0, .int .i64 0, .string ByteArray.empty]
/-- N tickets in block g, of which k are written -/
structure TkU (w : World) (g N Z : Nat) (C : Nat → ByteArray) (k : Nat) : Prop where
  lt : g < w.heap.size
  fz : ∀ j, w.frozen? ⟨g, j, none⟩ = false
  c : ∀ i, i < N → i < k → w.cell? ⟨g, i * 4, none⟩ = some (.int .i64 ((i : Int) / (Z : Int) + 1)) ∧ w.cell? ⟨g, i * 4 + 1, none⟩ = some (.int .i64 ((i : Int) % (Z : Int) + 1)) ∧ w.cell? ⟨g, i * 4 + 2, none⟩ = some (.int .i64 0) ∧ w.cell? ⟨g, i * 4 + 3, none⟩ = some (.string (C i))
  z : ∀ i, i < N → k ≤ i → w.cell? ⟨g, i * 4, none⟩ = some (.int .i64 0) ∧ w.cell? ⟨g, i * 4 + 1, none⟩ = some (.int .i64 0) ∧ w.cell? ⟨g, i * 4 + 2, none⟩ = some (.int .i64 0) ∧ w.cell? ⟨g, i * 4 + 3, none⟩ = some (.string ByteArray.empty)
theorem TkU.zero (w : World) (N Z : Nat) (C : Nat → ByteArray) (e : TypeId) : TkU (w.alloc (.cells (madeCells zT (N * 4)) e)) w.heap.size N Z C 0 where
  lt := by simp
  fz j := World.frozen?_alloc_at _ _ _ _ rfl
  c i _ h := by omega
  z i hi _ := by
    have h : ∀ j, j < 4 → (w.alloc (.cells (madeCells zT (N * 4)) e)).cell? ⟨w.heap.size, i * 4 + j, none⟩ = some (zT[j]!) := fun j hj => by
      rw [World.cell?_alloc_at _ _ _ _ rfl, made_cell _ _ _ (by omega)]
      have e : (i * 4 + j) % zT.size = j := by show (i * 4 + j) % 4 = j; omega
      rw [e]
    exact ⟨h 0 (by omega), h 1 (by omega), h 2 (by omega), h 3 (by omega)⟩
theorem TkU.fr {bs : List Nat} {w w' : World} {g N Z : Nat} {C : Nat → ByteArray} {k : Nat} (h : TkU w g N Z C k) (hf : Fr bs w w') (hn : g ∉ bs) : TkU w' g N Z C k :=
  ⟨Nat.lt_of_lt_of_le h.lt hf.size, fun j => (hf.frozen (p := ⟨g, j, none⟩) h.lt hn).trans (h.fz j), fun i hi hk => ⟨hf.cell_some (h.c i hi hk).1 hn, hf.cell_some (h.c i hi hk).2.1 hn, hf.cell_some (h.c i hi hk).2.2.1 hn, hf.cell_some (h.c i hi hk).2.2.2 hn⟩, fun i hi hk => ⟨hf.cell_some (h.z i hi hk).1 hn, hf.cell_some (h.z i hi hk).2.1 hn, hf.cell_some (h.z i hi hk).2.2.1 hn, hf.cell_some (h.z i hi hk).2.2.2 hn⟩⟩
theorem TkU.done {w : World} {g N Z : Nat} {C : Nat → ByteArray} (h : TkU w g N Z C N) : TkAt w g N Z C (fun _ => 0) :=
  ⟨h.lt, h.fz, fun i hi => (h.c i hi hi).1, fun i hi => (h.c i hi hi).2.1, fun i hi => (h.c i hi hi).2.2.1, fun i hi => (h.c i hi hi).2.2.2⟩
theorem TkU.step {w w1 w2 w3 w4 : World} {g N Z : Nat} {C : Nat → ByteArray} {k : Nat} (h : TkU w g N Z C k) (hk : k < N) (a b : Int) (ha : a = (k : Int) / (Z : Int) + 1) (hb : b = (k : Int) % (Z : Int) + 1) (s : ByteArray) (hs : s = C k)
    (h1 : w1 = w.setCell ⟨g, k * 4, none⟩ (.int .i64 a)) (h2 : w2 = w1.setCell ⟨g, k * 4 + 1, none⟩ (.int .i64 b)) (h3 : w3 = w2.setCell ⟨g, k * 4 + 2, none⟩ (.int .i64 0)) (h4 : w4 = w3.setCell ⟨g, k * 4 + 3, none⟩ (.string s)) : TkU w4 g N Z C (k + 1) := by
  have o1 : ∀ q, q ≠ k * 4 → w1.cell? ⟨g, q, none⟩ = w.cell? ⟨g, q, none⟩ := fun q hq => by rw [h1]; exact set_other _ _ _ _ _ (Ne.symm hq)
  have o2 : ∀ q, q ≠ k * 4 + 1 → w2.cell? ⟨g, q, none⟩ = w1.cell? ⟨g, q, none⟩ := fun q hq => by rw [h2]; exact set_other _ _ _ _ _ (Ne.symm hq)
  have o3 : ∀ q, q ≠ k * 4 + 2 → w3.cell? ⟨g, q, none⟩ = w2.cell? ⟨g, q, none⟩ := fun q hq => by rw [h3]; exact set_other _ _ _ _ _ (Ne.symm hq)
  have o4 : ∀ q, q ≠ k * 4 + 3 → w4.cell? ⟨g, q, none⟩ = w3.cell? ⟨g, q, none⟩ := fun q hq => by rw [h4]; exact set_other _ _ _ _ _ (Ne.symm hq)
  obtain ⟨x0, x1, x2, x3⟩ := h.z k hk (Nat.le_refl _)
  have s1 : w1.cell? ⟨g, k * 4, none⟩ = some (.int .i64 a) := by rw [h1]; exact set_same _ _ _ _ _ x0
  have s2 : w2.cell? ⟨g, k * 4 + 1, none⟩ = some (.int .i64 b) := by rw [h2]; exact set_same _ _ _ _ _ ((o1 _ (by omega)).trans x1)
  have s3 : w3.cell? ⟨g, k * 4 + 2, none⟩ = some (.int .i64 0) := by rw [h3]; exact set_same _ _ _ _ _ ((o2 _ (by omega)).trans ((o1 _ (by omega)).trans x2))
  have s4 : w4.cell? ⟨g, k * 4 + 3, none⟩ = some (.string s) := by rw [h4]; exact set_same _ _ _ _ _ ((o3 _ (by omega)).trans ((o2 _ (by omega)).trans ((o1 _ (by omega)).trans x3)))
  have ho : ∀ i j, i ≠ k → j < 4 → w4.cell? ⟨g, i * 4 + j, none⟩ = w.cell? ⟨g, i * 4 + j, none⟩ := fun i j hi hj => by
    rw [o4 _ (by omega), o3 _ (by omega), o2 _ (by omega), o1 _ (by omega)]
  have hz : w4.heap.size = w.heap.size := by rw [h4, h3, h2, h1]; simp
  have hf : ∀ q, w4.frozen? q = w.frozen? q := fun q => by rw [h4, frozen_set, h3, frozen_set, h2, frozen_set, h1, frozen_set]
  refine ⟨by rw [hz]; exact h.lt, fun j => (hf _).trans (h.fz j), ?_, ?_⟩
  · intro i hi hik
    by_cases e : i = k
    · subst e
      exact ⟨by rw [o4 _ (by omega), o3 _ (by omega), o2 _ (by omega), s1, ha], by rw [o4 _ (by omega), o3 _ (by omega), s2, hb], by rw [o4 _ (by omega), s3], by rw [s4, hs]⟩
    · obtain ⟨q0, q1, q2, q3⟩ := h.c i hi (by omega)
      exact ⟨(ho i 0 e (by omega)).trans q0, (ho i 1 e (by omega)).trans q1, (ho i 2 e (by omega)).trans q2, (ho i 3 e (by omega)).trans q3⟩
  · intro i hi hik
    have e : i ≠ k := by omega
    obtain ⟨q0, q1, q2, q3⟩ := h.z i hi (by omega)
    exact ⟨(ho i 0 e (by omega)).trans q0, (ho i 1 e (by omega)).trans q1, (ho i 2 e (by omega)).trans q2, (ho i 3 e (by omega)).trans q3⟩
def BdPost (N Z c0 c1 : Nat) (C : Nat → ByteArray) (w : World) (e : Ending) (w' : World) : Prop :=
  ∃ (gt : Nat) (pr : Nat → Int), e = .returned (.tuple #[.slice (some ⟨gt, 0, none⟩) N N, .int .i64 0]) ∧ w.heap.size ≤ gt ∧ TkAt w' gt N Z C pr ∧ PrF N pr (500 * c0 + 7 * c1) (c0 + c1) ∧ Fr [] w w'
theorem infoTk : (Tryd.prog.info? 40).map (fun i => (i.zero, i.size, i.bytes)) = some (some (.agg zT), 4, 40) := by kernel_rfl
theorem make_tk (N : Nat) (hN : N ≤ 36) (w : World) : (Instr.makeSlice 32 (.int .i64 N) (.int .i64 N)).run Tryd.prog w = .ok (.slice (some ⟨w.heap.size, 0, none⟩) N N) (w.alloc (.cells (madeCells zT (N * 4)) 40)) := by
  obtain ⟨i0, hi0, hz0, hz1, hz2⟩ := info_parts infoTk
  have := run_make (P := Tryd.prog) (w := w) 32 40 i0 _ Tryd.underlying32 hi0 hz0 .i64 .i64 N N (by omega) (by omega) (by rw [hz2]; omega) (by omega)
  rw [hz1] at this
  have e : (Value.agg zT).cells = zT := rfl
  rw [e] at this
  simpa using this
set_option maxRecDepth 20000 in
set_option maxHeartbeats 4000000 in
theorem build_any (s : ByteArray) (P Z g n cap c0 c1 N : Nat) (sd : Int) (w : World) (hs : s = dkS) (hp : Pl P Z n c0 c1) (hN : N = P * Z) (hl : LvAt w g n c0 c1) (hT : HexT w) (hw : 0 < w.heap.size) (hsd : 0 ≤ sd ∧ sd < 18446744073709551616) :
    Calls Tryd.prog 5 #[.agg #[.string s, .int .i64 10, .int .i64 P, .int .i64 Z, .slice (some ⟨g, 0, none⟩) n cap], .int .u64 sd] w (BdPost N Z c0 c1 (cdS sd) w) := by
  obtain ⟨p1, p2, z1, z2, q1, q2, k1, k2, k3⟩ := hp.i
  have hNi : (P : Int) * (Z : Int) = (N : Int) := by rw [hN, Int.natCast_mul]
  rw [hNi] at q1 q2 k2 k3
  obtain ⟨w1, hw1⟩ : ∃ w1, w1 = w.alloc (.cells #[.string s, .int .i64 10, .int .i64 P, .int .i64 Z, .slice (some ⟨g, 0, none⟩) n cap] 26) := ⟨_, rfl⟩
  have fa : Fr [] w w1 := by rw [hw1]; exact (Fr.refl [] w).alloc _
  have c0' : w1.cell? ⟨w.heap.size, 0, none⟩ = some (.string s) := by rw [hw1]; exact new_cell rfl rfl
  have c1' : w1.cell? ⟨w.heap.size, 1, none⟩ = some (.int .i64 10) := by rw [hw1]; exact new_cell rfl rfl
  have c2' : w1.cell? ⟨w.heap.size, 2, none⟩ = some (.int .i64 P) := by rw [hw1]; exact new_cell rfl rfl
  have c3' : w1.cell? ⟨w.heap.size, 3, none⟩ = some (.int .i64 Z) := by rw [hw1]; exact new_cell rfl rfl
  have c4' : w1.cell? ⟨w.heap.size, 4, none⟩ = some (.slice (some ⟨g, 0, none⟩) n cap) := by rw [hw1]; exact new_cell rfl rfl
  have hl1 := hl.fr fa (by simp)
  have hck := dcheck_any s P Z g n cap c0 c1 w1 hs hp hl1
  have hgw := hl.lt
  have HP := Lib.hid hp
  have HL := Lib.hid hl1
  have HFA := Lib.hid fa
  have HCK := Lib.hid hck
  have HTT := Lib.hid (hT.fr fa)
  have HN := Lib.hid hN
  have HS := Lib.hid hs
  have hmk := make_tk N (by omega)
  have HW0 := Lib.hid hw
  clear hp hl hl1 fa hck hT hN hs hw
  go_enter Tryd.func5, Tryd.ntmps5
  go_upto_region 1 with (fail)
  rw [← hw1]
  have HW1 := Lib.hid hw1
  clear hw1
  generalize hpb : w.heap.size = pb at *
  have HPB := Lib.hid hpb
  clear hpb
  go_wp2_with fail
  refine HCK.out.mono ?_
  rintro e w2 ⟨rfl, f2⟩
  have d0 := f2.cell_some c0' (by simp)
  have d1 := f2.cell_some c1' (by simp)
  have d2 := f2.cell_some c2' (by simp)
  have d3 := f2.cell_some c3' (by simp)
  have d4 := f2.cell_some c4' (by simp)
  have HL2 := Lib.hid (HL.out.fr f2 (by simp))
  have HF2 := Lib.hid (HFA.out.trans f2)
  have HT2 := Lib.hid (HTT.out.fr f2)
  clear c0' c1' c2' c3' c4' f2
  go_upto_region 5 with (fail)
  obtain ⟨w3, hw3⟩ : ∃ x, x = w2.alloc (.cells (madeCells zT (N * 4)) 40) := ⟨_, rfl⟩
  obtain ⟨gt, hgt⟩ : ∃ x, x = w2.heap.size := ⟨_, rfl⟩
  have hpt : pb < gt := by rw [hgt]; exact lt_of_cell d0
  have f3 : Fr [] w2 w3 := by rw [hw3]; exact (Fr.refl [] w2).alloc _
  have HU := Lib.hid (show TkU w3 gt N Z (cdS sd) 0 by rw [hw3, hgt]; exact TkU.zero _ _ _ _ _)
  rw [← hw3, ← hgt]
  have HL3 := Lib.hid (HL2.out.fr f3 (by simp))
  have HF3 := Lib.hid (HF2.out.trans f3)
  have HT3 := Lib.hid (HT2.out.fr f3)
  have d0 := f3.cell_some d0 (by simp)
  have d1 := f3.cell_some d1 (by simp)
  have d2 := f3.cell_some d2 (by simp)
  have d3 := f3.cell_some d3 (by simp)
  have d4 := f3.cell_some d4 (by simp)
  have HC3 := Lib.hid (And.intro d0 (And.intro d1 (And.intro d2 (And.intro d3 d4))))
  have hgt0 : 0 < gt := by omega
  have hgs := HF2.out.size
  rw [HPB.out, ← hgt] at hgs
  have hz3 : gt < w3.heap.size := by rw [hw3, hgt]; simp
  have HHW := Lib.hid (And.intro hw3 hgt)
  clear hw3 hgt f3 hmk d0 d1 d2 d3 d4
  go_wp2_with fail
  go_loopw [26] (fun i wr => ∃ k : Nat, k ≤ N ∧ i = .int .i64 k ∧ TkU wr gt N Z (cdS sd) k ∧ Fr [gt] w3 wr) (fun i _ => N - (intOf i).toNat)
  case atStart => exact ⟨0, by omega, rfl, HU.out, Fr.refl _ _⟩
  case round =>
    obtain ⟨k, hk, rfl, hu, hf⟩ := hrel
    by_cases hlt : k < N
    · have hkN : (k : Int) < (N : Int) := by omega
      have HUk := Lib.hid hu
      have HF := Lib.hid hf
      clear hu hf
      have hmb := mixZ_bd (IntKind.u64.wrap (sd + k))
      have hwb := wrap_u64_bd (sd + k)
      go_wp2_with fail
      refine (mix_any _ wr hwb.1 (by omega)).mono ?_
      rintro e w4 ⟨rfl, rfl⟩
      rw [← cdN_eq]
      go_wp2_with fail
      refine (hex_any (cdN sd k) wr (cdN_lt sd k) (HT3.out.frk HF.out (by simp; omega)) (by have := HF.out.size; omega)).mono ?_
      rintro e w4 ⟨rfl, f4⟩
      have hfold : hexS (cdN sd k) = cdS sd k := rfl
      rw [hfold]
      clear hfold hmb hwb
      have hf4 := HF.out.trans (f4.mono (by simp))
      have u4 := HUk.out.fr f4 (by simp)
      obtain ⟨d0, d1, d2, d3, d4⟩ := HC3.out
      have d3 := hf4.cell_some d3 (by simp; omega)
      obtain ⟨x0, x1, x2, x3⟩ := u4.z k hlt (Nat.le_refl _)
      have y0 := u4.fz (k * 4)
      have y1 := u4.fz (k * 4 + 1)
      have y2 := u4.fz (k * 4 + 2)
      have y3 := u4.fz (k * 4 + 3)
      have r0 : 0 ≤ (k : Int) / (Z : Int) := Int.ediv_nonneg (by omega) (by omega)
      have r1 : (k : Int) / (Z : Int) ≤ (k : Int) := Int.ediv_le_self _ (by omega)
      have r2 : 0 ≤ (k : Int) % (Z : Int) := Int.emod_nonneg _ (by omega)
      have r3 : (k : Int) % (Z : Int) < (Z : Int) := Int.emod_lt_of_pos _ (by omega)
      have HU4 := Lib.hid u4
      have HF4 := Lib.hid hf4
      clear f4 hf4 u4 d0 d1 d2 d4
      go_wp2_with fail
      go_region
      as_aux_lemma =>
        have hst := (HU4.out.step hlt _ _ rfl rfl _ rfl rfl rfl rfl rfl).fr ((Fr.refl [] _).drew) (by simp)
        have hfst : Fr [gt] w4 (((((w4.setCell ⟨gt, k * 4, none⟩ (.int .i64 ((k : Int) / (Z : Int) + 1))).setCell ⟨gt, k * 4 + 1, none⟩ (.int .i64 ((k : Int) % (Z : Int) + 1))).setCell ⟨gt, k * 4 + 2, none⟩ (.int .i64 0)).setCell ⟨gt, k * 4 + 3, none⟩ (.string (cdS sd k))).drew) := (((((Fr.refl [gt] w4).setCell (.inl (by simp)) _).setCell (.inl (by simp)) _).setCell (.inl (by simp)) _).setCell (.inl (by simp)) _).drew
        generalize ((((w4.setCell ⟨gt, k * 4, none⟩ (.int .i64 ((k : Int) / (Z : Int) + 1))).setCell ⟨gt, k * 4 + 1, none⟩ (.int .i64 ((k : Int) % (Z : Int) + 1))).setCell ⟨gt, k * 4 + 2, none⟩ (.int .i64 0)).setCell ⟨gt, k * 4 + 3, none⟩ (.string (cdS sd k))).drew = w5 at *
        have HST := Lib.hid hst
        have HFST := Lib.hid (HF4.out.trans hfst)
        clear hst hfst x0 x1 x2 x3 y0 y1 y2 y3 r0 r1 r2 r3 d3
        go_wp2_with fail
        go_roundw
        case rel => exact ⟨k + 1, by omega, by go_num, HST.out, HFST.out⟩
        case measure => simp [intOf]; omega
    · have e : N = k := by omega
      subst e
      have hkN : ¬ ((N : Int) < (N : Int)) := by omega
      have ht := hu.done
      have HF := Lib.hid hf
      have HTK := Lib.hid ht
      obtain ⟨d0, d1, d2, d3, d4⟩ := HC3.out
      have HC4 := Lib.hid (And.intro (hf.cell_some d0 (by simp; omega)) (And.intro (hf.cell_some d1 (by simp; omega)) (And.intro (hf.cell_some d2 (by simp; omega)) (And.intro (hf.cell_some d3 (by simp; omega)) (hf.cell_some d4 (by simp; omega))))))
      have hgz := ht.lt
      clear hu hf ht d0 d1 d2 d3 d4 hlt
      go_wp2_with fail
      refine (new_any sd wr).mono ?_
      rintro e w5 ⟨rfl, hs5, hz5, hb5⟩
      have f5 := Fr.of_below hb5
      obtain ⟨b, hb⟩ : ∃ b, b = wr.heap.size := ⟨_, rfl⟩
      rw [← hb] at hs5 hz5 hgz ⊢
      have HB := Lib.hid hb
      clear hb hb5
      have ht5 := HTK.out.fr f5 (by simp)
      have hgl := HL3.out.lt
      have hgg : g < pb := by have := HF3.out; have := HPB.out; omega
      have hl5 := (HL3.out.fr HF.out (by simp; omega)).fr f5 (by simp)
      obtain ⟨d0, d1, d2, d3, d4⟩ := HC4.out
      have d0 := f5.cell_some d0 (by simp)
      have d1 := f5.cell_some d1 (by simp)
      have d2 := f5.cell_some d2 (by simp)
      have d3 := f5.cell_some d3 (by simp)
      have d4 := f5.cell_some d4 (by simp)
      have HGU := Lib.hid (guar_any s P Z g n cap c0 c1 gt b N (cdS sd) sd w5 HP.out HN.out hl5 ht5 hs5 (by omega) (by omega) (by omega))
      have HC5 := Lib.hid (And.intro d0 (And.intro d1 (And.intro d2 (And.intro d3 d4))))
      have HL5 := Lib.hid hl5
      have HF5 := Lib.hid f5
      clear hl5 ht5 hs5 f5 hgl
      go_wp2_with fail
      refine HGU.out.mono ?_
      rintro e w6 ⟨rfl, pr, st, u, ht6, hg6, hs6, hu0, hu1, f6⟩
      clear d0 d1 d2 d3 d4
      obtain ⟨d0, d1, d2, d3, d4⟩ := HC5.out
      have d0 := f6.cell_some d0 (by simp; omega)
      have d1 := f6.cell_some d1 (by simp; omega)
      have d2 := f6.cell_some d2 (by simp; omega)
      have d3 := f6.cell_some d3 (by simp; omega)
      have d4 := f6.cell_some d4 (by simp; omega)
      have HSC := Lib.hid (scat_any s P Z g n cap c0 c1 gt b N (cdS sd) pr st u w6 HP.out HN.out (HL5.out.fr f6 (by simp; omega)) ht6 hg6 hs6 hu0 hu1 (by omega) (by omega) (by omega))
      have HF6 := Lib.hid f6
      clear ht6 hg6 hs6 f6
      go_wp2_with fail
      refine HSC.out.mono ?_
      rintro e w7 ⟨rfl, pr', ht7, hp7, f7⟩
      have HT7 := Lib.hid ht7
      have HP7 := Lib.hid hp7
      have HF7 := Lib.hid f7
      clear ht7 hp7 f7 d0 d1 d2 d3 d4
      go_wp2_with fail
      go_ret2
      exact ⟨gt, pr', rfl, by have := HPB.out; omega, HT7.out, HP7.out, (((HF3.out.trans' HF.out (by have := HPB.out; simp; omega)).trans HF5.out).trans' HF6.out (by have := HPB.out; simp; omega)).trans' HF7.out (by have := HPB.out; simp; omega)⟩
end Go.Proofs.YtijdlggoaianbaaDoor
