/-
  Sample of the stream (layer 9), in terms of plain functions on lists.
-/
import Derived.Test.YtkiagmfdfojoeaaShuffle
set_option linter.unusedVariables false
namespace Go.Proofs.Ytkiagmfdfojoeaa
open Go.RowKit
set_option maxHeartbeats 1000000 in
theorem samp1_any (i b bs bn bl g cap base : Nat) (e : TypeId) (l : List Int) (s u : Int) (w : World)
    (hS : w.cell? ⟨bs, 0, none⟩ = some (.pointer (some ⟨b, 0, none⟩))) (hN : w.cell? ⟨bn, 0, none⟩ = some (.int .i64 l.length)) (hL : w.cell? ⟨bl, 0, none⟩ = some (.slice (some ⟨g, 0, none⟩) l.length cap))
    (hs : StrAt w b s u) (ho : OwnI w base e (.slice (some ⟨g, 0, none⟩) l.length cap) l) (hi : i < l.length) (hl : l.length ≤ 4096) (hu0 : 0 ≤ u) (hu1 : u ≤ 999999999000)
    (hbg : b ≠ g) (hlb : bl ≠ b) (hlg : bl ≠ g) :
    Calls Try.prog 42 #[.int .i64 i, .pointer (some ⟨bs, 0, none⟩), .pointer (some ⟨bn, 0, none⟩), .pointer (some ⟨bl, 0, none⟩)] w fun x w' => x = .returned (.int .i64 (bE ((l.length : Int) - i) s u)) ∧ StrAt w' b (bS ((l.length : Int) - i) s u) (bU ((l.length : Int) - i) s u) ∧
      OwnI w' base e (.slice (some ⟨g, 0, none⟩) l.length cap) (swpE (bE ((l.length : Int) - i) s u) l i (i + (bV ((l.length : Int) - i) s u).toNat)) ∧ Fr [b, g] w w' := by
  have hB := below_any b s u ((l.length : Int) - i) w hs hu0 hu1
  have hz := bE_zero ((l.length : Int) - i) s u
  generalize bE ((l.length : Int) - i) s u = E at *
  generalize bV ((l.length : Int) - i) s u = V at *
  generalize bU ((l.length : Int) - i) s u = U at *
  generalize bS ((l.length : Int) - i) s u = S at *
  have HB := Lib.hid hB
  have HZ := Lib.hid hz
  clear hB hz
  go_enter Try.func42, Try.ntmps42
  go_wp2_with fail
  refine HB.out.mono ?_
  rintro x w1 ⟨rfl, hs1, ho1⟩
  have hz := HZ.out
  have hf1 := ho1.fr
  have hL1 := hf1.cell_some hL (by simpa using hlb)
  have ho2 := ho.fr hf1 (by simp [Value.ownBlock]; omega)
  clear HB HZ
  by_cases hE : E = 0
  · obtain ⟨_, _, hv0, hv1⟩ := hz hE
    subst hE
    clear hz
    obtain ⟨j, rfl⟩ := Int.eq_ofNat_of_zero_le hv0
    have hj : i + j < l.length := by omega
    have ci := ho2.cell i hi
    have cj := ho2.cell (i + j) hj
    have fi := ho2.frozen i
    have fj := ho2.frozen (i + j)
    have hset := (ho2.set i (l.getD (i + j) 0)).set (i + j) (l.getD i 0)
    generalize hxi : l.getD i 0 = xi at *
    generalize hxj : l.getD (i + j) 0 = xj at *
    have HX : Hid (swp l i (i + j) = (l.set i xj).set (i + j) xi) := by show swp l i (i + j) = _; unfold swp; rw [hxi, hxj]
    clear hxi hxj
    obtain ⟨v', hy'⟩ := cell?_setCell_some (w := w1) (p := ⟨g, i, none⟩) (x := .int .i64 xj) (q := ⟨g, i + j, none⟩) (v := .int .i64 xj) cj
    have e1 : IntKind.i64.wrap ((i : Int) + j) = (i : Int) + j := IntWalk.i64_in _ (by omega)
    have e2 : ((i : Int) + j).toNat = i + j := by omega
    have e3 : (0 : Int) ≤ (i : Int) + j := by omega
    have e4 : (i : Int) + j < (l.length : Int) := by omega
    go_wp2_with fail
    go_region
    clear e1 e2
    go_wp2_with fail
    go_ret
    refine ⟨rfl, ?_, ?_, ?_⟩
    · exact hs1.fr (Fr.drew (Fr.setCell (Fr.setCell (Fr.refl [g] _) (.inl (by simp)) _) (.inl (by simp)) _)) (by simpa using hbg)
    · unfold swpE; rw [if_pos rfl, Int.toNat_natCast, HX.out]; exact hset
    · exact Fr.drew (Fr.setCell (Fr.setCell (hf1.mono (by simp)) (.inl (by simp)) _) (.inl (by simp)) _)
  · have n1 : (E == 0) = false := by simpa using hE
    have HE := Lib.hid hE
    clear hz hE
    go_wp2_with fail
    go_ret
    refine ⟨rfl, hs1, ?_, hf1.mono (by simp)⟩
    unfold swpE; rw [if_neg HE.out]; exact ho2
theorem samp1_at (I : Int) (i n b bs bn bl g cap base : Nat) (e : TypeId) (l : List Int) (s u : Int) (w : World) (hI : I = i) (hn : l.length = n)
    (hS : w.cell? ⟨bs, 0, none⟩ = some (.pointer (some ⟨b, 0, none⟩))) (hN : w.cell? ⟨bn, 0, none⟩ = some (.int .i64 n)) (hL : w.cell? ⟨bl, 0, none⟩ = some (.slice (some ⟨g, 0, none⟩) n cap))
    (hs : StrAt w b s u) (ho : OwnI w base e (.slice (some ⟨g, 0, none⟩) n cap) l) (hi : i < n) (hl : n ≤ 4096) (hu0 : 0 ≤ u) (hu1 : u ≤ 999999999000)
    (hbg : b ≠ g) (hlb : bl ≠ b) (hlg : bl ≠ g) :
    Calls Try.prog 42 #[.int .i64 I, .pointer (some ⟨bs, 0, none⟩), .pointer (some ⟨bn, 0, none⟩), .pointer (some ⟨bl, 0, none⟩)] w fun x w' => x = .returned (.int .i64 (bE ((n : Int) - i) s u)) ∧ StrAt w' b (bS ((n : Int) - i) s u) (bU ((n : Int) - i) s u) ∧
      OwnI w' base e (.slice (some ⟨g, 0, none⟩) n cap) (swpE (bE ((n : Int) - i) s u) l i (i + (bV ((n : Int) - i) s u).toNat)) ∧ Fr [b, g] w w' := by
  subst hn; subst hI
  exact samp1_any i b bs bn bl g cap base e l s u w hS hN hL hs ho hi hl hu0 hu1 hbg hlb hlg
/-- the steps of Sample from index i on, f of them: the error, the list, the state, the counter -/
def sampL : Nat → Nat → Nat → List Int → Int → Int → Int × List Int × Int × Int
  | 0, _, _, l, s, u => (0, l, s, u)
  | f + 1, n, i, l, s, u => if bE ((n : Int) - i) s u = 0 then sampL f n (i + 1) (swp l i (i + (bV ((n : Int) - i) s u).toNat)) (bS ((n : Int) - i) s u) (bU ((n : Int) - i) s u) else (bE ((n : Int) - i) s u, l, bS ((n : Int) - i) s u, bU ((n : Int) - i) s u)
theorem sampL_go (f n i : Nat) (l : List Int) (s u : Int) (h : bE ((n : Int) - i) s u = 0) : sampL (f + 1) n i l s u = sampL f n (i + 1) (swp l i (i + (bV ((n : Int) - i) s u).toNat)) (bS ((n : Int) - i) s u) (bU ((n : Int) - i) s u) := by rw [sampL, if_pos h]
theorem sampL_stop (f n i : Nat) (l : List Int) (s u : Int) (h : bE ((n : Int) - i) s u ≠ 0) : sampL (f + 1) n i l s u = (bE ((n : Int) - i) s u, l, bS ((n : Int) - i) s u, bU ((n : Int) - i) s u) := by rw [sampL, if_neg h]
theorem sampL_bd (f n : Nat) : ∀ i l s u, u ≤ (sampL f n i l s u).2.2.2 ∧ (sampL f n i l s u).2.2.2 ≤ u + 64 * f := by
  induction f with
  | zero => intro i l s u; simp [sampL]
  | succ f ih =>
    intro i l s u
    have hb := bU_bd ((n : Int) - i) s u
    rw [sampL]; split
    · have := ih (i + 1) (swp l i (i + (bV ((n : Int) - i) s u).toNat)) (bS ((n : Int) - i) s u) (bU ((n : Int) - i) s u); omega
    · simp; omega
theorem sampL_E (f n : Nat) (hn : n ≤ 4096) : ∀ i l s u, i + f ≤ n → (sampL f n i l s u).1 = 0 ∨ (sampL f n i l s u).1 = 11 := by
  induction f with
  | zero => intro i l s u _; simp [sampL]
  | succ f ih =>
    intro i l s u h
    rw [sampL]; split
    · exact ih _ _ _ _ (by omega)
    · exact bE_in _ _ _ (by omega) (by omega)
theorem sampL_len (f n : Nat) : ∀ i l s u, (sampL f n i l s u).2.1.length = l.length := by
  induction f with
  | zero => intro i l s u; simp [sampL]
  | succ f ih =>
    intro i l s u
    rw [sampL]; split
    · rw [ih, swp_len]
    · rfl
end Go.Proofs.Ytkiagmfdfojoeaa
