/-
  ascending, Shuffle, Sample of the stream (layer 9), in terms of plain functions on lists.
-/
import Derived.Test.YtijdlggoaianbaaDoorStream
import Derived.BigRegion
import Derived.RegionTactic
set_option linter.unusedVariables false
namespace Go.Proofs.YtijdlggoaianbaaDoor
open Go.RowKit
theorem infoInt : (Tryd.prog.info? 3).map (fun i => (i.zero, i.size, i.bytes)) = some (some (.int .i64 0), 1, 8) := by kernel_rfl
/-- 1 .. n -/
def asc (n : Nat) : List Int := (List.range n).map fun (i : Nat) => (i : Int) + 1
def ascTo (n k : Nat) : List Int := (List.range n).map fun (i : Nat) => if i < k then (i : Int) + 1 else 0
theorem ascTo_zero (n : Nat) : ascTo n 0 = List.replicate n 0 := by
  apply List.ext_getElem <;> simp [ascTo]
theorem ascTo_all (n : Nat) : ascTo n n = asc n := by
  apply List.ext_getElem
  · simp [ascTo, asc]
  · intro i h1 h2
    simp [ascTo, asc] at h1 ⊢
    intro h; omega
theorem ascTo_len (n k : Nat) : (ascTo n k).length = n := by simp [ascTo]
theorem asc_len (n : Nat) : (asc n).length = n := by simp [asc]
theorem ascTo_set (n k : Nat) (h : k < n) : (ascTo n k).set k ((k : Int) + 1) = ascTo n (k + 1) := by
  apply List.ext_getElem
  · simp [ascTo]
  · intro i h1 h2
    simp only [ascTo, List.getElem_set, List.getElem_map, List.getElem_range]
    split
    · subst_vars; simp
    · by_cases hi : i < k
      · simp [hi]; omega
      · have : ¬ i < k + 1 := by omega
        simp [hi, this]
set_option maxHeartbeats 400000 in
theorem asc_any (n : Nat) (w : World) (hn : n ≤ 4096) :
    Calls Tryd.prog 25 #[.int .i64 n] w fun e w' => e = .returned (.slice (some ⟨w.heap.size, 0, none⟩) n n) ∧ OwnI w' w.heap.size 3 (.slice (some ⟨w.heap.size, 0, none⟩) n n) (asc n) ∧ Fr [] w w' := by
  have hmk := fun w => run_make_row' (P := Tryd.prog) 69 3 (.int .i64 0) 8 Tryd.underlying69 infoInt rfl .i64 .i64 n (by omega) (by omega) w
  go_enter Tryd.func25, Tryd.ntmps25
  go_wp2_with fail
  obtain ⟨w1, hw1⟩ : ∃ w1, w1 = w.alloc (.cells (madeCells #[.int .i64 0] n) 3) := ⟨_, rfl⟩
  have hf1 : Fr [] w w1 := by rw [hw1]; exact (Fr.refl _ _).alloc _
  have ho1 : OwnI w1 w.heap.size 3 (.slice (some ⟨w.heap.size, 0, none⟩) n n) (ascTo n 0) := by rw [hw1, ascTo_zero]; exact OwnI.made _ _ _ (by unfold maxLen; omega)
  rw [← hw1]
  clear hw1 hmk
  go_loopw [4, 9] (fun _ i wr => ∃ k : Nat, k ≤ n ∧ i = .int .i64 k ∧ OwnI wr w.heap.size 3 (.slice (some ⟨w.heap.size, 0, none⟩) n n) (ascTo n k) ∧ Fr [] w wr) (fun _ i _ => n - (intOf i).toNat)
  case atStart => exact ⟨0, by omega, rfl, ho1, hf1⟩
  case round =>
    obtain ⟨k, hk, rfl, ho, hf⟩ := hrel
    by_cases hlt : k < n
    · have hc := ho.cell k (by rw [ascTo_len]; exact hlt)
      have hz := ho.frozen k
      generalize (ascTo n k).getD k 0 = x at hc
      go_wp2
      refine ⟨⟨k + 1, by omega, by go_num, ?_, hf.setCell (.inr (Nat.le_refl _)) _⟩, by simp [intOf]; omega⟩
      rw [← ascTo_set n k hlt]; exact ho.set k _
    · obtain rfl : k = n := by omega
      go_wp2
      go_ret
      exact ⟨rfl, by rw [← ascTo_all]; exact ho, hf⟩

/-- two elements exchanged -/
def swp (l : List Int) (i j : Nat) : List Int := (l.set i (l.getD j 0)).set j (l.getD i 0)
theorem swp_len (l : List Int) (i j : Nat) : (swp l i j).length = l.length := by simp [swp]
def swpE (E : Int) (l : List Int) (i j : Nat) : List Int := if E = 0 then swp l i j else l
theorem swpE_len (E : Int) (l : List Int) (i j : Nat) : (swpE E l i j).length = l.length := by unfold swpE; split; exact swp_len _ _ _; rfl
set_option maxHeartbeats 1000000 in
theorem shuf1_any (i b bs bl g cap base : Nat) (e : TypeId) (l : List Int) (s u : Int) (w : World)
    (hS : w.cell? ⟨bs, 0, none⟩ = some (.pointer (some ⟨b, 0, none⟩))) (hL : w.cell? ⟨bl, 0, none⟩ = some (.slice (some ⟨g, 0, none⟩) l.length cap))
    (hs : StrAt w b s u) (ho : OwnI w base e (.slice (some ⟨g, 0, none⟩) l.length cap) l) (hi : i < l.length) (hl : l.length ≤ 4096) (hu0 : 0 ≤ u) (hu1 : u ≤ 999999999000)
    (hbg : b ≠ g) (hlb : bl ≠ b) (hlg : bl ≠ g) :
    Calls Tryd.prog 26 #[.int .i64 i, .pointer (some ⟨bs, 0, none⟩), .pointer (some ⟨bl, 0, none⟩)] w fun x w' => x = .returned (.int .i64 (bE (i + 1) s u)) ∧ StrAt w' b (bS (i + 1) s u) (bU (i + 1) s u) ∧
      OwnI w' base e (.slice (some ⟨g, 0, none⟩) l.length cap) (swpE (bE (i + 1) s u) l i (bV (i + 1) s u).toNat) ∧ Fr [b, g] w w' := by
  have hB := below_any b s u (i + 1) w hs hu0 hu1
  have hz := bE_zero (i + 1) s u
  generalize bE (↑i + 1) s u = E at *
  generalize bV (↑i + 1) s u = V at *
  generalize bU (↑i + 1) s u = U at *
  generalize bS (↑i + 1) s u = S at *
  have HB := Lib.hid hB
  have HZ := Lib.hid hz
  clear hB hz
  go_enter Tryd.func26, Tryd.ntmps26
  go_wp2_with fail
  refine HB.out.mono ?_
  rintro x w1 ⟨rfl, hs1, ho1⟩
  have hz := HZ.out
  have hf1 := ho1.fr
  have hL1 := hf1.cell_some hL (by simpa using hlb)
  have ho2 := ho.fr hf1 (by simp [Value.ownBlock]; omega)
  clear HB HZ
  by_cases hE : E = 0
  · obtain ⟨_, _, hv0, hv1⟩ := hz hE
    subst hE
    clear hz
    obtain ⟨j, rfl⟩ := Int.eq_ofNat_of_zero_le hv0
    have hj : j < l.length := by omega
    have ci := ho2.cell i hi
    have cj := ho2.cell j hj
    have fi := ho2.frozen i
    have fj := ho2.frozen j
    have hset := (ho2.set i (l.getD j 0)).set j (l.getD i 0)
    generalize hxi : l.getD i 0 = xi at *
    generalize hxj : l.getD j 0 = xj at *
    have HX : Hid (swp l i j = (l.set i xj).set j xi) := by show swp l i j = _; unfold swp; rw [hxi, hxj]
    clear hxi hxj
    obtain ⟨v', hy'⟩ := cell?_setCell_some (w := w1) (p := ⟨g, i, none⟩) (x := .int .i64 xj) (q := ⟨g, j, none⟩) (v := .int .i64 xj) cj
    go_wp2_with fail
    go_region
    go_wp2_with fail
    go_ret
    refine ⟨rfl, ?_, ?_, ?_⟩
    · exact hs1.fr (Fr.drew (Fr.setCell (Fr.setCell (Fr.refl [g] _) (.inl (by simp)) _) (.inl (by simp)) _)) (by simpa using hbg)
    · unfold swpE; rw [if_pos rfl, Int.toNat_natCast, HX.out]; exact hset
    · exact Fr.drew (Fr.setCell (Fr.setCell (hf1.mono (by simp)) (.inl (by simp)) _) (.inl (by simp)) _)
  · have n1 : (E == 0) = false := by simpa using hE
    have HE := Lib.hid hE
    clear hz hE
    go_wp2_with fail
    go_ret
    refine ⟨rfl, hs1, ?_, hf1.mono (by simp)⟩
    unfold swpE; rw [if_neg HE.out]; exact ho2

theorem shuf1_at (I : Int) (i n b bs bl g cap base : Nat) (e : TypeId) (l : List Int) (s u : Int) (w : World) (hI : I = i) (hn : l.length = n)
    (hS : w.cell? ⟨bs, 0, none⟩ = some (.pointer (some ⟨b, 0, none⟩))) (hL : w.cell? ⟨bl, 0, none⟩ = some (.slice (some ⟨g, 0, none⟩) n cap))
    (hs : StrAt w b s u) (ho : OwnI w base e (.slice (some ⟨g, 0, none⟩) n cap) l) (hi : i < n) (hl : n ≤ 4096) (hu0 : 0 ≤ u) (hu1 : u ≤ 999999999000)
    (hbg : b ≠ g) (hlb : bl ≠ b) (hlg : bl ≠ g) :
    Calls Tryd.prog 26 #[.int .i64 I, .pointer (some ⟨bs, 0, none⟩), .pointer (some ⟨bl, 0, none⟩)] w fun x w' => x = .returned (.int .i64 (bE (i + 1) s u)) ∧ StrAt w' b (bS (i + 1) s u) (bU (i + 1) s u) ∧
      OwnI w' base e (.slice (some ⟨g, 0, none⟩) n cap) (swpE (bE (i + 1) s u) l i (bV (i + 1) s u).toNat) ∧ Fr [b, g] w w' := by
  subst hn; subst hI
  exact shuf1_any i b bs bl g cap base e l s u w hS hL hs ho hi hl hu0 hu1 hbg hlb hlg
/-- the steps of Shuffle from index i down to 1: the error, the list, the state, the counter -/
def shufL : Nat → List Int → Int → Int → Int × List Int × Int × Int
  | 0, l, s, u => (0, l, s, u)
  | i + 1, l, s, u => if bE ((i : Int) + 2) s u = 0 then shufL i (swp l (i + 1) (bV ((i : Int) + 2) s u).toNat) (bS ((i : Int) + 2) s u) (bU ((i : Int) + 2) s u) else (bE ((i : Int) + 2) s u, l, bS ((i : Int) + 2) s u, bU ((i : Int) + 2) s u)
theorem shufL_go (i : Nat) (l : List Int) (s u : Int) (h : bE ((i : Int) + 2) s u = 0) : shufL (i + 1) l s u = shufL i (swp l (i + 1) (bV ((i : Int) + 2) s u).toNat) (bS ((i : Int) + 2) s u) (bU ((i : Int) + 2) s u) := by rw [shufL, if_pos h]
theorem shufL_stop (i : Nat) (l : List Int) (s u : Int) (h : bE ((i : Int) + 2) s u ≠ 0) : shufL (i + 1) l s u = (bE ((i : Int) + 2) s u, l, bS ((i : Int) + 2) s u, bU ((i : Int) + 2) s u) := by rw [shufL, if_neg h]
def okL (r : Int × List Int × Int × Int) : List Int := if r.1 = 0 then r.2.1 else []
set_option maxHeartbeats 1000000 in
theorem shuffle_in (b n : Nat) (s u : Int) (w : World) (hs : StrAt w b s u) (hn : n ≤ 4096) (hu0 : 0 ≤ u) (hu1 : u ≤ 999999000000) :
    Calls Tryd.prog 22 #[.pointer (some ⟨b, 0, none⟩), .int .i64 n] w fun x w' => ∃ v, x = .returned (.tuple #[v, .int .i64 (shufL (n - 1) (asc n) s u).1]) ∧ OwnI w' w.heap.size 3 v (okL (shufL (n - 1) (asc n) s u)) ∧
      StrAt w' b (shufL (n - 1) (asc n) s u).2.2.1 (shufL (n - 1) (asc n) s u).2.2.2 ∧ Fr [b] w w' := by
  have d1 : decide ((n : Int) < 0) = false := by simp
  have d2 : decide (4096 < (n : Int)) = false := by simp; omega
  have hb := hs.lt
  go_enter Tryd.func22, Tryd.ntmps22
  go_wp2_with fail
  refine (asc_any _ _ (by omega)).mono ?_
  rintro x w1 ⟨rfl, ho1, hf1⟩
  have hsz1 : w.heap.size + 2 ≤ w1.heap.size := by
    have h1 := ho1.block (w.heap.size + 1) (by simp [Value.ownBlock])
    omega
  have ho1' : OwnI w1 w.heap.size 3 (.slice (some ⟨w.heap.size + 1, 0, none⟩) n n) (asc n) := by
    have := ho1.mono (base' := w.heap.size) (by simp)
    simpa using this
  have hf1' : Fr [b] w w1 := ((Fr.refl [b] w).alloc _).trans' hf1 (by simp)
  have hbs : w1.cell? ⟨w.heap.size, 0, none⟩ = some (.pointer (some ⟨b, 0, none⟩)) := hf1.cell_some (by simp) (by simp)
  have hs1 : StrAt w1 b s u := hs.fr (((Fr.refl [] w).alloc _).trans hf1) (by simp)
  clear ho1 hf1
  go_wp2_with fail
  obtain ⟨w2, hw2⟩ : ∃ w2, w2 = w1.alloc (.cells #[.slice (some ⟨w.heap.size + 1, 0, none⟩) n n] 69) := ⟨_, rfl⟩
  have hbl : w2.cell? ⟨w1.heap.size, 0, none⟩ = some (.slice (some ⟨w.heap.size + 1, 0, none⟩) n n) := by rw [hw2]; simp
  have hf2 : Fr [] w1 w2 := by rw [hw2]; exact (Fr.refl _ _).alloc _
  rw [← hw2]
  clear hw2
  have hbs2 := hf2.cell_some hbs (by simp)
  have hs2 := hs1.fr hf2 (by simp)
  have ho2 := ho1'.fr hf2 (by simp)
  have hfr2 : Fr [b] w w2 := hf1'.trans' hf2 (by simp)
  by_cases hn0 : n = 0
  · subst hn0
    clear hbs hs1 ho1' hf1'
    refine wp_loop_rounds 1 ?_
    rw [rounds_succ]
    go_wp2_with fail
    go_ret2
    exact ⟨_, rfl, ho2, hs2, hfr2⟩
  · have hn1 : 1 ≤ n := by omega
    clear hbs hs1 ho1' hf1' hn0
    go_loopw [8, 9] (fun i _ wr => ∃ (k : Nat) (lk : List Int) (sk uk : Int), k + 1 ≤ n ∧ i = .int .i64 k ∧ wr.cell? ⟨w.heap.size, 0, none⟩ = some (.pointer (some ⟨b, 0, none⟩)) ∧ wr.cell? ⟨w1.heap.size, 0, none⟩ = some (.slice (some ⟨w.heap.size + 1, 0, none⟩) n n) ∧
      StrAt wr b sk uk ∧ OwnI wr w.heap.size 3 (.slice (some ⟨w.heap.size + 1, 0, none⟩) n n) lk ∧ lk.length = n ∧ Fr [b] w wr ∧ u ≤ uk ∧ uk + 64 * k ≤ u + 64 * n ∧ shufL (n - 1) (asc n) s u = shufL k lk sk uk) (fun i _ _ => (intOf i).toNat)
    case atStart => exact ⟨n - 1, asc n, s, u, by omega, by go_num, hbs2, hbl, hs2, ho2, asc_len n, hfr2, by omega, by omega, rfl⟩
    case round =>
      obtain ⟨k, lk, sk, uk, hk, rfl, c1, c2, hsk, hok, hlk, hfk, hu2, hu3, hT⟩ := hrel
      have HT := Lib.hid hT
      have HL := Lib.hid hlk
      clear hT hlk
      by_cases hk1 : 1 ≤ k
      · obtain ⟨j, rfl⟩ : ∃ j, k = j + 1 := ⟨k - 1, by omega⟩
        go_wp2_with fail
        refine (shuf1_at _ (j + 1) n b _ _ _ _ _ _ lk sk uk _ (by omega) HL.out c1 c2 hsk hok (by omega) (by omega) (by omega) (by omega) (by omega) (by omega) (by omega)).mono ?_
        rw [show (((j + 1 : Nat) : Int) + 1) = (j : Int) + 2 by omega]
        rintro x w3 ⟨rfl, hs3, ho3, hf3⟩
        have c1' := hf3.cell_some c1 (by simp; omega)
        have c2' := hf3.cell_some c2 (by simp; omega)
        have hf3' : Fr [b] w w3 := hfk.trans' hf3 (by simp)
        have hub := bU_bd ((j : Int) + 2) sk uk
        have hst := shufL_stop j lk sk uk
        have hgo := shufL_go j lk sk uk
        have HS := Lib.hid hst
        have HG := Lib.hid hgo
        clear hst hgo
        by_cases hE : bE ((j : Int) + 2) sk uk = 0
        · have hG := HG.out hE
          have ho4 : OwnI w3 w.heap.size 3 (.slice (some ⟨w.heap.size + 1, 0, none⟩) n n) (swp lk (j + 1) (bV ((j : Int) + 2) sk uk).toNat) := by
            have := ho3; unfold swpE at this; rw [if_pos hE] at this; exact this
          have hT := HT.out
          rw [hG] at hT
          have HT' := Lib.hid hT
          have hln := (swp_len lk (j + 1) (bV ((j : Int) + 2) sk uk).toNat).trans HL.out
          have HLN := Lib.hid hln
          rw [hE]
          generalize swp lk (j + 1) (bV ((j : Int) + 2) sk uk).toNat = l4 at *
          generalize bU ((j : Int) + 2) sk uk = u4 at *
          generalize bS ((j : Int) + 2) sk uk = s4 at *
          clear hT hG hln HS HG hE ho3
          go_wp2_with fail
          exact ⟨⟨j, l4, s4, u4, by omega, by go_num, c1', c2', hs3, ho4, HLN.out, hf3', by omega, by omega, HT'.out⟩, by simp [intOf]⟩
        · have hG := HS.out hE
          have hT := HT.out
          rw [hG] at hT
          have HT' := Lib.hid hT
          have hE' : (bE ((j : Int) + 2) sk uk != 0) = true := by simpa using hE
          have HE := Lib.hid hE
          clear hT hG HS HG hE ho3
          generalize bE ((j : Int) + 2) sk uk = E4 at *
          generalize bU ((j : Int) + 2) sk uk = u4 at *
          generalize bS ((j : Int) + 2) sk uk = s4 at *
          go_wp2_with fail
          go_ret2
          rw [HT'.out]
          refine ⟨_, rfl, ?_, hs3, hf3'⟩
          unfold okL; rw [if_neg HE.out]; exact OwnI.nil _ _ _
      · obtain rfl : k = 0 := by omega
        go_wp2_with fail
        go_ret2
        have hT := HT.out
        rw [hT]
        exact ⟨_, rfl, hok, hsk, hfk⟩

theorem shufL_bd (i : Nat) : ∀ l s u, u ≤ (shufL i l s u).2.2.2 ∧ (shufL i l s u).2.2.2 ≤ u + 64 * i := by
  induction i with
  | zero => intro l s u; simp [shufL]
  | succ i ih =>
    intro l s u
    have hb := bU_bd ((i : Int) + 2) s u
    rw [shufL]; split
    · have := ih (swp l (i + 1) (bV ((i : Int) + 2) s u).toNat) (bS ((i : Int) + 2) s u) (bU ((i : Int) + 2) s u); omega
    · simp; omega
theorem shufL_E (i : Nat) (hi : i ≤ 4096) : ∀ l s u, (shufL i l s u).1 = 0 ∨ (shufL i l s u).1 = 11 := by
  induction i with
  | zero => intro l s u; simp [shufL]
  | succ i ih =>
    intro l s u
    rw [shufL]; split
    · exact ih (by omega) _ _ _
    · exact bE_in _ _ _ (by omega) (by omega)
theorem shufL_len (i : Nat) : ∀ l s u, (shufL i l s u).2.1.length = l.length := by
  induction i with
  | zero => intro l s u; simp [shufL]
  | succ i ih =>
    intro l s u
    rw [shufL]; split
    · rw [ih, swp_len]
    · rfl
/-- Shuffle as one function: the error, the list that is returned, the state, the counter -/
def shE (n s u : Int) : Int := if 0 ≤ n ∧ n ≤ 4096 then (shufL (n.toNat - 1) (asc n.toNat) s u).1 else 2
def shL (n s u : Int) : List Int := if 0 ≤ n ∧ n ≤ 4096 then okL (shufL (n.toNat - 1) (asc n.toNat) s u) else []
def shS (n s u : Int) : Int := if 0 ≤ n ∧ n ≤ 4096 then (shufL (n.toNat - 1) (asc n.toNat) s u).2.2.1 else s
def shU (n s u : Int) : Int := if 0 ≤ n ∧ n ≤ 4096 then (shufL (n.toNat - 1) (asc n.toNat) s u).2.2.2 else u
theorem shU_bd (n s u : Int) : u ≤ shU n s u ∧ shU n s u ≤ u + 262144 := by
  unfold shU; split
  · rename_i h; have := shufL_bd (n.toNat - 1) (asc n.toNat) s u; omega
  · omega
/-- what is known of a list that comes back -/
def ShufPost (b : Nat) (s u n : Int) (w : World) (x : Ending) (w' : World) : Prop :=
  ∃ v, x = .returned (.tuple #[v, .int .i64 (shE n s u)]) ∧ OwnI w' w.heap.size 3 v (shL n s u) ∧ StrAt w' b (shS n s u) (shU n s u) ∧ Fr [b] w w'
set_option maxHeartbeats 1000000 in
theorem shuffle_any (b : Nat) (s u n : Int) (w : World) (hs : StrAt w b s u) (hu0 : 0 ≤ u) (hu1 : u ≤ 999999000000) :
    Calls Tryd.prog 22 #[.pointer (some ⟨b, 0, none⟩), .int .i64 n] w (ShufPost b s u n w) := by
  have hb := hs.lt
  have hs2 : ∀ o, StrAt (w.alloc o) b s u := fun o => hs.fr ((Fr.refl [] w).alloc o) (by simp)
  by_cases hi : 0 ≤ n ∧ n ≤ 4096
  · obtain ⟨k, rfl⟩ := Int.eq_ofNat_of_zero_le hi.1
    refine (shuffle_in b k s u w hs (by omega) hu0 hu1).mono ?_
    rintro x w' ⟨v, rfl, h1, h2, h3⟩
    refine ⟨v, ?_, ?_, ?_, h3⟩
    · unfold shE; rw [if_pos hi]; rfl
    · unfold shL; rw [if_pos hi]; exact h1
    · unfold shS shU; rw [if_pos hi, if_pos hi]; exact h2
  · have hfin : ∀ o, ShufPost b s u n w (.returned (.tuple #[.slice none 0 0, .int .i64 2])) (w.alloc o) := fun o => by
      refine ⟨.slice none 0 0, ?_, ?_, ?_, (Fr.refl _ _).alloc _⟩
      · unfold shE; rw [if_neg hi]
      · unfold shL; rw [if_neg hi]; exact OwnI.nil _ _ _
      · unfold shS shU; rw [if_neg hi, if_neg hi]; exact hs2 o
    have HF := Lib.hid hfin
    clear hfin hs2
    by_cases h1 : n < 0
    · have d1 : decide (n < 0) = true := by simpa using h1
      clear hi
      go_enter Tryd.func22, Tryd.ntmps22
      go_wp2
      go_ret2
      exact HF.out _
    · have d1 : decide (n < 0) = false := by simpa using h1
      have h2 : 4096 < n := by omega
      have d2 : decide (4096 < n) = true := by simpa using h2
      clear hi
      go_enter Tryd.func22, Tryd.ntmps22
      go_wp2
      go_ret2
      exact HF.out _
theorem shuffle_nil (n : Int) (w : World) :
    Calls Tryd.prog 22 #[.pointer none, .int .i64 n] w fun x w' => x = .returned (.tuple #[.slice none 0 0, .int .i64 5]) ∧ Fr [] w w' := by
  go_enter Tryd.func22, Tryd.ntmps22
  go_wp2
  go_ret2
  exact ⟨rfl, (Fr.refl _ _).alloc _⟩
end Go.Proofs.YtijdlggoaianbaaDoor
