/-
  Sample of the stream (layer 9): the contract.
-/
import Derived.Test.YtkiagmfdfojoeaaSample
set_option linter.unusedVariables false
namespace Go.Proofs.Ytkiagmfdfojoeaa
open Go.RowKit
/-- what Sample returns of the list -/
def takeL (k : Nat) (r : Int × List Int × Int × Int) : List Int := if r.1 = 0 then r.2.1.take k else []
set_option maxHeartbeats 1000000 in
theorem sample_in (b n k : Nat) (s u : Int) (w : World) (hs : StrAt w b s u) (hn : n ≤ 4096) (hkn : k ≤ n) (hu0 : 0 ≤ u) (hu1 : u ≤ 999999000000) :
    Calls Try.prog 30 #[.pointer (some ⟨b, 0, none⟩), .int .i64 n, .int .i64 k] w fun x w' => ∃ v, x = .returned (.tuple #[v, .int .i64 (sampL k n 0 (asc n) s u).1]) ∧ OwnI w' w.heap.size 3 v (takeL k (sampL k n 0 (asc n) s u)) ∧
      StrAt w' b (sampL k n 0 (asc n) s u).2.2.1 (sampL k n 0 (asc n) s u).2.2.2 ∧ Fr [b] w w' := by
  have d1 : decide ((n : Int) < 0) = false := by simp
  have d2 : decide (4096 < (n : Int)) = false := by simp; omega
  have d3 : decide ((k : Int) < 0) = false := by simp
  have d4 : decide (n < k) = false := by simp; omega
  have d5 : decide ((n : Int) < k) = false := by simp; omega
  obtain ⟨i0, hi0, hz0, hz1, hz2⟩ := info_parts infoInt
  have hb := hs.lt
  go_enter Try.func30, Try.ntmps30
  go_wp2_with fail
  refine (asc_any _ _ (by omega)).mono ?_
  rintro x w1 ⟨rfl, ho1, hf1⟩
  have hsz1 : w.heap.size + 3 ≤ w1.heap.size := by
    have h1 := ho1.block (w.heap.size + 2) (by simp [Value.ownBlock])
    omega
  have ho1' : OwnI w1 w.heap.size 3 (.slice (some ⟨w.heap.size + 2, 0, none⟩) n n) (asc n) := by
    have := ho1.mono (base' := w.heap.size) (by simp; omega)
    simpa using this
  have hf1' : Fr [b] w w1 := (((Fr.refl [b] w).alloc _).alloc _).trans' hf1 (by simp)
  have hbs : w1.cell? ⟨w.heap.size, 0, none⟩ = some (.pointer (some ⟨b, 0, none⟩)) := hf1.cell_some (by simp) (by simp)
  have hbn : w1.cell? ⟨w.heap.size + 1, 0, none⟩ = some (.int .i64 n) := hf1.cell_some (by simp) (by simp)
  have hs1 : StrAt w1 b s u := hs.fr ((((Fr.refl [] w).alloc _).alloc _).trans hf1) (by simp)
  clear ho1 hf1
  go_wp2_with fail
  obtain ⟨w2, hw2⟩ : ∃ w2, w2 = w1.alloc (.cells #[.slice (some ⟨w.heap.size + 2, 0, none⟩) n n] 26) := ⟨_, rfl⟩
  have hbl : w2.cell? ⟨w1.heap.size, 0, none⟩ = some (.slice (some ⟨w.heap.size + 2, 0, none⟩) n n) := by rw [hw2]; simp
  have hf2 : Fr [] w1 w2 := by rw [hw2]; exact (Fr.refl _ _).alloc _
  rw [← hw2]
  clear hw2
  have hbs2 := hf2.cell_some hbs (by simp)
  have hbn2 := hf2.cell_some hbn (by simp)
  have hs2 := hs1.fr hf2 (by simp)
  have ho2 := ho1'.fr hf2 (by simp)
  have hfr2 : Fr [b] w w2 := hf1'.trans' hf2 (by simp)
  clear hbs hbn hs1 ho1' hf1'
  go_loopw [10, 11, 33] (fun _ _ i wr => ∃ (j : Nat) (lk : List Int) (sk uk : Int), j ≤ k ∧ i = .int .i64 j ∧ wr.cell? ⟨w.heap.size, 0, none⟩ = some (.pointer (some ⟨b, 0, none⟩)) ∧ wr.cell? ⟨w.heap.size + 1, 0, none⟩ = some (.int .i64 n) ∧ wr.cell? ⟨w1.heap.size, 0, none⟩ = some (.slice (some ⟨w.heap.size + 2, 0, none⟩) n n) ∧
    StrAt wr b sk uk ∧ OwnI wr w.heap.size 3 (.slice (some ⟨w.heap.size + 2, 0, none⟩) n n) lk ∧ lk.length = n ∧ Fr [b] w wr ∧ u ≤ uk ∧ uk ≤ u + 64 * j ∧ sampL k n 0 (asc n) s u = sampL (k - j) n j lk sk uk) (fun _ _ i _ => k - (intOf i).toNat)
  case atStart => exact ⟨0, asc n, s, u, by omega, rfl, hbs2, hbn2, hbl, hs2, ho2, asc_len n, hfr2, by omega, by omega, rfl⟩
  case round =>
    obtain ⟨j, lk, sk, uk, hk, rfl, c1, c3, c2, hsk, hok, hlk, hfk, hu2, hu3, hT⟩ := hrel
    have HT := Lib.hid hT
    have HL := Lib.hid hlk
    clear hT hlk
    by_cases hk1 : j < k
    · obtain ⟨f, hf⟩ : ∃ f, k - j = f + 1 := ⟨k - j - 1, by omega⟩
      have HF := Lib.hid hf
      clear hf
      go_wp2_with fail
      refine (samp1_at _ j n b _ _ _ _ _ _ _ lk sk uk _ rfl HL.out c1 c3 c2 hsk hok (by omega) (by omega) (by omega) (by omega) (by omega) (by omega) (by omega)).mono ?_
      rintro x w3 ⟨rfl, hs3, ho3, hf3⟩
      have c1' := hf3.cell_some c1 (by simp; omega)
      have c3' := hf3.cell_some c3 (by simp; omega)
      have c2' := hf3.cell_some c2 (by simp; omega)
      have hf3' : Fr [b] w w3 := hfk.trans' hf3 (by simp)
      have hub := bU_bd ((n : Int) - j) sk uk
      have hst := sampL_stop f n j lk sk uk
      have hgo := sampL_go f n j lk sk uk
      have HS := Lib.hid hst
      have HG := Lib.hid hgo
      clear hst hgo
      by_cases hE : bE ((n : Int) - j) sk uk = 0
      · have hG := HG.out hE
        have ho4 : OwnI w3 w.heap.size 3 (.slice (some ⟨w.heap.size + 2, 0, none⟩) n n) (swp lk j (j + (bV ((n : Int) - j) sk uk).toNat)) := by
          have := ho3; unfold swpE at this; rw [if_pos hE] at this; exact this
        have hT := HT.out
        rw [HF.out, hG] at hT
        have HT' := Lib.hid hT
        have hln := (swp_len lk j (j + (bV ((n : Int) - j) sk uk).toNat)).trans HL.out
        have HLN := Lib.hid hln
        rw [hE]
        generalize swp lk j (j + (bV ((n : Int) - j) sk uk).toNat) = l4 at *
        generalize bU ((n : Int) - j) sk uk = u4 at *
        generalize bS ((n : Int) - j) sk uk = s4 at *
        clear hT hG hln HS HG hE ho3
        go_wp2_with fail
        have hF := HF.out
        exact ⟨⟨j + 1, l4, s4, u4, by omega, by go_num, c1', c3', c2', hs3, ho4, HLN.out, hf3', by omega, by omega, by rw [HT'.out]; congr 1; omega⟩, by simp [intOf]; omega⟩
      · have hG := HS.out hE
        have hT := HT.out
        rw [HF.out, hG] at hT
        have HT' := Lib.hid hT
        have hE' : (bE ((n : Int) - j) sk uk != 0) = true := by simpa using hE
        have HE := Lib.hid hE
        clear hT hG HS HG hE ho3
        generalize bE ((n : Int) - j) sk uk = E4 at *
        generalize bU ((n : Int) - j) sk uk = u4 at *
        generalize bS ((n : Int) - j) sk uk = s4 at *
        go_wp2_with fail
        go_ret2
        rw [HT'.out]
        refine ⟨_, rfl, ?_, hs3, hf3'⟩
        unfold takeL; rw [if_neg HE.out]; exact OwnI.nil _ _ _
    · obtain rfl : j = k := by omega
      go_wp2_with (at_builtin; refine wpList_append_own _ rfl (.const (.slice none 0 0)) (.tmp 45) 26 rfl w.heap.size 3 i0 (.int .i64 0) 1 8 Try.underlying26 hi0 hz0 hz1 hz2 rfl (by decide) _ 0 [] rfl (World.ownsRow_nil _ _ _ _) ⟨w.heap.size + 2, 0, none⟩ j n ((lk.take j).map (.int .i64)) rfl ?c1 ?c2 ?c3 ?c4 ?c5 ?c6 ?_)
      case c1 => have := HL.out; simp; omega
      case c2 =>
        intro i x hx
        simp only [List.getElem?_map, Option.map_eq_some_iff] at hx
        obtain ⟨y, hy, rfl⟩ := hx
        obtain ⟨hlt, hy⟩ := List.getElem?_eq_some_iff.1 hy
        have hL := HL.out
        simp at hlt hy
        have := hok.cell i (by omega)
        rw [addr_add, Nat.zero_add, this, ← hy]
        simp [List.getD, show i < lk.length by omega]
      case c3 =>
        intro x hx
        simp only [List.mem_map] at hx
        obtain ⟨y, _, rfl⟩ := hx
        rfl
      case c4 => unfold maxLen; omega
      case c5 => omega
      case c6 => exact hfk.size
      intro v' w' hown hg _
      go_wp2_with fail
      go_ret2
      have hT := HT.out
      rw [Nat.sub_self, show sampL 0 n j lk sk uk = (0, lk, sk, uk) from rfl] at hT
      rw [hT]
      refine ⟨v', rfl, ?_, ?_, ?_⟩
      · unfold takeL; rw [if_pos rfl]
        show OwnI w' w.heap.size _ v' (lk.take j)
        unfold OwnI
        have hL := HL.out
        rw [List.length_take, Nat.min_eq_left (by omega), List.map_take]
        exact hown
      · exact hsk.fr ((Fr.refl [] wr).grown hg (by simp [Value.ownBlock])) (by simp)
      · exact hfk.grown hg (by simp [Value.ownBlock])

def inS (n k : Int) : Bool := decide (0 ≤ n ∧ n ≤ 4096 ∧ 0 ≤ k ∧ k ≤ n)
/-- Sample as one function: the error, the list that is returned, the state, the counter -/
def samE (n k s u : Int) : Int := if inS n k then (sampL k.toNat n.toNat 0 (asc n.toNat) s u).1 else 2
def samL (n k s u : Int) : List Int := if inS n k then takeL k.toNat (sampL k.toNat n.toNat 0 (asc n.toNat) s u) else []
def samS (n k s u : Int) : Int := if inS n k then (sampL k.toNat n.toNat 0 (asc n.toNat) s u).2.2.1 else s
def samU (n k s u : Int) : Int := if inS n k then (sampL k.toNat n.toNat 0 (asc n.toNat) s u).2.2.2 else u
theorem samU_bd (n k s u : Int) : u ≤ samU n k s u ∧ samU n k s u ≤ u + 262144 := by
  unfold samU; split
  · rename_i h; simp [inS] at h; have := sampL_bd k.toNat n.toNat 0 (asc n.toNat) s u; omega
  · omega
def SampPost (b : Nat) (s u n k : Int) (w : World) (x : Ending) (w' : World) : Prop :=
  ∃ v, x = .returned (.tuple #[v, .int .i64 (samE n k s u)]) ∧ OwnI w' w.heap.size 3 v (samL n k s u) ∧ StrAt w' b (samS n k s u) (samU n k s u) ∧ Fr [b] w w'
set_option maxHeartbeats 1000000 in
theorem sample_any (b : Nat) (s u n k : Int) (w : World) (hs : StrAt w b s u) (hu0 : 0 ≤ u) (hu1 : u ≤ 999999000000) :
    Calls Try.prog 30 #[.pointer (some ⟨b, 0, none⟩), .int .i64 n, .int .i64 k] w (SampPost b s u n k w) := by
  have hb := hs.lt
  have hs2 : ∀ o o', StrAt ((w.alloc o).alloc o') b s u := fun o o' => hs.fr (((Fr.refl [] w).alloc o).alloc o') (by simp)
  by_cases hi : inS n k = true
  · have hi' := hi
    simp [inS] at hi'
    obtain ⟨n, rfl⟩ := Int.eq_ofNat_of_zero_le hi'.1
    obtain ⟨k, rfl⟩ := Int.eq_ofNat_of_zero_le hi'.2.2.1
    refine (sample_in b n k s u w hs (by omega) (by omega) hu0 hu1).mono ?_
    rintro x w' ⟨v, rfl, h1, h2, h3⟩
    refine ⟨v, ?_, ?_, ?_, h3⟩
    · unfold samE; rw [if_pos hi]; rfl
    · unfold samL; rw [if_pos hi]; exact h1
    · unfold samS samU; rw [if_pos hi, if_pos hi]; exact h2
  · have hfin : ∀ o o', SampPost b s u n k w (.returned (.tuple #[.slice none 0 0, .int .i64 2])) ((w.alloc o).alloc o') := fun o o' => by
      refine ⟨.slice none 0 0, ?_, ?_, ?_, ((Fr.refl _ _).alloc _).alloc _⟩
      · unfold samE; rw [if_neg hi]
      · unfold samL; rw [if_neg hi]; exact OwnI.nil _ _ _
      · unfold samS samU; rw [if_neg hi, if_neg hi]; exact hs2 o o'
    have HF := Lib.hid hfin
    have HI := Lib.hid hi
    clear hfin hs2 hi
    by_cases h1 : n < 0
    · have d1 : decide (n < 0) = true := by simpa using h1
      go_enter Try.func30, Try.ntmps30
      go_wp2
      go_ret2
      exact HF.out _ _
    · have d1 : decide (n < 0) = false := by simpa using h1
      by_cases h2 : 4096 < n
      · have d2 : decide (4096 < n) = true := by simpa using h2
        go_enter Try.func30, Try.ntmps30
        go_wp2
        go_ret2
        exact HF.out _ _
      · have d2 : decide (4096 < n) = false := by simpa using h2
        by_cases h3 : k < 0
        · have d3 : decide (k < 0) = true := by simpa using h3
          go_enter Try.func30, Try.ntmps30
          go_wp2
          go_ret2
          exact HF.out _ _
        · have d3 : decide (k < 0) = false := by simpa using h3
          have h4 : n < k := by have := HI.out; simp [inS] at this; omega
          have d4 : decide (n < k) = true := by simpa using h4
          go_enter Try.func30, Try.ntmps30
          go_wp2
          go_ret2
          exact HF.out _ _
theorem sample_nil (n k : Int) (w : World) :
    Calls Try.prog 30 #[.pointer none, .int .i64 n, .int .i64 k] w fun x w' => x = .returned (.tuple #[.slice none 0 0, .int .i64 5]) ∧ Fr [] w w' := by
  go_enter Try.func30, Try.ntmps30
  go_wp2
  go_ret2
  exact ⟨rfl, ((Fr.refl _ _).alloc _).alloc _⟩
end Go.Proofs.Ytkiagmfdfojoeaa
