/-
  The contracts of Sample, Below, Shuffle with their results named: what two streams of the same state give is the same.
-/
import Derived.Test.YtkiagmfdfojoeaaSampleAll
set_option linter.unusedVariables false
namespace Go.Proofs.Ytkiagmfdfojoeaa
open Go.RowKit
structure SampRes (n k s u E : Int) (L : List Int) (S U : Int) : Prop where
  re : E = samE n k s u
  rl : L = samL n k s u
  rs : S = samS n k s u
  ru : U = samU n k s u
theorem SampRes.eq {n k s u E S U E' S' U' : Int} {L L' : List Int} (h : SampRes n k s u E L S U) (h' : SampRes n k s u E' L' S' U') : E' = E ∧ L' = L ∧ S' = S ∧ U' = U :=
  ⟨h'.re.trans h.re.symm, h'.rl.trans h.rl.symm, h'.rs.trans h.rs.symm, h'.ru.trans h.ru.symm⟩
theorem SampRes.bd {n k s u E S U : Int} {L : List Int} (h : SampRes n k s u E L S U) : u ≤ U ∧ U ≤ u + 262144 := by rw [h.ru]; exact samU_bd n k s u
theorem sample_g (b : Nat) (s u n k : Int) (w : World) (hs : StrAt w b s u) (hu0 : 0 ≤ u) (hu1 : u ≤ 999999000000) :
    Calls Try.prog 30 #[.pointer (some ⟨b, 0, none⟩), .int .i64 n, .int .i64 k] w fun x w' => ∃ v E L S U, SampRes n k s u E L S U ∧ x = .returned (.tuple #[v, .int .i64 E]) ∧ OwnI w' w.heap.size 3 v L ∧ StrAt w' b S U ∧ Fr [b] w w' :=
  (sample_any b s u n k w hs hu0 hu1).mono fun x w' ⟨v, h1, h2, h3, h4⟩ => ⟨v, _, _, _, _, ⟨rfl, rfl, rfl, rfl⟩, h1, h2, h3, h4⟩
structure BelRes (n s u V E S U : Int) : Prop where
  rv : V = bV n s u
  re : E = bE n s u
  rs : S = bS n s u
  ru : U = bU n s u
theorem BelRes.eq {n s u V E S U V' E' S' U' : Int} (h : BelRes n s u V E S U) (h' : BelRes n s u V' E' S' U') : V' = V ∧ E' = E ∧ S' = S ∧ U' = U :=
  ⟨h'.rv.trans h.rv.symm, h'.re.trans h.re.symm, h'.rs.trans h.rs.symm, h'.ru.trans h.ru.symm⟩
theorem BelRes.bd {n s u V E S U : Int} (h : BelRes n s u V E S U) : u ≤ U ∧ U ≤ u + 64 := by rw [h.ru]; exact bU_bd n s u
theorem below_g (b : Nat) (s u n : Int) (w : World) (hs : StrAt w b s u) (hu0 : 0 ≤ u) (hu1 : u ≤ 999999999000) :
    Calls Try.prog 26 #[.pointer (some ⟨b, 0, none⟩), .int .i64 n] w fun x w' => ∃ V E S U, BelRes n s u V E S U ∧ x = .returned (.tuple #[.int .i64 V, .int .i64 E]) ∧ StrAt w' b S U ∧ Fr [b] w w' :=
  (below_any b s u n w hs hu0 hu1).mono fun x w' ⟨h1, h2, h3⟩ => ⟨_, _, _, _, ⟨rfl, rfl, rfl, rfl⟩, h1, h2, h3.fr⟩
theorem rbelow_g (b : Nat) (s u n : Int) (w : World) (hs : StrAt w b s u) (hu0 : 0 ≤ u) (hu1 : u ≤ 999999999000) :
    Calls Try.prog 27 #[.pointer (some ⟨b, 0, none⟩), .int .i64 n] w fun x w' => ∃ V E S U, BelRes n s u V E S U ∧ x = .returned (.tuple #[.int .i64 V, .int .i64 E]) ∧ StrAt w' b S U ∧ Fr [b] w w' :=
  (rbelow_any b s u n w hs hu0 hu1).mono fun x w' ⟨h1, h2, h3⟩ => ⟨_, _, _, _, ⟨rfl, rfl, rfl, rfl⟩, h1, h2, h3.fr⟩
structure ShufRes (n s u E : Int) (L : List Int) (S U : Int) : Prop where
  re : E = shE n s u
  rl : L = shL n s u
  rs : S = shS n s u
  ru : U = shU n s u
theorem ShufRes.eq {n s u E S U E' S' U' : Int} {L L' : List Int} (h : ShufRes n s u E L S U) (h' : ShufRes n s u E' L' S' U') : E' = E ∧ L' = L ∧ S' = S ∧ U' = U :=
  ⟨h'.re.trans h.re.symm, h'.rl.trans h.rl.symm, h'.rs.trans h.rs.symm, h'.ru.trans h.ru.symm⟩
theorem ShufRes.bd {n s u E S U : Int} {L : List Int} (h : ShufRes n s u E L S U) : u ≤ U ∧ U ≤ u + 262144 := by rw [h.ru]; exact shU_bd n s u
theorem shuffle_g (b : Nat) (s u n : Int) (w : World) (hs : StrAt w b s u) (hu0 : 0 ≤ u) (hu1 : u ≤ 999999000000) :
    Calls Try.prog 28 #[.pointer (some ⟨b, 0, none⟩), .int .i64 n] w fun x w' => ∃ v E L S U, ShufRes n s u E L S U ∧ x = .returned (.tuple #[v, .int .i64 E]) ∧ OwnI w' w.heap.size 3 v L ∧ StrAt w' b S U ∧ Fr [b] w w' :=
  (shuffle_any b s u n w hs hu0 hu1).mono fun x w' ⟨v, h1, h2, h3, h4⟩ => ⟨v, _, _, _, _, ⟨rfl, rfl, rfl, rfl⟩, h1, h2, h3, h4⟩
end Go.Proofs.Ytkiagmfdfojoeaa
