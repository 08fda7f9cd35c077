/-
  MEMORY WORDS: a frame 'Fr' (old blocks but those of a list are as they were), rows of integers 'OwnI', over any program. Plain lemmas.
-/
import Derived.Test.YtijdlggoaianbaaDoorRows
import Derived.WalkKit
import Derived.WalkSpells
import Derived.WalkLawsBesides
import Derived.Lib.Hide
import Derived.Deep.OwnRows
set_option linter.unusedVariables false
namespace Go.Proofs.YtijdlggoaianbaaDoor
open Go.RowKit

theorem lt_of_cell {w : World} {p : Addr} {v : Value} (h : w.cell? p = some v) : p.block < w.heap.size := by
  unfold World.cell? at h
  split at h
  · rename_i c _ _ hh; exact (Array.getElem?_eq_some_iff.1 hh).1
  · simp at h
theorem addr_add (b o j : Nat) : (⟨b, o, none⟩ : Addr).add j = ⟨b, o + j, none⟩ := by
  unfold Addr.add; split
  · simp_all
  · rfl
/-- of what was there only the blocks of the list may have turned -/
structure Fr (bs : List Nat) (w w' : World) : Prop where
  os : w'.os = w.os
  tape : w'.tape = w.tape
  output : w'.output = w.output
  size : w.heap.size ≤ w'.heap.size
  block : ∀ k, k < w.heap.size → k ∉ bs → w'.heap[k]? = w.heap[k]?
theorem Fr.refl (bs : List Nat) (w : World) : Fr bs w w := ⟨rfl, rfl, rfl, Nat.le_refl _, fun _ _ _ => rfl⟩
theorem Fr.trans' {bs cs : List Nat} {a b c : World} (h : Fr bs a b) (k : Fr cs b c) (hc : ∀ i ∈ cs, i ∈ bs ∨ a.heap.size ≤ i) : Fr bs a c :=
  ⟨k.os.trans h.os, k.tape.trans h.tape, k.output.trans h.output, Nat.le_trans h.size k.size, fun i hi hn =>
    (k.block i (Nat.lt_of_lt_of_le hi h.size) (fun hm => by rcases hc i hm with h' | h'; exact hn h'; omega)).trans (h.block i hi hn)⟩
theorem Fr.trans {bs : List Nat} {a b c : World} (h : Fr bs a b) (k : Fr bs b c) : Fr bs a c := h.trans' k fun _ h => .inl h
theorem Fr.mono {bs cs : List Nat} {a b : World} (h : Fr bs a b) (hc : ∀ i ∈ bs, i ∈ cs) : Fr cs a b :=
  ⟨h.os, h.tape, h.output, h.size, fun i hi hn => h.block i hi (fun hm => hn (hc i hm))⟩
theorem Fr.alloc {bs : List Nat} {a w : World} (h : Fr bs a w) (o : Obj) : Fr bs a (w.alloc o) :=
  h.trans ⟨rfl, rfl, rfl, by simp, fun k hk _ => Below.heap_alloc _ _ _ hk⟩
theorem Fr.drew {bs : List Nat} {a w : World} (h : Fr bs a w) : Fr bs a w.drew := ⟨h.os, h.tape, h.output, h.size, h.block⟩
theorem Fr.setCell {bs : List Nat} {a w : World} (h : Fr bs a w) {p : Addr} (hp : p.block ∈ bs ∨ a.heap.size ≤ p.block) (u : Value) : Fr bs a (w.setCell p u) :=
  h.trans' (cs := [p.block]) ⟨rfl, rfl, rfl, by simp [World.setCell], fun k _ hk => Below.heap_setCell _ _ _ _ (by simpa using hk)⟩ (fun i hi => by simp at hi; subst hi; exact hp)
theorem Fr.grown {bs : List Nat} {a w w' : World} {row : Option Nat} (h : Fr bs a w) (hg : w.grownBy w' row) (hr : ∀ k, row = some k → k ∈ bs ∨ a.heap.size ≤ k) : Fr bs a w' :=
  h.trans' (cs := row.toList) ⟨hg.os, hg.tape, hg.output, hg.size, fun k hk hn => hg.block k hk (fun e => hn (by rw [← e]; simp))⟩ (fun i hi => hr i (by simpa using hi))
theorem Fr.below {w w' : World} (h : Fr [] w w') : Below w.heap.size w w' := ⟨h.os, h.tape, h.output, h.size, fun k hk => h.block k hk (by simp)⟩
theorem Fr.of_below {w w' : World} (h : Below w.heap.size w w') : Fr [] w w' := ⟨h.os, h.tape, h.output, h.size, fun k hk _ => h.block k hk⟩
theorem Fr.cell {bs : List Nat} {w w' : World} (h : Fr bs w w') {p : Addr} (hp : p.block < w.heap.size) (hn : p.block ∉ bs) : w'.cell? p = w.cell? p := World.cell?_of_block (w := w) (h.block _ hp hn)
theorem Fr.frozen {bs : List Nat} {w w' : World} (h : Fr bs w w') {p : Addr} (hp : p.block < w.heap.size) (hn : p.block ∉ bs) : w'.frozen? p = w.frozen? p := World.frozen?_of_block (w := w) (h.block _ hp hn)
theorem Fr.cell_some {bs : List Nat} {w w' : World} (h : Fr bs w w') {p : Addr} {v : Value} (hc : w.cell? p = some v) (hn : p.block ∉ bs) : w'.cell? p = some v := by
  rw [h.cell (lt_of_cell hc) hn]; exact hc

/-- a row of integers that is nil or lies whole in a block from 'base' on -/
def OwnI (w : World) (base : Nat) (e : TypeId) (v : Value) (l : List Int) : Prop := w.ownsRow base e 1 v l.length (l.map (Value.int .i64))
theorem OwnI.fr {bs : List Nat} {w w' : World} {base : Nat} {e : TypeId} {v : Value} {l : List Int} (h : OwnI w base e v l) (hf : Fr bs w w') (hn : ∀ k, v.ownBlock = some k → k ∉ bs) : OwnI w' base e v l := by
  obtain ⟨h1, h2⟩ := h
  refine ⟨h1, ?_⟩
  rcases h2 with h2 | ⟨g, cap, cur, hv, hg, hh, r⟩
  · exact .inl h2
  · refine .inr ⟨g, cap, cur, hv, hg, ?_, r⟩
    rw [hf.block g (Array.getElem?_eq_some_iff.1 hh).1 (hn g (by rw [hv]; rfl))]; exact hh
theorem OwnI.mono {w : World} {base base' : Nat} {e : TypeId} {v : Value} {l : List Int} (h : OwnI w base e v l) (hb : base' ≤ base) : OwnI w base' e v l := by
  obtain ⟨h1, h2⟩ := h
  refine ⟨h1, ?_⟩
  rcases h2 with h2 | ⟨g, cap, cur, hv, hg, r⟩
  · exact .inl h2
  · exact .inr ⟨g, cap, cur, hv, by omega, r⟩
/-- not empty: the value's form, with the block known whole -/
theorem OwnI.form {w : World} {base : Nat} {e : TypeId} {v : Value} {l : List Int} (h : OwnI w base e v l) (hn : 0 < l.length) :
    ∃ g cap, v = .slice (some ⟨g, 0, none⟩) l.length cap ∧ base ≤ g ∧ g < w.heap.size ∧ l.length ≤ cap ∧ cap ≤ maxLen := by
  obtain ⟨h1, h2⟩ := h
  rcases h2 with ⟨_, h2⟩ | ⟨g, cap, cur, hv, hg, hh, hc, hm, r⟩
  · omega
  · exact ⟨g, cap, hv, hg, (Array.getElem?_eq_some_iff.1 hh).1, hc, hm⟩
theorem OwnI.any {w : World} {base : Nat} {e : TypeId} {v : Value} {l : List Int} (h : OwnI w base e v l) : ∃ a cap, v = .slice a l.length cap ∧ l.length ≤ cap ∧ cap ≤ maxLen := by
  obtain ⟨h1, h2⟩ := h
  rcases h2 with ⟨hv, h2⟩ | ⟨g, cap, cur, hv, hg, hh, hc, hm, r⟩
  · exact ⟨none, 0, by rw [hv, h2], by omega, by omega⟩
  · exact ⟨_, cap, hv, hc, hm⟩
theorem OwnI.cell {w : World} {base g cap n : Nat} {e : TypeId} {l : List Int} (h : OwnI w base e (.slice (some ⟨g, 0, none⟩) n cap) l) (j : Nat) (hj : j < l.length) : w.cell? ⟨g, j, none⟩ = some (.int .i64 (l.getD j 0)) := by
  have hn : n = l.length := by
    obtain ⟨h1, h2⟩ := h
    rcases h2 with ⟨hv, _⟩ | ⟨g', cap', cur, hv, _⟩
    · simp at hv
    · simp at hv; exact hv.2.1
  subst hn
  have := World.ownsRow.cellAt h j (by omega)
  rw [this]
  simp [List.getD, hj]
theorem OwnI.frozen {w : World} {base g cap n : Nat} {e : TypeId} {l : List Int} (h : OwnI w base e (.slice (some ⟨g, 0, none⟩) n cap) l) (j : Nat) : w.frozen? ⟨g, j, none⟩ = false := by
  have hn : n = l.length := by
    obtain ⟨h1, h2⟩ := h
    rcases h2 with ⟨hv, _⟩ | ⟨g', cap', cur, hv, _⟩
    · simp at hv
    · simp at hv; exact hv.2.1
  subst hn
  exact World.ownsRow.frozenAt h j
theorem OwnI.set {w : World} {base g cap n : Nat} {e : TypeId} {l : List Int} (h : OwnI w base e (.slice (some ⟨g, 0, none⟩) n cap) l) (j : Nat) (x : Int) : OwnI (w.setCell ⟨g, j, none⟩ (.int .i64 x)) base e (.slice (some ⟨g, 0, none⟩) n cap) (l.set j x) := by
  have hn : n = l.length := by
    obtain ⟨h1, h2⟩ := h
    rcases h2 with ⟨hv, _⟩ | ⟨g', cap', cur, hv, _⟩
    · simp at hv
    · simp at hv; exact hv.2.1
  subst hn
  have := World.ownsRow.stored h j (.int .i64 x)
  unfold OwnI
  rw [List.length_set, List.map_set]
  exact this.1
theorem OwnI.nil (w : World) (base : Nat) (e : TypeId) : OwnI w base e (.slice none 0 0) [] := ⟨by simp, .inl ⟨rfl, rfl⟩⟩
theorem OwnI.block {w : World} {base : Nat} {e : TypeId} {v : Value} {l : List Int} (h : OwnI w base e v l) : ∀ k, v.ownBlock = some k → base ≤ k ∧ k < w.heap.size := World.ownsRow.lt h
theorem madeCells_ints (n : Nat) : (madeCells #[Value.int .i64 0] n) = ((List.replicate n 0).map (Value.int .i64)).toArray := by
  apply Array.ext
  · simp [madeCells]
  · intro i h1 h2
    simp [madeCells, Nat.mod_one]
theorem OwnI.made (w : World) (n : Nat) (e : TypeId) (hn : n ≤ maxLen) : OwnI (w.alloc (.cells (madeCells #[Value.int .i64 0] n) e)) w.heap.size e (.slice (some ⟨w.heap.size, 0, none⟩) n n) (List.replicate n 0) := by
  refine ⟨by simp, .inr ⟨w.heap.size, n, _, by simp, Nat.le_refl _, by show (w.heap.push _)[w.heap.size]? = _; simp; rfl, by simp, hn, ?_, ?_⟩⟩
  · rw [madeCells_ints]; simp
  · rw [madeCells_ints]; simp
end Go.Proofs.YtijdlggoaianbaaDoor
