/-
  TICKETS AND WINS: slices of them that came in, opened.
-/
import Derived.Test.YtkiagmfdfojoeaaOpen
set_option linter.unusedVariables false
namespace Go.Proofs.Ytkiagmfdfojoeaa
open Go.RowKit Go.WideShapes Go.ChangeShapes
structure Tk where
  number : ByteArray
  game : ByteArray
  la : Option Addr
  ln : Nat
  lc : Nat
  sys : Bool
  draws : Int
  addons : Int
  serial : ByteArray
  first : Int
  price : Int
  at_ : Int
  term : Int
  seq : Int
  player : Int
  canc : Bool
instance : Inhabited Tk := ⟨⟨ByteArray.empty, ByteArray.empty, none, 0, 0, false, 0, 0, ByteArray.empty, 0, 0, 0, 0, 0, 0, false⟩⟩
def Tk.cells (t : Tk) : List Value := [.string t.number, .string t.game, .slice t.la t.ln t.lc, .bool t.sys, .int .i64 t.draws, .int .i64 t.addons, .string t.serial, .int .i64 t.first, .int .i64 t.price, .int .i64 t.at_, .int .i64 t.term, .int .i64 t.seq, .int .i64 t.player, .bool t.canc]
def pairs (l : List Value) : List (Nat × Value) := l.zipIdx.map fun x => (x.2, x.1)
theorem mem_pairs {l : List Value} {i : Nat} {u : Value} : (i, u) ∈ pairs l ↔ l[i]? = some u := by
  unfold pairs
  rw [List.mem_map]
  constructor
  · rintro ⟨⟨a, b⟩, h, h2⟩
    simp only [Prod.mk.injEq] at h2
    obtain ⟨rfl, rfl⟩ := h2
    have := List.mem_zipIdx_iff_getElem?.1 h
    simpa using this
  · intro h
    exact ⟨(u, i), List.mem_zipIdx_iff_getElem?.2 (by simpa using h), rfl⟩
def tkF (t : Tk) : List (Nat × Value) := pairs t.cells
def wnF (x : Int × Int × Int) : List (Nat × Value) := [(0, .int .i64 x.1), (1, .int .i64 x.2.1), (2, .int .i64 x.2.2)]
section
variable {H : Type} {enc : TypeId × Value → H} {P : Program} {w : World} {base : Nat} {spare : Nat → Bool} {held : Bool}
theorem field_slice {t ft fe : TypeId} {fs : Array Field} {n : Nat} {cs : List Value} {x : DataW H × List MemPlace} (ht : P.underlying t = some (.struct fs)) (h : DataW.trod enc P w base spare held n t cs = some x) (i fo : Nat)
    (hf : (fs[i]?).map (fun f => (f.type, f.offset)) = some (ft, fo)) (hc : P.cellsOf ft = 1) (hi : P.underlying ft = some (.slice fe)) : ∃ a n c, cs[fo]? = some (.slice a n c) := by
  obtain ⟨m, y, hy⟩ := open_field ht h i ft fo 1 hf hc
  rcases Deep.open_slice hi hy with ⟨h0, _⟩ | ⟨a, len, cap, m, n, D, Pl, h0, _⟩
  · exact ⟨_, _, _, take_drop_one h0⟩
  · exact ⟨_, _, _, take_drop_one h0⟩
theorem drop_take_at {cs : List Value} {o c i : Nat} {v : Value} (h : ((cs.drop o).take c)[i]? = some v) : cs[o + i]? = some v := by
  have hi : i < c := by
    have := (List.getElem?_eq_some_iff.1 h).1
    simp at this
    omega
  rw [List.getElem?_take_of_lt hi, List.getElem?_drop] at h
  exact h
end
theorem open_tickets {H : Type} {enc : TypeId × Value → H} {w : World} {base : Nat} {spare : Nat → Bool} {held : Bool} {r : Reach} {b0 : Nat} {v : Value} {d : DataW H} {ps : List MemPlace}
    (hval : Value.okWide Try.prog w r b0 22 v) (h : DataW.Trod enc Try.prog w base spare held 22 v d ps) : ∃ l, RdF 14 tkF w v l := by
  obtain ⟨l, hl, _⟩ := open_arg tkF (fun _ => True) 14 Try.underlying22 (by kernel_rfl) (by omega) (fun n cs y hy => by
    have U := Try.underlying36
    obtain ⟨c0, _, h0⟩ := field_string (ft := 9) U hy 0 0 rfl (by kernel_rfl) Try.underlying9
    obtain ⟨c1, _, h1⟩ := field_string (ft := 9) U hy 1 1 rfl (by kernel_rfl) Try.underlying9
    obtain ⟨m, z, hz⟩ := open_field U hy 2 34 2 4 rfl (by kernel_rfl)
    have UB := Try.underlying34
    obtain ⟨a2, n2, k2, h2⟩ := field_slice (ft := 32) UB hz 0 0 rfl (by kernel_rfl) Try.underlying32
    obtain ⟨c3, h3⟩ := field_bool (ft := 4) UB hz 1 1 rfl (by kernel_rfl) Try.underlying4
    obtain ⟨c4, _, h4⟩ := field_int (ft := 3) UB hz 2 2 rfl (by kernel_rfl) Try.underlying3
    obtain ⟨c5, _, h5⟩ := field_int (ft := 3) UB hz 3 3 rfl (by kernel_rfl) Try.underlying3
    obtain ⟨c6, _, h6⟩ := field_string (ft := 9) U hy 3 6 rfl (by kernel_rfl) Try.underlying9
    obtain ⟨c7, _, h7⟩ := field_int (ft := 3) U hy 4 7 rfl (by kernel_rfl) Try.underlying3
    obtain ⟨c8, _, h8⟩ := field_int (ft := 3) U hy 5 8 rfl (by kernel_rfl) Try.underlying3
    obtain ⟨c9, _, h9⟩ := field_int (ft := 3) U hy 6 9 rfl (by kernel_rfl) Try.underlying3
    obtain ⟨c10, _, h10⟩ := field_int (ft := 3) U hy 7 10 rfl (by kernel_rfl) Try.underlying3
    obtain ⟨c11, _, h11⟩ := field_int (ft := 3) U hy 8 11 rfl (by kernel_rfl) Try.underlying3
    obtain ⟨c12, _, h12⟩ := field_int (ft := 3) U hy 9 12 rfl (by kernel_rfl) Try.underlying3
    obtain ⟨c13, h13⟩ := field_bool (ft := 4) U hy 10 13 rfl (by kernel_rfl) Try.underlying4
    have h2 := drop_take_at h2
    have h3 := drop_take_at h3
    have h4 := drop_take_at h4
    have h5 := drop_take_at h5
    refine ⟨⟨c0, c1, a2, n2, k2, c3, c4, c5, c6, c7, c8, c9, c10, c11, c12, c13⟩, trivial, fun i u hu => ?_⟩
    rw [tkF, mem_pairs] at hu
    match i, hu with
    | 0, hu => simp [Tk.cells] at hu; subst hu; exact h0
    | 1, hu => simp [Tk.cells] at hu; subst hu; exact h1
    | 2, hu => simp [Tk.cells] at hu; subst hu; exact h2
    | 3, hu => simp [Tk.cells] at hu; subst hu; exact h3
    | 4, hu => simp [Tk.cells] at hu; subst hu; exact h4
    | 5, hu => simp [Tk.cells] at hu; subst hu; exact h5
    | 6, hu => simp [Tk.cells] at hu; subst hu; exact h6
    | 7, hu => simp [Tk.cells] at hu; subst hu; exact h7
    | 8, hu => simp [Tk.cells] at hu; subst hu; exact h8
    | 9, hu => simp [Tk.cells] at hu; subst hu; exact h9
    | 10, hu => simp [Tk.cells] at hu; subst hu; exact h10
    | 11, hu => simp [Tk.cells] at hu; subst hu; exact h11
    | 12, hu => simp [Tk.cells] at hu; subst hu; exact h12
    | 13, hu => simp [Tk.cells] at hu; subst hu; exact h13
    | i + 14, hu => simp [Tk.cells] at hu) hval h
  exact ⟨l, hl⟩
theorem open_wins {H : Type} {enc : TypeId × Value → H} {w : World} {base : Nat} {spare : Nat → Bool} {held : Bool} {r : Reach} {b0 : Nat} {v : Value} {d : DataW H} {ps : List MemPlace}
    (hval : Value.okWide Try.prog w r b0 23 v) (h : DataW.Trod enc Try.prog w base spare held 23 v d ps) : ∃ l, RdF 3 wnF w v l ∧ ∀ z ∈ l, (Lit.int .i64 z.1).wf = true := by
  exact open_arg wnF (fun z => (Lit.int .i64 z.1).wf = true) 3 Try.underlying23 (by kernel_rfl) (by omega) (fun n cs y hy => by
    obtain ⟨a, ka, ha⟩ := field_int (ft := 3) Try.underlying31 hy 0 0 rfl (by kernel_rfl) Try.underlying3
    obtain ⟨b, _, hb⟩ := field_int (ft := 3) Try.underlying31 hy 1 1 rfl (by kernel_rfl) Try.underlying3
    obtain ⟨c, _, hc⟩ := field_int (ft := 3) Try.underlying31 hy 2 2 rfl (by kernel_rfl) Try.underlying3
    refine ⟨(a, b, c), ka, fun i u hu => ?_⟩
    simp only [wnF, List.mem_cons, Prod.mk.injEq, List.not_mem_nil, or_false] at hu
    rcases hu with ⟨rfl, rfl⟩ | ⟨rfl, rfl⟩ | ⟨rfl, rfl⟩
    · exact ha
    · exact hb
    · exact hc) hval h
end Go.Proofs.Ytkiagmfdfojoeaa
