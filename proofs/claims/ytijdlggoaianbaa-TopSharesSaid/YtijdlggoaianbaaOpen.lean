/-
  OPENING: slices that came in, read element by element into a plain list ('RdF'): each element's cells, as far as they are wanted, by a function of the plain element. Plain lemmas over any program.
-/
import Derived.Test.YtijdlggoaianbaaRd
import Derived.Deep.Slices
import Derived.ChangeArms
import Derived.OpenShut
set_option linter.unusedVariables false
namespace Go.Proofs.Ytijdlggoaianbaa
open Go.RowKit Go.WideShapes Go.ChangeShapes
/-- a slice of elements of c cells, of which the cells that f names are known -/
def RdF {α : Type} (c : Nat) (f : α → List (Nat × Value)) (w : World) (v : Value) (l : List α) : Prop :=
  ∃ a cap, v = .slice a l.length cap ∧ l.length ≤ cap ∧ cap ≤ maxLen ∧ ∀ j x, l[j]? = some x → ∃ g o, a = some ⟨g, o, none⟩ ∧ ∀ i y, (i, y) ∈ f x → w.cell? ⟨g, o + (j * c + i), none⟩ = some y
theorem RdF.below {α : Type} {c : Nat} {f : α → List (Nat × Value)} {w w' : World} {v : Value} {l : List α} (h : RdF c f w v l) (hf : Fr [] w w') : RdF c f w' v l := by
  obtain ⟨a, cap, rfl, h1, h2, h3⟩ := h
  refine ⟨a, cap, rfl, h1, h2, fun j x hx => ?_⟩
  obtain ⟨g, o, rfl, hc⟩ := h3 j x hx
  exact ⟨g, o, rfl, fun i y hy => hf.cell_some (hc i y hy) (by simp)⟩
theorem RdF.ints {w : World} {v : Value} {l : List Int} (h : RdF 1 (fun x => [(0, Value.int .i64 x)]) w v l) : RdI w v l := by
  obtain ⟨a, cap, rfl, h1, h2, h3⟩ := h
  refine ⟨a, cap, rfl, h1, h2, fun j hj => ?_⟩
  obtain ⟨g, o, rfl, hc⟩ := h3 j l[j] (by simp [hj])
  refine ⟨g, o, rfl, ?_⟩
  have := hc 0 (.int .i64 l[j]) (by simp)
  simpa [List.getD, hj] using this
theorem addr_none {w : World} {a : Addr} {v : Value} (h : w.cell? a = some v) : a = ⟨a.block, a.off, none⟩ := by
  unfold World.cell? at h
  split at h
  · split at h
    · simp at h
    · rename_i hs
      cases a with
      | mk b o s => cases s with
        | none => rfl
        | some _ => simp at hs
  · simp at h
section
variable {H : Type} {enc : TypeId × Value → H} {P : Program} {w : World} {base : Nat} {spare : Nat → Bool} {held : Bool}
theorem open_rdf {α : Type} [Inhabited α] (f : α → List (Nat × Value)) (Q : α → Prop) (c : Nat) {t e : TypeId} {fuel : Nat} {v : Value} {x : DataW H × List MemPlace} (ht : P.underlying t = some (.slice e)) (hce : P.cellsOf e = c) (hc : 1 ≤ c)
    (hel : ∀ n cs y, DataW.trod enc P w base spare held n e cs = some y → ∃ z : α, Q z ∧ ∀ i u, (i, u) ∈ f z → cs[i]? = some u)
    (h : DataW.trod enc P w base spare held fuel t [v] = some x) : ∃ l : List α, RdF c f w v l ∧ ∀ z ∈ l, Q z := by
  subst hce
  rcases Deep.open_slice ht h with ⟨h0, _⟩ | ⟨a, len, cap, m, n, D, Pl, h0, hb, hl, hm, hmm, _, hx⟩
  · simp only [List.cons.injEq, and_true] at h0
    subst h0
    exact ⟨[], ⟨none, 0, rfl, by simp, by simp, by simp⟩, by simp⟩
  · simp only [List.cons.injEq, and_true] at h0
    subst h0
    have hlm : len ≤ m := by rw [hmm]; split <;> omega
    obtain ⟨F, hF⟩ := Deep.choose_lt (α := α) (n := len) (p := fun j z => Q z ∧ ∃ g o, (some a : Option Addr) = some ⟨g, o, none⟩ ∧ ∀ i y, (i, y) ∈ f z → w.cell? ⟨g, o + (j * P.cellsOf e + i), none⟩ = some y) (fun j hj => by
      obtain ⟨cs', h1, h2⟩ := hx j (by omega)
      obtain ⟨z, hq, hz⟩ := hel n cs' _ h2
      obtain ⟨_, hlen, hcell⟩ := World.cells?_some h1
      have ha : a = ⟨a.block, a.off, none⟩ := by
        by_cases hj0 : j = 0
        · subst hj0
          have := hcell 0 (by omega)
          rw [List.getElem?_eq_getElem (by omega)] at this
          have := addr_none this
          simpa [Addr.add] using this
        · obtain ⟨cs0, h10, _⟩ := hx 0 (by omega)
          obtain ⟨_, hlen0, hcell0⟩ := World.cells?_some h10
          have := hcell0 0 (by omega)
          rw [List.getElem?_eq_getElem (by omega)] at this
          have := addr_none this
          simpa [Addr.add] using this
      refine ⟨z, hq, a.block, a.off, by rw [← ha], fun i y hy => ?_⟩
      have hi := hz i y hy
      have hil : i < P.cellsOf e := by rw [← hlen]; exact (List.getElem?_eq_some_iff.1 hi).1
      have := hcell i hil
      rw [hi, ha, addr_add, addr_add, Nat.add_assoc] at this
      exact this)
    refine ⟨(List.range len).map F, ⟨some a, cap, by simp, by simpa using hl, hm, fun j z hz => ?_⟩, fun z hz => ?_⟩
    · simp only [List.getElem?_map, Option.map_eq_some_iff] at hz
      obtain ⟨j', hj', rfl⟩ := hz
      obtain ⟨hlt, rfl⟩ := List.getElem?_eq_some_iff.1 hj'
      simp at hlt
      simp only [List.getElem_range]
      exact (hF j hlt).2
    · simp only [List.mem_map, List.mem_range] at hz
      obtain ⟨j, hj, rfl⟩ := hz
      exact (hF j hj).1
/-- a slice that came in as an argument -/
theorem open_arg {α : Type} [Inhabited α] (f : α → List (Nat × Value)) (Q : α → Prop) (c : Nat) {t e : TypeId} {r : Reach} {b0 : Nat} {v : Value} {d : DataW H} {ps : List MemPlace} (ht : P.underlying t = some (.slice e)) (hce : P.cellsOf e = c) (hc : 1 ≤ c)
    (hel : ∀ n cs y, DataW.trod enc P w base spare held n e cs = some y → ∃ z : α, Q z ∧ ∀ i u, (i, u) ∈ f z → cs[i]? = some u)
    (hval : Value.okWide P w r b0 t v) (h : DataW.Trod enc P w base spare held t v d ps) : ∃ l : List α, RdF c f w v l ∧ ∀ z ∈ l, Q z := by
  obtain ⟨a, len, cap, rfl⟩ := okWide_slice ht hval
  obtain ⟨fuel, h⟩ := h
  exact open_rdf f Q c ht hce hc hel h
theorem open_el_int {e : TypeId} (he : P.underlying e = some (.int .i64)) : ∀ n cs y, DataW.trod enc P w base spare held n e cs = some y → ∃ z : Int, (Lit.int .i64 z).wf = true ∧ ∀ i u, (i, u) ∈ [(0, Value.int .i64 z)] → cs[i]? = some u := by
  intro n cs y h
  obtain ⟨z, rfl, _, hw⟩ := DataW.trod_int he h
  refine ⟨z, hw, fun i u hu => ?_⟩
  simp at hu
  obtain ⟨rfl, rfl⟩ := hu
  rfl
/-- one field of a struct's cells: it reads by its own type -/
theorem open_field {t : TypeId} {fs : Array Field} {n : Nat} {cs : List Value} {x : DataW H × List MemPlace} (ht : P.underlying t = some (.struct fs)) (h : DataW.trod enc P w base spare held n t cs = some x) (i : Nat) (ft : TypeId) (fo c : Nat)
    (hf : (fs[i]?).map (fun f => (f.type, f.offset)) = some (ft, fo)) (hc : P.cellsOf ft = c) : ∃ m y, DataW.trod enc P w base spare held m ft ((cs.drop fo).take c) = some y := by
  obtain ⟨xs, m, _, _, _, hxl, hg⟩ := DataW.trod_struct ht h
  obtain ⟨f, hf1, hf2⟩ := Option.map_eq_some_iff.1 hf
  simp only [Prod.mk.injEq] at hf2
  obtain ⟨rfl, rfl⟩ := hf2
  have := hg i f hf1
  have hi : i < xs.length := by rw [hxl]; exact (Array.getElem?_eq_some_iff.1 hf1).1
  rw [List.getElem?_eq_getElem hi, hc] at this
  exact ⟨m, _, this⟩
theorem take_drop_one {cs : List Value} {o : Nat} {v : Value} (h : (cs.drop o).take 1 = [v]) : cs[o]? = some v := by
  have : ((cs.drop o).take 1)[0]? = some v := by rw [h]; rfl
  rw [List.getElem?_take_of_lt (by omega), List.getElem?_drop] at this
  simpa using this
theorem field_int {t ft : TypeId} {fs : Array Field} {n : Nat} {cs : List Value} {x : DataW H × List MemPlace} (ht : P.underlying t = some (.struct fs)) (h : DataW.trod enc P w base spare held n t cs = some x) (i fo : Nat)
    (hf : (fs[i]?).map (fun f => (f.type, f.offset)) = some (ft, fo)) (hc : P.cellsOf ft = 1) (hi : P.underlying ft = some (.int .i64)) : ∃ z : Int, (Lit.int .i64 z).wf = true ∧ cs[fo]? = some (.int .i64 z) := by
  obtain ⟨m, y, hy⟩ := open_field ht h i ft fo 1 hf hc
  obtain ⟨z, hz, _, hw⟩ := DataW.trod_int hi hy
  exact ⟨z, hw, take_drop_one hz⟩
theorem field_bool {t ft : TypeId} {fs : Array Field} {n : Nat} {cs : List Value} {x : DataW H × List MemPlace} (ht : P.underlying t = some (.struct fs)) (h : DataW.trod enc P w base spare held n t cs = some x) (i fo : Nat)
    (hf : (fs[i]?).map (fun f => (f.type, f.offset)) = some (ft, fo)) (hc : P.cellsOf ft = 1) (hi : P.underlying ft = some .bool) : ∃ z : Bool, cs[fo]? = some (.bool z) := by
  obtain ⟨m, y, hy⟩ := open_field ht h i ft fo 1 hf hc
  obtain ⟨z, hz, _⟩ := DataW.trod_bool hi hy
  exact ⟨z, take_drop_one hz⟩
theorem field_string {t ft : TypeId} {fs : Array Field} {n : Nat} {cs : List Value} {x : DataW H × List MemPlace} (ht : P.underlying t = some (.struct fs)) (h : DataW.trod enc P w base spare held n t cs = some x) (i fo : Nat)
    (hf : (fs[i]?).map (fun f => (f.type, f.offset)) = some (ft, fo)) (hc : P.cellsOf ft = 1) (hi : P.underlying ft = some .string) : ∃ z : ByteArray, z.size ≤ maxLen ∧ cs[fo]? = some (.string z) := by
  obtain ⟨m, y, hy⟩ := open_field ht h i ft fo 1 hf hc
  obtain ⟨z, hz, _, hw⟩ := DataW.trod_string hi hy
  exact ⟨z, hw, take_drop_one hz⟩
end
end Go.Proofs.Ytijdlggoaianbaa
