/-
  MAPS TO BOOLS that a call makes ('SetB'): which keys were set, made, kept, looked up, set, cleared. Plain lemmas over any program.
-/
import Derived.Test.YtijdlggoaianbaaMem
import Derived.Maps.OwnSet
import Derived.Maps.OwnOps
set_option linter.unusedVariables false
namespace Go.Proofs.Ytijdlggoaianbaa
open Go.RowKit Go.Maps Go.ChangeMaps
/-- block b is a map to bools of at most n entries: true at the keys of the list, nothing elsewhere -/
def SetB (P : Program) (k e : TypeId) (w : World) (b n : Nat) (ks : List Lit) : Prop :=
  ∃ D : DataW Unit, w.ownsMap P k (plainElem P e) b n D ∧ ∀ kl (q : Bool), (q = true ↔ kl ∈ ks) → D.atKey kl (.lit (.bool false)) = .lit (.bool q)
section
variable {P : Program} {k e t : TypeId} {w w' : World} {b n : Nat} {ks : List Lit}
theorem SetB.made (w : World) : SetB P k e (w.alloc (.map #[] 0)) w.heap.size 0 [] :=
  ⟨.map [], World.ownsMap_made w P k _, fun kl q hq => by
    have : q = false := by cases q <;> simp_all
    subst this
    simp [DataW.atKey]⟩
theorem SetB.lt (h : SetB P k e w b n ks) : b < w.heap.size := by obtain ⟨D, h, _⟩ := h; exact h.lt
theorem SetB.fr {bs : List Nat} (h : SetB P k e w b n ks) (hf : Fr bs w w') (hn : b ∉ bs) : SetB P k e w' b n ks := by
  have hlt := h.lt
  obtain ⟨D, ⟨es, clock, hb, r⟩, hp⟩ := h
  exact ⟨D, ⟨es, clock, (hf.block b hlt hn).trans hb, r⟩, hp⟩
theorem plainElem_bool_inv (he : P.underlying e = some .bool) {v : Value} {z : DataW Unit × List MemPlace} (h : plainElem P e v = some z) : ∃ a, v = .bool a ∧ z = (.lit (.bool a), []) := by
  unfold plainElem at h
  rw [he] at h
  cases v <;> simp at h
  subst h
  exact ⟨_, rfl, rfl⟩
theorem SetB.look (h : SetB P k e w b n ks) (K : Keyed P k) (ht : P.underlying t = some (.map k e)) (he : P.underlying e = some .bool) (hz : (zeroValue e).run P w = .ok (.bool false) w) {key : Value} {kl : Lit} (hkey : keyOf P k key = some kl) (q : Bool) (hq : q = true ↔ kl ∈ ks) :
    (Instr.lookup t (.map (some b)) key false).run P w = .ok (.bool q) w := by
  obtain ⟨D, h, hp⟩ := h
  obtain ⟨v, ps, hrun, hv⟩ := h.lookup K ht hz (plainElem_bool he false) hkey
  obtain ⟨a, rfl, ha⟩ := plainElem_bool_inv he hv
  simp only [Prod.mk.injEq] at ha
  have := ha.1
  rw [hp kl q hq] at this
  simp only [DataW.lit.injEq, Lit.bool.injEq] at this
  rw [hrun, this]
theorem SetB.put (h : SetB P k e w b n ks) (K : Keyed P k) (ht : P.underlying t = some (.map k e)) (he : P.underlying e = some .bool) (hn : n < maxLen) {key : Value} {kl : Lit} (hkey : keyOf P k key = some kl) (hkl : WideAt.IsKeyLit kl) :
    ∃ w', (Instr.mapUpdate t (.map (some b)) key (.bool true)).run P w = .ok () w' ∧ SetB P k e w' b (n + 1) (ks ++ [kl]) ∧ Fr [b] w w' := by
  obtain ⟨D, h, hp⟩ := h
  obtain ⟨w', hrun, h1, h2⟩ := h.update K ht hn hkey (plainElem_bool he true)
  refine ⟨w', hrun, ⟨_, h1, fun x q hq => ?_⟩, ?_⟩
  · by_cases hx : x = kl
    · subst hx
      rw [atKey_put_same h.isMap hkl]
      have : q = true := hq.2 (by simp)
      rw [this]
    · rw [atKey_put_other hx, hp x q (by rw [hq]; simp [hx])]
  · exact (Fr.refl [b] w).grown h2 (fun k hk => by simp at hk; simp [hk])
theorem wpList_setB {ops : Array Oper} {rest : List Oper} {o : Oper} {a : Act} {Q : Exit → Act → World → Prop} (hg : o.guard = none) (m x : Operand) (hop : o.op = Op.mapUpdate t m x (.const (.bool true)))
    (K : Keyed P k) (ht : P.underlying t = some (.map k e)) (he : P.underlying e = some .bool) (hm : a.eval m = .map (some b)) (hown : SetB P k e w b n ks) (hn : n < maxLen) (key : Value) (kl : Lit) (hx : a.eval x = key) (hkey : keyOf P k key = some kl) (hkl : WideAt.IsKeyLit kl)
    (hK : ∀ w', SetB P k e w' b (n + 1) (ks ++ [kl]) → Fr [b] w w' → wpList P ops Q rest (a.put o.dst undef) w') : wpList P ops Q (o :: rest) a w := by
  refine wpList_plain hg fun K' hK' => ?_
  obtain ⟨w', hrun, r1, r2⟩ := hown.put K ht he hn hkey hkl
  unfold Oper.wp
  have hc : a.eval (.const (.bool true)) = .bool true := rfl
  simp [execOp, hop, hm, hx, hc, hrun, Result.andThen]
  exact hK' _ _ (hK w' r1 r2)
theorem SetB.clear (h : SetB P k e w b n ks) (ht : P.underlying t = some (.map k e)) : ∃ w', (∀ ty, (Builtin.clear_ #[t] ty #[.map (some b)]).run P w = .ok (.tuple #[]) w') ∧ Fr [b] w w' := by
  obtain ⟨D, ⟨es, clock, hb, _⟩, _⟩ := h
  refine ⟨setBlock w b (.map #[] clock), fun ty => ?_, ⟨rfl, rfl, rfl, by simp [setBlock], fun i _ hi => heap_setBlock_other hb _ (by simpa using hi)⟩⟩
  simp [Builtin.clear_, run_underlying ht, MapKept.run_getObj_map hb, MapKept.run_setObj_map _ hb, Result.andThen, setBlock]
end
end Go.Proofs.Ytijdlggoaianbaa
