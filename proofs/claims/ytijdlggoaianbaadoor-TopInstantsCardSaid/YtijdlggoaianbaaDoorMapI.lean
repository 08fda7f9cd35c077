/-
  MAPS FROM STRINGS TO INDICES that a call makes: what the first n texts' keys hold; made, set, looked up. Plain lemmas over any program.
-/
import Derived.Test.YtijdlggoaianbaaDoorMem
import Derived.Maps.OwnSet
import Derived.Maps.OwnOps
set_option linter.unusedVariables false
namespace Go.Proofs.YtijdlggoaianbaaDoor
open Go.RowKit Go.Maps Go.ChangeMaps Go.WideMaps
def kyS (s : ByteArray) : Lit := .string s.data.toList
theorem kyS_inj {s t : ByteArray} (h : kyS s = kyS t) : s = t := by
  unfold kyS at h
  simp only [Lit.string.injEq] at h
  cases s; cases t
  simp at h
  rw [h]
/-- block b is a map: j at the j-th of the first n texts, nothing elsewhere -/
def IdxM (P : Program) (k e : TypeId) (w : World) (b n : Nat) (C : Nat → ByteArray) : Prop :=
  ∃ D : DataW Unit, w.ownsMap P k (plainElem P e) b n D ∧ (∀ j, j < n → has D (kyS (C j)) = true ∧ ∀ z, D.atKey (kyS (C j)) z = .lit (.int .i64 j)) ∧ ∀ s, (∀ j, j < n → C j ≠ s) → has D (kyS s) = false
section
variable {P : Program} {k e t : TypeId} {w w' : World} {b n : Nat} {C : Nat → ByteArray}
theorem IdxM.made (w : World) : IdxM P k e (w.alloc (.map #[] 0)) w.heap.size 0 C :=
  ⟨.map [], World.ownsMap_made w P k _, fun j hj => by omega, fun s _ => by simp [has_eq]⟩
theorem IdxM.lt (h : IdxM P k e w b n C) : b < w.heap.size := by obtain ⟨D, h, _⟩ := h; exact h.lt
theorem IdxM.fr {bs : List Nat} (h : IdxM P k e w b n C) (hf : Fr bs w w') (hn : b ∉ bs) : IdxM P k e w' b n C := by
  have hlt := h.lt
  obtain ⟨D, ⟨es, clock, hb, r⟩, hp⟩ := h
  exact ⟨D, ⟨es, clock, (hf.block b hlt hn).trans hb, r⟩, hp⟩
theorem IdxM.get (h : IdxM P k e w b n C) (K : Keyed P k) (hk : P.underlying k = some .string) (ht : P.underlying t = some (.map k e)) (he : P.underlying e = some (.int .i64)) (hz : (zeroValue e).run P w = .ok (.int .i64 0) w) (j : Nat) (hj : j < n) (hs : (C j).size ≤ maxLen) :
    (Instr.lookup t (.map (some b)) (.string (C j)) true).run P w = .ok (.tuple #[.int .i64 j, .bool true]) w := by
  obtain ⟨D, h, hp, hq⟩ := h
  obtain ⟨v, ps, hrun, hv⟩ := h.look_ok K ht hz (plainElem_int he (by decide)) (keyOf_string_mk hk hs)
  obtain ⟨c, rfl, hc, hwc⟩ := plainElem_int_inv he hv
  obtain ⟨h1, h2⟩ := hp j hj
  have h3 := congrArg Prod.fst hc
  simp only [] at h3
  have h4 := h2 (.lit (.int .i64 0))
  unfold kyS at h1 h4
  rw [h4] at h3
  simp only [DataW.lit.injEq, Lit.int.injEq, true_and] at h3
  rw [hrun, h1, h3]
theorem IdxM.none (h : IdxM P k e w b n C) (K : Keyed P k) (hk : P.underlying k = some .string) (ht : P.underlying t = some (.map k e)) (he : P.underlying e = some (.int .i64)) (hz : (zeroValue e).run P w = .ok (.int .i64 0) w) (s : ByteArray) (hn : ∀ j, j < n → C j ≠ s) (hs : s.size ≤ maxLen) :
    ∃ c, (Instr.lookup t (.map (some b)) (.string s) true).run P w = .ok (.tuple #[.int .i64 c, .bool false]) w := by
  obtain ⟨D, h, hp, hq⟩ := h
  obtain ⟨v, ps, hrun, hv⟩ := h.look_ok K ht hz (plainElem_int he (by decide)) (keyOf_string_mk hk hs)
  obtain ⟨c, rfl, hc, hwc⟩ := plainElem_int_inv he hv
  have h1 := hq s hn
  unfold kyS at h1
  exact ⟨c, by rw [hrun, h1]⟩
theorem IdxM.put (h : IdxM P k e w b n C) (K : Keyed P k) (hk : P.underlying k = some .string) (ht : P.underlying t = some (.map k e)) (he : P.underlying e = some (.int .i64)) (hn : n < maxLen) (hne : ∀ j, j < n → C j ≠ C n) (hs : (C n).size ≤ maxLen) :
    ∃ w', (Instr.mapUpdate t (.map (some b)) (.string (C n)) (.int .i64 n)).run P w = .ok () w' ∧ IdxM P k e w' b (n + 1) C ∧ Fr [b] w w' := by
  obtain ⟨D, h, hp, hq⟩ := h
  obtain ⟨w', hrun, h1, h2⟩ := h.update K ht hn (keyOf_string_mk hk hs) (plainElem_int he (a := (n : Int)) (WalkArith.wf_i64 (by unfold maxLen at hn; omega)))
  have hm := h.isMap
  refine ⟨w', hrun, ⟨_, h1, fun j hj => ?_, fun s hs' => ?_⟩, ?_⟩
  · by_cases hx : j = n
    · subst hx
      have hkk : WideAt.IsKeyLit (kyS (C j)) := trivial
      exact ⟨has_put_same hm hkk _, fun z => atKey_put_same hm hkk _ z⟩
    · have hne' : kyS (C j) ≠ kyS (C n) := fun e => hne j (by omega) (kyS_inj e)
      obtain ⟨q1, q2⟩ := hp j (by omega)
      exact ⟨(has_put_other hne' _).trans q1, fun z => (atKey_put_other hne' _ z).trans (q2 z)⟩
  · have hne' : kyS s ≠ kyS (C n) := fun e => hs' n (by omega) (kyS_inj e).symm
    exact (has_put_other hne' _).trans (hq s (fun j hj => hs' j (by omega)))
  · exact (Fr.refl [b] w).grown h2 (fun k hk => by simp at hk; simp [hk])
theorem wpList_idx_put {ops : Array Oper} {rest : List Oper} {o : Oper} {a : Act} {Q : Exit → Act → World → Prop} (hg : o.guard = Option.none) (m x y : Operand) (hop : o.op = Op.mapUpdate t m x y)
    (K : Keyed P k) (hk : P.underlying k = some .string) (ht : P.underlying t = some (.map k e)) (he : P.underlying e = some (.int .i64)) (hm : a.eval m = .map (some b)) (hown : IdxM P k e w b n C) (hn : n < maxLen) (hne : ∀ j, j < n → C j ≠ C n) (hs : (C n).size ≤ maxLen) (hx : a.eval x = .string (C n)) (hy : a.eval y = .int .i64 n)
    (hK : ∀ w', IdxM P k e w' b (n + 1) C → Fr [b] w w' → wpList P ops Q rest (a.put o.dst undef) w') : wpList P ops Q (o :: rest) a w := by
  refine wpList_plain hg fun K' hK' => ?_
  obtain ⟨w', hrun, r1, r2⟩ := hown.put K hk ht he hn hne hs
  unfold Oper.wp
  simp [execOp, hop, hm, hx, hy, hrun, Result.andThen]
  exact hK' _ _ (hK w' r1 r2)
end
end Go.Proofs.YtijdlggoaianbaaDoor
