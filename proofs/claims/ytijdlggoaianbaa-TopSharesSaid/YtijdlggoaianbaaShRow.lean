/-
  TopShares: rows of shares of one's own; its arguments, opened.
-/
import Derived.Test.YtijdlggoaianbaaShSyn
import Derived.Test.YtijdlggoaianbaaAppF
import Derived.Deep.AppendLies
set_option linter.unusedVariables false
namespace Go.Proofs.Ytijdlggoaianbaa
open Go.RowKit Go.WideShapes Go.ChangeShapes
/-- a row of shares of one's own, from block 'base' on -/
def OwnH (w : World) (base : Nat) (v : Value) (l : List (Int × Int)) : Prop := w.ownsRow base 38 2 v l.length (l.flatMap shC)
theorem OwnH.fr {bs : List Nat} {w w' : World} {base : Nat} {v : Value} {l : List (Int × Int)} (h : OwnH w base v l) (hf : Fr bs w w') (hn : ∀ k, v.ownBlock = some k → k ∉ bs) : OwnH w' base v l := by
  unfold OwnH at h ⊢
  obtain ⟨h1, h2⟩ := h
  refine ⟨h1, ?_⟩
  rcases h2 with h2 | ⟨g, cap, cur, hv, hb, hg, h3⟩
  · exact .inl h2
  · have hlt : g < w.heap.size := (Array.getElem?_eq_some_iff.1 hg).1
    exact .inr ⟨g, cap, cur, hv, hb, (hf.block g hlt (hn g (by rw [hv]; rfl))).trans hg, h3⟩
theorem OwnH.mono {w : World} {base base' : Nat} {v : Value} {l : List (Int × Int)} (h : OwnH w base v l) (hb : base' ≤ base) : OwnH w base' v l := by
  unfold OwnH at h ⊢
  obtain ⟨h1, h2⟩ := h
  refine ⟨h1, ?_⟩
  rcases h2 with h2 | ⟨g, cap, cur, hv, hb2, h3⟩
  · exact .inl h2
  · exact .inr ⟨g, cap, cur, hv, Nat.le_trans hb hb2, h3⟩
theorem OwnH.block {w : World} {base : Nat} {v : Value} {l : List (Int × Int)} (h : OwnH w base v l) : ∀ k, v.ownBlock = some k → base ≤ k ∧ k < w.heap.size := World.ownsRow.lt h
theorem OwnH.nil (w : World) (base : Nat) : OwnH w base (.slice none 0 0) [] := ⟨by simp, .inl ⟨rfl, rfl⟩⟩
theorem shC_len (l : List (Int × Int)) : (l.flatMap shC).length = l.length * 2 := by
  induction l with
  | nil => rfl
  | cons a l ih => simp [List.flatMap_cons, ih, shC]; omega
theorem flatSh_at : ∀ (l : List (Int × Int)) (j i : Nat) (x : Int × Int) (v : Value), l[j]? = some x → (shC x)[i]? = some v → (l.flatMap shC)[j * 2 + i]? = some v := by
  intro l
  induction l with
  | nil => intro j i x v hj _; simp at hj
  | cons a l ih =>
    intro j i x v hj hi
    have ha : (shC a).length = 2 := rfl
    rw [List.flatMap_cons]
    cases j with
    | zero =>
      simp at hj
      subst hj
      have := (List.getElem?_eq_some_iff.1 hi).1
      rw [Nat.zero_mul, Nat.zero_add, List.getElem?_append_left this]
      exact hi
    | succ j =>
      simp at hj
      rw [List.getElem?_append_right (by rw [ha, Nat.add_mul]; omega), ha, show (j + 1) * 2 + i - 2 = j * 2 + i by rw [Nat.add_mul]; omega]
      exact ih j i x v hj hi
theorem OwnH.form {w : World} {base : Nat} {v : Value} {l : List (Int × Int)} (h : OwnH w base v l) : ∃ a cap, v = .slice a l.length cap ∧ l.length ≤ cap ∧ cap ≤ maxLen ∧ RdF 2 shF w (.slice a l.length cap) l := by
  obtain ⟨h1, h2⟩ := h
  rcases h2 with ⟨hv, h0⟩ | ⟨g, cap, cur, hv, hb, hg, h3, h4, h5, h6⟩
  · subst hv
    have hl : l = [] := List.eq_nil_of_length_eq_zero (by simpa using h0)
    subst hl
    exact ⟨none, 0, rfl, by simp, by simp, none, 0, rfl, by simp, by simp, fun j x hx => by simp at hx⟩
  · refine ⟨some ⟨g, 0, none⟩, cap, hv, h3, h4, some ⟨g, 0, none⟩, cap, rfl, h3, h4, fun j x hx => ⟨g, 0, rfl, fun i u hu => ?_⟩⟩
    have hu : (shC x)[i]? = some u := mem_pairs.1 hu
    rw [Nat.zero_add]
    have ht := flatSh_at l j i x u hx hu
    have hj : j < l.length := (List.getElem?_eq_some_iff.1 hx).1
    have hi : i < 2 := (List.getElem?_eq_some_iff.1 hu).1
    rw [World.ownsRow.cellAt (w := w) (base := base) (e := 38) (size := 2) (n := l.length) (xs := l.flatMap shC) ⟨h1, .inr ⟨g, cap, cur, rfl, hb, hg, h3, h4, h5, h6⟩⟩ (j * 2 + i) (by omega)]
    exact ht
theorem infoSh : (Try.prog.info? 38).map (fun i => (i.zero, i.size, i.bytes)) = some (some (.agg #[.int .i64 0, .int .i64 0]), 2, 16) := by kernel_rfl
theorem cells_new (w : World) (C : Array Value) (T : TypeId) (j : Nat) (u : Value) (h : C[j]? = some u) : (w.alloc (.cells C T)).cell? ((⟨w.heap.size, 0, none⟩ : Addr).add j) = some u := by
  rw [addr_add, Nat.zero_add]
  exact new_cell rfl h
/-- append of one share, at the operation -/
theorem app_hS {o : Oper} {a : Act} {K : Act → World → Prop} {Q : Exit → Act → World → Prop} (w0 : World) (h0 : Nat) (hH : w0.heap.size = h0) (t : Int × Int) (s x : Operand)
    (ho : o.op = .call { callee := .builtin .append, args := #[s, x], argTypes := #[39, 39] }) (base : Nat) (v : Value) (l : List (Int × Int)) (hs : a.eval s = v) (hown : OwnH w0 base v l)
    (hx : a.eval x = .slice (some ⟨h0, 0, none⟩) 1 1) (hl : l.length ≤ 1000000) (hb : base ≤ w0.heap.size)
    (h : ∀ v' w', OwnH w' base v' (l ++ [t]) → (∀ bs A, (∀ k, v.ownBlock = some k → k ∈ bs ∨ A.heap.size ≤ k) → Fr bs A w0 → Fr bs A w') → (∃ g cap, v' = .slice (some ⟨g, 0, none⟩) (l.length + 1) cap) → K (a.put o.dst v') w') :
    o.wp Try.prog a (w0.alloc (.cells #[.int .i64 t.1, .int .i64 t.2] 38)) K Q := by
  subst hH
  obtain ⟨i0, hi0, hz0, hz1, hz2⟩ := info_parts infoSh
  have hown' : OwnH (w0.alloc (.cells #[.int .i64 t.1, .int .i64 t.2] 38)) base v l := hown.fr ((Fr.refl [] w0).alloc _) (by simp)
  refine wp_append_lies _ s x 39 ho base 38 i0 _ 2 16 Try.underlying39 hi0 hz0 hz1 hz2 rfl (by decide) v l.length (l.flatMap shC) hs hown' ⟨w0.heap.size, 0, none⟩ 1 1 (shC t) hx rfl ?_ (by simp [shC, Value.oneCell']) (by omega) (by unfold maxLen; omega) (by omega) (by simp; omega) _ rfl ?_
  · intro j u hu
    exact cells_new _ _ _ j u (by simpa [shC] using hu)
  intro g cap w' h1 h2 h3 _
  refine h _ w' ?_ ?_ ⟨g, cap, rfl⟩
  · unfold OwnH
    simpa using h1
  · intro bs A hA hF
    exact (hF.alloc _).grown h2 hA
theorem app_hL {ops : Array Oper} {rest : List Oper} {o : Oper} {a : Act} {Q : Exit → Act → World → Prop} (w0 : World) (h0 : Nat) (hH : w0.heap.size = h0) (t : Int × Int) (hgd : o.guard = none) (s x : Operand)
    (ho : o.op = .call { callee := .builtin .append, args := #[s, x], argTypes := #[39, 39] }) (base : Nat) (v : Value) (l : List (Int × Int)) (hs : a.eval s = v) (hown : OwnH w0 base v l)
    (hx : a.eval x = .slice (some ⟨h0, 0, none⟩) 1 1) (hl : l.length ≤ 1000000) (hb : base ≤ w0.heap.size)
    (h : ∀ v' w', OwnH w' base v' (l ++ [t]) → (∀ bs A, (∀ k, v.ownBlock = some k → k ∈ bs ∨ A.heap.size ≤ k) → Fr bs A w0 → Fr bs A w') → (∃ g cap, v' = .slice (some ⟨g, 0, none⟩) (l.length + 1) cap) → wpList Try.prog ops Q rest (a.put o.dst v') w') :
    wpList Try.prog ops Q (o :: rest) a (w0.alloc (.cells #[.int .i64 t.1, .int .i64 t.2] 38)) :=
  wpList_plain hgd fun _ hK => app_hS w0 h0 hH t s x ho base v l hs hown hx hl hb fun v' w' h1 h2 h3 => hK _ _ (h v' w' h1 h2 h3)
theorem own_one (w : World) : OwnH (w.alloc (.cells #[.int .i64 1, .int .i64 1] 38)) w.heap.size (.slice (some ⟨w.heap.size, 0, none⟩) 1 1) [(1, 1)] :=
  ⟨rfl, .inr ⟨w.heap.size, 1, _, rfl, Nat.le_refl _, heap_alloc_new w _, Nat.le_refl _, by unfold maxLen; simp, rfl, rfl⟩⟩
/-- the shares of the statement -/
def shL (Q : List Int) (k : Nat) : List (Int × Int) := (1, 1) :: (List.range k).map fun (i : Nat) => ((i : Int) + 2, Q.getD i 0 + 1)
theorem shL_len (Q : List Int) (k : Nat) : (shL Q k).length = k + 1 := by simp [shL]
theorem shL_succ (Q : List Int) (k : Nat) : shL Q (k + 1) = shL Q k ++ [((k : Int) + 2, Q.getD k 0 + 1)] := by simp [shL, List.range_succ]
theorem shL_ok {Q : List Int} (hQ : ∀ z ∈ Q, 0 ≤ z ∧ z ≤ 255) {k : Nat} (hk : k ≤ 19) : ShOk (shL Q k) := by
  refine ⟨by rw [shL_len]; omega, by rw [shL_len]; omega, fun i x hx => ?_⟩
  cases i with
  | zero => simp [shL] at hx; subst hx; exact ⟨rfl, by omega, by omega⟩
  | succ i =>
    simp only [shL, List.getElem?_cons_succ, List.getElem?_map] at hx
    have hi : i < k := by
      by_cases h : i < k
      · exact h
      · rw [List.getElem?_eq_none (by simp; omega)] at hx; simp at hx
    rw [List.getElem?_range hi] at hx
    simp at hx
    subst hx
    have hq : 0 ≤ Q.getD i 0 ∧ Q.getD i 0 ≤ 255 := by
      by_cases h : i < Q.length
      · have := hQ Q[i] (List.getElem_mem h)
        simpa [List.getD, h] using this
      · simp [List.getD, h]
    refine ⟨by push_cast; omega, ?_, ?_⟩ <;> simp only [List.getD] at hq ⊢ <;> omega
section
variable {H : Type} {enc : TypeId × Value → H} {w : World} {base : Nat} {spare : Nat → Bool} {held : Bool}
theorem open_el_k {e : TypeId} {k : IntKind} (he : Try.prog.underlying e = some (.int k)) : ∀ n cs y, DataW.trod enc Try.prog w base spare held n e cs = some y → ∃ z : Int, (Lit.int k z).wf = true ∧ ∀ i u, (i, u) ∈ [(0, Value.int k z)] → cs[i]? = some u := by
  intro n cs y h
  obtain ⟨z, rfl, _, hw⟩ := DataW.trod_int he h
  refine ⟨z, hw, fun i u hu => ?_⟩
  simp at hu
  obtain ⟨rfl, rfl⟩ := hu
  rfl
theorem arr_el {t e : TypeId} {n fuel : Nat} {cs : List Value} {x : DataW H × List MemPlace} {k : IntKind} (ht : Try.prog.underlying t = some (.array n e)) (he : Try.prog.underlying e = some (.int k)) (hc : Try.prog.cellsOf e = 1)
    (h : DataW.trod enc Try.prog w base spare held fuel t cs = some x) (hl : cs.length = n) : ∀ i, i < n → ∃ z : Int, (Lit.int k z).wf = true ∧ cs[i]? = some (.int k z) := by
  intro i hi
  obtain ⟨xs, m, _, _, _, hlen, hx⟩ := DataW.trod_array ht h
  have h1 := hx i hi
  obtain ⟨y, hy⟩ : ∃ y, xs[i]? = some y := ⟨_, List.getElem?_eq_getElem (by omega)⟩
  rw [hy, hc, Nat.mul_one] at h1
  obtain ⟨z, hz, _, hw⟩ := DataW.trod_int he h1
  refine ⟨z, hw, ?_⟩
  have h2 : ((cs.drop i).take 1)[0]? = some (Value.int k z) := by rw [hz]; rfl
  rw [List.getElem?_take, if_pos (by omega), List.getElem?_drop, Nat.add_zero] at h2
  exact h2
def u8F (x : Int) : List (Nat × Value) := [(0, Value.int .u8 x)]
set_option maxRecDepth 20000 in
theorem open_u8s {r : Reach} {b0 : Nat} {v : Value} {d : DataW H} {ps : List MemPlace}
    (hval : Value.okWide Try.prog w r b0 24 v) (h : DataW.Trod enc Try.prog w base spare held 24 v d ps) : ∃ l : List Int, RdF 1 u8F w v l ∧ ∀ z ∈ l, (Lit.int .u8 z).wf = true :=
  open_arg u8F (fun z => (Lit.int .u8 z).wf = true) 1 Try.underlying24 (by kernel_rfl) (by omega) (open_el_k Try.underlying5) hval h
set_option maxRecDepth 20000 in
theorem open_u32x2 {r : Reach} {b0 : Nat} {v : Value} {d : DataW H} {ps : List MemPlace}
    (hval : Value.okWide Try.prog w r b0 23 v) (h : DataW.Trod enc Try.prog w base spare held 23 v d ps) : ∃ a b : Int, v = .agg #[.int .u32 a, .int .u32 b] ∧ ((Lit.int .u32 a).wf = true ∧ (Lit.int .u32 b).wf = true) := by
  have U := Try.underlying23
  have hC : Try.prog.cellsOf 23 = 2 := by kernel_rfl
  have hv : ∃ cs, v = .agg cs ∧ cs.size = 2 := by
    simp only [Value.okWide, U] at hval
    obtain ⟨cs, h1, h2, _⟩ := hval
    exact ⟨cs, h1, by rw [h2, hC]⟩
  obtain ⟨cs, rfl, hsz⟩ := hv
  obtain ⟨l⟩ := cs
  obtain ⟨fuel, hy0⟩ := h
  have hy : DataW.trod enc Try.prog w base spare held fuel 23 l = some (d, ps) := by simpa [Value.cells] using hy0
  have hl : l.length = 2 := by simpa using hsz
  have hE := arr_el U Try.underlying22 (by kernel_rfl) hy hl
  obtain ⟨a, wa, ha⟩ := hE 0 (by omega)
  obtain ⟨b, wb, hb⟩ := hE 1 (by omega)
  refine ⟨a, b, ?_, wa, wb⟩
  clear hE hy hy0 hval U hC hsz
  match l, hl with
  | [x0, x1], _ =>
    simp at ha hb
    rw [ha, hb]
end
end Go.Proofs.Ytijdlggoaianbaa
