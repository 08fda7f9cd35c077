/-
  LAYER 36: the needs of the fixed tiers; what is divided among the others; taking the first element.
-/
import Derived.Test.YtdinjekpcgndmaaPoolP
import Derived.Test.YtdinjekpcgndmaaSplit
import Derived.Test.YtdinjekpcgndmaaAppI
import Derived.StillTailTactics
import Derived.IntWalk
import Derived.Deep.AppendLies
import Derived.Deep.RegionHeld3
import Derived.Deep.DrawnRows
set_option linter.unusedVariables false
namespace Go.Proofs.Ytdinjekpcgndmaa
open Go.RowKit
theorem app_iH {ops : Array Oper} {rest : List Oper} {o : Oper} {a : Act} {Q : Exit → Act → World → Prop} (w0 : World) (h0 : Nat) (hH : w0.heap.size = h0) (y : Int) (hgd : o.guard = none) (s x : Operand)
    (ho : o.op = .call { callee := .builtin .append, args := #[s, x], argTypes := #[31, 31] }) (base : Nat) (v : Value) (l : List Int) (hs : a.eval s = v) (hown : OwnI w0 base 3 v l)
    (hx : a.eval x = .slice (some ⟨h0, 0, none⟩) 1 1) (hl : l.length ≤ 1000000000) (hb : base ≤ w0.heap.size)
    (h : ∀ v' w', OwnI w' base 3 v' (l ++ [y]) → (∀ bs A, A.heap.size ≤ base → Fr bs A w0 → Fr bs A w') → wpList Try.prog ops Q rest (a.put o.dst v') w') :
    wpList Try.prog ops Q (o :: rest) a (w0.alloc (.cells #[.int .i64 y] 3)) := by
  subst hH
  exact app_i w0 y hgd s x ho base v l hs hown hx hl hb fun v' w' h1 _ h3 => h v' w' h1 h3
/-- .. at the operation, for a region that draws its order -/
theorem app_wp {o : Oper} {a : Act} {K : Act → World → Prop} {Q : Exit → Act → World → Prop} (w0 : World) (h0 : Nat) (hH : w0.heap.size = h0) (y : Int) (s x : Operand)
    (ho : o.op = .call { callee := .builtin .append, args := #[s, x], argTypes := #[31, 31] }) (base : Nat) (v : Value) (l : List Int) (hs : a.eval s = v) (hown : OwnI w0 base 3 v l)
    (hx : a.eval x = .slice (some ⟨h0, 0, none⟩) 1 1) (hl : l.length ≤ 1000000000) (hb : base ≤ w0.heap.size)
    (h : ∀ v' w', OwnI w' base 3 v' (l ++ [y]) → (∀ bs A, (∀ k, v.ownBlock = some k → k ∈ bs ∨ A.heap.size ≤ k) → Fr bs A w0 → Fr bs A w') → K (a.put o.dst v') w') :
    o.wp Try.prog a (w0.alloc (.cells #[.int .i64 y] 3)) K Q := by
  subst hH
  obtain ⟨i0, hi0, hz0, hz1, hz2⟩ := info_parts infoIntA
  have hown' : OwnI (w0.alloc (.cells #[.int .i64 y] 3)) base 3 v l := hown.fr ((Fr.refl [] w0).alloc _) (by simp)
  refine wp_append_lies _ s x 31 ho base 3 i0 (.int .i64 0) 1 8 Try.underlying31 hi0 hz0 hz1 hz2 rfl (by decide) v l.length (l.map (.int .i64)) hs hown' ⟨w0.heap.size, 0, none⟩ 1 1 [.int .i64 y] hx rfl (cell_one_new _ _ _) (by simp [Value.oneCell']) (by omega) (by unfold maxLen; omega) (by omega) (by simp; omega) _ rfl ?_
  intro g cap w' h1 h2 _ _
  refine h _ w' ?_ ?_
  · unfold OwnI; simpa using h1
  · intro bs A hA hF
    exact (hF.alloc _).grown h2 hA
/-- .. in a plain region, with what it leaves as it was -/
theorem app_iF {ops : Array Oper} {rest : List Oper} {o : Oper} {a : Act} {Q : Exit → Act → World → Prop} (w0 : World) (h0 : Nat) (hH : w0.heap.size = h0) (y : Int) (hgd : o.guard = none) (s x : Operand)
    (ho : o.op = .call { callee := .builtin .append, args := #[s, x], argTypes := #[31, 31] }) (base : Nat) (v : Value) (l : List Int) (hs : a.eval s = v) (hown : OwnI w0 base 3 v l)
    (hx : a.eval x = .slice (some ⟨h0, 0, none⟩) 1 1) (hl : l.length ≤ 1000000000) (hb : base ≤ w0.heap.size)
    (h : ∀ v' w', OwnI w' base 3 v' (l ++ [y]) → (∀ bs A, (∀ k, v.ownBlock = some k → k ∈ bs ∨ A.heap.size ≤ k) → Fr bs A w0 → Fr bs A w') → wpList Try.prog ops Q rest (a.put o.dst v') w') :
    wpList Try.prog ops Q (o :: rest) a (w0.alloc (.cells #[.int .i64 y] 3)) :=
  wpList_plain hgd fun _ hK => app_wp w0 h0 hH y s x ho base v l hs hown hx hl hb fun v' w' h1 h2 => hK _ _ (h v' w' h1 h2)
theorem sel_yes {T : List Ti} {fx : Bool} {f : Nat → Int} {k : Nat} (h : isK T fx k = true) : selP T fx f (k + 1) = selP T fx f k ++ [f k] ∧ spT (selP T fx f (k + 1)) = spT (selP T fx f k) + f k := by
  have e : selP T fx f (k + 1) = selP T fx f k ++ [f k] := by rw [selP, if_pos h]
  exact ⟨e, by rw [e, spT_snoc]⟩
theorem sel_no {T : List Ti} {fx : Bool} {f : Nat → Int} {k : Nat} (h : isK T fx k = false) : selP T fx f (k + 1) = selP T fx f k := by rw [selP, if_neg (by simp [h])]
theorem spT_bd {l : List Int} {B : Int} (h : ∀ x ∈ l, 0 ≤ x ∧ x ≤ B) : 0 ≤ spT l ∧ spT l ≤ B * l.length := by
  have key : ∀ k, k ≤ l.length → 0 ≤ sumTo l k ∧ sumTo l k ≤ B * k := by
    intro k
    induction k with
    | zero => intro _; simp [sumTo]
    | succ k ih =>
      intro hk
      obtain ⟨a, b⟩ := ih (by omega)
      have c := h l[k] (List.getElem_mem (by omega))
      have d : l.getD k 0 = l[k] := by simp [List.getD, show k < l.length by omega]
      have e : B * ((k + 1 : Nat) : Int) = B * k + B := by push_cast; rw [Int.mul_add, Int.mul_one]
      rw [sumTo, d, e]; omega
  exact key l.length (Nat.le_refl _)
set_option maxRecDepth 20000 in
set_option maxHeartbeats 4000000 in
theorem needs_any (g : Gm) (v2 : Value) (cs : List Int) (w : World) (hok : g.Ok w) (h2 : RdI w v2 cs) (hch : chkE g = 0) (hlen : cs.length = g.tiers.length) (hcs : ∀ i, i < cs.length → 0 ≤ cs.getD i 0 ∧ cs.getD i 0 ≤ 2097152) :
    Calls Try.prog 63 #[g.val, v2] w fun e w' => ∃ v, e = .returned (.tuple #[v, .int .i64 (spT (ndL g.tiers cs))]) ∧ OwnI w' w.heap.size 3 v (ndL g.tiers cs) ∧ Fr [] w w' := by
  have h21 : ∀ w b, GmAt w b g → w.cell? ⟨b, 21, none⟩ = some (.slice g.ta g.tiers.length g.tc) := fun w b h => h.cell 21 _ rfl
  have hn12 := (game_len hch).2
  have hvb := vl_bd hch
  unfold ndL
  have hsb := fun k (hk : k ≤ g.tiers.length) => spT_bd (l := selP g.tiers true (fun i => vl g.tiers i * cs.getD i 0) k) (B := 2097152000000000) (selP_alln _ fun i hi _ => by
    have a := hvb i (by omega)
    have b := hcs i (by omega)
    exact need_bd a.1 a.2 b.1 b.2)
  have hsl := fun k => selP_len g.tiers true (fun i => vl g.tiers i * cs.getD i 0) k
  have hcl := cntK_le g.tiers true
  obtain ⟨n, hN⟩ : ∃ n, n = g.tiers.length := ⟨_, rfl⟩
  rw [← hN] at h21 hn12 hvb hsb hlen ⊢
  obtain ⟨a2, c2, rfl, l2, m2, r2⟩ := h2
  rw [hlen] at l2 r2 hcs ⊢
  unfold maxLen at m2
  have HN := Lib.hid hN
  have H21 := Lib.hid h21
  have HOK := Lib.hid hok
  have HR2 := Lib.hid r2
  have HVB := Lib.hid hvb
  have HCS := Lib.hid hcs
  have HSB := Lib.hid hsb
  have HSL := Lib.hid hsl
  have HCL := Lib.hid hcl
  clear hN h21 hok r2 hvb hcs hsb hsl hcl hlen hch
  go_enter Try.func63, Try.ntmps63
  go_upto_block 0 with (first | (refine box_game rfl (.tmp 0) rfl g rfl ?_; intro w1 hg1 hz1 hf1; have c21 := H21.out _ _ hg1) | go_step3)
  have HF1 := Lib.hid hf1
  have hs1 : w.heap.size ≤ w1.heap.size := by omega
  clear hg1 hz1 hf1 c21
  go_wp2_with fail
  go_loopw [13, 6, 7] (fun i v s wr => ∃ k : Nat, k ≤ n ∧ i = .int .i64 k ∧ OwnI wr w1.heap.size 3 v (selP g.tiers true (fun i => vl g.tiers i * cs.getD i 0) k) ∧ s = .int .i64 (spT (selP g.tiers true (fun i => vl g.tiers i * cs.getD i 0) k)) ∧ Fr [] w1 wr) (fun i _ _ _ => n - (intOf i).toNat)
  case atStart => exact ⟨0, by omega, rfl, OwnI.nil _ _ _, rfl, Fr.refl _ _⟩
  case round =>
    obtain ⟨k, hk, rfl, ho, rfl, hf⟩ := hrel
    by_cases hlt : k < n
    · obtain ⟨t, ht⟩ : ∃ t, g.tiers[k]? = some t := ⟨_, List.getElem?_eq_getElem (by have := HN.out; omega)⟩
      obtain ⟨bt, ot, hta, hct⟩ := RdF.at (f := Ti.cells) HOK.out.tiers.rd ht
      have hfw := HF1.out.trans hf
      have c0 := hfw.cell_some (hct 0 _ rfl) (by simp)
      have c1 := hfw.cell_some (hct 1 _ rfl) (by simp)
      have c2' := hfw.cell_some (hct 2 _ rfl) (by simp)
      have c3 := hfw.cell_some (hct 3 _ rfl) (by simp)
      have c4 := hfw.cell_some (hct 4 _ rfl) (by simp)
      have c5 := hfw.cell_some (hct 5 _ rfl) (by simp)
      rw [Nat.add_zero] at c0
      obtain ⟨b, o, rfl, hcell⟩ := HR2.out k hlt
      have hbw0 : b < w.heap.size := lt_of_cell hcell
      have cc := hfw.cell_some hcell (by simp)
      obtain ⟨hkd, hvl⟩ := kd_of ht
      have hb1 := HVB.out k hlt
      have hb2 := HCS.out k hlt
      have hsb1 := HSB.out k (by omega)
      have hsb2 := HSB.out (k + 1) (by omega)
      have hl1 := HSL.out k
      have hl2 := HSL.out (k + 1)
      have hle1 := HCL.out k
      have hle2 := HCL.out (k + 1)
      have hyes := @sel_yes g.tiers true (fun i => vl g.tiers i * cs.getD i 0) k
      have hno := @sel_no g.tiers true (fun i => vl g.tiers i * cs.getD i 0) k
      have hkk : isK g.tiers true k = decide (t.kind = 1) := by unfold isK; rw [hkd]; simp
      rw [hkk] at hyes hno
      rw [hta]
      obtain ⟨tm, tb, te, to_, tk, tv⟩ := t
      simp only at c0 c1 c2' c3 c4 c5 hkk hvl hyes hno
      rw [hvl] at hb1 hyes
      generalize hgc : cs.getD k 0 = c at *
      have hkn : (k : Int) < (n : Int) := by omega
      have HO := Lib.hid ho
      have HFK := Lib.hid hf
      by_cases h1 : tk = 1
      · obtain ⟨y1, y2⟩ := hyes (by simpa using h1)
        rw [hl1] at hsb1
        rw [hl2, y2] at hsb2
        have e1 : (tk == 1) = true := by simpa using h1
        have hw1 : IntKind.i64.wrap (tv * c) = tv * c := IntWalk.i64_in _ (by have := need_bd hb1.1 hb1.2 hb2.1 hb2.2; omega)
        have hlk : (selP g.tiers true (fun i => vl g.tiers i * cs.getD i 0) k).length ≤ 12 := by rw [hl1]; omega
        have HY1 := Lib.hid y1
        have HY2 := Lib.hid y2
        have hso : ∀ x : Int, x ≤ 2097152000000000 * 12 → IntKind.i64.wrap x = x ∨ x < 0 := fun x hx => by
          by_cases h : 0 ≤ x
          · exact .inl (IntWalk.i64_in _ (by omega))
          · exact .inr (by omega)
        have hw2 : IntKind.i64.wrap (spT (selP g.tiers true (fun i => vl g.tiers i * cs.getD i 0) k) + tv * c) = spT (selP g.tiers true (fun i => vl g.tiers i * cs.getD i 0) k) + tv * c := IntWalk.i64_in _ (by omega)
        clear hyes hno y1 y2 hl1 hl2 hsb1 hsb2 hle1 hle2 hct ht hta hcell hkd hvl hfw hkk hf hso hgc hb1 hb2 h1
        generalize spT (selP g.tiers true (fun i => vl g.tiers i * cs.getD i 0) k) = s at *
        generalize selP g.tiers true (fun i => vl g.tiers i * cs.getD i 0) k = l at *
        go_upto_region 7 with (fail)
        have d5 : (wr.alloc (.cells #[.int .i64 tm, .int .i64 tb, .int .i64 te, .int .i64 to_, .int .i64 tk, .int .i64 tv] 40)).cell? ⟨wr.heap.size, 5, none⟩ = some (.int .i64 tv) := by rw [World.cell?_alloc_new]; rfl
        have hF5 : Fr [] w1 (wr.alloc (.cells #[.int .i64 tm, .int .i64 tb, .int .i64 te, .int .i64 to_, .int .i64 tk, .int .i64 tv] 40)) := HFK.out.alloc _
        have cc5 := ((Fr.refl [] wr).alloc (.cells #[.int .i64 tm, .int .i64 tb, .int .i64 te, .int .i64 to_, .int .i64 tk, .int .i64 tv] 40)).cell_some cc (by simp)
        have ho5 := HO.out.fr ((Fr.refl [] wr).alloc (.cells #[.int .i64 tm, .int .i64 tb, .int .i64 te, .int .i64 to_, .int .i64 tk, .int .i64 tv] 40)) (by simp)
        generalize wr.alloc (.cells #[.int .i64 tm, .int .i64 tb, .int .i64 te, .int .i64 to_, .int .i64 tk, .int .i64 tv] 40) = w5 at *
        have HF5 := Lib.hid hF5
        have HO5 := Lib.hid ho5
        have hOw := fun q hq => (HO.out.block q hq).2
        have HOW := Lib.hid hOw
        have hbw : b < w1.heap.size := Nat.lt_of_lt_of_le hbw0 hs1
        clear c0 c1 c2' c3 c4 c5 cc hF5 ho5 HO HFK hOw
        have hsz5 : w1.heap.size ≤ w5.heap.size := HF5.out.size
        refine wp_region_held_drew (S := (fun w' => w'.cell? ⟨wr.heap.size, 5, none⟩ = some (.int .i64 tv) ∧ w'.cell? ⟨b, o + k, none⟩ = some (.int .i64 c) ∧ Fr u6.ownBlock.toList w5 w')) (by kernel_rfl) ⟨d5, cc5, (Fr.refl _ w5).drew⟩ (fun hHeld => ?_)
        refine wpAnyH_take (i := 0) (oi := ⟨some 21, _, _, _, _, _⟩) (v := u6) rfl (by kernel_rfl) (by kernel_rfl) (by kernel_rfl) (fun _ _ _ h => h) (Or.inl ⟨by rfl, ?_⟩) hHeld ?_
        · intro w hSw; (try dsimp only at hSw); go_simp
        (try simp only [Act.put, List.setIfInBounds_toArray, List.set_cons_zero, List.set_cons_succ])
        refine wpAnyH_take (i := 1) (oi := ⟨some 22, _, _, _, _, _⟩) (v := .pointer (some ⟨wr.heap.size, 5, none⟩)) rfl (by kernel_rfl) (by kernel_rfl) (by kernel_rfl) (fun _ _ _ h => h) (Or.inl ⟨by rfl, ?_⟩) hHeld ?_
        · intro w hSw; (try dsimp only at hSw); go_simp
        (try simp only [Act.put, List.setIfInBounds_toArray, List.set_cons_zero, List.set_cons_succ])
        refine wpAnyH_take (i := 2) (oi := ⟨some 23, _, _, _, _, _⟩) (v := .int .i64 tv) rfl (by kernel_rfl) (by kernel_rfl) (by kernel_rfl) (fun _ _ _ h => h) (Or.inl ⟨by rfl, ?_⟩) hHeld ?_
        · intro w hSw; (try dsimp only at hSw); have hcF := hSw.1; clear hSw; go_simp
        (try simp only [Act.put, List.setIfInBounds_toArray, List.set_cons_zero, List.set_cons_succ])
        refine wpAnyH_take (i := 3) (oi := ⟨some 24, _, _, _, _, _⟩) (v := .slice (some ⟨b, o, none⟩) n c2) rfl (by kernel_rfl) (by kernel_rfl) (by kernel_rfl) (fun _ _ _ h => h) (Or.inl ⟨by rfl, ?_⟩) hHeld ?_
        · intro w hSw; (try dsimp only at hSw); go_simp
        (try simp only [Act.put, List.setIfInBounds_toArray, List.set_cons_zero, List.set_cons_succ])
        refine wpAnyH_take (i := 4) (oi := ⟨some 25, _, _, _, _, _⟩) (v := .int .i64 k) rfl (by kernel_rfl) (by kernel_rfl) (by kernel_rfl) (fun _ _ _ h => h) (Or.inl ⟨by rfl, ?_⟩) hHeld ?_
        · intro w hSw; (try dsimp only at hSw); go_simp
        (try simp only [Act.put, List.setIfInBounds_toArray, List.set_cons_zero, List.set_cons_succ])
        refine wpAnyH_take (i := 5) (oi := ⟨some 26, _, _, _, _, _⟩) (v := .pointer (some ⟨b, o + k, none⟩)) rfl (by kernel_rfl) (by kernel_rfl) (by kernel_rfl) (fun _ _ _ h => h) (Or.inl ⟨by rfl, ?_⟩) hHeld ?_
        · intro w hSw; (try dsimp only at hSw); go_simp
        (try simp only [Act.put, List.setIfInBounds_toArray, List.set_cons_zero, List.set_cons_succ])
        refine wpAnyH_take (i := 6) (oi := ⟨some 27, _, _, _, _, _⟩) (v := .int .i64 c) rfl (by kernel_rfl) (by kernel_rfl) (by kernel_rfl) (fun _ _ _ h => h) (Or.inl ⟨by rfl, ?_⟩) hHeld ?_
        · intro w hSw; (try dsimp only at hSw); have hcF := hSw.2.1; clear hSw; go_simp
        (try simp only [Act.put, List.setIfInBounds_toArray, List.set_cons_zero, List.set_cons_succ])
        refine wpAnyH_take (i := 7) (oi := ⟨some 28, _, _, _, _, _⟩) (v := .int .i64 (tv * c)) rfl (by kernel_rfl) (by kernel_rfl) (by kernel_rfl) (fun _ _ _ h => h) (Or.inl ⟨by rfl, ?_⟩) hHeld ?_
        · intro w hSw; (try dsimp only at hSw); go_simp
        (try simp only [Act.put, List.setIfInBounds_toArray, List.set_cons_zero, List.set_cons_succ])
        refine wpAnyH_ready (rs := [8]) (by kernel_rfl) (by simp) ?_
        refine AllReadyH.cons (o := ⟨some 29, _, _, _, _, _⟩) rfl (fun K hK => ?_) AllReadyH.nil
        rw [if_pos (by rfl)]
        go_simp
        have e5 : Fr [] w5 (w5.alloc (.cells #[.int .i64 (tv * c)] 3)).drew := ((Fr.refl [] w5).alloc _).drew
        refine hK.out _ _ (⟨e5.cell_some d5 (by simp), e5.cell_some cc5 (by simp), e5.mono (by simp)⟩) (fun hHeld' => ?_)
        clear hK K hHeld
        have hHeld := hHeld'
        clear hHeld'
        (try simp only [Act.put, List.setIfInBounds_toArray, List.set_cons_zero, List.set_cons_succ])
        refine wpAnyH_ready (rs := [9]) (by kernel_rfl) (by simp) ?_
        refine AllReadyH.cons (o := ⟨some 30, _, _, _, _, _⟩) rfl (fun K hK => ?_) AllReadyH.nil
        rw [if_pos (by rfl)]
        refine app_wp w5.drew w5.heap.size rfl (tv * c) (.tmp 21) (.tmp 29) rfl w1.heap.size u6 l rfl (HO5.out.fr (Fr.refl [] _).drew (by simp)) rfl (by omega) hsz5 ?_
        intro v' w6 ho6 hfn
        have hF6 : Fr [] w1 w6 := hfn [] w1 (fun q hq => .inr (HO5.out.block q hq).1) HF5.out.drew
        have hF56 : Fr u6.ownBlock.toList w5 w6 := hfn _ w5 (fun q hq => .inl (by have hq' : u6.ownBlock = some q := hq; rw [hq']; simp)) (Fr.refl _ _).drew
        have nb1 : wr.heap.size ∉ u6.ownBlock.toList := fun hm => by
          have := HOW.out wr.heap.size (by simpa using hm); omega
        have nb2 : b ∉ u6.ownBlock.toList := fun hm => by
          have := (HO5.out.block b (by simpa using hm)).1; omega
        refine hK.out _ _ (⟨hF56.cell_some d5 nb1, hF56.cell_some cc5 nb2, hF56⟩) (fun hHeld' => ?_)
        clear hK K hHeld
        have hHeld := hHeld'
        clear hHeld'
        (try simp only [Act.put, List.setIfInBounds_toArray, List.set_cons_zero, List.set_cons_succ])
        refine wpAnyH_take (i := 10) (oi := ⟨some 6, _, _, _, _, _⟩) (v := v') rfl (by kernel_rfl) (by kernel_rfl) (by kernel_rfl) (fun _ _ _ h => h) (Or.inl ⟨by rfl, ?_⟩) hHeld ?_
        · intro w hSw; (try dsimp only at hSw); go_simp
        (try simp only [Act.put, List.setIfInBounds_toArray, List.set_cons_zero, List.set_cons_succ])
        refine wpAnyH_done (by kernel_rfl) ?_ _
        have c5' := hF56.cell_some d5 nb1
        have cc6 := hF56.cell_some cc5 nb2
        clear d5 cc5 e5 hfn hF56 nb1 nb2 hHeld
        have HO6 := Lib.hid ho6
        have HF6 := Lib.hid hF6
        clear ho6 hF6
        go_wp2_with fail
        go_quiet (fail)
        have HO7 := Lib.hid (HO6.out.fr ((Fr.refl [] w6).drewN nq) (by simp))
        have HF7 := Lib.hid (HF6.out.drewN nq)
        generalize w6.drewN nq = w7 at *
        clear c5' cc6
        go_wp2_with fail
        go_roundw
        case rel => exact ⟨k + 1, by omega, by go_num, by rw [HY1.out]; exact HO7.out, by rw [HY2.out], HF7.out⟩
        case measure => simp [intOf]; omega
      · have y1 := hno (by simpa using h1)
        have e1 : (tk == 1) = false := by simpa using h1
        have HY := Lib.hid y1
        have HO5 := Lib.hid (HO.out.fr ((Fr.refl [] wr).alloc (.cells #[.int .i64 tm, .int .i64 tb, .int .i64 te, .int .i64 to_, .int .i64 tk, .int .i64 tv] 40)) (by simp))
        have HF5 := Lib.hid (HFK.out.alloc (.cells #[.int .i64 tm, .int .i64 tb, .int .i64 te, .int .i64 to_, .int .i64 tk, .int .i64 tv] 40))
        clear hyes hno y1 hl1 hl2 hsb1 hsb2 hle1 hle2 hct ht hta hcell hkd hvl hfw hkk hf hgc hb1 hb2 h1 ho HO HFK
        go_wp2_with fail
        go_roundw
        case rel => exact ⟨k + 1, by omega, by go_num, by rw [HY.out]; exact HO5.out, by rw [HY.out], HF5.out⟩
        case measure => simp [intOf]; omega
    · obtain rfl : n = k := by omega
      have HO := Lib.hid (ho.mono hs1)
      have HF := Lib.hid (HF1.out.trans hf)
      clear ho hf
      go_wp2_with fail
      go_ret2
      exact ⟨_, rfl, HO.out, HF.out⟩
theorem any_snoc (l : List Int) (x : Int) : ((l ++ [x]).any fun x => x != 0) = ((l.any fun x => x != 0) || x != 0) := by simp
set_option maxRecDepth 20000 in
set_option maxHeartbeats 4000000 in
theorem divide_any (g : Gm) (rest : Int) (w : World) (hok : g.Ok w) (hch : chkE g = 0) (h0 : 0 ≤ rest) (h1 : rest ≤ 1000000000000) :
    Calls Try.prog 65 #[g.val, .int .i64 rest] w fun e w' => ∃ v, e = .returned (.tuple #[v, .bool (dvB g.tiers), .int .i64 0]) ∧ OwnI w' w.heap.size 3 v (shL g.tiers rest) ∧ Fr [] w w' := by
  have h21 : ∀ w b, GmAt w b g → w.cell? ⟨b, 21, none⟩ = some (.slice g.ta g.tiers.length g.tc) := fun w b h => h.cell 21 _ rfl
  have hn12 := (game_len hch).2
  have hsl := fun k => selP_len g.tiers false (vl g.tiers) k
  have hcl := cntK_le g.tiers false
  have hdv : dvB g.tiers = (vsL g.tiers).any fun x => x != 0 := dvB_any (fun x hx => (vs_bd hch x hx).1)
  have hsp := vs_split hch h0 h1
  have hS := fun v w' (h : RdI w' v (vsL g.tiers)) => split_any rest v (vsL g.tiers) w' h (by rw [vsL_len]; have := cntK_le g.tiers false g.tiers.length; omega)
  have hsh1 : dvB g.tiers = true → shL g.tiers rest = spL rest (vsL g.tiers) := fun h => by unfold shL; rw [if_pos h]
  have hsh2 : dvB g.tiers = false → shL g.tiers rest = [] := fun h => by unfold shL; rw [if_neg (by simp [h])]
  unfold SpPost at hS
  unfold vsL at hdv hsp hS hsh1
  generalize shL g.tiers rest = SH at *
  generalize dvB g.tiers = DV at *
  obtain ⟨n, hN⟩ : ∃ n, n = g.tiers.length := ⟨_, rfl⟩
  rw [← hN] at h21 hn12 hdv hsp hS hsh1
  have HN := Lib.hid hN
  have H21 := Lib.hid h21
  have HOK := Lib.hid hok
  have HSL := Lib.hid hsl
  have HCL := Lib.hid hcl
  have HDV := Lib.hid hdv
  have HSP := Lib.hid hsp
  have HS := Lib.hid hS
  have HSH1 := Lib.hid hsh1
  have HSH2 := Lib.hid hsh2
  clear hN h21 hok hsl hcl hdv hsp hS hsh1 hsh2 hch
  go_enter Try.func65, Try.ntmps65
  go_upto_block 0 with (first | (refine box_game rfl (.tmp 0) rfl g rfl ?_; intro w1 hg1 hz1 hf1; have c21 := H21.out _ _ hg1) | go_step3)
  have HF1 := Lib.hid hf1
  have hs1 : w.heap.size ≤ w1.heap.size := by omega
  clear hg1 hz1 hf1 c21
  go_wp2_with fail
  go_loopw [16, 7, 8] (fun i v s wr => ∃ k : Nat, k ≤ n ∧ i = .int .i64 k ∧ OwnI wr w1.heap.size 3 v (selP g.tiers false (vl g.tiers) k) ∧ s = .bool ((selP g.tiers false (vl g.tiers) k).any fun x => x != 0) ∧ Fr [] w1 wr) (fun i _ _ _ => n - (intOf i).toNat)
  case atStart => exact ⟨0, by omega, rfl, OwnI.nil _ _ _, rfl, Fr.refl _ _⟩
  case round =>
    obtain ⟨k, hk, rfl, ho, rfl, hf⟩ := hrel
    by_cases hlt : k < n
    · obtain ⟨t, ht⟩ : ∃ t, g.tiers[k]? = some t := ⟨_, List.getElem?_eq_getElem (by have := HN.out; omega)⟩
      obtain ⟨bt, ot, hta, hct⟩ := RdF.at (f := Ti.cells) HOK.out.tiers.rd ht
      have hfw := HF1.out.trans hf
      have c0 := hfw.cell_some (hct 0 _ rfl) (by simp)
      have c1 := hfw.cell_some (hct 1 _ rfl) (by simp)
      have c2' := hfw.cell_some (hct 2 _ rfl) (by simp)
      have c3 := hfw.cell_some (hct 3 _ rfl) (by simp)
      have c4 := hfw.cell_some (hct 4 _ rfl) (by simp)
      have c5 := hfw.cell_some (hct 5 _ rfl) (by simp)
      rw [Nat.add_zero] at c0
      obtain ⟨hkd, hvl⟩ := kd_of ht
      have hl1 := HSL.out k
      have hle1 := HCL.out k
      have hyes := @sel_yes g.tiers false (vl g.tiers) k
      have hno := @sel_no g.tiers false (vl g.tiers) k
      have hkk : isK g.tiers false k = !decide (t.kind = 1) := by unfold isK; rw [hkd]; cases decide (t.kind = 1) <;> rfl
      rw [hkk] at hyes hno
      rw [hta]
      obtain ⟨tm, tb, te, to_, tk, tv⟩ := t
      simp only at c0 c1 c2' c3 c4 c5 hkk hvl hyes hno
      rw [hvl] at hyes
      have hkn : (k : Int) < (n : Int) := by omega
      have hlk : (selP g.tiers false (vl g.tiers) k).length ≤ 12 := by rw [hl1]; omega
      by_cases h1 : tk = 1
      · have y1 := hno (by simpa using h1)
        have e1 : (tk != 1) = false := by simpa using h1
        have HY := Lib.hid y1
        have HO5 := Lib.hid (ho.fr ((Fr.refl [] wr).alloc (.cells #[.int .i64 tm, .int .i64 tb, .int .i64 te, .int .i64 to_, .int .i64 tk, .int .i64 tv] 40)) (by simp))
        have HF5 := Lib.hid (hf.alloc (.cells #[.int .i64 tm, .int .i64 tb, .int .i64 te, .int .i64 to_, .int .i64 tk, .int .i64 tv] 40))
        clear hyes hno y1 hl1 hle1 hct ht hta hkd hvl hfw hkk hf ho h1
        go_wp2_with fail
        go_roundw
        case rel => exact ⟨k + 1, by omega, by go_num, by rw [HY.out]; exact HO5.out, by rw [HY.out], HF5.out⟩
        case measure => simp [intOf]; omega
      · obtain ⟨y1, _⟩ := hyes (by simpa using h1)
        have e1 : (tk != 1) = true := by simpa using h1
        have hy2 := any_snoc (selP g.tiers false (vl g.tiers) k) tv
        rw [← y1] at hy2
        have HY1 := Lib.hid y1
        have HY2 := Lib.hid hy2
        have HO := Lib.hid ho
        have HFK := Lib.hid hf
        clear hyes hno y1 hy2 hl1 hle1 hct ht hta hkd hvl hfw hkk hf ho h1
        generalize ((selP g.tiers false (vl g.tiers) k).any fun x => x != 0) = bb at *
        generalize selP g.tiers false (vl g.tiers) k = l at *
        go_upto_region 7 with (fail)
        have d5 : (wr.alloc (.cells #[.int .i64 tm, .int .i64 tb, .int .i64 te, .int .i64 to_, .int .i64 tk, .int .i64 tv] 40)).cell? ⟨wr.heap.size, 5, none⟩ = some (.int .i64 tv) := by rw [World.cell?_alloc_new]; rfl
        have hF5 : Fr [] w1 (wr.alloc (.cells #[.int .i64 tm, .int .i64 tb, .int .i64 te, .int .i64 to_, .int .i64 tk, .int .i64 tv] 40)) := HFK.out.alloc _
        have ho5 := HO.out.fr ((Fr.refl [] wr).alloc (.cells #[.int .i64 tm, .int .i64 tb, .int .i64 te, .int .i64 to_, .int .i64 tk, .int .i64 tv] 40)) (by simp)
        generalize wr.alloc (.cells #[.int .i64 tm, .int .i64 tb, .int .i64 te, .int .i64 to_, .int .i64 tk, .int .i64 tv] 40) = w5 at *
        have HF5 := Lib.hid hF5
        have HO5 := Lib.hid ho5
        have hOw := fun q hq => (HO.out.block q hq).2
        have HOW := Lib.hid hOw
        have hsz5 : w1.heap.size ≤ w5.heap.size := HF5.out.size
        clear c0 c1 c2' c3 c4 c5 hF5 ho5 HO HFK hOw
        have nb1 : ∀ v6 : Value, v6 = u7 → wr.heap.size ∉ v6.ownBlock.toList := fun v6 e hm => by
          subst e
          have := HOW.out wr.heap.size (by simpa using hm); omega
        have NB1 := Lib.hid nb1
        clear nb1
        cases bb
        all_goals
          go_wp2_with (at_builtin; refine app_iF w5 w5.heap.size rfl tv rfl (.tmp 23) (.tmp 26) rfl w1.heap.size u7 l rfl HO5.out rfl (by omega) hsz5 ?_; intro v' w6 ho6 hfn; have hF6 : Fr [] w1 w6 := hfn [] w1 (fun q hq => .inr (HO5.out.block q hq).1) HF5.out; have hF56 : Fr u7.ownBlock.toList w5 w6 := hfn _ w5 (fun q hq => .inl (by rw [hq]; simp)) (Fr.refl _ _); have c5' := hF56.cell_some d5 (NB1.out _ rfl); have HO6 := Lib.hid ho6; have HF6 := Lib.hid hF6; clear ho6 hfn hF6 hF56 d5)
          go_roundw
          case rel => exact ⟨k + 1, by omega, by go_num, by rw [HY1.out]; exact HO6.out, by rw [HY2.out]; simp, HF6.out⟩
          case measure => simp [intOf]; omega
    · obtain rfl : n = k := by omega
      have hDV := HDV.out
      rw [← hDV]
      by_cases hd : DV = true
      · have hSS := HS.out _ _ ho.rd
        rw [HSP.out hd, ← HSH1.out hd] at hSS
        have HSS := Lib.hid hSS
        have HF := Lib.hid (HF1.out.trans hf)
        have hszr : w.heap.size ≤ wr.heap.size := HF.out.size
        clear hSS hf ho hDV HS HSP HSH1 HSH2 HDV
        subst hd
        obtain ⟨wo, rfl⟩ : ∃ wo : World, wo = wr := ⟨_, rfl⟩
        go_wp2_with fail
        refine HSS.out.mono ?_
        rintro e w3 ⟨u, rfl, ho3, f3⟩
        have HO3 := Lib.hid (ho3.mono hszr)
        have HF3 := Lib.hid (HF.out.trans f3)
        clear ho3 f3
        go_wp2_with fail
        exact bodyPost_ret (v := .tuple #[u, .bool true, .int .i64 0]) (by simp [results, Try.results65, go_sem]) rfl ⟨u, rfl, HO3.out, HF3.out⟩
      · have hd : DV = false := by simpa using hd
        have hsh := HSH2.out hd
        have HF := Lib.hid (HF1.out.trans hf)
        clear hf ho hDV HS HSP HSH1 HSH2 HDV
        subst hd hsh
        go_wp2_with fail
        exact bodyPost_ret (v := .tuple #[.slice none 0 0, .bool false, .int .i64 0]) (by simp [results, Try.results65, go_sem]) rfl ⟨_, rfl, OwnI.nil _ _ _, HF.out⟩
end Go.Proofs.Ytdinjekpcgndmaa
