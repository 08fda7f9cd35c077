/-
  Are two games the same (layer 12)? Same: one way through its region, the guards carried as Bools.
-/
import Derived.Test.YtdbkkbeelemnhaaEqA
import Derived.Test.YtdbkkbeelemnhaaEqT
import Derived.Deep.DeepCutAuto
set_option linter.unusedVariables false
namespace Go.Proofs.Ytdbkkbeelemnhaa
open Go.RowKit
section
variable {P : Program} {ops : Array Oper} {Q : Exit → Act → World → Prop} {a : Act} {w : World} {rest : List Oper} {o : Oper}
/-- an operation behind a guard that is not known: its value, if the guard lets it, and nothing else -/
theorem wpList_if {G : Bool} {v : Value} (hw : Region.wanted o (yielded ops a.tmps) = G) (hy : G = true → (execOp a.eval o).run P w = .ok (.value v) w)
    (h : wpList P ops Q rest (a.put o.dst (cond G v undef)) w) : wpList P ops Q (o :: rest) a w := wpList_step fun K hK => by
  cases G
  · rw [if_neg (by rw [hw]; simp)]; exact hK _ _ h
  · rw [if_pos hw]; unfold Oper.wp; rw [hy rfl]; exact hK _ _ h
/-- .. the guard lets it -/
theorem wpList_do {v : Value} (hw : Region.wanted o (yielded ops a.tmps) = true) (hy : (execOp a.eval o).run P w = .ok (.value v) w)
    (h : wpList P ops Q rest (a.put o.dst v) w) : wpList P ops Q (o :: rest) a w := wpList_if (G := true) hw (fun _ => hy) h
/-- .. it does not -/
theorem wpList_not (hw : Region.wanted o (yielded ops a.tmps) = false) (h : wpList P ops Q rest (a.put o.dst undef) w) : wpList P ops Q (o :: rest) a w :=
  wpList_if (G := false) (v := undef) hw (fun h => by cases h) h
/-- a call of a Go function -/
theorem wpList_enter {f : Nat} {args : Array Value} (hw : Region.wanted o (yielded ops a.tmps) = true) (hy : (execOp a.eval o).run P w = .ok (.enter f args) w)
    (h : Calls P f args w fun e w' => ∃ u, e = .returned u ∧ wpList P ops Q rest (a.put o.dst u) w') : wpList P ops Q (o :: rest) a w := wpList_step fun K hK => by
  rw [if_pos hw]; unfold Oper.wp; rw [hy]
  exact h.mono fun e w' ⟨u, he, h'⟩ => by subst he; exact hK _ _ h'
end
def gmH (a b : Gm) : Bool := ((((((((((((((((((((a.name.toList == b.name.toList) && (a.kind == b.kind)) && (a.price == b.price)) && (a.main == b.main)) && (a.of_ == b.of_)) && (a.bonus == b.bonus)) && (a.bonusof == b.bonusof)) && (a.extra == b.extra)) && (a.draws == b.draws)) && (a.system == b.system)) && (a.days == b.days)) && (a.at_ == b.at_)) && (a.close == b.close)) && (a.cancel == b.cancel)) && (a.expiry == b.expiry)) && (a.pool == b.pool)) && (a.reserve == b.reserve)) && (a.round == b.round)) && (a.cap == b.cap)) && (a.rolls == b.rolls))
def gmD (a b : Gm) : Bool := (gmH a b && eqA a.addons b.addons) && eqT a.tiers b.tiers
set_option maxRecDepth 100000 in
set_option maxHeartbeats 8000000 in
theorem sameG_any (a b : Gm) (w : World) (ha : a.Ok w) (hb : b.Ok w) : Calls Try.prog 31 #[a.val, b.val] w fun e w' => e = .returned (.bool (gmD a b)) ∧ Fr [] w w' := by
  have hf := fun w' (h : Fr [] w w') => eqF_any a.aa b.aa a.ac b.ac a.addons b.addons w' (ha.addons.fr h) (hb.addons.fr h)
  have hp := fun w' (h : Fr [] w w') => eqT_any a.ta b.ta a.tc b.tc a.tiers b.tiers w' (ha.tiers.fr h) (hb.tiers.fr h)
  have hx : ∀ w g, GmAt w g a → ∀ i v, a.cells[i]? = some v → w.cell? ⟨g, i, none⟩ = some v := fun w g h i v hv => h.cell i v hv
  have hy : ∀ w g, GmAt w g b → ∀ i v, b.cells[i]? = some v → w.cell? ⟨g, i, none⟩ = some v := fun w g h i v hv => h.cell i v hv
  obtain ⟨E, hE⟩ : ∃ E, E = gmD a b := ⟨_, rfl⟩
  rw [← hE]
  unfold gmD at hE
  generalize eqA a.addons b.addons = ef at *
  generalize eqT a.tiers b.tiers = ep at *
  have HV := Lib.hid hE
  have HX := Lib.hid hx
  have HY := Lib.hid hy
  have HEF := Lib.hid hf
  have HEP := Lib.hid hp
  clear hE hx hy hf hp ha hb
  go_enter Try.func31, Try.ntmps31
  go_upto_region 1 with (first | (refine box_game rfl (.tmp 0) rfl a rfl ?_; intro w1 hgA hz1 hf1) | (refine box_game rfl (.tmp 1) rfl b rfl ?_; intro w2 hgB hz2 hf2))
  refine wp_region_lit ?_
  rw [hz1] at hgB
  have hgA := hgA.fr hf2 (by simp)
  have hF := hf1.trans hf2
  (try rw [hz1])
  clear hz1 hz2 hf1 hf2
  generalize hB : w.heap.size = B at *
  have HB := Lib.hid hB
  clear hB
  refine wpList_do (v := .pointer (some ⟨B, 0, none⟩)) rfl (by go_simp) ?_
  simp only [Act.put, List.setIfInBounds_toArray, List.set_cons_zero, List.set_cons_succ]
  refine wpList_do (v := .string a.name) rfl (by have c := HX.out _ _ hgA 0 _ rfl; go_simp) ?_
  simp only [Act.put, List.setIfInBounds_toArray, List.set_cons_zero, List.set_cons_succ]
  refine wpList_do (v := .pointer (some ⟨B + 1, 0, none⟩)) rfl (by go_simp) ?_
  simp only [Act.put, List.setIfInBounds_toArray, List.set_cons_zero, List.set_cons_succ]
  refine wpList_do (v := .string b.name) rfl (by have c := HY.out _ _ hgB 0 _ rfl; go_simp) ?_
  simp only [Act.put, List.setIfInBounds_toArray, List.set_cons_zero, List.set_cons_succ]
  refine wpList_do (v := .bool (a.name.toList == b.name.toList)) rfl (by go_simp) ?_
  simp only [Act.put, List.setIfInBounds_toArray, List.set_cons_zero, List.set_cons_succ]
  obtain ⟨G0, hg⟩ : ∃ g, g = (a.name.toList == b.name.toList) := ⟨_, rfl⟩
  rw [← hg]
  have HG0 := Lib.hid hg
  clear hg
  refine wpList_do (v := .bool G0) rfl (by go_simp) ?_
  simp only [Act.put, List.setIfInBounds_toArray, List.set_cons_zero, List.set_cons_succ]
  refine wpList_if (G := G0) (v := .pointer (some ⟨B, 1, none⟩)) (by cases G0 <;> rfl) (fun hG => by subst hG; (try simp only [cond_true]); go_simp) ?_
  simp only [Act.put, List.setIfInBounds_toArray, List.set_cons_zero, List.set_cons_succ]
  refine wpList_if (G := G0) (v := .int .i64 a.kind) (by cases G0 <;> rfl) (fun hG => by subst hG; (try simp only [cond_true]); have c := HX.out _ _ hgA 1 _ rfl; go_simp) ?_
  simp only [Act.put, List.setIfInBounds_toArray, List.set_cons_zero, List.set_cons_succ]
  refine wpList_if (G := G0) (v := .pointer (some ⟨B + 1, 1, none⟩)) (by cases G0 <;> rfl) (fun hG => by subst hG; (try simp only [cond_true]); go_simp) ?_
  simp only [Act.put, List.setIfInBounds_toArray, List.set_cons_zero, List.set_cons_succ]
  refine wpList_if (G := G0) (v := .int .i64 b.kind) (by cases G0 <;> rfl) (fun hG => by subst hG; (try simp only [cond_true]); have c := HY.out _ _ hgB 1 _ rfl; go_simp) ?_
  simp only [Act.put, List.setIfInBounds_toArray, List.set_cons_zero, List.set_cons_succ]
  refine wpList_if (G := G0) (v := .bool (a.kind == b.kind)) (by cases G0 <;> rfl) (fun hG => by subst hG; (try simp only [cond_true]); go_simp) ?_
  simp only [Act.put, List.setIfInBounds_toArray, List.set_cons_zero, List.set_cons_succ]
  obtain ⟨G1, hg⟩ : ∃ g, g = (G0 && (a.kind == b.kind)) := ⟨_, rfl⟩
  refine wpList_do (v := .bool G1) rfl (by subst hg; cases G0 <;> (try simp only [cond_true, cond_false]) <;> go_simp) ?_
  simp only [Act.put, List.setIfInBounds_toArray, List.set_cons_zero, List.set_cons_succ]
  have HG1 := Lib.hid hg
  clear hg
  refine wpList_do (v := .bool G1) rfl (by go_simp) ?_
  simp only [Act.put, List.setIfInBounds_toArray, List.set_cons_zero, List.set_cons_succ]
  refine wpList_if (G := G1) (v := .pointer (some ⟨B, 2, none⟩)) (by cases G1 <;> rfl) (fun hG => by subst hG; (try simp only [cond_true]); go_simp) ?_
  simp only [Act.put, List.setIfInBounds_toArray, List.set_cons_zero, List.set_cons_succ]
  refine wpList_if (G := G1) (v := .int .i64 a.price) (by cases G1 <;> rfl) (fun hG => by subst hG; (try simp only [cond_true]); have c := HX.out _ _ hgA 2 _ rfl; go_simp) ?_
  simp only [Act.put, List.setIfInBounds_toArray, List.set_cons_zero, List.set_cons_succ]
  refine wpList_if (G := G1) (v := .pointer (some ⟨B + 1, 2, none⟩)) (by cases G1 <;> rfl) (fun hG => by subst hG; (try simp only [cond_true]); go_simp) ?_
  simp only [Act.put, List.setIfInBounds_toArray, List.set_cons_zero, List.set_cons_succ]
  refine wpList_if (G := G1) (v := .int .i64 b.price) (by cases G1 <;> rfl) (fun hG => by subst hG; (try simp only [cond_true]); have c := HY.out _ _ hgB 2 _ rfl; go_simp) ?_
  simp only [Act.put, List.setIfInBounds_toArray, List.set_cons_zero, List.set_cons_succ]
  refine wpList_if (G := G1) (v := .bool (a.price == b.price)) (by cases G1 <;> rfl) (fun hG => by subst hG; (try simp only [cond_true]); go_simp) ?_
  simp only [Act.put, List.setIfInBounds_toArray, List.set_cons_zero, List.set_cons_succ]
  obtain ⟨G2, hg⟩ : ∃ g, g = (G1 && (a.price == b.price)) := ⟨_, rfl⟩
  refine wpList_do (v := .bool G2) rfl (by subst hg; cases G1 <;> (try simp only [cond_true, cond_false]) <;> go_simp) ?_
  simp only [Act.put, List.setIfInBounds_toArray, List.set_cons_zero, List.set_cons_succ]
  have HG2 := Lib.hid hg
  clear hg
  refine wpList_do (v := .bool G2) rfl (by go_simp) ?_
  simp only [Act.put, List.setIfInBounds_toArray, List.set_cons_zero, List.set_cons_succ]
  refine wpList_if (G := G2) (v := .pointer (some ⟨B, 3, none⟩)) (by cases G2 <;> rfl) (fun hG => by subst hG; (try simp only [cond_true]); go_simp) ?_
  simp only [Act.put, List.setIfInBounds_toArray, List.set_cons_zero, List.set_cons_succ]
  refine wpList_if (G := G2) (v := .int .i64 a.main) (by cases G2 <;> rfl) (fun hG => by subst hG; (try simp only [cond_true]); have c := HX.out _ _ hgA 3 _ rfl; go_simp) ?_
  simp only [Act.put, List.setIfInBounds_toArray, List.set_cons_zero, List.set_cons_succ]
  refine wpList_if (G := G2) (v := .pointer (some ⟨B + 1, 3, none⟩)) (by cases G2 <;> rfl) (fun hG => by subst hG; (try simp only [cond_true]); go_simp) ?_
  simp only [Act.put, List.setIfInBounds_toArray, List.set_cons_zero, List.set_cons_succ]
  refine wpList_if (G := G2) (v := .int .i64 b.main) (by cases G2 <;> rfl) (fun hG => by subst hG; (try simp only [cond_true]); have c := HY.out _ _ hgB 3 _ rfl; go_simp) ?_
  simp only [Act.put, List.setIfInBounds_toArray, List.set_cons_zero, List.set_cons_succ]
  refine wpList_if (G := G2) (v := .bool (a.main == b.main)) (by cases G2 <;> rfl) (fun hG => by subst hG; (try simp only [cond_true]); go_simp) ?_
  simp only [Act.put, List.setIfInBounds_toArray, List.set_cons_zero, List.set_cons_succ]
  obtain ⟨G3, hg⟩ : ∃ g, g = (G2 && (a.main == b.main)) := ⟨_, rfl⟩
  refine wpList_do (v := .bool G3) rfl (by subst hg; cases G2 <;> (try simp only [cond_true, cond_false]) <;> go_simp) ?_
  simp only [Act.put, List.setIfInBounds_toArray, List.set_cons_zero, List.set_cons_succ]
  have HG3 := Lib.hid hg
  clear hg
  refine wpList_do (v := .bool G3) rfl (by go_simp) ?_
  simp only [Act.put, List.setIfInBounds_toArray, List.set_cons_zero, List.set_cons_succ]
  refine wpList_if (G := G3) (v := .pointer (some ⟨B, 4, none⟩)) (by cases G3 <;> rfl) (fun hG => by subst hG; (try simp only [cond_true]); go_simp) ?_
  simp only [Act.put, List.setIfInBounds_toArray, List.set_cons_zero, List.set_cons_succ]
  refine wpList_if (G := G3) (v := .int .i64 a.of_) (by cases G3 <;> rfl) (fun hG => by subst hG; (try simp only [cond_true]); have c := HX.out _ _ hgA 4 _ rfl; go_simp) ?_
  simp only [Act.put, List.setIfInBounds_toArray, List.set_cons_zero, List.set_cons_succ]
  refine wpList_if (G := G3) (v := .pointer (some ⟨B + 1, 4, none⟩)) (by cases G3 <;> rfl) (fun hG => by subst hG; (try simp only [cond_true]); go_simp) ?_
  simp only [Act.put, List.setIfInBounds_toArray, List.set_cons_zero, List.set_cons_succ]
  refine wpList_if (G := G3) (v := .int .i64 b.of_) (by cases G3 <;> rfl) (fun hG => by subst hG; (try simp only [cond_true]); have c := HY.out _ _ hgB 4 _ rfl; go_simp) ?_
  simp only [Act.put, List.setIfInBounds_toArray, List.set_cons_zero, List.set_cons_succ]
  refine wpList_if (G := G3) (v := .bool (a.of_ == b.of_)) (by cases G3 <;> rfl) (fun hG => by subst hG; (try simp only [cond_true]); go_simp) ?_
  simp only [Act.put, List.setIfInBounds_toArray, List.set_cons_zero, List.set_cons_succ]
  obtain ⟨G4, hg⟩ : ∃ g, g = (G3 && (a.of_ == b.of_)) := ⟨_, rfl⟩
  refine wpList_do (v := .bool G4) rfl (by subst hg; cases G3 <;> (try simp only [cond_true, cond_false]) <;> go_simp) ?_
  simp only [Act.put, List.setIfInBounds_toArray, List.set_cons_zero, List.set_cons_succ]
  have HG4 := Lib.hid hg
  clear hg
  refine wpList_do (v := .bool G4) rfl (by go_simp) ?_
  simp only [Act.put, List.setIfInBounds_toArray, List.set_cons_zero, List.set_cons_succ]
  refine wpList_if (G := G4) (v := .pointer (some ⟨B, 5, none⟩)) (by cases G4 <;> rfl) (fun hG => by subst hG; (try simp only [cond_true]); go_simp) ?_
  simp only [Act.put, List.setIfInBounds_toArray, List.set_cons_zero, List.set_cons_succ]
  refine wpList_if (G := G4) (v := .int .i64 a.bonus) (by cases G4 <;> rfl) (fun hG => by subst hG; (try simp only [cond_true]); have c := HX.out _ _ hgA 5 _ rfl; go_simp) ?_
  simp only [Act.put, List.setIfInBounds_toArray, List.set_cons_zero, List.set_cons_succ]
  refine wpList_if (G := G4) (v := .pointer (some ⟨B + 1, 5, none⟩)) (by cases G4 <;> rfl) (fun hG => by subst hG; (try simp only [cond_true]); go_simp) ?_
  simp only [Act.put, List.setIfInBounds_toArray, List.set_cons_zero, List.set_cons_succ]
  refine wpList_if (G := G4) (v := .int .i64 b.bonus) (by cases G4 <;> rfl) (fun hG => by subst hG; (try simp only [cond_true]); have c := HY.out _ _ hgB 5 _ rfl; go_simp) ?_
  simp only [Act.put, List.setIfInBounds_toArray, List.set_cons_zero, List.set_cons_succ]
  refine wpList_if (G := G4) (v := .bool (a.bonus == b.bonus)) (by cases G4 <;> rfl) (fun hG => by subst hG; (try simp only [cond_true]); go_simp) ?_
  simp only [Act.put, List.setIfInBounds_toArray, List.set_cons_zero, List.set_cons_succ]
  obtain ⟨G5, hg⟩ : ∃ g, g = (G4 && (a.bonus == b.bonus)) := ⟨_, rfl⟩
  refine wpList_do (v := .bool G5) rfl (by subst hg; cases G4 <;> (try simp only [cond_true, cond_false]) <;> go_simp) ?_
  simp only [Act.put, List.setIfInBounds_toArray, List.set_cons_zero, List.set_cons_succ]
  have HG5 := Lib.hid hg
  clear hg
  refine wpList_do (v := .bool G5) rfl (by go_simp) ?_
  simp only [Act.put, List.setIfInBounds_toArray, List.set_cons_zero, List.set_cons_succ]
  refine wpList_if (G := G5) (v := .pointer (some ⟨B, 6, none⟩)) (by cases G5 <;> rfl) (fun hG => by subst hG; (try simp only [cond_true]); go_simp) ?_
  simp only [Act.put, List.setIfInBounds_toArray, List.set_cons_zero, List.set_cons_succ]
  refine wpList_if (G := G5) (v := .int .i64 a.bonusof) (by cases G5 <;> rfl) (fun hG => by subst hG; (try simp only [cond_true]); have c := HX.out _ _ hgA 6 _ rfl; go_simp) ?_
  simp only [Act.put, List.setIfInBounds_toArray, List.set_cons_zero, List.set_cons_succ]
  refine wpList_if (G := G5) (v := .pointer (some ⟨B + 1, 6, none⟩)) (by cases G5 <;> rfl) (fun hG => by subst hG; (try simp only [cond_true]); go_simp) ?_
  simp only [Act.put, List.setIfInBounds_toArray, List.set_cons_zero, List.set_cons_succ]
  refine wpList_if (G := G5) (v := .int .i64 b.bonusof) (by cases G5 <;> rfl) (fun hG => by subst hG; (try simp only [cond_true]); have c := HY.out _ _ hgB 6 _ rfl; go_simp) ?_
  simp only [Act.put, List.setIfInBounds_toArray, List.set_cons_zero, List.set_cons_succ]
  refine wpList_if (G := G5) (v := .bool (a.bonusof == b.bonusof)) (by cases G5 <;> rfl) (fun hG => by subst hG; (try simp only [cond_true]); go_simp) ?_
  simp only [Act.put, List.setIfInBounds_toArray, List.set_cons_zero, List.set_cons_succ]
  obtain ⟨G6, hg⟩ : ∃ g, g = (G5 && (a.bonusof == b.bonusof)) := ⟨_, rfl⟩
  refine wpList_do (v := .bool G6) rfl (by subst hg; cases G5 <;> (try simp only [cond_true, cond_false]) <;> go_simp) ?_
  simp only [Act.put, List.setIfInBounds_toArray, List.set_cons_zero, List.set_cons_succ]
  have HG6 := Lib.hid hg
  clear hg
  refine wpList_do (v := .bool G6) rfl (by go_simp) ?_
  simp only [Act.put, List.setIfInBounds_toArray, List.set_cons_zero, List.set_cons_succ]
  refine wpList_if (G := G6) (v := .pointer (some ⟨B, 7, none⟩)) (by cases G6 <;> rfl) (fun hG => by subst hG; (try simp only [cond_true]); go_simp) ?_
  simp only [Act.put, List.setIfInBounds_toArray, List.set_cons_zero, List.set_cons_succ]
  refine wpList_if (G := G6) (v := .int .i64 a.extra) (by cases G6 <;> rfl) (fun hG => by subst hG; (try simp only [cond_true]); have c := HX.out _ _ hgA 7 _ rfl; go_simp) ?_
  simp only [Act.put, List.setIfInBounds_toArray, List.set_cons_zero, List.set_cons_succ]
  refine wpList_if (G := G6) (v := .pointer (some ⟨B + 1, 7, none⟩)) (by cases G6 <;> rfl) (fun hG => by subst hG; (try simp only [cond_true]); go_simp) ?_
  simp only [Act.put, List.setIfInBounds_toArray, List.set_cons_zero, List.set_cons_succ]
  refine wpList_if (G := G6) (v := .int .i64 b.extra) (by cases G6 <;> rfl) (fun hG => by subst hG; (try simp only [cond_true]); have c := HY.out _ _ hgB 7 _ rfl; go_simp) ?_
  simp only [Act.put, List.setIfInBounds_toArray, List.set_cons_zero, List.set_cons_succ]
  refine wpList_if (G := G6) (v := .bool (a.extra == b.extra)) (by cases G6 <;> rfl) (fun hG => by subst hG; (try simp only [cond_true]); go_simp) ?_
  simp only [Act.put, List.setIfInBounds_toArray, List.set_cons_zero, List.set_cons_succ]
  obtain ⟨G7, hg⟩ : ∃ g, g = (G6 && (a.extra == b.extra)) := ⟨_, rfl⟩
  refine wpList_do (v := .bool G7) rfl (by subst hg; cases G6 <;> (try simp only [cond_true, cond_false]) <;> go_simp) ?_
  simp only [Act.put, List.setIfInBounds_toArray, List.set_cons_zero, List.set_cons_succ]
  have HG7 := Lib.hid hg
  clear hg
  refine wpList_do (v := .bool G7) rfl (by go_simp) ?_
  simp only [Act.put, List.setIfInBounds_toArray, List.set_cons_zero, List.set_cons_succ]
  refine wpList_if (G := G7) (v := .pointer (some ⟨B, 8, none⟩)) (by cases G7 <;> rfl) (fun hG => by subst hG; (try simp only [cond_true]); go_simp) ?_
  simp only [Act.put, List.setIfInBounds_toArray, List.set_cons_zero, List.set_cons_succ]
  refine wpList_if (G := G7) (v := .int .i64 a.draws) (by cases G7 <;> rfl) (fun hG => by subst hG; (try simp only [cond_true]); have c := HX.out _ _ hgA 8 _ rfl; go_simp) ?_
  simp only [Act.put, List.setIfInBounds_toArray, List.set_cons_zero, List.set_cons_succ]
  refine wpList_if (G := G7) (v := .pointer (some ⟨B + 1, 8, none⟩)) (by cases G7 <;> rfl) (fun hG => by subst hG; (try simp only [cond_true]); go_simp) ?_
  simp only [Act.put, List.setIfInBounds_toArray, List.set_cons_zero, List.set_cons_succ]
  refine wpList_if (G := G7) (v := .int .i64 b.draws) (by cases G7 <;> rfl) (fun hG => by subst hG; (try simp only [cond_true]); have c := HY.out _ _ hgB 8 _ rfl; go_simp) ?_
  simp only [Act.put, List.setIfInBounds_toArray, List.set_cons_zero, List.set_cons_succ]
  refine wpList_if (G := G7) (v := .bool (a.draws == b.draws)) (by cases G7 <;> rfl) (fun hG => by subst hG; (try simp only [cond_true]); go_simp) ?_
  simp only [Act.put, List.setIfInBounds_toArray, List.set_cons_zero, List.set_cons_succ]
  obtain ⟨G8, hg⟩ : ∃ g, g = (G7 && (a.draws == b.draws)) := ⟨_, rfl⟩
  refine wpList_do (v := .bool G8) rfl (by subst hg; cases G7 <;> (try simp only [cond_true, cond_false]) <;> go_simp) ?_
  simp only [Act.put, List.setIfInBounds_toArray, List.set_cons_zero, List.set_cons_succ]
  have HG8 := Lib.hid hg
  clear hg
  refine wpList_do (v := .bool G8) rfl (by go_simp) ?_
  simp only [Act.put, List.setIfInBounds_toArray, List.set_cons_zero, List.set_cons_succ]
  refine wpList_if (G := G8) (v := .pointer (some ⟨B, 9, none⟩)) (by cases G8 <;> rfl) (fun hG => by subst hG; (try simp only [cond_true]); go_simp) ?_
  simp only [Act.put, List.setIfInBounds_toArray, List.set_cons_zero, List.set_cons_succ]
  refine wpList_if (G := G8) (v := .int .i64 a.system) (by cases G8 <;> rfl) (fun hG => by subst hG; (try simp only [cond_true]); have c := HX.out _ _ hgA 9 _ rfl; go_simp) ?_
  simp only [Act.put, List.setIfInBounds_toArray, List.set_cons_zero, List.set_cons_succ]
  refine wpList_if (G := G8) (v := .pointer (some ⟨B + 1, 9, none⟩)) (by cases G8 <;> rfl) (fun hG => by subst hG; (try simp only [cond_true]); go_simp) ?_
  simp only [Act.put, List.setIfInBounds_toArray, List.set_cons_zero, List.set_cons_succ]
  refine wpList_if (G := G8) (v := .int .i64 b.system) (by cases G8 <;> rfl) (fun hG => by subst hG; (try simp only [cond_true]); have c := HY.out _ _ hgB 9 _ rfl; go_simp) ?_
  simp only [Act.put, List.setIfInBounds_toArray, List.set_cons_zero, List.set_cons_succ]
  refine wpList_if (G := G8) (v := .bool (a.system == b.system)) (by cases G8 <;> rfl) (fun hG => by subst hG; (try simp only [cond_true]); go_simp) ?_
  simp only [Act.put, List.setIfInBounds_toArray, List.set_cons_zero, List.set_cons_succ]
  obtain ⟨G9, hg⟩ : ∃ g, g = (G8 && (a.system == b.system)) := ⟨_, rfl⟩
  refine wpList_do (v := .bool G9) rfl (by subst hg; cases G8 <;> (try simp only [cond_true, cond_false]) <;> go_simp) ?_
  simp only [Act.put, List.setIfInBounds_toArray, List.set_cons_zero, List.set_cons_succ]
  have HG9 := Lib.hid hg
  clear hg
  refine wpList_do (v := .bool G9) rfl (by go_simp) ?_
  simp only [Act.put, List.setIfInBounds_toArray, List.set_cons_zero, List.set_cons_succ]
  refine wpList_if (G := G9) (v := .pointer (some ⟨B, 10, none⟩)) (by cases G9 <;> rfl) (fun hG => by subst hG; (try simp only [cond_true]); go_simp) ?_
  simp only [Act.put, List.setIfInBounds_toArray, List.set_cons_zero, List.set_cons_succ]
  refine wpList_if (G := G9) (v := .int .i64 a.days) (by cases G9 <;> rfl) (fun hG => by subst hG; (try simp only [cond_true]); have c := HX.out _ _ hgA 10 _ rfl; go_simp) ?_
  simp only [Act.put, List.setIfInBounds_toArray, List.set_cons_zero, List.set_cons_succ]
  refine wpList_if (G := G9) (v := .pointer (some ⟨B + 1, 10, none⟩)) (by cases G9 <;> rfl) (fun hG => by subst hG; (try simp only [cond_true]); go_simp) ?_
  simp only [Act.put, List.setIfInBounds_toArray, List.set_cons_zero, List.set_cons_succ]
  refine wpList_if (G := G9) (v := .int .i64 b.days) (by cases G9 <;> rfl) (fun hG => by subst hG; (try simp only [cond_true]); have c := HY.out _ _ hgB 10 _ rfl; go_simp) ?_
  simp only [Act.put, List.setIfInBounds_toArray, List.set_cons_zero, List.set_cons_succ]
  refine wpList_if (G := G9) (v := .bool (a.days == b.days)) (by cases G9 <;> rfl) (fun hG => by subst hG; (try simp only [cond_true]); go_simp) ?_
  simp only [Act.put, List.setIfInBounds_toArray, List.set_cons_zero, List.set_cons_succ]
  obtain ⟨G10, hg⟩ : ∃ g, g = (G9 && (a.days == b.days)) := ⟨_, rfl⟩
  refine wpList_do (v := .bool G10) rfl (by subst hg; cases G9 <;> (try simp only [cond_true, cond_false]) <;> go_simp) ?_
  simp only [Act.put, List.setIfInBounds_toArray, List.set_cons_zero, List.set_cons_succ]
  have HG10 := Lib.hid hg
  clear hg
  refine wpList_do (v := .bool G10) rfl (by go_simp) ?_
  simp only [Act.put, List.setIfInBounds_toArray, List.set_cons_zero, List.set_cons_succ]
  refine wpList_if (G := G10) (v := .pointer (some ⟨B, 11, none⟩)) (by cases G10 <;> rfl) (fun hG => by subst hG; (try simp only [cond_true]); go_simp) ?_
  simp only [Act.put, List.setIfInBounds_toArray, List.set_cons_zero, List.set_cons_succ]
  refine wpList_if (G := G10) (v := .int .i64 a.at_) (by cases G10 <;> rfl) (fun hG => by subst hG; (try simp only [cond_true]); have c := HX.out _ _ hgA 11 _ rfl; go_simp) ?_
  simp only [Act.put, List.setIfInBounds_toArray, List.set_cons_zero, List.set_cons_succ]
  refine wpList_if (G := G10) (v := .pointer (some ⟨B + 1, 11, none⟩)) (by cases G10 <;> rfl) (fun hG => by subst hG; (try simp only [cond_true]); go_simp) ?_
  simp only [Act.put, List.setIfInBounds_toArray, List.set_cons_zero, List.set_cons_succ]
  refine wpList_if (G := G10) (v := .int .i64 b.at_) (by cases G10 <;> rfl) (fun hG => by subst hG; (try simp only [cond_true]); have c := HY.out _ _ hgB 11 _ rfl; go_simp) ?_
  simp only [Act.put, List.setIfInBounds_toArray, List.set_cons_zero, List.set_cons_succ]
  refine wpList_if (G := G10) (v := .bool (a.at_ == b.at_)) (by cases G10 <;> rfl) (fun hG => by subst hG; (try simp only [cond_true]); go_simp) ?_
  simp only [Act.put, List.setIfInBounds_toArray, List.set_cons_zero, List.set_cons_succ]
  obtain ⟨G11, hg⟩ : ∃ g, g = (G10 && (a.at_ == b.at_)) := ⟨_, rfl⟩
  refine wpList_do (v := .bool G11) rfl (by subst hg; cases G10 <;> (try simp only [cond_true, cond_false]) <;> go_simp) ?_
  simp only [Act.put, List.setIfInBounds_toArray, List.set_cons_zero, List.set_cons_succ]
  have HG11 := Lib.hid hg
  clear hg
  refine wpList_do (v := .bool G11) rfl (by go_simp) ?_
  simp only [Act.put, List.setIfInBounds_toArray, List.set_cons_zero, List.set_cons_succ]
  refine wpList_if (G := G11) (v := .pointer (some ⟨B, 12, none⟩)) (by cases G11 <;> rfl) (fun hG => by subst hG; (try simp only [cond_true]); go_simp) ?_
  simp only [Act.put, List.setIfInBounds_toArray, List.set_cons_zero, List.set_cons_succ]
  refine wpList_if (G := G11) (v := .int .i64 a.close) (by cases G11 <;> rfl) (fun hG => by subst hG; (try simp only [cond_true]); have c := HX.out _ _ hgA 12 _ rfl; go_simp) ?_
  simp only [Act.put, List.setIfInBounds_toArray, List.set_cons_zero, List.set_cons_succ]
  refine wpList_if (G := G11) (v := .pointer (some ⟨B + 1, 12, none⟩)) (by cases G11 <;> rfl) (fun hG => by subst hG; (try simp only [cond_true]); go_simp) ?_
  simp only [Act.put, List.setIfInBounds_toArray, List.set_cons_zero, List.set_cons_succ]
  refine wpList_if (G := G11) (v := .int .i64 b.close) (by cases G11 <;> rfl) (fun hG => by subst hG; (try simp only [cond_true]); have c := HY.out _ _ hgB 12 _ rfl; go_simp) ?_
  simp only [Act.put, List.setIfInBounds_toArray, List.set_cons_zero, List.set_cons_succ]
  refine wpList_if (G := G11) (v := .bool (a.close == b.close)) (by cases G11 <;> rfl) (fun hG => by subst hG; (try simp only [cond_true]); go_simp) ?_
  simp only [Act.put, List.setIfInBounds_toArray, List.set_cons_zero, List.set_cons_succ]
  obtain ⟨G12, hg⟩ : ∃ g, g = (G11 && (a.close == b.close)) := ⟨_, rfl⟩
  refine wpList_do (v := .bool G12) rfl (by subst hg; cases G11 <;> (try simp only [cond_true, cond_false]) <;> go_simp) ?_
  simp only [Act.put, List.setIfInBounds_toArray, List.set_cons_zero, List.set_cons_succ]
  have HG12 := Lib.hid hg
  clear hg
  refine wpList_do (v := .bool G12) rfl (by go_simp) ?_
  simp only [Act.put, List.setIfInBounds_toArray, List.set_cons_zero, List.set_cons_succ]
  refine wpList_if (G := G12) (v := .pointer (some ⟨B, 13, none⟩)) (by cases G12 <;> rfl) (fun hG => by subst hG; (try simp only [cond_true]); go_simp) ?_
  simp only [Act.put, List.setIfInBounds_toArray, List.set_cons_zero, List.set_cons_succ]
  refine wpList_if (G := G12) (v := .int .i64 a.cancel) (by cases G12 <;> rfl) (fun hG => by subst hG; (try simp only [cond_true]); have c := HX.out _ _ hgA 13 _ rfl; go_simp) ?_
  simp only [Act.put, List.setIfInBounds_toArray, List.set_cons_zero, List.set_cons_succ]
  refine wpList_if (G := G12) (v := .pointer (some ⟨B + 1, 13, none⟩)) (by cases G12 <;> rfl) (fun hG => by subst hG; (try simp only [cond_true]); go_simp) ?_
  simp only [Act.put, List.setIfInBounds_toArray, List.set_cons_zero, List.set_cons_succ]
  refine wpList_if (G := G12) (v := .int .i64 b.cancel) (by cases G12 <;> rfl) (fun hG => by subst hG; (try simp only [cond_true]); have c := HY.out _ _ hgB 13 _ rfl; go_simp) ?_
  simp only [Act.put, List.setIfInBounds_toArray, List.set_cons_zero, List.set_cons_succ]
  refine wpList_if (G := G12) (v := .bool (a.cancel == b.cancel)) (by cases G12 <;> rfl) (fun hG => by subst hG; (try simp only [cond_true]); go_simp) ?_
  simp only [Act.put, List.setIfInBounds_toArray, List.set_cons_zero, List.set_cons_succ]
  obtain ⟨G13, hg⟩ : ∃ g, g = (G12 && (a.cancel == b.cancel)) := ⟨_, rfl⟩
  refine wpList_do (v := .bool G13) rfl (by subst hg; cases G12 <;> (try simp only [cond_true, cond_false]) <;> go_simp) ?_
  simp only [Act.put, List.setIfInBounds_toArray, List.set_cons_zero, List.set_cons_succ]
  have HG13 := Lib.hid hg
  clear hg
  refine wpList_do (v := .bool G13) rfl (by go_simp) ?_
  simp only [Act.put, List.setIfInBounds_toArray, List.set_cons_zero, List.set_cons_succ]
  refine wpList_if (G := G13) (v := .pointer (some ⟨B, 14, none⟩)) (by cases G13 <;> rfl) (fun hG => by subst hG; (try simp only [cond_true]); go_simp) ?_
  simp only [Act.put, List.setIfInBounds_toArray, List.set_cons_zero, List.set_cons_succ]
  refine wpList_if (G := G13) (v := .int .i64 a.expiry) (by cases G13 <;> rfl) (fun hG => by subst hG; (try simp only [cond_true]); have c := HX.out _ _ hgA 14 _ rfl; go_simp) ?_
  simp only [Act.put, List.setIfInBounds_toArray, List.set_cons_zero, List.set_cons_succ]
  refine wpList_if (G := G13) (v := .pointer (some ⟨B + 1, 14, none⟩)) (by cases G13 <;> rfl) (fun hG => by subst hG; (try simp only [cond_true]); go_simp) ?_
  simp only [Act.put, List.setIfInBounds_toArray, List.set_cons_zero, List.set_cons_succ]
  refine wpList_if (G := G13) (v := .int .i64 b.expiry) (by cases G13 <;> rfl) (fun hG => by subst hG; (try simp only [cond_true]); have c := HY.out _ _ hgB 14 _ rfl; go_simp) ?_
  simp only [Act.put, List.setIfInBounds_toArray, List.set_cons_zero, List.set_cons_succ]
  refine wpList_if (G := G13) (v := .bool (a.expiry == b.expiry)) (by cases G13 <;> rfl) (fun hG => by subst hG; (try simp only [cond_true]); go_simp) ?_
  simp only [Act.put, List.setIfInBounds_toArray, List.set_cons_zero, List.set_cons_succ]
  obtain ⟨G14, hg⟩ : ∃ g, g = (G13 && (a.expiry == b.expiry)) := ⟨_, rfl⟩
  refine wpList_do (v := .bool G14) rfl (by subst hg; cases G13 <;> (try simp only [cond_true, cond_false]) <;> go_simp) ?_
  simp only [Act.put, List.setIfInBounds_toArray, List.set_cons_zero, List.set_cons_succ]
  have HG14 := Lib.hid hg
  clear hg
  refine wpList_do (v := .bool G14) rfl (by go_simp) ?_
  simp only [Act.put, List.setIfInBounds_toArray, List.set_cons_zero, List.set_cons_succ]
  refine wpList_if (G := G14) (v := .pointer (some ⟨B, 15, none⟩)) (by cases G14 <;> rfl) (fun hG => by subst hG; (try simp only [cond_true]); go_simp) ?_
  simp only [Act.put, List.setIfInBounds_toArray, List.set_cons_zero, List.set_cons_succ]
  refine wpList_if (G := G14) (v := .int .i64 a.pool) (by cases G14 <;> rfl) (fun hG => by subst hG; (try simp only [cond_true]); have c := HX.out _ _ hgA 15 _ rfl; go_simp) ?_
  simp only [Act.put, List.setIfInBounds_toArray, List.set_cons_zero, List.set_cons_succ]
  refine wpList_if (G := G14) (v := .pointer (some ⟨B + 1, 15, none⟩)) (by cases G14 <;> rfl) (fun hG => by subst hG; (try simp only [cond_true]); go_simp) ?_
  simp only [Act.put, List.setIfInBounds_toArray, List.set_cons_zero, List.set_cons_succ]
  refine wpList_if (G := G14) (v := .int .i64 b.pool) (by cases G14 <;> rfl) (fun hG => by subst hG; (try simp only [cond_true]); have c := HY.out _ _ hgB 15 _ rfl; go_simp) ?_
  simp only [Act.put, List.setIfInBounds_toArray, List.set_cons_zero, List.set_cons_succ]
  refine wpList_if (G := G14) (v := .bool (a.pool == b.pool)) (by cases G14 <;> rfl) (fun hG => by subst hG; (try simp only [cond_true]); go_simp) ?_
  simp only [Act.put, List.setIfInBounds_toArray, List.set_cons_zero, List.set_cons_succ]
  obtain ⟨G15, hg⟩ : ∃ g, g = (G14 && (a.pool == b.pool)) := ⟨_, rfl⟩
  refine wpList_do (v := .bool G15) rfl (by subst hg; cases G14 <;> (try simp only [cond_true, cond_false]) <;> go_simp) ?_
  simp only [Act.put, List.setIfInBounds_toArray, List.set_cons_zero, List.set_cons_succ]
  have HG15 := Lib.hid hg
  clear hg
  refine wpList_do (v := .bool G15) rfl (by go_simp) ?_
  simp only [Act.put, List.setIfInBounds_toArray, List.set_cons_zero, List.set_cons_succ]
  refine wpList_if (G := G15) (v := .pointer (some ⟨B, 16, none⟩)) (by cases G15 <;> rfl) (fun hG => by subst hG; (try simp only [cond_true]); go_simp) ?_
  simp only [Act.put, List.setIfInBounds_toArray, List.set_cons_zero, List.set_cons_succ]
  refine wpList_if (G := G15) (v := .int .i64 a.reserve) (by cases G15 <;> rfl) (fun hG => by subst hG; (try simp only [cond_true]); have c := HX.out _ _ hgA 16 _ rfl; go_simp) ?_
  simp only [Act.put, List.setIfInBounds_toArray, List.set_cons_zero, List.set_cons_succ]
  refine wpList_if (G := G15) (v := .pointer (some ⟨B + 1, 16, none⟩)) (by cases G15 <;> rfl) (fun hG => by subst hG; (try simp only [cond_true]); go_simp) ?_
  simp only [Act.put, List.setIfInBounds_toArray, List.set_cons_zero, List.set_cons_succ]
  refine wpList_if (G := G15) (v := .int .i64 b.reserve) (by cases G15 <;> rfl) (fun hG => by subst hG; (try simp only [cond_true]); have c := HY.out _ _ hgB 16 _ rfl; go_simp) ?_
  simp only [Act.put, List.setIfInBounds_toArray, List.set_cons_zero, List.set_cons_succ]
  refine wpList_if (G := G15) (v := .bool (a.reserve == b.reserve)) (by cases G15 <;> rfl) (fun hG => by subst hG; (try simp only [cond_true]); go_simp) ?_
  simp only [Act.put, List.setIfInBounds_toArray, List.set_cons_zero, List.set_cons_succ]
  obtain ⟨G16, hg⟩ : ∃ g, g = (G15 && (a.reserve == b.reserve)) := ⟨_, rfl⟩
  refine wpList_do (v := .bool G16) rfl (by subst hg; cases G15 <;> (try simp only [cond_true, cond_false]) <;> go_simp) ?_
  simp only [Act.put, List.setIfInBounds_toArray, List.set_cons_zero, List.set_cons_succ]
  have HG16 := Lib.hid hg
  clear hg
  refine wpList_do (v := .bool G16) rfl (by go_simp) ?_
  simp only [Act.put, List.setIfInBounds_toArray, List.set_cons_zero, List.set_cons_succ]
  refine wpList_if (G := G16) (v := .pointer (some ⟨B, 17, none⟩)) (by cases G16 <;> rfl) (fun hG => by subst hG; (try simp only [cond_true]); go_simp) ?_
  simp only [Act.put, List.setIfInBounds_toArray, List.set_cons_zero, List.set_cons_succ]
  refine wpList_if (G := G16) (v := .int .i64 a.round) (by cases G16 <;> rfl) (fun hG => by subst hG; (try simp only [cond_true]); have c := HX.out _ _ hgA 17 _ rfl; go_simp) ?_
  simp only [Act.put, List.setIfInBounds_toArray, List.set_cons_zero, List.set_cons_succ]
  refine wpList_if (G := G16) (v := .pointer (some ⟨B + 1, 17, none⟩)) (by cases G16 <;> rfl) (fun hG => by subst hG; (try simp only [cond_true]); go_simp) ?_
  simp only [Act.put, List.setIfInBounds_toArray, List.set_cons_zero, List.set_cons_succ]
  refine wpList_if (G := G16) (v := .int .i64 b.round) (by cases G16 <;> rfl) (fun hG => by subst hG; (try simp only [cond_true]); have c := HY.out _ _ hgB 17 _ rfl; go_simp) ?_
  simp only [Act.put, List.setIfInBounds_toArray, List.set_cons_zero, List.set_cons_succ]
  refine wpList_if (G := G16) (v := .bool (a.round == b.round)) (by cases G16 <;> rfl) (fun hG => by subst hG; (try simp only [cond_true]); go_simp) ?_
  simp only [Act.put, List.setIfInBounds_toArray, List.set_cons_zero, List.set_cons_succ]
  obtain ⟨G17, hg⟩ : ∃ g, g = (G16 && (a.round == b.round)) := ⟨_, rfl⟩
  refine wpList_do (v := .bool G17) rfl (by subst hg; cases G16 <;> (try simp only [cond_true, cond_false]) <;> go_simp) ?_
  simp only [Act.put, List.setIfInBounds_toArray, List.set_cons_zero, List.set_cons_succ]
  have HG17 := Lib.hid hg
  clear hg
  refine wpList_do (v := .bool G17) rfl (by go_simp) ?_
  simp only [Act.put, List.setIfInBounds_toArray, List.set_cons_zero, List.set_cons_succ]
  refine wpList_if (G := G17) (v := .pointer (some ⟨B, 18, none⟩)) (by cases G17 <;> rfl) (fun hG => by subst hG; (try simp only [cond_true]); go_simp) ?_
  simp only [Act.put, List.setIfInBounds_toArray, List.set_cons_zero, List.set_cons_succ]
  refine wpList_if (G := G17) (v := .int .i64 a.cap) (by cases G17 <;> rfl) (fun hG => by subst hG; (try simp only [cond_true]); have c := HX.out _ _ hgA 18 _ rfl; go_simp) ?_
  simp only [Act.put, List.setIfInBounds_toArray, List.set_cons_zero, List.set_cons_succ]
  refine wpList_if (G := G17) (v := .pointer (some ⟨B + 1, 18, none⟩)) (by cases G17 <;> rfl) (fun hG => by subst hG; (try simp only [cond_true]); go_simp) ?_
  simp only [Act.put, List.setIfInBounds_toArray, List.set_cons_zero, List.set_cons_succ]
  refine wpList_if (G := G17) (v := .int .i64 b.cap) (by cases G17 <;> rfl) (fun hG => by subst hG; (try simp only [cond_true]); have c := HY.out _ _ hgB 18 _ rfl; go_simp) ?_
  simp only [Act.put, List.setIfInBounds_toArray, List.set_cons_zero, List.set_cons_succ]
  refine wpList_if (G := G17) (v := .bool (a.cap == b.cap)) (by cases G17 <;> rfl) (fun hG => by subst hG; (try simp only [cond_true]); go_simp) ?_
  simp only [Act.put, List.setIfInBounds_toArray, List.set_cons_zero, List.set_cons_succ]
  obtain ⟨G18, hg⟩ : ∃ g, g = (G17 && (a.cap == b.cap)) := ⟨_, rfl⟩
  refine wpList_do (v := .bool G18) rfl (by subst hg; cases G17 <;> (try simp only [cond_true, cond_false]) <;> go_simp) ?_
  simp only [Act.put, List.setIfInBounds_toArray, List.set_cons_zero, List.set_cons_succ]
  have HG18 := Lib.hid hg
  clear hg
  refine wpList_do (v := .bool G18) rfl (by go_simp) ?_
  simp only [Act.put, List.setIfInBounds_toArray, List.set_cons_zero, List.set_cons_succ]
  refine wpList_if (G := G18) (v := .pointer (some ⟨B, 19, none⟩)) (by cases G18 <;> rfl) (fun hG => by subst hG; (try simp only [cond_true]); go_simp) ?_
  simp only [Act.put, List.setIfInBounds_toArray, List.set_cons_zero, List.set_cons_succ]
  refine wpList_if (G := G18) (v := .int .i64 a.rolls) (by cases G18 <;> rfl) (fun hG => by subst hG; (try simp only [cond_true]); have c := HX.out _ _ hgA 19 _ rfl; go_simp) ?_
  simp only [Act.put, List.setIfInBounds_toArray, List.set_cons_zero, List.set_cons_succ]
  refine wpList_if (G := G18) (v := .pointer (some ⟨B + 1, 19, none⟩)) (by cases G18 <;> rfl) (fun hG => by subst hG; (try simp only [cond_true]); go_simp) ?_
  simp only [Act.put, List.setIfInBounds_toArray, List.set_cons_zero, List.set_cons_succ]
  refine wpList_if (G := G18) (v := .int .i64 b.rolls) (by cases G18 <;> rfl) (fun hG => by subst hG; (try simp only [cond_true]); have c := HY.out _ _ hgB 19 _ rfl; go_simp) ?_
  simp only [Act.put, List.setIfInBounds_toArray, List.set_cons_zero, List.set_cons_succ]
  refine wpList_if (G := G18) (v := .bool (a.rolls == b.rolls)) (by cases G18 <;> rfl) (fun hG => by subst hG; (try simp only [cond_true]); go_simp) ?_
  simp only [Act.put, List.setIfInBounds_toArray, List.set_cons_zero, List.set_cons_succ]
  obtain ⟨G19, hg⟩ : ∃ g, g = (G18 && (a.rolls == b.rolls)) := ⟨_, rfl⟩
  refine wpList_do (v := .bool G19) rfl (by subst hg; cases G18 <;> (try simp only [cond_true, cond_false]) <;> go_simp) ?_
  simp only [Act.put, List.setIfInBounds_toArray, List.set_cons_zero, List.set_cons_succ]
  have HG19 := Lib.hid hg
  clear hg
  refine wpList_do (v := .bool G19) rfl (by go_simp) ?_
  simp only [Act.put, List.setIfInBounds_toArray, List.set_cons_zero, List.set_cons_succ]
  have hg : G19 = gmH a b := by rw [HG19.out, HG18.out, HG17.out, HG16.out, HG15.out, HG14.out, HG13.out, HG12.out, HG11.out, HG10.out, HG9.out, HG8.out, HG7.out, HG6.out, HG5.out, HG4.out, HG3.out, HG2.out, HG1.out, HG0.out]; rfl
  have hv := HV.out
  rw [← hg] at hv
  have HV2 := Lib.hid hv
  clear hv hg HV HG0 HG1 HG2 HG3 HG4 HG5 HG6 HG7 HG8 HG9 HG10 HG11 HG12 HG13 HG14 HG15 HG16 HG17 HG18 HG19
  cases G19
  · skip
    refine wpList_not rfl ?_
    simp only [Act.put, List.setIfInBounds_toArray, List.set_cons_zero, List.set_cons_succ]
    refine wpList_not rfl ?_
    simp only [Act.put, List.setIfInBounds_toArray, List.set_cons_zero, List.set_cons_succ]
    refine wpList_not rfl ?_
    simp only [Act.put, List.setIfInBounds_toArray, List.set_cons_zero, List.set_cons_succ]
    refine wpList_not rfl ?_
    simp only [Act.put, List.setIfInBounds_toArray, List.set_cons_zero, List.set_cons_succ]
    refine wpList_not rfl ?_
    simp only [Act.put, List.setIfInBounds_toArray, List.set_cons_zero, List.set_cons_succ]
    refine wpList_do (v := .bool false) rfl (by go_simp) ?_
    simp only [Act.put, List.setIfInBounds_toArray, List.set_cons_zero, List.set_cons_succ]
    refine wpList_do (v := .bool false) rfl (by go_simp) ?_
    simp only [Act.put, List.setIfInBounds_toArray, List.set_cons_zero, List.set_cons_succ]
    refine wpList_not rfl ?_
    simp only [Act.put, List.setIfInBounds_toArray, List.set_cons_zero, List.set_cons_succ]
    refine wpList_not rfl ?_
    simp only [Act.put, List.setIfInBounds_toArray, List.set_cons_zero, List.set_cons_succ]
    refine wpList_not rfl ?_
    simp only [Act.put, List.setIfInBounds_toArray, List.set_cons_zero, List.set_cons_succ]
    refine wpList_not rfl ?_
    simp only [Act.put, List.setIfInBounds_toArray, List.set_cons_zero, List.set_cons_succ]
    refine wpList_not rfl ?_
    simp only [Act.put, List.setIfInBounds_toArray, List.set_cons_zero, List.set_cons_succ]
    refine wpList_do (v := .bool false) rfl (by go_simp) ?_
    simp only [Act.put, List.setIfInBounds_toArray, List.set_cons_zero, List.set_cons_succ]
    refine wpList_do (v := .bool false) rfl (by go_simp) ?_
    simp only [Act.put, List.setIfInBounds_toArray, List.set_cons_zero, List.set_cons_succ]
    refine wpList_nil ?_
    go_wp2_with fail
    go_ret
    exact ⟨retb (by rw [HV2.out]; simp), hF⟩
  · skip
    refine wpList_do (v := .pointer (some ⟨B, 20, none⟩)) rfl (by go_simp) ?_
    simp only [Act.put, List.setIfInBounds_toArray, List.set_cons_zero, List.set_cons_succ]
    refine wpList_do (v := .slice a.aa a.addons.length a.ac) rfl (by have c := HX.out _ _ hgA 20 _ rfl; go_simp) ?_
    simp only [Act.put, List.setIfInBounds_toArray, List.set_cons_zero, List.set_cons_succ]
    refine wpList_do (v := .pointer (some ⟨B + 1, 20, none⟩)) rfl (by go_simp) ?_
    simp only [Act.put, List.setIfInBounds_toArray, List.set_cons_zero, List.set_cons_succ]
    refine wpList_do (v := .slice b.aa b.addons.length b.ac) rfl (by have c := HY.out _ _ hgB 20 _ rfl; go_simp) ?_
    simp only [Act.put, List.setIfInBounds_toArray, List.set_cons_zero, List.set_cons_succ]
    refine wpList_enter (f := 47) (args := #[.slice a.aa a.addons.length a.ac, .slice b.aa b.addons.length b.ac, .func (.func 48) #[] #[]]) rfl (by go_simp) ?_
    refine (HEF.out _ hF).mono ?_
    rintro e w3 ⟨rfl, f3⟩
    refine ⟨_, rfl, ?_⟩
    simp only [Act.put, List.setIfInBounds_toArray, List.set_cons_zero, List.set_cons_succ]
    have hgA := hgA.fr f3 (by simp)
    have hgB := hgB.fr f3 (by simp)
    have hF := hF.trans f3
    clear f3 HEF
    refine wpList_do (v := .bool ef) rfl (by go_simp) ?_
    simp only [Act.put, List.setIfInBounds_toArray, List.set_cons_zero, List.set_cons_succ]
    refine wpList_do (v := .bool ef) rfl (by go_simp) ?_
    simp only [Act.put, List.setIfInBounds_toArray, List.set_cons_zero, List.set_cons_succ]
    cases ef
    · skip
      refine wpList_not rfl ?_
      simp only [Act.put, List.setIfInBounds_toArray, List.set_cons_zero, List.set_cons_succ]
      refine wpList_not rfl ?_
      simp only [Act.put, List.setIfInBounds_toArray, List.set_cons_zero, List.set_cons_succ]
      refine wpList_not rfl ?_
      simp only [Act.put, List.setIfInBounds_toArray, List.set_cons_zero, List.set_cons_succ]
      refine wpList_not rfl ?_
      simp only [Act.put, List.setIfInBounds_toArray, List.set_cons_zero, List.set_cons_succ]
      refine wpList_not rfl ?_
      simp only [Act.put, List.setIfInBounds_toArray, List.set_cons_zero, List.set_cons_succ]
      refine wpList_do (v := .bool false) rfl (by go_simp) ?_
      simp only [Act.put, List.setIfInBounds_toArray, List.set_cons_zero, List.set_cons_succ]
      refine wpList_do (v := .bool false) rfl (by go_simp) ?_
      simp only [Act.put, List.setIfInBounds_toArray, List.set_cons_zero, List.set_cons_succ]
      refine wpList_nil ?_
      go_wp2_with fail
      go_ret
      exact ⟨retb (by rw [HV2.out]; simp), hF⟩
    · skip
      refine wpList_do (v := .pointer (some ⟨B, 21, none⟩)) rfl (by go_simp) ?_
      simp only [Act.put, List.setIfInBounds_toArray, List.set_cons_zero, List.set_cons_succ]
      refine wpList_do (v := .slice a.ta a.tiers.length a.tc) rfl (by have c := HX.out _ _ hgA 21 _ rfl; go_simp) ?_
      simp only [Act.put, List.setIfInBounds_toArray, List.set_cons_zero, List.set_cons_succ]
      refine wpList_do (v := .pointer (some ⟨B + 1, 21, none⟩)) rfl (by go_simp) ?_
      simp only [Act.put, List.setIfInBounds_toArray, List.set_cons_zero, List.set_cons_succ]
      refine wpList_do (v := .slice b.ta b.tiers.length b.tc) rfl (by have c := HY.out _ _ hgB 21 _ rfl; go_simp) ?_
      simp only [Act.put, List.setIfInBounds_toArray, List.set_cons_zero, List.set_cons_succ]
      refine wpList_enter (f := 49) (args := #[.slice a.ta a.tiers.length a.tc, .slice b.ta b.tiers.length b.tc]) rfl (by go_simp) ?_
      refine (HEP.out _ hF).mono ?_
      rintro e w4 ⟨rfl, f4⟩
      refine ⟨_, rfl, ?_⟩
      simp only [Act.put, List.setIfInBounds_toArray, List.set_cons_zero, List.set_cons_succ]
      have hF := hF.trans f4
      clear f4 HEP hgA hgB
      refine wpList_do (v := .bool ep) rfl (by go_simp) ?_
      simp only [Act.put, List.setIfInBounds_toArray, List.set_cons_zero, List.set_cons_succ]
      refine wpList_do (v := .bool ep) rfl (by go_simp) ?_
      simp only [Act.put, List.setIfInBounds_toArray, List.set_cons_zero, List.set_cons_succ]
      refine wpList_nil ?_
      go_wp2_with fail
      go_ret
      exact ⟨retb (by rw [HV2.out]; simp), hF⟩
end Go.Proofs.Ytdbkkbeelemnhaa
