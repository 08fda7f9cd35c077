/-
  LAYER 36: what Allocate leaves; its memory. Plain lemmas.
-/
import Derived.Test.YtdinjekpcgndmaaPoolT
import Derived.Test.YtdinjekpcgndmaaPoolC
set_option linter.unusedVariables false
namespace Go.Proofs.Ytdinjekpcgndmaa
open Go.RowKit
def alL (g : Gm) (s : Int) (cs ct : List Int) (cr cl : Int) : List Int := if alE g s cs ct cr cl = 0 then tlL g.tiers cs ct (fuA g s) (fuB g s) cr else []
def alV (g : Gm) (s : Int) (cs ct : List Int) (cr cl : Int) (v : Value) : Value :=
  if alE g s cs ct cr cl = 0 then .agg #[.int .i64 s, .int .i64 (fuA g s), .int .i64 (alR g s cs cr), v] else .agg #[.int .i64 0, .int .i64 0, .int .i64 0, v]
def AlPost (g : Gm) (s : Int) (cs ct : List Int) (cr cl : Int) (w : World) (e : Ending) (w' : World) : Prop :=
  ∃ v, e = .returned (.tuple #[alV g s cs ct cr cl v, .int .i64 (alE g s cs ct cr cl)]) ∧ OwnI w' w.heap.size 3 v (alL g s cs ct cr cl) ∧ Fr [] w w'
theorem al_err {g : Gm} {s : Int} {cs ct : List Int} {cr cl : Int} {E : Int} (h : alE g s cs ct cr cl = E) (h0 : E ≠ 0) {w : World} : ∀ w', Fr [] w w' → AlPost g s cs ct cr cl w (.returned (.tuple #[.agg #[.int .i64 0, .int .i64 0, .int .i64 0, .slice none 0 0], .int .i64 E])) w' := by
  intro w' hf
  subst h
  refine ⟨.slice none 0 0, ?_, ?_, hf⟩
  · unfold alV; rw [if_neg h0]
  · unfold alL; rw [if_neg h0]; exact OwnI.nil _ _ _
theorem al_ok {g : Gm} {s : Int} {cs ct : List Int} {cr cl : Int} (h : alE g s cs ct cr cl = 0) {w : World} : ∀ v w', OwnI w' w.heap.size 3 v (tlL g.tiers cs ct (fuA g s) (fuB g s) cr) → Fr [] w w' → AlPost g s cs ct cr cl w (.returned (.tuple #[.agg #[.int .i64 s, .int .i64 (fuA g s), .int .i64 (alR g s cs cr), v], .int .i64 0])) w' := by
  intro v w' ho hf
  refine ⟨v, ?_, ?_, hf⟩
  · unfold alV; rw [if_pos h, h]
  · unfold alL; rw [if_pos h]; exact ho
theorem alE_1 {g : Gm} {s : Int} {cs ct : List Int} {cr cl : Int} (h : fuE g s ≠ 0) : alE g s cs ct cr cl = fuE g s := by unfold alE; rw [if_pos h]
theorem alE_2 {g : Gm} {s : Int} {cs ct : List Int} {cr cl : Int} (h : fuE g s = 0) (h2 : agE g.tiers cs ct cr cl ≠ 0) : alE g s cs ct cr cl = agE g.tiers cs ct cr cl := by unfold alE; rw [if_neg (by omega), if_pos h2]
theorem alE_3 {g : Gm} {s : Int} {cs ct : List Int} {cr cl : Int} (h : fuE g s = 0) (h2 : agE g.tiers cs ct cr cl = 0) (h3 : 1000000000000 < spT (ndL g.tiers cs) ∨ 1000000000000 < fuA g s + cr) : alE g s cs ct cr cl = 9 := by unfold alE; rw [if_neg (by omega), if_neg (by omega), if_pos h3]
theorem alE_4 {g : Gm} {s : Int} {cs ct : List Int} {cr cl : Int} (h : fuE g s = 0) (h2 : agE g.tiers cs ct cr cl = 0) (h3 : ¬ (1000000000000 < spT (ndL g.tiers cs) ∨ 1000000000000 < fuA g s + cr)) : alE g s cs ct cr cl = if hiB (tlL g.tiers cs ct (fuA g s) (fuB g s) cr) = true then 9 else 0 := by unfold alE; rw [if_neg (by omega), if_neg (by omega), if_neg h3]
theorem fuE_facts {g : Gm} {s : Int} (h : fuE g s = 0) : chkE g = 0 ∧ (0 ≤ s ∧ s ≤ 1000000000000) ∧ 0 ≤ fuB g s ∧ fuB g s ≤ fuA g s ∧ fuA g s ≤ s := by
  unfold fuE at h
  split at h
  · rename_i h1; exact absurd h h1
  rename_i h1
  split at h
  · rename_i h2
    have hc : chkE g = 0 := by omega
    obtain ⟨s1, s2⟩ := inR_of h2
    obtain ⟨p1, p2, p3, p4⟩ := fu_facts hc
    have m1 := mulb s1 s2 p1 p2
    have q1 : s * g.pool / 10000 ≤ s := by
      have : s * g.pool ≤ s * 10000 := Int.mul_le_mul_of_nonneg_left p2 s1
      have h3 : s * g.pool / 10000 ≤ s * 10000 / 10000 := Int.ediv_le_ediv (by omega) this
      rw [Int.mul_ediv_cancel _ (by omega)] at h3; exact h3
    have q0 : 0 ≤ s * g.pool / 10000 := Int.ediv_nonneg m1.1 (by omega)
    have m2 := mulb q0 (by omega) p3 p4
    have r1 : s * g.pool / 10000 * g.reserve / 10000 ≤ s * g.pool / 10000 := by
      have : s * g.pool / 10000 * g.reserve ≤ s * g.pool / 10000 * 10000 := Int.mul_le_mul_of_nonneg_left p4 q0
      have h3 : s * g.pool / 10000 * g.reserve / 10000 ≤ s * g.pool / 10000 * 10000 / 10000 := Int.ediv_le_ediv (by omega) this
      rw [Int.mul_ediv_cancel _ (by omega)] at h3; exact h3
    have r0 : 0 ≤ s * g.pool / 10000 * g.reserve / 10000 := Int.ediv_nonneg m2.1 (by omega)
    have ea : fuA g s = s * g.pool / 10000 := by unfold fuA; rw [if_pos ⟨hc, h2⟩]
    have eb : fuB g s = s * g.pool / 10000 * g.reserve / 10000 := by unfold fuB; rw [if_pos ⟨hc, h2⟩]
    rw [ea, eb]
    exact ⟨hc, ⟨s1, s2⟩, r0, r1, q1⟩
  · simp at h
/-- the memory of Allocate behind its first statement: the game, the carry and the result lie in blocks of their own -/
structure AlM (g : Gm) (vt : Value) (cr cl : Int) (w x : World) : Prop where
  hg : GmAt x w.heap.size g
  fr : Fr [] w x
  size : w.heap.size + 3 ≤ x.heap.size
  c0 : x.cell? ⟨w.heap.size + 1, 0, none⟩ = some vt
  c1 : x.cell? ⟨w.heap.size + 1, 1, none⟩ = some (.int .i64 cr)
  c2 : x.cell? ⟨w.heap.size + 1, 2, none⟩ = some (.int .i64 cl)
  r0 : x.cell? ⟨w.heap.size + 2, 0, none⟩ = some (.int .i64 0)
  r1 : x.cell? ⟨w.heap.size + 2, 1, none⟩ = some (.int .i64 0)
  r2 : x.cell? ⟨w.heap.size + 2, 2, none⟩ = some (.int .i64 0)
  r3 : x.cell? ⟨w.heap.size + 2, 3, none⟩ = some (.slice none 0 0)
  f0 : x.frozen? ⟨w.heap.size + 2, 0, none⟩ = false
  f1 : x.frozen? ⟨w.heap.size + 2, 1, none⟩ = false
  f2 : x.frozen? ⟨w.heap.size + 2, 2, none⟩ = false
  f3 : x.frozen? ⟨w.heap.size + 2, 3, none⟩ = false
theorem AlM.go {g : Gm} {vt : Value} {cr cl : Int} {w x y : World} {bs : List Nat} (h : AlM g vt cr cl w x) (k : Fr bs x y) (hb : ∀ i ∈ bs, w.heap.size + 3 ≤ i) : AlM g vt cr cl w y := by
  have n0 : w.heap.size ∉ bs := fun hm => by have := hb _ hm; omega
  have n1 : w.heap.size + 1 ∉ bs := fun hm => by have := hb _ hm; omega
  have n2 : w.heap.size + 2 ∉ bs := fun hm => by have := hb _ hm; omega
  have hs := h.size
  exact ⟨h.hg.fr k n0, h.fr.trans' k (fun i hi => .inr (by have := hb i hi; omega)), Nat.le_trans h.size k.size, k.cell_some h.c0 n1, k.cell_some h.c1 n1, k.cell_some h.c2 n1, k.cell_some h.r0 n2, k.cell_some h.r1 n2, k.cell_some h.r2 n2, k.cell_some h.r3 n2,
    by rw [k.frozen (by show w.heap.size + 2 < _; omega) n2]; exact h.f0, by rw [k.frozen (by show w.heap.size + 2 < _; omega) n2]; exact h.f1, by rw [k.frozen (by show w.heap.size + 2 < _; omega) n2]; exact h.f2, by rw [k.frozen (by show w.heap.size + 2 < _; omega) n2]; exact h.f3⟩
theorem alM_start {g : Gm} {vt : Value} {cr cl : Int} {w w1 : World} {T1 T2 : TypeId} (hg : GmAt w1 w.heap.size g) (hz : w1.heap.size = w.heap.size + 1) (hf : Fr [] w w1) :
    AlM g vt cr cl w ((w1.alloc (.cells #[vt, .int .i64 cr, .int .i64 cl] T1)).alloc (.cells #[.int .i64 0, .int .i64 0, .int .i64 0, .slice none 0 0] T2)) := by
  have hz2 : (w1.alloc (.cells #[vt, .int .i64 cr, .int .i64 cl] T1)).heap.size = w.heap.size + 2 := by simp [hz]
  have k : ∀ (i : Nat) (v : Value), #[vt, .int .i64 cr, .int .i64 cl][i]? = some v → ((w1.alloc (.cells #[vt, .int .i64 cr, .int .i64 cl] T1)).alloc (.cells #[.int .i64 0, .int .i64 0, .int .i64 0, .slice none 0 0] T2)).cell? ⟨w.heap.size + 1, i, none⟩ = some v := fun i v h =>
    ((Fr.refl [] _).alloc _).cell_some (new_cell hz h) (by simp)
  have k2 : ∀ (i : Nat) (v : Value), #[Value.int .i64 0, .int .i64 0, .int .i64 0, .slice none 0 0][i]? = some v → ((w1.alloc (.cells #[vt, .int .i64 cr, .int .i64 cl] T1)).alloc (.cells #[.int .i64 0, .int .i64 0, .int .i64 0, .slice none 0 0] T2)).cell? ⟨w.heap.size + 2, i, none⟩ = some v := fun i v h => new_cell hz2 h
  have fz : ∀ i, ((w1.alloc (.cells #[vt, .int .i64 cr, .int .i64 cl] T1)).alloc (.cells #[.int .i64 0, .int .i64 0, .int .i64 0, .slice none 0 0] T2)).frozen? ⟨w.heap.size + 2, i, none⟩ = false := fun i => by
    rw [← hz2]; exact World.frozen?_alloc_new _ _ _ _
  exact ⟨hg.fr (((Fr.refl [] _).alloc _).alloc _) (by simp), (hf.alloc _).alloc _, by simp [hz], k 0 _ rfl, k 1 _ rfl, k 2 _ rfl, k2 0 _ rfl, k2 1 _ rfl, k2 2 _ rfl, k2 3 _ rfl, fz 0, fz 1, fz 2, fz 3⟩
/-- what is stored into the result's block -/
theorem AlM.put4 {g : Gm} {vt : Value} {cr cl : Int} {w x : World} (h : AlM g vt cr cl w x) (v0 v1 v2 v3 : Value) : Fr [] w ((((x.setCell ⟨w.heap.size + 2, 0, none⟩ v0).setCell ⟨w.heap.size + 2, 1, none⟩ v1).setCell ⟨w.heap.size + 2, 2, none⟩ v2).setCell ⟨w.heap.size + 2, 3, none⟩ v3) :=
  (((h.fr.setCell (.inr (by show _ ≤ w.heap.size + 2; omega)) _).setCell (.inr (by show _ ≤ w.heap.size + 2; omega)) _).setCell (.inr (by show _ ≤ w.heap.size + 2; omega)) _).setCell (.inr (by show _ ≤ w.heap.size + 2; omega)) _
theorem set_ne {x : World} {b i j : Nat} {v u : Value} (h : x.cell? ⟨b, i, none⟩ = some u) (hne : i ≠ j) : (x.setCell ⟨b, j, none⟩ v).cell? ⟨b, i, none⟩ = some u := by
  rw [World.cell?_setCell_other x _ _ v (by intro e; injection e with e1 e2; exact hne e2.symm)]
  exact h
theorem cells4 {x : World} {b : Nat} {u0 u1 u2 u3 : Value} (h0 : x.cell? ⟨b, 0, none⟩ = some u0) (h1 : x.cell? ⟨b, 1, none⟩ = some u1) (h2 : x.cell? ⟨b, 2, none⟩ = some u2) (h3 : x.cell? ⟨b, 3, none⟩ = some u3) (v0 v1 v2 v3 : Value) :
    ((((x.setCell ⟨b, 0, none⟩ v0).setCell ⟨b, 1, none⟩ v1).setCell ⟨b, 2, none⟩ v2).setCell ⟨b, 3, none⟩ v3).cell? ⟨b, 0, none⟩ = some v0 ∧
    ((((x.setCell ⟨b, 0, none⟩ v0).setCell ⟨b, 1, none⟩ v1).setCell ⟨b, 2, none⟩ v2).setCell ⟨b, 3, none⟩ v3).cell? ⟨b, 1, none⟩ = some v1 ∧
    ((((x.setCell ⟨b, 0, none⟩ v0).setCell ⟨b, 1, none⟩ v1).setCell ⟨b, 2, none⟩ v2).setCell ⟨b, 3, none⟩ v3).cell? ⟨b, 2, none⟩ = some v2 ∧
    ((((x.setCell ⟨b, 0, none⟩ v0).setCell ⟨b, 1, none⟩ v1).setCell ⟨b, 2, none⟩ v2).setCell ⟨b, 3, none⟩ v3).cell? ⟨b, 3, none⟩ = some v3 := by
  refine ⟨?_, ?_, ?_, ?_⟩
  · exact set_ne (set_ne (set_ne (World.cell?_setCell_same _ _ _ h0) (by omega)) (by omega)) (by omega)
  · exact set_ne (set_ne (World.cell?_setCell_same _ _ _ (set_ne h1 (by omega))) (by omega)) (by omega)
  · exact set_ne (World.cell?_setCell_same _ _ _ (set_ne (set_ne h2 (by omega)) (by omega))) (by omega)
  · exact World.cell?_setCell_same _ _ _ (set_ne (set_ne (set_ne h3 (by omega)) (by omega)) (by omega))
theorem OwnI.rdb2 {w : World} {base : Nat} {e : TypeId} {v : Value} {l : List Int} (h : OwnI w base e v l) : ∃ gb, RdB w gb v l ∧ (gb = 0 ∨ v.ownBlock = some gb) := by
  by_cases hl : l.length = 0
  · obtain ⟨a, cap, rfl, h1, h2⟩ := h.any
    exact ⟨0, ⟨a, cap, rfl, h1, h2, fun j hj => by omega⟩, .inl rfl⟩
  · obtain ⟨g, cap, rfl, hb, hg, h1, h2⟩ := h.form (by omega)
    exact ⟨g, ⟨_, cap, rfl, h1, h2, fun j hj => ⟨0, rfl, by rw [Nat.zero_add]; exact h.cell j hj⟩⟩, .inr rfl⟩
/-- the memory of Allocate's last loop: the two slices that are taken from, the pools -/
structure AlW (g : Gm) (vt : Value) (cr cl : Int) (w : World) (base bN bP bR gN gP : Nat) (s A B : Int) (vN vP vT : Value) (lN lP lT : List Int) (x : World) : Prop where
  hM : AlM g vt cr cl w x
  size : base ≤ x.heap.size
  cN : x.cell? ⟨bN, 0, none⟩ = some vN
  fN : x.frozen? ⟨bN, 0, none⟩ = false
  rN : RdB x gN vN lN
  cP : x.cell? ⟨bP, 0, none⟩ = some vP
  fP : x.frozen? ⟨bP, 0, none⟩ = false
  rP : RdB x gP vP lP
  q0 : x.cell? ⟨bR, 0, none⟩ = some (.int .i64 s)
  q1 : x.cell? ⟨bR, 1, none⟩ = some (.int .i64 A)
  q2 : x.cell? ⟨bR, 2, none⟩ = some (.int .i64 B)
  q3 : x.cell? ⟨bR, 3, none⟩ = some vT
  fR : x.frozen? ⟨bR, 3, none⟩ = false
  oT : OwnI x base 3 vT lT
structure AlB (w : World) (base bN bP bR gN gP : Nat) : Prop where
  n : w.heap.size + 3 ≤ bN ∧ bN < base
  p : w.heap.size + 3 ≤ bP ∧ bP < base
  r : w.heap.size + 3 ≤ bR ∧ bR < base
  gn : gN < base ∧ gN ≠ bN ∧ gN ≠ bP ∧ gN ≠ bR
  gp : gP < base ∧ gP ≠ bN ∧ gP ≠ bP ∧ gP ≠ bR
  np : bN ≠ bP ∧ bN ≠ bR ∧ bP ≠ bR
section
variable {g : Gm} {vt : Value} {cr cl : Int} {w : World} {base bN bP bR gN gP : Nat} {s A B : Int} {vN vP vT : Value} {lN lP lT : List Int} {x : World}
theorem AlW.go {y : World} {bs : List Nat} (h : AlW g vt cr cl w base bN bP bR gN gP s A B vN vP vT lN lP lT x) (hB : AlB w base bN bP bR gN gP) (k : Fr bs x y) (hb : ∀ i ∈ bs, base ≤ i) (lT' : List Int) (ho : OwnI y base 3 vT lT') : AlW g vt cr cl w base bN bP bR gN gP s A B vN vP vT lN lP lT' y := by
  have nn : bN ∉ bs := fun hm => by have := hb _ hm; have := hB.n; omega
  have np : bP ∉ bs := fun hm => by have := hb _ hm; have := hB.p; omega
  have nr : bR ∉ bs := fun hm => by have := hb _ hm; have := hB.r; omega
  have ngn : gN ∉ bs := fun hm => by have := hb _ hm; have := hB.gn; omega
  have ngp : gP ∉ bs := fun hm => by have := hb _ hm; have := hB.gp; omega
  refine ⟨h.hM.go k (fun i hi => by have := hb i hi; have := hB.n; omega), Nat.le_trans h.size k.size, k.cell_some h.cN nn, by rw [k.frozen (lt_of_cell h.cN) nn]; exact h.fN, h.rN.fr k ngn, k.cell_some h.cP np, by rw [k.frozen (lt_of_cell h.cP) np]; exact h.fP, h.rP.fr k ngp, k.cell_some h.q0 nr, k.cell_some h.q1 nr, k.cell_some h.q2 nr, k.cell_some h.q3 nr, by rw [k.frozen (lt_of_cell h.q3) nr]; exact h.fR, ho⟩
theorem AlW.setN (h : AlW g vt cr cl w base bN bP bR gN gP s A B vN vP vT lN lP lT x) (hB : AlB w base bN bP bR gN gP) {y : Int} {l : List Int} (hl : lN = y :: l) : AlW g vt cr cl w base bN bP bR gN gP s A B (nxtV vN) vP vT l lP lT (x.setCell ⟨bN, 0, none⟩ (nxtV vN)) := by
  have k : Fr [bN] x (x.setCell ⟨bN, 0, none⟩ (nxtV vN)) := (Fr.refl _ _).setCell (.inl (by simp)) _
  have hr := h.rN
  rw [hl] at hr
  have b1 := hB.np; have b2 := hB.gn; have b3 := hB.gp; have b4 := hB.n
  refine ⟨h.hM.go k (fun i hi => by simp at hi; omega), Nat.le_trans h.size k.size, World.cell?_setCell_same _ _ _ h.cN, by rw [World.frozen?_setCell]; exact h.fN, (hr.next).fr k (by simp; omega), k.cell_some h.cP (by simp; omega), by rw [k.frozen (lt_of_cell h.cP) (by simp; omega)]; exact h.fP, h.rP.fr k (by simp; omega), k.cell_some h.q0 (by simp; omega), k.cell_some h.q1 (by simp; omega), k.cell_some h.q2 (by simp; omega), k.cell_some h.q3 (by simp; omega), by rw [k.frozen (lt_of_cell h.q3) (by simp; omega)]; exact h.fR, h.oT.fr k (fun i hi => by have := h.oT.block i hi; simp; omega)⟩
theorem AlW.setP (h : AlW g vt cr cl w base bN bP bR gN gP s A B vN vP vT lN lP lT x) (hB : AlB w base bN bP bR gN gP) {y : Int} {l : List Int} (hl : lP = y :: l) : AlW g vt cr cl w base bN bP bR gN gP s A B vN (nxtV vP) vT lN l lT (x.setCell ⟨bP, 0, none⟩ (nxtV vP)) := by
  have k : Fr [bP] x (x.setCell ⟨bP, 0, none⟩ (nxtV vP)) := (Fr.refl _ _).setCell (.inl (by simp)) _
  have hr := h.rP
  rw [hl] at hr
  have b1 := hB.np; have b2 := hB.gn; have b3 := hB.gp; have b4 := hB.p
  refine ⟨h.hM.go k (fun i hi => by simp at hi; omega), Nat.le_trans h.size k.size, k.cell_some h.cN (by simp; omega), by rw [k.frozen (lt_of_cell h.cN) (by simp; omega)]; exact h.fN, h.rN.fr k (by simp; omega), World.cell?_setCell_same _ _ _ h.cP, by rw [World.frozen?_setCell]; exact h.fP, (hr.next).fr k (by simp; omega), k.cell_some h.q0 (by simp; omega), k.cell_some h.q1 (by simp; omega), k.cell_some h.q2 (by simp; omega), k.cell_some h.q3 (by simp; omega), by rw [k.frozen (lt_of_cell h.q3) (by simp; omega)]; exact h.fR, h.oT.fr k (fun i hi => by have := h.oT.block i hi; simp; omega)⟩
theorem AlW.setT (h : AlW g vt cr cl w base bN bP bR gN gP s A B vN vP vT lN lP lT x) (hB : AlB w base bN bP bR gN gP) {v' : Value} {l' : List Int} {y : World} (k : Fr vT.ownBlock.toList x y) (ho : OwnI y base 3 v' l') : AlW g vt cr cl w base bN bP bR gN gP s A B vN vP v' lN lP l' (y.setCell ⟨bR, 3, none⟩ v') := by
  have hb : ∀ i ∈ vT.ownBlock.toList, base ≤ i := fun i hi => (h.oT.block i (by simpa using hi)).1
  have nn : bN ∉ vT.ownBlock.toList := fun hm => by have := hb _ hm; have := hB.n; omega
  have np : bP ∉ vT.ownBlock.toList := fun hm => by have := hb _ hm; have := hB.p; omega
  have nr : bR ∉ vT.ownBlock.toList := fun hm => by have := hb _ hm; have := hB.r; omega
  have ngn : gN ∉ vT.ownBlock.toList := fun hm => by have := hb _ hm; have := hB.gn; omega
  have ngp : gP ∉ vT.ownBlock.toList := fun hm => by have := hb _ hm; have := hB.gp; omega
  have k2 : Fr [bR] y (y.setCell ⟨bR, 3, none⟩ v') := (Fr.refl _ _).setCell (.inl (by simp)) _
  have b1 := hB.np; have b2 := hB.gn; have b3 := hB.gp; have b4 := hB.r
  refine ⟨(h.hM.go k (fun i hi => by have := hb i hi; have := hB.n; omega)).go k2 (fun i hi => by simp at hi; omega), Nat.le_trans h.size (Nat.le_trans k.size k2.size), k2.cell_some (k.cell_some h.cN nn) (by simp; omega), by rw [k2.frozen (lt_of_cell (k.cell_some h.cN nn)) (by simp; omega), k.frozen (lt_of_cell h.cN) nn]; exact h.fN, (h.rN.fr k ngn).fr k2 (by simp; omega), k2.cell_some (k.cell_some h.cP np) (by simp; omega), by rw [k2.frozen (lt_of_cell (k.cell_some h.cP np)) (by simp; omega), k.frozen (lt_of_cell h.cP) np]; exact h.fP, (h.rP.fr k ngp).fr k2 (by simp; omega), set_ne (k.cell_some h.q0 nr) (by omega), set_ne (k.cell_some h.q1 nr) (by omega), set_ne (k.cell_some h.q2 nr) (by omega), World.cell?_setCell_same _ _ _ (k.cell_some h.q3 nr), by rw [World.frozen?_setCell, k.frozen (lt_of_cell h.q3) nr]; exact h.fR, ho.fr k2 (fun i hi => by have := ho.block i hi; simp; omega)⟩
end
end Go.Proofs.Ytdinjekpcgndmaa
