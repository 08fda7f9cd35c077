/-
  PrizeBase: 5 texts in one, each with its own heading.
-/
import Derived.Test.YtdinjekpcgndmaaCheck
import Derived.Deep.WholeRow
import Derived.Test.YtdinjekpcgndmaaNew
import Derived.Test.YtdinjekpcgndmaaFund
import Derived.Test.YtdinjekpcgndmaaPoolA
import Derived.Test.YtdinjekpcgndmaaGameW
import Derived.Test.YtdinjekpcgndmaaOpen
/-
  A game that is stored whole; the small game of the statements, valid; a game with other add-ons.
-/
set_option linter.unusedVariables false
namespace Go.Proofs.Ytdinjekpcgndmaa
open Go.RowKit
theorem Gm.one (g : Gm) : g.cells.toArray.all (·.oneCell') = true := by simp [Gm.cells, Value.oneCell']
theorem Gm.size (g : Gm) : g.cells.toArray.size = 22 := rfl
/-- a game is stored whole into a block of its own -/
theorem store_game {ops : Array Oper} {rest : List Oper} {o : Oper} {a : Act} {w : World} {Q : Exit → Act → World → Prop} (hgd : o.guard = none) (x y : Operand) (ho : o.op = .store 25 x y) (b : Nat) (hx : a.eval x = .pointer (some ⟨b, 0, none⟩))
    (C : Array Value) (hb : w.heap[b]? = some (.cells C 25 (0, 0))) (hC : C.size = 22) (g : Gm) (hy : a.eval y = g.val)
    (h : ∀ w', GmAt w' b g → w'.heap.size = w.heap.size → Fr [b] w w' → wpList Try.prog ops Q rest (a.put o.dst undef) w') : wpList Try.prog ops Q (o :: rest) a w := by
  refine wpList_plain hgd fun _ hK => ?_
  have hrun := run_storeVar_row (P := Try.prog) w b 25 25 C g.cells.toArray hb infoGame (by rw [hC, Gm.size]) g.one
  unfold Oper.wp execOp
  simp only [ho, hx, hy, Gm.val_eq, Instr.storeAt, Instr.sureAddr, Sem.run_bind, Sem.run_pure, Result.andThen_ok, hrun]
  have hlt : b < w.heap.size := (Array.getElem?_eq_some_iff.1 hb).1
  refine hK _ _ (h _ ?_ ?_ ⟨rfl, rfl, rfl, ?_, ?_⟩)
  · unfold GmAt; simp [World.setRow, Array.getElem?_modify, hb]
  · simp [World.setRow]
  · simp [World.setRow]
  · intro k _ hk
    have : ¬ b = k := by simp at hk; omega
    simp [World.setRow, Array.getElem?_modify, this]
def plainG (b : Nat) : Gm := ⟨⟨#[97]⟩, 1, 1, 1, 2, 0, 0, 0, 1, 1, 1, 0, 0, 0, 1, 0, 0, 1, 0, 0, none, 0, [], some ⟨b, 0, none⟩, 1, [⟨1, 0, 0, 0, 1, 0⟩]⟩
theorem plain_chk (b : Nat) : chkE (plainG b) = 0 ∧ chkS (plainG b) = ⟨#[]⟩ ∧ headB (plainG b) = true := by
  refine ⟨?_, ?_, ?_⟩
  · kernel_rfl
  · kernel_rfl
  · kernel_rfl
theorem rdf_one {α : Type} (c : Nat) (f : α → List Value) (w : World) (x : α) (C : Array Value) (T : TypeId) (hC : C = (f x).toArray) (hc : (f x).length = c) :
    RdF c (fun x => pairs (f x)) (w.alloc (.cells C T)) (.slice (some ⟨w.heap.size, 0, none⟩) 1 1) [x] := by
  refine ⟨_, _, rfl, Nat.le_refl _, by unfold maxLen; simp, fun j y hy => ⟨w.heap.size, 0, rfl, fun i v hv => ?_⟩⟩
  obtain rfl : j = 0 := by
    have := (List.getElem?_eq_some_iff.1 hy).1
    simp at this
    exact this
  simp at hy
  subst hy
  rw [mem_pairs] at hv
  rw [Nat.zero_mul, Nat.zero_add, Nat.zero_add]
  exact new_cell rfl (by subst hC; simpa using hv)
theorem RdF.fr {α : Type} {c n cap g o : Nat} {f : α → List (Nat × Value)} {w w' : World} {l : List α} {bs : List Nat} (h : RdF c f w (.slice (some ⟨g, o, none⟩) n cap) l) (hf : Fr bs w w') (hn : g ∉ bs) : RdF c f w' (.slice (some ⟨g, o, none⟩) n cap) l := by
  obtain ⟨a', cap', hv, h1, h2, h3⟩ := h
  refine ⟨a', cap', hv, h1, h2, fun j x hx => ?_⟩
  obtain ⟨g', o', rfl, hc⟩ := h3 j x hx
  simp only [Value.slice.injEq, Option.some.injEq, Addr.mk.injEq, and_true] at hv
  obtain ⟨⟨rfl, rfl⟩, _⟩ := hv
  exact ⟨g, o, rfl, fun i y hy => hf.cell_some (hc i y hy) hn⟩
theorem plain_ok (w : World) (b : Nat) (h : RdF 6 tiF w (.slice (some ⟨b, 0, none⟩) 1 1) [⟨1, 0, 0, 0, 1, 0⟩]) : (plainG b).Ok w := by
  refine ⟨(by show 1 ≤ maxLen; unfold maxLen; omega), rfl, rfl, rfl, rfl, rfl, rfl, rfl, rfl, rfl, rfl, rfl, rfl, rfl, rfl, rfl, rfl, rfl, rfl, rfl, ⟨⟨none, 0, rfl, by simp [plainG], by simp, by simp [plainG]⟩, by simp [plainG]⟩, ⟨h, ?_⟩⟩
  intro x hx
  simp [plainG] at hx
  subst hx
  exact ⟨rfl, rfl, rfl, rfl, rfl, rfl⟩
def withA (g : Gm) (a : Option Addr) (c : Nat) (l : List Ad) : Gm := { g with aa := a, ac := c, addons := l }
theorem gm_set_addons {w : World} {b : Nat} {g : Gm} (h : GmAt w b g) (a : Option Addr) (c : Nat) (l : List Ad) : GmAt (w.setCell ⟨b, 20, none⟩ (.slice a l.length c)) b (withA g a c l) := by
  unfold GmAt at h ⊢
  simp [World.setCell, Array.getElem?_modify, h, Gm.cells, withA]
theorem gm_frozen {w : World} {b : Nat} {g : Gm} (h : GmAt w b g) (i : Nat) : w.frozen? ⟨b, i, none⟩ = false := by
  unfold GmAt at h
  simp [World.frozen?, h]
theorem withA_ok {g : Gm} {w w' : World} {a : Option Addr} {c : Nat} {l : List Ad} (h : g.Ok w) (hf : Fr [] w w') (ha : Ads w' a c l) : (withA g a c l).Ok w' := by
  have h' := h.fr hf
  exact ⟨h'.name, h'.kind, h'.price, h'.main, h'.of_, h'.bonus, h'.bonusof, h'.extra, h'.draws, h'.system, h'.days, h'.at_, h'.close, h'.cancel, h'.expiry, h'.pool, h'.reserve, h'.round, h'.cap, h'.rolls, ha, h'.tiers⟩
end Go.Proofs.Ytdinjekpcgndmaa
/-
  LAYER 36: the game of the statements.
-/
set_option linter.unusedVariables false
namespace Go.Proofs.Ytdinjekpcgndmaa
open Go.RowKit
theorem flat36_at {α : Type} (c : Nat) (f : α → List Value) : ∀ (l : List α), (∀ x ∈ l, (f x).length = c) → ∀ (j i : Nat) (x : α) (v : Value), l[j]? = some x → (f x)[i]? = some v → (l.flatMap f)[j * c + i]? = some v := by
  intro l
  induction l with
  | nil => intro _ j i x v hj _; simp at hj
  | cons a l ih =>
    intro hf j i x v hj hi
    have ha := hf a (by simp)
    rw [List.flatMap_cons]
    cases j with
    | zero =>
      simp at hj
      subst hj
      have := (List.getElem?_eq_some_iff.1 hi).1
      rw [Nat.zero_mul, Nat.zero_add, List.getElem?_append_left this]
      exact hi
    | succ j =>
      simp at hj
      rw [List.getElem?_append_right (by rw [ha, Nat.add_mul]; omega), ha, show (j + 1) * c + i - c = j * c + i by rw [Nat.add_mul]; omega]
      exact ih (fun y hy => hf y (by simp [hy])) j i x v hj hi
theorem rdf36_rows {α : Type} (c : Nat) (f : α → List Value) {w : World} {n : Nat} (hz : w.heap.size = n) (l : List α) (T : TypeId) (k : Nat) (hk : l.length = k) (hm : k ≤ 100) (hf : ∀ x ∈ l, (f x).length = c) (C : Array Value) (hC : C = (l.flatMap f).toArray) :
    RdF c (fun x => pairs (f x)) (w.alloc (.cells C T)) (.slice (some ⟨n, 0, none⟩) k k) l := by
  subst hk
  refine ⟨_, _, rfl, Nat.le_refl _, by unfold maxLen; omega, fun j x hj => ⟨n, 0, rfl, fun i v hv => ?_⟩⟩
  rw [mem_pairs] at hv
  rw [Nat.zero_add]
  subst hC
  exact new_cell hz (by simpa using flat36_at c f l hf j i x v hj hv)
def pl36 (b : Nat) : Gm := ⟨⟨#[97]⟩, 1, 1, 3, 20, 0, 0, 0, 1, 3, 1, 0, 0, 0, 1, 5000, 1000, 1, 0, 0, none, 0, [], some ⟨b, 0, none⟩, 3, [⟨3, 0, 0, 0, 3, 2⟩, ⟨2, 0, 0, 0, 2, 1⟩, ⟨1, 0, 0, 0, 1, 300⟩]⟩
theorem pl36_ok (w : World) (b : Nat) (h : RdF 6 tiF w (.slice (some ⟨b, 0, none⟩) 3 3) (pl36 b).tiers) : (pl36 b).Ok w := by
  refine ⟨(by show 1 ≤ maxLen; unfold maxLen; omega), rfl, rfl, rfl, rfl, rfl, rfl, rfl, rfl, rfl, rfl, rfl, rfl, rfl, rfl, rfl, rfl, rfl, rfl, rfl, ⟨⟨none, 0, rfl, by simp [pl36], by simp, by simp [pl36]⟩, by simp [pl36]⟩, ⟨h, ?_⟩⟩
  intro x hx
  simp [pl36] at hx
  rcases hx with rfl | rfl | rfl <;> exact ⟨rfl, rfl, rfl, rfl, rfl, rfl⟩
abbrev zGm36 : Array Value := #[.string ⟨#[]⟩, .int .i64 0, .int .i64 0, .int .i64 0, .int .i64 0, .int .i64 0, .int .i64 0, .int .i64 0, .int .i64 0, .int .i64 0, .int .i64 0, .int .i64 0, .int .i64 0, .int .i64 0, .int .i64 0, .int .i64 0, .int .i64 0, .int .i64 0, .int .i64 0, .int .i64 0, .slice none 0 0, .slice none 0 0]
set_option maxRecDepth 20000 in
set_option maxHeartbeats 2000000 in
theorem plain36_any (w : World) : Calls Try.prog 49 #[] w fun e w' => ∃ b, e = .returned (pl36 b).val ∧ (pl36 b).Ok w' ∧ Fr [] w w' := by
  have hb : ∀ (w : World) (b : Nat), (Instr.build 25 #[(0, .string ⟨#[97]⟩), (1, .int .i64 1), (2, .int .i64 1), (3, .int .i64 3), (4, .int .i64 20), (8, .int .i64 1), (9, .int .i64 3), (10, .int .i64 1), (14, .int .i64 1), (15, .int .i64 5000), (16, .int .i64 1000), (17, .int .i64 1), (21, .slice (some ⟨b, 0, none⟩) 3 3)]).run Try.prog w = .ok (pl36 b).val w := fun w b => by kernel_rfl
  go_enter Try.func49, Try.ntmps49
  go_wp2_with (refine store_game rfl (.tmp 0) (.tmp 5) rfl w.heap.size rfl _ (heap_alloc2_old _ _ _) rfl (pl36 (w.heap.size + 1)) rfl ?_; intro w3 hg3 hz3 hf3)
  refine bodyPost_ret (v := (pl36 (w.heap.size + 1)).val) (by rw [Gm.val_eq]; exact results_cell_row rfl _ _ w.heap.size 25 _ (0, 0) _ rfl hg3 Try.underlying25 rfl infoGame) rfl ⟨_, rfl, ?_, ?_⟩
  · refine pl36_ok _ _ ?_
    have hr := rdf36_rows 6 Ti.cells (w := w.alloc (.cells zGm36 25)) (n := w.heap.size + 1) (by simp) (pl36 (w.heap.size + 1)).tiers 40 3 rfl (by omega) (by intro x hx; rfl) _ rfl
    exact hr.fr hf3 (by simp)
  · exact (((Fr.refl [] w).alloc _).alloc _).trans' hf3 (by simp)
theorem pl36_fund (b : Nat) : fuE (pl36 b) 2001 = 0 ∧ fuA (pl36 b) 2001 = 1000 ∧ fuB (pl36 b) 2001 = 100 := ⟨by kernel_rfl, by kernel_rfl, by kernel_rfl⟩
set_option maxRecDepth 20000 in
theorem funds_any (w : World) : Calls Try.prog 20 #[] w fun e w' => e = .returned (.bool true) ∧ Fr [] w w' := by
  have HF := Lib.hid (fun b w' h => fund_any (pl36 b) 2001 w' h)
  go_enter Try.func20, Try.ntmps20
  go_wp2_with fail
  refine (plain36_any _).mono ?_
  rintro e w1 ⟨b, rfl, hok, f1⟩
  go_wp2_with fail
  refine (HF.out b _ hok).mono ?_
  rintro e w2 ⟨rfl, f2⟩
  obtain ⟨k1, k2, k3⟩ := pl36_fund b
  rw [k1, k2, k3]
  have hF := f1.trans f2
  clear k1 k2 k3 hok f1 f2
  go_wp2_with fail
  go_ret
  exact ⟨rfl, hF⟩
end Go.Proofs.Ytdinjekpcgndmaa
/-
  LAYER 36: Same of equal pools, the sum of the pools of one sort; the program divides the fund of the chapter's example.
-/
set_option linter.unusedVariables false
namespace Go.Proofs.Ytdinjekpcgndmaa
open Go.RowKit
set_option maxHeartbeats 2000000 in
theorem sameInts_eq (v1 v2 : Value) (l : List Int) (w : World) (h1 : RdI w v1 l) (h2 : RdI w v2 l) : Calls Try.prog 73 #[v1, v2] w fun e w' => e = .returned (.bool true) ∧ Fr [] w w' := by
  obtain ⟨a1, c1, rfl, l1, m1, r1⟩ := h1
  obtain ⟨a2, c2, rfl, l2, m2, r2⟩ := h2
  unfold maxLen at m1 m2
  obtain ⟨n, hN⟩ : ∃ n, n = l.length := ⟨_, rfl⟩
  rw [← hN] at r1 r2 l1 l2 ⊢
  have R1 := Lib.hid r1
  have R2 := Lib.hid r2
  have e1 : ((n : Int) != (n : Int)) = false := by simp
  clear r1 r2 hN
  go_enter Try.func73, Try.ntmps73
  go_wp2_with fail
  go_loopw [5] (fun i wr => ∃ k : Nat, k ≤ n ∧ i = .int .i64 k ∧ Fr [] w wr) (fun i _ => n - (intOf i).toNat)
  case atStart => exact ⟨0, by omega, rfl, Fr.refl _ _⟩
  case round =>
    obtain ⟨k, hk, rfl, hf⟩ := hrel
    by_cases hlt : k < n
    · obtain ⟨g1, o1, rfl, k1⟩ := R1.out k hlt
      obtain ⟨g2, o2, rfl, k2⟩ := R2.out k hlt
      have k1' := hf.cell_some k1 (by simp)
      have k2' := hf.cell_some k2 (by simp)
      generalize l.getD k 0 = x at *
      have hkn : (k : Int) < (n : Int) := by omega
      have ex : (x != x) = false := by simp
      clear k1 k2
      go_wp2_with fail
      go_quiet (fail)
      have hf2 := Lib.hid (hf.drewN nq)
      generalize wr.drewN nq = w2 at *
      clear k1' k2' hf
      go_wp2_with fail
      go_roundw
      case rel => exact ⟨k + 1, by omega, by go_num, hf2.out⟩
      case measure => simp [intOf]; omega
    · obtain rfl : n = k := by omega
      go_wp2_with fail
      go_ret
      exact ⟨rfl, hf⟩
theorem same36_eq (v1 v2 : Value) (l : List Int) (s A B : Int) (w : World) (h1 : RdI w v1 l) (h2 : RdI w v2 l) : Calls Try.prog 30 #[.agg #[.int .i64 s, .int .i64 A, .int .i64 B, v1], .agg #[.int .i64 s, .int .i64 A, .int .i64 B, v2]] w fun e w' => e = .returned (.bool true) ∧ Fr [] w w' := by
  have hS := fun w' (h : Fr [] w w') => sameInts_eq v1 v2 l w' (h1.below h) (h2.below h)
  have HS := Lib.hid hS
  have e1 : (s == s) = true := by simp
  have e2 : (A == A) = true := by simp
  have e3 : (B == B) = true := by simp
  obtain ⟨a1, c1, rfl, l1, m1, r1⟩ := h1
  obtain ⟨a2, c2, rfl, l2, m2, r2⟩ := h2
  clear hS r1 r2
  go_enter Try.func30, Try.ntmps30
  go_wp2_with fail
  refine (HS.out _ (((Fr.refl [] _).alloc _).alloc _)).mono ?_
  rintro e w1 ⟨rfl, f1⟩
  have F := (((Fr.refl [] w).alloc (.cells #[.int .i64 s, .int .i64 A, .int .i64 B, .slice a1 l.length c1] 45)).alloc (.cells #[.int .i64 s, .int .i64 A, .int .i64 B, .slice a2 l.length c2] 45)).trans f1
  have HF := Lib.hid F
  clear F f1
  go_wp2_with fail
  go_ret
  exact ⟨rfl, HF.out⟩
theorem sumK_bd {T : List Ti} {fx : Bool} {l : List Int} (h : ∀ j, j < l.length → 0 ≤ l.getD j 0 ∧ l.getD j 0 ≤ 1000000000000) : ∀ k : Nat, k ≤ l.length → 0 ≤ sumK T fx l k ∧ sumK T fx l k ≤ 1000000000000 * k := by
  intro k
  induction k with
  | zero => intro _; simp [sumK]
  | succ k ih =>
    intro hk
    have a := ih (by omega)
    have b := h k (by omega)
    rw [sumK]
    push_cast
    split <;> omega
set_option maxRecDepth 20000 in
set_option maxHeartbeats 4000000 in
theorem sum36_any (g : Gm) (v : Value) (l : List Int) (fx : Bool) (w : World) (hok : g.Ok w) (h2 : RdI w v l) (hl : l.length = g.tiers.length) (hm : l.length ≤ 1000) (hb : ∀ j, j < l.length → 0 ≤ l.getD j 0 ∧ l.getD j 0 ≤ 1000000000000) :
    Calls Try.prog 32 #[g.val, v, .bool fx] w fun e w' => e = .returned (.int .i64 (sumK g.tiers fx l l.length)) ∧ Fr [] w w' := by
  have h21 : ∀ w b, GmAt w b g → w.cell? ⟨b, 21, none⟩ = some (.slice g.ta g.tiers.length g.tc) := fun w b h => h.cell 21 _ rfl
  obtain ⟨a2, c2, rfl, l2, m2, r2⟩ := h2
  unfold maxLen at m2
  have hkb := @sumK_bd g.tiers fx l hb
  rw [← hl] at h21
  have HL := Lib.hid hl
  have hsu : ∀ k, sumK g.tiers fx l (k + 1) = sumK g.tiers fx l k + if isK g.tiers fx k = true then l.getD k 0 else 0 := fun k => rfl
  obtain ⟨n, hN⟩ : ∃ n, n = l.length := ⟨_, rfl⟩
  rw [← hN] at r2 l2 h21 hkb hb hm ⊢
  have HN := Lib.hid hN
  have HR := Lib.hid r2
  have H21 := Lib.hid h21
  have HKB := Lib.hid hkb
  have HB := Lib.hid hb
  have HSU := Lib.hid hsu
  have HOK := Lib.hid hok
  clear hl hN r2 h21 hkb hb hsu hok
  go_enter Try.func32, Try.ntmps32
  go_upto_block 0 with (refine box_game rfl (.tmp 0) rfl g rfl ?_; intro w1 hg1 hz1 hf1; have c21 := H21.out _ _ hg1)
  have HF1 := Lib.hid hf1
  clear hg1 hz1 hf1
  go_wp2_with fail
  go_loop [8, 7] (fun i s => ∃ k : Nat, k ≤ n ∧ i = .int .i64 k ∧ s = .int .i64 (sumK g.tiers fx l k)) (fun i _ => n - (intOf i).toNat)
  case atStart => exact ⟨0, by omega, rfl, rfl⟩
  case round =>
    obtain ⟨k, hk, rfl, rfl⟩ := hrel
    by_cases hlt : k < n
    · obtain ⟨g1, o1, rfl, k1⟩ := HR.out k hlt
      have k1' := HF1.out.cell_some k1 (by simp)
      obtain ⟨t, ht⟩ : ∃ t, g.tiers[k]? = some t := ⟨_, List.getElem?_eq_getElem (by have := HL.out; have := HN.out; omega)⟩
      obtain ⟨bt, ot, hta, hct⟩ := RdF.at (f := Ti.cells) HOK.out.tiers.rd ht
      have c4 := HF1.out.cell_some (hct 4 _ rfl) (by simp)
      rw [hta] at c21
      have hkd := (kd_of ht).1
      have hkk : isK g.tiers fx k = (decide (t.kind = 1) == fx) := by unfold isK; rw [hkd]
      have hs := HSU.out k
      rw [hkk] at hs
      obtain ⟨tm, tb, te, to_, tk, tv⟩ := t
      simp only at c4 hs
      have hb1 := HKB.out k (by omega)
      have hb2 := HKB.out (k + 1) (by omega)
      have hx := HB.out k hlt
      have hkn : (k : Int) < (n : Int) := by omega
      by_cases h1 : tk = 1
      · cases fx
        · rw [if_neg (by simp [h1]), Int.add_zero] at hs
          have HS := Lib.hid hs
          rw [hs] at hb2
          have e1 : (tk == 1) = true := by simpa using h1
          clear hs h1 hkk hkd ht hta hct k1
          generalize l.getD k 0 = x at *
          generalize sumK g.tiers _ l k = s at *
          go_wp2_with fail
          go_round
          case rel => exact ⟨k + 1, by omega, by go_num, by rw [HS.out]⟩
          case measure => simp [intOf]; omega
        · rw [if_pos (by simp [h1])] at hs
          have HS := Lib.hid hs
          rw [hs] at hb2
          have e1 : (tk == 1) = true := by simpa using h1
          clear hs h1 hkk hkd ht hta hct k1
          generalize l.getD k 0 = x at *
          generalize sumK g.tiers _ l k = s at *
          go_wp2_with fail
          go_round
          case rel => exact ⟨k + 1, by omega, by go_num, by rw [HS.out]⟩
          case measure => simp [intOf]; omega
      · cases fx
        · rw [if_pos (by simp [h1])] at hs
          have HS := Lib.hid hs
          rw [hs] at hb2
          have e1 : (tk == 1) = false := by simpa using h1
          clear hs h1 hkk hkd ht hta hct k1
          generalize l.getD k 0 = x at *
          generalize sumK g.tiers _ l k = s at *
          go_wp2_with fail
          go_round
          case rel => exact ⟨k + 1, by omega, by go_num, by rw [HS.out]⟩
          case measure => simp [intOf]; omega
        · rw [if_neg (by simp [h1]), Int.add_zero] at hs
          have HS := Lib.hid hs
          rw [hs] at hb2
          have e1 : (tk == 1) = false := by simpa using h1
          clear hs h1 hkk hkd ht hta hct k1
          generalize l.getD k 0 = x at *
          generalize sumK g.tiers _ l k = s at *
          go_wp2_with fail
          go_round
          case rel => exact ⟨k + 1, by omega, by go_num, by rw [HS.out]⟩
          case measure => simp [intOf]; omega
    · obtain rfl : n = k := by omega
      have HF := HF1
      go_wp2_with fail
      go_ret
      exact ⟨rfl, HF.out⟩
theorem pl36_al (b : Nat) : alE (pl36 b) 2001 [0, 0, 2] [0, 0, 0] 0 0 = 0 ∧ alL (pl36 b) 2001 [0, 0, 2] [0, 0, 0] 0 0 = [200, 100, 600] ∧ ∀ v, alV (pl36 b) 2001 [0, 0, 2] [0, 0, 0] 0 0 v = .agg #[.int .i64 2001, .int .i64 1000, .int .i64 100, v] :=
  ⟨by kernel_rfl, by kernel_rfl, fun v => by kernel_rfl⟩
set_option maxRecDepth 20000 in
set_option maxHeartbeats 2000000 in
theorem lives36_any (w : World) : Calls Try.prog 31 #[] w fun e w' => e = .returned (.bool true) ∧ Fr [] w w' := by
  have HA := Lib.hid (fun b v2 vt w' h h2 h3 => alloc_any (pl36 b) 2001 v2 vt [0, 0, 2] [0, 0, 0] 0 0 w' h h2 h3)
  go_enter Try.func31, Try.ntmps31
  go_wp2_with fail
  refine (plain36_any _).mono ?_
  rintro e w1 ⟨b, rfl, hok, f1⟩
  go_wp2_with fail
  have hr1 : RdI (w1.alloc (.cells #[.int .i64 0, .int .i64 0, .int .i64 2] 3)) (.slice (some ⟨w1.heap.size, 0, none⟩) 3 3) [0, 0, 2] := rdi_mk rfl [0, 0, 2] 3 3 rfl (by omega)
  have hr2 : RdI ((w1.alloc (.cells #[.int .i64 0, .int .i64 0, .int .i64 2] 3)).alloc (.cells #[.int .i64 0, .int .i64 0, .int .i64 0] 3)) (.slice (some ⟨w1.heap.size + 1, 0, none⟩) 3 3) [0, 0, 0] := rdi_mk (by simp) [0, 0, 0] 3 3 rfl (by omega)
  have F2 : Fr [] w1 ((w1.alloc (.cells #[.int .i64 0, .int .i64 0, .int .i64 2] 3)).alloc (.cells #[.int .i64 0, .int .i64 0, .int .i64 0] 3)) := ((Fr.refl [] w1).alloc _).alloc _
  refine (HA.out b _ _ _ (hok.fr F2) (hr1.below ((Fr.refl [] _).alloc _)) hr2).mono ?_
  rintro e w3 ⟨v, rfl, ho, f3⟩
  obtain ⟨q1, q2, q3⟩ := pl36_al b
  rw [q3 v, q1]
  rw [q2] at ho
  obtain ⟨av, cv, rfl, _, _⟩ := ho.any
  have HF := Lib.hid ((f1.trans F2).trans f3)
  have HO := Lib.hid ho
  clear hr1 hr2 F2 f3 q1 q2 q3 ho f1 hok HA
  go_wp2_with fail
  have hr3 : RdI ((w3.alloc (.cells #[.int .i64 2001, .int .i64 1000, .int .i64 100, .slice av 3 cv] 45)).alloc (.cells #[.int .i64 200, .int .i64 100, .int .i64 600] 3)) (.slice (some ⟨w3.heap.size + 1, 0, none⟩) 3 3) [200, 100, 600] := rdi_mk (by simp) [200, 100, 600] 3 3 rfl (by omega)
  have F4 : Fr [] w3 ((w3.alloc (.cells #[.int .i64 2001, .int .i64 1000, .int .i64 100, .slice av 3 cv] 45)).alloc (.cells #[.int .i64 200, .int .i64 100, .int .i64 600] 3)) := ((Fr.refl [] w3).alloc _).alloc _
  refine (same36_eq _ _ [200, 100, 600] _ _ _ _ (HO.out.rd.below F4) hr3).mono ?_
  rintro e w5 ⟨rfl, f5⟩
  have HF5 := Lib.hid ((HF.out.trans F4).trans f5)
  clear hr3 F4 f5
  go_wp2_with fail
  go_ret
  exact ⟨rfl, HF5.out⟩
end Go.Proofs.Ytdinjekpcgndmaa
/-
  A carry that came in as an argument, opened.
-/
set_option linter.unusedVariables false
namespace Go.Proofs.Ytdinjekpcgndmaa
open Go.RowKit Go.WideShapes Go.ChangeShapes
set_option maxRecDepth 20000 in
theorem open_carry {H : Type} {enc : TypeId × Value → H} {w : World} {base : Nat} {spare : Nat → Bool} {held : Bool} {r : Reach} {b0 : Nat} {v : Value} {d : DataW H} {ps : List MemPlace}
    (hval : Value.okWide Try.prog w r b0 43 v) (h : DataW.Trod enc Try.prog w base spare held 43 v d ps) : ∃ (vt : Value) (ct : List Int) (cr cl : Int), v = .agg #[vt, .int .i64 cr, .int .i64 cl] ∧ RdI w vt ct := by
  have U := Try.underlying43
  obtain ⟨cs, rfl, hsz⟩ := okWide_struct U hval
  obtain ⟨l⟩ := cs
  have hC : Try.prog.cellsOf 43 = 3 := by kernel_rfl
  rw [hC] at hsz
  obtain ⟨fuel, hy0⟩ := h
  have hy : DataW.trod enc Try.prog w base spare held fuel 43 l = some (d, ps) := by simpa [Value.cells] using hy0
  obtain ⟨c0, a0, p0, h0, r0, _⟩ := field_ints (ft := 31) U hy 0 0 rfl (by kernel_rfl) Try.underlying31 (by kernel_rfl) Try.underlying3
  obtain ⟨c1, k1, h1⟩ := field_int (ft := 3) U hy 1 1 rfl (by kernel_rfl) Try.underlying3
  obtain ⟨c2, k2, h2⟩ := field_int (ft := 3) U hy 2 2 rfl (by kernel_rfl) Try.underlying3
  refine ⟨.slice a0 c0.length p0, c0, c1, c2, ?_, r0⟩
  clear hy hy0 hval U hC
  match l, hsz with
  | [x0, x1, x2], _ =>
    simp at h0 h1 h2
    simp [h0, h1, h2]
end Go.Proofs.Ytdinjekpcgndmaa
/-
  A slice of integers that came in as an argument, opened.
-/
set_option linter.unusedVariables false
namespace Go.Proofs.Ytdinjekpcgndmaa
open Go.RowKit Go.WideShapes Go.ChangeShapes
set_option maxRecDepth 100000 in
theorem open_intarg {H : Type} {enc : TypeId × Value → H} {w : World} {base : Nat} {spare : Nat → Bool} {held : Bool} {r : Reach} {b0 : Nat} {v : Value} {d : DataW H} {ps : List MemPlace}
    (hval : Value.okWide Try.prog w r b0 31 v) (h : DataW.Trod enc Try.prog w base spare held 31 v d ps) : ∃ l : List Int, RdI w v l ∧ ∀ z ∈ l, (Lit.int .i64 z).wf = true := by
  obtain ⟨l, hl, hq⟩ := open_arg (fun x => [(0, Value.int .i64 x)]) (fun z => (Lit.int .i64 z).wf = true) 1 Try.underlying31 (by kernel_rfl) (by omega) (open_el_int Try.underlying3) hval h
  exact ⟨l, hl.ints, hq⟩
end Go.Proofs.Ytdinjekpcgndmaa
