/-
  TopInstants: slices.Clone of tickets; packs.New up to what it lays in memory.
-/
import Derived.Test.YtijdlggoaianbaaDoorDkB
import Derived.Test.YtijdlggoaianbaaDoorMapI
import Derived.Maps.AppendAt
import Derived.Lib.SliceRun
set_option linter.unusedVariables false
namespace Go.Proofs.YtijdlggoaianbaaDoor
open Go.RowKit
def tkV (Z : Nat) (C : Nat → ByteArray) (pr : Nat → Int) (j : Nat) : Value :=
  if j % 4 = 0 then .int .i64 (((j / 4 : Nat) : Int) / (Z : Int) + 1) else if j % 4 = 1 then .int .i64 (((j / 4 : Nat) : Int) % (Z : Int) + 1) else if j % 4 = 2 then .int .i64 (pr (j / 4)) else .string (C (j / 4))
theorem TkAt.v {w : World} {g N Z : Nat} {C : Nat → ByteArray} {pr : Nat → Int} (h : TkAt w g N Z C pr) (j : Nat) (hj : j < N * 4) : w.cell? ⟨g, j, none⟩ = some (tkV Z C pr j) := by
  have hi : j / 4 < N := by omega
  unfold tkV
  have h4 : j % 4 < 4 := by omega
  by_cases e0 : j % 4 = 0
  · rw [if_pos e0, ← h.c0 _ hi]; congr 2; omega
  · rw [if_neg e0]
    by_cases e1 : j % 4 = 1
    · rw [if_pos e1, ← h.c1 _ hi]; congr 2; omega
    · rw [if_neg e1]
      by_cases e2 : j % 4 = 2
      · rw [if_pos e2, ← h.c2 _ hi]; congr 2; omega
      · rw [if_neg e2, ← h.c3 _ hi]; congr 2; omega
theorem TkAt.of_v {w : World} {g N Z : Nat} {C : Nat → ByteArray} {pr : Nat → Int} (hlt : g < w.heap.size) (hfz : ∀ j, w.frozen? ⟨g, j, none⟩ = false) (h : ∀ j, j < N * 4 → w.cell? ⟨g, j, none⟩ = some (tkV Z C pr j)) : TkAt w g N Z C pr := by
  have d : ∀ i j, j < 4 → (i * 4 + j) / 4 = i ∧ (i * 4 + j) % 4 = j := fun i j hj => by omega
  refine ⟨hlt, hfz, ?_, ?_, ?_, ?_⟩
  · intro i hi
    have := h (i * 4 + 0) (by omega)
    unfold tkV at this
    rw [(d i 0 (by omega)).1, (d i 0 (by omega)).2, if_pos rfl] at this
    exact this
  · intro i hi
    have := h (i * 4 + 1) (by omega)
    unfold tkV at this
    rw [(d i 1 (by omega)).1, (d i 1 (by omega)).2, if_neg (by omega), if_pos rfl] at this
    exact this
  · intro i hi
    have := h (i * 4 + 2) (by omega)
    unfold tkV at this
    rw [(d i 2 (by omega)).1, (d i 2 (by omega)).2, if_neg (by omega), if_neg (by omega), if_pos rfl] at this
    exact this
  · intro i hi
    have := h (i * 4 + 3) (by omega)
    unfold tkV at this
    rw [(d i 3 (by omega)).1, (d i 3 (by omega)).2, if_neg (by omega), if_neg (by omega), if_neg (by omega)] at this
    exact this
theorem tkV_one (Z : Nat) (C : Nat → ByteArray) (pr : Nat → Int) (j : Nat) : (tkV Z C pr j).oneCell' = true := by
  unfold tkV
  split
  · rfl
  · split
    · rfl
    · split <;> rfl
set_option maxHeartbeats 1000000 in
theorem cloneT_any (g N Z : Nat) (C : Nat → ByteArray) (pr : Nat → Int) (w : World) (ht : TkAt w g N Z C pr) (h0 : 0 < N) (hN : N ≤ 36) :
    Calls Tryd.prog 18 #[.slice (some ⟨g, 0, none⟩) N N] w fun e w' => ∃ gk capk, e = .returned (.slice (some ⟨gk, 0, none⟩) N capk) ∧ w.heap.size ≤ gk ∧ TkAt w' gk N Z C pr ∧ Fr [] w w' := by
  obtain ⟨i0, hi, hz0, hz1, hz2⟩ := info_parts infoTk
  have q22 : ∀ (w : World) (a : Option Addr) (n c n' c' : Nat), (binOp .eql 32 (.slice a n c) (.slice none n' c')).run Tryd.prog w = .ok (.bool a.isNone) w := fun w a n c n' c' => Lib.run_eql_slice_nil w _ _ a n c n' c' Tryd.underlying32
  have HT := Lib.hid ht
  clear ht
  go_enter Tryd.func18, Tryd.ntmps18
  go_wp2_with (at_builtin; refine wpList_append_own _ rfl _ _ 32 rfl w.heap.size 40 i0 (.agg zT) 4 40 Tryd.underlying32 hi hz0 hz1 hz2 rfl (by decide) _ _ _ rfl (World.ownsRow_made w #[] 0 (Nat.le_refl _) (Nat.zero_le _) rfl) ⟨g, 0, none⟩ N N ((List.range (N * 4)).map (tkV Z C pr)) rfl ?qc1 ?qc2 ?qc3 ?qc4 ?qc5 ?qc6 ?_)
  case qc1 => simp
  case qc2 =>
    intro j u hj
    have hjn : j < N * 4 := by
      have := (List.getElem?_eq_some_iff.1 hj).1
      simpa using this
    rw [Addr.add_lit]
    refine ((Fr.refl [] w).alloc _).cell_some ?_ (by simp)
    rw [Nat.zero_add, HT.out.v j hjn]
    have e : ((List.range (N * 4)).map (tkV Z C pr))[j]? = some (tkV Z C pr j) := by simp [hjn]
    rw [e] at hj
    exact hj
  case qc3 => intro u hu; obtain ⟨x, _, rfl⟩ := List.mem_map.1 hu; exact tkV_one _ _ _ _
  case qc4 => unfold maxLen; omega
  case qc5 => omega
  case qc6 => simp
  intro v' w1 hown hgrow hnil
  have HF : Fr [] w w1 := ((Fr.refl [] w).alloc _).grown hgrow (by intro k hk; simp [Value.ownBlock] at hk; right; omega)
  have hown2 : w1.ownsRow w.heap.size 40 4 v' N ((List.range (N * 4)).map (tkV Z C pr)) := by simpa using hown
  obtain ⟨gk, capk, rfl, hgk, hlt⟩ : ∃ gk capk, v' = .slice (some ⟨gk, 0, none⟩) N capk ∧ w.heap.size ≤ gk ∧ gk < w1.heap.size := by
    rcases hown2.2 with ⟨_, h2⟩ | ⟨gk, capk, cur, hv, hb, hh, _⟩
    · omega
    · exact ⟨gk, capk, hv, hb, (Array.getElem?_eq_some_iff.1 hh).1⟩
  have HTK : TkAt w1 gk N Z C pr := TkAt.of_v hlt (fun j => World.ownsRow.frozenAt hown2 j) (fun j hj => by rw [World.ownsRow.cellAt hown2 j hj]; simp [hj])
  have HTK := Lib.hid HTK
  have HF := Lib.hid HF
  clear hown hgrow hnil hown2
  go_wp2
  go_ret
  exact ⟨gk, capk, rfl, hgk, HTK.out, HF.out⟩
theorem cdS_size (sd : Int) (i : Nat) : (cdS sd i).size ≤ maxLen := by
  unfold cdS hexS hexL
  rw [strOfNums_size]
  simp [maxLen]
def zP : Array Value := #[.int .i64 0, .int .i64 0, .bool false]
/-- P packs in block g: state, terminal, was a ticket scratched -/
structure PaAt (w : World) (g P : Nat) (st te : Nat → Int) (sc : Nat → Bool) : Prop where
  lt : g < w.heap.size
  fz : ∀ j, w.frozen? ⟨g, j, none⟩ = false
  c0 : ∀ i, i < P → w.cell? ⟨g, i * 3, none⟩ = some (.int .i64 (st i))
  c1 : ∀ i, i < P → w.cell? ⟨g, i * 3 + 1, none⟩ = some (.int .i64 (te i))
  c2 : ∀ i, i < P → w.cell? ⟨g, i * 3 + 2, none⟩ = some (.bool (sc i))
theorem PaAt.fr {bs : List Nat} {w w' : World} {g P : Nat} {st te : Nat → Int} {sc : Nat → Bool} (h : PaAt w g P st te sc) (hf : Fr bs w w') (hn : g ∉ bs) : PaAt w' g P st te sc :=
  ⟨Nat.lt_of_lt_of_le h.lt hf.size, fun j => (hf.frozen (p := ⟨g, j, none⟩) h.lt hn).trans (h.fz j), fun i hi => hf.cell_some (h.c0 i hi) hn, fun i hi => hf.cell_some (h.c1 i hi) hn, fun i hi => hf.cell_some (h.c2 i hi) hn⟩
theorem PaAt.zero (w : World) (P : Nat) (e : TypeId) : PaAt (w.alloc (.cells (madeCells zP (P * 3)) e)) w.heap.size P (fun _ => 0) (fun _ => 0) (fun _ => false) := by
  have h : ∀ i j, i < P → j < 3 → (w.alloc (.cells (madeCells zP (P * 3)) e)).cell? ⟨w.heap.size, i * 3 + j, none⟩ = some (zP[j]!) := fun i j hi hj => by
    rw [World.cell?_alloc_at _ _ _ _ rfl, made_cell _ _ _ (by omega)]
    have e : (i * 3 + j) % zP.size = j := by show (i * 3 + j) % 3 = j; omega
    rw [e]
  exact ⟨by simp, fun j => World.frozen?_alloc_at _ _ _ _ rfl, fun i hi => h i 0 hi (by omega), fun i hi => h i 1 hi (by omega), fun i hi => h i 2 hi (by omega)⟩
/-- N flags in block g -/
structure BoAt (w : World) (g N : Nat) (f : Nat → Bool) : Prop where
  lt : g < w.heap.size
  fz : ∀ j, w.frozen? ⟨g, j, none⟩ = false
  c : ∀ i, i < N → w.cell? ⟨g, i, none⟩ = some (.bool (f i))
theorem BoAt.fr {bs : List Nat} {w w' : World} {g N : Nat} {f : Nat → Bool} (h : BoAt w g N f) (hf : Fr bs w w') (hn : g ∉ bs) : BoAt w' g N f :=
  ⟨Nat.lt_of_lt_of_le h.lt hf.size, fun j => (hf.frozen (p := ⟨g, j, none⟩) h.lt hn).trans (h.fz j), fun i hi => hf.cell_some (h.c i hi) hn⟩
theorem BoAt.zero (w : World) (N : Nat) (e : TypeId) : BoAt (w.alloc (.cells (madeCells #[.bool false] N) e)) w.heap.size N (fun _ => false) := by
  refine ⟨by simp, fun j => World.frozen?_alloc_at _ _ _ _ rfl, fun i hi => ?_⟩
  rw [World.cell?_alloc_at _ _ _ _ rfl, made_cell _ _ _ hi]
  simp [Nat.mod_one]
theorem infoPa : (Tryd.prog.info? 62).map (fun i => (i.zero, i.size, i.bytes)) = some (some (.agg zP), 3, 24) := by kernel_rfl
theorem infoBl : (Tryd.prog.info? 4).map (fun i => (i.zero, i.size, i.bytes)) = some (some (.bool false), 1, 1) := by kernel_rfl
theorem make_pa (N : Nat) (hN : N ≤ 36) (w : World) : (Instr.makeSlice 54 (.int .i64 N) (.int .i64 N)).run Tryd.prog w = .ok (.slice (some ⟨w.heap.size, 0, none⟩) N N) (w.alloc (.cells (madeCells zP (N * 3)) 62)) := by
  obtain ⟨i0, hi0, hz0, hz1, hz2⟩ := info_parts infoPa
  have := run_make (P := Tryd.prog) (w := w) 54 62 i0 _ Tryd.underlying54 hi0 hz0 .i64 .i64 N N (by omega) (by omega) (by rw [hz2]; omega) (by omega)
  rw [hz1] at this
  have e : (Value.agg zP).cells = zP := rfl
  rw [e] at this
  simpa using this
theorem make_bo (N : Nat) (hN : N ≤ 36) (w : World) : (Instr.makeSlice 56 (.int .i64 N) (.int .i64 N)).run Tryd.prog w = .ok (.slice (some ⟨w.heap.size, 0, none⟩) N N) (w.alloc (.cells (madeCells #[.bool false] N) 4)) := by
  obtain ⟨i0, hi0, hz0, hz1, hz2⟩ := info_parts infoBl
  have := run_make (P := Tryd.prog) (w := w) 56 4 i0 _ Tryd.underlying56 hi0 hz0 .i64 .i64 N N (by omega) (by omega) (by rw [hz2]; omega) (by omega)
  rw [hz1] at this
  have e : (Value.bool false).cells = #[.bool false] := rfl
  rw [e] at this
  simpa using this
/-- where the packs lie -/
structure PkFix where
  x : Nat
  gp : Nat
  gk : Nat
  capk : Nat
  gs : Nat
  m : Nat
  P : Nat
  Z : Nat
  N : Nat
  C : Nat → ByteArray
  pr : Nat → Int
/-- the packs, as they lie in memory -/
structure PkAt (X : PkFix) (w : World) (st te : Nat → Int) (sc : Nat → Bool) (f : Nat → Bool) (paid sum : Int) : Prop where
  lt : X.x < w.heap.size
  fz : ∀ j, w.frozen? ⟨X.x, j, none⟩ = false
  x0 : w.cell? ⟨X.x, 0, none⟩ = some (.slice (some ⟨X.gp, 0, none⟩) X.P X.P)
  x1 : w.cell? ⟨X.x, 1, none⟩ = some (.slice (some ⟨X.gk, 0, none⟩) X.N X.capk)
  x2 : w.cell? ⟨X.x, 2, none⟩ = some (.slice (some ⟨X.gs, 0, none⟩) X.N X.N)
  x3 : w.cell? ⟨X.x, 3, none⟩ = some (.map (some X.m))
  x4 : w.cell? ⟨X.x, 4, none⟩ = some (.int .i64 paid)
  x5 : w.cell? ⟨X.x, 5, none⟩ = some (.int .i64 sum)
  pa : PaAt w X.gp X.P st te sc
  tk : TkAt w X.gk X.N X.Z X.C X.pr
  bo : BoAt w X.gs X.N f
  mp : IdxM Tryd.prog 9 3 w X.m X.N X.C
  d1 : X.x ≠ X.gp ∧ X.x ≠ X.gk ∧ X.x ≠ X.gs ∧ X.x ≠ X.m
  d2 : X.gp ≠ X.gk ∧ X.gp ≠ X.gs ∧ X.gp ≠ X.m ∧ X.gk ≠ X.gs ∧ X.gk ≠ X.m ∧ X.gs ≠ X.m
theorem PkAt.fr {X : PkFix} {w w' : World} {st te : Nat → Int} {sc f : Nat → Bool} {paid sum : Int} (h : PkAt X w st te sc f paid sum) (hf : Fr [] w w') : PkAt X w' st te sc f paid sum where
  lt := Nat.lt_of_lt_of_le h.lt hf.size
  fz j := (hf.frozen (p := ⟨X.x, j, none⟩) h.lt (by simp)).trans (h.fz j)
  x0 := hf.cell_some h.x0 (by simp)
  x1 := hf.cell_some h.x1 (by simp)
  x2 := hf.cell_some h.x2 (by simp)
  x3 := hf.cell_some h.x3 (by simp)
  x4 := hf.cell_some h.x4 (by simp)
  x5 := hf.cell_some h.x5 (by simp)
  pa := h.pa.fr hf (by simp)
  tk := h.tk.fr hf (by simp)
  bo := h.bo.fr hf (by simp)
  mp := h.mp.fr hf (by simp)
  d1 := h.d1
  d2 := h.d2
end Go.Proofs.YtijdlggoaianbaaDoor
