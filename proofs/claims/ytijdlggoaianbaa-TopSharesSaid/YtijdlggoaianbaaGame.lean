/-
  GAMES: a game's plain data ('Gm'), its value, how it lies in memory, and a game that came in as an argument, opened.
-/
import Derived.Test.YtijdlggoaianbaaOpen
set_option linter.unusedVariables false
namespace Go.Proofs.Ytijdlggoaianbaa
open Go.RowKit Go.WideShapes Go.ChangeShapes
def pairs (l : List Value) : List (Nat × Value) := l.zipIdx.map fun x => (x.2, x.1)
theorem mem_pairs {l : List Value} {i : Nat} {u : Value} : (i, u) ∈ pairs l ↔ l[i]? = some u := by
  unfold pairs
  rw [List.mem_map]
  constructor
  · rintro ⟨⟨a, b⟩, h, h2⟩
    simp only [Prod.mk.injEq] at h2
    obtain ⟨rfl, rfl⟩ := h2
    have := List.mem_zipIdx_iff_getElem?.1 h
    simpa using this
  · intro h
    exact ⟨(u, i), List.mem_zipIdx_iff_getElem?.2 (by simpa using h), rfl⟩
/-- an integer of 64 bits -/
def W64 (z : Int) : Prop := (Lit.int .i64 z).wf = true
structure Ad where
  name : ByteArray
  kind : Int
  price : Int
  fa : Option Addr
  fc : Nat
  factors : List Int
  digits : Int
  pa : Option Addr
  pc : Nat
  prizes : List Int
instance : Inhabited Ad := ⟨⟨ByteArray.empty, 0, 0, none, 0, [], 0, none, 0, []⟩⟩
def Ad.fv (a : Ad) : Value := .slice a.fa a.factors.length a.fc
def Ad.pv (a : Ad) : Value := .slice a.pa a.prizes.length a.pc
def Ad.cells (a : Ad) : List Value := [.string a.name, .int .i64 a.kind, .int .i64 a.price, .slice a.fa a.factors.length a.fc, .int .i64 a.digits, .slice a.pa a.prizes.length a.pc]
def adF (a : Ad) : List (Nat × Value) := pairs a.cells
structure Ad.Ok (w : World) (a : Ad) : Prop where
  name : a.name.size ≤ maxLen
  kind : W64 a.kind
  price : W64 a.price
  digits : W64 a.digits
  rf : RdI w (.slice a.fa a.factors.length a.fc) a.factors
  rp : RdI w (.slice a.pa a.prizes.length a.pc) a.prizes
  wf : ∀ z ∈ a.factors, W64 z
  wp : ∀ z ∈ a.prizes, W64 z
structure Ti where
  main : Int
  bonus : Int
  extra : Int
  mode : Int
  kind : Int
  value : Int
instance : Inhabited Ti := ⟨⟨0, 0, 0, 0, 0, 0⟩⟩
def Ti.cells (t : Ti) : List Value := [.int .i64 t.main, .int .i64 t.bonus, .int .i64 t.extra, .int .i64 t.mode, .int .i64 t.kind, .int .i64 t.value]
def tiF (t : Ti) : List (Nat × Value) := pairs t.cells
structure Ti.Ok (t : Ti) : Prop where
  main : W64 t.main
  bonus : W64 t.bonus
  extra : W64 t.extra
  mode : W64 t.mode
  kind : W64 t.kind
  value : W64 t.value
structure Gm where
  name : ByteArray
  kind : Int
  price : Int
  main : Int
  of_ : Int
  bonus : Int
  bonusof : Int
  extra : Int
  draws : Int
  system : Int
  days : Int
  at_ : Int
  close : Int
  cancel : Int
  expiry : Int
  pool : Int
  reserve : Int
  round : Int
  cap : Int
  rolls : Int
  aa : Option Addr
  ac : Nat
  addons : List Ad
  ta : Option Addr
  tc : Nat
  tiers : List Ti
def Gm.cells (g : Gm) : List Value := [.string g.name, .int .i64 g.kind, .int .i64 g.price, .int .i64 g.main, .int .i64 g.of_, .int .i64 g.bonus, .int .i64 g.bonusof, .int .i64 g.extra, .int .i64 g.draws, .int .i64 g.system, .int .i64 g.days, .int .i64 g.at_, .int .i64 g.close, .int .i64 g.cancel, .int .i64 g.expiry, .int .i64 g.pool, .int .i64 g.reserve, .int .i64 g.round, .int .i64 g.cap, .int .i64 g.rolls, .slice g.aa g.addons.length g.ac, .slice g.ta g.tiers.length g.tc]
def Gm.val (g : Gm) : Value := .agg #[.string g.name, .int .i64 g.kind, .int .i64 g.price, .int .i64 g.main, .int .i64 g.of_, .int .i64 g.bonus, .int .i64 g.bonusof, .int .i64 g.extra, .int .i64 g.draws, .int .i64 g.system, .int .i64 g.days, .int .i64 g.at_, .int .i64 g.close, .int .i64 g.cancel, .int .i64 g.expiry, .int .i64 g.pool, .int .i64 g.reserve, .int .i64 g.round, .int .i64 g.cap, .int .i64 g.rolls, .slice g.aa g.addons.length g.ac, .slice g.ta g.tiers.length g.tc]
structure Ads (w : World) (a : Option Addr) (c : Nat) (l : List Ad) : Prop where
  rd : RdF 6 adF w (.slice a l.length c) l
  ok : ∀ x ∈ l, x.Ok w
structure Tis (w : World) (a : Option Addr) (c : Nat) (l : List Ti) : Prop where
  rd : RdF 6 tiF w (.slice a l.length c) l
  ok : ∀ x ∈ l, x.Ok
structure Gm.Ok (w : World) (g : Gm) : Prop where
  name : g.name.size ≤ maxLen
  kind : W64 g.kind
  price : W64 g.price
  main : W64 g.main
  of_ : W64 g.of_
  bonus : W64 g.bonus
  bonusof : W64 g.bonusof
  extra : W64 g.extra
  draws : W64 g.draws
  system : W64 g.system
  days : W64 g.days
  at_ : W64 g.at_
  close : W64 g.close
  cancel : W64 g.cancel
  expiry : W64 g.expiry
  pool : W64 g.pool
  reserve : W64 g.reserve
  round : W64 g.round
  cap : W64 g.cap
  rolls : W64 g.rolls
  addons : Ads w g.aa g.ac g.addons
  tiers : Tis w g.ta g.tc g.tiers
theorem Ad.Ok.fr {w w' : World} {a : Ad} (h : a.Ok w) (hf : Fr [] w w') : a.Ok w' := ⟨h.name, h.kind, h.price, h.digits, h.rf.below hf, h.rp.below hf, h.wf, h.wp⟩
theorem Ads.fr {w w' : World} {a : Option Addr} {c : Nat} {l : List Ad} (h : Ads w a c l) (hf : Fr [] w w') : Ads w' a c l := ⟨h.rd.below hf, fun x hx => (h.ok x hx).fr hf⟩
theorem Tis.fr {w w' : World} {a : Option Addr} {c : Nat} {l : List Ti} (h : Tis w a c l) (hf : Fr [] w w') : Tis w' a c l := ⟨h.rd.below hf, h.ok⟩
theorem Gm.Ok.fr {w w' : World} {g : Gm} (h : g.Ok w) (hf : Fr [] w w') : g.Ok w' := ⟨h.name, h.kind, h.price, h.main, h.of_, h.bonus, h.bonusof, h.extra, h.draws, h.system, h.days, h.at_, h.close, h.cancel, h.expiry, h.pool, h.reserve, h.round, h.cap, h.rolls, h.addons.fr hf, h.tiers.fr hf⟩
theorem RdF.at {α : Type} {c n cap : Nat} {f : α → List Value} {w : World} {a : Option Addr} {l : List α} (h : RdF c (fun x => pairs (f x)) w (.slice a n cap) l) {j : Nat} {x : α} (hx : l[j]? = some x) :
    ∃ g o, a = some ⟨g, o, none⟩ ∧ ∀ i y, (f x)[i]? = some y → w.cell? ⟨g, o + j * c + i, none⟩ = some y := by
  obtain ⟨a', cap', hv, _, _, h3⟩ := h
  simp only [Value.slice.injEq] at hv
  obtain ⟨rfl, _, rfl⟩ := hv
  obtain ⟨g, o, rfl, hc⟩ := h3 j x hx
  exact ⟨g, o, rfl, fun i y hy => by rw [Nat.add_assoc]; exact hc i y (mem_pairs.2 hy)⟩
theorem RdF.len {α : Type} {c n cap : Nat} {f : α → List (Nat × Value)} {w : World} {a : Option Addr} {l : List α} (h : RdF c f w (.slice a n cap) l) : n = l.length ∧ l.length ≤ maxLen := by
  obtain ⟨a', cap', hv, h1, h2, _⟩ := h
  simp only [Value.slice.injEq] at hv
  exact ⟨hv.2.1, Nat.le_trans h1 h2⟩
section
variable {H : Type} {enc : TypeId × Value → H} {P : Program} {w : World} {base : Nat} {spare : Nat → Bool} {held : Bool}
theorem field_rows {α : Type} [Inhabited α] (f : α → List (Nat × Value)) (Q : α → Prop) (c : Nat) {t ft fe : TypeId} {fs : Array Field} {n : Nat} {cs : List Value} {x : DataW H × List MemPlace} (ht : P.underlying t = some (.struct fs)) (h : DataW.trod enc P w base spare held n t cs = some x) (i fo : Nat)
    (hf : (fs[i]?).map (fun f => (f.type, f.offset)) = some (ft, fo)) (hc : P.cellsOf ft = 1) (hi : P.underlying ft = some (.slice fe)) (hce : P.cellsOf fe = c) (hc1 : 1 ≤ c)
    (hel : ∀ n cs y, DataW.trod enc P w base spare held n fe cs = some y → ∃ z : α, Q z ∧ ∀ i u, (i, u) ∈ f z → cs[i]? = some u) :
    ∃ (l : List α) (a : Option Addr) (cap : Nat), cs[fo]? = some (.slice a l.length cap) ∧ RdF c f w (.slice a l.length cap) l ∧ ∀ z ∈ l, Q z := by
  obtain ⟨m, y, hy⟩ := open_field ht h i ft fo 1 hf hc
  obtain ⟨v, hv⟩ : ∃ v, (cs.drop fo).take 1 = [v] := by
    rcases Deep.open_slice hi hy with ⟨h0, _⟩ | ⟨a, len, cap, m, n, D, Pl, h0, _⟩
    · exact ⟨_, h0⟩
    · exact ⟨_, h0⟩
  rw [hv] at hy
  obtain ⟨l, hl, hq⟩ := open_rdf f Q c hi hce hc1 hel hy
  have hl' := hl
  obtain ⟨a, cap, rfl, _⟩ := hl'
  exact ⟨l, a, cap, take_drop_one hv, hl, hq⟩
theorem field_ints {t ft fe : TypeId} {fs : Array Field} {n : Nat} {cs : List Value} {x : DataW H × List MemPlace} (ht : P.underlying t = some (.struct fs)) (h : DataW.trod enc P w base spare held n t cs = some x) (i fo : Nat)
    (hf : (fs[i]?).map (fun f => (f.type, f.offset)) = some (ft, fo)) (hc : P.cellsOf ft = 1) (hi : P.underlying ft = some (.slice fe)) (hce : P.cellsOf fe = 1) (he : P.underlying fe = some (.int .i64)) :
    ∃ (l : List Int) (a : Option Addr) (cap : Nat), cs[fo]? = some (.slice a l.length cap) ∧ RdI w (.slice a l.length cap) l ∧ ∀ z ∈ l, W64 z := by
  obtain ⟨l, a, cap, h1, h2, h3⟩ := field_rows (fun x => [(0, Value.int .i64 x)]) (fun z => (Lit.int .i64 z).wf = true) 1 ht h i fo hf hc hi hce (by omega) (open_el_int he)
  exact ⟨l, a, cap, h1, h2.ints, h3⟩
end
section
variable {H : Type} {enc : TypeId × Value → H} {w : World} {base : Nat} {spare : Nat → Bool} {held : Bool}
theorem open_el_addon : ∀ n cs y, DataW.trod enc Try.prog w base spare held n 94 cs = some y → ∃ z : Ad, z.Ok w ∧ ∀ i u, (i, u) ∈ adF z → cs[i]? = some u := by
  intro n cs y hy
  have U := Try.underlying94
  obtain ⟨c0, k0, h0⟩ := field_string (ft := 9) U hy 0 0 rfl (by kernel_rfl) Try.underlying9
  obtain ⟨c1, k1, h1⟩ := field_int (ft := 3) U hy 1 1 rfl (by kernel_rfl) Try.underlying3
  obtain ⟨c2, k2, h2⟩ := field_int (ft := 3) U hy 2 2 rfl (by kernel_rfl) Try.underlying3
  obtain ⟨c3, a3, p3, h3, r3, q3⟩ := field_ints (ft := 25) U hy 3 3 rfl (by kernel_rfl) Try.underlying25 (by kernel_rfl) Try.underlying3
  obtain ⟨c4, k4, h4⟩ := field_int (ft := 3) U hy 4 4 rfl (by kernel_rfl) Try.underlying3
  obtain ⟨c5, a5, p5, h5, r5, q5⟩ := field_ints (ft := 25) U hy 5 5 rfl (by kernel_rfl) Try.underlying25 (by kernel_rfl) Try.underlying3
  refine ⟨⟨c0, c1, c2, a3, p3, c3, c4, a5, p5, c5⟩, ⟨k0, k1, k2, k4, r3, r5, q3, q5⟩, fun i u hu => ?_⟩
  rw [adF, mem_pairs] at hu
  match i, hu with
  | 0, hu => simp [Ad.cells] at hu; subst hu; exact h0
  | 1, hu => simp [Ad.cells] at hu; subst hu; exact h1
  | 2, hu => simp [Ad.cells] at hu; subst hu; exact h2
  | 3, hu => simp [Ad.cells] at hu; subst hu; exact h3
  | 4, hu => simp [Ad.cells] at hu; subst hu; exact h4
  | 5, hu => simp [Ad.cells] at hu; subst hu; exact h5
  | i + 6, hu => simp [Ad.cells] at hu
theorem open_el_tier : ∀ n cs y, DataW.trod enc Try.prog w base spare held n 66 cs = some y → ∃ z : Ti, z.Ok ∧ ∀ i u, (i, u) ∈ tiF z → cs[i]? = some u := by
  intro n cs y hy
  have U := Try.underlying66
  obtain ⟨c0, k0, h0⟩ := field_int (ft := 3) U hy 0 0 rfl (by kernel_rfl) Try.underlying3
  obtain ⟨c1, k1, h1⟩ := field_int (ft := 3) U hy 1 1 rfl (by kernel_rfl) Try.underlying3
  obtain ⟨c2, k2, h2⟩ := field_int (ft := 3) U hy 2 2 rfl (by kernel_rfl) Try.underlying3
  obtain ⟨c3, k3, h3⟩ := field_int (ft := 3) U hy 3 3 rfl (by kernel_rfl) Try.underlying3
  obtain ⟨c4, k4, h4⟩ := field_int (ft := 3) U hy 4 4 rfl (by kernel_rfl) Try.underlying3
  obtain ⟨c5, k5, h5⟩ := field_int (ft := 3) U hy 5 5 rfl (by kernel_rfl) Try.underlying3
  refine ⟨⟨c0, c1, c2, c3, c4, c5⟩, ⟨k0, k1, k2, k3, k4, k5⟩, fun i u hu => ?_⟩
  rw [tiF, mem_pairs] at hu
  match i, hu with
  | 0, hu => simp [Ti.cells] at hu; subst hu; exact h0
  | 1, hu => simp [Ti.cells] at hu; subst hu; exact h1
  | 2, hu => simp [Ti.cells] at hu; subst hu; exact h2
  | 3, hu => simp [Ti.cells] at hu; subst hu; exact h3
  | 4, hu => simp [Ti.cells] at hu; subst hu; exact h4
  | 5, hu => simp [Ti.cells] at hu; subst hu; exact h5
  | i + 6, hu => simp [Ti.cells] at hu
set_option maxRecDepth 20000 in
theorem open_game {r : Reach} {b0 : Nat} {v : Value} {d : DataW H} {ps : List MemPlace}
    (hval : Value.okWide Try.prog w r b0 47 v) (h : DataW.Trod enc Try.prog w base spare held 47 v d ps) : ∃ g : Gm, v = g.val ∧ g.Ok w := by
  have U := Try.underlying47
  obtain ⟨cs, rfl, hsz⟩ := okWide_struct U hval
  obtain ⟨l⟩ := cs
  have hC : Try.prog.cellsOf 47 = 22 := by kernel_rfl
  rw [hC] at hsz
  obtain ⟨fuel, hy0⟩ := h
  have hy : DataW.trod enc Try.prog w base spare held fuel 47 l = some (d, ps) := by simpa [Value.cells] using hy0
  obtain ⟨c0, k0, h0⟩ := field_string (ft := 9) U hy 0 0 rfl (by kernel_rfl) Try.underlying9
  obtain ⟨c1, k1, h1⟩ := field_int (ft := 3) U hy 1 1 rfl (by kernel_rfl) Try.underlying3
  obtain ⟨c2, k2, h2⟩ := field_int (ft := 3) U hy 2 2 rfl (by kernel_rfl) Try.underlying3
  obtain ⟨c3, k3, h3⟩ := field_int (ft := 3) U hy 3 3 rfl (by kernel_rfl) Try.underlying3
  obtain ⟨c4, k4, h4⟩ := field_int (ft := 3) U hy 4 4 rfl (by kernel_rfl) Try.underlying3
  obtain ⟨c5, k5, h5⟩ := field_int (ft := 3) U hy 5 5 rfl (by kernel_rfl) Try.underlying3
  obtain ⟨c6, k6, h6⟩ := field_int (ft := 3) U hy 6 6 rfl (by kernel_rfl) Try.underlying3
  obtain ⟨c7, k7, h7⟩ := field_int (ft := 3) U hy 7 7 rfl (by kernel_rfl) Try.underlying3
  obtain ⟨c8, k8, h8⟩ := field_int (ft := 3) U hy 8 8 rfl (by kernel_rfl) Try.underlying3
  obtain ⟨c9, k9, h9⟩ := field_int (ft := 3) U hy 9 9 rfl (by kernel_rfl) Try.underlying3
  obtain ⟨c10, k10, h10⟩ := field_int (ft := 3) U hy 10 10 rfl (by kernel_rfl) Try.underlying3
  obtain ⟨c11, k11, h11⟩ := field_int (ft := 3) U hy 11 11 rfl (by kernel_rfl) Try.underlying3
  obtain ⟨c12, k12, h12⟩ := field_int (ft := 3) U hy 12 12 rfl (by kernel_rfl) Try.underlying3
  obtain ⟨c13, k13, h13⟩ := field_int (ft := 3) U hy 13 13 rfl (by kernel_rfl) Try.underlying3
  obtain ⟨c14, k14, h14⟩ := field_int (ft := 3) U hy 14 14 rfl (by kernel_rfl) Try.underlying3
  obtain ⟨c15, k15, h15⟩ := field_int (ft := 3) U hy 15 15 rfl (by kernel_rfl) Try.underlying3
  obtain ⟨c16, k16, h16⟩ := field_int (ft := 3) U hy 16 16 rfl (by kernel_rfl) Try.underlying3
  obtain ⟨c17, k17, h17⟩ := field_int (ft := 3) U hy 17 17 rfl (by kernel_rfl) Try.underlying3
  obtain ⟨c18, k18, h18⟩ := field_int (ft := 3) U hy 18 18 rfl (by kernel_rfl) Try.underlying3
  obtain ⟨c19, k19, h19⟩ := field_int (ft := 3) U hy 19 19 rfl (by kernel_rfl) Try.underlying3
  obtain ⟨c20, a20, p20, h20, r20, q20⟩ := field_rows adF (fun z => z.Ok w) 6 (ft := 44) U hy 20 20 rfl (by kernel_rfl) Try.underlying44 (by kernel_rfl) (by omega) open_el_addon
  obtain ⟨c21, a21, p21, h21, r21, q21⟩ := field_rows tiF (fun z => z.Ok) 6 (ft := 45) U hy 21 21 rfl (by kernel_rfl) Try.underlying45 (by kernel_rfl) (by omega) open_el_tier
  refine ⟨⟨c0, c1, c2, c3, c4, c5, c6, c7, c8, c9, c10, c11, c12, c13, c14, c15, c16, c17, c18, c19, a20, p20, c20, a21, p21, c21⟩, ?_, ⟨k0, k1, k2, k3, k4, k5, k6, k7, k8, k9, k10, k11, k12, k13, k14, k15, k16, k17, k18, k19, ⟨r20, q20⟩, ⟨r21, q21⟩⟩⟩
  clear hy hy0 hval r20 q20 r21 q21 U hC
  match l, hsz with
  | [x0, x1, x2, x3, x4, x5, x6, x7, x8, x9, x10, x11, x12, x13, x14, x15, x16, x17, x18, x19, x20, x21], _ =>
    simp at h0 h1 h2 h3 h4 h5 h6 h7 h8 h9 h10 h11 h12 h13 h14 h15 h16 h17 h18 h19 h20 h21
    simp [Gm.val, h0, h1, h2, h3, h4, h5, h6, h7, h8, h9, h10, h11, h12, h13, h14, h15, h16, h17, h18, h19, h20, h21]
end
end Go.Proofs.Ytijdlggoaianbaa
