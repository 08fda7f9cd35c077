/-
  TopInstants: all tickets of a deck scratched once, from any one on: the plan's prizes are paid, each once; the packs cannot be returned. No conditions but the table of digits, which the card ties to the program's text.
-/
import Derived.Test.YtijdlggoaianbaaDoorDkL
import Derived.Test.YtijdlggoaianbaaDoorCards
import Derived.Test.YtijdlggoaianbaaDoorTie
import Derived.ProofKit
import Derived.LaidMore
import Derived.OpenShut
import Derived.Stop.Joined
import Derived.SevenTiedAt
namespace Go.Proofs.YtijdlggoaianbaaDoor.topInstants
open Go Go.ChangeShapes Go.WideShapes Go.ChangeAt Go.WideMaps Go.WideElems Go.RowKit
set_option linter.unusedVariables false
theorem own : ownKnob Tryd.prog.godebug = none := by kernel_rfl
theorem laidOut : laidOutB Tryd.prog = true := by kernel_rfl
theorem gHex : Tryd.prog.globalNamed "lottery/digest.hexDigits" = some 0 := by kernel_rfl
theorem tHex : (Tryd.prog.globals[0]?).map (·.type) = some 64 := by kernel_rfl
def laid1 : List (String × DataW Unit) := [("lottery/digest.hexDigits", Rows.laid_lottery_digest_hexDigits)]
theorem door_met (os : Os) (args : Array Value) : laidMetH Tryd.prog laid1 ((World.doorLaid Tryd.prog 400 os).forCall (fun _ _ => 0) ⟨#[], args, []⟩).memory :=
  laidMetH_of_parts3 (fuel := 8) (laidMet_of_run' 8 (by kernel_rfl) (by kernel_rfl)) (by kernel_rfl) (by kernel_rfl)
section
variable {H : Type} {enc : TypeId × Value → H} {w : World} {base : Nat} {spare : Nat → Bool} {held : Bool}
theorem arr_dat {t e : TypeId} {n fuel : Nat} {cs : List Value} {x : DataW H × List MemPlace} {k : IntKind} (ht : Tryd.prog.underlying t = some (.array n e)) (he : Tryd.prog.underlying e = some (.int k)) (hc : Tryd.prog.cellsOf e = 1)
    (h : DataW.trod enc Tryd.prog w base spare held fuel t cs = some x) : cs.length = Tryd.prog.cellsOf t ∧ ∃ ds, x.1 = .agg ds ∧ ds.length = n ∧ ∀ i, i < n → ∃ z : Int, (Lit.int k z).wf = true ∧ cs[i]? = some (.int k z) ∧ ds[i]? = some (.lit (.int k z)) := by
  obtain ⟨xs, m, _, hx1, hcl, hlen, hx⟩ := DataW.trod_array ht h
  refine ⟨hcl, xs.map (·.1), by rw [hx1], by simpa using hlen, fun i hi => ?_⟩
  have h1 := hx i hi
  obtain ⟨y, hy⟩ : ∃ y, xs[i]? = some y := ⟨_, List.getElem?_eq_getElem (by omega)⟩
  rw [hy, hc, Nat.mul_one] at h1
  obtain ⟨z, hz, hyz, hw⟩ := DataW.trod_int he h1
  refine ⟨z, hw, ?_, by rw [List.getElem?_map, hy, hyz]; rfl⟩
  have h2 : ((cs.drop i).take 1)[0]? = some (Value.int k z) := by rw [hz]; rfl
  rw [List.getElem?_take, if_pos (by omega), List.getElem?_drop, Nat.add_zero] at h2
  exact h2
set_option maxRecDepth 20000 in
theorem open_u8x4 {r : Reach} {b0 : Nat} {v : Value} {d : DataW H} {ps : List MemPlace}
    (hval : Value.okWide Tryd.prog w r b0 22 v) (h : DataW.Trod enc Tryd.prog w base spare held 22 v d ps) : ∃ a b c e : Int, v = .agg #[.int .u8 a, .int .u8 b, .int .u8 c, .int .u8 e] ∧ ((Lit.int .u8 a).wf = true ∧ (Lit.int .u8 b).wf = true ∧ (Lit.int .u8 c).wf = true ∧ (Lit.int .u8 e).wf = true) := by
  have U := Tryd.underlying22
  have hC : Tryd.prog.cellsOf 22 = 4 := by kernel_rfl
  have hv : ∃ cs, v = .agg cs ∧ cs.size = 4 := by
    simp only [Value.okWide, U] at hval
    obtain ⟨cs, h1, h2, _⟩ := hval
    exact ⟨cs, h1, by rw [h2, hC]⟩
  obtain ⟨cs, rfl, hsz⟩ := hv
  obtain ⟨l⟩ := cs
  obtain ⟨fuel, hy0⟩ := h
  have hy : DataW.trod enc Tryd.prog w base spare held fuel 22 l = some (d, ps) := by simpa [Value.cells] using hy0
  have hl : l.length = 4 := by simpa using hsz
  obtain ⟨_, ds, _, _, hE⟩ := arr_dat U Tryd.underlying5 (by kernel_rfl) hy
  obtain ⟨a, wa, ha, _⟩ := hE 0 (by omega)
  obtain ⟨b, wb, hb, _⟩ := hE 1 (by omega)
  obtain ⟨c, wc, hc, _⟩ := hE 2 (by omega)
  obtain ⟨e, we, he, _⟩ := hE 3 (by omega)
  refine ⟨a, b, c, e, ?_, wa, wb, wc, we⟩
  clear hE hy hy0 hval U hC hsz
  match l, hl with
  | [x0, x1, x2, x3], _ =>
    simp at ha hb hc he
    rw [ha, hb, hc, he]
end
theorem hex_row : ∀ j, j < 16 → ([48, 49, 50, 51, 52, 53, 54, 55, 56, 57, 97, 98, 99, 100, 101, 102] : List Int)[j]? = some (hexd j) := by decide
theorem laid_row (j : Nat) (z : Int) (h : ((([48, 49, 50, 51, 52, 53, 54, 55, 56, 57, 97, 98, 99, 100, 101, 102] : List Int).map fun x => (DataW.lit (.int .u8 x) : DataW Unit))[j]?) = some (.lit (.int .u8 z))) (hj : j < 16) : z = hexd j := by
  rw [List.getElem?_map, hex_row j hj] at h
  simp at h
  exact h.symm
/-- what the row's condition gives the walk: the table of digits -/
theorem of_laid {W : World} (h : laidMetH Tryd.prog laid1 W) : HexT W ∧ 0 < W.heap.size := by
  rw [MakeChecks.laidMetH_plain _ _ _ (by kernel_rfl)] at h
  obtain ⟨ps, ⟨g0, t0, cs0, f0, p0, q0, hg0, ht0, hv0, hd0, _, _⟩, _, _⟩ := h
  obtain rfl := Option.some.inj (gHex.symm.trans hg0)
  obtain rfl := Option.some.inj (tHex.symm.trans ht0)
  obtain ⟨hcl, ds, hx, hlen, hE⟩ := arr_dat Tryd.underlying64 Tryd.underlying5 (by kernel_rfl) hd0
  have hx2 : ds = ([48, 49, 50, 51, 52, 53, 54, 55, 56, 57, 97, 98, 99, 100, 101, 102] : List Int).map fun x => (DataW.lit (.int .u8 x) : DataW Unit) := by
    have : DataW.agg ds = Rows.laid_lottery_digest_hexDigits := hx.symm
    unfold Rows.laid_lottery_digest_hexDigits at this
    simpa using this
  have hT : HexT W := fun j hj => by
    obtain ⟨z, _, hc, hd⟩ := hE j hj
    rw [hx2] at hd
    have hz := laid_row j z hd hj
    rw [hz] at hc
    have := World.var?_cell hg0 hv0 j
    rw [this]
    simpa using hc
  exact ⟨hT, lt_of_cell (hT 0 (by omega))⟩
theorem wf8 {a : Int} (h : (Lit.int .u8 a).wf = true) : 0 ≤ a ∧ a < 256 := by
  simp [Lit.wf, IntKind.min, IntKind.max, IntKind.signed, IntKind.bits] at h
  omega
theorem wf64 {a : Int} (h : (Lit.int .u64 a).wf = true) : 0 ≤ a ∧ a < 18446744073709551616 := by
  simp [Lit.wf, IntKind.min, IntKind.max, IntKind.signed, IntKind.bits] at h
  omega
theorem walk (v0 : Value) (a b c d x f : Int) (w : World) (hL : laidMetH Tryd.prog laid1 w) (h0 : v0 = .agg #[.int .u8 a, .int .u8 b, .int .u8 c, .int .u8 d]) (hw0 : (Lit.int .u8 a).wf = true ∧ (Lit.int .u8 b).wf = true ∧ (Lit.int .u8 c).wf = true ∧ (Lit.int .u8 d).wf = true) (hw1 : (Lit.int .u64 x).wf = true) (hw2 : (Lit.int .u8 f).wf = true) :
    Calls Tryd.prog 3 #[v0, .int .u64 x, .int .u8 f] w fun e w' => e = .returned (.bool true) ∧ Below w.heap.size w w' := by
  obtain ⟨hT, hz⟩ := of_laid hL
  have ha := wf8 hw0.1
  have hb := wf8 hw0.2.1
  have hc := wf8 hw0.2.2.1
  have hd := wf8 hw0.2.2.2
  have hx := wf64 hw1
  have hf := wf8 hw2
  obtain ⟨s0, rfl⟩ : ∃ s0 : Nat, a = (s0 : Int) := ⟨a.toNat, by omega⟩
  obtain ⟨s1, rfl⟩ : ∃ s0 : Nat, b = (s0 : Int) := ⟨b.toNat, by omega⟩
  obtain ⟨s2, rfl⟩ : ∃ s0 : Nat, c = (s0 : Int) := ⟨c.toNat, by omega⟩
  obtain ⟨s3, rfl⟩ : ∃ s0 : Nat, d = (s0 : Int) := ⟨d.toNat, by omega⟩
  obtain ⟨n, rfl⟩ : ∃ s0 : Nat, f = (s0 : Int) := ⟨f.toNat, by omega⟩
  subst h0
  exact (law_any s0 s1 s2 s3 x n w (by omega) (by omega) (by omega) (by omega) hx (by omega) hT hz).mono fun e w' h => ⟨h.1, h.2.below⟩
set_option maxRecDepth 100000 in
theorem lifted (os : Os) (started : os.Started) (H : Type) (enc : TypeId × Value → H) :
    ReturnsInHanded {} Tryd.checked os 3 .any (fun w args => (Rows.topInstantsSpec.pre enc Tryd.prog Tryd.f3 [] false w args ∧ laidMetH Tryd.prog laid1 w) ∧ sizedMet enc Tryd.prog Tryd.f3 (OpenSpec.ofChange Rows.topInstantsSpec) false w args)
      (Rows.topInstantsSpec.post enc Tryd.prog Tryd.f3 false true false false) := by
  refine returnsInHanded_of_change_and (C := Tryd.checked) (X := fun w _ => laidMetH Tryd.prog laid1 w) (fun _ _ _ hh h => h.of_heap hh) own started (by kernel_rfl) Tryd.func3
    (ChangeSpec.witness_shaped (enc := enc) (C := Tryd.checked) (os := os) (X := fun w _ => laidMetH Tryd.prog laid1 w) false (World.doorLaid Tryd.prog 400 os) #[.agg #[.int .u8 0, .int .u8 0, .int .u8 0, .int .u8 0], .int .u64 0, .int .u8 0] 8 rfl (World.shaped_of_RefB (by kernel_rfl) (by kernel_rfl)) (by kernel_rfl) (by kernel_rfl) (by kernel_rfl) (door_met os _)) ?_
  intro W base args ds gs before hval0 hW _ _ hL _
  have hval : ∀ (j : Nat) t v, Tryd.f3.params[j]? = some t → args[j]? = some v → Value.okWide Tryd.prog W .any base t v := hval0
  have hW' := hW
  obtain ⟨p, q, hA0, hV, rfl, hfz, hnd⟩ := hW
  have hA : DataW.TrodAll enc Tryd.prog W 0 (fun _ => true) true Tryd.f3.params.toList args.toList ds p := hA0
  rw [Tryd.params3] at hA hval
  obtain ⟨v0, vs0, d0, ds0, p0, q0, hargs, rfl, rfl, h0, r0⟩ := trodAll_cons hA
  obtain ⟨v1, vs1, d1, ds1, p1, q1, rfl, rfl, rfl, h1, r1⟩ := trodAll_cons r0
  obtain ⟨v2, vs2, d2, ds2, p2, q2, rfl, rfl, rfl, h2, r2⟩ := trodAll_cons r1
  obtain ⟨rfl, rfl, rfl⟩ := trodAll_nil r2
  obtain rfl : args = #[v0, v1, v2] := by cases args; simp_all
  obtain ⟨rfl, rfl⟩ := trodVars_none hV
  have k0 := h0
  have lt0 : ∀ x ∈ p0, x.block < W.heap.size := by obtain ⟨m, hm⟩ := k0; exact DataW.trod_lt m _ _ _ hm
  obtain ⟨a, b, c, e, hv0, hw0⟩ := open_u8x4 (hval 0 22 v0 rfl rfl) h0
  obtain ⟨a1, rfl, rfl, rfl, w1⟩ := open_int Tryd.underlying23 (hval 1 23 v1 rfl rfl) h1
  obtain ⟨a2, rfl, rfl, rfl, w2⟩ := open_int Tryd.underlying5 (hval 2 5 v2 rfl rfl) h2
  clear hA0 hval0
  refine (walk v0 a b c e a1 a2 W hL hv0 hw0 w1 w2).mono fun e W' ⟨he, bel⟩ => ?_
  subst he
  exact ⟨_, rfl, _, _, _, [], _, [], hW', trodAll_mk1 (shut_bool Tryd.underlying4 _), (trodAll_cons_mk (Below.trod laidOut (by kernel_rfl) (of_decide_eq_true (by kernel_rfl)) k0 bel lt0) (trodAll_cons_mk (shut_int Tryd.underlying23 w1) (trodAll_cons_mk (shut_int Tryd.underlying5 w2) trodAll_mk0))), rfl, bel.frame _, fun h => by cases h⟩
theorem over : Rows.TopInstantsSaid :=
  OpenClaim.holds_of_wide 3 Tryd.f3 rfl rfl rfl rfl rfl rfl rfl ⟨rfl, rfl, rfl, rfl, rfl⟩ rfl rfl rfl rfl rfl (by kernel_rfl) Tryd.func3 (by kernel_rfl)
    (of_decide_eq_true (by kernel_rfl)) (by unfold Func.isWrapper; first | (rw [if_pos (by decide +kernel)]; kernel_rfl) | (rw [if_neg (by decide +kernel)]; exact ⟨rfl, rfl⟩))
    (fun os started H enc _ => lifted os started H enc)
/-- THE STATEMENT: THE TIED CARD -/
theorem proved : Rows.TopInstantsCardSaid :=
  Claim7.holds_tied_plain_at .later [] [.data] true (true, "b2f95cf73959e3e5ca8fbd2d8d23d64e31fe3b6be40f769013008ac0b97f121c") false
    over (fun _ h => by cases h) (by kernel_rfl) (fun _ h => by cases h) topInstants_row_tie rfl ⟨rfl, rfl⟩ (by kernel_rfl) rfl
    (fun f fn hf hfn => by
      obtain rfl : f = 3 := Option.some.inj ((show Tryd.prog.funcNamed "lottery/lotterytop.TopInstants" = some 3 by kernel_rfl).symm.trans hf) |>.symm
      obtain rfl : fn = Tryd.f3 := (Option.some.inj (Tryd.func3.symm.trans hfn)).symm
      exact ⟨by kernel_rfl, fun j t ht => by
        rw [Tryd.params3] at ht
        have hm : t ∈ [22, 23, 5] := by simpa using Array.mem_of_getElem? ht
        have hall : ([22, 23, 5].all fun u => !Tryd.prog.wantsStandIn u) = true := by kernel_rfl
        exact (show Tryd.prog.wantsStandIn t = false by simpa using List.all_eq_true.1 hall t hm)⟩)
    (by kernel_rfl)
#print axioms proved
end Go.Proofs.YtijdlggoaianbaaDoor.topInstants
