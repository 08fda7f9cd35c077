/-
  Results of draws, opened; Factor and Serial (layer 40) and those of the reference.
-/
import Derived.Test.YtdbkkbeelemnhaaSel
import Derived.Test.YtdbkkbeelemnhaaHits
set_option linter.unusedVariables false
namespace Go.Proofs.Ytdbkkbeelemnhaa
open Go.RowKit Go.WideShapes Go.ChangeShapes
structure Re where
  ma : Option Addr
  mn : Nat
  mc : Nat
  ba : Option Addr
  bn : Nat
  bc : Nat
  ea : Option Addr
  en : Nat
  ec : Nat
  factor : Int
  serial : ByteArray
def Re.val (r : Re) : Value := .agg #[.slice r.ma r.mn r.mc, .slice r.ba r.bn r.bc, .slice r.ea r.en r.ec, .int .i64 r.factor, .string r.serial]
structure Re.Ok (r : Re) : Prop where
  factor : W64 r.factor
  serial : r.serial.size ≤ maxLen
section
variable {H : Type} {enc : TypeId × Value → H} {w : World} {base : Nat} {spare : Nat → Bool} {held : Bool}
set_option maxRecDepth 20000 in
theorem open_result {r : Reach} {b0 : Nat} {v : Value} {d : DataW H} {ps : List MemPlace}
    (hval : Value.okWide Try.prog w r b0 38 v) (h : DataW.Trod enc Try.prog w base spare held 38 v d ps) : ∃ g : Re, v = g.val ∧ g.Ok := by
  have U := Try.underlying38
  obtain ⟨cs, rfl, hsz⟩ := okWide_struct U hval
  obtain ⟨l⟩ := cs
  have hC : Try.prog.cellsOf 38 = 5 := by kernel_rfl
  rw [hC] at hsz
  obtain ⟨fuel, hy0⟩ := h
  have hy : DataW.trod enc Try.prog w base spare held fuel 38 l = some (d, ps) := by simpa [Value.cells] using hy0
  obtain ⟨c0, a0, p0, h0, _⟩ := field_ints (ft := 36) U hy 0 0 rfl (by kernel_rfl) Try.underlying36 (by kernel_rfl) Try.underlying3
  obtain ⟨c1, a1, p1, h1, _⟩ := field_ints (ft := 36) U hy 1 1 rfl (by kernel_rfl) Try.underlying36 (by kernel_rfl) Try.underlying3
  obtain ⟨c2, a2, p2, h2, _⟩ := field_ints (ft := 36) U hy 2 2 rfl (by kernel_rfl) Try.underlying36 (by kernel_rfl) Try.underlying3
  obtain ⟨c3, k3, h3⟩ := field_int (ft := 3) U hy 3 3 rfl (by kernel_rfl) Try.underlying3
  obtain ⟨c4, k4, h4⟩ := field_string (ft := 9) U hy 4 4 rfl (by kernel_rfl) Try.underlying9
  refine ⟨⟨a0, c0.length, p0, a1, c1.length, p1, a2, c2.length, p2, c3, c4⟩, ?_, ⟨k3, k4⟩⟩
  clear hy hy0 hval U hC
  match l, hsz with
  | [x0, x1, x2, x3, x4], _ =>
    simp at h0 h1 h2 h3 h4
    simp [Re.val, h0, h1, h2, h3, h4]
end
/-- the factor of a ticket -/
def facV (b : Bool) (f : Int) : Int := if b = true then (if decide (1 ≤ f) = true then (if decide (f ≤ 100) = true then f else 1) else 1) else 1
theorem facV_pos (b : Bool) (f : Int) : 1 ≤ facV b f := by
  unfold facV
  simp only [decide_eq_true_eq]
  repeat' split
  all_goals omega
set_option maxRecDepth 20000 in
set_option maxHeartbeats 2000000 in
theorem factor_any (g : Gm) (m : Int) (r : Re) (w : World) (hok : g.Ok w) :
    Calls Try.prog 22 #[g.val, .int .i64 m, r.val] w fun e w' => e = .returned (.int .i64 (facV (selO g m 1).isSome r.factor)) ∧ Fr [] w w' := by
  have hS := fun w' (h : Fr [] w w') => sel_any g m 1 w' (hok.fr h)
  obtain ⟨V, hV⟩ : ∃ V, V = facV (selO g m 1).isSome r.factor := ⟨_, rfl⟩
  rw [← hV]
  unfold facV at hV
  unfold SelPost at hS
  generalize (selO g m 1).isSome = b at *
  obtain ⟨ma, mn, mc, ba, bn, bc, ea, en, ec, factor, serial⟩ := r
  simp only [Re.val]
  simp only at hV
  have HV := Lib.hid hV
  have HS := Lib.hid hS
  clear hV hS hok
  go_enter Try.func22, Try.ntmps22
  go_wp2_with (first | (refine box_game rfl (.tmp 0) rfl g rfl ?_; intro w1 hg1 hz1 hf1) | (refine load_game rfl (.tmp 3) rfl _ rfl g (hg1.fr ((Fr.refl [] _).alloc _) (by simp)) ?_))
  refine (HS.out _ (hf1.alloc _)).mono ?_
  rintro e w2 ⟨a, rfl, _, f2⟩
  have c3 : w2.cell? ⟨w.heap.size + 1, 3, none⟩ = some (.int .i64 factor) := f2.cell_some (new_cell hz1 rfl) (by simp)
  have hF2 : Fr [] w w2 := (hf1.alloc _).trans f2
  have hlt : w.heap.size + 1 < w2.heap.size := lt_of_cell c3
  obtain ⟨xname, xkind, xprice, xfa, xfc, xfactors, xdigits, xpa, xpc, xprizes⟩ := a
  simp only [Ad.val]
  generalize xfactors.length = fl at *
  generalize xprizes.length = pl at *
  clear f2 hg1 hf1
  have hne : ¬ w2.heap.size = w.heap.size + 1 := by omega
  cases b
  · go_wp2_with fail
    go_ret
    exact ⟨ret_i (by rw [HV.out]; rfl), hF2.alloc _⟩
  · cases h1 : decide (1 ≤ factor)
    · go_wp2_with fail
      go_ret
      exact ⟨ret_i (by rw [HV.out, h1]; rfl), hF2.alloc _⟩
    · cases h2 : decide (factor ≤ 100)
      · go_wp2_with fail
        go_ret
        exact ⟨ret_i (by rw [HV.out, h1, h2]; rfl), hF2.alloc _⟩
      · go_wp2_with fail
        go_ret
        exact ⟨ret_i (by rw [HV.out, h1, h2]; rfl), hF2.alloc _⟩
set_option maxRecDepth 20000 in
set_option maxHeartbeats 2000000 in
theorem rfactor_any (g : Gm) (m : Int) (r : Re) (w : World) (hok : g.Ok w) :
    Calls Try.prog 23 #[g.val, .int .i64 m, r.val] w fun e w' => e = .returned (.int .i64 (facV (selO g m 1).isSome r.factor)) ∧ Fr [] w w' := by
  have hS := fun w' (h : Fr [] w w') => find_any g m 1 w' (hok.fr h)
  obtain ⟨V, hV⟩ : ∃ V, V = facV (selO g m 1).isSome r.factor := ⟨_, rfl⟩
  rw [← hV]
  have hV2 : V = if decide (fndV (selO g m 1) < 0) = true then 1 else if decide (r.factor < 1) = true then 1 else if decide (100 < r.factor) = true then 1 else r.factor := by
    rw [hV]
    unfold facV fndV
    simp only [decide_eq_true_eq]
    cases selO g m 1 with
    | none => simp
    | some k =>
      simp only [Option.isSome_some, if_true]
      repeat' split
      all_goals omega
  clear hV
  generalize fndV (selO g m 1) = F at *
  obtain ⟨ma, mn, mc, ba, bn, bc, ea, en, ec, factor, serial⟩ := r
  simp only [Re.val]
  simp only at hV2
  have HV := Lib.hid hV2
  have HS := Lib.hid hS
  clear hV2 hS hok
  go_enter Try.func23, Try.ntmps23
  go_wp2_with (first | (refine box_game rfl (.tmp 0) rfl g rfl ?_; intro w1 hg1 hz1 hf1) | (refine load_game rfl (.tmp 3) rfl _ rfl g (hg1.fr ((Fr.refl [] _).alloc _) (by simp)) ?_))
  refine (HS.out _ (hf1.alloc _)).mono ?_
  rintro e w2 ⟨rfl, f2⟩
  have c3 : w2.cell? ⟨w.heap.size + 1, 3, none⟩ = some (.int .i64 factor) := f2.cell_some (new_cell hz1 rfl) (by simp)
  have hF2 : Fr [] w w2 := (hf1.alloc _).trans f2
  clear f2 hg1 hf1
  cases h0 : decide (F < 0)
  · cases h1 : decide (factor < 1)
    · cases h2 : decide (100 < factor)
      · go_wp2_with fail
        go_ret
        exact ⟨ret_i (by rw [HV.out, h0, h1, h2]; rfl), hF2⟩
      · go_wp2_with fail
        go_ret
        exact ⟨ret_i (by rw [HV.out, h0, h1, h2]; rfl), hF2⟩
    · go_wp2_with fail
      go_ret
      exact ⟨ret_i (by rw [HV.out, h0, h1]; rfl), hF2⟩
  · go_wp2_with fail
    go_ret
    exact ⟨ret_i (by rw [HV.out, h0]; rfl), hF2⟩
end Go.Proofs.Ytdbkkbeelemnhaa
