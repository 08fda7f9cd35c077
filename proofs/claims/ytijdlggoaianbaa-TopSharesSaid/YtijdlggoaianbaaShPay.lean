/-
  TopShares: a prize after tax and debts.
-/
import Derived.Test.YtijdlggoaianbaaShTax
import Derived.Test.YtijdlggoaianbaaShOff
set_option linter.unusedVariables false
namespace Go.Proofs.Ytijdlggoaianbaa
open Go.RowKit
theorem results_cell_two' {P : Program} {fn : Func} {p q : Tmp} {ty : TypeId} (h : fn.results = #[.cell p ty, .tmp q]) (tmps : Array Value) (w : World) (g : Nat) (t : TypeId) (cs : Array Value) (fr : Nat × Nat) (d : TypeDesc) (v : Value)
    (hp : tmps.getD p undef = .pointer (some ⟨g, 0, none⟩)) (hq : tmps.getD q undef = v) (hg : w.heap[g]? = some (.cells cs t fr))
    (hu : P.underlying ty = some d) (hd : (match d with | .struct _ | .array _ _ => true | _ => false) = true) (hi : (P.info? ty).map (·.size) = some cs.size) :
    (results fn tmps).run P w = .ok (.tuple #[.agg cs, v]) w := by
  have hp' : tmps[p]?.getD undef = .pointer (some ⟨g, 0, none⟩) := by simpa using hp
  have hq' : tmps[q]?.getD undef = v := by simpa using hq
  simp [results, h, hp', hq', asAddr, run_loadVar_row w g t ty cs fr d hg hu hd hi]
theorem infoOrder : (Try.prog.info? 27).map (·.size) = some 4 := by kernel_rfl
/-- what is paid against the debts, and what is left -/
def of1 (x A : Int) : Int := min (x - txV x) A
def of2 (x A B : Int) : Int := min (x - txV x - of1 x A) B
def netV (x A B : Int) : Int := x - txV x - of1 x A - of2 x A B
set_option maxRecDepth 20000 in
set_option maxHeartbeats 4000000 in
theorem pay_any (b1 b2 : Nat) (A B x : Int) (w : World) (h1 : RowAt w b1 32 brL) (h2 : RowAt w b2 35 (dbL A B)) (hA : 1 ≤ A ∧ A ≤ 4294967296) (hB : 1 ≤ B ∧ B ≤ 4294967296) (hx : 0 ≤ x ∧ x ≤ 4294967295) :
    Calls Try.prog 8 #[.slice (some ⟨b1, 0, none⟩) 2 2, .slice (some ⟨b2, 0, none⟩) 2 2, .int .i64 x] w fun e w' => ∃ a c, e = .returned (.tuple #[.agg #[.int .i64 x, .int .i64 (txV x), .slice a 2 c, .int .i64 (netV x A B)], .int .i64 0]) ∧ OwnI w' w.heap.size 3 (.slice a 2 c) [of1 x A, of2 x A B] ∧ Fr [] w w' := by
  have hb := txV_bd hx.1
  have hV := fun w => mvalid_any x w
  rw [inR_yes hx.1 (by omega)] at hV
  have hT := fun w h => tax_any b1 x w h hx.1 hx.2
  have hO := fun w h => offset_any b2 A B (x - txV x) w h hA hB (by omega)
  have hn : x - txV x - min (x - txV x) A - min (x - txV x - min (x - txV x) A) B = netV x A B := rfl
  have ho : [min (x - txV x) A, min (x - txV x - min (x - txV x) A) B] = [of1 x A, of2 x A B] := rfl
  rw [hn, ho] at hO
  obtain ⟨x0, x1⟩ := hx
  obtain ⟨t0, t1⟩ := hb
  generalize txV x = T at *
  generalize netV x A B = N at *
  generalize hL : [of1 x A, of2 x A B] = L at *
  have hll : L.length = 2 := by rw [← hL]; rfl
  have HV := Lib.hid hV
  have HT := Lib.hid hT
  have HO := Lib.hid hO
  have H1 := Lib.hid h1
  have H2 := Lib.hid h2
  have HLL := Lib.hid hll
  clear hV hT hO h1 h2 hn ho hA hB hL hll
  go_enter Try.func8, Try.ntmps8
  go_upto_region 1 with (fail)
  have hr : RowAt (w.alloc (.cells #[.int .i64 0, .int .i64 0, .slice none 0 0, .int .i64 0] 27)) w.heap.size 27 [.int .i64 0, .int .i64 0, .slice none 0 0, .int .i64 0] := RowAt.new rfl rfl
  have f1 : Fr [] w (w.alloc (.cells #[.int .i64 0, .int .i64 0, .slice none 0 0, .int .i64 0] 27)) := (Fr.refl [] w).alloc _
  generalize w.alloc (.cells #[.int .i64 0, .int .i64 0, .slice none 0 0, .int .i64 0] 27) = x1_ at *
  obtain ⟨bo, hbo⟩ : ∃ bo, bo = w.heap.size := ⟨_, rfl⟩
  rw [← hbo] at hr ⊢
  have HBO := Lib.hid hbo
  have HR := Lib.hid hr
  have HF1 := Lib.hid f1
  clear hbo hr f1
  go_wp2_with fail
  refine (HV.out _).mono ?_
  rintro e w2 ⟨rfl, rfl⟩
  go_wp2_with fail
  refine (HT.out _ (H1.out.fr HF1.out (by simp))).mono ?_
  rintro e w3 ⟨rfl, f3⟩
  have HF3 := Lib.hid (HF1.out.trans f3)
  have HR3 := Lib.hid (HR.out.fr f3 (by simp))
  clear f3
  have hwx : IntKind.i64.wrap (x - T) = x - T := IntWalk.i64_in _ (by omega)
  go_wp2_with fail
  refine (HO.out _ (H2.out.fr HF3.out (by simp))).mono ?_
  rintro e w4 ⟨v, rfl, ho, f4⟩
  obtain ⟨a, c, rfl, _, _⟩ := ho.any
  have HF4 := Lib.hid (HF3.out.trans f4)
  have hr4 := HR3.out.fr f4 (by simp)
  have hbl := hr4.lt
  rw [HLL.out] at ho ⊢
  have hsz : w.heap.size ≤ w3.heap.size := HF3.out.size
  have hbl3 := HR3.out.lt
  have HO4 := Lib.hid ho
  have k0 := hr4.cell 0 _ rfl
  have k1 := hr4.cell 1 _ rfl
  have k2 := hr4.cell 2 _ rfl
  have k3 := hr4.cell 3 _ rfl
  have z0 := hr4.frozen 0
  have z1 := hr4.frozen 1
  have z2 := hr4.frozen 2
  have z3 := hr4.frozen 3
  have hset := (((hr4.set 0 (.int .i64 x)).set 1 (.int .i64 T)).set 2 (.slice a 2 c)).set 3 (.int .i64 N)
  simp only [List.set_cons_zero, List.set_cons_succ] at hset
  have fs : Fr [bo] w4 ((((w4.setCell ⟨bo, 0, none⟩ (.int .i64 x)).setCell ⟨bo, 1, none⟩ (.int .i64 T)).setCell ⟨bo, 2, none⟩ (.slice a 2 c)).setCell ⟨bo, 3, none⟩ (.int .i64 N)) := ((((Fr.refl [bo] w4).setCell (.inl (by simp)) _).setCell (.inl (by simp)) _).setCell (.inl (by simp)) _).setCell (.inl (by simp)) _
  have HSET := Lib.hid hset
  have HFS := Lib.hid fs
  clear ho f4 hr4 hset fs hwx
  go_wp2_with fail
  refine bodyPost_ret (v := .tuple #[.agg #[.int .i64 x, .int .i64 T, .slice a 2 c, .int .i64 N], .int .i64 0]) (results_cell_two' rfl _ _ bo 27 _ (0, 0) _ _ rfl rfl HSET.out Try.underlying27 rfl infoOrder) rfl ⟨_, _, rfl, ?_, ?_⟩
  · exact (HO4.out.mono hsz).fr HFS.out (fun q hq => by have := (HO4.out.block q hq).1; simp; omega)
  · exact HF4.out.trans' HFS.out (by intro i hi; simp at hi; right; have := HBO.out; omega)
end Go.Proofs.Ytijdlggoaianbaa
