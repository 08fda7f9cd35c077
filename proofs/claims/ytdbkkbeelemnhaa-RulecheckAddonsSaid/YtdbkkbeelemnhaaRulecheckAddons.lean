/-
  RulecheckAddons: for every list of add-ons the statement returns true: the errors of add-ons are as the document says. No conditions.
-/
import Derived.Test.YtdbkkbeelemnhaaPlain
import Derived.Test.YtdbkkbeelemnhaaRAddonsE
import Derived.ProofKit
import Derived.OpenShut
import Derived.ShutString
import Derived.ChangeOld
namespace Go.Proofs.Ytdbkkbeelemnhaa.rulecheckAddons
open Go.ChangeShapes Go.WideShapes Go.ChangeAt Go.RowKit
open Go.ChangeMaps (open_string shut_string)
set_option linter.unusedVariables false
def withA (g : Gm) (a : Option Addr) (c : Nat) (l : List Ad) : Gm := { g with aa := a, ac := c, addons := l }
theorem set_addons {w : World} {b : Nat} {g : Gm} (h : GmAt w b g) (a : Option Addr) (c : Nat) (l : List Ad) : GmAt (w.setCell ⟨b, 20, none⟩ (.slice a l.length c)) b (withA g a c l) := by
  unfold GmAt at h ⊢
  simp [World.setCell, Array.getElem?_modify, h, Gm.cells, withA]
theorem frozen {w : World} {b : Nat} {g : Gm} (h : GmAt w b g) (i : Nat) : w.frozen? ⟨b, i, none⟩ = false := by
  unfold GmAt at h
  simp [World.frozen?, h]
theorem chk (b : Nat) (a : Option Addr) (c : Nat) (l : List Ad) : chkE (withA (plainG b) a c l) = addsE l ∧ headB (withA (plainG b) a c l) = true ∧
    chkS (withA (plainG b) a c l) = if addsE l ≠ 0 then ⟨#[97, 100, 100, 111, 110, 115]⟩ else ⟨#[]⟩ := by
  have h1 : nameB (withA (plainG b) a c l).name = true := by kernel_rfl
  have h2 : (withA (plainG b) a c l).kind = 1 := rfl
  have h3 : badM (withA (plainG b) a c l) = false := by kernel_rfl
  have h4 : badT (withA (plainG b) a c l) = false := by kernel_rfl
  have h5 : tisE (withA (plainG b) a c l) = 0 := by kernel_rfl
  have h6 : (withA (plainG b) a c l).addons = l := rfl
  refine ⟨?_, ?_, ?_⟩
  · unfold chkE
    rw [h1, h2, h3, h4, h5, h6]
    by_cases h : addsE l = 0 <;> simp [h]
  · unfold headB; rw [h1, h2, h3, h4]; simp
  · unfold chkS; rw [h5, h6]; simp
theorem withA_ok {g : Gm} {w w' : World} {a : Option Addr} {c : Nat} {l : List Ad} (h : g.Ok w) (hf : Fr [] w w') (ha : Ads w' a c l) : (withA g a c l).Ok w' := by
  have h' := h.fr hf
  exact ⟨h'.name, h'.kind, h'.price, h'.main, h'.of_, h'.bonus, h'.bonusof, h'.extra, h'.draws, h'.system, h'.days, h'.at_, h'.close, h'.cancel, h'.expiry, h'.pool, h'.reserve, h'.round, h'.cap, h'.rolls, ha, h'.tiers⟩
set_option maxRecDepth 20000 in
set_option maxHeartbeats 2000000 in
theorem walk (v : Value) (a : Option Addr) (cap : Nat) (l : List Ad) (w : World) (hv : v = .slice a l.length cap) (hok : Ads w a cap l) :
    Calls Try.prog 5 #[v] w fun e w' => e = .returned (.bool true) ∧ Below w.heap.size w w' := by
  subst hv
  have hR := fun w' (h : Fr [] w w') => raddons_any a cap l w' (hok.fr h)
  have hC := fun (b : Nat) (w' : World) (h : (withA (plainG b) a cap l).Ok w') => check_any (withA (plainG b) a cap l) w' h
  have hK := fun b => chk b a cap l
  have hF := fun b S (h : headB (withA (plainG b) a cap l) = true → S = chkS (withA (plainG b) a cap l)) => h (hK b).2.1
  obtain ⟨E, hE⟩ : ∃ E, E = addsE l := ⟨_, rfl⟩
  rw [← hE] at hR hK
  have HR := Lib.hid hR
  have HC := Lib.hid hC
  have HK := Lib.hid hK
  have HFS := Lib.hid hF
  have HOK := Lib.hid hok
  clear hR hC hK hE hok hF
  go_enter Try.func5, Try.ntmps5
  go_wp2_with fail
  refine (plain_any _).mono ?_
  rintro e w1 ⟨b, rfl, hok1, f1⟩
  go_wp2_with (first | (refine store_game rfl (.tmp 3) (.tmp 7) rfl w1.heap.size rfl _ (heap_alloc_new _ _) rfl (plainG b) rfl ?_; intro w2 hg2 hz2 hf2; have c20 := hg2.cell 20 _ rfl; have z20 := frozen hg2 20) | (refine load_game rfl (.tmp 3) rfl _ rfl (withA (plainG b) a cap l) (set_addons hg2 a cap l) ?_))
  have hF12 : Fr [] w1 (w2.setCell ⟨w1.heap.size, 20, none⟩ (.slice a l.length cap)) := (((Fr.refl [] w1).alloc _).trans' hf2 (by simp)).setCell (.inr (Nat.le_refl _)) _
  refine (HC.out b _ (withA_ok hok1 hF12 (HOK.out.fr (f1.trans hF12)))).mono ?_
  rintro e w4 ⟨S, rfl, hS, f4⟩
  have hS' := HFS.out b S hS
  obtain ⟨k1, k2, k3⟩ := HK.out b
  rw [k3] at hS'
  rw [k1]
  have hF4 := (f1.trans hF12).trans f4
  clear hS k1 k2 k3 c20 z20 hg2 hz2 hf2 hok1 hF12 f4
  by_cases hE : E = 0
  · subst hE
    rw [if_neg (by simp)] at hS'
    subst hS'
    go_wp2_with fail
    refine (HR.out _ hF4).mono ?_
    rintro e w5 ⟨rfl, f5⟩
    go_wp2_with fail
    refine (lives12_any _).mono ?_
    rintro e w6 ⟨rfl, f6⟩
    go_wp2_with fail
    go_ret
    exact ⟨rfl, ((hF4.trans f5).trans f6).below⟩
  · rw [if_pos hE] at hS'
    subst hS'
    have e1 : (E == 0) = false := by simpa using hE
    have e2 : (E != 0) = true := by simpa using hE
    have e3 : (E == E) = true := by simp
    clear hE
    go_wp2_with fail
    refine (HR.out _ hF4).mono ?_
    rintro e w5 ⟨rfl, f5⟩
    go_wp2_with fail
    refine (lives12_any _).mono ?_
    rintro e w6 ⟨rfl, f6⟩
    go_wp2_with fail
    go_ret
    exact ⟨rfl, ((hF4.trans f5).trans f6).below⟩
theorem own : ownKnob Try.prog.godebug = none := by kernel_rfl
theorem laidOut : laidOutB Try.prog = true := by kernel_rfl
set_option maxRecDepth 100000 in
theorem lifted (os : Os) (started : os.Started) (H : Type) (enc : TypeId × Value → H) :
    ReturnsInHanded {} Try.checked os 5 .any (Rows.rulecheckAddonsSpec.pre6 enc Try.prog Try.f5 Rows.rulecheckAddonsRow.domain false) (Rows.rulecheckAddonsSpec.post enc Try.prog Try.f5 false true false false) := by
  refine returnsInHanded_of_change (C := Try.checked) own started (by kernel_rfl) Try.func5
    (ChangeSpec.witness6 (enc := enc) (C := Try.checked) false ⟨#[], #[.slice none 0 0], []⟩ 8 (by kernel_rfl) (by kernel_rfl) (by kernel_rfl) (by kernel_rfl)) ?_
  intro W base args ds gs before hval0 hW hcnd _
  have hval : ∀ (j : Nat) t v, Try.f5.params[j]? = some t → args[j]? = some v → Value.okWide Try.prog W .any base t v := hval0
  have hW' := hW
  obtain ⟨p, q, hA0, hV, rfl, hfz, hnd⟩ := hW
  have hA : DataW.TrodAll enc Try.prog W 0 (fun _ => true) true Try.f5.params.toList args.toList ds p := hA0
  rw [Try.params5] at hA hval
  obtain ⟨v0, vs0, d0, ds0, p0, q0, hargs, rfl, rfl, h0, r0⟩ := trodAll_cons hA
  obtain ⟨rfl, rfl, rfl⟩ := trodAll_nil r0
  obtain rfl : args = #[v0] := by cases args; simp_all
  obtain ⟨rfl, rfl⟩ := trodVars_none hV
  have k0 := h0
  have lt0 : ∀ x ∈ p0, x.block < W.heap.size := by obtain ⟨m, hm⟩ := k0; exact DataW.trod_lt m _ _ _ hm
  obtain ⟨l0, hl0, hq0⟩ := open_arg adF (fun z => z.Ok W) 6 Try.underlying26 (by kernel_rfl) (by omega) open_el_addon (hval 0 26 v0 rfl rfl) h0
  have hl0' := hl0
  obtain ⟨a0, c0, hv0, _⟩ := hl0'
  have hr0 : Ads W a0 c0 l0 := ⟨by rw [← hv0]; exact hl0, hq0⟩
  clear hA0 hval0
  refine (walk v0 a0 c0 l0 W hv0 hr0).mono fun e W' ⟨he, bel⟩ => ?_
  subst he
  exact ⟨_, rfl, _, _, _, [], _, [], hW', trodAll_mk1 (shut_bool Try.underlying4 _), (trodAll_cons_mk (Below.trod laidOut (by kernel_rfl) (of_decide_eq_true (by kernel_rfl)) k0 bel lt0) trodAll_mk0), rfl, bel.frame _, fun h => by cases h⟩
theorem over : Rows.rulecheckAddonsRow.holds Try.pinned (OpenSpec.ofChange Rows.rulecheckAddonsSpec) :=
  OpenClaim.holds_of_wide 5 Try.f5 rfl rfl rfl rfl rfl rfl rfl ⟨rfl, rfl, rfl, rfl, rfl⟩ rfl rfl rfl rfl rfl (by kernel_rfl) Try.func5 (by kernel_rfl)
    (of_decide_eq_true (by kernel_rfl)) (by unfold Func.isWrapper; first | (rw [if_pos (by decide +kernel)]; kernel_rfl) | (rw [if_neg (by decide +kernel)]; exact ⟨rfl, rfl⟩))
    (fun os started H enc _ => lifted os started H enc)
/-- THE STATEMENT -/
theorem proved : Rows.RulecheckAddonsSaid := over
end Go.Proofs.Ytdbkkbeelemnhaa.rulecheckAddons
