/-
  The add-on of a kind that a mask selects (layer 40): selected and the reference's Find.
-/
import Derived.Test.YtdbkkbeelemnhaaRPrice
import Derived.Deep.WholeRow
set_option linter.unusedVariables false
namespace Go.Proofs.Ytdbkkbeelemnhaa
open Go.RowKit
def selTo (l : List Ad) (m kind : Int) : Nat → Nat → Option Nat
  | 0, _ => none
  | f + 1, k => match l[k]? with
    | none => none
    | some x => if (x.kind == kind) = true ∧ bitB m k = true then some k else selTo l m kind f (k + 1)
/-- which add-on is selected -/
def selO (g : Gm) (m kind : Int) : Option Nat := if chkE g ≠ 0 then none else if maskB g.addons.length m = false then none else selTo g.addons m kind g.addons.length 0
theorem selTo_hit {l : List Ad} {m kind : Int} {f k : Nat} {x : Ad} (h : l[k]? = some x) (h1 : (x.kind == kind) = true) (h2 : bitB m k = true) : selTo l m kind (f + 1) k = some k := by
  rw [selTo, h]; simp only; rw [if_pos ⟨h1, h2⟩]
theorem selTo_go {l : List Ad} {m kind : Int} {f k : Nat} {x : Ad} (h : l[k]? = some x) (h1 : ¬ ((x.kind == kind) = true ∧ bitB m k = true)) : selTo l m kind (f + 1) k = selTo l m kind f (k + 1) := by
  rw [selTo, h]; simp only; rw [if_neg h1]
theorem bit1_fin : ∀ (a : Fin 16) (k : Fin 4), (bits BinOp.and IntKind.i64 (((a.val : Nat) : Int) / 2 ^ k.val) 1 == 1) = bitB ((a.val : Nat) : Int) k.val := by decide +kernel
theorem bit_one (m : Int) (k : Nat) (h0 : 0 ≤ m) (h1 : m < 16) (hk : k ≤ 3) : (bits BinOp.and IntKind.i64 (m / 2 ^ k) 1 == 1) = bitB m k := by
  obtain ⟨a, rfl⟩ := Int.eq_ofNat_of_zero_le h0
  exact bit1_fin ⟨a, by omega⟩ ⟨k, by omega⟩
def adZ : Ad := ⟨⟨#[]⟩, 0, 0, none, 0, [], 0, none, 0, []⟩
def SelPost (g : Gm) (o : Option Nat) (w : World) (e : Ending) (w' : World) : Prop := ∃ a : Ad, e = .returned (.tuple #[a.val, .bool o.isSome]) ∧ (∀ k, o = some k → g.addons[k]? = some a) ∧ Fr [] w w'
theorem sel_none {g : Gm} {o : Option Nat} {w w' : World} (h : o = none) (hf : Fr [] w w') : SelPost g o w (.returned (.tuple #[adZ.val, .bool false])) w' := by
  subst h; exact ⟨adZ, rfl, by simp, hf⟩
theorem sel_some {g : Gm} {o : Option Nat} {w w' : World} (k : Nat) (a : Ad) (h : o = some k) (ha : g.addons[k]? = some a) (hf : Fr [] w w') : SelPost g o w (.returned (.tuple #[a.val, .bool true])) w' := by
  subst h; exact ⟨a, rfl, by intro j hj; obtain rfl := Option.some.inj hj; exact ha, hf⟩
theorem infoAddon : (Try.prog.info? 53).map (·.size) = some 6 := by kernel_rfl
theorem results_cell_two {P : Program} {fn : Func} {p q : Tmp} {ty : TypeId} (h : fn.results = #[.cell p ty, .tmp q]) (tmps : Array Value) (w : World) (g : Nat) (t : TypeId) (cs : Array Value) (fr : Nat × Nat) (d : TypeDesc) (v : Value)
    (hp : tmps.getD p undef = .pointer (some ⟨g, 0, none⟩)) (hq : tmps.getD q undef = v) (hg : w.heap[g]? = some (.cells cs t fr))
    (hu : P.underlying ty = some d) (hd : (match d with | .struct _ | .array _ _ => true | _ => false) = true) (hi : (P.info? ty).map (·.size) = some cs.size) :
    (results fn tmps).run P w = .ok (.tuple #[.agg cs, v]) w := by
  have hp' : tmps[p]?.getD undef = .pointer (some ⟨g, 0, none⟩) := by simpa using hp
  have hq' : tmps[q]?.getD undef = v := by simpa using hq
  simp [results, h, hp', hq', asAddr, run_loadVar_row w g t ty cs fr d hg hu hd hi]
/-- an add-on is stored whole into a block of its own -/
theorem store_ad {ops : Array Oper} {rest : List Oper} {o : Oper} {a : Act} {w : World} {Q : Exit → Act → World → Prop} (hgd : o.guard = none) (x y : Operand) (ho : o.op = .store 53 x y) (b : Nat) (hx : a.eval x = .pointer (some ⟨b, 0, none⟩))
    (C : Array Value) (hb : w.heap[b]? = some (.cells C 53 (0, 0))) (hC : C.size = 6) (ad : Ad) (hy : a.eval y = ad.val)
    (h : ∀ w', w'.heap[b]? = some (.cells ad.cells.toArray 53 (0, 0)) → w'.heap.size = w.heap.size → Fr [b] w w' → wpList Try.prog ops Q rest (a.put o.dst undef) w') : wpList Try.prog ops Q (o :: rest) a w := by
  refine wpList_plain hgd fun _ hK => ?_
  have h1 : ad.cells.toArray.all (·.oneCell') = true := by simp [Ad.cells, Value.oneCell']
  have hrun := run_storeVar_row (P := Try.prog) w b 53 53 C ad.cells.toArray hb infoAddon (by rw [hC]; rfl) h1
  unfold Oper.wp execOp
  simp only [ho, hx, hy, show ad.val = .agg ad.cells.toArray from rfl, Instr.storeAt, Instr.sureAddr, Sem.run_bind, Sem.run_pure, Result.andThen_ok, hrun]
  refine hK _ _ (h _ ?_ ?_ ⟨rfl, rfl, rfl, ?_, ?_⟩)
  · simp [World.setRow, Array.getElem?_modify, hb]
  · simp [World.setRow]
  · simp [World.setRow]
  · intro k _ hk
    have : ¬ b = k := by simp at hk; omega
    simp [World.setRow, Array.getElem?_modify, this]
/-- a game is loaded whole, behind a guard that lets it -/
theorem load_game_g {ops : Array Oper} {rest : List Oper} {o : Oper} {a : Act} {w : World} {Q : Exit → Act → World → Prop} (x : Operand) (ho : o.op = .load 29 x) (b : Nat) (hx : a.eval x = .pointer (some ⟨b, 0, none⟩))
    (g : Gm) (hg : GmAt w b g) (hgd : Region.wanted o (yielded ops a.tmps) = true) (h : wpList Try.prog ops Q rest (a.put o.dst g.val) w) : wpList Try.prog ops Q (o :: rest) a w :=
  wpList_step fun K hK => by
    rw [if_pos hgd]
    exact wp_load_row 29 x ho b hx 29 g.cells.toArray (0, 0) _ hg Try.underlying29 rfl infoGame (hK _ _ (by rw [← Gm.val_eq]; exact h))
set_option maxRecDepth 20000 in
set_option maxHeartbeats 2000000 in
theorem sel_any (g : Gm) (m kind : Int) (w : World) (hok : g.Ok w) :
    Calls Try.prog 40 #[g.val, .int .i64 m, .int .i64 kind] w (SelPost g (selO g m kind) w) := by
  have hC := fun w' (h : Fr [] w w') => check_any g w' (hok.fr h)
  have h20 : ∀ w b, GmAt w b g → w.cell? ⟨b, 20, none⟩ = some (.slice g.aa g.addons.length g.ac) := fun w b h => h.cell 20 _ rfl
  have hb0 : ∀ w, (Instr.build 53 #[]).run Try.prog w = .ok adZ.val w := fun w => by kernel_rfl
  unfold ChkPost at hC
  have hN0 := fun w' => @sel_none g (selO g m kind) w w'
  have hS0 := fun w' => @sel_some g (selO g m kind) w w'
  have hsl : selO g m kind = if chkE g ≠ 0 then none else if maskB g.addons.length m = false then none else selTo g.addons m kind g.addons.length 0 := rfl
  generalize selO g m kind = R at *
  have HN0 := Lib.hid hN0
  have HS0 := Lib.hid hS0
  clear hN0 hS0
  by_cases he : chkE g = 0
  · obtain ⟨p1, p2, p3⟩ := chkE_facts he
    obtain ⟨q1, q2⟩ := addsE_facts p2
    have hV := fun w => valid_any g m w q1
    rw [he] at hC hsl
    rw [if_neg (by simp)] at hsl
    cases hm : maskB g.addons.length m
    · rw [hm] at hV hsl
      rw [if_pos rfl] at hsl
      have HR := Lib.hid hsl
      have HC := Lib.hid hC
      have HV := Lib.hid hV
      clear hC hV h20 he hm p1 p2 p3 q1 q2 hok hsl
      go_enter Try.func40, Try.ntmps40
      go_wp2_with (first | (refine box_game rfl (.tmp 0) rfl g rfl ?_; intro w1 hg1 hz1 hf1) | (refine load_game rfl (.tmp 3) rfl _ rfl g (hg1.fr ((Fr.refl [] _).alloc _) (by simp)) ?_))
      refine (HC.out _ (hf1.alloc _)).mono ?_
      rintro e w2 ⟨S, rfl, _, f2⟩
      have hg2 := (hg1.fr ((Fr.refl [] _).alloc (.cells adZ.cells.toArray 53)) (by simp)).fr f2 (by simp)
      have hb2 : w2.heap[w.heap.size + 1]? = some (.cells adZ.cells.toArray 53 (0, 0)) := by rw [← hz1]; exact (f2.block w1.heap.size (by simp) (by simp)).trans (heap_alloc_new _ _)
      have hF2 : Fr [] w w2 := (hf1.alloc _).trans f2
      clear f2 hg1
      go_wp2_with (refine load_game_g (.tmp 3) rfl _ rfl g hg2 rfl ?_)
      refine (HV.out _).mono ?_
      rintro e w3 ⟨rfl, f3⟩
      have hb3 := (f3.block (w.heap.size + 1) (Array.getElem?_eq_some_iff.1 hb2).1 (by simp)).trans hb2
      have hle : w.heap.size ≤ w.heap.size + 1 := by omega
      have HLE := Lib.hid hle
      clear hb2 hle hz1
      go_wp2_with (refine store_ad rfl (.tmp 6) (.tmp 25) rfl (w.heap.size + 1) rfl _ hb3 rfl adZ rfl ?_; intro w5 hb5 hz5 hf5)
      refine bodyPost_ret (v := .tuple #[adZ.val, .bool false]) (results_cell_two rfl _ _ (w.heap.size + 1) 53 _ (0, 0) _ _ rfl rfl hb5 Try.underlying53 rfl infoAddon) rfl ?_
      exact HN0.out _ HR.out ((hF2.trans f3).trans' hf5 (by intro i hi; simp at hi; subst hi; exact .inr HLE.out))
    · rw [hm] at hV hsl
      rw [if_neg (by simp)] at hsl
      have hmb : 0 ≤ m ∧ m < 16 := by
        have h2 := (pow_bd g.addons.length q1).2
        simp [maskB] at hm
        omega
      obtain ⟨hm0, hm1⟩ := hmb
      obtain ⟨n, hN⟩ : ∃ n, n = g.addons.length := ⟨_, rfl⟩
      rw [← hN] at q1 h20 hsl
      obtain ⟨A, hA⟩ : ∃ A, A = g.aa := ⟨_, rfl⟩
      rw [← hA] at h20
      have HA := Lib.hid hA
      have HH20 := Lib.hid h20
      have hAds := hok.addons
      have HAD := Lib.hid hAds
      have HN := Lib.hid hN
      have HC := Lib.hid hC
      have HV := Lib.hid hV
      have HSL := Lib.hid hsl
      clear hC hV h20 he hm p1 p2 p3 q2 hok hN hAds hA hsl
      go_enter Try.func40, Try.ntmps40
      go_wp2_with (first | (refine box_game rfl (.tmp 0) rfl g rfl ?_; intro w1 hg1 hz1 hf1) | (refine load_game rfl (.tmp 3) rfl _ rfl g (hg1.fr ((Fr.refl [] _).alloc _) (by simp)) ?_))
      refine (HC.out _ (hf1.alloc _)).mono ?_
      rintro e w2 ⟨S, rfl, _, f2⟩
      have hg2 := (hg1.fr ((Fr.refl [] _).alloc (.cells adZ.cells.toArray 53)) (by simp)).fr f2 (by simp)
      have hb2 : w2.heap[w.heap.size + 1]? = some (.cells adZ.cells.toArray 53 (0, 0)) := by rw [← hz1]; exact (f2.block w1.heap.size (by simp) (by simp)).trans (heap_alloc_new _ _)
      have hF2 : Fr [] w w2 := (hf1.alloc _).trans f2
      clear f2 hg1
      go_wp2_with (refine load_game_g (.tmp 3) rfl _ rfl g hg2 rfl ?_)
      refine (HV.out _).mono ?_
      rintro e w3 ⟨rfl, f3⟩
      have hb3 := (f3.block (w.heap.size + 1) (Array.getElem?_eq_some_iff.1 hb2).1 (by simp)).trans hb2
      have hle : w.heap.size ≤ w.heap.size + 1 := by omega
      have HLE := Lib.hid hle
      have c20 := HH20.out _ _ (hg2.fr f3 (by simp))
      have hF3 := hF2.trans f3
      have hlt3 : w.heap.size + 1 < w3.heap.size := (Array.getElem?_eq_some_iff.1 hb3).1
      have HB3 := Lib.hid hb3
      clear hb2 hle hz1 f3 hg2 hF2 HC HV hb3
      go_wp2_with fail
      go_loopw [29] (fun i wr => ∃ k : Nat, k ≤ n ∧ i = .int .i64 k ∧ Fr [] w3 wr ∧ Hid (R = selTo g.addons m kind (n - k) k)) (fun i _ => n - (intOf i).toNat)
      case atStart => exact ⟨0, by omega, rfl, Fr.refl _ _, HSL⟩
      case round =>
        obtain ⟨k, hk, rfl, hf, HT⟩ := hrel
        have hbr := (hf.block (w.heap.size + 1) hlt3 (by simp)).trans HB3.out
        have HBR := Lib.hid hbr
        have hszr := hf.size
        clear hbr
        by_cases hlt : k < n
        · obtain ⟨x, hx⟩ : ∃ x, g.addons[k]? = some x := ⟨_, List.getElem?_eq_getElem (by have := HN.out; omega)⟩
          obtain ⟨b, o, hta, hcell⟩ := RdF.at (f := Ad.cells) HAD.out.rd hx
          rw [← HA.out] at hta
          subst hta
          have hfu : n - k = (n - (k + 1)) + 1 := by omega
          have hT := HT.out
          rw [hfu] at hT
          have hhit : (x.kind == kind) = true → bitB m k = true → R = some k := fun h h2 => hT.trans (selTo_hit hx h h2)
          have hgo : ¬ ((x.kind == kind) = true ∧ bitB m k = true) → R = selTo g.addons m kind (n - (k + 1)) (k + 1) := fun h => hT.trans (selTo_go hx h)
          have hF := hF3.trans hf
          have c0 := hF.cell_some (hcell 0 _ rfl) (by simp)
          have c1 := hF.cell_some (hcell 1 _ rfl) (by simp)
          have c2 := hF.cell_some (hcell 2 _ rfl) (by simp)
          have c3 := hF.cell_some (hcell 3 _ rfl) (by simp)
          have c4 := hF.cell_some (hcell 4 _ rfl) (by simp)
          have c5 := hF.cell_some (hcell 5 _ rfl) (by simp)
          rw [Nat.add_zero] at c0
          have hsome := fun w' (hr : R = some k) (hf' : Fr [] w w') => HS0.out w' k x hr hx hf'
          obtain ⟨xname, xkind, xprice, xfa, xfc, xfactors, xdigits, xpa, xpc, xprizes⟩ := x
          simp only at c0 c1 c2 c3 c4 c5 hhit hgo
          have HHIT := Lib.hid hhit
          have HGO := Lib.hid hgo
          have HSM := Lib.hid hsome
          have hbit := bit_one m k hm0 hm1 (by omega)
          have hk3 : k ≤ 3 := by omega
          have hkn : (k : Int) < (n : Int) := by omega
          have hk0 : (0 : Int) ≤ (k : Int) := by omega
          clear hx hcell hT hhit hgo hfu hsome HT
          cases hkk : (xkind == kind)
          · have hg := HGO.out (by simp [hkk])
            have HG := Lib.hid hg
            clear hg hbit
            go_wp2_with fail
            exact ⟨⟨k + 1, by omega, by go_num, hf.alloc _, HG⟩, by simp [intOf]; omega⟩
          · cases hq : bitB m k
            · have hg := HGO.out (by simp [hq])
              have HG := Lib.hid hg
              rw [hq] at hbit
              clear hg hq
              go_wp2_with fail
              exact ⟨⟨k + 1, by omega, by go_num, hf.alloc _, HG⟩, by simp [intOf]; omega⟩
            · have hr := HHIT.out hkk hq
              have HR := Lib.hid hr
              rw [hq] at hbit
              clear hr hq
              have hbr2 : ∀ o, (wr.alloc o).heap[w.heap.size + 1]? = some (.cells adZ.cells.toArray 53 (0, 0)) := fun o => (heap_alloc_old _ _ (by omega)).trans HBR.out
              have HBR2 := Lib.hid hbr2
              clear hbr2
              go_wp2_with (refine store_ad rfl (.tmp 6) (.tmp 45) rfl (w.heap.size + 1) rfl _ (HBR2.out _) rfl ⟨xname, xkind, xprice, xfa, xfc, xfactors, xdigits, xpa, xpc, xprizes⟩ rfl ?_; intro w5 hb5 hz5 hf5)
              refine bodyPost_ret (v := .tuple #[Ad.val ⟨xname, xkind, xprice, xfa, xfc, xfactors, xdigits, xpa, xpc, xprizes⟩, .bool true]) (results_cell_two rfl _ _ (w.heap.size + 1) 53 _ (0, 0) _ _ rfl rfl hb5 Try.underlying53 rfl infoAddon) rfl ?_
              exact HSM.out _ HR.out (((hF3.trans hf).alloc _).trans' hf5 (by intro i hi; simp at hi; subst hi; exact .inr HLE.out))
        · obtain rfl : k = n := by omega
          have hq : R = none := by rw [HT.out, Nat.sub_self]; rfl
          have HQ := Lib.hid hq
          clear hq
          go_wp2_with (refine store_ad rfl (.tmp 6) (.tmp 47) rfl (w.heap.size + 1) rfl _ HBR.out rfl adZ rfl ?_; intro w5 hb5 hz5 hf5)
          refine bodyPost_ret (v := .tuple #[adZ.val, .bool false]) (results_cell_two rfl _ _ (w.heap.size + 1) 53 _ (0, 0) _ _ rfl rfl hb5 Try.underlying53 rfl infoAddon) rfl ?_
          exact HN0.out _ HQ.out ((hF3.trans hf).trans' hf5 (by intro i hi; simp at hi; subst hi; exact .inr HLE.out))
  · obtain ⟨E, hE⟩ : ∃ E, E = chkE g := ⟨_, rfl⟩
    rw [if_pos he] at hsl
    rw [← hE] at hC he
    have HR := Lib.hid hsl
    have HC := Lib.hid hC
    have d1 : (E != 0) = true := by simpa using he
    clear hC h20 he hok hE hsl
    go_enter Try.func40, Try.ntmps40
    go_wp2_with (first | (refine box_game rfl (.tmp 0) rfl g rfl ?_; intro w1 hg1 hz1 hf1) | (refine load_game rfl (.tmp 3) rfl _ rfl g (hg1.fr ((Fr.refl [] _).alloc _) (by simp)) ?_))
    refine (HC.out _ (hf1.alloc _)).mono ?_
    rintro e w2 ⟨S, rfl, _, f2⟩
    have hb2 : w2.heap[w.heap.size + 1]? = some (.cells adZ.cells.toArray 53 (0, 0)) := by rw [← hz1]; exact (f2.block w1.heap.size (by simp) (by simp)).trans (heap_alloc_new _ _)
    have hF2 : Fr [] w w2 := (hf1.alloc _).trans f2
    have hle : w.heap.size ≤ w.heap.size + 1 := by omega
    have HLE := Lib.hid hle
    clear hz1 hle f2 hg1
    go_wp2_with (refine store_ad rfl (.tmp 6) (.tmp 25) rfl (w.heap.size + 1) rfl _ hb2 rfl adZ rfl ?_; intro w5 hb5 hz5 hf5)
    refine bodyPost_ret (v := .tuple #[adZ.val, .bool false]) (results_cell_two rfl _ _ (w.heap.size + 1) 53 _ (0, 0) _ _ rfl rfl hb5 Try.underlying53 rfl infoAddon) rfl ?_
    exact HN0.out _ HR.out (hF2.trans' hf5 (by intro i hi; simp at hi; subst hi; exact .inr HLE.out))
def fndV (o : Option Nat) : Int := match o with
  | some k => (k : Int)
  | none => -1
theorem ret_f {o : Option Nat} {x : Int} (h : fndV o = x) : Ending.returned (.int .i64 x) = .returned (.int .i64 (fndV o)) := by rw [h]
set_option maxRecDepth 20000 in
set_option maxHeartbeats 2000000 in
theorem find_any (g : Gm) (m kind : Int) (w : World) (hok : g.Ok w) :
    Calls Try.prog 41 #[g.val, .int .i64 m, .int .i64 kind] w fun e w' => e = .returned (.int .i64 (fndV (selO g m kind))) ∧ Fr [] w w' := by
  have hC := fun w' (h : Fr [] w w') => rcheck_any g w' (hok.fr h)
  have h20 : ∀ w b, GmAt w b g → w.cell? ⟨b, 20, none⟩ = some (.slice g.aa g.addons.length g.ac) := fun w b h => h.cell 20 _ rfl
  unfold RChkPost at hC
  have hsl : selO g m kind = if chkE g ≠ 0 then none else if maskB g.addons.length m = false then none else selTo g.addons m kind g.addons.length 0 := rfl
  generalize selO g m kind = R at *
  by_cases he : chkE g = 0
  · obtain ⟨p1, p2, p3⟩ := chkE_facts he
    obtain ⟨q1, q2⟩ := addsE_facts p2
    have hV := fun w => rvalid_any g m w q1
    rw [he] at hC hsl
    rw [if_neg (by simp)] at hsl
    cases hm : maskB g.addons.length m
    · rw [hm] at hV hsl
      rw [if_pos rfl] at hsl
      have HR := Lib.hid hsl
      have HC := Lib.hid hC
      have HV := Lib.hid hV
      clear hC hV h20 he hm p1 p2 p3 q1 q2 hok hsl
      go_enter Try.func41, Try.ntmps41
      go_wp2_with (first | (refine box_game rfl (.tmp 0) rfl g rfl ?_; intro w1 hg1 hz1 hf1) | (refine load_game rfl (.tmp 3) rfl _ rfl g hg1 ?_))
      refine (HC.out _ hf1).mono ?_
      rintro e w2 ⟨S, rfl, f2⟩
      have hg2 := hg1.fr f2 (by simp)
      go_wp2_with (refine load_game_g (.tmp 3) rfl _ rfl g hg2 rfl ?_)
      refine (HV.out _).mono ?_
      rintro e w3 ⟨rfl, f3⟩
      go_wp2_with fail
      go_ret
      exact ⟨ret_f (by rw [HR.out]; rfl), (hf1.trans f2).trans f3⟩
    · rw [hm] at hV hsl
      rw [if_neg (by simp)] at hsl
      have hmb : 0 ≤ m ∧ m < 16 := by
        have h2 := (pow_bd g.addons.length q1).2
        simp [maskB] at hm
        omega
      obtain ⟨hm0, hm1⟩ := hmb
      obtain ⟨n, hN⟩ : ∃ n, n = g.addons.length := ⟨_, rfl⟩
      rw [← hN] at q1 h20 hsl
      obtain ⟨A, hA⟩ : ∃ A, A = g.aa := ⟨_, rfl⟩
      rw [← hA] at h20
      have HA := Lib.hid hA
      have HH20 := Lib.hid h20
      have hAds := hok.addons
      have HAD := Lib.hid hAds
      have HN := Lib.hid hN
      have HC := Lib.hid hC
      have HV := Lib.hid hV
      have HSL := Lib.hid hsl
      clear hC hV h20 he hm p1 p2 p3 q2 hok hN hAds hA hsl
      go_enter Try.func41, Try.ntmps41
      go_wp2_with (first | (refine box_game rfl (.tmp 0) rfl g rfl ?_; intro w1 hg1 hz1 hf1) | (refine load_game rfl (.tmp 3) rfl _ rfl g hg1 ?_))
      refine (HC.out _ hf1).mono ?_
      rintro e w2 ⟨S, rfl, f2⟩
      have hg2 := hg1.fr f2 (by simp)
      go_wp2_with (refine load_game_g (.tmp 3) rfl _ rfl g hg2 rfl ?_)
      refine (HV.out _).mono ?_
      rintro e w3 ⟨rfl, f3⟩
      have c20 := HH20.out _ _ (hg2.fr f3 (by simp))
      have hF3 := (hf1.trans f2).trans f3
      clear f2 f3 hg2 HC HV hz1
      go_wp2_with fail
      go_loopw [9] (fun i wr => ∃ k : Nat, k ≤ n ∧ i = .int .i64 k ∧ Fr [] w3 wr ∧ Hid (R = selTo g.addons m kind (n - k) k)) (fun i _ => n - (intOf i).toNat)
      case atStart => exact ⟨0, by omega, rfl, Fr.refl _ _, HSL⟩
      case round =>
        obtain ⟨k, hk, rfl, hf, HT⟩ := hrel
        have r20 := hf.cell_some c20 (by simp)
        by_cases hlt : k < n
        · obtain ⟨x, hx⟩ : ∃ x, g.addons[k]? = some x := ⟨_, List.getElem?_eq_getElem (by have := HN.out; omega)⟩
          obtain ⟨b, o, hta, hcell⟩ := RdF.at (f := Ad.cells) HAD.out.rd hx
          rw [← HA.out] at hta
          subst hta
          have hfu : n - k = (n - (k + 1)) + 1 := by omega
          have hT := HT.out
          rw [hfu] at hT
          have hhit : (x.kind == kind) = true → bitB m k = true → R = some k := fun h h2 => hT.trans (selTo_hit hx h h2)
          have hgo : ¬ ((x.kind == kind) = true ∧ bitB m k = true) → R = selTo g.addons m kind (n - (k + 1)) (k + 1) := fun h => hT.trans (selTo_go hx h)
          have hF := hF3.trans hf
          have c1 := hF.cell_some (hcell 1 _ rfl) (by simp)
          generalize x.kind = xkind at *
          have HHIT := Lib.hid hhit
          have HGO := Lib.hid hgo
          have hk3 : k ≤ 3 := by omega
          have hkn : (k : Int) < (n : Int) := by omega
          have hk0 : (0 : Int) ≤ (k : Int) := by omega
          clear hx hcell hT hhit hgo hfu HT
          cases hkk : (xkind == kind)
          · have hg := HGO.out (by simp [hkk])
            have HG := Lib.hid hg
            clear hg
            go_wp2_with fail
            exact ⟨⟨k + 1, by omega, by go_num, hf, HG⟩, by simp [intOf]; omega⟩
          · go_wp2_with fail
            refine (rsel_any m k _ hm0 hm1 hk3).mono ?_
            rintro e w5 ⟨rfl, rfl⟩
            cases hq : bitB m k
            · have hg := HGO.out (by simp [hq])
              have HG := Lib.hid hg
              clear hg hq
              go_wp2_with fail
              exact ⟨⟨k + 1, by omega, by go_num, hf, HG⟩, by simp [intOf]; omega⟩
            · have hr := HHIT.out hkk hq
              have HR := Lib.hid hr
              clear hr hq
              go_wp2_with fail
              go_ret
              exact ⟨ret_f (by rw [HR.out]; rfl), hF3.trans hf⟩
        · obtain rfl : k = n := by omega
          have hq : R = none := by rw [HT.out, Nat.sub_self]; rfl
          have HQ := Lib.hid hq
          clear hq
          go_wp2_with fail
          go_ret
          exact ⟨ret_f (by rw [HQ.out]; rfl), hF3.trans hf⟩
  · obtain ⟨E, hE⟩ : ∃ E, E = chkE g := ⟨_, rfl⟩
    rw [if_pos he] at hsl
    rw [← hE] at hC he
    have HR := Lib.hid hsl
    have HC := Lib.hid hC
    have d1 : (E != 0) = true := by simpa using he
    clear hC h20 he hok hE hsl
    go_enter Try.func41, Try.ntmps41
    go_wp2_with (first | (refine box_game rfl (.tmp 0) rfl g rfl ?_; intro w1 hg1 hz1 hf1) | (refine load_game rfl (.tmp 3) rfl _ rfl g hg1 ?_))
    refine (HC.out _ hf1).mono ?_
    rintro e w2 ⟨S, rfl, f2⟩
    go_wp2_with fail
    go_ret
    exact ⟨ret_f (by rw [HR.out]; rfl), hf1.trans f2⟩
end Go.Proofs.Ytdbkkbeelemnhaa
