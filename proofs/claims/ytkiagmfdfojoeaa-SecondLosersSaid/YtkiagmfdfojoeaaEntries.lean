/-
  Entries of the second-chance drawing (layer 43), its reference, and enters of its statements: in terms of a plain function on lists.
-/
import Derived.Test.YtkiagmfdfojoeaaTicket
import Derived.Test.YtkiagmfdfojoeaaAppH
import Derived.Test.YtkiagmfdfojoeaaMapB
set_option linter.unusedVariables false
namespace Go.Proofs.Ytkiagmfdfojoeaa
open Go.RowKit Go.Maps
/-- is ticket i an entry? -/
def isEnt (l : List Tk) (ws : List (Int × Int × Int)) (i : Nat) : Bool := !((l.map Tk.canc).getD i false) && !(ws.any fun x => decide (x.1 = (i : Int)))
def entTo (l : List Tk) (ws : List (Int × Int × Int)) (k : Nat) : List Int := ((List.range k).filter (isEnt l ws)).map fun (i : Nat) => (i : Int)
theorem entTo_zero (l : List Tk) (ws : List (Int × Int × Int)) : entTo l ws 0 = [] := rfl
theorem entTo_yes (l : List Tk) (ws : List (Int × Int × Int)) (k : Nat) (h : isEnt l ws k = true) : entTo l ws (k + 1) = entTo l ws k ++ [(k : Int)] := by
  simp [entTo, List.range_succ, List.filter_append, h]
theorem entTo_no (l : List Tk) (ws : List (Int × Int × Int)) (k : Nat) (h : isEnt l ws k = false) : entTo l ws (k + 1) = entTo l ws k := by
  simp [entTo, List.range_succ, List.filter_append, h]
theorem entTo_le (l : List Tk) (ws : List (Int × Int × Int)) (k : Nat) : (entTo l ws k).length ≤ k := by
  unfold entTo
  rw [List.length_map]
  have := List.length_filter_le (isEnt l ws) (List.range k)
  simpa using this
def keys (ws : List (Int × Int × Int)) : List Lit := ws.map fun x => .int .i64 x.1
theorem keys_mem (ws : List (Int × Int × Int)) (i : Nat) : (ws.any (fun x => decide (x.1 = (i : Int)))) = true ↔ Lit.int .i64 (i : Int) ∈ keys ws := by
  simp [keys, List.any_eq_true]
theorem keys_snoc (ws : List (Int × Int × Int)) (k : Nat) (x : Int × Int × Int) (h : ws[k]? = some x) : keys (ws.take (k + 1)) = keys (ws.take k) ++ [.int .i64 x.1] := by
  unfold keys
  rw [List.take_add_one, h]
  simp
theorem mapLaw : Keyed Try.prog 3 := int_keyed Try.underlying3
theorem zeroBool (w : World) : (zeroValue 4).run Try.prog w = .ok (.bool false) w := by kernel_rfl
theorem tkF_cell {w : World} {a : Option Addr} {l : List Tk} {k : Nat} {x : Tk} (h : ∃ g o, a = some ⟨g, o, none⟩ ∧ ∀ i y, (i, y) ∈ tkF x → w.cell? ⟨g, o + (k * 14 + i), none⟩ = some y) :
    ∃ g o, a = some ⟨g, o, none⟩ ∧ ∀ i y, x.cells[i]? = some y → w.cell? ⟨g, o + k * 14 + i, none⟩ = some y := by
  obtain ⟨g, o, rfl, h⟩ := h
  exact ⟨g, o, rfl, fun i y hy => by rw [Nat.add_assoc]; exact h i y (mem_pairs.2 hy)⟩
set_option maxRecDepth 20000 in
set_option maxHeartbeats 2000000 in
theorem entries_any (v1 v2 : Value) (l : List Tk) (ws : List (Int × Int × Int)) (w : World) (h1 : RdF 14 tkF w v1 l) (h2 : RdF 3 wnF w v2 ws) (hw : ∀ z ∈ ws, (Lit.int .i64 z.1).wf = true) (hl : l.length ≤ 1000000) (hl2 : ws.length ≤ 1000000) :
    Calls Try.prog 17 #[v1, v2] w fun x w' => ∃ v', x = .returned v' ∧ OwnI w' w.heap.size 3 v' (entTo l ws l.length) ∧ Fr [] w w' := by
  obtain ⟨a1, cap1, rfl, hc1, hc2, rd1⟩ := h1
  obtain ⟨a2, cap2, rfl, hc3, hc4, rd2⟩ := h2
  clear hc1 hc2 hc3 hc4
  obtain ⟨n, hN⟩ : ∃ n, n = l.length := ⟨_, rfl⟩
  obtain ⟨m, hM⟩ : ∃ m, m = ws.length := ⟨_, rfl⟩
  rw [← hN] at hl ⊢
  rw [← hM] at hl2 ⊢
  have HN := Lib.hid hN
  have HM := Lib.hid hM
  have HW := Lib.hid hw
  have hmm := @run_makeMap Try.prog
  clear hN hM hw
  go_enter Try.func17, Try.ntmps17
  go_wp2_with fail
  obtain ⟨w1, hw1⟩ : ∃ w1, w1 = w.alloc (.map #[] 0) := ⟨_, rfl⟩
  have s1 : SetB Try.prog 3 4 w1 w.heap.size 0 (keys (ws.take 0)) := by rw [hw1]; exact SetB.made w
  have f1 : Fr [] w w1 := by rw [hw1]; exact (Fr.refl _ _).alloc _
  rw [← hw1]
  clear hw1 hmm
  go_loopw [14] (fun i wr => ∃ k : Nat, k ≤ m ∧ i = .int .i64 k ∧ SetB Try.prog 3 4 wr w.heap.size k (keys (ws.take k)) ∧ Fr [] w wr) (fun i _ => m - (intOf i).toNat)
  case atStart => exact ⟨0, by omega, rfl, s1, f1⟩
  case round =>
    obtain ⟨k, hk, rfl, hs, hf⟩ := hrel
    by_cases hlt : k < m
    · obtain ⟨x, hx⟩ : ∃ x, ws[k]? = some x := ⟨_, List.getElem?_eq_getElem (by have := HM.out; omega)⟩
      obtain ⟨g, o, rfl, hcell⟩ := rd2 k x hx
      have hwf := HW.out x (List.mem_of_getElem? hx)
      have hks := keys_snoc ws k x hx
      obtain ⟨x0, x1, x2⟩ := x
      have f0 := hf.cell_some (hcell 0 (.int .i64 x0) (by simp [wnF])) (by simp)
      have f1 := hf.cell_some (hcell 1 (.int .i64 x1) (by simp [wnF])) (by simp)
      have f2 := hf.cell_some (hcell 2 (.int .i64 x2) (by simp [wnF])) (by simp)
      rw [Nat.add_zero] at f0
      rw [← Nat.add_assoc] at f1 f2
      have HK := Lib.hid hks
      have HWF := Lib.hid hwf
      clear hx hcell hks hwf
      have hs' : ∀ o, SetB Try.prog 3 4 (wr.alloc o) w.heap.size k (keys (ws.take k)) := fun o => hs.fr ((Fr.refl [] wr).alloc o) (by simp)
      go_wp2_with (at_mapUpdate; refine wpList_setB rfl (.tmp 18) (.tmp 20) rfl mapLaw Try.underlying64 Try.underlying4 rfl (hs' _) (by unfold maxLen; omega) (.int .i64 x0) (.int .i64 x0) rfl (keyOf_int_mk Try.underlying3 HWF.out) trivial ?_)
      intro w3 hs3 hf3
      have hF3 : Fr [] w w3 := (hf.alloc _).trans' hf3 (by simp)
      go_wp2_with fail
      exact ⟨⟨k + 1, by omega, by go_num, by rw [HK.out]; exact hs3, hF3⟩, by simp [intOf]; omega⟩
    · obtain rfl : k = m := by omega
      have hk2 : ws.take k = ws := by have := HM.out; rw [this]; exact List.take_length
      rw [hk2] at hs
      clear s1 f1 rd2 hk2
      obtain ⟨wo, rfl⟩ : ∃ wo : World, wo = wr := ⟨_, rfl⟩
      go_wp2_with fail
      go_loopw [8, 24] (fun out i wr => ∃ j : Nat, j ≤ n ∧ i = .int .i64 j ∧ OwnI wr wo.heap.size 3 out (entTo l ws j) ∧ Fr [] wo wr) (fun _ i _ => n - (intOf i).toNat)
      case atStart => exact ⟨0, by omega, rfl, OwnI.nil _ _ _, Fr.refl _ _⟩
      case round =>
        obtain ⟨j, hj, rfl, ho, hg⟩ := hrel
        by_cases hlt2 : j < n
        · obtain ⟨x, hx⟩ : ∃ x, l[j]? = some x := ⟨_, List.getElem?_eq_getElem (by have := HN.out; omega)⟩
          obtain ⟨g, o, rfl, hcell⟩ := tkF_cell (l := l) (rd1 j x hx)
          have hgd : (l.map Tk.canc).getD j false = x.canc := by simp [List.getD, hx]
          have hcell' := fun i y hy => hg.cell_some (hf.cell_some (hcell i y hy) (by simp)) (by simp)
          obtain ⟨q, hq⟩ : ∃ q, q = (ws.any fun x => decide (x.1 = (j : Int))) := ⟨_, rfl⟩
          have hlook : ∀ ob, (Instr.lookup 64 (.map (some w.heap.size)) (.int .i64 j) false).run Try.prog (wr.alloc ob) = .ok (.bool q) (wr.alloc ob) := fun ob =>
            (hs.fr (hg.alloc ob) (by simp)).look mapLaw Try.underlying64 Try.underlying4 (zeroBool _) (keyOf_int_mk Try.underlying3 (WalkArith.wf_i64 (by omega))) q (by rw [hq]; exact keys_mem ws j)
          have hent : isEnt l ws j = (!x.canc && !q) := by unfold isEnt; rw [hgd, hq]
          have c0 := hcell' 0 _ rfl
          have c1 := hcell' 1 _ rfl
          have c2 := hcell' 2 _ rfl
          have c3 := hcell' 3 _ rfl
          have c4 := hcell' 4 _ rfl
          have c5 := hcell' 5 _ rfl
          have c6 := hcell' 6 _ rfl
          have c7 := hcell' 7 _ rfl
          have c8 := hcell' 8 _ rfl
          have c9 := hcell' 9 _ rfl
          have c10 := hcell' 10 _ rfl
          have c11 := hcell' 11 _ rfl
          have c12 := hcell' 12 _ rfl
          have c13 := hcell' 13 _ rfl
          rw [Nat.add_zero] at c0
          obtain ⟨y0, y1, y2, y3, y4, y5, y6, y7, y8, y9, y10, y11, y12, y13, y14, y15⟩ := x
          simp only at c0 c1 c2 c3 c4 c5 c6 c7 c8 c9 c10 c11 c12 c13 hent
          have HE := Lib.hid hent
          clear hx hcell hcell' hgd hq hent
          cases y15
          · cases q
            · have hE := entTo_yes l ws j (by rw [HE.out]; rfl)
              have HE2 := Lib.hid hE
              clear hE HE
              go_wp2_with (at_builtin; refine app_intH _ (wr.heap.size + 1) (by simp) (j : Int) rfl (.tmp 38) (.tmp 40) rfl wo.heap.size _ (entTo l ws j) rfl (ho.fr ((Fr.refl [] wr).alloc _) (by simp)) rfl (by have := entTo_le l ws j; omega) (by have := hg.size; simp; omega) ?_)
              intro v' w' ho' hF
              have hf' := hF [] wo (Nat.le_refl _) (hg.alloc _)
              go_wp2_with fail
              exact ⟨⟨j + 1, by omega, by go_num, by rw [HE2.out]; exact ho', hf'⟩, by simp [intOf]; omega⟩
            · have hE := entTo_no l ws j (by rw [HE.out]; rfl)
              have HE2 := Lib.hid hE
              clear hE HE
              go_wp2_with fail
              exact ⟨⟨j + 1, by omega, by go_num, by rw [HE2.out]; exact ho.fr ((Fr.refl [] wr).alloc _) (by simp), hg.alloc _⟩, by simp [intOf]; omega⟩
          · have hE := entTo_no l ws j (by rw [HE.out]; rfl)
            have HE2 := Lib.hid hE
            clear hE HE
            go_wp2_with fail
            exact ⟨⟨j + 1, by omega, by go_num, by rw [HE2.out]; exact ho.fr ((Fr.refl [] wr).alloc _) (by simp), hg.alloc _⟩, by simp [intOf]; omega⟩
        · obtain rfl : j = n := by omega
          obtain ⟨w5, hcl, hf5⟩ := (hs.fr hg (by simp)).clear (t := 64) Try.underlying64
          have hlt5 := hs.lt
          have ho5 := ho.fr hf5 (fun k hk => by have := (ho.block k hk).1; simp; omega)
          have hF5 : Fr [] w w5 := (hf.trans hg).trans' hf5 (by simp)
          go_wp2_with fail
          go_ret
          refine ⟨_, rfl, ?_, hF5⟩
          exact ho5.mono hf.size
end Go.Proofs.Ytkiagmfdfojoeaa
