/-
  Entries of the reference of layer 43, and enters of its statements.
-/
import Derived.Test.YtkiagmfdfojoeaaEntries
set_option linter.unusedVariables false
namespace Go.Proofs.Ytkiagmfdfojoeaa
open Go.RowKit Go.Maps
theorem any_snoc (ws : List (Int × Int × Int)) (k : Nat) (x : Int × Int × Int) (i : Nat) (h : ws[k]? = some x) : ((ws.take (k + 1)).any fun x => decide (x.1 = (i : Int))) = (((ws.take k).any fun x => decide (x.1 = (i : Int))) || decide (x.1 = (i : Int))) := by
  rw [List.take_add_one, h]
  simp
set_option maxRecDepth 20000 in
set_option maxHeartbeats 2000000 in
theorem rentries_any (v1 v2 : Value) (l : List Tk) (ws : List (Int × Int × Int)) (w : World) (h1 : RdF 14 tkF w v1 l) (h2 : RdF 3 wnF w v2 ws) (hl : l.length ≤ 1000000) (hl2 : ws.length ≤ 1000000) :
    Calls Try.prog 18 #[v1, v2] w fun x w' => ∃ v', x = .returned v' ∧ OwnI w' w.heap.size 3 v' (entTo l ws l.length) ∧ Fr [] w w' := by
  obtain ⟨a1, cap1, rfl, hc1, hc2, rd1⟩ := h1
  obtain ⟨a2, cap2, rfl, hc3, hc4, rd2⟩ := h2
  clear hc1 hc2 hc3 hc4
  obtain ⟨n, hN⟩ : ∃ n, n = l.length := ⟨_, rfl⟩
  obtain ⟨m, hM⟩ : ∃ m, m = ws.length := ⟨_, rfl⟩
  rw [← hN] at hl ⊢
  rw [← hM] at hl2 ⊢
  have HN := Lib.hid hN
  have HM := Lib.hid hM
  clear hN hM
  go_enter Try.func18, Try.ntmps18
  go_wp2_with fail
  go_loopw [5, 6] (fun out i wr => ∃ j : Nat, j ≤ n ∧ i = .int .i64 j ∧ OwnI wr w.heap.size 3 out (entTo l ws j) ∧ Fr [] w wr) (fun _ i _ => n - (intOf i).toNat)
  case atStart => exact ⟨0, by omega, rfl, OwnI.nil _ _ _, Fr.refl _ _⟩
  case round =>
    obtain ⟨j, hj, rfl, ho, hf⟩ := hrel
    by_cases hlt : j < n
    · obtain ⟨x, hx⟩ : ∃ x, l[j]? = some x := ⟨_, List.getElem?_eq_getElem (by have := HN.out; omega)⟩
      obtain ⟨g, o, rfl, hcell⟩ := tkF_cell (l := l) (rd1 j x hx)
      have hgd : (l.map Tk.canc).getD j false = x.canc := by simp [List.getD, hx]
      have c13 := hf.cell_some (hcell 13 _ rfl) (by simp)
      have hent : isEnt l ws j = (!x.canc && !(ws.any fun x => decide (x.1 = (j : Int)))) := by unfold isEnt; rw [hgd]
      have HE := Lib.hid hent
      generalize x.canc = cx at *
      clear hx hcell hgd hent
      obtain ⟨wo, rfl⟩ : ∃ wo : World, wo = wr := ⟨_, rfl⟩
      go_wp2_with fail
      go_loop [7, 8] (fun q i => ∃ k : Nat, k ≤ m ∧ i = .int .i64 k ∧ q = .bool ((ws.take k).any fun x => decide (x.1 = (j : Int)))) (fun _ i => m - (intOf i).toNat)
      case atStart => exact ⟨0, by omega, rfl, rfl⟩
      case round =>
        obtain ⟨k, hk, rfl, rfl⟩ := hrel
        by_cases hlt2 : k < m
        · obtain ⟨x, hx⟩ : ∃ x, ws[k]? = some x := ⟨_, List.getElem?_eq_getElem (by have := HM.out; omega)⟩
          obtain ⟨g2, o2, rfl, hcell⟩ := rd2 k x hx
          have hs := any_snoc ws k x j hx
          obtain ⟨x0, x1, x2⟩ := x
          have f0 := hf.cell_some (hcell 0 (.int .i64 x0) (by simp [wnF])) (by simp)
          rw [Nat.add_zero] at f0
          simp only at hs
          have HS := Lib.hid hs
          clear hx hcell hs
          obtain ⟨q, hq⟩ : ∃ q, q = ((ws.take k).any fun x => decide (x.1 = (j : Int))) := ⟨_, rfl⟩
          rw [← hq]
          have HQ := Lib.hid hq
          clear hq
          have hjk : (0 : Int) ≤ k := by omega
          cases q
          · by_cases he : x0 = (j : Int)
            · have e1 : (x0 == (j : Int)) = true := by simpa using he
              have HH := Lib.hid he
              clear he
              go_wp2_with fail
              go_round
              case rel => exact ⟨k + 1, by omega, by go_num, by rw [HS.out, ← HQ.out]; simp [HH.out]⟩
              case measure => simp [intOf]; omega
            · have e1 : (x0 == (j : Int)) = false := by simpa using he
              have HH := Lib.hid he
              clear he
              go_wp2_with fail
              go_round
              case rel => exact ⟨k + 1, by omega, by go_num, by rw [HS.out, ← HQ.out]; simp [HH.out]⟩
              case measure => simp [intOf]; omega
          · go_wp2_with fail
            go_round
            case rel => exact ⟨k + 1, by omega, by go_num, by rw [HS.out, ← HQ.out]; simp⟩
            case measure => simp [intOf]; omega
        · obtain rfl : k = m := by omega
          have hk2 : ws.take k = ws := by have := HM.out; rw [this]; exact List.take_length
          rw [hk2]
          obtain ⟨q, hq⟩ : ∃ q, q = (ws.any fun x => decide (x.1 = (j : Int))) := ⟨_, rfl⟩
          have hE := HE.out
          rw [← hq] at hE ⊢
          clear hk2 HE hq
          have HE := Lib.hid hE
          clear hE
          cases q
          · cases cx
            · have hE := entTo_yes l ws j (by rw [HE.out]; rfl)
              have HE2 := Lib.hid hE
              clear hE HE
              go_wp2_with (at_builtin; refine app_int _ (j : Int) rfl (.tmp 41) (.tmp 43) rfl w.heap.size _ (entTo l ws j) rfl ho rfl (by have := entTo_le l ws j; omega) hf.size ?_)
              intro v' w' ho' hF
              have hf' := hF [] w (Nat.le_refl _) hf
              go_wp2_with fail
              exact ⟨⟨j + 1, by omega, by go_num, by rw [HE2.out]; exact ho', hf'⟩, by simp [intOf]; omega⟩
            · have hE := entTo_no l ws j (by rw [HE.out]; rfl)
              have HE2 := Lib.hid hE
              clear hE HE
              go_wp2_with fail
              exact ⟨⟨j + 1, by omega, by go_num, by rw [HE2.out]; exact ho, hf⟩, by simp [intOf]; omega⟩
          · have hE := entTo_no l ws j (by rw [HE.out]; cases cx <;> rfl)
            have HE2 := Lib.hid hE
            clear hE HE
            go_wp2_with fail
            exact ⟨⟨j + 1, by omega, by go_num, by rw [HE2.out]; exact ho, hf⟩, by simp [intOf]; omega⟩
    · obtain rfl : j = n := by omega
      go_wp2_with fail
      go_ret
      exact ⟨_, rfl, ho, hf⟩
theorem flat_at {c : Nat} {y : Value} : ∀ (l : List (List Value)) (j i : Nat) (x : List Value), (∀ x ∈ l, x.length = c) → l[j]? = some x → x[i]? = some y → l.flatten[j * c + i]? = some y := by
  intro l
  induction l with
  | nil => intro j i x _ hj; simp at hj
  | cons a l ih =>
    intro j i x hc hj hi
    have ha : a.length = c := hc a (by simp)
    cases j with
    | zero =>
      simp at hj
      subst hj
      have : i < a.length := (List.getElem?_eq_some_iff.1 hi).1
      rw [List.flatten_cons, Nat.zero_mul, Nat.zero_add, List.getElem?_append_left this]
      exact hi
    | succ j =>
      have h := ih j i x (fun x hx => hc x (by simp [hx])) (by simpa using hj) hi
      rw [List.flatten_cons, List.getElem?_append_right (by rw [ha, Nat.succ_mul]; omega), ha]
      rw [show (j + 1) * c + i - c = j * c + i by rw [Nat.succ_mul]; omega]
      exact h
theorem rdf_new {α : Type} (c : Nat) (f : α → List Value) (w : World) (l : List α) (C : Array Value) (T : TypeId) (n : Nat) (hn : l.length = n) (hC : C = (l.map f).flatten.toArray) (hc : ∀ x ∈ l, (f x).length = c) (hm : n ≤ maxLen) :
    RdF c (fun x => pairs (f x)) (w.alloc (.cells C T)) (.slice (some ⟨w.heap.size, 0, none⟩) n n) l := by
  subst hn
  refine ⟨_, _, rfl, Nat.le_refl _, hm, fun j x hx => ⟨w.heap.size, 0, rfl, fun i y hy => ?_⟩⟩
  rw [mem_pairs] at hy
  have h := flat_at (l.map f) j i (f x) (fun z hz => by obtain ⟨q, hq, rfl⟩ := List.mem_map.1 hz; exact hc q hq) (by simp [hx]) hy
  subst hC
  rw [Nat.zero_add]
  show World.cell? _ _ = _
  simp only [World.cell?, World.alloc, Array.getElem?_push_size]
  simpa using h
def tk0 (b : Bool) : Tk := ⟨ByteArray.empty, ByteArray.empty, none, 0, 0, false, 0, 0, ByteArray.empty, 0, 0, 0, 0, 0, 0, b⟩
theorem ent_two : entTo [tk0 false, tk0 true] [] 2 = [0] := by simp [entTo, isEnt, List.range_succ, tk0]
set_option maxHeartbeats 1000000 in
theorem enters_any (w : World) : Calls Try.prog 15 #[] w fun e w' => e = .returned (.bool true) ∧ Fr [] w w' := by
  have hE := fun (w : World) (v : Value) (h : RdF 14 tkF w v [tk0 false, tk0 true]) => entries_any v (.slice none 0 0) [tk0 false, tk0 true] [] w h ⟨none, 0, rfl, by simp, by simp, by simp⟩ (by simp) (by simp) (by simp)
  rw [show [tk0 false, tk0 true].length = 2 from rfl, ent_two] at hE
  have HE := Lib.hid hE
  clear hE
  go_enter Try.func15, Try.ntmps15
  go_wp2_with fail
  refine (HE.out _ _ (rdf_new 14 Tk.cells _ [tk0 false, tk0 true] _ _ 2 rfl rfl (fun x _ => rfl) (by unfold maxLen; omega))).mono ?_
  rintro e w1 ⟨v1, rfl, ho, hf⟩
  obtain ⟨g, cap, rfl, hg, hlt, h1, h2⟩ := ho.form (by simp)
  have c0 := ho.cell 0 (by simp)
  simp only [List.getD, List.getElem?_cons_zero, Option.getD_some] at c0
  have hF : Fr [] w w1 := ((Fr.refl [] w).alloc _).trans hf
  clear ho hf h1 h2
  go_wp2_with fail
  go_ret
  exact ⟨rfl, hF⟩
end Go.Proofs.Ytkiagmfdfojoeaa
