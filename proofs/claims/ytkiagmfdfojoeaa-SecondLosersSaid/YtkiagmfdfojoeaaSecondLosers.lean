/-
  SecondLosers: for every list of tickets and wins the statement returns true: the entries are exactly the tickets that were not cancelled and have no win. No conditions.
-/
import Derived.Test.YtkiagmfdfojoeaaREntries
import Derived.Test.YtkiagmfdfojoeaaPerm
import Derived.ProofKit
import Derived.ShutString
import Derived.ChangeOld
namespace Go.Proofs.Ytkiagmfdfojoeaa.secondLosers
open Go.ChangeShapes Go.WideShapes Go.ChangeAt Go.RowKit
open Go.ChangeMaps (open_string shut_string)
set_option linter.unusedVariables false
theorem ent_more (l : List Tk) (ws : List (Int × Int × Int)) (j : Nat) : ∀ d, ∃ r, entTo l ws (j + d) = entTo l ws j ++ r := by
  intro d
  induction d with
  | zero => exact ⟨[], by simp⟩
  | succ d ih =>
    obtain ⟨r, hr⟩ := ih
    cases h : isEnt l ws (j + d)
    · exact ⟨r, by rw [← Nat.add_assoc, entTo_no _ _ _ h, hr]⟩
    · exact ⟨r ++ [((j + d : Nat) : Int)], by rw [← Nat.add_assoc, entTo_yes _ _ _ h, hr, List.append_assoc]⟩
theorem ent_at (l : List Tk) (ws : List (Int × Int × Int)) (j n : Nat) (h : isEnt l ws j = true) (hj : j < n) : (entTo l ws j).length < (entTo l ws n).length ∧ (entTo l ws n).getD (entTo l ws j).length 0 = j := by
  obtain ⟨r, hr⟩ := ent_more l ws (j + 1) (n - (j + 1))
  rw [show j + 1 + (n - (j + 1)) = n by omega, entTo_yes _ _ _ h] at hr
  rw [hr]
  refine ⟨by simp, ?_⟩
  simp [List.getD]
def fsts (ws : List (Int × Int × Int)) : List Int := ws.map fun x => x.1
theorem fsts_snoc (ws : List (Int × Int × Int)) (k : Nat) (x : Int × Int × Int) (h : ws[k]? = some x) : fsts (ws.take (k + 1)) = fsts (ws.take k) ++ [x.1] := by
  unfold fsts; rw [List.take_add_one, h]; simp
theorem mark_out (m : Nat) (xs : List Int) (x : Int) (h : ¬ (0 ≤ x ∧ x < m)) : mark m (xs ++ [x]) = mark m xs := by
  unfold mark
  apply List.map_congr_left
  intro j hj
  have : ¬ ((j : Int) = x) := by simp at hj; omega
  simp [this]
theorem isEnt_eq (l : List Tk) (ws : List (Int × Int × Int)) (j : Nat) (c : Bool) (h : (l.map Tk.canc).getD j false = c) : isEnt l ws j = (!c && !decide ((j : Int) ∈ fsts ws)) := by
  unfold isEnt
  rw [h]
  congr 2
  rw [Bool.eq_iff_iff, decide_eq_true_iff]
  simp [fsts]
set_option maxRecDepth 20000 in
set_option maxHeartbeats 2000000 in
theorem walk (v1 : Value) (l : List Tk) (v2 : Value) (ws : List (Int × Int × Int)) (w : World) (h1 : RdF 14 tkF w v1 l) (h2 : RdF 3 wnF w v2 ws) (hw : ∀ z ∈ ws, (Lit.int .i64 z.1).wf = true) :
    Calls Try.prog 4 #[v1, v2] w fun e w' => e = .returned (.bool true) ∧ Below w.heap.size w w' := by
  have g1 := h1
  have g2 := h2
  obtain ⟨a1, cap1, rfl, hc1, hc2, rd1⟩ := g1
  obtain ⟨a2, cap2, rfl, hc3, hc4, rd2⟩ := g2
  clear hc1 hc2 hc3 hc4
  by_cases hm : l.length ≤ 400 ∧ ws.length ≤ 400
  · have hD := fun (w : World) h1 h2 => entries_any (.slice a1 l.length cap1) (.slice a2 ws.length cap2) l ws w h1 h2 hw (by omega) (by omega)
    have hat := fun j => ent_at l ws j l.length
    obtain ⟨hl1, hl2⟩ := hm
    have HL := Lib.hid (entTo_le l ws l.length)
    obtain ⟨L, hL⟩ : ∃ L, L = entTo l ws l.length := ⟨_, rfl⟩
    rw [← hL] at hD hat
    obtain ⟨n, hN⟩ : ∃ n, n = l.length := ⟨_, rfl⟩
    obtain ⟨m, hM⟩ : ∃ m, m = ws.length := ⟨_, rfl⟩
    rw [← hN] at hD hat hl1 h1 ⊢
    rw [← hM] at hD hl2 h2 ⊢
    have HD := Lib.hid hD
    have HA := Lib.hid hat
    have H1 := Lib.hid h1
    have H2 := Lib.hid h2
    have HN := Lib.hid hN
    have HM := Lib.hid hM
    have HLL := Lib.hid hL
    have hmk := fun w => run_make_row' (P := Try.prog) 29 4 (.bool false) 1 Try.underlying29 infoBool rfl .i64 .i64 n (by omega) (by omega) w
    have d1 : decide (400 < (n : Int)) = false := by simp; omega
    have d2 : decide (400 < n) = false := by simp; omega
    have d3 : decide (400 < (m : Int)) = false := by simp; omega
    have d4 : decide (400 < m) = false := by simp; omega
    clear hD hat h1 h2 hw hN hM hL
    go_enter Try.func4, Try.ntmps4
    go_wp2_with fail
    obtain ⟨w5, hw5⟩ : ∃ w5, w5 = w.alloc (.cells (madeCells #[.bool false] n) 4) := ⟨_, rfl⟩
    have hf5 : Fr [] w w5 := by rw [hw5]; exact (Fr.refl _ _).alloc _
    have ho5 : OwnB w5 w.heap.size 4 (.slice (some ⟨w.heap.size, 0, none⟩) n n) (mark n (fsts (ws.take 0))) := by rw [hw5, List.take_zero]; show OwnB _ _ _ _ (mark n []); rw [mark_nil]; exact OwnB.made _ _ _ (by unfold maxLen; omega)
    rw [← hw5]
    clear hw5 hmk
    go_loopw [6] (fun i wr => ∃ k : Nat, k ≤ m ∧ i = .int .i64 k ∧ OwnB wr w.heap.size 4 (.slice (some ⟨w.heap.size, 0, none⟩) n n) (mark n (fsts (ws.take k))) ∧ Fr [] w wr) (fun i _ => m - (intOf i).toNat)
    case atStart => exact ⟨0, by omega, rfl, ho5, hf5⟩
    case round =>
      obtain ⟨k, hk, rfl, ho, hf⟩ := hrel
      by_cases hlt : k < m
      · obtain ⟨x, hx⟩ : ∃ x, ws[k]? = some x := ⟨_, List.getElem?_eq_getElem (by have := HM.out; omega)⟩
        obtain ⟨g, o, rfl, hcell⟩ := rd2 k x hx
        have hs := fsts_snoc ws k x hx
        obtain ⟨x0, x1, x2⟩ := x
        have f0 := hf.cell_some (hcell 0 (.int .i64 x0) (by simp [wnF])) (by simp)
        rw [Nat.add_zero] at f0
        simp only at hs
        have HS := Lib.hid hs
        clear hx hcell hs
        by_cases hb : 0 ≤ x0 ∧ x0 < n
        · obtain ⟨hb0, hb1⟩ := hb
          obtain ⟨x0, rfl⟩ := Int.eq_ofNat_of_zero_le hb0
          have c2 := ho.cell x0 (by rw [mark_len]; omega)
          have z2 := ho.frozen x0
          have hset : OwnB (wr.setCell ⟨w.heap.size, x0, none⟩ (.bool true)) w.heap.size 4 (.slice (some ⟨w.heap.size, 0, none⟩) n n) (mark n (fsts (ws.take (k + 1)))) := by
            rw [HS.out, ← mark_set]
            exact ho.set x0 true
          have d5 : decide ((0 : Int) ≤ x0) = true := by simp
          have d6 : decide ((x0 : Int) < n) = true := by simp; omega
          have d7 : decide (x0 < n) = true := by simp; omega
          have hb2 : x0 < n := by omega
          go_wp2_with fail
          exact ⟨⟨k + 1, by omega, by go_num, hset, hf.setCell (.inr (Nat.le_refl _)) _⟩, by simp [intOf]; omega⟩
        · have hset : OwnB wr w.heap.size 4 (.slice (some ⟨w.heap.size, 0, none⟩) n n) (mark n (fsts (ws.take (k + 1)))) := by
            rw [HS.out, mark_out _ _ _ hb]
            exact ho
          by_cases hb0 : 0 ≤ x0
          · have hb1 : ¬ x0 < n := by omega
            have d5 : decide ((0 : Int) ≤ x0) = true := by simpa using hb0
            have d6 : decide ((x0 : Int) < n) = false := by simpa using hb1
            clear hb
            go_wp2_with fail
            exact ⟨⟨k + 1, by omega, by go_num, hset, hf⟩, by simp [intOf]; omega⟩
          · have d5 : decide ((0 : Int) ≤ x0) = false := by simpa using hb0
            clear hb
            go_wp2_with fail
            exact ⟨⟨k + 1, by omega, by go_num, hset, hf⟩, by simp [intOf]; omega⟩
      · obtain rfl : k = m := by omega
        have hk2 : ws.take k = ws := by have := HM.out; rw [this]; exact List.take_length
        rw [hk2] at ho
        clear hf5 ho5 rd2 hk2
        obtain ⟨wo, rfl⟩ : ∃ wo : World, wo = wr := ⟨_, rfl⟩
        go_wp2_with fail
        refine (HD.out _ (H1.out.below hf) (H2.out.below hf)).mono ?_
        rintro e w6 ⟨v6, rfl, o6, f6⟩
        have hF6 := hf.trans f6
        have ho6 := ho.fr f6 (by simp)
        have r6 := o6.rd
        clear HD H1 H2 ho hf f6 o6
        obtain ⟨a6, cap6, rfl, _, _, rd6⟩ := r6
        obtain ⟨p, hP⟩ : ∃ p, p = L.length := ⟨_, rfl⟩
        rw [← hP] at rd6 ⊢
        have HP := Lib.hid hP
        have hpn : p ≤ n := by have := HL.out; rw [hP, HLL.out]; have := HN.out; omega
        clear hP
        go_wp2_with fail
        go_loop [8, 9] (fun c i => ∃ j q : Nat, j ≤ n ∧ i = .int .i64 j ∧ q ≤ p ∧ c = .int .i64 q ∧ Hid (q = (entTo l ws j).length)) (fun _ i => n - (intOf i).toNat)
        case atStart => exact ⟨0, 0, by omega, rfl, by omega, rfl, Lib.hid rfl⟩
        case round =>
          obtain ⟨j, q, hj, rfl, hq, rfl, HQ⟩ := hrel
          by_cases hlt2 : j < n
          · obtain ⟨x, hx⟩ : ∃ x, l[j]? = some x := ⟨_, List.getElem?_eq_getElem (by have := HN.out; omega)⟩
            obtain ⟨g, o, rfl, hcell⟩ := tkF_cell (l := l) (rd1 j x hx)
            have hie := isEnt_eq l ws j x.canc (by simp [List.getD, hx])
            have c13 := hF6.cell_some (hcell 13 _ rfl) (by simp)
            have cm := ho6.cell j (by rw [mark_len]; omega)
            rw [mark_getD _ _ _ (by omega)] at cm
            have cm' : w6.cell? ⟨w.heap.size, j, none⟩ = some (.bool (decide ((j : Int) ∈ fsts ws))) := cm
            have hj1 : (0 : Int) ≤ (j : Int) := by omega
            have hj2 : (j : Int) < (n : Int) := by omega
            clear hx hcell cm
            generalize x.canc = cx at *
            generalize decide ((j : Int) ∈ fsts ws) = dx at *
            cases cx
            · cases dx
              · have he : isEnt l ws j = true := hie
                obtain ⟨hA1, hA2⟩ := HA.out j he hlt2
                have hy := entTo_yes l ws j he
                rw [← HQ.out] at hA1 hA2
                have hqp : q < p := by have := HP.out; omega
                obtain ⟨g6, o6, rfl, c6⟩ := rd6 q hqp
                rw [hA2] at c6
                have d5 : decide ((p : Int) ≤ q) = false := by simp; omega
                have d6 : decide (p ≤ q) = false := by simp; omega
                have d7 : ((j : Int) != j) = false := by simp
                have HY := Lib.hid hy
                clear hie he hA1 hA2 hy
                go_wp2_with fail
                go_round
                case rel => exact ⟨j + 1, q + 1, by omega, by go_num, by omega, by go_num, Lib.hid (by rw [HY.out, HQ.out]; simp)⟩
                case measure => simp [intOf]; omega
              · have he : isEnt l ws j = false := hie
                have hy := entTo_no l ws j he
                have HY := Lib.hid hy
                clear hie he hy
                go_wp2_with fail
                go_round
                case rel => exact ⟨j + 1, q, by omega, by go_num, by omega, rfl, Lib.hid (by rw [HY.out, HQ.out])⟩
                case measure => simp [intOf]; omega
            · have he : isEnt l ws j = false := by rw [hie]; rfl
              have hy := entTo_no l ws j he
              have HY := Lib.hid hy
              clear hie he hy
              go_wp2_with fail
              go_round
              case rel => exact ⟨j + 1, q, by omega, by go_num, by omega, rfl, Lib.hid (by rw [HY.out, HQ.out])⟩
              case measure => simp [intOf]; omega
          · obtain rfl : j = n := by omega
            obtain rfl : q = p := by rw [HQ.out, HP.out, HLL.out, ← HN.out]
            have d7 : ((q : Int) == q) = true := by simp
            go_wp2_with fail
            refine (enters_any _).mono ?_
            rintro e w7 ⟨rfl, f7⟩
            go_wp2_with fail
            go_ret
            exact ⟨rfl, (hF6.trans f7).below⟩
  · have hc : (decide (400 < (l.length : Int)) = true ∧ decide (400 < l.length) = true) ∨ (decide (400 < (l.length : Int)) = false ∧ decide (400 < l.length) = false ∧ decide (400 < (ws.length : Int)) = true ∧ decide (400 < ws.length) = true) := by
      simp only [decide_eq_true_eq, decide_eq_false_iff_not]; omega
    clear hm h1 h2 hw rd1 rd2
    generalize l.length = n at *
    generalize ws.length = m at *
    rcases hc with ⟨d1, d2⟩ | ⟨d1, d2, d3, d4⟩
    all_goals
      go_enter Try.func4, Try.ntmps4
      go_wp2_with fail
      refine (enters_any _).mono ?_
      rintro e w4 ⟨rfl, f4⟩
      go_wp2_with fail
      go_ret
      exact ⟨rfl, f4.below⟩
theorem own : ownKnob Try.prog.godebug = none := by kernel_rfl
theorem laidOut : laidOutB Try.prog = true := by kernel_rfl
set_option maxRecDepth 100000 in
theorem lifted (os : Os) (started : os.Started) (H : Type) (enc : TypeId × Value → H) :
    ReturnsInHanded {} Try.checked os 4 .any (Rows.secondLosersSpec.pre6 enc Try.prog Try.f4 Rows.secondLosersRow.domain false) (Rows.secondLosersSpec.post enc Try.prog Try.f4 false true false false) := by
  refine returnsInHanded_of_change (C := Try.checked) own started (by kernel_rfl) Try.func4
    (ChangeSpec.witness6 (enc := enc) (C := Try.checked) false ⟨#[], #[.slice none 0 0, .slice none 0 0], []⟩ 8 (by kernel_rfl) (by kernel_rfl) (by kernel_rfl) (by kernel_rfl)) ?_
  intro W base args ds gs before hval0 hW hcnd _
  have hval : ∀ (j : Nat) t v, Try.f4.params[j]? = some t → args[j]? = some v → Value.okWide Try.prog W .any base t v := hval0
  have hW' := hW
  obtain ⟨p, q, hA0, hV, rfl, hfz, hnd⟩ := hW
  have hA : DataW.TrodAll enc Try.prog W 0 (fun _ => true) true Try.f4.params.toList args.toList ds p := hA0
  rw [Try.params4] at hA hval
  obtain ⟨v0, vs0, d0, ds0, p0, q0, hargs, rfl, rfl, h0, r0⟩ := trodAll_cons hA
  obtain ⟨v1, vs1, d1, ds1, p1, q1, rfl, rfl, rfl, h1, r1⟩ := trodAll_cons r0
  obtain ⟨rfl, rfl, rfl⟩ := trodAll_nil r1
  obtain rfl : args = #[v0, v1] := by cases args; simp_all
  obtain ⟨rfl, rfl⟩ := trodVars_none hV
  have k0 := h0
  have lt0 : ∀ x ∈ p0, x.block < W.heap.size := by obtain ⟨m, hm⟩ := k0; exact DataW.trod_lt m _ _ _ hm
  obtain ⟨l0, hr0⟩ := open_tickets (hval 0 22 v0 rfl rfl) h0
  have k1 := h1
  have lt1 : ∀ x ∈ p1, x.block < W.heap.size := by obtain ⟨m, hm⟩ := k1; exact DataW.trod_lt m _ _ _ hm
  obtain ⟨l1, hr1, hw1⟩ := open_wins (hval 1 23 v1 rfl rfl) h1
  clear hA0 hval0
  refine (walk v0 l0 v1 l1 W hr0 hr1 hw1).mono fun e W' ⟨he, bel⟩ => ?_
  subst he
  exact ⟨_, rfl, _, _, _, [], _, [], hW', trodAll_mk1 (shut_bool Try.underlying4 _), (trodAll_cons_mk (Below.trod laidOut (by kernel_rfl) (of_decide_eq_true (by kernel_rfl)) k0 bel lt0) (trodAll_cons_mk (Below.trod laidOut (by kernel_rfl) (of_decide_eq_true (by kernel_rfl)) k1 bel lt1) trodAll_mk0)), rfl, bel.frame _, fun h => by cases h⟩
theorem over : Rows.secondLosersRow.holds Try.pinned (OpenSpec.ofChange Rows.secondLosersSpec) :=
  OpenClaim.holds_of_wide 4 Try.f4 rfl rfl rfl rfl rfl rfl rfl ⟨rfl, rfl, rfl, rfl, rfl⟩ rfl rfl rfl rfl rfl (by kernel_rfl) Try.func4 (by kernel_rfl)
    (of_decide_eq_true (by kernel_rfl)) (by unfold Func.isWrapper; first | (rw [if_pos (by decide +kernel)]; kernel_rfl) | (rw [if_neg (by decide +kernel)]; exact ⟨rfl, rfl⟩))
    (fun os started H enc _ => lifted os started H enc)
/-- THE STATEMENT -/
theorem proved : Rows.SecondLosersSaid := over
end Go.Proofs.Ytkiagmfdfojoeaa.secondLosers
