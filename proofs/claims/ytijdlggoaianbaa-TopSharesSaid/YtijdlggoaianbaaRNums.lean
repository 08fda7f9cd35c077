/-
  The fields of a game in the reference of layer 12: Numbers, Lowest, Highest, Fields, least.
-/
import Derived.Test.YtijdlggoaianbaaNew
import Derived.Test.YtijdlggoaianbaaMatrix
import Derived.Deep.DeepCutAuto
set_option linter.unusedVariables false
namespace Go.Proofs.Ytijdlggoaianbaa
open Go.RowKit
def numsL (g : Gm) : List Int := [g.price, g.main, g.of_, g.bonus, g.bonusof, g.extra, g.draws, g.system, g.days, g.at_, g.close, g.cancel, g.expiry, g.pool, g.reserve, g.round, g.cap, g.rolls]
def lowsL (g : Gm) : List Int := [1, 1, if g.kind = 2 then 2 else g.main, 0, g.bonus, 0, 1, g.main, 1, 0, 0, 0, 1, 0, 0, 1, 0, 0]
def lst (a b : Int) : Int := if a < b then a else b
/-- the greatest values, with the place of a difference -/
def hisX (g : Gm) (x : Int) : List Int := [1000000, 10, 80, 4, 80, lst 4 x, 32, lst 14 g.of_, 127, 1439, 1440, 10080, 3660, 10000, 10000, 1000000, 1000000000000, 64]
def hisB (g : Gm) (x : Int) : List Int := if g.bonus = 0 then (hisX g x).set 4 0 else hisX g x
def hisL (g : Gm) (x : Int) : List Int := if g.kind = 2 then ((((hisB g x).set 2 10).set 3 0).set 5 0).set 7 g.main else hisB g x
def difX (g : Gm) : Int := IntKind.i64.wrap (g.of_ - g.main)
/-- is the j-th field in range? -/
def fldB (g : Gm) (j : Nat) : Bool := inR ((numsL g).getD j 0) ((lowsL g).getD j 0) ((hisL g (difX g)).getD j 0)
theorem fld_iff (g : Gm) (hk : g.kind = 1 ∨ g.kind = 2) : (∀ j, j < 18 → fldB g j = true) ↔ (badM g = false ∧ badT g = false) := by
  have hw : 1 ≤ g.main → g.main ≤ 10 → g.main ≤ 80 → 0 ≤ g.of_ → g.of_ ≤ 80 → difX g = g.of_ - g.main := by
    intro h1 h2 _ h3 h4
    have : IntKind.i64.wrap (g.of_ - g.main) = g.of_ - g.main := IntWalk.i64_in _ (by omega)
    exact this
  have hall : (∀ j, j < 18 → fldB g j = true) ↔ (fldB g 0 = true ∧ fldB g 1 = true ∧ fldB g 2 = true ∧ fldB g 3 = true ∧ fldB g 4 = true ∧ fldB g 5 = true ∧ fldB g 6 = true ∧ fldB g 7 = true ∧ fldB g 8 = true ∧ fldB g 9 = true ∧ fldB g 10 = true ∧ fldB g 11 = true ∧ fldB g 12 = true ∧ fldB g 13 = true ∧ fldB g 14 = true ∧ fldB g 15 = true ∧ fldB g 16 = true ∧ fldB g 17 = true) := by
    constructor
    · intro h
      exact ⟨h 0 (by omega), h 1 (by omega), h 2 (by omega), h 3 (by omega), h 4 (by omega), h 5 (by omega), h 6 (by omega), h 7 (by omega), h 8 (by omega), h 9 (by omega), h 10 (by omega), h 11 (by omega), h 12 (by omega), h 13 (by omega), h 14 (by omega), h 15 (by omega), h 16 (by omega), h 17 (by omega)⟩
    · rintro ⟨h0, h1, h2, h3, h4, h5, h6, h7, h8, h9, h10, h11, h12, h13, h14, h15, h16, h17⟩ j hj
      match j, hj with
      | 0, _ => exact h0
      | 1, _ => exact h1
      | 2, _ => exact h2
      | 3, _ => exact h3
      | 4, _ => exact h4
      | 5, _ => exact h5
      | 6, _ => exact h6
      | 7, _ => exact h7
      | 8, _ => exact h8
      | 9, _ => exact h9
      | 10, _ => exact h10
      | 11, _ => exact h11
      | 12, _ => exact h12
      | 13, _ => exact h13
      | 14, _ => exact h14
      | 15, _ => exact h15
      | 16, _ => exact h16
      | 17, _ => exact h17
      | j + 18, hj => omega
  rw [hall]
  clear hall
  have hb : hisB g (difX g) = [1000000, 10, 80, 4, if g.bonus = 0 then 0 else 80, lst 4 (difX g), 32, lst 14 g.of_, 127, 1439, 1440, 10080, 3660, 10000, 10000, 1000000, 1000000000000, 64] := by
    unfold hisB hisX; split <;> rfl
  have hl : hisL g (difX g) = [1000000, 10, if g.kind = 2 then 10 else 80, if g.kind = 2 then 0 else 4, if g.bonus = 0 then 0 else 80, if g.kind = 2 then 0 else lst 4 (difX g), 32, if g.kind = 2 then g.main else lst 14 g.of_, 127, 1439, 1440, 10080, 3660, 10000, 10000, 1000000, 1000000000000, 64] := by
    unfold hisL; rw [hb]; split <;> rfl
  unfold fldB
  rw [hl]
  clear hl hb
  unfold numsL lowsL badM badT
  simp only [List.getD_cons_zero, List.getD_cons_succ, Bool.not_eq_false', Bool.and_eq_true, decide_eq_true_eq]
  generalize difX g = d at *
  unfold inR lst
  simp only [decide_eq_true_eq]
  rcases hk with h | h
  · simp only [h, show ¬ ((1 : Int) = 2) by omega, if_false, false_or]
    by_cases hb : g.bonus = 0
    · simp only [hb, if_true]; constructor
      · rintro ⟨h0, h1, h2, h3, h4, h5, h6, h7, h8, h9, h10, h11, h12, h13, h14, h15, h16, h17⟩
        have := hw (by omega) (by omega) (by omega) (by omega) (by omega)
        subst this
        split at h5 <;> split at h7 <;> split <;> omega
      · intro hh
        have := hw (by omega) (by omega) (by omega) (by omega) (by omega)
        subst this
        split at hh <;> split <;> split <;> omega
    · simp only [hb, if_false]; constructor
      · rintro ⟨h0, h1, h2, h3, h4, h5, h6, h7, h8, h9, h10, h11, h12, h13, h14, h15, h16, h17⟩
        have := hw (by omega) (by omega) (by omega) (by omega) (by omega)
        subst this
        split at h5 <;> split at h7 <;> split <;> omega
      · intro hh
        have := hw (by omega) (by omega) (by omega) (by omega) (by omega)
        subst this
        split at hh <;> split <;> split <;> omega
  · simp only [h, if_true, true_or, and_true]
    by_cases hb : g.bonus = 0
    · simp only [hb, if_true]; constructor
      · rintro ⟨h0, h1, h2, h3, h4, h5, h6, h7, h8, h9, h10, h11, h12, h13, h14, h15, h16, h17⟩; omega
      · intro hh; omega
    · simp only [hb, if_false]; constructor
      · rintro ⟨h0, h1, h2, h3, h4, h5, h6, h7, h8, h9, h10, h11, h12, h13, h14, h15, h16, h17⟩; omega
      · intro hh; omega
theorem least_any (a b : Int) (w : World) : Calls Try.prog 89 #[.int .i64 a, .int .i64 b] w fun e w' => e = .returned (.int .i64 (lst a b)) ∧ w = w' := by
  by_cases h : a < b
  · rw [show lst a b = a from if_pos h]
    go_enter Try.func89, Try.ntmps89
    go_wp2
    go_ret
    exact ⟨rfl, rfl⟩
  · rw [show lst a b = b from if_neg h]
    go_enter Try.func89, Try.ntmps89
    go_wp2
    go_ret
    exact ⟨rfl, rfl⟩
theorem fields_any (w : World) : Calls Try.prog 66 #[] w fun e w' => ∃ b, e = .returned (.slice (some ⟨b, 0, none⟩) 18 18) ∧ (∀ i, i < 18 → ∃ S, w'.cell? ⟨b, i, none⟩ = some (.string S)) ∧ Fr [] w w' := by
  go_enter Try.func66, Try.ntmps66
  go_wp2
  go_ret
  exact ⟨_, rfl, fun i hi => strs_cell rfl (by kernel_rfl) i hi, (Fr.refl [] w).alloc _⟩
set_option maxRecDepth 20000 in
set_option maxHeartbeats 1000000 in
theorem numbers_any (g : Gm) (w : World) : Calls Try.prog 62 #[g.val] w fun e w' => ∃ b, e = .returned (.slice (some ⟨b, 0, none⟩) 18 18) ∧ RdI w' (.slice (some ⟨b, 0, none⟩) 18 18) (numsL g) ∧ Fr [] w w' := by
  have hl : ∀ g : Gm, (numsL g).length = 18 := fun _ => rfl
  have h := fun (w : World) (n : Nat) (hz : w.heap.size = n) => rdi_mk hz (numsL g) 3 18 (hl g) (by omega)
  unfold numsL at h ⊢
  obtain ⟨name, kind, price, main, of_, bonus, bonusof, extra, draws, system, days, at_, close, cancel, expiry, pool, reserve, round, cap, rolls, aa, ac, addons, ta, tc, tiers⟩ := g
  simp only [Gm.val]
  simp only at h
  have H := Lib.hid h
  clear h hl
  go_enter Try.func62, Try.ntmps62
  go_wp2
  go_ret
  exact ⟨_, rfl, H.out _ _ (by simp), ((Fr.refl [] w).alloc _).alloc _⟩
set_option maxRecDepth 20000 in
set_option maxHeartbeats 1000000 in
theorem lowest_any (g : Gm) (w : World) : Calls Try.prog 64 #[g.val] w fun e w' => ∃ b, e = .returned (.slice (some ⟨b, 0, none⟩) 18 18) ∧ RdI w' (.slice (some ⟨b, 0, none⟩) 18 18) (lowsL g) ∧ Fr [] w w' := by
  have hl : ∀ g : Gm, (lowsL g).length = 18 := fun _ => rfl
  have h := fun (w : World) (n : Nat) (hz : w.heap.size = n) => rdi_mk hz (lowsL g) 3 18 (hl g) (by omega)
  unfold lowsL at h ⊢
  obtain ⟨name, kind, price, main, of_, bonus, bonusof, extra, draws, system, days, at_, close, cancel, expiry, pool, reserve, round, cap, rolls, aa, ac, addons, ta, tc, tiers⟩ := g
  simp only [Gm.val]
  simp only at h
  by_cases hk : kind = 2
  · have dk : (kind == 2) = true := by simpa using hk
    simp only [hk, if_true] at h
    subst hk
    have H := Lib.hid h
    clear h hl
    go_enter Try.func64, Try.ntmps64
    go_wp2
    go_ret
    exact ⟨_, rfl, H.out _ _ (by simp), ((Fr.refl [] w).alloc _).alloc _⟩
  · have dk : (kind == 2) = false := by simpa using hk
    simp only [hk, if_false] at h
    have H := Lib.hid h
    clear h hl
    go_enter Try.func64, Try.ntmps64
    go_wp2
    go_ret
    exact ⟨_, rfl, H.out _ _ (by simp), ((Fr.refl [] w).alloc _).alloc _⟩
theorem hisX_len (g : Gm) (x : Int) : (hisX g x).length = 18 := rfl
def HiRel (l : List Int) (w0 : World) (v : Value) (wx : World) : Prop := ∃ c, v = .slice (some ⟨c, 0, none⟩) 18 18 ∧ OwnI wx c 3 v l ∧ w0.heap.size ≤ c ∧ Fr [] w0 wx
set_option maxRecDepth 20000 in
set_option maxHeartbeats 2000000 in
theorem highest_any (g : Gm) (w : World) : Calls Try.prog 65 #[g.val] w fun e w' => ∃ b, e = .returned (.slice (some ⟨b, 0, none⟩) 18 18) ∧ RdI w' (.slice (some ⟨b, 0, none⟩) 18 18) (hisL g (difX g)) ∧ Fr [] w w' := by
  have h := fun (w : World) (n : Nat) (hz : w.heap.size = n) => owni_mk hz (hisX g (difX g)) 3 18 rfl (by omega)
  have hlen := hisX_len g (difX g)
  have hB : ∀ l, l = hisX g (difX g) → hisL g (difX g) = if g.kind = 2 then (((((if g.bonus = 0 then l.set 4 0 else l)).set 2 10).set 3 0).set 5 0).set 7 g.main else (if g.bonus = 0 then l.set 4 0 else l) := by
    rintro l rfl; rfl
  generalize hisL g (difX g) = L at *
  have hX : ∃ l, l = hisX g (difX g) := ⟨_, rfl⟩
  unfold hisX difX at h
  obtain ⟨l, hl⟩ := hX
  have hB' := hB l hl
  have hO : ∀ (w : World) (n : Nat), w.heap.size = n → OwnI (w.alloc (.cells ([1000000, 10, 80, 4, 80, lst 4 (IntKind.i64.wrap (g.of_ - g.main)), 32, lst 14 g.of_, 127, 1439, 1440, 10080, 3660, 10000, 10000, 1000000, 1000000000000, 64].map (Value.int .i64)).toArray 3)) n 3 (.slice (some ⟨n, 0, none⟩) 18 18) l := by
    intro w n hz; rw [hl]; exact h w n hz
  rw [← hl] at hlen
  clear hB h hl
  have e1 : ∀ w b, GmAt w b g → w.cell? ⟨b, 1, none⟩ = some (.int .i64 g.kind) := fun w b h => h.cell 1 _ rfl
  have e3 : ∀ w b, GmAt w b g → w.cell? ⟨b, 3, none⟩ = some (.int .i64 g.main) := fun w b h => h.cell 3 _ rfl
  have e4 : ∀ w b, GmAt w b g → w.cell? ⟨b, 4, none⟩ = some (.int .i64 g.of_) := fun w b h => h.cell 4 _ rfl
  have e5 : ∀ w b, GmAt w b g → w.cell? ⟨b, 5, none⟩ = some (.int .i64 g.bonus) := fun w b h => h.cell 5 _ rfl
  have hx : ∃ x, IntKind.i64.wrap (g.of_ - g.main) = x := ⟨_, rfl⟩
  obtain ⟨x, hx⟩ := hx
  rw [hx] at hO
  have hkk : (g.kind == 2) = true ∧ g.kind = 2 ∨ (g.kind == 2) = false ∧ ¬ g.kind = 2 := by by_cases h : g.kind = 2 <;> simp [h]
  have hbb : (g.bonus == 0) = true ∧ g.bonus = 0 ∨ (g.bonus == 0) = false ∧ ¬ g.bonus = 0 := by by_cases h : g.bonus = 0 <;> simp [h]
  generalize g.kind = kind at *
  generalize g.main = main at *
  generalize g.of_ = of_ at *
  generalize g.bonus = bonus at *
  have HX := Lib.hid hx
  have HO := Lib.hid hO
  have HB := Lib.hid hB'
  have HL := Lib.hid hlen
  have HKK := Lib.hid hkk
  have HBB := Lib.hid hbb
  have E1 := Lib.hid e1
  have E3 := Lib.hid e3
  have E4 := Lib.hid e4
  have E5 := Lib.hid e5
  clear hx hO hB' hlen e1 e3 e4 e5 hkk hbb
  go_enter Try.func65, Try.ntmps65
  go_wp2_with (refine box_game rfl (.tmp 0) rfl g rfl ?_; intro w1 hg1 hz1 hf1)
  go_cut [3] (fun v wx => HiRel l w1 v wx)
  case first =>
    have c4 := E4.out _ _ hg1
    have c3 := E3.out _ _ hg1
    refine wp_region_held_drew (S := (fun w' => w'.cell? ⟨w.heap.size, 4, none⟩ = some (.int .i64 of_) ∧ w'.cell? ⟨w.heap.size, 3, none⟩ = some (.int .i64 main) ∧ Fr [] w1 w')) (by kernel_rfl) ⟨c4, c3, (Fr.refl [] _).drew⟩ (fun hHeld => ?_)
    have hx := HX.out
    refine wpAnyH_take (i := 0) (oi := ⟨some 4, _, _, _, _, _⟩) (v := .pointer (some ⟨w.heap.size, 4, none⟩)) rfl (by kernel_rfl) (by kernel_rfl) (by kernel_rfl) (fun _ _ _ h => h) (Or.inl ⟨by rfl, ?_⟩) hHeld ?_
    · intro w hSw; (try dsimp only at hSw); go_simp
    (try simp only [Act.put, List.setIfInBounds_toArray, List.set_cons_zero, List.set_cons_succ])
    refine wpAnyH_take (i := 1) (oi := ⟨some 5, _, _, _, _, _⟩) (v := .int .i64 of_) rfl (by kernel_rfl) (by kernel_rfl) (by kernel_rfl) (fun _ _ _ h => h) (Or.inl ⟨by rfl, ?_⟩) hHeld ?_
    · intro w hSw; (try dsimp only at hSw); go_simp
    (try simp only [Act.put, List.setIfInBounds_toArray, List.set_cons_zero, List.set_cons_succ])
    refine wpAnyH_take (i := 2) (oi := ⟨some 6, _, _, _, _, _⟩) (v := .pointer (some ⟨w.heap.size, 3, none⟩)) rfl (by kernel_rfl) (by kernel_rfl) (by kernel_rfl) (fun _ _ _ h => h) (Or.inl ⟨by rfl, ?_⟩) hHeld ?_
    · intro w hSw; (try dsimp only at hSw); go_simp
    (try simp only [Act.put, List.setIfInBounds_toArray, List.set_cons_zero, List.set_cons_succ])
    refine wpAnyH_take (i := 3) (oi := ⟨some 7, _, _, _, _, _⟩) (v := .int .i64 main) rfl (by kernel_rfl) (by kernel_rfl) (by kernel_rfl) (fun _ _ _ h => h) (Or.inl ⟨by rfl, ?_⟩) hHeld ?_
    · intro w hSw; (try dsimp only at hSw); go_simp
    (try simp only [Act.put, List.setIfInBounds_toArray, List.set_cons_zero, List.set_cons_succ])
    refine wpAnyH_take (i := 4) (oi := ⟨some 8, _, _, _, _, _⟩) (v := .int .i64 x) rfl (by kernel_rfl) (by kernel_rfl) (by kernel_rfl) (fun _ _ _ h => h) (Or.inl ⟨by rfl, ?_⟩) hHeld ?_
    · intro w hSw; (try dsimp only at hSw); go_simp
    (try simp only [Act.put, List.setIfInBounds_toArray, List.set_cons_zero, List.set_cons_succ])
    refine wpAnyH_take (i := 6) (oi := ⟨some 10, _, _, _, _, _⟩) (v := .pointer (some ⟨w.heap.size, 4, none⟩)) rfl (by kernel_rfl) (by kernel_rfl) (by kernel_rfl) (fun _ _ _ h => h) (Or.inl ⟨by rfl, ?_⟩) hHeld ?_
    · intro w hSw; (try dsimp only at hSw); go_simp
    (try simp only [Act.put, List.setIfInBounds_toArray, List.set_cons_zero, List.set_cons_succ])
    refine wpAnyH_take (i := 7) (oi := ⟨some 11, _, _, _, _, _⟩) (v := .int .i64 of_) rfl (by kernel_rfl) (by kernel_rfl) (by kernel_rfl) (fun _ _ _ h => h) (Or.inl ⟨by rfl, ?_⟩) hHeld ?_
    · intro w hSw; (try dsimp only at hSw); go_simp
    (try simp only [Act.put, List.setIfInBounds_toArray, List.set_cons_zero, List.set_cons_succ])
    clear hx
    refine wpAnyH_ready (rs := [5]) (by kernel_rfl) (by simp) ?_
    refine AllReadyH.cons (o := ⟨some 9, _, _, _, _, _⟩) rfl (fun K hK => ?_) AllReadyH.nil
    rw [if_pos (by rfl)]
    go_simp
    refine (least_any _ _ _).mono ?_
    rintro e w' ⟨rfl, rfl⟩
    refine hK.out _ _ (hHeld) (fun hHeld' => ?_)
    clear hK K hHeld
    have hHeld := hHeld'
    clear hHeld'
    (try simp only [Act.put, List.setIfInBounds_toArray, List.set_cons_zero, List.set_cons_succ])
    refine wpAnyH_ready (rs := [8]) (by kernel_rfl) (by simp) ?_
    refine AllReadyH.cons (o := ⟨some 12, _, _, _, _, _⟩) rfl (fun K hK => ?_) AllReadyH.nil
    rw [if_pos (by rfl)]
    go_simp
    refine (least_any _ _ _).mono ?_
    rintro e w' ⟨rfl, rfl⟩
    refine hK.out _ _ (hHeld) (fun hHeld' => ?_)
    clear hK K hHeld
    have hHeld := hHeld'
    clear hHeld'
    (try simp only [Act.put, List.setIfInBounds_toArray, List.set_cons_zero, List.set_cons_succ])
    refine wpAnyH_ready (rs := [9]) (by kernel_rfl) (by simp) ?_
    refine AllReadyH.cons (o := ⟨some 13, _, _, _, _, _⟩) rfl (fun K hK => ?_) AllReadyH.nil
    rw [if_pos (by rfl)]
    go_simp
    refine hK.out _ _ (⟨by go_simp, by go_simp, hHeld.2.2.alloc _⟩) (fun hHeld' => ?_)
    clear hK K hHeld
    have hHeld := hHeld'
    clear hHeld'
    (try simp only [Act.put, List.setIfInBounds_toArray, List.set_cons_zero, List.set_cons_succ])
    refine wpAnyH_take (i := 10) (oi := ⟨some 3, _, _, _, _, _⟩) (v := .slice (some ⟨w1.heap.size, 0, none⟩) 18 18) rfl (by kernel_rfl) (by kernel_rfl) (by kernel_rfl) (fun _ _ _ h => h) (Or.inl ⟨by rfl, ?_⟩) hHeld ?_
    · intro w hSw; (try dsimp only at hSw); go_simp
    (try simp only [Act.put, List.setIfInBounds_toArray, List.set_cons_zero, List.set_cons_succ])
    refine wpAnyH_done (by kernel_rfl) ?_ _
    have hho := HO.out w1 w1.heap.size rfl
    have hfr := hHeld.2.2
    have HHO := Lib.hid hho
    have HFR := Lib.hid hfr
    clear hho hfr hHeld c4 c3
    go_wp2_with fail
    go_meet
    exact ⟨_, rfl, HHO.out.fr ((Fr.refl [] _).drew) (by simp), Nat.le_refl _, ((Fr.refl [] w1).alloc _).drew⟩
  case rest =>
    obtain ⟨c, rfl, ho, hc, fx⟩ := hcut
    have k1 := E1.out _ _ (hg1.fr fx (by simp))
    have k3 := E3.out _ _ (hg1.fr fx (by simp))
    have k5 := E5.out _ _ (hg1.fr fx (by simp))
    have hl := HL.out
    have s2 := ho.cell 2 (by omega)
    have s3 := ho.cell 3 (by omega)
    have s4 := ho.cell 4 (by omega)
    have s5 := ho.cell 5 (by omega)
    have s7 := ho.cell 7 (by omega)
    have z2 := ho.frozen 2
    have z3 := ho.frozen 3
    have z4 := ho.frozen 4
    have z5 := ho.frozen 5
    have z7 := ho.frozen 7
    have hne : ¬ c = w.heap.size := by omega
    have hne' : ¬ w.heap.size = c := by omega
    have HOO := Lib.hid ho
    have HF := Lib.hid (hf1.trans fx)
    have HC := Lib.hid (show w.heap.size ≤ c by omega)
    clear hl ho fx hc hg1 hz1 hf1
    generalize l.getD 2 0 = y2 at *
    generalize l.getD 3 0 = y3 at *
    generalize l.getD 4 0 = y4 at *
    generalize l.getD 5 0 = y5 at *
    generalize l.getD 7 0 = y7 at *
    rcases HKK.out with ⟨dk, hk⟩ | ⟨dk, hk⟩
    · rcases HBB.out with ⟨db, hb⟩ | ⟨db, hb⟩
      · have hLL := HB.out
        rw [if_pos hk, if_pos hb] at hLL
        have HLL := Lib.hid hLL
        clear hLL hk hb
        go_wp2_with fail
        go_ret
        refine ⟨_, rfl, ?_, ((((HF.out.setCell (.inr HC.out) _).setCell (.inr HC.out) _).setCell (.inr HC.out) _).setCell (.inr HC.out) _).setCell (.inr HC.out) _⟩
        rw [HLL.out]
        exact (((((HOO.out.set 4 0).set 2 10).set 3 0).set 5 0).set 7 main).rd
      · have hLL := HB.out
        rw [if_pos hk, if_neg hb] at hLL
        have HLL := Lib.hid hLL
        clear hLL hk hb
        go_wp2_with fail
        go_ret
        refine ⟨_, rfl, ?_, (((HF.out.setCell (.inr HC.out) _).setCell (.inr HC.out) _).setCell (.inr HC.out) _).setCell (.inr HC.out) _⟩
        rw [HLL.out]
        exact ((((HOO.out.set 2 10).set 3 0).set 5 0).set 7 main).rd
    · rcases HBB.out with ⟨db, hb⟩ | ⟨db, hb⟩
      · have hLL := HB.out
        rw [if_neg hk, if_pos hb] at hLL
        have HLL := Lib.hid hLL
        clear hLL hk hb
        go_wp2_with fail
        go_ret
        refine ⟨_, rfl, ?_, HF.out.setCell (.inr HC.out) _⟩
        rw [HLL.out]
        exact (HOO.out.set 4 0).rd
      · have hLL := HB.out
        rw [if_neg hk, if_neg hb] at hLL
        have HLL := Lib.hid hLL
        clear hLL hk hb
        go_wp2_with fail
        go_ret
        exact ⟨_, rfl, by rw [HLL.out]; exact HOO.out.rd, HF.out⟩
end Go.Proofs.Ytijdlggoaianbaa
