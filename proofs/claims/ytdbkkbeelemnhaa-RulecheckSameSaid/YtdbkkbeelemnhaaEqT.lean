/-
  Are two lists of tiers the same? slices.Equal.
-/
import Derived.Test.YtdbkkbeelemnhaaGame
import Derived.BigQuiet
import Derived.Laws.StructEq
set_option linter.unusedVariables false
namespace Go.Proofs.Ytdbkkbeelemnhaa
open Go.RowKit
def tiD (a b : Ti) : Bool := decide (a.main = b.main ∧ a.bonus = b.bonus ∧ a.extra = b.extra ∧ a.mode = b.mode ∧ a.kind = b.kind ∧ a.value = b.value)
def eqT (l m : List Ti) : Bool := decide (l.length = m.length) && (List.range l.length).all fun k => tiD (l.getD k default) (m.getD k default)
theorem eqT_len {l m : List Ti} (h : ¬ l.length = m.length) : eqT l m = false := by unfold eqT; simp [h]
theorem eqT_no {l m : List Ti} (k : Nat) (hk : k < l.length) (h : tiD (l.getD k default) (m.getD k default) = false) : eqT l m = false := by
  unfold eqT
  rw [Bool.and_eq_false_iff]; right
  rw [List.all_eq_false]
  exact ⟨k, by simpa using hk, by rw [h]; simp⟩
theorem eqT_yes {l m : List Ti} (hl : l.length = m.length) (h : ∀ k, k < l.length → tiD (l.getD k default) (m.getD k default) = true) : eqT l m = true := by
  unfold eqT
  simp only [hl, decide_true, Bool.true_and, List.all_eq_true, List.mem_range]
  intro k hk
  exact h k (by omega)
theorem eqT_refl (l : List Ti) : eqT l l = true := eqT_yes rfl fun k _ => by simp [tiD]
theorem tiD_symm (a b : Ti) : tiD a b = tiD b a := by
  unfold tiD; rw [decide_eq_decide]; constructor <;> (rintro ⟨h1, h2, h3, h4, h5, h6⟩; exact ⟨h1.symm, h2.symm, h3.symm, h4.symm, h5.symm, h6.symm⟩)
theorem eq_tier (xm xb xe xo xk xv ym yb ye yo yk yv : Int) (w : World) : (Op.equalIn 10000 57 (.agg #[.int .i64 xm, .int .i64 xb, .int .i64 xe, .int .i64 xo, .int .i64 xk, .int .i64 xv]) (.agg #[.int .i64 ym, .int .i64 yb, .int .i64 ye, .int .i64 yo, .int .i64 yk, .int .i64 yv])).run Try.prog w = .ok (tiD ⟨xm, xb, xe, xo, xk, xv⟩ ⟨ym, yb, ye, yo, yk, yv⟩) w := by
  have u3 := Try.underlying3
  have a3 : ∀ w, (isAgg 3).run Try.prog w = .ok false w := fun w => by kernel_rfl
  have z3 : ∀ w, (sizeOf 3).run Try.prog w = .ok 1 w := fun w => by kernel_rfl
  have hS : Try.prog.underlying 57 = some (.struct (Try.prog.fieldsOf 57)) := by kernel_rfl
  rw [show (10000 : Nat) = 9999 + 1 from rfl, run_equalIn_struct w 9999 57 _ _ hS (by kernel_rfl)]
  simp only [Program.fieldsOf, Try.underlying57]
  clear hS
  go_simp
  unfold tiD
  simp only
  by_cases h1 : xm = ym
  · by_cases h2 : xb = yb
    · by_cases h3 : xe = ye
      · by_cases h4 : xo = yo
        · by_cases h5 : xk = yk
          · by_cases h6 : xv = yv <;> simp [h1, h2, h3, h4, h5, h6]
          · simp [h1, h2, h3, h4, h5]
        · simp [h1, h2, h3, h4]
      · simp [h1, h2, h3]
    · simp [h1, h2]
  · simp [h1]
theorem retb' {a b : Bool} (h : a = b) : Ending.returned (.bool a) = .returned (.bool b) := by rw [h]
set_option maxRecDepth 20000 in
set_option maxHeartbeats 1000000 in
theorem eqT_any (a1 a2 : Option Addr) (c1 c2 : Nat) (l m : List Ti) (w : World) (h1 : Tis w a1 c1 l) (h2 : Tis w a2 c2 m) : Calls Try.prog 49 #[.slice a1 l.length c1, .slice a2 m.length c2] w fun e w' => e = .returned (.bool (eqT l m)) ∧ Fr [] w w' := by
  have hlen := @eqT_len l m
  have hno := @eqT_no l m
  have hyes := @eqT_yes l m
  have hx1 := h1.rd.len.2
  have hx2 := h2.rd.len.2
  unfold maxLen at hx1 hx2
  generalize eqT l m = B at *
  obtain ⟨n1, hn1⟩ : ∃ n, n = l.length := ⟨_, rfl⟩
  obtain ⟨n2, hn2⟩ : ∃ n, n = m.length := ⟨_, rfl⟩
  rw [← hn1] at hlen hyes hno hx1 ⊢
  rw [← hn2] at hlen hyes hx2 ⊢
  have HN1 := Lib.hid hn1
  have HN2 := Lib.hid hn2
  have HR1 := Lib.hid h1
  have HR2 := Lib.hid h2
  have HNO := Lib.hid hno
  have HYES := Lib.hid hyes
  clear h1 h2 hno hyes hn1 hn2
  by_cases hne : n1 = n2
  · subst hne
    have e0 : ((n1 : Int) != n1) = false := by simp
    clear hlen
    go_enter Try.func49, Try.ntmps49
    go_wp2_with fail
    go_loopw [13] (fun i wr => ∃ k : Nat, k ≤ n1 ∧ i = .int .i64 k ∧ Fr [] w wr ∧ Hid (∀ j, j < k → tiD (l.getD j default) (m.getD j default) = true)) (fun i _ => n1 - (intOf i).toNat)
    case atStart => exact ⟨0, by omega, rfl, Fr.refl _ _, Lib.hid (by omega)⟩
    case round =>
      obtain ⟨k, hk, rfl, hf, HA⟩ := hrel
      by_cases hlt : k < n1
      · obtain ⟨x, hx⟩ : ∃ x, l[k]? = some x := ⟨_, List.getElem?_eq_getElem (by have := HN1.out; omega)⟩
        obtain ⟨y, hy⟩ : ∃ y, m[k]? = some y := ⟨_, List.getElem?_eq_getElem (by have := HN2.out; omega)⟩
        obtain ⟨b, o, rfl, hcell⟩ := RdF.at (f := Ti.cells) HR1.out.rd hx
        obtain ⟨b', o', rfl, hcell'⟩ := RdF.at (f := Ti.cells) HR2.out.rd hy
        have c0 := hf.cell_some (hcell 0 _ rfl) (by simp)
        have c1' := hf.cell_some (hcell 1 _ rfl) (by simp)
        have c2' := hf.cell_some (hcell 2 _ rfl) (by simp)
        have c3 := hf.cell_some (hcell 3 _ rfl) (by simp)
        have c4 := hf.cell_some (hcell 4 _ rfl) (by simp)
        have c5 := hf.cell_some (hcell 5 _ rfl) (by simp)
        have d0 := hf.cell_some (hcell' 0 _ rfl) (by simp)
        have d1 := hf.cell_some (hcell' 1 _ rfl) (by simp)
        have d2 := hf.cell_some (hcell' 2 _ rfl) (by simp)
        have d3 := hf.cell_some (hcell' 3 _ rfl) (by simp)
        have d4 := hf.cell_some (hcell' 4 _ rfl) (by simp)
        have d5 := hf.cell_some (hcell' 5 _ rfl) (by simp)
        rw [Nat.add_zero] at c0 d0
        have hgx : l.getD k default = x := by simp [List.getD, hx]
        have hgy : m.getD k default = y := by simp [List.getD, hy]
        have hnk := HNO.out k hlt
        rw [hgx, hgy] at hnk
        have HGX := Lib.hid hgx
        have HGY := Lib.hid hgy
        have HNK := Lib.hid hnk
        have hj1 : (k : Int) < (n1 : Int) := by omega
        have hj0 : (0 : Int) ≤ (k : Int) := by omega
        clear hcell hcell' hnk hgx hgy hx hy
        obtain ⟨xm, xb, xe, xo, xk, xv⟩ := x
        obtain ⟨ym, yb, ye, yo, yk, yv⟩ := y
        simp only at c0 c1' c2' c3 c4 c5 d0 d1 d2 d3 d4 d5
        have heq := fun w => eq_tier xm xb xe xo xk xv ym yb ye yo yk yv w
        cases hd : tiD ⟨xm, xb, xe, xo, xk, xv⟩ ⟨ym, yb, ye, yo, yk, yv⟩
        · have hb := HNK.out hd
          have HB := Lib.hid hb
          rw [hd] at heq
          clear hb hd
          go_wp2_with fail
          go_quiet (fail)
          go_wp2
          go_ret
          exact ⟨retb' HB.out.symm, hf.drewN _⟩
        · have HD := Lib.hid hd
          rw [hd] at heq
          clear hd
          go_wp2_with fail
          go_quiet (fail)
          go_wp2
          refine ⟨⟨k + 1, by omega, by go_num, hf.drewN _, Lib.hid fun j hj => ?_⟩, by simp [intOf]; omega⟩
          by_cases hjk : j < k
          · exact HA.out j hjk
          · obtain rfl : j = k := by omega
            rw [HGX.out, HGY.out]; exact HD.out
      · obtain rfl : k = n1 := by omega
        have hb := HYES.out (by first | trivial | rfl) HA.out
        have HB := Lib.hid hb
        clear hb
        go_wp2
        go_ret
        exact ⟨retb' HB.out.symm, hf⟩
  · have e0 : ((n1 : Int) != n2) = true := by simp; omega
    have hb := hlen hne
    have HB := Lib.hid hb
    clear hb hlen hne
    go_enter Try.func49, Try.ntmps49
    go_wp2_with fail
    go_ret
    exact ⟨retb' HB.out.symm, Fr.refl _ _⟩
end Go.Proofs.Ytdbkkbeelemnhaa
