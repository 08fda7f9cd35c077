/-
  Are two rows of integers the same? The references' questions of layers 13 and 36.
-/
import Derived.Test.YtdinjekpcgndmaaRd
import Derived.BigQuiet
import Derived.Deep.QuietTactic
set_option linter.unusedVariables false
namespace Go.Proofs.Ytdinjekpcgndmaa
open Go.RowKit
def eqI (l m : List Int) : Bool := decide (l = m)
theorem eqI_len {l m : List Int} (h : ¬ l.length = m.length) : eqI l m = false := by
  unfold eqI; simp; intro e; exact h (by rw [e])
theorem eqI_no {l m : List Int} (k : Nat) (h : ¬ l.getD k 0 = m.getD k 0) : eqI l m = false := by
  unfold eqI; simp; intro e; exact h (by rw [e])
theorem eqI_yes {l m : List Int} (hl : l.length = m.length) (h : ∀ k, k < l.length → l.getD k 0 = m.getD k 0) : eqI l m = true := by
  unfold eqI; simp
  apply List.ext_getElem hl
  intro k h1 h2
  have := h k h1
  simpa [List.getD, h1, h2] using this
theorem retb {a b : Bool} (h : a = b) : Ending.returned (.bool a) = .returned (.bool b) := by rw [h]
set_option maxHeartbeats 1000000 in
theorem ints13_any (v1 v2 : Value) (l m : List Int) (w : World) (h1 : RdI w v1 l) (h2 : RdI w v2 m) : Calls Try.prog 24 #[v1, v2] w fun e w' => e = .returned (.bool (eqI l m)) ∧ Fr [] w w' := by
  obtain ⟨a1, c1, rfl, hc1, hm1, hr1⟩ := h1
  obtain ⟨a2, c2, rfl, hc2, hm2, hr2⟩ := h2
  have hlen := @eqI_len l m
  have hno := @eqI_no l m
  have hyes := @eqI_yes l m
  have hx1 : l.length ≤ 9223372036854775807 := Nat.le_trans hc1 hm1
  have hx2 : m.length ≤ 9223372036854775807 := Nat.le_trans hc2 hm2
  generalize eqI l m = B at *
  obtain ⟨n1, hn1⟩ : ∃ n, n = l.length := ⟨_, rfl⟩
  obtain ⟨n2, hn2⟩ : ∃ n, n = m.length := ⟨_, rfl⟩
  rw [← hn1] at hr1 hlen hyes hx1 ⊢
  rw [← hn2] at hr2 hlen hyes hx2 ⊢
  clear hc1 hm1 hc2 hm2 hn1 hn2
  have HR1 := Lib.hid hr1
  have HR2 := Lib.hid hr2
  have HNO := Lib.hid hno
  have HYES := Lib.hid hyes
  clear hr1 hr2 hno hyes
  by_cases hne : n1 = n2
  · subst hne
    have e0 : ((n1 : Int) != n1) = false := by simp
    clear hlen
    go_enter Try.func24, Try.ntmps24
    go_wp2_with fail
    go_loopw [5] (fun i wr => ∃ k : Nat, k ≤ n1 ∧ i = .int .i64 k ∧ Fr [] w wr ∧ Hid (∀ j, j < k → l.getD j 0 = m.getD j 0)) (fun i _ => n1 - (intOf i).toNat)
    case atStart => exact ⟨0, by omega, rfl, Fr.refl _ _, Lib.hid (by omega)⟩
    case round =>
      obtain ⟨k, hk, rfl, hf, HA⟩ := hrel
      by_cases hlt : k < n1
      · obtain ⟨g, o, rfl, hcell⟩ := HR1.out k hlt
        obtain ⟨g2, o2, rfl, hcell2⟩ := HR2.out k hlt
        have d1 := hf.cell_some hcell (by simp)
        have d2 := hf.cell_some hcell2 (by simp)
        have hnk := HNO.out k
        have hj1 : (k : Int) < (n1 : Int) := by omega
        generalize hx : l.getD k 0 = x at *
        generalize hy : m.getD k 0 = y at *
        have HX := Lib.hid hx
        have HY := Lib.hid hy
        have HNK := Lib.hid hnk
        clear hcell hcell2 hnk hx hy
        by_cases hxy : x = y
        · have e1 : (x != y) = false := by simpa using hxy
          have HXY := Lib.hid hxy
          clear hxy
          go_wp2_with fail
          go_quiet (fail)
          go_wp2
          refine ⟨⟨k + 1, by omega, by go_num, hf.drewN _, Lib.hid fun j hj => ?_⟩, by simp [intOf]; omega⟩
          by_cases hjk : j < k
          · exact HA.out j hjk
          · obtain rfl : j = k := by omega
            rw [HX.out, HY.out]; exact HXY.out
        · have e1 : (x != y) = true := by simpa using hxy
          have hb := HNK.out hxy
          have HB := Lib.hid hb
          clear hxy hb
          go_wp2_with fail
          go_quiet (fail)
          go_wp2
          go_ret
          exact ⟨retb HB.out.symm, hf.drewN _⟩
      · obtain rfl : k = n1 := by omega
        have hb := HYES.out (by first | trivial | rfl) HA.out
        have HB := Lib.hid hb
        clear hb
        go_wp2
        go_ret
        exact ⟨retb HB.out.symm, hf⟩
  · have e0 : ((n1 : Int) != n2) = true := by simp; omega
    have hb := hlen hne
    have HB := Lib.hid hb
    clear hb hlen hne
    go_enter Try.func24, Try.ntmps24
    go_wp2_with fail
    go_ret
    exact ⟨retb HB.out.symm, Fr.refl _ _⟩
set_option maxHeartbeats 1000000 in
theorem ints36_any (v1 v2 : Value) (l m : List Int) (w : World) (h1 : RdI w v1 l) (h2 : RdI w v2 m) : Calls Try.prog 73 #[v1, v2] w fun e w' => e = .returned (.bool (eqI l m)) ∧ Fr [] w w' := by
  obtain ⟨a1, c1, rfl, hc1, hm1, hr1⟩ := h1
  obtain ⟨a2, c2, rfl, hc2, hm2, hr2⟩ := h2
  have hlen := @eqI_len l m
  have hno := @eqI_no l m
  have hyes := @eqI_yes l m
  have hx1 : l.length ≤ 9223372036854775807 := Nat.le_trans hc1 hm1
  have hx2 : m.length ≤ 9223372036854775807 := Nat.le_trans hc2 hm2
  generalize eqI l m = B at *
  obtain ⟨n1, hn1⟩ : ∃ n, n = l.length := ⟨_, rfl⟩
  obtain ⟨n2, hn2⟩ : ∃ n, n = m.length := ⟨_, rfl⟩
  rw [← hn1] at hr1 hlen hyes hx1 ⊢
  rw [← hn2] at hr2 hlen hyes hx2 ⊢
  clear hc1 hm1 hc2 hm2 hn1 hn2
  have HR1 := Lib.hid hr1
  have HR2 := Lib.hid hr2
  have HNO := Lib.hid hno
  have HYES := Lib.hid hyes
  clear hr1 hr2 hno hyes
  by_cases hne : n1 = n2
  · subst hne
    have e0 : ((n1 : Int) != n1) = false := by simp
    clear hlen
    go_enter Try.func73, Try.ntmps73
    go_wp2_with fail
    go_loopw [5] (fun i wr => ∃ k : Nat, k ≤ n1 ∧ i = .int .i64 k ∧ Fr [] w wr ∧ Hid (∀ j, j < k → l.getD j 0 = m.getD j 0)) (fun i _ => n1 - (intOf i).toNat)
    case atStart => exact ⟨0, by omega, rfl, Fr.refl _ _, Lib.hid (by omega)⟩
    case round =>
      obtain ⟨k, hk, rfl, hf, HA⟩ := hrel
      by_cases hlt : k < n1
      · obtain ⟨g, o, rfl, hcell⟩ := HR1.out k hlt
        obtain ⟨g2, o2, rfl, hcell2⟩ := HR2.out k hlt
        have d1 := hf.cell_some hcell (by simp)
        have d2 := hf.cell_some hcell2 (by simp)
        have hnk := HNO.out k
        have hj1 : (k : Int) < (n1 : Int) := by omega
        generalize hx : l.getD k 0 = x at *
        generalize hy : m.getD k 0 = y at *
        have HX := Lib.hid hx
        have HY := Lib.hid hy
        have HNK := Lib.hid hnk
        clear hcell hcell2 hnk hx hy
        by_cases hxy : x = y
        · have e1 : (x != y) = false := by simpa using hxy
          have HXY := Lib.hid hxy
          clear hxy
          go_wp2_with fail
          go_quiet (fail)
          go_wp2
          refine ⟨⟨k + 1, by omega, by go_num, hf.drewN _, Lib.hid fun j hj => ?_⟩, by simp [intOf]; omega⟩
          by_cases hjk : j < k
          · exact HA.out j hjk
          · obtain rfl : j = k := by omega
            rw [HX.out, HY.out]; exact HXY.out
        · have e1 : (x != y) = true := by simpa using hxy
          have hb := HNK.out hxy
          have HB := Lib.hid hb
          clear hxy hb
          go_wp2_with fail
          go_quiet (fail)
          go_wp2
          go_ret
          exact ⟨retb HB.out.symm, hf.drewN _⟩
      · obtain rfl : k = n1 := by omega
        have hb := HYES.out (by first | trivial | rfl) HA.out
        have HB := Lib.hid hb
        clear hb
        go_wp2
        go_ret
        exact ⟨retb HB.out.symm, hf⟩
  · have e0 : ((n1 : Int) != n2) = true := by simp; omega
    have hb := hlen hne
    have HB := Lib.hid hb
    clear hb hlen hne
    go_enter Try.func73, Try.ntmps73
    go_wp2_with fail
    go_ret
    exact ⟨retb HB.out.symm, Fr.refl _ _⟩
end Go.Proofs.Ytdinjekpcgndmaa
