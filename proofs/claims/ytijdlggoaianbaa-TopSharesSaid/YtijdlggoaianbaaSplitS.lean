/-
  LAYER 2: the sort within Split: its comparison, and the order that it leaves.
-/
import Derived.Test.YtijdlggoaianbaaSplitP
import Derived.Test.YtijdlggoaianbaaShelf
import Derived.Test.YtijdlggoaianbaaRd
import Derived.Lib.OwnBridge
import Derived.BigQuiet
import Derived.Deep.QuietTactic
set_option linter.unusedVariables false
namespace Go.Proofs.Ytijdlggoaianbaa
open Go.RowKit Go.Lib Go.Sort
set_option maxHeartbeats 2000000 in
theorem less_any (xR xO bR bO n : Nat) (W : World) (G : Nat → Int) (K : Nat → Nat) (cR : W.cell? ⟨xR, 0, none⟩ = some (.slice (some ⟨bR, 0, none⟩) n n)) (cO : W.cell? ⟨xO, 0, none⟩ = some (.slice (some ⟨bO, 0, none⟩) n n))
    (hO : ∀ t, t < n → W.cell? ⟨bO, t, none⟩ = some (.int .i64 (K t))) (hK : ∀ t, t < n → K t < n) (hR : ∀ t, t < n → W.cell? ⟨bR, t, none⟩ = some (.int .i64 (G t))) (i j : Nat) (hi : i < n) (hj : j < n) (hn : n ≤ 64) :
    Calls Try.prog 44 #[.int .i64 i, .int .i64 j, .pointer (some ⟨xR, 0, none⟩), .pointer (some ⟨xO, 0, none⟩)] W fun e w' => e = .returned (.bool (decide (G (K j) < G (K i)))) ∧ ∃ q, w' = W.drewN q := by
  have c1 := hO i hi
  have c2 := hO j hj
  have k1 := hK i hi
  have k2 := hK j hj
  have c3 := hR _ k1
  have c4 := hR _ k2
  generalize G (K j) = y at *
  generalize G (K i) = x at *
  generalize K i = ki at *
  generalize K j = kj at *
  clear hO hK hR
  have i1 : (i : Int) < (n : Int) := by omega
  have i2 : (j : Int) < (n : Int) := by omega
  have i3 : (ki : Int) < (n : Int) := by omega
  have i4 : (kj : Int) < (n : Int) := by omega
  go_enter Try.func44, Try.ntmps44
  go_wp2_with fail
  go_quiet (fail)
  go_wp2_with fail
  go_ret
  exact ⟨rfl, nq, rfl⟩
theorem slT_ex : ∃ i, Try.prog.info? 25 = some i ∧ i.desc = .slice 3 := ⟨(Try.prog.info? 25).get (by kernel_rfl), by kernel_rfl, by kernel_rfl⟩
theorem slE_ex : ∃ i, Try.prog.info? 3 = some i ∧ i.size = 1 ∧ i.hasPointers = false ∧ i.bytes = 8 := ⟨(Try.prog.info? 3).get (by kernel_rfl), by kernel_rfl, by kernel_rfl, by kernel_rfl, by kernel_rfl⟩
theorem slK {slE : TypeInfo} (a : slE.hasPointers = false) (b : slE.bytes = 8) (n : Nat) (h2 : 2 ≤ n) : Lib.swapperK n slE 2 = 5 := by
  have c : (n == 0) = false := by simp; omega
  have d : (n == 1) = false := by simp; omega
  simp [Lib.swapperK, a, b, c, d]
theorem slK1 {slE : TypeInfo} (a : slE.hasPointers = false) (b : slE.bytes = 8) : Lib.swapperK 1 slE 2 = 2 := by simp [Lib.swapperK]
/-- the list of the numbers below n -/
def upL (n : Nat) : List Int := (List.range n).map fun (i : Nat) => (i : Int)
def encF {n : Nat} (x : Fin (n + 1)) : Value := .int .i64 (x.val : Int)
theorem upL_enc (n : Nat) : (upL (n + 1)).map (Value.int .i64) = (upF n).toList.map encF := by
  apply List.ext_getElem
  · simp [upL, upF]
  · intro i h1 h2
    simp [upL, upF, encF]
def ordI (r : List Int) (n : Nat) : List Int := (ordL (keyL r) n).map fun (i : Nat) => (i : Int)
theorem ordI_len (r : List Int) (n : Nat) : (ordI r n).length = n + 1 := by simp [ordI, ordL_len]
theorem ordI_at (r : List Int) (n k : Nat) (h : k < n + 1) : (ordI r n).getD k 0 = (ordK r n k : Int) := by
  unfold ordI ordK
  simp [List.getD, ordL_len, h]
theorem Fr.row {w : World} {g q : Nat} {α : Type} [Inhabited α] {enc : α → Value} {d : Array α} {os : Array Obj} : Fr [g] w (grow (putRow enc (Sort.ahead w q) g 0 d) os) :=
  ⟨rfl, rfl, rfl, by rw [size_grow, size_putRow]; show w.heap.size ≤ w.heap.size + _; omega, fun k hk hn => by
    rw [heap_grow_old _ _ (by rw [size_putRow]; exact hk)]
    have : g ≠ k := by simp at hn; omega
    simp [putRow, mapBlock, Sort.ahead, Array.getElem?_modify, this]⟩
theorem Fr.grew {w : World} {os : Array Obj} : Fr [] w (grow w os) :=
  ⟨rfl, rfl, rfl, by rw [size_grow]; omega, fun k hk hn => heap_grow_old _ _ hk⟩
theorem sort_any (xR xO bR bO N base : Nat) (r : List Int) (x : World) (hN : N + 1 ≤ 20) (hr : r.length = N + 1) (h1 : xR ≠ bO) (h2 : xO ≠ bO) (h3 : bR ≠ bO)
    (cR : x.cell? ⟨xR, 0, none⟩ = some (.slice (some ⟨bR, 0, none⟩) (N + 1) (N + 1))) (cO : x.cell? ⟨xO, 0, none⟩ = some (.slice (some ⟨bO, 0, none⟩) (N + 1) (N + 1)))
    (oR : OwnI x base 3 (.slice (some ⟨bR, 0, none⟩) (N + 1) (N + 1)) r) (oO : OwnI x base 3 (.slice (some ⟨bO, 0, none⟩) (N + 1) (N + 1)) (upL (N + 1))) :
    Calls Try.prog 43 #[.iface 25 (.slice (some ⟨bO, 0, none⟩) (N + 1) (N + 1)), .func (.func 44) #[] #[.pointer (some ⟨xR, 0, none⟩), .pointer (some ⟨xO, 0, none⟩)]] x fun e w' =>
      e = .returned (.tuple #[]) ∧ OwnI w' base 3 (.slice (some ⟨bO, 0, none⟩) (N + 1) (N + 1)) (ordI r N) ∧ Fr [bO] x w' := by
  have hbO := (oO.block bO rfl).2
  have hbR := lt_of_cell (oR.cell 0 (by omega))
  have hxR := lt_of_cell cR
  have hxO := lt_of_cell cO
  obtain ⟨slT, t1, t2⟩ := slT_ex
  obtain ⟨slE, t3, t4, t5, t6⟩ := slE_ex
  by_cases h0 : N = 0
  · subst h0
    refine (Any.sort_SliceStable_tiny Try.laysGt8 25 3 slT slE t1 t2 (by kernel_rfl) t3 2 (fun _ => by kernel_rfl) (some ⟨bO, 0, none⟩) 1 1 (by omega) 79 (by rw [slK1 t5 t6]; kernel_rfl) (.func 44) #[] _ x).mono ?_
    rintro e w' ⟨rfl, os, rfl⟩
    refine ⟨rfl, ?_, Fr.grew.mono (by simp)⟩
    have e1 : ordI r 0 = upL 1 := by
      refine ext_getD (by simp [ordI_len, upL]) fun i hi => ?_
      rw [ordI_len] at hi
      obtain rfl : i = 0 := by omega
      have := ordL_lt (keyL r) 0 0 (by omega)
      rw [ordI_at _ _ _ (by omega)]
      unfold ordK
      rw [show (ordL (keyL r) 0).getD 0 0 = 0 by omega]
      rfl
    rw [e1]
    exact oO.fr Fr.grew (by simp)
  · have hd : (upF N).size = N + 1 := upF_size N
    have hown : x.ownsRow base 3 1 (.slice (some ⟨bO, 0, none⟩) (N + 1) (N + 1)) (N + 1) ((upF N).toList.map encF) := by
      have := oO
      unfold OwnI at this
      rw [upL_enc, show (upL (N + 1)).length = N + 1 by simp [upL]] at this
      exact this
    have hH : Holds encF x bO 0 (upF N) := by
      intro j hj
      rw [hd] at hj
      rw [Nat.zero_add]
      refine ⟨?_, oO.frozen j⟩
      rw [oO.cell j (by simp [upL]; omega)]
      unfold encF
      rw [upF_at N j hj]
      simp [upL, List.getD, hj]
    have hless : LessReads Try.prog 44 #[.pointer (some ⟨xR, 0, none⟩), .pointer (some ⟨xO, 0, none⟩)] encF (gtF (n := N) (keyL r)) bO 0 (upF N).size x := by
      intro m os dk hs i j hi hj
      rw [hd] at hs hi hj
      have e : sortWorld encF x bO 0 m dk os = grow (putRow encF (Sort.ahead x m) bO 0 dk) os := rfl
      have ot : ∀ (b o : Nat), b ≠ bO → b < x.heap.size → (sortWorld encF x bO 0 m dk os).cell? ⟨b, o, none⟩ = x.cell? ⟨b, o, none⟩ := by
        intro b o hne hlt
        rw [e, cell?_grow _ _ _ (by rw [size_putRow]; exact hlt), cell?_putRow_other _ _ _ _ _ _ (Or.inl hne)]
        rfl
      refine less_any xR xO bR bO (N + 1) _ (keyL r) (fun t => (dk[t]!).val) (by rw [ot _ _ h1 hxR]; exact cR) (by rw [ot _ _ h2 hxO]; exact cO) (fun t ht => ?_) (fun t ht => (dk[t]!).isLt) (fun t ht => ?_) i j hi hj (by omega)
      · rw [e, cell?_grow _ _ _ (by rw [size_putRow]; exact hbO)]
        have := cell?_putRow encF (Sort.ahead x m) bO 0 (upF N) dk (holds_ahead _ _ _ _ _ _ hH) (by rw [hs, hd]) t (by omega)
        rw [Nat.zero_add] at this
        exact this
      · rw [ot _ _ h3 hbR]
        exact oR.cell t (by omega)
    have hS := Any.sort_SliceStable_small Try.laysGt8 25 3 slT slE t1 t2 (by kernel_rfl) t3 2 (fun _ => by kernel_rfl) t4 (fun _ => by kernel_rfl) (encF (n := N)) (fun _ => rfl) (gtF (n := N) (keyL r)) 44 _
      (enters_of Try.func44 (by kernel_rfl) rfl) bO 0 (N + 1) (upF N) (by rw [hd]; omega) (by rw [hd]; omega) 82 (by rw [hd, slK t5 t6 _ (by omega)]; kernel_rfl) true
      (fun args W => run_callFunc_extern Try.func82 (by kernel_rfl) (by kernel_rfl) (by kernel_rfl) (e := Extern.ReflectliteSwapper.swap true) (by kernel_rfl) args W) x hless hH hbO
    rw [hd] at hS
    refine hS.mono ?_
    rintro e w' ⟨rfl, n, os, rfl⟩
    refine ⟨rfl, ?_, Fr.row⟩
    have hsz : (insertionSort (gtF (keyL r)) (upF N) 0 (N + 1)).toList.length = N + 1 := by
      have := sort_size (n := N) (keyL r)
      simpa using this
    have hrow := Lib.ownsRow_putRow (q := n) (k := N + 1) hown hsz (Nat.le_refl _)
    rw [Array.toArray_toList] at hrow
    have hfin : OwnI (putRow encF (Sort.ahead x n) bO 0 (insertionSort (gtF (keyL r)) (upF N) 0 (N + 1))) base 3 (.slice (some ⟨bO, 0, none⟩) (N + 1) (N + 1)) (ordI r N) := by
      unfold OwnI
      rw [ordI_len]
      rw [List.take_of_length_le (by rw [hsz]; exact Nat.le_refl _)] at hrow
      have e2 : (ordI r N).map (Value.int .i64) = (insertionSort (gtF (keyL r)) (upF N) 0 (N + 1)).toList.map encF := by
        unfold ordI ordL
        rw [List.map_map, List.map_map]
        rfl
      rw [e2]
      exact hrow
    exact hfin.fr Fr.grew (by simp)
end Go.Proofs.Ytijdlggoaianbaa
