/-
  Drawers of add-ons (layer 40): drawerOf, the methods draw.
-/
import Derived.Test.YtdbkkbeelemnhaaSerDraw
import Derived.Test.YtdbkkbeelemnhaaAddonE
set_option linter.unusedVariables false
namespace Go.Proofs.Ytdbkkbeelemnhaa
open Go.RowKit
def facCells (a : Ad) (d : Int) : Array Value := #[.slice a.fa a.factors.length a.fc, .int .i64 d]
def serCells (n : Int) (t : ByteArray) : Array Value := #[.int .i64 n, .string t]
theorem heap_alloc2_new (w : World) (A O : Obj) : ((w.alloc A).alloc O).heap[w.heap.size + 1]? = some O := by
  have := heap_alloc_new (w.alloc A) O
  rwa [show (w.alloc A).heap.size = w.heap.size + 1 by simp] at this
theorem of_factor (a : Ad) (w : World) (hk : a.kind = 1) : Calls Try.prog 53 #[a.val] w fun e w' => ∃ g, e = .returned (.iface 77 (.pointer (some ⟨g, 0, none⟩))) ∧ w'.heap[g]? = some (.cells (facCells a 0) 79 (0, 0)) ∧ w.heap.size ≤ g ∧ Fr [] w w' := by
  have hb : ∀ w (v : Option Addr) (n c : Nat), (Instr.build 79 #[(0, .slice v n c)]).run Try.prog w = .ok (.agg #[.slice v n c, .int .i64 0]) w := fun w v n c => by kernel_rfl
  unfold facCells
  obtain ⟨xname, xkind, xprice, xfa, xfc, xfactors, xdigits, xpa, xpc, xprizes⟩ := a
  simp only [Ad.val]
  simp only at hk
  subst hk
  generalize xfactors.length = fl at *
  generalize xprizes.length = pl at *
  go_enter Try.func53, Try.ntmps53
  go_wp2_with fail
  go_ret
  exact ⟨_, rfl, heap_alloc2_new _ _ _, by simp, ((Fr.refl [] w).alloc _).alloc _⟩
theorem of_serial (a : Ad) (w : World) (hk : a.kind = 2) : Calls Try.prog 53 #[a.val] w fun e w' => ∃ g, e = .returned (.iface 80 (.pointer (some ⟨g, 0, none⟩))) ∧ w'.heap[g]? = some (.cells (serCells a.digits ⟨#[]⟩) 82 (0, 0)) ∧ w.heap.size ≤ g ∧ Fr [] w w' := by
  have hb : ∀ w (n : Int), (Instr.build 82 #[(0, .int .i64 n)]).run Try.prog w = .ok (.agg #[.int .i64 n, .string ⟨#[]⟩]) w := fun w n => by kernel_rfl
  unfold serCells
  obtain ⟨xname, xkind, xprice, xfa, xfc, xfactors, xdigits, xpa, xpc, xprizes⟩ := a
  simp only [Ad.val]
  simp only at hk
  subst hk
  generalize xfactors.length = fl at *
  generalize xprizes.length = pl at *
  go_enter Try.func53, Try.ntmps53
  go_wp2_with fail
  go_ret
  exact ⟨_, rfl, heap_alloc2_new _ _ _, by simp, ((Fr.refl [] w).alloc _).alloc _⟩
theorem cell_blk {w : World} {g i : Nat} {C : Array Value} {T : TypeId} {v : Value} (h : w.heap[g]? = some (.cells C T (0, 0))) (hv : C[i]? = some v) : w.cell? ⟨g, i, none⟩ = some v := by
  simp [World.cell?, h, hv]
theorem froz_blk {w : World} {g : Nat} {C : Array Value} {T : TypeId} (h : w.heap[g]? = some (.cells C T (0, 0))) (i : Nat) : w.frozen? ⟨g, i, none⟩ = false := by
  simp [World.frozen?, h]
theorem set_blk {w : World} {g i : Nat} {C : Array Value} {T : TypeId} (h : w.heap[g]? = some (.cells C T (0, 0))) (v : Value) : (w.setCell ⟨g, i, none⟩ v).heap[g]? = some (.cells (C.setIfInBounds i v) T (0, 0)) := by
  simp [World.setCell, Array.getElem?_modify, h]
def FDPost (a : Ad) (s u : Int) (fb b : Nat) (w : World) (e : Ending) (w' : World) : Prop :=
  e = .returned (.int .i64 (bE a.factors.length s u)) ∧ StrAt w' b (bS a.factors.length s u) (bU a.factors.length s u) ∧ Fr [b, fb] w w' ∧
    (bE a.factors.length s u = 0 → w'.heap[fb]? = some (.cells (facCells a (a.factors.getD (bV a.factors.length s u).toNat 0)) 79 (0, 0)))
set_option maxRecDepth 20000 in
set_option maxHeartbeats 1000000 in
theorem fdraw_any (a : Ad) (s u : Int) (fb b : Nat) (w : World) (hb : w.heap[fb]? = some (.cells (facCells a 0) 79 (0, 0))) (w0 : World) (hok : a.Ok w0) (hf0 : Fr [] w0 w) (hb0 : w0.heap.size ≤ b) (hl0 : 1 ≤ a.factors.length) (hl8 : a.factors.length ≤ 8)
    (hs : StrAt w b s u) (hne : b ≠ fb) (hu0 : 0 ≤ u) (hu1 : u ≤ 999999990000) :
    Calls Try.prog 97 #[.pointer (some ⟨fb, 0, none⟩), .pointer (some ⟨b, 0, none⟩)] w (FDPost a s u fb b w) := by
  have hC := below_any b s u a.factors.length w hs hu0 (by omega)
  have hz := bE_zero a.factors.length s u
  have hrf := hok.rf
  have hP : ∀ w', FDPost a s u fb b w (.returned (.int .i64 (bE a.factors.length s u))) w' ↔ (StrAt w' b (bS a.factors.length s u) (bU a.factors.length s u) ∧ Fr [b, fb] w w' ∧
    (bE a.factors.length s u = 0 → w'.heap[fb]? = some (.cells (facCells a (a.factors.getD (bV a.factors.length s u).toNat 0)) 79 (0, 0)))) := fun w' => by unfold FDPost; simp
  unfold facCells at hb hP
  obtain ⟨xname, xkind, xprice, xfa, xfc, xfactors, xdigits, xpa, xpc, xprizes⟩ := a
  simp only at hb hl0 hl8 hC hz hP hrf
  obtain ⟨_, _, hvf, hfc, hfm, hrf⟩ := hrf
  simp only [Value.slice.injEq] at hvf
  obtain ⟨rfl, _, rfl⟩ := hvf
  obtain ⟨n, hN⟩ : ∃ n, n = xfactors.length := ⟨_, rfl⟩
  rw [← hN] at hb hl0 hl8 hC hz hP hrf
  have k0 := cell_blk (i := 0) hb rfl
  have k1 := cell_blk (i := 1) hb rfl
  have z1 := froz_blk hb 1
  have HB := Lib.hid hb
  have HRF := Lib.hid hrf
  have HP := Lib.hid hP
  have HZ := Lib.hid hz
  have hlt : fb < w.heap.size := (Array.getElem?_eq_some_iff.1 hb).1
  generalize bE n s u = E at *
  generalize bV n s u = V at *
  generalize bS n s u = S at *
  generalize bU n s u = U at *
  have HC := Lib.hid hC
  have hnx : (n : Int) ≤ 8 := by omega
  clear hb hok hs hC hz hP hrf hN
  go_enter Try.func97, Try.ntmps97
  go_wp2_with fail
  refine HC.out.mono ?_
  rintro e w2 ⟨rfl, hs2, ho⟩
  have hb2 := (ho.block fb (by omega)).trans HB.out
  have l0 := cell_blk (i := 0) hb2 rfl
  have l1 := cell_blk (i := 1) hb2 rfl
  have y1 := froz_blk hb2 1
  have HB2 := Lib.hid hb2
  have HS2 := Lib.hid hs2
  have hF2 : Fr [b, fb] w w2 := ho.fr.mono (by simp)
  clear hb2 hs2 k0 k1 z1 HC
  by_cases h0 : E = 0
  · subst h0
    obtain ⟨_, _, v0, v1⟩ := HZ.out (by first | trivial | rfl)
    obtain ⟨q, rfl⟩ := Int.eq_ofNat_of_zero_le v0
    obtain ⟨fg, fo, rfl, hcell⟩ := HRF.out q (by omega)
    have hfb : ¬ fg = b := by have := lt_of_cell hcell; simp at this; omega
    have hc := ho.fr.cell_some (hf0.cell_some hcell (by simp)) (by simpa using hfb)
    have hqi : (q : Int) < (n : Int) := by omega
    generalize hy : xfactors.getD q 0 = y at *
    have HY := Lib.hid hy
    clear hcell hy
    go_wp2_with fail
    go_ret
    refine (HP.out _).2 ⟨HS2.out.fr (((Fr.refl [fb] w2).setCell (.inl (by simp)) _)) (by simpa using hne), hF2.setCell (.inl (by simp)) _, fun _ => ?_⟩
    rw [set_blk HB2.out]
    simp
    exact HY.out.symm
  · have hd : (E != 0) = true := by simpa using h0
    have H0 := Lib.hid h0
    clear h0
    go_wp2_with fail
    go_ret
    exact (HP.out _).2 ⟨HS2.out, hF2, fun h => absurd h H0.out⟩
def SDPost (n : Nat) (s u : Int) (fb b : Nat) (w : World) (e : Ending) (w' : World) : Prop :=
  ∃ S U, e = .returned (.int .i64 (seE 10 s u n)) ∧ StrAt w' b S U ∧ Fr [b, fb] w w' ∧
    (seE 10 s u n = 0 → w'.heap[fb]? = some (.cells (serCells n (serS s u n)) 82 (0, 0)) ∧ S = (stq 10 s u n).1 ∧ U = (stq 10 s u n).2)
theorem sd_err {n : Nat} {s u : Int} {fb b : Nat} {w w' : World} (S U E : Int) (hE : seE 10 s u n = E) (h0 : E ≠ 0) (hs : StrAt w' b S U) (hf : Fr [b, fb] w w') : SDPost n s u fb b w (.returned (.int .i64 E)) w' := by
  subst hE; exact ⟨S, U, rfl, hs, hf, fun h => absurd h h0⟩
theorem sd_ok {n : Nat} {s u : Int} {fb b : Nat} {w w' : World} (h0 : seE 10 s u n = 0) (hs : StrAt w' b (stq 10 s u n).1 (stq 10 s u n).2) (hf : Fr [b, fb] w w') (hh : w'.heap[fb]? = some (.cells (serCells n (serS s u n)) 82 (0, 0))) : SDPost n s u fb b w (.returned (.int .i64 0)) w' :=
  ⟨_, _, by rw [h0], hs, hf, fun _ => ⟨hh, rfl, rfl⟩⟩
set_option maxRecDepth 20000 in
set_option maxHeartbeats 1000000 in
theorem sdraw_any (n : Nat) (t : ByteArray) (s u : Int) (fb b : Nat) (w : World) (hb : w.heap[fb]? = some (.cells (serCells n t) 82 (0, 0))) (hn1 : 1 ≤ n) (hn8 : n ≤ 8)
    (hs : StrAt w b s u) (hne : b ≠ fb) (hu0 : 0 ≤ u) (hu1 : u ≤ 999999990000) :
    Calls Try.prog 100 #[.pointer (some ⟨fb, 0, none⟩), .pointer (some ⟨b, 0, none⟩)] w (SDPost n s u fb b w) := by
  have hC := qser_any s u n b w hs hu0 hu1 hn1 hn8
  have hd := fun w' => @sd_err n s u fb b w w'
  have hk := fun w' => @sd_ok n s u fb b w w'
  unfold SerDPost at hC
  unfold serCells at hb
  have k0 := cell_blk (i := 0) hb rfl
  have HB := Lib.hid hb
  have hlt : fb < w.heap.size := (Array.getElem?_eq_some_iff.1 hb).1
  have HC := Lib.hid hC
  have HD := Lib.hid hd
  have HK := Lib.hid hk
  clear hb hs hC hd hk
  go_enter Try.func100, Try.ntmps100
  go_wp2_with fail
  refine HC.out.mono ?_
  rintro e w2 ⟨T, S, U, rfl, hs2, hf2, hok⟩
  have hb2 := (hf2.block fb hlt (by simp; omega)).trans HB.out
  have l1 := cell_blk (i := 1) hb2 rfl
  have y1 := froz_blk hb2 1
  have HB2 := Lib.hid hb2
  have HS2 := Lib.hid hs2
  have hF2 : Fr [b, fb] w w2 := hf2.mono (by simp)
  clear hb2 hs2 k0 HC
  generalize hE : seE 10 s u n = E at *
  clear hE
  by_cases h0 : E = 0
  · subst h0
    obtain ⟨rfl, rfl, rfl⟩ := hok (by first | trivial | rfl)
    clear hok
    go_wp2_with fail
    go_ret
    refine HK.out _ (by first | trivial | rfl) (HS2.out.fr (((Fr.refl [fb] w2).setCell (.inl (by simp)) _)) (by simpa using hne)) (hF2.setCell (.inl (by simp)) _) ?_
    rw [set_blk HB2.out]
    rfl
  · have hd : (E != 0) = true := by simpa using h0
    have H0 := Lib.hid h0
    clear h0 hok
    go_wp2_with fail
    go_ret
    exact HD.out _ S U E rfl H0.out HS2.out hF2
end Go.Proofs.Ytdbkkbeelemnhaa
