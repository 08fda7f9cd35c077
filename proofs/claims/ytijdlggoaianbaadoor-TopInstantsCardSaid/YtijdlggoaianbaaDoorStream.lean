/-
  THE STREAM (layer 9) AND ITS REFERENCE: contracts of Mix, New, Next, Used, Below, in terms of plain functions on integers. Conditions: a stream's counter of used values is at most 999999999000.
-/
import Derived.Test.YtijdlggoaianbaaDoorMem
set_option linter.unusedVariables false
namespace Go.Proofs.YtijdlggoaianbaaDoor
open Go.RowKit
def mixA (x : Int) : Int := bits BinOp.xor IntKind.u64 x (x / 1073741824)
def mixB (x : Int) : Int := bits BinOp.xor IntKind.u64 x (x / 134217728)
def mixC (x : Int) : Int := bits BinOp.xor IntKind.u64 x (x / 2147483648)
def mixZ (x : Int) : Int := mixC (IntKind.u64.wrap (mixB (IntKind.u64.wrap (mixA x * 13787848793156543929)) * 10723151780598845931))
theorem wrap_u64_bd (x : Int) : 0 ≤ IntKind.u64.wrap x ∧ IntKind.u64.wrap x ≤ 18446744073709551615 := by
  have : IntKind.u64.wrap x = x % 18446744073709551616 := rfl
  rw [this]; omega
theorem mixZ_bd (x : Int) : 0 ≤ mixZ x ∧ mixZ x ≤ 18446744073709551615 := by
  unfold mixZ mixC bits
  exact wrap_u64_bd _
def nx (s : Int) : Int := IntKind.u64.wrap (s + 11400714819323198485)
theorem nx_bd (x : Int) : 0 ≤ nx x ∧ nx x ≤ 18446744073709551615 := wrap_u64_bd _

/-- a block with a stream's two cells -/
def StrAt (w : World) (b : Nat) (s n : Int) : Prop := ∃ T, w.heap[b]? = some (.cells #[.int .u64 s, .int .i64 n] T (0, 0))
theorem StrAt.c0 {w : World} {b : Nat} {s n : Int} (h : StrAt w b s n) : w.cell? ⟨b, 0, none⟩ = some (.int .u64 s) := by
  obtain ⟨T, h⟩ := h; simp [World.cell?, h]
theorem StrAt.c1 {w : World} {b : Nat} {s n : Int} (h : StrAt w b s n) : w.cell? ⟨b, 1, none⟩ = some (.int .i64 n) := by
  obtain ⟨T, h⟩ := h; simp [World.cell?, h]
theorem StrAt.f {w : World} {b : Nat} {s n : Int} (h : StrAt w b s n) (i : Nat) : w.frozen? ⟨b, i, none⟩ = false := by
  obtain ⟨T, h⟩ := h; simp [World.frozen?, h]
theorem StrAt.lt {w : World} {b : Nat} {s n : Int} (h : StrAt w b s n) : b < w.heap.size := by
  obtain ⟨T, h⟩ := h; exact (Array.getElem?_eq_some_iff.1 h).1
/-- w' is w but for block b -/
structure Only (b : Nat) (w w' : World) : Prop where
  os : w'.os = w.os
  tape : w'.tape = w.tape
  output : w'.output = w.output
  size : w'.heap.size = w.heap.size
  block : ∀ k, k ≠ b → w'.heap[k]? = w.heap[k]?
theorem Only.refl (b : Nat) (w : World) : Only b w w := ⟨rfl, rfl, rfl, rfl, fun _ _ => rfl⟩
theorem Only.trans {b : Nat} {a c d : World} (h : Only b a c) (k : Only b c d) : Only b a d :=
  ⟨k.os.trans h.os, k.tape.trans h.tape, k.output.trans h.output, k.size.trans h.size, fun i hi => (k.block i hi).trans (h.block i hi)⟩
theorem Only.setCell (w : World) (p : Addr) (u : Value) : Only p.block w (w.setCell p u) :=
  ⟨rfl, rfl, rfl, by simp [World.setCell], fun k hk => Below.heap_setCell _ _ _ _ hk⟩
theorem Only.below {b : Nat} {w w' : World} (h : Only b w w') (B : Nat) (hB : B ≤ b) : Below B w w' :=
  ⟨h.os, h.tape, h.output, by rw [h.size]; omega, fun k hk => h.block k (by omega)⟩
theorem Only.fr {b : Nat} {w w' : World} (h : Only b w w') : Fr [b] w w' :=
  ⟨h.os, h.tape, h.output, by rw [h.size]; exact Nat.le_refl _, fun k _ hn => h.block k (by simpa using hn)⟩
theorem StrAt.fr {bs : List Nat} {w w' : World} {b : Nat} {s n : Int} (h : StrAt w b s n) (hf : Fr bs w w') (hn : b ∉ bs) : StrAt w' b s n := by
  obtain ⟨T, h⟩ := h; exact ⟨T, by rw [hf.block b (Array.getElem?_eq_some_iff.1 h).1 hn]; exact h⟩
theorem StrAt.below {w w' : World} {b B : Nat} {s n : Int} (h : StrAt w b s n) (hb : Below B w w') (hB : b < B) : StrAt w' b s n := by
  obtain ⟨T, h⟩ := h; exact ⟨T, by rw [hb.block b hB]; exact h⟩
theorem StrAt.only {w w' : World} {b c : Nat} {s n : Int} (h : StrAt w b s n) (ho : Only c w w') (hne : b ≠ c) : StrAt w' b s n := by
  obtain ⟨T, h⟩ := h; exact ⟨T, by rw [ho.block b hne]; exact h⟩
theorem StrAt.set0 {w : World} {b : Nat} {s n : Int} (h : StrAt w b s n) (s' : Int) : StrAt (w.setCell ⟨b, 0, none⟩ (.int .u64 s')) b s' n := by
  obtain ⟨T, h⟩ := h; refine ⟨T, ?_⟩; simp [World.setCell, Array.getElem?_modify, h]
theorem StrAt.set1 {w : World} {b : Nat} {s n : Int} (h : StrAt w b s n) (s' : Int) : StrAt (w.setCell ⟨b, 1, none⟩ (.int .i64 s')) b s s' := by
  obtain ⟨T, h⟩ := h; refine ⟨T, ?_⟩; simp [World.setCell, Array.getElem?_modify, h]
theorem StrAt.new (w : World) (s n : Int) (T : TypeId) : StrAt (w.alloc (.cells #[.int .u64 s, .int .i64 n] T)) w.heap.size s n := ⟨T, by show (w.heap.push _)[w.heap.size]? = _; simp⟩
set_option maxHeartbeats 400000 in
theorem mix_any (x : Int) (w : World) (h0 : 0 ≤ x) (h1 : x ≤ 18446744073709551615) :
    Calls Tryd.prog 14 #[.int .u64 x] w fun e w' => e = .returned (.int .u64 (mixZ x)) ∧ w = w' := by
  go_enter Tryd.func14, Tryd.ntmps14
  go_wp2
  go_ret
  exact ⟨rfl, rfl⟩
set_option maxHeartbeats 400000 in
theorem next_any (b : Nat) (s n : Int) (w : World) (hs : StrAt w b s n) (hn0 : 0 ≤ n) (hn1 : n ≤ 1000000000000) :
    Calls Tryd.prog 27 #[.pointer (some ⟨b, 0, none⟩)] w fun e w' => e = .returned (.int .u64 (mixZ (nx s))) ∧ StrAt w' b (nx s) (n + 1) ∧ Only b w w' := by
  have c0 := hs.c0
  have c1 := hs.c1
  have f0 := hs.f 0
  have f1 := hs.f 1
  have bd := nx_bd s
  unfold nx at bd
  go_enter Tryd.func27, Tryd.ntmps27
  go_wp2_with fail
  refine (mix_any _ _ (by omega) (by omega)).mono ?_
  rintro e w' ⟨rfl, rfl⟩
  go_wp2_with fail
  go_ret
  exact ⟨rfl, (hs.set0 _).set1 _, (Only.setCell w ⟨b, 0, none⟩ _).trans (Only.setCell _ ⟨b, 1, none⟩ _)⟩
theorem next_nil (w : World) :
    Calls Tryd.prog 27 #[.pointer none] w fun e w' => e = .returned (.int .u64 0) ∧ w = w' := by
  go_enter Tryd.func27, Tryd.ntmps27
  go_wp2
  go_ret
  exact ⟨rfl, rfl⟩
theorem new_any (s : Int) (w : World) :
    Calls Tryd.prog 15 #[.int .u64 s] w fun e w' => e = .returned (.pointer (some ⟨w.heap.size, 0, none⟩)) ∧ StrAt w' w.heap.size s 0 ∧ w'.heap.size = w.heap.size + 1 ∧ Below w.heap.size w w' := by
  go_enter Tryd.func15, Tryd.ntmps15
  go_wp2
  go_ret
  exact ⟨rfl, StrAt.new _ _ _ _, by simp, (Below.refl _ _).alloc (Nat.le_refl _) _⟩

def rej (n : Int) : Int := IntKind.u64.wrap (-n) % n
def tryB : Nat → Int → Int → Int → Option Int × Int × Int
  | 0, _, s, u => (none, s, u)
  | f + 1, n, s, u => if mixZ (nx s) ≤ 18446744073709551615 - rej n then (some (mixZ (nx s) % n), nx s, u + 1) else tryB f n (nx s) (u + 1)

def belV (r : Option Int × Int × Int) : Int := r.1.getD 0
def belE (r : Option Int × Int × Int) : Int := if r.1.isSome then 0 else 11
theorem try_le (f : Nat) (n : Int) : ∀ s u, (tryB f n s u).2.2 ≤ u + f ∧ u ≤ (tryB f n s u).2.2 := by
  induction f with
  | zero => intro s u; simp [tryB]
  | succ f ih => intro s u; unfold tryB; split
                 · simp; omega
                 · have := ih (nx s) (u + 1); omega
theorem try_stop (f : Nat) (n s u : Int) (h : mixZ (nx s) ≤ 18446744073709551615 - rej n) : tryB (f + 1) n s u = (some (mixZ (nx s) % n), nx s, u + 1) := by
  rw [tryB, if_pos h]
theorem try_go (f : Nat) (n s u : Int) (h : ¬ mixZ (nx s) ≤ 18446744073709551615 - rej n) : tryB (f + 1) n s u = tryB f n (nx s) (u + 1) := by
  rw [tryB, if_neg h]
theorem ret2_int {k k' : IntKind} {a b c d : Int} (h : a = b) (h' : c = d) : Ending.returned (.tuple #[.int k a, .int k' c]) = .returned (.tuple #[.int k b, .int k' d]) := by rw [h, h']
set_option maxHeartbeats 400000 in
theorem below_in (b : Nat) (s u n : Int) (w : World) (hs : StrAt w b s u) (hn0 : 0 ≤ u) (hn1 : u ≤ 999999999000) (h1 : 1 ≤ n) (h2 : n ≤ 2147483648) :
    Calls Tryd.prog 24 #[.pointer (some ⟨b, 0, none⟩), .int .i64 n] w fun e w' => e = .returned (.tuple #[.int .i64 (belV (tryB 64 n s u)), .int .i64 (belE (tryB 64 n s u))]) ∧ StrAt w' b (tryB 64 n s u).2.1 (tryB 64 n s u).2.2 ∧ Only b w w' := by
  have hr0 : 0 ≤ rej n := Int.emod_nonneg _ (by omega)
  have hr1 : rej n < n := Int.emod_lt_of_pos _ (by omega)
  have hw := wrap_u64_bd (-n)
  obtain ⟨hw0, hw1⟩ := hw
  have HR : Hid (rej n = IntKind.u64.wrap (-n) % n) := rfl
  unfold rej at hr0 hr1
  have d1 : decide (n < 1) = false := by simp; omega
  have d2 : decide (2147483648 < n) = false := by simp; omega
  go_enter Tryd.func24, Tryd.ntmps24
  go_wp2_with fail
  go_loopw [8, 23] (fun v i wr => ∃ (k : Nat) (sk uk : Int), k ≤ 64 ∧ i = .int .i64 k ∧ StrAt wr b sk uk ∧ Only b w wr ∧ uk = u + k ∧ tryB 64 n s u = tryB (64 - k) n sk uk) (fun _ i _ => 64 - (intOf i).toNat)
  case atStart => exact ⟨0, s, u, by omega, rfl, hs, Only.refl _ _, by simp, rfl⟩
  case round =>
    obtain ⟨k, sk, uk, hk, rfl, hsk, ho, hu, ht⟩ := hrel
    have HU := Lib.hid hu
    have HT := Lib.hid ht
    have hub : uk ≤ 999999999100 := by omega
    have hub0 : 0 ≤ uk := by omega
    clear hu ht
    by_cases hlt : k < 64
    · have hm := mixZ_bd (nx sk)
      obtain ⟨hm0, hm1⟩ := hm
      have hq0 : 0 ≤ mixZ (nx sk) % n := Int.emod_nonneg _ (by omega)
      have hq1 : mixZ (nx sk) % n < n := Int.emod_lt_of_pos _ (by omega)
      by_cases hc : mixZ (nx sk) ≤ 18446744073709551615 - IntKind.u64.wrap (-n) % n
      · go_wp2_with fail
        refine (next_any _ _ _ _ hsk (by omega) (by omega)).mono ?_
        rintro e w' ⟨rfl, hs', ho'⟩
        go_wp2_with fail
        go_ret2
        have hst := try_stop (63 - k) n sk uk (by unfold rej; exact hc)
        rw [show 63 - k + 1 = 64 - k by omega] at hst
        have hT := HT.out
        rw [hst] at hT
        rw [hT]
        refine ⟨ret2_int ?_ rfl, hs', ho.trans ho'⟩
        rfl
      · go_wp2_with fail
        refine (next_any _ _ _ _ hsk (by omega) (by omega)).mono ?_
        rintro e w' ⟨rfl, hs', ho'⟩
        go_wp2_with fail
        have hst := try_go (63 - k) n sk uk (by unfold rej; omega)
        rw [show 63 - k + 1 = 64 - k by omega] at hst
        have hT := HT.out
        rw [hst] at hT
        have hU := HU.out
        exact ⟨⟨k + 1, nx sk, uk + 1, by omega, by go_num, hs', ho.trans ho', by omega, by rw [hT]; congr 1; omega⟩, by simp [intOf]; omega⟩
    · obtain rfl : k = 64 := by omega
      go_wp2_with fail
      go_ret2
      have hT := HT.out
      rw [show tryB (64 - 64) n sk uk = (none, sk, uk) from rfl] at hT
      rw [hT]
      exact ⟨rfl, hsk, ho⟩

/-! Below as one function of the number, the state and the counter: what it returns, the error, the state and the counter behind it -/
def inB (n : Int) : Bool := decide (1 ≤ n ∧ n ≤ 2147483648)
def bV (n s u : Int) : Int := if inB n then belV (tryB 64 n s u) else 0
def bE (n s u : Int) : Int := if inB n then belE (tryB 64 n s u) else 2
def bS (n s u : Int) : Int := if inB n then (tryB 64 n s u).2.1 else s
def bU (n s u : Int) : Int := if inB n then (tryB 64 n s u).2.2 else u
theorem bU_bd (n s u : Int) : u ≤ bU n s u ∧ bU n s u ≤ u + 64 := by
  unfold bU; split
  · have := try_le 64 n s u; omega
  · omega
theorem bE_cases (n s u : Int) : bE n s u = 0 ∨ bE n s u = 2 ∨ bE n s u = 11 := by
  unfold bE belE; split
  · split <;> simp
  · simp
theorem try_val (f : Nat) (n : Int) (hn : 1 ≤ n) : ∀ s u v, (tryB f n s u).1 = some v → 0 ≤ v ∧ v < n := by
  induction f with
  | zero => intro s u v h; simp [tryB] at h
  | succ f ih =>
    intro s u v h
    rw [tryB] at h
    split at h
    · simp at h; subst h; exact ⟨Int.emod_nonneg _ (by omega), Int.emod_lt_of_pos _ (by omega)⟩
    · exact ih _ _ _ h
theorem bE_zero (n s u : Int) (h : bE n s u = 0) : 1 ≤ n ∧ n ≤ 2147483648 ∧ 0 ≤ bV n s u ∧ bV n s u < n := by
  unfold bE at h
  split at h
  · rename_i hn
    have hn' := hn
    simp [inB] at hn
    unfold belE at h
    split at h
    · rename_i hs
      obtain ⟨v, hv⟩ := Option.isSome_iff_exists.1 hs
      have := try_val 64 n hn.1 s u v hv
      unfold bV belV; rw [if_pos hn', hv]; simp; omega
    · simp at h
  · simp at h
theorem bV_zero (n s u : Int) (h : bE n s u ≠ 0) : bV n s u = 0 := by
  unfold bE at h; unfold bV
  split at h
  · rename_i hn; rw [if_pos hn]
    unfold belE at h; unfold belV
    split at h
    · simp at h
    · rename_i hs; simp at hs; simp [hs]
  · rename_i hn; rw [if_neg hn]
theorem bV_bd (n s u : Int) : 0 ≤ bV n s u ∧ bV n s u ≤ 2147483648 := by
  by_cases h : bE n s u = 0
  · have := bE_zero n s u h; omega
  · rw [bV_zero n s u h]; omega
theorem bE_range (n s u : Int) (h : n < 1 ∨ 2147483648 < n) : bE n s u = 2 := by
  have : inB n = false := by simp [inB]; omega
  simp [bE, this]
theorem bE_in (n s u : Int) (h1 : 1 ≤ n) (h2 : n ≤ 2147483648) : bE n s u = 0 ∨ bE n s u = 11 := by
  have : inB n = true := by simp [inB]; omega
  rcases bE_cases n s u with h | h | h
  · exact .inl h
  · exfalso; unfold bE at h; rw [if_pos this] at h; unfold belE at h; split at h <;> simp at h
  · exact .inr h

set_option maxHeartbeats 400000 in
theorem below_any (b : Nat) (s u n : Int) (w : World) (hs : StrAt w b s u) (hn0 : 0 ≤ u) (hn1 : u ≤ 999999999000) :
    Calls Tryd.prog 24 #[.pointer (some ⟨b, 0, none⟩), .int .i64 n] w fun e w' => e = .returned (.tuple #[.int .i64 (bV n s u), .int .i64 (bE n s u)]) ∧ StrAt w' b (bS n s u) (bU n s u) ∧ Only b w w' := by
  by_cases hi : inB n = true
  · have hi' := hi
    simp [inB] at hi
    refine (below_in b s u n w hs hn0 hn1 hi.1 hi.2).mono ?_
    rintro e w' ⟨rfl, h1, h2⟩
    simp only [bV, bE, bS, bU, hi', if_true]
    exact ⟨trivial, h1, h2⟩
  · have hi' : inB n = false := by simpa using hi
    simp [inB] at hi
    simp only [bV, bE, bS, bU, hi']
    clear hi'
    by_cases h1 : n < 1
    · have d1 : decide (n < 1) = true := by simpa using h1
      clear hi
      go_enter Tryd.func24, Tryd.ntmps24
      go_wp2
      go_ret2
      exact ⟨rfl, hs, Only.refl _ _⟩
    · have d1 : decide (n < 1) = false := by simpa using h1
      have h2 : 2147483648 < n := by omega
      have d2 : decide (2147483648 < n) = true := by simpa using h2
      clear hi
      go_enter Tryd.func24, Tryd.ntmps24
      go_wp2
      go_ret2
      exact ⟨rfl, hs, Only.refl _ _⟩
theorem below_nil (n : Int) (w : World) :
    Calls Tryd.prog 24 #[.pointer none, .int .i64 n] w fun e w' => e = .returned (.tuple #[.int .i64 0, .int .i64 5]) ∧ w = w' := by
  go_enter Tryd.func24, Tryd.ntmps24
  go_wp2
  go_ret2
  exact ⟨rfl, rfl⟩
theorem rej_eq (n : Int) (h1 : 1 ≤ n) (h2 : n ≤ 2147483648) : rej n = 18446744073709551616 % n := by
  have hw : IntKind.u64.wrap (-n) = (-n) % 18446744073709551616 := rfl
  unfold rej
  rw [hw, show (-n) % 18446744073709551616 = 18446744073709551616 + n * (-1) by omega, Int.add_mul_emod_self_left]
end Go.Proofs.YtijdlggoaianbaaDoor
