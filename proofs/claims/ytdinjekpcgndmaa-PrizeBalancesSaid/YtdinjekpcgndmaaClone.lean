/-
  slices.Clone of integers; IndexFunc of tiers for a jackpot.
-/
import Derived.Test.YtdinjekpcgndmaaRd
import Derived.Maps.AppendAt
import Derived.Lib.SliceRun
set_option linter.unusedVariables false
namespace Go.Proofs.Ytdinjekpcgndmaa
open Go.RowKit
theorem infoIntC : (Try.prog.info? 3).map (fun i => (i.zero, i.size, i.bytes)) = some (some (.int .i64 0), 1, 8) := by kernel_rfl
set_option maxHeartbeats 1000000 in
theorem clone_any (v : Value) (l : List Int) (w : World) (hr : RdI w v l) (h0 : 0 < l.length) (hl : l.length ≤ 1000000000) :
    Calls Try.prog 61 #[v] w fun e w' => ∃ v', e = .returned v' ∧ OwnI w' w.heap.size 3 v' l ∧ Fr [] w w' := by
  obtain ⟨a, cap, rfl, hc1, hc2, hrd⟩ := hr
  obtain ⟨b, off, rfl, _⟩ := hrd 0 h0
  have hc : ∀ j, j < l.length → w.cell? ⟨b, off + j, none⟩ = some (.int .i64 (l.getD j 0)) := fun j hj => by
    obtain ⟨g, o, hv, hx⟩ := hrd j hj
    simp only [Option.some.injEq, Addr.mk.injEq, and_true] at hv
    obtain ⟨rfl, rfl⟩ := hv
    exact hx
  obtain ⟨i0, hi, hz0, hz1, hz2⟩ := info_parts infoIntC
  have q22 : ∀ (w : World) (a : Option Addr) (n c n' c' : Nat), (binOp .eql 31 (.slice a n c) (.slice none n' c')).run Try.prog w = .ok (.bool a.isNone) w := fun w a n c n' c' => Lib.run_eql_slice_nil w _ _ a n c n' c' Try.underlying31
  obtain ⟨n, hn⟩ : ∃ n, n = l.length := ⟨_, rfl⟩
  rw [← hn] at hc hc1 hl ⊢
  have HC := Lib.hid hc
  have HN := Lib.hid hn
  clear hrd hc hn h0
  go_enter Try.func61, Try.ntmps61
  go_wp2_with (at_builtin; refine wpList_append_own _ rfl _ _ 31 rfl w.heap.size 3 i0 (.int .i64 0) 1 8 Try.underlying31 hi hz0 hz1 hz2 rfl (by decide) _ _ _ rfl (World.ownsRow_made w #[] 0 (Nat.le_refl _) (Nat.zero_le _) rfl) ⟨b, off, none⟩ n cap (l.map (Value.int .i64)) rfl ?qc1 ?qc2 ?qc3 ?qc4 ?qc5 ?qc6 ?_)
  case qc1 => rw [List.length_map, ← HN.out, Nat.mul_one]
  case qc2 =>
    intro j u hj
    have hjn : j < l.length := by
      have := (List.getElem?_eq_some_iff.1 hj).1
      simpa using this
    rw [Addr.add_lit]
    refine ((Fr.refl [] w).alloc _).cell_some ?_ (by simp)
    rw [HC.out j (by rw [HN.out]; exact hjn)]
    have e : (l.map (Value.int .i64))[j]? = some (Value.int .i64 (l.getD j 0)) := by simp [List.getD, hjn]
    rw [e] at hj
    exact hj
  case qc3 => intro u hu; obtain ⟨x, _, rfl⟩ := List.mem_map.1 hu; rfl
  case qc4 => unfold maxLen; omega
  case qc5 => omega
  case qc6 => simp
  intro v' w1 hown hgrow hnil
  have HO : OwnI w1 w.heap.size 3 v' l := by unfold OwnI; rw [← HN.out]; simpa using hown
  have HF : Fr [] w w1 := ((Fr.refl [] w).alloc _).grown hgrow (by intro k hk; simp [Value.ownBlock] at hk; right; omega)
  have HO := Lib.hid HO
  have HF := Lib.hid HF
  clear hown hgrow hnil
  go_wp2
  go_ret
  exact ⟨v', rfl, HO.out, HF.out⟩
end Go.Proofs.Ytdinjekpcgndmaa
