/-
  The reference's Split.
-/
import Derived.Test.YtdinjekpcgndmaaRMulDiv
import Derived.Test.YtdinjekpcgndmaaSplit
import Derived.Test.YtdinjekpcgndmaaAppI
import Derived.Deep.AppendLies
import Derived.BigQuiet
set_option linter.unusedVariables false
namespace Go.Proofs.Ytdinjekpcgndmaa
open Go.RowKit
theorem app_iM {ops : Array Oper} {rest : List Oper} {o : Oper} {a : Act} {Q : Exit → Act → World → Prop} (w0 : World) (h0 : Nat) (hH : w0.heap.size = h0) (y : Int) (hgd : o.guard = none) (s x : Operand)
    (ho : o.op = .call { callee := .builtin .append, args := #[s, x], argTypes := #[31, 31] }) (base : Nat) (v : Value) (l : List Int) (hs : a.eval s = v) (hown : OwnI w0 base 3 v l)
    (hx : a.eval x = .slice (some ⟨h0, 0, none⟩) 1 1) (hl : l.length ≤ 1000000000) (hb : base ≤ w0.heap.size)
    (h : ∀ v' w', OwnI w' base 3 v' (l ++ [y]) → (∀ bs A, (∀ k, v.ownBlock = some k → k ∈ bs ∨ A.heap.size ≤ k) → Fr bs A w0 → Fr bs A w') → (∀ g, v'.ownBlock = some g → v.ownBlock = some g ∨ w0.heap.size ≤ g) → wpList Try.prog ops Q rest (a.put o.dst v') w') :
    wpList Try.prog ops Q (o :: rest) a (w0.alloc (.cells #[.int .i64 y] 3)) := by
  subst hH
  obtain ⟨i0, hi0, hz0, hz1, hz2⟩ := info_parts infoIntA
  have hown' : OwnI (w0.alloc (.cells #[.int .i64 y] 3)) base 3 v l := hown.fr ((Fr.refl [] w0).alloc _) (by simp)
  refine wpList_append_lies _ hgd s x 31 ho base 3 i0 (.int .i64 0) 1 8 Try.underlying31 hi0 hz0 hz1 hz2 rfl (by decide) v l.length (l.map (.int .i64)) hs hown' ⟨w0.heap.size, 0, none⟩ 1 1 [.int .i64 y] hx rfl (cell_one_new _ _ _) (by simp [Value.oneCell']) (by omega) (by unfold maxLen; omega) (by omega) (by simp; omega) _ rfl ?_
  intro g cap w' h1 h2 h3 _
  refine h _ w' ?_ ?_ ?_
  · unfold OwnI; simpa using h1
  · intro bs A hA hF
    exact (hF.alloc _).grown h2 hA
  · intro g' hg'
    have e : g = g' := by simpa [Value.ownBlock] using hg'
    subst e
    rcases h3 with h3 | h3
    · exact .inl h3
    · right; rw [h3]; simp
/-- two rows of one's own that lie apart -/
structure Two (w : World) (base : Nat) (v1 v2 : Value) (l1 l2 : List Int) (x : World) : Prop where
  fr : Fr [] w x
  o1 : OwnI x base 3 v1 l1
  o2 : OwnI x base 3 v2 l2
  ne : ∀ b, v1.ownBlock = some b → v2.ownBlock = some b → False
section
variable {w x y : World} {base : Nat} {v1 v2 v' : Value} {l1 l2 : List Int} {e : Int}
theorem Two.go (h : Two w base v1 v2 l1 l2 x) (k : Fr [] x y) : Two w base v1 v2 l1 l2 y := ⟨h.fr.trans k, h.o1.fr k (by simp), h.o2.fr k (by simp), h.ne⟩
theorem Two.app1 (h : Two w base v1 v2 l1 l2 x) (hb : w.heap.size ≤ base) (ho : OwnI y base 3 v' (l1 ++ [e])) (hf : ∀ bs A, (∀ k, v1.ownBlock = some k → k ∈ bs ∨ A.heap.size ≤ k) → Fr bs A x → Fr bs A y)
    (hl : ∀ g, v'.ownBlock = some g → v1.ownBlock = some g ∨ x.heap.size ≤ g) : Two w base v' v2 (l1 ++ [e]) l2 y := by
  have f1 : Fr [] w y := hf [] w (fun k hk => .inr (by have := (h.o1.block k hk).1; omega)) h.fr
  have f2 : Fr v1.ownBlock.toList x y := hf _ x (fun k hk => .inl (by rw [hk]; simp)) (Fr.refl _ _)
  refine ⟨f1, ho, h.o2.fr f2 (fun k hk hm => h.ne k (by simpa using hm) hk), fun b h1 h2 => ?_⟩
  rcases hl b h1 with h3 | h3
  · exact h.ne b h3 h2
  · have := (h.o2.block b h2).2; omega
theorem Two.app2 (h : Two w base v1 v2 l1 l2 x) (hb : w.heap.size ≤ base) (ho : OwnI y base 3 v' (l2 ++ [e])) (hf : ∀ bs A, (∀ k, v2.ownBlock = some k → k ∈ bs ∨ A.heap.size ≤ k) → Fr bs A x → Fr bs A y)
    (hl : ∀ g, v'.ownBlock = some g → v2.ownBlock = some g ∨ x.heap.size ≤ g) : Two w base v1 v' l1 (l2 ++ [e]) y := by
  have f1 : Fr [] w y := hf [] w (fun k hk => .inr (by have := (h.o2.block k hk).1; omega)) h.fr
  have f2 : Fr v2.ownBlock.toList x y := hf _ x (fun k hk => .inl (by rw [hk]; simp)) (Fr.refl _ _)
  refine ⟨f1, h.o1.fr f2 (fun k hk hm => h.ne k hk (by simpa using hm)), ho, fun b h1 h2 => ?_⟩
  rcases hl b h2 with h3 | h3
  · exact h.ne b h1 h3
  · have := (h.o1.block b h1).2; omega
end
set_option maxRecDepth 20000 in
set_option maxHeartbeats 2000000 in
theorem rchkS_any (m : Int) (v : Value) (ws : List Int) (w : World) (hr : RdI w v ws) (hE : spE m ws = 0) (hl : ws.length ≤ 20) : Calls Try.prog 101 #[.int .i64 m, v] w fun e w' => e = .returned (.tuple #[.int .i64 (spT ws), .int .i64 0]) ∧ w = w' := by
  obtain ⟨⟨m1, m2⟩, ⟨n1, n2⟩, ha, hT⟩ := spE_facts hE
  have hV := rvalid_any m
  rw [inR_yes m1 m2] at hV
  have hW := fun k w => rvalid_any (ws.getD k 0) w
  have hin : ∀ k, inR (ws.getD k 0) 0 1000000000000 = true := fun k => inR_yes (amtB_at ha k).1 (amtB_at ha k).2
  have hb := fun k : Nat => sumTo_bd ha k
  have hx := fun k : Nat => amtB_at ha k
  obtain ⟨a2, c2, rfl, l2, mm2, r2⟩ := hr
  unfold maxLen at mm2
  have hTe : spT ws = sumTo ws ws.length := rfl
  obtain ⟨T, hTT⟩ : ∃ T, T = spT ws := ⟨_, rfl⟩
  rw [← hTT] at hT hTe ⊢
  obtain ⟨n, hN⟩ : ∃ n, n = ws.length := ⟨_, rfl⟩
  rw [← hN] at r2 l2 n1 n2 hl hTe ⊢
  have hsu : ∀ k, sumTo ws (k + 1) = sumTo ws k + ws.getD k 0 := fun k => rfl
  have HV := Lib.hid hV
  have HW := Lib.hid hW
  have HIN := Lib.hid hin
  have HB := Lib.hid hb
  have HX := Lib.hid hx
  have HR := Lib.hid r2
  have HTE := Lib.hid hTe
  have HSU := Lib.hid hsu
  have d1 : decide (n < 1) = false := by simp; omega
  have d2 : decide ((n : Int) < 1) = false := by simp; omega
  have d3 : decide (64 < n) = false := by simp; omega
  have d4 : decide ((64 : Int) < (n : Int)) = false := by simp; omega
  have d5 : (T == 0) = false := by simp; omega
  clear hV hW hin hb hx r2 hTe hsu hN hTT ha hE
  go_enter Try.func101, Try.ntmps101
  go_wp2_with fail
  refine (HV.out _).mono ?_
  rintro e w' ⟨rfl, rfl⟩
  go_wp2_with fail
  go_loop [7, 6] (fun i t => ∃ k : Nat, k ≤ n ∧ i = .int .i64 k ∧ t = .int .i64 (sumTo ws k)) (fun i _ => n - (intOf i).toNat)
  case atStart => exact ⟨0, by omega, rfl, rfl⟩
  case round =>
    obtain ⟨k, hk, rfl, rfl⟩ := hrel
    by_cases hlt : k < n
    · obtain ⟨g, o, rfl, hcell⟩ := HR.out k hlt
      have hw := HW.out k
      rw [HIN.out k] at hw
      have HWW := Lib.hid hw
      have hb1 := HB.out k
      have hx1 := HX.out k
      have HS := Lib.hid (HSU.out k)
      have hkn : (k : Int) < (n : Int) := by omega
      clear hw
      generalize ws.getD k 0 = x at *
      generalize sumTo ws k = s at *
      go_wp2_with fail
      refine (HWW.out _).mono ?_
      rintro e w' ⟨rfl, rfl⟩
      go_wp2_with fail
      go_round
      case rel => exact ⟨k + 1, by omega, by go_num, by rw [HS.out]⟩
      case measure => simp [intOf]; omega
    · obtain rfl : n = k := by omega
      have ht := HTE.out
      rw [← ht]
      clear ht
      go_wp2_with fail
      go_ret2
      exact ⟨rfl, rfl⟩
set_option maxRecDepth 20000 in
set_option maxHeartbeats 2000000 in
theorem great_any (v : Value) (l : List Int) (w : World) (hr : RdI w v l) (h1 : 1 ≤ l.length) (h2 : l.length ≤ 100) : Calls Try.prog 103 #[v] w fun e w' => (∃ b : Nat, e = .returned (.int .i64 b) ∧ IsGr l l.length b) ∧ Fr [] w w' := by
  obtain ⟨a2, c2, rfl, l2, mm2, r2⟩ := hr
  unfold maxLen at mm2
  have hone := isGr_one l
  have hkeep := fun j b => @isGr_keep l j b
  have hnew := fun j b => @isGr_new l j b
  obtain ⟨n, hN⟩ : ∃ n, n = l.length := ⟨_, rfl⟩
  rw [← hN] at r2 l2 h1 h2 ⊢
  have HR := Lib.hid r2
  have HONE := Lib.hid hone
  have HKEEP := Lib.hid hkeep
  have HNEW := Lib.hid hnew
  clear r2 hone hkeep hnew hN
  have hpost : ∀ b w', Hid (IsGr l n b) → Fr [] w w' → (∃ b' : Nat, Ending.returned (.int .i64 (b : Nat)) = .returned (.int .i64 b') ∧ IsGr l n b') ∧ Fr [] w w' := fun b w' h k => ⟨⟨b, rfl, h.out⟩, k⟩
  have HPOST := Lib.hid hpost
  clear hpost
  go_enter Try.func103, Try.ntmps103
  go_wp2_with fail
  go_loopw [4, 3] (fun i t wr => ∃ k b : Nat, 1 ≤ k ∧ k ≤ n ∧ b < k ∧ i = .int .i64 k ∧ t = .int .i64 b ∧ Hid (IsGr l k b) ∧ Fr [] w wr) (fun i _ _ => n - (intOf i).toNat)
  case atStart => exact ⟨1, 0, by omega, by omega, by omega, rfl, rfl, HONE, Fr.refl _ _⟩
  case round =>
    obtain ⟨k, b, hk1, hk, hbk, rfl, rfl, HG, hf⟩ := hrel
    by_cases hlt : k < n
    · obtain ⟨g, o, rfl, hc⟩ := HR.out k hlt
      obtain ⟨g', o', hv, hc'⟩ := HR.out b (by omega)
      simp only [Option.some.injEq, Addr.mk.injEq, and_true] at hv
      obtain ⟨rfl, rfl⟩ := hv
      have c1 := hf.cell_some hc (by simp)
      have c2' := hf.cell_some hc' (by simp)
      have hkp := HKEEP.out k b HG.out
      have hnw := HNEW.out k b HG.out
      have hkn : (k : Int) < (n : Int) := by omega
      have hbn : (b : Int) < (n : Int) := by omega
      have hbn' : b < n := by omega
      generalize l.getD k 0 = x at *
      generalize l.getD b 0 = y at *
      by_cases hgt : y < x
      · have e1 : decide (y < x) = true := by simpa using hgt
        have HN2 := Lib.hid (hnw hgt)
        clear hkp hnw hgt hc hc' HG
        go_wp2_with fail
        go_quiet (fail)
        go_wp2_with fail
        go_roundw
        case rel => exact ⟨k + 1, k, by omega, by omega, by omega, by go_num, rfl, HN2, hf.drewN _⟩
        case measure => simp [intOf]; omega
      · have e1 : decide (y < x) = false := by simpa using hgt
        have HK2 := Lib.hid (hkp (by omega))
        clear hkp hnw hgt hc hc' HG
        go_wp2_with fail
        go_quiet (fail)
        go_wp2_with fail
        go_roundw
        case rel => exact ⟨k + 1, b, by omega, by omega, by omega, by go_num, rfl, HK2, hf.drewN _⟩
        case measure => simp [intOf]; omega
    · obtain rfl : n = k := by omega
      have HP := Lib.hid (HPOST.out b _ HG hf)
      go_wp2_with fail
      go_ret
      exact HP.out
theorem take_snocM {l : List Int} {k : Nat} (h : k < l.length) : l.take (k + 1) = l.take k ++ [l.getD k 0] := by
  rw [List.take_add_one]; simp [List.getD, h]
/-- two rows of one's own, in known blocks -/
structure TwoB (w : World) (base n gP gR cP cR : Nat) (P R : List Int) (x : World) : Prop where
  fr : Fr [] w x
  oP : OwnI x base 3 (.slice (some ⟨gP, 0, none⟩) n cP) P
  oR : OwnI x base 3 (.slice (some ⟨gR, 0, none⟩) n cR) R
theorem TwoB.go {w x y : World} {base n gP gR cP cR : Nat} {P R : List Int} (h : TwoB w base n gP gR cP cR P R x) (k : Fr [] x y) : TwoB w base n gP gR cP cR P R y := ⟨h.fr.trans k, h.oP.fr k (by simp), h.oR.fr k (by simp)⟩
theorem TwoB.setP {w x : World} {base n gP gR cP cR : Nat} {P R : List Int} (h : TwoB w base n gP gR cP cR P R x) (hb : w.heap.size ≤ base) (hne : gP ≠ gR) (i : Nat) (z : Int) : TwoB w base n gP gR cP cR (P.set i z) R (x.setCell ⟨gP, i, none⟩ (.int .i64 z)) := by
  have hp := (h.oP.block gP rfl).1
  exact ⟨h.fr.setCell (.inr (by show _ ≤ gP; omega)) _, h.oP.set i z, h.oR.fr ((Fr.refl [gP] x).setCell (.inl (by simp)) _) (fun k hk => by simp [Value.ownBlock] at hk; subst hk; simp; omega)⟩
theorem TwoB.setR {w x : World} {base n gP gR cP cR : Nat} {P R : List Int} (h : TwoB w base n gP gR cP cR P R x) (hb : w.heap.size ≤ base) (hne : gP ≠ gR) (i : Nat) (z : Int) : TwoB w base n gP gR cP cR P (R.set i z) (x.setCell ⟨gR, i, none⟩ (.int .i64 z)) := by
  have hp := (h.oR.block gR rfl).1
  exact ⟨h.fr.setCell (.inr (by show _ ≤ gR; omega)) _, h.oP.fr ((Fr.refl [gR] x).setCell (.inl (by simp)) _) (fun k hk => by simp [Value.ownBlock] at hk; subst hk; simp; omega), h.oR.set i z⟩
set_option maxRecDepth 20000 in
set_option maxHeartbeats 4000000 in
theorem rsplit_any (m : Int) (v : Value) (ws : List Int) (w : World) (hr : RdI w v ws) (hE : spE m ws = 0) (hl : ws.length ≤ 20) : Calls Try.prog 70 #[.int .i64 m, v] w (SpPost m ws w) := by
  obtain ⟨⟨m1, m2⟩, ⟨n1, n2⟩, ha, hT⟩ := spE_facts hE
  have hCK := fun w' (h : Fr [] w w') => rchkS_any m v ws w' (hr.below h) hE hl
  have hMD := fun (k : Nat) (hk : k < ws.length) w' => rmuldiv_any m (ws.getD k 0) (spT ws) m1 m2 (sp_w ha hk).1 (sp_w ha hk).2 hT (by have := (sumTo_bd ha ws.length).2; unfold spT; omega) w'
  have hq := fun (k : Nat) (hk : k < ws.length) => spQ_at (m := m) (T := spT ws) hk
  have hrr := fun (k : Nat) (hk : k < ws.length) => spR_at (m := m) (T := spT ws) hk
  have hqb := fun (k : Nat) (hk : k ≤ ws.length) => spq_bd m1 ha hT hk
  have hlen := spQ_len m (spT ws) ws
  have hlenR := spR_len m (spT ws) ws
  have hL := left_bd (m := m) hT n1
  have hLe : spLeft m ws = m - sumTo (spQ m (spT ws) ws) ws.length := rfl
  have hspL : spL m ws = spA (spQ m (spT ws) ws) (spR m (spT ws) ws) (spLeft m ws).toNat := by unfold spL; rw [if_pos hE]
  have hR0 : ∀ i, i < ws.length → 0 ≤ (spR m (spT ws) ws).getD i 0 := fun i hi => by rw [spR_at hi]; exact Int.emod_nonneg _ (by omega)
  have hQ0 : ∀ i, i < ws.length → 0 ≤ (spQ m (spT ws) ws).getD i 0 ∧ (spQ m (spT ws) ws).getD i 0 ≤ m := fun i hi => by
    have h1 := spq_bd (k := i) m1 ha hT (by omega)
    have h2 := spq_bd (k := i + 1) m1 ha hT (by omega)
    have h3 : sumTo (spQ m (spT ws) ws) (i + 1) = sumTo (spQ m (spT ws) ws) i + (spQ m (spT ws) ws).getD i 0 := rfl
    rw [spQ_at hi] at h3 ⊢
    refine ⟨Int.ediv_nonneg (Int.mul_nonneg m1 (sp_w ha hi).1) (by omega), by omega⟩
  have hpost : ∀ u w', OwnI w' w.heap.size 3 u (spL m ws) → Fr [] w w' → SpPost m ws w (.returned (.tuple #[u, .int .i64 0])) w' := fun u w' h k => ⟨u, by rw [hE], h, k⟩
  rw [hspL] at hpost
  generalize spLeft m ws = LL at *
  generalize spT ws = T at *
  obtain ⟨Q, hQQ⟩ : ∃ Q, Q = spQ m T ws := ⟨_, rfl⟩
  obtain ⟨R, hRR⟩ : ∃ R, R = spR m T ws := ⟨_, rfl⟩
  rw [← hQQ] at hq hqb hlen hLe hpost hQ0
  rw [← hRR] at hrr hlenR hpost hR0
  obtain ⟨n, hN⟩ : ∃ n, n = ws.length := ⟨_, rfl⟩
  rw [← hN] at hMD hq hrr hqb hlen hlenR hL hLe hR0 hQ0 n1 n2 hl
  have hr0 := hr
  obtain ⟨a2, c2, rfl, l2, mm2, r2⟩ := hr
  rw [← hN] at l2 r2 hCK ⊢
  unfold maxLen at mm2
  have HCK := Lib.hid hCK
  have HMD := Lib.hid hMD
  have HQ := Lib.hid hq
  have HR := Lib.hid hrr
  have HQB := Lib.hid hqb
  have HLQ := Lib.hid hlen
  have HLR := Lib.hid hlenR
  have HLE := Lib.hid hLe
  have HR0 := Lib.hid hR0
  have HQ0 := Lib.hid hQ0
  have HPOST := Lib.hid hpost
  have HRD := Lib.hid r2
  have hL0 := hL.1
  have hL1 := hL.2.1
  obtain ⟨L, hLL⟩ : ∃ L : Nat, LL = (L : Int) := ⟨LL.toNat, by omega⟩
  have HLL := Lib.hid hLL
  have hLn : L < n := by omega
  clear hCK hMD hq hrr hqb hlen hlenR hL hLe hR0 hQ0 hpost r2 hr0 hQQ hRR hN hE ha hspL hL0 hL1 hLL
  go_enter Try.func70, Try.ntmps70
  go_wp2_with fail
  refine (HCK.out _ (Fr.refl _ _)).mono ?_
  rintro e w' ⟨rfl, rfl⟩
  go_upto_block 0 with (fail)
  go_cut [8, 9, 10] (fun vP vR lf wx => lf = .int .i64 L ∧ ∃ gP gR cP cR, vP = .slice (some ⟨gP, 0, none⟩) n cP ∧ vR = .slice (some ⟨gR, 0, none⟩) n cR ∧ gP ≠ gR ∧ TwoB w w.heap.size n gP gR cP cR Q R wx)
  case first =>
    go_wp2_with fail
    go_loopw [11, 8, 9, 10] (fun i vP vR lf wr => ∃ k : Nat, k ≤ n ∧ i = .int .i64 k ∧ lf = .int .i64 (m - sumTo Q k) ∧ Two w w.heap.size vP vR (Q.take k) (R.take k) wr) (fun i _ _ _ _ => n - (intOf i).toNat)
    case atStart => exact ⟨0, by omega, rfl, by simp [sumTo], Fr.refl _ _, OwnI.nil _ _ _, OwnI.nil _ _ _, fun b h => by simp [Value.ownBlock] at h⟩
    case round =>
      obtain ⟨k, hk, rfl, rfl, hW⟩ := hrel
      by_cases hlt : k < n
      · obtain ⟨g, o, rfl, hcell⟩ := HRD.out k hlt
        have hc := hW.fr.cell_some hcell (by simp)
        have hmd := HMD.out k hlt
        rw [← HQ.out k hlt, ← HR.out k hlt] at hmd
        have hqb1 := HQB.out k (by omega)
        have hqb2 := HQB.out (k + 1) (by omega)
        have hsu : sumTo Q (k + 1) = sumTo Q k + Q.getD k 0 := rfl
        have htQ := take_snocM (l := Q) (k := k) (by rw [HLQ.out]; exact hlt)
        have htR := take_snocM (l := R) (k := k) (by rw [HLR.out]; exact hlt)
        have hq0 := HQ0.out k hlt
        rw [hsu] at hqb2
        have HMDD := Lib.hid hmd
        have HSU := Lib.hid hsu
        have HTQ := Lib.hid htQ
        have HTR := Lib.hid htR
        have HWW := Lib.hid hW
        have hlQ : (Q.take k).length ≤ 100 := by rw [List.length_take]; omega
        have hlR : (R.take k).length ≤ 100 := by rw [List.length_take]; omega
        have hkn : (k : Int) < (n : Int) := by omega
        have hszr : w.heap.size ≤ wr.heap.size := hW.fr.size
        clear hmd hsu htQ htR hW hcell
        generalize Q.getD k 0 = x at *
        generalize R.getD k 0 = y at *
        generalize sumTo Q k = sq at *
        generalize ws.getD k 0 = wk at *
        generalize Q.take k = lQ at *
        generalize R.take k = lR at *
        go_wp2_with fail
        refine (HMDD.out _).mono ?_
        rintro e w' ⟨rfl, rfl⟩
        clear hc
        go_upto_region 12 with (at_builtin; refine app_iM _ _ rfl x rfl (.tmp 43) (.tmp 45) rfl w.heap.size u8 lQ rfl HWW.out.o1 rfl (by omega) hszr ?_; intro v' x12 ho hf hb; have hW2 := HWW.out.app1 (Nat.le_refl _) ho hf hb; have HW2 := Lib.hid hW2; clear ho hf hb hW2)
        have hsz2 : w.heap.size ≤ x12.heap.size := HW2.out.fr.size
        go_upto_region 13 with (at_builtin; refine app_iM _ _ rfl y rfl (.tmp 47) (.tmp 49) rfl w.heap.size u9 lR rfl HW2.out.o2 rfl (by omega) hsz2 ?_; intro v'' x13 ho hf hb; have hW3 := HW2.out.app2 (Nat.le_refl _) ho hf hb; have HW3 := Lib.hid hW3; clear ho hf hb hW3)
        go_wp2_with fail
        go_roundw
        case rel => exact ⟨k + 1, by omega, by go_num, by rw [HSU.out]; go_num, by rw [HTQ.out, HTR.out]; exact HW3.out⟩
        case measure => simp [intOf]; omega
      · obtain rfl : n = k := by omega
        have hle := HLE.out
        rw [HLL.out] at hle
        have hQt : Q.take n = Q := List.take_of_length_le (by rw [HLQ.out]; exact Nat.le_refl _)
        have hRt : R.take n = R := List.take_of_length_le (by rw [HLR.out]; exact Nat.le_refl _)
        rw [hQt, hRt] at hW
        obtain ⟨gP, cP, hvP, _⟩ := hW.o1.form (by rw [HLQ.out]; omega)
        obtain ⟨gR, cR, hvR, _⟩ := hW.o2.form (by rw [HLR.out]; omega)
        have hlQ := HLQ.out
        have hlR := HLR.out
        rw [hlQ] at hvP
        rw [hlR] at hvR
        subst hvP hvR
        have hne : gP ≠ gR := fun e => hW.ne gP rfl (by rw [e]; rfl)
        have HT : Hid (TwoB w w.heap.size n gP gR cP cR Q R wr) := Lib.hid ⟨hW.fr, hW.o1, hW.o2⟩
        have HLE2 := Lib.hid hle
        clear hW hQt hRt hlQ hlR hle
        go_wp2_with fail
        go_meet
        exact ⟨by rw [← HLE2.out], gP, gR, cP, cR, rfl, rfl, hne, HT.out⟩
  case rest =>
    obtain ⟨rfl, gP, gR, cP, cR, rfl, rfl, hne, hT0⟩ := hcut
    obtain ⟨x1, rfl⟩ : ∃ x1 : World, x1 = wc := ⟨_, rfl⟩
    have hA0 := spA_zero Q R
    have hB0 := spB_zero R
    have HT0 : Hid (TwoB w w.heap.size n gP gR cP cR (spA Q R 0) (spB R 0) x1) := Lib.hid (by rw [hA0, hB0]; exact hT0)
    clear hA0 hB0 hT0 HMD HQ HR HQB HLE
    obtain ⟨N, hNn⟩ : ∃ N, n = N + 1 := ⟨n - 1, by omega⟩
    have HNN := Lib.hid hNn
    clear hNn
    go_wp2_with fail
    go_loopw [10] (fun lf wr => ∃ k : Nat, k ≤ L ∧ lf = .int .i64 ((L : Int) - k) ∧ TwoB w w.heap.size n gP gR cP cR (spA Q R k) (spB R k) wr) (fun lf _ => (intOf lf).toNat)
    case atStart => exact ⟨0, by omega, by simp, HT0.out⟩
    case round =>
      obtain ⟨k, hk, rfl, hW⟩ := hrel
      by_cases hlt : k < L
      · have e1 : decide (0 < (L : Int) - k) = true := by simp; omega
        have hgr := spB_gr (r := R) (n := N) (k := k) (by rw [HLR.out, HNN.out]) (by have := HNN.out; omega) (fun i hi => HR0.out i (by have := HNN.out; omega))
        have hsA := spA_succ (q := Q) (r := R) (n := N) (k := k) (by rw [HLQ.out, HNN.out]) (by have := HNN.out; omega)
        have hsB := spB_succ (r := R) (n := N) (k := k) (by rw [HLR.out, HNN.out]) (by have := HNN.out; omega)
        have hlB := spB_len R k
        rw [HLR.out] at hlB
        have hlA := spA_len Q R k
        rw [HLQ.out] at hlA
        have hGE := fun w' (h : Fr [] wr w') => great_any _ (spB R k) w' ((hW.oR.fr h (by simp)).rd) (by rw [hlB]; exact n1) (by rw [hlB]; omega)
        rw [hlB] at hGE
        rw [← HNN.out] at hgr
        have huq := fun b (h : IsGr (spB R k) n b) => isGr_eq h hgr
        have hoL : ordK R N k < n := hgr.lt
        have hat := spA_at (q := Q) (r := R) (k := k) (i := ordK R N k) (by rw [HLQ.out]; exact hoL)
        have hq0 := HQ0.out _ hoL
        generalize ordK R N k = i at *
        have hxa : 0 ≤ (spA Q R k).getD i 0 ∧ (spA Q R k).getD i 0 ≤ 1000000000001 := by rw [hat]; split <;> omega
        have ci := hW.oP.cell i (by rw [hlA]; exact hoL)
        have fi := hW.oP.frozen i
        generalize hgx : (spA Q R k).getD i 0 = x at *
        have cri := hW.oR.cell i (by rw [hlB]; exact hoL)
        have fri := hW.oR.frozen i
        generalize (spB R k).getD i 0 = y at *
        have HGE := Lib.hid hGE
        have HUQ := Lib.hid huq
        have HSA := Lib.hid hsA
        have HSB := Lib.hid hsB
        have HWW := Lib.hid hW
        have hin : (i : Int) < (n : Int) := by omega
        have HX := Lib.hid hgx
        clear hgr hsA hsB hlB hlA hGE huq hat hW hgx
        go_wp2_with fail
        refine (HGE.out _ (Fr.refl _ _)).mono ?_
        rintro e x3 ⟨⟨b, rfl, hb⟩, f3⟩
        obtain rfl := HUQ.out b hb
        have hW3 := HWW.out.go f3
        have ci := hW3.oP.cell b (by rw [spA_len, HLQ.out]; exact hoL)
        rw [HX.out] at ci
        have fi := hW3.oP.frozen b
        have hW4 := hW3.setP (Nat.le_refl _) hne b (x + 1)
        have hW5 := hW4.setR (Nat.le_refl _) hne b (-1)
        have cr := hW3.oR.cell b (by rw [spB_len, HLR.out]; exact hoL)
        have fr := hW3.oR.frozen b
        generalize (spB R k).getD b 0 = y2 at *
        have HW5 := Lib.hid hW5
        clear hb f3 hW3 hW4 hW5 cri fri
        go_wp2_with fail
        go_roundw
        case rel => exact ⟨k + 1, by omega, by go_num, by rw [HSA.out, HSB.out]; exact HW5.out⟩
        case measure => simp [intOf]; omega
      · obtain rfl : k = L := by omega
        have e1 : decide (0 < (k : Int) - k) = false := by simp
        have hp := HPOST.out (.slice (some ⟨gP, 0, none⟩) n cP) wr
        rw [HLL.out, Int.toNat_natCast] at hp
        have HP := Lib.hid (hp hW.oP hW.fr)
        clear hW hp
        go_wp2_with fail
        go_ret2
        exact HP.out
end Go.Proofs.Ytdinjekpcgndmaa
