/-
  AddonSums: for every game the statement returns true: the price of all add-ons is the sum of their prices. No conditions.
-/
import Derived.Test.YtdbkkbeelemnhaaPlain40
import Derived.Test.YtdbkkbeelemnhaaRPrice
import Derived.ProofKit
import Derived.OpenShut
import Derived.ShutString
import Derived.ChangeOld
namespace Go.Proofs.Ytdbkkbeelemnhaa.addonSums
open Go.ChangeShapes Go.WideShapes Go.ChangeAt Go.RowKit
open Go.ChangeMaps (open_string shut_string)
set_option linter.unusedVariables false
theorem one_fin : ∀ (k j : Fin 4), bitB (2 ^ k.val) j.val = decide (j.val = k.val) := by decide +kernel
theorem all_fin : ∀ (n : Fin 5) (j : Fin 4), j.val < n.val → bitB (2 ^ n.val - 1) j.val = true := by decide +kernel
theorem pri_one (l : List Ad) (k : Nat) (hk : k < 4) : ∀ n, n ≤ 4 → priTo l (2 ^ k) n = if k < n then (l.getD k default).price else 0 := by
  intro n
  induction n with
  | zero => intro _; rfl
  | succ n ih =>
    intro hn
    rw [priTo, ih (by omega), one_fin ⟨k, hk⟩ ⟨n, by omega⟩]
    by_cases h : n = k
    · subst h; simp
    · by_cases h2 : k < n
      · rw [if_pos h2, if_neg (by simp [h]), if_pos (by omega)]; simp
      · rw [if_neg h2, if_neg (by simp [h]), if_neg (by omega)]; simp
theorem pri_all (l : List Ad) (n k : Nat) (hk : k < n) (hn : n ≤ 4) : priTo l (2 ^ n - 1) (k + 1) = priTo l (2 ^ n - 1) k + (l.getD k default).price := by
  rw [priTo, all_fin ⟨n, by omega⟩ ⟨k, by omega⟩ hk]; simp
theorem mask_one {n k : Nat} (hk : k < n) (hn : n ≤ 4) : maskB n (2 ^ k) = true := by
  have : ∀ (n : Fin 5) (k : Fin 4), k.val < n.val → maskB n.val (2 ^ k.val) = true := by decide +kernel
  exact this ⟨n, by omega⟩ ⟨k, by omega⟩ hk
theorem mask_all {n : Nat} (hn : n ≤ 4) : maskB n (2 ^ n - 1) = true ∧ maskB n (2 ^ n) = false := by
  have : ∀ (n : Fin 5), maskB n.val (2 ^ n.val - 1) = true ∧ maskB n.val (2 ^ n.val) = false := by decide +kernel
  exact this ⟨n, by omega⟩
set_option maxRecDepth 20000 in
set_option maxHeartbeats 2000000 in
theorem walk (v : Value) (g : Gm) (w : World) (hv : v = g.val) (hok : g.Ok w) :
    Calls Try.prog 8 #[v] w fun e w' => e = .returned (.bool true) ∧ Below w.heap.size w w' := by
  subst hv
  have hP := fun m w' (h : Fr [] w w') => price_any g m w' (hok.fr h)
  have h20 : ∀ w b, GmAt w b g → w.cell? ⟨b, 20, none⟩ = some (.slice g.aa g.addons.length g.ac) := fun w b h => h.cell 20 _ rfl
  have hle := hok.addons.rd.len.2
  unfold maxLen at hle
  obtain ⟨n, hN⟩ : ∃ n, n = g.addons.length := ⟨_, rfl⟩
  rw [← hN] at h20 hle
  have H20 := Lib.hid h20
  have HP := Lib.hid hP
  clear h20 hP hok
  by_cases hlen : 4 < n
  · have d1 : decide (4 < (n : Int)) = true := by simp; omega
    have HN := Lib.hid hN
    clear hN
    go_enter Try.func8, Try.ntmps8
    go_wp2_with (refine box_game rfl (.tmp 0) rfl g rfl ?_; intro w1 hg1 hz1 hf1; have c20 := H20.out _ _ hg1)
    refine (lives40_any _).mono ?_
    rintro e w4 ⟨rfl, f4⟩
    go_wp2_with fail
    go_ret
    exact ⟨rfl, (hf1.trans f4).below⟩
  · have d1 : decide (4 < (n : Int)) = false := by simp; omega
    by_cases he : chkE g = 0
    · have e1 : ∀ m, priE g m = if maskB n m = false then 2 else 0 := fun m => by unfold priE; rw [if_neg (by simp [he]), hN]
      have v1 : ∀ k, k < n → priE g (2 ^ k) = 0 ∧ priV g (2 ^ k) = (g.addons.getD k default).price := fun k hk => by
        have h0 : priE g (2 ^ k) = 0 := by rw [e1, mask_one hk (by omega)]; simp
        refine ⟨h0, ?_⟩
        unfold priV
        rw [if_pos h0, ← hN, pri_one g.addons k (by omega) n (by omega), if_pos hk]
      have v2 : priE g (2 ^ n - 1) = 0 ∧ priV g (2 ^ n - 1) = priTo g.addons (2 ^ n - 1) n := by
        have h0 : priE g (2 ^ n - 1) = 0 := by rw [e1, (mask_all (by omega)).1]; simp
        refine ⟨h0, ?_⟩
        unfold priV
        rw [if_pos h0, ← hN]
      have v3 : priE g (2 ^ n) = 2 := by rw [e1, (mask_all (by omega)).2]; simp
      obtain ⟨p1, p2, p3⟩ := chkE_facts he
      obtain ⟨q1, q2⟩ := addsE_facts p2
      have hbd := priTo_bd g.addons (2 ^ n - 1) (fun i a ha => by have := adE_facts (q2 i a ha).1; omega)
      have hpr : ∀ k, k < n → 0 ≤ (g.addons.getD k default).price ∧ (g.addons.getD k default).price ≤ 1000000 := fun k hk => by
        have hx := List.getElem?_eq_getElem (l := g.addons) (i := k) (by omega)
        have := adE_facts (q2 k _ hx).1
        have hg : g.addons.getD k default = g.addons[k] := by simp [List.getD, show k < g.addons.length by omega]
        rw [hg]; omega
      have hst := fun k (hk : k < n) => pri_all g.addons n k hk (by omega)
      have hz0 : priTo g.addons (2 ^ n - 1) 0 = 0 := rfl
      rw [← hN] at hbd
      have h2s : ∀ k, (2 : Int) ^ (k + 1) = 2 * 2 ^ k := by intro k; rw [Int.pow_succ, Int.mul_comm]
      have h2b : ∀ k, k ≤ 4 → (1 : Int) ≤ 2 ^ k ∧ (2 : Int) ^ k ≤ 16 := fun k hk => pow_bd k hk
      have h20' : (2 : Int) ^ 0 = 1 := rfl
      obtain ⟨P, hPd⟩ : ∃ P : Nat → Int, P = fun k => (2 : Int) ^ k := ⟨_, rfl⟩
      have hPk : ∀ k, (2 : Int) ^ k = P k := fun k => by rw [hPd]
      simp only [hPk] at v1 v2 v3 h2s h2b h20' hbd hst hz0
      generalize priTo g.addons (P n - 1) = T at *
      have V1 := Lib.hid v1
      have V2 := Lib.hid v2
      have V3 := Lib.hid v3
      have HB := Lib.hid hbd
      have HS := Lib.hid hst
      have HPR := Lib.hid hpr
      have H2S := Lib.hid h2s
      have H2B := Lib.hid h2b
      have H2Z := Lib.hid h20'
      have HZ0 := Lib.hid hz0
      have HN := Lib.hid hN
      clear v1 v2 v3 hbd hst hpr h2s h2b h20' hN e1 he p1 p2 p3 q1 q2 hPd hPk hz0
      go_enter Try.func8, Try.ntmps8
      go_wp2_with (refine box_game rfl (.tmp 0) rfl g rfl ?_; intro w1 hg1 hz1 hf1; have c20 := H20.out _ _ hg1)
      clear hz1
      go_loopw [3, 4, 5] (fun s b i wr => ∃ k : Nat, k ≤ n ∧ i = .int .i64 k ∧ s = .int .i64 (T k) ∧ b = .int .i64 (P k) ∧ Fr [] w1 wr) (fun _ _ i _ => n - (intOf i).toNat)
      case atStart => exact ⟨0, by omega, rfl, by rw [HZ0.out], by rw [H2Z.out], Fr.refl _ _⟩
      case round =>
        obtain ⟨k, hk, rfl, rfl, rfl, hf⟩ := hrel
        have r20 := hf.cell_some c20 (by simp)
        have hgr := hg1.fr hf (by simp)
        obtain ⟨b0, b1⟩ := H2B.out k (by omega)
        obtain ⟨t0, t1⟩ := HB.out k (by have := HN.out; omega)
        by_cases hlt : k < n
        · obtain ⟨ve, vv⟩ := V1.out k hlt
          have hsk := HS.out k hlt
          have h2k := H2S.out k
          obtain ⟨x0, x1⟩ := HPR.out k hlt
          have hPC := fun w' h => HP.out (P k) w' h
          rw [ve, vv] at hPC
          generalize (g.addons.getD k default).price = x at *
          have HPC := Lib.hid hPC
          have HSK := Lib.hid hsk
          have H2K := Lib.hid h2k
          clear ve vv hsk h2k hPC
          generalize T k = tk at *
          generalize P k = pk at *
          go_wp2_with (refine load_game rfl (.tmp 1) rfl _ rfl g hgr ?_)
          refine (HPC.out _ (hf1.trans hf)).mono ?_
          rintro e w5 ⟨rfl, f5⟩
          go_wp2_with fail
          exact ⟨⟨k + 1, by omega, by go_num, by rw [HSK.out], by rw [H2K.out], hf.trans f5⟩, by simp [intOf]; omega⟩
        · obtain rfl : k = n := by omega
          obtain ⟨ve, vv⟩ := V2.out
          have v3 := V3.out
          have hPC := fun w' h => HP.out (P k - 1) w' h
          have hPD := fun w' h => HP.out (P k) w' h
          rw [ve, vv] at hPC
          rw [v3] at hPD
          generalize priV g (P k) = y at *
          have HPC := Lib.hid hPC
          have HPD := Lib.hid hPD
          clear ve vv v3 hPC hPD
          generalize T k = tk at *
          generalize P k = pk at *
          have htt : (tk == tk) = true := by simp
          go_wp2_with (refine load_game rfl (.tmp 1) rfl _ rfl g hgr ?_)
          refine (HPC.out _ (hf1.trans hf)).mono ?_
          rintro e w5 ⟨rfl, f5⟩
          have hg5 := hgr.fr f5 (by simp)
          have hF5 := (hf1.trans hf).trans f5
          go_wp2_with (refine load_game rfl (.tmp 1) rfl _ rfl g hg5 ?_)
          refine (HPD.out _ hF5).mono ?_
          rintro e w6 ⟨rfl, f6⟩
          go_wp2_with fail
          refine (lives40_any _).mono ?_
          rintro e w7 ⟨rfl, f7⟩
          go_wp2_with fail
          go_ret
          exact ⟨rfl, ((hF5.trans f6).trans f7).below⟩
    · have e1 : ∀ m, priE g m = chkE g := fun m => by unfold priE; rw [if_pos he]
      simp only [e1] at HP
      obtain ⟨E, hE⟩ : ∃ E, E = chkE g := ⟨_, rfl⟩
      rw [← hE] at HP he
      have dE : (E != 0) = true := by simpa using he
      clear e1 hE he
      have HN := Lib.hid hN
      clear hN
      by_cases hn0 : 0 < n
      · go_enter Try.func8, Try.ntmps8
        go_wp2_with (refine box_game rfl (.tmp 0) rfl g rfl ?_; intro w1 hg1 hz1 hf1; have c20 := H20.out _ _ hg1)
        clear hz1
        go_loopw [3, 4, 5] (fun s b i wr => i = .int .i64 0 ∧ s = .int .i64 0 ∧ b = .int .i64 1 ∧ Fr [] w1 wr) (fun _ _ i _ => n - (intOf i).toNat)
        case atStart => exact ⟨rfl, rfl, rfl, Fr.refl _ _⟩
        case round =>
          obtain ⟨rfl, rfl, rfl, hf⟩ := hrel
          have r20 := hf.cell_some c20 (by simp)
          have hgr := hg1.fr hf (by simp)
          have hn1 : (0 : Int) < n := by omega
          go_wp2_with (refine load_game rfl (.tmp 1) rfl _ rfl g hgr ?_)
          refine (HP.out _ _ (hf1.trans hf)).mono ?_
          rintro e w5 ⟨rfl, f5⟩
          have hF5 := (hf1.trans hf).trans f5
          go_wp2_with fail
          refine (lives40_any _).mono ?_
          rintro e w7 ⟨rfl, f7⟩
          go_wp2_with fail
          go_ret
          exact ⟨rfl, (hF5.trans f7).below⟩
      · obtain rfl : n = 0 := by omega
        go_enter Try.func8, Try.ntmps8
        go_wp2_with (refine box_game rfl (.tmp 0) rfl g rfl ?_; intro w1 hg1 hz1 hf1; have c20 := H20.out _ _ hg1)
        clear hz1
        go_loopw [3, 4, 5] (fun s b i wr => i = .int .i64 0 ∧ s = .int .i64 0 ∧ b = .int .i64 1 ∧ Fr [] w1 wr) (fun _ _ i _ => 0 - (intOf i).toNat)
        case atStart => exact ⟨rfl, rfl, rfl, Fr.refl _ _⟩
        case round =>
          obtain ⟨rfl, rfl, rfl, hf⟩ := hrel
          have r20 := hf.cell_some c20 (by simp)
          have hgr := hg1.fr hf (by simp)
          go_wp2_with (refine load_game rfl (.tmp 1) rfl _ rfl g hgr ?_)
          refine (HP.out _ _ (hf1.trans hf)).mono ?_
          rintro e w5 ⟨rfl, f5⟩
          have hg5 := hgr.fr f5 (by simp)
          have hF5 := (hf1.trans hf).trans f5
          go_wp2_with (refine load_game rfl (.tmp 1) rfl _ rfl g hg5 ?_)
          refine (HP.out _ _ hF5).mono ?_
          rintro e w6 ⟨rfl, f6⟩
          go_wp2_with fail
          refine (lives40_any _).mono ?_
          rintro e w7 ⟨rfl, f7⟩
          go_wp2_with fail
          go_ret
          exact ⟨rfl, ((hF5.trans f6).trans f7).below⟩
theorem own : ownKnob Try.prog.godebug = none := by kernel_rfl
theorem laidOut : laidOutB Try.prog = true := by kernel_rfl
set_option maxRecDepth 100000 in
theorem lifted (os : Os) (started : os.Started) (H : Type) (enc : TypeId × Value → H) :
    ReturnsInHanded {} Try.checked os 8 .any (Rows.addonSumsSpec.pre6 enc Try.prog Try.f8 Rows.addonSumsRow.domain false) (Rows.addonSumsSpec.post enc Try.prog Try.f8 false true false false) := by
  refine returnsInHanded_of_change (C := Try.checked) own started (by kernel_rfl) Try.func8
    (ChangeSpec.witness6 (enc := enc) (C := Try.checked) false ⟨#[], #[.agg #[.string ByteArray.empty, .int .i64 0, .int .i64 0, .int .i64 0, .int .i64 0, .int .i64 0, .int .i64 0, .int .i64 0, .int .i64 0, .int .i64 0, .int .i64 0, .int .i64 0, .int .i64 0, .int .i64 0, .int .i64 0, .int .i64 0, .int .i64 0, .int .i64 0, .int .i64 0, .int .i64 0, .slice none 0 0, .slice none 0 0]], []⟩ 8 (by kernel_rfl) (by kernel_rfl) (by kernel_rfl) (by kernel_rfl)) ?_
  intro W base args ds gs before hval0 hW hcnd _
  have hval : ∀ (j : Nat) t v, Try.f8.params[j]? = some t → args[j]? = some v → Value.okWide Try.prog W .any base t v := hval0
  have hW' := hW
  obtain ⟨p, q, hA0, hV, rfl, hfz, hnd⟩ := hW
  have hA : DataW.TrodAll enc Try.prog W 0 (fun _ => true) true Try.f8.params.toList args.toList ds p := hA0
  rw [Try.params8] at hA hval
  obtain ⟨v0, vs0, d0, ds0, p0, q0, hargs, rfl, rfl, h0, r0⟩ := trodAll_cons hA
  obtain ⟨rfl, rfl, rfl⟩ := trodAll_nil r0
  obtain rfl : args = #[v0] := by cases args; simp_all
  obtain ⟨rfl, rfl⟩ := trodVars_none hV
  have k0 := h0
  have lt0 : ∀ x ∈ p0, x.block < W.heap.size := by obtain ⟨m, hm⟩ := k0; exact DataW.trod_lt m _ _ _ hm
  obtain ⟨g0, hv0, hg0⟩ := open_game (hval 0 29 v0 rfl rfl) h0
  clear hA0 hval0
  refine (walk v0 g0 W hv0 hg0).mono fun e W' ⟨he, bel⟩ => ?_
  subst he
  exact ⟨_, rfl, _, _, _, [], _, [], hW', trodAll_mk1 (shut_bool Try.underlying4 _), (trodAll_cons_mk (Below.trod laidOut (by kernel_rfl) (of_decide_eq_true (by kernel_rfl)) k0 bel lt0) trodAll_mk0), rfl, bel.frame _, fun h => by cases h⟩
theorem over : Rows.addonSumsRow.holds Try.pinned (OpenSpec.ofChange Rows.addonSumsSpec) :=
  OpenClaim.holds_of_wide 8 Try.f8 rfl rfl rfl rfl rfl rfl rfl ⟨rfl, rfl, rfl, rfl, rfl⟩ rfl rfl rfl rfl rfl (by kernel_rfl) Try.func8 (by kernel_rfl)
    (of_decide_eq_true (by kernel_rfl)) (by unfold Func.isWrapper; first | (rw [if_pos (by decide +kernel)]; kernel_rfl) | (rw [if_neg (by decide +kernel)]; exact ⟨rfl, rfl⟩))
    (fun os started H enc _ => lifted os started H enc)
/-- THE STATEMENT -/
theorem proved : Rows.AddonSumsSaid := over
end Go.Proofs.Ytdbkkbeelemnhaa.addonSums
