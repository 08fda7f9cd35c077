/-
  RollCapped: for every game and amounts the statement returns true: what Cap leaves. No conditions.
-/
import Derived.Test.YtdinjekpcgndmaaAwake
import Derived.Test.YtdinjekpcgndmaaRollLaw
import Derived.Test.YtdinjekpcgndmaaIntArg
import Derived.Test.YtdinjekpcgndmaaSum37
import Derived.Test.YtdinjekpcgndmaaTier2
import Derived.ProofKit
import Derived.OpenShut
import Derived.ShutString
import Derived.ChangeOld
namespace Go.Proofs.Ytdinjekpcgndmaa.rollCapped
open Go.ChangeShapes Go.WideShapes Go.ChangeAt Go.RowKit
open Go.ChangeMaps (open_string shut_string)
set_option linter.unusedVariables false
attribute [local go_sem ↓] Go.wp_at_zero Go.wp_at_succ
set_option maxRecDepth 20000 in
set_option maxHeartbeats 3000000 in
theorem walk (v0 : Value) (g : Gm) (v1 : Value) (ts : List Int) (w : World) (hv0 : v0 = g.val) (hok : g.Ok w) (hr1 : RdI w v1 ts) :
    Calls Try.prog 6 #[v0, v1] w fun e w' => e = .returned (.bool true) ∧ Below w.heap.size w w' := by
  subst hv0
  have hCap := fun w' (h : Fr [] w w') => cap_any g v1 ts w' (hok.fr h) (hr1.below h)
  have hBH := fun (k : Nat) (hk : k < g.tiers.length) w' (h : Fr [] w w') => behind_any g k w' (hok.tiers.fr h) hk
  have h21 : ∀ w b, GmAt w b g → w.cell? ⟨b, 21, none⟩ = some (.slice g.ta g.tiers.length g.tc) := fun w b h => h.cell 21 _ rfl
  have h18 : ∀ w b, GmAt w b g → w.cell? ⟨b, 18, none⟩ = some (.int .i64 g.cap) := fun w b h => h.cell 18 _ rfl
  have hgr : ∀ w b, GmAt w b g → w.rangeAt b 0 g.cells := fun w b h j v hv => by rw [Nat.zero_add]; exact h.cell j v hv
  simp only [show g.val = .agg g.cells.toArray from rfl] at hBH
  obtain ⟨cs0, hcs0⟩ : ∃ c, c = g.cells := ⟨_, rfl⟩
  have hcl0 : cs0.length = 22 := by rw [hcs0]; rfl
  rw [← hcs0] at hBH hgr
  have hf0 := @cap_law0 g ts
  have hfi := @cap_facts g ts
  have hcp0 : capE g ts = 0 → 0 ≤ g.cap := fun h => (badT_bd (head_bd (rchkE_facts (cap_facts h).1).1).2).1
  obtain ⟨a1, k1, rfl, hk1, hk2, hrd1⟩ := hr1
  have hl1 : ts.length ≤ 9223372036854775807 := Nat.le_trans hk1 hk2
  unfold CapPost at hCap
  generalize capE g ts = E2 at *
  generalize capL g ts = A at *
  obtain ⟨cp, hcp⟩ : ∃ x, x = g.cap := ⟨_, rfl⟩
  rw [← hcp] at h18 hfi hcp0
  obtain ⟨n, hn⟩ : ∃ n, n = g.tiers.length := ⟨_, rfl⟩
  rw [← hn] at h21 hf0 hfi hBH
  have HCAP := Lib.hid hCap
  have HBHA := Lib.hid hBH
  have H21 := Lib.hid h21
  have H18 := Lib.hid h18
  have HGR := Lib.hid hgr
  have HCL0 := Lib.hid hcl0
  have HF0 := Lib.hid hf0
  have HFI := Lib.hid hfi
  have HCP0 := Lib.hid hcp0
  have HN := Lib.hid hn
  have HOK := Lib.hid hok
  have HRD1 := Lib.hid hrd1
  clear hCap hBH h21 h18 hgr hcl0 hf0 hfi hok hn hk1 hk2 hrd1 hcs0 hcp hcp0
  by_cases hb1 : 40 < ts.length
  · have d1 : decide (40 < (ts.length : Int)) = true := by simp; omega
    go_enter Try.func6, Try.ntmps6
    go_wp2_with (refine box_game rfl (.tmp 0) rfl g rfl ?_; intro w1 hg1 hz1 hf1)
    refine (awake_any _).mono ?_
    rintro e w2 ⟨rfl, f2⟩
    go_wp2_with fail
    go_ret
    exact ⟨rfl, (hf1.trans f2).below⟩
  have d1 : decide (40 < (ts.length : Int)) = false := by simp; omega
  go_enter Try.func6, Try.ntmps6
  go_wp2_with (first | (refine box_game rfl (.tmp 0) rfl g rfl ?_; intro w1 hg1 hz1 hf1) | (refine load_game rfl (.tmp 2) rfl _ rfl g hg1 ?_))
  refine (HCAP.out _ hf1).mono ?_
  rintro e w3 ⟨va, rfl, oa, f3⟩
  have hg3 := hg1.fr f3 (by simp)
  have hF3 := hf1.trans f3
  have c21 := H21.out _ _ hg3
  have c18 := H18.out _ _ hg3
  have HF3 := Lib.hid hF3
  have HG3 := Lib.hid hg3
  have HDONE := Lib.hid (fun w4 => awake_any w4)
  clear hg1 hz1 hf1 f3 HCAP hF3 hg3
  by_cases h2 : E2 = 0
  · obtain ⟨p1, p2, p3, p4, p5, p6, p7⟩ := HF0.out h2
    obtain ⟨_, hinv, hceq⟩ := HFI.out h2
    have hcp := HCP0.out h2
    obtain ⟨ga, ka, rfl, _, _, _, _⟩ := oa.form (by omega)
    rw [p1] at oa ⊢
    have e2 : (E2 != 0) = false := by simpa using h2
    have HINV := Lib.hid hinv
    have HCEQ := Lib.hid hceq
    have HRD1 := Lib.hid HRD1.out
    rw [p2] at HRD1 hl1 ⊢
    have HOA := Lib.hid oa
    have HP1 := Lib.hid p1
    obtain ⟨x0, hx0⟩ : ∃ x, g.tiers[0]? = some x := ⟨_, List.getElem?_eq_getElem (by have := HN.out; omega)⟩
    obtain ⟨b, o, hta, _⟩ := RdF.at (f := Ti.cells) HOK.out.tiers.rd hx0
    rw [hta] at c21
    have HTA := Lib.hid hta
    have hnn : ((n : Int) != n) = false := by simp
    clear p1 p2 p3 p4 p5 h2 HF0 HFI hta hx0 d1 hb1 oa hinv hceq HCP0
    go_wp2_with fail
    go_loopw [7] (fun i wr => ∃ k : Nat, k ≤ n ∧ i = .int .i64 k ∧ Fr [] w3 wr) (fun i _ => n - (intOf i).toNat)
    case atStart => exact ⟨0, by omega, rfl, Fr.refl _ _⟩
    case round =>
      obtain ⟨k, hk, rfl, hf⟩ := hrel
      have r21 := hf.cell_some c21 (by simp)
      have r18 := hf.cell_some c18 (by simp)
      have hFr := HF3.out.trans hf
      by_cases hlt : k < n
      · obtain ⟨x, hx⟩ : ∃ x, g.tiers[k]? = some x := ⟨_, List.getElem?_eq_getElem (by have := HN.out; omega)⟩
        obtain ⟨b1, o1, hta', hcell⟩ := RdF.at (f := Ti.cells) HOK.out.tiers.rd hx
        rw [HTA.out] at hta'
        simp only [Option.some.injEq, Addr.mk.injEq, and_true] at hta'
        obtain ⟨rfl, rfl⟩ := hta'
        have c4 := hFr.cell_some (hcell 4 _ rfl) (by simp)
        obtain ⟨g1, o1, rfl, hct⟩ := HRD1.out k hlt
        have ct := hFr.cell_some hct (by simp)
        have cu := hf.cell_some (HOA.out.cell k (by have := HP1.out; omega)) (by simp)
        have hkd : kd g.tiers k = x.kind := by simp [kd, List.getD, hx]
        have hfix := HINV.out.fixed k
        have hmost := HINV.out.most k
        have hcapd := HINV.out.capped k
        have heq : cp = 0 → A.getD k 0 = ts.getD k 0 := fun h => by rw [HCEQ.out h]
        rw [hkd] at hfix hmost hcapd
        generalize A.getD k 0 = u at *
        generalize ts.getD k 0 = t at *
        generalize x.kind = tk at *
        have hkn : (k : Int) < (n : Int) := by omega
        have hk0 : (0 : Int) ≤ (k : Int) := by omega
        have HFR := Lib.hid hFr
        clear hcell hx hct hkd hFr
        by_cases hcz : cp = 0
        · obtain rfl := heq hcz
          have ecp : (cp == 0) = true := by simpa using hcz
          have ecg : decide (0 < cp) = false := by simp; omega
          have euu : (u != u) = false := by simp
          have elt : decide (u < u) = false := by simp
          clear hfix hmost hcapd heq hcz hcp
          by_cases h1 : tk = 1
          · have e1 : (tk == 1) = true := by simpa using h1
            have e3 : (tk != 3) = true := by simp; omega
            have e33 : (tk == 3) = false := by simp; omega
            clear h1
            go_wp2_with fail
            go_quiet (fail)
            go_wp2
            go_quiet (fail)
            go_wp2
            exact ⟨⟨k + 1, by omega, by go_num, hf.drewN _⟩, by simp [intOf]; omega⟩
          · have e1 : (tk == 1) = false := by simpa using h1
            by_cases h3 : tk = 3
            · have e3 : (tk != 3) = false := by simpa using h3
              have e33 : (tk == 3) = true := by simpa using h3
              clear h1 h3
              go_wp2_with fail
              go_quiet (fail)
              go_wp2
              go_quiet (fail)
              go_wp2
              exact ⟨⟨k + 1, by omega, by go_num, hf.drewN _⟩, by simp [intOf]; omega⟩
            · have e3 : (tk != 3) = true := by simpa using h3
              have e33 : (tk == 3) = false := by simpa using h3
              clear h1 h3
              go_wp2_with fail
              go_quiet (fail)
              go_wp2
              go_quiet (fail)
              go_wp2
              exact ⟨⟨k + 1, by omega, by go_num, hf.drewN _⟩, by simp [intOf]; omega⟩
        · have ecp : (cp == 0) = false := by simpa using hcz
          have ecg : decide (0 < cp) = true := by simp; omega
          by_cases h1 : tk = 1
          · obtain rfl := hfix h1
            have e1 : (tk == 1) = true := by simpa using h1
            have e3 : (tk != 3) = true := by simp; omega
            have e33 : (tk == 3) = false := by simp; omega
            have euu : (u != u) = false := by simp
            have elt : decide (u < u) = false := by simp
            clear h1 hfix hmost hcapd heq hcz hcp
            go_wp2_with fail
            go_quiet (fail)
            go_wp2
            go_quiet (fail)
            go_wp2
            exact ⟨⟨k + 1, by omega, by go_num, hf.drewN _⟩, by simp [intOf]; omega⟩
          · have e1 : (tk == 1) = false := by simpa using h1
            by_cases h3 : tk = 3
            · have e3 : (tk != 3) = false := by simpa using h3
              have e33 : (tk == 3) = true := by simpa using h3
              have hcd := fun h => hcapd (by rw [if_neg hcz]; exact hlt) h3 h
              have hbh := HBHA.out k hlt
              obtain ⟨nx, hnx⟩ : ∃ x, x = nxtE g.tiers k := ⟨_, rfl⟩
              rw [← hnx] at hcd hbh
              have HCD := Lib.hid hcd
              have HBH := Lib.hid hbh
              clear h1 h3 hfix hmost hcapd heq hcz hcp hcd hbh hnx
              go_wp2_with fail
              go_quiet (fail)
              go_wp2
              obtain ⟨wq, hwq⟩ : ∃ wq, wq = wr.drewN nq := ⟨_, rfl⟩
              have hA : Fr [] wr wq := by rw [hwq]; exact (Fr.refl [] _).drewN _
              rw [← hwq]
              clear hwq
              have hfq := hf.trans hA
              have hFq := HFR.out.trans hA
              have q18 := hA.cell_some r18 (by simp)
              have qu := hA.cell_some cu (by simp)
              have hRa := HGR.out _ _ (HG3.out.fr hfq (by simp))
              have hu1 := Try.underlying25
              have hi1 : (Try.prog.info? 25).map (·.size) = some cs0.length := by rw [HCL0.out]; exact infoGame
              clear hf r21 r18 ct cu c4 hA
              by_cases hnn0 : 0 ≤ nx
              · have hdn : decide (0 ≤ nx) = true := by simpa using hnn0
                have hule := HCD.out hnn0
                have eu : decide (cp < u) = false := by simp; omega
                have HBH := Lib.hid HBH.out
                rw [hdn] at HBH
                clear hule hnn0 hdn HCD
                refine wp_region_held_drew (S := (fun w' => Fr [] wq w')) (by kernel_rfl) (Fr.refl [] _).drew (fun hHeld => ?_)
                refine wpAnyH_take (i := 0) (oi := ⟨some 91, _, _, _, _, _⟩) (v := .int .i64 tk) rfl (by kernel_rfl) (by kernel_rfl) (by kernel_rfl) (fun _ _ _ h => h) (Or.inl ⟨by rfl, ?_⟩) hHeld ?_
                · intro w hSw; (try dsimp only at hSw); go_simp
                (try simp only [Act.put, List.setIfInBounds_toArray, List.set_cons_zero, List.set_cons_succ])
                refine wpAnyH_take (i := 1) (oi := ⟨some 92, _, _, _, _, _⟩) (v := .bool true) rfl (by kernel_rfl) (by kernel_rfl) (by kernel_rfl) (fun _ _ _ h => h) (Or.inl ⟨by rfl, ?_⟩) hHeld ?_
                · intro w hSw; (try dsimp only at hSw); go_simp
                (try simp only [Act.put, List.setIfInBounds_toArray, List.set_cons_zero, List.set_cons_succ])
                refine wpAnyH_take (i := 2) (oi := ⟨some 93, _, _, _, _, _⟩) (v := .bool true) rfl (by kernel_rfl) (by kernel_rfl) (by kernel_rfl) (fun _ _ _ h => h) (Or.inl ⟨by rfl, ?_⟩) hHeld ?_
                · intro w hSw; (try dsimp only at hSw); go_simp
                (try simp only [Act.put, List.setIfInBounds_toArray, List.set_cons_zero, List.set_cons_succ])
                refine wpAnyH_take (i := 3) (oi := ⟨some 94, _, _, _, _, _⟩) (v := .pointer (some ⟨w.heap.size, 18, none⟩)) rfl (by kernel_rfl) (by kernel_rfl) (by kernel_rfl) (fun _ _ _ h => h) (Or.inl ⟨by rfl, ?_⟩) hHeld ?_
                · intro w hSw; (try dsimp only at hSw); go_simp
                (try simp only [Act.put, List.setIfInBounds_toArray, List.set_cons_zero, List.set_cons_succ])
                refine wpAnyH_take (i := 4) (oi := ⟨some 95, _, _, _, _, _⟩) (v := .int .i64 cp) rfl (by kernel_rfl) (by kernel_rfl) (by kernel_rfl) (fun _ _ _ h => h) (Or.inl ⟨by rfl, ?_⟩) hHeld ?_
                · intro w hSw; (try dsimp only at hSw); have hcF := hSw.cell_some q18 (by simp); clear hSw; go_simp
                (try simp only [Act.put, List.setIfInBounds_toArray, List.set_cons_zero, List.set_cons_succ])
                refine wpAnyH_take (i := 5) (oi := ⟨some 96, _, _, _, _, _⟩) (v := .bool true) rfl (by kernel_rfl) (by kernel_rfl) (by kernel_rfl) (fun _ _ _ h => h) (Or.inl ⟨by rfl, ?_⟩) hHeld ?_
                · intro w hSw; (try dsimp only at hSw); go_simp
                (try simp only [Act.put, List.setIfInBounds_toArray, List.set_cons_zero, List.set_cons_succ])
                refine wpAnyH_take (i := 6) (oi := ⟨some 97, _, _, _, _, _⟩) (v := .bool true) rfl (by kernel_rfl) (by kernel_rfl) (by kernel_rfl) (fun _ _ _ h => h) (Or.inl ⟨by rfl, ?_⟩) hHeld ?_
                · intro w hSw; (try dsimp only at hSw); go_simp
                (try simp only [Act.put, List.setIfInBounds_toArray, List.set_cons_zero, List.set_cons_succ])
                refine wpAnyH_take (i := 7) (oi := ⟨some 98, _, _, _, _, _⟩) (v := .bool true) rfl (by kernel_rfl) (by kernel_rfl) (by kernel_rfl) (fun _ _ _ h => h) (Or.inl ⟨by rfl, ?_⟩) hHeld ?_
                · intro w hSw; (try dsimp only at hSw); go_simp
                (try simp only [Act.put, List.setIfInBounds_toArray, List.set_cons_zero, List.set_cons_succ])
                refine' wpAnyH_take (i := 8) (oi := ⟨some 99, _, _, _, _, _⟩) (v := _) rfl (by kernel_rfl) (by kernel_rfl) (by kernel_rfl) (fun _ _ _ h => h) (yieldsIf_load_mid (by rfl) _ _ rfl _ _ rfl _ _ (fun w h => h.range hRa) hu1 rfl hi1) hHeld ?_
                (try simp only [Act.put, List.setIfInBounds_toArray, List.set_cons_zero, List.set_cons_succ])
                refine wpAnyH_take (i := 9) (oi := ⟨some 100, _, _, _, _, _⟩) (v := .int .i64 k) rfl (by kernel_rfl) (by kernel_rfl) (by kernel_rfl) (fun _ _ _ h => h) (Or.inl ⟨by rfl, ?_⟩) hHeld ?_
                · intro w hSw; (try dsimp only at hSw); go_simp
                (try simp only [Act.put, List.setIfInBounds_toArray, List.set_cons_zero, List.set_cons_succ])
                refine wpAnyH_ready (rs := [10]) (by kernel_rfl) (by simp) ?_
                refine AllReadyH.cons (o := ⟨some 101, _, _, _, _, _⟩) rfl (fun K hK => ?_) AllReadyH.nil
                rw [if_pos (by rfl)]
                go_simp
                refine (HBH.out _ (hFq.trans hHeld)).mono ?_
                rintro e w7 ⟨rfl, fr⟩
                refine hK.out _ _ (hHeld.trans fr) (fun hHeld' => ?_)
                clear hK K hHeld
                have hHeld := hHeld'
                clear hHeld'
                (try simp only [Act.put, List.setIfInBounds_toArray, List.set_cons_zero, List.set_cons_succ])
                clear fr
                refine wpAnyH_take (i := 11) (oi := ⟨some 102, _, _, _, _, _⟩) (v := .bool true) rfl (by kernel_rfl) (by kernel_rfl) (by kernel_rfl) (fun _ _ _ h => h) (Or.inl ⟨by rfl, ?_⟩) hHeld ?_
                · intro w hSw; (try dsimp only at hSw); go_simp
                (try simp only [Act.put, List.setIfInBounds_toArray, List.set_cons_zero, List.set_cons_succ])
                refine wpAnyH_take (i := 12) (oi := ⟨some 103, _, _, _, _, _⟩) (v := .bool true) rfl (by kernel_rfl) (by kernel_rfl) (by kernel_rfl) (fun _ _ _ h => h) (Or.inl ⟨by rfl, ?_⟩) hHeld ?_
                · intro w hSw; (try dsimp only at hSw); go_simp
                (try simp only [Act.put, List.setIfInBounds_toArray, List.set_cons_zero, List.set_cons_succ])
                refine wpAnyH_take (i := 13) (oi := ⟨some 104, _, _, _, _, _⟩) (v := .slice (some ⟨ga, 0, none⟩) n ka) rfl (by kernel_rfl) (by kernel_rfl) (by kernel_rfl) (fun _ _ _ h => h) (Or.inl ⟨by rfl, ?_⟩) hHeld ?_
                · intro w hSw; (try dsimp only at hSw); go_simp
                (try simp only [Act.put, List.setIfInBounds_toArray, List.set_cons_zero, List.set_cons_succ])
                refine wpAnyH_take (i := 14) (oi := ⟨some 105, _, _, _, _, _⟩) (v := .int .i64 k) rfl (by kernel_rfl) (by kernel_rfl) (by kernel_rfl) (fun _ _ _ h => h) (Or.inl ⟨by rfl, ?_⟩) hHeld ?_
                · intro w hSw; (try dsimp only at hSw); go_simp
                (try simp only [Act.put, List.setIfInBounds_toArray, List.set_cons_zero, List.set_cons_succ])
                refine wpAnyH_take (i := 15) (oi := ⟨some 106, _, _, _, _, _⟩) (v := .pointer (some ⟨ga, k, none⟩)) rfl (by kernel_rfl) (by kernel_rfl) (by kernel_rfl) (fun _ _ _ h => h) (Or.inl ⟨by rfl, ?_⟩) hHeld ?_
                · intro w hSw; (try dsimp only at hSw); go_simp
                (try simp only [Act.put, List.setIfInBounds_toArray, List.set_cons_zero, List.set_cons_succ])
                refine wpAnyH_take (i := 16) (oi := ⟨some 107, _, _, _, _, _⟩) (v := .int .i64 u) rfl (by kernel_rfl) (by kernel_rfl) (by kernel_rfl) (fun _ _ _ h => h) (Or.inl ⟨by rfl, ?_⟩) hHeld ?_
                · intro w hSw; (try dsimp only at hSw); have hcF := hSw.cell_some qu (by simp); clear hSw; go_simp
                (try simp only [Act.put, List.setIfInBounds_toArray, List.set_cons_zero, List.set_cons_succ])
                refine wpAnyH_take (i := 17) (oi := ⟨some 108, _, _, _, _, _⟩) (v := .pointer (some ⟨w.heap.size, 18, none⟩)) rfl (by kernel_rfl) (by kernel_rfl) (by kernel_rfl) (fun _ _ _ h => h) (Or.inl ⟨by rfl, ?_⟩) hHeld ?_
                · intro w hSw; (try dsimp only at hSw); go_simp
                (try simp only [Act.put, List.setIfInBounds_toArray, List.set_cons_zero, List.set_cons_succ])
                refine wpAnyH_take (i := 18) (oi := ⟨some 109, _, _, _, _, _⟩) (v := .int .i64 cp) rfl (by kernel_rfl) (by kernel_rfl) (by kernel_rfl) (fun _ _ _ h => h) (Or.inl ⟨by rfl, ?_⟩) hHeld ?_
                · intro w hSw; (try dsimp only at hSw); have hcF := hSw.cell_some q18 (by simp); clear hSw; go_simp
                (try simp only [Act.put, List.setIfInBounds_toArray, List.set_cons_zero, List.set_cons_succ])
                refine wpAnyH_take (i := 19) (oi := ⟨some 110, _, _, _, _, _⟩) (v := .bool false) rfl (by kernel_rfl) (by kernel_rfl) (by kernel_rfl) (fun _ _ _ h => h) (Or.inl ⟨by rfl, ?_⟩) hHeld ?_
                · intro w hSw; (try dsimp only at hSw); go_simp
                (try simp only [Act.put, List.setIfInBounds_toArray, List.set_cons_zero, List.set_cons_succ])
                refine wpAnyH_take (i := 20) (oi := ⟨some 111, _, _, _, _, _⟩) (v := .bool false) rfl (by kernel_rfl) (by kernel_rfl) (by kernel_rfl) (fun _ _ _ h => h) (Or.inl ⟨by rfl, ?_⟩) hHeld ?_
                · intro w hSw; (try dsimp only at hSw); go_simp
                (try simp only [Act.put, List.setIfInBounds_toArray, List.set_cons_zero, List.set_cons_succ])
                have hW := hfq.trans hHeld
                clear hHeld q18 qu hRa hu1 hi1
                refine wpAnyH_done (by kernel_rfl) ?_ _
                go_wp2_with fail
                exact ⟨⟨k + 1, by omega, by go_num, hW⟩, by simp [intOf]; omega⟩
              · have hdn : decide (0 ≤ nx) = false := by simpa using hnn0
                have HBH := Lib.hid HBH.out
                rw [hdn] at HBH
                clear hnn0 hdn HCD
                refine wp_region_held_drew (S := (fun w' => Fr [] wq w')) (by kernel_rfl) (Fr.refl [] _).drew (fun hHeld => ?_)
                refine wpAnyH_take (i := 0) (oi := ⟨some 91, _, _, _, _, _⟩) (v := .int .i64 tk) rfl (by kernel_rfl) (by kernel_rfl) (by kernel_rfl) (fun _ _ _ h => h) (Or.inl ⟨by rfl, ?_⟩) hHeld ?_
                · intro w hSw; (try dsimp only at hSw); go_simp
                (try simp only [Act.put, List.setIfInBounds_toArray, List.set_cons_zero, List.set_cons_succ])
                refine wpAnyH_take (i := 1) (oi := ⟨some 92, _, _, _, _, _⟩) (v := .bool true) rfl (by kernel_rfl) (by kernel_rfl) (by kernel_rfl) (fun _ _ _ h => h) (Or.inl ⟨by rfl, ?_⟩) hHeld ?_
                · intro w hSw; (try dsimp only at hSw); go_simp
                (try simp only [Act.put, List.setIfInBounds_toArray, List.set_cons_zero, List.set_cons_succ])
                refine wpAnyH_take (i := 2) (oi := ⟨some 93, _, _, _, _, _⟩) (v := .bool true) rfl (by kernel_rfl) (by kernel_rfl) (by kernel_rfl) (fun _ _ _ h => h) (Or.inl ⟨by rfl, ?_⟩) hHeld ?_
                · intro w hSw; (try dsimp only at hSw); go_simp
                (try simp only [Act.put, List.setIfInBounds_toArray, List.set_cons_zero, List.set_cons_succ])
                refine wpAnyH_take (i := 3) (oi := ⟨some 94, _, _, _, _, _⟩) (v := .pointer (some ⟨w.heap.size, 18, none⟩)) rfl (by kernel_rfl) (by kernel_rfl) (by kernel_rfl) (fun _ _ _ h => h) (Or.inl ⟨by rfl, ?_⟩) hHeld ?_
                · intro w hSw; (try dsimp only at hSw); go_simp
                (try simp only [Act.put, List.setIfInBounds_toArray, List.set_cons_zero, List.set_cons_succ])
                refine wpAnyH_take (i := 4) (oi := ⟨some 95, _, _, _, _, _⟩) (v := .int .i64 cp) rfl (by kernel_rfl) (by kernel_rfl) (by kernel_rfl) (fun _ _ _ h => h) (Or.inl ⟨by rfl, ?_⟩) hHeld ?_
                · intro w hSw; (try dsimp only at hSw); have hcF := hSw.cell_some q18 (by simp); clear hSw; go_simp
                (try simp only [Act.put, List.setIfInBounds_toArray, List.set_cons_zero, List.set_cons_succ])
                refine wpAnyH_take (i := 5) (oi := ⟨some 96, _, _, _, _, _⟩) (v := .bool true) rfl (by kernel_rfl) (by kernel_rfl) (by kernel_rfl) (fun _ _ _ h => h) (Or.inl ⟨by rfl, ?_⟩) hHeld ?_
                · intro w hSw; (try dsimp only at hSw); go_simp
                (try simp only [Act.put, List.setIfInBounds_toArray, List.set_cons_zero, List.set_cons_succ])
                refine wpAnyH_take (i := 6) (oi := ⟨some 97, _, _, _, _, _⟩) (v := .bool true) rfl (by kernel_rfl) (by kernel_rfl) (by kernel_rfl) (fun _ _ _ h => h) (Or.inl ⟨by rfl, ?_⟩) hHeld ?_
                · intro w hSw; (try dsimp only at hSw); go_simp
                (try simp only [Act.put, List.setIfInBounds_toArray, List.set_cons_zero, List.set_cons_succ])
                refine wpAnyH_take (i := 7) (oi := ⟨some 98, _, _, _, _, _⟩) (v := .bool true) rfl (by kernel_rfl) (by kernel_rfl) (by kernel_rfl) (fun _ _ _ h => h) (Or.inl ⟨by rfl, ?_⟩) hHeld ?_
                · intro w hSw; (try dsimp only at hSw); go_simp
                (try simp only [Act.put, List.setIfInBounds_toArray, List.set_cons_zero, List.set_cons_succ])
                refine' wpAnyH_take (i := 8) (oi := ⟨some 99, _, _, _, _, _⟩) (v := _) rfl (by kernel_rfl) (by kernel_rfl) (by kernel_rfl) (fun _ _ _ h => h) (yieldsIf_load_mid (by rfl) _ _ rfl _ _ rfl _ _ (fun w h => h.range hRa) hu1 rfl hi1) hHeld ?_
                (try simp only [Act.put, List.setIfInBounds_toArray, List.set_cons_zero, List.set_cons_succ])
                refine wpAnyH_take (i := 9) (oi := ⟨some 100, _, _, _, _, _⟩) (v := .int .i64 k) rfl (by kernel_rfl) (by kernel_rfl) (by kernel_rfl) (fun _ _ _ h => h) (Or.inl ⟨by rfl, ?_⟩) hHeld ?_
                · intro w hSw; (try dsimp only at hSw); go_simp
                (try simp only [Act.put, List.setIfInBounds_toArray, List.set_cons_zero, List.set_cons_succ])
                refine wpAnyH_ready (rs := [10]) (by kernel_rfl) (by simp) ?_
                refine AllReadyH.cons (o := ⟨some 101, _, _, _, _, _⟩) rfl (fun K hK => ?_) AllReadyH.nil
                rw [if_pos (by rfl)]
                go_simp
                refine (HBH.out _ (hFq.trans hHeld)).mono ?_
                rintro e w7 ⟨rfl, fr⟩
                refine hK.out _ _ (hHeld.trans fr) (fun hHeld' => ?_)
                clear hK K hHeld
                have hHeld := hHeld'
                clear hHeld'
                (try simp only [Act.put, List.setIfInBounds_toArray, List.set_cons_zero, List.set_cons_succ])
                clear fr
                refine wpAnyH_take (i := 11) (oi := ⟨some 102, _, _, _, _, _⟩) (v := .bool false) rfl (by kernel_rfl) (by kernel_rfl) (by kernel_rfl) (fun _ _ _ h => h) (Or.inl ⟨by rfl, ?_⟩) hHeld ?_
                · intro w hSw; (try dsimp only at hSw); go_simp
                (try simp only [Act.put, List.setIfInBounds_toArray, List.set_cons_zero, List.set_cons_succ])
                refine wpAnyH_take (i := 12) (oi := ⟨some 103, _, _, _, _, _⟩) (v := .bool false) rfl (by kernel_rfl) (by kernel_rfl) (by kernel_rfl) (fun _ _ _ h => h) (Or.inl ⟨by rfl, ?_⟩) hHeld ?_
                · intro w hSw; (try dsimp only at hSw); go_simp
                (try simp only [Act.put, List.setIfInBounds_toArray, List.set_cons_zero, List.set_cons_succ])
                refine wpAnyH_take (i := 13) (oi := ⟨some 104, _, _, _, _, _⟩) (v := undef) rfl (by kernel_rfl) (by kernel_rfl) (by kernel_rfl) (fun _ _ _ h => h) (Or.inr ⟨by rfl, rfl⟩) hHeld ?_
                (try simp only [Act.put, List.setIfInBounds_toArray, List.set_cons_zero, List.set_cons_succ])
                refine wpAnyH_take (i := 14) (oi := ⟨some 105, _, _, _, _, _⟩) (v := undef) rfl (by kernel_rfl) (by kernel_rfl) (by kernel_rfl) (fun _ _ _ h => h) (Or.inr ⟨by rfl, rfl⟩) hHeld ?_
                (try simp only [Act.put, List.setIfInBounds_toArray, List.set_cons_zero, List.set_cons_succ])
                refine wpAnyH_take (i := 15) (oi := ⟨some 106, _, _, _, _, _⟩) (v := undef) rfl (by kernel_rfl) (by kernel_rfl) (by kernel_rfl) (fun _ _ _ h => h) (Or.inr ⟨by rfl, rfl⟩) hHeld ?_
                (try simp only [Act.put, List.setIfInBounds_toArray, List.set_cons_zero, List.set_cons_succ])
                refine wpAnyH_take (i := 16) (oi := ⟨some 107, _, _, _, _, _⟩) (v := undef) rfl (by kernel_rfl) (by kernel_rfl) (by kernel_rfl) (fun _ _ _ h => h) (Or.inr ⟨by rfl, rfl⟩) hHeld ?_
                (try simp only [Act.put, List.setIfInBounds_toArray, List.set_cons_zero, List.set_cons_succ])
                refine wpAnyH_take (i := 17) (oi := ⟨some 108, _, _, _, _, _⟩) (v := undef) rfl (by kernel_rfl) (by kernel_rfl) (by kernel_rfl) (fun _ _ _ h => h) (Or.inr ⟨by rfl, rfl⟩) hHeld ?_
                (try simp only [Act.put, List.setIfInBounds_toArray, List.set_cons_zero, List.set_cons_succ])
                refine wpAnyH_take (i := 18) (oi := ⟨some 109, _, _, _, _, _⟩) (v := undef) rfl (by kernel_rfl) (by kernel_rfl) (by kernel_rfl) (fun _ _ _ h => h) (Or.inr ⟨by rfl, rfl⟩) hHeld ?_
                (try simp only [Act.put, List.setIfInBounds_toArray, List.set_cons_zero, List.set_cons_succ])
                refine wpAnyH_take (i := 19) (oi := ⟨some 110, _, _, _, _, _⟩) (v := undef) rfl (by kernel_rfl) (by kernel_rfl) (by kernel_rfl) (fun _ _ _ h => h) (Or.inr ⟨by rfl, rfl⟩) hHeld ?_
                (try simp only [Act.put, List.setIfInBounds_toArray, List.set_cons_zero, List.set_cons_succ])
                refine wpAnyH_take (i := 20) (oi := ⟨some 111, _, _, _, _, _⟩) (v := .bool false) rfl (by kernel_rfl) (by kernel_rfl) (by kernel_rfl) (fun _ _ _ h => h) (Or.inl ⟨by rfl, ?_⟩) hHeld ?_
                · intro w hSw; (try dsimp only at hSw); go_simp
                (try simp only [Act.put, List.setIfInBounds_toArray, List.set_cons_zero, List.set_cons_succ])
                have hW := hfq.trans hHeld
                clear hHeld q18 qu hRa hu1 hi1
                refine wpAnyH_done (by kernel_rfl) ?_ _
                go_wp2_with fail
                exact ⟨⟨k + 1, by omega, by go_num, hW⟩, by simp [intOf]; omega⟩
            · have e3 : (tk != 3) = true := by simpa using h3
              have e33 : (tk == 3) = false := by simpa using h3
              have hm := hmost h3
              have elt : decide (u < t) = false := by simp; omega
              clear h1 h3 hfix hmost hcapd heq hcz hcp hm
              go_wp2_with fail
              go_quiet (fail)
              go_wp2
              go_quiet (fail)
              go_wp2
              exact ⟨⟨k + 1, by omega, by go_num, hf.drewN _⟩, by simp [intOf]; omega⟩
      · obtain rfl : n = k := by omega
        go_wp2_with fail
        refine (HDONE.out _).mono ?_
        rintro e w9 ⟨rfl, f9⟩
        go_wp2_with fail
        go_ret
        exact ⟨rfl, (hFr.trans f9).below⟩
  · have e2 : (E2 != 0) = true := by simpa using h2
    clear h2
    go_wp2_with fail
    refine (HDONE.out _).mono ?_
    rintro e w9 ⟨rfl, f9⟩
    go_wp2_with fail
    go_ret
    exact ⟨rfl, (HF3.out.trans f9).below⟩
theorem own : ownKnob Try.prog.godebug = none := by kernel_rfl
theorem laidOut : laidOutB Try.prog = true := by kernel_rfl
set_option maxRecDepth 100000 in
theorem lifted (os : Os) (started : os.Started) (H : Type) (enc : TypeId × Value → H) :
    ReturnsInHanded {} Try.checked os 6 .any (Rows.rollCappedSpec.pre6 enc Try.prog Try.f6 Rows.rollCappedRow.domain false) (Rows.rollCappedSpec.post enc Try.prog Try.f6 false true false false) := by
  refine returnsInHanded_of_change (C := Try.checked) own started (by kernel_rfl) Try.func6
    (ChangeSpec.witness6 (enc := enc) (C := Try.checked) false ⟨#[], #[.agg #[.string ByteArray.empty, .int .i64 0, .int .i64 0, .int .i64 0, .int .i64 0, .int .i64 0, .int .i64 0, .int .i64 0, .int .i64 0, .int .i64 0, .int .i64 0, .int .i64 0, .int .i64 0, .int .i64 0, .int .i64 0, .int .i64 0, .int .i64 0, .int .i64 0, .int .i64 0, .int .i64 0, .slice none 0 0, .slice none 0 0], .slice none 0 0], []⟩ 8 (by kernel_rfl) (by kernel_rfl) (by kernel_rfl) (by kernel_rfl)) ?_
  intro W base args ds gs before hval0 hW hcnd _
  have hval : ∀ (j : Nat) t v, Try.f6.params[j]? = some t → args[j]? = some v → Value.okWide Try.prog W .any base t v := hval0
  have hW' := hW
  obtain ⟨p, q, hA0, hV, rfl, hfz, hnd⟩ := hW
  have hA : DataW.TrodAll enc Try.prog W 0 (fun _ => true) true Try.f6.params.toList args.toList ds p := hA0
  rw [Try.params6] at hA hval
  obtain ⟨v0, vs0, d0, ds0, p0, q0, hargs, rfl, rfl, h0, r0⟩ := trodAll_cons hA
  obtain ⟨v1, vs1, d1, ds1, p1, q1, rfl, rfl, rfl, h1, r1⟩ := trodAll_cons r0
  obtain ⟨rfl, rfl, rfl⟩ := trodAll_nil r1
  obtain rfl : args = #[v0, v1] := by cases args; simp_all
  obtain ⟨rfl, rfl⟩ := trodVars_none hV
  have k0 := h0
  have lt0 : ∀ x ∈ p0, x.block < W.heap.size := by obtain ⟨m, hm⟩ := k0; exact DataW.trod_lt m _ _ _ hm
  obtain ⟨g0, hv0, hg0⟩ := open_game (hval 0 25 v0 rfl rfl) h0
  have k1 := h1
  have lt1 : ∀ x ∈ p1, x.block < W.heap.size := by obtain ⟨m, hm⟩ := k1; exact DataW.trod_lt m _ _ _ hm
  obtain ⟨l1, hr1, _⟩ := open_intarg (hval 1 31 v1 rfl rfl) h1
  clear hA0 hval0
  refine (walk v0 g0 v1 l1 W hv0 hg0 hr1).mono fun e W' ⟨he, bel⟩ => ?_
  subst he
  exact ⟨_, rfl, _, _, _, [], _, [], hW', trodAll_mk1 (shut_bool Try.underlying4 _), (trodAll_cons_mk (Below.trod laidOut (by kernel_rfl) (of_decide_eq_true (by kernel_rfl)) k0 bel lt0) (trodAll_cons_mk (Below.trod laidOut (by kernel_rfl) (of_decide_eq_true (by kernel_rfl)) k1 bel lt1) trodAll_mk0)), rfl, bel.frame _, fun h => by cases h⟩
theorem over : Rows.rollCappedRow.holds Try.pinned (OpenSpec.ofChange Rows.rollCappedSpec) :=
  OpenClaim.holds_of_wide 6 Try.f6 rfl rfl rfl rfl rfl rfl rfl ⟨rfl, rfl, rfl, rfl, rfl⟩ rfl rfl rfl rfl rfl (by kernel_rfl) Try.func6 (by kernel_rfl)
    (of_decide_eq_true (by kernel_rfl)) (by unfold Func.isWrapper; first | (rw [if_pos (by decide +kernel)]; kernel_rfl) | (rw [if_neg (by decide +kernel)]; exact ⟨rfl, rfl⟩))
    (fun os started H enc _ => lifted os started H enc)
/-- THE STATEMENT -/
theorem proved : Rows.RollCappedSaid := over
end Go.Proofs.Ytdinjekpcgndmaa.rollCapped
