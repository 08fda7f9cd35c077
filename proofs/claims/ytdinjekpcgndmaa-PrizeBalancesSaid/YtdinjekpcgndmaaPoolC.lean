/-
  LAYER 36: check: the errors of the counts and of the carry.
-/
import Derived.Test.YtdinjekpcgndmaaPoolP
import Derived.Deep.DeepCutAuto
import Derived.Deep.CutBlock
set_option linter.unusedVariables false
namespace Go.Proofs.Ytdinjekpcgndmaa
open Go.RowKit
theorem ag_1 {T : List Ti} {cs ct : List Int} {cr cl : Int} (h : cs.length ≠ T.length) : agE T cs ct cr cl = 3 := by unfold agE; rw [if_pos h]
theorem ag_2 {T : List Ti} {cs ct : List Int} {cr cl : Int} (h : cs.length = T.length) (h2 : cntB cs = false) : agE T cs ct cr cl = 2 := by unfold agE; rw [if_neg (by omega), if_pos h2]
theorem ag_3 {T : List Ti} {cs ct : List Int} {cr cl : Int} (h : cs.length = T.length) (h2 : cntB cs = true) (h3 : ct.length ≠ T.length) : agE T cs ct cr cl = 3 := by unfold agE; rw [if_neg (by omega), if_neg (by simp [h2]), if_pos h3]
theorem ag_4 {T : List Ti} {cs ct : List Int} {cr cl : Int} (h : cs.length = T.length) (h2 : cntB cs = true) (h3 : ct.length = T.length) (h4 : carB T ct = false) : agE T cs ct cr cl = 2 := by unfold agE; rw [if_neg (by omega), if_neg (by simp [h2]), if_neg (by omega), if_pos h4]
theorem ag_5 {T : List Ti} {cs ct : List Int} {cr cl : Int} (h : cs.length = T.length) (h2 : cntB cs = true) (h3 : ct.length = T.length) (h4 : carB T ct = true) : agE T cs ct cr cl = if (inR cr 0 1000000000000 && inR cl 0 64) = false then 2 else 0 := by unfold agE; rw [if_neg (by omega), if_neg (by simp [h2]), if_neg (by omega), if_neg (by simp [h4])]
theorem cntB_no {cs : List Int} (k : Nat) (hk : k < cs.length) (h : inR (cs.getD k 0) 0 2097152 = false) : cntB cs = false := by
  cases hb : cntB cs
  · rfl
  · unfold cntB allR at hb
    rw [List.all_eq_true] at hb
    have := hb cs[k] (List.getElem_mem hk)
    simp [List.getD, hk] at h
    rw [this] at h; simp at h
theorem cntB_yes {cs : List Int} (h : ∀ k, k < cs.length → inR (cs.getD k 0) 0 2097152 = true) : cntB cs = true := by
  unfold cntB allR
  rw [List.all_eq_true]
  intro x hx
  obtain ⟨k, hk, rfl⟩ := List.getElem_of_mem hx
  have := h k hk
  simpa [List.getD, hk] using this
def carK (T : List Ti) (ct : List Int) (i : Nat) : Bool := inR (ct.getD i 0) 0 1000000000000 && (!isK T true i || ct.getD i 0 == 0)
theorem carB_no {T : List Ti} {ct : List Int} (k : Nat) (hk : k < ct.length) (h : carK T ct k = false) : carB T ct = false := by
  cases hb : carB T ct
  · rfl
  · unfold carB at hb
    rw [List.all_eq_true] at hb
    have := hb k (by simpa using hk)
    unfold carK at h
    rw [h] at this; simp at this
theorem carB_yes {T : List Ti} {ct : List Int} (h : ∀ k, k < ct.length → carK T ct k = true) : carB T ct = true := by
  unfold carB
  rw [List.all_eq_true]
  intro k hk
  exact h k (by simpa using hk)
set_option maxRecDepth 20000 in
set_option maxHeartbeats 4000000 in
theorem pchk_any (g : Gm) (v2 vt : Value) (cs ct : List Int) (cr cl : Int) (w : World) (hok : g.Ok w) (h2 : RdI w v2 cs) (h3 : RdI w vt ct) :
    Calls Try.prog 62 #[g.val, v2, .agg #[vt, .int .i64 cr, .int .i64 cl]] w fun e w' => e = .returned (.int .i64 (agE g.tiers cs ct cr cl)) ∧ Fr [] w w' := by
  have h21 : ∀ w b, GmAt w b g → w.cell? ⟨b, 21, none⟩ = some (.slice g.ta g.tiers.length g.tc) := fun w b h => h.cell 21 _ rfl
  have hle := hok.tiers.rd.len.2
  unfold maxLen at hle
  have hE1 := @ag_1 g.tiers cs ct cr cl
  have hE2 := @ag_2 g.tiers cs ct cr cl
  have hE3 := @ag_3 g.tiers cs ct cr cl
  have hE4 := @ag_4 g.tiers cs ct cr cl
  have hE5 := @ag_5 g.tiers cs ct cr cl
  generalize agE g.tiers cs ct cr cl = E at *
  obtain ⟨n, hN⟩ : ∃ n, n = g.tiers.length := ⟨_, rfl⟩
  rw [← hN] at h21 hle hE1 hE2 hE3 hE4 hE5
  obtain ⟨a2, c2, rfl, l2, m2, r2⟩ := h2
  obtain ⟨a3, c3, rfl, l3, m3, r3⟩ := h3
  have hcn := @cntB_no cs
  have hcy := @cntB_yes cs
  have hkn := @carB_no g.tiers ct
  have hky := @carB_yes g.tiers ct
  obtain ⟨p, hp⟩ : ∃ p, p = cs.length := ⟨_, rfl⟩
  obtain ⟨q, hq⟩ : ∃ q, q = ct.length := ⟨_, rfl⟩
  rw [← hp] at l2 r2 hE1 hE2 hE3 hE4 hE5 hcn hcy ⊢
  rw [← hq] at l3 r3 hE3 hE4 hE5 hkn hky ⊢
  unfold maxLen at m2 m3
  have HE1 := Lib.hid hE1
  have HE2 := Lib.hid hE2
  have HE3 := Lib.hid hE3
  have HE4 := Lib.hid hE4
  have HE5 := Lib.hid hE5
  have HCN := Lib.hid hcn
  have HCY := Lib.hid hcy
  have HKN := Lib.hid hkn
  have HKY := Lib.hid hky
  have HN := Lib.hid hN
  have H21 := Lib.hid h21
  have HOK := Lib.hid hok
  have HR2 := Lib.hid r2
  have HR3 := Lib.hid r3
  clear hE1 hE2 hE3 hE4 hE5 hcn hcy hkn hky hN h21 hok r2 r3 hp hq
  by_cases hpn : p = n
  · have HP := Lib.hid hpn
    have e1 : ((p : Int) != (n : Int)) = false := by simp; omega
    clear hpn
    go_enter Try.func62, Try.ntmps62
    go_upto_block 0 with (first | (refine box_game rfl (.tmp 0) rfl g rfl ?_; intro w1 hg1 hz1 hf1; have c21 := H21.out _ _ hg1) | go_step3)
    have hF2 : Fr [] w (w1.alloc (.cells #[.slice a3 q c3, .int .i64 cr, .int .i64 cl] 43)) := hf1.alloc _
    have d0 : (w1.alloc (.cells #[.slice a3 q c3, .int .i64 cr, .int .i64 cl] 43)).cell? ⟨w.heap.size + 1, 0, none⟩ = some (.slice a3 q c3) := by rw [← hz1, World.cell?_alloc_new]; rfl
    have d1 : (w1.alloc (.cells #[.slice a3 q c3, .int .i64 cr, .int .i64 cl] 43)).cell? ⟨w.heap.size + 1, 1, none⟩ = some (.int .i64 cr) := by rw [← hz1, World.cell?_alloc_new]; rfl
    have d2 : (w1.alloc (.cells #[.slice a3 q c3, .int .i64 cr, .int .i64 cl] 43)).cell? ⟨w.heap.size + 1, 2, none⟩ = some (.int .i64 cl) := by rw [← hz1, World.cell?_alloc_new]; rfl
    have d3 : (w1.alloc (.cells #[.slice a3 q c3, .int .i64 cr, .int .i64 cl] 43)).cell? ⟨w.heap.size, 21, none⟩ = some (.slice g.ta n g.tc) := ((Fr.refl [] w1).alloc _).cell_some c21 (by simp)
    generalize w1.alloc (.cells #[.slice a3 q c3, .int .i64 cr, .int .i64 cl] 43) = w2 at *
    have HF2 := Lib.hid hF2
    clear hg1 hz1 hf1 c21 hF2
    go_cut [19] (fun _ wx => cntB cs = true ∧ w2 = wx)
    case first =>
      go_wp2_with fail
      go_loop [19] (fun i => ∃ k : Nat, k ≤ p ∧ i = .int .i64 k ∧ Hid (∀ j, j < k → inR (cs.getD j 0) 0 2097152 = true)) (fun i => p - (intOf i).toNat)
      case atStart => exact ⟨0, by omega, rfl, Lib.hid (fun j hj => by omega)⟩
      case round =>
        obtain ⟨k, hk, rfl, HA⟩ := hrel
        by_cases hlt : k < p
        · obtain ⟨b, o, rfl, hcell⟩ := HR2.out k hlt
          have hc := HF2.out.cell_some hcell (by simp)
          have hkp : (k : Int) < (p : Int) := by omega
          have ha : inR (cs.getD k 0) 0 2097152 = true → ∀ j, j < k + 1 → inR (cs.getD j 0) 0 2097152 = true := fun h j hj => by
            by_cases e : j = k
            · rw [e]; exact h
            · exact HA.out j (by omega)
          have hno := fun h => HE2.out HP.out (HCN.out k hlt h)
          have hy := @inR_yes (cs.getD k 0) 0 2097152
          have hl := @inR_lo (cs.getD k 0) 0 2097152
          have hh := @inR_hi (cs.getD k 0) 0 2097152
          by_cases x1 : cs.getD k 0 < 0
          · have hq := hno (hl x1)
            have hd : decide (cs.getD k 0 < 0) = true := by simpa using x1
            have HQ := Lib.hid hq
            generalize cs.getD k 0 = x at *
            clear ha hno hy hl hh hcell x1 hq
            go_wp2_with fail
            go_ret
            exact ⟨ret_i HQ.out.symm, HF2.out⟩
          · have hd : decide (cs.getD k 0 < 0) = false := by simpa using x1
            by_cases x2 : 2097152 < cs.getD k 0
            · have hq := hno (hh x2)
              have hd2 : decide (2097152 < cs.getD k 0) = true := by simpa using x2
              have HQ := Lib.hid hq
              generalize cs.getD k 0 = x at *
              clear ha hno hy hl hh hcell x1 x2 hq
              go_wp2_with fail
              go_ret
              exact ⟨ret_i HQ.out.symm, HF2.out⟩
            · have hd2 : decide (2097152 < cs.getD k 0) = false := by simpa using x2
              have HB := Lib.hid (ha (hy (by omega) (by omega)))
              generalize hgx : cs.getD k 0 = x at *
              clear ha hno hy hl hh hcell x1 x2 hgx
              go_wp2_with fail
              go_round
              case rel => exact ⟨k + 1, by omega, by go_num, HB⟩
              case measure => simp [intOf]; omega
        · obtain rfl : p = k := by omega
          have HB := Lib.hid (HCY.out HA.out)
          go_wp2_with fail
          go_meet
          exact ⟨HB.out, rfl⟩
    case rest =>
      obtain ⟨hcb, rfl⟩ := hcut
      have HCB := Lib.hid hcb
      clear hcb
      by_cases hqn : q = n
      · have HQN := Lib.hid hqn
        have e2 : ((q : Int) != (n : Int)) = false := by simp; omega
        have hqn2 : (q : Int) = (n : Int) := by omega
        clear hqn
        go_upto_block 2 with (fail)
        go_cut [40] (fun _ wx => carB g.tiers ct = true ∧ w2 = wx)
        case first =>
          go_wp2_with fail
          go_loop [40] (fun i => ∃ k : Nat, k ≤ q ∧ i = .int .i64 k ∧ Hid (∀ j, j < k → carK g.tiers ct j = true)) (fun i => q - (intOf i).toNat)
          case atStart => exact ⟨0, by omega, rfl, Lib.hid (fun j hj => by omega)⟩
          case round =>
            obtain ⟨k, hk, rfl, HA⟩ := hrel
            by_cases hlt : k < q
            · obtain ⟨b, o, rfl, hcell⟩ := HR3.out k hlt
              have hc := HF2.out.cell_some hcell (by simp)
              obtain ⟨t, ht⟩ : ∃ t, g.tiers[k]? = some t := ⟨_, List.getElem?_eq_getElem (by have := HN.out; have := HQN.out; omega)⟩
              obtain ⟨bt, ot, hta, hct⟩ := RdF.at (f := Ti.cells) HOK.out.tiers.rd ht
              have c4 := HF2.out.cell_some (hct 4 _ rfl) (by simp)
              rw [hta] at d3
              have hkq : (k : Int) < (q : Int) := by omega
              have hkn : (k : Int) < (n : Int) := by omega
              have hkd := (kd_of ht).1
              have ha : carK g.tiers ct k = true → ∀ j, j < k + 1 → carK g.tiers ct j = true := fun h j hj => by
                by_cases e : j = k
                · rw [e]; exact h
                · exact HA.out j (by omega)
              have hno := fun h => HE4.out HP.out HCB.out HQN.out (HKN.out k hlt h)
              have hK : carK g.tiers ct k = (inR (ct.getD k 0) 0 1000000000000 && (!decide (t.kind = 1) || ct.getD k 0 == 0)) := by
                unfold carK isK; rw [hkd]; simp
              have hv := mvalid_any (ct.getD k 0)
              obtain ⟨tm, tb, te, to_, tk, tv⟩ := t
              simp only at c4 hK hkd
              rw [hK] at ha hno
              generalize hgx : ct.getD k 0 = x at *
              by_cases x1 : inR x 0 1000000000000 = true
              · by_cases x2 : tk = 1
                · by_cases x3 : x = 0
                  · subst x3
                    have HB := Lib.hid (ha (by simp [x1]))
                    rw [x1] at hv
                    have HV := Lib.hid hv
                    have e3 : (tk == 1) = true := by simpa using x2
                    clear ha hno hK hv x1 x2 hcell hct ht hta hkd hgx
                    go_wp2_with fail
                    refine (HV.out _).mono ?_
                    rintro e w3 ⟨rfl, rfl⟩
                    go_wp2_with fail
                    go_round
                    case rel => exact ⟨k + 1, by omega, by go_num, HB⟩
                    case measure => simp [intOf]; omega
                  · have HQ := Lib.hid (hno (by simp [x1, x2, x3]))
                    rw [x1] at hv
                    have HV := Lib.hid hv
                    have e3 : (tk == 1) = true := by simpa using x2
                    have e4 : (x != 0) = true := by simpa using x3
                    clear ha hno hK hv x1 x2 x3 hcell hct ht hta hkd hgx
                    go_wp2_with fail
                    refine (HV.out _).mono ?_
                    rintro e w3 ⟨rfl, rfl⟩
                    go_wp2_with fail
                    go_ret
                    exact ⟨ret_i HQ.out.symm, HF2.out⟩
                · have HB := Lib.hid (ha (by simp [x1, x2]))
                  rw [x1] at hv
                  have HV := Lib.hid hv
                  have e3 : (tk == 1) = false := by simpa using x2
                  clear ha hno hK hv x1 x2 hcell hct ht hta hkd hgx
                  go_wp2_with fail
                  refine (HV.out _).mono ?_
                  rintro e w3 ⟨rfl, rfl⟩
                  go_wp2_with fail
                  go_round
                  case rel => exact ⟨k + 1, by omega, by go_num, HB⟩
                  case measure => simp [intOf]; omega
              · have x1 : inR x 0 1000000000000 = false := by simpa using x1
                have HQ := Lib.hid (hno (by simp [x1]))
                rw [x1] at hv
                have HV := Lib.hid hv
                clear ha hno hK hv x1 hcell hct ht hta hkd hgx
                go_wp2_with fail
                refine (HV.out _).mono ?_
                rintro e w3 ⟨rfl, rfl⟩
                go_wp2_with fail
                go_ret
                exact ⟨ret_i HQ.out.symm, HF2.out⟩
            · obtain rfl : q = k := by omega
              have HB := Lib.hid (HKY.out HA.out)
              go_wp2_with fail
              go_meet
              exact ⟨HB.out, rfl⟩
        case rest =>
          obtain ⟨hkb, rfl⟩ := hcut
          have hE := HE5.out HP.out HCB.out HQN.out hkb
          have hv := mvalid_any cr
          have hlo := @inR_lo cl 0 64
          have hhi := @inR_hi cl 0 64
          have hin := @inR_yes cl 0 64
          clear hkb
          by_cases x1 : inR cr 0 1000000000000 = true
          · rw [x1] at hE hv
            have HV := Lib.hid hv
            by_cases x2 : cl < 0
            · rw [hlo x2] at hE
              simp at hE
              have HQ := Lib.hid hE
              have e4 : decide (cl < 0) = true := by simpa using x2
              clear hE hv x1 x2 hlo hhi hin
              go_wp2_with fail
              refine (HV.out _).mono ?_
              rintro e w3 ⟨rfl, rfl⟩
              go_wp2_with fail
              go_ret
              exact ⟨ret_i HQ.out.symm, HF2.out⟩
            · have e4 : decide (cl < 0) = false := by simpa using x2
              by_cases x3 : 64 < cl
              · rw [hhi x3] at hE
                simp at hE
                have HQ := Lib.hid hE
                have e5 : decide (64 < cl) = true := by simpa using x3
                clear hE hv x1 x2 x3 hlo hhi hin
                go_wp2_with fail
                refine (HV.out _).mono ?_
                rintro e w3 ⟨rfl, rfl⟩
                go_wp2_with fail
                go_ret
                exact ⟨ret_i HQ.out.symm, HF2.out⟩
              · rw [hin (by omega) (by omega)] at hE
                simp at hE
                have HQ := Lib.hid hE
                have e5 : decide (64 < cl) = false := by simpa using x3
                clear hE hv x1 x2 x3 hlo hhi hin
                go_wp2_with fail
                refine (HV.out _).mono ?_
                rintro e w3 ⟨rfl, rfl⟩
                go_wp2_with fail
                go_ret
                exact ⟨ret_i HQ.out.symm, HF2.out⟩
          · have x1 : inR cr 0 1000000000000 = false := by simpa using x1
            rw [x1] at hE hv
            simp at hE
            have HQ := Lib.hid hE
            have HV := Lib.hid hv
            clear hE hv x1 hlo hhi hin
            go_wp2_with fail
            refine (HV.out _).mono ?_
            rintro e w3 ⟨rfl, rfl⟩
            go_wp2_with fail
            go_ret
            exact ⟨ret_i HQ.out.symm, HF2.out⟩
      · have HQ := Lib.hid (HE3.out HP.out HCB.out hqn)
        have e2 : ((q : Int) != (n : Int)) = true := by simp; omega
        clear hqn
        go_wp2_with fail
        go_ret
        exact ⟨ret_i HQ.out.symm, HF2.out⟩
  · have hq := HE1.out hpn
    subst hq
    have e1 : ((p : Int) != (n : Int)) = true := by simp; omega
    clear hpn
    go_enter Try.func62, Try.ntmps62
    go_wp2_with (first | (refine box_game rfl (.tmp 0) rfl g rfl ?_; intro w1 hg1 hz1 hf1; have c21 := H21.out _ _ hg1) | go_step3)
    go_ret
    exact ⟨rfl, hf1.alloc _⟩
end Go.Proofs.Ytdinjekpcgndmaa
