/-
  RollWon: for every game, amounts, counts and number of rolls the statement returns true: what the number of rolls becomes. No conditions.
-/
import Derived.Test.YtdinjekpcgndmaaAwake
import Derived.Test.YtdinjekpcgndmaaRollLaw
import Derived.Test.YtdinjekpcgndmaaIntArg
import Derived.ProofKit
import Derived.OpenShut
import Derived.ShutString
import Derived.ChangeOld
namespace Go.Proofs.Ytdinjekpcgndmaa.rollWon
open Go.ChangeShapes Go.WideShapes Go.ChangeAt Go.RowKit
open Go.ChangeMaps (open_string shut_string)
set_option linter.unusedVariables false
/-- a tier has winners; a jackpot has winners -/
def sP (cs : List Int) (i : Nat) : Bool := decide (0 < cs.getD i 0)
def wP (T : List Ti) (cs : List Int) (i : Nat) : Bool := jackP T i && sP cs i
theorem won_law {g : Gm} {ts cs : List Int} {rolls : Int} (h : flE g ts cs rolls = 0) :
    ((anyTo (jackP g.tiers) g.tiers.length = false ∨ anyTo (wP g.tiers cs) g.tiers.length = true) → flN g ts cs rolls = 0) ∧
    (anyTo (jackP g.tiers) g.tiers.length = true → anyTo (wP g.tiers cs) g.tiers.length = false → (anyTo (sP cs) g.tiers.length = false ∨ g.rolls = 0) → flN g ts cs rolls = min (rolls + 1) 64) ∧
    (flN g ts cs rolls = 0 ∨ flN g ts cs rolls = min (rolls + 1) 64) ∧ 0 ≤ rolls ∧ rolls ≤ 64 := by
  obtain ⟨h1, h2, h3, h4, h5, h6⟩ := flE_facts h
  have hn : flN g ts cs rolls = rolE g.tiers cs (mustB g rolls) rolls := by unfold flN; rw [if_pos h]
  rw [hn]
  refine ⟨?_, ?_, ?_, h3, h4⟩
  · rintro (hj | hw)
    · unfold rolE; rw [if_pos hj]
    · obtain ⟨i, hi, hw⟩ := anyTo_true hw
      unfold wP sP jackP at hw
      simp only [Bool.and_eq_true, decide_eq_true_eq] at hw
      exact rolE_won hi (by unfold wonP; simp only [decide_eq_true_eq]; exact ⟨hw.1, .inl (by omega)⟩)
  · intro hj hw hs
    have hno : anyTo (wonP g.tiers cs (mustB g rolls)) g.tiers.length = false := by
      refine anyTo_no fun i hi => ?_
      have hwi := anyTo_false hw i hi
      unfold wP sP jackP at hwi
      unfold wonP
      rw [decide_eq_false_iff_not]
      rintro ⟨hk, hc⟩
      rw [Bool.and_eq_false_iff, decide_eq_false_iff_not, decide_eq_false_iff_not] at hwi
      have hc0 : cs.getD i 0 = 0 := by have := h5 i; omega
      rcases hc with hc | ⟨hm, hl⟩
      · exact hc hc0
      · rcases latE_of g.tiers cs i with ⟨hl2, _⟩ | ⟨j, hl2, hj1, hj2, hj3, hj4⟩
        · omega
        · rcases hs with hs | hs
          · have := anyTo_false hs j hj2
            unfold sP at this
            rw [decide_eq_false_iff_not] at this
            have := h5 j
            omega
          · unfold mustB at hm
            simp [hs] at hm
    unfold rolE
    rw [if_neg (by simp [hj]), if_neg (by simp [hno])]
  · unfold rolE
    split
    · exact .inl rfl
    · split
      · exact .inl rfl
      · exact .inr rfl
theorem anyTo_step {p : Nat → Bool} {k a : Nat} (h : a = 0 ↔ anyTo p k = false) (hp : p k = true) : a + 1 = 0 ↔ anyTo p (k + 1) = false := by
  rw [anyTo, hp]; simp
theorem anyTo_same {p : Nat → Bool} {k a : Nat} (h : a = 0 ↔ anyTo p k = false) (hp : p k = false) : a = 0 ↔ anyTo p (k + 1) = false := by
  rw [anyTo, hp, Bool.or_false]; exact h
set_option maxRecDepth 20000 in
set_option maxHeartbeats 2000000 in
theorem walk (v0 : Value) (g : Gm) (v1 : Value) (ts : List Int) (v2 : Value) (cs : List Int) (rolls : Int) (w : World) (hv0 : v0 = g.val) (hok : g.Ok w) (hr1 : RdI w v1 ts) (hr2 : RdI w v2 cs) (hro : (Lit.int .i64 rolls).wf = true) :
    Calls Try.prog 8 #[v0, v1, v2, .int .i64 rolls] w fun e w' => e = .returned (.bool true) ∧ Below w.heap.size w w' := by
  subst hv0
  have hFlow := fun w' (h : Fr [] w w') => flow_any g v1 v2 ts cs rolls w' (hok.fr h) (hr1.below h) (hr2.below h)
  have h21 : ∀ w b, GmAt w b g → w.cell? ⟨b, 21, none⟩ = some (.slice g.ta g.tiers.length g.tc) := fun w b h => h.cell 21 _ rfl
  have h19 : ∀ w b, GmAt w b g → w.cell? ⟨b, 19, none⟩ = some (.int .i64 g.rolls) := fun w b h => h.cell 19 _ rfl
  have hf0 := @fl_law0 g ts cs rolls
  have hwl := @won_law g ts cs rolls
  obtain ⟨a1, k1, rfl, hk1, hk2, _⟩ := hr1
  obtain ⟨a2, k2, rfl, hk3, hk4, hrd⟩ := hr2
  have hl1 : ts.length ≤ 9223372036854775807 := Nat.le_trans hk1 hk2
  have hl2 : cs.length ≤ 9223372036854775807 := Nat.le_trans hk3 hk4
  unfold FlPost at hFlow
  generalize flE g ts cs rolls = E2 at *
  generalize flP g ts cs rolls = P at *
  generalize flC g ts cs rolls = C at *
  generalize flN g ts cs rolls = N at *
  obtain ⟨n, hn⟩ : ∃ n, n = g.tiers.length := ⟨_, rfl⟩
  rw [← hn] at h21 hf0 hwl
  obtain ⟨gr, hgr⟩ : ∃ x, x = g.rolls := ⟨_, rfl⟩
  rw [← hgr] at h19 hwl
  have HFLOW := Lib.hid hFlow
  have H21 := Lib.hid h21
  have H19 := Lib.hid h19
  have HF0 := Lib.hid hf0
  have HWL := Lib.hid hwl
  have HN := Lib.hid hn
  have HOK := Lib.hid hok
  have HRD := Lib.hid hrd
  clear hFlow h21 h19 hf0 hwl hok hn hk1 hk2 hk3 hk4 hrd hgr
  by_cases hb1 : 40 < ts.length
  · have d1 : decide (40 < (ts.length : Int)) = true := by simp; omega
    go_enter Try.func8, Try.ntmps8
    go_wp2_with (refine box_game rfl (.tmp 0) rfl g rfl ?_; intro w1 hg1 hz1 hf1)
    refine (awake_any _).mono ?_
    rintro e w2 ⟨rfl, f2⟩
    go_wp2_with fail
    go_ret
    exact ⟨rfl, (hf1.trans f2).below⟩
  have d1 : decide (40 < (ts.length : Int)) = false := by simp; omega
  by_cases hb2 : 40 < cs.length
  · have d2 : decide (40 < (cs.length : Int)) = true := by simp; omega
    go_enter Try.func8, Try.ntmps8
    go_wp2_with (refine box_game rfl (.tmp 0) rfl g rfl ?_; intro w1 hg1 hz1 hf1)
    refine (awake_any _).mono ?_
    rintro e w2 ⟨rfl, f2⟩
    go_wp2_with fail
    go_ret
    exact ⟨rfl, (hf1.trans f2).below⟩
  have d2 : decide (40 < (cs.length : Int)) = false := by simp; omega
  go_enter Try.func8, Try.ntmps8
  go_wp2_with (first | (refine box_game rfl (.tmp 0) rfl g rfl ?_; intro w1 hg1 hz1 hf1) | (refine load_game rfl (.tmp 4) rfl _ rfl g hg1 ?_))
  refine (HFLOW.out _ hf1).mono ?_
  rintro e w3 ⟨vp, vc, rfl, op, oc, f3⟩
  have hg3 := hg1.fr f3 (by simp)
  have hF3 := hf1.trans f3
  have c21 := H21.out _ _ hg3
  have c19 := H19.out _ _ hg3
  have HF3 := Lib.hid hF3
  have HDONE := Lib.hid (fun w4 => awake_any w4)
  clear hg1 hz1 hf1 f3 HFLOW hF3 hg3 op oc
  by_cases h2 : E2 = 0
  · obtain ⟨p1, p2, p3, p4, p5, p6, p7, p8, p9, p10, p11, p12⟩ := HF0.out h2
    have hwl := HWL.out h2
    obtain ⟨w1', w2', w3', w4', w5'⟩ := hwl
    have e2 : (E2 != 0) = false := by simpa using h2
    have HW1 := Lib.hid w1'
    have HW2 := Lib.hid w2'
    have HW3 := Lib.hid w3'
    have HRD2 := Lib.hid HRD.out
    rw [p4] at HRD2 hl2 ⊢
    obtain ⟨x0, hx0⟩ : ∃ x, g.tiers[0]? = some x := ⟨_, List.getElem?_eq_getElem (by have := HN.out; omega)⟩
    obtain ⟨b, o, hta, _⟩ := RdF.at (f := Ti.cells) HOK.out.tiers.rd hx0
    rw [hta] at c21
    have HTA := Lib.hid hta
    clear p1 p2 p3 p4 p5 p6 p7 p8 p9 p10 w1' w2' w3' h2 HF0 HWL hta hx0 d2 d1 hb1 hb2
    go_wp2_with fail
    go_loop [13, 14, 15, 16] (fun s1 s2 s3 i => ∃ k a b c : Nat, k ≤ n ∧ i = .int .i64 k ∧ s1 = .int .i64 a ∧ s2 = .int .i64 b ∧ s3 = .int .i64 c ∧ a ≤ k ∧ b ≤ k ∧ c ≤ k ∧ Hid (a = 0 ↔ anyTo (jackP g.tiers) k = false) ∧ Hid (b = 0 ↔ anyTo (wP g.tiers cs) k = false) ∧ Hid (c = 0 ↔ anyTo (sP cs) k = false)) (fun _ _ _ i => n - (intOf i).toNat)
    case atStart => exact ⟨0, 0, 0, 0, by omega, rfl, rfl, rfl, rfl, by omega, by omega, by omega, Lib.hid (by simp [anyTo]), Lib.hid (by simp [anyTo]), Lib.hid (by simp [anyTo])⟩
    case round =>
      obtain ⟨k, a, b', c, hk, rfl, rfl, rfl, rfl, ha, hb, hc, HA, HB, HC⟩ := hrel
      by_cases hlt : k < n
      · obtain ⟨x, hx⟩ : ∃ x, g.tiers[k]? = some x := ⟨_, List.getElem?_eq_getElem (by have := HN.out; omega)⟩
        obtain ⟨b1, o1, hta', hcell⟩ := RdF.at (f := Ti.cells) HOK.out.tiers.rd hx
        rw [HTA.out] at hta'
        simp only [Option.some.injEq, Addr.mk.injEq, and_true] at hta'
        obtain ⟨rfl, rfl⟩ := hta'
        have c4 := HF3.out.cell_some (hcell 4 _ rfl) (by simp)
        obtain ⟨g1, o1, rfl, hct⟩ := HRD2.out k hlt
        have cc := HF3.out.cell_some hct (by simp)
        have hkd : kd g.tiers k = x.kind := by simp [kd, List.getD, hx]
        have hj : jackP g.tiers k = decide (x.kind = 3) := by unfold jackP; rw [hkd]
        have hs : sP cs k = decide (0 < cs.getD k 0) := rfl
        have hw : wP g.tiers cs k = (jackP g.tiers k && sP cs k) := rfl
        rw [hj, hs] at hw
        generalize cs.getD k 0 = y at *
        generalize x.kind = tk at *
        have HJ := Lib.hid hj
        have HS := Lib.hid hs
        have HW := Lib.hid hw
        have hkn : (k : Int) < (n : Int) := by omega
        have hk0 : (0 : Int) ≤ (k : Int) := by omega
        clear hcell hx hct hkd hj hs hw
        by_cases h3 : tk = 3
        · have e3 : (tk == 3) = true := by simpa using h3
          by_cases hy : 0 < y
          · have ey : decide (0 < y) = true := by simpa using hy
            have r1 := anyTo_step HA.out (by rw [HJ.out]; simp [h3])
            have r2 := anyTo_step HB.out (by rw [HW.out]; simp [h3, hy])
            have r3 := anyTo_step HC.out (by rw [HS.out]; simp [hy])
            have R1 := Lib.hid r1
            have R2 := Lib.hid r2
            have R3 := Lib.hid r3
            clear r1 r2 r3 h3 hy
            go_wp2_with fail
            go_round
            case rel => exact ⟨k + 1, a + 1, b' + 1, c + 1, by omega, by go_num, by go_num, by go_num, by go_num, by omega, by omega, by omega, R1, R2, R3⟩
            case measure => simp [intOf]; omega
          · have ey : decide (0 < y) = false := by simpa using hy
            have r1 := anyTo_step HA.out (by rw [HJ.out]; simp [h3])
            have r2 := anyTo_same HB.out (by rw [HW.out]; simp [hy])
            have r3 := anyTo_same HC.out (by rw [HS.out]; simp [hy])
            have R1 := Lib.hid r1
            have R2 := Lib.hid r2
            have R3 := Lib.hid r3
            clear r1 r2 r3 h3 hy
            go_wp2_with fail
            go_round
            case rel => exact ⟨k + 1, a + 1, b', c, by omega, by go_num, by go_num, by go_num, by go_num, by omega, by omega, by omega, R1, R2, R3⟩
            case measure => simp [intOf]; omega
        · have e3 : (tk == 3) = false := by simpa using h3
          by_cases hy : 0 < y
          · have ey : decide (0 < y) = true := by simpa using hy
            have r1 := anyTo_same HA.out (by rw [HJ.out]; simp [h3])
            have r2 := anyTo_same HB.out (by rw [HW.out]; simp [h3])
            have r3 := anyTo_step HC.out (by rw [HS.out]; simp [hy])
            have R1 := Lib.hid r1
            have R2 := Lib.hid r2
            have R3 := Lib.hid r3
            clear r1 r2 r3 h3 hy
            go_wp2_with fail
            go_round
            case rel => exact ⟨k + 1, a, b', c + 1, by omega, by go_num, by go_num, by go_num, by go_num, by omega, by omega, by omega, R1, R2, R3⟩
            case measure => simp [intOf]; omega
          · have ey : decide (0 < y) = false := by simpa using hy
            have r1 := anyTo_same HA.out (by rw [HJ.out]; simp [h3])
            have r2 := anyTo_same HB.out (by rw [HW.out]; simp [hy])
            have r3 := anyTo_same HC.out (by rw [HS.out]; simp [hy])
            have R1 := Lib.hid r1
            have R2 := Lib.hid r2
            have R3 := Lib.hid r3
            clear r1 r2 r3 h3 hy
            go_wp2_with fail
            go_round
            case rel => exact ⟨k + 1, a, b', c, by omega, by go_num, by go_num, by go_num, by go_num, by omega, by omega, by omega, R1, R2, R3⟩
            case measure => simp [intOf]; omega
      · obtain rfl : n = k := by omega
        by_cases hA : a = 0
        · have hN := HW1.out (.inl (HA.out.1 hA))
          have ea : ((a : Int) == 0) = true := by simp; omega
          have en : (N == 0) = true := by rw [hN]; rfl
          clear hN hA
          go_wp2_with fail
          refine (HDONE.out _).mono ?_
          rintro e w9 ⟨rfl, f9⟩
          go_wp2_with fail
          go_ret
          exact ⟨rfl, (HF3.out.trans f9).below⟩
        have ea : ((a : Int) == 0) = false := by simp; omega
        have hja : anyTo (jackP g.tiers) n = true := by
          cases hh : anyTo (jackP g.tiers) n
          · exact absurd (HA.out.2 hh) hA
          · rfl
        by_cases hB : b' = 0
        · have eb : decide (0 < (b' : Int)) = false := by simp; omega
          have eb2 : decide (0 < b') = false := by simp; omega
          have hwb := HB.out.1 hB
          have hfin : (c = 0 ∨ gr = 0) → N = min (rolls + 1) 64 := fun h => HW2.out hja hwb (h.imp (fun hc => HC.out.1 hc) id)
          have h33 := HW3.out
          clear hja hwb hA hB HA HB HC HW1 HW2 HW3
          rcases (show rolls + 1 < 64 ∨ rolls = 63 ∨ rolls = 64 by omega) with h64 | rfl | rfl
          · have h64' : ¬ 64 < rolls + 1 := by omega
            by_cases hcg : c = 0 ∨ gr = 0
            · have hN := hfin hcg
              have en : (N == rolls + 1) = true := by rw [hN]; simp; omega
              clear hN hfin h33
              by_cases hc0 : c = 0
              · have ec : ((c : Int) == 0) = true := by simp; omega
                clear hc0 hcg
                go_wp2_with fail
                refine (HDONE.out _).mono ?_
                rintro e w9 ⟨rfl, f9⟩
                go_wp2_with fail
                go_ret
                exact ⟨rfl, (HF3.out.trans f9).below⟩
              · have ec : ((c : Int) == 0) = false := by simp; omega
                have eg : (gr == 0) = true := by simp; omega
                clear hc0 hcg
                go_wp2_with fail
                refine (HDONE.out _).mono ?_
                rintro e w9 ⟨rfl, f9⟩
                go_wp2_with fail
                go_ret
                exact ⟨rfl, (HF3.out.trans f9).below⟩
            · have ec : ((c : Int) == 0) = false := by simp; omega
              have eg : (gr == 0) = false := by simp; omega
              clear hfin hcg
              by_cases hN0 : N = 0
              · have en : (N == 0) = true := by simpa using hN0
                clear h33 hN0
                go_wp2_with fail
                refine (HDONE.out _).mono ?_
                rintro e w9 ⟨rfl, f9⟩
                go_wp2_with fail
                go_ret
                exact ⟨rfl, (HF3.out.trans f9).below⟩
              · have en0 : (N == 0) = false := by simpa using hN0
                have en : (N == rolls + 1) = true := by simp; omega
                clear h33 hN0
                go_wp2_with fail
                refine (HDONE.out _).mono ?_
                rintro e w9 ⟨rfl, f9⟩
                go_wp2_with fail
                go_ret
                exact ⟨rfl, (HF3.out.trans f9).below⟩
          · skip
            by_cases hcg : c = 0 ∨ gr = 0
            · have hN := hfin hcg
              have en : (N == 64) = true := by rw [hN]; rfl
              clear hN hfin h33
              by_cases hc0 : c = 0
              · have ec : ((c : Int) == 0) = true := by simp; omega
                clear hc0 hcg
                go_wp2_with fail
                refine (HDONE.out _).mono ?_
                rintro e w9 ⟨rfl, f9⟩
                go_wp2_with fail
                go_ret
                exact ⟨rfl, (HF3.out.trans f9).below⟩
              · have ec : ((c : Int) == 0) = false := by simp; omega
                have eg : (gr == 0) = true := by simp; omega
                clear hc0 hcg
                go_wp2_with fail
                refine (HDONE.out _).mono ?_
                rintro e w9 ⟨rfl, f9⟩
                go_wp2_with fail
                go_ret
                exact ⟨rfl, (HF3.out.trans f9).below⟩
            · have ec : ((c : Int) == 0) = false := by simp; omega
              have eg : (gr == 0) = false := by simp; omega
              clear hfin hcg
              by_cases hN0 : N = 0
              · have en : (N == 0) = true := by simpa using hN0
                clear h33 hN0
                go_wp2_with fail
                refine (HDONE.out _).mono ?_
                rintro e w9 ⟨rfl, f9⟩
                go_wp2_with fail
                go_ret
                exact ⟨rfl, (HF3.out.trans f9).below⟩
              · have en0 : (N == 0) = false := by simpa using hN0
                have en : (N == 64) = true := by rcases h33 with h | h; (exact absurd h hN0); (rw [h]; rfl)
                clear h33 hN0
                go_wp2_with fail
                refine (HDONE.out _).mono ?_
                rintro e w9 ⟨rfl, f9⟩
                go_wp2_with fail
                go_ret
                exact ⟨rfl, (HF3.out.trans f9).below⟩
          · skip
            by_cases hcg : c = 0 ∨ gr = 0
            · have hN := hfin hcg
              have en : (N == 64) = true := by rw [hN]; rfl
              clear hN hfin h33
              by_cases hc0 : c = 0
              · have ec : ((c : Int) == 0) = true := by simp; omega
                clear hc0 hcg
                go_wp2_with fail
                refine (HDONE.out _).mono ?_
                rintro e w9 ⟨rfl, f9⟩
                go_wp2_with fail
                go_ret
                exact ⟨rfl, (HF3.out.trans f9).below⟩
              · have ec : ((c : Int) == 0) = false := by simp; omega
                have eg : (gr == 0) = true := by simp; omega
                clear hc0 hcg
                go_wp2_with fail
                refine (HDONE.out _).mono ?_
                rintro e w9 ⟨rfl, f9⟩
                go_wp2_with fail
                go_ret
                exact ⟨rfl, (HF3.out.trans f9).below⟩
            · have ec : ((c : Int) == 0) = false := by simp; omega
              have eg : (gr == 0) = false := by simp; omega
              clear hfin hcg
              by_cases hN0 : N = 0
              · have en : (N == 0) = true := by simpa using hN0
                clear h33 hN0
                go_wp2_with fail
                refine (HDONE.out _).mono ?_
                rintro e w9 ⟨rfl, f9⟩
                go_wp2_with fail
                go_ret
                exact ⟨rfl, (HF3.out.trans f9).below⟩
              · have en0 : (N == 0) = false := by simpa using hN0
                have en : (N == 64) = true := by rcases h33 with h | h; (exact absurd h hN0); (rw [h]; rfl)
                clear h33 hN0
                go_wp2_with fail
                refine (HDONE.out _).mono ?_
                rintro e w9 ⟨rfl, f9⟩
                go_wp2_with fail
                go_ret
                exact ⟨rfl, (HF3.out.trans f9).below⟩
        · have eb : decide (0 < (b' : Int)) = true := by simp; omega
          have eb2 : decide (0 < b') = true := by simp; omega
          have hwb : anyTo (wP g.tiers cs) n = true := by
            cases hh : anyTo (wP g.tiers cs) n
            · exact absurd (HB.out.2 hh) hB
            · rfl
          have hN := HW1.out (.inr hwb)
          have en : (N == 0) = true := by rw [hN]; rfl
          clear hN hA hB hwb hja
          go_wp2_with fail
          refine (HDONE.out _).mono ?_
          rintro e w9 ⟨rfl, f9⟩
          go_wp2_with fail
          go_ret
          exact ⟨rfl, (HF3.out.trans f9).below⟩
  · have e2 : (E2 != 0) = true := by simpa using h2
    clear h2
    go_wp2_with fail
    refine (HDONE.out _).mono ?_
    rintro e w9 ⟨rfl, f9⟩
    go_wp2_with fail
    go_ret
    exact ⟨rfl, (HF3.out.trans f9).below⟩
theorem own : ownKnob Try.prog.godebug = none := by kernel_rfl
theorem laidOut : laidOutB Try.prog = true := by kernel_rfl
set_option maxRecDepth 100000 in
theorem lifted (os : Os) (started : os.Started) (H : Type) (enc : TypeId × Value → H) :
    ReturnsInHanded {} Try.checked os 8 .any (Rows.rollWonSpec.pre6 enc Try.prog Try.f8 Rows.rollWonRow.domain false) (Rows.rollWonSpec.post enc Try.prog Try.f8 false true false false) := by
  refine returnsInHanded_of_change (C := Try.checked) own started (by kernel_rfl) Try.func8
    (ChangeSpec.witness6 (enc := enc) (C := Try.checked) false ⟨#[], #[.agg #[.string ByteArray.empty, .int .i64 0, .int .i64 0, .int .i64 0, .int .i64 0, .int .i64 0, .int .i64 0, .int .i64 0, .int .i64 0, .int .i64 0, .int .i64 0, .int .i64 0, .int .i64 0, .int .i64 0, .int .i64 0, .int .i64 0, .int .i64 0, .int .i64 0, .int .i64 0, .int .i64 0, .slice none 0 0, .slice none 0 0], .slice none 0 0, .slice none 0 0, .int .i64 0], []⟩ 8 (by kernel_rfl) (by kernel_rfl) (by kernel_rfl) (by kernel_rfl)) ?_
  intro W base args ds gs before hval0 hW hcnd _
  have hval : ∀ (j : Nat) t v, Try.f8.params[j]? = some t → args[j]? = some v → Value.okWide Try.prog W .any base t v := hval0
  have hW' := hW
  obtain ⟨p, q, hA0, hV, rfl, hfz, hnd⟩ := hW
  have hA : DataW.TrodAll enc Try.prog W 0 (fun _ => true) true Try.f8.params.toList args.toList ds p := hA0
  rw [Try.params8] at hA hval
  obtain ⟨v0, vs0, d0, ds0, p0, q0, hargs, rfl, rfl, h0, r0⟩ := trodAll_cons hA
  obtain ⟨v1, vs1, d1, ds1, p1, q1, rfl, rfl, rfl, h1, r1⟩ := trodAll_cons r0
  obtain ⟨v2, vs2, d2, ds2, p2, q2, rfl, rfl, rfl, h2, r2⟩ := trodAll_cons r1
  obtain ⟨v3, vs3, d3, ds3, p3, q3, rfl, rfl, rfl, h3, r3⟩ := trodAll_cons r2
  obtain ⟨rfl, rfl, rfl⟩ := trodAll_nil r3
  obtain rfl : args = #[v0, v1, v2, v3] := by cases args; simp_all
  obtain ⟨rfl, rfl⟩ := trodVars_none hV
  have k0 := h0
  have lt0 : ∀ x ∈ p0, x.block < W.heap.size := by obtain ⟨m, hm⟩ := k0; exact DataW.trod_lt m _ _ _ hm
  obtain ⟨g0, hv0, hg0⟩ := open_game (hval 0 25 v0 rfl rfl) h0
  have k1 := h1
  have lt1 : ∀ x ∈ p1, x.block < W.heap.size := by obtain ⟨m, hm⟩ := k1; exact DataW.trod_lt m _ _ _ hm
  obtain ⟨l1, hr1, _⟩ := open_intarg (hval 1 31 v1 rfl rfl) h1
  have k2 := h2
  have lt2 : ∀ x ∈ p2, x.block < W.heap.size := by obtain ⟨m, hm⟩ := k2; exact DataW.trod_lt m _ _ _ hm
  obtain ⟨l2, hr2, _⟩ := open_intarg (hval 2 31 v2 rfl rfl) h2
  obtain ⟨a3, rfl, rfl, rfl, w3⟩ := open_int Try.underlying3 (hval 3 3 v3 rfl rfl) h3
  clear hA0 hval0
  refine (walk v0 g0 v1 l1 v2 l2 a3 W hv0 hg0 hr1 hr2 w3).mono fun e W' ⟨he, bel⟩ => ?_
  subst he
  exact ⟨_, rfl, _, _, _, [], _, [], hW', trodAll_mk1 (shut_bool Try.underlying4 _), (trodAll_cons_mk (Below.trod laidOut (by kernel_rfl) (of_decide_eq_true (by kernel_rfl)) k0 bel lt0) (trodAll_cons_mk (Below.trod laidOut (by kernel_rfl) (of_decide_eq_true (by kernel_rfl)) k1 bel lt1) (trodAll_cons_mk (Below.trod laidOut (by kernel_rfl) (of_decide_eq_true (by kernel_rfl)) k2 bel lt2) (trodAll_cons_mk (shut_int Try.underlying3 w3) trodAll_mk0)))), rfl, bel.frame _, fun h => by cases h⟩
theorem over : Rows.rollWonRow.holds Try.pinned (OpenSpec.ofChange Rows.rollWonSpec) :=
  OpenClaim.holds_of_wide 8 Try.f8 rfl rfl rfl rfl rfl rfl rfl ⟨rfl, rfl, rfl, rfl, rfl⟩ rfl rfl rfl rfl rfl (by kernel_rfl) Try.func8 (by kernel_rfl)
    (of_decide_eq_true (by kernel_rfl)) (by unfold Func.isWrapper; first | (rw [if_pos (by decide +kernel)]; kernel_rfl) | (rw [if_neg (by decide +kernel)]; exact ⟨rfl, rfl⟩))
    (fun os started H enc _ => lifted os started H enc)
/-- THE STATEMENT -/
theorem proved : Rows.RollWonSaid := over
end Go.Proofs.Ytdinjekpcgndmaa.rollWon
