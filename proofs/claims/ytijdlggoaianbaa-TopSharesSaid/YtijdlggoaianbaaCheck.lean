/-
  Check (layer 12): the first error of a game.
-/
import Derived.Test.YtijdlggoaianbaaTiers
import Derived.Test.YtijdlggoaianbaaAddonsE
set_option linter.unusedVariables false
namespace Go.Proofs.Ytijdlggoaianbaa
open Go.RowKit
/-- the head of a game is right: its name, kind and fields that hold numbers -/
def headB (g : Gm) : Bool := nameB g.name && decide (g.kind = 1 ∨ g.kind = 2) && !badM g && !badT g
/-- the first error of a game -/
def chkE (g : Gm) : Int :=
  if nameB g.name = false then 4 else if g.kind ≠ 1 ∧ g.kind ≠ 2 then 7 else if badM g = true ∨ badT g = true then 2 else if addsE g.addons ≠ 0 then addsE g.addons else tisE g
/-- the field of the first error, if the head is right -/
def chkS (g : Gm) : ByteArray := if addsE g.addons ≠ 0 then ⟨#[97, 100, 100, 111, 110, 115]⟩ else if tisE g ≠ 0 then ⟨#[116, 105, 101, 114, 115]⟩ else ⟨#[]⟩
def ChkPost (g : Gm) (w : World) (e : Ending) (w' : World) : Prop := ∃ S : ByteArray, e = .returned (.tuple #[.int .i64 (chkE g), .string S]) ∧ (headB g = true → S = chkS g) ∧ Fr [] w w'
theorem ba_toList (S : ByteArray) : S.toList = S.data.toList := ByteArray.toList_eq S
theorem ba_some {S : ByteArray} (h : ¬ S.size = 0) : S.toList.isEmpty = false := by
  rw [ba_toList, List.isEmpty_eq_false_iff]
  intro h0
  apply h
  have : S.data.toList.length = 0 := by rw [h0]; rfl
  simpa using this
theorem ba_none {S : ByteArray} (h : S.size = 0) : S = ⟨#[]⟩ := by
  cases S with
  | mk d => 
    have : d = #[] := by apply Array.eq_empty_of_size_eq_zero; exact h
    rw [this]
theorem chk_post {g : Gm} {w w' : World} (E : Int) (S : ByteArray) (hE : chkE g = E) (hS : headB g = true → S = chkS g) (hf : Fr [] w w') : ChkPost g w (.returned (.tuple #[.int .i64 E, .string S])) w' := by
  subst hE; exact ⟨S, rfl, hS, hf⟩
set_option maxRecDepth 20000 in
set_option maxHeartbeats 2000000 in
theorem check_any (g : Gm) (w : World) (hok : g.Ok w) : Calls Try.prog 20 #[g.val] w (ChkPost g w) := by
  have hM := fun w => badMatrix_any g w
  have hT := fun w => badTerms_any g w
  have hA := fun w' (h : Fr [] w w') => checkAddons_any g.aa g.ac g.addons w' (hok.addons.fr h)
  have hI := fun w' (h : Fr [] w w') => checkTiers_any g w' (hok.tiers.fr h)
  have hP := fun E S (w' : World) => @chk_post g w w' E S
  simp only [chkE, chkS, headB] at hP
  obtain ⟨bm, hbm⟩ : ∃ b, b = badM g := ⟨_, rfl⟩
  obtain ⟨bt, hbt⟩ : ∃ b, b = badT g := ⟨_, rfl⟩
  obtain ⟨ea, hea⟩ : ∃ b, b = addsE g.addons := ⟨_, rfl⟩
  obtain ⟨et, het⟩ : ∃ b, b = tisE g := ⟨_, rfl⟩
  rw [← hbm] at hM hP
  rw [← hbt] at hT hP
  rw [← hea] at hA hP
  rw [← het] at hI hP
  have h20 : ∀ w b, GmAt w b g → w.cell? ⟨b, 20, none⟩ = some (.slice g.aa g.addons.length g.ac) := fun w b h => h.cell 20 _ rfl
  have h0 : ∀ w b, GmAt w b g → w.cell? ⟨b, 0, none⟩ = some (.string g.name) := fun w b h => h.cell 0 _ rfl
  have h1 : ∀ w b, GmAt w b g → w.cell? ⟨b, 1, none⟩ = some (.int .i64 g.kind) := fun w b h => h.cell 1 _ rfl
  have H20 := Lib.hid h20
  have H0 := Lib.hid h0
  have H1 := Lib.hid h1
  have HM := Lib.hid hM
  have HT := Lib.hid hT
  have HA := Lib.hid hA
  have HI := Lib.hid hI
  have HP := Lib.hid hP
  clear h20 h0 h1 hM hT hA hI hP hbm hbt hea het hok
  cases hn : nameB g.name
  · go_enter Try.func20, Try.ntmps20
    go_wp2_with (first | (refine box_game rfl (.tmp 0) rfl g rfl ?_; intro w1 hg1 hz1 hf1; have c0 := H0.out _ _ hg1) | (go_at_call 31; refine (name_any _ _).mono ?_; rintro e w' ⟨rfl, rfl⟩))
    go_ret2
    exact HP.out _ _ _ (by simp [hn]) (by simp [hn]) hf1
  · by_cases hk : g.kind = 1 ∨ g.kind = 2
    · have hkb : (g.kind != 1) = false ∨ ((g.kind != 1) = true ∧ (g.kind != 2) = false) := by
        by_cases h1 : g.kind = 1
        · left; simp [h1]
        · right; have : g.kind = 2 := by omega
          simp [this]
      have HK := Lib.hid hk
      clear hk
      rcases hkb with hk1 | ⟨hk1, hk2⟩
      all_goals
        go_enter Try.func20, Try.ntmps20
        go_wp2_with (first | (refine box_game rfl (.tmp 0) rfl g rfl ?_; intro w1 hg1 hz1 hf1; have c0 := H0.out _ _ hg1; have c1 := H1.out _ _ hg1) | (go_at_call 31; refine (name_any _ _).mono ?_; rintro e w' ⟨rfl, rfl⟩) | (refine load_game rfl (.tmp 1) rfl _ rfl g hg1 ?_))
        refine (HM.out _).mono ?_
        rintro e w2 ⟨S, rfl, hS, f2⟩
        cases bm
        · obtain rfl := ba_none (hS.2 rfl)
          have hg2 := hg1.fr f2 (by simp)
          have hF2 := hf1.trans f2
          clear hS f2 HM
          go_wp2_with (refine load_game rfl (.tmp 1) rfl _ rfl g hg2 ?_)
          refine (HT.out _).mono ?_
          rintro e w3 ⟨S, rfl, hS, f3⟩
          cases bt
          · obtain rfl := ba_none (hS.2 rfl)
            have hg3 := hg2.fr f3 (by simp)
            have hF3 := hF2.trans f3
            have c20 := H20.out _ _ hg3
            clear hS f3 HT hg2 hF2
            go_wp2_with fail
            refine (HA.out _ hF3).mono ?_
            rintro e w4 ⟨rfl, f4⟩
            have hg4 := hg3.fr f4 (by simp)
            have hF4 := hF3.trans f4
            clear c20 f4 HA
            by_cases he : ea = 0
            · subst he
              go_wp2_with (refine load_game rfl (.tmp 1) rfl _ rfl g hg4 ?_)
              refine (HI.out _ hF4).mono ?_
              rintro e w5 ⟨rfl, f5⟩
              have hF5 := hF4.trans f5
              clear f5 HI
              by_cases ht : et = 0
              · subst ht
                go_wp2_with fail
                go_ret2
                have hk := HK.out
                exact HP.out _ _ _ (by rw [if_neg (by simp [hn]), if_neg (by omega), if_neg (by simp), if_neg (by simp)]) (by simp) hF5
              · have dt : (et != 0) = true := by simpa using ht
                have HTT := Lib.hid ht
                clear ht
                go_wp2_with fail
                go_ret2
                have hk := HK.out
                exact HP.out _ _ _ (by rw [if_neg (by simp [hn]), if_neg (by omega), if_neg (by simp), if_neg (by simp)]) (by intro _; rw [if_neg (by simp), if_pos HTT.out]) hF5
            · have de : (ea != 0) = true := by simpa using he
              have HEE := Lib.hid he
              clear he HI
              go_wp2_with fail
              go_ret2
              have hk := HK.out
              exact HP.out _ _ _ (by rw [if_neg (by simp [hn]), if_neg (by omega), if_neg (by simp), if_pos HEE.out]) (by intro _; rw [if_pos HEE.out]) hF4
          · have hSe : S.toList.isEmpty = false := ba_some (fun h => by have := hS.1 h; simp at this)
            have hF3 := hF2.trans f3
            clear hS HI HA
            go_wp2_with fail
            go_ret2
            have hk := HK.out
            exact HP.out _ _ _ (by rw [if_neg (by simp [hn]), if_neg (by omega), if_pos (by simp)]) (by simp) hF3
        · have hSe : S.toList.isEmpty = false := ba_some (fun h => by have := hS.1 h; simp at this)
          have hF2 := hf1.trans f2
          clear hS HI HA HT
          go_wp2_with fail
          go_ret2
          have hk := HK.out
          exact HP.out _ _ _ (by rw [if_neg (by simp [hn]), if_neg (by omega), if_pos (by simp)]) (by simp) hF2
    · have hk1 : (g.kind != 1) = true := by simp; omega
      have hk2 : (g.kind != 2) = true := by simp; omega
      have HK := Lib.hid hk
      clear hk
      go_enter Try.func20, Try.ntmps20
      go_wp2_with (first | (refine box_game rfl (.tmp 0) rfl g rfl ?_; intro w1 hg1 hz1 hf1; have c0 := H0.out _ _ hg1; have c1 := H1.out _ _ hg1) | (go_at_call 31; refine (name_any _ _).mono ?_; rintro e w' ⟨rfl, rfl⟩))
      go_ret2
      have hk := HK.out
      exact HP.out _ _ _ (by rw [if_neg (by simp [hn]), if_pos (by omega)]) (by intro h; simp [hk] at h) hf1
end Go.Proofs.Ytijdlggoaianbaa
