/-
  AddonPays: for every game, mask and seed the statement returns true: the drawn number wins the last prize, and another last digit wins nothing. No conditions.
-/
import Derived.Test.YtdbkkbeelemnhaaPays40
import Derived.Test.YtdbkkbeelemnhaaFitLaw
import Derived.Test.YtdbkkbeelemnhaaNew
import Derived.ProofKit
import Derived.OpenShut
import Derived.ShutString
import Derived.ChangeOld
import Derived.WalkSpells
namespace Go.Proofs.Ytdbkkbeelemnhaa.addonPays
open Go.ChangeShapes Go.WideShapes Go.ChangeAt Go.RowKit
open Go.ChangeMaps (open_string shut_string)
set_option linter.unusedVariables false
attribute [local go_sem ↓] Go.wp_at_zero Go.wp_at_succ
theorem wpAnyH_str2 {P : Program} {md : Region.Mode} {ops : Array Oper} {Q : Exit → Act → World → Prop} {S S' : World → Prop} {fuel : Nat} {listed : Array Bool} {a : Act} {w : World} (hs : ∀ w, S' w → S w) (h0 : S' w) (h : S' w → wpAnyH P md ops Q S' fuel listed a w) : wpAnyH P md ops Q S fuel listed a w := wpAnyH_str hs _ _ _ _ (h h0)
theorem selTo_uniq {l : List Ad} {m : Int} {k : Nat} {x : Ad} (hx : l[k]? = some x) (h2 : x.kind = 2) (hu : ∀ j a, l[j]? = some a → a.kind = 2 → j = k) : ∀ (f i : Nat), f + i = l.length → selTo l m 2 f i = if i ≤ k ∧ bitB m k = true then some k else none := by
  have hk := (List.getElem?_eq_some_iff.1 hx).1
  intro f
  induction f with
  | zero => intro i hi; rw [if_neg (by omega)]; rfl
  | succ f ih =>
    intro i hi
    obtain ⟨a, ha⟩ : ∃ a, l[i]? = some a := ⟨_, List.getElem?_eq_getElem (by omega)⟩
    by_cases hik : i = k
    · subst hik
      rw [hx] at ha
      obtain rfl := Option.some.inj ha
      by_cases hb : bitB m i = true
      · rw [selTo_hit hx (by simpa using h2) hb, if_pos ⟨Nat.le_refl _, hb⟩]
      · rw [selTo_go hx (by simp [hb]), ih (i + 1) (by omega), if_neg (by omega), if_neg (by simp [hb])]
    · rw [selTo_go ha (by rintro ⟨h3, _⟩; exact hik (hu i a ha (by simpa using h3))), ih (i + 1) (by omega)]
      by_cases hle : i ≤ k
      · by_cases hb : bitB m k = true
        · rw [if_pos ⟨by omega, hb⟩, if_pos ⟨hle, hb⟩]
        · rw [if_neg (by simp [hb]), if_neg (by simp [hb])]
      · rw [if_neg (by omega), if_neg (by omega)]
theorem byteAt_idx (s : ByteArray) (q : Nat) (h : q < s.size) : byteAt s q = s[q].toNat := byteAt_of (by simp [h])
theorem byteAt_last (A : ByteArray) (x : Int) (h0 : 0 ≤ x) (h1 : x < 256) : byteAt (A ++ strOfNums [x]) A.size = x := by
  have hl : (A ++ strOfNums [x]).data.toList = A.data.toList ++ [UInt8.ofNat x.toNat] := by
    rw [ByteArray.data_append, Array.toList_append]; rfl
  unfold byteAt
  rw [hl]
  have hA : A.data.toList.length = A.size := by rw [Array.length_toList]; rfl
  have hg : ∀ (l : List UInt8) (y : UInt8), (l ++ [y]).getD l.length 0 = y := fun l y => by
    show ((l ++ [y])[l.length]?).getD 0 = y
    rw [List.getElem?_append_right (Nat.le_refl _), Nat.sub_self]; rfl
  rw [← hA, hg]
  rw [UInt8.toNat_ofNat']
  omega
/-- another last digit: nothing agrees -/
theorem hits_other (T : ByteArray) (x : Int) (hT : 0 < T.size) (h0 : 0 ≤ x) (h1 : x < 256) (hne : byteAt T (T.size - 1) ≠ x) : IsHits (T.extract 0 (T.size - 1) ++ strOfNums [x]) T 0 := by
  have hsz : (T.extract 0 (T.size - 1)).size = T.size - 1 := by simp [ByteArray.size_extract]
  have hsz2 : (T.extract 0 (T.size - 1) ++ strOfNums [x]).size = T.size := by rw [ByteArray.size_append, hsz, strOfNums_size]; simp; omega
  refine .inr ⟨hsz2, by omega, by omega, fun _ => ?_⟩
  rw [hsz2, Nat.sub_zero]
  have := byteAt_last (T.extract 0 (T.size - 1)) x h0 h1
  rw [hsz] at this
  rw [this]
  exact fun h => hne h.symm
theorem hits_self (T : ByteArray) : IsHits T T T.size := .inr ⟨rfl, Nat.le_refl _, fun _ _ => rfl, by omega⟩
def rT (T : ByteArray) : Re := ⟨none, 0, 0, none, 0, 0, none, 0, 0, 0, T⟩
theorem ser_other {g : Gm} {m : Int} (sz : Nat) : serV g m sz 0 = 0 := by
  unfold serV
  split
  · rfl
  · unfold serA; split <;> simp
set_option maxRecDepth 20000 in
set_option maxHeartbeats 4000000 in
theorem walk (v : Value) (g : Gm) (m : Int) (s : Int) (w : World) (hv : v = g.val) (hok : g.Ok w) (hm : (Lit.int .i64 m).wf = true) (hs : (Lit.int .u64 s).wf = true) :
    Calls Try.prog 13 #[v, .int .i64 m, .int .u64 s] w fun e w' => e = .returned (.bool true) ∧ Below w.heap.size w w' := by
  subst hv
  have hs01 : 0 ≤ s ∧ s ≤ 18446744073709551615 := by
    have h : IntKind.u64.min ≤ s ∧ s ≤ IntKind.u64.max := by simpa [Lit.wf] using hs
    have m0 : IntKind.u64.min = 0 := by kernel_rfl
    have m1 : IntKind.u64.max = 18446744073709551615 := by kernel_rfl
    omega
  have hD := fun w' (h : Fr [] w w') => draw40_any g s w' (hok.fr h) hs01.1 hs01.2
  have hP := fun w' (h : Fr [] w w') => price_any g m w' (hok.fr h)
  unfold ADPost at hD
  clear hs hs01 hm
  have hb0 : ∀ w T, (Instr.build 38 #[(4, .string T)]).run Try.prog w = .ok (.agg #[.slice none 0 0, .slice none 0 0, .slice none 0 0, .int .i64 0, .string T]) w := fun w T => by kernel_rfl
  by_cases hgood : dE g s = 0 ∧ priE g m = 0 ∧ 0 < (dT g s).size
  · obtain ⟨hE, hpe, hT0⟩ := hgood
    have hT : dT g s = (drTo g.addons s g.addons.length).txt := by unfold dT; rw [if_pos hE]
    have hce : chkE g = 0 ∧ (drTo g.addons s g.addons.length).err = 0 := by
      unfold dE at hE
      split at hE
      · rename_i h; exact absurd hE h
      · rename_i h; exact ⟨by omega, hE⟩
    have hmk : maskB g.addons.length m = true := by
      unfold priE at hpe
      rw [if_neg (by omega)] at hpe
      split at hpe
      · simp at hpe
      · rename_i h; simpa using h
    obtain ⟨_, p2, _⟩ := chkE_facts hce.1
    have hl := adsR_of p2
    have q1 := (addsE_facts p2).1
    rw [hE] at hD
    rw [hpe] at hP
    have hmb : 0 ≤ m ∧ m < 16 := by
      have h2 := (pow_bd g.addons.length q1).2
      simp [maskB] at hmk
      omega
    obtain ⟨hm0, hm1⟩ := hmb
    -- what the statement needs of an add-on with serial numbers
    have hser : ∀ k x, g.addons[k]? = some x → x.kind = 2 → ((dT g s).size : Int) = x.digits ∧ (dT g s).size = x.prizes.length ∧ (dT g s).size ≤ 8 ∧ serV g m (dT g s).size (dT g s).size = if bitB m k = true then x.prizes.getD ((dT g s).size - 1) 0 else 0 := by
      intro k x hx hk
      obtain ⟨S, U, ht, _⟩ := txt_is hl hce.2 hx hk
      rcases hl.kind k x hx with ⟨h1, _⟩ | ⟨_, h1, h8, hp⟩
      · omega
      · have hsz : ((dT g s).size : Int) = x.digits := by rw [hT, ht, serS_size]; omega
        refine ⟨hsz, by omega, by omega, ?_⟩
        have hsel : selO g m 2 = if bitB m k = true then some k else none := by
          unfold selO
          rw [if_neg (by simp [hce.1]), if_neg (by simp [hmk]), selTo_uniq hx hk (fun j a ha h2 => by
            rcases Nat.lt_trichotomy j k with h3 | h3 | h3
            · exact absurd (h2.trans hk.symm) (hl.once j k a x h3 ha hx)
            · exact h3
            · exact absurd (hk.trans h2.symm) (hl.once k j x a h3 hx ha)) g.addons.length 0 (by omega)]
          simp
        unfold serV
        rw [hsel]
        by_cases hb : bitB m k = true
        · rw [if_pos hb, if_pos hb]
          simp only
          rw [getD_some hx]
          unfold serA
          rw [if_neg (by simp [hsz]), if_neg (by omega)]
        · rw [if_neg hb, if_neg hb]
    have hS := fun (t : ByteArray) (ht : t.size ≤ maxLen) (ht2 : (dT g s).size ≤ maxLen) w' (h : Fr [] w w') => serial_any g m t (rT (dT g s)) w' (hok.fr h) ht ht2
    unfold SerPost at hS
    simp only [rT, Re.val] at hS
    have h20 : ∀ w b, GmAt w b g → w.cell? ⟨b, 20, none⟩ = some (.slice g.aa g.addons.length g.ac) := fun w b h => h.cell 20 _ rfl
    have hne : (dT g s).toList.isEmpty = false := ba_some (by omega)
    have h2s : ∀ k, (2 : Int) ^ (k + 1) = 2 * 2 ^ k := by intro k; rw [Int.pow_succ, Int.mul_comm]
    have h2b : ∀ k, k ≤ 4 → (1 : Int) ≤ 2 ^ k ∧ (2 : Int) ^ k ≤ 16 := fun k hk => pow_bd k hk
    have hbt : ∀ k, bitB m k = (m / 2 ^ k % 2 == 1) := fun k => by unfold bitB; first | rfl | (rw [Bool.eq_iff_iff]; simp)
    obtain ⟨P, hPd⟩ : ∃ P : Nat → Int, P = fun k => (2 : Int) ^ k := ⟨_, rfl⟩
    have hPk : ∀ k, (2 : Int) ^ k = P k := fun k => by rw [hPd]
    have hP0 : P 0 = 1 := by rw [hPd]; rfl
    simp only [hPk] at h2s h2b hbt
    have hkd := hl.kind
    obtain ⟨n, hn⟩ : ∃ n, n = g.addons.length := ⟨_, rfl⟩
    rw [← hn] at h20 q1
    obtain ⟨A, hA⟩ : ∃ A, A = g.aa := ⟨_, rfl⟩
    rw [← hA] at h20
    clear hT hce hmk p2 hl hPd hPk hE hpe
    generalize dT g s = T at *
    have HA := Lib.hid hA
    have HN := Lib.hid hn
    have HAD := Lib.hid hok.addons
    have HD := Lib.hid hD
    have HPR := Lib.hid hP
    have HS := Lib.hid hS
    have H20 := Lib.hid h20
    have HSER := Lib.hid hser
    have H2S := Lib.hid h2s
    have H2B := Lib.hid h2b
    have HBT := Lib.hid hbt
    have HP0 := Lib.hid hP0
    have HKD := Lib.hid hkd
    clear hA hn hok hD hP hS h20 hser h2s h2b hbt hP0 hkd
    go_enter Try.func13, Try.ntmps13
    go_wp2_with (first | (refine box_game rfl (.tmp 0) rfl g rfl ?_; intro w1 hg1 hz1 hf1) | (refine load_game rfl (.tmp 3) rfl _ rfl g hg1 ?_))
    refine (HD.out _ hf1).mono ?_
    rintro e w2 ⟨rfl, f2⟩
    have hg2 := hg1.fr f2 (by simp)
    have hF2 := hf1.trans f2
    go_wp2_with (refine load_game rfl (.tmp 3) rfl _ rfl g hg2 ?_)
    refine (HPR.out _ hF2).mono ?_
    rintro e w3 ⟨rfl, f3⟩
    have hg3 := hg2.fr f3 (by simp)
    have hF3 := hF2.trans f3
    clear f2 f3 hg1 hg2 hF2 hf1 hz1 HD HPR
    go_wp2_with fail
    obtain ⟨w4, hw4⟩ : ∃ w4, w4 = w3.alloc (.cells #[.slice none 0 0, .slice none 0 0, .slice none 0 0, .int .i64 0, .string T] 38) := ⟨_, rfl⟩
    have hF34 : Fr [] w3 w4 := by rw [hw4]; exact (Fr.refl [] _).alloc _
    have b0 : w4.cell? ⟨w3.heap.size, 0, none⟩ = some (.slice none 0 0) := by rw [hw4]; exact new_cell rfl rfl
    have b1 : w4.cell? ⟨w3.heap.size, 1, none⟩ = some (.slice none 0 0) := by rw [hw4]; exact new_cell rfl rfl
    have b2 : w4.cell? ⟨w3.heap.size, 2, none⟩ = some (.slice none 0 0) := by rw [hw4]; exact new_cell rfl rfl
    have b3 : w4.cell? ⟨w3.heap.size, 3, none⟩ = some (.int .i64 0) := by rw [hw4]; exact new_cell rfl rfl
    have b4 : w4.cell? ⟨w3.heap.size, 4, none⟩ = some (.string T) := by rw [hw4]; exact new_cell rfl rfl
    have hg4 := hg3.fr hF34 (by simp)
    have hF4 := hF3.trans hF34
    have c20 := H20.out _ _ hg4
    rw [← hw4]
    clear hw4 hg3 hF34 hF3 hb0
    go_loopw [13, 14] (fun bb i wr => ∃ k : Nat, k ≤ n ∧ i = .int .i64 k ∧ bb = .int .i64 (P k) ∧ Fr [] w4 wr) (fun _ i _ => n - (intOf i).toNat)
    case atStart => exact ⟨0, by omega, rfl, by rw [HP0.out], Fr.refl _ _⟩
    case round =>
      obtain ⟨k, hk, rfl, rfl, hf⟩ := hrel
      have r20 := hf.cell_some c20 (by simp)
      obtain ⟨pb0, pb1⟩ := H2B.out k (by omega)
      by_cases hlt : k < n
      · obtain ⟨x, hx⟩ : ∃ x, g.addons[k]? = some x := ⟨_, List.getElem?_eq_getElem (by have := HN.out; omega)⟩
        obtain ⟨b, o, hta, hcell⟩ := RdF.at (f := Ad.cells) HAD.out.rd hx
        rw [← HA.out] at hta
        subst hta
        have hF := hF4.trans hf
        have c0 := hF.cell_some (hcell 0 _ rfl) (by simp)
        have c1 := hF.cell_some (hcell 1 _ rfl) (by simp)
        have c2 := hF.cell_some (hcell 2 _ rfl) (by simp)
        have c3 := hF.cell_some (hcell 3 _ rfl) (by simp)
        have c4 := hF.cell_some (hcell 4 _ rfl) (by simp)
        have c5 := hF.cell_some (hcell 5 _ rfl) (by simp)
        rw [Nat.add_zero] at c0
        have hkd2 : x.kind = 1 ∨ x.kind = 2 := by rcases HKD.out k x hx with ⟨h, _⟩ | ⟨h, _⟩ <;> omega
        have hsr := HSER.out k x hx
        have hbt := HBT.out k
        have hps := H2S.out k
        have hrp := (HAD.out.ok x (List.mem_of_getElem? hx)).rp
        obtain ⟨_, _, hvp, hpc, hpm, hrp⟩ := hrp
        simp only [Value.slice.injEq] at hvp
        obtain ⟨hvp1, _, hvp2⟩ := hvp
        subst hvp1
        subst hvp2
        obtain ⟨pl, hpl⟩ : ∃ pl, pl = x.prizes.length := ⟨_, rfl⟩
        rw [← hpl] at hrp c5 hsr
        generalize x.prizes = prizes at *
        generalize x.pc = pc at *
        generalize x.pa = pa at *
        generalize x.factors.length = fl at *
        generalize x.fc = fc at *
        generalize x.fa = fa at *
        generalize x.name = name at *
        generalize x.price = price at *
        generalize x.digits = digits at *
        generalize x.kind = kd at *
        generalize P k = p at *
        have HRP := Lib.hid hrp
        have HPL := Lib.hid hpl
        have HPS := Lib.hid hps
        have hki : (k : Int) < (n : Int) := by omega
        have hk0 : (0 : Int) ≤ (k : Int) := by omega
        obtain ⟨wo, rfl⟩ : ∃ wo : World, wo = wr := ⟨_, rfl⟩
        clear hx hcell hrp hpl hps
        rcases hkd2 with rfl | rfl
        · clear hsr
          go_wp2_with fail
          exact ⟨⟨k + 1, by omega, by go_num, by rw [HPS.out], hf.alloc _⟩, by simp [intOf]; omega⟩
        · obtain ⟨hs1, hs2, hs3, hs4⟩ := hsr rfl
          have HS1 := Lib.hid hs1
          have HS2 := Lib.hid hs2
          have HS4 := Lib.hid hs4
          have HBT2 := Lib.hid hbt
          have dpl : ((T.size : Int) != (pl : Int)) = false := by simp; omega
          have hTm : T.size ≤ 9223372036854775807 := by omega
          clear hsr hs1 hs2 hs4 hbt
          have hcb := byteAt_idx T (T.size - 1) (by omega)
          have HCB := Lib.hid hcb
          clear hcb
          have hT1 : (1 : Int) ≤ (T.size : Int) := by omega
          have hdv := Int.ediv_nonneg hm0 (show 0 ≤ p by omega)
          have hdv2 : m / p ≤ m := Int.ediv_le_self _ hm0
          have hTp : (T.size : Int) - 1 < (pl : Int) := by have := HS2.out; omega
          cases hq : bitB m k
          · have hbm : (m / p % 2 == 1) = false := by rw [← HBT2.out]; exact hq
            cases d48 : (((T[T.size - 1]'(by omega)).toNat : Int) == 48)
            · skip
              have hO : IsHits (T.extract 0 (T.size - 1) ++ strOfNums [48]) T 0 := hits_other T 48 (by omega) (by omega) (by omega) (by rw [HCB.out]; first | (have := d48; simp at this; omega) | omega)
              have HO := Lib.hid hO
              have hosz : (T.extract 0 (T.size - 1) ++ strOfNums [48]).size ≤ maxLen := by
                rw [ByteArray.size_append, strOfNums_size]; simp [ByteArray.size_extract]; unfold maxLen; omega
              have HOSZ := Lib.hid hosz
              have hTm2 : T.size ≤ maxLen := by unfold maxLen; omega
              have HTM := Lib.hid hTm2
              have hsl : (strOfNums [48]).size = 1 := by rw [strOfNums_size]; rfl
              have hex : (T.extract 0 (T.size - 1)).size ≤ 8 := by simp [ByteArray.size_extract]; omega
              clear hO hosz hTm2
              go_wp2_with fail
              obtain ⟨wa, hwa⟩ : ∃ wa, wa = wo.alloc (.cells #[.string name, .int .i64 2, .int .i64 price, .slice fa fl fc, .int .i64 digits, .slice pa pl pc] 53) := ⟨_, rfl⟩
              have hFa : Fr [] w4 wa := by rw [hwa]; exact hf.alloc _
              have hza : wa.heap.size = wo.heap.size + 1 := by rw [hwa]; simp
              rw [← hwa]
              have HZA := Lib.hid hza
              clear hwa hza
              have hwr : IntKind.i64.wrap ((T.size : Int) - 1) = (T.size : Int) - 1 := IntWalk.i64_in _ (by omega)
              have hnl : ¬ ((T.size : Int) < (T.size : Int) - 1) := by omega
              refine wp_region_held_drew (S := (fun w' => Fr [] wa w')) (by kernel_rfl) (Fr.refl [] _).drew (fun hHeld => ?_)
              refine wpAnyH_take (i := 0) (oi := ⟨some 84, _, _, _, _, _⟩) (v := .string T) rfl (by kernel_rfl) (by kernel_rfl) (by kernel_rfl) (fun _ _ _ h => h) (Or.inl ⟨by rfl, ?_⟩) hHeld ?_
              · intro w hSw; (try dsimp only at hSw); go_simp
              (try simp only [Act.put, List.setIfInBounds_toArray, List.set_cons_zero, List.set_cons_succ])
              refine wpAnyH_take (i := 1) (oi := ⟨some 85, _, _, _, _, _⟩) (v := .string T) rfl (by kernel_rfl) (by kernel_rfl) (by kernel_rfl) (fun _ _ _ h => h) (Or.inl ⟨by rfl, ?_⟩) hHeld ?_
              · intro w hSw; (try dsimp only at hSw); go_simp
              (try simp only [Act.put, List.setIfInBounds_toArray, List.set_cons_zero, List.set_cons_succ])
              refine wpAnyH_take (i := 2) (oi := ⟨some 86, _, _, _, _, _⟩) (v := .int .i64 T.size) rfl (by kernel_rfl) (by kernel_rfl) (by kernel_rfl) (fun _ _ _ h => h) (Or.inl ⟨by rfl, ?_⟩) hHeld ?_
              · intro w hSw; (try dsimp only at hSw); go_simp
              (try simp only [Act.put, List.setIfInBounds_toArray, List.set_cons_zero, List.set_cons_succ])
              refine wpAnyH_take (i := 3) (oi := ⟨some 87, _, _, _, _, _⟩) (v := .int .i64 ((T.size : Int) - 1)) rfl (by kernel_rfl) (by kernel_rfl) (by kernel_rfl) (fun _ _ _ h => h) (Or.inl ⟨by rfl, ?_⟩) hHeld ?_
              · intro w hSw; (try dsimp only at hSw); go_simp
              (try simp only [Act.put, List.setIfInBounds_toArray, List.set_cons_zero, List.set_cons_succ])
              refine wpAnyH_take (i := 4) (oi := ⟨some 88, _, _, _, _, _⟩) (v := .string (T.extract 0 (T.size - 1))) rfl (by kernel_rfl) (by kernel_rfl) (by kernel_rfl) (fun _ _ _ h => h) (Or.inl ⟨by rfl, ?_⟩) hHeld ?_
              · intro w hSw; (try dsimp only at hSw); go_simp
              (try simp only [Act.put, List.setIfInBounds_toArray, List.set_cons_zero, List.set_cons_succ])
              refine wpAnyH_take (i := 5) (oi := ⟨some 89, _, _, _, _, _⟩) (v := .int .u8 48) rfl (by kernel_rfl) (by kernel_rfl) (by kernel_rfl) (fun _ _ _ h => h) (Or.inl ⟨by rfl, ?_⟩) hHeld ?_
              · intro w hSw; (try dsimp only at hSw); go_simp
              (try simp only [Act.put, List.setIfInBounds_toArray, List.set_cons_zero, List.set_cons_succ])
              refine wpAnyH_ready (rs := [6]) (by kernel_rfl) (by simp) ?_
              refine AllReadyH.cons (o := ⟨some 90, _, _, _, _, _⟩) rfl (fun K hK => ?_) AllReadyH.nil
              rw [if_pos (by rfl)]
              go_simp
              refine hK.out _ _ (hHeld.alloc _) (fun hHeld' => ?_)
              clear hK K hHeld
              have hHeld := hHeld'
              clear hHeld'
              (try simp only [Act.put, List.setIfInBounds_toArray, List.set_cons_zero, List.set_cons_succ])
              have hcvL : ∀ W : World, W.cell? ⟨wa.heap.size, 0, none⟩ = some (.int .u8 48) → (convert 54 9 (.slice (some ⟨wa.heap.size, 0, none⟩) 1 1)).run Try.prog W = .ok (.string (strOfNums [48])) W := fun W hW =>
                run_convert_bytes_arg (P := Try.prog) _ 54 5 Try.underlying54 Try.underlying5 wa.heap.size 0 1 1 [48] rfl (fun i hi => by
                  obtain rfl : i = 0 := by omega
                  exact hW) 9 Try.underlying9
              refine wpAnyH_str2 (S' := (fun w' => Fr [] wa w' ∧ (convert 54 9 (.slice (some ⟨wa.heap.size, 0, none⟩) 1 1)).run Try.prog w' = .ok (.string (strOfNums [48])) w')) (fun w' h => h.1) ⟨hHeld, hcvL _ (by go_simp)⟩ (fun hHeld' => ?_)
              clear hHeld hcvL
              have hHeld := hHeld'
              clear hHeld'
              refine wpAnyH_take (i := 7) (oi := ⟨some 91, _, _, _, _, _⟩) (v := .string (strOfNums [48])) rfl (by kernel_rfl) (by kernel_rfl) (by kernel_rfl) (fun _ _ _ h => h) (Or.inl ⟨by rfl, ?_⟩) hHeld ?_
              · intro w hSw; (try dsimp only at hSw); go_simp
              (try simp only [Act.put, List.setIfInBounds_toArray, List.set_cons_zero, List.set_cons_succ])
              refine wpAnyH_take (i := 8) (oi := ⟨some 92, _, _, _, _, _⟩) (v := .string (T.extract 0 (T.size - 1) ++ strOfNums [48])) rfl (by kernel_rfl) (by kernel_rfl) (by kernel_rfl) (fun _ _ _ h => h) (Or.inl ⟨by rfl, ?_⟩) hHeld ?_
              · intro w hSw; (try dsimp only at hSw); go_simp
              (try simp only [Act.put, List.setIfInBounds_toArray, List.set_cons_zero, List.set_cons_succ])
              refine wpAnyH_take (i := 9) (oi := ⟨some 18, _, _, _, _, _⟩) (v := .string (T.extract 0 (T.size - 1) ++ strOfNums [48])) rfl (by kernel_rfl) (by kernel_rfl) (by kernel_rfl) (fun _ _ _ h => h) (Or.inl ⟨by rfl, ?_⟩) hHeld ?_
              · intro w hSw; (try dsimp only at hSw); go_simp
              (try simp only [Act.put, List.setIfInBounds_toArray, List.set_cons_zero, List.set_cons_succ])
              have hW6 := hHeld.1
              clear hwr hnl
              refine wpAnyH_done (by kernel_rfl) ?_ _
              clear hHeld
              have hF6 := hFa.trans hW6
              have hg6 := hg4.fr hF6 (by simp)
              have e0 := hF6.cell_some b0 (by simp)
              have e1 := hF6.cell_some b1 (by simp)
              have e2 := hF6.cell_some b2 (by simp)
              have e3 := hF6.cell_some b3 (by simp)
              have e4 := hF6.cell_some b4 (by simp)
              have hFw6 := hF4.trans hF6
              generalize T.extract 0 (T.size - 1) ++ strOfNums [48] = O at *
              clear hW6 hFa hsl hex
              go_wp2_with (refine load_game rfl (.tmp 3) rfl _ rfl g hg6 ?_)
              refine (HS.out _ HTM.out HTM.out _ hFw6).mono ?_
              rintro e w7 ⟨n1, hn1, rfl, f7⟩
              obtain rfl := hn1.eq (hits_self T)
              have hval := HS4.out
              rw [hq, if_neg (by simp)] at hval
              rw [hval]
              have hF7 := hF6.trans f7
              have hg7 := hg4.fr hF7 (by simp)
              have i0 := hF7.cell_some b0 (by simp)
              have i1 := hF7.cell_some b1 (by simp)
              have i2 := hF7.cell_some b2 (by simp)
              have i3 := hF7.cell_some b3 (by simp)
              have i4 := hF7.cell_some b4 (by simp)
              have hFw7 := hF4.trans hF7
              have hWW : ((0 : Int) != 0) = false := by simp
              clear hval hn1 e0 e1 e2 e3 e4 hg6 f7 hF6 hFw6
              go_wp2_with (refine load_game_g (.tmp 3) rfl _ rfl g hg7 rfl ?_)
              refine (HS.out _ HOSZ.out HTM.out _ hFw7).mono ?_
              rintro e w8 ⟨n2, hn2, rfl, f8⟩
              obtain rfl := hn2.eq HO.out
              rw [ser_other]
              clear hn2
              go_wp2_with fail
              exact ⟨⟨k + 1, by omega, by go_num, by rw [HPS.out], hF7.trans f8⟩, by simp [intOf]; omega⟩
            · skip
              have hO : IsHits (T.extract 0 (T.size - 1) ++ strOfNums [49]) T 0 := hits_other T 49 (by omega) (by omega) (by omega) (by rw [HCB.out]; first | (have := d48; simp at this; omega) | omega)
              have HO := Lib.hid hO
              have hosz : (T.extract 0 (T.size - 1) ++ strOfNums [49]).size ≤ maxLen := by
                rw [ByteArray.size_append, strOfNums_size]; simp [ByteArray.size_extract]; unfold maxLen; omega
              have HOSZ := Lib.hid hosz
              have hTm2 : T.size ≤ maxLen := by unfold maxLen; omega
              have HTM := Lib.hid hTm2
              have hsl : (strOfNums [49]).size = 1 := by rw [strOfNums_size]; rfl
              have hex : (T.extract 0 (T.size - 1)).size ≤ 8 := by simp [ByteArray.size_extract]; omega
              clear hO hosz hTm2
              go_wp2_with fail
              obtain ⟨wa, hwa⟩ : ∃ wa, wa = wo.alloc (.cells #[.string name, .int .i64 2, .int .i64 price, .slice fa fl fc, .int .i64 digits, .slice pa pl pc] 53) := ⟨_, rfl⟩
              have hFa : Fr [] w4 wa := by rw [hwa]; exact hf.alloc _
              have hza : wa.heap.size = wo.heap.size + 1 := by rw [hwa]; simp
              rw [← hwa]
              have HZA := Lib.hid hza
              clear hwa hza
              have hwr : IntKind.i64.wrap ((T.size : Int) - 1) = (T.size : Int) - 1 := IntWalk.i64_in _ (by omega)
              have hnl : ¬ ((T.size : Int) < (T.size : Int) - 1) := by omega
              refine wp_region_held_drew (S := (fun w' => Fr [] wa w')) (by kernel_rfl) (Fr.refl [] _).drew (fun hHeld => ?_)
              refine wpAnyH_take (i := 0) (oi := ⟨some 84, _, _, _, _, _⟩) (v := .string T) rfl (by kernel_rfl) (by kernel_rfl) (by kernel_rfl) (fun _ _ _ h => h) (Or.inl ⟨by rfl, ?_⟩) hHeld ?_
              · intro w hSw; (try dsimp only at hSw); go_simp
              (try simp only [Act.put, List.setIfInBounds_toArray, List.set_cons_zero, List.set_cons_succ])
              refine wpAnyH_take (i := 1) (oi := ⟨some 85, _, _, _, _, _⟩) (v := .string T) rfl (by kernel_rfl) (by kernel_rfl) (by kernel_rfl) (fun _ _ _ h => h) (Or.inl ⟨by rfl, ?_⟩) hHeld ?_
              · intro w hSw; (try dsimp only at hSw); go_simp
              (try simp only [Act.put, List.setIfInBounds_toArray, List.set_cons_zero, List.set_cons_succ])
              refine wpAnyH_take (i := 2) (oi := ⟨some 86, _, _, _, _, _⟩) (v := .int .i64 T.size) rfl (by kernel_rfl) (by kernel_rfl) (by kernel_rfl) (fun _ _ _ h => h) (Or.inl ⟨by rfl, ?_⟩) hHeld ?_
              · intro w hSw; (try dsimp only at hSw); go_simp
              (try simp only [Act.put, List.setIfInBounds_toArray, List.set_cons_zero, List.set_cons_succ])
              refine wpAnyH_take (i := 3) (oi := ⟨some 87, _, _, _, _, _⟩) (v := .int .i64 ((T.size : Int) - 1)) rfl (by kernel_rfl) (by kernel_rfl) (by kernel_rfl) (fun _ _ _ h => h) (Or.inl ⟨by rfl, ?_⟩) hHeld ?_
              · intro w hSw; (try dsimp only at hSw); go_simp
              (try simp only [Act.put, List.setIfInBounds_toArray, List.set_cons_zero, List.set_cons_succ])
              refine wpAnyH_take (i := 4) (oi := ⟨some 88, _, _, _, _, _⟩) (v := .string (T.extract 0 (T.size - 1))) rfl (by kernel_rfl) (by kernel_rfl) (by kernel_rfl) (fun _ _ _ h => h) (Or.inl ⟨by rfl, ?_⟩) hHeld ?_
              · intro w hSw; (try dsimp only at hSw); go_simp
              (try simp only [Act.put, List.setIfInBounds_toArray, List.set_cons_zero, List.set_cons_succ])
              refine wpAnyH_take (i := 5) (oi := ⟨some 89, _, _, _, _, _⟩) (v := .int .u8 49) rfl (by kernel_rfl) (by kernel_rfl) (by kernel_rfl) (fun _ _ _ h => h) (Or.inl ⟨by rfl, ?_⟩) hHeld ?_
              · intro w hSw; (try dsimp only at hSw); go_simp
              (try simp only [Act.put, List.setIfInBounds_toArray, List.set_cons_zero, List.set_cons_succ])
              refine wpAnyH_ready (rs := [6]) (by kernel_rfl) (by simp) ?_
              refine AllReadyH.cons (o := ⟨some 90, _, _, _, _, _⟩) rfl (fun K hK => ?_) AllReadyH.nil
              rw [if_pos (by rfl)]
              go_simp
              refine hK.out _ _ (hHeld.alloc _) (fun hHeld' => ?_)
              clear hK K hHeld
              have hHeld := hHeld'
              clear hHeld'
              (try simp only [Act.put, List.setIfInBounds_toArray, List.set_cons_zero, List.set_cons_succ])
              have hcvL : ∀ W : World, W.cell? ⟨wa.heap.size, 0, none⟩ = some (.int .u8 49) → (convert 54 9 (.slice (some ⟨wa.heap.size, 0, none⟩) 1 1)).run Try.prog W = .ok (.string (strOfNums [49])) W := fun W hW =>
                run_convert_bytes_arg (P := Try.prog) _ 54 5 Try.underlying54 Try.underlying5 wa.heap.size 0 1 1 [49] rfl (fun i hi => by
                  obtain rfl : i = 0 := by omega
                  exact hW) 9 Try.underlying9
              refine wpAnyH_str2 (S' := (fun w' => Fr [] wa w' ∧ (convert 54 9 (.slice (some ⟨wa.heap.size, 0, none⟩) 1 1)).run Try.prog w' = .ok (.string (strOfNums [49])) w')) (fun w' h => h.1) ⟨hHeld, hcvL _ (by go_simp)⟩ (fun hHeld' => ?_)
              clear hHeld hcvL
              have hHeld := hHeld'
              clear hHeld'
              refine wpAnyH_take (i := 7) (oi := ⟨some 91, _, _, _, _, _⟩) (v := .string (strOfNums [49])) rfl (by kernel_rfl) (by kernel_rfl) (by kernel_rfl) (fun _ _ _ h => h) (Or.inl ⟨by rfl, ?_⟩) hHeld ?_
              · intro w hSw; (try dsimp only at hSw); go_simp
              (try simp only [Act.put, List.setIfInBounds_toArray, List.set_cons_zero, List.set_cons_succ])
              refine wpAnyH_take (i := 8) (oi := ⟨some 92, _, _, _, _, _⟩) (v := .string (T.extract 0 (T.size - 1) ++ strOfNums [49])) rfl (by kernel_rfl) (by kernel_rfl) (by kernel_rfl) (fun _ _ _ h => h) (Or.inl ⟨by rfl, ?_⟩) hHeld ?_
              · intro w hSw; (try dsimp only at hSw); go_simp
              (try simp only [Act.put, List.setIfInBounds_toArray, List.set_cons_zero, List.set_cons_succ])
              refine wpAnyH_take (i := 9) (oi := ⟨some 18, _, _, _, _, _⟩) (v := .string (T.extract 0 (T.size - 1) ++ strOfNums [49])) rfl (by kernel_rfl) (by kernel_rfl) (by kernel_rfl) (fun _ _ _ h => h) (Or.inl ⟨by rfl, ?_⟩) hHeld ?_
              · intro w hSw; (try dsimp only at hSw); go_simp
              (try simp only [Act.put, List.setIfInBounds_toArray, List.set_cons_zero, List.set_cons_succ])
              have hW6 := hHeld.1
              clear hwr hnl
              refine wpAnyH_done (by kernel_rfl) ?_ _
              clear hHeld
              have hF6 := hFa.trans hW6
              have hg6 := hg4.fr hF6 (by simp)
              have e0 := hF6.cell_some b0 (by simp)
              have e1 := hF6.cell_some b1 (by simp)
              have e2 := hF6.cell_some b2 (by simp)
              have e3 := hF6.cell_some b3 (by simp)
              have e4 := hF6.cell_some b4 (by simp)
              have hFw6 := hF4.trans hF6
              generalize T.extract 0 (T.size - 1) ++ strOfNums [49] = O at *
              clear hW6 hFa hsl hex
              go_wp2_with (refine load_game rfl (.tmp 3) rfl _ rfl g hg6 ?_)
              refine (HS.out _ HTM.out HTM.out _ hFw6).mono ?_
              rintro e w7 ⟨n1, hn1, rfl, f7⟩
              obtain rfl := hn1.eq (hits_self T)
              have hval := HS4.out
              rw [hq, if_neg (by simp)] at hval
              rw [hval]
              have hF7 := hF6.trans f7
              have hg7 := hg4.fr hF7 (by simp)
              have i0 := hF7.cell_some b0 (by simp)
              have i1 := hF7.cell_some b1 (by simp)
              have i2 := hF7.cell_some b2 (by simp)
              have i3 := hF7.cell_some b3 (by simp)
              have i4 := hF7.cell_some b4 (by simp)
              have hFw7 := hF4.trans hF7
              have hWW : ((0 : Int) != 0) = false := by simp
              clear hval hn1 e0 e1 e2 e3 e4 hg6 f7 hF6 hFw6
              go_wp2_with (refine load_game_g (.tmp 3) rfl _ rfl g hg7 rfl ?_)
              refine (HS.out _ HOSZ.out HTM.out _ hFw7).mono ?_
              rintro e w8 ⟨n2, hn2, rfl, f8⟩
              obtain rfl := hn2.eq HO.out
              rw [ser_other]
              clear hn2
              go_wp2_with fail
              exact ⟨⟨k + 1, by omega, by go_num, by rw [HPS.out], hF7.trans f8⟩, by simp [intOf]; omega⟩
          · have hbm : (m / p % 2 == 1) = true := by rw [← HBT2.out]; exact hq
            obtain ⟨pg, po, rfl, hcl⟩ := HRP.out (T.size - 1) (by have := HS2.out; omega)
            have hcc := (hF.alloc (.cells #[.string name, .int .i64 2, .int .i64 price, .slice fa fl fc, .int .i64 digits, .slice (some ⟨pg, po, none⟩) pl pc] 53)).cell_some hcl (by simp)
            generalize prizes.getD (T.size - 1) 0 = y at *
            clear hcl
            cases d48 : (((T[T.size - 1]'(by omega)).toNat : Int) == 48)
            · skip
              have hO : IsHits (T.extract 0 (T.size - 1) ++ strOfNums [48]) T 0 := hits_other T 48 (by omega) (by omega) (by omega) (by rw [HCB.out]; first | (have := d48; simp at this; omega) | omega)
              have HO := Lib.hid hO
              have hosz : (T.extract 0 (T.size - 1) ++ strOfNums [48]).size ≤ maxLen := by
                rw [ByteArray.size_append, strOfNums_size]; simp [ByteArray.size_extract]; unfold maxLen; omega
              have HOSZ := Lib.hid hosz
              have hTm2 : T.size ≤ maxLen := by unfold maxLen; omega
              have HTM := Lib.hid hTm2
              have hsl : (strOfNums [48]).size = 1 := by rw [strOfNums_size]; rfl
              have hex : (T.extract 0 (T.size - 1)).size ≤ 8 := by simp [ByteArray.size_extract]; omega
              clear hO hosz hTm2
              go_wp2_with fail
              obtain ⟨wa, hwa⟩ : ∃ wa, wa = wo.alloc (.cells #[.string name, .int .i64 2, .int .i64 price, .slice fa fl fc, .int .i64 digits, .slice (some ⟨pg, po, none⟩) pl pc] 53) := ⟨_, rfl⟩
              have hFa : Fr [] w4 wa := by rw [hwa]; exact hf.alloc _
              have hza : wa.heap.size = wo.heap.size + 1 := by rw [hwa]; simp
              rw [← hwa]
              have HZA := Lib.hid hza
              clear hwa hza
              have hwr : IntKind.i64.wrap ((T.size : Int) - 1) = (T.size : Int) - 1 := IntWalk.i64_in _ (by omega)
              have hnl : ¬ ((T.size : Int) < (T.size : Int) - 1) := by omega
              refine wp_region_held_drew (S := (fun w' => Fr [] wa w')) (by kernel_rfl) (Fr.refl [] _).drew (fun hHeld => ?_)
              refine wpAnyH_take (i := 0) (oi := ⟨some 84, _, _, _, _, _⟩) (v := .string T) rfl (by kernel_rfl) (by kernel_rfl) (by kernel_rfl) (fun _ _ _ h => h) (Or.inl ⟨by rfl, ?_⟩) hHeld ?_
              · intro w hSw; (try dsimp only at hSw); go_simp
              (try simp only [Act.put, List.setIfInBounds_toArray, List.set_cons_zero, List.set_cons_succ])
              refine wpAnyH_take (i := 1) (oi := ⟨some 85, _, _, _, _, _⟩) (v := .string T) rfl (by kernel_rfl) (by kernel_rfl) (by kernel_rfl) (fun _ _ _ h => h) (Or.inl ⟨by rfl, ?_⟩) hHeld ?_
              · intro w hSw; (try dsimp only at hSw); go_simp
              (try simp only [Act.put, List.setIfInBounds_toArray, List.set_cons_zero, List.set_cons_succ])
              refine wpAnyH_take (i := 2) (oi := ⟨some 86, _, _, _, _, _⟩) (v := .int .i64 T.size) rfl (by kernel_rfl) (by kernel_rfl) (by kernel_rfl) (fun _ _ _ h => h) (Or.inl ⟨by rfl, ?_⟩) hHeld ?_
              · intro w hSw; (try dsimp only at hSw); go_simp
              (try simp only [Act.put, List.setIfInBounds_toArray, List.set_cons_zero, List.set_cons_succ])
              refine wpAnyH_take (i := 3) (oi := ⟨some 87, _, _, _, _, _⟩) (v := .int .i64 ((T.size : Int) - 1)) rfl (by kernel_rfl) (by kernel_rfl) (by kernel_rfl) (fun _ _ _ h => h) (Or.inl ⟨by rfl, ?_⟩) hHeld ?_
              · intro w hSw; (try dsimp only at hSw); go_simp
              (try simp only [Act.put, List.setIfInBounds_toArray, List.set_cons_zero, List.set_cons_succ])
              refine wpAnyH_take (i := 4) (oi := ⟨some 88, _, _, _, _, _⟩) (v := .string (T.extract 0 (T.size - 1))) rfl (by kernel_rfl) (by kernel_rfl) (by kernel_rfl) (fun _ _ _ h => h) (Or.inl ⟨by rfl, ?_⟩) hHeld ?_
              · intro w hSw; (try dsimp only at hSw); go_simp
              (try simp only [Act.put, List.setIfInBounds_toArray, List.set_cons_zero, List.set_cons_succ])
              refine wpAnyH_take (i := 5) (oi := ⟨some 89, _, _, _, _, _⟩) (v := .int .u8 48) rfl (by kernel_rfl) (by kernel_rfl) (by kernel_rfl) (fun _ _ _ h => h) (Or.inl ⟨by rfl, ?_⟩) hHeld ?_
              · intro w hSw; (try dsimp only at hSw); go_simp
              (try simp only [Act.put, List.setIfInBounds_toArray, List.set_cons_zero, List.set_cons_succ])
              refine wpAnyH_ready (rs := [6]) (by kernel_rfl) (by simp) ?_
              refine AllReadyH.cons (o := ⟨some 90, _, _, _, _, _⟩) rfl (fun K hK => ?_) AllReadyH.nil
              rw [if_pos (by rfl)]
              go_simp
              refine hK.out _ _ (hHeld.alloc _) (fun hHeld' => ?_)
              clear hK K hHeld
              have hHeld := hHeld'
              clear hHeld'
              (try simp only [Act.put, List.setIfInBounds_toArray, List.set_cons_zero, List.set_cons_succ])
              have hcvL : ∀ W : World, W.cell? ⟨wa.heap.size, 0, none⟩ = some (.int .u8 48) → (convert 54 9 (.slice (some ⟨wa.heap.size, 0, none⟩) 1 1)).run Try.prog W = .ok (.string (strOfNums [48])) W := fun W hW =>
                run_convert_bytes_arg (P := Try.prog) _ 54 5 Try.underlying54 Try.underlying5 wa.heap.size 0 1 1 [48] rfl (fun i hi => by
                  obtain rfl : i = 0 := by omega
                  exact hW) 9 Try.underlying9
              refine wpAnyH_str2 (S' := (fun w' => Fr [] wa w' ∧ (convert 54 9 (.slice (some ⟨wa.heap.size, 0, none⟩) 1 1)).run Try.prog w' = .ok (.string (strOfNums [48])) w')) (fun w' h => h.1) ⟨hHeld, hcvL _ (by go_simp)⟩ (fun hHeld' => ?_)
              clear hHeld hcvL
              have hHeld := hHeld'
              clear hHeld'
              refine wpAnyH_take (i := 7) (oi := ⟨some 91, _, _, _, _, _⟩) (v := .string (strOfNums [48])) rfl (by kernel_rfl) (by kernel_rfl) (by kernel_rfl) (fun _ _ _ h => h) (Or.inl ⟨by rfl, ?_⟩) hHeld ?_
              · intro w hSw; (try dsimp only at hSw); go_simp
              (try simp only [Act.put, List.setIfInBounds_toArray, List.set_cons_zero, List.set_cons_succ])
              refine wpAnyH_take (i := 8) (oi := ⟨some 92, _, _, _, _, _⟩) (v := .string (T.extract 0 (T.size - 1) ++ strOfNums [48])) rfl (by kernel_rfl) (by kernel_rfl) (by kernel_rfl) (fun _ _ _ h => h) (Or.inl ⟨by rfl, ?_⟩) hHeld ?_
              · intro w hSw; (try dsimp only at hSw); go_simp
              (try simp only [Act.put, List.setIfInBounds_toArray, List.set_cons_zero, List.set_cons_succ])
              refine wpAnyH_take (i := 9) (oi := ⟨some 18, _, _, _, _, _⟩) (v := .string (T.extract 0 (T.size - 1) ++ strOfNums [48])) rfl (by kernel_rfl) (by kernel_rfl) (by kernel_rfl) (fun _ _ _ h => h) (Or.inl ⟨by rfl, ?_⟩) hHeld ?_
              · intro w hSw; (try dsimp only at hSw); go_simp
              (try simp only [Act.put, List.setIfInBounds_toArray, List.set_cons_zero, List.set_cons_succ])
              have hW6 := hHeld.1
              clear hwr hnl
              refine wpAnyH_done (by kernel_rfl) ?_ _
              clear hHeld
              have hF6 := hFa.trans hW6
              have hg6 := hg4.fr hF6 (by simp)
              have e0 := hF6.cell_some b0 (by simp)
              have e1 := hF6.cell_some b1 (by simp)
              have e2 := hF6.cell_some b2 (by simp)
              have e3 := hF6.cell_some b3 (by simp)
              have e4 := hF6.cell_some b4 (by simp)
              have hFw6 := hF4.trans hF6
              generalize T.extract 0 (T.size - 1) ++ strOfNums [48] = O at *
              clear hW6 hFa hsl hex
              go_wp2_with (refine load_game rfl (.tmp 3) rfl _ rfl g hg6 ?_)
              refine (HS.out _ HTM.out HTM.out _ hFw6).mono ?_
              rintro e w7 ⟨n1, hn1, rfl, f7⟩
              obtain rfl := hn1.eq (hits_self T)
              have hval := HS4.out
              rw [hq, if_pos rfl] at hval
              rw [hval]
              have hF7 := hF6.trans f7
              have hg7 := hg4.fr hF7 (by simp)
              have i0 := hF7.cell_some b0 (by simp)
              have i1 := hF7.cell_some b1 (by simp)
              have i2 := hF7.cell_some b2 (by simp)
              have i3 := hF7.cell_some b3 (by simp)
              have i4 := hF7.cell_some b4 (by simp)
              have hFw7 := hF4.trans hF7
              have hWW : ((y : Int) != y) = false := by simp
              clear hval hn1 e0 e1 e2 e3 e4 hg6 f7 hF6 hFw6
              go_wp2_with (refine load_game_g (.tmp 3) rfl _ rfl g hg7 rfl ?_)
              refine (HS.out _ HOSZ.out HTM.out _ hFw7).mono ?_
              rintro e w8 ⟨n2, hn2, rfl, f8⟩
              obtain rfl := hn2.eq HO.out
              rw [ser_other]
              clear hn2
              go_wp2_with fail
              exact ⟨⟨k + 1, by omega, by go_num, by rw [HPS.out], hF7.trans f8⟩, by simp [intOf]; omega⟩
            · skip
              have hO : IsHits (T.extract 0 (T.size - 1) ++ strOfNums [49]) T 0 := hits_other T 49 (by omega) (by omega) (by omega) (by rw [HCB.out]; first | (have := d48; simp at this; omega) | omega)
              have HO := Lib.hid hO
              have hosz : (T.extract 0 (T.size - 1) ++ strOfNums [49]).size ≤ maxLen := by
                rw [ByteArray.size_append, strOfNums_size]; simp [ByteArray.size_extract]; unfold maxLen; omega
              have HOSZ := Lib.hid hosz
              have hTm2 : T.size ≤ maxLen := by unfold maxLen; omega
              have HTM := Lib.hid hTm2
              have hsl : (strOfNums [49]).size = 1 := by rw [strOfNums_size]; rfl
              have hex : (T.extract 0 (T.size - 1)).size ≤ 8 := by simp [ByteArray.size_extract]; omega
              clear hO hosz hTm2
              go_wp2_with fail
              obtain ⟨wa, hwa⟩ : ∃ wa, wa = wo.alloc (.cells #[.string name, .int .i64 2, .int .i64 price, .slice fa fl fc, .int .i64 digits, .slice (some ⟨pg, po, none⟩) pl pc] 53) := ⟨_, rfl⟩
              have hFa : Fr [] w4 wa := by rw [hwa]; exact hf.alloc _
              have hza : wa.heap.size = wo.heap.size + 1 := by rw [hwa]; simp
              rw [← hwa]
              have HZA := Lib.hid hza
              clear hwa hza
              have hwr : IntKind.i64.wrap ((T.size : Int) - 1) = (T.size : Int) - 1 := IntWalk.i64_in _ (by omega)
              have hnl : ¬ ((T.size : Int) < (T.size : Int) - 1) := by omega
              refine wp_region_held_drew (S := (fun w' => Fr [] wa w')) (by kernel_rfl) (Fr.refl [] _).drew (fun hHeld => ?_)
              refine wpAnyH_take (i := 0) (oi := ⟨some 84, _, _, _, _, _⟩) (v := .string T) rfl (by kernel_rfl) (by kernel_rfl) (by kernel_rfl) (fun _ _ _ h => h) (Or.inl ⟨by rfl, ?_⟩) hHeld ?_
              · intro w hSw; (try dsimp only at hSw); go_simp
              (try simp only [Act.put, List.setIfInBounds_toArray, List.set_cons_zero, List.set_cons_succ])
              refine wpAnyH_take (i := 1) (oi := ⟨some 85, _, _, _, _, _⟩) (v := .string T) rfl (by kernel_rfl) (by kernel_rfl) (by kernel_rfl) (fun _ _ _ h => h) (Or.inl ⟨by rfl, ?_⟩) hHeld ?_
              · intro w hSw; (try dsimp only at hSw); go_simp
              (try simp only [Act.put, List.setIfInBounds_toArray, List.set_cons_zero, List.set_cons_succ])
              refine wpAnyH_take (i := 2) (oi := ⟨some 86, _, _, _, _, _⟩) (v := .int .i64 T.size) rfl (by kernel_rfl) (by kernel_rfl) (by kernel_rfl) (fun _ _ _ h => h) (Or.inl ⟨by rfl, ?_⟩) hHeld ?_
              · intro w hSw; (try dsimp only at hSw); go_simp
              (try simp only [Act.put, List.setIfInBounds_toArray, List.set_cons_zero, List.set_cons_succ])
              refine wpAnyH_take (i := 3) (oi := ⟨some 87, _, _, _, _, _⟩) (v := .int .i64 ((T.size : Int) - 1)) rfl (by kernel_rfl) (by kernel_rfl) (by kernel_rfl) (fun _ _ _ h => h) (Or.inl ⟨by rfl, ?_⟩) hHeld ?_
              · intro w hSw; (try dsimp only at hSw); go_simp
              (try simp only [Act.put, List.setIfInBounds_toArray, List.set_cons_zero, List.set_cons_succ])
              refine wpAnyH_take (i := 4) (oi := ⟨some 88, _, _, _, _, _⟩) (v := .string (T.extract 0 (T.size - 1))) rfl (by kernel_rfl) (by kernel_rfl) (by kernel_rfl) (fun _ _ _ h => h) (Or.inl ⟨by rfl, ?_⟩) hHeld ?_
              · intro w hSw; (try dsimp only at hSw); go_simp
              (try simp only [Act.put, List.setIfInBounds_toArray, List.set_cons_zero, List.set_cons_succ])
              refine wpAnyH_take (i := 5) (oi := ⟨some 89, _, _, _, _, _⟩) (v := .int .u8 49) rfl (by kernel_rfl) (by kernel_rfl) (by kernel_rfl) (fun _ _ _ h => h) (Or.inl ⟨by rfl, ?_⟩) hHeld ?_
              · intro w hSw; (try dsimp only at hSw); go_simp
              (try simp only [Act.put, List.setIfInBounds_toArray, List.set_cons_zero, List.set_cons_succ])
              refine wpAnyH_ready (rs := [6]) (by kernel_rfl) (by simp) ?_
              refine AllReadyH.cons (o := ⟨some 90, _, _, _, _, _⟩) rfl (fun K hK => ?_) AllReadyH.nil
              rw [if_pos (by rfl)]
              go_simp
              refine hK.out _ _ (hHeld.alloc _) (fun hHeld' => ?_)
              clear hK K hHeld
              have hHeld := hHeld'
              clear hHeld'
              (try simp only [Act.put, List.setIfInBounds_toArray, List.set_cons_zero, List.set_cons_succ])
              have hcvL : ∀ W : World, W.cell? ⟨wa.heap.size, 0, none⟩ = some (.int .u8 49) → (convert 54 9 (.slice (some ⟨wa.heap.size, 0, none⟩) 1 1)).run Try.prog W = .ok (.string (strOfNums [49])) W := fun W hW =>
                run_convert_bytes_arg (P := Try.prog) _ 54 5 Try.underlying54 Try.underlying5 wa.heap.size 0 1 1 [49] rfl (fun i hi => by
                  obtain rfl : i = 0 := by omega
                  exact hW) 9 Try.underlying9
              refine wpAnyH_str2 (S' := (fun w' => Fr [] wa w' ∧ (convert 54 9 (.slice (some ⟨wa.heap.size, 0, none⟩) 1 1)).run Try.prog w' = .ok (.string (strOfNums [49])) w')) (fun w' h => h.1) ⟨hHeld, hcvL _ (by go_simp)⟩ (fun hHeld' => ?_)
              clear hHeld hcvL
              have hHeld := hHeld'
              clear hHeld'
              refine wpAnyH_take (i := 7) (oi := ⟨some 91, _, _, _, _, _⟩) (v := .string (strOfNums [49])) rfl (by kernel_rfl) (by kernel_rfl) (by kernel_rfl) (fun _ _ _ h => h) (Or.inl ⟨by rfl, ?_⟩) hHeld ?_
              · intro w hSw; (try dsimp only at hSw); go_simp
              (try simp only [Act.put, List.setIfInBounds_toArray, List.set_cons_zero, List.set_cons_succ])
              refine wpAnyH_take (i := 8) (oi := ⟨some 92, _, _, _, _, _⟩) (v := .string (T.extract 0 (T.size - 1) ++ strOfNums [49])) rfl (by kernel_rfl) (by kernel_rfl) (by kernel_rfl) (fun _ _ _ h => h) (Or.inl ⟨by rfl, ?_⟩) hHeld ?_
              · intro w hSw; (try dsimp only at hSw); go_simp
              (try simp only [Act.put, List.setIfInBounds_toArray, List.set_cons_zero, List.set_cons_succ])
              refine wpAnyH_take (i := 9) (oi := ⟨some 18, _, _, _, _, _⟩) (v := .string (T.extract 0 (T.size - 1) ++ strOfNums [49])) rfl (by kernel_rfl) (by kernel_rfl) (by kernel_rfl) (fun _ _ _ h => h) (Or.inl ⟨by rfl, ?_⟩) hHeld ?_
              · intro w hSw; (try dsimp only at hSw); go_simp
              (try simp only [Act.put, List.setIfInBounds_toArray, List.set_cons_zero, List.set_cons_succ])
              have hW6 := hHeld.1
              clear hwr hnl
              refine wpAnyH_done (by kernel_rfl) ?_ _
              clear hHeld
              have hF6 := hFa.trans hW6
              have hg6 := hg4.fr hF6 (by simp)
              have e0 := hF6.cell_some b0 (by simp)
              have e1 := hF6.cell_some b1 (by simp)
              have e2 := hF6.cell_some b2 (by simp)
              have e3 := hF6.cell_some b3 (by simp)
              have e4 := hF6.cell_some b4 (by simp)
              have hFw6 := hF4.trans hF6
              generalize T.extract 0 (T.size - 1) ++ strOfNums [49] = O at *
              clear hW6 hFa hsl hex
              go_wp2_with (refine load_game rfl (.tmp 3) rfl _ rfl g hg6 ?_)
              refine (HS.out _ HTM.out HTM.out _ hFw6).mono ?_
              rintro e w7 ⟨n1, hn1, rfl, f7⟩
              obtain rfl := hn1.eq (hits_self T)
              have hval := HS4.out
              rw [hq, if_pos rfl] at hval
              rw [hval]
              have hF7 := hF6.trans f7
              have hg7 := hg4.fr hF7 (by simp)
              have i0 := hF7.cell_some b0 (by simp)
              have i1 := hF7.cell_some b1 (by simp)
              have i2 := hF7.cell_some b2 (by simp)
              have i3 := hF7.cell_some b3 (by simp)
              have i4 := hF7.cell_some b4 (by simp)
              have hFw7 := hF4.trans hF7
              have hWW : ((y : Int) != y) = false := by simp
              clear hval hn1 e0 e1 e2 e3 e4 hg6 f7 hF6 hFw6
              go_wp2_with (refine load_game_g (.tmp 3) rfl _ rfl g hg7 rfl ?_)
              refine (HS.out _ HOSZ.out HTM.out _ hFw7).mono ?_
              rintro e w8 ⟨n2, hn2, rfl, f8⟩
              obtain rfl := hn2.eq HO.out
              rw [ser_other]
              clear hn2
              go_wp2_with fail
              exact ⟨⟨k + 1, by omega, by go_num, by rw [HPS.out], hF7.trans f8⟩, by simp [intOf]; omega⟩
      · obtain rfl : k = n := by omega
        go_wp2_with fail
        refine (pays40_any _).mono ?_
        rintro e w7 ⟨rfl, f7⟩
        go_wp2_with fail
        go_ret
        exact ⟨rfl, ((hF4.trans hf).trans f7).below⟩
  · have hno : ¬ dE g s = 0 ∨ (dE g s = 0 ∧ ¬ priE g m = 0) ∨ (dE g s = 0 ∧ priE g m = 0 ∧ (dT g s).size = 0) := by
      by_cases h1 : dE g s = 0
      · by_cases h2 : priE g m = 0
        · exact .inr (.inr ⟨h1, h2, by omega⟩)
        · exact .inr (.inl ⟨h1, h2⟩)
      · exact .inl h1
    clear hgood
    generalize dN g s = N at *
    generalize priV g m = V at *
    have hTe : (dT g s).size = 0 → dT g s = ⟨#[]⟩ := ba_none
    generalize dT g s = T at *
    generalize dE g s = E at *
    generalize priE g m = E2 at *
    have HD := Lib.hid hD
    have HPR := Lib.hid hP
    clear hD hP hok
    rcases hno with h1 | ⟨h1, h2⟩ | ⟨h1, h2, h3⟩
    · have d1 : (E != 0) = true := by simpa using h1
      clear h1 hTe
      go_enter Try.func13, Try.ntmps13
      go_wp2_with (first | (refine box_game rfl (.tmp 0) rfl g rfl ?_; intro w1 hg1 hz1 hf1) | (refine load_game rfl (.tmp 3) rfl _ rfl g hg1 ?_))
      refine (HD.out _ hf1).mono ?_
      rintro e w2 ⟨rfl, f2⟩
      have hg2 := hg1.fr f2 (by simp)
      have hF2 := hf1.trans f2
      go_wp2_with (refine load_game rfl (.tmp 3) rfl _ rfl g hg2 ?_)
      refine (HPR.out _ hF2).mono ?_
      rintro e w3 ⟨rfl, f3⟩
      go_wp2_with fail
      refine (pays40_any _).mono ?_
      rintro e w7 ⟨rfl, f7⟩
      go_wp2_with fail
      go_ret
      exact ⟨rfl, ((hF2.trans f3).trans f7).below⟩
    · have d2 : (E2 != 0) = true := by simpa using h2
      subst h1
      clear h2 hTe
      go_enter Try.func13, Try.ntmps13
      go_wp2_with (first | (refine box_game rfl (.tmp 0) rfl g rfl ?_; intro w1 hg1 hz1 hf1) | (refine load_game rfl (.tmp 3) rfl _ rfl g hg1 ?_))
      refine (HD.out _ hf1).mono ?_
      rintro e w2 ⟨rfl, f2⟩
      have hg2 := hg1.fr f2 (by simp)
      have hF2 := hf1.trans f2
      go_wp2_with (refine load_game rfl (.tmp 3) rfl _ rfl g hg2 ?_)
      refine (HPR.out _ hF2).mono ?_
      rintro e w3 ⟨rfl, f3⟩
      go_wp2_with fail
      refine (pays40_any _).mono ?_
      rintro e w7 ⟨rfl, f7⟩
      go_wp2_with fail
      go_ret
      exact ⟨rfl, ((hF2.trans f3).trans f7).below⟩
    · subst h1
      subst h2
      obtain rfl := hTe h3
      clear hTe h3
      go_enter Try.func13, Try.ntmps13
      go_wp2_with (first | (refine box_game rfl (.tmp 0) rfl g rfl ?_; intro w1 hg1 hz1 hf1) | (refine load_game rfl (.tmp 3) rfl _ rfl g hg1 ?_))
      refine (HD.out _ hf1).mono ?_
      rintro e w2 ⟨rfl, f2⟩
      have hg2 := hg1.fr f2 (by simp)
      have hF2 := hf1.trans f2
      go_wp2_with (refine load_game rfl (.tmp 3) rfl _ rfl g hg2 ?_)
      refine (HPR.out _ hF2).mono ?_
      rintro e w3 ⟨rfl, f3⟩
      go_wp2_with fail
      refine (pays40_any _).mono ?_
      rintro e w7 ⟨rfl, f7⟩
      go_wp2_with fail
      go_ret
      exact ⟨rfl, ((hF2.trans f3).trans f7).below⟩
theorem own : ownKnob Try.prog.godebug = none := by kernel_rfl
theorem laidOut : laidOutB Try.prog = true := by kernel_rfl
set_option maxRecDepth 100000 in
theorem lifted (os : Os) (started : os.Started) (H : Type) (enc : TypeId × Value → H) :
    ReturnsInHanded {} Try.checked os 13 .any (Rows.addonPaysSpec.pre6 enc Try.prog Try.f13 Rows.addonPaysRow.domain false) (Rows.addonPaysSpec.post enc Try.prog Try.f13 false true false false) := by
  refine returnsInHanded_of_change (C := Try.checked) own started (by kernel_rfl) Try.func13
    (ChangeSpec.witness6 (enc := enc) (C := Try.checked) false ⟨#[], #[.agg #[.string ByteArray.empty, .int .i64 0, .int .i64 0, .int .i64 0, .int .i64 0, .int .i64 0, .int .i64 0, .int .i64 0, .int .i64 0, .int .i64 0, .int .i64 0, .int .i64 0, .int .i64 0, .int .i64 0, .int .i64 0, .int .i64 0, .int .i64 0, .int .i64 0, .int .i64 0, .int .i64 0, .slice none 0 0, .slice none 0 0], .int .i64 0, .int .u64 0], []⟩ 8 (by kernel_rfl) (by kernel_rfl) (by kernel_rfl) (by kernel_rfl)) ?_
  intro W base args ds gs before hval0 hW hcnd _
  have hval : ∀ (j : Nat) t v, Try.f13.params[j]? = some t → args[j]? = some v → Value.okWide Try.prog W .any base t v := hval0
  have hW' := hW
  obtain ⟨p, q, hA0, hV, rfl, hfz, hnd⟩ := hW
  have hA : DataW.TrodAll enc Try.prog W 0 (fun _ => true) true Try.f13.params.toList args.toList ds p := hA0
  rw [Try.params13] at hA hval
  obtain ⟨v0, vs0, d0, ds0, p0, q0, hargs, rfl, rfl, h0, r0⟩ := trodAll_cons hA
  obtain ⟨v1, vs1, d1, ds1, p1, q1, rfl, rfl, rfl, h1, r1⟩ := trodAll_cons r0
  obtain ⟨v2, vs2, d2, ds2, p2, q2, rfl, rfl, rfl, h2, r2⟩ := trodAll_cons r1
  obtain ⟨rfl, rfl, rfl⟩ := trodAll_nil r2
  obtain rfl : args = #[v0, v1, v2] := by cases args; simp_all
  obtain ⟨rfl, rfl⟩ := trodVars_none hV
  have k0 := h0
  have lt0 : ∀ x ∈ p0, x.block < W.heap.size := by obtain ⟨m, hm⟩ := k0; exact DataW.trod_lt m _ _ _ hm
  obtain ⟨g0, hv0, hg0⟩ := open_game (hval 0 29 v0 rfl rfl) h0
  obtain ⟨a1, rfl, rfl, rfl, w1⟩ := open_int Try.underlying3 (hval 1 3 v1 rfl rfl) h1
  obtain ⟨a2, rfl, rfl, rfl, w2⟩ := open_int Try.underlying48 (hval 2 48 v2 rfl rfl) h2
  clear hA0 hval0
  refine (walk v0 g0 a1 a2 W hv0 hg0 w1 w2).mono fun e W' ⟨he, bel⟩ => ?_
  subst he
  exact ⟨_, rfl, _, _, _, [], _, [], hW', trodAll_mk1 (shut_bool Try.underlying4 _), (trodAll_cons_mk (Below.trod laidOut (by kernel_rfl) (of_decide_eq_true (by kernel_rfl)) k0 bel lt0) (trodAll_cons_mk (shut_int Try.underlying3 w1) (trodAll_cons_mk (shut_int Try.underlying48 w2) trodAll_mk0))), rfl, bel.frame _, fun h => by cases h⟩
theorem over : Rows.addonPaysRow.holds Try.pinned (OpenSpec.ofChange Rows.addonPaysSpec) :=
  OpenClaim.holds_of_wide 13 Try.f13 rfl rfl rfl rfl rfl rfl rfl ⟨rfl, rfl, rfl, rfl, rfl⟩ rfl rfl rfl rfl rfl (by kernel_rfl) Try.func13 (by kernel_rfl)
    (of_decide_eq_true (by kernel_rfl)) (by unfold Func.isWrapper; first | (rw [if_pos (by decide +kernel)]; kernel_rfl) | (rw [if_neg (by decide +kernel)]; exact ⟨rfl, rfl⟩))
    (fun os started H enc _ => lifted os started H enc)
/-- THE STATEMENT -/
theorem proved : Rows.AddonPaysSaid := over
end Go.Proofs.Ytdbkkbeelemnhaa.addonPays
