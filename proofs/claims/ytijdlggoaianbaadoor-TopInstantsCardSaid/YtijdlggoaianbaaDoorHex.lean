/-
  digest.Hex: a number's sixteen digits; different numbers have different texts.
-/
import Derived.Test.YtijdlggoaianbaaDoorRow
import Derived.Test.YtijdlggoaianbaaDoorOwnK
import Derived.Laws.Bits64b
import Derived.Deep.LoopGhost
import Derived.Deep.DeepCutAuto
import Derived.RegionTactic
import Derived.IntWalk
set_option linter.unusedVariables false
namespace Go.Proofs.YtijdlggoaianbaaDoor
open Go.RowKit
def hexd (d : Nat) : Int := if d < 10 then 48 + (d : Int) else 87 + (d : Int)
/-- the table of the digits, which lies in the package's variable -/
def HexT (w : World) : Prop := ∀ j, j < 16 → w.cell? ⟨0, j, none⟩ = some (.int .u8 (hexd j))
theorem HexT.fr {w w' : World} (h : HexT w) (hf : Fr [] w w') : HexT w' := fun j hj => hf.cell_some (h j hj) (by simp)
theorem HexT.frk {bs : List Nat} {w w' : World} (h : HexT w) (hf : Fr bs w w') (hn : 0 ∉ bs) : HexT w' := fun j hj => hf.cell_some (h j hj) hn
def hxN (x : Nat) (i : Nat) : Nat := x / 16 ^ (15 - i) % 16
def hxD (x : Nat) (i : Nat) : Int := hexd (hxN x i)
def hexL (x : Nat) : List Int := (List.range 16).map (hxD x)
def hexS (x : Nat) : ByteArray := strOfNums (hexL x)
theorem and15 (y : Nat) (hy : y < 18446744073709551616) : bits .and .u64 (y : Int) 15 = ((y % 16 : Nat) : Int) := by
  have h := bits_and_u64_nat y 15 hy (by omega)
  have e : y &&& 15 = y % 16 := Nat.and_two_pow_sub_one_eq_mod y 4
  rw [e] at h
  exact h
theorem hexd_bd (d : Nat) (h : d < 16) : 48 ≤ hexd d ∧ hexd d ≤ 102 := by unfold hexd; split <;> omega
theorem hexd_inj {a b : Nat} (ha : a < 16) (hb : b < 16) (h : hexd a = hexd b) : a = b := by
  unfold hexd at h
  split at h <;> split at h <;> omega
theorem row_set (f : Nat → Int) (k : Nat) : ((upTo f 16 k).map (Value.int .u8)).set k (.int .u8 (f k)) = (upTo f 16 (k + 1)).map (Value.int .u8) := by
  rw [← upTo_set, List.map_set]
set_option maxRecDepth 20000 in
set_option maxHeartbeats 4000000 in
theorem hex_any (x : Nat) (w : World) (hx : x < 18446744073709551616) (hT : HexT w) (hw : 0 < w.heap.size) : Calls Tryd.prog 13 #[.int .u64 (x : Int)] w fun e w' => e = .returned (.string (hexS x)) ∧ Fr [] w w' := by
  obtain ⟨g, hg⟩ : ∃ g, g = w.heap.size := ⟨_, rfl⟩
  have h16 : (madeCells #[Value.int .u8 0] 16) = ((upTo (hxD x) 16 0).map (Value.int .u8)).toArray := by rw [upTo_zero, madeCells_bytes]
  have HT := Lib.hid hT
  have HG := Lib.hid hg
  have H16 := Lib.hid h16
  clear hT h16
  go_enter Tryd.func13, Tryd.ntmps13
  go_upto_region 2 with (fail)
  have hr : RowAt (w.alloc (.cells #[.int .u8 0, .int .u8 0, .int .u8 0, .int .u8 0, .int .u8 0, .int .u8 0, .int .u8 0, .int .u8 0, .int .u8 0, .int .u8 0, .int .u8 0, .int .u8 0, .int .u8 0, .int .u8 0, .int .u8 0, .int .u8 0] 64)) w.heap.size 64 ((upTo (hxD x) 16 0).map (Value.int .u8)) := RowAt.new rfl (by rw [upTo_zero]; rfl)
  have f1 : Fr [] w (w.alloc (.cells #[.int .u8 0, .int .u8 0, .int .u8 0, .int .u8 0, .int .u8 0, .int .u8 0, .int .u8 0, .int .u8 0, .int .u8 0, .int .u8 0, .int .u8 0, .int .u8 0, .int .u8 0, .int .u8 0, .int .u8 0, .int .u8 0] 64)) := (Fr.refl [] w).alloc _
  generalize w.alloc (.cells #[.int .u8 0, .int .u8 0, .int .u8 0, .int .u8 0, .int .u8 0, .int .u8 0, .int .u8 0, .int .u8 0, .int .u8 0, .int .u8 0, .int .u8 0, .int .u8 0, .int .u8 0, .int .u8 0, .int .u8 0, .int .u8 0] 64) = w1 at *
  rw [← hg] at hr ⊢
  have HR := Lib.hid hr
  have HF1 := Lib.hid f1
  clear hr f1 hg
  go_wp2_with fail
  go_loopw [5] (fun i wr => ∃ k : Nat, k ≤ 16 ∧ i = .int .i64 k ∧ RowAt wr g 64 ((upTo (hxD x) 16 k).map (Value.int .u8)) ∧ Fr [] w wr) (fun i _ => 16 - (intOf i).toNat)
  case atStart => exact ⟨0, by omega, rfl, HR.out, HF1.out⟩
  case round =>
    obtain ⟨k, hk, rfl, hr, hf⟩ := hrel
    by_cases hlt : k < 16
    · have hset := hr.set k (.int .u8 (hxD x k))
      rw [row_set] at hset
      have hc := hr.cell k (.int .u8 ((upTo (hxD x) 16 k).getD k 0)) (by simp [List.getD, upTo_len, hlt])
      have hz := hr.frozen k
      have hF := hf.setCell (p := ⟨g, k, none⟩) (.inr (by have := HG.out; show w.heap.size ≤ g; omega)) (.int .u8 (hxD x k))
      have hN : hxN x k < 16 := Nat.mod_lt _ (by omega)
      have ht := (HT.out.fr hf) (hxN x k) hN
      have hD : hxD x k = hexd (hxN x k) := rfl
      rw [hD] at hset hF
      have hND : hxN x k = x / 16 ^ (15 - k) % 16 := rfl
      generalize (upTo (hxD x) 16 k).getD k 0 = q at *
      have hall : k = 0 ∨ k = 1 ∨ k = 2 ∨ k = 3 ∨ k = 4 ∨ k = 5 ∨ k = 6 ∨ k = 7 ∨ k = 8 ∨ k = 9 ∨ k = 10 ∨ k = 11 ∨ k = 12 ∨ k = 13 ∨ k = 14 ∨ k = 15 := by omega
      have HS := Lib.hid hset
      have HFF := Lib.hid hF
      clear hset hF hr hf hD hlt hk
      generalize hdd : hexd (hxN x k) = dd at *
      rcases hall with rfl | rfl | rfl | rfl | rfl | rfl | rfl | rfl | rfl | rfl | rfl | rfl | rfl | rfl | rfl | rfl
      · have ha := and15 (x / 1152921504606846976) (by omega)
        have hn2 : x / 1152921504606846976 % 16 = hxN x 0 := by rw [hND]
        rw [hn2, show ((x / 1152921504606846976 : Nat) : Int) = (x : Int) / 1152921504606846976 by omega] at ha
        generalize hxN x 0 = D at *
        have hD15 : (D : Int) ≤ 15 := by omega
        clear hn2 hND hdd
        go_wp2_with fail
        go_roundw
        case rel => exact ⟨1, by omega, rfl, HS.out, HFF.out⟩
        case measure => simp [intOf]
      · have ha := and15 (x / 72057594037927936) (by omega)
        have hn2 : x / 72057594037927936 % 16 = hxN x 1 := by rw [hND]
        rw [hn2, show ((x / 72057594037927936 : Nat) : Int) = (x : Int) / 72057594037927936 by omega] at ha
        generalize hxN x 1 = D at *
        have hD15 : (D : Int) ≤ 15 := by omega
        clear hn2 hND hdd
        go_wp2_with fail
        go_roundw
        case rel => exact ⟨2, by omega, rfl, HS.out, HFF.out⟩
        case measure => simp [intOf]
      · have ha := and15 (x / 4503599627370496) (by omega)
        have hn2 : x / 4503599627370496 % 16 = hxN x 2 := by rw [hND]
        rw [hn2, show ((x / 4503599627370496 : Nat) : Int) = (x : Int) / 4503599627370496 by omega] at ha
        generalize hxN x 2 = D at *
        have hD15 : (D : Int) ≤ 15 := by omega
        clear hn2 hND hdd
        go_wp2_with fail
        go_roundw
        case rel => exact ⟨3, by omega, rfl, HS.out, HFF.out⟩
        case measure => simp [intOf]
      · have ha := and15 (x / 281474976710656) (by omega)
        have hn2 : x / 281474976710656 % 16 = hxN x 3 := by rw [hND]
        rw [hn2, show ((x / 281474976710656 : Nat) : Int) = (x : Int) / 281474976710656 by omega] at ha
        generalize hxN x 3 = D at *
        have hD15 : (D : Int) ≤ 15 := by omega
        clear hn2 hND hdd
        go_wp2_with fail
        go_roundw
        case rel => exact ⟨4, by omega, rfl, HS.out, HFF.out⟩
        case measure => simp [intOf]
      · have ha := and15 (x / 17592186044416) (by omega)
        have hn2 : x / 17592186044416 % 16 = hxN x 4 := by rw [hND]
        rw [hn2, show ((x / 17592186044416 : Nat) : Int) = (x : Int) / 17592186044416 by omega] at ha
        generalize hxN x 4 = D at *
        have hD15 : (D : Int) ≤ 15 := by omega
        clear hn2 hND hdd
        go_wp2_with fail
        go_roundw
        case rel => exact ⟨5, by omega, rfl, HS.out, HFF.out⟩
        case measure => simp [intOf]
      · have ha := and15 (x / 1099511627776) (by omega)
        have hn2 : x / 1099511627776 % 16 = hxN x 5 := by rw [hND]
        rw [hn2, show ((x / 1099511627776 : Nat) : Int) = (x : Int) / 1099511627776 by omega] at ha
        generalize hxN x 5 = D at *
        have hD15 : (D : Int) ≤ 15 := by omega
        clear hn2 hND hdd
        go_wp2_with fail
        go_roundw
        case rel => exact ⟨6, by omega, rfl, HS.out, HFF.out⟩
        case measure => simp [intOf]
      · have ha := and15 (x / 68719476736) (by omega)
        have hn2 : x / 68719476736 % 16 = hxN x 6 := by rw [hND]
        rw [hn2, show ((x / 68719476736 : Nat) : Int) = (x : Int) / 68719476736 by omega] at ha
        generalize hxN x 6 = D at *
        have hD15 : (D : Int) ≤ 15 := by omega
        clear hn2 hND hdd
        go_wp2_with fail
        go_roundw
        case rel => exact ⟨7, by omega, rfl, HS.out, HFF.out⟩
        case measure => simp [intOf]
      · have ha := and15 (x / 4294967296) (by omega)
        have hn2 : x / 4294967296 % 16 = hxN x 7 := by rw [hND]
        rw [hn2, show ((x / 4294967296 : Nat) : Int) = (x : Int) / 4294967296 by omega] at ha
        generalize hxN x 7 = D at *
        have hD15 : (D : Int) ≤ 15 := by omega
        clear hn2 hND hdd
        go_wp2_with fail
        go_roundw
        case rel => exact ⟨8, by omega, rfl, HS.out, HFF.out⟩
        case measure => simp [intOf]
      · have ha := and15 (x / 268435456) (by omega)
        have hn2 : x / 268435456 % 16 = hxN x 8 := by rw [hND]
        rw [hn2, show ((x / 268435456 : Nat) : Int) = (x : Int) / 268435456 by omega] at ha
        generalize hxN x 8 = D at *
        have hD15 : (D : Int) ≤ 15 := by omega
        clear hn2 hND hdd
        go_wp2_with fail
        go_roundw
        case rel => exact ⟨9, by omega, rfl, HS.out, HFF.out⟩
        case measure => simp [intOf]
      · have ha := and15 (x / 16777216) (by omega)
        have hn2 : x / 16777216 % 16 = hxN x 9 := by rw [hND]
        rw [hn2, show ((x / 16777216 : Nat) : Int) = (x : Int) / 16777216 by omega] at ha
        generalize hxN x 9 = D at *
        have hD15 : (D : Int) ≤ 15 := by omega
        clear hn2 hND hdd
        go_wp2_with fail
        go_roundw
        case rel => exact ⟨10, by omega, rfl, HS.out, HFF.out⟩
        case measure => simp [intOf]
      · have ha := and15 (x / 1048576) (by omega)
        have hn2 : x / 1048576 % 16 = hxN x 10 := by rw [hND]
        rw [hn2, show ((x / 1048576 : Nat) : Int) = (x : Int) / 1048576 by omega] at ha
        generalize hxN x 10 = D at *
        have hD15 : (D : Int) ≤ 15 := by omega
        clear hn2 hND hdd
        go_wp2_with fail
        go_roundw
        case rel => exact ⟨11, by omega, rfl, HS.out, HFF.out⟩
        case measure => simp [intOf]
      · have ha := and15 (x / 65536) (by omega)
        have hn2 : x / 65536 % 16 = hxN x 11 := by rw [hND]
        rw [hn2, show ((x / 65536 : Nat) : Int) = (x : Int) / 65536 by omega] at ha
        generalize hxN x 11 = D at *
        have hD15 : (D : Int) ≤ 15 := by omega
        clear hn2 hND hdd
        go_wp2_with fail
        go_roundw
        case rel => exact ⟨12, by omega, rfl, HS.out, HFF.out⟩
        case measure => simp [intOf]
      · have ha := and15 (x / 4096) (by omega)
        have hn2 : x / 4096 % 16 = hxN x 12 := by rw [hND]
        rw [hn2, show ((x / 4096 : Nat) : Int) = (x : Int) / 4096 by omega] at ha
        generalize hxN x 12 = D at *
        have hD15 : (D : Int) ≤ 15 := by omega
        clear hn2 hND hdd
        go_wp2_with fail
        go_roundw
        case rel => exact ⟨13, by omega, rfl, HS.out, HFF.out⟩
        case measure => simp [intOf]
      · have ha := and15 (x / 256) (by omega)
        have hn2 : x / 256 % 16 = hxN x 13 := by rw [hND]
        rw [hn2, show ((x / 256 : Nat) : Int) = (x : Int) / 256 by omega] at ha
        generalize hxN x 13 = D at *
        have hD15 : (D : Int) ≤ 15 := by omega
        clear hn2 hND hdd
        go_wp2_with fail
        go_roundw
        case rel => exact ⟨14, by omega, rfl, HS.out, HFF.out⟩
        case measure => simp [intOf]
      · have ha := and15 (x / 16) (by omega)
        have hn2 : x / 16 % 16 = hxN x 14 := by rw [hND]
        rw [hn2, show ((x / 16 : Nat) : Int) = (x : Int) / 16 by omega] at ha
        generalize hxN x 14 = D at *
        have hD15 : (D : Int) ≤ 15 := by omega
        clear hn2 hND hdd
        go_wp2_with fail
        go_roundw
        case rel => exact ⟨15, by omega, rfl, HS.out, HFF.out⟩
        case measure => simp [intOf]
      · have ha := and15 x hx
        have hn2 : x % 16 = hxN x 15 := by rw [hND]; simp
        rw [hn2] at ha
        generalize hxN x 15 = D at *
        have hD15 : (D : Int) ≤ 15 := by omega
        clear hn2 hND hdd
        go_wp2_with fail
        go_roundw
        case rel => exact ⟨16, by omega, rfl, HS.out, HFF.out⟩
        case measure => simp [intOf]
    · obtain rfl : k = 16 := by omega
      have hfull : upTo (hxD x) 16 16 = hexL x := upTo_full _ _
      rw [hfull] at hr
      have hcv := run_convert_bytes_arg (P := Tryd.prog) wr 65 5 Tryd.underlying65 Tryd.underlying5 g 0 16 16 (hexL x) (by simp [hexL]) (fun i hi => by rw [Nat.zero_add]; exact hr.cell i _ (by simp [hexL, List.getD, hi])) 9 Tryd.underlying9
      have hcv2 : (convert 65 9 (.slice (some ⟨g, 0, none⟩) 16 16)).run Tryd.prog wr = .ok (.string (hexS x)) wr := hcv
      have HF := Lib.hid hf
      clear hr hf hcv hfull
      go_wp2_with fail
      go_ret
      exact ⟨rfl, HF.out⟩
theorem dig_eq {x y : Nat} : ∀ n, (∀ k, k < n → x / 16 ^ k % 16 = y / 16 ^ k % 16) → x % 16 ^ n = y % 16 ^ n
  | 0, _ => by simp [Nat.mod_one]
  | n + 1, h => by rw [Nat.mod_pow_succ, Nat.mod_pow_succ, dig_eq n (fun k hk => h k (by omega)), h n (by omega)]
theorem of_byte {p q : Int} (h1 : 48 ≤ p) (h2 : p ≤ 102) (h3 : 48 ≤ q) (h4 : q ≤ 102) (h : (UInt8.ofNat p.toNat).toNat = (UInt8.ofNat q.toNat).toNat) : p = q := by
  simp only [UInt8.toNat_ofNat'] at h
  omega
theorem hexS_inj {x y : Nat} (hx : x < 18446744073709551616) (hy : y < 18446744073709551616) (h : hexS x = hexS y) : x = y := by
  have h2 := congrArg (fun s : ByteArray => s.data.toList) h
  simp only [hexS, strOfNums_data] at h2
  have hd : ∀ i, i < 16 → hxN x i = hxN y i := by
    intro i hi
    have h3 := congrArg (fun l => l[i]?) h2
    simp only [hexL, List.map_map, List.getElem?_map, List.getElem?_range hi, Option.map_some, Function.comp, Option.some.injEq] at h3
    have h4 := congrArg UInt8.toNat h3
    have b1 := hexd_bd (hxN x i) (Nat.mod_lt _ (by omega))
    have b2 := hexd_bd (hxN y i) (Nat.mod_lt _ (by omega))
    have h5 : hexd (hxN x i) = hexd (hxN y i) := by
      have e1 : hxD x i = hexd (hxN x i) := rfl
      have e2 : hxD y i = hexd (hxN y i) := rfl
      rw [e1, e2] at h4
      generalize hexd (hxN x i) = p at *
      generalize hexd (hxN y i) = q at *
      exact of_byte b1.1 b1.2 b2.1 b2.2 h4
    exact hexd_inj (Nat.mod_lt _ (by omega)) (Nat.mod_lt _ (by omega)) h5
  have hm := dig_eq (x := x) (y := y) 16 (fun k hk => by
    have := hd (15 - k) (by omega)
    unfold hxN at this
    rwa [show 15 - (15 - k) = k by omega] at this)
  rwa [Nat.mod_eq_of_lt hx, Nat.mod_eq_of_lt hy] at hm
end Go.Proofs.YtijdlggoaianbaaDoor
