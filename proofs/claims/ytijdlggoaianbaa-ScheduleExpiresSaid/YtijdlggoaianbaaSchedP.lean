/-
  THE TIMES OF DRAWS, plain: the least time behind a given one, the n-th draw, how many draws take place up to a time. Plain lemmas.
-/
set_option linter.unusedVariables false
namespace Go.Proofs.Ytijdlggoaianbaa
/-- is day number k (from day 0 on) one of the weekdays d? -/
def dB (d k : Nat) : Bool := d / 2 ^ ((k + 5) % 7) % 2 == 1
/-- the days of the first week -/
def offs (d : Nat) : List Nat := (List.range 7).filter (dB d)
def pcD (d : Nat) : Nat := (offs d).length
def off (d i : Nat) : Nat := (offs d).getD i 0
/-- a time, if it is one -/
def lim (x : Int) : Option Int := if 1073741824 < x then none else some x
def nxGo (d : Nat) (a t : Int) : Nat → Nat → Option Int
  | 0, _ => none
  | f + 1, day => if 1073741824 < (day : Int) * 1440 + a then none else if t < (day : Int) * 1440 + a ∧ dB d day = true then some ((day : Int) * 1440 + a) else nxGo d a t f (day + 1)
/-- calendar.Next -/
def nx (d : Nat) (a t : Int) : Option Int := nxGo d a t 8 ((max t 0) / 1440).toNat
/-- the time of draw m + 1 -/
def drT (d : Nat) (a : Int) (m : Nat) : Int := 10080 * (m / pcD d : Nat) + 1440 * (off d (m % pcD d) : Nat) + a
theorem dB_mod (d k : Nat) : dB d (k % 7) = dB d k := by
  unfold dB
  rw [show (k % 7 + 5) % 7 = (k + 5) % 7 by omega]
theorem dB_week (d W o : Nat) : dB d (7 * W + o) = dB d o := by
  unfold dB
  rw [show (7 * W + o + 5) % 7 = (o + 5) % 7 by omega]
theorem offs_fin : ∀ d : Fin 128, (d.val ≠ 0 → 0 < pcD d.val) ∧ pcD d.val ≤ 7 ∧ (∀ i : Fin 7, i.val < pcD d.val → off d.val i.val < 7 ∧ dB d.val (off d.val i.val) = true) ∧
    (∀ i : Fin 7, i.val + 1 < pcD d.val → off d.val i.val < off d.val (i.val + 1) ∧ ∀ k : Fin 7, off d.val i.val < k.val → k.val < off d.val (i.val + 1) → dB d.val k.val = false) ∧
    (∀ k : Fin 7, k.val < off d.val 0 → dB d.val k.val = false) ∧ (∀ k : Fin 7, 0 < pcD d.val → off d.val (pcD d.val - 1) < k.val → dB d.val k.val = false) := by decide +kernel
theorem pc_le {d : Nat} (hd : d < 128) : pcD d ≤ 7 := (offs_fin ⟨d, hd⟩).2.1
theorem off_lt {d : Nat} (hd : d < 128) {i : Nat} (hi : i < pcD d) : off d i < 7 ∧ dB d (off d i) = true := by
  have := pc_le hd
  exact (offs_fin ⟨d, hd⟩).2.2.1 ⟨i, by omega⟩ hi
theorem off_succ {d : Nat} (hd : d < 128) {i : Nat} (hi : i + 1 < pcD d) : off d i < off d (i + 1) ∧ ∀ k, off d i < k → k < off d (i + 1) → dB d k = false := by
  have := pc_le hd
  obtain ⟨h1, h2⟩ := (offs_fin ⟨d, hd⟩).2.2.2.1 ⟨i, by omega⟩ hi
  refine ⟨h1, fun k hk hk2 => h2 ⟨k, ?_⟩ hk hk2⟩
  have := (off_lt hd hi).1
  omega
theorem off_first {d : Nat} (hd : d < 128) {k : Nat} (h7 : k < 7) (hk : k < off d 0) : dB d k = false := (offs_fin ⟨d, hd⟩).2.2.2.2.1 ⟨k, h7⟩ hk
theorem off_last {d : Nat} (hd : d < 128) {k : Nat} (h7 : k < 7) (h0 : 0 < pcD d) (hk : off d (pcD d - 1) < k) : dB d k = false := (offs_fin ⟨d, hd⟩).2.2.2.2.2 ⟨k, h7⟩ h0 hk
theorem pc_pos {d : Nat} (hd : d < 128) (h0 : d ≠ 0) : 0 < pcD d := (offs_fin ⟨d, hd⟩).1 h0
theorem nxGo_at {d : Nat} {a t : Int} : ∀ (f day k : Nat), (∀ j, j < k → ((day + j : Nat) : Int) * 1440 + a ≤ t ∨ dB d (day + j) = false) → k < f → t < ((day + k : Nat) : Int) * 1440 + a → dB d (day + k) = true → nxGo d a t f day = lim (((day + k : Nat) : Int) * 1440 + a) := by
  intro f
  induction f with
  | zero => intro _ _ _ h; omega
  | succ f ih =>
    intro day k hj hk ht hb
    rw [nxGo]
    cases k with
    | zero =>
      simp only [Nat.add_zero] at *
      unfold lim
      split
      · rfl
      · rw [if_pos ⟨ht, hb⟩]
    | succ k =>
      split
      · rename_i h
        unfold lim
        rw [if_pos (by omega)]
      rw [if_neg]
      · have := ih (day + 1) k (fun j hjk => by have := hj (j + 1) (by omega); rwa [show day + (j + 1) = day + 1 + j by omega] at this) (by omega) (by rwa [show day + (k + 1) = day + 1 + k by omega] at ht) (by rwa [show day + (k + 1) = day + 1 + k by omega] at hb)
        rw [this, show day + (k + 1) = day + 1 + k by omega]
      · intro h
        have := hj 0 (by omega)
        rw [Nat.add_zero] at this
        rcases this with h1 | h1
        · omega
        · rw [h1] at h; simp at h
/-- the first draw of a week -/
theorem nx_first {d : Nat} {a : Int} (hd : d < 128) (h0 : d ≠ 0) (ha0 : 0 ≤ a) (ha1 : a ≤ 1439) (W : Nat) : nx d a (10080 * (W : Int) - 1) = lim (10080 * (W : Int) + 1440 * (off d 0 : Nat) + a) := by
  have hp := pc_pos hd h0
  obtain ⟨h7, hb⟩ := off_lt hd hp
  unfold nx
  by_cases hW : W = 0
  · subst hW
    have := nxGo_at (d := d) (a := a) (t := 10080 * ((0 : Nat) : Int) - 1) 8 0 (off d 0) (fun j hj => by right; rw [Nat.zero_add]; exact off_first hd (by omega) hj) (by omega) (by push_cast; omega) (by rw [Nat.zero_add]; exact hb)
    rw [show ((max (10080 * ((0 : Nat) : Int) - 1) 0) / 1440).toNat = 0 by simp; omega, this]
    congr 1; push_cast; omega
  · have := nxGo_at (d := d) (a := a) (t := 10080 * (W : Int) - 1) 8 (7 * W - 1) (off d 0 + 1) (fun j hj => by
      by_cases hj0 : j = 0
      · left; push_cast; omega
      · right
        rw [show 7 * W - 1 + j = 7 * W + (j - 1) by omega, dB_week]
        exact off_first hd (by omega) (by omega)) (by omega) (by push_cast; omega) (by rw [show 7 * W - 1 + (off d 0 + 1) = 7 * W + off d 0 by omega, dB_week]; exact hb)
    rw [show ((max (10080 * (W : Int) - 1) 0) / 1440).toNat = 7 * W - 1 by omega, this]
    congr 1; omega
theorem drT_nn {d : Nat} {a : Int} (ha0 : 0 ≤ a) (m : Nat) : 0 ≤ drT d a m := by unfold drT; generalize m / pcD d = x; omega
/-- each draw is at the next time behind the one before it -/
theorem nx_step {d : Nat} {a : Int} (hd : d < 128) (h0 : d ≠ 0) (ha0 : 0 ≤ a) (ha1 : a ≤ 1439) (m : Nat) : nx d a (drT d a m) = lim (drT d a (m + 1)) := by
  have hp := pc_pos hd h0
  have hp7 := pc_le hd
  generalize hq : pcD d = q at *
  have hm : m % q < q := Nat.mod_lt _ hp
  obtain ⟨h7, hb⟩ := off_lt hd (by rw [hq]; exact hm)
  have hday : ((max (drT d a m) 0) / 1440).toNat = 7 * (m / q) + off d (m % q) := by
    have := drT_nn (d := d) ha0 m
    unfold drT at *
    rw [hq] at *
    omega
  unfold nx
  rw [hday]
  by_cases hl : m % q + 1 < q
  · obtain ⟨hlt, hno⟩ := off_succ hd (by rw [hq]; exact hl)
    obtain ⟨h7', hb'⟩ := off_lt hd (by rw [hq]; exact hl)
    have e1 : (m + 1) / q = m / q := by
      have := Nat.div_add_mod m q
      rw [Nat.div_eq_of_lt_le (k := m / q)]
      · rw [Nat.mul_comm]; omega
      · rw [Nat.add_mul, Nat.mul_comm]; omega
    have e2 : (m + 1) % q = m % q + 1 := by
      have h1 := Nat.div_add_mod m q
      have h2 := Nat.div_add_mod (m + 1) q
      rw [e1] at h2
      omega
    have := nxGo_at (d := d) (a := a) (t := drT d a m) 8 (7 * (m / q) + off d (m % q)) (off d (m % q + 1) - off d (m % q)) (fun j hj => by
      by_cases hj0 : j = 0
      · left; subst hj0; unfold drT; rw [hq]; push_cast; omega
      · right
        rw [Nat.add_assoc, dB_week]
        exact hno _ (by omega) (by omega)) (by omega) (by unfold drT; rw [hq]; push_cast; omega) (by rw [show 7 * (m / q) + off d (m % q) + (off d (m % q + 1) - off d (m % q)) = 7 * (m / q) + off d (m % q + 1) by omega, dB_week]; exact hb')
    rw [this]
    unfold drT
    rw [hq, e1, e2]
    congr 1; push_cast; omega
  · have hl2 : m % q = q - 1 := by omega
    have e1 : (m + 1) / q = m / q + 1 := by
      have := Nat.div_add_mod m q
      rw [Nat.div_eq_of_lt_le (k := m / q + 1)]
      · rw [Nat.add_mul, Nat.mul_comm]; omega
      · rw [Nat.add_mul, Nat.add_mul, Nat.mul_comm]; omega
    have e2 : (m + 1) % q = 0 := by
      have h1 := Nat.div_add_mod m q
      have h2 := Nat.div_add_mod (m + 1) q
      rw [e1, Nat.mul_add] at h2
      omega
    obtain ⟨h7', hb'⟩ := off_lt hd (i := 0) (by rw [hq]; exact hp)
    rw [hl2] at h7 hb ⊢
    have hla := fun k (h7 : k < 7) (hk : off d (q - 1) < k) => off_last hd h7 (by rw [hq]; exact hp) (by rw [hq]; exact hk)
    have hmo : off d 0 ≤ off d (q - 1) := by
      by_cases h : off d 0 ≤ off d (q - 1)
      · exact h
      · have := off_first hd h7 (by omega)
        rw [this] at hb; simp at hb
    have := nxGo_at (d := d) (a := a) (t := drT d a m) 8 (7 * (m / q) + off d (q - 1)) (7 + off d 0 - off d (q - 1)) (fun j hj => by
      by_cases hj0 : j = 0
      · left; subst hj0; unfold drT; rw [hq, hl2]; push_cast; omega
      · right
        by_cases h1 : off d (q - 1) + j < 7
        · rw [Nat.add_assoc, dB_week]
          exact hla _ h1 (by omega)
        · rw [show 7 * (m / q) + off d (q - 1) + j = 7 * (m / q + 1) + (off d (q - 1) + j - 7) by omega, dB_week]
          exact off_first hd (by omega) (by omega)) (by omega) (by unfold drT; rw [hq, hl2]; push_cast; omega) (by rw [show 7 * (m / q) + off d (q - 1) + (7 + off d 0 - off d (q - 1)) = 7 * (m / q + 1) + off d 0 by omega, dB_week]; exact hb')
    rw [this]
    unfold drT
    rw [hq, e1, e2]
    congr 1; push_cast; omega
/-- how many days of the first week are before day k -/
def cntD (d : Nat) : Nat → Nat
  | 0 => 0
  | k + 1 => cntD d k + if dB d k = true then 1 else 0
theorem cntD_fin : ∀ d : Fin 128, ∀ k : Fin 8, cntD d.val k.val ≤ pcD d.val ∧ (cntD d.val k.val < pcD d.val → k.val ≤ off d.val (cntD d.val k.val)) ∧ (0 < cntD d.val k.val → off d.val (cntD d.val k.val - 1) < k.val) := by decide +kernel
/-- up to which day draws have taken place at the minute r of a week -/
def upD (a r : Int) : Nat := min 7 ((r - a + 1440) / 1440).toNat
/-- how many draws take place up to the time u -/
def untV (d : Nat) (a u : Int) : Nat := (u / 10080).toNat * pcD d + cntD d (upD a (u % 10080))
theorem unt_next {d : Nat} {a u : Int} (hd : d < 128) (h0 : d ≠ 0) (ha0 : 0 ≤ a) (ha1 : a ≤ 1439) (hu : 0 ≤ u) : u < drT d a (untV d a u) := by
  have hp := pc_pos hd h0
  obtain ⟨h1, h2, h3⟩ := cntD_fin ⟨d, hd⟩ ⟨upD a (u % 10080), by unfold upD; omega⟩
  simp only at h1 h2 h3
  unfold untV drT
  generalize hk : cntD d (upD a (u % 10080)) = c at *
  generalize hq : pcD d = q at *
  by_cases hc : c < q
  · rw [show ((u / 10080).toNat * q + c) / q = (u / 10080).toNat by rw [Nat.mul_comm, Nat.mul_add_div hp, Nat.div_eq_of_lt hc]; omega, show ((u / 10080).toNat * q + c) % q = c by rw [Nat.mul_comm, Nat.mul_add_mod, Nat.mod_eq_of_lt hc]]
    have := h2 hc
    have h7 := (off_lt hd (by rw [hq]; exact hc)).1
    unfold upD at this
    omega
  · have hcq : c = q := by omega
    rw [show ((u / 10080).toNat * q + c) / q = (u / 10080).toNat + 1 by rw [hcq, Nat.mul_comm, Nat.mul_add_div hp, Nat.div_self hp]]
    omega
theorem unt_last {d : Nat} {a u : Int} (hd : d < 128) (h0 : d ≠ 0) (ha0 : 0 ≤ a) (ha1 : a ≤ 1439) (hu : 0 ≤ u) (h1' : 1 ≤ untV d a u) : drT d a (untV d a u - 1) ≤ u := by
  have hp := pc_pos hd h0
  obtain ⟨h1, h2, h3⟩ := cntD_fin ⟨d, hd⟩ ⟨upD a (u % 10080), by unfold upD; omega⟩
  simp only at h1 h2 h3
  unfold untV drT at *
  generalize hk : cntD d (upD a (u % 10080)) = c at *
  generalize hq : pcD d = q at *
  by_cases hc : 0 < c
  · rw [show (u / 10080).toNat * q + c - 1 = (u / 10080).toNat * q + (c - 1) by omega, show ((u / 10080).toNat * q + (c - 1)) / q = (u / 10080).toNat by rw [Nat.mul_comm, Nat.mul_add_div hp, Nat.div_eq_of_lt (by omega)]; omega,
      show ((u / 10080).toNat * q + (c - 1)) % q = c - 1 by rw [Nat.mul_comm, Nat.mul_add_mod, Nat.mod_eq_of_lt (by omega)]]
    have := h3 hc
    unfold upD at this
    omega
  · have hc0 : c = 0 := by omega
    rw [hc0, Nat.add_zero] at h1' ⊢
    obtain ⟨W, hW⟩ : ∃ W, (u / 10080).toNat = W + 1 := by
      cases hw : (u / 10080).toNat with
      | zero => rw [hw, Nat.zero_mul] at h1'; omega
      | succ W => exact ⟨W, rfl⟩
    rw [hW, show (W + 1) * q - 1 = W * q + (q - 1) by rw [Nat.add_mul]; omega, show (W * q + (q - 1)) / q = W by rw [Nat.mul_comm, Nat.mul_add_div hp, Nat.div_eq_of_lt (by omega)]; omega,
      show (W * q + (q - 1)) % q = q - 1 by rw [Nat.mul_comm, Nat.mul_add_mod, Nat.mod_eq_of_lt (by omega)]]
    have h7 := (off_lt hd (i := q - 1) (by rw [hq]; omega)).1
    omega
theorem drT_lt {d : Nat} {a : Int} (hd : d < 128) (h0 : d ≠ 0) (ha0 : 0 ≤ a) (ha1 : a ≤ 1439) (m : Nat) : (m : Int) * 1440 ≤ drT d a m + 8640 := by
  have hp := pc_pos hd h0
  have hp7 := pc_le hd
  unfold drT
  generalize pcD d = q at *
  have h1 := Nat.div_add_mod m q
  have h2 := Nat.mod_lt m hp
  have h3 : q * (m / q) ≤ 7 * (m / q) := Nat.mul_le_mul_right _ hp7
  omega
theorem dm_succ {m q : Nat} (hp : 0 < q) (h : m % q + 1 < q) : (m + 1) / q = m / q ∧ (m + 1) % q = m % q + 1 := by
  have e1 : (m + 1) / q = m / q := by
    have := Nat.div_add_mod m q
    rw [Nat.div_eq_of_lt_le (k := m / q)]
    · rw [Nat.mul_comm]; omega
    · rw [Nat.add_mul, Nat.mul_comm]; omega
  have h1 := Nat.div_add_mod m q
  have h2 := Nat.div_add_mod (m + 1) q
  rw [e1] at h2
  exact ⟨e1, by omega⟩
theorem dm_wrap {m q : Nat} (hp : 0 < q) (h : ¬ m % q + 1 < q) : (m + 1) / q = m / q + 1 ∧ (m + 1) % q = 0 := by
  have hm : m % q < q := Nat.mod_lt _ hp
  have e1 : (m + 1) / q = m / q + 1 := by
    have := Nat.div_add_mod m q
    rw [Nat.div_eq_of_lt_le (k := m / q + 1)]
    · rw [Nat.add_mul, Nat.mul_comm]; omega
    · rw [Nat.add_mul, Nat.add_mul, Nat.mul_comm]; omega
  have h1 := Nat.div_add_mod m q
  have h2 := Nat.div_add_mod (m + 1) q
  rw [e1, Nat.mul_add] at h2
  exact ⟨e1, by omega⟩
theorem drT_succ {d : Nat} {a : Int} (hd : d < 128) (h0 : d ≠ 0) (m : Nat) : drT d a m < drT d a (m + 1) := by
  have hp := pc_pos hd h0
  have hm : m % pcD d < pcD d := Nat.mod_lt _ hp
  have h7 := (off_lt hd hm).1
  unfold drT
  by_cases hl : m % pcD d + 1 < pcD d
  · obtain ⟨e1, e2⟩ := dm_succ hp hl
    have := (off_succ hd hl).1
    rw [e1, e2]
    omega
  · obtain ⟨e1, e2⟩ := dm_wrap hp hl
    rw [e1, e2]
    push_cast
    generalize m / pcD d = x
    omega
theorem drT_mono {d : Nat} {a : Int} (hd : d < 128) (h0 : d ≠ 0) (m : Nat) : ∀ k, drT d a m ≤ drT d a (m + k) := by
  intro k
  induction k with
  | zero => exact Int.le_refl _
  | succ k ih =>
    have := drT_succ (a := a) hd h0 (m + k)
    rw [show m + (k + 1) = m + k + 1 by omega]
    omega
/-- the times that Draw goes through in the week W -/
def ttD (d : Nat) (a : Int) (W i : Nat) : Int := if i = 0 then 10080 * (W : Int) - 1 else drT d a (W * pcD d + (i - 1))
theorem nx_tt {d : Nat} {a : Int} (hd : d < 128) (h0 : d ≠ 0) (ha0 : 0 ≤ a) (ha1 : a ≤ 1439) (W i : Nat) : nx d a (ttD d a W i) = lim (ttD d a W (i + 1)) := by
  have hp := pc_pos hd h0
  by_cases hi : i = 0
  · subst hi
    have := nx_first hd h0 ha0 ha1 W
    unfold ttD
    rw [if_pos rfl, if_neg (by omega), this]
    unfold drT
    rw [show W * pcD d + (0 + 1 - 1) = W * pcD d by omega, Nat.mul_div_cancel _ hp, Nat.mul_mod_left]
  · unfold ttD
    rw [if_neg hi, if_neg (by omega), nx_step hd h0 ha0 ha1, show W * pcD d + (i - 1) + 1 = W * pcD d + (i + 1 - 1) by omega]
theorem tt_last {d : Nat} {a : Int} (hd : d < 128) (h0 : d ≠ 0) (m i : Nat) (hi : i ≤ m % pcD d) : ttD d a (m / pcD d) (i + 1) ≤ drT d a m ∧ ttD d a (m / pcD d) (m % pcD d + 1) = drT d a m := by
  unfold ttD
  rw [if_neg (by omega), if_neg (by omega)]
  have h1 := Nat.div_add_mod m (pcD d)
  rw [Nat.mul_comm] at h1
  have := drT_mono (a := a) hd h0 (m / pcD d * pcD d + (i + 1 - 1)) (m % pcD d - i)
  rw [show m / pcD d * pcD d + (i + 1 - 1) + (m % pcD d - i) = m by omega] at this
  exact ⟨this, by rw [show m / pcD d * pcD d + (m % pcD d + 1 - 1) = m by omega]⟩
theorem tt_bd {d : Nat} {a : Int} (ha0 : 0 ≤ a) (W i : Nat) : -1 ≤ ttD d a W i := by
  unfold ttD
  split
  · omega
  · have := drT_nn (d := d) ha0 (W * pcD d + (i - 1)); omega
end Go.Proofs.Ytijdlggoaianbaa
