/- Roofs and rain: what is handed in, and whether it is valid. -/
import Derived.Test.YtkfihbdikdkcmaaSh1
namespace Go.Proofs.Ytkfihbdikdkcmaa
open Go
set_option linter.unusedVariables false
set_option linter.unusedSimpArgs false

theorem shiftC_at (c : Nat → Int) (r j : Nat) : shiftC c r j = c (j + r) := by cases r <;> rfl
theorem updC_at (c : Nat → Int) (r : Nat) (v : Int) (j : Nat) : updC c r v j = if j = r then v else c j := rfl
theorem updR_at (c d : Nat → Int) (r m j : Nat) : updR c r m d j = if r ≤ j ∧ j < r + m then d (j - r) else c j := rfl

theorem toByteA8_b0 (a2 a3 : Nat → Int) : ∀ (d k : Nat) (a1 : Nat → Int), k + d = 8 → (∀ j, j < k → a1 j = a3 j) → Tot (fun n => l_laws_toByteA8_b0 n k a3 a2 a1) (fun r => ∀ j, j < 8 → r.2 j = a3 j) := by
  intro d
  induction d with
  | zero =>
    intro k a1 hk h
    refine tot_succ (tot_f (by simp; omega) (tot_some ?_))
    intro j hj; exact h j (by omega)
  | succ d ih =>
    intro k a1 hk h
    refine tot_succ (tot_t (by simp; omega) (tot_chk (inB_k _ _ (by omega)) ?_))
    rw [up64 k (by omega)]
    refine ih (k + 1) _ (by omega) ?_
    intro j hj
    simp only [updC_at, Int.toNat_natCast, Nat.zero_add, Nat.mul_one]
    split
    · subst j; rfl
    · exact h j (by omega)
theorem toByteA8_ok (a0 : Nat → Int) : Tot (fun n => s_laws_toByteA8 n a0) (fun r => ∀ j, j < 8 → r j = a0 j) := by
  refine tot_bnd (toByteA8_b0 _ a0 8 0 _ rfl (fun j hj => by omega)) ?_
  rintro ⟨a, b⟩ h
  exact tot_some h
theorem toByteA8A8_b0 (a2 a3 : Nat → Int) : ∀ (d k : Nat) (a1 : Nat → Int), k + d = 8 → (∀ j, j < k * 8 → a1 j = a3 j) → Tot (fun n => l_laws_toByteA8A8_b0 n k a3 a2 a1) (fun r => ∀ j, j < 64 → r.2 j = a3 j) := by
  intro d
  induction d with
  | zero =>
    intro k a1 hk h
    refine tot_succ (tot_f (by simp; omega) (tot_some ?_))
    intro j hj; exact h j (by omega)
  | succ d ih =>
    intro k a1 hk h
    refine tot_succ (tot_t (by simp; omega) (tot_chk (inB_k _ _ (by omega)) (tot_bnd (toByteA8_ok _) ?_)))
    intro y hy
    rw [up64 k (by omega)]
    refine ih (k + 1) _ (by omega) ?_
    intro j hj
    simp only [updR_at, Int.toNat_natCast, Nat.zero_add]
    split
    · rw [hy _ (by omega), shiftC_at]
      congr 1; simp; omega
    · exact h j (by omega)
theorem toByteA8A8_ok (a0 : Nat → Int) : Tot (fun n => s_laws_toByteA8A8 n a0) (fun r => ∀ j, j < 64 → r j = a0 j) := by
  refine tot_bnd (toByteA8A8_b0 _ a0 8 0 _ rfl (fun j hj => by omega)) ?_
  rintro ⟨a, b⟩ h
  exact tot_some h
theorem toRoof_ok (w h s : Int) (t : Nat → Int) : ∃ t', (∀ j, j < 64 → t' j = t j) ∧ Ev (fun n => s_laws_toRoof n w h s t) (w, h, s, t') := by
  obtain ⟨t', h1, h2⟩ := toByteA8A8_ok t
  exact ⟨t', h1, ev_bnd h2 ev_some⟩
theorem toRain_b0 (a2 a3 : Nat → Int) : ∀ (d k : Nat) (a1 : Nat → Int), k + d = 17 → (∀ j, j < k → a1 j = a3 j) → Tot (fun n => l_laws_toRain_b0 n k a3 a2 a1) (fun r => ∀ j, j < 17 → r.2 j = a3 j) := by
  intro d
  induction d with
  | zero =>
    intro k a1 hk h
    refine tot_succ (tot_f (by simp; omega) (tot_some ?_))
    intro j hj; exact h j (by omega)
  | succ d ih =>
    intro k a1 hk h
    refine tot_succ (tot_t (by simp; omega) (tot_chk (inB_k _ _ (by omega)) ?_))
    rw [up64 k (by omega)]
    refine ih (k + 1) _ (by omega) ?_
    intro j hj
    simp only [updC_at, Int.toNat_natCast, Nat.zero_add, Nat.mul_one]
    split
    · subst j; rfl
    · exact h j (by omega)
theorem toRain_ok (a0 : Nat → Int) : Tot (fun n => s_laws_toRain n a0) (fun r => ∀ j, j < 17 → r j = a0 j) := by
  refine tot_bnd (toRain_b0 _ a0 17 0 _ rfl (fun j hj => by omega)) ?_
  rintro ⟨a, b⟩ h
  exact tot_some h

theorem l00In_eq (n : Nat) (a b c : Int) : s_spec_l00In n a b c = some (decide (b ≤ a) && decide (a ≤ c)) := by
  unfold s_spec_l00In; rw [cnd_and]
theorem within_i8 (n : Nat) (a b c : Int) : s_impl_within_int8 n a b c = some (decide (b ≤ a) && decide (a ≤ c)) := by
  unfold s_impl_within_int8; rw [cnd_and]
theorem within_i64 (n : Nat) (a b c : Int) : s_impl_within_int64 n a b c = some (decide (b ≤ a) && decide (a ≤ c)) := by
  unfold s_impl_within_int64; rw [cnd_and]

/-- what the types of a roof's fields say -/
structure RoofT (w h s : Int) (t : Nat → Int) : Prop where
  bw : -128 ≤ w ∧ w ≤ 127
  bh : -128 ≤ h ∧ h ≤ 127
  bs : 0 ≤ s ∧ s ≤ 255
  bt : ∀ j, j < 64 → 0 ≤ t j ∧ t j ≤ 255
def cellOk (w h : Int) (t : Nat → Int) (i k : Nat) : Bool := decide (t (i * 8 + k) ≤ 3) && (decide (t (i * 8 + k) = 0) || (decide ((i : Int) < h) && decide ((k : Int) < w)))
def roofOk (w h s : Int) (t : Nat → Int) : Bool := decide (1 ≤ w ∧ w ≤ 8 ∧ 1 ≤ h ∧ h ≤ 8 ∧ s ≤ 1) && allN (fun i => allN (cellOk w h t i) 0 8) 0 8

theorem l01Kind_eq (n : Nat) (a : Int) : s_spec_l01Kind n a = some (decide (0 ≤ a) && decide (a ≤ 3)) := by
  unfold s_spec_l01Kind; simp only [l00In_eq, bnd_s]
theorem l01Is_eq (n : Nat) {w h s : Int} {t : Nat → Int} (c k : Int) (H : RoofT w h s t) (hc : -128 ≤ c ∧ c ≤ 127) (hk : -128 ≤ k ∧ k ≤ 127) :
    s_spec_l01Is n w h s t c k = some (decide (0 ≤ c ∧ c < h ∧ 0 ≤ k ∧ k < w)) := by
  have := H.bw; have := H.bh
  unfold s_spec_l01Is
  simp (disch := omega) only [l00In_eq, bnd_s, w64, cnd_and]
  congr 1
  rw [Bool.eq_iff_iff]; simp; omega
theorem l01Ok_b2 {w h s : Int} {t : Nat → Int} (H : RoofT w h s t) (i : Nat) (hi : i < 8) : ∀ (d k : Nat), k + d = 8 →
    Ev (fun n => l_spec_l01Ok_b2 n w h s t i k) (sel (allN (cellOk w h t i) k d) (.inl (w, h, s, t, (i : Int))) (.inr false)) := by
  intro d
  induction d with
  | zero =>
    intro k hk
    refine ev_succ (ev_f (by simp; omega) ?_)
    exact ev_some
  | succ d ih =>
    intro k hk
    have e1 : 0 + (i : Int).toNat * 8 + (k : Int).toNat * 1 = i * 8 + k := by simp
    have ht := H.bt (i * 8 + k) (by omega)
    refine ev_succ (ev_t (by simp; omega) (ev_chk (inB_k _ _ (by omega)) (ev_chk (inB_k _ _ (by omega)) ?_)))
    simp only [e1]
    rw [w64 _ (by omega), up8 k (by omega)]
    refine ev_bnd (ev_of fun n => l01Kind_eq n _) ?_
    by_cases h3 : t (i * 8 + k) ≤ 3
    · refine ev_t (by simp; omega) ?_
      refine ev_bnd (ev_of fun n => l01Is_eq n _ _ H (by omega) (by omega)) ?_
      by_cases h4 : (i : Int) < h ∧ (k : Int) < w
      · refine ev_t (by simp; omega) ?_
        refine ev_cast (ih (k + 1) (by omega)) ?_
        have : cellOk w h t i k = true := by simp [cellOk, h3, h4]
        simp only [allN, this, Bool.true_and]
      · refine ev_f (by simp; omega) ?_
        by_cases h5 : t (i * 8 + k) = 0
        · refine ev_t (by simp [h5]) ?_
          refine ev_cast (ih (k + 1) (by omega)) ?_
          have : cellOk w h t i k = true := by simp [cellOk, h5]
          simp only [allN, this, Bool.true_and]
        · refine ev_f (by simp [h5]) ?_
          refine ev_cast ev_some ?_
          have : cellOk w h t i k = false := by simp [cellOk, h5]; omega
          simp only [allN, this, Bool.false_and]; rfl
    · refine ev_f (by simp; omega) ?_
      refine ev_cast ev_some ?_
      have : cellOk w h t i k = false := by simp [cellOk]; omega
      simp only [allN, this, Bool.false_and]; rfl
theorem l01Ok_b0 {w h s : Int} {t : Nat → Int} (H : RoofT w h s t) : ∀ (d i : Nat), i + d = 8 →
    Ev (fun n => l_spec_l01Ok_b0 n w h s t i) (sel (allN (fun i => allN (cellOk w h t i) 0 8) i d) (.inl ()) (.inr false)) := by
  refine loop_all (l := fun n i => l_spec_l01Ok_b0 n w h s t (i : Nat)) 8 ?_ ?_ ?_
  · exact ev_f (by simp) ev_some
  · intro i hi hp a ih
    refine ev_t (by simp; omega) (ev_bnd (l01Ok_b2 H i (by omega) 8 0 rfl) ?_)
    simp only [hp, sel_t]
    rw [up8 i (by omega)]
    exact ih
  · intro i hi hp
    refine ev_t (by simp; omega) (ev_bnd (l01Ok_b2 H i (by omega) 8 0 rfl) ?_)
    simp only [hp, sel_f]
    exact ev_some
theorem l01Ok_ok {w h s : Int} {t : Nat → Int} (H : RoofT w h s t) : Ev (fun n => s_spec_l01Ok n w h s t) (roofOk w h s t) := by
  have := H.bw; have := H.bh
  unfold s_spec_l01Ok
  rw [w64 w (by omega), w64 h (by omega)]
  simp only [l00In_eq, bnd_s]
  unfold roofOk
  by_cases h1 : 1 ≤ w ∧ w ≤ 8
  · refine ev_t (by simp; omega) ?_
    by_cases h2 : 1 ≤ h ∧ h ≤ 8
    · refine ev_t (by simp; omega) ?_
      by_cases h3 : s ≤ 1
      · refine ev_f (by simp; omega) (ev_bnd (l01Ok_b0 H 8 0 rfl) ?_)
        rw [show decide (1 ≤ w ∧ w ≤ 8 ∧ 1 ≤ h ∧ h ≤ 8 ∧ s ≤ 1) = true by simp; omega, Bool.true_and]
        cases allN (fun i => allN (cellOk w h t i) 0 8) 0 8 <;> exact ev_some
      · exact ev_t (by simp; omega) (ev_cast ev_some (by simp; omega))
    · exact ev_f (by simp; omega) (ev_cast ev_some (by simp; omega))
  · exact ev_f (by simp; omega) (ev_cast ev_some (by simp; omega))
theorem ValidRoof_b2 {w h s : Int} {t : Nat → Int} (H : RoofT w h s t) (i : Nat) (hi : i < 8) : ∀ (d k : Nat), k + d = 8 →
    Ev (fun n => l_impl_ValidRoof_b2 n i t i (fun j => t (j + (i : Int).toNat * 8)) k w h s t) (sel (allN (cellOk w h t i) k d) (.inl (t, (i : Int), w, h, s, t)) (.inr false)) := by
  have := H.bw; have := H.bh
  intro d
  induction d with
  | zero =>
    intro k hk
    refine ev_succ (ev_f (by simp; omega) ?_)
    exact ev_some
  | succ d ih =>
    intro k hk
    have e1 : (k : Int).toNat * 1 + (i : Int).toNat * 8 = i * 8 + k := by simp; omega
    have ht := H.bt (i * 8 + k) (by omega)
    refine ev_succ (ev_t (by simp; omega) (ev_chk (inB_k _ _ (by omega)) ?_))
    simp only [e1]
    rw [up64 k (by omega), w64 w (by omega), w64 h (by omega)]
    by_cases h3 : t (i * 8 + k) ≤ 3
    · refine ev_f (by simp; omega) ?_
      by_cases h5 : t (i * 8 + k) = 0
      · refine ev_t (by simp [h5]) ?_
        refine ev_cast (ih (k + 1) (by omega)) ?_
        have : cellOk w h t i k = true := by simp [cellOk, h5]
        simp only [allN, this, Bool.true_and]
      · refine ev_f (by simp [h5]) ?_
        by_cases h4 : (i : Int) < h
        · refine ev_f (by simp; omega) ?_
          by_cases h6 : (k : Int) < w
          · refine ev_f (by simp; omega) ?_
            refine ev_cast (ih (k + 1) (by omega)) ?_
            have : cellOk w h t i k = true := by simp [cellOk, h3, h4, h6]
            simp only [allN, this, Bool.true_and]
          · refine ev_t (by simp; omega) (ev_cast ev_some ?_)
            have : cellOk w h t i k = false := by simp [cellOk, h5]; omega
            simp only [allN, this, Bool.false_and]; rfl
        · refine ev_t (by simp; omega) (ev_cast ev_some ?_)
          have : cellOk w h t i k = false := by simp [cellOk, h5]; omega
          simp only [allN, this, Bool.false_and]; rfl
    · refine ev_t (by simp; omega) (ev_cast ev_some ?_)
      have : cellOk w h t i k = false := by simp [cellOk]; omega
      simp only [allN, this, Bool.false_and]; rfl
theorem ValidRoof_b0 {w h s : Int} {t : Nat → Int} (H : RoofT w h s t) : ∀ (d i : Nat), i + d = 8 →
    Ev (fun n => l_impl_ValidRoof_b0 n t i w h s t) (sel (allN (fun i => allN (cellOk w h t i) 0 8) i d) (.inl ()) (.inr false)) := by
  refine loop_all (l := fun n i => l_impl_ValidRoof_b0 n t (i : Nat) w h s t) 8 ?_ ?_ ?_
  · exact ev_f (by simp) ev_some
  · intro i hi hp a ih
    refine ev_t (by simp; omega) (ev_chk (inB_k _ _ (by omega)) (ev_bnd (ValidRoof_b2 H i (by omega) 8 0 rfl) ?_))
    simp only [hp, sel_t]
    rw [up64 i (by omega)]
    exact ih
  · intro i hi hp
    refine ev_t (by simp; omega) (ev_chk (inB_k _ _ (by omega)) (ev_bnd (ValidRoof_b2 H i (by omega) 8 0 rfl) ?_))
    simp only [hp, sel_f]
    exact ev_some
theorem ValidRoof_ok {w h s : Int} {t : Nat → Int} (H : RoofT w h s t) : Ev (fun n => s_impl_ValidRoof n w h s t) (roofOk w h s t) := by
  unfold s_impl_ValidRoof
  simp only [within_i8, bnd_s]
  unfold roofOk
  by_cases h1 : 1 ≤ w ∧ w ≤ 8
  · refine ev_t (by simp; omega) ?_
    by_cases h2 : 1 ≤ h ∧ h ≤ 8
    · refine ev_t (by simp; omega) ?_
      by_cases h3 : s ≤ 1
      · refine ev_f (by simp; omega) (ev_bnd (ValidRoof_b0 H 8 0 rfl) ?_)
        rw [show decide (1 ≤ w ∧ w ≤ 8 ∧ 1 ≤ h ∧ h ≤ 8 ∧ s ≤ 1) = true by simp; omega, Bool.true_and]
        cases allN (fun i => allN (cellOk w h t i) 0 8) 0 8 <;> exact ev_some
      · exact ev_t (by simp; omega) (ev_cast ev_some (by simp; omega))
    · exact ev_f (by simp; omega) (ev_cast ev_some (by simp; omega))
  · exact ev_f (by simp; omega) (ev_cast ev_some (by simp; omega))

def RainT (r : Nat → Int) : Prop := ∀ j, j < 17 → -32768 ≤ r j ∧ r j ≤ 32767
def rainCell (w : Int) (r : Nat → Int) (c : Nat) : Bool := decide (0 ≤ r c ∧ r c ≤ 1000) && (decide (r c = 0) || decide ((c : Int) < 2 * w + 1))
def rainOk (w h s : Int) (t r : Nat → Int) : Bool := roofOk w h s t && allN (rainCell w r) 0 17
theorem l02Amount_eq (n : Nat) (a : Int) : s_spec_l02Amount n a = some (decide (0 ≤ a) && decide (a ≤ 1000)) := by
  unfold s_spec_l02Amount; simp only [l00In_eq, bnd_s]
theorem isAmount16_eq (n : Nat) (a : Int) (h : -32768 ≤ a ∧ a ≤ 32767) : s_impl_isAmount_int16 n a = some (decide (0 ≤ a) && decide (a ≤ 1000)) := by
  unfold s_impl_isAmount_int16; rw [w64 a (by omega)]; simp only [within_i64, bnd_s]
theorem l01Cells_eq (n : Nat) {w h s : Int} {t : Nat → Int} (H : RoofT w h s t) : s_spec_l01Cells n w h s t = some (2 * w + 1) := by
  have := H.bw
  unfold s_spec_l01Cells; simp (disch := omega) only [w64]
theorem cells_eq (n : Nat) {w h s : Int} {t : Nat → Int} (H : RoofT w h s t) : s_impl_Roof_cells n w h s t = some (2 * w + 1) := by
  have := H.bw
  unfold s_impl_Roof_cells; simp (disch := omega) only [w64]
theorem l02Ok_b0 {w h s : Int} {t r : Nat → Int} (H : RoofT w h s t) (R : RainT r) : ∀ (d c : Nat), c + d = 17 →
    Ev (fun n => l_spec_l02Ok_b0 n w h s t r c) (sel (allN (rainCell w r) c d) (.inl ()) (.inr false)) := by
  intro d
  induction d with
  | zero =>
    intro k hk
    exact ev_succ (ev_f (by simp; omega) ev_some)
  | succ d ih =>
    intro k hk
    have hr := R k (by omega)
    have e1 : 0 + (k : Int).toNat * 1 = k := by simp
    refine ev_succ (ev_t (by simp; omega) (ev_chk (inB_k _ _ (by omega)) ?_))
    simp only [e1, allN]
    rw [w64 _ (by omega), up64 k (by omega)]
    refine ev_bnd (ev_of fun n => l02Amount_eq n _) ?_
    by_cases h1 : 0 ≤ r k ∧ r k ≤ 1000
    · refine ev_t (by simp; omega) (ev_bnd (ev_of fun n => l01Cells_eq n H) ?_)
      by_cases h2 : (k : Int) < 2 * w + 1
      · refine ev_f (by simp; omega) (ev_cast (ih (k + 1) (by omega)) ?_)
        rw [show rainCell w r k = true by simp [rainCell, h1, h2], Bool.true_and]
      · refine ev_t (by simp; omega) ?_
        by_cases h3 : r k = 0
        · refine ev_t (by simp [h3]) (ev_cast (ih (k + 1) (by omega)) ?_)
          rw [show rainCell w r k = true by simp [rainCell, h3], Bool.true_and]
        · refine ev_f (by simp [h3]) (ev_cast ev_some ?_)
          rw [show rainCell w r k = false by simp [rainCell, h3]; omega, Bool.false_and]; rfl
    · refine ev_f (by simp; omega) (ev_cast ev_some ?_)
      rw [show rainCell w r k = false by simp [rainCell]; omega, Bool.false_and]; rfl
theorem l02Ok_ok {w h s : Int} {t r : Nat → Int} (H : RoofT w h s t) (R : RainT r) : Ev (fun n => s_spec_l02Ok n w h s t r) (rainOk w h s t r) := by
  unfold s_spec_l02Ok rainOk
  refine ev_bnd (l01Ok_ok H) ?_
  cases roofOk w h s t with
  | false => exact ev_f rfl ev_some
  | true =>
    refine ev_t rfl (ev_bnd (l02Ok_b0 H R 17 0 rfl) ?_)
    cases allN (rainCell w r) 0 17 <;> exact ev_some
theorem ValidRain_b0 {w h s : Int} {t r : Nat → Int} (H : RoofT w h s t) (R : RainT r) : ∀ (d c : Nat), c + d = 17 →
    Ev (fun n => l_impl_ValidRain_b0 n r c w h s t) (sel (allN (rainCell w r) c d) (.inl ()) (.inr false)) := by
  intro d
  induction d with
  | zero =>
    intro k hk
    exact ev_succ (ev_f (by simp; omega) ev_some)
  | succ d ih =>
    intro k hk
    have hr := R k (by omega)
    have e1 : (k : Int).toNat * 1 = k := by simp
    refine ev_succ (ev_t (by simp; omega) (ev_chk (inB_k _ _ (by omega)) ?_))
    simp only [e1, allN]
    rw [up64 k (by omega)]
    refine ev_bnd (ev_of fun n => isAmount16_eq n _ (by omega)) ?_
    by_cases h1 : 0 ≤ r k ∧ r k ≤ 1000
    · refine ev_t (by simp; omega) ?_
      by_cases h3 : r k = 0
      · refine ev_t (by simp [h3]) (ev_cast (ih (k + 1) (by omega)) ?_)
        rw [show rainCell w r k = true by simp [rainCell, h3], Bool.true_and]
      · refine ev_f (by simp [h3]) (ev_bnd (ev_of fun n => cells_eq n H) ?_)
        by_cases h2 : (k : Int) < 2 * w + 1
        · refine ev_f (by simp; omega) (ev_cast (ih (k + 1) (by omega)) ?_)
          rw [show rainCell w r k = true by simp [rainCell, h1, h2], Bool.true_and]
        · refine ev_t (by simp; omega) (ev_cast ev_some ?_)
          rw [show rainCell w r k = false by simp [rainCell, h3]; omega, Bool.false_and]; rfl
    · refine ev_f (by simp; omega) (ev_cast ev_some ?_)
      rw [show rainCell w r k = false by simp [rainCell]; omega, Bool.false_and]; rfl
theorem ValidRain_ok {w h s : Int} {t r : Nat → Int} (H : RoofT w h s t) (R : RainT r) : Ev (fun n => s_impl_ValidRain n w h s t r) (rainOk w h s t r) := by
  unfold s_impl_ValidRain rainOk
  refine ev_bnd (ValidRoof_ok H) ?_
  cases roofOk w h s t with
  | false => exact ev_f rfl ev_some
  | true =>
    refine ev_t rfl (ev_bnd (ValidRain_b0 H R 17 0 rfl) ?_)
    cases allN (rainCell w r) 0 17 <;> exact ev_some
theorem RoofT.like {w h s : Int} {t t' : Nat → Int} (H : RoofT w h s t) (e : ∀ j, j < 64 → t' j = t j) : RoofT w h s t' :=
  ⟨H.bw, H.bh, H.bs, fun j hj => by rw [e j hj]; exact H.bt j hj⟩
theorem RainT.like {r r' : Nat → Int} (H : RainT r) (e : ∀ j, j < 17 → r' j = r j) : RainT r' := fun j hj => by rw [e j hj]; exact H j hj
theorem RoofT.mk' {w h s : Int} {t : Nat → Int} (hw : (Lit.int .i8 w).wf = true) (hh : (Lit.int .i8 h).wf = true) (hs : (Lit.int .u8 s).wf = true) (ht : ∀ j, j < 64 → (Lit.int .u8 (t j)).wf = true) : RoofT w h s t :=
  ⟨wf_i8 hw, wf_i8 hh, wf_u8 hs, fun j hj => wf_u8 (ht j hj)⟩
theorem RainT.mk' {r : Nat → Int} (h : ∀ j, j < 17 → (Lit.int .i16 (r j)).wf = true) : RainT r := fun j hj => wf_i16 (h j hj)
theorem law_ValidRain {w h s : Int} {t r : Nat → Int} (H : RoofT w h s t) (R : RainT r) : Ev (fun n => s_laws_FnExactValidRain n w h s t r) true := by
  unfold s_laws_FnExactValidRain
  obtain ⟨t', e1, e2⟩ := toRoof_ok w h s t
  obtain ⟨r', e3, e4⟩ := toRain_ok r
  have H' := H.like e1
  have R' := R.like e3
  refine ev_bnd e2 (ev_bnd e4 (ev_bnd ?_ (ev_bnd e2 (ev_bnd e4 (ev_bnd (ValidRain_ok H' R') (ev_t (beq_self_eq_true _) ev_some))))))
  unfold s_spec_ValidRain
  exact ev_bnd (l02Ok_ok H' R') ev_some
theorem law_FnExactValidRain {w h s : Int} {t r : Nat → Int} (hw : (Lit.int .i8 w).wf = true) (hh : (Lit.int .i8 h).wf = true) (hs : (Lit.int .u8 s).wf = true) (ht : ∀ j, j < 64 → (Lit.int .u8 (t j)).wf = true)
    (hr : ∀ j, j < 17 → (Lit.int .i16 (r j)).wf = true) : Ev (fun n => s_laws_FnExactValidRain n w h s t r) true := law_ValidRain (.mk' hw hh hs ht) (.mk' hr)
end Go.Proofs.Ytkfihbdikdkcmaa
