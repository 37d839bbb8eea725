/- Laws ComesTo, Explains. -/
import Derived.Test.YtdhcfdiggcgmhaaPa6
import Derived.Test.YtdhcfdiggcgmhaaSh2
namespace Go.Proofs.Ytdhcfdiggcgmhaa
open Go
set_option linter.unusedVariables false
set_option linter.unusedSimpArgs false

def DripC (D : Nat → Int) : Prop := ∀ j, j < 136 → -2147483648 ≤ D j ∧ D j ≤ 2147483647
theorem columns_1_okC {D : Nat → Int} (hD : DripC D) (x : Nat) (hx : x < 17) : Ev (fun n => s_impl_Roof_columns_1 n x D) (colSum D x) := by
  unfold s_impl_Roof_columns_1
  refine ev_bnd (a := ints .i32 ((List.range' 0 8).map fun i => D (i * 17 + x))) ?_ (ev_chk (plain_fresh _ _ _) (ev_bnd (sum32_ok _ ?_ (by simp)) ev_some))
  · unfold s_impl_each_A17int32_int32__Roof_columns_1_1
    refine ev_bnd (a := ints .i32 ((List.range' 0 8).map fun i => D (i * 17 + x))) ?_ ev_some
    have hl : (elems D .i32 0 17 8).length = 8 := by rw [elems17]; simp
    rw [hl, ints_map]
    refine loop_map (l := fun n k g => l_impl_each_A17int32_int32__Roof_columns_1_1_b0 n x (elems D .i32 0 17 8) (8 : Nat) (k : Nat) g) (R := fun g => g) 8 (fun acc => ev_f (by simp) ev_some) (fun k acc hk hl a ih => ?_)
    refine ev_t (by simp; omega) (ev_bnd (a := fun j => D (0 + k * 17 + j)) (ev_of fun n => by rw [idx_rows _ _ _ hk]; rfl) (ev_bnd (a := D (k * 17 + x)) ?_ (ev_chk (by simp; omega) ?_)))
    · unfold s_impl_Roof_columns_1_1
      exact ev_chk (inB_k _ _ hx) (ev_cast ev_some (by simp))
    · rw [up64 k (by omega)]
      exact ih
  · intro y hy
    obtain ⟨j, hj, rfl⟩ := List.mem_map.1 hy
    have := hD (j * 17 + x) (by simp at hj; omega)
    omega
theorem columns_okC {w h s : Int} {t D : Nat → Int} (H : RoofV w h s t) (hD : DripC D) : Ev (fun n => s_impl_Roof_columns n w h s t D) (ints .i64 (colsOf D (2 * w + 1).toNat)) := by
  have hb := H.b
  unfold s_impl_Roof_columns
  obtain ⟨N, hN⟩ : ∃ N : Nat, 2 * w + 1 = (N : Int) := ⟨(2 * w + 1).toNat, by omega⟩
  rw [show (2 * w + 1).toNat = N by omega]
  refine ev_bnd (ev_of fun n => cells_eq n H.toRoofT) ?_
  rw [hN]
  refine ev_bnd (upTo_ok N (by omega)) (ev_bnd (a := ints .i64 (colsOf D N)) ?_ (ev_chk (plain_fresh _ _ _) ev_some))
  unfold s_impl_each_int_int64__Roof_columns_1
  refine ev_bnd (a := ints .i64 (colsOf D N)) ?_ ev_some
  have hl : (ints .i64 ((List.range' 0 N).map fun (i : Nat) => (i : Int))).length = N := by simp [ints_length]
  rw [hl]
  unfold colsOf
  rw [ints_map .i64 (colSum D)]
  refine loop_map (l := fun n k g => l_impl_each_int_int64__Roof_columns_1_b0 n D (ints .i64 ((List.range' 0 N).map fun (i : Nat) => (i : Int))) (N : Nat) (k : Nat) g) (R := fun g => g) N (fun acc => ev_f (by simp) ev_some) (fun k acc hk hl a ih => ?_)
  refine ev_t (by simp; omega) (ev_bnd (a := (k : Int)) (ev_of fun n => by rw [idx_upTo _ _ hk]; rfl) (ev_bnd (columns_1_okC hD k (by omega)) (ev_chk (by simp; omega) ?_)))
  rw [up64 k (by omega)]
  exact ih

theorem toInt32A17_b0 (a2 a3 : Nat → Int) : ∀ (d k : Nat) (a1 : Nat → Int), k + d = 17 → (∀ j, j < k → a1 j = a3 j) → Tot (fun n => l_laws_toInt32A17_b0 n k a3 a2 a1) (fun r => ∀ j, j < 17 → r.2 j = a3 j) := by
  intro d
  induction d with
  | zero =>
    intro k a1 hk h
    refine tot_succ (tot_f (by simp; omega) (tot_some ?_))
    intro j hj; exact h j (by omega)
  | succ d ih =>
    intro k a1 hk h
    refine tot_succ (tot_t (by simp; omega) (tot_chk (inB_k _ _ (by omega)) ?_))
    rw [up64 k (by omega)]
    refine ih (k + 1) _ (by omega) ?_
    intro j hj
    simp only [updC_at, Int.toNat_natCast, Nat.zero_add, Nat.mul_one]
    split
    · subst j; rfl
    · exact h j (by omega)
theorem toInt32A17_ok (a0 : Nat → Int) : Tot (fun n => s_laws_toInt32A17 n a0) (fun r => ∀ j, j < 17 → r j = a0 j) := by
  refine tot_bnd (toInt32A17_b0 _ a0 17 0 _ rfl (fun j hj => by omega)) ?_
  rintro ⟨a, b⟩ h
  exact tot_some h
theorem toDrips_b0 (a2 a3 : Nat → Int) : ∀ (d k : Nat) (a1 : Nat → Int), k + d = 8 → (∀ j, j < k * 17 → a1 j = a3 j) → Tot (fun n => l_laws_toDrips_b0 n k a3 a2 a1) (fun r => ∀ j, j < 136 → r.2 j = a3 j) := by
  intro d
  induction d with
  | zero =>
    intro k a1 hk h
    refine tot_succ (tot_f (by simp; omega) (tot_some ?_))
    intro j hj; exact h j (by omega)
  | succ d ih =>
    intro k a1 hk h
    refine tot_succ (tot_t (by simp; omega) (tot_chk (inB_k _ _ (by omega)) (tot_bnd (toInt32A17_ok _) ?_)))
    intro row hrow
    rw [up64 k (by omega)]
    refine ih (k + 1) _ (by omega) ?_
    intro j hj
    simp only [updR_at, Int.toNat_natCast, Nat.zero_add]
    split
    · rw [hrow _ (by omega), shiftC_at]
      congr 1
      omega
    · exact h j (by omega)
theorem toDrips_ok (a0 : Nat → Int) : Tot (fun n => s_laws_toDrips n a0) (fun r => ∀ j, j < 136 → r j = a0 j) := by
  refine tot_bnd (toDrips_b0 _ a0 8 0 _ rfl (fun j hj => by omega)) ?_
  rintro ⟨a, b⟩ h
  exact tot_some h

-- what is sound
def inside (w h : Int) (i x : Nat) : Bool := decide ((i : Int) < h) && decide ((x : Int) < 2 * w + 1)
def okCell (w h : Int) (D : Nat → Int) (i x : Nat) : Bool := decide (0 ≤ D (i * 17 + x)) && (decide (D (i * 17 + x) ≤ 0) || inside w h i x)
def wat (D r : Nat → Int) (x : Nat) : Nat → Int
  | 0 => r x
  | i + 1 => wat D r x i - D (i * 17 + x)
def okW (w h : Int) (D r : Nat → Int) (x i : Nat) : Bool := okCell w h D i x && decide (D (i * 17 + x) ≤ wat D r x i)
def soundS (w h : Int) (D r : Nat → Int) : Bool := allN (fun x => allN (okW w h D r x) 0 8) 0 17
def soundI (w h : Int) (D r : Nat → Int) : Bool := allN (fun i => allN (okCell w h D i) 0 17) 0 8 && allN (fun x => decide (colSum D x ≤ r x)) 0 (2 * w + 1).toNat
theorem wat_sum (D r : Nat → Int) (x : Nat) : ∀ i, wat D r x i = r x - sumR (fun i => D (i * 17 + x)) 0 i
  | 0 => by simp [wat, sumR]
  | i + 1 => by rw [sumR_succ, wat, wat_sum D r x i]; omega
theorem sumR_le {g : Nat → Int} : ∀ (d N : Nat), (∀ j, j < N + d → 0 ≤ g j) → sumR g 0 N ≤ sumR g 0 (N + d)
  | 0, N, _ => by simp
  | d + 1, N, h => by
    have h1 := sumR_le d N fun j hj => h j (by omega)
    have h2 := h (N + d) (by omega)
    rw [show N + (d + 1) = (N + d) + 1 by omega, sumR_succ]
    omega
theorem sound_eq {w h : Int} {D r : Nat → Int} (hw : 1 ≤ w ∧ w ≤ 8) (R : RainB r) : soundS w h D r = soundI w h D r := by
  rw [Bool.eq_iff_iff]
  simp only [soundS, soundI, Bool.and_eq_true, allN_iff, okW, decide_eq_true_eq]
  constructor
  · intro H
    refine ⟨fun i _ hi x _ hx => (H x (by omega) (by omega) i (by omega) (by omega)).1, fun x _ hx => ?_⟩
    have h7 := (H x (by omega) (by omega) 7 (by omega) (by omega)).2
    rw [wat_sum] at h7
    unfold colSum
    rw [show (8 : Nat) = 7 + 1 from rfl, sumR_succ]
    omega
  · rintro ⟨H1, H2⟩ x _ hx i _ hi
    refine ⟨H1 i (by omega) (by omega) x (by omega) (by omega), ?_⟩
    have hn : ∀ j, j < 8 → 0 ≤ D (j * 17 + x) := fun j hj => by
      have := H1 j (by omega) (by omega) x (by omega) (by omega)
      simp only [okCell, Bool.and_eq_true, decide_eq_true_eq] at this
      exact this.1
    have hc : colSum D x ≤ r x := by
      by_cases hN : x < (2 * w + 1).toNat
      · exact H2 x (by omega) (by omega)
      · have hz : colSum D x = 0 := by
          have := sumR_more (g := fun i => D (i * 17 + x)) 8 0 fun j _ hj => by
            have := H1 j (by omega) (by omega) x (by omega) (by omega)
            simp only [okCell, inside, Bool.and_eq_true, Bool.or_eq_true, decide_eq_true_eq] at this
            omega
          exact this
        have := R x (by omega)
        omega
    have hs := sumR_le (g := fun i => D (i * 17 + x)) (8 - (i + 1)) (i + 1) fun j hj => hn j (by omega)
    rw [show i + 1 + (8 - (i + 1)) = 8 by omega, sumR_succ] at hs
    rw [wat_sum]
    unfold colSum at hc
    omega
/-- what comes to the cells -/
def comesD (w h : Int) (D r : Nat → Int) (X I j : Nat) : Int := if ((j % 17 < X ∧ ((j / 17 : Nat) : Int) < h) ∨ (j % 17 = X ∧ j / 17 < I ∧ ((j / 17 : Nat) : Int) < h)) ∧ ((j % 17 : Nat) : Int) < 2 * w + 1 then wat D r (j % 17) (j / 17) else 0
theorem comesD_put {w h : Int} {D r : Nat → Int} {X I : Nat} (hX : X < 17) (hin : inside w h I X = true) {f : Nat → Int} (hf : ∀ j, f j = comesD w h D r X I j) (j : Nat) : updC f (I * 17 + X) (wat D r X I) j = comesD w h D r X (I + 1) j := by
  simp only [inside, Bool.and_eq_true, decide_eq_true_eq] at hin
  rw [updC_at]
  by_cases hj : j = I * 17 + X
  · rw [if_pos hj]
    unfold comesD
    rw [show j % 17 = X by omega, show j / 17 = I by omega, if_pos ⟨.inr ⟨rfl, by omega, hin.1⟩, hin.2⟩]
  · rw [if_neg hj, hf j]
    unfold comesD
    have : (((j % 17 < X ∧ ((j / 17 : Nat) : Int) < h) ∨ (j % 17 = X ∧ j / 17 < I ∧ ((j / 17 : Nat) : Int) < h)) ∧ ((j % 17 : Nat) : Int) < 2 * w + 1) ↔ (((j % 17 < X ∧ ((j / 17 : Nat) : Int) < h) ∨ (j % 17 = X ∧ j / 17 < I + 1 ∧ ((j / 17 : Nat) : Int) < h)) ∧ ((j % 17 : Nat) : Int) < 2 * w + 1) := by omega
    simp only [this]
theorem comesD_skip {w h : Int} {D r : Nat → Int} {X I : Nat} (hin : inside w h I X = false) {f : Nat → Int} (hf : ∀ j, f j = comesD w h D r X I j) (j : Nat) : f j = comesD w h D r X (I + 1) j := by
  simp only [inside, Bool.and_eq_false_iff, decide_eq_false_iff_not] at hin
  rw [hf j]
  unfold comesD
  have : (((j % 17 < X ∧ ((j / 17 : Nat) : Int) < h) ∨ (j % 17 = X ∧ j / 17 < I ∧ ((j / 17 : Nat) : Int) < h)) ∧ ((j % 17 : Nat) : Int) < 2 * w + 1) ↔ (((j % 17 < X ∧ ((j / 17 : Nat) : Int) < h) ∨ (j % 17 = X ∧ j / 17 < I + 1 ∧ ((j / 17 : Nat) : Int) < h)) ∧ ((j % 17 : Nat) : Int) < 2 * w + 1) := by omega
  simp only [this]
theorem comesD_next {w h : Int} {D r : Nat → Int} {X I : Nat} (hI : h ≤ (I : Int)) {f : Nat → Int} (hf : ∀ j, f j = comesD w h D r X I j) (j : Nat) : f j = comesD w h D r (X + 1) 0 j := by
  rw [hf j]
  unfold comesD
  have : (((j % 17 < X ∧ ((j / 17 : Nat) : Int) < h) ∨ (j % 17 = X ∧ j / 17 < I ∧ ((j / 17 : Nat) : Int) < h)) ∧ ((j % 17 : Nat) : Int) < 2 * w + 1) ↔ (((j % 17 < X + 1 ∧ ((j / 17 : Nat) : Int) < h) ∨ (j % 17 = X + 1 ∧ j / 17 < 0 ∧ ((j / 17 : Nat) : Int) < h)) ∧ ((j % 17 : Nat) : Int) < 2 * w + 1) := by omega
  simp only [this]
theorem l03Inside_eq (n : Nat) {w h s : Int} {t : Nat → Int} (H : RoofT w h s t) (i x : Nat) : s_spec_l03Inside n w h s t i x = some (inside w h i x) := by
  have hh := H.bh
  unfold s_spec_l03Inside inside
  rw [w64 h (by omega), l01Cells_eq n H]
  by_cases h1 : (i : Int) < h <;> simp [cnd, bnd, h1]
theorem isCell_eq (n : Nat) {w h s : Int} {t : Nat → Int} (H : RoofT w h s t) (i x : Nat) : s_impl_Roof_isCell n w h s t i x = some (inside w h i x) := by
  have hh := H.bh
  unfold s_impl_Roof_isCell inside
  rw [w64 h (by omega), cells_eq n H]
  by_cases h1 : (i : Int) < h <;> simp [cnd, bnd, h1]
theorem wat_b {D r : Nat → Int} (R : RainB r) (hD : DripC D) {x : Nat} (hx : x < 17) : ∀ i, i ≤ 8 → (∀ j, j < i → 0 ≤ D (j * 17 + x) ∧ D (j * 17 + x) ≤ wat D r x j) → 0 ≤ wat D r x i ∧ wat D r x i ≤ 1000
  | 0, _, _ => R x hx
  | i + 1, hi, h => by
    have h1 := wat_b R hD hx i (by omega) fun j hj => h j (by omega)
    have h2 := h i (by omega)
    simp only [wat]
    omega
/-- the reference's inner loop -/
theorem spec_comes_b2 {w h s : Int} {t D r : Nat → Int} (H : RoofV w h s t) (R : RainB r) (hD : DripC D) (x : Nat) (hx : x < 17) (z f0 : Nat → Int) (h0 : ∀ j, f0 j = comesD w h D r x 0 j) :
    Tot (fun n => l_spec_l03Comes_b2 n w h s t r D x (r x) 0 z f0) (fun v => (allN (okW w h D r x) 0 8 = true ∧ ∃ f, v = .inl (w, h, s, t, r, D, (x : Int), z, f) ∧ ∀ j, f j = comesD w h D r x 8 j) ∨ (allN (okW w h D r x) 0 8 = false ∧ ∃ f, v = .inr (false, f))) := by
  have hb := H.b
  have := loop_up (l := fun n k (q : Int × (Nat → Int)) => l_spec_l03Comes_b2 n w h s t r D x q.1 (k : Nat) z q.2) (I := fun k q => q.1 = wat D r x k ∧ (∀ j, q.2 j = comesD w h D r x k j) ∧ ∀ j, j < k → okW w h D r x j = true)
    (P := fun v => (allN (okW w h D r x) 0 8 = true ∧ ∃ f, v = .inl (w, h, s, t, r, D, (x : Int), z, f) ∧ ∀ j, f j = comesD w h D r x 8 j) ∨ (allN (okW w h D r x) 0 8 = false ∧ ∃ f, v = .inr (false, f))) 8 (by
    rintro k ⟨q, f⟩ hk ⟨e1, e2, e3⟩ ih
    simp only at e1 e2
    subst e1
    by_cases hlt : k < 8
    · have hd := hD (k * 17 + x) (by omega)
      have hw := wat_b R hD hx k (by omega) fun j hj => by
        have := e3 j hj
        simp only [okW, okCell, Bool.and_eq_true, decide_eq_true_eq] at this
        exact ⟨this.1.1, this.2⟩
      have bad : okW w h D r x k = false → allN (okW w h D r x) 0 8 = false := fun hb => by
        cases ha : allN (okW w h D r x) 0 8 with
        | false => rfl
        | true => have := (allN_iff _ _ _).1 ha k (by omega) (by omega); rw [hb] at this; cases this
      refine tot_t (by simp; omega) (tot_chk (inB_k _ _ hlt) (tot_chk (inB_k _ _ hx) ?_))
      rw [at_cell, w64 (D (k * 17 + x)) (by omega)]
      refine tot_cnd (fun c1 => tot_some (.inr ⟨bad (by simp at c1; simp [okW, okCell]; omega), f, rfl⟩)) (fun c1 => tot_cnd (fun c2 => tot_some (.inr ⟨bad (by simp at c2; simp [okW, okCell]; omega), f, rfl⟩)) (fun c2 => ?_))
      simp only [decide_eq_false_iff_not, Int.not_lt] at c1 c2
      rw [w64 (wat D r x k - D (k * 17 + x)) (by omega), w32 (wat D r x k) (by omega), up64 k (by omega)]
      have good : inside w h k x = true ∨ D (k * 17 + x) ≤ 0 → ∀ j, j < k + 1 → okW w h D r x j = true := fun hg j hj => by
        by_cases hjk : j = k
        · subst hjk; simp [okW, okCell]; refine ⟨⟨c1, ?_⟩, c2⟩; rcases hg with h | h <;> simp [h]
        · exact e3 j (by omega)
      refine tot_cnd (fun c3 => ?_) (fun c3 => ?_)
      · refine tot_ev (ev_of fun n => l03Inside_eq n H.toRoofT k x) (tot_cnd (fun c4 => ?_) (fun c4 => ?_))
        · exact tot_ev (ev_of fun n => l03Inside_eq n H.toRoofT k x) (tot_t c4 (ih hlt (wat D r x k - D (k * 17 + x), _) ⟨rfl, comesD_put hx c4 e2, good (.inl c4)⟩))
        · exact tot_some (.inr ⟨bad (by simp at c3; simp [okW, okCell, c4]; omega), f, rfl⟩)
      · simp only [decide_eq_false_iff_not, Int.not_lt] at c3
        refine tot_ev (ev_of fun n => l03Inside_eq n H.toRoofT k x) (tot_cnd (fun c4 => ?_) (fun c4 => ?_))
        · exact ih hlt (wat D r x k - D (k * 17 + x), _) ⟨rfl, comesD_put hx c4 e2, good (.inl c4)⟩
        · exact ih hlt (wat D r x k - D (k * 17 + x), f) ⟨rfl, comesD_skip c4 e2, good (.inr c3)⟩
    · obtain rfl : k = 8 := by omega
      exact tot_f (by simp) (tot_some (.inl ⟨(allN_iff _ _ _).2 fun j _ hj => e3 j (by omega), f, rfl, e2⟩))) 0 (r x, f0) (by omega) ⟨rfl, h0, fun j hj => by omega⟩
  exact this
theorem spec_comes_b0 {w h s : Int} {t D r : Nat → Int} (H : RoofV w h s t) (R : RainB r) (hD : DripC D) (z : Nat → Int) :
    Tot (fun n => l_spec_l03Comes_b0 n w h s t r D 0 z (fun _ => 0)) (fun v => (soundS w h D r = true ∧ ∃ f, v = .inl (z, f) ∧ ∀ j, f j = comesD w h D r 17 0 j) ∨ (soundS w h D r = false ∧ ∃ f, v = .inr (false, f))) := by
  have hb := H.b
  have := loop_up (l := fun n k (f : Nat → Int) => l_spec_l03Comes_b0 n w h s t r D (k : Nat) z f) (I := fun k f => (∀ j, f j = comesD w h D r k 0 j) ∧ ∀ j, j < k → allN (okW w h D r j) 0 8 = true)
    (P := fun v => (soundS w h D r = true ∧ ∃ f, v = .inl (z, f) ∧ ∀ j, f j = comesD w h D r 17 0 j) ∨ (soundS w h D r = false ∧ ∃ f, v = .inr (false, f))) 17 (by
    rintro k f hk ⟨e2, e3⟩ ih
    by_cases hlt : k < 17
    · have hr := R k hlt
      refine tot_t (by simp; omega) (tot_chk (inB_k _ _ hlt) ?_)
      rw [show 0 + (k : Int).toNat * 1 = k by simp, w64 (r k) (by omega)]
      refine tot_bnd (spec_comes_b2 H R hD k hlt z f e2) ?_
      rintro v (⟨g1, g, rfl, g2⟩ | ⟨g1, g, rfl⟩)
      · dsimp only
        rw [up64 k (by omega)]
        refine ih hlt g ⟨fun j => comesD_next (by omega) g2 j, fun j hj => ?_⟩
        by_cases hjk : j = k
        · subst hjk; exact g1
        · exact e3 j (by omega)
      · refine tot_some (.inr ⟨?_, g, rfl⟩)
        cases ha : soundS w h D r with
        | false => rfl
        | true => have := (allN_iff _ _ _).1 ha k (by omega) (by omega); rw [g1] at this; cases this
    · obtain rfl : k = 17 := by omega
      exact tot_f (by simp) (tot_some (.inl ⟨(allN_iff _ _ _).2 fun j _ hj => e3 j (by omega), f, rfl, e2⟩))) 0 (fun _ => 0) (by omega) ⟨fun j => by unfold comesD; rw [if_neg (by omega)], fun j hj => by omega⟩
  exact this
theorem l03Comes_ok {w h s : Int} {t D r : Nat → Int} (H : RoofV w h s t) (R : RainB r) (hD : DripC D) : Tot (fun n => s_spec_l03Comes n w h s t r D) (fun v => v.2 = soundS w h D r ∧ (soundS w h D r = true → ∀ j, v.1 j = comesD w h D r 17 0 j)) := by
  unfold s_spec_l03Comes
  refine tot_bnd (spec_comes_b0 H R hD _) ?_
  rintro v (⟨g1, g, rfl, g2⟩ | ⟨g1, g, rfl⟩)
  · exact tot_some ⟨g1.symm, fun _ => g2⟩
  · exact tot_some ⟨g1.symm, fun h => by rw [g1] at h; cases h⟩
-- the program
theorem areDrips_b2 {w h s : Int} {t D : Nat → Int} (H : RoofT w h s t) (i : Nat) (hi : i < 8) : Ev (fun n => l_impl_Roof_areDrips__Roof_isSound_1_b2 n i D i (fun j => D (j + (i : Int).toNat * 17)) 0 w h s t) (sel (allN (okCell w h D i) 0 17) (.inl (D, (i : Int), w, h, s, t)) (.inr false)) := by
  have e0 : ∀ k : Nat, (fun j => D (j + (i : Int).toNat * 17)) ((k : Int).toNat * 1) = D (i * 17 + k) := fun k => by dsimp only; congr 1; simp; omega
  have s1 : ∀ (n : Nat) (z : Int), s_impl_Roof_isSound_1 n z = some (decide (0 ≤ z)) := fun n z => rfl
  have := loop_all (l := fun n k => l_impl_Roof_areDrips__Roof_isSound_1_b2 n i D i (fun j => D (j + (i : Int).toNat * 17)) (k : Nat) w h s t) (p := okCell w h D i) (A := .inl (D, (i : Int), w, h, s, t)) (B := .inr false) 17 (ev_f (by simp) ev_some) (by
    intro k hk hp v ih
    refine ev_t (by simp; omega) (ev_chk (inB_k _ _ hk) (ev_bnd (ev_of fun n => isCell_eq n H i k) ?_))
    rw [e0 k, up64 k (by omega)]
    simp only [okCell, Bool.and_eq_true, Bool.or_eq_true, decide_eq_true_eq] at hp
    refine ev_cnd (fun c => ?_) (fun c => ?_)
    · exact ev_bnd (ev_of fun n => s1 n _) (ev_t (by simp; omega) ih)
    · rw [c] at hp
      exact ev_t (by simp; simp at hp; omega) (ev_bnd (ev_of fun n => s1 n _) (ev_t (by simp; omega) ih))) (by
    intro k hk hp
    refine ev_t (by simp; omega) (ev_chk (inB_k _ _ hk) (ev_bnd (ev_of fun n => isCell_eq n H i k) ?_))
    rw [e0 k]
    simp only [okCell, Bool.and_eq_false_iff, Bool.or_eq_false_iff, decide_eq_false_iff_not] at hp
    refine ev_cnd (fun c => ?_) (fun c => ?_)
    · rw [c] at hp
      exact ev_bnd (ev_of fun n => s1 n _) (ev_f (by simp; simp at hp; omega) ev_some)
    · refine ev_cnd (fun c2 => ?_) (fun _ => ev_some)
      simp only [decide_eq_true_eq] at c2
      exact absurd hp (by rw [c2]; simp)) 17 0 rfl
  exact this
theorem areDrips_ok {w h s : Int} {t D : Nat → Int} (H : RoofT w h s t) : Ev (fun n => s_impl_Roof_areDrips__Roof_isSound_1 n w h s t D) (allN (fun i => allN (okCell w h D i) 0 17) 0 8) := by
  unfold s_impl_Roof_areDrips__Roof_isSound_1
  have key := loop_all (l := fun n k => l_impl_Roof_areDrips__Roof_isSound_1_b0 n D (k : Nat) w h s t) (p := fun i => allN (okCell w h D i) 0 17) (A := .inl ()) (B := .inr false) 8 (ev_f (by simp) ev_some) (by
    intro k hk hp v ih
    have h1 := areDrips_b2 (D := D) H k hk
    rw [hp] at h1
    refine ev_t (by simp; omega) (ev_chk (inB_k _ _ hk) (ev_bnd h1 ?_))
    dsimp only [sel]
    rw [up64 k (by omega)]
    exact ih) (by
    intro k hk hp
    have h1 := areDrips_b2 (D := D) H k hk
    rw [hp] at h1
    exact ev_t (by simp; omega) (ev_chk (inB_k _ _ hk) (ev_bnd h1 ev_some))) 8 0 rfl
  refine ev_bnd key ?_
  cases allN (fun i => allN (okCell w h D i) 0 17) 0 8 <;> exact ev_some
theorem isSound_ok {w h s : Int} {t D r : Nat → Int} (H : RoofV w h s t) (R : RainB r) (hD : DripC D) : Ev (fun n => s_impl_Roof_isSound n w h s t r D) (soundI w h D r) := by
  have hb := H.b
  unfold s_impl_Roof_isSound soundI
  refine ev_bnd (areDrips_ok H.toRoofT) ?_
  cases allN (fun i => allN (okCell w h D i) 0 17) 0 8 with
  | false => exact ev_f rfl ev_some
  | true =>
    refine ev_t rfl (ev_bnd (columns_okC H hD) ?_)
    obtain ⟨N, hN⟩ : ∃ N : Nat, (2 * w + 1).toNat = N := ⟨_, rfl⟩
    rw [hN]
    have hl : (ints .i64 (colsOf D N)).length = N := by simp [ints_length, colsOf]
    have key := loop_all (l := fun n k => l_impl_Roof_isSound_b0 n (N : Nat) (k : Nat) r (ints .i64 (colsOf D N))) (p := fun x => decide (colSum D x ≤ r x)) (A := .inl ()) (B := .inr false) N (ev_f (by simp) ev_some) (by
      intro k hk hp v ih
      have hr := R k (by omega)
      refine ev_t (by simp; omega) (ev_chk (inB_k _ _ (by rw [hl]; exact hk)) (ev_bnd (a := colSum D k) (ev_of fun n => by rw [Int.toNat_natCast, nth_cols _ _ _ hk]; rfl) (ev_chk (inB_k _ _ (by omega)) ?_)))
      rw [show 0 + (k : Int).toNat * 1 = k by simp, w64 (r k) (by omega), up64 k (by omega)]
      simp only [decide_eq_true_eq] at hp
      exact ev_f (by simp; omega) ih) (by
      intro k hk hp
      have hr := R k (by omega)
      refine ev_t (by simp; omega) (ev_chk (inB_k _ _ (by rw [hl]; exact hk)) (ev_bnd (a := colSum D k) (ev_of fun n => by rw [Int.toNat_natCast, nth_cols _ _ _ hk]; rfl) (ev_chk (inB_k _ _ (by omega)) ?_)))
      rw [show 0 + (k : Int).toNat * 1 = k by simp, w64 (r k) (by omega)]
      simp only [decide_eq_false_iff_not] at hp
      exact ev_t (by simp; omega) ev_some) N 0 (by omega)
    rw [hl]
    refine ev_bnd key ?_
    cases allN (fun x => decide (colSum D x ≤ r x)) 0 N <;> exact ev_some
def seenC (w h s : Int) (t r D : Nat → Int) (b : Bool) : Int := if rainC w h s t r b = 0 then (if soundI w h D r = true then 0 else 4) else rainC w h s t r b
theorem rainC_z {w h s : Int} {t r : Nat → Int} {b : Bool} (hc : rainC w h s t r b = 0) : rainOk w h s t r = true ∧ b = true := by
  unfold rainC at hc
  cases h1 : rainOk w h s t r <;> cases h2 : b <;> simp_all [sel]
theorem seenCode_ok {w h s : Int} {t r D : Nat → Int} (H : RoofT w h s t) (R : RainT r) (hD : DripC D) (b : Bool) : Ev (fun n => s_impl_seenCode n w h s t r D b) (seenC w h s t r D b) := by
  unfold s_impl_seenCode seenC
  refine ev_bnd (rainCode_ok H R b) ?_
  by_cases hc : rainC w h s t r b = 0
  · obtain ⟨hok, _⟩ := rainC_z hc
    obtain ⟨h1, h2, _⟩ := rainOk_b hok
    rw [if_pos hc]
    refine ev_t (by simp [hc]) (ev_bnd (isSound_ok ⟨H, h1⟩ h2 hD) ?_)
    cases soundI w h D r with
    | true => rw [if_pos rfl, hc]; exact ev_t rfl ev_some
    | false => exact ev_f rfl ev_some
  · rw [if_neg hc]; exact ev_f (by simp [hc]) ev_some
theorem Asked_ok {w h s : Int} {t r D : Nat → Int} (H : RoofT w h s t) (R : RainT r) (hD : DripC D) (b : Bool) : Tot (fun n => s_spec_l03Asked n w h s t r D b) (fun v => v.2 = seenC w h s t r D b ∧ (seenC w h s t r D b = 0 → ∀ j, v.1 j = comesD w h D r 17 0 j)) := by
  unfold s_spec_l03Asked seenC
  refine tot_ev (l02Ok_ok H R) ?_
  unfold rainC
  cases hok : rainOk w h s t r with
  | false => exact tot_f rfl (tot_some ⟨rfl, by simp [sel]⟩)
  | true =>
    obtain ⟨h1, h2, _⟩ := rainOk_b hok
    refine tot_t rfl ?_
    cases b with
    | false => exact tot_f rfl (tot_some ⟨rfl, by simp [sel]⟩)
    | true =>
      refine tot_t rfl (tot_bnd (l03Comes_ok ⟨H, h1⟩ h2 hD) ?_)
      rintro ⟨f, c⟩ ⟨g1, g2⟩
      have hv : RoofV w h s t := ⟨H, h1⟩
      have hb := hv.b
      rw [sound_eq ⟨hb.1, hb.2.1⟩ h2] at g1 g2
      simp only at g1 g2
      subst g1
      cases hs : soundI w h D r with
      | true => rw [hs] at g2; exact tot_t rfl (tot_some ⟨by simp [sel], fun _ => g2 rfl⟩)
      | false => exact tot_f rfl (tot_some ⟨by simp [sel], by simp [sel]⟩)
-- what comes, in the program
theorem comes_b2 {w h s : Int} {t D r : Nat → Int} (H : RoofV w h s t) (R : RainB r) (hD : DripC D) (x : Nat) (hx : x < 17) (hin : (x : Int) < 2 * w + 1) (hs : ∀ j, j < 8 → 0 ≤ D (j * 17 + x) ∧ D (j * 17 + x) ≤ wat D r x j) (N : Int) (z f0 : Nat → Int) (h0 : ∀ j, f0 j = comesD w h D r x 0 j) :
    Tot (fun n => l_impl_Roof_comes_b2 n x (r x) N x h 0 w h s t r D z f0) (fun v => ∃ f, v = (N, (x : Int), w, h, s, t, r, D, z, f) ∧ ∀ j, f j = comesD w h D r x h.toNat j) := by
  have hb := H.b
  have := loop_up (l := fun n k (q : Int × (Nat → Int)) => l_impl_Roof_comes_b2 n x q.1 N x h (k : Nat) w h s t r D z q.2) (I := fun k q => q.1 = wat D r x k ∧ (∀ j, q.2 j = comesD w h D r x k j))
    (P := fun v => ∃ f, v = (N, (x : Int), w, h, s, t, r, D, z, f) ∧ ∀ j, f j = comesD w h D r x h.toNat j) h.toNat (by
    rintro k ⟨q, f⟩ hk ⟨e1, e2⟩ ih
    simp only at e1 e2
    subst e1
    by_cases hlt : k < h.toNat
    · have hw := wat_b R hD hx k (by omega) fun j hj => hs j (by omega)
      have hw2 := hs k (by omega)
      refine tot_t (by simp; omega) (tot_chk (inB_k _ _ (by omega)) (tot_chk (inB_k _ _ hx) ?_))
      rw [at_cell, w32 (wat D r x k - D (k * 17 + x)) (by omega), up64 k (by omega)]
      exact ih hlt (wat D r x k - D (k * 17 + x), _) ⟨rfl, comesD_put hx (by simp [inside]; omega) e2⟩
    · obtain rfl : k = h.toNat := by omega
      exact tot_f (by simp; omega) (tot_some ⟨f, rfl, e2⟩)) 0 (r x, f0) (by omega) ⟨rfl, h0⟩
  exact this
theorem comesD_far {w h : Int} {D r : Nat → Int} {X : Nat} (hX : 2 * w + 1 ≤ (X : Int)) (hX2 : X ≤ 17) (j : Nat) : comesD w h D r X 0 j = comesD w h D r 17 0 j := by
  unfold comesD
  have : (((j % 17 < X ∧ ((j / 17 : Nat) : Int) < h) ∨ (j % 17 = X ∧ j / 17 < 0 ∧ ((j / 17 : Nat) : Int) < h)) ∧ ((j % 17 : Nat) : Int) < 2 * w + 1) ↔ (((j % 17 < 17 ∧ ((j / 17 : Nat) : Int) < h) ∨ (j % 17 = 17 ∧ j / 17 < 0 ∧ ((j / 17 : Nat) : Int) < h)) ∧ ((j % 17 : Nat) : Int) < 2 * w + 1) := by omega
  simp only [this]
theorem comes_ok {w h s : Int} {t D r : Nat → Int} (H : RoofV w h s t) (R : RainB r) (hD : DripC D) (hs : soundS w h D r = true) : Tot (fun n => s_impl_Roof_comes n w h s t r D) (fun v => ∀ j, v j = comesD w h D r 17 0 j) := by
  have hb := H.b
  unfold s_impl_Roof_comes
  obtain ⟨N, hN⟩ : ∃ N : Nat, 2 * w + 1 = (N : Int) := ⟨(2 * w + 1).toNat, by omega⟩
  refine tot_ev (ev_of fun n => cells_eq n H.toRoofT) ?_
  rw [hN]
  have hs' : ∀ x, x < 17 → ∀ j, j < 8 → 0 ≤ D (j * 17 + x) ∧ D (j * 17 + x) ≤ wat D r x j := fun x hx j hj => by
    have h1 := (allN_iff _ _ _).1 hs x (by omega) (by omega)
    have h2 := (allN_iff _ _ _).1 h1 j (by omega) (by omega)
    simp only [okW, okCell, Bool.and_eq_true, decide_eq_true_eq] at h2
    exact ⟨h2.1.1, h2.2⟩
  have := loop_up (l := fun n k (f : Nat → Int) => l_impl_Roof_comes_b0 n (N : Nat) (k : Nat) w h s t r D (fun _ => 0) f) (I := fun k f => ∀ j, f j = comesD w h D r k 0 j)
    (P := fun v => ∀ j, v.2 j = comesD w h D r 17 0 j) N (by
    rintro k f hk e2 ih
    by_cases hlt : k < N
    · have hr := R k (by omega)
      refine tot_t (by simp; omega) (tot_chk (inB_k _ _ (by omega)) ?_)
      rw [show 0 + (k : Int).toNat * 1 = k by simp, w32 (r k) (by omega), w64 h (by omega)]
      refine tot_bnd (comes_b2 H R hD k (by omega) (by omega) (hs' k (by omega)) _ _ f e2) ?_
      rintro v ⟨g, rfl, g2⟩
      dsimp only
      rw [up64 k (by omega)]
      exact ih hlt g fun j => comesD_next (by omega) g2 j
    · obtain rfl : k = N := by omega
      exact tot_f (by simp) (tot_some fun j => (e2 j).trans (comesD_far (by omega) (by omega) j))) 0 (fun _ => 0) (by omega) (fun j => by unfold comesD; rw [if_neg (by omega)])
  refine tot_bnd this ?_
  rintro ⟨a, b⟩ g
  exact tot_some g
theorem DripC.mk' {D D' : Nat → Int} (h : ∀ j, j < 136 → (Lit.int .i32 (D j)).wf = true) (e : ∀ j, j < 136 → D' j = D j) : DripC D' := fun j hj => by rw [e j hj]; exact wf_i32 (h j hj)
theorem law_FnExactComesTo {w h s : Int} {t r D : Nat → Int} (hw : (Lit.int .i8 w).wf = true) (hh : (Lit.int .i8 h).wf = true) (hs : (Lit.int .u8 s).wf = true) (ht : ∀ j, j < 64 → (Lit.int .u8 (t j)).wf = true)
    (hr : ∀ j, j < 17 → (Lit.int .i16 (r j)).wf = true) (hD : ∀ j, j < 136 → (Lit.int .i32 (D j)).wf = true) : Ev (fun n => s_laws_FnExactComesTo n w h s t r D) true := by
  unfold s_laws_FnExactComesTo
  obtain ⟨t', e1, e2⟩ := toRoof_ok w h s t
  obtain ⟨r', e3, e4⟩ := toRain_ok r
  obtain ⟨D', e5, e6⟩ := toDrips_ok D
  have H := (RoofT.mk' hw hh hs ht).like e1
  have R := (RainT.mk' hr).like e3
  have hC := DripC.mk' hD e5
  have k : ∃ (f g : Nat → Int) (c : Int), (∀ j, f j = g j) ∧ Ev (fun n => s_spec_ComesTo n w h s t' r' D') (f, c) ∧ Ev (fun n => s_impl_ComesTo n w h s t' r' D') (g, c) := by
    unfold s_spec_ComesTo s_impl_ComesTo
    obtain ⟨⟨f, c⟩, ⟨g1, g2⟩, k1⟩ := Asked_ok H R hC true
    have k2 := seenCode_ok H R hC true
    simp only at g1 g2
    subst g1
    by_cases hc : seenC w h s t' r' D' true = 0
    · have hrc : rainC w h s t' r' true = 0 := by
        unfold seenC at hc; split at hc
        · assumption
        · exact hc
      obtain ⟨hok, _⟩ := rainC_z hrc
      obtain ⟨h1, h2, _⟩ := rainOk_b hok
      have hV : RoofV w h s t' := ⟨H, h1⟩
      have hb := hV.b
      have hsd : soundS w h D' r' = true := by
        rw [sound_eq ⟨hb.1, hb.2.1⟩ h2]
        unfold seenC at hc
        rw [if_pos hrc] at hc
        split at hc
        · assumption
        · cases hc
      obtain ⟨g, g3, k3⟩ := comes_ok hV h2 hC hsd
      exact ⟨f, g, 0, fun j => (g2 hc j).trans (g3 j).symm, ev_bnd k1 (ev_t (by simp [hc]) ev_some), ev_bnd k2 (ev_t (by simp [hc]) (ev_bnd k3 ev_some))⟩
    · exact ⟨_, _, _, fun _ => rfl, ev_bnd k1 (ev_f (by simp [hc]) ev_some), ev_bnd k2 (ev_f (by simp [hc]) ev_some)⟩
  obtain ⟨f, g, c, hfg, k1, k2⟩ := k
  exact ev_bnd e2 (ev_bnd e4 (ev_bnd e6 (ev_bnd k1 (ev_bnd e2 (ev_bnd e4 (ev_bnd e6 (ev_bnd k2 (ev_bnd (eqDrips_ok _ _ fun j _ => (hfg j).symm) (ev_t rfl (ev_t (by simp) ev_some))))))))))
theorem law_FnExactExplains {w h s : Int} {t r D : Nat → Int} (hw : (Lit.int .i8 w).wf = true) (hh : (Lit.int .i8 h).wf = true) (hs : (Lit.int .u8 s).wf = true) (ht : ∀ j, j < 64 → (Lit.int .u8 (t j)).wf = true)
    (hr : ∀ j, j < 17 → (Lit.int .i16 (r j)).wf = true) (hD : ∀ j, j < 136 → (Lit.int .i32 (D j)).wf = true) : Ev (fun n => s_laws_FnExactExplains n w h s t r D) true := by
  unfold s_laws_FnExactExplains
  obtain ⟨t', e1, e2⟩ := toRoof_ok w h s t
  obtain ⟨r', e3, e4⟩ := toRain_ok r
  obtain ⟨D', e5, e6⟩ := toDrips_ok D
  have H := (RoofT.mk' hw hh hs ht).like e1
  have R := (RainT.mk' hr).like e3
  have hC := DripC.mk' hD e5
  have k : ∃ (b : Bool) (c : Int), Ev (fun n => s_spec_Explains n w h s t' r' D') (b, c) ∧ Ev (fun n => s_impl_Explains n w h s t' r' D') (b, c) := by
    unfold s_spec_Explains s_impl_Explains
    obtain ⟨⟨f, c⟩, ⟨g1, g2⟩, k1⟩ := Asked_ok H R hC true
    have k2 := seenCode_ok H R hC true
    simp only at g1 g2
    subst g1
    by_cases hc : seenC w h s t' r' D' true = 0
    · have hrc : rainC w h s t' r' true = 0 := by
        unfold seenC at hc; split at hc
        · assumption
        · exact hc
      obtain ⟨hok, _⟩ := rainC_z hrc
      obtain ⟨h1, h2, _⟩ := rainOk_b hok
      have hV : RoofV w h s t' := ⟨H, h1⟩
      obtain ⟨ks, vs, _, hrun⟩ := run_ok hV h2
      exact ⟨allEq 136 (dripsOf w h s t' r') D', 0, ev_bnd k1 (ev_t (by simp [hc]) (ev_bnd (a := allEq 136 (dripsOf w h s t' r') D') (by
        unfold s_spec_l03Explains
        exact ev_bnd (l02Run_ok hV h2) ev_some) ev_some)), ev_bnd k2 (ev_t (by simp [hc]) (ev_bnd hrun ev_some))⟩
    · exact ⟨_, _, ev_bnd k1 (ev_f (by simp [hc]) ev_some), ev_bnd k2 (ev_f (by simp [hc]) ev_some)⟩
  obtain ⟨b, c, k1, k2⟩ := k
  exact ev_bnd e2 (ev_bnd e4 (ev_bnd e6 (ev_bnd k1 (ev_bnd e2 (ev_bnd e4 (ev_bnd e6 (ev_bnd k2 (ev_t (by simp) (ev_t (by simp) ev_some)))))))))
end Go.Proofs.Ytdhcfdiggcgmhaa
