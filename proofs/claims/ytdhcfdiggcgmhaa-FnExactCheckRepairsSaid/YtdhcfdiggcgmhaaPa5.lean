/- The laws on drips. -/
import Derived.Test.YtdhcfdiggcgmhaaPa4
import Derived.Test.YtdhcfdiggcgmhaaPl1
namespace Go.Proofs.Ytdhcfdiggcgmhaa
open Go
set_option linter.unusedVariables false
set_option linter.unusedSimpArgs false

theorem eqInt32A17_ok (a b : Nat → Int) (h : ∀ j, j < 17 → a j = b j) : Ev (fun n => s_laws_eqInt32A17 n a b) true := by
  unfold s_laws_eqInt32A17
  refine ev_bnd (a := Sum.inl ()) ?_ ev_some
  have := loop_all (l := fun n k => l_laws_eqInt32A17_b0 n (k : Nat) a b) (p := fun _ => true) (A := .inl ()) (B := .inr false) 17 (ev_f (by simp) ev_some) (by
    intro k hk _ v ih
    refine ev_t (by simp; omega) (ev_chk (inB_k _ _ hk) (ev_t (by simp [h k hk]) ?_))
    rw [up64 k (by omega)]
    exact ih) (by intro k hk h; cases h) 17 0 rfl
  exact this
theorem eqDrips_ok (a b : Nat → Int) (h : ∀ j, j < 136 → a j = b j) : Ev (fun n => s_laws_eqDrips n a b) true := by
  unfold s_laws_eqDrips
  refine ev_bnd (a := Sum.inl ()) ?_ ev_some
  have := loop_all (l := fun n k => l_laws_eqDrips_b0 n (k : Nat) a b) (p := fun _ => true) (A := .inl ()) (B := .inr false) 8 (ev_f (by simp) ev_some) (by
    intro k hk _ v ih
    refine ev_t (by simp; omega) (ev_chk (inB_k _ _ hk) (ev_bnd (eqInt32A17_ok _ _ ?_) (ev_t rfl ?_)))
    · intro j hj
      rw [shiftC_at, shiftC_at]
      simp only [Int.toNat_natCast, Nat.zero_add]
      exact h _ (by omega)
    · rw [up64 k (by omega)]
      exact ih) (by intro k hk h; cases h) 8 0 rfl
  exact this

/-! ### DripSum -/
def dripSumA (w h s : Int) (t r : Nat → Int) : Int × Int := sel (rainOk w h s t r) (allSum (dripsOf w h s t r), 0) (0, 1)
theorem spec_DripSum_ok {w h s : Int} {t r : Nat → Int} (H : RoofT w h s t) (R : RainT r) : Ev (fun n => s_spec_DripSum n w h s t r) (dripSumA w h s t r) := by
  unfold s_spec_DripSum dripSumA
  refine ev_bnd (l02Ok_ok H R) ?_
  cases hok : rainOk w h s t r with
  | false => exact ev_f rfl ev_some
  | true =>
    obtain ⟨h1, h2, _⟩ := rainOk_b hok
    exact ev_t rfl (ev_bnd (l02Sum_ok ⟨H, h1⟩ h2) ev_some)
theorem impl_DripSum_ok {w h s : Int} {t r : Nat → Int} (H : RoofT w h s t) (R : RainT r) : Ev (fun n => s_impl_DripSum n w h s t r) (dripSumA w h s t r) := by
  unfold s_impl_DripSum dripSumA
  refine ev_bnd (ValidRain_ok H R) ?_
  cases hok : rainOk w h s t r with
  | false => exact ev_f rfl ev_some
  | true =>
    obtain ⟨h1, h2, _⟩ := rainOk_b hok
    exact ev_t rfl (ev_bnd (dripSum_ok ⟨H, h1⟩ h2) ev_some)
theorem law_FnExactDripSum {w h s : Int} {t r : Nat → Int} (hw : (Lit.int .i8 w).wf = true) (hh : (Lit.int .i8 h).wf = true) (hs : (Lit.int .u8 s).wf = true) (ht : ∀ j, j < 64 → (Lit.int .u8 (t j)).wf = true)
    (hr : ∀ j, j < 17 → (Lit.int .i16 (r j)).wf = true) : Ev (fun n => s_laws_FnExactDripSum n w h s t r) true := by
  unfold s_laws_FnExactDripSum
  obtain ⟨t', e1, e2⟩ := toRoof_ok w h s t
  obtain ⟨r', e3, e4⟩ := toRain_ok r
  have H' := (RoofT.mk' hw hh hs ht).like e1
  have R' := (RainT.mk' hr).like e3
  exact ev_bnd e2 (ev_bnd e4 (ev_bnd (spec_DripSum_ok H' R') (ev_bnd e2 (ev_bnd e4 (ev_bnd (impl_DripSum_ok H' R') (ev_t (by simp) (ev_t (by simp) ev_some)))))))

/-! ### FirstDrip -/
def inRow (D : Nat → Int) (i : Nat) : Option Nat := firstN (fun x => decide (0 < D (i * 17 + x))) 0 17
def firstDripA (D : Nat → Int) : Int × Int × Int := selO (firstN (fun i => (inRow D i).isSome) 0 8) (0, 0, 6) fun i => ((i : Int), selO (inRow D i) 0 (fun x => (x : Int)), 0)
theorem spec_First_b2 (D : Nat → Int) (i : Nat) (hi : i < 8) : Ev (fun n => l_spec_FirstDrip_b2 n i 0 D) (selO (inRow D i) (.inl ((i : Int), D)) fun x => .inr ((i : Int), (x : Int), 0)) := by
  refine loop_first (l := fun n k => l_spec_FirstDrip_b2 n i (k : Nat) D) 17 (ev_f (by simp) ev_some) ?_ ?_ 17 0 rfl
  · intro k hk hp a ih
    refine ev_t (by simp; omega) (ev_chk (inB_k _ _ hi) (ev_chk (inB_k _ _ hk) (ev_f (by rw [at_cell]; exact hp) ?_)))
    rw [up64 k (by omega)]
    exact ih
  · intro k hk hp
    exact ev_t (by simp; omega) (ev_chk (inB_k _ _ hi) (ev_chk (inB_k _ _ hk) (ev_t (by rw [at_cell]; exact hp) ev_some)))
theorem spec_First_b0 (D : Nat → Int) : Ev (fun n => bnd (l_spec_FirstDrip_b0 n 0 D) fun w => match w with
            | .inl _ => some ((0, 0, 6))
            | .inr (u14_0, u14_1, u14_2) => some ((u14_0, u14_1, u14_2))) (firstDripA D) := by
  have h := loop_first (l := fun n k => l_spec_FirstDrip_b0 n (k : Nat) D) (p := fun i => (inRow D i).isSome) (A := .inl ()) (B := fun i => .inr ((i : Int), selO (inRow D i) 0 (fun x => (x : Int)), 0)) 8 (ev_f (by simp) ev_some) (by
    intro k hk hp a ih
    refine ev_t (by simp; omega) (ev_bnd (spec_First_b2 D k hk) ?_)
    cases hr : inRow D k with
    | some x => rw [hr] at hp; cases hp
    | none =>
      dsimp only [selO]
      rw [up64 k (by omega)]
      exact ih) (by
    intro k hk hp
    refine ev_t (by simp; omega) (ev_bnd (spec_First_b2 D k hk) ?_)
    cases hr : inRow D k with
    | none => rw [hr] at hp; cases hp
    | some x => exact ev_some) 8 0 rfl
  refine ev_bnd h ?_
  unfold firstDripA
  cases firstN (fun i => (inRow D i).isSome) 0 8 <;> exact ev_some
theorem impl_First_b2 (D : Nat → Int) (i : Nat) (hi : i < 8) : Ev (fun n => l_impl_FirstDrip_b2 n i D i (fun j => D (j + (i : Int).toNat * 17)) 0) (selO (inRow D i) (.inl (D, (i : Int))) fun x => .inr ((i : Int), (x : Int), 0)) := by
  have e : ∀ k : Nat, D ((k : Int).toNat * 1 + (i : Int).toNat * 17) = D (i * 17 + k) := fun k => by congr 1; simp; omega
  refine loop_first (l := fun n k => l_impl_FirstDrip_b2 n i D i (fun j => D (j + (i : Int).toNat * 17)) (k : Nat)) 17 (ev_f (by simp) ev_some) ?_ ?_ 17 0 rfl
  · intro k hk hp a ih
    refine ev_t (by simp; omega) (ev_chk (inB_k _ _ hk) (ev_f (by simp only [decide_eq_false_iff_not, decide_eq_true_eq] at hp ⊢; rw [e]; exact hp) ?_))
    rw [up64 k (by omega)]
    exact ih
  · intro k hk hp
    exact ev_t (by simp; omega) (ev_chk (inB_k _ _ hk) (ev_t (by simp only [decide_eq_false_iff_not, decide_eq_true_eq] at hp ⊢; rw [e]; exact hp) ev_some))
theorem impl_First_b0 (D : Nat → Int) : Ev (fun n => bnd (l_impl_FirstDrip_b0 n D 0) fun w => match w with
          | .inl _ => some ((0, 0, 6))
          | .inr (u13_0, u13_1, u13_2) => some ((u13_0, u13_1, u13_2))) (firstDripA D) := by
  have h := loop_first (l := fun n k => l_impl_FirstDrip_b0 n D (k : Nat)) (p := fun i => (inRow D i).isSome) (A := .inl ()) (B := fun i => .inr ((i : Int), selO (inRow D i) 0 (fun x => (x : Int)), 0)) 8 (ev_f (by simp) ev_some) (by
    intro k hk hp a ih
    refine ev_t (by simp; omega) (ev_chk (inB_k _ _ hk) (ev_bnd (impl_First_b2 D k hk) ?_))
    cases hr : inRow D k with
    | some x => rw [hr] at hp; cases hp
    | none =>
      dsimp only [selO]
      rw [up64 k (by omega)]
      exact ih) (by
    intro k hk hp
    refine ev_t (by simp; omega) (ev_chk (inB_k _ _ hk) (ev_bnd (impl_First_b2 D k hk) ?_))
    cases hr : inRow D k with
    | none => rw [hr] at hp; cases hp
    | some x => exact ev_some) 8 0 rfl
  refine ev_bnd h ?_
  unfold firstDripA
  cases firstN (fun i => (inRow D i).isSome) 0 8 <;> exact ev_some
theorem law_FnExactFirstDrip {w h s : Int} {t r : Nat → Int} (hw : (Lit.int .i8 w).wf = true) (hh : (Lit.int .i8 h).wf = true) (hs : (Lit.int .u8 s).wf = true) (ht : ∀ j, j < 64 → (Lit.int .u8 (t j)).wf = true)
    (hr : ∀ j, j < 17 → (Lit.int .i16 (r j)).wf = true) : Ev (fun n => s_laws_FnExactFirstDrip n w h s t r) true := by
  unfold s_laws_FnExactFirstDrip
  obtain ⟨t', e1, e2⟩ := toRoof_ok w h s t
  obtain ⟨r', e3, e4⟩ := toRain_ok r
  have H := (RoofT.mk' hw hh hs ht).like e1
  have R := (RainT.mk' hr).like e3
  have k1 : Ev (fun n => s_spec_FirstDrip n w h s t' r') (sel (rainOk w h s t' r') (firstDripA (dripsOf w h s t' r')) (0, 0, 1)) := by
    unfold s_spec_FirstDrip
    refine ev_bnd (l02Ok_ok H R) ?_
    cases hok : rainOk w h s t' r' with
    | false => exact ev_f rfl ev_some
    | true =>
      obtain ⟨h1, h2, _⟩ := rainOk_b hok
      exact ev_t rfl (ev_bnd (l02Run_ok ⟨H, h1⟩ h2) (ev_chk (plain_three _ _ _ _ _ _ _ _ _) (spec_First_b0 _)))
  have k2 : Ev (fun n => s_impl_FirstDrip n w h s t' r') (sel (rainOk w h s t' r') (firstDripA (dripsOf w h s t' r')) (0, 0, 1)) := by
    unfold s_impl_FirstDrip
    refine ev_bnd (ValidRain_ok H R) ?_
    cases hok : rainOk w h s t' r' with
    | false => exact ev_f rfl ev_some
    | true =>
      obtain ⟨h1, h2, _⟩ := rainOk_b hok
      obtain ⟨ks, vs, _, hrun⟩ := run_ok ⟨H, h1⟩ h2
      exact ev_t rfl (ev_bnd hrun (impl_First_b0 _))
  generalize sel (rainOk w h s t' r') (firstDripA (dripsOf w h s t' r')) (0, 0, 1) = v at k1 k2
  obtain ⟨v1, v2, v3⟩ := v
  exact ev_bnd e2 (ev_bnd e4 (ev_bnd k1 (ev_bnd e2 (ev_bnd e4 (ev_bnd k2 (ev_t (by simp) (ev_t (by simp) (ev_t (by simp) ev_some))))))))

/-! ### lists of drips -/
theorem gutter_len (w h s : Int) (t r : Nat → Int) (N : Nat) : (gutterOf w h s t r N).length = N := by simp [gutterOf]
theorem law_FnExactRunDown {w h s : Int} {t r : Nat → Int} (hw : (Lit.int .i8 w).wf = true) (hh : (Lit.int .i8 h).wf = true) (hs : (Lit.int .u8 s).wf = true) (ht : ∀ j, j < 64 → (Lit.int .u8 (t j)).wf = true)
    (hr : ∀ j, j < 17 → (Lit.int .i16 (r j)).wf = true) : Ev (fun n => s_laws_FnExactRunDown n w h s t r) true := by
  unfold s_laws_FnExactRunDown
  obtain ⟨t', e1, e2⟩ := toRoof_ok w h s t
  obtain ⟨r', e3, e4⟩ := toRain_ok r
  have H := (RoofT.mk' hw hh hs ht).like e1
  have R := (RainT.mk' hr).like e3
  have k : ∃ (D : Nat → Int) (l : List Int) (c : Int), l.length ≤ 1000 ∧ Ev (fun n => s_spec_RunDown n w h s t' r') (D, ints .i64 l, c) ∧ Ev (fun n => s_impl_RunDown n w h s t' r') (D, ints .i64 l, c) := by
    unfold s_spec_RunDown s_impl_RunDown
    cases hok : rainOk w h s t' r' with
    | false =>
      have k1 := l02Ok_ok H R
      have k2 := ValidRain_ok H R
      rw [hok] at k1 k2
      exact ⟨fun _ => 0, [], 1, by simp, ev_bnd k1 (ev_f rfl ev_some), ev_bnd k2 (ev_f rfl ev_some)⟩
    | true =>
      have k1 := l02Ok_ok H R
      have k2 := ValidRain_ok H R
      rw [hok] at k1 k2
      obtain ⟨h1, h2, _⟩ := rainOk_b hok
      obtain ⟨ks, vs, _, hrun⟩ := run_ok ⟨H, h1⟩ h2
      have hb := RoofV.b ⟨H, h1⟩
      exact ⟨_, _, 0, by rw [gutter_len]; omega, ev_bnd k1 (ev_t rfl (ev_bnd (l02Run_ok ⟨H, h1⟩ h2) (ev_chk (plain_three _ _ _ _ _ _ _ _ _) ev_some))), ev_bnd k2 (ev_t rfl (ev_bnd hrun ev_some))⟩
  obtain ⟨D, l, c, hl, k1, k2⟩ := k
  have hm := markInt64S_ok l 1 (by omega)
  have hh := heldInt64S_ok l.length 1 (by omega)
  refine ev_bnd e2 (ev_bnd e4 (ev_bnd k1 (ev_bnd e2 (ev_bnd e4 (ev_bnd k2 (ev_bnd (eqDrips_ok _ _ fun _ _ => rfl) (ev_t rfl (ev_bnd (eqInt64S_ok l (by omega)) (ev_t rfl (ev_t (by simp) (ev_bnd hm ?_)))))))))))
  refine ev_chk (like_ints _ _ _ (by rw [marks_length])) (ev_bnd hh (ev_f (by simp; omega) (ev_t (by simp) ?_)))
  refine ev_bnd e2 (ev_bnd e4 (ev_bnd k2 (ev_bnd (eqDrips_ok _ _ fun _ _ => rfl) (ev_t rfl (ev_bnd (eqInt64S_ok l (by omega)) (ev_t rfl (ev_t (by simp) (ev_bnd hh (ev_f (by simp; omega) (ev_t (by simp) ev_some))))))))))
theorem CourseDrips_b0 {w h s : Int} {t D : Nat → Int} (H : RoofV w h s t) (hD : DripB D) : Ev (fun n => l_spec_CourseDrips_b0 n 0 w h s t D []) (ints .i64 (rowsOf' D h.toNat)) := by
  have hb := H.b
  unfold rowsOf'
  rw [ints_map]
  refine loop_map (l := fun n k g => l_spec_CourseDrips_b0 n (k : Nat) w h s t D g) (R := fun g => g) h.toNat (fun acc => ?_) (fun k acc hk hl a ih => ?_)
  · rw [show (fun n => l_spec_CourseDrips_b0 (n + 1) (h.toNat : Nat) w h s t D acc) = fun n => cnd (decide (((h.toNat : Nat) : Int) < IntKind.i64.wrap h)) _ _ from rfl, w64 h (by omega)]
    exact ev_f (by simp; omega) ev_some
  · simp only [l_spec_CourseDrips_b0]
    rw [w64 h (by omega)]
    refine ev_t (by simp; omega) (ev_bnd (CourseDrips_b2 hD k (by omega) _ _ _ _ (fun _ => 0) _) (ev_chk (by simp; omega) ?_))
    rw [up64 k (by omega)]
    exact ih
/-- a law on a list of numbers, compared, marked and held -/
theorem rowsOf_len (D : Nat → Int) (n : Nat) : (rowsOf' D n).length = n := by simp [rowsOf']
theorem colsOf_len (D : Nat → Int) (n : Nat) : (colsOf D n).length = n := by simp [colsOf]
theorem law_FnExactCourseDrips {w h s : Int} {t r : Nat → Int} (hw : (Lit.int .i8 w).wf = true) (hh : (Lit.int .i8 h).wf = true) (hs : (Lit.int .u8 s).wf = true) (ht : ∀ j, j < 64 → (Lit.int .u8 (t j)).wf = true)
    (hr : ∀ j, j < 17 → (Lit.int .i16 (r j)).wf = true) : Ev (fun n => s_laws_FnExactCourseDrips n w h s t r) true := by
  unfold s_laws_FnExactCourseDrips
  obtain ⟨t', e1, e2⟩ := toRoof_ok w h s t
  obtain ⟨r', e3, e4⟩ := toRain_ok r
  have H := (RoofT.mk' hw hh hs ht).like e1
  have R := (RainT.mk' hr).like e3
  have k : ∃ (l : List Int) (c : Int), l.length ≤ 1000 ∧ Ev (fun n => s_spec_CourseDrips n w h s t' r') (ints .i64 l, c) ∧ Ev (fun n => s_impl_CourseDrips n w h s t' r') (ints .i64 l, c) := by
    unfold s_spec_CourseDrips s_impl_CourseDrips
    have k1 := l02Ok_ok H R
    have k2 := ValidRain_ok H R
    cases hok : rainOk w h s t' r' with
    | false =>
      rw [hok] at k1 k2
      exact ⟨[], 1, by simp, ev_bnd k1 (ev_f rfl ev_some), ev_bnd k2 (ev_f rfl ev_some)⟩
    | true =>
      rw [hok] at k1 k2
      obtain ⟨h1, h2, _⟩ := rainOk_b hok
      obtain ⟨ks, vs, _, hrun⟩ := run_ok ⟨H, h1⟩ h2
      have hb := RoofV.b ⟨H, h1⟩
      have hD := dripsOf_b (w := w) (h := h) (s := s) (t := t') h2
      exact ⟨_, 0, by rw [rowsOf_len]; omega, ev_bnd k1 (ev_t rfl (ev_bnd (l02Run_ok ⟨H, h1⟩ h2) (ev_chk (plain_three _ _ _ _ _ _ _ _ _) (ev_bnd (CourseDrips_b0 ⟨H, h1⟩ hD) ev_some)))), ev_bnd k2 (ev_t rfl (ev_bnd hrun (ev_bnd (courses_ok ⟨H, h1⟩ hD) ev_some)))⟩
  obtain ⟨l, c, hl, k1, k2⟩ := k
  have hm := markInt64S_ok l 1 (by omega)
  have hh := heldInt64S_ok l.length 1 (by omega)
  refine ev_bnd e2 (ev_bnd e4 (ev_bnd k1 (ev_bnd e2 (ev_bnd e4 (ev_bnd k2 (ev_bnd (eqInt64S_ok l (by omega)) (ev_t rfl (ev_t (by simp) (ev_bnd hm ?_)))))))))
  refine ev_chk (like_ints _ _ _ (by rw [marks_length])) (ev_bnd hh (ev_f (by simp; omega) (ev_t (by simp) ?_)))
  exact ev_bnd e2 (ev_bnd e4 (ev_bnd k2 (ev_bnd (eqInt64S_ok l (by omega)) (ev_t rfl (ev_t (by simp) (ev_bnd hh (ev_f (by simp; omega) (ev_t (by simp) ev_some))))))))
theorem law_FnExactCellDrips {w h s : Int} {t r : Nat → Int} (hw : (Lit.int .i8 w).wf = true) (hh : (Lit.int .i8 h).wf = true) (hs : (Lit.int .u8 s).wf = true) (ht : ∀ j, j < 64 → (Lit.int .u8 (t j)).wf = true)
    (hr : ∀ j, j < 17 → (Lit.int .i16 (r j)).wf = true) : Ev (fun n => s_laws_FnExactCellDrips n w h s t r) true := by
  unfold s_laws_FnExactCellDrips
  obtain ⟨t', e1, e2⟩ := toRoof_ok w h s t
  obtain ⟨r', e3, e4⟩ := toRain_ok r
  have H := (RoofT.mk' hw hh hs ht).like e1
  have R := (RainT.mk' hr).like e3
  have k : ∃ (l : List Int) (c : Int), l.length ≤ 1000 ∧ Ev (fun n => s_spec_CellDrips n w h s t' r') (ints .i64 l, c) ∧ Ev (fun n => s_impl_CellDrips n w h s t' r') (ints .i64 l, c) := by
    unfold s_spec_CellDrips s_impl_CellDrips
    have k1 := l02Ok_ok H R
    have k2 := ValidRain_ok H R
    cases hok : rainOk w h s t' r' with
    | false =>
      rw [hok] at k1 k2
      exact ⟨[], 1, by simp, ev_bnd k1 (ev_f rfl ev_some), ev_bnd k2 (ev_f rfl ev_some)⟩
    | true =>
      rw [hok] at k1 k2
      obtain ⟨h1, h2, _⟩ := rainOk_b hok
      obtain ⟨ks, vs, _, hrun⟩ := run_ok ⟨H, h1⟩ h2
      have hb := RoofV.b ⟨H, h1⟩
      have hD := dripsOf_b (w := w) (h := h) (s := s) (t := t') h2
      exact ⟨_, 0, by rw [colsOf_len]; omega, ev_bnd k1 (ev_t rfl (ev_bnd (Across_ok ⟨H, h1⟩ h2) (ev_chk (plain_fresh _ _ _) ev_some))), ev_bnd k2 (ev_t rfl (ev_bnd hrun (ev_bnd (columns_ok ⟨H, h1⟩ hD) ev_some)))⟩
  obtain ⟨l, c, hl, k1, k2⟩ := k
  have hm := markInt64S_ok l 1 (by omega)
  have hh := heldInt64S_ok l.length 1 (by omega)
  refine ev_bnd e2 (ev_bnd e4 (ev_bnd k1 (ev_bnd e2 (ev_bnd e4 (ev_bnd k2 (ev_bnd (eqInt64S_ok l (by omega)) (ev_t rfl (ev_t (by simp) (ev_bnd hm ?_)))))))))
  refine ev_chk (like_ints _ _ _ (by rw [marks_length])) (ev_bnd hh (ev_f (by simp; omega) (ev_t (by simp) ?_)))
  exact ev_bnd e2 (ev_bnd e4 (ev_bnd k2 (ev_bnd (eqInt64S_ok l (by omega)) (ev_t rfl (ev_t (by simp) (ev_bnd hh (ev_f (by simp; omega) (ev_t (by simp) ev_some))))))))
end Go.Proofs.Ytdhcfdiggcgmhaa
