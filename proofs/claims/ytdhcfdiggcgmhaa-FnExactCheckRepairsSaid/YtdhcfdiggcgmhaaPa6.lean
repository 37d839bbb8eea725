/- Pails, the worst cell, what a mended tile saves. -/
import Derived.Test.YtdhcfdiggcgmhaaPa5
namespace Go.Proofs.Ytdhcfdiggcgmhaa
open Go
set_option linter.unusedVariables false
set_option linter.unusedSimpArgs false

def rainC (w h s : Int) (t r : Nat → Int) (b : Bool) : Int := sel (rainOk w h s t r) (sel b 0 2) 1
theorem rainCode_ok {w h s : Int} {t r : Nat → Int} (H : RoofT w h s t) (R : RainT r) (b : Bool) : Ev (fun n => s_impl_rainCode n w h s t r b) (rainC w h s t r b) := by
  unfold s_impl_rainCode rainC
  refine ev_bnd (ValidRain_ok H R) ?_
  cases rainOk w h s t r <;> cases b <;> exact ev_some
theorem l02Pails_ok {w h s : Int} {t r : Nat → Int} (H : RoofT w h s t) (R : RainT r) (z : Int) : Ev (fun n => s_spec_l02Pails n w h s t r z) (rainC w h s t r (decide (1 ≤ z) && decide (z ≤ 10000))) := by
  unfold s_spec_l02Pails rainC
  refine ev_bnd (l02Ok_ok H R) ?_
  cases rainOk w h s t r with
  | false => exact ev_f rfl ev_some
  | true =>
    refine ev_t rfl (ev_bnd (ev_of fun n => l00In_eq n _ _ _) ?_)
    cases (decide (1 ≤ z) && decide (z ≤ 10000)) <;> exact ev_some
theorem isPail_eq (n : Nat) (z : Int) : s_impl_isPail n z = some (decide (1 ≤ z) && decide (z ≤ 10000)) := by
  unfold s_impl_isPail; simp only [within_i64, bnd_s]
theorem nth_cols (D : Nat → Int) (N k : Nat) (h : k < N) : nth (ints .i64 (colsOf D N)) k = some (V.int .i64 (colSum D k)) := by
  rw [nth_ints _ _ _ (by rw [colsOf_len]; exact h)]; simp [colsOf]
theorem idx_cols (D : Nat → Int) (N k : Nat) (h : k < N) : idx (ints .i64 (colsOf D N)) (k : Int) = some (V.int .i64 (colSum D k)) := by
  rw [idx_ints _ _ _ (by rw [colsOf_len]; exact h)]; simp [colsOf]
def upQ (a b : Int) : Int := (a + b - 1) / b
theorem upQ_b {a b : Int} (ha : 0 ≤ a ∧ a ≤ 1000000) (hb : 1 ≤ b ∧ b ≤ 1000000) : 0 ≤ upQ a b ∧ upQ a b ≤ 2000000 := by
  unfold upQ
  have h1 : 0 ≤ (a + b - 1) / b := Int.ediv_nonneg (by omega) (by omega)
  have h2 : (a + b - 1) / b ≤ a + b - 1 := Int.ediv_le_self _ (by omega)
  omega
theorem up64_eq (n : Nat) (a b : Int) (ha : 0 ≤ a ∧ a ≤ 1000000) (hb : 1 ≤ b ∧ b ≤ 1000000) : s_impl_up_int64 n a b = some (upQ a b) := by
  unfold s_impl_up_int64
  have := upQ_b ha hb
  rw [decide_eq_false (by omega), Bool.not_false, chk_t, w64 (a + b) (by omega), w64 (a + b - 1) (by omega), Int.tdiv_eq_ediv_of_nonneg (by omega)]
  unfold upQ at this ⊢
  rw [w64 _ (by omega)]
def pailsA (w h s : Int) (t r : Nat → Int) (z : Int) : Int × Int := if rainC w h s t r (decide (1 ≤ z) && decide (z ≤ 10000)) = 0 then (sumR (fun x => upQ (colSum (dripsOf w h s t r) x) z) 0 (2 * w + 1).toNat, 0) else (0, rainC w h s t r (decide (1 ≤ z) && decide (z ≤ 10000)))
theorem rainC_zero {w h s z : Int} {t r : Nat → Int} (hc : rainC w h s t r (decide (1 ≤ z) && decide (z ≤ 10000)) = 0) : rainOk w h s t r = true ∧ 1 ≤ z ∧ z ≤ 10000 := by
  unfold rainC at hc
  cases hok : rainOk w h s t r with
  | false => rw [hok] at hc; simp [sel] at hc
  | true =>
    rw [hok] at hc
    cases hb : (decide (1 ≤ z) && decide (z ≤ 10000)) with
    | false => rw [hb] at hc; simp [sel] at hc
    | true => simp at hb; exact ⟨rfl, hb⟩
theorem spec_PailsFor_ok {w h s : Int} {t r : Nat → Int} (H : RoofT w h s t) (R : RainT r) (z : Int) : Ev (fun n => s_spec_PailsFor n w h s t r z) (pailsA w h s t r z) := by
  unfold s_spec_PailsFor pailsA
  refine ev_bnd (l02Pails_ok H R z) ?_
  by_cases hc : rainC w h s t r (decide (1 ≤ z) && decide (z ≤ 10000)) = 0
  · rw [if_pos hc]
    obtain ⟨hok, hz⟩ := rainC_zero hc
    obtain ⟨h1, h2, _⟩ := rainOk_b hok
    have hb := RoofV.b ⟨H, h1⟩
    have hD := dripsOf_b (w := w) (h := h) (s := s) (t := t) h2
    refine ev_t (by simp [hc]) (ev_bnd (Across_ok ⟨H, h1⟩ h2) (ev_chk (plain_fresh _ _ _) ?_))
    generalize dripsOf w h s t r = D at hD
    obtain ⟨N, hN⟩ : ∃ N : Nat, (2 * w + 1).toNat = N := ⟨_, rfl⟩
    rw [hN]
    refine ev_bnd (a := sumR (fun x => upQ (colSum D x) z) 0 N) ?_ ev_some
    refine loop_sum (l := fun n k q => l_spec_PailsFor_b0 n z q (k : Nat) (ints .i64 (colsOf D N))) (g := fun x => upQ (colSum D x) z) (R := fun q => q) N 2000000 (by omega) (fun j hj => ?_) (fun q => ev_f (by simp [ints_length, colsOf_len]) ev_some) ?_
    · have h3 := colSum_b hD (x := j) (by omega)
      have := upQ_b (a := colSum D j) (b := z) (by omega) (by omega)
      omega
    · intro k q hk q1 q2 a ih
      have h3 := colSum_b hD (x := k) (by omega)
      have h4 := upQ_b (a := colSum D k) (b := z) (by omega) (by omega)
      refine ev_t (by simp [ints_length, colsOf_len]; omega) (ev_chk (inB_k _ _ (by rw [ints_length, colsOf_len]; exact hk)) (ev_bnd (a := colSum D k) (ev_of fun n => by rw [Int.toNat_natCast, nth_cols _ _ _ hk]; rfl) (ev_chk (by simp; omega) ?_)))
      rw [w64 (colSum D k + z) (by omega), w64 (colSum D k + z - 1) (by omega), Int.tdiv_eq_ediv_of_nonneg (by omega), show (colSum D k + z - 1) / z = upQ (colSum D k) z from rfl, w64 (upQ _ _) (by omega), w64 _ (by omega), up64 k (by omega)]
      exact ih
  · rw [if_neg hc]
    exact ev_f (by simp [hc]) ev_some
theorem impl_PailsFor_ok {w h s : Int} {t r : Nat → Int} (H : RoofT w h s t) (R : RainT r) (z : Int) : Ev (fun n => s_impl_PailsFor n w h s t r z) (pailsA w h s t r z) := by
  unfold s_impl_PailsFor pailsA
  refine ev_bnd (ev_of fun n => isPail_eq n z) (ev_bnd (rainCode_ok H R _) ?_)
  by_cases hc : rainC w h s t r (decide (1 ≤ z) && decide (z ≤ 10000)) = 0
  · rw [if_pos hc]
    obtain ⟨hok, hz⟩ := rainC_zero hc
    obtain ⟨h1, h2, _⟩ := rainOk_b hok
    have hb := RoofV.b ⟨H, h1⟩
    have hD := dripsOf_b (w := w) (h := h) (s := s) (t := t) h2
    obtain ⟨ks, vs, _, hrun⟩ := run_ok ⟨H, h1⟩ h2
    refine ev_t (by simp [hc]) (ev_bnd hrun (ev_bnd (columns_ok ⟨H, h1⟩ hD) ?_))
    generalize dripsOf w h s t r = D at hD
    obtain ⟨N, hN⟩ : ∃ N : Nat, (2 * w + 1).toNat = N := ⟨_, rfl⟩
    rw [hN]
    refine ev_bnd (a := ints .i64 ((List.range' 0 N).map fun x => upQ (colSum D x) z)) ?_ (ev_chk (plain_fresh _ _ _) (ev_bnd (sum64_ok _ ?_ ?_) ev_some))
    · unfold s_impl_each_int64_int64__PailsFor_1
      refine ev_bnd (a := ints .i64 ((List.range' 0 N).map fun x => upQ (colSum D x) z)) ?_ ev_some
      have hl : (ints .i64 (colsOf D N)).length = N := by simp [ints_length, colsOf_len]
      rw [hl, ints_map]
      refine loop_map (l := fun n k g => l_impl_each_int64_int64__PailsFor_1_b0 n z (ints .i64 (colsOf D N)) (N : Nat) (k : Nat) g) (R := fun g => g) N (fun acc => ev_f (by simp) ev_some) (fun k acc hk hl a ih => ?_)
      have h3 := colSum_b hD (x := k) (by omega)
      refine ev_t (by simp; omega) (ev_bnd (a := colSum D k) (ev_of fun n => by rw [idx_cols _ _ _ hk]; rfl) (ev_bnd (a := upQ (colSum D k) z) ?_ (ev_chk (by simp; omega) ?_)))
      · unfold s_impl_PailsFor_1
        exact ev_bnd (ev_of fun n => up64_eq n _ _ (by omega) (by omega)) ev_some
      · rw [up64 k (by omega)]
        exact ih
    · intro x hx
      obtain ⟨j, hj, rfl⟩ := List.mem_map.1 hx
      have h3 := colSum_b hD (x := j) (by simp at hj; omega)
      have := upQ_b (a := colSum D j) (b := z) (by omega) (by omega)
      omega
    · simp; omega
  · rw [if_neg hc]
    exact ev_f (by simp [hc]) ev_some
theorem law_FnExactPailsFor {w h s z : Int} {t r : Nat → Int} (hw : (Lit.int .i8 w).wf = true) (hh : (Lit.int .i8 h).wf = true) (hs : (Lit.int .u8 s).wf = true) (ht : ∀ j, j < 64 → (Lit.int .u8 (t j)).wf = true)
    (hr : ∀ j, j < 17 → (Lit.int .i16 (r j)).wf = true) (hz : (Lit.int .i64 z).wf = true) : Ev (fun n => s_laws_FnExactPailsFor n w h s t r z) true := by
  unfold s_laws_FnExactPailsFor
  obtain ⟨t', e1, e2⟩ := toRoof_ok w h s t
  obtain ⟨r', e3, e4⟩ := toRain_ok r
  have H' := (RoofT.mk' hw hh hs ht).like e1
  have R' := (RainT.mk' hr).like e3
  exact ev_bnd e2 (ev_bnd e4 (ev_bnd (spec_PailsFor_ok H' R' z) (ev_bnd e2 (ev_bnd e4 (ev_bnd (impl_PailsFor_ok H' R' z) (ev_t (by simp) (ev_t (by simp) ev_some)))))))

/-! ### the worst cell -/
def bestN (f : Nat → Int) : Nat → Nat
  | 0 => 0
  | k + 1 => if f (bestN f k) < f (k + 1) then k + 1 else bestN f k
theorem bestN_spec (f : Nat → Int) : ∀ k, bestN f k ≤ k ∧ (∀ j, j ≤ k → f j ≤ f (bestN f k)) ∧ ∀ j, j < bestN f k → f j < f (bestN f k)
  | 0 => ⟨Nat.le_refl _, fun j hj => by obtain rfl : j = 0 := by omega
                                        exact Int.le_refl _, fun j hj => by simp [bestN] at hj⟩
  | k + 1 => by
    obtain ⟨h1, h2, h3⟩ := bestN_spec f k
    simp only [bestN]
    split
    · rename_i h
      refine ⟨Nat.le_refl _, fun j hj => ?_, fun j hj => ?_⟩
      · rcases Nat.lt_or_ge j (k + 1) with h4 | h4
        · have := h2 j (by omega); omega
        · obtain rfl : j = k + 1 := by omega
          exact Int.le_refl _
      · have := h2 j (by omega); omega
    · rename_i h
      refine ⟨by omega, fun j hj => ?_, h3⟩
      rcases Nat.lt_or_ge j (k + 1) with h4 | h4
      · exact h2 j (by omega)
      · obtain rfl : j = k + 1 := by omega
        omega
def worstA (D : Nat → Int) (N : Nat) : Int × Int × Int := if colSum D (bestN (colSum D) (N - 1)) = 0 then (0, 0, 6) else ((bestN (colSum D) (N - 1) : Nat), colSum D (bestN (colSum D) (N - 1)), 0)
theorem worst_b0 (D : Nat → Int) (N : Nat) (hN : 1 ≤ N ∧ N ≤ 1000) : Ev (fun n => l_spec_WorstCell_b0 n 0 1 (ints .i64 (colsOf D N))) (((bestN (colSum D) (N - 1) : Nat) : Int), ints .i64 (colsOf D N)) := by
  obtain ⟨v, hv, h1⟩ := loop_up (l := fun n k (b : Nat) => l_spec_WorstCell_b0 n (b : Nat) (k : Nat) (ints .i64 (colsOf D N))) (I := fun k b => 1 ≤ k ∧ b = bestN (colSum D) (k - 1)) (P := fun v => v = (((bestN (colSum D) (N - 1) : Nat) : Int), ints .i64 (colsOf D N))) N (by
    rintro k b hk ⟨hk1, rfl⟩ ih
    have hl : (ints .i64 (colsOf D N)).length = N := by simp [ints_length, colsOf_len]
    have hb := (bestN_spec (colSum D) (k - 1)).1
    by_cases hlt : k < N
    · refine tot_t (by simp [hl]; omega) (tot_chk (inB_k _ _ (by omega)) (tot_ev (a := colSum D k) (ev_of fun n => by rw [Int.toNat_natCast, nth_cols _ _ _ hlt]; rfl) (tot_chk (inB_k _ _ (by omega)) (tot_ev (a := colSum D (bestN (colSum D) (k - 1))) (ev_of fun n => by rw [Int.toNat_natCast, nth_cols _ _ _ (by omega)]; rfl) ?_))))
      rw [up64 k (by omega)]
      obtain ⟨m, rfl⟩ : ∃ m, k = m + 1 := ⟨k - 1, by omega⟩
      simp only [Nat.add_sub_cancel] at ih ⊢
      by_cases h : colSum D (bestN (colSum D) m) < colSum D (m + 1)
      · exact tot_t (by simp [h]) (ih hlt (m + 1) ⟨by omega, by simp [bestN, h]⟩)
      · exact tot_f (by simp; omega) (ih hlt _ ⟨by omega, by simp [bestN, h]⟩)
    · obtain rfl : k = N := by omega
      exact tot_f (by simp [hl]) (tot_some rfl)) 1 0 hN.1 ⟨Nat.le_refl _, rfl⟩
  subst hv
  exact h1
theorem max_b0 (D : Nat → Int) (N : Nat) (hN : 1 ≤ N ∧ N ≤ 1000) : Ev (fun n => s_slices_Max_Sint64_int64 n (ints .i64 (colsOf D N))) (colSum D (bestN (colSum D) (N - 1))) := by
  unfold s_slices_Max_Sint64_int64
  have hl : (ints .i64 (colsOf D N)).length = N := by simp [ints_length, colsOf_len]
  refine ev_f (by simp [hl]; omega) (ev_bnd (a := colSum D 0) (ev_of fun n => by have := idx_cols D N 0 (by omega); simp only [Int.natCast_zero] at this; rw [this]; rfl) ?_)
  obtain ⟨v, hv, h1⟩ := loop_up (l := fun n k (q : Int) => l_slices_Max_Sint64_int64_b0 n (ints .i64 (colsOf D N)) q (k : Nat)) (I := fun k q => 1 ≤ k ∧ q = colSum D (bestN (colSum D) (k - 1))) (P := fun v => v = colSum D (bestN (colSum D) (N - 1))) N (by
    rintro k q hk ⟨hk1, rfl⟩ ih
    by_cases hlt : k < N
    · refine tot_t (by simp [hl]; omega) (tot_ev (a := colSum D k) (ev_of fun n => by rw [idx_cols _ _ _ hlt]; rfl) ?_)
      rw [up64 k (by omega)]
      obtain ⟨m, rfl⟩ : ∃ m, k = m + 1 := ⟨k - 1, by omega⟩
      simp only [Nat.add_sub_cancel] at ih ⊢
      refine ih hlt _ ⟨by omega, ?_⟩
      unfold maxI
      by_cases h : colSum D (bestN (colSum D) m) < colSum D (m + 1)
      · simp [bestN, h]
      · simp [bestN, h]
    · obtain rfl : k = N := by omega
      exact tot_f (by simp [hl]) (tot_some rfl)) 1 (colSum D 0) hN.1 ⟨Nat.le_refl _, rfl⟩
  subst hv
  exact ev_bnd h1 ev_some
theorem index_b0 (D : Nat → Int) (N : Nat) (hN : 1 ≤ N ∧ N ≤ 1000) : Ev (fun n => s_slices_Index_Sint64_int64 n (ints .i64 (colsOf D N)) (colSum D (bestN (colSum D) (N - 1)))) (bestN (colSum D) (N - 1) : Nat) := by
  unfold s_slices_Index_Sint64_int64
  have hl : (ints .i64 (colsOf D N)).length = N := by simp [ints_length, colsOf_len]
  rw [hl]
  obtain ⟨b1, b2, b3⟩ := bestN_spec (colSum D) (N - 1)
  generalize bestN (colSum D) (N - 1) = b at b1 b2 b3
  have h := loop_first (l := fun n k => l_slices_Index_Sint64_int64_b0 n (ints .i64 (colsOf D N)) (colSum D b) (N : Nat) (k : Nat)) (p := fun j => decide (colSum D b = colSum D j)) (A := Sum.inl ()) (B := fun j => Sum.inr (j : Int)) N (ev_f (by simp) ev_some) (by
    intro k hk hp a ih
    refine ev_t (by simp; omega) (ev_bnd (a := colSum D k) (ev_of fun n => by rw [idx_cols _ _ _ hk]; rfl) (ev_f hp ?_))
    rw [up64 k (by omega)]
    exact ih) (by
    intro k hk hp
    exact ev_t (by simp; omega) (ev_bnd (a := colSum D k) (ev_of fun n => by rw [idx_cols _ _ _ hk]; rfl) (ev_t hp ev_some))) N 0 (by omega)
  have hf : firstN (fun j => decide (colSum D b = colSum D j)) 0 N = some b := by
    cases hf : firstN (fun j => decide (colSum D b = colSum D j)) 0 N with
    | none => have := firstN_none hf b (by omega) (by omega); simp at this
    | some j =>
      obtain ⟨h1, h2, h3, h4⟩ := firstN_some hf
      simp only [decide_eq_true_eq] at h3
      congr 1
      rcases Nat.lt_trichotomy j b with h5 | h5 | h5
      · have := b3 j h5; omega
      · exact h5
      · have := h4 b (by omega) h5; simp at this
  rw [hf] at h
  exact ev_bnd h ev_some
theorem law_FnExactWorstCell {w h s : Int} {t r : Nat → Int} (hw : (Lit.int .i8 w).wf = true) (hh : (Lit.int .i8 h).wf = true) (hs : (Lit.int .u8 s).wf = true) (ht : ∀ j, j < 64 → (Lit.int .u8 (t j)).wf = true)
    (hr : ∀ j, j < 17 → (Lit.int .i16 (r j)).wf = true) : Ev (fun n => s_laws_FnExactWorstCell n w h s t r) true := by
  unfold s_laws_FnExactWorstCell
  obtain ⟨t', e1, e2⟩ := toRoof_ok w h s t
  obtain ⟨r', e3, e4⟩ := toRain_ok r
  have H := (RoofT.mk' hw hh hs ht).like e1
  have R := (RainT.mk' hr).like e3
  have k : ∃ v, Ev (fun n => s_spec_WorstCell n w h s t' r') v ∧ Ev (fun n => s_impl_WorstCell n w h s t' r') v := by
    unfold s_spec_WorstCell s_impl_WorstCell
    have k1 := l02Ok_ok H R
    have k2 := ValidRain_ok H R
    cases hok : rainOk w h s t' r' with
    | false =>
      rw [hok] at k1 k2
      exact ⟨(0, 0, 1), ev_bnd k1 (ev_f rfl ev_some), ev_bnd k2 (ev_f rfl ev_some)⟩
    | true =>
      rw [hok] at k1 k2
      obtain ⟨h1, h2, _⟩ := rainOk_b hok
      obtain ⟨ks, vs, _, hrun⟩ := run_ok ⟨H, h1⟩ h2
      have hb := RoofV.b ⟨H, h1⟩
      have hD := dripsOf_b (w := w) (h := h) (s := s) (t := t') h2
      have q1 := Across_ok ⟨H, h1⟩ h2
      have q2 := columns_ok ⟨H, h1⟩ hD
      refine ⟨worstA (dripsOf w h s t' r') (2 * w + 1).toNat, ev_bnd k1 (ev_t rfl (ev_bnd q1 (ev_chk (plain_fresh _ _ _) ?_))), ev_bnd k2 (ev_t rfl (ev_bnd hrun (ev_bnd q2 ?_)))⟩
      · have hl : (ints .i64 (colsOf (dripsOf w h s t' r') (2 * w + 1).toNat)).length = (2 * w + 1).toNat := by simp [ints_length, colsOf_len]
        have b1 := (bestN_spec (colSum (dripsOf w h s t' r')) ((2 * w + 1).toNat - 1)).1
        have g : ∀ n : Nat, bnd (nth (ints .i64 (colsOf (dripsOf w h s t' r') (2 * w + 1).toNat)) ((bestN (colSum (dripsOf w h s t' r')) ((2 * w + 1).toNat - 1) : Nat) : Int).toNat) as_i64 = some (colSum (dripsOf w h s t' r') (bestN (colSum (dripsOf w h s t' r')) ((2 * w + 1).toNat - 1))) := by
          intro n
          rw [Int.toNat_natCast, nth_cols _ _ _ (by omega)]; rfl
        refine ev_bnd (worst_b0 _ _ (by omega)) (ev_chk (inB_k _ _ (by omega)) (ev_bnd (ev_of g) ?_))
        unfold worstA
        split
        · rename_i hz; exact ev_t (by simp [hz]) ev_some
        · rename_i hz; exact ev_f (by simp [hz]) (ev_bnd (ev_of g) ev_some)
      · refine ev_bnd (max_b0 _ _ (by omega)) ?_
        unfold worstA
        split
        · rename_i hz; exact ev_t (by simp [hz]) ev_some
        · rename_i hz; exact ev_f (by simp [hz]) (ev_bnd (index_b0 _ _ (by omega)) ev_some)
  obtain ⟨⟨v1, v2, v3⟩, k1, k2⟩ := k
  exact ev_bnd e2 (ev_bnd e4 (ev_bnd k1 (ev_bnd e2 (ev_bnd e4 (ev_bnd k2 (ev_t (by simp) (ev_t (by simp) (ev_t (by simp) ev_some))))))))

/-! ### what a mended tile saves -/
theorem roofOk_put {w h s : Int} {t : Nat → Int} (h1 : roofOk w h s t = true) (j : Nat) : roofOk w h s (updC t j 0) = true := by
  simp only [roofOk, Bool.and_eq_true] at h1 ⊢
  refine ⟨h1.1, (allN_iff _ _ _).2 fun i hi1 hi2 => (allN_iff _ _ _).2 fun k hk1 hk2 => ?_⟩
  have h2 := (allN_iff _ _ _).1 ((allN_iff _ _ _).1 h1.2 i hi1 hi2) k hk1 hk2
  unfold cellOk at h2 ⊢
  rw [updC_at]
  split
  · simp
  · exact h2
theorem RoofV.put {w h s : Int} {t : Nat → Int} (H : RoofV w h s t) (j : Nat) : RoofV w h s (updC t j 0) :=
  ⟨⟨H.bw, H.bh, H.bs, fun i hi => by rw [updC_at]; split; · omega
                                     exact H.bt i hi⟩, roofOk_put H.ok j⟩
theorem place_ix (c k : Int) : 0 + c.toNat * 8 + k.toNat * 1 = c.toNat * 8 + k.toNat := by omega
def saveK (w h s : Int) (t r : Nat → Int) (c k : Int) : Int := allSum (dripsOf w h s t r) - allSum (dripsOf w h s (updC t (c.toNat * 8 + k.toNat) 0) r)
theorem saveK_b {w h s : Int} {t r : Nat → Int} (R : RainB r) (c k : Int) : -136000 ≤ saveK w h s t r c k ∧ saveK w h s t r c k ≤ 136000 := by
  have h1 := allSum_b (dripsOf_b (w := w) (h := h) (s := s) (t := t) R)
  have h2 := allSum_b (dripsOf_b (w := w) (h := h) (s := s) (t := updC t (c.toNat * 8 + k.toNat) 0) R)
  unfold saveK; omega
theorem l02Save_ok {w h s : Int} {t r : Nat → Int} (H : RoofV w h s t) (R : RainB r) (c k : Int) (hc : 0 ≤ c ∧ c < 8) (hk : 0 ≤ k ∧ k < 8) : Ev (fun n => s_spec_l02Save n w h s t r c k) (saveK w h s t r c k) := by
  unfold s_spec_l02Save
  have := saveK_b (w := w) (h := h) (s := s) (t := t) R c k
  refine ev_chk (inB_i _ _ (by omega)) (ev_chk (inB_i _ _ (by omega)) (ev_bnd (l02Sum_ok H R) ?_))
  rw [place_ix]
  refine ev_bnd (l02Sum_ok (H.put _) R) (ev_cast ev_some ?_)
  rw [w64 _ (by unfold saveK at this; omega)]
  rfl
theorem with_eq (n : Nat) (w h s : Int) (t : Nat → Int) (c k v : Int) (hc : 0 ≤ c ∧ c < 8) (hk : 0 ≤ k ∧ k < 8) : s_impl_Roof_with n w h s t c k v = some (w, h, s, updC t (c.toNat * 8 + k.toNat) v) := by
  unfold s_impl_Roof_with
  rw [inB_i _ _ (by omega), chk_t, inB_i _ _ (by omega), chk_t, place_ix]
theorem save_ok {w h s : Int} {t r : Nat → Int} (H : RoofV w h s t) (R : RainB r) (c k : Int) (hc : 0 ≤ c ∧ c < 8) (hk : 0 ≤ k ∧ k < 8) : Ev (fun n => s_impl_Roof_save n w h s t r c k) (saveK w h s t r c k) := by
  unfold s_impl_Roof_save
  have := saveK_b (w := w) (h := h) (s := s) (t := t) R c k
  refine ev_bnd (dripSum_ok H R) (ev_bnd (ev_of fun n => with_eq n w h s t c k 0 hc hk) (ev_bnd (dripSum_ok (H.put _) R) (ev_cast ev_some ?_)))
  rw [w64 _ (by unfold saveK at this; omega)]
  rfl
theorem has_any (w h s : Int) (t : Nat → Int) (c k : Int) : ∃ b, ∀ n, s_impl_Roof_has n w h s t c k = some b := by
  unfold s_impl_Roof_has
  simp only [within_i8, bnd_s, cnd_and]
  exact ⟨_, fun n => rfl⟩
theorem has_eq {w h s : Int} {t : Nat → Int} (H : RoofV w h s t) (c k : Int) (n : Nat) : s_impl_Roof_has n w h s t c k = some (decide (0 ≤ c ∧ c < h ∧ 0 ≤ k ∧ k < w)) := by
  have hb := H.b
  unfold s_impl_Roof_has
  simp (disch := omega) only [within_i8, bnd_s, cnd_and, w8]
  congr 1
  rw [Bool.eq_iff_iff]; simp; omega
theorem law_FnExactSaveOf {w h s c k : Int} {t r : Nat → Int} (hw : (Lit.int .i8 w).wf = true) (hh : (Lit.int .i8 h).wf = true) (hs : (Lit.int .u8 s).wf = true) (ht : ∀ j, j < 64 → (Lit.int .u8 (t j)).wf = true)
    (hr : ∀ j, j < 17 → (Lit.int .i16 (r j)).wf = true) (hc : (Lit.int .i8 c).wf = true) (hk : (Lit.int .i8 k).wf = true) : Ev (fun n => s_laws_FnExactSaveOf n w h s t r c k) true := by
  unfold s_laws_FnExactSaveOf
  obtain ⟨t', e1, e2⟩ := toRoof_ok w h s t
  obtain ⟨r', e3, e4⟩ := toRain_ok r
  have H := (RoofT.mk' hw hh hs ht).like e1
  have R := (RainT.mk' hr).like e3
  have e5 : Ev (fun n => s_laws_toPlace n c k) (c, k) := ev_of fun n => rfl
  have key : ∃ v, Ev (fun n => s_spec_SaveOf n w h s t' r' c k) v ∧ Ev (fun n => s_impl_SaveOf n w h s t' r' c k) v := by
    unfold s_spec_SaveOf s_impl_SaveOf
    have k1 := l02Ok_ok H R
    cases hok : rainOk w h s t' r' with
    | false =>
      rw [hok] at k1
      obtain ⟨b, hb⟩ := has_any w h s t' c k
      have k2 := rainCode_ok H R b
      unfold rainC at k2
      rw [hok] at k2
      exact ⟨(0, 1), ev_bnd k1 (ev_f rfl ev_some), ev_bnd (ev_of hb) (ev_bnd k2 (ev_f rfl ev_some))⟩
    | true =>
      rw [hok] at k1
      obtain ⟨h1, h2, _⟩ := rainOk_b hok
      have hv : RoofV w h s t' := ⟨H, h1⟩
      have hb := hv.b
      have k2 := rainCode_ok H R (decide (0 ≤ c ∧ c < h ∧ 0 ≤ k ∧ k < w))
      unfold rainC at k2
      rw [hok] at k2
      have k3 : Ev (fun n => s_spec_l01Is n w h s t' c k) (decide (0 ≤ c ∧ c < h ∧ 0 ≤ k ∧ k < w)) := ev_of fun n => l01Is_eq n c k H (wf_i8 hc) (wf_i8 hk)
      by_cases hp : 0 ≤ c ∧ c < h ∧ 0 ≤ k ∧ k < w
      · rw [decide_eq_true hp] at k2 k3
        refine ⟨(saveK w h s t' r' c k, 0), ev_bnd k1 (ev_t rfl (ev_bnd k3 (ev_t rfl (ev_bnd (l02Save_ok hv h2 c k (by omega) (by omega)) ev_some)))), ev_bnd (ev_of fun n => has_eq hv c k n) ?_⟩
        rw [decide_eq_true hp]
        exact ev_bnd k2 (ev_t rfl (ev_bnd (save_ok hv h2 c k (by omega) (by omega)) ev_some))
      · rw [decide_eq_false hp] at k2 k3
        refine ⟨(0, 2), ev_bnd k1 (ev_t rfl (ev_bnd k3 (ev_f rfl ev_some))), ev_bnd (ev_of fun n => has_eq hv c k n) ?_⟩
        rw [decide_eq_false hp]
        exact ev_bnd k2 (ev_f rfl ev_some)
  obtain ⟨⟨v1, v2⟩, k1, k2⟩ := key
  exact ev_bnd e2 (ev_bnd e4 (ev_bnd e5 (ev_bnd k1 (ev_bnd e2 (ev_bnd e4 (ev_bnd e5 (ev_bnd k2 (ev_t (by simp) (ev_t (by simp) ev_some)))))))))
end Go.Proofs.Ytdhcfdiggcgmhaa
