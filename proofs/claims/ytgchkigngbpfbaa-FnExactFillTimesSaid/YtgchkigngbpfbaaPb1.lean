/- Laws LeastRain, FillTimes. -/
import Derived.Test.YtgchkigngbpfbaaPa6
import Derived.Test.YtgchkigngbpfbaaSh2
namespace Go.Proofs.Ytgchkigngbpfbaa
open Go
set_option linter.unusedVariables false
set_option linter.unusedSimpArgs false

def sumEven (w h s : Int) (t : Nat → Int) (k : Nat) : Int := allSum (dripsOf w h s t (evenOf w k))
def leastA (w h s : Int) (t : Nat → Int) (a : Int) : Int × Int := selO (firstN (fun k => decide (a < sumEven w h s t k)) 0 1001) (0, 6) fun k => ((k : Int), 0)
theorem evenB {w : Int} {k : Nat} (hk : k < 1001) : RainB (evenOf w k) := by
  intro j hj
  unfold evenOf
  split <;> omega
theorem spec_LeastRain_b0 {w h s : Int} {t : Nat → Int} (H : RoofV w h s t) (a : Int) : Ev (fun n => l_spec_LeastRain_b0 n a 0 w h s t) (selO (firstN (fun k => decide (a < sumEven w h s t k)) 0 1001) (.inl ()) fun k => .inr ((k : Int), 0)) := by
  have := loop_first (l := fun n k => l_spec_LeastRain_b0 n a (k : Nat) w h s t) (p := fun k => decide (a < sumEven w h s t k)) (A := .inl ()) (B := fun k => .inr ((k : Int), 0)) 1001 (ev_f (by simp) ev_some) (by
    intro k hk hp v ih
    refine ev_t (by simp; omega) (ev_bnd (l02Even_ok H (k : Int) (by omega)) (ev_bnd (l02Sum_ok H (evenB hk)) (ev_f hp ?_)))
    rw [up64 k (by omega)]
    exact ih) (by
    intro k hk hp
    exact ev_t (by simp; omega) (ev_bnd (l02Even_ok H (k : Int) (by omega)) (ev_bnd (l02Sum_ok H (evenB hk)) (ev_t hp ev_some)))) 1001 0 rfl
  exact this
theorem impl_LeastRain_b0 {w h s : Int} {t : Nat → Int} (H : RoofV w h s t) (a : Int) : Ev (fun n => l_impl_LeastRain_b0 n a 0 w h s t) (selO (firstN (fun k => decide (a < sumEven w h s t k)) 0 1001) (.inl ()) fun k => .inr ((k : Int), 0)) := by
  have := loop_first (l := fun n k => l_impl_LeastRain_b0 n a (k : Nat) w h s t) (p := fun k => decide (a < sumEven w h s t k)) (A := .inl ()) (B := fun k => .inr ((k : Int), 0)) 1001 (ev_f (by simp) ev_some) (by
    intro k hk hp v ih
    refine ev_t (by simp; omega) (ev_bnd (even_ok H (k : Int) (by omega)) (ev_bnd (dripSum_ok H (evenB hk)) (ev_f hp ?_)))
    rw [up64 k (by omega)]
    exact ih) (by
    intro k hk hp
    exact ev_t (by simp; omega) (ev_bnd (even_ok H (k : Int) (by omega)) (ev_bnd (dripSum_ok H (evenB hk)) (ev_t hp ev_some)))) 1001 0 rfl
  exact this
theorem law_FnExactLeastRain {w h s a : Int} {t : Nat → Int} (hw : (Lit.int .i8 w).wf = true) (hh : (Lit.int .i8 h).wf = true) (hs : (Lit.int .u8 s).wf = true) (ht : ∀ j, j < 64 → (Lit.int .u8 (t j)).wf = true)
    (ha : (Lit.int .i64 a).wf = true) : Ev (fun n => s_laws_FnExactLeastRain n w h s t a) true := by
  unfold s_laws_FnExactLeastRain
  obtain ⟨t', e1, e2⟩ := toRoof_ok w h s t
  have H := (RoofT.mk' hw hh hs ht).like e1
  have k : ∃ (x y : Int), Ev (fun n => s_spec_LeastRain n w h s t' a) (x, y) ∧ Ev (fun n => s_impl_LeastRain n w h s t' a) (x, y) := by
    unfold s_spec_LeastRain s_impl_LeastRain
    have k1 := l01Told_ok H (decide (0 ≤ a))
    have k2 := roofCode_ok H (decide (0 ≤ a))
    by_cases hc : roofC w h s t' (decide (0 ≤ a)) = 0
    · have hok : roofOk w h s t' = true := by
        cases hb : roofOk w h s t' with
        | true => rfl
        | false => unfold roofC at hc; rw [hb] at hc; simp [sel] at hc
      have s1 := spec_LeastRain_b0 ⟨H, hok⟩ a
      have s2 := impl_LeastRain_b0 ⟨H, hok⟩ a
      cases hf : firstN (fun k => decide (a < sumEven w h s t' k)) 0 1001 with
      | none =>
        rw [hf] at s1 s2
        exact ⟨0, 6, ev_bnd k1 (ev_t (by simp [hc]) (ev_bnd s1 ev_some)), ev_bnd k2 (ev_t (by simp [hc]) (ev_bnd s2 ev_some))⟩
      | some k =>
        rw [hf] at s1 s2
        exact ⟨(k : Int), 0, ev_bnd k1 (ev_t (by simp [hc]) (ev_bnd s1 ev_some)), ev_bnd k2 (ev_t (by simp [hc]) (ev_bnd s2 ev_some))⟩
    · exact ⟨0, roofC w h s t' (decide (0 ≤ a)), ev_bnd k1 (ev_f (by simp [hc]) ev_some), ev_bnd k2 (ev_f (by simp [hc]) ev_some)⟩
  obtain ⟨x, y, k1, k2⟩ := k
  exact ev_bnd e2 (ev_bnd k1 (ev_bnd e2 (ev_bnd k2 (ev_t (by simp) (ev_t (by simp) ev_some)))))

-- FillTimes
def fillG (D : Nat → Int) (z : Int) (x : Nat) : Int := if colSum D x = 0 then 0 else upQ z (colSum D x)
theorem spec_FillTimes_b0 {D : Nat → Int} (hD : DripB D) {N : Nat} (hN : N ≤ 17) {z : Int} (hz : 1 ≤ z ∧ z ≤ 10000) : Ev (fun n => l_spec_FillTimes_b0 n z 0 [] (ints .i64 (colsOf D N))) (ints .i64 ((List.range' 0 N).map (fillG D z))) := by
  rw [ints_map]
  refine loop_map (l := fun n k g => l_spec_FillTimes_b0 n z (k : Nat) g (ints .i64 (colsOf D N))) (R := fun g => g) N (fun acc => ev_f (by simp [ints_length, colsOf_len]) ev_some) (fun k acc hk hl a ih => ?_)
  have h3 := colSum_b hD (x := k) (by omega)
  refine ev_t (by simp [ints_length, colsOf_len]; omega) (ev_chk (inB_k _ _ (by rw [ints_length, colsOf_len]; exact hk)) (ev_bnd (a := colSum D k) (ev_of fun n => by rw [Int.toNat_natCast, nth_cols _ _ _ hk]; rfl) ?_))
  by_cases h0 : 0 < colSum D k
  · have h4 := upQ_b (a := z) (b := colSum D k) (by omega) (by omega)
    refine ev_t (by simpa using h0) (ev_bnd (a := colSum D k) (ev_of fun n => by rw [Int.toNat_natCast, nth_cols _ _ _ hk]; rfl) (ev_bnd (a := colSum D k) (ev_of fun n => by rw [Int.toNat_natCast, nth_cols _ _ _ hk]; rfl) (ev_chk (by simp; omega) (ev_chk (by simp; omega) ?_))))
    rw [w64 (z + colSum D k) (by omega), w64 (z + colSum D k - 1) (by omega), Int.tdiv_eq_ediv_of_nonneg (by omega), show (z + colSum D k - 1) / colSum D k = upQ z (colSum D k) from rfl, w64 (upQ _ _) (by omega), up64 k (by omega)]
    have : fillG D z k = upQ z (colSum D k) := if_neg (by omega)
    rw [this] at ih
    exact ih
  · refine ev_f (by simpa using h0) (ev_chk (by simp; omega) ?_)
    rw [up64 k (by omega)]
    have : fillG D z k = 0 := if_pos (by omega)
    rw [this] at ih
    exact ih
theorem each_FillTimes {D : Nat → Int} (hD : DripB D) {N : Nat} (hN : N ≤ 17) {z : Int} (hz : 1 ≤ z ∧ z ≤ 10000) : Ev (fun n => s_impl_each_int64_int64__FillTimes_1 n (ints .i64 (colsOf D N)) z) (ints .i64 ((List.range' 0 N).map (fillG D z))) := by
  unfold s_impl_each_int64_int64__FillTimes_1
  refine ev_bnd (a := ints .i64 ((List.range' 0 N).map (fillG D z))) ?_ ev_some
  have hl : (ints .i64 (colsOf D N)).length = N := by simp [ints_length, colsOf_len]
  rw [hl, ints_map]
  refine loop_map (l := fun n k g => l_impl_each_int64_int64__FillTimes_1_b0 n z (ints .i64 (colsOf D N)) (N : Nat) (k : Nat) g) (R := fun g => g) N (fun acc => ev_f (by simp) ev_some) (fun k acc hk hl a ih => ?_)
  have h3 := colSum_b hD (x := k) (by omega)
  refine ev_t (by simp; omega) (ev_bnd (a := colSum D k) (ev_of fun n => by rw [idx_cols _ _ _ hk]; rfl) (ev_bnd (a := fillG D z k) ?_ (ev_chk (by simp; omega) ?_)))
  · unfold s_impl_FillTimes_1 fillG
    by_cases h0 : colSum D k = 0
    · rw [if_pos h0]; exact ev_t (by simp [h0]) ev_some
    · rw [if_neg h0]; exact ev_f (by simp [h0]) (ev_bnd (ev_of fun n => up64_eq n _ _ (by omega) (by omega)) ev_some)
  · rw [up64 k (by omega)]
    exact ih
theorem law_FnExactFillTimes {w h s z : Int} {t r : Nat → Int} (hw : (Lit.int .i8 w).wf = true) (hh : (Lit.int .i8 h).wf = true) (hs : (Lit.int .u8 s).wf = true) (ht : ∀ j, j < 64 → (Lit.int .u8 (t j)).wf = true)
    (hr : ∀ j, j < 17 → (Lit.int .i16 (r j)).wf = true) (hz : (Lit.int .i64 z).wf = true) : Ev (fun n => s_laws_FnExactFillTimes n w h s t r z) true := by
  unfold s_laws_FnExactFillTimes
  obtain ⟨t', e1, e2⟩ := toRoof_ok w h s t
  obtain ⟨r', e3, e4⟩ := toRain_ok r
  have H := (RoofT.mk' hw hh hs ht).like e1
  have R := (RainT.mk' hr).like e3
  have k : ∃ (l : List Int) (c : Int), l.length ≤ 1000 ∧ Ev (fun n => s_spec_FillTimes n w h s t' r' z) (ints .i64 l, c) ∧ Ev (fun n => s_impl_FillTimes n w h s t' r' z) (ints .i64 l, c) := by
    unfold s_spec_FillTimes s_impl_FillTimes
    have k1 := l02Pails_ok H R z
    have k2 : Ev (fun n => bnd (s_impl_isPail n z) fun y => s_impl_rainCode n w h s t' r' y) (rainC w h s t' r' (decide (1 ≤ z) && decide (z ≤ 10000))) := ev_bnd (ev_of fun n => isPail_eq n z) (rainCode_ok H R _)
    by_cases hc : rainC w h s t' r' (decide (1 ≤ z) && decide (z ≤ 10000)) = 0
    · obtain ⟨hok, hz⟩ := rainC_zero hc
      obtain ⟨h1, h2, _⟩ := rainOk_b hok
      obtain ⟨ks, vs, _, hrun⟩ := run_ok ⟨H, h1⟩ h2
      have hb := RoofV.b ⟨H, h1⟩
      have hD := dripsOf_b (w := w) (h := h) (s := s) (t := t') h2
      refine ⟨(List.range' 0 (2 * w + 1).toNat).map (fillG (dripsOf w h s t' r') z), 0, by simp; omega, ?_, ?_⟩
      · exact ev_bnd k1 (ev_t (by simp [hc]) (ev_bnd (Across_ok ⟨H, h1⟩ h2) (ev_chk (plain_fresh _ _ _) (ev_bnd (spec_FillTimes_b0 hD (by omega) hz) ev_some))))
      · exact ev_bnd (ev_of fun n => isPail_eq n z) (ev_bnd (rainCode_ok H R _) (ev_t (by simp [hc]) (ev_bnd hrun (ev_bnd (columns_ok ⟨H, h1⟩ hD) (ev_bnd (each_FillTimes hD (by omega) hz) (ev_chk (plain_fresh _ _ _) ev_some))))))
    · exact ⟨[], rainC w h s t' r' (decide (1 ≤ z) && decide (z ≤ 10000)), by simp, ev_bnd k1 (ev_f (by simp [hc]) ev_some), ev_bnd (ev_of fun n => isPail_eq n z) (ev_bnd (rainCode_ok H R _) (ev_f (by simp [hc]) ev_some))⟩
  obtain ⟨l, c, hl, k1, k2⟩ := k
  have hm := markInt64S_ok l 1 (by omega)
  have hh := heldInt64S_ok l.length 1 (by omega)
  refine ev_bnd e2 (ev_bnd e4 (ev_bnd k1 (ev_bnd e2 (ev_bnd e4 (ev_bnd k2 (ev_bnd (eqInt64S_ok l (by omega)) (ev_t rfl (ev_t (by simp) (ev_bnd hm ?_)))))))))
  refine ev_chk (like_ints _ _ _ (by rw [marks_length])) (ev_bnd hh (ev_f (by simp; omega) (ev_t (by simp) ?_)))
  exact ev_bnd e2 (ev_bnd e4 (ev_bnd k2 (ev_bnd (eqInt64S_ok l (by omega)) (ev_t rfl (ev_t (by simp) (ev_bnd hh (ev_f (by simp; omega) (ev_t (by simp) ev_some))))))))
end Go.Proofs.Ytgchkigngbpfbaa
