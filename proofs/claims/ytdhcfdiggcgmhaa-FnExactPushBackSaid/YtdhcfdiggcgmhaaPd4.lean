/- Law CanReach. -/
import Derived.Test.YtdhcfdiggcgmhaaPd3
namespace Go.Proofs.Ytdhcfdiggcgmhaa
open Go
set_option linter.unusedVariables false
set_option linter.unusedSimpArgs false

theorem askF_zero {w h s : Int} {t : Nat → Int} {l : List Int} {m : List (Int × Int)} {e : Int} (hc : askF w h s t l m (reachB e && allQ w l && allP (isQ w h) m) = 0) : roofOk w h s t = true ∧ (0 ≤ e ∧ e ≤ 8) ∧ allQ w l = true ∧ allP (isQ w h) m = true ∧ l.length ≤ 8 ∧ m.length ≤ 8 := by
  unfold askF at hc
  split at hc
  · rename_i h1
    obtain ⟨h2, h3⟩ := roofC_zero h1
    rw [Bool.and_eq_true, Bool.and_eq_true] at h3
    have h4 : 0 ≤ e ∧ e ≤ 8 := by have := h3.1.1; simpa [reachB] using this
    split at hc
    · cases hc
    · split at hc
      · cases hc
      · exact ⟨h2, h4, h3.1.2, h3.2, by omega, by omega⟩
  · contradiction
theorem l04Reach_ok (e : Int) : Ev (fun n => s_spec_l04Reach n e) (reachB e) := by
  unfold s_spec_l04Reach; exact ev_bnd (ev_of fun n => l00In_eq n _ _ _) ev_some
theorem law_FnExactCanReach {w h s e : Int} {t : Nat → Int} {xs ys : List V} (hw : (Lit.int .i8 w).wf = true) (hh : (Lit.int .i8 h).wf = true) (hs : (Lit.int .u8 s).wf = true) (ht : ∀ j, j < 64 → (Lit.int .u8 (t j)).wf = true)
    (hx : xs.length ≤ maxLen ∧ ∀ x, x ∈ xs → inL [.int .i64] [x]) (he : (Lit.int .i64 e).wf = true) (hy : ys.length ≤ maxLen ∧ ∀ x, x ∈ ys → ∃ l, x = .parts l ∧ inL [.int .i8, .int .i8] l) : Ev (fun n => s_laws_FnExactCanReach n w h s t xs e ys) true := by
  obtain ⟨l, rfl, hl⟩ := ints_of hx.2
  obtain ⟨m, rfl, hm⟩ := prs_of hy.2
  have n1 : m.length ≤ 9223372036854775807 := by have := hy.1; rw [prs_length] at this; simpa [maxLen] using this
  unfold s_laws_FnExactCanReach
  rw [show ((ints .i64 l).length : Int) = (l.length : Int) by simp [ints_length]]
  by_cases h1 : (1048576 : Int) < l.length
  · exact ev_t (by simpa using h1) ev_some
  · refine ev_f (by simpa using h1) (ev_bnd (szPlaceS_ok m n1) ?_)
    by_cases h2 : (1048576 : Int) < m.length
    · rw [if_pos h2]; exact ev_t (by simp) ev_some
    · rw [if_neg h2]
      obtain ⟨t', e1, e2⟩ := toRoof_ok w h s t
      have H := (RoofT.mk' hw hh hs ht).like e1
      have hc := toInt64S_ok l (by omega)
      have hp := toPlaceS_ok m (by omega)
      have hP := PlT.mk' hm (by omega)
      have k : ∃ (x : Bool) (y : Int), Ev (fun n => s_spec_CanReach n w h s t' (ints .i64 l) e (places m)) (x, y) ∧ Ev (fun n => s_impl_CanReach n w h s t' (ints .i64 l) e (places m)) (x, y) := by
        unfold s_spec_CanReach s_impl_CanReach
        have k1 := Asked2_ok H l (by omega) m hP (reachB e)
        have k2 := ladderCode_ok H l (by omega) e m hP
        by_cases hz : askF w h s t' l m (reachB e && allQ w l && allP (isQ w h) m) = 0
        · obtain ⟨g1, g2, g3, g4, g5, g6⟩ := askF_zero hz
          exact ⟨reached s e l m, 0, ev_bnd (l04Reach_ok e) (ev_bnd k1 (ev_t (by simpa using hz) (ev_bnd (l04All_ok ⟨H, g1⟩ g5 g2 g6 g4) ev_some))), ev_bnd k2 (ev_t (by simpa using hz) (ev_bnd (areReached_ok ⟨H, g1⟩ g5 g3 g2 g6 g4) ev_some))⟩
        · exact ⟨false, _, ev_bnd (l04Reach_ok e) (ev_bnd k1 (ev_f (by simpa using hz) ev_some)), ev_bnd k2 (ev_f (by simpa using hz) ev_some)⟩
      obtain ⟨x, y, k1, k2⟩ := k
      refine ev_f (by simp; omega) (ev_bnd e2 (ev_bnd hc (ev_bnd hp (ev_bnd k1 (ev_bnd hc (ev_bnd hp (ev_bnd e2 (ev_bnd k2 (ev_t (by simp) (ev_t (by simp) ?_))))))))))
      exact ev_bnd hc (ev_bnd (eqInt64S_okL l (by omega)) (ev_t rfl (ev_bnd hp (ev_bnd (eqPlaceS_ok m (by omega)) (ev_t rfl ev_some)))))
end Go.Proofs.Ytdhcfdiggcgmhaa
