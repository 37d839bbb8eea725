/- The law WasteOf. -/
import Derived.Test.YtbejaalnnnogoaaPg12
namespace Go.Proofs.Ytbejaalnnnogoaa
open Go
set_option linter.unusedVariables false
set_option linter.unusedSimpArgs false

def ln (s : List (Int × Int)) (k : Nat) : Int := (pr s k).2 - (pr s k).1
theorem units_ok {m : Int} {s : List (Int × Int)} (h : okS m s) : Ev (fun n => s_spec_l05Units n m (spn s)) (sumR (ln s) 0 s.length) := by
  obtain ⟨m0, m1, l1, l2, hs⟩ := h
  unfold s_spec_l05Units
  refine ev_bnd (a := sumR (ln s) 0 s.length) ?_ ev_some
  refine loop_sum (l := fun n k t => l_spec_l05Units_b0 n m (spn s) t (k : Nat)) (R := id) s.length 1000 (by omega) (fun j hj => by have := hs j hj; unfold ln; omega) (fun t => ev_f (by simp [prs_length]) ev_some) ?_
  intro k t hk ht ht2 a h
  have b := hs k hk
  refine ev_t (by simp [prs_length]; omega) (ev_bnd (ev_of fun n => idx_spn hk) (ev_bnd (ev_of fun n => idx_spn hk) ?_))
  dsimp only
  unfold ln at ht2 h
  rw [up64 k (by omega), w64 (pr s k).2 (by omega), w64 (pr s k).1 (by omega), w64 ((pr s k).2 - (pr s k).1) (by omega), w64 _ (by omega)]
  exact h
theorem iunits_ok {m : Int} {s : List (Int × Int)} (h : okS m s) : Ev (fun n => s_impl_Shape_units n m (spn s)) (sumR (ln s) 0 s.length) := by
  obtain ⟨m0, m1, l1, l2, hs⟩ := h
  unfold s_impl_Shape_units
  refine ev_bnd (a := nums s.length (ln s)) ?_ (ev_bnd (sum_ok (by omega) (fun j hj => by have := hs j hj; unfold ln; omega)) ev_some)
  unfold s_impl_each_impl_Span_int64__Shape_units_1
  rw [prs_length]
  refine ev_bnd ?_ ev_some
  refine loop_map (l := fun n k acc => l_impl_each_impl_Span_int64__Shape_units_1_b0 n (spn s) s.length (k : Nat) acc) (R := id) s.length (fun acc => ev_f (by simp) ev_some) ?_
  intro k acc hk hl a h
  have b := hs k hk
  refine ev_t (by simp; omega) (ev_bnd (ev_of fun n => idx_spn hk) (ev_bnd (a := ln s k) (ev_cast ev_some ?_) (ev_chk (by simp [hl]; omega) (by rw [up64 k (by omega)]; exact h))))
  rw [w16 _ (by omega), w64 _ (by omega)]
  rfl
theorem law_FnExactWasteOf {m : Int} {xs : List V} (hm : (Lit.int .u8 m).wf = true) (hx : xs.length ≤ maxLen ∧ ∀ x, x ∈ xs → ∃ l, x = .parts l ∧ inL [.int .i16, .int .i16] l) : Ev (fun n => s_laws_FnExactWasteOf n m xs) true := by
  obtain ⟨s, rfl, hs⟩ := prs_of hx.2
  have n1 : s.length ≤ 9223372036854775807 := by have := hx.1; rw [prs_length] at this; simpa [maxLen] using this
  have m0 := wf_u8 hm
  unfold s_laws_FnExactWasteOf
  refine ev_bnd (szShape_ok m s 1048576 (by omega) n1) ?_
  by_cases h1 : (1048576 : Int) < s.length
  · rw [if_pos h1]; exact ev_t (by simp) ev_some
  · rw [if_neg h1]
    have k : ∃ (x y : Int), Ev (fun n => s_spec_WasteOf n m (spn s)) (x, y) ∧ Ev (fun n => s_impl_WasteOf n m (spn s)) (x, y) := by
      unfold s_spec_WasteOf s_impl_WasteOf
      have k1 := l05Ok_ok m s (by omega)
      have k2 := ValidShape_ok m s (by omega)
      cases hg : shOk m s with
      | false =>
        rw [hg] at k1 k2
        exact ⟨0, 1, ev_bnd k1 (ev_f rfl ev_some), ev_bnd k2 (ev_f rfl ev_some)⟩
      | true =>
        rw [hg] at k1 k2
        have hS := (shOk_iff m0.1).1 hg
        obtain ⟨L, _, _, e1, e2⟩ := least_ok hS
        exact ⟨_, 0, ev_bnd k1 (ev_t rfl (ev_bnd e1 (ev_bnd (units_ok hS) ev_some))), ev_bnd k2 (ev_t rfl (ev_bnd e2 (ev_bnd (iunits_ok hS) ev_some)))⟩
    obtain ⟨x, y, e1, e2⟩ := k
    have t := toShape_ok m s (by omega)
    refine ev_f (by simp; omega) (ev_bnd t (ev_bnd e1 (ev_bnd t (ev_bnd e2 (ev_t (by simp) (ev_t (by simp) (ev_bnd t (ev_bnd (eqShape_ok m s (by omega)) (ev_t rfl ev_some)))))))))
end Go.Proofs.Ytbejaalnnnogoaa
