/- The law BestSlide. -/
import Derived.Test.YtbejaalnnnogoaaPg12
namespace Go.Proofs.Ytbejaalnnnogoaa
open Go
set_option linter.unusedVariables false
set_option linter.unusedSimpArgs false

def slid (s : List (Int × Int)) (d : Int) : List (Int × Int) := s.map fun p => (p.1 + d, p.2 + d)
theorem slid_length (s : List (Int × Int)) (d : Int) : (slid s d).length = s.length := by simp [slid]
theorem slid_zero (s : List (Int × Int)) : slid s 0 = s := by simp [slid]
theorem slid_pr {s : List (Int × Int)} {d : Int} {k : Nat} (h : k < s.length) : pr (slid s d) k = ((pr s k).1 + d, (pr s k).2 + d) := by
  have h1 := pr_get (l := slid s d) (i := k) (by rw [slid_length]; exact h)
  have h2 := pr_get h
  have h3 : (slid s d)[k]? = some ((pr s k).1 + d, (pr s k).2 + d) := by rw [slid, List.getElem?_map, h2]; rfl
  rw [h3] at h1
  exact (Option.some.inj h1).symm
theorem slid_range (s : List (Int × Int)) (d : Int) : pcs [] = [] ∧ spn (slid s d) = (List.range' 0 s.length).map fun k => V.parts [V.int .i16 ((pr s k).1 + d), V.int .i16 ((pr s k).2 + d)] := by
  refine ⟨rfl, ?_⟩
  apply List.ext_getElem?
  intro j
  by_cases hj : j < s.length
  · show (List.map (pv .i16 .i16) (slid s d))[j]? = _
    rw [List.getElem?_map, pr_get (l := slid s d) (by rw [slid_length]; exact hj), slid_pr hj]
    simp [hj, pv]
  · rw [List.getElem?_eq_none (by rw [prs_length, slid_length]; omega), List.getElem?_eq_none (by simp; omega)]
/-- does the slid shape still lie on the roof -/
def fits (s : List (Int × Int)) (d : Int) : Bool := allN (fun k => decide ((pr s k).2 + d ≤ 200)) 0 s.length
theorem fits_ok {m : Int} {s : List (Int × Int)} (h : okS m s) {d : Int} (hd : 0 ≤ d) : shOk m (slid s d) = fits s d := by
  obtain ⟨m0, m1, l1, l2, hs⟩ := h
  have e : (shOk m (slid s d) = true) ↔ (fits s d = true) := by
    rw [shOk_iff m0]
    unfold fits okS
    rw [slid_length, allN_iff]
    constructor
    · rintro ⟨_, _, _, _, h5⟩ j _ hj
      have := h5 j (by omega)
      rw [slid_pr (by omega)] at this
      simpa using this.2.2
    · intro h5
      refine ⟨m0, m1, l1, l2, fun k hk => ?_⟩
      have h6 := h5 k (Nat.zero_le _) (by omega)
      have := hs k hk
      rw [decide_eq_true_eq] at h6
      rw [slid_pr hk]
      dsimp only
      omega
  cases h1 : shOk m (slid s d) <;> cases h2 : fits s d <;> simp_all
theorem sSlide_ok {m : Int} {s : List (Int × Int)} (h : okS m s) {d : Int} (hd : 0 ≤ d ∧ d ≤ 8) : Ev (fun n => s_spec_l05Slide n m (spn s) d) (sel (fits s d) (m, spn (slid s d), true) (0, [], false)) := by
  obtain ⟨m0, m1, l1, l2, hs⟩ := h
  unfold s_spec_l05Slide
  have key : ∀ (r k : Nat), k + r = s.length → Ev (fun n => l_spec_l05Slide_b0 n m (spn s) d k 0 m [] ((List.range' 0 k).map fun k => V.parts [V.int .i16 ((pr s k).1 + d), V.int .i16 ((pr s k).2 + d)]))
      (sel (allN (fun k => decide ((pr s k).2 + d ≤ 200)) k r) (.inl (0, m, [], spn (slid s d))) (.inr (false, 0, []))) := by
    intro r
    induction r with
    | zero =>
      intro k hk
      obtain rfl : k = s.length := by omega
      rw [(slid_range s d).2]
      exact ev_succ (ev_f (by simp [prs_length]) ev_some)
    | succ r ih =>
      intro k hk
      have b := hs k (by omega)
      refine ev_succ (ev_t (by simp [prs_length]; omega) (ev_bnd (ev_of fun n => idx_spn (by omega)) (ev_bnd (ev_of fun n => idx_spn (by omega)) ?_)))
      dsimp only
      rw [w64 (pr s k).1 (by omega), w64 (pr s k).2 (by omega), w64 ((pr s k).1 + d) (by omega), w64 ((pr s k).2 + d) (by omega), up64 k (by omega)]
      refine ev_f (by simp; omega) ?_
      simp only [allN]
      by_cases c : (pr s k).2 + d ≤ 200
      · rw [decide_eq_true c, Bool.true_and]
        refine ev_f (by simp; omega) (ev_chk (by simp; omega) ?_)
        have := ih (k + 1) (by omega)
        rw [List.range'_concat] at this
        simp only [List.map_append, List.map_cons, List.map_nil, Nat.zero_add, Nat.one_mul] at this
        rw [w16 _ (by omega), w16 _ (by omega)]
        exact this
      · rw [decide_eq_false c, Bool.false_and]
        exact ev_t (by simp; omega) ev_some
  have k0 := key s.length 0 (by omega)
  refine ev_bnd k0 ?_
  unfold fits
  cases allN (fun k => decide ((pr s k).2 + d ≤ 200)) 0 s.length <;> exact ev_some
theorem iSlid_ok {m : Int} {s : List (Int × Int)} (h : okS m s) {d : Int} (hd : 0 ≤ d ∧ d ≤ 8) : Ev (fun n => s_impl_Shape_slid n m (spn s) d) (m, spn (slid s d)) := by
  obtain ⟨m0, m1, l1, l2, hs⟩ := h
  unfold s_impl_Shape_slid
  refine ev_bnd (a := spn (slid s d)) ?_ (ev_chk (plain_prs ..) ev_some)
  unfold s_impl_each_impl_Span_impl_Span__Shape_slid_1
  rw [prs_length, (slid_range s d).2]
  refine ev_bnd ?_ ev_some
  refine loop_map (l := fun n k acc => l_impl_each_impl_Span_impl_Span__Shape_slid_1_b0 n d (spn s) s.length (k : Nat) acc) (R := id) s.length (fun acc => ev_f (by simp) ev_some) ?_
  intro k acc hk hl a h
  have b := hs k hk
  refine ev_t (by simp; omega) (ev_bnd (ev_of fun n => idx_spn hk) (ev_bnd (a := ((pr s k).1 + d, (pr s k).2 + d)) (ev_cast ev_some ?_) ?_))
  · rw [w16 _ (by omega), w16 _ (by omega)]
  · exact ev_chk (by simp [hl]; omega) (by rw [up64 k (by omega)]; exact h)
theorem plain_tup (m : Int) (s : List (Int × Int)) (b : Bool) : plainV (V.tup [(V.parts [(V.int .u8 m), (V.fresh 0 (spn s))]), (V.bool b)]) = true := by
  have : allB plainP.plainE (spn s) = true := plain_prs .i16 .i16 0 s
  simp only [plainV, allB, plainQ, plainP, plainO, this]
theorem best_ok {m : Int} {s : List (Int × Int)} (h : okS m s) : ∀ (r d : Nat) (bd best : Int), d + r = 8 → 0 ≤ best →
    ∃ (x y : Int), Ev (fun n => l_spec_BestSlide_b0 n bd best d m (spn s)) (x, y) ∧ Ev (fun n => l_impl_BestSlide_b0 n bd best d m (spn s)) (x, y)
  | 0, d, bd, best, hd, hb => ⟨bd, best, ev_succ (ev_f (by simp; omega) ev_some), ev_succ (ev_f (by simp; omega) ev_some)⟩
  | r + 1, d, bd, best, hd, hb => by
    have e1 := sSlide_ok h (d := (d : Int)) (by omega)
    have e2 := iSlid_ok h (d := (d : Int)) (by omega)
    have hl := h.2.2.2.1
    have e3 := ValidShape_ok m (slid s d) (by rw [slid_length]; omega)
    rw [fits_ok h (by omega)] at e3
    have hm := h.1
    cases hg : fits s d with
    | false =>
      rw [hg] at e1 e3
      rw [sel_f] at e1
      obtain ⟨x, y, f1, f2⟩ := best_ok h r (d + 1) bd best (by omega) hb
      refine ⟨x, y, ev_succ (ev_t (by simp; omega) (ev_bnd e1 (ev_chk rfl (ev_f rfl ?_)))), ev_succ (ev_t (by simp; omega) (ev_bnd e2 (ev_bnd e3 (ev_f rfl ?_))))⟩
      · rw [up64 d (by omega)]; exact f1
      · rw [up16 d (by omega)]; exact f2
    | true =>
      obtain ⟨L, l0, _, g1, g2⟩ := least_ok (s := slid s d) ((shOk_iff hm).1 (by rw [fits_ok h (by omega), hg]))
      rw [hg] at e1 e3
      rw [sel_t] at e1
      by_cases c : L < best
      · obtain ⟨x, y, f1, f2⟩ := best_ok h r (d + 1) d L (by omega) l0
        refine ⟨x, y, ev_succ (ev_t (by simp; omega) (ev_bnd e1 (ev_chk (plain_tup ..) (ev_t rfl (ev_bnd g1 (ev_f (by simp; omega) (ev_t (by simpa using c) ?_))))))), ev_succ (ev_t (by simp; omega) (ev_bnd e2 (ev_bnd e3 (ev_t rfl (ev_bnd g2 (ev_t (by simpa using c) (ev_bnd g2 ?_)))))))⟩
        · rw [up64 d (by omega)]; exact f1
        · rw [up16 d (by omega), w64 (d : Int) (by omega)]; exact f2
      · obtain ⟨x, y, f1, f2⟩ := best_ok h r (d + 1) bd best (by omega) hb
        refine ⟨x, y, ev_succ (ev_t (by simp; omega) (ev_bnd e1 (ev_chk (plain_tup ..) (ev_t rfl (ev_bnd g1 (ev_f (by simp; omega) (ev_f (by simpa using c) ?_))))))), ev_succ (ev_t (by simp; omega) (ev_bnd e2 (ev_bnd e3 (ev_t rfl (ev_bnd g2 (ev_f (by simpa using c) ?_))))))⟩
        · rw [up64 d (by omega)]; exact f1
        · rw [up16 d (by omega)]; exact f2
theorem law_FnExactBestSlide {m : Int} {xs : List V} (hm : (Lit.int .u8 m).wf = true) (hx : xs.length ≤ maxLen ∧ ∀ x, x ∈ xs → ∃ l, x = .parts l ∧ inL [.int .i16, .int .i16] l) : Ev (fun n => s_laws_FnExactBestSlide n m xs) true := by
  obtain ⟨s, rfl, hs⟩ := prs_of hx.2
  have n1 : s.length ≤ 9223372036854775807 := by have := hx.1; rw [prs_length] at this; simpa [maxLen] using this
  have m0 := wf_u8 hm
  unfold s_laws_FnExactBestSlide
  refine ev_bnd (szShape_ok m s 1048576 (by omega) n1) ?_
  by_cases h1 : (1048576 : Int) < s.length
  · rw [if_pos h1]; exact ev_t (by simp) ev_some
  · rw [if_neg h1]
    have k : ∃ (x y z : Int), Ev (fun n => s_spec_BestSlide n m (spn s)) (x, y, z) ∧ Ev (fun n => s_impl_BestSlide n m (spn s)) (x, y, z) := by
      unfold s_spec_BestSlide s_impl_BestSlide
      have k1 := l05Ok_ok m s (by omega)
      have k2 := ValidShape_ok m s (by omega)
      cases hg : shOk m s with
      | false =>
        rw [hg] at k1 k2
        exact ⟨0, 0, 1, ev_bnd k1 (ev_f rfl ev_some), ev_bnd k2 (ev_f rfl ev_some)⟩
      | true =>
        rw [hg] at k1 k2
        have hS := (shOk_iff m0.1).1 hg
        obtain ⟨L, l0, _, e1, e2⟩ := least_ok hS
        obtain ⟨x, y, f1, f2⟩ := best_ok hS 7 1 0 L (by omega) l0
        have e3 := sSlide_ok hS (d := 0) (by omega)
        have e4 := fits_ok hS (d := 0) (by omega)
        rw [slid_zero] at e3 e4
        rw [hg] at e4
        rw [← e4, sel_t] at e3
        refine ⟨x, y, 0, ev_bnd k1 (ev_t rfl (ev_bnd (a := (x, y)) (ev_succ (ev_t (by simp) (ev_bnd e3 (ev_chk (plain_tup ..) (ev_t rfl (ev_bnd e1 (ev_t (by simp) ?_))))))) ev_some)), ev_bnd k2 (ev_t rfl (ev_bnd e2 (ev_bnd (a := (x, y)) f2 ev_some)))⟩
        exact f1
    obtain ⟨x, y, z, e1, e2⟩ := k
    have t := toShape_ok m s (by omega)
    refine ev_f (by simp; omega) (ev_bnd t (ev_bnd e1 (ev_bnd t (ev_bnd e2 (ev_t (by simp) (ev_t (by simp) (ev_t (by simp) (ev_bnd t (ev_bnd (eqShape_ok m s (by omega)) (ev_t rfl ev_some))))))))))
end Go.Proofs.Ytbejaalnnnogoaa
