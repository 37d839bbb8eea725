/- One course: the whole tiles and the cut pieces, both sides alike. -/
import Derived.Test.YtbejaalnnnogoaaPg9
namespace Go.Proofs.Ytbejaalnnnogoaa
open Go
set_option linter.unusedVariables false
set_option linter.unusedSimpArgs false

theorem max_eq (n : Nat) (a b : Int) : s_spec_l00Max n a b = some (max a b) := by
  unfold s_spec_l00Max
  rw [cnd_d]
  split <;> (congr 1; omega)
theorem min_eq (n : Nat) (a b : Int) : s_spec_l00Min n a b = some (min a b) := by
  unfold s_spec_l00Min
  rw [cnd_d]
  split <;> (congr 1; omega)
def okP (Q : List (Int × Int)) : Prop := ∀ p, p ∈ Q → 0 ≤ p.2 ∧ p.2 ≤ 8
theorem okP_snoc {Q : List (Int × Int)} {a b : Int} (h : okP Q) (hb : 0 ≤ b ∧ b ≤ 8) : okP (Q ++ [(a, b)]) := fun p hp => by
  rcases List.mem_append.1 hp with hp | hp
  · exact h p hp
  · rw [List.mem_singleton] at hp; subst hp; exact hb
theorem pcs_snoc (Q : List (Int × Int)) (a b : Int) : pcs Q ++ [V.parts [V.int .i8 a, V.int .i8 b]] = pcs (Q ++ [(a, b)]) := by
  show _ = prs .i8 .i8 (Q ++ [(a, b)])
  rw [prs_app]; rfl
theorem courseL_ok {s0 s1 : Int} (h0 : 0 ≤ s0) (h1 : s0 < s1) (h2 : s1 ≤ 250) : ∀ (d : Nat) (at' w : Int) (Q : List (Int × Int)), s1 ≤ at' + 8 * d → -8 ≤ at' → at' ≤ 300 → 0 ≤ w → w + d ≤ 100 →
    Q.length + ((if at' < s0 then 1 else 0) + (if at' < s1 then 1 else 0)) ≤ 2 → okP Q →
    ∃ (w' : Int) (Q' : List (Int × Int)), 0 ≤ w' ∧ w' ≤ 100 ∧ Q'.length ≤ 2 ∧ okP Q' ∧ Ev (fun n => l_spec_l05Course_b0 n s0 s1 w at' (pcs Q)) (w', pcs Q') ∧ Ev (fun n => l_impl_Shape_laid_b0 n w at' s0 s1 (pcs Q)) (w', pcs Q')
  | 0, at', w, Q, hd, b1, b2, hw, hw2, hq, hQ => by
    refine ⟨w, Q, hw, by omega, by omega, hQ, ev_succ (ev_f (by simp; omega) ev_some), ev_succ (ev_f (by simp; omega) ev_some)⟩
  | d + 1, at', w, Q, hd, b1, b2, hw, hw2, hq, hQ => by
    by_cases ce : at' < s1
    · have hl : ∀ p : V, decide (((pcs Q).length + [p].length) * 2 ≤ 140737488355328) = true := fun p => by
        rw [prs_length]; simp; omega
      have step : ∀ (w' : Int) (Q' : List (Int × Int)), 0 ≤ w' → w' + d ≤ 100 → Q'.length + ((if at' + 8 < s0 then 1 else 0) + (if at' + 8 < s1 then 1 else 0)) ≤ 2 → okP Q' →
          (∀ R, Ev (fun n => l_spec_l05Course_b0 n s0 s1 w' (at' + 8) (pcs Q')) R → Ev (fun n => l_spec_l05Course_b0 n s0 s1 w at' (pcs Q)) R) →
          (∀ R, Ev (fun n => l_impl_Shape_laid_b0 n w' (at' + 8) s0 s1 (pcs Q')) R → Ev (fun n => l_impl_Shape_laid_b0 n w at' s0 s1 (pcs Q)) R) →
          ∃ (w' : Int) (Q' : List (Int × Int)), 0 ≤ w' ∧ w' ≤ 100 ∧ Q'.length ≤ 2 ∧ okP Q' ∧ Ev (fun n => l_spec_l05Course_b0 n s0 s1 w at' (pcs Q)) (w', pcs Q') ∧ Ev (fun n => l_impl_Shape_laid_b0 n w at' s0 s1 (pcs Q)) (w', pcs Q') := by
        intro w' Q' k1 k2 k3 k4 k5 k6
        obtain ⟨w2, Q2, j1, j2, j3, j4, j5, j6⟩ := courseL_ok h0 h1 h2 d (at' + 8) w' Q' (by omega) (by omega) (by omega) k1 k2 k3 k4
        exact ⟨w2, Q2, j1, j2, j3, j4, k5 _ j5, k6 _ j6⟩
      have e64 : IntKind.i64.wrap (at' + 8) = at' + 8 := w64 _ (by omega)
      have e16 : IntKind.i16.wrap (at' + 8) = at' + 8 := w16 _ (by omega)
      have sp : ∀ {f : Nat → Int → Int → Option (Int × List V)} {R : Int × List V}, Ev (fun n => f n (max at' s0) (min (at' + 8) s1)) R → Ev (fun n => bnd (s_spec_l00Max n at' s0) fun y4 => bnd (s_spec_l00Min n (IntKind.i64.wrap (at' + 8)) s1) fun y5 => f n y4 y5) R := by
        intro f R h
        refine ev_bnd (ev_of fun n => max_eq ..) (ev_bnd (ev_of fun n => min_eq ..) ?_)
        rw [e64]; exact h
      by_cases c1 : at' + 8 ≤ s0
      · refine step w Q hw (by omega) (by rw [if_pos ce, if_pos (by omega)] at hq; split <;> split <;> omega) hQ (fun R h => ?_) (fun R h => ?_)
        · refine ev_succ (ev_t (by simpa using ce) (sp (ev_t (by simp; omega) ?_)))
          rw [e64]; exact h
        · refine ev_succ (ev_t (by simpa using ce) ?_)
          rw [e16]
          exact ev_t (by simpa using c1) h
      · by_cases c2 : s0 ≤ at' ∧ at' + 8 ≤ s1
        · refine step (w + 1) Q (by omega) (by omega) (by rw [if_pos ce, if_neg (by omega)] at hq; split <;> split <;> omega) hQ (fun R h => ?_) (fun R h => ?_)
          · refine ev_succ (ev_t (by simpa using ce) (sp (ev_f (by simp; omega) (ev_t (by simp; omega) ?_))))
            rw [e64, w64 (w + 1) (by omega)]
            exact ev_t (by simp; omega) h
          · refine ev_succ (ev_t (by simpa using ce) ?_)
            rw [e16, w64 (w + 1) (by omega)]
            exact ev_f (by simp; omega) (ev_t (by simp; omega) (ev_t (by simp; omega) h))
        · by_cases c3 : at' < s0
          · by_cases c4 : s1 < at' + 8
            · refine step w (Q ++ [(2, s1 - s0)]) hw (by omega) (by rw [if_pos ce, if_pos c3] at hq; rw [List.length_append, List.length_singleton, if_neg (by omega), if_neg (by omega)]; omega) (okP_snoc hQ (by omega)) (fun R h => ?_) (fun R h => ?_)
              · refine ev_succ (ev_t (by simpa using ce) (sp (ev_f (by simp; omega) (ev_f (by simp; omega) (ev_t (by simp; omega) ?_)))))
                rw [e64]
                refine ev_t (by simp; omega) (ev_chk (hl _) ?_)
                rw [w64 _ (by omega), w8 _ (by omega), show min (at' + 8) s1 - max at' s0 = s1 - s0 by omega, pcs_snoc]
                exact h
              · refine ev_succ (ev_t (by simpa using ce) ?_)
                rw [e16, w16 (s1 - s0) (by omega), w8 (s1 - s0) (by omega), pcs_snoc]
                exact ev_f (by simp; omega) (ev_f (by simp; omega) (ev_t (by simp; omega) (ev_t (by simp; omega) (ev_chk (hl _) h))))
            · refine step w (Q ++ [(1, at' + 8 - s0)]) hw (by omega) (by rw [if_pos ce, if_pos c3] at hq; rw [List.length_append, List.length_singleton, if_neg (by omega)]; split <;> omega) (okP_snoc hQ (by omega)) (fun R h => ?_) (fun R h => ?_)
              · refine ev_succ (ev_t (by simpa using ce) (sp (ev_f (by simp; omega) (ev_f (by simp; omega) (ev_t (by simp; omega) ?_)))))
                rw [e64]
                refine ev_f (by simp; omega) (ev_chk (hl _) ?_)
                rw [w64 _ (by omega), w8 _ (by omega), show min (at' + 8) s1 - max at' s0 = at' + 8 - s0 by omega, pcs_snoc]
                exact h
              · refine ev_succ (ev_t (by simpa using ce) ?_)
                rw [e16, w16 (at' + 8 - s0) (by omega), w8 (at' + 8 - s0) (by omega), pcs_snoc Q 1 _]
                exact ev_f (by simp; omega) (ev_f (by simp; omega) (ev_t (by simp; omega) (ev_f (by simp; omega) (ev_chk (hl _) h))))
          · refine step w (Q ++ [(0, s1 - at')]) hw (by omega) (by rw [if_pos ce, if_neg c3] at hq; rw [List.length_append, List.length_singleton, if_neg (by omega), if_neg (by omega)]; omega) (okP_snoc hQ (by omega)) (fun R h => ?_) (fun R h => ?_)
            · refine ev_succ (ev_t (by simpa using ce) (sp (ev_f (by simp; omega) (ev_t (by simp; omega) ?_))))
              rw [e64]
              refine ev_f (by simp; omega) (ev_f (by simp; omega) (ev_chk (hl _) ?_))
              rw [w64 _ (by omega), w8 _ (by omega), show min (at' + 8) s1 - max at' s0 = s1 - at' by omega, pcs_snoc]
              exact h
            · refine ev_succ (ev_t (by simpa using ce) ?_)
              rw [e16, w16 (s1 - at') (by omega), w8 (s1 - at') (by omega), pcs_snoc Q 0 _]
              exact ev_f (by simp; omega) (ev_t (by simp; omega) (ev_f (by simp; omega) (ev_f (by simp; omega) (ev_chk (hl _) h))))
    · refine ⟨w, Q, hw, by omega, by omega, hQ, ev_succ (ev_f (by simp; omega) ev_some), ev_succ (ev_f (by simp; omega) ev_some)⟩
abbrev spn (s : List (Int × Int)) : List V := prs .i16 .i16 s
theorem idx_spn {s : List (Int × Int)} {x : Nat} (h : x < s.length) : bnd (idx (spn s) (x : Int)) as_Pi16_i16Q = some ((pr s x).1, (pr s x).2) := by
  rw [idx_prs _ _ _ _ h]; rfl
/-- a shape whose spans lie on the roof -/
def okS (mode : Int) (s : List (Int × Int)) : Prop := 0 ≤ mode ∧ mode ≤ 1 ∧ 1 ≤ s.length ∧ s.length ≤ 12 ∧ ∀ k, k < s.length → 0 ≤ (pr s k).1 ∧ (pr s k).1 < (pr s k).2 ∧ (pr s k).2 ≤ 200
theorem course_ok {mode : Int} {s : List (Int × Int)} (h : okS mode s) {k : Nat} (hk : k < s.length) :
    ∃ (w : Int) (Q : List (Int × Int)), 0 ≤ w ∧ w ≤ 100 ∧ Q.length ≤ 2 ∧ okP Q ∧ Ev (fun n => s_spec_l05Course n mode (spn s) k) (w, pcs Q) ∧ Ev (fun n => s_impl_Shape_laid n mode (spn s) k) (w, pcs Q) := by
  obtain ⟨m0, m1, l1, l2, hs⟩ := h
  obtain ⟨a1, a2, a3⟩ := hs k hk
  have e1 : IntKind.i64.wrap ((k : Int) + IntKind.i64.wrap mode) = (k : Int) + mode := by rw [w64 mode (by omega), w64 _ (by omega)]
  have t1 : 0 ≤ ((k : Int) + mode).tmod 2 := Int.tmod_nonneg _ (by omega)
  have t2 : ((k : Int) + mode).tmod 2 < 2 := Int.tmod_lt_of_pos _ (by omega)
  generalize ht : ((k : Int) + mode).tmod 2 = t at t1 t2
  obtain ⟨w, Q, j1, j2, j3, j4, j5, j6⟩ := courseL_ok a1 a2 (by omega) 30 (4 * t - 8) 0 [] (by omega) (by omega) (by omega) (by omega) (by omega) (by simp; split <;> split <;> omega) (fun p hp => by cases hp)
  refine ⟨w, Q, j1, j2, j3, j4, ?_, ?_⟩
  · unfold s_spec_l05Course
    refine ev_bnd (ev_of fun n => idx_spn hk) (ev_bnd (ev_of fun n => idx_spn hk) ?_)
    dsimp only
    rw [e1, ht, w64 (4 * t) (by omega), w64 (4 * t - 8) (by omega), w64 (pr s k).1 (by omega), w64 (pr s k).2 (by omega)]
    exact ev_bnd j5 ev_some
  · unfold s_impl_Shape_laid
    refine ev_bnd (ev_of fun n => idx_spn hk) ?_
    dsimp only
    rw [e1, ht, w64 (t * 4) (by omega), w16 (t * 4) (by omega), show t * 4 = 4 * t by omega, w16 (4 * t - 8) (by omega)]
    exact ev_bnd j6 ev_some
end Go.Proofs.Ytbejaalnnnogoaa
