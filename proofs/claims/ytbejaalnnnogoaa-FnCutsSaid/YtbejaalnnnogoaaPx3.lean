/- One course: the whole tiles and the cut pieces, both sides alike. The least count of tiles of a shape: both sides alike. -/
import Derived.Test.YtbejaalnnnogoaaPx2
namespace Go.Proofs.Ytbejaalnnnogoaa
open Go
set_option linter.unusedVariables false
set_option linter.unusedSimpArgs false

theorem max_eq (n : Nat) (a b : Int) : s_spec_l00Max n a b = some (max a b) := by
  unfold s_spec_l00Max
  rw [cnd_d]
  split <;> (congr 1; omega)
theorem min_eq (n : Nat) (a b : Int) : s_spec_l00Min n a b = some (min a b) := by
  unfold s_spec_l00Min
  rw [cnd_d]
  split <;> (congr 1; omega)
def okP (Q : List (Int × Int)) : Prop := ∀ p, p ∈ Q → 0 ≤ p.1 ∧ p.1 ≤ 2 ∧ 1 ≤ p.2 ∧ p.2 ≤ 7
/-- what a tile at t gives: whole, or a piece -/
def tw (s0 s1 t : Int) : Int := if s0 ≤ t ∧ t + 8 ≤ s1 then 1 else 0
def tq (s0 s1 t : Int) : List (Int × Int) := if t + 8 ≤ s0 ∨ s1 ≤ t ∨ (s0 ≤ t ∧ t + 8 ≤ s1) then [] else [(if t < s0 then (if s1 < t + 8 then 2 else 1) else 0, min (t + 8) s1 - max t s0)]
def crw (s0 s1 : Int) : Nat → Int → Int
 | 0, _ => 0
 | d + 1, t => tw s0 s1 t + crw s0 s1 d (t + 8)
def crq (s0 s1 : Int) : Nat → Int → List (Int × Int)
 | 0, _ => []
 | d + 1, t => tq s0 s1 t ++ crq s0 s1 d (t + 8)
theorem cr_end {s0 s1 : Int} (h : s0 < s1) : ∀ (d : Nat) (t : Int), s1 ≤ t → crw s0 s1 d t = 0 ∧ crq s0 s1 d t = []
  | 0, t, _ => ⟨rfl, rfl⟩
  | d + 1, t, ht => by
    obtain ⟨h1, h2⟩ := cr_end h d (t + 8) (by omega)
    simp only [crw, crq, h1, h2]
    unfold tw tq
    rw [if_neg (by omega), if_pos (by omega)]
    exact ⟨rfl, rfl⟩
theorem okP_snoc {Q : List (Int × Int)} {a b : Int} (h : okP Q) (hb : 0 ≤ a ∧ a ≤ 2 ∧ 1 ≤ b ∧ b ≤ 7) : okP (Q ++ [(a, b)]) := fun p hp => by
  rcases List.mem_append.1 hp with hp | hp
  · exact h p hp
  · rw [List.mem_singleton] at hp; subst hp; exact hb
theorem pcs_snoc (Q : List (Int × Int)) (a b : Int) : pcs Q ++ [V.parts [V.int .i8 a, V.int .i8 b]] = pcs (Q ++ [(a, b)]) := by
  show _ = prs .i8 .i8 (Q ++ [(a, b)])
  rw [prs_app]; rfl
theorem courseL_ok {s0 s1 : Int} (h0 : 0 ≤ s0) (h1 : s0 < s1) (h2 : s1 ≤ 250) : ∀ (d : Nat) (at' w : Int) (Q : List (Int × Int)), s1 ≤ at' + 8 * d → -8 ≤ at' → at' ≤ 300 → 0 ≤ w → w + d ≤ 100 →
    Q.length + ((if at' < s0 then 1 else 0) + (if at' < s1 then 1 else 0)) ≤ 2 → okP Q →
    ∃ (w' : Int) (Q' : List (Int × Int)), 0 ≤ w' ∧ w' ≤ 100 ∧ Q'.length ≤ 2 ∧ okP Q' ∧ (w' = w + crw s0 s1 d at' ∧ Q' = Q ++ crq s0 s1 d at') ∧ Ev (fun n => l_spec_l05Course_b0 n s0 s1 w at' (pcs Q)) (w', pcs Q') ∧ Ev (fun n => l_impl_Shape_laid_b0 n w at' s0 s1 (pcs Q)) (w', pcs Q')
  | 0, at', w, Q, hd, b1, b2, hw, hw2, hq, hQ => by
    refine ⟨w, Q, hw, by omega, by omega, hQ, ⟨by simp [crw], by simp [crq]⟩, ev_succ (ev_f (by simp; omega) ev_some), ev_succ (ev_f (by simp; omega) ev_some)⟩
  | d + 1, at', w, Q, hd, b1, b2, hw, hw2, hq, hQ => by
    by_cases ce : at' < s1
    · have hl : ∀ p : V, decide (((pcs Q).length + [p].length) * 2 ≤ 140737488355328) = true := fun p => by
        rw [prs_length]; simp; omega
      have step : ∀ (w' : Int) (Q' : List (Int × Int)), 0 ≤ w' → w' + d ≤ 100 → Q'.length + ((if at' + 8 < s0 then 1 else 0) + (if at' + 8 < s1 then 1 else 0)) ≤ 2 → okP Q' → w' = w + tw s0 s1 at' ∧ Q' = Q ++ tq s0 s1 at' →
          (∀ R, Ev (fun n => l_spec_l05Course_b0 n s0 s1 w' (at' + 8) (pcs Q')) R → Ev (fun n => l_spec_l05Course_b0 n s0 s1 w at' (pcs Q)) R) →
          (∀ R, Ev (fun n => l_impl_Shape_laid_b0 n w' (at' + 8) s0 s1 (pcs Q')) R → Ev (fun n => l_impl_Shape_laid_b0 n w at' s0 s1 (pcs Q)) R) →
          ∃ (w' : Int) (Q' : List (Int × Int)), 0 ≤ w' ∧ w' ≤ 100 ∧ Q'.length ≤ 2 ∧ okP Q' ∧ (w' = w + crw s0 s1 (d + 1) at' ∧ Q' = Q ++ crq s0 s1 (d + 1) at') ∧ Ev (fun n => l_spec_l05Course_b0 n s0 s1 w at' (pcs Q)) (w', pcs Q') ∧ Ev (fun n => l_impl_Shape_laid_b0 n w at' s0 s1 (pcs Q)) (w', pcs Q') := by
        intro w' Q' k1 k2 k3 k4 k0 k5 k6
        obtain ⟨w2, Q2, j1, j2, j3, j4, j0, j5, j6⟩ := courseL_ok h0 h1 h2 d (at' + 8) w' Q' (by omega) (by omega) (by omega) k1 k2 k3 k4
        exact ⟨w2, Q2, j1, j2, j3, j4, ⟨by rw [j0.1, k0.1, crw]; omega, by rw [j0.2, k0.2, crq, List.append_assoc]⟩, k5 _ j5, k6 _ j6⟩
      have e64 : IntKind.i64.wrap (at' + 8) = at' + 8 := w64 _ (by omega)
      have e16 : IntKind.i16.wrap (at' + 8) = at' + 8 := w16 _ (by omega)
      have sp : ∀ {f : Nat → Int → Int → Option (Int × List V)} {R : Int × List V}, Ev (fun n => f n (max at' s0) (min (at' + 8) s1)) R → Ev (fun n => bnd (s_spec_l00Max n at' s0) fun y4 => bnd (s_spec_l00Min n (IntKind.i64.wrap (at' + 8)) s1) fun y5 => f n y4 y5) R := by
        intro f R h
        refine ev_bnd (ev_of fun n => max_eq ..) (ev_bnd (ev_of fun n => min_eq ..) ?_)
        rw [e64]; exact h
      by_cases c1 : at' + 8 ≤ s0
      · refine step w Q hw (by omega) (by rw [if_pos ce, if_pos (by omega)] at hq; split <;> split <;> omega) hQ ⟨by unfold tw; rw [if_neg (by omega)]; omega, by unfold tq; rw [if_pos (by omega)]; simp⟩ (fun R h => ?_) (fun R h => ?_)
        · refine ev_succ (ev_t (by simpa using ce) (sp (ev_t (by simp; omega) ?_)))
          rw [e64]; exact h
        · refine ev_succ (ev_t (by simpa using ce) ?_)
          rw [e16]
          exact ev_t (by simpa using c1) h
      · by_cases c2 : s0 ≤ at' ∧ at' + 8 ≤ s1
        · refine step (w + 1) Q (by omega) (by omega) (by rw [if_pos ce, if_neg (by omega)] at hq; split <;> split <;> omega) hQ ⟨by unfold tw; rw [if_pos (by omega)], by unfold tq; rw [if_pos (by omega)]; simp⟩ (fun R h => ?_) (fun R h => ?_)
          · refine ev_succ (ev_t (by simpa using ce) (sp (ev_f (by simp; omega) (ev_t (by simp; omega) ?_))))
            rw [e64, w64 (w + 1) (by omega)]
            exact ev_t (by simp; omega) h
          · refine ev_succ (ev_t (by simpa using ce) ?_)
            rw [e16, w64 (w + 1) (by omega)]
            exact ev_f (by simp; omega) (ev_t (by simp; omega) (ev_t (by simp; omega) h))
        · by_cases c3 : at' < s0
          · by_cases c4 : s1 < at' + 8
            · refine step w (Q ++ [(2, s1 - s0)]) hw (by omega) (by rw [if_pos ce, if_pos c3] at hq; rw [List.length_append, List.length_singleton, if_neg (by omega), if_neg (by omega)]; omega) (okP_snoc hQ (by omega)) ⟨by unfold tw; rw [if_neg (by omega)]; omega, by unfold tq; rw [if_neg (by omega), if_pos c3, if_pos c4, show min (at' + 8) s1 - max at' s0 = s1 - s0 by omega]⟩ (fun R h => ?_) (fun R h => ?_)
              · refine ev_succ (ev_t (by simpa using ce) (sp (ev_f (by simp; omega) (ev_f (by simp; omega) (ev_t (by simp; omega) ?_)))))
                rw [e64]
                refine ev_t (by simp; omega) (ev_chk (hl _) ?_)
                rw [w64 _ (by omega), w8 _ (by omega), show min (at' + 8) s1 - max at' s0 = s1 - s0 by omega, pcs_snoc]
                exact h
              · refine ev_succ (ev_t (by simpa using ce) ?_)
                rw [e16, w16 (s1 - s0) (by omega), w8 (s1 - s0) (by omega), pcs_snoc]
                exact ev_f (by simp; omega) (ev_f (by simp; omega) (ev_t (by simp; omega) (ev_t (by simp; omega) (ev_chk (hl _) h))))
            · refine step w (Q ++ [(1, at' + 8 - s0)]) hw (by omega) (by rw [if_pos ce, if_pos c3] at hq; rw [List.length_append, List.length_singleton, if_neg (by omega)]; split <;> omega) (okP_snoc hQ (by omega)) ⟨by unfold tw; rw [if_neg (by omega)]; omega, by unfold tq; rw [if_neg (by omega), if_pos c3, if_neg c4, show min (at' + 8) s1 - max at' s0 = at' + 8 - s0 by omega]⟩ (fun R h => ?_) (fun R h => ?_)
              · refine ev_succ (ev_t (by simpa using ce) (sp (ev_f (by simp; omega) (ev_f (by simp; omega) (ev_t (by simp; omega) ?_)))))
                rw [e64]
                refine ev_f (by simp; omega) (ev_chk (hl _) ?_)
                rw [w64 _ (by omega), w8 _ (by omega), show min (at' + 8) s1 - max at' s0 = at' + 8 - s0 by omega, pcs_snoc]
                exact h
              · refine ev_succ (ev_t (by simpa using ce) ?_)
                rw [e16, w16 (at' + 8 - s0) (by omega), w8 (at' + 8 - s0) (by omega), pcs_snoc Q 1 _]
                exact ev_f (by simp; omega) (ev_f (by simp; omega) (ev_t (by simp; omega) (ev_f (by simp; omega) (ev_chk (hl _) h))))
          · refine step w (Q ++ [(0, s1 - at')]) hw (by omega) (by rw [if_pos ce, if_neg c3] at hq; rw [List.length_append, List.length_singleton, if_neg (by omega), if_neg (by omega)]; omega) (okP_snoc hQ (by omega)) ⟨by unfold tw; rw [if_neg (by omega)]; omega, by unfold tq; rw [if_neg (by omega), if_neg c3, show min (at' + 8) s1 - max at' s0 = s1 - at' by omega]⟩ (fun R h => ?_) (fun R h => ?_)
            · refine ev_succ (ev_t (by simpa using ce) (sp (ev_f (by simp; omega) (ev_t (by simp; omega) ?_))))
              rw [e64]
              refine ev_f (by simp; omega) (ev_f (by simp; omega) (ev_chk (hl _) ?_))
              rw [w64 _ (by omega), w8 _ (by omega), show min (at' + 8) s1 - max at' s0 = s1 - at' by omega, pcs_snoc]
              exact h
            · refine ev_succ (ev_t (by simpa using ce) ?_)
              rw [e16, w16 (s1 - at') (by omega), w8 (s1 - at') (by omega), pcs_snoc Q 0 _]
              exact ev_f (by simp; omega) (ev_t (by simp; omega) (ev_f (by simp; omega) (ev_f (by simp; omega) (ev_chk (hl _) h))))
    · refine ⟨w, Q, hw, by omega, by omega, hQ, ⟨by rw [(cr_end h1 _ _ (by omega)).1]; omega, by rw [(cr_end h1 _ _ (by omega)).2]; simp⟩, ev_succ (ev_f (by simp; omega) ev_some), ev_succ (ev_f (by simp; omega) ev_some)⟩
abbrev spn (s : List (Int × Int)) : List V := prs .i16 .i16 s
theorem idx_spn {s : List (Int × Int)} {x : Nat} (h : x < s.length) : bnd (idx (spn s) (x : Int)) as_Pi16_i16Q = some ((pr s x).1, (pr s x).2) := by
  rw [idx_prs _ _ _ _ h]; rfl
/-- a shape whose spans lie on the roof -/
def okS (mode : Int) (s : List (Int × Int)) : Prop := 0 ≤ mode ∧ mode ≤ 1 ∧ 1 ≤ s.length ∧ s.length ≤ 12 ∧ ∀ k, k < s.length → 0 ≤ (pr s k).1 ∧ (pr s k).1 < (pr s k).2 ∧ (pr s k).2 ≤ 200
/-- which half a course begins with; its whole tiles, its pieces -/
def par (mode : Int) (k : Nat) : Int := ((k : Int) + mode).tmod 2
def Wf (mode : Int) (s : List (Int × Int)) (k : Nat) : Int := crw (pr s k).1 (pr s k).2 30 (4 * par mode k - 8)
def Qf (mode : Int) (s : List (Int × Int)) (k : Nat) : List (Int × Int) := crq (pr s k).1 (pr s k).2 30 (4 * par mode k - 8)
theorem course_ok {mode : Int} {s : List (Int × Int)} (h : okS mode s) {k : Nat} (hk : k < s.length) :
    0 ≤ Wf mode s k ∧ Wf mode s k ≤ 100 ∧ (Qf mode s k).length ≤ 2 ∧ okP (Qf mode s k) ∧ Ev (fun n => s_spec_l05Course n mode (spn s) k) (Wf mode s k, pcs (Qf mode s k)) ∧ Ev (fun n => s_impl_Shape_laid n mode (spn s) k) (Wf mode s k, pcs (Qf mode s k)) := by
  unfold Wf Qf par
  obtain ⟨m0, m1, l1, l2, hs⟩ := h
  obtain ⟨a1, a2, a3⟩ := hs k hk
  have e1 : IntKind.i64.wrap ((k : Int) + IntKind.i64.wrap mode) = (k : Int) + mode := by rw [w64 mode (by omega), w64 _ (by omega)]
  have t1 : 0 ≤ ((k : Int) + mode).tmod 2 := Int.tmod_nonneg _ (by omega)
  have t2 : ((k : Int) + mode).tmod 2 < 2 := Int.tmod_lt_of_pos _ (by omega)
  generalize ht : ((k : Int) + mode).tmod 2 = t at t1 t2
  obtain ⟨w, Q, j1, j2, j3, j4, j0, j5, j6⟩ := courseL_ok a1 a2 (by omega) 30 (4 * t - 8) 0 [] (by omega) (by omega) (by omega) (by omega) (by omega) (by simp; split <;> split <;> omega) (fun p hp => by cases hp)
  rw [Int.zero_add, List.nil_append] at j0
  rw [← j0.1, ← j0.2]
  refine ⟨j1, j2, j3, j4, ?_, ?_⟩
  · unfold s_spec_l05Course
    refine ev_bnd (ev_of fun n => idx_spn hk) (ev_bnd (ev_of fun n => idx_spn hk) ?_)
    dsimp only
    rw [e1, ht, w64 (4 * t) (by omega), w64 (4 * t - 8) (by omega), w64 (pr s k).1 (by omega), w64 (pr s k).2 (by omega)]
    exact ev_bnd j5 ev_some
  · unfold s_impl_Shape_laid
    refine ev_bnd (ev_of fun n => idx_spn hk) ?_
    dsimp only
    rw [e1, ht, w64 (t * 4) (by omega), w16 (t * 4) (by omega), show t * 4 = 4 * t by omega, w16 (4 * t - 8) (by omega)]
    exact ev_bnd j6 ev_some
def catQ (Q : Nat → List (Int × Int)) (k : Nat) : List (Int × Int) := (List.range k).flatMap Q
theorem catQ_succ (Q : Nat → List (Int × Int)) (k : Nat) : catQ Q (k + 1) = catQ Q k ++ Q k := by
  simp [catQ, List.range_succ]
theorem catQ_len {Q : Nat → List (Int × Int)} : ∀ {N : Nat}, (∀ k, k < N → (Q k).length ≤ 2) → (catQ Q N).length ≤ 2 * N
  | 0, _ => by simp [catQ]
  | N + 1, h => by
    rw [catQ_succ, List.length_append]
    have := catQ_len (N := N) fun k hk => h k (by omega)
    have := h N (by omega)
    omega
theorem catQ_ok {Q : Nat → List (Int × Int)} {N : Nat} (h : ∀ k, k < N → okP (Q k)) : okP (catQ Q N) := fun p hp => by
  rw [catQ, List.mem_flatMap] at hp
  obtain ⟨k, hk, hp⟩ := hp
  exact h k (by simpa using hk) p hp
/-- numbers given by a function -/
def nums (N : Nat) (g : Nat → Int) : List V := (List.range' 0 N).map fun k => V.int .i64 (g k)
theorem nums_length (N : Nat) (g : Nat → Int) : (nums N g).length = N := by simp [nums]
theorem idx_nums {N : Nat} {g : Nat → Int} {k : Nat} (h : k < N) : bnd (idx (nums N g) (k : Int)) as_i64 = some (g k) := by
  rw [idx_nat, nums]; simp [h, bnd, as_i64]
theorem plain_nums (N : Nat) (g : Nat → Int) : plainV (V.fresh 0 (nums N g)) = true := by
  show allB plainP.plainE (nums N g) = true
  unfold nums
  induction List.range' 0 N with
  | nil => rfl
  | cons p l ih => exact ih
theorem sum_ok {N : Nat} {g : Nat → Int} (hN : N ≤ 1000) (hg : ∀ j, j < N → -1000 ≤ g j ∧ g j ≤ 1000) : Ev (fun n => s_impl_sum_int64 n (nums N g)) (sumR g 0 N) := by
  unfold s_impl_sum_int64
  rw [nums_length]
  refine ev_bnd (a := sumR g 0 N) ?_ ev_some
  refine loop_sum (l := fun n k s => l_impl_sum_int64_b0 n s (nums N g) N (k : Nat)) (R := id) N 1000 (by omega) hg (fun s => ev_f (by simp) ev_some) ?_
  intro k s hk hs hs2 a h
  refine ev_t (by simp; omega) (ev_bnd (ev_of fun n => idx_nums hk) ?_)
  rw [up64 k (by omega), w64 _ (by omega)]
  exact h
theorem sizes_pcs (Q : List (Int × Int)) : sizesOk 2 (pcs Q) = true := by
  induction Q with
  | nil => rfl
  | cons p Q ih => exact ih
theorem grow_ok (n : Nat) (z : Nat) (h : z ≤ 1000) : s_growP n (z : Int) = some [] := by
  unfold s_growP
  rw [show IntKind.i64.wrap ((0 : Int) - 0) = 0 by decide, w64 ((z : Int) - 0) (by omega)]
  have e1 : decide ((z : Int) < 0) = false := by simp
  rw [e1, cnd_f]
  cases c : decide ((0 : Int) < (z : Int) - 0) with
  | false => rfl
  | true =>
    rw [cnd_t, show decide (0 = 0) = true from rfl, chk_t]
    have e2 : decide (((z : Int) - 0).toNat * 2 ≤ 140737488355328) = true := by simp; omega
    rw [e2]
    simp [chk]
theorem all_ok {mode : Int} {s : List (Int × Int)} {W : Nat → Int} {Q : Nat → List (Int × Int)} (hs : s.length ≤ 12) (hW : ∀ k, k < s.length → 0 ≤ W k ∧ W k ≤ 100) (hQ : ∀ k, k < s.length → (Q k).length ≤ 2) (he : ∀ k, k < s.length → Ev (fun n => s_spec_l05Course n mode (spn s) k) (W k, pcs (Q k))) : Ev (fun n => s_spec_l05All n mode (spn s)) (pcs (catQ Q s.length)) := by
  unfold s_spec_l05All
  refine ev_bnd (a := pcs (catQ Q s.length)) ?_ ev_some
  have key : ∀ (d k : Nat), k + d = s.length → Ev (fun n => l_spec_l05All_b0 n mode (spn s) k (pcs (catQ Q k))) (pcs (catQ Q s.length)) := by
    intro d
    induction d with
    | zero =>
      intro k hk
      obtain rfl : k = s.length := by omega
      exact ev_succ (ev_f (by simp [prs_length]) ev_some)
    | succ d ih =>
      intro k hk
      refine ev_succ (ev_t (by simp [prs_length]; omega) (ev_bnd (he k (by omega)) ?_))
      dsimp only
      have l1 := catQ_len (Q := Q) (N := k) fun j hj => hQ j (by omega)
      have l2 := hQ k (by omega)
      refine ev_chk (by simp only [prs_length]; simp; omega) ?_
      rw [up64 k (by omega), show pcs (catQ Q k) ++ pcs (Q k) = pcs (catQ Q (k + 1)) by rw [catQ_succ]; exact (prs_app ..).symm]
      exact ih (k + 1) (by omega)
  exact key s.length 0 (by omega)
theorem pieces_ok {mode : Int} {s : List (Int × Int)} {W : Nat → Int} {Q : Nat → List (Int × Int)} (hs : s.length ≤ 12) (hW : ∀ k, k < s.length → 0 ≤ W k ∧ W k ≤ 100) (hQ : ∀ k, k < s.length → (Q k).length ≤ 2) (he : ∀ k, k < s.length → Ev (fun n => s_impl_Shape_laid n mode (spn s) k) (W k, pcs (Q k))) : Ev (fun n => s_impl_Shape_pieces n mode (spn s)) (pcs (catQ Q s.length)) := by
  unfold s_impl_Shape_pieces
  rw [prs_length]
  refine ev_bnd (upTo_ok (by omega)) (ev_bnd (a := (List.range' 0 s.length).map fun k => V.sl (pcs (Q k))) ?_ ?_)
  · unfold s_eaPi
    rw [row_length]
    refine ev_bnd ?_ ev_some
    refine loop_map (l := fun n k acc => l_eaPi_b0 n mode (spn s) (row s.length id) s.length (k : Nat) acc) (R := id) s.length (fun acc => ev_f (by simp) ev_some) ?_
    intro k acc hk hl a h
    refine ev_t (by simp; omega) (ev_bnd (a := (k : Int)) (ev_of fun n => by rw [idx_row hk]; rfl) (ev_bnd (a := pcs (Q k)) ?_ (ev_chk (by simp [hl]; omega) (by rw [up64 k (by omega)]; exact h))))
    unfold s_impl_Shape_pieces_1
    exact ev_bnd (he k hk) ev_some
  · refine ev_bnd (a := pcs (catQ Q s.length)) ?_ (ev_chk (plain_prs ..) ev_some)
    have ll : ((List.range' 0 s.length).map fun k => V.sl (pcs (Q k))).length = s.length := by simp
    have gx : ∀ k, k < s.length → bnd (idx ((List.range' 0 s.length).map fun k => V.sl (pcs (Q k))) (k : Int)) as_LPi8_i8Q = some (pcs (Q k)) := fun k hk => by
      rw [idx_nat]; simp [hk, bnd, as_LPi8_i8Q]
    generalize (List.range' 0 s.length).map (fun k => V.sl (pcs (Q k))) = xs at ll gx
    unfold s_catP
    rw [ll]
    have k1 : ∀ (d k : Nat), k + d = s.length → Ev (fun n => l_catP_b0 n xs ((catQ Q k).length : Nat) xs s.length k) (xs, (((catQ Q s.length).length : Nat) : Int)) := by
      intro d
      induction d with
      | zero =>
        intro k hk
        obtain rfl : k = s.length := by omega
        exact ev_succ (ev_f (by simp) ev_some)
      | succ d ih =>
        intro k hk
        have l1 := catQ_len (Q := Q) (N := k) fun j hj => hQ j (by omega)
        have l2 := hQ k (by omega)
        refine ev_succ (ev_t (by simp; omega) (ev_bnd (ev_of fun n => gx k (by omega)) ?_))
        rw [prs_length, wa _ _ (by omega), up64 k (by omega), show (catQ Q k).length + (Q k).length = (catQ Q (k + 1)).length by rw [catQ_succ, List.length_append]]
        exact ev_f (by simp) (ih (k + 1) (by omega))
    have k2 : ∀ (d k : Nat), k + d = s.length → Ev (fun n => l_catP_b2 n xs s.length k (pcs (catQ Q k))) (pcs (catQ Q s.length)) := by
      intro d
      induction d with
      | zero =>
        intro k hk
        obtain rfl : k = s.length := by omega
        exact ev_succ (ev_f (by simp) ev_some)
      | succ d ih =>
        intro k hk
        have l1 := catQ_len (Q := Q) (N := k) fun j hj => hQ j (by omega)
        have l2 := hQ k (by omega)
        refine ev_succ (ev_t (by simp; omega) (ev_bnd (ev_of fun n => gx k (by omega)) ?_))
        refine ev_chk (by simp only [prs_length]; simp; omega) (ev_chk (sizes_pcs _) ?_)
        rw [up64 k (by omega), show pcs (catQ Q k) ++ pcs (Q k) = pcs (catQ Q (k + 1)) by rw [catQ_succ]; exact (prs_app ..).symm]
        exact ih (k + 1) (by omega)
    have l3 := catQ_len (Q := Q) (N := s.length) hQ
    refine ev_bnd (k1 s.length 0 (by omega)) ?_
    dsimp only
    refine ev_bnd (ev_of fun n => grow_ok n _ (by omega)) (ev_chk rfl ?_)
    rw [ll]
    exact ev_bnd (k2 s.length 0 (by omega)) ev_some
theorem whole_ok {mode : Int} {s : List (Int × Int)} {W : Nat → Int} {Q : Nat → List (Int × Int)} (hs : s.length ≤ 12) (hW : ∀ k, k < s.length → 0 ≤ W k ∧ W k ≤ 100) (hQ : ∀ k, k < s.length → (Q k).length ≤ 2) (he : ∀ k, k < s.length → Ev (fun n => s_impl_Shape_laid n mode (spn s) k) (W k, pcs (Q k))) : Ev (fun n => s_impl_Shape_whole n mode (spn s)) (sumR W 0 s.length) := by
  unfold s_impl_Shape_whole
  rw [prs_length]
  refine ev_bnd (upTo_ok (by omega)) (ev_bnd (a := nums s.length W) ?_ (ev_chk (plain_nums _ _) (ev_bnd (sum_ok (by omega) fun j hj => by have := hW j hj; omega) ev_some)))
  unfold s_eaWh
  rw [row_length]
  refine ev_bnd ?_ ev_some
  refine loop_map (l := fun n k acc => l_eaWh_b0 n mode (spn s) (row s.length id) s.length (k : Nat) acc) (R := id) s.length (fun acc => ev_f (by simp) ev_some) ?_
  intro k acc hk hl a h
  refine ev_t (by simp; omega) (ev_bnd (a := (k : Int)) (ev_of fun n => by rw [idx_row hk]; rfl) (ev_bnd (a := W k) ?_ (ev_chk (by simp [hl]; omega) (by rw [up64 k (by omega)]; exact h))))
  unfold s_impl_Shape_whole_1
  exact ev_bnd (he k hk) ev_some
theorem leastL_ok {mode : Int} {s : List (Int × Int)} {W : Nat → Int} {Q : Nat → List (Int × Int)} (hs : s.length ≤ 12) (hW : ∀ k, k < s.length → 0 ≤ W k ∧ W k ≤ 100) (hQ : ∀ k, k < s.length → (Q k).length ≤ 2) {t : Nat} (ht : t ≤ 1000) (he : ∀ k, k < s.length → Ev (fun n => s_spec_l05Course n mode (spn s) k) (W k, pcs (Q k))) : ∀ (d k : Nat), k + d = s.length → Ev (fun n => l_spec_l05Least_b0 n mode (spn s) ((t : Int) + sumR W 0 k) k) ((t : Int) + sumR W 0 s.length)
  | 0, k, hk => by
    obtain rfl : k = s.length := by omega
    exact ev_succ (ev_f (by simp [prs_length]) ev_some)
  | d + 1, k, hk => by
    refine ev_succ (ev_t (by simp [prs_length]; omega) (ev_bnd (he k (by omega)) ?_))
    dsimp only
    have b1 := sumR_nn (g := W) (B := 100) (N := k) fun j hj => hW j (by omega)
    have b2 := hW k (by omega)
    rw [up64 k (by omega), w64 _ (by omega), show (t : Int) + sumR W 0 k + W k = (t : Int) + sumR W 0 (k + 1) by rw [sumR_succ]; omega]
    exact leastL_ok hs hW hQ ht he d (k + 1) (by omega)
/-- the pieces of a shape -/
def Pf (mode : Int) (s : List (Int × Int)) : List (Int × Int) := catQ (Qf mode s) s.length
theorem least_full {mode : Int} {s : List (Int × Int)} (h : okS mode s) : ∃ (t : Nat) (O : List Nat), isOrd (Pf mode s) O ∧ t + gr (lfs (Pf mode s) O) (rts (Pf mode s) (fun _ => false) O) = (Pf mode s).length ∧ (Pf mode s).length ≤ 24 ∧ okP (Pf mode s) ∧
    0 ≤ sumR (Wf mode s) 0 s.length ∧ sumR (Wf mode s) 0 s.length ≤ 1200 ∧ Ev (fun n => s_spec_l05Least n mode (spn s)) ((t : Int) + sumR (Wf mode s) 0 s.length) ∧ Ev (fun n => s_impl_Shape_least n mode (spn s)) ((t : Int) + sumR (Wf mode s) 0 s.length) ∧
    Ev (fun n => s_impl_tilesFor n (pcs (Pf mode s))) (t : Int) ∧ Ev (fun n => s_impl_Shape_whole n mode (spn s)) (sumR (Wf mode s) 0 s.length) ∧ Ev (fun n => s_spec_l05All n mode (spn s)) (pcs (Pf mode s)) ∧ Ev (fun n => s_impl_Shape_pieces n mode (spn s)) (pcs (Pf mode s)) := by
  have hF : ∀ k, k < s.length → _ := fun k hk => course_ok h hk
  obtain ⟨m0, m1, l1, l2, hs⟩ := h
  have hQ : ∀ k, k < s.length → (Qf mode s k).length ≤ 2 := fun k hk => (hF k hk).2.2.1
  have hW : ∀ k, k < s.length → 0 ≤ Wf mode s k ∧ Wf mode s k ≤ 100 := fun k hk => ⟨(hF k hk).1, (hF k hk).2.1⟩
  have l3 := catQ_len hQ
  have okA : okP (Pf mode s) := catQ_ok (N := s.length) (Q := Qf mode s) fun k hk => (hF k hk).2.2.2.1
  obtain ⟨t, O, o1, t1, t0, t2, t3⟩ := tiles_ok (P := Pf mode s) (by unfold Pf; omega) fun x hx => by have := okA _ (pr_mem hx); unfold wd; exact ⟨by omega, by omega⟩
  have b1 := sumR_nn (B := 100) hW
  have e1 := whole_ok (by omega) hW hQ fun k hk => (hF k hk).2.2.2.2.2
  have e2 := pieces_ok (by omega) hW hQ fun k hk => (hF k hk).2.2.2.2.2
  have e3 := all_ok (by omega) hW hQ fun k hk => (hF k hk).2.2.2.2.1
  refine ⟨t, O, o1, t0, by unfold Pf; omega, okA, by omega, by omega, ?_, ?_, t3, e1, e3, e2⟩
  · unfold s_spec_l05Least
    refine ev_bnd e3 (ev_bnd t2 ?_)
    have := leastL_ok (t := t) (by omega) hW hQ (by unfold Pf at t1; omega) (fun k hk => (hF k hk).2.2.2.2.1) s.length 0 (by omega)
    rw [sumR_zero, Int.add_zero] at this
    exact ev_bnd this ev_some
  · unfold s_impl_Shape_least
    refine ev_bnd e1 (ev_bnd e2 (ev_bnd t3 (ev_cast ev_some ?_)))
    have : (Pf mode s).length ≤ 24 := by unfold Pf; omega
    rw [w64 _ (by omega)]
    omega
theorem least_ok {mode : Int} {s : List (Int × Int)} (h : okS mode s) : ∃ L : Int, 0 ≤ L ∧ L ≤ 10000 ∧ Ev (fun n => s_spec_l05Least n mode (spn s)) L ∧ Ev (fun n => s_impl_Shape_least n mode (spn s)) L := by
  obtain ⟨t, O, o1, t0, l1, _, b0, b1, e1, e2, _⟩ := least_full h
  exact ⟨_, by omega, by omega, e1, e2⟩
end Go.Proofs.Ytbejaalnnnogoaa
