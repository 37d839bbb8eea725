/- Law Laps. -/
import Derived.Test.YtdhcfdiggcgmhaaPf3
namespace Go.Proofs.Ytdhcfdiggcgmhaa
open Go
set_option linter.unusedVariables false
set_option linter.unusedSimpArgs false

theorem tile_own {w s : Int} (i k : Nat) (hk : (k : Int) < w) : tileOf w s i (2 * (k : Int) + shiftOf s i) = k ∧ tileOf w s i (2 * (k : Int) + shiftOf s i + 1) = k := by
  unfold tileOf
  rw [if_pos (by omega), if_pos (by omega)]
  omega
theorem shift_next {s : Int} (i c : Int) (h : c = i - 1 ∨ c = i + 1) : shiftOf s c = 1 - shiftOf s i := by unfold shiftOf; omega
theorem lap_eq {w h s : Int} (i k : Nat) (hk : (k : Int) < w) (c : Int) (hc : c = (i : Int) - 1 ∨ c = (i : Int) + 1) (hch : 0 ≤ c ∧ c < h) :
    lapR w h s c (2 * (k : Int) + shiftOf s i) = if shiftOf s i = 0 then (if k = 0 then [(c, (k : Int))] else [(c, (k : Int) - 1), (c, (k : Int))]) else (if (k : Int) + 1 < w then [(c, (k : Int)), (c, (k : Int) + 1)] else [(c, (k : Int))]) := by
  have hs := shift_next (s := s) (i : Int) c hc
  have hb := shiftOf_b s (i : Int)
  unfold lapR lapL
  rw [if_pos hch]
  by_cases h0 : shiftOf s i = 0
  · rw [if_pos h0]
    have e2 : tileOf w s c (2 * (k : Int) + shiftOf s i + 1) = k := by
      unfold tileOf; rw [if_pos (by omega)]; omega
    by_cases hk0 : k = 0
    · have e1 : tileOf w s c (2 * (k : Int) + shiftOf s i) = -1 := by
        unfold tileOf; rw [if_neg (by omega)]
      rw [if_pos hk0, e1, e2]
      simp [addT]
    · have e1 : tileOf w s c (2 * (k : Int) + shiftOf s i) = (k : Int) - 1 := by
        unfold tileOf; rw [if_pos (by omega)]; omega
      rw [if_neg hk0, e1, e2]
      unfold addT
      rw [if_neg (by omega), if_neg (by omega)]
      dsimp only
      rw [if_neg (by omega)]
      rfl
  · rw [if_neg h0]
    have e1 : tileOf w s c (2 * (k : Int) + shiftOf s i) = k := by
      unfold tileOf; rw [if_pos (by omega)]; omega
    by_cases hk1 : (k : Int) + 1 < w
    · have e2 : tileOf w s c (2 * (k : Int) + shiftOf s i + 1) = (k : Int) + 1 := by
        unfold tileOf; rw [if_pos (by omega)]; omega
      rw [if_pos hk1, e1, e2]
      unfold addT
      rw [if_neg (by omega), if_neg (by omega)]
      dsimp only
      rw [if_neg (by omega)]
      rfl
    · have e2 : tileOf w s c (2 * (k : Int) + shiftOf s i + 1) = -1 := by
        unfold tileOf; rw [if_neg (by omega)]
      rw [if_neg hk1, e1, e2]
      unfold addT
      rw [if_pos rfl, if_neg (by omega)]
theorem lap_none {w h s c f : Int} (hc : ¬ (0 ≤ c ∧ c < h)) : lapR w h s c f = [] := by unfold lapR; rw [if_neg hc]
theorem lap_len {w h s : Int} (i k : Nat) (hk : (k : Int) < w) (c : Int) (hc : c = (i : Int) - 1 ∨ c = (i : Int) + 1) : (lapR w h s c (2 * (k : Int) + shiftOf s i)).length ≤ 2 ∧ ((lapR w h s c (2 * (k : Int) + shiftOf s i)).length = 0 ↔ ¬ (0 ≤ c ∧ c < h)) := by
  by_cases h1 : 0 ≤ c ∧ c < h
  · rw [lap_eq i k hk c hc h1]
    split <;> split <;> simp [h1]
  · rw [lap_none h1]
    simp [h1]
/-- a tile below has the tile above it -/
theorem lap_back {w h s : Int} (i k : Nat) (hi : (i : Int) < h) (hk : (k : Int) < w) : ∀ q, q ∈ lapR w h s ((i : Int) + 1) (2 * (k : Int) + shiftOf s i) → ∃ k' : Nat, q = (((i + 1 : Nat) : Int), (k' : Int)) ∧ ((i + 1 : Nat) : Int) < h ∧ (k' : Int) < w ∧ ((i : Int), (k : Int)) ∈ lapR w h s (((i + 1 : Nat) : Int) - 1) (2 * (k' : Int) + shiftOf s ((i + 1 : Nat) : Int)) := by
  intro q hq
  have hs := shift_next (s := s) (i : Int) ((i + 1 : Nat) : Int) (.inr (by omega))
  have hb := shiftOf_b s (i : Int)
  by_cases h1 : 0 ≤ (i : Int) + 1 ∧ (i : Int) + 1 < h
  · rw [lap_eq i k hk _ (.inr rfl) h1] at hq
    have back : ∀ k' : Nat, (k' : Int) < w → lapR w h s (((i + 1 : Nat) : Int) - 1) (2 * (k' : Int) + shiftOf s ((i + 1 : Nat) : Int)) = _ := fun k' hk' => lap_eq (i + 1) k' hk' _ (.inl rfl) (by omega)
    have hc : ((i + 1 : Nat) : Int) - 1 = (i : Int) := by omega
    by_cases h0 : shiftOf s i = 0
    · rw [if_pos h0] at hq
      have hs1 : ¬ shiftOf s ((i + 1 : Nat) : Int) = 0 := by omega
      by_cases hk0 : k = 0
      · rw [if_pos hk0] at hq
        simp only [List.mem_singleton] at hq
        refine ⟨k, by rw [hq]; simp, by omega, hk, ?_⟩
        rw [back k hk, if_neg hs1, hc]
        split <;> simp
      · rw [if_neg hk0] at hq
        simp only [List.mem_cons, List.not_mem_nil, or_false] at hq
        rcases hq with hq | hq
        · refine ⟨k - 1, by rw [hq]; simp; omega, by omega, by omega, ?_⟩
          rw [back (k - 1) (by omega), if_neg hs1, hc, if_pos (by omega)]
          simp; omega
        · refine ⟨k, by rw [hq]; simp, by omega, hk, ?_⟩
          rw [back k hk, if_neg hs1, hc]
          split <;> simp
    · rw [if_neg h0] at hq
      have hs1 : shiftOf s ((i + 1 : Nat) : Int) = 0 := by omega
      have own : ((i : Int), (k : Int)) ∈ lapR w h s (((i + 1 : Nat) : Int) - 1) (2 * (k : Int) + shiftOf s ((i + 1 : Nat) : Int)) := by
        rw [back k hk, if_pos hs1, hc]
        split <;> simp
      by_cases hk1 : (k : Int) + 1 < w
      · rw [if_pos hk1] at hq
        simp only [List.mem_cons, List.not_mem_nil, or_false] at hq
        rcases hq with hq | hq
        · exact ⟨k, by rw [hq]; simp, by omega, hk, own⟩
        · refine ⟨k + 1, by rw [hq]; simp, by omega, by omega, ?_⟩
          rw [back (k + 1) (by omega), if_pos hs1, hc, if_neg (by omega)]
          simp
      · rw [if_neg hk1] at hq
        simp only [List.mem_singleton] at hq
        exact ⟨k, by rw [hq]; simp, by omega, hk, own⟩
  · rw [lap_none h1] at hq
    cases hq
theorem hasPl_ok (l : List (Int × Int)) (a b : Int) (hl : l.length ≤ 1000) (hm : (a, b) ∈ l) : Ev (fun n => s_spec_A2HasPlace n (places l) a b) true := by
  unfold s_spec_A2HasPlace s_spec_l01Has
  have key := loop_first (l := fun n j => l_spec_l01Has_b0 n (places l) (j : Nat) a b) (p := fun j => decide ((pr l j).1 = a) && decide ((pr l j).2 = b)) (A := Sum.inl ()) (B := fun _ => Sum.inr true) l.length (ev_f (by simp [prs_length]) ev_some) (by
    intro j hj hp v ih
    refine ev_t (by simp [prs_length]; omega) (ev_bnd (a := ((pr l j).1, (pr l j).2)) (ev_of fun n => by rw [idx_prs _ _ _ _ hj]; rfl) ?_)
    dsimp only
    rw [eqPl, up64 j (by omega)]
    exact ev_f hp ih) (by
    intro j hj hp
    refine ev_t (by simp [prs_length]; omega) (ev_bnd (a := ((pr l j).1, (pr l j).2)) (ev_of fun n => by rw [idx_prs _ _ _ _ hj]; rfl) ?_)
    dsimp only
    rw [eqPl]
    exact ev_t hp ev_some) l.length 0 (by omega)
  cases hf : firstN (fun j => decide ((pr l j).1 = a) && decide ((pr l j).2 = b)) 0 l.length with
  | none =>
    obtain ⟨j, hj, he⟩ := List.mem_iff_getElem.1 hm
    have h1 := firstN_none hf j (by omega) (by omega)
    have h2 := pr_get hj
    rw [List.getElem?_eq_getElem hj, he] at h2
    rw [← Option.some.inj h2] at h1
    simp at h1
  | some j =>
    rw [hf] at key
    exact ev_bnd (ev_bnd key ev_some) ev_some
theorem samePl_ok (l : List (Int × Int)) (hl : l.length ≤ 1048576) : Ev (fun n => s_spec_SamePlaces n (places l) (places l)) true := by
  unfold s_spec_SamePlaces
  refine ev_t (by simp) (ev_bnd (a := Sum.inl ()) ?_ ev_some)
  have := loop_all (l := fun n k => l_spec_SamePlaces_b0 n (places l) (places l) (k : Nat)) (p := fun _ => true) (A := .inl ()) (B := .inr false) l.length (ev_f (by simp [prs_length]) ev_some) (by
    intro k hk _ a ih
    refine ev_t (by simp [prs_length]; omega) (ev_bnd (a := ((pr l k).1, (pr l k).2)) (ev_of fun n => by rw [idx_prs _ _ _ _ hk]; rfl) (ev_bnd (a := ((pr l k).1, (pr l k).2)) (ev_of fun n => by rw [idx_prs _ _ _ _ hk]; rfl) ?_))
    dsimp only
    rw [eqPl, up64 k (by omega)]
    exact ev_t (by simp) ih) (by intro k hk h; cases h) l.length 0 (by omega)
  have h2 : allN (fun _ => true) 0 l.length = true := (allN_iff _ _ _).2 fun _ _ _ => rfl
  rw [h2] at this
  exact this
theorem sameNo_ok (a b : Int) : Ev (fun n => s_spec_A2Same n (ints .i64 [a, b]) (ints .i64 [a, b])) true := by
  unfold s_spec_A2Same s_spec_l00Same
  refine ev_bnd (ev_t rfl (ev_bnd (a := Sum.inl ()) ?_ ev_some)) ev_some
  refine ev_succ (ev_t rfl (ev_bnd (a := a) (ev_of fun n => rfl) (ev_bnd (a := a) (ev_of fun n => rfl) (ev_t (by simp) ?_))))
  refine ev_succ (ev_t rfl (ev_bnd (a := b) (ev_of fun n => rfl) (ev_bnd (a := b) (ev_of fun n => rfl) (ev_t (by simp) ?_))))
  exact ev_succ (ev_f rfl ev_some)
theorem tile_in {w h s : Int} {t : Nat → Int} (H : RoofV w h s t) {c x y : Int} (hc : 0 ≤ c ∧ c < h) (hx : 0 ≤ x ∧ x < 2 * w + 1) (hy : tileOf w s c x = y) : tileAnswer w h s t c x = (y, 0) := by
  unfold tileAnswer
  rw [if_pos H.ok, if_pos ⟨hc.1, hc.2, hx.1, hx.2⟩, hy]
theorem laps_b2 {w h s : Int} {t : Nat → Int} (H : RoofV w h s t) {M : List V} {L : List (Int × Int)} (j : Nat) (hj : j < L.length) {i k : Nat} (hp : pr L j = ((i : Int), (k : Int))) (hi : (i : Int) < h) (hk : (k : Int) < w) (cov : Nat) (hcov : cov ≤ 1000) (B : List V) :
    Ev (fun n => l_laws_FnLaps_b2 n M (cov : Int) (j : Nat) 0 w h s t (places L) B (ints .i64 [2 * (k : Int) + shiftOf s (i : Int), 2 * (k : Int) + shiftOf s (i : Int) + 1])) (.inl (M, ((cov + 2 : Nat) : Int), (j : Int), w, h, s, t, places L, B)) := by
  have hb := H.b
  have hsb := shiftOf_b s (i : Int)
  have ho := tile_own (w := w) (s := s) i k hk
  have hg : ∀ n : Nat, bnd (nth (places L) ((j : Nat) : Int).toNat) as_Pi8_i8Q = some ((i : Int), (k : Int)) := fun n => by rw [Int.toNat_natCast, nth_prs _ _ _ _ hj, hp]; rfl
  have hin : inB ((j : Nat) : Int) (places L).length = true := inB_k _ _ (by rw [places_length]; exact hj)
  refine ev_succ (ev_t rfl (ev_chk hin (ev_bnd (ev_of hg) (ev_bnd (ev_of hg) (ev_chk rfl (ev_bnd (a := 2 * (k : Int) + shiftOf s (i : Int)) (ev_of fun n => rfl) ?_))))))
  dsimp only
  rw [w64 (i : Int) (by omega), up64 cov (by omega), show IntKind.i64.wrap ((0 : Int) + 1) = 1 from rfl]
  refine ev_bnd (ev_cast (impl_TileAt_ok H.toRoofT _ _) (tile_in H (by omega) (by omega) ho.1)) (ev_t rfl (ev_bnd (ev_of hg) (ev_bnd (ev_of hg) (ev_t (by rw [w64 (k : Int) (by omega)]; simp) ?_))))
  refine ev_succ (ev_t rfl (ev_chk hin (ev_bnd (ev_of hg) (ev_bnd (ev_of hg) (ev_chk rfl (ev_bnd (a := 2 * (k : Int) + shiftOf s (i : Int) + 1) (ev_of fun n => rfl) ?_))))))
  dsimp only
  rw [w64 (i : Int) (by omega), up64 (cov + 1) (by omega), show IntKind.i64.wrap ((1 : Int) + 1) = 2 from rfl]
  refine ev_bnd (ev_cast (impl_TileAt_ok H.toRoofT _ _) (tile_in H (by omega) (by omega) ho.2)) (ev_t rfl (ev_bnd (ev_of hg) (ev_bnd (ev_of hg) (ev_t (by rw [w64 (k : Int) (by omega)]; simp) ?_))))
  exact ev_succ (ev_f rfl ev_some)
theorem laps_b4 {w h s : Int} {t : Nat → Int} (H : RoofV w h s t) {M : List V} {L : List (Int × Int)} (j : Nat) (hj : j < L.length) {i k : Nat} (hp : pr L j = ((i : Int), (k : Int))) (hi : (i : Int) < h) (hk : (k : Int) < w) (cov : Int) :
    Ev (fun n => l_laws_FnLaps_b4 n M cov (j : Nat) 0 w h s t (places L) (places (lapR w h s ((i : Int) + 1) (2 * (k : Int) + shiftOf s (i : Int))))) (.inl (M, cov, (j : Int), w, h, s, t, places L)) := by
  have hb := H.b
  have hg : ∀ n : Nat, bnd (nth (places L) ((j : Nat) : Int).toNat) as_Pi8_i8Q = some ((i : Int), (k : Int)) := fun n => by rw [Int.toNat_natCast, nth_prs _ _ _ _ hj, hp]; rfl
  have hin : inB ((j : Nat) : Int) (places L).length = true := inB_k _ _ (by rw [places_length]; exact hj)
  have hlen := (lap_len (w := w) (h := h) (s := s) i k hk ((i : Int) + 1) (.inr rfl)).1
  have hback := lap_back (w := w) (h := h) (s := s) i k hi hk
  generalize lapR w h s ((i : Int) + 1) (2 * (k : Int) + shiftOf s (i : Int)) = B at hlen hback
  have := loop_all (l := fun n q => l_laws_FnLaps_b4 n M cov (j : Nat) (q : Nat) w h s t (places L) (places B)) (p := fun _ => true) (A := .inl (M, cov, (j : Int), w, h, s, t, places L)) (B := .inr false) B.length (ev_f (by simp [prs_length]) ev_some) (by
    intro q hq _ a ih
    obtain ⟨k', e1, e2, e3, e4⟩ := hback _ (pr_mem hq)
    have hgb : ∀ n : Nat, bnd (nth (places B) ((q : Nat) : Int).toNat) as_Pi8_i8Q = some (((i + 1 : Nat) : Int), (k' : Int)) := fun n => by rw [Int.toNat_natCast, nth_prs _ _ _ _ hq, e1]; rfl
    have hl2 := (lap_len (w := w) (h := h) (s := s) (i + 1) k' e3 (((i + 1 : Nat) : Int) - 1) (.inl rfl)).1
    refine ev_t (by simp [prs_length]; omega) (ev_chk (inB_k _ _ (by rw [places_length]; exact hq)) (ev_bnd (ev_of hgb) (ev_bnd (spec_above H (i + 1) k' e2 e3) (ev_t rfl (ev_chk hin (ev_bnd (ev_of hg) (ev_bnd (hasPl_ok _ _ _ (by omega) e4) (ev_t rfl (ev_bnd (ev_of hgb) (ev_bnd (ev_of hgb) (ev_bnd (ev_of hg) (ev_bnd (ev_of hg) (ev_t ?_ ?_)))))))))))))
    · rw [w8 ((i : Int) + 1) (by omega)]; simp
    · rw [up64 q (by omega)]
      exact ih) (by intro q hq h; cases h) B.length 0 (by omega)
  have h2 : allN (fun _ => true) 0 B.length = true := (allN_iff _ _ _).2 fun _ _ _ => rfl
  rw [h2] at this
  exact this
theorem laps_b0 {w h s : Int} {t : Nat → Int} (H : RoofV w h s t) {M : List V} {L : List (Int × Int)} (hL : ∀ j, j < L.length → ∃ i k : Nat, pr L j = ((i : Int), (k : Int)) ∧ (i : Int) < h ∧ (k : Int) < w) (hn : L.length ≤ 64) : Ev (fun n => l_laws_FnLaps_b0 n M 0 0 w h s t (places L)) (.inl (M, ((2 * L.length : Nat) : Int), w, h, s, t)) := by
  have hb := H.b
  have := loop_up (l := fun n j (_ : Unit) => l_laws_FnLaps_b0 n M ((2 * j : Nat) : Int) (j : Nat) w h s t (places L)) (I := fun _ _ => True)
    (P := fun v => v = .inl (M, ((2 * L.length : Nat) : Int), w, h, s, t)) L.length (by
    rintro j _ hj _ ih
    by_cases hlt : j < L.length
    · obtain ⟨i, k, hp, hi, hk⟩ := hL j hlt
      have hsb := shiftOf_b s (i : Int)
      have hg : ∀ n : Nat, bnd (nth (places L) ((j : Nat) : Int).toNat) as_Pi8_i8Q = some ((i : Int), (k : Int)) := fun n => by rw [Int.toNat_natCast, nth_prs _ _ _ _ hlt, hp]; rfl
      have hla := lap_len (w := w) (h := h) (s := s) i k hk ((i : Int) - 1) (.inl rfl)
      have hlb := lap_len (w := w) (h := h) (s := s) i k hk ((i : Int) + 1) (.inr rfl)
      refine tot_t (by simp [prs_length]; omega) (tot_chk (inB_k _ _ (by rw [places_length]; exact hlt)) (tot_ev (ev_of hg) (tot_ev (impl_above H i k hi hk) (tot_ev (ev_of hg) (tot_ev (spec_above H i k hi hk) (tot_ev (ev_of hg) (tot_ev (impl_below H i k hi hk) (tot_ev (ev_of hg) (tot_ev (spec_below H i k hi hk) (tot_ev (ev_of hg) (tot_ev (impl_cells H i k hi hk) (tot_ev (ev_of hg) (tot_ev (spec_cells H i k hi hk) ?_)))))))))))))
      refine tot_t (by simp) (tot_t rfl (tot_ev (samePl_ok _ (by omega)) (tot_t rfl (tot_t (by simp) (tot_t rfl (tot_ev (samePl_ok _ (by omega)) (tot_t rfl (tot_t (by simp) (tot_t rfl (tot_ev (sameNo_ok _ _) (tot_t rfl ?_)))))))))))
      refine tot_t rfl (tot_chk rfl (tot_ev (a := 2 * (k : Int) + shiftOf s (i : Int) + 1) (ev_of fun n => rfl) (tot_chk rfl (tot_ev (a := 2 * (k : Int) + shiftOf s (i : Int)) (ev_of fun n => rfl) (tot_t ?_ (tot_ev (ev_of hg) (tot_ev (ev_of hg) (tot_t ?_ (tot_ev (ev_of hg) (tot_ev (ev_of hg) (tot_t ?_ (tot_f ?_ (tot_f ?_ (tot_ev (laps_b2 H j hlt hp hi hk (2 * j) (by omega) _) (tot_ev (laps_b4 H j hlt hp hi hk _) ?_)))))))))))))))
      · rw [w64 (2 * (k : Int) + shiftOf s (i : Int) + 1) (by omega)]; simp
      · try dsimp only
        rw [beq_iff_eq]
        rw [Bool.eq_iff_iff]
        simp only [decide_eq_true_eq, prs_length]
        rw [show ((((lapR w h s ((i : Int) - 1) (2 * (k : Int) + shiftOf s (i : Int))).length : Nat) : Int) = 0 ↔ (lapR w h s ((i : Int) - 1) (2 * (k : Int) + shiftOf s (i : Int))).length = 0) by omega, hla.2]
        omega
      · try dsimp only
        rw [beq_iff_eq]
        rw [Bool.eq_iff_iff]
        simp only [decide_eq_true_eq, prs_length]
        rw [show ((((lapR w h s ((i : Int) + 1) (2 * (k : Int) + shiftOf s (i : Int))).length : Nat) : Int) = 0 ↔ (lapR w h s ((i : Int) + 1) (2 * (k : Int) + shiftOf s (i : Int))).length = 0) by omega, hlb.2, w8 (h - 1) (by omega)]
        omega
      · simp only [prs_length, decide_eq_false_iff_not]; omega
      · simp only [prs_length, decide_eq_false_iff_not]; omega
      · dsimp only
        rw [up64 j (by omega), show 2 * j + 2 = 2 * (j + 1) by omega]
        exact ih hlt () trivial
    · obtain rfl : j = L.length := by omega
      exact tot_f (by simp [prs_length]) (tot_some rfl)) 0 () (by omega) trivial
  obtain ⟨v, rfl, h1⟩ := this
  exact h1
theorem shifted_ok {w h s : Int} {t : Nat → Int} (H : RoofV w h s t) (c : Int) (hc : 0 ≤ c ∧ c < h) : Ev (fun n => s_impl_IsShifted n w h s t c) (decide (shiftOf s c = 1), 0) := by
  have hb := H.b
  unfold s_impl_IsShifted
  refine ev_bnd (ev_of fun n => isCourse_eq n H.toRoofT c) ?_
  rw [show decide (0 ≤ c ∧ c < h) = true by simpa using hc]
  exact ev_bnd (roofCode_ok H.toRoofT true) (ev_t (by rw [roofC_ok H]; rfl) (ev_bnd (ev_of fun n => shift_eq n c (by omega) (by omega)) ev_some))
def halfN (w σ : Int) (x : Nat) : Nat := if σ = 1 then (if 0 < x then 1 else 0) else (if 2 * w < (x : Int) then 1 else 0)
theorem laps_b8 {w h s : Int} {t : Nat → Int} (H : RoofV w h s t) {M : List V} (cov : Int) (hf : Nat) (hhf : hf ≤ 100) (c : Int) (hc : 0 ≤ c ∧ c < h) :
    Ev (fun n => l_laws_FnLaps_b8 n M cov (hf : Int) c (decide (shiftOf s c = 1)) 0 w h s t) (.inl (M, cov, ((hf + 1 : Nat) : Int), c, w, h, s, t)) := by
  have hb := H.b
  have hsb := shiftOf_b s c
  have := loop_up (l := fun n x (q : Nat) => l_laws_FnLaps_b8 n M cov (q : Int) c (decide (shiftOf s c = 1)) (x : Nat) w h s t) (I := fun x q => q = hf + halfN w (shiftOf s c) x)
    (P := fun v => v = .inl (M, cov, ((hf + 1 : Nat) : Int), c, w, h, s, t)) (2 * w + 1).toNat (by
    rintro x q hx rfl ih
    have hh : halfN w (shiftOf s c) x ≤ 1 := by unfold halfN; split <;> split <;> omega
    by_cases hlt : x < (2 * w + 1).toNat
    · refine tot_t (by rw [w64 w (by omega), w64 (2 * w) (by omega), w64 (2 * w + 1) (by omega)]; simp; omega) (tot_ev (ev_cast (impl_TileAt_ok H.toRoofT _ _) (tile_in H hc (by omega) rfl)) (tot_ev (ev_cast (spec_TileAt_ok H.toRoofT _ _) (tile_in H hc (by omega) rfl)) (tot_t (by simp) (tot_t rfl (tot_t (by simp) ?_)))))
      try dsimp only
      rw [up64 x (by omega), up64 (hf + halfN w (shiftOf s c) x) (by omega)]
      by_cases hm : tileOf w s c (x : Int) < 0
      · have hm2 : ¬ (0 ≤ (x : Int) - shiftOf s c ∧ (x : Int) - shiftOf s c ≤ 2 * w - 1) := by
          intro h
          unfold tileOf at hm
          rw [if_pos h] at hm
          omega
        refine tot_t (by simpa using hm) (tot_t ?_ (ih hlt _ ?_))
        · rw [beq_iff_eq, Bool.eq_iff_iff]
          simp only [decide_eq_true_eq]
          omega
        · unfold halfN
          by_cases h1 : shiftOf s c = 1
          · rw [if_pos h1, if_pos h1, if_neg (by omega), if_pos (by omega)]
          · rw [if_neg h1, if_neg h1, if_neg (by omega), if_pos (by omega)]
      · have hm2 : 0 ≤ (x : Int) - shiftOf s c ∧ (x : Int) - shiftOf s c ≤ 2 * w - 1 := by
          refine Classical.byContradiction fun h => hm ?_
          unfold tileOf
          rw [if_neg h]
          omega
        refine tot_f (by simpa using hm) (ih hlt _ ?_)
        unfold halfN
        by_cases h1 : shiftOf s c = 1
        · rw [if_pos h1, if_pos h1, if_pos (by omega), if_pos (by omega)]
        · rw [if_neg h1, if_neg h1, if_neg (by omega), if_neg (by omega)]
    · obtain rfl : x = (2 * w + 1).toNat := by omega
      refine tot_f (by rw [w64 w (by omega), w64 (2 * w) (by omega), w64 (2 * w + 1) (by omega)]; simp; omega) (tot_some ?_)
      have : halfN w (shiftOf s c) (2 * w + 1).toNat = 1 := by
        unfold halfN
        split
        · rw [if_pos (by omega)]
        · rw [if_pos (by omega)]
      rw [this]) 0 hf (by omega) (by
        unfold halfN
        split
        · simp
        · rw [if_neg (by omega)]; rfl)
  obtain ⟨v, rfl, h1⟩ := this
  exact h1
theorem laps_b6 {w h s : Int} {t : Nat → Int} (H : RoofV w h s t) {M : List V} (cov : Int) : Ev (fun n => l_laws_FnLaps_b6 n M cov 0 0 w h s t) (.inl (M, cov, h, w, h, s, t)) := by
  have hb := H.b
  have := loop_up (l := fun n c (_ : Unit) => l_laws_FnLaps_b6 n M cov (c : Nat) (c : Nat) w h s t) (I := fun _ _ => True)
    (P := fun v => v = .inl (M, cov, h, w, h, s, t)) h.toNat (by
    rintro c _ hc _ ih
    by_cases hlt : c < h.toNat
    · refine tot_t (by rw [w64 h (by omega)]; simp; omega) (tot_ev (shifted_ok H (c : Int) (by omega)) (tot_t rfl (tot_t ?_ (tot_ev (laps_b8 H cov c (by omega) (c : Int) (by omega)) ?_))))
      · rw [w64 s (by omega), w64 ((c : Int) + s) (by omega), Int.tmod_eq_emod_of_nonneg (by omega)]
        unfold shiftOf
        simp
      · dsimp only
        rw [up64 c (by omega)]
        exact ih hlt () trivial
    · obtain rfl : c = h.toNat := by omega
      refine tot_f (by rw [w64 h (by omega)]; simp; omega) (tot_some ?_)
      rw [show ((h.toNat : Nat) : Int) = h by omega]) 0 () (by omega) trivial
  obtain ⟨v, rfl, h1⟩ := this
  exact h1
end Go.Proofs.Ytdhcfdiggcgmhaa
