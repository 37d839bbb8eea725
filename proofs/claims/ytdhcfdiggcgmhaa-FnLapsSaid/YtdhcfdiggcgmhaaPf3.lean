/- Tiles above and below a tile; its cells. -/
import Derived.Test.YtdhcfdiggcgmhaaPf2
namespace Go.Proofs.Ytdhcfdiggcgmhaa
open Go
set_option linter.unusedVariables false
set_option linter.unusedSimpArgs false

/-- one cell more of another course -/
def addT (acc : List (Int × Int)) (c y : Int) : List (Int × Int) := if y = -1 then acc else match acc with
  | [] => [(c, y)]
  | p :: l => if p.2 = y then p :: l else p :: l ++ [(c, y)]
def lapL (w s c f : Int) : List (Int × Int) := addT (addT [] c (tileOf w s c f)) c (tileOf w s c (f + 1))
def lapR (w h s c f : Int) : List (Int × Int) := if 0 ≤ c ∧ c < h then lapL w s c f else []
theorem addT_len (acc : List (Int × Int)) (c y : Int) : (addT acc c y).length ≤ acc.length + 1 := by
  unfold addT
  split
  · omega
  · split
    · simp
    · split <;> simp
theorem eqPl (a b c d : Int) : eqParts [(V.int .i8 a), (V.int .i8 b)] [(V.int .i8 c), (V.int .i8 d)] = (decide (a = c) && decide (b = d)) := by simp [eqParts]
theorem spec_lap_step {w h s : Int} {t : Nat → Int} (H : RoofV w h s t) {c f x : Int} (hc : 0 ≤ c ∧ c < 8) (hf : -100 ≤ f ∧ f ≤ 100) (hx : -100 ≤ x ∧ x ≤ f + 1) (acc : List (Int × Int)) (ha : acc.length ≤ 1) (hq : ∀ p, p ∈ acc → -1 ≤ p.2 ∧ p.2 < 8) {v : List V}
    (ih : Ev (fun n => l_spec_l01Laps_b0 n w h s t c f (x + 1) (places (addT acc c (tileOf w s c x)))) v) : Ev (fun n => l_spec_l01Laps_b0 (n + 1) w h s t c f x (places acc)) v := by
  have hb := H.b
  have ht := tile_b (w := w) (s := s) (c := c) (x := x) (by omega)
  refine ev_t (by rw [w64 (f + 1) (by omega)]; simp; omega) ?_
  rw [w64 c (by omega), w64 (x + 1) (by omega)]
  refine ev_bnd (ev_of fun n => l01Tile_eq n c x (by omega) (by omega) (by omega) (by omega)) ?_
  rw [w8 (tileOf w s c x) (by omega)]
  unfold addT at ih
  by_cases h1 : tileOf w s c x = -1
  · rw [if_pos h1] at ih
    exact ev_f (by simp; omega) ih
  · rw [if_neg h1] at ih
    refine ev_t (by simp; omega) ?_
    match acc, ha, hq, ih with
    | [], ha, hq, ih =>
      exact ev_t rfl (ev_chk rfl ih)
    | [p], ha, hq, ih =>
      have hp := hq p (List.mem_cons_self ..)
      dsimp only at ih
      refine ev_f rfl (ev_chk rfl (ev_bnd (a := (p.1, p.2)) (ev_of fun n => rfl) (ev_bnd (a := (p.1, p.2)) (ev_of fun n => rfl) ?_)))
      dsimp only
      rw [w64 p.2 (by omega)]
      by_cases h2 : p.2 = tileOf w s c x
      · rw [if_pos h2] at ih
        exact ev_t (by simpa using h2) ih
      · rw [if_neg h2] at ih
        exact ev_f (by simpa using h2) (ev_chk rfl ih)
theorem lap_q {w s c f : Int} (hw : 1 ≤ w ∧ w ≤ 8) : ∀ p, p ∈ addT [] c (tileOf w s c f) → -1 ≤ p.2 ∧ p.2 < 8 := by
  intro p hp
  have ht := tile_b (w := w) (s := s) (c := c) (x := f) (by omega)
  unfold addT at hp
  split at hp
  · cases hp
  · simp only [List.mem_singleton] at hp
    subst hp
    dsimp only
    omega
theorem spec_laps {w h s : Int} {t : Nat → Int} (H : RoofV w h s t) {c f : Int} (hc : 0 ≤ c ∧ c < 8) (hf : -90 ≤ f ∧ f ≤ 90) : Ev (fun n => l_spec_l01Laps_b0 n w h s t c f f []) (places (lapL w s c f)) := by
  have hb := H.b
  refine ev_succ (spec_lap_step H (acc := []) hc (by omega) (by omega) (by simp) (fun p hp => by cases hp) (ev_succ (spec_lap_step H hc (by omega) (by omega) _ (addT_len ..) (lap_q (by omega)) (ev_succ ?_))))
  refine ev_f (by rw [w64 (f + 1) (by omega)]; simp; omega) ev_some
theorem impl_has1 (acc : List (Int × Int)) (ha : acc.length ≤ 1) (c y : Int) (hc : ∀ p, p ∈ acc → p.1 = c) : Ev (fun n => s_slices_Contains_Simpl_Place_impl_Place n (places acc) c y) (decide (∃ p, p ∈ acc ∧ p.2 = y)) := by
  unfold s_slices_Contains_Simpl_Place_impl_Place s_slices_Index_Simpl_Place_impl_Place
  match acc, ha, hc with
  | [], ha, hc =>
    refine ev_bnd (a := -1) (ev_bnd (a := Sum.inl ()) (ev_succ (ev_f rfl ev_some)) ev_some) (ev_cast ev_some ?_)
    simp
  | [p], ha, hc =>
    have h1 := hc p (List.mem_cons_self ..)
    by_cases h2 : p.2 = y
    · refine ev_bnd (a := 0) (ev_bnd (a := Sum.inr 0) (ev_succ (ev_t rfl (ev_bnd (a := (p.1, p.2)) (ev_of fun n => rfl) ?_))) ev_some) (ev_cast ev_some ?_)
      · dsimp only
        rw [eqPl]
        exact ev_t (by simp; omega) ev_some
      · simp [h2]
    · refine ev_bnd (a := -1) (ev_bnd (a := Sum.inl ()) (ev_succ (ev_t rfl (ev_bnd (a := (p.1, p.2)) (ev_of fun n => rfl) ?_))) ev_some) (ev_cast ev_some ?_)
      · dsimp only
        rw [eqPl]
        exact ev_f (by simp; omega) (ev_succ (ev_f rfl ev_some))
      · simp [h2]
theorem addT_impl {acc : List (Int × Int)} (ha : acc.length ≤ 1) {c y : Int} (h1 : y ≠ -1) : addT acc c y = if (∃ p, p ∈ acc ∧ p.2 = y) then acc else acc ++ [(c, y)] := by
  unfold addT
  rw [if_neg h1]
  match acc, ha with
  | [], ha => simp
  | [p], ha => simp
theorem impl_lap_step {w h s : Int} {t : Nat → Int} (H : RoofV w h s t) {c x : Int} (hc : 0 ≤ c ∧ c < 8) (hx : -100 ≤ x ∧ x ≤ 100) {L : List V} {j : Nat} (hj : j < 2) (hg : nth L j = some (V.int .i64 x)) (hL : L.length = 2) (acc : List (Int × Int)) (ha : acc.length ≤ 1) (hq : ∀ p, p ∈ acc → p.1 = c) {v : List V}
    (ih : Ev (fun n => l_impl_Roof_lapped_b0 n c 2 ((j + 1 : Nat) : Int) w h s t (places (addT acc c (tileOf w s c x))) L) v) : Ev (fun n => l_impl_Roof_lapped_b0 (n + 1) c 2 (j : Nat) w h s t (places acc) L) v := by
  have hb := H.b
  have ht := tile_b (w := w) (s := s) (c := c) (x := x) (by omega)
  refine ev_t (by simp; omega) (ev_chk (inB_k _ _ (by omega)) (ev_bnd (a := x) (ev_of fun n => by rw [Int.toNat_natCast, hg]; rfl) (ev_bnd (ev_of fun n => tileAt_eq n c x (by omega) (by omega) (by omega) (by omega)) ?_)))
  rw [up64 j (by omega), w8 c (by omega), w8 (tileOf w s c x) (by omega)]
  by_cases h1 : tileOf w s c x = -1
  · unfold addT at ih
    rw [if_pos h1] at ih
    exact ev_t (by simpa using h1) ih
  · rw [addT_impl ha h1] at ih
    refine ev_f (by simpa using h1) (ev_bnd (impl_has1 acc ha c _ hq) ?_)
    by_cases h2 : ∃ p, p ∈ acc ∧ p.2 = tileOf w s c x
    · rw [if_pos h2] at ih
      exact ev_t (by simpa using h2) ih
    · rw [if_neg h2] at ih
      refine ev_f (by simpa using h2) (ev_chk (by simp [prs_length]; omega) ?_)
      rw [places_one, ← prs_app]
      exact ih
theorem lap_c {w s c f : Int} : ∀ p, p ∈ addT [] c (tileOf w s c f) → p.1 = c := by
  intro p hp
  unfold addT at hp
  split at hp
  · cases hp
  · simp only [List.mem_singleton] at hp
    rw [hp]
theorem cellsOf_ok {w h s : Int} {t : Nat → Int} (i p : Nat) (hs : 0 ≤ s ∧ s ≤ 1) (hi : i < 8) (hp : p < 8) (n : Nat) : s_impl_Roof_cellsOf n w h s t i p = some [(V.int .i64 (2 * (p : Int) + shiftOf s (i : Int))), (V.int .i64 (2 * (p : Int) + shiftOf s (i : Int) + 1))] := by
  have := shiftOf_b s (i : Int)
  unfold s_impl_Roof_cellsOf
  rw [w64 (i : Int) (by omega), w64 (p : Int) (by omega), shift_eq n _ hs (by omega), bnd_s, w64 (2 * (p : Int)) (by omega), w64 _ (by omega), w64 _ (by omega)]
theorem lapped_ok {w h s : Int} {t : Nat → Int} (H : RoofV w h s t) (i k : Nat) (hi : (i : Int) < h) (hk : (k : Int) < w) {c : Int} (hc : -1 ≤ c ∧ c ≤ 8) : Ev (fun n => s_impl_Roof_lapped n w h s t i k c) (places (lapR w h s c (2 * (k : Int) + shiftOf s (i : Int)))) := by
  have hb := H.b
  have := shiftOf_b s (i : Int)
  unfold s_impl_Roof_lapped lapR
  refine ev_bnd (ev_of fun n => isCourse_eq n H.toRoofT c) ?_
  by_cases h1 : 0 ≤ c ∧ c < h
  · rw [if_pos h1]
    refine ev_t (by simpa using h1) (ev_bnd (ev_of fun n => cellsOf_ok i k (by omega) (by omega) (by omega) n) (ev_bnd ?_ ev_some))
    refine ev_succ (impl_lap_step (acc := []) H (j := 0) (by omega) (x := 2 * (k : Int) + shiftOf s (i : Int)) (by omega) (by omega) rfl rfl (by simp) (fun p hp => by cases hp) (ev_succ (impl_lap_step H (j := 1) (by omega) (x := 2 * (k : Int) + shiftOf s (i : Int) + 1) (by omega) (by omega) rfl rfl _ (addT_len ..) lap_c (ev_succ ?_))))
    exact ev_f rfl ev_some
  · rw [if_neg h1]
    exact ev_f (by simpa using h1) ev_some
theorem l01Laps_ok {w h s : Int} {t : Nat → Int} (H : RoofV w h s t) (i k : Nat) (hi : (i : Int) < h) (hk : (k : Int) < w) {by' : Int} (hby : -1 ≤ by' ∧ by' ≤ 1) : Ev (fun n => s_spec_l01Laps n w h s t i k by') (places (lapR w h s ((i : Int) + by') (2 * (k : Int) + shiftOf s (i : Int)))) := by
  have hb := H.b
  have := shiftOf_b s (i : Int)
  unfold s_spec_l01Laps lapR
  rw [w8 ((i : Int) + by') (by omega), w64 ((i : Int) + by') (by omega)]
  refine ev_bnd (ev_of fun n => l01Course_eq n H.toRoofT _) ?_
  by_cases h1 : 0 ≤ (i : Int) + by' ∧ (i : Int) + by' < h
  · rw [if_pos h1]
    exact ev_t (by simpa using h1) (ev_bnd (ev_of fun n => l01First_eq n i k (by omega) (by omega) (by omega)) (ev_bnd (spec_laps H (by omega) (by omega)) ev_some))
  · rw [if_neg h1]
    exact ev_f (by simpa using h1) ev_some
theorem has_ik {w h s : Int} {t : Nat → Int} (H : RoofV w h s t) (i k : Nat) (hi : (i : Int) < h) (hk : (k : Int) < w) : Ev (fun n => s_impl_Roof_has n w h s t i k) true := by
  refine ev_cast (has_ok (i : Int) (k : Int)) ?_
  rw [has_is H]
  simp [isQ]; omega
theorem roofC_ok {w h s : Int} {t : Nat → Int} (H : RoofV w h s t) : roofC w h s t true = 0 := by unfold roofC; rw [H.ok]; rfl
theorem Asked_ik {w h s : Int} {t : Nat → Int} (H : RoofV w h s t) (i k : Nat) (hi : (i : Int) < h) (hk : (k : Int) < w) : Ev (fun n => s_spec_l01Asked n w h s t i k true) 0 := by
  have hb := H.b
  unfold s_spec_l01Asked
  refine ev_bnd (l01Ok_ok H.toRoofT) (ev_t H.ok (ev_bnd (ev_of fun n => l01Is_eq n _ _ H.toRoofT (by omega) (by omega)) (ev_t (by simp; omega) (ev_t rfl ev_some))))
theorem impl_above {w h s : Int} {t : Nat → Int} (H : RoofV w h s t) (i k : Nat) (hi : (i : Int) < h) (hk : (k : Int) < w) : Ev (fun n => s_impl_AboveOf n w h s t i k) (places (lapR w h s ((i : Int) - 1) (2 * (k : Int) + shiftOf s (i : Int))), 0) := by
  have hb := H.b
  unfold s_impl_AboveOf
  rw [w64 (i : Int) (by omega), w64 ((i : Int) - 1) (by omega)]
  exact ev_bnd (has_ik H i k hi hk) (ev_bnd (roofCode_ok H.toRoofT true) (ev_t (by rw [roofC_ok H]; rfl) (ev_bnd (lapped_ok H i k hi hk (by omega)) ev_some)))
theorem spec_above {w h s : Int} {t : Nat → Int} (H : RoofV w h s t) (i k : Nat) (hi : (i : Int) < h) (hk : (k : Int) < w) : Ev (fun n => s_spec_AboveOf n w h s t i k) (places (lapR w h s ((i : Int) - 1) (2 * (k : Int) + shiftOf s (i : Int))), 0) := by
  unfold s_spec_AboveOf
  exact ev_bnd (Asked_ik H i k hi hk) (ev_t rfl (ev_bnd (l01Laps_ok H i k hi hk (by omega)) (ev_chk (plain_places _ _) ev_some)))
theorem impl_below {w h s : Int} {t : Nat → Int} (H : RoofV w h s t) (i k : Nat) (hi : (i : Int) < h) (hk : (k : Int) < w) : Ev (fun n => s_impl_BelowOf n w h s t i k) (places (lapR w h s ((i : Int) + 1) (2 * (k : Int) + shiftOf s (i : Int))), 0) := by
  have hb := H.b
  unfold s_impl_BelowOf
  rw [w64 (i : Int) (by omega), w64 ((i : Int) + 1) (by omega)]
  exact ev_bnd (has_ik H i k hi hk) (ev_bnd (roofCode_ok H.toRoofT true) (ev_t (by rw [roofC_ok H]; rfl) (ev_bnd (lapped_ok H i k hi hk (by omega)) ev_some)))
theorem spec_below {w h s : Int} {t : Nat → Int} (H : RoofV w h s t) (i k : Nat) (hi : (i : Int) < h) (hk : (k : Int) < w) : Ev (fun n => s_spec_BelowOf n w h s t i k) (places (lapR w h s ((i : Int) + 1) (2 * (k : Int) + shiftOf s (i : Int))), 0) := by
  unfold s_spec_BelowOf
  exact ev_bnd (Asked_ik H i k hi hk) (ev_t rfl (ev_bnd (l01Laps_ok H i k hi hk (by omega)) (ev_chk (plain_places _ _) ev_some)))
theorem impl_cells {w h s : Int} {t : Nat → Int} (H : RoofV w h s t) (i k : Nat) (hi : (i : Int) < h) (hk : (k : Int) < w) : Ev (fun n => s_impl_CellsOf n w h s t i k) (ints .i64 [2 * (k : Int) + shiftOf s (i : Int), 2 * (k : Int) + shiftOf s (i : Int) + 1], 0) := by
  have hb := H.b
  unfold s_impl_CellsOf
  refine ev_bnd (has_ik H i k hi hk) (ev_bnd (roofCode_ok H.toRoofT true) (ev_t (by rw [roofC_ok H]; rfl) (ev_bnd (ev_of fun n => cellsOf_ok i k (by omega) (by omega) (by omega) n) (ev_bnd (a := ints .i64 [2 * (k : Int) + shiftOf s (i : Int), 2 * (k : Int) + shiftOf s (i : Int) + 1]) ?_ (ev_chk (plain_fresh _ _ _) ev_some)))))
  unfold s_impl_each_int_int64__wide
  refine ev_bnd ?_ ev_some
  refine ev_succ (ev_t rfl (ev_bnd (a := 2 * (k : Int) + shiftOf s (i : Int)) (ev_of fun n => rfl) (ev_bnd (ev_of fun n => rfl) (ev_chk rfl (ev_succ (ev_t rfl (ev_bnd (a := 2 * (k : Int) + shiftOf s (i : Int) + 1) (ev_of fun n => rfl) (ev_bnd (ev_of fun n => rfl) (ev_chk rfl (ev_succ (ev_f rfl ev_some)))))))))))
theorem spec_cells {w h s : Int} {t : Nat → Int} (H : RoofV w h s t) (i k : Nat) (hi : (i : Int) < h) (hk : (k : Int) < w) : Ev (fun n => s_spec_CellsOf n w h s t i k) (ints .i64 [2 * (k : Int) + shiftOf s (i : Int), 2 * (k : Int) + shiftOf s (i : Int) + 1], 0) := by
  have hb := H.b
  have := shiftOf_b s (i : Int)
  unfold s_spec_CellsOf
  refine ev_bnd (Asked_ik H i k hi hk) (ev_t rfl (ev_bnd (ev_of fun n => l01First_eq n i k (by omega) (by omega) (by omega)) ?_))
  rw [w64 (2 * (k : Int) + shiftOf s (i : Int) + 1) (by omega)]
  exact ev_some
end Go.Proofs.Ytdhcfdiggcgmhaa
