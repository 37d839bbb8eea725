/- Tiles, sums of rain, even rain. -/
import Derived.Test.YtkfihbdikdkcmaaPa1
namespace Go.Proofs.Ytkfihbdikdkcmaa
open Go
set_option linter.unusedVariables false
set_option linter.unusedSimpArgs false

def roofC (w h s : Int) (t : Nat → Int) (b : Bool) : Int := sel (roofOk w h s t) (sel b 0 2) 1
theorem l01Told_ok {w h s : Int} {t : Nat → Int} (H : RoofT w h s t) (b : Bool) : Ev (fun n => s_spec_l01Told n w h s t b) (roofC w h s t b) := by
  unfold s_spec_l01Told roofC
  refine ev_bnd (l01Ok_ok H) ?_
  cases roofOk w h s t <;> cases b <;> exact ev_some
theorem roofCode_ok {w h s : Int} {t : Nat → Int} (H : RoofT w h s t) (b : Bool) : Ev (fun n => s_impl_roofCode n w h s t b) (roofC w h s t b) := by
  unfold s_impl_roofCode roofC
  refine ev_bnd (ValidRoof_ok H) ?_
  cases roofOk w h s t <;> cases b <;> exact ev_some
theorem roofOk_b {w h s : Int} {t : Nat → Int} (h1 : roofOk w h s t = true) : 1 ≤ w ∧ w ≤ 8 ∧ 1 ≤ h ∧ h ≤ 8 ∧ s ≤ 1 := by
  simp only [roofOk, Bool.and_eq_true, decide_eq_true_eq] at h1; exact h1.1
theorem roofOk_t {w h s : Int} {t : Nat → Int} (h1 : roofOk w h s t = true) (i k : Nat) (hi : i < 8) (hk : k < 8) : t (i * 8 + k) ≤ 3 ∧ (t (i * 8 + k) = 0 ∨ (i : Int) < h ∧ (k : Int) < w) := by
  simp only [roofOk, Bool.and_eq_true, decide_eq_true_eq] at h1
  have h2 := (allN_iff _ 8 0).1 h1.2 i (by omega) (by omega)
  have h3 := (allN_iff _ 8 0).1 h2 k (by omega) (by omega)
  simpa [cellOk] using h3
/-- a valid roof -/
structure RoofV (w h s : Int) (t : Nat → Int) : Prop extends RoofT w h s t where
  ok : roofOk w h s t = true
theorem RoofV.b {w h s : Int} {t : Nat → Int} (H : RoofV w h s t) : 1 ≤ w ∧ w ≤ 8 ∧ 1 ≤ h ∧ h ≤ 8 ∧ 0 ≤ s ∧ s ≤ 1 := by
  have := roofOk_b H.ok; have := H.bs; omega

def shiftOf (s c : Int) : Int := (c + s) % 2
theorem l01By_eq (n : Nat) {w h s : Int} {t : Nat → Int} (c : Int) (hs : 0 ≤ s ∧ s ≤ 1) (hc : 0 ≤ c ∧ c ≤ 1000000) : s_spec_l01By n w h s t c = some (shiftOf s c) := by
  unfold s_spec_l01By shiftOf
  rw [w64 s (by omega), w64 _ (by omega), Int.tmod_eq_emod_of_nonneg (by omega)]
theorem shift_eq (n : Nat) {w h s : Int} {t : Nat → Int} (c : Int) (hs : 0 ≤ s ∧ s ≤ 1) (hc : 0 ≤ c ∧ c ≤ 1000000) : s_impl_Roof_shift n w h s t c = some (shiftOf s c) := by
  unfold s_impl_Roof_shift shiftOf
  rw [w64 s (by omega), w64 _ (by omega), Int.tmod_eq_emod_of_nonneg (by omega)]
def tileOf (w s c x : Int) : Int := if 0 ≤ x - shiftOf s c ∧ x - shiftOf s c ≤ 2 * w - 1 then (x - shiftOf s c) / 2 else -1
theorem shiftOf_b (s c : Int) : 0 ≤ shiftOf s c ∧ shiftOf s c ≤ 1 := by unfold shiftOf; omega
theorem tile_b {w s c x : Int} (hw : 1 ≤ w) : -1 ≤ tileOf w s c x ∧ tileOf w s c x < w := by
  unfold tileOf; split <;> omega
theorem l01Tile_eq (n : Nat) {w h s : Int} {t : Nat → Int} (c x : Int) (hw : 1 ≤ w ∧ w ≤ 8) (hs : 0 ≤ s ∧ s ≤ 1) (hc : 0 ≤ c ∧ c ≤ 1000000) (hx : -1000000 ≤ x ∧ x ≤ 1000000) :
    s_spec_l01Tile n w h s t c x = some (tileOf w s c x) := by
  have hb := shiftOf_b s c
  unfold s_spec_l01Tile
  rw [l01By_eq n c hs hc, bnd_s]
  rw [w64 w (by omega), w64 (x - _) (by omega)]
  unfold tileOf
  by_cases h1 : x - shiftOf s c < 0
  · rw [decide_eq_true h1, cnd_t, if_neg (by omega)]
  · rw [decide_eq_false h1, cnd_f, Int.tdiv_eq_ediv_of_nonneg (by omega), w64 _ (by omega)]
    by_cases h2 : w ≤ (x - shiftOf s c) / 2
    · rw [decide_eq_true h2, cnd_t, if_neg (by omega)]
    · rw [decide_eq_false h2, cnd_f, if_pos (by omega)]
theorem within_int (n : Nat) (a b c : Int) : s_impl_within_int n a b c = some (decide (b ≤ a) && decide (a ≤ c)) := by
  unfold s_impl_within_int; rw [cnd_and]
theorem tileAt_eq (n : Nat) {w h s : Int} {t : Nat → Int} (c x : Int) (hw : 1 ≤ w ∧ w ≤ 8) (hs : 0 ≤ s ∧ s ≤ 1) (hc : 0 ≤ c ∧ c ≤ 1000000) (hx : -1000000 ≤ x ∧ x ≤ 1000000) :
    s_impl_Roof_tileAt n w h s t c x = some (tileOf w s c x) := by
  have hb := shiftOf_b s c
  unfold s_impl_Roof_tileAt
  rw [shift_eq n c hs hc, bnd_s, within_int, bnd_s]
  rw [w64 w (by omega), w64 (x - _) (by omega), w64 (2 * w) (by omega), w64 (2 * w - 1) (by omega)]
  unfold tileOf
  by_cases h1 : 0 ≤ x - shiftOf s c ∧ x - shiftOf s c ≤ 2 * w - 1
  · rw [decide_eq_true h1.1, decide_eq_true h1.2, Bool.and_self, cnd_t, if_pos h1, Int.tdiv_eq_ediv_of_nonneg (by omega), w64 _ (by omega)]
  · rw [if_neg h1, show (decide (0 ≤ x - shiftOf s c) && decide (x - shiftOf s c ≤ 2 * w - 1)) = false by simp; omega, cnd_f]
theorem l01Course_eq (n : Nat) {w h s : Int} {t : Nat → Int} (H : RoofT w h s t) (c : Int) : s_spec_l01Course n w h s t c = some (decide (0 ≤ c ∧ c < h)) := by
  have := H.bh
  unfold s_spec_l01Course
  simp (disch := omega) only [l00In_eq, bnd_s, w64]
  congr 1; rw [Bool.eq_iff_iff]; simp; omega
theorem isCourse_eq (n : Nat) {w h s : Int} {t : Nat → Int} (H : RoofT w h s t) (c : Int) : s_impl_Roof_isCourse n w h s t c = some (decide (0 ≤ c ∧ c < h)) := by
  have := H.bh
  unfold s_impl_Roof_isCourse
  simp (disch := omega) only [within_i64, bnd_s, w64]
  congr 1; rw [Bool.eq_iff_iff]; simp; omega
def tileAnswer (w h s : Int) (t : Nat → Int) (c x : Int) : Int × Int :=
  if roofOk w h s t = true then (if 0 ≤ c ∧ c < h ∧ 0 ≤ x ∧ x < 2 * w + 1 then (tileOf w s c x, 0) else (0, 2)) else (0, 1)
theorem spec_TileAt_ok {w h s : Int} {t : Nat → Int} (H : RoofT w h s t) (c x : Int) : Ev (fun n => s_spec_TileAt n w h s t c x) (tileAnswer w h s t c x) := by
  have hw := H.bw
  unfold s_spec_TileAt tileAnswer
  refine ev_bnd (ev_of fun n => l01Course_eq n H c) (ev_bnd (l01Told_ok H _) ?_)
  unfold roofC
  cases hok : roofOk w h s t with
  | false => exact ev_f rfl ev_some
  | true =>
    have hb := RoofV.b ⟨H, hok⟩
    by_cases h1 : 0 ≤ c ∧ c < h
    · rw [decide_eq_true h1]
      refine ev_t rfl (ev_bnd (ev_of fun n => l01Cells_eq n H) (ev_bnd (ev_of fun n => l00In_eq n _ _ _) ?_))
      rw [w64 _ (by omega)]
      by_cases h2 : 0 ≤ x ∧ x < 2 * w + 1
      · refine ev_t (by simp; omega) (ev_bnd (ev_of fun n => l01Tile_eq n c x (by omega) (by omega) (by omega) (by omega)) ?_)
        rw [if_pos rfl, if_pos (by omega)]; exact ev_some
      · refine ev_f (by simp; omega) ?_
        rw [if_pos rfl, if_neg (by omega)]; exact ev_some
    · rw [decide_eq_false h1]
      refine ev_f rfl ?_
      rw [if_pos rfl, if_neg (by omega)]; exact ev_some
theorem impl_TileAt_ok {w h s : Int} {t : Nat → Int} (H : RoofT w h s t) (c x : Int) : Ev (fun n => s_impl_TileAt n w h s t c x) (tileAnswer w h s t c x) := by
  have hw := H.bw
  unfold s_impl_TileAt tileAnswer
  refine ev_bnd (ev_of fun n => isCourse_eq n H c) ?_
  by_cases h1 : 0 ≤ c ∧ c < h
  · refine ev_t (decide_eq_true h1) (ev_bnd (ev_of fun n => cells_eq n H) (ev_bnd (ev_of fun n => within_i64 n _ _ _) (ev_bnd (roofCode_ok H _) ?_)))
    rw [w64 _ (by omega)]
    unfold roofC
    cases hok : roofOk w h s t with
    | false => exact ev_f rfl ev_some
    | true =>
      have hb := RoofV.b ⟨H, hok⟩
      by_cases h2 : 0 ≤ x ∧ x < 2 * w + 1
      · rw [show (decide (0 ≤ x) && decide (x ≤ 2 * w + 1 - 1)) = true by simp; omega]
        refine ev_t rfl (ev_bnd (ev_of fun n => tileAt_eq n c x (by omega) (by omega) (by omega) (by omega)) ?_)
        rw [if_pos rfl, if_pos (by omega)]; exact ev_some
      · rw [show (decide (0 ≤ x) && decide (x ≤ 2 * w + 1 - 1)) = false by simp; omega]
        refine ev_f rfl ?_
        rw [if_pos rfl, if_neg (by omega)]; exact ev_some
  · refine ev_f (decide_eq_false h1) (ev_bnd (roofCode_ok H _) ?_)
    unfold roofC
    cases hok : roofOk w h s t with
    | false => exact ev_f rfl ev_some
    | true => refine ev_f rfl ?_
              rw [if_pos rfl, if_neg (by omega)]; exact ev_some
theorem law_FnExactTileAt {w h s c x : Int} {t : Nat → Int} (hw : (Lit.int .i8 w).wf = true) (hh : (Lit.int .i8 h).wf = true) (hs : (Lit.int .u8 s).wf = true) (ht : ∀ j, j < 64 → (Lit.int .u8 (t j)).wf = true)
    (hc : (Lit.int .i64 c).wf = true) (hx : (Lit.int .i64 x).wf = true) : Ev (fun n => s_laws_FnExactTileAt n w h s t c x) true := by
  unfold s_laws_FnExactTileAt
  obtain ⟨t', e1, e2⟩ := toRoof_ok w h s t
  have H' := (RoofT.mk' hw hh hs ht).like e1
  exact ev_bnd e2 (ev_bnd (spec_TileAt_ok H' c x) (ev_bnd e2 (ev_bnd (impl_TileAt_ok H' c x) (ev_t (by simp) (ev_t (by simp) ev_some)))))

/-! ### Lists of numbers -/
def ints (k : IntKind) (l : List Int) : List V := l.map (V.int k)
theorem ints_length (k : IntKind) (l : List Int) : (ints k l).length = l.length := List.length_map ..
theorem nth_get {α : Type} : ∀ (l : List α) (i : Nat), nth l i = l[i]?
  | [], i => by simp [nth]
  | x :: l, 0 => by simp [nth]
  | x :: l, i + 1 => by simp [nth, nth_get l i]
theorem idx_nat (xs : List V) (i : Nat) : idx xs (i : Int) = xs[i]? := by
  unfold idx
  rw [decide_eq_true (Int.natCast_nonneg i)]
  simp only [Int.toNat_natCast, nth_get]
theorem idx_ints (k : IntKind) (l : List Int) (i : Nat) (h : i < l.length) : idx (ints k l) (i : Int) = some (V.int k l[i]) := by
  rw [idx_nat, ints, List.getElem?_map, List.getElem?_eq_getElem h]; rfl
theorem elems1 (c : Nat → Int) (k : IntKind) (rel n : Nat) : elems c k rel 1 n = ints k ((List.range' 0 n).map fun i => c (rel + i)) := by
  show ((List.range n).map fun i => V.int k (c (rel + i))) = _
  unfold ints
  simp only [List.range_eq_range', List.map_map]; rfl
theorem sum_abs (B : Int) (hB : 0 ≤ B) : ∀ (l : List Int), (∀ x, x ∈ l → -B ≤ x ∧ x ≤ B) → -(B * l.length) ≤ l.sum ∧ l.sum ≤ B * l.length
  | [], _ => by simp
  | x :: l, h => by
    have h1 := h x (by simp)
    have h2 := sum_abs B hB l (fun y hy => h y (by simp [hy]))
    simp only [List.sum_cons, List.length_cons]
    have : B * ((l.length + 1 : Nat) : Int) = B * (l.length : Int) + B := by rw [Int.natCast_add, Int.mul_add]; simp
    omega
theorem sum_take_succ (l : List Int) (k : Nat) (h : k < l.length) : (l.take (k + 1)).sum = (l.take k).sum + l[k] := by
  rw [List.take_succ_eq_append_getElem h, List.sum_append]; simp
theorem take_abs (B : Int) (hB : 0 ≤ B) (l : List Int) (h : ∀ x, x ∈ l → -B ≤ x ∧ x ≤ B) (k : Nat) (hk : k ≤ l.length) : -(B * l.length) ≤ (l.take k).sum ∧ (l.take k).sum ≤ B * l.length := by
  have h1 := sum_abs B hB (l.take k) (fun x hx => h x (List.mem_of_mem_take hx))
  rw [List.length_take, Nat.min_eq_left hk] at h1
  have : B * (k : Int) ≤ B * (l.length : Int) := Int.mul_le_mul_of_nonneg_left (by omega) hB
  omega
theorem sum16_ok (l : List Int) (h : ∀ x, x ∈ l → -32768 ≤ x ∧ x ≤ 32767) (hl : l.length ≤ 1000000) : Ev (fun n => s_impl_sum_int16 n (ints .i16 l)) l.sum := by
  unfold s_impl_sum_int16
  rw [ints_length]
  have ha := fun k hk => take_abs 32768 (by omega) l (fun x hx => by have := h x hx; omega) k hk
  obtain ⟨r, hr, h1⟩ := loop_up (l := fun n k (s : Int) => l_impl_sum_int16_b0 n s (ints .i16 l) l.length k) (I := fun k s => s = (l.take k).sum) (P := fun r => r = l.sum) l.length (by
    intro k s hk hs ih
    by_cases hlt : k < l.length
    · refine tot_t (by simp; omega) (tot_ev (a := l[k]) (ev_of fun n => by rw [idx_ints _ _ _ hlt]; rfl) ?_)
      have h1 := h l[k] (List.getElem_mem hlt)
      have h2 := ha k (by omega)
      rw [w64 l[k] (by omega), w64 _ (by omega), up64 k (by omega)]
      exact ih hlt _ (by rw [sum_take_succ l k hlt, hs])
    · obtain rfl : k = l.length := by omega
      refine tot_f (by simp) (tot_some ?_)
      rw [hs, List.take_length]) 0 0 (by omega) (by simp)
  subst hr
  exact ev_bnd h1 ev_some
theorem range_sum_succ (f : Nat → Int) (k : Nat) : ((List.range' 0 (k + 1)).map f).sum = ((List.range' 0 k).map f).sum + f k := by
  rw [List.range'_concat]; simp
theorem spec_RainSum_b0 {r : Nat → Int} (R : RainT r) : Ev (fun n => l_spec_RainSum_b0 n 0 0 r) ((List.range' 0 17).map r).sum := by
  obtain ⟨v, hv, h1⟩ := loop_up (l := fun n k (s : Int) => l_spec_RainSum_b0 n s (k : Nat) r) (I := fun k s => s = ((List.range' 0 k).map r).sum ∧ -(32768 * k) ≤ s ∧ s ≤ 32768 * k) (P := fun v => v = ((List.range' 0 17).map r).sum) 17 (by
    intro k s hk hs ih
    by_cases hlt : k < 17
    · refine tot_t (by simp; omega) (tot_chk (inB_k _ _ hlt) ?_)
      have h1 := R k hlt
      have e1 : 0 + (k : Int).toNat * 1 = k := by simp
      rw [e1, w64 (r k) (by omega), w64 _ (by omega), up64 k (by omega)]
      exact ih hlt _ ⟨by rw [range_sum_succ, hs.1], by omega, by omega⟩
    · obtain rfl : k = 17 := by omega
      exact tot_f (by simp) (tot_some hs.1)) 0 0 (by omega) ⟨by simp, by omega, by omega⟩
  subst hv
  exact h1
def sumAnswer (w h s : Int) (t r : Nat → Int) : Int × Int := sel (rainOk w h s t r) (((List.range' 0 17).map r).sum, 0) (0, 1)
theorem spec_RainSum_ok {w h s : Int} {t r : Nat → Int} (H : RoofT w h s t) (R : RainT r) : Ev (fun n => s_spec_RainSum n w h s t r) (sumAnswer w h s t r) := by
  unfold s_spec_RainSum sumAnswer
  refine ev_bnd (l02Ok_ok H R) ?_
  cases rainOk w h s t r with
  | false => exact ev_f rfl ev_some
  | true => exact ev_t rfl (ev_bnd (spec_RainSum_b0 R) ev_some)
theorem impl_RainSum_ok {w h s : Int} {t r : Nat → Int} (H : RoofT w h s t) (R : RainT r) : Ev (fun n => s_impl_RainSum n w h s t r) (sumAnswer w h s t r) := by
  unfold s_impl_RainSum sumAnswer
  refine ev_bnd (ValidRain_ok H R) ?_
  cases rainOk w h s t r with
  | false => exact ev_f rfl ev_some
  | true =>
    refine ev_t rfl (ev_bnd (a := ((List.range' 0 17).map r).sum) ?_ ev_some)
    rw [elems1]
    simp only [Nat.zero_add]
    refine sum16_ok _ ?_ (by simp)
    intro x hx
    obtain ⟨j, hj, rfl⟩ := List.mem_map.1 hx
    exact R j (by simp at hj; omega)
theorem law_FnExactRainSum {w h s : Int} {t r : Nat → Int} (hw : (Lit.int .i8 w).wf = true) (hh : (Lit.int .i8 h).wf = true) (hs : (Lit.int .u8 s).wf = true) (ht : ∀ j, j < 64 → (Lit.int .u8 (t j)).wf = true)
    (hr : ∀ j, j < 17 → (Lit.int .i16 (r j)).wf = true) : Ev (fun n => s_laws_FnExactRainSum n w h s t r) true := by
  unfold s_laws_FnExactRainSum
  obtain ⟨t', e1, e2⟩ := toRoof_ok w h s t
  obtain ⟨r', e3, e4⟩ := toRain_ok r
  have H' := (RoofT.mk' hw hh hs ht).like e1
  have R' := (RainT.mk' hr).like e3
  exact ev_bnd e2 (ev_bnd e4 (ev_bnd (spec_RainSum_ok H' R') (ev_bnd e2 (ev_bnd e4 (ev_bnd (impl_RainSum_ok H' R') (ev_t (by simp) (ev_t (by simp) ev_some)))))))

/-! ### Even rain -/
def evenOf (w a : Int) : Nat → Int := fun j => if (j : Int) < 2 * w + 1 then a else 0
theorem evenStep (w a : Int) (k : Nat) (f : Nat → Int) (h : ∀ j, f j = if j < k then a else 0) (j : Nat) : updC f (0 + (k : Int).toNat * 1) a j = if j < k + 1 then a else 0 := by
  rw [updC_at, h j]
  simp only [Int.toNat_natCast, Nat.zero_add, Nat.mul_one]
  split
  · subst j; rw [if_pos (by omega)]
  · by_cases h1 : j < k
    · rw [if_pos h1, if_pos (by omega)]
    · rw [if_neg h1, if_neg (by omega)]
theorem even_ok {w h s : Int} {t : Nat → Int} (H : RoofV w h s t) (a : Int) (ha : 0 ≤ a ∧ a ≤ 1000) : Ev (fun n => s_impl_even n w h s t a) (evenOf w a) := by
  have hb := H.b
  obtain ⟨N, hN⟩ : ∃ N : Nat, 2 * w + 1 = (N : Int) := ⟨(2 * w + 1).toNat, by omega⟩
  unfold s_impl_even
  refine ev_bnd (ev_of fun n => cells_eq n H.toRoofT) ?_
  rw [hN]
  obtain ⟨v, hv, h1⟩ := loop_up (l := fun n k (f : Nat → Int) => l_impl_even_b0 n a (N : Nat) (k : Nat) (fun _ => 0) f) (I := fun k f => ∀ j, f j = if j < k then a else 0) (P := fun v => v.2 = evenOf w a) N (by
    intro k f hk hf ih
    by_cases hlt : k < N
    · refine tot_t (by simp; omega) (tot_chk (inB_k _ _ (by omega)) ?_)
      rw [w16 a (by omega), up64 k (by omega)]
      exact ih hlt _ (fun j => evenStep w a k f hf j)
    · obtain rfl : k = N := by omega
      refine tot_f (by simp) (tot_some ?_)
      funext j; show f j = _; rw [hf j]; unfold evenOf; rw [hN]
      by_cases h : j < k
      · rw [if_pos h, if_pos (by omega)]
      · rw [if_neg h, if_neg (by omega)]) 0 (fun _ => 0) (by omega) (fun j => by simp)
  obtain ⟨v1, v2⟩ := v
  simp only at hv
  subst hv
  exact ev_bnd h1 ev_some
theorem l02Even_ok {w h s : Int} {t : Nat → Int} (H : RoofV w h s t) (a : Int) (ha : 0 ≤ a ∧ a ≤ 1000) : Ev (fun n => s_spec_l02Even n w h s t a) (evenOf w a) := by
  have hb := H.b
  obtain ⟨N, hN⟩ : ∃ N : Nat, 2 * w + 1 = (N : Int) := ⟨(2 * w + 1).toNat, by omega⟩
  unfold s_spec_l02Even
  obtain ⟨v, hv, h1⟩ := loop_up (l := fun n k (f : Nat → Int) => l_spec_l02Even_b0 n w h s t a (k : Nat) (fun _ => 0) f) (I := fun k f => ∀ j, f j = if j < k then a else 0) (P := fun v => v.2 = evenOf w a) N (by
    intro k f hk hf ih
    refine tot_ev (ev_of fun n => l01Cells_eq n H.toRoofT) ?_
    rw [hN]
    by_cases hlt : k < N
    · refine tot_t (by simp; omega) (tot_chk (inB_k _ _ (by omega)) ?_)
      rw [w16 a (by omega), up64 k (by omega)]
      exact ih hlt _ (fun j => evenStep w a k f hf j)
    · obtain rfl : k = N := by omega
      refine tot_f (by simp) (tot_some ?_)
      funext j; show f j = _; rw [hf j]; unfold evenOf; rw [hN]
      by_cases h : j < k
      · rw [if_pos h, if_pos (by omega)]
      · rw [if_neg h, if_neg (by omega)]) 0 (fun _ => 0) (by omega) (fun j => by simp)
  obtain ⟨v1, v2⟩ := v
  simp only at hv
  subst hv
  exact ev_bnd h1 ev_some
def evenAnswer (w h s : Int) (t : Nat → Int) (a : Int) : (Nat → Int) × Int :=
  if roofOk w h s t = true then (if 0 ≤ a ∧ a ≤ 1000 then (evenOf w a, 0) else (fun _ => 0, 2)) else (fun _ => 0, 1)
theorem isAmount64_eq (n : Nat) (a : Int) : s_impl_isAmount_int64 n a = some (decide (0 ≤ a) && decide (a ≤ 1000)) := by
  unfold s_impl_isAmount_int64; simp only [within_i64, bnd_s]
theorem spec_EvenRain_ok {w h s : Int} {t : Nat → Int} (H : RoofT w h s t) (a : Int) : Ev (fun n => s_spec_EvenRain n w h s t a) (evenAnswer w h s t a) := by
  unfold s_spec_EvenRain evenAnswer
  refine ev_bnd (ev_of fun n => l02Amount_eq n a) (ev_bnd (l01Told_ok H _) ?_)
  unfold roofC
  cases hok : roofOk w h s t with
  | false => exact ev_f rfl ev_some
  | true =>
    rw [if_pos rfl]
    by_cases h1 : 0 ≤ a ∧ a ≤ 1000
    · rw [show (decide (0 ≤ a) && decide (a ≤ 1000)) = true by simp; omega, if_pos h1]
      exact ev_t rfl (ev_bnd (l02Even_ok ⟨H, hok⟩ a h1) ev_some)
    · rw [show (decide (0 ≤ a) && decide (a ≤ 1000)) = false by simp; omega, if_neg h1]
      exact ev_f rfl ev_some
theorem impl_EvenRain_ok {w h s : Int} {t : Nat → Int} (H : RoofT w h s t) (a : Int) : Ev (fun n => s_impl_EvenRain n w h s t a) (evenAnswer w h s t a) := by
  unfold s_impl_EvenRain evenAnswer
  refine ev_bnd (ev_of fun n => isAmount64_eq n a) (ev_bnd (roofCode_ok H _) ?_)
  unfold roofC
  cases hok : roofOk w h s t with
  | false => exact ev_f rfl ev_some
  | true =>
    rw [if_pos rfl]
    by_cases h1 : 0 ≤ a ∧ a ≤ 1000
    · rw [show (decide (0 ≤ a) && decide (a ≤ 1000)) = true by simp; omega, if_pos h1]
      exact ev_t rfl (ev_bnd (even_ok ⟨H, hok⟩ a h1) ev_some)
    · rw [show (decide (0 ≤ a) && decide (a ≤ 1000)) = false by simp; omega, if_neg h1]
      exact ev_f rfl ev_some
theorem eqRain_ok (a b : Nat → Int) : Ev (fun n => s_laws_eqRain n a b) (allN (fun j => decide (a j = b j)) 0 17) := by
  unfold s_laws_eqRain
  have key := loop_all (l := fun n k => l_laws_eqRain_b0 n (k : Nat) a b) (p := fun j => decide (a j = b j)) (A := .inl ()) (B := .inr false) 17 (ev_f (by simp) ev_some) (by
    intro k hk hp v ih
    have e1 : 0 + (k : Int).toNat * 1 = k := by simp
    refine ev_t (by simp; omega) (ev_chk (inB_k _ _ hk) ?_)
    rw [e1, up64 k (by omega)]
    exact ev_t hp ih) (by
    intro k hk hp
    have e1 : 0 + (k : Int).toNat * 1 = k := by simp
    refine ev_t (by simp; omega) (ev_chk (inB_k _ _ hk) ?_)
    rw [e1]
    exact ev_f hp ev_some) 17 0 rfl
  refine ev_bnd key ?_
  cases allN (fun j => decide (a j = b j)) 0 17 <;> exact ev_some
theorem allN_refl (a : Nat → Int) (k d : Nat) : allN (fun j => decide (a j = a j)) k d = true := (allN_iff _ _ _).2 fun j _ _ => by simp
theorem law_FnExactEvenRain {w h s a : Int} {t : Nat → Int} (hw : (Lit.int .i8 w).wf = true) (hh : (Lit.int .i8 h).wf = true) (hs : (Lit.int .u8 s).wf = true) (ht : ∀ j, j < 64 → (Lit.int .u8 (t j)).wf = true)
    (ha : (Lit.int .i64 a).wf = true) : Ev (fun n => s_laws_FnExactEvenRain n w h s t a) true := by
  unfold s_laws_FnExactEvenRain
  obtain ⟨t', e1, e2⟩ := toRoof_ok w h s t
  have H' := (RoofT.mk' hw hh hs ht).like e1
  refine ev_bnd e2 (ev_bnd (spec_EvenRain_ok H' a) (ev_bnd e2 (ev_bnd (impl_EvenRain_ok H' a) (ev_bnd (eqRain_ok _ _) ?_))))
  exact ev_t (allN_refl _ 0 17) (ev_t (by simp) ev_some)
end Go.Proofs.Ytkfihbdikdkcmaa
