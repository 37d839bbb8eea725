/- What runs down a roof. -/
import Derived.Test.YtkfihbdikdkcmaaPa2
import Derived.Test.YtkfihbdikdkcmaaPm1
namespace Go.Proofs.Ytkfihbdikdkcmaa
open Go
set_option linter.unusedVariables false
set_option linter.unusedSimpArgs false

def cov (w s : Int) (t : Nat → Int) (i x : Nat) : Int := if tileOf w s i x = -1 then 0 else t (i * 8 + (tileOf w s i x).toNat)
def above (w s : Int) (t : Nat → Int) (i x : Nat) : Int := if i = 0 then 0 else cov w s t (i - 1) x
def dripK (kind over n : Int) : Int := if kind = 1 then (n + 1) / 2 else if kind = 2 then (n + 2) / 3 else if kind = 3 then (if over = 2 then 0 else n) else 0
def drip1 (w s : Int) (t : Nat → Int) (i x : Nat) (n : Int) : Int := dripK (cov w s t i x) (above w s t i x) n
def water (w s : Int) (t r : Nat → Int) (x : Nat) : Nat → Int
  | 0 => r x
  | i + 1 => water w s t r x i - drip1 w s t i x (water w s t r x i)
def dr (w s : Int) (t r : Nat → Int) (i x : Nat) : Int := drip1 w s t i x (water w s t r x i)
theorem water_succ (w s : Int) (t r : Nat → Int) (x i : Nat) : water w s t r x (i + 1) = water w s t r x i - dr w s t r i x := rfl
theorem dripK_b {k o n : Int} (hn : 0 ≤ n) : 0 ≤ dripK k o n ∧ dripK k o n ≤ n := by
  unfold dripK
  split
  · omega
  · split
    · omega
    · split
      · split <;> omega
      · omega
/-- rain of a cell is as told -/
def RainB (r : Nat → Int) : Prop := ∀ j, j < 17 → 0 ≤ r j ∧ r j ≤ 1000
theorem water_b {w s : Int} {t r : Nat → Int} (R : RainB r) {x : Nat} (hx : x < 17) : ∀ i, 0 ≤ water w s t r x i ∧ water w s t r x i ≤ 1000
  | 0 => R x hx
  | i + 1 => by
    have h := water_b (w := w) (s := s) (t := t) R hx i
    have := dripK_b (k := cov w s t i x) (o := above w s t i x) h.1
    simp only [water, drip1]; omega
theorem dr_b {w s : Int} {t r : Nat → Int} (R : RainB r) {x : Nat} (hx : x < 17) (i : Nat) : 0 ≤ dr w s t r i x ∧ dr w s t r i x ≤ water w s t r x i ∧ dr w s t r i x ≤ 1000 := by
  have h := water_b (w := w) (s := s) (t := t) R hx i
  have := dripK_b (k := cov w s t i x) (o := above w s t i x) h.1
  unfold dr drip1; omega
theorem rainOk_b {w h s : Int} {t r : Nat → Int} (h1 : rainOk w h s t r = true) : roofOk w h s t = true ∧ RainB r ∧ ∀ j, j < 17 → r j = 0 ∨ (j : Int) < 2 * w + 1 := by
  simp only [rainOk, Bool.and_eq_true] at h1
  have h2 := (allN_iff _ 17 0).1 h1.2
  refine ⟨h1.1, fun j hj => ?_, fun j hj => ?_⟩ <;> have h3 := h2 j (by omega) (by omega) <;> simp [rainCell] at h3 <;> omega
theorem tile_lt {w s c x : Int} (hw : 1 ≤ w ∧ w ≤ 8) : tileOf w s c x = -1 ∨ 0 ≤ tileOf w s c x ∧ tileOf w s c x < 8 ∧ tileOf w s c x < w := by
  unfold tileOf; split <;> omega
theorem cov_b {w h s : Int} {t : Nat → Int} (H : RoofV w h s t) {i : Nat} (hi : i < 8) (x : Nat) : 0 ≤ cov w s t i x ∧ cov w s t i x ≤ 3 := by
  have hb := H.b
  unfold cov
  split
  · omega
  · rename_i hne
    rcases tile_lt (w := w) (s := s) (c := i) (x := x) (by omega) with h1 | h1
    · exact absurd h1 hne
    · have h2 := roofOk_t H.ok i (tileOf w s i x).toNat hi (by omega)
      have h3 := H.bt (i * 8 + (tileOf w s i x).toNat) (by omega)
      omega
theorem up32_eq (n : Nat) (a b : Int) (ha : 0 ≤ a ∧ a ≤ 1000000) (hb : 1 ≤ b ∧ b ≤ 10) : s_impl_up_int32 n a b = some ((a + b - 1) / b) := by
  unfold s_impl_up_int32
  rw [decide_eq_false (by omega), Bool.not_false, chk_t, w32 (a + b) (by omega), w32 (a + b - 1) (by omega), Int.tdiv_eq_ediv_of_nonneg (by omega), w32]
  have h1 : 0 ≤ (a + b - 1) / b := Int.ediv_nonneg (by omega) (by omega)
  have h2 : (a + b - 1) / b ≤ a + b - 1 := Int.ediv_le_self _ (by omega)
  omega
theorem dripOf_eq (m : Nat) (k o n : Int) (hn : 0 ≤ n ∧ n ≤ 1000000) : s_impl_dripOf m k o n = some (dripK k o n) := by
  unfold s_impl_dripOf dripK
  rw [up32_eq m n 2 hn (by omega), up32_eq m n 3 hn (by omega)]
  simp only [bnd_s, cnd_d]
  rw [show n + 2 - 1 = n + 1 by omega, show n + 3 - 1 = n + 2 by omega]
  split <;> first | rfl | skip
  split <;> first | rfl | skip
  split <;> first | rfl | skip
  split <;> rfl
theorem covering_eq (n : Nat) {w h s : Int} {t : Nat → Int} (H : RoofV w h s t) (i x : Nat) (hi : i < 8) (hx : x < 17) : s_impl_Roof_covering n w h s t i x = some (cov w s t i x) := by
  have hb := H.b
  unfold s_impl_Roof_covering cov
  rw [decide_eq_false (by omega), cnd_f, tileAt_eq n _ _ (by omega) (by omega) (by omega) (by omega), bnd_s, cnd_d]
  split
  · rfl
  · rename_i hne
    rcases tile_lt (w := w) (s := s) (c := i) (x := x) (by omega) with h1 | h1
    · exact absurd h1 hne
    · rw [inB_k _ _ hi, chk_t, inB_i _ _ (by omega), chk_t]
      simp
theorem covering_up (n : Nat) {w h s : Int} {t : Nat → Int} (H : RoofV w h s t) (i x : Nat) (hi : i < 8) (hx : x < 17) : s_impl_Roof_covering n w h s t (IntKind.i64.wrap ((i : Int) - 1)) x = some (above w s t i x) := by
  rw [w64 _ (by omega)]
  unfold above
  by_cases h0 : i = 0
  · subst h0
    unfold s_impl_Roof_covering
    rw [decide_eq_true (by omega), cnd_t, if_pos rfl]
  · rw [if_neg h0, show (i : Int) - 1 = ((i - 1 : Nat) : Int) by omega]
    exact covering_eq n H (i - 1) x (by omega) hx
theorem l02Over_eq (n : Nat) {w h s : Int} {t : Nat → Int} (H : RoofV w h s t) (i x : Nat) (hi : i < 8) (hx : x < 17) : s_spec_l02Over n w h s t i x = some (cov w s t i x) := by
  have hb := H.b
  unfold s_spec_l02Over
  rw [l01Tile_eq n _ _ (by omega) (by omega) (by omega) (by omega), bnd_s, cnd_d]
  rcases tile_lt (w := w) (s := s) (c := i) (x := x) (by omega) with h1 | h1
  · rw [if_pos (by omega)]; unfold cov; rw [if_pos h1]
  · rw [if_neg (by omega), inB_k _ _ hi, chk_t, inB_i _ _ (by omega), chk_t]
    have hc := cov_b H hi x
    unfold cov at hc ⊢
    rw [if_neg (by omega)] at hc ⊢
    simp only [Nat.zero_add, Int.toNat_natCast, Nat.mul_one]
    rw [w64 _ (by omega)]
theorem l02Drip_eq (m : Nat) {w h s : Int} {t : Nat → Int} (H : RoofV w h s t) (i x : Nat) (hi : i < 8) (hx : x < 17) (n : Int) (hn : 0 ≤ n ∧ n ≤ 1000000) : s_spec_l02Drip m w h s t i x n = some (drip1 w s t i x n) := by
  unfold s_spec_l02Drip drip1
  rw [l02Over_eq m H i x hi hx, bnd_s]
  have hup : (0 : Int) < i → s_spec_l02Over m w h s t (IntKind.i64.wrap ((i : Int) - 1)) x = some (above w s t i x) := by
    intro h0
    rw [w64 _ (by omega), show (i : Int) - 1 = ((i - 1 : Nat) : Int) by omega, l02Over_eq m H (i - 1) x (by omega) hx]
    unfold above
    rw [if_neg (by omega)]
  rw [w64 (n + 1) (by omega), w64 (n + 2) (by omega), Int.tdiv_eq_ediv_of_nonneg (by omega), Int.tdiv_eq_ediv_of_nonneg (by omega), w64 _ (by omega), w64 _ (by omega)]
  unfold dripK
  simp only [cnd_d]
  split <;> first | rfl | skip
  split <;> first | rfl | skip
  split
  · split
    · rename_i h0
      rw [hup h0, bnd_s]
      split <;> rfl
    · rename_i h0
      have : above w s t i x = 0 := by unfold above; rw [if_pos (by omega)]
      rw [this, if_neg (by omega)]
  · rfl

/-- the drips, so far: all of the cells below X, and those of cell X in the courses below I -/
def Dst (w h s : Int) (t r : Nat → Int) (X I j : Nat) : Int := if (j % 17 < X ∧ ((j / 17 : Nat) : Int) < h) ∨ (j % 17 = X ∧ j / 17 < I) then dr w s t r (j / 17) (j % 17) else 0
theorem Dst_step {w h s : Int} {t r : Nat → Int} {X I : Nat} (hX : X < 17) {f : Nat → Int} (hf : ∀ j, f j = Dst w h s t r X I j) (j : Nat) : updC f (0 + (I : Int).toNat * 17 + (X : Int).toNat * 1) (dr w s t r I X) j = Dst w h s t r X (I + 1) j := by
  simp only [updC_at, Int.toNat_natCast, Nat.zero_add, Nat.mul_one]
  by_cases h1 : j = I * 17 + X
  · rw [if_pos h1]
    have h2 : j % 17 = X := by omega
    have h3 : j / 17 = I := by omega
    unfold Dst
    rw [if_pos (by omega), h2, h3]
  · rw [if_neg h1, hf j]
    unfold Dst
    by_cases h2 : (j % 17 < X ∧ ((j / 17 : Nat) : Int) < h) ∨ (j % 17 = X ∧ j / 17 < I)
    · rw [if_pos h2, if_pos (by omega)]
    · rw [if_neg h2, if_neg (by omega)]
theorem Dst_next {w h s : Int} {t r : Nat → Int} {X I : Nat} (hI : (I : Int) = h) {f : Nat → Int} (hf : ∀ j, f j = Dst w h s t r X I j) (j : Nat) : f j = Dst w h s t r (X + 1) 0 j := by
  rw [hf j]
  unfold Dst
  by_cases h2 : (j % 17 < X ∧ ((j / 17 : Nat) : Int) < h) ∨ (j % 17 = X ∧ j / 17 < I)
  · rw [if_pos h2, if_pos (by omega)]
  · rw [if_neg h2, if_neg (by omega)]
theorem Dst_zero {w h s : Int} {t r : Nat → Int} (j : Nat) : (0 : Int) = Dst w h s t r 0 0 j := by
  unfold Dst
  rw [if_neg (by omega)]
/-- the drips of a roof -/
def dripsOf (w h s : Int) (t r : Nat → Int) (j : Nat) : Int := if ((j % 17 : Nat) : Int) < 2 * w + 1 ∧ ((j / 17 : Nat) : Int) < h then dr w s t r (j / 17) (j % 17) else 0
/-- what comes to the gutter -/
def gutterOf (w h s : Int) (t r : Nat → Int) (X : Nat) : List Int := (List.range' 0 X).map fun x => water w s t r x h.toNat
theorem gutter_succ (w h s : Int) (t r : Nat → Int) (X : Nat) : gutterOf w h s t r (X + 1) = gutterOf w h s t r X ++ [water w s t r X h.toNat] := by
  unfold gutterOf; rw [List.range'_concat]; simp
theorem ints_append (k : IntKind) (l l' : List Int) : ints k (l ++ l') = ints k l ++ ints k l' := List.map_append ..
theorem ints_one (k : IntKind) (x : Int) : ints k [x] = [V.int k x] := rfl

/-! ### the reference's run -/
theorem spec_run_b2 {w h s : Int} {t r : Nat → Int} (H : RoofV w h s t) (R : RainB r) (X : Nat) (hX : X < 17) (z1 z2 : Nat → Int) (g : List V) (f0 c0 : Nat → Int) (h0 : ∀ j, f0 j = Dst w h s t r X 0 j) :
    Tot (fun n => l_spec_l02Run_b2 n w h s t r X (r X) 0 z1 z2 f0 c0 g) (fun v => ∃ f c, v = (w, h, s, t, r, (X : Int), water w s t r X h.toNat, z1, z2, f, c, g) ∧ (∀ j, f j = Dst w h s t r X h.toNat j) ∧
      ∀ j, c j = if j % 17 = X ∧ ((j / 17 : Nat) : Int) < h then water w s t r X (j / 17) else c0 j) := by
  have hb := H.b
  have hw := H.bh
  refine loop_up (l := fun n k (st : Int × (Nat → Int) × (Nat → Int)) => l_spec_l02Run_b2 n w h s t r X st.1 (k : Nat) z1 z2 st.2.1 st.2.2 g)
    (I := fun k st => st.1 = water w s t r X k ∧ (∀ j, st.2.1 j = Dst w h s t r X k j) ∧ ∀ j, st.2.2 j = if j % 17 = X ∧ j / 17 < k then water w s t r X (j / 17) else c0 j) h.toNat ?_ 0 (r X, f0, c0) (by omega) ⟨rfl, h0, fun j => by rw [if_neg (by omega)]⟩
  rintro k ⟨n, f, c⟩ hk ⟨e1, e2, e3⟩ ih
  simp only at e1 e2 e3
  subst e1
  simp only [l_spec_l02Run_b2]
  rw [w64 h (by omega)]
  by_cases hlt : k < h.toNat
  · have hwb := water_b (w := w) (s := s) (t := t) R hX k
    have hdb := dr_b (w := w) (s := s) (t := t) R hX k
    refine tot_t (by simp; omega) (tot_chk (inB_k _ _ (by omega)) (tot_chk (inB_k _ _ hX) (tot_ev (ev_of fun m => l02Drip_eq m H k X (by omega) hX _ (by omega)) ?_)))
    rw [show drip1 w s t k X (water w s t r X k) = dr w s t r k X from rfl, w64 (water w s t r X k - _) (by omega), up64 k (by omega), w32 _ (by omega), w32 _ (by omega), ← water_succ]
    refine ih hlt (water w s t r X (k + 1), _, _) ⟨rfl, fun j => Dst_step hX e2 j, fun j => ?_⟩
    show updC c (0 + (k : Int).toNat * 17 + (X : Int).toNat * 1) (water w s t r X k) j = _
    rw [updC_at, show 0 + (k : Int).toNat * 17 + (X : Int).toNat * 1 = k * 17 + X by simp]
    by_cases h1 : j = k * 17 + X
    · have h2 : j % 17 = X := by omega
      have h3 : j / 17 = k := by omega
      rw [if_pos h1, if_pos (by omega), h3]
    · rw [if_neg h1, e3 j]
      by_cases h2 : j % 17 = X ∧ j / 17 < k
      · rw [if_pos h2, if_pos (by omega)]
      · rw [if_neg h2, if_neg (by omega)]
  · obtain rfl : k = h.toNat := by omega
    refine tot_f (by simp; omega) (tot_some ⟨f, c, rfl, e2, fun j => ?_⟩)
    rw [e3 j]
    by_cases h2 : j % 17 = X ∧ j / 17 < h.toNat
    · rw [if_pos h2, if_pos (by omega)]
    · rw [if_neg h2, if_neg (by omega)]
/-- what comes to each course and cell -/
def comesOf (w h s : Int) (t r : Nat → Int) (j : Nat) : Int := if ((j % 17 : Nat) : Int) < 2 * w + 1 ∧ ((j / 17 : Nat) : Int) < h then water w s t r (j % 17) (j / 17) else 0
theorem Dst_end {w h s : Int} {t r : Nat → Int} {N : Nat} (hN : 2 * w + 1 = (N : Int)) : Dst w h s t r N 0 = dripsOf w h s t r := by
  funext j
  unfold Dst dripsOf
  by_cases h2 : ((j % 17 : Nat) : Int) < 2 * w + 1 ∧ ((j / 17 : Nat) : Int) < h
  · rw [if_pos h2, if_pos (by omega)]
  · rw [if_neg h2, if_neg (by omega)]
theorem l02Run_ok {w h s : Int} {t r : Nat → Int} (H : RoofV w h s t) (R : RainB r) : Ev (fun n => s_spec_l02Run n w h s t r) (dripsOf w h s t r, comesOf w h s t r, ints .i64 (gutterOf w h s t r (2 * w + 1).toNat)) := by
  have hb := H.b
  obtain ⟨N, hN⟩ : ∃ N : Nat, 2 * w + 1 = (N : Int) := ⟨(2 * w + 1).toNat, by omega⟩
  have hN17 : N ≤ 17 := by omega
  have e0 : (2 * w + 1).toNat = N := by omega
  rw [e0]
  unfold s_spec_l02Run
  obtain ⟨v, hv, h1⟩ := loop_up (l := fun n k (st : (Nat → Int) × (Nat → Int) × List V) => l_spec_l02Run_b0 n w h s t r (k : Nat) (fun _ => 0) (fun _ => 0) st.1 st.2.1 st.2.2)
    (I := fun k st => (∀ j, st.1 j = Dst w h s t r k 0 j) ∧ (∀ j, st.2.1 j = if j % 17 < k ∧ ((j / 17 : Nat) : Int) < h then water w s t r (j % 17) (j / 17) else 0) ∧ st.2.2 = ints .i64 (gutterOf w h s t r k))
    (P := fun v => v.2.2.1 = dripsOf w h s t r ∧ v.2.2.2.1 = comesOf w h s t r ∧ v.2.2.2.2 = ints .i64 (gutterOf w h s t r N)) N (by
    rintro k ⟨f, c, g⟩ hk ⟨e1, e2, e3⟩ ih
    simp only at e1 e2 e3
    subst e3
    refine tot_ev (ev_of fun n => l01Cells_eq n H.toRoofT) ?_
    rw [hN]
    by_cases hlt : k < N
    · have hrb := R k (by omega)
      refine tot_t (by simp; omega) (tot_chk (inB_k _ _ (by omega)) ?_)
      rw [show 0 + (k : Int).toNat * 1 = k by simp, w64 (r k) (by omega)]
      refine tot_bnd (spec_run_b2 H R k (by omega) _ _ _ f c e1) ?_
      rintro _ ⟨f', c', rfl, k1, k2⟩
      refine tot_chk ?_ ?_
      · simp [ints_length, gutterOf]; omega
      · rw [up64 k (by omega)]
        refine ih hlt (f', c', _) ⟨fun j => Dst_next (by omega) k1 j, fun j => ?_, ?_⟩
        · show c' j = _
          rw [k2 j, e2 j]
          by_cases h2 : j % 17 = k ∧ ((j / 17 : Nat) : Int) < h
          · rw [if_pos h2, if_pos (by omega), h2.1]
          · rw [if_neg h2]
            by_cases h3 : j % 17 < k ∧ ((j / 17 : Nat) : Int) < h
            · rw [if_pos h3, if_pos (by omega)]
            · rw [if_neg h3, if_neg (by omega)]
        · rw [gutter_succ, ints_append, ints_one]
    · obtain rfl : k = N := by omega
      refine tot_f (by simp) (tot_some ⟨?_, ?_, rfl⟩)
      · show f = _
        rw [← Dst_end hN]; exact funext e1
      · show c = _
        funext j
        rw [e2 j]
        unfold comesOf
        rw [hN]
        by_cases h3 : j % 17 < k ∧ ((j / 17 : Nat) : Int) < h
        · rw [if_pos h3, if_pos (by omega)]
        · rw [if_neg h3, if_neg (by omega)]) 0 (fun _ => 0, fun _ => 0, []) (by omega) ⟨fun j => Dst_zero j, fun j => by rw [if_neg (by omega)], rfl⟩
  obtain ⟨v1, v2, v3, v4, v5⟩ := v
  simp only at hv
  obtain ⟨rfl, rfl, rfl⟩ := hv
  exact ev_bnd h1 ev_some

/-! ### the program's run -/
def placeV (i k : Int) : V := V.parts [V.int .i8 i, V.int .i8 k]
/-- has water come to the tile k of course i, so far? -/
def wetIn (w h s : Int) (t r : Nat → Int) (X I : Nat) (i k : Int) : Prop := ∃ (i' x : Nat), i = i' ∧ 0 ≤ k ∧ tileOf w s i x = k ∧ 0 < water w s t r x i' ∧ ((x < X ∧ (i' : Int) < h) ∨ (x = X ∧ i' < I))
/-- the map of wet tiles -/
def WetMap (w h s : Int) (t r : Nat → Int) (X I : Nat) (ks vs : List V) : Prop := mapFine (true, [IntKind.i8, IntKind.i8]) ks vs = true ∧ ks.length = vs.length ∧
  ∀ i k : Int, -128 ≤ i ∧ i ≤ 127 → -128 ≤ k ∧ k ≤ 127 → (mapGetB (placeV i k) ks vs = true ↔ wetIn w h s t r X I i k)
theorem place_is {i k : Int} (hi : -128 ≤ i ∧ i ≤ 127) (hk : -128 ≤ k ∧ k ≤ 127) : keyIs (true, [IntKind.i8, IntKind.i8]) (placeV i k) = true := by
  simp [placeV, keyIs, keyInts, wfK, IntKind.min, IntKind.max, IntKind.signed, IntKind.bits]; omega
theorem place_nums (i k : Int) : kNums (placeV i k) = [i, k] := rfl
theorem wet_put {w h s : Int} {t r : Nat → Int} {X I : Nat} {ks vs : List V} (hm : WetMap w h s t r X I ks vs) {k : Int} (hI : I < 100) (hk : 0 ≤ k ∧ k ≤ 127) (ht : tileOf w s I X = k) (hw : 0 < water w s t r X I) :
    WetMap w h s t r X (I + 1) (mapPutK (placeV I k) ks) (mapPutV (placeV I k) (.bool true) ks vs) := by
  have h1 := place_is (i := I) (k := k) (by omega) (by omega)
  obtain ⟨h2, h3⟩ := mapPut_fine true hm.1 hm.2.1 h1
  refine ⟨h2, h3, fun i k' hi hk' => ?_⟩
  rw [getB_put true hm.1 hm.2.1 h1 (place_is hi hk'), place_nums, place_nums]
  by_cases he : [i, k'] = [(I : Int), k]
  · rw [if_pos he]
    simp only [List.cons.injEq, and_true] at he
    obtain ⟨rfl, rfl⟩ := he
    simp only [true_iff]
    exact ⟨I, X, rfl, by omega, ht, hw, .inr ⟨rfl, by omega⟩⟩
  · rw [if_neg he, hm.2.2 i k' hi hk']
    constructor
    · rintro ⟨i', x, e1, e0, e2, e3, e4⟩
      exact ⟨i', x, e1, e0, e2, e3, by omega⟩
    · rintro ⟨i', x, e1, e0, e2, e3, e4⟩
      refine ⟨i', x, e1, e0, e2, e3, ?_⟩
      rcases e4 with e4 | ⟨rfl, e5⟩
      · exact .inl e4
      · rcases Nat.lt_or_ge i' I with h6 | h6
        · exact .inr ⟨rfl, h6⟩
        · exfalso
          obtain rfl : i' = I := by omega
          subst e1
          exact he (by rw [← e2, ht])
theorem wet_skip {w h s : Int} {t r : Nat → Int} {X I : Nat} {ks vs : List V} (hm : WetMap w h s t r X I ks vs) (hno : tileOf w s I X = -1 ∨ water w s t r X I ≤ 0) : WetMap w h s t r X (I + 1) ks vs := by
  refine ⟨hm.1, hm.2.1, fun i k hi hk => ?_⟩
  rw [hm.2.2 i k hi hk]
  constructor
  · rintro ⟨i', x, e1, e0, e2, e3, e4⟩
    exact ⟨i', x, e1, e0, e2, e3, by omega⟩
  · rintro ⟨i', x, e1, e0, e2, e3, e4⟩
    refine ⟨i', x, e1, e0, e2, e3, ?_⟩
    rcases e4 with e4 | ⟨rfl, e5⟩
    · exact .inl e4
    · rcases Nat.lt_or_ge i' I with h6 | h6
      · exact .inr ⟨rfl, h6⟩
      · exfalso
        obtain rfl : i' = I := by omega
        subst e1
        omega
theorem wet_next {w h s : Int} {t r : Nat → Int} {X I : Nat} {ks vs : List V} (hI : (I : Int) = h) (hm : WetMap w h s t r X I ks vs) : WetMap w h s t r (X + 1) 0 ks vs := by
  refine ⟨hm.1, hm.2.1, fun i k hi hk => ?_⟩
  rw [hm.2.2 i k hi hk]
  constructor
  · rintro ⟨i', x, e1, e0, e2, e3, e4⟩
    exact ⟨i', x, e1, e0, e2, e3, by omega⟩
  · rintro ⟨i', x, e1, e0, e2, e3, e4⟩
    exact ⟨i', x, e1, e0, e2, e3, by omega⟩
theorem run_b2 {w h s : Int} {t r : Nat → Int} (H : RoofV w h s t) (R : RainB r) (X : Nat) (hX : X < 17) (N : Int) (z1 : Nat → Int) (z2 g ks0 vs0 : List V) (f0 : Nat → Int) (h0 : ∀ j, f0 j = Dst w h s t r X 0 j) (hm : WetMap w h s t r X 0 ks0 vs0) :
    Tot (fun n => l_impl_Roof_run_b2 n X (r X) N X h 0 w h s t r z1 f0 z2 g ks0 vs0) (fun v => ∃ f ks vs, v = (water w s t r X h.toNat, N, (X : Int), w, h, s, t, r, z1, f, z2, g, ks, vs) ∧ (∀ j, f j = Dst w h s t r X h.toNat j) ∧ WetMap w h s t r X h.toNat ks vs) := by
  have hb := H.b
  have hw := H.bh
  refine loop_up (l := fun n k (st : Int × (Nat → Int) × List V × List V) => l_impl_Roof_run_b2 n X st.1 N X h (k : Nat) w h s t r z1 st.2.1 z2 g st.2.2.1 st.2.2.2)
    (I := fun k st => st.1 = water w s t r X k ∧ (∀ j, st.2.1 j = Dst w h s t r X k j) ∧ WetMap w h s t r X k st.2.2.1 st.2.2.2) h.toNat ?_ 0 (r X, f0, ks0, vs0) (by omega) ⟨rfl, h0, hm⟩
  rintro k ⟨n, f, ks, vs⟩ hk ⟨e1, e2, e3⟩ ih
  simp only at e1 e2 e3
  subst e1
  simp only [l_impl_Roof_run_b2]
  by_cases hlt : k < h.toNat
  · have hwb := water_b (w := w) (s := s) (t := t) R hX k
    have hdb := dr_b (w := w) (s := s) (t := t) R hX k
    have hd : (fun m => s_impl_dripOf m (cov w s t k X) (above w s t k X) (water w s t r X k)) = fun _ => some (dr w s t r k X) := by
      funext m; exact dripOf_eq m _ _ _ (by omega)
    have hend : ∀ ks' vs', WetMap w h s t r X (k + 1) ks' vs' → Tot (fun n => bnd (s_impl_Roof_covering n w h s t k X) fun y15_0 => bnd (s_impl_Roof_covering n w h s t (IntKind.i64.wrap ((k : Int) - 1)) X) fun y16_0 =>
        bnd (s_impl_dripOf n y15_0 y16_0 (water w s t r X k)) fun y17_0 => chk (inB k 8) (chk (inB X 17)
          (l_impl_Roof_run_b2 n X (IntKind.i32.wrap (water w s t r X k - y17_0)) N X h (IntKind.i64.wrap ((k : Int) + 1)) w h s t r z1 (updC f (0 + (k : Int).toNat * 17 + (X : Int).toNat * 1) y17_0) z2 g ks' vs')))
        (fun v => ∃ f ks vs, v = (water w s t r X h.toNat, N, (X : Int), w, h, s, t, r, z1, f, z2, g, ks, vs) ∧ (∀ j, f j = Dst w h s t r X h.toNat j) ∧ WetMap w h s t r X h.toNat ks vs) := by
      intro ks' vs' hm'
      refine tot_ev (ev_of fun m => covering_eq m H k X (by omega) hX) (tot_ev (ev_of fun m => covering_up m H k X (by omega) hX) (tot_ev (ev_of fun m => dripOf_eq m _ _ _ (by omega)) ?_))
      refine tot_chk (inB_k _ _ (by omega)) (tot_chk (inB_k _ _ hX) ?_)
      rw [show dripK (cov w s t k X) (above w s t k X) (water w s t r X k) = dr w s t r k X from rfl, w32 _ (by omega), up64 k (by omega), ← water_succ]
      exact ih hlt (water w s t r X (k + 1), _, ks', vs') ⟨rfl, fun j => Dst_step hX e2 j, hm'⟩
    refine tot_t (by simp; omega) (tot_ev (ev_of fun m => tileAt_eq m _ _ (by omega) (by omega) (by omega) (by omega)) ?_)
    rcases tile_lt (w := w) (s := s) (c := k) (x := X) (by omega) with h1 | h1
    · exact tot_t (by simp [h1]) (hend ks vs (wet_skip e3 (.inl h1)))
    · refine tot_f (by simp; omega) ?_
      by_cases h2 : 0 < water w s t r X k
      · refine tot_t (by simp [h2]) (tot_chk e3.1 ?_)
        rw [w8 _ (by omega), w8 _ (by omega)]
        refine tot_chk (place_is (by omega) (by omega)) (hend _ _ (wet_put e3 (by omega) (by omega) rfl h2))
      · exact tot_f (by simp; omega) (hend ks vs (wet_skip e3 (.inr (by omega))))
  · obtain rfl : k = h.toNat := by omega
    exact tot_f (by simp; omega) (tot_some ⟨f, ks, vs, rfl, e2, e3⟩)
/-- what the program's run gives: the drips, the gutter, and the wet tiles -/
theorem run_ok {w h s : Int} {t r : Nat → Int} (H : RoofV w h s t) (R : RainB r) : ∃ ks vs, WetMap w h s t r (2 * w + 1).toNat 0 ks vs ∧ Ev (fun n => s_impl_Roof_run n w h s t r) (dripsOf w h s t r, ints .i64 (gutterOf w h s t r (2 * w + 1).toNat), ks, vs) := by
  have hb := H.b
  obtain ⟨N, hN⟩ : ∃ N : Nat, 2 * w + 1 = (N : Int) := ⟨(2 * w + 1).toNat, by omega⟩
  have hN17 : N ≤ 17 := by omega
  have e0 : (2 * w + 1).toNat = N := by omega
  rw [e0]
  unfold s_impl_Roof_run
  obtain ⟨v, hv, h1⟩ := loop_up (l := fun n k (st : (Nat → Int) × List V × List V × List V) => l_impl_Roof_run_b0 n (N : Nat) (k : Nat) w h s t r (fun _ => 0) st.1 [] st.2.1 st.2.2.1 st.2.2.2)
    (I := fun k st => (∀ j, st.1 j = Dst w h s t r k 0 j) ∧ st.2.1 = ints .i64 (gutterOf w h s t r k) ∧ WetMap w h s t r k 0 st.2.2.1 st.2.2.2)
    (P := fun v => v.2.1 = dripsOf w h s t r ∧ v.2.2.2.1 = ints .i64 (gutterOf w h s t r N) ∧ WetMap w h s t r N 0 v.2.2.2.2.1 v.2.2.2.2.2) N (by
    rintro k ⟨f, g, ks, vs⟩ hk ⟨e1, e2, e3⟩ ih
    simp only at e1 e2 e3
    subst e2
    by_cases hlt : k < N
    · have hrb := R k (by omega)
      refine tot_t (by simp; omega) (tot_chk (inB_k _ _ (by omega)) ?_)
      rw [show 0 + (k : Int).toNat * 1 = k by simp, w32 (r k) (by omega), w64 h (by omega)]
      refine tot_bnd (run_b2 H R k (by omega) _ _ _ _ ks vs f e1 e3) ?_
      rintro _ ⟨f', ks', vs', rfl, k1, k2⟩
      have hwb := water_b (w := w) (s := s) (t := t) R (x := k) (by omega) h.toNat
      refine tot_chk ?_ ?_
      · simp [ints_length, gutterOf]; omega
      · simp only []
        rw [up64 k (by omega), w64 _ (by omega)]
        refine ih hlt (f', _, ks', vs') ⟨fun j => Dst_next (by omega) k1 j, ?_, wet_next (by omega) k2⟩
        rw [gutter_succ, ints_append, ints_one]
    · obtain rfl : k = N := by omega
      refine tot_f (by simp) (tot_some ⟨?_, rfl, e3⟩)
      show f = _
      rw [← Dst_end hN]; exact funext e1) 0 (fun _ => 0, [], [], []) (by omega) ⟨fun j => Dst_zero j, rfl, by rfl, rfl, fun i k hi hk => by
        simp only [getB_nil, Bool.false_eq_true, false_iff]
        rintro ⟨i', x, e1, e0, e2, e3, e4⟩
        omega⟩
  obtain ⟨v1, v2, v3, v4, v5, v6⟩ := v
  simp only at hv
  obtain ⟨rfl, rfl, hm⟩ := hv
  refine ⟨v5, v6, hm, ev_bnd (ev_of fun n => cells_eq n H.toRoofT) ?_⟩
  rw [hN]
  exact ev_bnd h1 ev_some
end Go.Proofs.Ytkfihbdikdkcmaa
