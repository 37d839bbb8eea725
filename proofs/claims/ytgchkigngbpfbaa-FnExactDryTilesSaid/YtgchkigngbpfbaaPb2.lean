/- Laws WetTiles, DryTiles. -/
import Derived.Test.YtgchkigngbpfbaaPb0
namespace Go.Proofs.Ytgchkigngbpfbaa
open Go
set_option linter.unusedVariables false
set_option linter.unusedSimpArgs false

theorem comes_at {w h s : Int} {t r : Nat → Int} (i x : Nat) (hx : x < 17) (h1 : (x : Int) < 2 * w + 1) (h2 : (i : Int) < h) : comesOf w h s t r (i * 17 + x) = water w s t r x i := by
  unfold comesOf
  rw [show (i * 17 + x) % 17 = x by omega, show (i * 17 + x) / 17 = i by omega, if_pos ⟨h1, h2⟩]
def firstC (s : Int) (i k : Nat) : Nat := 2 * k + (shiftOf s i).toNat
def wetQ (w h s : Int) (t r : Nat → Int) (i k : Nat) : Bool := decide (0 < comesOf w h s t r (i * 17 + firstC s i k)) || decide (0 < comesOf w h s t r (i * 17 + (firstC s i k + 1)))
def keepP (w h s : Int) (t r : Nat → Int) (fl : Bool) (p : Int × Int) : List (Int × Int) := if (wetQ w h s t r p.1.toNat p.2.toNat == fl) = true then [(p.1, p.2)] else []
theorem wet_iff {w h s : Int} {t r ks vs} (H : RoofV w h s t) (hm : WetMap w h s t r (2 * w + 1).toNat 0 ks vs) {i k : Nat} (hi : (i : Int) < h) (hk : (k : Int) < w) : mapGetB (placeV i k) ks vs = wetQ w h s t r i k := by
  have hb := H.b
  have hs := shiftOf_b s i
  have h3 := hm.2.2 i k (by omega) (by omega)
  have e1 : comesOf w h s t r (i * 17 + firstC s i k) = water w s t r (firstC s i k) i := comes_at i _ (by unfold firstC; omega) (by unfold firstC; omega) hi
  have e2 : comesOf w h s t r (i * 17 + (firstC s i k + 1)) = water w s t r (firstC s i k + 1) i := comes_at i _ (by unfold firstC; omega) (by unfold firstC; omega) hi
  have key : mapGetB (placeV i k) ks vs = true ↔ wetQ w h s t r i k = true := by
    rw [h3]
    unfold wetQ
    rw [e1, e2]
    simp only [Bool.or_eq_true, decide_eq_true_eq]
    constructor
    · rintro ⟨i', x, h4, h5, h6, h7, h8⟩
      obtain rfl : i = i' := by omega
      unfold tileOf at h6
      split at h6
      · have : x = firstC s i k ∨ x = firstC s i k + 1 := by unfold firstC; omega
        rcases this with rfl | rfl
        · exact .inl h7
        · exact .inr h7
      · omega
    · intro h4
      rcases h4 with h4 | h4
      · refine ⟨i, firstC s i k, rfl, by omega, ?_, h4, .inl ⟨by unfold firstC; omega, hi⟩⟩
        unfold tileOf firstC
        rw [if_pos (by omega)]
        omega
      · refine ⟨i, firstC s i k + 1, rfl, by omega, ?_, h4, .inl ⟨by unfold firstC; omega, hi⟩⟩
        unfold tileOf firstC
        rw [if_pos (by omega)]
        omega
  cases h1 : mapGetB (placeV i k) ks vs <;> cases h2 : wetQ w h s t r i k <;> simp_all
theorem keep_len (w h s : Int) (t r : Nat → Int) (fl : Bool) (p : Int × Int) : (keepP w h s t r fl p).length ≤ 1 := by
  unfold keepP; split <;> simp
theorem flat_pr {β : Type} (F : Int × Int → List β) (L : List (Int × Int)) : (List.range' 0 L.length).flatMap (fun j => F (pr L j)) = L.flatMap F := by
  have : L = (List.range' 0 L.length).map (pr L) := by
    apply List.ext_getElem?
    intro j
    by_cases hj : j < L.length
    · rw [pr_get hj]; simp [hj]
    · rw [List.getElem?_eq_none (by omega), List.getElem?_eq_none (by simp; omega)]
  conv => rhs; rw [this]
  rw [List.flatMap_map]
/-- the places that are kept, row by row -/
def keptPl (w h s : Int) (t r : Nat → Int) (fl : Bool) : List (Int × Int) := (List.range' 0 h.toNat).flatMap fun (i : Nat) => (List.range' 0 w.toNat).flatMap fun (k : Nat) => keepP w h s t r fl ((i : Int), (k : Int))
theorem kept_eq (w h s : Int) (t r : Nat → Int) (fl : Bool) : (allPl w h).flatMap (keepP w h s t r fl) = keptPl w h s t r fl := by
  simp [allPl, keptPl, List.flatMap_assoc]
theorem kept_len {w h s : Int} {t r : Nat → Int} {fl : Bool} (hw : w ≤ 8) (hh : h ≤ 8) : (keptPl w h s t r fl).length ≤ 64 := by
  have h1 : (keptPl w h s t r fl).length ≤ h.toNat * 8 := flat_len 0 fun j _ _ => by
    have : ((List.range' 0 w.toNat).flatMap fun (k : Nat) => keepP w h s t r fl ((j : Int), (k : Int))).length ≤ w.toNat * 1 := flat_len 0 fun _ _ _ => keep_len ..
    omega
  omega
theorem spec_wet_b0 {w h s : Int} {t r : Nat → Int} (H : RoofV w h s t) (fl : Bool) : Ev (fun n => l_spec_l02Wet_b0 n w h s t fl 0 (comesOf w h s t r) [] (places (allPl w h))) (places (keptPl w h s t r fl)) := by
  have hb := H.b
  have hL := allPl_len (w := w) (h := h) (by omega) (by omega)
  have := loop_cat (l := fun n k g => l_spec_l02Wet_b0 n w h s t fl (k : Nat) (comesOf w h s t r) (places g) (places (allPl w h))) (G := fun j => keepP w h s t r fl (pr (allPl w h) j)) (R := fun g => places g) (allPl w h).length 0 1 (fun _ _ => keep_len ..) (fun acc => ev_f (by simp [prs_length]) ev_some) (fun j acc hj hl a ih => by
    obtain ⟨m1, m2, m3, m4⟩ := allPl_mem (pr_mem hj)
    have hg : ∀ n : Nat, bnd (nth (places (allPl w h)) j) as_Pi8_i8Q = some ((pr (allPl w h) j).1, (pr (allPl w h) j).2) := fun n => by rw [nth_prs _ _ _ _ hj]; rfl
    unfold keepP at ih
    generalize pr (allPl w h) j = p at m1 m2 m3 m4 hg ih
    obtain ⟨p1, p2⟩ := p
    dsimp only at m1 m2 m3 m4 hg ih
    obtain ⟨i, rfl⟩ := Int.eq_ofNat_of_zero_le m1
    obtain ⟨k, rfl⟩ := Int.eq_ofNat_of_zero_le m3
    rw [Int.toNat_natCast, Int.toNat_natCast] at ih
    have hs := shiftOf_b s i
    have ix : 0 + ((i : Nat) : Int).toNat * 17 + (2 * ((k : Nat) : Int) + shiftOf s i).toNat * 1 = i * 17 + firstC s i k := by unfold firstC; omega
    have ix2 : 0 + ((i : Nat) : Int).toNat * 17 + (2 * ((k : Nat) : Int) + shiftOf s i + 1).toNat * 1 = i * 17 + (firstC s i k + 1) := by unfold firstC; omega
    have hg' : ∀ n : Nat, bnd (nth (places (allPl w h)) ((j : Nat) : Int).toNat) as_Pi8_i8Q = some ((i : Int), (k : Int)) := fun n => by rw [Int.toNat_natCast]; exact hg n
    have hst : ∀ q : Bool, Ev (fun n => l_spec_l02Wet_b0 n w h s t fl ((j + 1 : Nat) : Int) (comesOf w h s t r) (places (acc ++ if q = true then [((i : Int), (k : Int))] else [])) (places (allPl w h))) a → q = true → Ev (fun n => l_spec_l02Wet_b0 n w h s t fl ((j + 1 : Nat) : Int) (comesOf w h s t r) (places acc ++ [(V.parts [(V.int .i8 (i : Int)), (V.int .i8 (k : Int))])]) (places (allPl w h))) a := by
      intro q h1 h2
      rw [if_pos h2] at h1
      rw [places_one, ← prs_app]
      exact h1
    have hsf : ∀ q : Bool, Ev (fun n => l_spec_l02Wet_b0 n w h s t fl ((j + 1 : Nat) : Int) (comesOf w h s t r) (places (acc ++ if q = true then [((i : Int), (k : Int))] else [])) (places (allPl w h))) a → ¬ q = true → Ev (fun n => l_spec_l02Wet_b0 n w h s t fl ((j + 1 : Nat) : Int) (comesOf w h s t r) (places acc) (places (allPl w h))) a := by
      intro q h1 h2
      rw [if_neg h2, List.append_nil] at h1
      exact h1
    refine ev_t (by simp [prs_length]; omega) (ev_chk (inB_k _ _ (by rw [places_length]; exact hj)) (ev_bnd (ev_of hg') (ev_bnd (ev_of fun n => l01First_eq n (i : Int) (k : Int) ⟨hb.2.2.2.2.1, hb.2.2.2.2.2⟩ (by omega) (by omega)) (ev_bnd (ev_of hg') (ev_bnd (ev_of hg') (ev_chk (inB_k _ _ (by omega)) (ev_chk (inB_i _ _ (by omega)) ?_)))))))
    rw [ix, up64 j (by omega)]
    unfold wetQ at ih
    refine ev_cnd (fun c1 => ?_) (fun c1 => ?_)
    · refine ev_cnd (fun c2 => ?_) (fun c2 => ?_)
      · exact ev_bnd (ev_of hg') (ev_chk (by simp [prs_length]; omega) (hst _ ih (by rw [c1, Bool.true_or]; exact c2)))
      · exact hsf _ ih (by rw [c1, Bool.true_or, c2]; simp)
    · refine ev_bnd (ev_of hg') (ev_bnd (ev_of hg') (ev_chk (inB_k _ _ (by omega)) ?_))
      rw [w64 _ (by omega)]
      refine ev_chk (inB_i _ _ (by omega)) ?_
      rw [ix2]
      refine ev_cnd (fun c2 => ?_) (fun c2 => ?_)
      · exact ev_bnd (ev_of hg') (ev_chk (by simp [prs_length]; omega) (hst _ ih (by rw [c1, Bool.false_or]; exact c2)))
      · exact hsf _ ih (by rw [c1, Bool.false_or, c2]; simp)) [] (by simp)
  rw [flat_pr, kept_eq] at this
  exact this
theorem l02Wet_ok {w h s : Int} {t r : Nat → Int} (H : RoofV w h s t) (R : RainB r) (fl : Bool) : Ev (fun n => s_spec_l02Wet n w h s t r fl) (places (keptPl w h s t r fl)) := by
  unfold s_spec_l02Wet
  exact ev_bnd (l02Run_ok H R) (ev_bnd (l01All_ok H) (ev_bnd (spec_wet_b0 H fl) ev_some))
theorem WetTiles_1_ok {w h s : Int} {t r ks vs} (H : RoofV w h s t) (hm : WetMap w h s t r (2 * w + 1).toNat 0 ks vs) {i k : Nat} (hi : (i : Int) < h) (hk : (k : Int) < w) (n : Nat) : s_impl_WetTiles_1 n (i : Int) (k : Int) ks vs = some (wetQ w h s t r i k == true) := by
  have hb := H.b
  unfold s_impl_WetTiles_1
  have h1 := place_is (i := (i : Int)) (k := (k : Int)) (by omega) (by omega)
  have h2 := wet_iff H hm hi hk
  unfold placeV at h1 h2
  rw [hm.1, h1, h2]
  cases wetQ w h s t r i k <;> rfl
theorem WetTiles_b2 {w h s : Int} {t r ks vs} (H : RoofV w h s t) (hm : WetMap w h s t r (2 * w + 1).toNat 0 ks vs) (i : Nat) (hi : (i : Int) < h) (acc : List (Int × Int)) (ha : acc.length ≤ 64) :
    Ev (fun n => l_impl_Roof_places__WetTiles_1_b2 n ks vs i h i w 0 w h s t (places acc)) (ks, vs, h, (i : Int), w, h, s, t, places (acc ++ (List.range' 0 w.toNat).flatMap fun (k : Nat) => keepP w h s t r true ((i : Int), (k : Int)))) := by
  have hb := H.b
  refine loop_cat (l := fun n k g => l_impl_Roof_places__WetTiles_1_b2 n ks vs i h i w (k : Nat) w h s t (places g)) (G := fun (k : Nat) => keepP w h s t r true ((i : Int), (k : Int))) (R := fun g => (ks, vs, h, (i : Int), w, h, s, t, places g)) w.toNat 64 1 (fun _ _ => keep_len ..) (fun acc => ev_f (by simp; omega) ev_some) (fun k acc hk hl a ih => ?_) acc ha
  refine ev_t (by simp; omega) (ev_bnd (ev_of fun n => WetTiles_1_ok H hm hi (by omega) n) ?_)
  rw [up8 k (by omega)]
  unfold keepP at ih
  dsimp only at ih
  rw [Int.toNat_natCast, Int.toNat_natCast] at ih
  refine ev_cnd (fun c => ?_) (fun c => ?_)
  · rw [if_pos c] at ih
    refine ev_chk (by simp [prs_length]; omega) ?_
    rw [places_one, ← prs_app]
    exact ih
  · rw [if_neg (by rw [c]; simp), List.append_nil] at ih
    exact ih
theorem WetTiles_places_ok {w h s : Int} {t r ks vs} (H : RoofV w h s t) (hm : WetMap w h s t r (2 * w + 1).toNat 0 ks vs) : Ev (fun n => s_impl_Roof_places__WetTiles_1 n w h s t ks vs) (places (keptPl w h s t r true)) := by
  have hb := H.b
  unfold s_impl_Roof_places__WetTiles_1
  refine ev_bnd (a := places (keptPl w h s t r true)) ?_ ev_some
  have := loop_cat (l := fun n k g => l_impl_Roof_places__WetTiles_1_b0 n ks vs h (k : Nat) w h s t (places g)) (G := fun (i : Nat) => (List.range' 0 w.toNat).flatMap fun (k : Nat) => keepP w h s t r true ((i : Int), (k : Int))) (R := fun g => places g) h.toNat 0 8 (fun k _ => by
    have : ((List.range' 0 w.toNat).flatMap fun (j : Nat) => keepP w h s t r true ((k : Int), (j : Int))).length ≤ w.toNat * 1 := flat_len 0 fun _ _ _ => keep_len ..
    omega) (fun acc => ev_f (by simp; omega) ev_some) (fun k acc hk hl a ih => by
    refine ev_t (by simp; omega) (ev_bnd (WetTiles_b2 H hm k (by omega) acc (by omega)) ?_)
    dsimp only
    rw [up8 k (by omega)]
    exact ih) [] (by simp)
  exact this
theorem law_FnExactWetTiles {w h s : Int} {t r : Nat → Int} (hw : (Lit.int .i8 w).wf = true) (hh : (Lit.int .i8 h).wf = true) (hs : (Lit.int .u8 s).wf = true) (ht : ∀ j, j < 64 → (Lit.int .u8 (t j)).wf = true)
    (hr : ∀ j, j < 17 → (Lit.int .i16 (r j)).wf = true) : Ev (fun n => s_laws_FnExactWetTiles n w h s t r) true := by
  unfold s_laws_FnExactWetTiles
  obtain ⟨t', e1, e2⟩ := toRoof_ok w h s t
  obtain ⟨r', e3, e4⟩ := toRain_ok r
  have H := (RoofT.mk' hw hh hs ht).like e1
  have R := (RainT.mk' hr).like e3
  have k : ∃ (l : List (Int × Int)) (c : Int), l.length ≤ 1000 ∧ Ev (fun n => s_spec_WetTiles n w h s t' r') (places l, c) ∧ Ev (fun n => s_impl_WetTiles n w h s t' r') (places l, c) := by
    unfold s_spec_WetTiles s_impl_WetTiles
    have k1 := l02Ok_ok H R
    have k2 := ValidRain_ok H R
    cases hok : rainOk w h s t' r' with
    | false =>
      rw [hok] at k1 k2
      exact ⟨[], 1, by simp, ev_bnd k1 (ev_f rfl ev_some), ev_bnd k2 (ev_f rfl ev_some)⟩
    | true =>
      rw [hok] at k1 k2
      obtain ⟨h1, h2, _⟩ := rainOk_b hok
      obtain ⟨ks, vs, hm, hrun⟩ := run_ok ⟨H, h1⟩ h2
      have hb := RoofV.b ⟨H, h1⟩
      refine ⟨keptPl w h s t' r' true, 0, by have := kept_len (s := s) (t := t') (r := r') (fl := true) (w := w) (h := h) (by omega) (by omega); omega, ?_, ?_⟩
      · exact ev_bnd k1 (ev_t rfl (ev_bnd (l02Wet_ok ⟨H, h1⟩ h2 true) (ev_chk (plain_places _ _) ev_some)))
      · exact ev_bnd k2 (ev_t rfl (ev_bnd hrun (ev_bnd (WetTiles_places_ok ⟨H, h1⟩ hm) (ev_chk (plain_places _ _) ev_some))))
  obtain ⟨l, c, hl, k1, k2⟩ := k
  have hm := markPlaceS_ok l 1 (by omega)
  have hh := heldPlaceS_ok l.length 1 (by omega)
  refine ev_bnd e2 (ev_bnd e4 (ev_bnd k1 (ev_bnd e2 (ev_bnd e4 (ev_bnd k2 (ev_bnd (eqPlaceS_ok l (by omega)) (ev_t rfl (ev_t (by simp) (ev_bnd hm ?_)))))))))
  refine ev_chk (like_prs _ _ _ _ (by rw [marks2_length])) (ev_bnd hh (ev_f (by simp; omega) (ev_t (by simp) ?_)))
  exact ev_bnd e2 (ev_bnd e4 (ev_bnd k2 (ev_bnd (eqPlaceS_ok l (by omega)) (ev_t rfl (ev_t (by simp) (ev_bnd hh (ev_f (by simp; omega) (ev_t (by simp) ev_some))))))))
theorem DryTiles_1_ok {w h s : Int} {t r ks vs} (H : RoofV w h s t) (hm : WetMap w h s t r (2 * w + 1).toNat 0 ks vs) {i k : Nat} (hi : (i : Int) < h) (hk : (k : Int) < w) (n : Nat) : s_impl_DryTiles_1 n (i : Int) (k : Int) ks vs = some (wetQ w h s t r i k == false) := by
  have hb := H.b
  unfold s_impl_DryTiles_1
  have h1 := place_is (i := (i : Int)) (k := (k : Int)) (by omega) (by omega)
  have h2 := wet_iff H hm hi hk
  unfold placeV at h1 h2
  rw [hm.1, h1, h2]
  cases wetQ w h s t r i k <;> rfl
theorem DryTiles_b2 {w h s : Int} {t r ks vs} (H : RoofV w h s t) (hm : WetMap w h s t r (2 * w + 1).toNat 0 ks vs) (i : Nat) (hi : (i : Int) < h) (acc : List (Int × Int)) (ha : acc.length ≤ 64) :
    Ev (fun n => l_impl_Roof_places__DryTiles_1_b2 n ks vs i h i w 0 w h s t (places acc)) (ks, vs, h, (i : Int), w, h, s, t, places (acc ++ (List.range' 0 w.toNat).flatMap fun (k : Nat) => keepP w h s t r false ((i : Int), (k : Int)))) := by
  have hb := H.b
  refine loop_cat (l := fun n k g => l_impl_Roof_places__DryTiles_1_b2 n ks vs i h i w (k : Nat) w h s t (places g)) (G := fun (k : Nat) => keepP w h s t r false ((i : Int), (k : Int))) (R := fun g => (ks, vs, h, (i : Int), w, h, s, t, places g)) w.toNat 64 1 (fun _ _ => keep_len ..) (fun acc => ev_f (by simp; omega) ev_some) (fun k acc hk hl a ih => ?_) acc ha
  refine ev_t (by simp; omega) (ev_bnd (ev_of fun n => DryTiles_1_ok H hm hi (by omega) n) ?_)
  rw [up8 k (by omega)]
  unfold keepP at ih
  dsimp only at ih
  rw [Int.toNat_natCast, Int.toNat_natCast] at ih
  refine ev_cnd (fun c => ?_) (fun c => ?_)
  · rw [if_pos c] at ih
    refine ev_chk (by simp [prs_length]; omega) ?_
    rw [places_one, ← prs_app]
    exact ih
  · rw [if_neg (by rw [c]; simp), List.append_nil] at ih
    exact ih
theorem DryTiles_places_ok {w h s : Int} {t r ks vs} (H : RoofV w h s t) (hm : WetMap w h s t r (2 * w + 1).toNat 0 ks vs) : Ev (fun n => s_impl_Roof_places__DryTiles_1 n w h s t ks vs) (places (keptPl w h s t r false)) := by
  have hb := H.b
  unfold s_impl_Roof_places__DryTiles_1
  refine ev_bnd (a := places (keptPl w h s t r false)) ?_ ev_some
  have := loop_cat (l := fun n k g => l_impl_Roof_places__DryTiles_1_b0 n ks vs h (k : Nat) w h s t (places g)) (G := fun (i : Nat) => (List.range' 0 w.toNat).flatMap fun (k : Nat) => keepP w h s t r false ((i : Int), (k : Int))) (R := fun g => places g) h.toNat 0 8 (fun k _ => by
    have : ((List.range' 0 w.toNat).flatMap fun (j : Nat) => keepP w h s t r false ((k : Int), (j : Int))).length ≤ w.toNat * 1 := flat_len 0 fun _ _ _ => keep_len ..
    omega) (fun acc => ev_f (by simp; omega) ev_some) (fun k acc hk hl a ih => by
    refine ev_t (by simp; omega) (ev_bnd (DryTiles_b2 H hm k (by omega) acc (by omega)) ?_)
    dsimp only
    rw [up8 k (by omega)]
    exact ih) [] (by simp)
  exact this
theorem law_FnExactDryTiles {w h s : Int} {t r : Nat → Int} (hw : (Lit.int .i8 w).wf = true) (hh : (Lit.int .i8 h).wf = true) (hs : (Lit.int .u8 s).wf = true) (ht : ∀ j, j < 64 → (Lit.int .u8 (t j)).wf = true)
    (hr : ∀ j, j < 17 → (Lit.int .i16 (r j)).wf = true) : Ev (fun n => s_laws_FnExactDryTiles n w h s t r) true := by
  unfold s_laws_FnExactDryTiles
  obtain ⟨t', e1, e2⟩ := toRoof_ok w h s t
  obtain ⟨r', e3, e4⟩ := toRain_ok r
  have H := (RoofT.mk' hw hh hs ht).like e1
  have R := (RainT.mk' hr).like e3
  have k : ∃ (l : List (Int × Int)) (c : Int), l.length ≤ 1000 ∧ Ev (fun n => s_spec_DryTiles n w h s t' r') (places l, c) ∧ Ev (fun n => s_impl_DryTiles n w h s t' r') (places l, c) := by
    unfold s_spec_DryTiles s_impl_DryTiles
    have k1 := l02Ok_ok H R
    have k2 := ValidRain_ok H R
    cases hok : rainOk w h s t' r' with
    | false =>
      rw [hok] at k1 k2
      exact ⟨[], 1, by simp, ev_bnd k1 (ev_f rfl ev_some), ev_bnd k2 (ev_f rfl ev_some)⟩
    | true =>
      rw [hok] at k1 k2
      obtain ⟨h1, h2, _⟩ := rainOk_b hok
      obtain ⟨ks, vs, hm, hrun⟩ := run_ok ⟨H, h1⟩ h2
      have hb := RoofV.b ⟨H, h1⟩
      refine ⟨keptPl w h s t' r' false, 0, by have := kept_len (s := s) (t := t') (r := r') (fl := false) (w := w) (h := h) (by omega) (by omega); omega, ?_, ?_⟩
      · exact ev_bnd k1 (ev_t rfl (ev_bnd (l02Wet_ok ⟨H, h1⟩ h2 false) (ev_chk (plain_places _ _) ev_some)))
      · exact ev_bnd k2 (ev_t rfl (ev_bnd hrun (ev_bnd (DryTiles_places_ok ⟨H, h1⟩ hm) (ev_chk (plain_places _ _) ev_some))))
  obtain ⟨l, c, hl, k1, k2⟩ := k
  have hm := markPlaceS_ok l 1 (by omega)
  have hh := heldPlaceS_ok l.length 1 (by omega)
  refine ev_bnd e2 (ev_bnd e4 (ev_bnd k1 (ev_bnd e2 (ev_bnd e4 (ev_bnd k2 (ev_bnd (eqPlaceS_ok l (by omega)) (ev_t rfl (ev_t (by simp) (ev_bnd hm ?_)))))))))
  refine ev_chk (like_prs _ _ _ _ (by rw [marks2_length])) (ev_bnd hh (ev_f (by simp; omega) (ev_t (by simp) ?_)))
  exact ev_bnd e2 (ev_bnd e4 (ev_bnd k2 (ev_bnd (eqPlaceS_ok l (by omega)) (ev_t rfl (ev_t (by simp) (ev_bnd hh (ev_f (by simp; omega) (ev_t (by simp) ev_some))))))))
end Go.Proofs.Ytgchkigngbpfbaa
