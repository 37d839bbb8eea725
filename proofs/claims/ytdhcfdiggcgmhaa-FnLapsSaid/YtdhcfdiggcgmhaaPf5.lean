/- Law Laps: a tile that is replaced. -/
import Derived.Test.YtdhcfdiggcgmhaaPf4
namespace Go.Proofs.Ytdhcfdiggcgmhaa
open Go
set_option linter.unusedVariables false
set_option linter.unusedSimpArgs false

theorem sp_at_eq (n : Nat) {w h s : Int} {t : Nat → Int} (H : RoofT w h s t) (i k : Nat) (hi : i < 8) (hk : k < 8) : s_spec_l01At n w h s t i k = some (t (i * 8 + k)) := by
  have := H.bt (i * 8 + k) (by omega)
  unfold s_spec_l01At
  rw [inB_k _ _ hi, chk_t, inB_k _ _ hk, chk_t, show 0 + (i : Int).toNat * 8 + (k : Int).toNat * 1 = i * 8 + k by simp, w64 _ (by omega)]
theorem im_at_eq (n : Nat) {w h s : Int} {t : Nat → Int} (i k : Nat) (hi : i < 8) (hk : k < 8) : s_impl_Roof_kind n w h s t i k = some (t (i * 8 + k)) := by
  unfold s_impl_Roof_kind
  rw [inB_k _ _ hi, chk_t, inB_k _ _ hk, chk_t, show 0 + (i : Int).toNat * 8 + (k : Int).toNat * 1 = i * 8 + k by simp]
theorem pl_ix (c k : Nat) : 0 + (c : Int).toNat * 8 + (k : Int).toNat * 1 = c * 8 + k := by simp
theorem im_with_eq (n : Nat) (w h s : Int) (t : Nat → Int) (c k : Nat) (v : Int) (hc : c < 8) (hk : k < 8) : s_impl_Roof_with n w h s t c k v = some (w, h, s, updC t (c * 8 + k) v) := by
  unfold s_impl_Roof_with
  rw [inB_i _ _ (by omega), chk_t, inB_i _ _ (by omega), chk_t, pl_ix]
theorem draw_of {w h s : Int} {t : Nat → Int} (H : RoofV w h s t) : DrawT w h t := fun i k hi hk => by
  have h1 := H.bt (i * 8 + k) (by omega)
  have h2 := roofOk_t H.ok i k hi hk
  exact ⟨h1.1, h2.1, h2.2⟩
section
variable {w h s : Int} {t : Nat → Int} (H : RoofV w h s t) {i k : Nat} (hi : (i : Int) < h) (hk : (k : Int) < w) {x : Int} (hx : 0 ≤ x ∧ x ≤ 3)
include H hi hk hx
theorem impl_set : Ev (fun n => s_impl_SetTile n w h s t i k x) (w, h, s, updC t (i * 8 + k) x, 0) := by
  have hb := H.b
  unfold s_impl_SetTile
  refine ev_bnd (has_ik H i k hi hk) (ev_t rfl (ev_bnd (a := true) ?_ (ev_bnd (roofCode_ok H.toRoofT true) (ev_t (by rw [roofC_ok H]; rfl) ?_))))
  · unfold s_impl_isKind
    exact ev_bnd (ev_of fun n => within_i64 n _ _ _) (ev_cast ev_some (by simp; omega))
  · rw [wu8 x (by omega)]
    exact ev_bnd (ev_of fun n => im_with_eq n w h s t i k x (by omega) (by omega)) ev_some
theorem spec_set : Ev (fun n => s_spec_SetTile n w h s t i k x) (w, h, s, updC t (i * 8 + k) x, 0) := by
  have hb := H.b
  unfold s_spec_SetTile
  rw [wu8 x (by omega), pl_ix]
  refine ev_bnd (ev_of fun n => l01Kind_eq n x) ?_
  rw [show (decide (0 ≤ x) && decide (x ≤ 3)) = true by simp; omega]
  exact ev_bnd (Asked_ik H i k hi hk) (ev_t rfl (ev_chk (inB_i _ _ (by omega)) (ev_chk (inB_i _ _ (by omega)) ev_some)))
theorem set_valid : RoofV w h s (updC t (i * 8 + k) x) := by
  have hb := H.b
  exact draw_valid (by omega) (by omega) (by omega) (draw_put (draw_of H) hi hk (by omega) (by omega) hx)
end
/-- where two roofs differ -/
def difB (t t2 : Nat → Int) (p : Int × Int) : Bool := !decide (t (p.1.toNat * 8 + p.2.toNat) = t2 (p.1.toNat * 8 + p.2.toNat))
def keepD (t t2 : Nat → Int) (i k : Nat) : List (Int × Int) := if difB t t2 ((i : Int), (k : Int)) = true then [((i : Int), (k : Int))] else []
theorem keepD_len (t t2 : Nat → Int) (i k : Nat) : (keepD t t2 i k).length ≤ 1 := by unfold keepD; split <;> simp
def difL (w h : Int) (t t2 : Nat → Int) : List (Int × Int) := (List.range' 0 h.toNat).flatMap fun i => (List.range' 0 w.toNat).flatMap fun k => keepD t t2 i k
theorem dif1_eq (n : Nat) {w h s : Int} {t t2 : Nat → Int} (i k : Nat) (hi : i < 8) (hk : k < 8) : s_impl_DifferIn_1 n i k w h s t w h s t2 = some (difB t t2 ((i : Int), (k : Int))) := by
  unfold s_impl_DifferIn_1
  rw [im_at_eq n i k hi hk, bnd_s, im_at_eq n i k hi hk, bnd_s]
  unfold difB
  simp
theorem dif_b2 {w h s : Int} {t t2 : Nat → Int} (hw : 1 ≤ w ∧ w ≤ 8) (i : Nat) (hi : i < 8) (a9 a10 a11 a12 a13 a14 : Int) (a15 : Nat → Int) (acc : List (Int × Int)) (ha : acc.length ≤ 64) :
    Ev (fun n => l_impl_Roof_places__DifferIn_1_b2 n w h s t w h s t2 i a9 a10 w 0 a12 a13 a14 a15 (places acc)) (w, h, s, t, w, h, s, t2, a9, a10, a12, a13, a14, a15, places (acc ++ (List.range' 0 w.toNat).flatMap fun k => keepD t t2 i k)) := by
  refine loop_cat (l := fun n k g => l_impl_Roof_places__DifferIn_1_b2 n w h s t w h s t2 i a9 a10 w (k : Nat) a12 a13 a14 a15 (places g)) (G := fun k => keepD t t2 i k) (R := fun g => (w, h, s, t, w, h, s, t2, a9, a10, a12, a13, a14, a15, places g)) w.toNat 64 1 (fun k _ => keepD_len ..) (fun acc => ev_f (by simp; omega) ev_some) (fun k acc hk hl a ih => ?_) acc ha
  refine ev_t (by simp; omega) (ev_bnd (ev_of fun n => dif1_eq n i k hi (by omega)) ?_)
  rw [up8 k (by omega)]
  unfold keepD at ih
  cases hd : difB t t2 ((i : Int), (k : Int)) with
  | true =>
    rw [hd, if_pos rfl] at ih
    refine ev_t rfl (ev_chk (by simp [prs_length]; omega) ?_)
    rw [places_one, ← prs_app]
    exact ih
  | false =>
    rw [hd, if_neg (by simp), List.append_nil] at ih
    exact ev_f rfl ih
theorem rowD_len (t t2 : Nat → Int) (N i : Nat) : ((List.range' 0 N).flatMap fun k => keepD t t2 i k).length ≤ N * 1 := flat_len 0 fun j _ _ => keepD_len ..
theorem dif_places {w h s : Int} {t t2 : Nat → Int} (hw : 1 ≤ w ∧ w ≤ 8) (hh : 1 ≤ h ∧ h ≤ 8) : Ev (fun n => s_impl_Roof_places__DifferIn_1 n w h s t w h s t w h s t2) (places (difL w h t t2)) := by
  unfold s_impl_Roof_places__DifferIn_1
  refine ev_bnd (a := places (difL w h t t2)) ?_ ev_some
  have := loop_cat (l := fun n i g => l_impl_Roof_places__DifferIn_1_b0 n w h s t w h s t2 h (i : Nat) w h s t (places g)) (G := fun i => (List.range' 0 w.toNat).flatMap fun k => keepD t t2 i k) (R := fun g => places g) h.toNat 0 8 (fun i _ => by have := rowD_len t t2 w.toNat i; omega) (fun acc => ev_f (by simp; omega) ev_some) (fun i acc hi hl a ih => by
    refine ev_t (by simp; omega) (ev_bnd (dif_b2 hw i (by omega) _ _ 0 _ _ _ _ acc (by omega)) ?_)
    dsimp only
    rw [up8 i (by omega)]
    exact ih) [] (by simp)
  exact this
theorem flat_one {X : List (Int × Int)} {i : Nat} {G : Nat → List (Int × Int)} : ∀ (N s : Nat), (∀ j, s ≤ j → j < s + N → G j = if j = i then X else []) → (List.range' s N).flatMap G = if s ≤ i ∧ i < s + N then X else []
  | 0, s, h => by rw [if_neg (by omega)]; rfl
  | N + 1, s, h => by
    rw [List.range'_succ, List.flatMap_cons, flat_one N (s + 1) fun j h1 h2 => h j (by omega) (by omega), h s (by omega) (by omega)]
    by_cases h1 : s = i
    · rw [if_pos h1, if_neg (by omega), if_pos (by omega), List.append_nil]
    · rw [if_neg h1, List.nil_append]
      by_cases h2 : s + 1 ≤ i ∧ i < s + 1 + N
      · rw [if_pos h2, if_pos (by omega)]
      · rw [if_neg h2, if_neg (by omega)]
theorem difL_put {w h : Int} {t : Nat → Int} {i k : Nat} (hi : (i : Int) < h) (hk : (k : Int) < w) (hw : w ≤ 8) (x : Int) : difL w h t (updC t (i * 8 + k) x) = if t (i * 8 + k) = x then [] else [((i : Int), (k : Int))] := by
  unfold difL
  have row : ∀ i', (List.range' 0 w.toNat).flatMap (fun k' => keepD t (updC t (i * 8 + k) x) i' k') = if i' = i then (if t (i * 8 + k) = x then [] else [((i : Int), (k : Int))]) else [] := by
    intro i'
    rw [flat_one (X := if i' = i then (if t (i * 8 + k) = x then [] else [((i : Int), (k : Int))]) else []) (i := k) w.toNat 0 (fun k' _ hk' => ?_), if_pos (by omega)]
    have other : ¬ i' * 8 + k' = i * 8 + k → keepD t (updC t (i * 8 + k) x) i' k' = [] := by
      intro hne
      have e : updC t (i * 8 + k) x (i' * 8 + k') = t (i' * 8 + k') := by rw [updC_at, if_neg hne]
      have hd : difB t (updC t (i * 8 + k) x) ((i' : Int), (k' : Int)) = false := by
        unfold difB
        simp only [Int.toNat_natCast]
        simp [e]
      unfold keepD
      rw [hd]
      rfl
    by_cases h1 : k' = k
    · rw [if_pos h1]
      by_cases h2 : i' = i
      · rw [if_pos h2]
        subst h1 h2
        have e : updC t (i' * 8 + k') x (i' * 8 + k') = x := by rw [updC_at, if_pos rfl]
        have hd : difB t (updC t (i' * 8 + k') x) ((i' : Int), (k' : Int)) = !decide (t (i' * 8 + k') = x) := by
          unfold difB
          simp only [Int.toNat_natCast]
          simp [e]
        unfold keepD
        rw [hd]
        by_cases h3 : t (i' * 8 + k') = x <;> simp [h3]
      · rw [if_neg h2]
        exact other (by omega)
    · rw [if_neg h1]
      exact other (by omega)
  rw [show (fun i' => (List.range' 0 w.toNat).flatMap (fun k' => keepD t (updC t (i * 8 + k) x) i' k')) = fun i' => if i' = i then (if t (i * 8 + k) = x then [] else [((i : Int), (k : Int))]) else [] from funext row]
  rw [flat_one (i := i) h.toNat 0 (fun j _ _ => rfl), if_pos (by omega)]
theorem differ_ok {w h s : Int} {t t2 : Nat → Int} (H : RoofV w h s t) (H2 : RoofV w h s t2) : Ev (fun n => s_impl_DifferIn n w h s t w h s t2) (places (difL w h t t2), 0) := by
  have hb := H.b
  unfold s_impl_DifferIn
  refine ev_bnd (ValidRoof_ok H.toRoofT) (ev_t H.ok (ev_bnd (ValidRoof_ok H2.toRoofT) (ev_t H2.ok (ev_bnd (a := true) ?_ (ev_t rfl (ev_bnd (dif_places (by omega) (by omega)) (ev_chk (plain_places _ _) ev_some)))))))
  unfold s_impl_Roof_isAlike
  exact ev_t (by simp) (ev_t (by simp) (ev_cast ev_some (by simp)))
theorem kindAt_ok {w h s : Int} {t : Nat → Int} (H : RoofV w h s t) {i k : Nat} (hi : (i : Int) < h) (hk : (k : Int) < w) : Ev (fun n => s_spec_KindAt n w h s t i k) (t (i * 8 + k), 0) := by
  have hb := H.b
  unfold s_spec_KindAt
  exact ev_bnd (Asked_ik H i k hi hk) (ev_t rfl (ev_bnd (ev_of fun n => sp_at_eq n H.toRoofT i k (by omega) (by omega)) ev_some))
theorem flat_const {G : Nat → List (Int × Int)} {M : Nat} : ∀ (N k : Nat), (∀ j, (G j).length = M) → ((List.range' k N).flatMap G).length = N * M
  | 0, k, _ => by simp
  | N + 1, k, h => by rw [List.range'_succ, List.flatMap_cons, List.length_append, h k, flat_const N (k + 1) h, Nat.succ_mul]; omega
theorem allPl_n (w h : Int) : (allPl w h).length = h.toNat * w.toNat := by
  unfold allPl
  refine flat_const _ _ fun j => ?_
  rw [flat_const (M := 1) _ _ fun _ => rfl]
  omega
theorem law_FnLaps {xs ys : List V} (hx : xs.length ≤ maxLen ∧ ∀ x, x ∈ xs → inL [.int .u8] [x]) (hy : ys.length ≤ maxLen ∧ ∀ x, x ∈ ys → inL [.int .u8] [x]) : Ev (fun n => s_laws_FnLaps n xs ys) true := by
  obtain ⟨l, rfl, hl⟩ := ints_of hx.2
  obtain ⟨m, rfl, hm⟩ := ints_of hy.2
  unfold s_laws_FnLaps
  have long : Ev (fun n => s_laws_a2Long n (ints .u8 l) (ints .u8 m)) (decide (3000 < l.length) || decide (3000 < m.length)) := by
    unfold s_laws_a2Long
    by_cases h1 : 3000 < l.length
    · exact ev_t (by simp [ints_length]; omega) (ev_cast ev_some (by simp [h1]))
    · refine ev_f (by simp [ints_length]; omega) (ev_cast ev_some ?_)
      rw [show decide (3000 < l.length) = false by simpa using h1, Bool.false_or, Bool.eq_iff_iff]
      simp [ints_length]; omega
  refine ev_bnd long (ev_cnd (fun c => ev_some) (fun c => ?_))
  simp only [Bool.or_eq_false_iff, decide_eq_false_iff_not] at c
  have Bl : Bytes l := ⟨by omega, fun y hy => by have := wf_u8 (hl y hy); omega⟩
  have Bm : Bytes m := ⟨by omega, fun y hy => by have := wf_u8 (hm y hy); omega⟩
  refine tot_bndE (A2Roof_ok Bl) ?_
  rintro v ⟨w, h, s, t, rfl, H⟩
  have hb := H.b
  have hN := allPl_len (w := w) (h := h) (by omega) (by omega)
  have hpl : Ev (fun n => s_spec_A2Places n w h s t) (places (allPl w h)) := by
    unfold s_spec_A2Places
    exact ev_bnd (l01All_ok H) (ev_chk (plain_places _ _) ev_some)
  have hq : ∀ j, j < (allPl w h).length → ∃ i k : Nat, pr (allPl w h) j = ((i : Int), (k : Int)) ∧ (i : Int) < h ∧ (k : Int) < w := by
    intro j hj
    obtain ⟨m1, m2, m3, m4⟩ := allPl_mem (pr_mem hj)
    exact ⟨(pr (allPl w h) j).1.toNat, (pr (allPl w h) j).2.toNat, Prod.ext (by dsimp only; omega) (by dsimp only; omega), by omega, by omega⟩
  refine ev_bnd hpl (ev_bnd (laps_b0 H hq hN) (ev_bnd (laps_b6 H _) ?_))
  have hn : (((allPl w h).length : Nat) : Int) = h * w := by
    rw [allPl_n, Int.natCast_mul]
    rw [show ((h.toNat : Nat) : Int) = h by omega, show ((w.toNat : Nat) : Int) = w by omega]
  have hmul : h * (2 * w + 1) = 2 * (h * w) + h := by rw [Int.mul_add, Int.mul_one, Int.mul_left_comm]
  refine ev_t ?_ (ev_t ?_ ?_)
  · rw [w64 w (by omega), w64 (2 * w) (by omega), w64 (2 * w + 1) (by omega), w64 h (by omega), hmul, ← hn, w64 _ (by omega), w64 _ (by omega)]
    simp
  · rw [w64 h (by omega)]
    simp
  refine tot_bndE (A2Place_ok Bm H) ?_
  rintro v ⟨i, k, rfl, hi, hk⟩
  refine tot_bndE (a2At_ok Bm) fun x hx => ?_
  have H2 := set_valid H hi hk hx
  refine ev_bnd (impl_set H hi hk hx) (ev_bnd (spec_set H hi hk hx) (ev_t (by simp) (ev_t rfl (ev_t (by simp [eqParts, allEq]) (ev_bnd (differ_ok H H2) (ev_bnd (kindAt_ok H hi hk) (ev_t rfl (ev_t rfl ?_))))))))
  dsimp only
  rw [difL_put hi hk (by omega)]
  by_cases he : t (i * 8 + k) = x
  · rw [if_pos he]
    exact ev_t (by simp [he, prs]) (ev_f (by simp [prs]) (ev_t (by simp [prs]) ev_some))
  · rw [if_neg he]
    refine ev_t (by simp [he, prs]) (ev_f (by simp [prs]) (ev_f (by simp [prs]) (ev_chk rfl (ev_bnd (a := ((i : Int), (k : Int))) (ev_of fun n => rfl) ?_))))
    refine ev_cast ev_some ?_
    dsimp only
    rw [eqPl]
    simp
end Go.Proofs.Ytdhcfdiggcgmhaa
