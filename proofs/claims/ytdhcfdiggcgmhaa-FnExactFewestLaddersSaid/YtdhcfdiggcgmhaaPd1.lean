/- Law ReachFrom. -/
import Derived.Test.YtdhcfdiggcgmhaaPb0
import Derived.Test.YtdhcfdiggcgmhaaSh6
namespace Go.Proofs.Ytdhcfdiggcgmhaa
open Go
set_option linter.unusedVariables false
set_option linter.unusedSimpArgs false

def firstF (s i k : Int) : Int := 2 * k + shiftOf s i
def canR (s a e : Int) (i k : Int) : Bool := decide (firstF s i k - e ≤ a) && decide (a ≤ firstF s i k + 1 + e)
theorem l04Can_eq (n : Nat) {w h s : Int} {t : Nat → Int} (a e i k : Int) (hs : 0 ≤ s ∧ s ≤ 1) (hi : 0 ≤ i ∧ i ≤ 1000) (hk : 0 ≤ k ∧ k ≤ 1000) (he : 0 ≤ e ∧ e ≤ 1000) : s_spec_l04Can n w h s t a e i k = some (canR s a e i k) := by
  have := shiftOf_b s i
  unfold s_spec_l04Can canR firstF
  rw [l01First_eq n i k hs hi hk, bnd_s, l00In_eq, w64 _ (by omega), w64 (2 * k + shiftOf s i + 1) (by omega), w64 _ (by omega)]
  rfl
theorem Index_ok (x y a e : Int) (hx : 0 ≤ x ∧ x ≤ 100000) (hy : 0 ≤ y ∧ y ≤ 100000) (ha : 0 ≤ a ∧ a ≤ 1000) (he : 0 ≤ e ∧ e ≤ 1000) :
    Ev (fun n => s_slices_ContainsFunc_Sint_int__Roof_reaches_1 n [(V.int .i64 x), (V.int .i64 y)] a e) ((decide (a - e ≤ x) && decide (x ≤ a + e)) || (decide (a - e ≤ y) && decide (y ≤ a + e))) := by
  have h1 : ∀ (n : Nat) (z : Int), s_impl_Roof_reaches_1 n z a e = some (decide (a - e ≤ z) && decide (z ≤ a + e)) := by
    intro n z
    unfold s_impl_Roof_reaches_1
    rw [within_i64, w64 (a - e) (by omega), w64 (a + e) (by omega)]
    rfl
  unfold s_slices_ContainsFunc_Sint_int__Roof_reaches_1 s_slices_IndexFunc_Sint_int__Roof_reaches_1
  have key : Ev (fun n => l_slices_IndexFunc_Sint_int__Roof_reaches_1_b0 n [(V.int .i64 x), (V.int .i64 y)] a e (([(V.int .i64 x), (V.int .i64 y)] : List V).length : Int) 0) (sel (decide (a - e ≤ x) && decide (x ≤ a + e)) (.inr 0) (sel (decide (a - e ≤ y) && decide (y ≤ a + e)) (.inr 1) (.inl ()))) := by
    refine ev_succ (ev_t (by simp) (ev_bnd (a := x) (ev_of fun n => rfl) (ev_bnd (ev_of fun n => h1 n x) ?_)))
    cases (decide (a - e ≤ x) && decide (x ≤ a + e)) with
    | true => exact ev_t rfl ev_some
    | false =>
      refine ev_f rfl (ev_succ ?_)
      rw [show IntKind.i64.wrap ((0 : Int) + 1) = 1 from rfl]
      refine ev_t (by simp) (ev_bnd (a := y) (ev_of fun n => rfl) (ev_bnd (ev_of fun n => h1 n y) ?_))
      cases (decide (a - e ≤ y) && decide (y ≤ a + e)) with
      | true => exact ev_t rfl ev_some
      | false =>
        refine ev_f rfl (ev_succ ?_)
        rw [show IntKind.i64.wrap ((1 : Int) + 1) = 2 from rfl]
        exact ev_f (by simp) ev_some
  refine ev_bnd (ev_bnd key (b := sel (decide (a - e ≤ x) && decide (x ≤ a + e)) 0 (sel (decide (a - e ≤ y) && decide (y ≤ a + e)) 1 (-1))) ?_) ?_
  · cases (decide (a - e ≤ x) && decide (x ≤ a + e)) <;> cases (decide (a - e ≤ y) && decide (y ≤ a + e)) <;> exact ev_some
  · refine ev_cast ev_some ?_
    cases (decide (a - e ≤ x) && decide (x ≤ a + e)) <;> cases (decide (a - e ≤ y) && decide (y ≤ a + e)) <;> rfl
theorem reaches_ok {w h s : Int} {t : Nat → Int} (a e i k : Int) (hs : 0 ≤ s ∧ s ≤ 1) (hi : 0 ≤ i ∧ i ≤ 1000) (hk : 0 ≤ k ∧ k ≤ 1000) (ha : 0 ≤ a ∧ a ≤ 1000) (he : 0 ≤ e ∧ e ≤ 1000) :
    Ev (fun n => s_impl_Roof_reaches n w h s t a e i k) (canR s a e i k) := by
  have := shiftOf_b s i
  unfold s_impl_Roof_reaches
  refine ev_bnd (a := [(V.int .i64 (firstF s i k)), (V.int .i64 (firstF s i k + 1))]) (ev_of fun n => ?_) (ev_bnd (Index_ok _ _ a e (by unfold firstF; omega) (by unfold firstF; omega) ha he) (ev_cast ev_some ?_))
  · unfold s_impl_Roof_cellsOf firstF
    rw [w64 i (by omega), w64 k (by omega), shift_eq n i hs (by omega), bnd_s, w64 (2 * k) (by omega), w64 (2 * k + shiftOf s i) (by omega), w64 _ (by omega)]
  · unfold canR firstF
    rw [Bool.eq_iff_iff]
    simp
    omega
def keepR (s a e : Int) (p : Int × Int) : List (Int × Int) := if canR s a e p.1 p.2 = true then [(p.1, p.2)] else []
theorem keepR_len (s a e : Int) (p : Int × Int) : (keepR s a e p).length ≤ 1 := by
  unfold keepR; split <;> simp
theorem flat_pr {β : Type} (F : Int × Int → List β) (L : List (Int × Int)) : (List.range' 0 L.length).flatMap (fun j => F (pr L j)) = L.flatMap F := by
  have : L = (List.range' 0 L.length).map (pr L) := by
    apply List.ext_getElem?
    intro j
    by_cases hj : j < L.length
    · rw [pr_get hj]; simp [hj]
    · rw [List.getElem?_eq_none (by omega), List.getElem?_eq_none (by simp; omega)]
  conv => rhs; rw [this]
  rw [List.flatMap_map]
def reachPl (w h s a e : Int) : List (Int × Int) := (List.range' 0 h.toNat).flatMap fun (i : Nat) => (List.range' 0 w.toNat).flatMap fun (k : Nat) => keepR s a e ((i : Int), (k : Int))
theorem reach_eq (w h s a e : Int) : (allPl w h).flatMap (keepR s a e) = reachPl w h s a e := by
  simp [allPl, reachPl, List.flatMap_assoc]
theorem reach_len {w h s a e : Int} (hw : w ≤ 8) (hh : h ≤ 8) : (reachPl w h s a e).length ≤ 64 := by
  have h1 : (reachPl w h s a e).length ≤ h.toNat * 8 := flat_len 0 fun j _ _ => by
    have : ((List.range' 0 w.toNat).flatMap fun (k : Nat) => keepR s a e ((j : Int), (k : Int))).length ≤ w.toNat * 1 := flat_len 0 fun _ _ _ => keepR_len ..
    omega
  omega
theorem spec_reach_b0 {w h s : Int} {t : Nat → Int} (H : RoofV w h s t) {a e : Int} (he : 0 ≤ e ∧ e ≤ 8) : Ev (fun n => l_spec_ReachFrom_b0 n a e 0 w h s t [] (places (allPl w h))) (places (reachPl w h s a e)) := by
  have hb := H.b
  have hL := allPl_len (w := w) (h := h) (by omega) (by omega)
  have := loop_cat (l := fun n k g => l_spec_ReachFrom_b0 n a e (k : Nat) w h s t (places g) (places (allPl w h))) (G := fun j => keepR s a e (pr (allPl w h) j)) (R := fun g => places g) (allPl w h).length 0 1 (fun _ _ => keepR_len ..) (fun acc => ev_f (by simp [prs_length]) ev_some) (fun j acc hj hl v ih => by
    obtain ⟨m1, m2, m3, m4⟩ := allPl_mem (pr_mem hj)
    have hg : ∀ n : Nat, bnd (nth (places (allPl w h)) ((j : Nat) : Int).toNat) as_Pi8_i8Q = some ((pr (allPl w h) j).1, (pr (allPl w h) j).2) := fun n => by rw [Int.toNat_natCast, nth_prs _ _ _ _ hj]; rfl
    unfold keepR at ih
    refine ev_t (by simp [prs_length]; omega) (ev_chk (inB_k _ _ (by rw [places_length]; exact hj)) (ev_bnd (ev_of hg) (ev_bnd (ev_of fun n => l04Can_eq n a e _ _ ⟨hb.2.2.2.2.1, hb.2.2.2.2.2⟩ (by omega) (by omega) (by omega)) ?_)))
    rw [up64 j (by omega)]
    refine ev_cnd (fun c => ?_) (fun c => ?_)
    · rw [if_pos c] at ih
      refine ev_bnd (ev_of hg) (ev_chk (by simp [prs_length]; omega) ?_)
      rw [places_one, ← prs_app]
      exact ih
    · rw [if_neg (by rw [c]; simp), List.append_nil] at ih
      exact ih) [] (by simp)
  rw [flat_pr, reach_eq] at this
  exact this
theorem reach_b2 {w h s : Int} {t : Nat → Int} (H : RoofV w h s t) {a e : Int} (ha : 0 ≤ a ∧ a ≤ 1000) (he : 0 ≤ e ∧ e ≤ 8) (i : Nat) (hi : (i : Int) < h) (acc : List (Int × Int)) (hc : acc.length ≤ 64) :
    Ev (fun n => l_impl_Roof_places__ReachFrom_1_b2 n w h s t a e i h i w 0 w h s t (places acc)) (w, h, s, t, a, e, h, (i : Int), w, h, s, t, places (acc ++ (List.range' 0 w.toNat).flatMap fun (k : Nat) => keepR s a e ((i : Int), (k : Int)))) := by
  have hb := H.b
  refine loop_cat (l := fun n k g => l_impl_Roof_places__ReachFrom_1_b2 n w h s t a e i h i w (k : Nat) w h s t (places g)) (G := fun (k : Nat) => keepR s a e ((i : Int), (k : Int))) (R := fun g => (w, h, s, t, a, e, h, (i : Int), w, h, s, t, places g)) w.toNat 64 1 (fun _ _ => keepR_len ..) (fun acc => ev_f (by simp; omega) ev_some) (fun k acc hk hl v ih => ?_) acc hc
  refine ev_t (by simp; omega) (ev_bnd (a := canR s a e i k) (by
    unfold s_impl_ReachFrom_1
    exact ev_bnd (reaches_ok a e _ _ ⟨hb.2.2.2.2.1, hb.2.2.2.2.2⟩ (by omega) (by omega) ha (by omega)) ev_some) ?_)
  rw [up8 k (by omega)]
  unfold keepR at ih
  dsimp only at ih
  refine ev_cnd (fun c => ?_) (fun c => ?_)
  · rw [if_pos c] at ih
    refine ev_chk (by simp [prs_length]; omega) ?_
    rw [places_one, ← prs_app]
    exact ih
  · rw [if_neg (by rw [c]; simp), List.append_nil] at ih
    exact ih
theorem reach_places_ok {w h s : Int} {t : Nat → Int} (H : RoofV w h s t) {a e : Int} (ha : 0 ≤ a ∧ a ≤ 1000) (he : 0 ≤ e ∧ e ≤ 8) : Ev (fun n => s_impl_Roof_places__ReachFrom_1 n w h s t w h s t a e) (places (reachPl w h s a e)) := by
  have hb := H.b
  unfold s_impl_Roof_places__ReachFrom_1
  refine ev_bnd (a := places (reachPl w h s a e)) ?_ ev_some
  have := loop_cat (l := fun n k g => l_impl_Roof_places__ReachFrom_1_b0 n w h s t a e h (k : Nat) w h s t (places g)) (G := fun (i : Nat) => (List.range' 0 w.toNat).flatMap fun (k : Nat) => keepR s a e ((i : Int), (k : Int))) (R := fun g => places g) h.toNat 0 8 (fun k _ => by
    have : ((List.range' 0 w.toNat).flatMap fun (j : Nat) => keepR s a e ((k : Int), (j : Int))).length ≤ w.toNat * 1 := flat_len 0 fun _ _ _ => keepR_len ..
    omega) (fun acc => ev_f (by simp; omega) ev_some) (fun k acc hk hl v ih => by
    refine ev_t (by simp; omega) (ev_bnd (reach_b2 H ha he k (by omega) acc (by omega)) ?_)
    dsimp only
    rw [up8 k (by omega)]
    exact ih) [] (by simp)
  exact this
theorem roofC_zero {w h s : Int} {t : Nat → Int} {b : Bool} (hc : roofC w h s t b = 0) : roofOk w h s t = true ∧ b = true := by
  unfold roofC at hc
  cases h1 : roofOk w h s t <;> cases h2 : b <;> simp_all [sel]
theorem law_FnExactReachFrom {w h s a e : Int} {t : Nat → Int} (hw : (Lit.int .i8 w).wf = true) (hh : (Lit.int .i8 h).wf = true) (hs : (Lit.int .u8 s).wf = true) (ht : ∀ j, j < 64 → (Lit.int .u8 (t j)).wf = true)
    (ha : (Lit.int .i64 a).wf = true) (he : (Lit.int .i64 e).wf = true) : Ev (fun n => s_laws_FnExactReachFrom n w h s t a e) true := by
  unfold s_laws_FnExactReachFrom
  obtain ⟨t', e1, e2⟩ := toRoof_ok w h s t
  have H := (RoofT.mk' hw hh hs ht).like e1
  have k : ∃ (l : List (Int × Int)) (c : Int), l.length ≤ 1000 ∧ Ev (fun n => s_spec_ReachFrom n w h s t' a e) (places l, c) ∧ Ev (fun n => s_impl_ReachFrom n w h s t' a e) (places l, c) := by
    unfold s_spec_ReachFrom s_impl_ReachFrom
    have hbw := H.bw
    have c1 : Ev (fun n => s_spec_l04Cell n w h s t' a) (decide (0 ≤ a) && decide (a ≤ 2 * w)) := by
      unfold s_spec_l04Cell
      refine ev_bnd (ev_of fun n => l01Cells_eq n H) (ev_bnd (ev_of fun n => l00In_eq n _ _ _) ?_)
      rw [w64 _ (by omega), show 2 * w + 1 - 1 = 2 * w by omega]
      exact ev_some
    have c2 : Ev (fun n => s_impl_Roof_isCellNumber n w h s t' a) (decide (0 ≤ a) && decide (a ≤ 2 * w)) := by
      unfold s_impl_Roof_isCellNumber
      refine ev_bnd (ev_of fun n => cells_eq n H) (ev_bnd (ev_of fun n => within_i64 n _ _ _) ?_)
      rw [w64 _ (by omega), show 2 * w + 1 - 1 = 2 * w by omega]
      exact ev_some
    cases hc : (decide (0 ≤ a) && decide (a ≤ 2 * w)) with
    | false =>
      rw [hc] at c1 c2
      have hz : ∀ x, roofC w h s t' false = x → ¬ x = 0 := fun x hx h0 => by have := roofC_zero (hx.trans h0); simp at this
      exact ⟨[], roofC w h s t' false, by simp, ev_bnd c1 (ev_f rfl (ev_bnd (l01Told_ok H false) (ev_f (by simpa using hz _ rfl) ev_some))), ev_bnd c2 (ev_f rfl (ev_bnd (roofCode_ok H false) (ev_f (by simpa using hz _ rfl) ev_some)))⟩
    | true =>
      rw [hc] at c1 c2
      simp only [Bool.and_eq_true, decide_eq_true_eq] at hc
      have d1 : Ev (fun n => s_spec_l04Reach n e) (decide (0 ≤ e) && decide (e ≤ 8)) := by
        unfold s_spec_l04Reach; exact ev_bnd (ev_of fun n => l00In_eq n _ _ _) ev_some
      have d2 : Ev (fun n => s_impl_isReach n e) (decide (0 ≤ e) && decide (e ≤ 8)) := by
        unfold s_impl_isReach; exact ev_bnd (ev_of fun n => within_i64 n _ _ _) ev_some
      by_cases hz : roofC w h s t' (decide (0 ≤ e) && decide (e ≤ 8)) = 0
      · obtain ⟨hok, hr⟩ := roofC_zero hz
        simp only [Bool.and_eq_true, decide_eq_true_eq] at hr
        have hV : RoofV w h s t' := ⟨H, hok⟩
        have hb := hV.b
        refine ⟨reachPl w h s a e, 0, by have := reach_len (w := w) (h := h) (s := s) (a := a) (e := e) (by omega) (by omega); omega, ?_, ?_⟩
        · exact ev_bnd c1 (ev_t rfl (ev_bnd d1 (ev_bnd (l01Told_ok H _) (ev_t (by simpa using hz) (ev_bnd (l01All_ok hV) (ev_chk (plain_places _ _) (ev_bnd (spec_reach_b0 hV hr) ev_some)))))))
        · exact ev_bnd c2 (ev_t rfl (ev_bnd d2 (ev_bnd (roofCode_ok H _) (ev_t (by simpa using hz) (ev_bnd (reach_places_ok hV (by omega) hr) (ev_chk (plain_places _ _) ev_some))))))
      · exact ⟨[], _, by simp, ev_bnd c1 (ev_t rfl (ev_bnd d1 (ev_bnd (l01Told_ok H _) (ev_f (by simpa using hz) ev_some)))), ev_bnd c2 (ev_t rfl (ev_bnd d2 (ev_bnd (roofCode_ok H _) (ev_f (by simpa using hz) ev_some))))⟩
  obtain ⟨l, c, hl, k1, k2⟩ := k
  have hm := markPlaceS_ok l 1 (by omega)
  have hh := heldPlaceS_ok l.length 1 (by omega)
  refine ev_bnd e2 (ev_bnd k1 (ev_bnd e2 (ev_bnd k2 (ev_bnd (eqPlaceS_ok l (by omega)) (ev_t rfl (ev_t (by simp) (ev_bnd hm ?_)))))))
  refine ev_chk (like_prs _ _ _ _ (by rw [marks2_length])) (ev_bnd hh (ev_f (by simp; omega) (ev_t (by simp) ?_)))
  exact ev_bnd e2 (ev_bnd k2 (ev_bnd (eqPlaceS_ok l (by omega)) (ev_t rfl (ev_t (by simp) (ev_bnd hh (ev_f (by simp; omega) (ev_t (by simp) ev_some)))))))
end Go.Proofs.Ytdhcfdiggcgmhaa
