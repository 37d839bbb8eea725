/- Laws DripAfter, CheckRepairs. -/
import Derived.Test.YtdhcfdiggcgmhaaPq0
import Derived.Test.YtdhcfdiggcgmhaaPb4
namespace Go.Proofs.Ytdhcfdiggcgmhaa
open Go
set_option linter.unusedVariables false
set_option linter.unusedSimpArgs false

def mendF (t : Nat → Int) (p : Int × Int) : Nat → Int := updC t (p.1.toNat * 8 + p.2.toNat) 0
def mendT (t : Nat → Int) (m : List (Int × Int)) : Nat → Int := m.foldl mendF t
theorem mendT_V {w h s : Int} : ∀ (m : List (Int × Int)) {t : Nat → Int}, RoofV w h s t → RoofV w h s (mendT t m)
  | [], t, H => H
  | p :: m, t, H => mendT_V m (H.put _)
theorem isQ_b {w h : Int} {p : Int × Int} (hw : w ≤ 8) (hh : h ≤ 8) (hq : isQ w h p = true) : (0 ≤ p.1 ∧ p.1 < 8) ∧ (0 ≤ p.2 ∧ p.2 < 8) := by
  simp only [isQ, decide_eq_true_eq] at hq; omega
theorem allP_at {q : Int × Int → Bool} {m : List (Int × Int)} (h : allP q m = true) {j : Nat} (hj : j < m.length) : q (pr m j) = true := (allN_iff _ _ _).1 h j (by omega) (by omega)
theorem l03After_ok {w h s : Int} {t r : Nat → Int} (H : RoofV w h s t) (R : RainB r) {m : List (Int × Int)} (hm : m.length ≤ 1048576) (hq : allP (isQ w h) m = true) : Ev (fun n => s_spec_l03After n w h s t r (places m)) (allSum (dripsOf w h s (mendT t m) r)) := by
  unfold s_spec_l03After
  have hb := H.b
  obtain ⟨v, hv, h1⟩ := loop_up (l := fun n k (st : Nat → Int) => l_spec_l03After_b0 n r (places m) (k : Nat) w h s st) (I := fun k st => st = (m.take k).foldl mendF t) (P := fun v => v = (r, w, h, s, mendT t m)) m.length (by
    intro k st hk hst ih
    by_cases hlt : k < m.length
    · obtain ⟨b1, b2⟩ := isQ_b (by omega) (by omega) (allP_at hq hlt)
      refine tot_t (by simp [prs_length]; omega) (tot_ev (a := ((pr m k).1, (pr m k).2)) (ev_of fun n => by rw [idx_prs _ _ _ _ hlt]; rfl) (tot_ev (a := ((pr m k).1, (pr m k).2)) (ev_of fun n => by rw [idx_prs _ _ _ _ hlt]; rfl) ?_))
      dsimp only
      refine tot_chk (inB_i _ _ (by omega)) (tot_chk (inB_i _ _ (by omega)) ?_)
      rw [up64 k (by omega), place_ix]
      exact ih hlt _ (by rw [take_fold _ _ _ _ hlt, hst]; rfl)
    · obtain rfl : k = m.length := by omega
      rw [List.take_length] at hst
      subst hst
      exact tot_f (by simp [prs_length]) (tot_some rfl)) 0 t (by omega) rfl
  subst hv
  exact ev_bnd h1 (ev_bnd (l02Sum_ok (mendT_V m H) R) ev_some)
theorem after_ok {w h s : Int} {t r : Nat → Int} (H : RoofV w h s t) (R : RainB r) {m : List (Int × Int)} (hm : m.length ≤ 1048576) (hq : allP (isQ w h) m = true) : Ev (fun n => s_impl_Roof_after n w h s t r (places m)) (allSum (dripsOf w h s (mendT t m) r)) := by
  unfold s_impl_Roof_after s_impl_Roof_mended
  have hb := H.b
  rw [show ((places m).length : Int) = (m.length : Int) by simp [prs_length]]
  obtain ⟨v, hv, h1⟩ := loop_up (l := fun n k (st : Nat → Int) => l_impl_Roof_mended_b0 n (places m) (m.length : Int) (k : Nat) w h s st 0 0 0 (fun _ => 0)) (I := fun k st => st = (m.take k).foldl mendF t) (P := fun v => v = (w, h, s, mendT t m, 0, 0, 0, fun _ => 0)) m.length (by
    intro k st hk hst ih
    by_cases hlt : k < m.length
    · obtain ⟨b1, b2⟩ := isQ_b (by omega) (by omega) (allP_at hq hlt)
      refine tot_t (by simp; omega) (tot_ev (a := ((pr m k).1, (pr m k).2)) (ev_of fun n => by rw [idx_prs _ _ _ _ hlt]; rfl) (tot_ev (ev_of fun n => with_eq n w h s st _ _ 0 b1 b2) ?_))
      rw [up64 k (by omega)]
      exact ih hlt _ (by rw [take_fold _ _ _ _ hlt, hst]; rfl)
    · obtain rfl : k = m.length := by omega
      rw [List.take_length] at hst
      subst hst
      exact tot_f (by simp) (tot_some rfl)) 0 t (by omega) rfl
  subst hv
  exact ev_bnd (ev_bnd h1 ev_some) (ev_bnd (dripSum_ok (mendT_V m H) R) ev_some)
theorem l03Places_ok {w h s : Int} {t r : Nat → Int} (H : RoofT w h s t) (R : RainT r) {m : List (Int × Int)} (hm : PlT m) (b : Bool) : Ev (fun n => s_spec_l03Places n w h s t r (places m) b) (rainC w h s t r (b && allP (isQ w h) m)) := by
  unfold s_spec_l03Places rainC
  have hmn := hm.n
  refine ev_bnd (l02Ok_ok H R) ?_
  cases rainOk w h s t r with
  | false => exact ev_f rfl ev_some
  | true =>
    refine ev_t rfl ?_
    obtain ⟨v, hv, h2⟩ := loop_up (l := fun n k (q : Bool) => l_spec_l03Places_b0 n w h s t (places m) q (k : Nat)) (I := fun k q => q = (b && allN (fun j => isQ w h (pr m j)) 0 k))
      (P := fun v => v = (b && allP (isQ w h) m)) m.length (by
      intro k q hk hq ih
      by_cases hlt : k < m.length
      · have hb := hm.b k hlt
        refine tot_t (by simp [prs_length]; omega) ?_
        rw [up64 k (by omega)]
        refine tot_cnd (fun c => ?_) (fun c => ?_)
        · refine tot_ev (a := ((pr m k).1, (pr m k).2)) (ev_of fun n => by rw [idx_prs _ _ _ _ hlt]; rfl) (tot_ev (ev_of fun n => l01Is_eq n _ _ H hb.1 hb.2) (ih hlt _ ?_))
          rw [allN_succ, ← Bool.and_assoc, ← hq, c, Bool.true_and]
          rfl
        · refine ih hlt _ ?_
          rw [allN_succ, ← Bool.and_assoc, ← hq, c, Bool.false_and]
      · obtain rfl : k = m.length := by omega
        subst hq
        exact tot_f (by simp [prs_length]) (tot_some rfl)) 0 b (by omega) (by simp [allN])
    subst hv
    refine ev_bnd h2 ?_
    cases (b && allP (isQ w h) m) <;> exact ev_some
theorem rainC_z {w h s : Int} {t r : Nat → Int} {c : Bool} (hz : rainC w h s t r c = 0) : rainOk w h s t r = true ∧ c = true := by
  unfold rainC at hz
  cases h1 : rainOk w h s t r <;> cases h2 : c <;> simp_all [sel]
theorem rainC_has {w h s : Int} {t r : Nat → Int} (H : RoofT w h s t) (b : Bool) (m : List (Int × Int)) : rainC w h s t r (b && allP (hasQ w h) m) = rainC w h s t r (b && allP (isQ w h) m) := by
  unfold rainC
  cases hr : rainOk w h s t r with
  | false => rfl
  | true =>
    have hv : RoofV w h s t := ⟨H, (rainOk_b hr).1⟩
    have : allP (hasQ w h) m = allP (isQ w h) m := by unfold allP; exact allN_congr fun j _ _ => has_is hv _
    rw [this]
def wrongC (w h s : Int) (t r : Nat → Int) (c : Bool) : Int := if rainC w h s t r c = 0 then (if 10 < (wrongPl w h t).length then 3 else 0) else rainC w h s t r c
theorem repairCode_ok {w h s : Int} {t r : Nat → Int} (H : RoofT w h s t) (R : RainT r) (b : Bool) : Ev (fun n => s_impl_repairCode n w h s t r b) (wrongC w h s t r b) := by
  unfold s_impl_repairCode wrongC
  refine ev_bnd (rainCode_ok H R b) ?_
  by_cases hz : rainC w h s t r b = 0
  · rw [if_pos hz]
    obtain ⟨g1, _⟩ := rainC_z hz
    have hv : RoofV w h s t := ⟨H, (rainOk_b g1).1⟩
    refine ev_t (by simpa using hz) (ev_bnd (wrong_ok hv) ?_)
    by_cases h10 : 10 < (wrongPl w h t).length
    · rw [if_pos h10]; exact ev_t (by simp [prs_length]; omega) ev_some
    · rw [if_neg h10]; exact ev_f (by simp [prs_length]; omega) (ev_cast ev_some hz)
  · rw [if_neg hz]; exact ev_f (by simpa using hz) ev_some
theorem l03Wrong_ok {w h s : Int} {t : Nat → Int} (H : RoofV w h s t) : Ev (fun n => s_spec_l03Wrong n w h s t) (places (wrongPl w h t)) := by
  unfold s_spec_l03Wrong
  have hb := H.b
  have hL := allPl_len (w := w) (h := h) (by omega) (by omega)
  refine ev_bnd (l01All_ok H) ?_
  obtain ⟨v, hv, h1⟩ := loop_up (l := fun n k (g : List (Int × Int)) => l_spec_l03Wrong_b0 n w h s t (k : Nat) (places g) (places (allPl w h))) (I := fun k g => g = ((allPl w h).take k).flatMap (keepW t) ∧ g.length ≤ k) (P := fun v => v = places (wrongPl w h t)) (allPl w h).length (by
    rintro k g hk ⟨hg, hgl⟩ ih
    by_cases hlt : k < (allPl w h).length
    · have hq : ∀ n : Nat, bnd (nth (places (allPl w h)) ((k : Nat) : Int).toNat) as_Pi8_i8Q = some ((pr (allPl w h) k).1, (pr (allPl w h) k).2) := fun n => by rw [Int.toNat_natCast, nth_prs _ _ _ _ hlt]; rfl
      obtain ⟨m1, m2, m3, m4⟩ := allPl_mem (pr_mem hlt)
      have hstep : ((allPl w h).take (k + 1)).flatMap (keepW t) = g ++ keepW t (pr (allPl w h) k) := by
        rw [List.take_add_one, pr_get hlt, List.flatMap_append, hg]; simp
      generalize pr (allPl w h) k = p at m1 m2 m3 m4 hq hstep
      obtain ⟨p1, p2⟩ := p
      dsimp only at m1 m2 m3 m4 hq
      obtain ⟨i, rfl⟩ := Int.eq_ofNat_of_zero_le m1
      obtain ⟨j, rfl⟩ := Int.eq_ofNat_of_zero_le m3
      refine tot_t (by simp [prs_length]; omega) (tot_chk (inB_k _ _ (by rw [places_length]; exact hlt)) (tot_ev (ev_of hq) (tot_ev (ev_of fun n => spec_at_eq n H.toRoofT i j (by omega) (by omega)) ?_)))
      rw [up64 k (by omega)]
      refine tot_cnd (fun c => ?_) (fun c => ?_)
      · have hw : wr t ((i : Int), (j : Int)) = false := by unfold wr; simp only [Int.toNat_natCast]; rw [c]; rfl
        have hk0 : keepW t ((i : Int), (j : Int)) = [] := by unfold keepW; rw [if_neg (by rw [hw]; simp)]
        rw [hk0, List.append_nil] at hstep
        exact ih hlt g ⟨hstep.symm, by omega⟩
      · have hw : wr t ((i : Int), (j : Int)) = true := by unfold wr; simp only [Int.toNat_natCast]; rw [c]; rfl
        have hk0 : keepW t ((i : Int), (j : Int)) = [((i : Int), (j : Int))] := by unfold keepW; rw [if_pos hw]
        rw [hk0] at hstep
        refine tot_ev (ev_of hq) (tot_chk (by simp [prs_length]; omega) ?_)
        rw [places_one, ← prs_app]
        exact ih hlt _ ⟨hstep.symm, by simp; omega⟩
    · obtain rfl : k = (allPl w h).length := by omega
      rw [List.take_length, wrong_eq] at hg
      subst hg
      exact tot_f (by simp [prs_length]) (tot_some rfl)) 0 [] (by omega) ⟨rfl, by simp⟩
  subst hv
  exact ev_bnd h1 ev_some
abbrev PlaceW (ys : List V) : Prop := ys.length ≤ maxLen ∧ ∀ x, x ∈ ys → ∃ l, x = .parts l ∧ inL [.int .i8, .int .i8] l
theorem law_FnExactDripAfter {w h s : Int} {t r : Nat → Int} {ys : List V} (hw : (Lit.int .i8 w).wf = true) (hh : (Lit.int .i8 h).wf = true) (hs : (Lit.int .u8 s).wf = true) (ht : ∀ j, j < 64 → (Lit.int .u8 (t j)).wf = true)
    (hr : ∀ j, j < 17 → (Lit.int .i16 (r j)).wf = true) (hy : PlaceW ys) : Ev (fun n => s_laws_FnExactDripAfter n w h s t r ys) true := by
  obtain ⟨m, rfl, hm⟩ := prs_of hy.2
  have n1 : m.length ≤ 9223372036854775807 := by have := hy.1; rw [prs_length] at this; simpa [maxLen] using this
  unfold s_laws_FnExactDripAfter
  refine ev_bnd (szPlaceS_ok m n1) ?_
  by_cases h2 : (1048576 : Int) < m.length
  · rw [if_pos h2]; exact ev_t (by simp) ev_some
  · rw [if_neg h2]
    obtain ⟨t', e1, e2⟩ := toRoof_ok w h s t
    obtain ⟨r', e3, e4⟩ := toRain_ok r
    have H := (RoofT.mk' hw hh hs ht).like e1
    have R := (RainT.mk' hr).like e3
    have hp := toPlaceS_ok m (by omega)
    have hP := PlT.mk' hm (by omega)
    have k : ∃ (x y : Int), Ev (fun n => s_spec_DripAfter n w h s t' r' (places m)) (x, y) ∧ Ev (fun n => s_impl_DripAfter n w h s t' r' (places m)) (x, y) := by
      unfold s_spec_DripAfter s_impl_DripAfter
      have k1 := l03Places_ok H R hP true
      have k2 := rainCode_ok H R (allP (hasQ w h) m)
      have e := rainC_has (r := r') H true m
      rw [Bool.true_and, Bool.true_and] at e
      rw [Bool.true_and] at k1
      rw [e] at k2
      by_cases hz : rainC w h s t' r' (allP (isQ w h) m) = 0
      · obtain ⟨g1, g2⟩ := rainC_z hz
        obtain ⟨g3, g4, _⟩ := rainOk_b g1
        exact ⟨_, 0, ev_bnd k1 (ev_t (by simpa using hz) (ev_bnd (l03After_ok ⟨H, g3⟩ g4 (by omega) g2) ev_some)), ev_bnd (areAllHas_ok m (by omega)) (ev_bnd k2 (ev_t (by simpa using hz) (ev_bnd (after_ok ⟨H, g3⟩ g4 (by omega) g2) ev_some)))⟩
      · exact ⟨0, _, ev_bnd k1 (ev_f (by simpa using hz) ev_some), ev_bnd (areAllHas_ok m (by omega)) (ev_bnd k2 (ev_f (by simpa using hz) ev_some))⟩
    obtain ⟨x, y, k1, k2⟩ := k
    refine ev_f (by simp; omega) (ev_bnd e2 (ev_bnd e4 (ev_bnd hp (ev_bnd k1 (ev_bnd hp (ev_bnd e2 (ev_bnd e4 (ev_bnd k2 (ev_t (by simp) (ev_t (by simp) ?_))))))))))
    exact ev_bnd hp (ev_bnd (eqPlaceS_ok m (by omega)) (ev_t rfl ev_some))
theorem law_FnExactCheckRepairs {w h s b : Int} {t r : Nat → Int} {ys : List V} (hw : (Lit.int .i8 w).wf = true) (hh : (Lit.int .i8 h).wf = true) (hs : (Lit.int .u8 s).wf = true) (ht : ∀ j, j < 64 → (Lit.int .u8 (t j)).wf = true)
    (hr : ∀ j, j < 17 → (Lit.int .i16 (r j)).wf = true) (hy : PlaceW ys) (hb : (Lit.int .i64 b).wf = true) : Ev (fun n => s_laws_FnExactCheckRepairs n w h s t r ys b) true := by
  obtain ⟨m, rfl, hm⟩ := prs_of hy.2
  have n1 : m.length ≤ 9223372036854775807 := by have := hy.1; rw [prs_length] at this; simpa [maxLen] using this
  unfold s_laws_FnExactCheckRepairs
  refine ev_bnd (szPlaceS_ok m n1) ?_
  by_cases h2 : (1048576 : Int) < m.length
  · rw [if_pos h2]; exact ev_t (by simp) ev_some
  · rw [if_neg h2]
    obtain ⟨t', e1, e2⟩ := toRoof_ok w h s t
    obtain ⟨r', e3, e4⟩ := toRain_ok r
    have H := (RoofT.mk' hw hh hs ht).like e1
    have R := (RainT.mk' hr).like e3
    have hp := toPlaceS_ok m (by omega)
    have hP := PlT.mk' hm (by omega)
    have k : ∃ (x : Bool) (y : Int), Ev (fun n => s_spec_CheckRepairs n w h s t' r' (places m) b) (x, y) ∧ Ev (fun n => s_impl_CheckRepairs n w h s t' r' (places m) b) (x, y) := by
      unfold s_spec_CheckRepairs s_impl_CheckRepairs
      have k1 := l03Places_ok H R hP (decide (0 ≤ b))
      have ka := areAllHas_ok (w := w) (h := h) (s := s) (t := t') m (by omega)
      have e := rainC_has (r := r') H (decide (0 ≤ b)) m
      have hsame : ∀ c : Bool, allP (hasQ w h) m = c → wrongC w h s t' r' (sel c (decide (0 ≤ b)) false) = (if rainC w h s t' r' (decide (0 ≤ b) && allP (isQ w h) m) = 0 then (if 10 < (wrongPl w h t').length then 3 else 0) else rainC w h s t' r' (decide (0 ≤ b) && allP (isQ w h) m)) := by
        intro c hc
        rw [← e, hc]
        cases c with
        | true => rw [Bool.and_true]; rfl
        | false => rw [Bool.and_false]; rfl
      have body : ∀ c : Bool, allP (hasQ w h) m = c → ∃ (x : Bool) (y : Int), Ev (fun n => bnd (s_spec_l03Places n w h s t' r' (places m) (decide (0 ≤ b))) fun y1_0 =>
          cnd (decide (y1_0 = 0)) (bnd (s_spec_l03Wrong n w h s t') fun y3_0 => chk (plainV (V.fresh 0 y3_0)) (cnd (decide (10 < (y3_0.length : Int)))
            (cnd (decide ((3 : Int) = 0)) (bnd (s_spec_l03After n w h s t' r' (places m)) fun y7_0 => some (decide (y7_0 ≤ b), (0 : Int))) (some (false, 3)))
            (bnd (s_spec_l03After n w h s t' r' (places m)) fun y8_0 => some (decide (y8_0 ≤ b), 0)))) (some (false, y1_0))) (x, y) ∧
          Ev (fun n => bnd (s_impl_repairCode n w h s t' r' (sel c (decide (0 ≤ b)) false)) fun y3_0 => cnd (decide (y3_0 = 0)) (bnd (s_impl_Roof_after n w h s t' r' (places m)) fun y5_0 => some (decide (y5_0 ≤ b), (0 : Int))) (some (false, y3_0))) (x, y) := by
        intro c hc
        have k2 := repairCode_ok H R (sel c (decide (0 ≤ b)) false)
        rw [hsame c hc] at k2
        by_cases hz : rainC w h s t' r' (decide (0 ≤ b) && allP (isQ w h) m) = 0
        · rw [if_pos hz] at k2
          obtain ⟨g1, g2⟩ := rainC_z hz
          obtain ⟨g3, g4, _⟩ := rainOk_b g1
          have hV : RoofV w h s t' := ⟨H, g3⟩
          rw [Bool.and_eq_true] at g2
          by_cases h10 : 10 < (wrongPl w h t').length
          · rw [if_pos h10] at k2
            exact ⟨false, 3, ev_bnd k1 (ev_t (by simpa using hz) (ev_bnd (l03Wrong_ok hV) (ev_chk (plain_places _ _) (ev_t (by simp [prs_length]; omega) (ev_f (by simp) ev_some))))), ev_bnd k2 (ev_f (by simp) ev_some)⟩
          · rw [if_neg h10] at k2
            exact ⟨_, 0, ev_bnd k1 (ev_t (by simpa using hz) (ev_bnd (l03Wrong_ok hV) (ev_chk (plain_places _ _) (ev_f (by simp [prs_length]; omega) (ev_bnd (l03After_ok hV g4 (by omega) g2.2) ev_some))))), ev_bnd k2 (ev_t (by simp) (ev_bnd (after_ok hV g4 (by omega) g2.2) ev_some))⟩
        · rw [if_neg hz] at k2
          exact ⟨false, _, ev_bnd k1 (ev_f (by simpa using hz) ev_some), ev_bnd k2 (ev_f (by simpa using hz) ev_some)⟩
      cases hc : allP (hasQ w h) m with
      | true =>
        rw [hc] at ka
        obtain ⟨x, y, q1, q2⟩ := body true hc
        exact ⟨x, y, q1, ev_bnd ka (ev_t rfl q2)⟩
      | false =>
        rw [hc] at ka
        obtain ⟨x, y, q1, q2⟩ := body false hc
        exact ⟨x, y, q1, ev_bnd ka (ev_f rfl q2)⟩
    obtain ⟨x, y, k1, k2⟩ := k
    refine ev_f (by simp; omega) (ev_bnd e2 (ev_bnd e4 (ev_bnd hp (ev_bnd k1 (ev_bnd hp (ev_bnd e2 (ev_bnd e4 (ev_bnd k2 (ev_t (by simp) (ev_t (by simp) ?_))))))))))
    exact ev_bnd hp (ev_bnd (eqPlaceS_ok m (by omega)) (ev_t rfl ev_some))
end Go.Proofs.Ytdhcfdiggcgmhaa
