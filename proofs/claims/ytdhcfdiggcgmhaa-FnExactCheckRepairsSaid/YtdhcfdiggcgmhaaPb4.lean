/- Law BestSave. -/
import Derived.Test.YtdhcfdiggcgmhaaPb0
import Derived.Test.YtdhcfdiggcgmhaaPa6
namespace Go.Proofs.Ytdhcfdiggcgmhaa
open Go
set_option linter.unusedVariables false
set_option linter.unusedSimpArgs false

def wr (t : Nat → Int) (p : Int × Int) : Bool := !decide (t (p.1.toNat * 8 + p.2.toNat) = 0)
def keepW (t : Nat → Int) (p : Int × Int) : List (Int × Int) := if wr t p = true then [(p.1, p.2)] else []
theorem keepW_len (t : Nat → Int) (p : Int × Int) : (keepW t p).length ≤ 1 := by unfold keepW; split <;> simp
def wrongPl (w h : Int) (t : Nat → Int) : List (Int × Int) := (List.range' 0 h.toNat).flatMap fun (i : Nat) => (List.range' 0 w.toNat).flatMap fun (k : Nat) => keepW t ((i : Int), (k : Int))
theorem wrong_eq (w h : Int) (t : Nat → Int) : (allPl w h).flatMap (keepW t) = wrongPl w h t := by
  simp [allPl, wrongPl, List.flatMap_assoc]
theorem keepW_filter (t : Nat → Int) : ∀ (L : List (Int × Int)), L.flatMap (keepW t) = L.filter (wr t)
  | [] => rfl
  | p :: L => by
    rw [List.flatMap_cons, keepW_filter t L, List.filter_cons]
    unfold keepW
    split <;> rfl
theorem kindOf_eq (n : Nat) {w h s : Int} {t : Nat → Int} (H : RoofT w h s t) (i k : Nat) (hi : i < 8) (hk : k < 8) : s_impl_Roof_isWrong n w h s t i k = some (wr t ((i : Int), (k : Int))) := by
  have := H.bt (i * 8 + k) (by omega)
  unfold s_impl_Roof_isWrong s_impl_Roof_kind wr
  rw [inB_k _ _ hi, chk_t, inB_k _ _ hk, chk_t]
  simp [bnd]
theorem spec_at_eq (n : Nat) {w h s : Int} {t : Nat → Int} (H : RoofT w h s t) (i k : Nat) (hi : i < 8) (hk : k < 8) : s_spec_l01At n w h s t i k = some (t (i * 8 + k)) := by
  have := H.bt (i * 8 + k) (by omega)
  unfold s_spec_l01At
  rw [inB_k _ _ hi, chk_t, inB_k _ _ hk, chk_t, show 0 + (i : Int).toNat * 8 + (k : Int).toNat * 1 = i * 8 + k by simp, w64 _ (by omega)]
theorem wrong_b2 {w h s : Int} {t : Nat → Int} (H : RoofV w h s t) (i : Nat) (hi : (i : Int) < h) (acc : List (Int × Int)) (hc : acc.length ≤ 64) :
    Ev (fun n => l_impl_Roof_places__Roof_isWrong_b2 n w h s t i h i w 0 w h s t (places acc)) (w, h, s, t, h, (i : Int), w, h, s, t, places (acc ++ (List.range' 0 w.toNat).flatMap fun (k : Nat) => keepW t ((i : Int), (k : Int)))) := by
  have hb := H.b
  refine loop_cat (l := fun n k g => l_impl_Roof_places__Roof_isWrong_b2 n w h s t i h i w (k : Nat) w h s t (places g)) (G := fun (k : Nat) => keepW t ((i : Int), (k : Int))) (R := fun g => (w, h, s, t, h, (i : Int), w, h, s, t, places g)) w.toNat 64 1 (fun _ _ => keepW_len ..) (fun acc => ev_f (by simp; omega) ev_some) (fun k acc hk hl v ih => ?_) acc hc
  refine ev_t (by simp; omega) (ev_bnd (ev_of fun n => kindOf_eq n H.toRoofT i k (by omega) (by omega)) ?_)
  rw [up8 k (by omega)]
  unfold keepW at ih
  dsimp only at ih
  refine ev_cnd (fun c => ?_) (fun c => ?_)
  · rw [if_pos c] at ih
    refine ev_chk (by simp [prs_length]; omega) ?_
    rw [places_one, ← prs_app]
    exact ih
  · rw [if_neg (by rw [c]; simp), List.append_nil] at ih
    exact ih
theorem wrong_ok {w h s : Int} {t : Nat → Int} (H : RoofV w h s t) : Ev (fun n => s_impl_Roof_wrong n w h s t) (places (wrongPl w h t)) := by
  have hb := H.b
  unfold s_impl_Roof_wrong s_impl_Roof_places__Roof_isWrong
  refine ev_bnd (ev_bnd (a := places (wrongPl w h t)) ?_ ev_some) ev_some
  have := loop_cat (l := fun n k g => l_impl_Roof_places__Roof_isWrong_b0 n w h s t h (k : Nat) w h s t (places g)) (G := fun (i : Nat) => (List.range' 0 w.toNat).flatMap fun (k : Nat) => keepW t ((i : Int), (k : Int))) (R := fun g => places g) h.toNat 0 8 (fun k _ => by
    have : ((List.range' 0 w.toNat).flatMap fun (j : Nat) => keepW t ((k : Int), (j : Int))).length ≤ w.toNat * 1 := flat_len 0 fun _ _ _ => keepW_len ..
    omega) (fun acc => ev_f (by simp; omega) ev_some) (fun k acc hk hl v ih => by
    refine ev_t (by simp; omega) (ev_bnd (wrong_b2 H k (by omega) acc (by omega)) ?_)
    dsimp only
    rw [up8 k (by omega)]
    exact ih) [] (by simp)
  exact this
-- the best
def bestStep (sv : Int × Int → Int) (m x : Int × Int) : Int × Int := if sv m < sv x then x else m
def bestO (sv : Int × Int → Int) (o : Option (Int × Int)) (x : Int × Int) : Option (Int × Int) := match o with
  | none => some x
  | some m => some (bestStep sv m x)
theorem bestO_cons (sv : Int × Int → Int) : ∀ (L : List (Int × Int)) (m : Int × Int), L.foldl (bestO sv) (some m) = some (L.foldl (bestStep sv) m)
  | [], m => rfl
  | x :: L, m => bestO_cons sv L (bestStep sv m x)
def bestW (t : Nat → Int) (sv : Int × Int → Int) (o : Option (Int × Int)) (x : Int × Int) : Option (Int × Int) := if wr t x = true then bestO sv o x else o
theorem best_filter (t : Nat → Int) (sv : Int × Int → Int) : ∀ (L : List (Int × Int)) (o : Option (Int × Int)), L.foldl (bestW t sv) o = (L.filter (wr t)).foldl (bestO sv) o
  | [], o => rfl
  | x :: L, o => by
    rw [List.foldl_cons, List.filter_cons, best_filter t sv L]
    unfold bestW
    split <;> rfl
theorem take_fold {β : Type} (f : β → Int × Int → β) (b : β) (L : List (Int × Int)) (k : Nat) (hk : k < L.length) : (L.take (k + 1)).foldl f b = f ((L.take k).foldl f b) (pr L k) := by
  rw [List.take_add_one, List.foldl_append, pr_get hk]; rfl
def sv (w h s : Int) (t r : Nat → Int) (p : Int × Int) : Int := saveK w h s t r p.1 p.2
def stV (f : Int × Int → Int) (o : Option (Int × Int)) : Int := match o with | none => 0 | some m => f m
def stP (o : Option (Int × Int)) : Int × Int := match o with | none => (0, 0) | some m => m
theorem spec_best_b0 {w h s : Int} {t r : Nat → Int} (H : RoofV w h s t) (R : RainB r) :
    Ev (fun n => l_spec_l02Best_b0 n w h s t r 0 false 0 0 0 0 0 (places (allPl w h))) (stV (sv w h s t r) ((allPl w h).foldl (bestW t (sv w h s t r)) none), ((allPl w h).foldl (bestW t (sv w h s t r)) none).isSome, 0, 0, (stP ((allPl w h).foldl (bestW t (sv w h s t r)) none)).1, (stP ((allPl w h).foldl (bestW t (sv w h s t r)) none)).2) := by
  have hb := H.b
  have hL := allPl_len (w := w) (h := h) (by omega) (by omega)
  obtain ⟨v, hv, h1⟩ := loop_up (l := fun n k (o : Option (Int × Int)) => l_spec_l02Best_b0 n w h s t r (stV (sv w h s t r) o) o.isSome (k : Nat) 0 0 (stP o).1 (stP o).2 (places (allPl w h))) (I := fun k o => o = ((allPl w h).take k).foldl (bestW t (sv w h s t r)) none)
    (P := fun v => v = (stV (sv w h s t r) ((allPl w h).foldl (bestW t (sv w h s t r)) none), ((allPl w h).foldl (bestW t (sv w h s t r)) none).isSome, 0, 0, (stP ((allPl w h).foldl (bestW t (sv w h s t r)) none)).1, (stP ((allPl w h).foldl (bestW t (sv w h s t r)) none)).2)) (allPl w h).length (by
    intro j o hj ho ih
    by_cases hlt : j < (allPl w h).length
    · obtain ⟨m1, m2, m3, m4⟩ := allPl_mem (pr_mem hlt)
      have hg : ∀ n : Nat, bnd (nth (places (allPl w h)) ((j : Nat) : Int).toNat) as_Pi8_i8Q = some ((pr (allPl w h) j).1, (pr (allPl w h) j).2) := fun n => by rw [Int.toNat_natCast, nth_prs _ _ _ _ hlt]; rfl
      have ih' := ih hlt (bestW t (sv w h s t r) o (pr (allPl w h) j)) (by rw [take_fold _ _ _ _ hlt, ho])
      generalize pr (allPl w h) j = p at m1 m2 m3 m4 hg ih'
      obtain ⟨p1, p2⟩ := p
      dsimp only at m1 m2 m3 m4 hg
      obtain ⟨i, rfl⟩ := Int.eq_ofNat_of_zero_le m1
      obtain ⟨k, rfl⟩ := Int.eq_ofNat_of_zero_le m3
      refine tot_t (by simp [prs_length]; omega) (tot_chk (inB_k _ _ (by rw [places_length]; exact hlt)) (tot_ev (ev_of hg) (tot_ev (ev_of fun n => spec_at_eq n H.toRoofT i k (by omega) (by omega)) ?_)))
      rw [up64 j (by omega)]
      refine tot_cnd (fun c => ?_) (fun c => ?_)
      · have hw : wr t ((i : Int), (k : Int)) = false := by unfold wr; simp only [Int.toNat_natCast]; rw [c]; rfl
        unfold bestW at ih'
        rw [if_neg (by rw [hw]; simp)] at ih'
        exact ih'
      · have hw : wr t ((i : Int), (k : Int)) = true := by unfold wr; simp only [Int.toNat_natCast]; rw [c]; rfl
        unfold bestW at ih'
        rw [if_pos hw] at ih'
        refine tot_ev (ev_of hg) (tot_ev (l02Save_ok H R (i : Int) (k : Int) (by omega) (by omega)) ?_)
        cases o with
        | none => exact tot_f rfl (tot_ev (ev_of hg) ih')
        | some m =>
          refine tot_t rfl (tot_cnd (fun c2 => ?_) (fun c2 => ?_))
          · simp only [decide_eq_true_eq] at c2
            simp only [bestO, bestStep] at ih'
            rw [if_pos (show sv w h s t r m < sv w h s t r ((i : Int), (k : Int)) from c2)] at ih'
            exact tot_ev (ev_of hg) ih'
          · simp only [decide_eq_false_iff_not] at c2
            simp only [bestO, bestStep] at ih'
            rw [if_neg (show ¬ sv w h s t r m < sv w h s t r ((i : Int), (k : Int)) from c2)] at ih'
            exact ih'
    · obtain rfl : j = (allPl w h).length := by omega
      rw [List.take_length] at ho
      subst ho
      exact tot_f (by simp [prs_length]) (tot_some rfl)) 0 none (by omega) rfl
  subst hv
  exact h1
theorem cmp_eq (n : Nat) (a b : Int) : s_cmp_Compare_int64 n a b = some (if a < b then -1 else if b < a then 1 else 0) := by
  unfold s_cmp_Compare_int64 s_cmp_isNaN_int64
  simp only [decide_true, Bool.not_true, bnd_s, cnd_f, cnd_d]
  split
  · rfl
  · split <;> rfl
theorem max_ok {w h s : Int} {t r : Nat → Int} (H : RoofV w h s t) (R : RainB r) (p0 : Int × Int) (L : List (Int × Int)) (hL : ∀ p, p ∈ p0 :: L → 0 ≤ p.1 ∧ p.1 < 8 ∧ 0 ≤ p.2 ∧ p.2 < 8) (hn : L.length ≤ 64) :
    Ev (fun n => s_slices_MaxFunc_Simpl_Place_impl_Place__Roof_bestSave_1 n (places (p0 :: L)) w h s t r) (L.foldl (bestStep (sv w h s t r)) p0) := by
  unfold s_slices_MaxFunc_Simpl_Place_impl_Place__Roof_bestSave_1
  refine ev_f (by simp [prs_length]; omega) (ev_bnd (a := (p0.1, p0.2)) (ev_of fun n => rfl) ?_)
  obtain ⟨v, hv, h1⟩ := loop_up (l := fun n k (m : Int × Int) => l_slices_MaxFunc_Simpl_Place_impl_Place__Roof_bestSave_1_b0 n (places (p0 :: L)) w h s t r ((k + 1 : Nat) : Int) 0 0 m.1 m.2) (I := fun k m => m = (L.take k).foldl (bestStep (sv w h s t r)) p0 ∧ m ∈ p0 :: L)
    (P := fun v => v = (0, 0, (L.foldl (bestStep (sv w h s t r)) p0).1, (L.foldl (bestStep (sv w h s t r)) p0).2)) L.length (by
    rintro j m hj ⟨hm, hmem⟩ ih
    by_cases hlt : j < L.length
    · have hx : pr (p0 :: L) (j + 1) = pr L j := rfl
      have hg : ∀ n : Nat, bnd (idx (places (p0 :: L)) ((j + 1 : Nat) : Int)) as_Pi8_i8Q = some ((pr L j).1, (pr L j).2) := fun n => by rw [idx_prs _ _ _ _ (by simp; omega), hx]; rfl
      have hmx : pr L j ∈ p0 :: L := List.mem_cons_of_mem _ (pr_mem hlt)
      have b1 := hL _ hmx
      have b2 := hL _ hmem
      refine tot_t (by simp [prs_length]; omega) (tot_ev (ev_of hg) (tot_ev (a := if sv w h s t r (pr L j) < sv w h s t r m then -1 else if sv w h s t r m < sv w h s t r (pr L j) then 1 else 0) (by
        unfold s_impl_Roof_bestSave_1
        exact ev_bnd (save_ok H R _ _ (by omega) (by omega)) (ev_bnd (save_ok H R _ _ (by omega) (by omega)) (ev_bnd (ev_of fun n => cmp_eq n _ _) ev_some))) ?_))
      rw [up64 (j + 1) (by omega)]
      by_cases hlt2 : sv w h s t r m < sv w h s t r (pr L j)
      · rw [if_neg (by omega), if_pos hlt2]
        refine tot_t (by simp) (tot_ev (ev_of hg) ?_)
        exact ih hlt (pr L j) ⟨by rw [take_fold _ _ _ _ hlt, ← hm]; unfold bestStep; rw [if_pos hlt2], hmx⟩
      · refine tot_f (by split <;> simp) ?_
        exact ih hlt m ⟨by rw [take_fold _ _ _ _ hlt, ← hm]; unfold bestStep; rw [if_neg hlt2], hmem⟩
    · obtain rfl : j = L.length := by omega
      rw [List.take_length] at hm
      subst hm
      exact tot_f (by simp [prs_length]) (tot_some rfl)) 0 p0 (by omega) ⟨rfl, List.mem_cons_self ..⟩
  subst hv
  exact ev_bnd h1 ev_some
theorem fold_mem (f : Int × Int → Int) : ∀ (L : List (Int × Int)) (p0 : Int × Int), L.foldl (bestStep f) p0 ∈ p0 :: L
  | [], p0 => List.mem_cons_self ..
  | x :: L, p0 => by
    have h := fold_mem f L (bestStep f p0 x)
    rw [List.foldl_cons]
    rcases List.mem_cons.1 h with h | h
    · rw [h]; unfold bestStep; split
      · exact List.mem_cons_of_mem _ (List.mem_cons_self ..)
      · exact List.mem_cons_self ..
    · exact List.mem_cons_of_mem _ (List.mem_cons_of_mem _ h)
theorem law_FnExactBestSave {w h s : Int} {t r : Nat → Int} (hw : (Lit.int .i8 w).wf = true) (hh : (Lit.int .i8 h).wf = true) (hs : (Lit.int .u8 s).wf = true) (ht : ∀ j, j < 64 → (Lit.int .u8 (t j)).wf = true)
    (hr : ∀ j, j < 17 → (Lit.int .i16 (r j)).wf = true) : Ev (fun n => s_laws_FnExactBestSave n w h s t r) true := by
  unfold s_laws_FnExactBestSave
  obtain ⟨t', e1, e2⟩ := toRoof_ok w h s t
  obtain ⟨r', e3, e4⟩ := toRain_ok r
  have H := (RoofT.mk' hw hh hs ht).like e1
  have R := (RainT.mk' hr).like e3
  have k : ∃ (x y v c : Int), Ev (fun n => s_spec_BestSave n w h s t' r') (x, y, v, c) ∧ Ev (fun n => s_impl_BestSave n w h s t' r') (x, y, v, c) := by
    unfold s_spec_BestSave s_impl_BestSave
    have k1 := l02Ok_ok H R
    have k2 := ValidRain_ok H R
    cases hok : rainOk w h s t' r' with
    | false =>
      rw [hok] at k1 k2
      exact ⟨0, 0, 0, 1, ev_bnd k1 (ev_f rfl ev_some), ev_bnd k2 (ev_f rfl ev_some)⟩
    | true =>
      rw [hok] at k1 k2
      obtain ⟨h1, h2, _⟩ := rainOk_b hok
      have hV : RoofV w h s t' := ⟨H, h1⟩
      have hb := hV.b
      have hL := allPl_len (w := w) (h := h) (by omega) (by omega)
      have k3 := spec_best_b0 hV h2
      have k4 := wrong_ok hV
      have hw2 : wrongPl w h t' = (allPl w h).filter (wr t') := by rw [← wrong_eq, keepW_filter]
      have hmem : ∀ p, p ∈ wrongPl w h t' → 0 ≤ p.1 ∧ p.1 < 8 ∧ 0 ≤ p.2 ∧ p.2 < 8 := fun p hp => by
        rw [hw2] at hp
        have := allPl_mem ((List.mem_filter.1 hp).1)
        omega
      have hlen : (wrongPl w h t').length ≤ 64 := by
        rw [hw2]
        have := List.length_filter_le (wr t') (allPl w h)
        omega
      rw [best_filter, ← hw2] at k3
      have k5 : Ev (fun n => s_spec_l02Best n w h s t' r') ((stP ((wrongPl w h t').foldl (bestO (sv w h s t' r')) none)).1, (stP ((wrongPl w h t').foldl (bestO (sv w h s t' r')) none)).2, stV (sv w h s t' r') ((wrongPl w h t').foldl (bestO (sv w h s t' r')) none), ((wrongPl w h t').foldl (bestO (sv w h s t' r')) none).isSome) := by
        unfold s_spec_l02Best
        exact ev_bnd (l01All_ok hV) (ev_bnd k3 ev_some)
      cases hW : wrongPl w h t' with
      | nil =>
        rw [hW] at k4 k5
        exact ⟨0, 0, 0, 6, ev_bnd k1 (ev_t rfl (ev_bnd k5 (ev_f rfl ev_some))), ev_bnd k2 (ev_t rfl (ev_bnd k4 (ev_t rfl ev_some)))⟩
      | cons p0 L =>
        rw [hW] at k4 k5 hmem hlen
        rw [List.foldl_cons, show bestO (sv w h s t' r') none p0 = some p0 from rfl, bestO_cons] at k5
        have hm := max_ok hV h2 p0 L hmem (by simp at hlen; omega)
        have hq := hmem _ (fold_mem (sv w h s t' r') L p0)
        generalize L.foldl (bestStep (sv w h s t' r')) p0 = m at hm hq k5
        obtain ⟨m1, m2⟩ := m
        refine ⟨m1, m2, saveK w h s t' r' m1 m2, 0, ev_bnd k1 (ev_t rfl (ev_bnd k5 (ev_t rfl ev_some))), ev_bnd k2 (ev_t rfl (ev_bnd k4 (ev_f (by simp [prs_length]; omega) (ev_bnd (a := (m1, m2)) ?_ (ev_bnd (save_ok hV h2 m1 m2 (by simp at hq; omega) (by simp at hq; omega)) ev_some)))))⟩
        unfold s_impl_Roof_bestSave
        exact ev_bnd k4 (ev_bnd hm ev_some)
  obtain ⟨x, y, v, c, k1, k2⟩ := k
  refine ev_bnd e2 (ev_bnd e4 (ev_bnd k1 (ev_bnd e2 (ev_bnd e4 (ev_bnd k2 (ev_bnd (a := true) ?_ (ev_t rfl (ev_t (by simp) (ev_t (by simp) ev_some)))))))))
  unfold s_laws_eqPlace
  exact ev_t (by simp) (ev_t (by simp) ev_some)
end Go.Proofs.Ytdhcfdiggcgmhaa
