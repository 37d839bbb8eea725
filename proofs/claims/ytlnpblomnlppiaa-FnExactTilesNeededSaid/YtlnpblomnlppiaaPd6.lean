/- Law TilesNeeded. -/
import Derived.Test.YtlnpblomnlppiaaPd4
import Derived.Test.YtlnpblomnlppiaaSh4
namespace Go.Proofs.Ytlnpblomnlppiaa
open Go
set_option linter.unusedVariables false
set_option linter.unusedSimpArgs false

def wr (t : Nat → Int) (p : Int × Int) : Bool := !decide (t (p.1.toNat * 8 + p.2.toNat) = 0)
def keepW (t : Nat → Int) (p : Int × Int) : List (Int × Int) := if wr t p = true then [(p.1, p.2)] else []
theorem keepW_len (t : Nat → Int) (p : Int × Int) : (keepW t p).length ≤ 1 := by unfold keepW; split <;> simp
theorem keepW_filter (t : Nat → Int) : ∀ (L : List (Int × Int)), L.flatMap (keepW t) = L.filter (wr t)
  | [] => rfl
  | p :: L => by
    rw [List.flatMap_cons, keepW_filter t L, List.filter_cons]
    unfold keepW
    split <;> rfl
theorem spec_at_eq (n : Nat) {w h s : Int} {t : Nat → Int} (H : RoofT w h s t) (i k : Nat) (hi : i < 8) (hk : k < 8) : s_spec_l01At n w h s t i k = some (t (i * 8 + k)) := by
  have := H.bt (i * 8 + k) (by omega)
  unfold s_spec_l01At
  rw [inB_k _ _ hi, chk_t, inB_k _ _ hk, chk_t, show 0 + (i : Int).toNat * 8 + (k : Int).toNat * 1 = i * 8 + k by simp, w64 _ (by omega)]
theorem l03Wrong_ok {w h s : Int} {t : Nat → Int} (H : RoofV w h s t) : Ev (fun n => s_spec_l03Wrong n w h s t) (places ((allPl w h).filter (wr t))) := by
  have hb := H.b
  have hL := allPl_len (w := w) (h := h) (by omega) (by omega)
  unfold s_spec_l03Wrong
  refine ev_bnd (l01All_ok H) (ev_bnd (a := places ((allPl w h).filter (wr t))) ?_ ev_some)
  have := loop_cat (l := fun n k g => l_spec_l03Wrong_b0 n w h s t (k : Nat) (places g) (places (allPl w h))) (G := fun j => keepW t (pr (allPl w h) j)) (R := fun g => places g) (allPl w h).length 0 1 (fun _ _ => keepW_len ..) (fun acc => ev_f (by simp [prs_length]) ev_some) (fun j acc hj hl v ih => by
    obtain ⟨m1, m2, m3, m4⟩ := allPl_mem (pr_mem hj)
    have hg : ∀ n : Nat, bnd (nth (places (allPl w h)) ((j : Nat) : Int).toNat) as_Pi8_i8Q = some ((pr (allPl w h) j).1, (pr (allPl w h) j).2) := fun n => by rw [Int.toNat_natCast, nth_prs _ _ _ _ hj]; rfl
    unfold keepW at ih
    generalize pr (allPl w h) j = p at m1 m2 m3 m4 hg ih
    obtain ⟨p1, p2⟩ := p
    dsimp only at m1 m2 m3 m4 hg ih
    obtain ⟨i, rfl⟩ := Int.eq_ofNat_of_zero_le m1
    obtain ⟨k, rfl⟩ := Int.eq_ofNat_of_zero_le m3
    refine ev_t (by simp [prs_length]; omega) (ev_chk (inB_k _ _ (by rw [places_length]; exact hj)) (ev_bnd (ev_of hg) (ev_bnd (ev_of fun n => spec_at_eq n H.toRoofT i k (by omega) (by omega)) ?_)))
    rw [up64 j (by omega)]
    refine ev_cnd (fun c => ?_) (fun c => ?_)
    · have hw : wr t ((i : Int), (k : Int)) = false := by unfold wr; simp only [Int.toNat_natCast]; rw [c]; rfl
      rw [if_neg (by rw [hw]; simp), List.append_nil] at ih
      exact ih
    · have hw : wr t ((i : Int), (k : Int)) = true := by unfold wr; simp only [Int.toNat_natCast]; rw [c]; rfl
      rw [if_pos hw] at ih
      refine ev_bnd (ev_of hg) (ev_chk (by simp [prs_length]; omega) ?_)
      rw [places_one, ← prs_app]
      exact ih) [] (by simp)
  rw [flat_pr, keepW_filter] at this
  exact this
def tAt (t : Nat → Int) (p : Int × Int) : Int := t (p.1.toNat * 8 + p.2.toNat)
def needQ (s e : Int) (t : Nat → Int) (l : List Int) (p : Int × Int) : Bool := (decide (tAt t p = 1) || decide (tAt t p = 3)) && (firstL s e l p).isSome
def need2 (s e : Int) (t : Nat → Int) (l : List Int) (p : Int × Int) : Bool := !decide (tAt t p = 2) && (firstL s e l p).isSome
theorem filt_succ (q : Int × Int → Bool) (L : List (Int × Int)) (k : Nat) (hk : k < L.length) : ((L.take (k + 1)).filter q).length = ((L.take k).filter q).length + (if q (pr L k) = true then 1 else 0) := by
  rw [List.take_add_one, List.filter_append, List.length_append, pr_get hk]
  simp only [Option.toList, List.filter_cons, List.filter_nil]
  split <;> rfl
theorem spec_count {w h s : Int} {t : Nat → Int} (H : RoofV w h s t) {l : List Int} (hl : l.length ≤ 8) {e : Int} (he : 0 ≤ e ∧ e ≤ 8) (W : List (Int × Int)) (hW : ∀ p, p ∈ W → isQ w h p = true) (hn : W.length ≤ 64) :
    Ev (fun n => l_spec_TilesNeeded_b0 n (ints .i64 l) e 0 0 w h s t (places W)) (((W.filter (need2 s e t l)).length : Nat) : Int) := by
  have hb := H.b
  obtain ⟨v, hv, h1⟩ := loop_up (l := fun n k (c : Nat) => l_spec_TilesNeeded_b0 n (ints .i64 l) e (c : Int) (k : Nat) w h s t (places W)) (I := fun k c => c = ((W.take k).filter (need2 s e t l)).length)
    (P := fun v => v = (((W.filter (need2 s e t l)).length : Nat) : Int)) W.length (by
    rintro k c hk rfl ih
    by_cases hlt : k < W.length
    · have hq := hW _ (pr_mem hlt)
      have hc : ((W.take k).filter (need2 s e t l)).length ≤ 64 := by
        have := List.length_filter_le (need2 s e t l) (W.take k)
        have := List.length_take_le k W
        omega
      have hg : ∀ n : Nat, bnd (nth (places W) ((k : Nat) : Int).toNat) as_Pi8_i8Q = some ((pr W k).1, (pr W k).2) := fun n => by rw [Int.toNat_natCast, nth_prs _ _ _ _ hlt]; rfl
      have hf := l04First_ok H hl he (pr W k) hq
      have ih' := ih hlt _ rfl
      rw [filt_succ _ _ _ hlt] at ih'
      simp only [isQ, decide_eq_true_eq] at hq
      have hat : ∀ n, s_spec_l01At n w h s t (pr W k).1 (pr W k).2 = some (tAt t (pr W k)) := fun n => by
        have := spec_at_eq n H.toRoofT (pr W k).1.toNat (pr W k).2.toNat (by omega) (by omega)
        rw [show (((pr W k).1.toNat : Nat) : Int) = (pr W k).1 by omega, show (((pr W k).2.toNat : Nat) : Int) = (pr W k).2 by omega] at this
        exact this
      refine tot_t (by simp [prs_length]; omega) (tot_chk (inB_k _ _ (by rw [places_length]; exact hlt)) (tot_ev (ev_of hg) (tot_ev (ev_of hat) ?_)))
      rw [up64 k (by omega)]
      refine tot_cnd (fun c2 => ?_) (fun c2 => ?_)
      · rw [if_neg (by unfold need2; rw [c2]; simp)] at ih'
        exact ih'
      · refine tot_ev (ev_of hg) (tot_ev hf ?_)
        unfold need2 at ih'
        rw [c2] at ih'
        cases hfi : firstL s e l (pr W k) with
        | none =>
          rw [hfi] at ih'
          rw [if_neg (by simp)] at ih'
          exact tot_f (by simp) ih'
        | some i =>
          rw [hfi] at ih'
          rw [if_pos (by simp)] at ih'
          refine tot_t (by simp) ?_
          rw [up64 _ (by omega)]
          exact ih'
    · obtain rfl : k = W.length := by omega
      exact tot_f (by simp [prs_length]) (tot_some (by rw [List.take_length]))) 0 0 (by omega) rfl
  subst hv
  exact h1
def keepN (s e : Int) (t : Nat → Int) (l : List Int) (p : Int × Int) : List (Int × Int) := if needQ s e t l p = true then [(p.1, p.2)] else []
theorem keepN_len (s e : Int) (t : Nat → Int) (l : List Int) (p : Int × Int) : (keepN s e t l p).length ≤ 1 := by unfold keepN; split <;> simp
theorem keepN_filter (s e : Int) (t : Nat → Int) (l : List Int) : ∀ (L : List (Int × Int)), L.flatMap (keepN s e t l) = L.filter (needQ s e t l)
  | [] => rfl
  | p :: L => by
    rw [List.flatMap_cons, keepN_filter s e t l L, List.filter_cons]
    unfold keepN
    split <;> rfl
def needPl (w h s e : Int) (t : Nat → Int) (l : List Int) : List (Int × Int) := (List.range' 0 h.toNat).flatMap fun (i : Nat) => (List.range' 0 w.toNat).flatMap fun (k : Nat) => keepN s e t l ((i : Int), (k : Int))
theorem need_eq (w h s e : Int) (t : Nat → Int) (l : List Int) : needPl w h s e t l = (allPl w h).filter (needQ s e t l) := by
  rw [← keepN_filter]; simp [allPl, needPl, List.flatMap_assoc]
theorem reachable1_ok {w h s : Int} {t : Nat → Int} (H : RoofV w h s t) {l : List Int} (hl : l.length ≤ 8) (hq : allQ w l = true) {e : Int} (he : 0 ≤ e ∧ e ≤ 8) (i k : Nat) (hi : (i : Int) < h) (hk : (k : Int) < w) :
    Ev (fun n => s_impl_Roof_reachable_1__TilesNeeded_1 n i k w h s t (ints .i64 l) e) (needQ s e t l ((i : Int), (k : Int))) := by
  have hb := H.b
  have hp : isQ w h ((i : Int), (k : Int)) = true := by simp [isQ]; omega
  unfold s_impl_Roof_reachable_1__TilesNeeded_1
  rw [show ((ints .i64 l).length : Int) = (l.length : Int) by simp [ints_length]]
  refine ev_bnd (a := t (i * 8 + k)) (ev_of fun n => ?_) (ev_bnd (a := decide (t (i * 8 + k) = 1) || decide (t (i * 8 + k) = 3)) ?_ ?_)
  · unfold s_impl_Roof_kind
    rw [inB_k _ _ (by omega), chk_t, inB_k _ _ (by omega), chk_t, show 0 + (i : Int).toNat * 8 + (k : Int).toNat * 1 = i * 8 + k by simp]
  · unfold s_impl_TilesNeeded_1
    refine ev_cnd (fun c => ?_) (fun c => ?_)
    · rw [c]; exact ev_some
    · rw [c, Bool.false_or]; exact ev_some
  · unfold needQ tAt
    simp only [Int.toNat_natCast]
    refine ev_cnd (fun c => ?_) (fun c => ?_)
    · rw [c, Bool.true_and]
      refine ev_bnd (ladderOf_ok H hl hq he ((i : Int), (k : Int)) hp) (ev_cast ev_some ?_)
      cases hf : firstL s e l ((i : Int), (k : Int)) with
      | none => simp
      | some j => have := firstL_lt hf; simp; omega
    · rw [c, Bool.false_and]; exact ev_some
theorem need_b2 {w h s : Int} {t : Nat → Int} (H : RoofV w h s t) {l : List Int} (hl : l.length ≤ 8) (hq : allQ w l = true) {e : Int} (he : 0 ≤ e ∧ e ≤ 8) (i : Nat) (hi : (i : Int) < h) (acc : List (Int × Int)) (hc : acc.length ≤ 64) :
    Ev (fun n => l_impl_Roof_places__Roof_reachable_1__TilesNeeded_1_b2 n w h s t (ints .i64 l) e i h i w 0 w h s t (places acc)) (w, h, s, t, ints .i64 l, e, h, (i : Int), w, h, s, t, places (acc ++ (List.range' 0 w.toNat).flatMap fun (k : Nat) => keepN s e t l ((i : Int), (k : Int)))) := by
  have hb := H.b
  refine loop_cat (l := fun n k g => l_impl_Roof_places__Roof_reachable_1__TilesNeeded_1_b2 n w h s t (ints .i64 l) e i h i w (k : Nat) w h s t (places g)) (G := fun (k : Nat) => keepN s e t l ((i : Int), (k : Int))) (R := fun g => (w, h, s, t, ints .i64 l, e, h, (i : Int), w, h, s, t, places g)) w.toNat 64 1 (fun _ _ => keepN_len ..) (fun acc => ev_f (by simp; omega) ev_some) (fun k acc hk hl2 v ih => ?_) acc hc
  refine ev_t (by simp; omega) (ev_bnd (reachable1_ok H hl hq he i k hi (by omega)) ?_)
  rw [up8 k (by omega)]
  unfold keepN at ih
  dsimp only at ih
  refine ev_cnd (fun c => ?_) (fun c => ?_)
  · rw [if_pos c] at ih
    refine ev_chk (by simp [prs_length]; omega) ?_
    rw [places_one, ← prs_app]
    exact ih
  · rw [if_neg (by rw [c]; simp), List.append_nil] at ih
    exact ih
theorem reachable_ok {w h s : Int} {t : Nat → Int} (H : RoofV w h s t) {l : List Int} (hl : l.length ≤ 8) (hq : allQ w l = true) {e : Int} (he : 0 ≤ e ∧ e ≤ 8) : Ev (fun n => s_impl_Roof_reachable__TilesNeeded_1 n w h s t (ints .i64 l) e) (places (needPl w h s e t l)) := by
  have hb := H.b
  unfold s_impl_Roof_reachable__TilesNeeded_1 s_impl_Roof_places__Roof_reachable_1__TilesNeeded_1
  refine ev_bnd (ev_bnd (a := places (needPl w h s e t l)) ?_ ev_some) (ev_chk (plain_places _ _) ev_some)
  have := loop_cat (l := fun n k g => l_impl_Roof_places__Roof_reachable_1__TilesNeeded_1_b0 n w h s t (ints .i64 l) e h (k : Nat) w h s t (places g)) (G := fun (i : Nat) => (List.range' 0 w.toNat).flatMap fun (k : Nat) => keepN s e t l ((i : Int), (k : Int))) (R := fun g => places g) h.toNat 0 8 (fun k _ => by
    have : ((List.range' 0 w.toNat).flatMap fun (j : Nat) => keepN s e t l ((k : Int), (j : Int))).length ≤ w.toNat * 1 := flat_len 0 fun _ _ _ => keepN_len ..
    omega) (fun acc => ev_f (by simp; omega) ev_some) (fun k acc hk hl2 v ih => by
    refine ev_t (by simp; omega) (ev_bnd (need_b2 H hl hq he k (by omega) acc (by omega)) ?_)
    dsimp only
    rw [up8 k (by omega)]
    exact ih) [] (by simp)
  exact this
theorem count_eq {w h s e : Int} {t : Nat → Int} (H : RoofV w h s t) (l : List Int) : (((allPl w h).filter (wr t)).filter (need2 s e t l)).length = (needPl w h s e t l).length := by
  rw [need_eq, List.filter_filter]
  congr 1
  refine List.filter_congr fun p hp => ?_
  obtain ⟨m1, m2, m3, m4⟩ := allPl_mem hp
  have hb := H.b
  have h3 := (roofOk_t H.ok p.1.toNat p.2.toNat (by omega) (by omega)).1
  have h0 := (H.bt (p.1.toNat * 8 + p.2.toNat) (by omega)).1
  unfold need2 needQ wr tAt
  generalize t (p.1.toNat * 8 + p.2.toNat) = v at h3 h0 ⊢
  generalize (firstL s e l p).isSome = f
  have hv : v = 0 ∨ v = 1 ∨ v = 2 ∨ v = 3 := by omega
  rcases hv with rfl | rfl | rfl | rfl <;> cases f <;> rfl
theorem law_FnExactTilesNeeded {w h s e : Int} {t : Nat → Int} {xs : List V} (hw : (Lit.int .i8 w).wf = true) (hh : (Lit.int .i8 h).wf = true) (hs : (Lit.int .u8 s).wf = true) (ht : ∀ j, j < 64 → (Lit.int .u8 (t j)).wf = true)
    (hx : xs.length ≤ maxLen ∧ ∀ x, x ∈ xs → inL [.int .i64] [x]) (he : (Lit.int .i64 e).wf = true) : Ev (fun n => s_laws_FnExactTilesNeeded n w h s t xs e) true := by
  obtain ⟨l, rfl, hl⟩ := ints_of hx.2
  unfold s_laws_FnExactTilesNeeded
  rw [show ((ints .i64 l).length : Int) = (l.length : Int) by simp [ints_length]]
  by_cases h1 : (1048576 : Int) < l.length
  · exact ev_t (by simpa using h1) ev_some
  · refine ev_f (by simpa using h1) ?_
    obtain ⟨t', e1, e2⟩ := toRoof_ok w h s t
    have H := (RoofT.mk' hw hh hs ht).like e1
    have hc := toInt64S_ok l (by omega)
    have hP : PlT [] := ⟨fun j hj => absurd hj (by simp), by simp⟩
    have k : ∃ (x y : Int), Ev (fun n => s_spec_TilesNeeded n w h s t' (ints .i64 l) e) (x, y) ∧ Ev (fun n => s_impl_TilesNeeded n w h s t' (ints .i64 l) e) (x, y) := by
      unfold s_spec_TilesNeeded s_impl_TilesNeeded
      have k1 := Asked2_ok H l (by omega) [] hP (reachB e)
      have k2 := ladderCode_ok H l (by omega) e [] hP
      by_cases hz : askF w h s t' l [] (reachB e && allQ w l && allP (isQ w h) []) = 0
      · obtain ⟨g1, g2, g3, g4, g5, g6⟩ := askF_zero hz
        have hV : RoofV w h s t' := ⟨H, g1⟩
        have hb := hV.b
        have hL := allPl_len (w := w) (h := h) (by omega) (by omega)
        have k3 := spec_count hV g5 g2 ((allPl w h).filter (wr t')) (fun p hp => by
          have := allPl_mem (List.mem_filter.1 hp).1
          simp [isQ]; omega) (by have := List.length_filter_le (wr t') (allPl w h); omega)
        rw [count_eq hV] at k3
        exact ⟨((needPl w h s e t' l).length : Int), 0, ev_bnd (l04Reach_ok e) (ev_bnd k1 (ev_t (by simpa using hz) (ev_bnd (l03Wrong_ok hV) (ev_chk (plain_places _ _) (ev_bnd k3 ev_some))))), ev_bnd k2 (ev_t (by simpa using hz) (ev_bnd (reachable_ok hV g5 g3 g2) (ev_cast ev_some (by rw [places_length]))))⟩
      · exact ⟨0, _, ev_bnd (l04Reach_ok e) (ev_bnd k1 (ev_f (by simpa using hz) ev_some)), ev_bnd k2 (ev_f (by simpa using hz) ev_some)⟩
    obtain ⟨x, y, k1, k2⟩ := k
    exact ev_bnd e2 (ev_bnd hc (ev_bnd k1 (ev_bnd hc (ev_bnd e2 (ev_bnd k2 (ev_t (by simp) (ev_t (by simp) (ev_bnd hc (ev_bnd (eqInt64S_okL l (by omega)) (ev_t rfl ev_some))))))))))
end Go.Proofs.Ytlnpblomnlppiaa
