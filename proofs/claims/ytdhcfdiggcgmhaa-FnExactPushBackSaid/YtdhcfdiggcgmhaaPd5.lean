/- Law LadderFor. -/
import Derived.Test.YtdhcfdiggcgmhaaPd4
namespace Go.Proofs.Ytdhcfdiggcgmhaa
open Go
set_option linter.unusedVariables false
set_option linter.unusedSimpArgs false

theorem markInt64S_okL (l : List Int) (k0 : Nat) (hl : l.length ≤ 2000000 ∧ k0 ≤ 2000000) : Ev (fun n => s_laws_markInt64S n (ints .i64 l) (k0 : Int)) (((k0 + l.length : Nat) : Int), ints .i64 (marks k0 l.length)) := by
  unfold s_laws_markInt64S
  obtain ⟨v, hv, h1⟩ := loop_up (l := fun n k (st : List Int) => l_laws_markInt64S_b0 n ((k0 + k : Nat) : Int) (k : Nat) (ints .i64 st)) (I := fun k st => st.length = l.length ∧ ∀ j, j < k → st[j]? = some ((k0 + j : Nat) : Int))
    (P := fun v => v = (((k0 + l.length : Nat) : Int), ints .i64 (marks k0 l.length))) l.length (by
    rintro k st hk ⟨e1, e2⟩ ih
    by_cases hlt : k < l.length
    · have hk2 : k < st.length := by omega
      refine tot_t (by simp [ints_length]; omega) (tot_chk (inB_k _ _ (by rw [ints_length]; exact hk2)) (tot_ev (a := st[k]) (ev_of fun n => by rw [Int.toNat_natCast, nth_ints _ _ _ hk2]; rfl) ?_))
      rw [Int.toNat_natCast, set_ints, up64 k (by omega), up64 (k0 + k) (by omega), show k0 + k + 1 = k0 + (k + 1) by omega]
      refine ih hlt _ ⟨by simp [e1], fun j hj => ?_⟩
      rw [List.getElem?_set]
      by_cases h : k = j
      · subst h; rw [if_pos rfl, if_pos hk2]
      · rw [if_neg h]; exact e2 j (by omega)
    · obtain rfl : k = l.length := by omega
      refine tot_f (by simp [ints_length]; omega) (tot_some ?_)
      congr 2
      apply List.ext_getElem?
      intro j
      by_cases hj : j < l.length
      · rw [e2 j hj, List.getElem?_eq_getElem (by rw [marks_length]; exact hj), marks_get _ _ _ hj]
      · rw [List.getElem?_eq_none (by omega), List.getElem?_eq_none (by rw [marks_length]; omega)]) 0 l (by omega) ⟨rfl, fun j hj => by omega⟩
  subst hv
  exact ev_bnd h1 ev_some
theorem markPlaceS_okL (l : List (Int × Int)) (k0 : Nat) (hl : l.length ≤ 2000000 ∧ k0 ≤ 2000000) : Ev (fun n => s_laws_markPlaceS n (places l) (k0 : Int)) (((k0 + 2 * l.length : Nat) : Int), places (marks2 k0 l.length)) := by
  unfold s_laws_markPlaceS
  obtain ⟨v, hv, h1⟩ := loop_up (l := fun n k (st : List (Int × Int)) => l_laws_markPlaceS_b0 n ((k0 + 2 * k : Nat) : Int) (k : Nat) (places st)) (I := fun k st => st.length = l.length ∧ ∀ j, j < k → st[j]? = some (mark2 k0 j))
    (P := fun v => v = (((k0 + 2 * l.length : Nat) : Int), places (marks2 k0 l.length))) l.length (by
    rintro k st hk ⟨e1, e2⟩ ih
    by_cases hlt : k < l.length
    · have hk2 : k < st.length := by omega
      refine tot_t (by simp [prs_length]; omega) (tot_chk (inB_k _ _ (by rw [prs_length]; exact hk2)) (tot_ev (a := ((pr st k).1, (pr st k).2)) (ev_of fun n => by rw [Int.toNat_natCast, nth_prs _ _ _ _ hk2]; rfl) (tot_ev (a := ((pr st k).1, (pr st k).2)) (ev_of fun n => by rw [Int.toNat_natCast, nth_prs _ _ _ _ hk2]; rfl) ?_)))
      rw [Int.toNat_natCast]
      dsimp only
      rw [set_prs]
      have hq : pr (st.set k (IntKind.i8.wrap ((k0 + 2 * k : Nat) : Int), (pr st k).2)) k = (IntKind.i8.wrap ((k0 + 2 * k : Nat) : Int), (pr st k).2) := by
        unfold pr; rw [List.getD_eq_getElem?_getD, List.getElem?_set, if_pos rfl, if_pos hk2]; rfl
      have hg : ∀ n : Nat, bnd (nth (places (st.set k (IntKind.i8.wrap ((k0 + 2 * k : Nat) : Int), (pr st k).2))) k) as_Pi8_i8Q = some (IntKind.i8.wrap ((k0 + 2 * k : Nat) : Int), (pr st k).2) := by
        intro n
        rw [nth_prs _ _ _ _ (by simp; exact hk2), hq]; rfl
      refine tot_chk (inB_k _ _ (by simp [prs_length]; exact hk2)) (tot_ev (ev_of hg) (tot_ev (ev_of hg) ?_))
      dsimp only
      rw [set_prs, up64 k (by omega), up64 (k0 + 2 * k) (by omega), up64 (k0 + 2 * k + 1) (by omega), show k0 + 2 * k + 1 + 1 = k0 + 2 * (k + 1) by omega, List.set_set]
      refine ih hlt _ ⟨by simp [e1], fun j hj => ?_⟩
      rw [List.getElem?_set]
      by_cases h : k = j
      · subst h; rw [if_pos rfl, if_pos hk2]; rfl
      · rw [if_neg h]; exact e2 j (by omega)
    · obtain rfl : k = l.length := by omega
      refine tot_f (by simp [prs_length]; omega) (tot_some ?_)
      refine Prod.ext rfl ?_
      show places st = places _
      congr 1
      apply List.ext_getElem?
      intro j
      by_cases hj : j < l.length
      · rw [e2 j hj, marks2_get _ _ _ hj]
      · rw [List.getElem?_eq_none (by omega), List.getElem?_eq_none (by rw [marks2_length]; omega)]) 0 l (by omega) ⟨rfl, fun j hj => by omega⟩
  subst hv
  exact ev_bnd h1 ev_some
theorem plain_two (e : Nat) (k k1 : IntKind) (l : List Int) (c : Int) : plainV (V.tup [V.fresh e (ints k l), V.int k1 c]) = true := by
  have h := plain_ints k l
  simp only [plainV, allB, plainQ, plainP, plainO]
  rw [h]
def ladN (s e : Int) (l : List Int) (m : List (Int × Int)) (j : Nat) : Int := match firstL s e l (pr m j) with
  | some i => (i : Int)
  | none => (l.length : Int)
def ladL (s e : Int) (l : List Int) (m : List (Int × Int)) (n : Nat) : List Int := (List.range' 0 n).map (ladN s e l m)
theorem lad_succ (s e : Int) (l : List Int) (m : List (Int × Int)) (n : Nat) : ladL s e l m (n + 1) = ladL s e l m n ++ [ladN s e l m n] := by
  unfold ladL; rw [List.range'_concat]; simp
theorem spec_ladder_b0 {w h s : Int} {t : Nat → Int} (H : RoofV w h s t) {l : List Int} (hl : l.length ≤ 8) {e : Int} (he : 0 ≤ e ∧ e ≤ 8) {m : List (Int × Int)} (hm : m.length ≤ 8) (hp : allP (isQ w h) m = true) :
    Tot (fun n => l_spec_LadderFor_b0 n (ints .i64 l) e (places m) 0 w h s t []) (fun v => (reached s e l m = true ∧ v = .inl (ints .i64 (ladL s e l m m.length))) ∨ (reached s e l m = false ∧ v = .inr (6, []))) := by
  have hpj : ∀ j, j < m.length → isQ w h (pr m j) = true := fun j hj => (allN_iff _ _ _).1 hp j (by omega) (by omega)
  have := loop_up (l := fun n k (acc : List Int) => l_spec_LadderFor_b0 n (ints .i64 l) e (places m) (k : Nat) w h s t (ints .i64 acc)) (I := fun k acc => acc = ladL s e l m k ∧ ∀ j, j < k → (firstL s e l (pr m j)).isSome = true)
    (P := fun v => (reached s e l m = true ∧ v = .inl (ints .i64 (ladL s e l m m.length))) ∨ (reached s e l m = false ∧ v = .inr (6, []))) m.length (by
    rintro k acc hk ⟨rfl, e2⟩ ih
    by_cases hlt : k < m.length
    · refine tot_t (by simp [prs_length]; omega) (tot_ev (a := ((pr m k).1, (pr m k).2)) (ev_of fun n => by rw [idx_prs _ _ _ _ hlt]; rfl) (tot_ev (l04First_ok H hl he (pr m k) (hpj k hlt)) ?_))
      rw [up64 k (by omega)]
      cases hf : firstL s e l (pr m k) with
      | none =>
        refine tot_t (by simp) (tot_some (.inr ⟨?_, rfl⟩))
        cases hr : reached s e l m with
        | false => rfl
        | true => have := (allN_iff _ _ _).1 hr k (by omega) (by omega); rw [hf] at this; cases this
      | some i =>
        refine tot_f (by simp) (tot_chk (by simp [ints_length, ladL]; omega) ?_)
        have h1 : ints .i64 (ladL s e l m k) ++ [V.int .i64 (i : Int)] = ints .i64 (ladL s e l m (k + 1)) := by
          rw [lad_succ, ints_append]
          have : ladN s e l m k = (i : Int) := by unfold ladN; rw [hf]
          rw [this]; rfl
        dsimp only
        rw [h1]
        refine ih hlt _ ⟨rfl, fun j hj => ?_⟩
        by_cases hjk : j = k
        · subst hjk; rw [hf]; rfl
        · exact e2 j (by omega)
    · obtain rfl : k = m.length := by omega
      exact tot_f (by simp [prs_length]) (tot_some (.inl ⟨(allN_iff _ _ _).2 fun j _ hj => e2 j (by omega), rfl⟩))) 0 [] (by omega) ⟨rfl, fun j hj => by omega⟩
  exact this
theorem each_ladder {w h s : Int} {t : Nat → Int} (H : RoofV w h s t) {l : List Int} (hl : l.length ≤ 8) (hq : allQ w l = true) {e : Int} (he : 0 ≤ e ∧ e ≤ 8) {m : List (Int × Int)} (hm : m.length ≤ 8) (hp : allP (isQ w h) m = true) :
    Ev (fun n => s_impl_each_impl_Place_int64__LadderFor_1 n (places m) w h s t (ints .i64 l) e) (ints .i64 (ladL s e l m m.length)) := by
  have hpj : ∀ j, j < m.length → isQ w h (pr m j) = true := fun j hj => (allN_iff _ _ _).1 hp j (by omega) (by omega)
  unfold s_impl_each_impl_Place_int64__LadderFor_1
  refine ev_bnd (a := ints .i64 (ladL s e l m m.length)) ?_ ev_some
  rw [show ((places m).length : Int) = (m.length : Int) by simp [prs_length]]
  unfold ladL
  rw [ints_map .i64 (ladN s e l m)]
  refine loop_map (l := fun n k g => l_impl_each_impl_Place_int64__LadderFor_1_b0 n w h s t (ints .i64 l) e (places m) (m.length : Nat) (k : Nat) g) (R := fun g => g) m.length (fun acc => ev_f (by simp) ev_some) (fun k acc hk hl2 a ih => ?_)
  refine ev_t (by simp; omega) (ev_bnd (a := ((pr m k).1, (pr m k).2)) (ev_of fun n => by rw [idx_prs _ _ _ _ hk]; rfl) (ev_bnd (a := ladN s e l m k) (by
    unfold s_impl_LadderFor_1
    exact ev_bnd (ladderOf_ok H hl hq he (pr m k) (hpj k hk)) ev_some) (ev_chk (by simp; omega) ?_)))
  rw [up64 k (by omega)]
  exact ih
theorem law_FnExactLadderFor {w h s e : Int} {t : Nat → Int} {xs ys : List V} (hw : (Lit.int .i8 w).wf = true) (hh : (Lit.int .i8 h).wf = true) (hs : (Lit.int .u8 s).wf = true) (ht : ∀ j, j < 64 → (Lit.int .u8 (t j)).wf = true)
    (hx : xs.length ≤ maxLen ∧ ∀ x, x ∈ xs → inL [.int .i64] [x]) (he : (Lit.int .i64 e).wf = true) (hy : ys.length ≤ maxLen ∧ ∀ x, x ∈ ys → ∃ l, x = .parts l ∧ inL [.int .i8, .int .i8] l) : Ev (fun n => s_laws_FnExactLadderFor n w h s t xs e ys) true := by
  obtain ⟨l, rfl, hl⟩ := ints_of hx.2
  obtain ⟨m, rfl, hm⟩ := prs_of hy.2
  have n1 : m.length ≤ 9223372036854775807 := by have := hy.1; rw [prs_length] at this; simpa [maxLen] using this
  unfold s_laws_FnExactLadderFor
  rw [show ((ints .i64 l).length : Int) = (l.length : Int) by simp [ints_length]]
  by_cases h1 : (1048576 : Int) < l.length
  · exact ev_t (by simpa using h1) ev_some
  · refine ev_f (by simpa using h1) (ev_bnd (szPlaceS_ok m n1) ?_)
    by_cases h2 : (1048576 : Int) < m.length
    · rw [if_pos h2]; exact ev_t (by simp) ev_some
    · rw [if_neg h2]
      obtain ⟨t', e1, e2⟩ := toRoof_ok w h s t
      have H := (RoofT.mk' hw hh hs ht).like e1
      have hc := toInt64S_ok l (by omega)
      have hp := toPlaceS_ok m (by omega)
      have hP := PlT.mk' hm (by omega)
      have k : ∃ (q : List Int) (y : Int), q.length ≤ 1000 ∧ Ev (fun n => s_spec_LadderFor n w h s t' (ints .i64 l) e (places m)) (ints .i64 q, y) ∧ Ev (fun n => s_impl_LadderFor n w h s t' (ints .i64 l) e (places m)) (ints .i64 q, y) := by
        unfold s_spec_LadderFor s_impl_LadderFor
        have k1 := Asked2_ok H l (by omega) m hP (reachB e)
        have k2 := ladderCode_ok H l (by omega) e m hP
        by_cases hz : askF w h s t' l m (reachB e && allQ w l && allP (isQ w h) m) = 0
        · obtain ⟨g1, g2, g3, g4, g5, g6⟩ := askF_zero hz
          have hV : RoofV w h s t' := ⟨H, g1⟩
          obtain ⟨v, hv, k3⟩ := spec_ladder_b0 hV g5 g2 g6 g4
          have k4 := areReached_ok hV g5 g3 g2 g6 g4
          rcases hv with ⟨r1, rfl⟩ | ⟨r1, rfl⟩
          · rw [r1] at k4
            exact ⟨ladL s e l m m.length, 0, by simp [ladL]; omega, ev_bnd (l04Reach_ok e) (ev_bnd k1 (ev_t (by simpa using hz) (ev_bnd k3 ev_some))), ev_bnd k2 (ev_t (by simpa using hz) (ev_bnd k4 (ev_t rfl (ev_bnd (each_ladder hV g5 g3 g2 g6 g4) (ev_chk (plain_fresh _ _ _) ev_some)))))⟩
          · rw [r1] at k4
            exact ⟨[], 6, by simp, ev_bnd (l04Reach_ok e) (ev_bnd k1 (ev_t (by simpa using hz) (ev_bnd k3 ev_some))), ev_bnd k2 (ev_t (by simpa using hz) (ev_bnd k4 (ev_f rfl ev_some)))⟩
        · exact ⟨[], _, by simp, ev_bnd (l04Reach_ok e) (ev_bnd k1 (ev_f (by simpa using hz) ev_some)), ev_bnd k2 (ev_f (by simpa using hz) ev_some)⟩
      obtain ⟨q, y, hq, k1, k2⟩ := k
      have hm1 := markInt64S_okL l 1 (by omega)
      have hm2 := markPlaceS_okL m (1 + l.length) (by omega)
      have hm3 := markInt64S_ok q 1 (by omega)
      have hh3 := heldInt64S_ok q.length 1 (by omega)
      have hq2 := eqInt64S_ok q (by omega)
      refine ev_f (by simp; omega) (ev_bnd e2 (ev_bnd hc (ev_bnd hp (ev_bnd k1 (ev_chk (plain_two ..) (ev_bnd hc (ev_bnd hp (ev_bnd e2 (ev_bnd k2 (ev_chk (plain_two ..) (ev_bnd hq2 (ev_t rfl (ev_t (by simp) ?_)))))))))))))
      refine ev_bnd hc (ev_bnd (eqInt64S_okL l (by omega)) (ev_t rfl (ev_bnd hp (ev_bnd (eqPlaceS_ok m (by omega)) (ev_t rfl (ev_bnd hm1 (ev_chk (like_ints _ _ _ (by rw [marks_length])) (ev_bnd hm2 (ev_chk (like_prs _ _ _ _ (by rw [marks2_length])) (ev_f (by simp; omega) ?_))))))))))
      refine ev_bnd hq2 (ev_t rfl (ev_bnd hm3 (ev_chk (like_ints _ _ _ (by rw [marks_length])) (ev_bnd hh3 (ev_f (by simp; omega) (ev_t (by simp) ?_))))))
      exact ev_bnd e2 (ev_bnd hc (ev_bnd hp (ev_bnd k2 (ev_chk (plain_two ..) (ev_bnd hq2 (ev_t rfl (ev_t (by simp) (ev_bnd hh3 (ev_f (by simp; omega) (ev_t (by simp) ev_some))))))))))
end Go.Proofs.Ytdhcfdiggcgmhaa
