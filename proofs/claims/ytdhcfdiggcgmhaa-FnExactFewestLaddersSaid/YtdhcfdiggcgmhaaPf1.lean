/- Law FewestLadders. -/
import Derived.Test.YtdhcfdiggcgmhaaPd3
import Derived.Test.YtdhcfdiggcgmhaaSh10
namespace Go.Proofs.Ytdhcfdiggcgmhaa
open Go
set_option linter.unusedVariables false
set_option linter.unusedSimpArgs false


theorem askF_zero {w h s : Int} {t : Nat → Int} {l : List Int} {m : List (Int × Int)} {e : Int} (hc : askF w h s t l m (reachB e && allQ w l && allP (isQ w h) m) = 0) : roofOk w h s t = true ∧ (0 ≤ e ∧ e ≤ 8) ∧ allQ w l = true ∧ allP (isQ w h) m = true ∧ l.length ≤ 8 ∧ m.length ≤ 8 := by
  unfold askF at hc
  split at hc
  · rename_i h1
    obtain ⟨h2, h3⟩ := roofC_zero h1
    rw [Bool.and_eq_true, Bool.and_eq_true] at h3
    have h4 : 0 ≤ e ∧ e ≤ 8 := by have := h3.1.1; simpa [reachB] using this
    split at hc
    · cases hc
    · split at hc
      · cases hc
      · exact ⟨h2, h4, h3.1.2, h3.2, by omega, by omega⟩
  · contradiction
theorem l04Reach_ok (e : Int) : Ev (fun n => s_spec_l04Reach n e) (reachB e) := by
  unfold s_spec_l04Reach; exact ev_bnd (ev_of fun n => l00In_eq n _ _ _) ev_some
theorem markPlaceS_okL (l : List (Int × Int)) (k0 : Nat) (hl : l.length ≤ 2000000 ∧ k0 ≤ 2000000) : Ev (fun n => s_laws_markPlaceS n (places l) (k0 : Int)) (((k0 + 2 * l.length : Nat) : Int), places (marks2 k0 l.length)) := by
  unfold s_laws_markPlaceS
  obtain ⟨v, hv, h1⟩ := loop_up (l := fun n k (st : List (Int × Int)) => l_laws_markPlaceS_b0 n ((k0 + 2 * k : Nat) : Int) (k : Nat) (places st)) (I := fun k st => st.length = l.length ∧ ∀ j, j < k → st[j]? = some (mark2 k0 j))
    (P := fun v => v = (((k0 + 2 * l.length : Nat) : Int), places (marks2 k0 l.length))) l.length (by
    rintro k st hk ⟨e1, e2⟩ ih
    by_cases hlt : k < l.length
    · have hk2 : k < st.length := by omega
      refine tot_t (by simp [prs_length]; omega) (tot_chk (inB_k _ _ (by rw [prs_length]; exact hk2)) (tot_ev (a := ((pr st k).1, (pr st k).2)) (ev_of fun n => by rw [Int.toNat_natCast, nth_prs _ _ _ _ hk2]; rfl) (tot_ev (a := ((pr st k).1, (pr st k).2)) (ev_of fun n => by rw [Int.toNat_natCast, nth_prs _ _ _ _ hk2]; rfl) ?_)))
      rw [Int.toNat_natCast]
      dsimp only
      rw [set_prs]
      have hq : pr (st.set k (IntKind.i8.wrap ((k0 + 2 * k : Nat) : Int), (pr st k).2)) k = (IntKind.i8.wrap ((k0 + 2 * k : Nat) : Int), (pr st k).2) := by
        unfold pr; rw [List.getD_eq_getElem?_getD, List.getElem?_set, if_pos rfl, if_pos hk2]; rfl
      have hg : ∀ n : Nat, bnd (nth (places (st.set k (IntKind.i8.wrap ((k0 + 2 * k : Nat) : Int), (pr st k).2))) k) as_Pi8_i8Q = some (IntKind.i8.wrap ((k0 + 2 * k : Nat) : Int), (pr st k).2) := by
        intro n
        rw [nth_prs _ _ _ _ (by simp; exact hk2), hq]; rfl
      refine tot_chk (inB_k _ _ (by simp [prs_length]; exact hk2)) (tot_ev (ev_of hg) (tot_ev (ev_of hg) ?_))
      dsimp only
      rw [set_prs, up64 k (by omega), up64 (k0 + 2 * k) (by omega), up64 (k0 + 2 * k + 1) (by omega), show k0 + 2 * k + 1 + 1 = k0 + 2 * (k + 1) by omega, List.set_set]
      refine ih hlt _ ⟨by simp [e1], fun j hj => ?_⟩
      rw [List.getElem?_set]
      by_cases h : k = j
      · subst h; rw [if_pos rfl, if_pos hk2]; rfl
      · rw [if_neg h]; exact e2 j (by omega)
    · obtain rfl : k = l.length := by omega
      refine tot_f (by simp [prs_length]; omega) (tot_some ?_)
      refine Prod.ext rfl ?_
      show places st = places _
      congr 1
      apply List.ext_getElem?
      intro j
      by_cases hj : j < l.length
      · rw [e2 j hj, marks2_get _ _ _ hj]
      · rw [List.getElem?_eq_none (by omega), List.getElem?_eq_none (by rw [marks2_length]; omega)]) 0 l (by omega) ⟨rfl, fun j hj => by omega⟩
  subst hv
  exact ev_bnd h1 ev_some
theorem plain_two (e : Nat) (k k1 : IntKind) (l : List Int) (c : Int) : plainV (V.tup [V.fresh e (ints k l), V.int k1 c]) = true := by
  have h := plain_ints k l
  simp only [plainV, allB, plainQ, plainP, plainO]
  rw [h]
theorem l04First_okB {w h s : Int} {t : Nat → Int} (H : RoofV w h s t) {l : List Int} (hl : l.length ≤ 100) {e : Int} (he : 0 ≤ e ∧ e ≤ 8) (p : Int × Int) (hp : isQ w h p = true) : Ev (fun n => s_spec_l04First n w h s t (ints .i64 l) e p.1 p.2) (match firstL s e l p with | some j => (j : Int) | none => -1) := by
  have hb := H.b
  simp only [isQ, decide_eq_true_eq] at hp
  unfold s_spec_l04First
  have key := loop_first (l := fun n j => l_spec_l04First_b0 n w h s t (ints .i64 l) e (j : Nat) p.1 p.2) (p := fun j => canR s (gi l j) e p.1 p.2) (A := .inl ()) (B := fun j => .inr (j : Int)) l.length (ev_f (by simp [ints_length]) ev_some) (by
    intro j hj hq v ih
    refine ev_t (by simp [ints_length]; omega) (ev_bnd (a := gi l j) (ev_of fun n => by rw [idx_gi _ _ _ hj]; rfl) (ev_bnd (ev_of fun n => l04Can_eq n _ _ _ _ ⟨hb.2.2.2.2.1, hb.2.2.2.2.2⟩ (by omega) (by omega) (by omega)) ?_))
    rw [up64 j (by omega)]
    exact ev_f hq ih) (by
    intro j hj hq
    exact ev_t (by simp [ints_length]; omega) (ev_bnd (a := gi l j) (ev_of fun n => by rw [idx_gi _ _ _ hj]; rfl) (ev_bnd (ev_of fun n => l04Can_eq n _ _ _ _ ⟨hb.2.2.2.2.1, hb.2.2.2.2.2⟩ (by omega) (by omega) (by omega)) (ev_t hq ev_some)))) l.length 0 (by omega)
  refine ev_bnd key ?_
  unfold firstL
  cases firstN (fun j => canR s (gi l j) e p.1 p.2) 0 l.length <;> exact ev_some
theorem ladderOf_okB {w h s : Int} {t : Nat → Int} (H : RoofV w h s t) {l : List Int} (hl : l.length ≤ 100) (hq : allQ w l = true) {e : Int} (he : 0 ≤ e ∧ e ≤ 8) (p : Int × Int) (hp : isQ w h p = true) : Ev (fun n => s_impl_Roof_ladderOf n w h s t (ints .i64 l) e p.1 p.2) (match firstL s e l p with | some j => (j : Int) | none => (l.length : Int)) := by
  have hb := H.b
  simp only [isQ, decide_eq_true_eq] at hp
  unfold s_impl_Roof_ladderOf
  rw [show ((ints .i64 l).length : Int) = (l.length : Int) by simp [ints_length]]
  have hc : ∀ j, j < l.length → 0 ≤ gi l j ∧ gi l j ≤ 2 * w := fun j hj => by
    have := (allN_iff _ _ _).1 hq j (by omega) (by omega)
    simpa [cellQ] using this
  have key := loop_first (l := fun n j => l_impl_Roof_ladderOf_b0 n (ints .i64 l) e (ints .i64 l) (l.length : Int) (j : Nat) w h s t p.1 p.2) (p := fun j => canR s (gi l j) e p.1 p.2) (A := .inl (ints .i64 l)) (B := fun j => .inr (j : Int)) l.length (ev_f (by simp) ev_some) (by
    intro j hj hr v ih
    have := hc j hj
    refine ev_t (by simp; omega) (ev_bnd (a := gi l j) (ev_of fun n => by rw [idx_gi _ _ _ hj]; rfl) (ev_bnd (reaches_ok _ _ _ _ ⟨hb.2.2.2.2.1, hb.2.2.2.2.2⟩ (by omega) (by omega) (by omega) (by omega)) ?_))
    rw [up64 j (by omega)]
    exact ev_f hr ih) (by
    intro j hj hr
    have := hc j hj
    exact ev_t (by simp; omega) (ev_bnd (a := gi l j) (ev_of fun n => by rw [idx_gi _ _ _ hj]; rfl) (ev_bnd (reaches_ok _ _ _ _ ⟨hb.2.2.2.2.1, hb.2.2.2.2.2⟩ (by omega) (by omega) (by omega) (by omega)) (ev_t hr ev_some)))) l.length 0 (by omega)
  refine ev_bnd key ?_
  unfold firstL
  cases firstN (fun j => canR s (gi l j) e p.1 p.2) 0 l.length with
  | none => exact ev_cast ev_some (by simp [ints_length])
  | some j => exact ev_some
theorem l04All_okB {w h s : Int} {t : Nat → Int} (H : RoofV w h s t) {l : List Int} (hl : l.length ≤ 100) {e : Int} (he : 0 ≤ e ∧ e ≤ 8) {m : List (Int × Int)} (hm : m.length ≤ 8) (hp : allP (isQ w h) m = true) : Ev (fun n => s_spec_l04All n w h s t (ints .i64 l) e (places m)) (reached s e l m) := by
  unfold s_spec_l04All reached
  have hq : ∀ j, j < m.length → isQ w h (pr m j) = true := fun j hj => (allN_iff _ _ _).1 hp j (by omega) (by omega)
  have key := loop_all (l := fun n j => l_spec_l04All_b0 n w h s t (ints .i64 l) e (places m) (j : Nat)) (p := fun j => (firstL s e l (pr m j)).isSome) (A := .inl ()) (B := .inr false) m.length (ev_f (by simp [prs_length]) ev_some) (by
    intro j hj hr v ih
    refine ev_t (by simp [prs_length]; omega) (ev_bnd (a := ((pr m j).1, (pr m j).2)) (ev_of fun n => by rw [idx_prs _ _ _ _ hj]; rfl) (ev_bnd (l04First_okB H hl he (pr m j) (hq j hj)) ?_))
    rw [up64 j (by omega)]
    cases hf : firstL s e l (pr m j) with
    | none => rw [hf] at hr; cases hr
    | some i => exact ev_f (by simp) ih) (by
    intro j hj hr
    refine ev_t (by simp [prs_length]; omega) (ev_bnd (a := ((pr m j).1, (pr m j).2)) (ev_of fun n => by rw [idx_prs _ _ _ _ hj]; rfl) (ev_bnd (l04First_okB H hl he (pr m j) (hq j hj)) ?_))
    cases hf : firstL s e l (pr m j) with
    | none => exact ev_t (by simp) ev_some
    | some i => rw [hf] at hr; cases hr) m.length 0 (by omega)
  refine ev_bnd key ?_
  cases allN (fun j => (firstL s e l (pr m j)).isSome) 0 m.length <;> exact ev_some
theorem areReached_okB {w h s : Int} {t : Nat → Int} (H : RoofV w h s t) {l : List Int} (hl : l.length ≤ 100) (hq : allQ w l = true) {e : Int} (he : 0 ≤ e ∧ e ≤ 8) {m : List (Int × Int)} (hm : m.length ≤ 8) (hp : allP (isQ w h) m = true) : Ev (fun n => s_impl_Roof_areReached n w h s t (ints .i64 l) e (places m)) (reached s e l m) := by
  unfold s_impl_Roof_areReached s_impl_areAll_impl_Place__Roof_areReached_1 s_slices_ContainsFunc_Simpl_Place_impl_Place__areAll_Place_1__Roof_areReached_1 s_slices_IndexFunc_Simpl_Place_impl_Place__areAll_Place_1__Roof_areReached_1
  have hpj : ∀ j, j < m.length → isQ w h (pr m j) = true := fun j hj => (allN_iff _ _ _).1 hp j (by omega) (by omega)
  have e1 : ∀ j, j < m.length → Ev (fun n => s_impl_areAll_impl_Place_1__Roof_areReached_1 n (pr m j).1 (pr m j).2 w h s t (ints .i64 l) e) (!(firstL s e l (pr m j)).isSome) := fun j hj => by
    unfold s_impl_areAll_impl_Place_1__Roof_areReached_1 s_impl_Roof_areReached_1
    rw [show ((ints .i64 l).length : Int) = (l.length : Int) by simp [ints_length]]
    refine ev_bnd (ev_bnd (ladderOf_okB H hl hq he (pr m j) (hpj j hj)) ev_some) (ev_cast ev_some ?_)
    cases hf : firstL s e l (pr m j) with
    | none => simp
    | some i => have := firstL_lt hf; simp; omega
  rw [show ((places m).length : Int) = (m.length : Int) by simp [prs_length]]
  have key := loop_first (l := fun n j => l_slices_IndexFunc_Simpl_Place_impl_Place__areAll_Place_1__Roof_areReached_1_b0 n (places m) w h s t (ints .i64 l) e (m.length : Int) (j : Nat)) (p := fun j => !(firstL s e l (pr m j)).isSome) (A := .inl ()) (B := fun j => .inr (j : Int)) m.length (ev_f (by simp) ev_some) (by
    intro j hj hr v ih
    refine ev_t (by simp; omega) (ev_bnd (a := ((pr m j).1, (pr m j).2)) (ev_of fun n => by rw [idx_prs _ _ _ _ hj]; rfl) (ev_bnd (e1 j hj) ?_))
    rw [up64 j (by omega)]
    exact ev_f hr ih) (by
    intro j hj hr
    exact ev_t (by simp; omega) (ev_bnd (a := ((pr m j).1, (pr m j).2)) (ev_of fun n => by rw [idx_prs _ _ _ _ hj]; rfl) (ev_bnd (e1 j hj) (ev_t hr ev_some)))) m.length 0 (by omega)
  refine ev_bnd (ev_bnd (ev_bnd (ev_bnd key (b := match firstN (fun j => !(firstL s e l (pr m j)).isSome) 0 m.length with | some j => (j : Int) | none => -1) ?_) ev_some) ev_some) ?_
  · cases firstN (fun j => !(firstL s e l (pr m j)).isSome) 0 m.length <;> exact ev_some
  · refine ev_cast ev_some ?_
    exact (congrArg Bool.not (contains_all (fun j => (firstL s e l (pr m j)).isSome) m.length)).trans (Bool.not_not _)
theorem tot_sh {α : Type} {f : Nat → Option α} {P : α → Prop} (h : Tot f P) {g : Nat → Nat} (hg : ∀ n, n ≤ g n) : Tot (fun n => f (g n)) P := by
  obtain ⟨a, ha, N, h⟩ := h
  exact ⟨a, ha, N, fun n hn => h (g n) (Nat.le_trans hn (hg n))⟩
/-- the first cell from k on, among d, from which more is found -/
def srchL (f : Nat → Option (List Int)) : Nat → Nat → Option (List Int)
  | _, 0 => none
  | k, d + 1 => match f k with
    | some q => some q
    | none => srchL f (k + 1) d
def srch (R : List Int → Bool) (C : Nat) : Nat → List Int → Nat → Option (List Int)
  | 0, l, _ => match R l with
    | true => some l
    | false => none
  | many + 1, l, k => srchL (fun c => srch R C many (l ++ [(c : Int)]) (c + 1)) k (C - k)
theorem srchL_some {f : Nat → Option (List Int)} {q : List Int} : ∀ {d k : Nat}, srchL f k d = some q → ∃ j, f j = some q
  | 0, k, h => by cases h
  | d + 1, k, h => by
    simp only [srchL] at h
    split at h
    · rename_i q' hq
      obtain rfl := Option.some.inj h
      exact ⟨k, hq⟩
    · exact srchL_some h
theorem srch_len {R : List Int → Bool} {C : Nat} : ∀ {many : Nat} {l : List Int} {k : Nat} {q : List Int}, srch R C many l k = some q → q.length = l.length + many
  | 0, l, k, q, h => by
    simp only [srch] at h
    split at h
    · obtain rfl := Option.some.inj h; rfl
    · cases h
  | many + 1, l, k, q, h => by
    obtain ⟨j, hj⟩ := srchL_some h
    have := srch_len hj
    simp at this; omega
def upto (k : Nat) : List Int := (List.range' 0 k).map fun (i : Nat) => (i : Int)
theorem upto_succ (k : Nat) : upto (k + 1) = upto k ++ [(k : Int)] := by unfold upto; rw [List.range'_concat]; simp
theorem srch_all {R : List Int → Bool} {C : Nat} (hR : R (upto C) = true) : ∀ (d k : Nat), k + d = C → srch R C d (upto k) k = some (upto C)
  | 0, k, h => by
    obtain rfl : k = C := by omega
    simp only [srch, hR]
  | d + 1, k, h => by
    have ih := srch_all hR d (k + 1) (by omega)
    rw [upto_succ] at ih
    simp only [srch]
    rw [show C - k = d + 1 by omega]
    simp only [srchL, ih]
def LadP (o : Option (List Int)) (v : List V × Bool) : Prop := match o with
  | some q => v = (ints .i64 q, true)
  | none => v.2 = false ∧ ∃ q, v.1 = ints .i64 q
def LadW (o : Option (List Int)) (v : Sum Unit (Bool × List V)) : Prop := match o with
  | some q => v = .inr (true, ints .i64 q)
  | none => v = .inl ()
theorem ladP_R {R : List Int → Bool} {l : List Int} : LadP (match R l with | true => some l | false => none) (ints .i64 l, R l) := by
  cases R l with
  | true => rfl
  | false => exact ⟨rfl, l, rfl⟩
theorem add_one (l : List Int) (k : Nat) : (([] : List V) ++ ints .i64 l) ++ [V.int .i64 (k : Int)] = ints .i64 (l ++ [(k : Int)]) := by rw [ints_append]; rfl
theorem add_one' (l : List Int) (k : Nat) : ints .i64 l ++ [V.int .i64 (k : Int)] = ints .i64 (l ++ [(k : Int)]) := by rw [ints_append]; rfl
theorem dn64 (k : Nat) (h : k < 1000000000) : IntKind.i64.wrap (((k + 1 : Nat) : Int) - 1) = (k : Int) := by rw [w64 _ (by omega)]; omega
theorem spec_lad {w h s : Int} {t : Nat → Int} (H : RoofV w h s t) {e : Int} (he : 0 ≤ e ∧ e ≤ 8) {m : List (Int × Int)} (hm : m.length ≤ 8) (hp : allP (isQ w h) m = true) {C : Nat} (hC : (C : Int) = 2 * w + 1) :
    ∀ (many : Nat) (l : List Int) (k : Nat), k ≤ C → l.length + many ≤ 17 → Tot (fun n => s_spec_l04Ladders n w h s t e (places m) (ints .i64 l) (k : Int) (many : Int)) (LadP (srch (fun l => reached s e l m) C many l k)) := by
  have hb := H.b
  intro many
  induction many with
  | zero =>
    intro l k hk hl
    refine tot_succ (tot_t (by simp) (tot_ev (l04All_okB H (by omega) he hm hp) (tot_some ?_)))
    exact ladP_R (R := fun l => reached s e l m)
  | succ many ih =>
    intro l k hk hl
    refine tot_succ (tot_f (by simp; omega) ?_)
    have key : ∀ (d k : Nat) (g : Nat → Nat), (∀ n, n ≤ g n) → k + d = C → Tot (fun n => l_spec_l04Ladders_b0 (fun x0 x1 x2 x3 x4 x5 x6 x7 x8 => s_spec_l04Ladders (g n) x0 x1 x2 x3 x4 x5 x6 x7 x8) n w h s t e (places m) ((many + 1 : Nat) : Int) (k : Int) (ints .i64 l)) (LadW (srchL (fun c => srch (fun l => reached s e l m) C many (l ++ [(c : Int)]) (c + 1)) k d)) := by
      intro d
      induction d with
      | zero =>
        intro k g hg hk
        exact tot_succ (tot_ev (ev_of fun n => l01Cells_eq n H.toRoofT) (tot_f (by simp; omega) (tot_some rfl)))
      | succ d ihd =>
        intro k g hg hk
        refine tot_succ (tot_ev (ev_of fun n => l01Cells_eq n H.toRoofT) (tot_t (by simp; omega) (tot_chk (by simp [ints_length]; omega) (tot_chk (by simp [ints_length]; omega) ?_))))
        rw [add_one, up64 k (by omega), dn64 many (by omega)]
        refine tot_chk (plain_fresh _ _ _) ?_
        have h1 := ih (l ++ [(k : Int)]) (k + 1) (by omega) (by simp; omega)
        refine tot_bnd (tot_sh h1 (g := fun n => g (n + 1)) (fun n => by have := hg (n + 1); omega)) fun v hv => ?_
        cases hs : srch (fun l => reached s e l m) C many (l ++ [(k : Int)]) (k + 1) with
        | some q =>
          rw [hs] at hv
          obtain rfl : v = (ints .i64 q, true) := hv
          refine tot_chk (plain_fresh _ _ _) (tot_t rfl (tot_some ?_))
          simp only [srchL, hs]
          rfl
        | none =>
          rw [hs] at hv
          obtain ⟨v1, v2⟩ := v
          obtain ⟨hv2, q, hv1⟩ := hv
          dsimp only at hv1 hv2
          subst hv1 hv2
          refine tot_chk (plain_fresh _ _ _) (tot_f rfl ?_)
          simp only [srchL, hs]
          exact ihd (k + 1) (fun n => g (n + 1)) (fun n => by have := hg (n + 1); omega) (by omega)
    refine tot_bnd (key (C - k) k (fun n => n) (fun n => Nat.le_refl n) (by omega)) fun v hv => ?_
    simp only [srch]
    cases hs : srchL (fun c => srch (fun l => reached s e l m) C many (l ++ [(c : Int)]) (c + 1)) k (C - k) with
    | some q =>
      rw [hs] at hv
      obtain rfl : v = .inr (true, ints .i64 q) := hv
      exact tot_some rfl
    | none =>
      rw [hs] at hv
      obtain rfl : v = .inl () := hv
      exact tot_some ⟨rfl, [], rfl⟩
theorem cloneI_ok (l : List Int) (hl : l.length ≤ 1048576) (n : Nat) : s_slices_Clone_Sint64_int64 n (ints .i64 l) = some (ints .i64 l) := by
  have sz : ∀ l : List Int, sizesOk 1 (ints .i64 l) = true := by
    intro l
    induction l with
    | nil => rfl
    | cons x l ih => exact ih
  unfold s_slices_Clone_Sint64_int64
  rw [sz, show decide ((([] : List V).length + (ints .i64 l).length) * 8 ≤ 140737488355328) = true by simp [ints_length]; omega]
  rfl
theorem allQ_add {w : Int} {l : List Int} {k : Nat} (hl : allQ w l = true) (hk : (k : Int) ≤ 2 * w) : allQ w (l ++ [(k : Int)]) = true := by
  refine (allN_iff _ _ _).2 fun j _ hj => ?_
  simp only [List.length_append, List.length_singleton] at hj
  unfold gi
  rw [List.getD_eq_getElem?_getD]
  by_cases h : j < l.length
  · rw [List.getElem?_append_left h]
    have := (allN_iff _ _ _).1 hl j (by omega) (by omega)
    rwa [gi, List.getD_eq_getElem?_getD] at this
  · obtain rfl : j = l.length := by omega
    simp [cellQ]; omega
theorem impl_lad {w h s : Int} {t : Nat → Int} (H : RoofV w h s t) {e : Int} (he : 0 ≤ e ∧ e ≤ 8) {m : List (Int × Int)} (hm : m.length ≤ 8) (hp : allP (isQ w h) m = true) {C : Nat} (hC : (C : Int) = 2 * w + 1) :
    ∀ (many : Nat) (l : List Int) (k : Nat), ((l = [] ∧ k = 0) ∨ ∃ l0 c, l = l0 ++ [((c : Nat) : Int)] ∧ k = c + 1) → allQ w l = true → k ≤ C → l.length + many ≤ 17 → Tot (fun n => s_impl_Roof_ladders n w h s t (ints .i64 l) (many : Int) e (places m)) (LadP (srch (fun l => reached s e l m) C many l k)) := by
  have hb := H.b
  intro many
  induction many with
  | zero =>
    intro l k hlk hq hk hl
    refine tot_succ (tot_t (by simp) (tot_ev (areReached_okB H (by omega) hq he hm hp) (tot_some ?_)))
    exact ladP_R (R := fun l => reached s e l m)
  | succ many ih =>
    intro l k hlk hq hk hl
    refine tot_succ (tot_f (by simp; omega) ?_)
    have key : ∀ (d k : Nat) (g : Nat → Nat), (∀ n, n ≤ g n) → k + d = C → Tot (fun n => l_impl_Roof_ladders_b0 (fun x0 x1 x2 x3 x4 x5 x6 x7 => s_impl_Roof_ladders (g n) x0 x1 x2 x3 x4 x5 x6 x7) n ((many + 1 : Nat) : Int) e (places m) (k : Int) (ints .i64 l) w h s t) (LadW (srchL (fun c => srch (fun l => reached s e l m) C many (l ++ [(c : Int)]) (c + 1)) k d)) := by
      intro d
      induction d with
      | zero =>
        intro k g hg hk
        exact tot_succ (tot_ev (ev_of fun n => cells_eq n H.toRoofT) (tot_f (by simp; omega) (tot_some rfl)))
      | succ d ihd =>
        intro k g hg hk
        refine tot_succ (tot_ev (ev_of fun n => cells_eq n H.toRoofT) (tot_t (by simp; omega) (tot_ev (ev_of fun n => cloneI_ok l (by omega) n) (tot_chk (plain_fresh _ _ _) (tot_chk (by simp [ints_length]; omega) ?_)))))
        rw [add_one', up64 k (by omega), dn64 many (by omega)]
        refine tot_chk (plain_fresh _ _ _) ?_
        have h1 := ih (l ++ [(k : Int)]) (k + 1) (.inr ⟨l, k, rfl, rfl⟩) (allQ_add hq (by omega)) (by omega) (by simp; omega)
        refine tot_bnd (tot_sh h1 (g := fun n => g (n + 1)) (fun n => by have := hg (n + 1); omega)) fun v hv => ?_
        cases hs : srch (fun l => reached s e l m) C many (l ++ [(k : Int)]) (k + 1) with
        | some q =>
          rw [hs] at hv
          obtain rfl : v = (ints .i64 q, true) := hv
          refine tot_chk (plain_fresh _ _ _) (tot_t rfl (tot_some ?_))
          simp only [srchL, hs]
          rfl
        | none =>
          rw [hs] at hv
          obtain ⟨v1, v2⟩ := v
          obtain ⟨hv2, q, hv1⟩ := hv
          dsimp only at hv1 hv2
          subst hv1 hv2
          refine tot_chk (plain_fresh _ _ _) (tot_f rfl ?_)
          simp only [srchL, hs]
          exact ihd (k + 1) (fun n => g (n + 1)) (fun n => by have := hg (n + 1); omega) (by omega)
    have kk := key (C - k) k (fun n => n) (fun n => Nat.le_refl n) (by omega)
    have fin : ∀ v, LadW (srchL (fun c => srch (fun l => reached s e l m) C many (l ++ [(c : Int)]) (c + 1)) k (C - k)) v → (v = .inl () ∧ srch (fun l => reached s e l m) C (many + 1) l k = none) ∨ ∃ q, v = .inr (true, ints .i64 q) ∧ srch (fun l => reached s e l m) C (many + 1) l k = some q := by
      intro v hv
      simp only [srch]
      cases hs : srchL (fun c => srch (fun l => reached s e l m) C many (l ++ [(c : Int)]) (c + 1)) k (C - k) with
      | some q => rw [hs] at hv; exact .inr ⟨q, hv, rfl⟩
      | none => rw [hs] at hv; exact .inl ⟨hv, rfl⟩
    rcases hlk with ⟨rfl, rfl⟩ | ⟨l0, c, rfl, rfl⟩
    · refine tot_f (by simp [ints]) (tot_bnd kk fun v hv => ?_)
      rcases fin v hv with ⟨rfl, e1⟩ | ⟨q, rfl, e1⟩
      · rw [e1]; exact tot_some ⟨rfl, [], rfl⟩
      · rw [e1]; exact tot_some rfl
    · have hlen : ((ints .i64 (l0 ++ [(c : Int)])).length : Int) = ((l0.length + 1 : Nat) : Int) := by simp [ints_length]
      rw [hlen, dn64 _ (by simp at hl; omega)]
      refine tot_t (by simp <;> omega) (tot_chk (inB_k _ _ (by simp [ints_length])) (tot_ev (a := (c : Int)) (ev_of fun n => by
        rw [Int.toNat_natCast, nth_gi _ _ _ (by simp)]
        simp [gi]; rfl) ?_))
      rw [up64 c (by omega)]
      refine tot_bnd kk fun v hv => ?_
      rcases fin v hv with ⟨rfl, e1⟩ | ⟨q, rfl, e1⟩
      · rw [e1]; exact tot_some ⟨rfl, [], rfl⟩
      · rw [e1]; exact tot_some rfl
theorem all_reach {w h s e : Int} {t : Nat → Int} (H : RoofV w h s t) (he : 0 ≤ e ∧ e ≤ 8) {m : List (Int × Int)} (hp : allP (isQ w h) m = true) {C : Nat} (hC : (C : Int) = 2 * w + 1) : reached s e (upto C) m = true := by
  have hb := H.b
  refine (allN_iff _ _ _).2 fun j _ hj => ?_
  have hq : isQ w h (pr m j) = true := (allN_iff _ _ _).1 hp j (by omega) (by omega)
  simp only [isQ, decide_eq_true_eq] at hq
  have h1 := shiftOf_b s (pr m j).1
  cases hf : firstL s e (upto C) (pr m j) with
  | some i => rfl
  | none =>
    have hl : (upto C).length = C := by simp [upto]
    obtain ⟨a, ha⟩ : ∃ a : Nat, (a : Int) = firstF s (pr m j).1 (pr m j).2 := ⟨(firstF s (pr m j).1 (pr m j).2).toNat, by unfold firstF; omega⟩
    have h2 := firstN_none hf a (by omega) (by rw [hl]; unfold firstF at ha; omega)
    have h3 : gi (upto C) a = (a : Int) := by
      unfold gi upto
      rw [List.getD_eq_getElem?_getD, List.getElem?_map, List.getElem?_range' (by unfold firstF at ha; omega)]
      simp
    rw [h3, ha] at h2
    simp [canR] at h2
    omega
theorem few_two {w h s e : Int} {t : Nat → Int} (H : RoofV w h s t) (he : 0 ≤ e ∧ e ≤ 8) {m : List (Int × Int)} (hm : m.length ≤ 8) (hp : allP (isQ w h) m = true) : ∃ q : List Int, q.length ≤ 17 ∧ Ev (fun n => l_spec_FewestLadders_b0 n e (places m) 0 w h s t) (0, ints .i64 q) ∧ Ev (fun n => l_impl_FewestLadders_b0 n e (places m) 0 w h s t) (0, ints .i64 q) := by
  have hb := H.b
  obtain ⟨C, hC⟩ : ∃ C : Nat, (C : Int) = 2 * w + 1 := ⟨(2 * w + 1).toNat, by omega⟩
  have hA : srch (fun l => reached s e l m) C C [] 0 = some (upto C) := srch_all (all_reach H he hp hC) C 0 (by omega)
  have sl := fun (j : Nat) (hj : j ≤ C) => spec_lad H he hm hp hC j [] 0 (by omega) (by simp; omega)
  have il := fun (j : Nat) (hj : j ≤ C) => impl_lad H he hm hp hC j [] 0 (.inl ⟨rfl, rfl⟩) rfl (by omega) (by simp; omega)
  let G := fun j : Nat => (srch (fun l => reached s e l m) C j [] 0).getD []
  have hG : ∀ j, (srch (fun l => reached s e l m) C j [] 0).isSome = true → srch (fun l => reached s e l m) C j [] 0 = some (G j) := by
    intro j hj
    show _ = some ((srch (fun l => reached s e l m) C j [] 0).getD [])
    cases hs : srch (fun l => reached s e l m) C j [] 0 with
    | some q => rfl
    | none => rw [hs] at hj; cases hj
  have hGl : ∀ j, (G j).length ≤ j := by
    intro j
    show ((srch (fun l => reached s e l m) C j [] 0).getD []).length ≤ j
    cases hs : srch (fun l => reached s e l m) C j [] 0 with
    | some q => have := srch_len hs; simp at this; simp; omega
    | none => simp
  have k1 := loop_first (l := fun n j => l_spec_FewestLadders_b0 n e (places m) (j : Nat) w h s t) (p := fun j => (srch (fun l => reached s e l m) C j [] 0).isSome) (A := (0, ints .i64 (G C))) (B := fun j => (0, ints .i64 (G j))) C (by
      have h1 := sl C (by omega)
      rw [hG C (by rw [hA]; rfl)] at h1
      obtain ⟨v, rfl, h1⟩ := h1
      exact ev_bnd h1 (ev_chk (plain_fresh _ _ _) (ev_t rfl ev_some))) (by
      intro j hj hq a ih
      obtain ⟨v, hv, h1⟩ := sl j (by omega)
      cases hs : srch (fun l => reached s e l m) C j [] 0 with
      | some q => rw [hs] at hq; cases hq
      | none =>
        rw [hs] at hv
        obtain ⟨v1, v2⟩ := v
        obtain ⟨hv2, q, hv1⟩ := hv
        dsimp only at hv1 hv2
        subst hv1 hv2
        refine ev_bnd h1 (ev_chk (plain_fresh _ _ _) ?_)
        rw [up64 j (by omega)]
        exact ev_f rfl ih) (by
      intro j hj hq
      have h1 := sl j (by omega)
      rw [hG j hq] at h1
      obtain ⟨v, rfl, h1⟩ := h1
      exact ev_bnd h1 (ev_chk (plain_fresh _ _ _) (ev_t rfl ev_some))) C 0 (by omega)
  have k2 := loop_first (l := fun n j => l_impl_FewestLadders_b0 n e (places m) (j : Nat) w h s t) (p := fun j => (srch (fun l => reached s e l m) C j [] 0).isSome) (A := (0, ints .i64 (G C))) (B := fun j => (0, ints .i64 (G j))) C (by
      have h1 := il C (by omega)
      rw [hG C (by rw [hA]; rfl)] at h1
      obtain ⟨v, rfl, h1⟩ := h1
      exact ev_bnd h1 (ev_chk (plain_fresh _ _ _) (ev_t rfl ev_some))) (by
      intro j hj hq a ih
      obtain ⟨v, hv, h1⟩ := il j (by omega)
      cases hs : srch (fun l => reached s e l m) C j [] 0 with
      | some q => rw [hs] at hq; cases hq
      | none =>
        rw [hs] at hv
        obtain ⟨v1, v2⟩ := v
        obtain ⟨hv2, q, hv1⟩ := hv
        dsimp only at hv1 hv2
        subst hv1 hv2
        refine ev_bnd h1 (ev_chk (plain_fresh _ _ _) ?_)
        rw [up64 j (by omega)]
        exact ev_f rfl ih) (by
      intro j hj hq
      have h1 := il j (by omega)
      rw [hG j hq] at h1
      obtain ⟨v, rfl, h1⟩ := h1
      exact ev_bnd h1 (ev_chk (plain_fresh _ _ _) (ev_t rfl ev_some))) C 0 (by omega)
  cases hf : firstN (fun j => (srch (fun l => reached s e l m) C j [] 0).isSome) 0 C with
  | none =>
    rw [hf] at k1 k2
    exact ⟨G C, by have := hGl C; omega, k1, k2⟩
  | some j =>
    rw [hf] at k1 k2
    obtain ⟨_, h1, _⟩ := firstN_some hf
    exact ⟨G j, by have := hGl j; omega, k1, k2⟩
theorem law_FnExactFewestLadders {w h s e : Int} {t : Nat → Int} {ys : List V} (hw : (Lit.int .i8 w).wf = true) (hh : (Lit.int .i8 h).wf = true) (hs : (Lit.int .u8 s).wf = true) (ht : ∀ j, j < 64 → (Lit.int .u8 (t j)).wf = true)
    (he : (Lit.int .i64 e).wf = true) (hy : ys.length ≤ maxLen ∧ ∀ x, x ∈ ys → ∃ l, x = .parts l ∧ inL [.int .i8, .int .i8] l) : Ev (fun n => s_laws_FnExactFewestLadders n w h s t e ys) true := by
  obtain ⟨m, rfl, hm⟩ := prs_of hy.2
  have n1 : m.length ≤ 9223372036854775807 := by have := hy.1; rw [prs_length] at this; simpa [maxLen] using this
  unfold s_laws_FnExactFewestLadders
  refine ev_bnd (szPlaceS_ok m n1) ?_
  by_cases h2 : (1048576 : Int) < m.length
  · rw [if_pos h2]; exact ev_t (by simp) ev_some
  · rw [if_neg h2]
    obtain ⟨t', e1, e2⟩ := toRoof_ok w h s t
    have H := (RoofT.mk' hw hh hs ht).like e1
    have hp := toPlaceS_ok m (by omega)
    have hP := PlT.mk' hm (by omega)
    have k : ∃ (q : List Int) (y : Int), q.length ≤ 1000 ∧ Ev (fun n => s_spec_FewestLadders n w h s t' e (places m)) (ints .i64 q, y) ∧ Ev (fun n => s_impl_FewestLadders n w h s t' e (places m)) (ints .i64 q, y) := by
      unfold s_spec_FewestLadders s_impl_FewestLadders
      have k1 : Ev (fun n => s_spec_l04Asked n w h s t' [] (places m) (reachB e)) _ := Asked2_ok H [] (by simp) m hP (reachB e)
      have k2 : Ev (fun n => s_impl_ladderCode n w h s t' [] e (places m)) _ := ladderCode_ok H [] (by simp) e m hP
      by_cases hz : askF w h s t' [] m (reachB e && allQ w [] && allP (isQ w h) m) = 0
      · obtain ⟨g1, g2, g3, g4, g5, g6⟩ := askF_zero hz
        obtain ⟨q, hq, k3, k4⟩ := few_two ⟨H, g1⟩ g2 g6 g4
        exact ⟨q, 0, by omega, ev_bnd (l04Reach_ok e) (ev_bnd k1 (ev_t (by simpa using hz) (ev_bnd k3 ev_some))), ev_bnd k2 (ev_t (by simpa using hz) (ev_bnd k4 ev_some))⟩
      · exact ⟨[], _, by simp, ev_bnd (l04Reach_ok e) (ev_bnd k1 (ev_f (by simpa using hz) ev_some)), ev_bnd k2 (ev_f (by simpa using hz) ev_some)⟩
    obtain ⟨q, y, hq, k1, k2⟩ := k
    have hm2 := markPlaceS_okL m 1 (by omega)
    have hm3 := markInt64S_ok q 1 (by omega)
    have hh3 := heldInt64S_ok q.length 1 (by omega)
    have hq2 := eqInt64S_ok q (by omega)
    refine ev_f (by simp; omega) (ev_bnd e2 (ev_bnd hp (ev_bnd k1 (ev_chk (plain_two ..) (ev_bnd hp (ev_bnd e2 (ev_bnd k2 (ev_chk (plain_two ..) (ev_bnd hq2 (ev_t rfl (ev_t (by simp) ?_)))))))))))
    refine ev_bnd hp (ev_bnd (eqPlaceS_ok m (by omega)) (ev_t rfl (ev_bnd hm2 (ev_chk (like_prs _ _ _ _ (by rw [marks2_length])) (ev_f (by simp; omega) ?_)))))
    refine ev_bnd hq2 (ev_t rfl (ev_bnd hm3 (ev_chk (like_ints _ _ _ (by rw [marks_length])) (ev_bnd hh3 (ev_f (by simp; omega) (ev_t (by simp) ?_))))))
    exact ev_bnd e2 (ev_bnd hp (ev_bnd k2 (ev_chk (plain_two ..) (ev_bnd hq2 (ev_t rfl (ev_t (by simp) (ev_bnd hh3 (ev_f (by simp; omega) (ev_t (by simp) ev_some)))))))))
end Go.Proofs.Ytdhcfdiggcgmhaa
