/- Shapes read, compared, checked; the law LeastTiles. The law WasteOf. The law BestSlide. -/
import Derived.Test.YtbejaalnnnogoaaPx3
namespace Go.Proofs.Ytbejaalnnnogoaa
open Go
set_option linter.unusedVariables false
set_option linter.unusedSimpArgs false

theorem szShape_ok (m : Int) (s : List (Int × Int)) (z : Int) (hz : 0 ≤ z ∧ z ≤ 1048576) (hl : s.length ≤ 9223372036854775807) : Ev (fun n => s_laws_szShape n m (spn s) z) (if z < s.length then -1 else z - s.length) := by
  unfold s_laws_szShape s_laws_szSpanS
  rw [show ((spn s).length : Int) = (s.length : Int) by simp [prs_length], w64 _ (by omega)]
  split
  · exact ev_bnd (ev_t (by simp; omega) ev_some) (ev_t (by simp) ev_some)
  · exact ev_bnd (ev_f (by simp; omega) ev_some) (ev_f (by simp; omega) ev_some)
theorem set_full {α : Type} (l : List α) (i : Nat) (x : α) (h : l[i]? = some x) : l.set i x = l := by
  apply List.ext_getElem?
  intro j
  rw [List.getElem?_set]
  split
  · rename_i e
    subst e
    rw [h]
    have := (List.getElem?_eq_some_iff.1 h).1
    simp [this]
  · rfl
theorem toSpanS_ok (s : List (Int × Int)) (hl : s.length ≤ 1048576) : Ev (fun n => s_laws_toSpanS n (spn s)) (spn s) := by
  unfold s_laws_toSpanS
  rw [show ((spn s).length : Int) = (s.length : Int) by simp [prs_length], Int.toNat_natCast, rep_prs]
  refine ev_chk (by simp; omega) (ev_bnd (a := spn s) ?_ ev_some)
  have key : ∀ (d k : Nat), k + d = s.length → ∀ c : List (Int × Int), c.length = s.length → (∀ j, j < k → c[j]? = s[j]?) → Ev (fun n => l_laws_toSpanS_b0 n (spn s) k (spn c)) (spn s) := by
    intro d
    induction d with
    | zero =>
      intro k hk c hc h
      have e : c = s := by
        apply List.ext_getElem?
        intro j
        by_cases hj : j < k
        · exact h j hj
        · rw [List.getElem?_eq_none (by omega), List.getElem?_eq_none (by omega)]
      subst e
      exact ev_succ (ev_f (by simp [prs_length]; omega) ev_some)
    | succ d ih =>
      intro k hk c hc h
      refine ev_succ (ev_t (by simp [prs_length]; omega) (ev_bnd (ev_of fun n => idx_spn (by omega)) ?_))
      unfold s_laws_toSpan
      refine ev_bnd ev_some (ev_chk (inB_k _ _ (by rw [prs_length]; omega)) (ev_bnd (a := ((pr c k).1, (pr c k).2)) (ev_of fun n => by rw [Int.toNat_natCast, nth_prs _ _ _ _ (by omega)]; rfl) ?_))
      rw [Int.toNat_natCast, set_prs, up64 k (by omega)]
      refine ih (k + 1) (by omega) _ (by simpa using hc) fun j hj => ?_
      rw [List.getElem?_set]
      split
      · rename_i e
        subst e
        rw [if_pos (by omega), pr_get (by omega)]
      · exact h j (by omega)
  exact key s.length 0 (by omega) _ (by simp) (fun j hj => by omega)
theorem toShape_ok (m : Int) (s : List (Int × Int)) (hl : s.length ≤ 1048576) : Ev (fun n => s_laws_toShape n m (spn s)) (m, spn s) := ev_bnd (toSpanS_ok s hl) ev_some
theorem allN_true : ∀ (d k : Nat), allN (fun _ => true) k d = true
  | 0, _ => rfl
  | d + 1, k => by simp only [allN, Bool.true_and]; exact allN_true d (k + 1)
theorem eqShape_ok (m : Int) (s : List (Int × Int)) (hl : s.length ≤ 1048576) : Ev (fun n => s_laws_eqShape n m (spn s) m (spn s)) true := by
  unfold s_laws_eqShape
  refine ev_t (by simp) (ev_bnd (a := true) ?_ (ev_t rfl ev_some))
  unfold s_laws_eqSpanS
  refine ev_t (by simp) (ev_bnd (a := Sum.inl ()) ?_ ev_some)
  have := loop_all (l := fun n k => l_laws_eqSpanS_b0 n (spn s) (spn s) (k : Nat)) (p := fun _ => true) (A := .inl ()) (B := .inr false) s.length (ev_f (by simp [prs_length]) ev_some) (by
    intro k hk _ a ih
    refine ev_t (by simp [prs_length]; omega) (ev_bnd (ev_of fun n => idx_spn hk) (ev_bnd (ev_of fun n => idx_spn hk) (ev_bnd (a := true) ?_ (ev_t rfl ?_))))
    · exact ev_t (by simp) (ev_t (by simp) ev_some)
    · rw [up64 k (by omega)]; exact ih) (by
    intro k hk h; cases h) s.length 0 (Nat.zero_add _)
  rwa [allN_true, sel_t] at this
def spanB (s : List (Int × Int)) (k : Nat) : Bool := decide (0 ≤ (pr s k).1) && (decide ((pr s k).1 < (pr s k).2) && decide ((pr s k).2 ≤ 200))
def shOk (m : Int) (s : List (Int × Int)) : Bool := decide (m ≤ 1) && ((decide ((1 : Int) ≤ s.length) && decide ((s.length : Int) ≤ 12)) && allN (spanB s) 0 s.length)
theorem shOk_iff {m : Int} {s : List (Int × Int)} (hm : 0 ≤ m) : shOk m s = true ↔ okS m s := by
  unfold shOk okS
  simp only [Bool.and_eq_true, decide_eq_true_eq, allN_iff, spanB]
  constructor
  · rintro ⟨h1, ⟨h2, h3⟩, h4⟩
    exact ⟨hm, h1, by omega, by omega, fun k hk => h4 k (Nat.zero_le _) (by omega)⟩
  · rintro ⟨_, h1, h2, h3, h4⟩
    exact ⟨h1, ⟨by omega, by omega⟩, fun k _ hk => h4 k (by omega)⟩
theorem l05Ok_ok (m : Int) (s : List (Int × Int)) (hl : s.length ≤ 1048576) : Ev (fun n => s_spec_l05Ok n m (spn s)) (shOk m s) := by
  unfold s_spec_l05Ok
  have key := loop_all (l := fun n k => l_spec_l05Ok_b0 n m (spn s) (k : Nat)) (p := spanB s) (A := .inl (m, spn s)) (B := .inr false) s.length (ev_f (by simp [prs_length]) ev_some) (by
    intro k hk hp a ih
    simp only [spanB, Bool.and_eq_true, decide_eq_true_eq] at hp
    refine ev_t (by simp [prs_length]; omega) (ev_bnd (ev_of fun n => idx_spn hk) (ev_f (by simp; omega) (ev_f (by simp; omega) (ev_f (by simp; omega) ?_))))
    rw [up64 k (by omega)]; exact ih) (by
    intro k hk hp
    refine ev_t (by simp [prs_length]; omega) (ev_bnd (ev_of fun n => idx_spn hk) (ev_cnd (fun c => ev_some) (fun c1 => ev_cnd (fun c => ev_some) (fun c2 => ev_cnd (fun c => ev_some) (fun c3 => ?_)))))
    have : spanB s k = true := by
      simp only [spanB, Bool.and_eq_true, decide_eq_true_eq]
      simp only [decide_eq_false_iff_not] at c1 c2 c3
      omega
    rw [hp] at this; cases this) s.length 0 (Nat.zero_add _)
  refine ev_bnd key ?_
  unfold shOk
  cases hA : allN (spanB s) 0 s.length with
  | false =>
    rw [sel_f]
    exact ev_cast ev_some (by simp)
  | true =>
    rw [sel_t]
    dsimp only
    unfold s_spec_l00In
    rw [show ((spn s).length : Int) = (s.length : Int) by simp [prs_length]]
    refine ev_bnd (a := decide ((1 : Int) ≤ s.length) && decide ((s.length : Int) ≤ 12)) ?_ ?_
    · cases decide ((1 : Int) ≤ s.length) <;> exact ev_some
    · cases (decide ((1 : Int) ≤ s.length) && decide ((s.length : Int) ≤ 12)) with
      | false => exact ev_cast ev_some (by simp)
      | true => exact ev_cast ev_some (by simp)
theorem ValidShape_ok (m : Int) (s : List (Int × Int)) (hl : s.length ≤ 1048576) : Ev (fun n => s_impl_ValidShape n m (spn s)) (shOk m s) := by
  unfold s_impl_ValidShape shOk
  have hv : ∀ k, k < s.length → ∀ n, s_aaSp n (pr s k).1 (pr s k).2 = some (!spanB s k) := by
    intro k hk n
    unfold s_aaSp s_impl_ValidShape_1 spanB
    cases decide (0 ≤ (pr s k).1) <;> cases decide ((pr s k).1 < (pr s k).2) <;> rfl
  have key : Tot (fun n => l_ixSp_b0 n (spn s) (s.length : Int) 0) (fun r => match r with | .inl _ => allN (spanB s) 0 s.length = true | .inr i => allN (spanB s) 0 s.length = false ∧ 0 ≤ i) := by
    have := loop_first (l := fun n k => l_ixSp_b0 n (spn s) (s.length : Int) (k : Nat)) (p := fun k => !spanB s k) (A := .inl ()) (B := fun k => .inr (k : Int)) s.length (ev_f (by simp) ev_some) (by
      intro k hk hp a ih
      refine ev_t (by simp; omega) (ev_bnd (ev_of fun n => idx_spn hk) (ev_bnd (ev_of fun n => hv k hk n) (ev_f hp ?_)))
      rw [up64 k (by omega)]; exact ih) (by
      intro k hk hp
      exact ev_t (by simp; omega) (ev_bnd (ev_of fun n => idx_spn hk) (ev_bnd (ev_of fun n => hv k hk n) (ev_t hp ev_some)))) s.length 0 (Nat.zero_add _)
    refine tot_of this ?_
    cases hf : firstN (fun k => !spanB s k) 0 s.length with
    | none =>
      simp only [selO]
      rw [allN_iff]
      intro j h1 h2
      have := firstN_none hf j h1 h2
      simpa using this
    | some j =>
      simp only [selO]
      obtain ⟨h1, h2, h3, _⟩ := firstN_some hf
      refine ⟨?_, by omega⟩
      cases hA : allN (spanB s) 0 s.length with
      | false => rfl
      | true =>
        have := (allN_iff _ _ _).1 hA j h1 h2
        rw [this] at h3; cases h3
  have all : Ev (fun n => s_impl_areAll_impl_Span__ValidShape_1 n (spn s)) (allN (spanB s) 0 s.length) := by
    unfold s_impl_areAll_impl_Span__ValidShape_1 s_cnSp s_ixSp
    rw [show ((spn s).length : Int) = (s.length : Int) by simp [prs_length]]
    obtain ⟨r, hr, hev⟩ := key
    cases r with
    | inl _ =>
      have hr : allN (spanB s) 0 s.length = true := hr
      rw [hr]
      exact ev_bnd (a := false) (ev_bnd (a := -1) (ev_bnd hev ev_some) ev_some) ev_some
    | inr i =>
      have hr : allN (spanB s) 0 s.length = false ∧ 0 ≤ i := hr
      rw [hr.1]
      refine ev_bnd (a := true) (ev_bnd (a := i) (ev_bnd hev ev_some) (ev_cast ev_some ?_)) ev_some
      simpa using hr.2
  cases decide (m ≤ 1) with
  | false => exact ev_f rfl ev_some
  | true =>
    refine ev_t rfl ?_
    rw [show ((spn s).length : Int) = (s.length : Int) by simp [prs_length]]
    unfold s_impl_within_int
    refine ev_bnd (a := decide ((1 : Int) ≤ s.length) && decide ((s.length : Int) ≤ 12)) ?_ ?_
    · cases decide ((1 : Int) ≤ s.length) <;> exact ev_some
    · cases (decide ((1 : Int) ≤ s.length) && decide ((s.length : Int) ≤ 12)) with
      | false => exact ev_f rfl (ev_cast ev_some (by simp))
      | true => exact ev_t rfl (ev_bnd all (ev_cast ev_some (by simp)))
def ln (s : List (Int × Int)) (k : Nat) : Int := (pr s k).2 - (pr s k).1
theorem units_ok {m : Int} {s : List (Int × Int)} (h : okS m s) : Ev (fun n => s_spec_l05Units n m (spn s)) (sumR (ln s) 0 s.length) := by
  obtain ⟨m0, m1, l1, l2, hs⟩ := h
  unfold s_spec_l05Units
  refine ev_bnd (a := sumR (ln s) 0 s.length) ?_ ev_some
  refine loop_sum (l := fun n k t => l_spec_l05Units_b0 n m (spn s) t (k : Nat)) (R := id) s.length 1000 (by omega) (fun j hj => by have := hs j hj; unfold ln; omega) (fun t => ev_f (by simp [prs_length]) ev_some) ?_
  intro k t hk ht ht2 a h
  have b := hs k hk
  refine ev_t (by simp [prs_length]; omega) (ev_bnd (ev_of fun n => idx_spn hk) (ev_bnd (ev_of fun n => idx_spn hk) ?_))
  dsimp only
  unfold ln at ht2 h
  rw [up64 k (by omega), w64 (pr s k).2 (by omega), w64 (pr s k).1 (by omega), w64 ((pr s k).2 - (pr s k).1) (by omega), w64 _ (by omega)]
  exact h
theorem iunits_ok {m : Int} {s : List (Int × Int)} (h : okS m s) : Ev (fun n => s_impl_Shape_units n m (spn s)) (sumR (ln s) 0 s.length) := by
  obtain ⟨m0, m1, l1, l2, hs⟩ := h
  unfold s_impl_Shape_units
  refine ev_bnd (a := nums s.length (ln s)) ?_ (ev_bnd (sum_ok (by omega) (fun j hj => by have := hs j hj; unfold ln; omega)) ev_some)
  unfold s_eaUn
  rw [prs_length]
  refine ev_bnd ?_ ev_some
  refine loop_map (l := fun n k acc => l_eaUn_b0 n (spn s) s.length (k : Nat) acc) (R := id) s.length (fun acc => ev_f (by simp) ev_some) ?_
  intro k acc hk hl a h
  have b := hs k hk
  refine ev_t (by simp; omega) (ev_bnd (ev_of fun n => idx_spn hk) (ev_bnd (a := ln s k) (ev_cast ev_some ?_) (ev_chk (by simp [hl]; omega) (by rw [up64 k (by omega)]; exact h))))
  rw [w16 _ (by omega), w64 _ (by omega)]
  rfl
def slid (s : List (Int × Int)) (d : Int) : List (Int × Int) := s.map fun p => (p.1 + d, p.2 + d)
theorem slid_length (s : List (Int × Int)) (d : Int) : (slid s d).length = s.length := by simp [slid]
theorem slid_zero (s : List (Int × Int)) : slid s 0 = s := by simp [slid]
theorem slid_pr {s : List (Int × Int)} {d : Int} {k : Nat} (h : k < s.length) : pr (slid s d) k = ((pr s k).1 + d, (pr s k).2 + d) := by
  have h1 := pr_get (l := slid s d) (i := k) (by rw [slid_length]; exact h)
  have h2 := pr_get h
  have h3 : (slid s d)[k]? = some ((pr s k).1 + d, (pr s k).2 + d) := by rw [slid, List.getElem?_map, h2]; rfl
  rw [h3] at h1
  exact (Option.some.inj h1).symm
theorem slid_range (s : List (Int × Int)) (d : Int) : pcs [] = [] ∧ spn (slid s d) = (List.range' 0 s.length).map fun k => V.parts [V.int .i16 ((pr s k).1 + d), V.int .i16 ((pr s k).2 + d)] := by
  refine ⟨rfl, ?_⟩
  apply List.ext_getElem?
  intro j
  by_cases hj : j < s.length
  · show (List.map (pv .i16 .i16) (slid s d))[j]? = _
    rw [List.getElem?_map, pr_get (l := slid s d) (by rw [slid_length]; exact hj), slid_pr hj]
    simp [hj, pv]
  · rw [List.getElem?_eq_none (by rw [prs_length, slid_length]; omega), List.getElem?_eq_none (by simp; omega)]
/-- does the slid shape still lie on the roof -/
def fits (s : List (Int × Int)) (d : Int) : Bool := allN (fun k => decide ((pr s k).2 + d ≤ 200)) 0 s.length
theorem fits_ok {m : Int} {s : List (Int × Int)} (h : okS m s) {d : Int} (hd : 0 ≤ d) : shOk m (slid s d) = fits s d := by
  obtain ⟨m0, m1, l1, l2, hs⟩ := h
  have e : (shOk m (slid s d) = true) ↔ (fits s d = true) := by
    rw [shOk_iff m0]
    unfold fits okS
    rw [slid_length, allN_iff]
    constructor
    · rintro ⟨_, _, _, _, h5⟩ j _ hj
      have := h5 j (by omega)
      rw [slid_pr (by omega)] at this
      simpa using this.2.2
    · intro h5
      refine ⟨m0, m1, l1, l2, fun k hk => ?_⟩
      have h6 := h5 k (Nat.zero_le _) (by omega)
      have := hs k hk
      rw [decide_eq_true_eq] at h6
      rw [slid_pr hk]
      dsimp only
      omega
  cases h1 : shOk m (slid s d) <;> cases h2 : fits s d <;> simp_all
theorem sSlide_ok {m : Int} {s : List (Int × Int)} (h : okS m s) {d : Int} (hd : 0 ≤ d ∧ d ≤ 8) : Ev (fun n => s_spec_l05Slide n m (spn s) d) (sel (fits s d) (m, spn (slid s d), true) (0, [], false)) := by
  obtain ⟨m0, m1, l1, l2, hs⟩ := h
  unfold s_spec_l05Slide
  have key : ∀ (r k : Nat), k + r = s.length → Ev (fun n => l_spec_l05Slide_b0 n m (spn s) d k 0 m [] ((List.range' 0 k).map fun k => V.parts [V.int .i16 ((pr s k).1 + d), V.int .i16 ((pr s k).2 + d)]))
      (sel (allN (fun k => decide ((pr s k).2 + d ≤ 200)) k r) (.inl (0, m, [], spn (slid s d))) (.inr (false, 0, []))) := by
    intro r
    induction r with
    | zero =>
      intro k hk
      obtain rfl : k = s.length := by omega
      rw [(slid_range s d).2]
      exact ev_succ (ev_f (by simp [prs_length]) ev_some)
    | succ r ih =>
      intro k hk
      have b := hs k (by omega)
      refine ev_succ (ev_t (by simp [prs_length]; omega) (ev_bnd (ev_of fun n => idx_spn (by omega)) (ev_bnd (ev_of fun n => idx_spn (by omega)) ?_)))
      dsimp only
      rw [w64 (pr s k).1 (by omega), w64 (pr s k).2 (by omega), w64 ((pr s k).1 + d) (by omega), w64 ((pr s k).2 + d) (by omega), up64 k (by omega)]
      refine ev_f (by simp; omega) ?_
      simp only [allN]
      by_cases c : (pr s k).2 + d ≤ 200
      · rw [decide_eq_true c, Bool.true_and]
        refine ev_f (by simp; omega) (ev_chk (by simp; omega) ?_)
        have := ih (k + 1) (by omega)
        rw [List.range'_concat] at this
        simp only [List.map_append, List.map_cons, List.map_nil, Nat.zero_add, Nat.one_mul] at this
        rw [w16 _ (by omega), w16 _ (by omega)]
        exact this
      · rw [decide_eq_false c, Bool.false_and]
        exact ev_t (by simp; omega) ev_some
  have k0 := key s.length 0 (by omega)
  refine ev_bnd k0 ?_
  unfold fits
  cases allN (fun k => decide ((pr s k).2 + d ≤ 200)) 0 s.length <;> exact ev_some
theorem iSlid_ok {m : Int} {s : List (Int × Int)} (h : okS m s) {d : Int} (hd : 0 ≤ d ∧ d ≤ 8) : Ev (fun n => s_impl_Shape_slid n m (spn s) d) (m, spn (slid s d)) := by
  obtain ⟨m0, m1, l1, l2, hs⟩ := h
  unfold s_impl_Shape_slid
  refine ev_bnd (a := spn (slid s d)) ?_ (ev_chk (plain_prs ..) ev_some)
  unfold s_eaSl
  rw [prs_length, (slid_range s d).2]
  refine ev_bnd ?_ ev_some
  refine loop_map (l := fun n k acc => l_eaSl_b0 n d (spn s) s.length (k : Nat) acc) (R := id) s.length (fun acc => ev_f (by simp) ev_some) ?_
  intro k acc hk hl a h
  have b := hs k hk
  refine ev_t (by simp; omega) (ev_bnd (ev_of fun n => idx_spn hk) (ev_bnd (a := ((pr s k).1 + d, (pr s k).2 + d)) (ev_cast ev_some ?_) ?_))
  · rw [w16 _ (by omega), w16 _ (by omega)]
  · exact ev_chk (by simp [hl]; omega) (by rw [up64 k (by omega)]; exact h)
theorem plain_tup (m : Int) (s : List (Int × Int)) (b : Bool) : plainV (V.tup [(V.parts [(V.int .u8 m), (V.fresh 0 (spn s))]), (V.bool b)]) = true := by
  have : allB plainP.plainE (spn s) = true := plain_prs .i16 .i16 0 s
  simp only [plainV, allB, plainQ, plainP, plainO, this]
end Go.Proofs.Ytbejaalnnnogoaa
