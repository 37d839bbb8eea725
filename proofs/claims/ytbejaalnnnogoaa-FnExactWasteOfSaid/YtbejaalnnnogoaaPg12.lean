/- Shapes read, compared, checked; the law LeastTiles. -/
import Derived.Test.YtbejaalnnnogoaaPg11
namespace Go.Proofs.Ytbejaalnnnogoaa
open Go
set_option linter.unusedVariables false
set_option linter.unusedSimpArgs false

theorem szShape_ok (m : Int) (s : List (Int × Int)) (z : Int) (hz : 0 ≤ z ∧ z ≤ 1048576) (hl : s.length ≤ 9223372036854775807) : Ev (fun n => s_laws_szShape n m (spn s) z) (if z < s.length then -1 else z - s.length) := by
  unfold s_laws_szShape s_laws_szSpanS
  rw [show ((spn s).length : Int) = (s.length : Int) by simp [prs_length], w64 _ (by omega)]
  split
  · exact ev_bnd (ev_t (by simp; omega) ev_some) (ev_t (by simp) ev_some)
  · exact ev_bnd (ev_f (by simp; omega) ev_some) (ev_f (by simp; omega) ev_some)
theorem set_full {α : Type} (l : List α) (i : Nat) (x : α) (h : l[i]? = some x) : l.set i x = l := by
  apply List.ext_getElem?
  intro j
  rw [List.getElem?_set]
  split
  · rename_i e
    subst e
    rw [h]
    have := (List.getElem?_eq_some_iff.1 h).1
    simp [this]
  · rfl
theorem toSpanS_ok (s : List (Int × Int)) (hl : s.length ≤ 1048576) : Ev (fun n => s_laws_toSpanS n (spn s)) (spn s) := by
  unfold s_laws_toSpanS
  rw [show ((spn s).length : Int) = (s.length : Int) by simp [prs_length], Int.toNat_natCast, rep_prs]
  refine ev_chk (by simp; omega) (ev_bnd (a := spn s) ?_ ev_some)
  have key : ∀ (d k : Nat), k + d = s.length → ∀ c : List (Int × Int), c.length = s.length → (∀ j, j < k → c[j]? = s[j]?) → Ev (fun n => l_laws_toSpanS_b0 n (spn s) k (spn c)) (spn s) := by
    intro d
    induction d with
    | zero =>
      intro k hk c hc h
      have e : c = s := by
        apply List.ext_getElem?
        intro j
        by_cases hj : j < k
        · exact h j hj
        · rw [List.getElem?_eq_none (by omega), List.getElem?_eq_none (by omega)]
      subst e
      exact ev_succ (ev_f (by simp [prs_length]; omega) ev_some)
    | succ d ih =>
      intro k hk c hc h
      refine ev_succ (ev_t (by simp [prs_length]; omega) (ev_bnd (ev_of fun n => idx_spn (by omega)) ?_))
      unfold s_laws_toSpan
      refine ev_bnd ev_some (ev_chk (inB_k _ _ (by rw [prs_length]; omega)) (ev_bnd (a := ((pr c k).1, (pr c k).2)) (ev_of fun n => by rw [Int.toNat_natCast, nth_prs _ _ _ _ (by omega)]; rfl) ?_))
      rw [Int.toNat_natCast, set_prs, up64 k (by omega)]
      refine ih (k + 1) (by omega) _ (by simpa using hc) fun j hj => ?_
      rw [List.getElem?_set]
      split
      · rename_i e
        subst e
        rw [if_pos (by omega), pr_get (by omega)]
      · exact h j (by omega)
  exact key s.length 0 (by omega) _ (by simp) (fun j hj => by omega)
theorem toShape_ok (m : Int) (s : List (Int × Int)) (hl : s.length ≤ 1048576) : Ev (fun n => s_laws_toShape n m (spn s)) (m, spn s) := ev_bnd (toSpanS_ok s hl) ev_some
theorem allN_true : ∀ (d k : Nat), allN (fun _ => true) k d = true
  | 0, _ => rfl
  | d + 1, k => by simp only [allN, Bool.true_and]; exact allN_true d (k + 1)
theorem eqShape_ok (m : Int) (s : List (Int × Int)) (hl : s.length ≤ 1048576) : Ev (fun n => s_laws_eqShape n m (spn s) m (spn s)) true := by
  unfold s_laws_eqShape
  refine ev_t (by simp) (ev_bnd (a := true) ?_ (ev_t rfl ev_some))
  unfold s_laws_eqSpanS
  refine ev_t (by simp) (ev_bnd (a := Sum.inl ()) ?_ ev_some)
  have := loop_all (l := fun n k => l_laws_eqSpanS_b0 n (spn s) (spn s) (k : Nat)) (p := fun _ => true) (A := .inl ()) (B := .inr false) s.length (ev_f (by simp [prs_length]) ev_some) (by
    intro k hk _ a ih
    refine ev_t (by simp [prs_length]; omega) (ev_bnd (ev_of fun n => idx_spn hk) (ev_bnd (ev_of fun n => idx_spn hk) (ev_bnd (a := true) ?_ (ev_t rfl ?_))))
    · exact ev_t (by simp) (ev_t (by simp) ev_some)
    · rw [up64 k (by omega)]; exact ih) (by
    intro k hk h; cases h) s.length 0 (Nat.zero_add _)
  rwa [allN_true, sel_t] at this
def spanB (s : List (Int × Int)) (k : Nat) : Bool := decide (0 ≤ (pr s k).1) && (decide ((pr s k).1 < (pr s k).2) && decide ((pr s k).2 ≤ 200))
def shOk (m : Int) (s : List (Int × Int)) : Bool := decide (m ≤ 1) && ((decide ((1 : Int) ≤ s.length) && decide ((s.length : Int) ≤ 12)) && allN (spanB s) 0 s.length)
theorem shOk_iff {m : Int} {s : List (Int × Int)} (hm : 0 ≤ m) : shOk m s = true ↔ okS m s := by
  unfold shOk okS
  simp only [Bool.and_eq_true, decide_eq_true_eq, allN_iff, spanB]
  constructor
  · rintro ⟨h1, ⟨h2, h3⟩, h4⟩
    exact ⟨hm, h1, by omega, by omega, fun k hk => h4 k (Nat.zero_le _) (by omega)⟩
  · rintro ⟨_, h1, h2, h3, h4⟩
    exact ⟨h1, ⟨by omega, by omega⟩, fun k _ hk => h4 k (by omega)⟩
theorem l05Ok_ok (m : Int) (s : List (Int × Int)) (hl : s.length ≤ 1048576) : Ev (fun n => s_spec_l05Ok n m (spn s)) (shOk m s) := by
  unfold s_spec_l05Ok
  have key := loop_all (l := fun n k => l_spec_l05Ok_b0 n m (spn s) (k : Nat)) (p := spanB s) (A := .inl (m, spn s)) (B := .inr false) s.length (ev_f (by simp [prs_length]) ev_some) (by
    intro k hk hp a ih
    simp only [spanB, Bool.and_eq_true, decide_eq_true_eq] at hp
    refine ev_t (by simp [prs_length]; omega) (ev_bnd (ev_of fun n => idx_spn hk) (ev_f (by simp; omega) (ev_f (by simp; omega) (ev_f (by simp; omega) ?_))))
    rw [up64 k (by omega)]; exact ih) (by
    intro k hk hp
    refine ev_t (by simp [prs_length]; omega) (ev_bnd (ev_of fun n => idx_spn hk) (ev_cnd (fun c => ev_some) (fun c1 => ev_cnd (fun c => ev_some) (fun c2 => ev_cnd (fun c => ev_some) (fun c3 => ?_)))))
    have : spanB s k = true := by
      simp only [spanB, Bool.and_eq_true, decide_eq_true_eq]
      simp only [decide_eq_false_iff_not] at c1 c2 c3
      omega
    rw [hp] at this; cases this) s.length 0 (Nat.zero_add _)
  refine ev_bnd key ?_
  unfold shOk
  cases hA : allN (spanB s) 0 s.length with
  | false =>
    rw [sel_f]
    exact ev_cast ev_some (by simp)
  | true =>
    rw [sel_t]
    dsimp only
    unfold s_spec_l00In
    rw [show ((spn s).length : Int) = (s.length : Int) by simp [prs_length]]
    refine ev_bnd (a := decide ((1 : Int) ≤ s.length) && decide ((s.length : Int) ≤ 12)) ?_ ?_
    · cases decide ((1 : Int) ≤ s.length) <;> exact ev_some
    · cases (decide ((1 : Int) ≤ s.length) && decide ((s.length : Int) ≤ 12)) with
      | false => exact ev_cast ev_some (by simp)
      | true => exact ev_cast ev_some (by simp)
theorem ValidShape_ok (m : Int) (s : List (Int × Int)) (hl : s.length ≤ 1048576) : Ev (fun n => s_impl_ValidShape n m (spn s)) (shOk m s) := by
  unfold s_impl_ValidShape shOk
  have hv : ∀ k, k < s.length → ∀ n, s_impl_areAll_impl_Span_1__ValidShape_1 n (pr s k).1 (pr s k).2 = some (!spanB s k) := by
    intro k hk n
    unfold s_impl_areAll_impl_Span_1__ValidShape_1 s_impl_ValidShape_1 spanB
    cases decide (0 ≤ (pr s k).1) <;> cases decide ((pr s k).1 < (pr s k).2) <;> rfl
  have key : Tot (fun n => l_slices_IndexFunc_Simpl_Span_impl_Span__areAll_Span_1__ValidShape_1_b0 n (spn s) (s.length : Int) 0) (fun r => match r with | .inl _ => allN (spanB s) 0 s.length = true | .inr i => allN (spanB s) 0 s.length = false ∧ 0 ≤ i) := by
    have := loop_first (l := fun n k => l_slices_IndexFunc_Simpl_Span_impl_Span__areAll_Span_1__ValidShape_1_b0 n (spn s) (s.length : Int) (k : Nat)) (p := fun k => !spanB s k) (A := .inl ()) (B := fun k => .inr (k : Int)) s.length (ev_f (by simp) ev_some) (by
      intro k hk hp a ih
      refine ev_t (by simp; omega) (ev_bnd (ev_of fun n => idx_spn hk) (ev_bnd (ev_of fun n => hv k hk n) (ev_f hp ?_)))
      rw [up64 k (by omega)]; exact ih) (by
      intro k hk hp
      exact ev_t (by simp; omega) (ev_bnd (ev_of fun n => idx_spn hk) (ev_bnd (ev_of fun n => hv k hk n) (ev_t hp ev_some)))) s.length 0 (Nat.zero_add _)
    refine tot_of this ?_
    cases hf : firstN (fun k => !spanB s k) 0 s.length with
    | none =>
      simp only [selO]
      rw [allN_iff]
      intro j h1 h2
      have := firstN_none hf j h1 h2
      simpa using this
    | some j =>
      simp only [selO]
      obtain ⟨h1, h2, h3, _⟩ := firstN_some hf
      refine ⟨?_, by omega⟩
      cases hA : allN (spanB s) 0 s.length with
      | false => rfl
      | true =>
        have := (allN_iff _ _ _).1 hA j h1 h2
        rw [this] at h3; cases h3
  have all : Ev (fun n => s_impl_areAll_impl_Span__ValidShape_1 n (spn s)) (allN (spanB s) 0 s.length) := by
    unfold s_impl_areAll_impl_Span__ValidShape_1 s_slices_ContainsFunc_Simpl_Span_impl_Span__areAll_Span_1__ValidShape_1 s_slices_IndexFunc_Simpl_Span_impl_Span__areAll_Span_1__ValidShape_1
    rw [show ((spn s).length : Int) = (s.length : Int) by simp [prs_length]]
    obtain ⟨r, hr, hev⟩ := key
    cases r with
    | inl _ =>
      have hr : allN (spanB s) 0 s.length = true := hr
      rw [hr]
      exact ev_bnd (a := false) (ev_bnd (a := -1) (ev_bnd hev ev_some) ev_some) ev_some
    | inr i =>
      have hr : allN (spanB s) 0 s.length = false ∧ 0 ≤ i := hr
      rw [hr.1]
      refine ev_bnd (a := true) (ev_bnd (a := i) (ev_bnd hev ev_some) (ev_cast ev_some ?_)) ev_some
      simpa using hr.2
  cases decide (m ≤ 1) with
  | false => exact ev_f rfl ev_some
  | true =>
    refine ev_t rfl ?_
    rw [show ((spn s).length : Int) = (s.length : Int) by simp [prs_length]]
    unfold s_impl_within_int
    refine ev_bnd (a := decide ((1 : Int) ≤ s.length) && decide ((s.length : Int) ≤ 12)) ?_ ?_
    · cases decide ((1 : Int) ≤ s.length) <;> exact ev_some
    · cases (decide ((1 : Int) ≤ s.length) && decide ((s.length : Int) ≤ 12)) with
      | false => exact ev_f rfl (ev_cast ev_some (by simp))
      | true => exact ev_t rfl (ev_bnd all (ev_cast ev_some (by simp)))
theorem law_FnExactLeastTiles {m : Int} {xs : List V} (hm : (Lit.int .u8 m).wf = true) (hx : xs.length ≤ maxLen ∧ ∀ x, x ∈ xs → ∃ l, x = .parts l ∧ inL [.int .i16, .int .i16] l) : Ev (fun n => s_laws_FnExactLeastTiles n m xs) true := by
  obtain ⟨s, rfl, hs⟩ := prs_of hx.2
  have n1 : s.length ≤ 9223372036854775807 := by have := hx.1; rw [prs_length] at this; simpa [maxLen] using this
  have m0 := wf_u8 hm
  unfold s_laws_FnExactLeastTiles
  refine ev_bnd (szShape_ok m s 1048576 (by omega) n1) ?_
  by_cases h1 : (1048576 : Int) < s.length
  · rw [if_pos h1]; exact ev_t (by simp) ev_some
  · rw [if_neg h1]
    have k : ∃ (x y : Int), Ev (fun n => s_spec_LeastTiles n m (spn s)) (x, y) ∧ Ev (fun n => s_impl_LeastTiles n m (spn s)) (x, y) := by
      unfold s_spec_LeastTiles s_impl_LeastTiles
      have k1 := l05Ok_ok m s (by omega)
      have k2 := ValidShape_ok m s (by omega)
      cases hg : shOk m s with
      | false =>
        rw [hg] at k1 k2
        exact ⟨0, 1, ev_bnd k1 (ev_f rfl ev_some), ev_bnd k2 (ev_f rfl ev_some)⟩
      | true =>
        rw [hg] at k1 k2
        obtain ⟨L, _, _, e1, e2⟩ := least_ok ((shOk_iff m0.1).1 hg)
        exact ⟨L, 0, ev_bnd k1 (ev_t rfl (ev_bnd e1 ev_some)), ev_bnd k2 (ev_t rfl (ev_bnd e2 ev_some))⟩
    obtain ⟨x, y, e1, e2⟩ := k
    have t := toShape_ok m s (by omega)
    refine ev_f (by simp; omega) (ev_bnd t (ev_bnd e1 (ev_bnd t (ev_bnd e2 (ev_t (by simp) (ev_t (by simp) (ev_bnd t (ev_bnd (eqShape_ok m s (by omega)) (ev_t rfl ev_some)))))))))
end Go.Proofs.Ytbejaalnnnogoaa
