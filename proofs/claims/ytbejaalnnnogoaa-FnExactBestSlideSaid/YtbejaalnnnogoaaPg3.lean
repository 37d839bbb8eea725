/- Sorting by width: insertion. -/
import Derived.Test.YtbejaalnnnogoaaPg2
namespace Go.Proofs.Ytbejaalnnnogoaa
open Go
set_option linter.unusedVariables false
set_option linter.unusedSimpArgs false

theorem pm_swap {a b j : Nat} (f : Nat → Nat) (h1 : a ≤ j) (h2 : j + 1 < b) : Pm a b f (pt (pt f (j + 1) (f j)) j (f (j + 1))) := by
  have e : pt (pt f (j + 1) (f j)) j (f (j + 1)) = rot j (j + 1) (j + 2) f := by
    funext i
    simp only [pt, rot]
    repeat' split
    all_goals first | rfl | (exfalso; omega) | (congr 1; omega)
  rw [e]
  exact (pm_rot f (by omega) (by omega)).wide h1 (by omega)
theorem insL_ok {N a b i : Nat} {P : List (Int × Int)} (hi : i < b) (hb : b ≤ N) (hN : N ≤ 1000) (hP : P.length = N) : ∀ (j : Nat) (f : Nat → Nat), a ≤ j → j ≤ i → (∀ x, x < N → f x < N) →
    (∀ p q, a ≤ p → p < q → q ≤ i → p ≠ j → q ≠ j → kl P (f p) (f q)) → (∀ q, j < q → q ≤ i → kl P (f j) (f q)) → (∀ p, a ≤ p → p < j → f p < f j) →
    Tot (fun n => l_slices_insertionSortCmpFunc_int__byWidth_1_b2 n a b (pcs P) i j (row N f)) (fun r => ∃ g, r = ((a : Int), (b : Int), pcs P, (i : Int), row N g) ∧ Pm a (i + 1) f g ∧ Sd P a (i + 1) g)
  | 0, f, h1, h2, V, Hs, Hj, Hx => by
    refine tot_succ (tot_f (by simp) (tot_some ⟨f, rfl, Pm.refl _ _ _, fun p q h3 h4 h5 => ?_⟩))
    by_cases e : p = 0
    · subst e; exact Hj q h4 (by omega)
    · exact Hs p q h3 h4 (by omega) e (by omega)
  | j + 1, f, h1, h2, V, Hs, Hj, Hx => by
    have done : (a = j + 1 ∨ kl P (f j) (f (j + 1))) → Sd P a (i + 1) f := by
      intro hd p q h3 h4 h5
      by_cases e : p = j + 1
      · subst e; exact Hj q h4 (by omega)
      · by_cases e2 : q = j + 1
        · subst e2
          rcases hd with hd | hd
          · omega
          · by_cases e3 : p = j
            · subst e3; exact hd
            · exact kl_trans (Hs p j h3 (by omega) (by omega) e (by omega)) hd
        · exact Hs p q h3 h4 (by omega) e e2
    by_cases ha : a = j + 1
    · exact tot_succ (tot_f (by simp; omega) (tot_some ⟨f, rfl, Pm.refl _ _ _, done (.inl ha)⟩))
    · refine tot_succ (tot_t (by simp; omega) ?_)
      have ej : IntKind.i64.wrap (((j + 1 : Nat) : Int) - 1) = (j : Int) := by rw [w64 _ (by omega)]; omega
      rw [ej]
      refine tot_chk (inR (by omega)) (tot_ev (ev_of fun n => nx (by omega)) (tot_chk (inR (by omega)) (tot_ev (ev_of fun n => nx (by omega)) (tot_ev (ev_of fun n => byW_eq n (by rw [hP]; exact V _ (by omega)) (by rw [hP]; exact V _ (by omega))) ?_))))
      have hlt := Hx j (by omega) (by omega)
      refine tot_cnd (fun c => ?_) (fun c => ?_)
      · rw [byR_lt, decide_eq_true_eq] at c
        refine tot_ev (ev_of fun n => nx (by omega)) (tot_ev (ev_of fun n => nx (by omega)) (tot_ev (ev_of fun n => nx (by omega)) ?_))
        rw [sr (by omega)]
        refine tot_chk (inR (by omega)) (tot_ev (ev_of fun n => nx (by omega)) ?_)
        rw [sr (by omega)]
        have k1 : kl P (f (j + 1)) (f j) := .inl c
        have v0 : ∀ x, pt (pt f (j + 1) (f j)) j (f (j + 1)) x = if x = j then f (j + 1) else if x = j + 1 then f j else f x := fun x => by simp only [pt]
        refine tot_mono (insL_ok hi hb hN hP j (pt (pt f (j + 1) (f j)) j (f (j + 1))) (by omega) (by omega) (fun x hx => ?_) (fun p q h3 h4 h5 h6 h7 => ?_) (fun q h3 h4 => ?_) (fun p h3 h4 => ?_)) ?_
        · rw [v0]
          repeat' split
          all_goals exact V _ (by omega)
        · rw [v0, v0, if_neg h6, if_neg h7]
          by_cases e1 : p = j + 1
          · rw [if_pos e1, if_neg (by omega)]
            exact Hs j q (by omega) (by omega) h5 (by omega) (by omega)
          · rw [if_neg e1]
            by_cases e2 : q = j + 1
            · rw [if_pos e2]
              exact Hs p j h3 (by omega) (by omega) e1 (by omega)
            · rw [if_neg e2]
              exact Hs p q h3 h4 h5 e1 e2
        · rw [v0, v0, if_pos rfl, if_neg (by omega)]
          by_cases e1 : q = j + 1
          · rw [if_pos e1]; exact k1
          · rw [if_neg e1]; exact Hj q (by omega) h4
        · rw [v0, v0, if_neg (by omega), if_neg (by omega), if_pos rfl]
          exact Hx p h3 (by omega)
        · rintro r ⟨g, rfl, g1, g2⟩
          exact ⟨g, rfl, (pm_swap f (by omega) (by omega)).trans g1, g2⟩
      · rw [byR_lt, decide_eq_false_iff_not] at c
        refine tot_some ⟨f, rfl, Pm.refl _ _ _, done (.inr ?_)⟩
        unfold kl
        omega
/-- the outer loop -/
theorem insO_ok {N a b : Nat} {P : List (Int × Int)} (hb : b ≤ N) (hN : N ≤ 1000) (hP : P.length = N) : ∀ (d i : Nat) (f : Nat → Nat), (i + d = b ∨ b ≤ i ∧ d = 0) → a ≤ i → (∀ x, x < N → f x < N) →
    Sd P a i f → (∀ p q, a ≤ p → p < q → i ≤ q → q < b → f p < f q) →
    Tot (fun n => l_slices_insertionSortCmpFunc_int__byWidth_1_b0 n a b (pcs P) i (row N f)) (fun r => ∃ g, r = row N g ∧ Pm a (max i b) f g ∧ Sd P a (max i b) g)
  | 0, i, f, hd, h1, V, S, X => by
    refine tot_succ (tot_f (by simp; omega) (tot_some ⟨f, rfl, Pm.refl _ _ _, ?_⟩))
    rw [show max i b = i by omega]
    exact S
  | d + 1, i, f, hd, h1, V, S, X => by
    refine tot_succ (tot_t (by simp; omega) (tot_bnd (insL_ok (a := a) (b := b) (i := i) (by omega) hb hN hP i f h1 (Nat.le_refl _) V (fun p q h2 h3 h4 h5 h6 => S p q h2 h3 (by omega)) (fun q h2 h3 => by omega) (fun p h2 h3 => X p i h2 h3 (Nat.le_refl _) (by omega))) ?_))
    rintro r ⟨g, rfl, g1, g2⟩
    dsimp only
    rw [up64 i (by omega)]
    refine tot_mono (insO_ok hb hN hP d (i + 1) g (by omega) (by omega) (fun x hx => ?_) g2 (fun p q h2 h3 h4 h5 => ?_)) ?_
    · by_cases hx2 : a ≤ x ∧ x < i + 1
      · obtain ⟨y, _, hy, e⟩ := g1.from hx2.1 hx2.2
        rw [e]; exact V y (by omega)
      · rw [g1.out (by omega)]; exact V x hx
    · rw [g1.out (i := q) (by omega)]
      by_cases hp : p < i + 1
      · obtain ⟨y, hy1, hy, e⟩ := g1.from h2 hp
        rw [e]; exact X y q hy1 (by omega) (by omega) h5
      · rw [g1.out (i := p) (by omega)]; exact X p q h2 h3 (by omega) h5
    · rintro r ⟨k, rfl, k1, k2⟩
      rw [show max (i + 1) b = max i b by omega] at k1 k2
      exact ⟨k, rfl, (g1.wide (Nat.le_refl _) (by omega)).trans k1, k2⟩
theorem ins_ok {N a b : Nat} {P : List (Int × Int)} {f : Nat → Nat} (hab : a ≤ b) (hb : b ≤ N) (hN : N ≤ 1000) (hP : P.length = N) (V : ∀ x, x < N → f x < N) (X : ∀ p q, a ≤ p → p < q → q < b → f p < f q) :
    Tot (fun n => s_slices_insertionSortCmpFunc_int__byWidth_1 n (row N f) a b (pcs P)) (fun r => ∃ g, r = row N g ∧ Pm a b f g ∧ Sd P a b g) := by
  unfold s_slices_insertionSortCmpFunc_int__byWidth_1
  rw [up64 a (by omega)]
  by_cases h : a = b
  · subst h
    refine tot_bnd (insO_ok (N := N) (a := a) (b := a) hb hN hP 0 (a + 1) f (by omega) (by omega) V (fun p q h1 h2 h3 => by omega) (fun p q h1 h2 h3 h4 => by omega)) ?_
    rintro r ⟨g, rfl, g1, g2⟩
    refine tot_some ⟨g, rfl, ?_, fun p q h1 h2 h3 => by omega⟩
    obtain ⟨σ, τ, p1, p2, p3, p4, p5⟩ := g1
    have : ∀ x, σ x = x := fun x => by
      by_cases hx : x = a
      · have := p3 x (by omega) (by omega); omega
      · exact p4 x (by omega)
    exact ⟨σ, τ, p1, p2, fun x h1 h2 => by omega, fun x _ => this x, p5⟩
  · refine tot_bnd (insO_ok (N := N) (a := a) (b := b) hb hN hP (b - (a + 1)) (a + 1) f (by omega) (by omega) V (fun p q h1 h2 h3 => by omega) (fun p q h1 h2 h3 h4 => X p q h1 h2 h4)) ?_
    rintro r ⟨g, rfl, g1, g2⟩
    rw [show max (a + 1) b = b by omega] at g1 g2
    exact tot_some ⟨g, rfl, g1, g2⟩
end Go.Proofs.Ytbejaalnnnogoaa
