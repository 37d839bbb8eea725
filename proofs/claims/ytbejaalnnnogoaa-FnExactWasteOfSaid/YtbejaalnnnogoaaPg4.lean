/- Sorting by width: searches and shifts of the merge. -/
import Derived.Test.YtbejaalnnnogoaaPg3
namespace Go.Proofs.Ytbejaalnnnogoaa
open Go
set_option linter.unusedVariables false
set_option linter.unusedSimpArgs false

theorem hf (a b : Nat) (h : a + b < 1000000000) : IntKind.i64.wrap ((IntKind.u64.wrap (IntKind.i64.wrap ((a : Int) + (b : Int)))).fdiv (2 ^ (min ((1 : Int)).toNat IntKind.u64.bits))) = (((a + b) / 2 : Nat) : Int) := by
  rw [wa a b h, wu64 _ (by omega), show (2 : Int) ^ (min ((1 : Int)).toNat IntKind.u64.bits) = 2 by decide, Int.fdiv_eq_ediv_of_nonneg _ (by omega), w64 _ (by omega)]
  omega
/-- a search by halves -/
theorem bs_ok {α : Type} {l : Nat → Nat → Nat → Option α} {R : Nat → α} {Pd : Nat → Bool} (lo hi : Nat) (hend : ∀ i, lo ≤ i → i ≤ hi → Ev (fun n => l (n + 1) i i) (R i))
    (hstep : ∀ i j v, lo ≤ i → i < j → j ≤ hi → (Pd ((i + j) / 2) = true → Ev (fun n => l n ((i + j) / 2 + 1) j) v) → (Pd ((i + j) / 2) = false → Ev (fun n => l n i ((i + j) / 2)) v) → Ev (fun n => l (n + 1) i j) v) :
    ∀ (d i j : Nat), j - i ≤ d → lo ≤ i → i ≤ j → j ≤ hi → (i = lo ∨ Pd (i - 1) = true) → (j = hi ∨ Pd j = false) →
    ∃ s, lo ≤ s ∧ s ≤ hi ∧ (s = lo ∨ Pd (s - 1) = true) ∧ (s = hi ∨ Pd s = false) ∧ Ev (fun n => l n i j) (R s)
  | 0, i, j, h, h1, h2, h3, h4, h5 => by
    obtain rfl : i = j := by omega
    exact ⟨i, h1, h3, h4, h5, ev_succ (hend i h1 h3)⟩
  | d + 1, i, j, h, h1, h2, h3, h4, h5 => by
    by_cases e : i = j
    · subst e
      exact ⟨i, h1, h3, h4, h5, ev_succ (hend i h1 h3)⟩
    · cases c : Pd ((i + j) / 2) with
      | true =>
        obtain ⟨s, s1, s2, s3, s4, s5⟩ := bs_ok lo hi hend hstep d ((i + j) / 2 + 1) j (by omega) (by omega) (by omega) h3 (.inr (by rw [Nat.add_sub_cancel]; exact c)) h5
        exact ⟨s, s1, s2, s3, s4, ev_succ (hstep i j _ h1 (by omega) h3 (fun _ => s5) (fun c2 => by rw [c] at c2; cases c2))⟩
      | false =>
        obtain ⟨s, s1, s2, s3, s4, s5⟩ := bs_ok lo hi hend hstep d i ((i + j) / 2) (by omega) h1 (by omega) (by omega) h4 (.inr c)
        exact ⟨s, s1, s2, s3, s4, ev_succ (hstep i j _ h1 (by omega) h3 (fun c2 => by rw [c] at c2; cases c2) (fun _ => s5))⟩
abbrev Slf := List V → Int → Int → Int → List V → Option (List V)
theorem b0_self (S S' : Slf) : ∀ (n : Nat) (a0 : Int) (a1 : List V) (a2 a3 : Int) (a4 : List V), l_slices_symMergeCmpFunc_int__byWidth_1_b0 S n a0 a1 a2 a3 a4 = l_slices_symMergeCmpFunc_int__byWidth_1_b0 S' n a0 a1 a2 a3 a4
  | 0, _, _, _, _, _ => rfl
  | n + 1, a0, a1, a2, a3, a4 => by simp only [l_slices_symMergeCmpFunc_int__byWidth_1_b0, b0_self S S' n]
theorem b2_self (S S' : Slf) : ∀ (n : Nat) (a0 a1 : Int) (a2 : List V), l_slices_symMergeCmpFunc_int__byWidth_1_b2 S n a0 a1 a2 = l_slices_symMergeCmpFunc_int__byWidth_1_b2 S' n a0 a1 a2
  | 0, _, _, _ => rfl
  | n + 1, a0, a1, a2 => by simp only [l_slices_symMergeCmpFunc_int__byWidth_1_b2, b2_self S S' n]
theorem b4_self (S S' : Slf) : ∀ (n : Nat) (a0 : Int) (a1 : List V) (a2 a3 : Int) (a4 : List V), l_slices_symMergeCmpFunc_int__byWidth_1_b4 S n a0 a1 a2 a3 a4 = l_slices_symMergeCmpFunc_int__byWidth_1_b4 S' n a0 a1 a2 a3 a4
  | 0, _, _, _, _, _ => rfl
  | n + 1, a0, a1, a2, a3, a4 => by simp only [l_slices_symMergeCmpFunc_int__byWidth_1_b4, b4_self S S' n]
theorem b6_self (S S' : Slf) : ∀ (n : Nat) (a0 a1 : Int) (a2 : List V), l_slices_symMergeCmpFunc_int__byWidth_1_b6 S n a0 a1 a2 = l_slices_symMergeCmpFunc_int__byWidth_1_b6 S' n a0 a1 a2
  | 0, _, _, _ => rfl
  | n + 1, a0, a1, a2 => by simp only [l_slices_symMergeCmpFunc_int__byWidth_1_b6, b6_self S S' n]
theorem b8_self (S S' : Slf) : ∀ (n : Nat) (a0 a1 a2 : Int) (a3 : List V) (a4 a5 a6 a7 a8 : Int) (a9 : List V), l_slices_symMergeCmpFunc_int__byWidth_1_b8 S n a0 a1 a2 a3 a4 a5 a6 a7 a8 a9 = l_slices_symMergeCmpFunc_int__byWidth_1_b8 S' n a0 a1 a2 a3 a4 a5 a6 a7 a8 a9
  | 0, _, _, _, _, _, _, _, _, _, _ => rfl
  | n + 1, a0, a1, a2, a3, a4, a5, a6, a7, a8, a9 => by simp only [l_slices_symMergeCmpFunc_int__byWidth_1_b8, b8_self S S' n]
theorem sb0_ok {N : Nat} {P : List (Int × Int)} {f : Nat → Nat} (hN : N ≤ 1000) (hP : P.length = N) (V : ∀ x, x < N → f x < N) (S : Nat → Slf) {a m b : Nat} (h1 : a < m) (h2 : m ≤ b) (h3 : b ≤ N) :
    ∃ s, m ≤ s ∧ s ≤ b ∧ (s = m ∨ wd P (f a) < wd P (f (s - 1))) ∧ (s = b ∨ ¬ wd P (f a) < wd P (f s)) ∧ Ev (fun n => l_slices_symMergeCmpFunc_int__byWidth_1_b0 (S n) n a (pcs P) m b (row N f)) ((a : Int), (s : Int), row N f) := by
  have := bs_ok (l := fun n i j => l_slices_symMergeCmpFunc_int__byWidth_1_b0 (fun _ _ _ _ _ => none) n a (pcs P) (i : Nat) (j : Nat) (row N f)) (R := fun s => ((a : Int), (s : Int), row N f)) (Pd := fun h => decide (wd P (f a) < wd P (f h))) m b
    (fun i _ _ => ev_f (by simp) ev_some) (by
      intro i j v h4 h5 h6 ht hf'
      refine ev_t (by simp; omega) ?_
      rw [hf i j (by omega)]
      refine ev_chk rfl (ev_chk (inR (by omega)) (ev_bnd (ev_of fun n => nx (by omega)) (ev_chk (inR (by omega)) (ev_bnd (ev_of fun n => nx (by omega)) (ev_bnd (ev_of fun n => byW_eq n (by rw [hP]; exact V _ (by omega)) (by rw [hP]; exact V _ (by omega))) ?_)))))
      rw [byR_lt]
      refine ev_cnd (fun c => ?_) (fun c => ?_)
      · rw [up64 _ (by omega)]; exact ht c
      · exact hf' c) (b - m) m b (Nat.le_refl _) (Nat.le_refl _) h2 (Nat.le_refl _) (.inl rfl) (.inl rfl)
  obtain ⟨s, s1, s2, s3, s4, s5⟩ := this
  refine ⟨s, s1, s2, by simpa using s3, by simpa using s4, ?_⟩
  rw [show (fun n => l_slices_symMergeCmpFunc_int__byWidth_1_b0 (S n) n a (pcs P) m b (row N f)) = fun n => l_slices_symMergeCmpFunc_int__byWidth_1_b0 (fun _ _ _ _ _ => none) n a (pcs P) m b (row N f) from funext fun n => b0_self ..]
  exact s5
theorem sb4_ok {N : Nat} {P : List (Int × Int)} {f : Nat → Nat} (hN : N ≤ 1000) (hP : P.length = N) (V : ∀ x, x < N → f x < N) (S : Nat → Slf) {a m b : Nat} (h1 : a ≤ m) (h2 : m < N) :
    ∃ s, a ≤ s ∧ s ≤ m ∧ (s = a ∨ ¬ wd P (f (s - 1)) < wd P (f m)) ∧ (s = m ∨ wd P (f s) < wd P (f m)) ∧ Ev (fun n => l_slices_symMergeCmpFunc_int__byWidth_1_b4 (S n) n m (pcs P) a m (row N f)) ((m : Int), (s : Int), row N f) := by
  have := bs_ok (l := fun n i j => l_slices_symMergeCmpFunc_int__byWidth_1_b4 (fun _ _ _ _ _ => none) n m (pcs P) (i : Nat) (j : Nat) (row N f)) (R := fun s => ((m : Int), (s : Int), row N f)) (Pd := fun h => !decide (wd P (f h) < wd P (f m))) a m
    (fun i _ _ => ev_f (by simp) ev_some) (by
      intro i j v h4 h5 h6 ht hf'
      refine ev_t (by simp; omega) ?_
      rw [hf i j (by omega)]
      refine ev_chk rfl (ev_chk (inR (by omega)) (ev_bnd (ev_of fun n => nx (by omega)) (ev_chk (inR (by omega)) (ev_bnd (ev_of fun n => nx (by omega)) (ev_bnd (ev_of fun n => byW_eq n (by rw [hP]; exact V _ (by omega)) (by rw [hP]; exact V _ (by omega))) ?_)))))
      rw [byR_lt]
      refine ev_cnd (fun c => ?_) (fun c => ?_)
      · exact hf' (by rw [c]; rfl)
      · rw [up64 _ (by omega)]; exact ht (by rw [c]; rfl)) (m - a) a m (Nat.le_refl _) (Nat.le_refl _) h1 (Nat.le_refl _) (.inl rfl) (.inl rfl)
  obtain ⟨s, s1, s2, s3, s4, s5⟩ := this
  refine ⟨s, s1, s2, by simpa using s3, by simpa using s4, ?_⟩
  rw [show (fun n => l_slices_symMergeCmpFunc_int__byWidth_1_b4 (S n) n m (pcs P) a m (row N f)) = fun n => l_slices_symMergeCmpFunc_int__byWidth_1_b4 (fun _ _ _ _ _ => none) n m (pcs P) a m (row N f) from funext fun n => b4_self ..]
  exact s5
theorem sb8_ok {N : Nat} {P : List (Int × Int)} {f : Nat → Nat} (hN : N ≤ 1000) (hP : P.length = N) (V : ∀ x, x < N → f x < N) (S : Nat → Slf) {lo hi p : Nat} {x0 x1 x2 x4 x5 : Int} (h1 : lo ≤ hi) (h2 : hi ≤ N) (h3 : hi ≤ p + 1) (h4 : p < N + lo) :
    ∃ s, lo ≤ s ∧ s ≤ hi ∧ (s = lo ∨ ¬ wd P (f (s - 1)) < wd P (f (p - (s - 1)))) ∧ (s = hi ∨ wd P (f s) < wd P (f (p - s))) ∧
      Ev (fun n => l_slices_symMergeCmpFunc_int__byWidth_1_b8 (S n) n x0 x1 x2 (pcs P) x4 x5 lo hi p (row N f)) (x0, x1, x2, pcs P, x4, x5, (s : Int), row N f) := by
  have := bs_ok (l := fun n i j => l_slices_symMergeCmpFunc_int__byWidth_1_b8 (fun _ _ _ _ _ => none) n x0 x1 x2 (pcs P) x4 x5 (i : Nat) (j : Nat) p (row N f)) (R := fun s => (x0, x1, x2, pcs P, x4, x5, (s : Int), row N f)) (Pd := fun h => !decide (wd P (f h) < wd P (f (p - h)))) lo hi
    (fun i _ _ => ev_f (by simp) ev_some) (by
      intro i j v h4 h5 h6 ht hf'
      refine ev_t (by simp; omega) ?_
      rw [hf i j (by omega), ws p ((i + j) / 2) (by omega) (by omega)]
      refine ev_chk rfl (ev_chk (inR (by omega)) (ev_bnd (ev_of fun n => nx (by omega)) (ev_chk (inR (by omega)) (ev_bnd (ev_of fun n => nx (by omega)) (ev_bnd (ev_of fun n => byW_eq n (by rw [hP]; exact V _ (by omega)) (by rw [hP]; exact V _ (by omega))) ?_)))))
      rw [byR_lt]
      refine ev_cnd (fun c => ?_) (fun c => ?_)
      · exact hf' (by rw [c]; rfl)
      · rw [up64 _ (by omega)]; exact ht (by rw [c]; rfl)) (hi - lo) lo hi (Nat.le_refl _) (Nat.le_refl _) h1 (Nat.le_refl _) (.inl rfl) (.inl rfl)
  obtain ⟨s, s1, s2, s3, s4, s5⟩ := this
  refine ⟨s, s1, s2, by simpa using s3, by simpa using s4, ?_⟩
  rw [show (fun n => l_slices_symMergeCmpFunc_int__byWidth_1_b8 (S n) n x0 x1 x2 (pcs P) x4 x5 lo hi p (row N f)) = fun n => l_slices_symMergeCmpFunc_int__byWidth_1_b8 (fun _ _ _ _ _ => none) n x0 x1 x2 (pcs P) x4 x5 lo hi p (row N f) from funext fun n => b8_self ..]
  exact s5
end Go.Proofs.Ytbejaalnnnogoaa
