/- Sorting by width: the merge as a whole, the stable sort. -/
import Derived.Test.YtbejaalnnnogoaaPg5
namespace Go.Proofs.Ytbejaalnnnogoaa
open Go
set_option linter.unusedVariables false
set_option linter.unusedSimpArgs false

theorem sm_ok {N : Nat} {P : List (Int × Int)} (hN : N ≤ 1000) (hP : P.length = N) : ∀ D, Smg N P D
  | 0 => fun a m b f h => by omega
  | D + 1 => by
    intro a m b f h h1 h2 h3 V S1 S2 X
    have IH := sm_ok hN hP D
    refine tot_succ ?_
    rw [show (fun n => s_slices_symMergeCmpFunc_int__byWidth_1 (n + 1) (row N f) a m b (pcs P)) = _ from funext fun n => sm_eq n ..]
    rw [ws m a (by omega) (by omega), ws b m (by omega) (by omega)]
    by_cases c1 : m = a + 1
    · subst c1
      refine tot_t (by simp) ?_
      obtain ⟨s, s1, s2, s3, s4, s5⟩ := sb0_ok hN hP V slf (a := a) (m := a + 1) (b := b) (by omega) (by omega) h3
      refine tot_ev s5 ?_
      dsimp only
      rw [show (fun n => bnd (l_slices_symMergeCmpFunc_int__byWidth_1_b2 (slf n) n s a (row N f)) fun u20_0 => some u20_0) = fun n => bnd (l_slices_symMergeCmpFunc_int__byWidth_1_b2 (fun _ _ _ _ _ => none) n s a (row N f)) fun u20_0 => some u20_0 from funext fun n => by rw [b2_self (slf n) (fun _ _ _ _ _ => none)]]
      refine tot_ev (shL_ok slf (by omega) hN (s - a - 1) a f (by omega)) (tot_some ⟨_, rfl, (pm_rot f (by omega) (by omega)).wide (Nat.le_refl _) s2, ?_⟩)
      have v : ∀ x, rot a (a + 1) s f x = if a ≤ x ∧ x + 1 < s then f (x + 1) else if x + 1 = s then f a else f x := fun x => by
        simp only [rot]
        repeat' split
        all_goals first | rfl | (exfalso; omega) | (congr 1; omega)
      have k1 : ∀ x, a + 1 ≤ x → x < s → kl P (f x) (f a) := fun x hx hx2 => by
        rcases s3 with s3 | s3
        · omega
        · by_cases e : x = s - 1
          · subst e; exact .inl s3
          · exact kl_trans (S2 x (s - 1) hx (by omega) (by omega)) (.inl s3)
      have k2 : ∀ x, s ≤ x → x < b → kl P (f a) (f x) := fun x hx hx2 => by
        have k0 : kl P (f a) (f s) := by
          rcases s4 with s4 | s4
          · omega
          · have := X a s (Nat.le_refl _) (by omega) s1 (by omega)
            unfold kl; omega
        by_cases e : x = s
        · subst e; exact k0
        · exact kl_trans k0 (S2 s x s1 (by omega) hx2)
      intro p q a1 a2 a3
      rw [v, v]
      by_cases hp : p + 1 < s
      · rw [if_pos ⟨a1, hp⟩]
        by_cases hq : q + 1 < s
        · rw [if_pos ⟨by omega, hq⟩]; exact S2 _ _ (by omega) (by omega) (by omega)
        · rw [if_neg (by omega)]
          by_cases hq2 : q + 1 = s
          · rw [if_pos hq2]; exact k1 _ (by omega) (by omega)
          · rw [if_neg hq2]; exact S2 _ _ (by omega) (by omega) a3
      · rw [if_neg (by omega), if_neg (c := a ≤ q ∧ q + 1 < s) (by omega), if_neg (c := q + 1 = s) (by omega)]
        by_cases hp2 : p + 1 = s
        · rw [if_pos hp2]; exact k2 q (by omega) a3
        · rw [if_neg hp2]; exact S2 p q (by omega) a2 a3
    · refine tot_f (by simp; omega) ?_
      by_cases c2 : b = m + 1
      · subst c2
        refine tot_t (by simp) ?_
        obtain ⟨s, s1, s2, s3, s4, s5⟩ := sb4_ok hN hP V slf (a := a) (m := m) (b := 0) (by omega) (by omega)
        refine tot_ev s5 ?_
        dsimp only
        rw [show (fun n => bnd (l_slices_symMergeCmpFunc_int__byWidth_1_b6 (slf n) n s m (row N f)) fun u41_0 => some u41_0) = fun n => bnd (l_slices_symMergeCmpFunc_int__byWidth_1_b6 (fun _ _ _ _ _ => none) n s m (row N f)) fun u41_0 => some u41_0 from funext fun n => by rw [b6_self (slf n) (fun _ _ _ _ _ => none)]]
        refine tot_ev (shR_ok slf hN (m - s) m f (by omega) (by omega)) (tot_some ⟨_, rfl, (pm_rot f (by omega) (by omega)).wide s1 (Nat.le_refl _), ?_⟩)
        have v : ∀ x, rot s m (m + 1) f x = if x = s then f m else if s < x ∧ x ≤ m then f (x - 1) else f x := fun x => by
          simp only [rot]
          repeat' split
          all_goals first | rfl | (exfalso; omega) | (congr 1; omega)
        have k1 : ∀ x, a ≤ x → x < s → kl P (f x) (f m) := fun x hx hx2 => by
          have k0 : kl P (f (s - 1)) (f m) := by
            rcases s3 with s3 | s3
            · omega
            · have := X (s - 1) m (by omega) (by omega) (Nat.le_refl _) (by omega)
              unfold kl; omega
          by_cases e : x = s - 1
          · subst e; exact k0
          · exact kl_trans (S1 x (s - 1) hx (by omega) (by omega)) k0
        have k2 : ∀ x, s ≤ x → x < m → kl P (f m) (f x) := fun x hx hx2 => by
          rcases s4 with s4 | s4
          · omega
          · by_cases e : x = s
            · subst e; exact .inl s4
            · exact kl_trans (.inl s4) (S1 s x s1 (by omega) hx2)
        intro p q a1 a2 a3
        rw [v, v]
        by_cases hp : p < s
        · rw [if_neg (c := p = s) (by omega), if_neg (c := s < p ∧ p ≤ m) (by omega)]
          by_cases hq : q = s
          · rw [if_pos hq]; exact k1 p a1 hp
          · rw [if_neg hq]
            by_cases hq2 : s < q
            · rw [if_pos (by omega)]; exact S1 _ _ a1 (by omega) (by omega)
            · rw [if_neg (by omega)]; exact S1 _ _ a1 a2 (by omega)
        · rw [if_neg (c := q = s) (by omega), if_pos (c := s < q ∧ q ≤ m) (by omega)]
          by_cases hp2 : p = s
          · rw [if_pos hp2]; exact k2 _ (by omega) (by omega)
          · rw [if_neg hp2, if_pos (by omega)]; exact S1 _ _ (by omega) (by omega) (by omega)
      · refine tot_f (by simp; omega) (tot_chk rfl ?_)
        have e0 : mi a b = (((a + b) / 2 : Nat) : Int) := hf a b (by omega)
        rw [e0, wa ((a + b) / 2) m (by omega)]
        rw [show IntKind.i64.wrap ((((a + b) / 2 + m : Nat) : Int) - 1) = (((a + b) / 2 + m - 1 : Nat) : Int) by rw [w64 _ (by omega)]; omega]
        generalize hmid : (a + b) / 2 = mid
        have m1 : a < mid := by omega
        have m2 : mid < b := by omega
        have fin : ∀ s, a ≤ s → s ≤ m → s ≤ mid → mid + m ≤ b + s → (s = a ∨ s = mid + m - b ∨ ¬ wd P (f (s - 1)) < wd P (f (mid + m - s))) → (s = m ∨ s = mid ∨ wd P (f s) < wd P (f (mid + m - 1 - s))) → (s = mid + m - b → ¬ s = a → mid + m - s = b) →
            Tot (fun n => T1 n (pcs P) a s m mid (mid + m - s : Nat) b (row N f)) (fun r => ∃ g, r = row N g ∧ Pm a b f g ∧ Sd P a b g) := by
          intro s t1 t2 t3 t4 t5 t6 t7
          refine t1_ok hN IH (by omega) (by omega) t1 t3 (by omega) (by omega) h3 t2 (by omega) rfl V S1 S2 X (fun p q a1 a2 a3 a4 => ?_) (fun p q a1 a2 a3 a4 => ?_)
          · have k0 : kl P (f (s - 1)) (f (mid + m - s)) := by
              rcases t5 with t5 | t5 | t5
              · omega
              · omega
              · have := X (s - 1) (mid + m - s) (by omega) (by omega) (by omega) (by omega)
                unfold kl; omega
            have k1 : kl P (f p) (f (mid + m - s)) := by
              by_cases e : p = s - 1
              · subst e; exact k0
              · exact kl_trans (S1 p (s - 1) a1 (by omega) (by omega)) k0
            by_cases e : q = mid + m - s
            · subst e; exact k1
            · exact kl_trans k1 (S2 _ q (by omega) (by omega) a4)
          · have k0 : kl P (f (mid + m - 1 - s)) (f s) := by
              rcases t6 with t6 | t6 | t6
              · omega
              · omega
              · exact .inl t6
            have k1 : kl P (f p) (f s) := by
              by_cases e : p = mid + m - 1 - s
              · subst e; exact k0
              · exact kl_trans (S2 p (mid + m - 1 - s) a1 (by omega) (by omega)) k0
            by_cases e : q = s
            · subst e; exact k1
            · exact kl_trans k1 (S1 s q t1 (by omega) a4)
        by_cases c3 : mid < m
        · refine tot_t (by simp; omega) ?_
          rw [show IntKind.i64.wrap (((mid + m : Nat) : Int) - (b : Int)) = ((mid + m - b : Nat) : Int) from ws _ _ (by omega) (by omega)]
          obtain ⟨s, s1, s2, s3, s4, s5⟩ := sb8_ok hN hP V slf (lo := mid + m - b) (hi := mid) (p := mid + m - 1) (x0 := a) (x1 := m) (x2 := b) (x4 := mid) (x5 := (mid + m : Nat)) (by omega) (by omega) (by omega) (by omega)
          refine tot_ev s5 ?_
          dsimp only
          rw [ws (mid + m) s (by omega) (by omega)]
          refine fin s (by omega) (by omega) s2 (by omega) ?_ ?_ (by omega)
          · rcases s3 with s3 | s3
            · exact .inr (.inl s3)
            · by_cases e : s = mid + m - b
              · exact .inr (.inl e)
              · rw [show mid + m - 1 - (s - 1) = mid + m - s by omega] at s3
                exact .inr (.inr s3)
          · rcases s4 with s4 | s4
            · exact .inr (.inl s4)
            · exact .inr (.inr s4)
        · refine tot_f (by simp; omega) ?_
          obtain ⟨s, s1, s2, s3, s4, s5⟩ := sb8_ok hN hP V slf (lo := a) (hi := m) (p := mid + m - 1) (x0 := a) (x1 := m) (x2 := b) (x4 := mid) (x5 := (mid + m : Nat)) (by omega) (by omega) (by omega) (by omega)
          refine tot_ev s5 ?_
          dsimp only
          rw [ws (mid + m) s (by omega) (by omega)]
          refine fin s (by omega) s2 (by omega) (by omega) ?_ ?_ (by omega)
          · rcases s3 with s3 | s3
            · exact .inl s3
            · by_cases e : s = a
              · exact .inl e
              · rw [show mid + m - 1 - (s - 1) = mid + m - s by omega] at s3
                exact .inr (.inr s3)
          · rcases s4 with s4 | s4
            · exact .inl s4
            · exact .inr (.inr s4)
end Go.Proofs.Ytbejaalnnnogoaa
