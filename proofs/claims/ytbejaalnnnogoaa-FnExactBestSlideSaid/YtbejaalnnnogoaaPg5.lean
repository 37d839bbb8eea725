/- Sorting by width: the merge. -/
import Derived.Test.YtbejaalnnnogoaaPg4
namespace Go.Proofs.Ytbejaalnnnogoaa
open Go
set_option linter.unusedVariables false
set_option linter.unusedSimpArgs false

theorem shL_ok {N s : Nat} (S : Nat → Slf) (hs : s ≤ N) (hN : N ≤ 1000) : ∀ (d i : Nat) (f : Nat → Nat), i + d + 1 = s →
    Ev (fun n => l_slices_symMergeCmpFunc_int__byWidth_1_b2 (fun _ _ _ _ _ => none) n s i (row N f)) (row N (rot i (i + 1) s f))
  | 0, i, f, hk => by
    refine ev_succ (ev_f ?_ (ev_cast ev_some (row_congr fun x hx => ?_)))
    · rw [show IntKind.i64.wrap ((s : Int) - 1) = ((s - 1 : Nat) : Int) by rw [w64 _ (by omega)]; omega]
      simp; omega
    · simp only [rot]
      repeat' split
      all_goals first | rfl | (exfalso; omega) | (congr 1; omega)
  | d + 1, i, f, hk => by
    refine ev_succ (ev_t ?_ ?_)
    · rw [show IntKind.i64.wrap ((s : Int) - 1) = ((s - 1 : Nat) : Int) by rw [w64 _ (by omega)]; omega]
      simp; omega
    rw [up64 i (by omega)]
    refine ev_chk (inR (by omega)) (ev_bnd (ev_of fun n => nx (by omega)) (ev_chk (inR (by omega)) (ev_bnd (ev_of fun n => nx (by omega)) (ev_bnd (ev_of fun n => nx (by omega)) ?_))))
    rw [sr (by omega)]
    refine ev_chk (inR (by omega)) (ev_bnd (ev_of fun n => nx (by omega)) ?_)
    rw [sr (by omega)]
    refine ev_cast (shL_ok S hs hN d (i + 1) _ (by omega)) (row_congr fun x hx => ?_)
    simp only [rot, pt]
    repeat' split
    all_goals first | rfl | (exfalso; omega) | (congr 1; omega)
theorem shR_ok {N s : Nat} (S : Nat → Slf) (hN : N ≤ 1000) : ∀ (d i : Nat) (f : Nat → Nat), s + d = i → i < N →
    Ev (fun n => l_slices_symMergeCmpFunc_int__byWidth_1_b6 (fun _ _ _ _ _ => none) n s i (row N f)) (row N (rot s i (i + 1) f))
  | 0, i, f, hk, hi => by
    refine ev_succ (ev_f (by simp; omega) (ev_cast ev_some (row_congr fun x hx => ?_)))
    simp only [rot]
    repeat' split
    all_goals first | rfl | (exfalso; omega) | (congr 1; omega)
  | d + 1, i, f, hk, hi => by
    refine ev_succ (ev_t (by simp; omega) ?_)
    obtain ⟨j, rfl⟩ : ∃ j, i = j + 1 := ⟨i - 1, by omega⟩
    rw [show IntKind.i64.wrap (((j + 1 : Nat) : Int) - 1) = (j : Int) by rw [w64 _ (by omega)]; omega]
    refine ev_chk (inR (by omega)) (ev_bnd (ev_of fun n => nx (by omega)) (ev_chk (inR (by omega)) (ev_bnd (ev_of fun n => nx (by omega)) (ev_bnd (ev_of fun n => nx (by omega)) ?_))))
    rw [sr (by omega)]
    refine ev_chk (inR (by omega)) (ev_bnd (ev_of fun n => nx (by omega)) ?_)
    rw [sr (by omega)]
    refine ev_cast (shR_ok S hN d j _ (by omega) (by omega)) (row_congr fun x hx => ?_)
    simp only [rot, pt]
    repeat' split
    all_goals first | rfl | (exfalso; omega) | (congr 1; omega)
def T3 (n : Nat) (Pv : List V) (mid e b : Int) (y : List V) : Option (List V) :=
  cnd (decide (mid < e)) (cnd (decide (e < b)) (bnd (s_slices_symMergeCmpFunc_int__byWidth_1 n y mid e b Pv) fun z => chk (likeRows y z) (some z)) (some y)) (some y)
def T2 (n : Nat) (Pv : List V) (a s mid e b : Int) (y : List V) : Option (List V) :=
  cnd (decide (a < s)) (cnd (decide (s < mid)) (bnd (s_slices_symMergeCmpFunc_int__byWidth_1 n y a s mid Pv) fun z => chk (likeRows y z) (T3 n Pv mid e b z)) (T3 n Pv mid e b y)) (T3 n Pv mid e b y)
def T1 (n : Nat) (Pv : List V) (a s m mid e b : Int) (y : List V) : Option (List V) :=
  cnd (decide (s < m)) (cnd (decide (m < e)) (bnd (s_slices_rotateCmpFunc_int__byWidth_1 n y s m e Pv) fun z => chk (likeRows y z) (T2 n Pv a s mid e b z)) (T2 n Pv a s mid e b y)) (T2 n Pv a s mid e b y)
abbrev slf (n : Nat) : Slf := fun x0 x1 x2 x3 x4 => s_slices_symMergeCmpFunc_int__byWidth_1 n x0 x1 x2 x3 x4
abbrev mi (a b : Int) : Int := IntKind.i64.wrap ((IntKind.u64.wrap (IntKind.i64.wrap (a + b))).fdiv (2 ^ (min ((1 : Int)).toNat IntKind.u64.bits)))
theorem sm_eq (n : Nat) (a0 : List V) (a1 a2 a3 : Int) (a4 : List V) : s_slices_symMergeCmpFunc_int__byWidth_1 (n + 1) a0 a1 a2 a3 a4 =
    cnd (decide ((IntKind.i64.wrap ((a2) - (a1))) = (1)))
      (bnd (l_slices_symMergeCmpFunc_int__byWidth_1_b0 (slf n) n a1 a4 a2 a3 a0) fun (u10_0, u10_1, u10_2) =>
        bnd (l_slices_symMergeCmpFunc_int__byWidth_1_b2 (slf n) n u10_1 u10_0 u10_2) fun u20_0 =>
          some (u20_0))
      (cnd (decide ((IntKind.i64.wrap ((a3) - (a2))) = (1)))
        (bnd (l_slices_symMergeCmpFunc_int__byWidth_1_b4 (slf n) n a2 a4 a1 a2 a0) fun (u31_0, u31_1, u31_2) =>
          bnd (l_slices_symMergeCmpFunc_int__byWidth_1_b6 (slf n) n u31_1 u31_0 u31_2) fun u41_0 =>
            some (u41_0))
        (chk (decide (0 ≤ 1))
          (cnd (decide (mi a1 a3 < (a2)))
            (bnd (l_slices_symMergeCmpFunc_int__byWidth_1_b8 (slf n) n a1 a2 a3 a4 (mi a1 a3) (IntKind.i64.wrap (mi a1 a3 + (a2))) (IntKind.i64.wrap ((IntKind.i64.wrap (mi a1 a3 + (a2))) - (a3))) (mi a1 a3) (IntKind.i64.wrap ((IntKind.i64.wrap (mi a1 a3 + (a2))) - (1))) a0) fun (u0, u1, u2, u3, u4, u5, u6, u7) =>
              T1 n u3 u0 u6 u1 u4 (IntKind.i64.wrap (u5 - u6)) u2 u7)
            (bnd (l_slices_symMergeCmpFunc_int__byWidth_1_b8 (slf n) n a1 a2 a3 a4 (mi a1 a3) (IntKind.i64.wrap (mi a1 a3 + (a2))) a1 a2 (IntKind.i64.wrap ((IntKind.i64.wrap (mi a1 a3 + (a2))) - (1))) a0) fun (u0, u1, u2, u3, u4, u5, u6, u7) =>
              T1 n u3 u0 u6 u1 u4 (IntKind.i64.wrap (u5 - u6)) u2 u7)))) := rfl
/-- the merge does what it should on what is shorter than D -/
def Smg (N : Nat) (P : List (Int × Int)) (D : Nat) : Prop := ∀ (a m b : Nat) (f : Nat → Nat), b - a < D → a < m → m < b → b ≤ N → (∀ x, x < N → f x < N) → Sd P a m f → Sd P m b f → (∀ p q, a ≤ p → p < m → m ≤ q → q < b → f p < f q) →
  Tot (fun n => s_slices_symMergeCmpFunc_int__byWidth_1 n (row N f) a m b (pcs P)) (fun r => ∃ g, r = row N g ∧ Pm a b f g ∧ Sd P a b g)
theorem Pm.val {a b N : Nat} {f g : Nat → Nat} (h : Pm a b f g) (hb : b ≤ N) (V : ∀ x, x < N → f x < N) : ∀ x, x < N → g x < N := by
  intro x hx
  by_cases hi : a ≤ x ∧ x < b
  · obtain ⟨y, _, hy, e⟩ := h.from hi.1 hi.2
    rw [e]; exact V y (by omega)
  · rw [h.out (by omega)]; exact V x hx
theorem t3_ok {N D mid e b : Nat} {P : List (Int × Int)} {f : Nat → Nat} (IH : Smg N P D) (hD : b - mid < D) (h1 : mid ≤ e) (h2 : e ≤ b) (hb : b ≤ N) (V : ∀ x, x < N → f x < N) (S1 : Sd P mid e f) (S2 : Sd P e b f)
    (X : ∀ p q, mid ≤ p → p < e → e ≤ q → q < b → f p < f q) : Tot (fun n => T3 n (pcs P) mid e b (row N f)) (fun r => ∃ g, r = row N g ∧ Pm mid b f g ∧ Sd P mid b g) := by
  unfold T3
  by_cases c : mid < e
  · refine tot_t (by simp; omega) ?_
    by_cases c2 : e < b
    · refine tot_t (by simp; omega) (tot_bnd (IH mid e b f hD c c2 hb V S1 S2 X) ?_)
      rintro r ⟨g, rfl, g1, g2⟩
      exact tot_chk like_row (tot_some ⟨g, rfl, g1, g2⟩)
    · refine tot_f (by simp; omega) (tot_some ⟨f, rfl, Pm.refl _ _ _, ?_⟩)
      rwa [show e = b by omega] at S1
  · refine tot_f (by simp; omega) (tot_some ⟨f, rfl, Pm.refl _ _ _, ?_⟩)
    rwa [show e = mid by omega] at S2
theorem t2_ok {N D a s mid e b : Nat} {P : List (Int × Int)} {f : Nat → Nat} (IH : Smg N P D) (hD : b - mid < D) (hD2 : mid - a < D) (h0 : a ≤ s) (h01 : s ≤ mid) (h1 : mid ≤ e) (h2 : e ≤ b) (hb : b ≤ N) (V : ∀ x, x < N → f x < N)
    (S3 : Sd P a s f) (S4 : Sd P s mid f) (X2 : ∀ p q, a ≤ p → p < s → s ≤ q → q < mid → f p < f q) (S1 : Sd P mid e f) (S2 : Sd P e b f) (X : ∀ p q, mid ≤ p → p < e → e ≤ q → q < b → f p < f q)
    (C : ∀ p q, a ≤ p → p < mid → mid ≤ q → q < b → kl P (f p) (f q)) :
    Tot (fun n => T2 n (pcs P) a s mid e b (row N f)) (fun r => ∃ g, r = row N g ∧ Pm a b f g ∧ Sd P a b g) := by
  have key : ∀ (g : Nat → Nat), Pm a mid f g → Sd P a mid g → Tot (fun n => T3 n (pcs P) mid e b (row N g)) (fun r => ∃ g, r = row N g ∧ Pm a b f g ∧ Sd P a b g) := by
    intro g g1 g2
    have eo : ∀ x, mid ≤ x → g x = f x := fun x hx => g1.out (.inr hx)
    refine tot_mono (t3_ok IH hD h1 h2 hb (g1.val (by omega) V) (fun p q a1 a2 a3 => ?_) (fun p q a1 a2 a3 => ?_) (fun p q a1 a2 a3 a4 => ?_)) ?_
    · rw [eo p a1, eo q (by omega)]; exact S1 p q a1 a2 a3
    · rw [eo p (by omega), eo q (by omega)]; exact S2 p q a1 a2 a3
    · rw [eo p a1, eo q (by omega)]; exact X p q a1 a2 a3 a4
    · rintro r ⟨k, rfl, k1, k2⟩
      refine ⟨k, rfl, (g1.wide (Nat.le_refl _) (by omega)).trans (k1.wide (by omega) (Nat.le_refl _)), fun p q a1 a2 a3 => ?_⟩
      by_cases hq : q < mid
      · rw [k1.out (i := p) (by omega), k1.out (i := q) (by omega)]
        exact g2 p q a1 a2 hq
      · by_cases hp : mid ≤ p
        · exact k2 p q hp a2 a3
        · rw [k1.out (i := p) (by omega)]
          obtain ⟨p', hp1, hp2, e1⟩ := g1.from a1 (by omega)
          obtain ⟨q', hq1, hq2, e2⟩ := k1.from (i := q) (by omega) a3
          rw [e1, e2, eo q' hq1]
          exact C p' q' hp1 hp2 hq1 hq2
  unfold T2
  by_cases c : a < s
  · refine tot_t (by simp; omega) ?_
    by_cases c2 : s < mid
    · refine tot_t (by simp; omega) (tot_bnd (IH a s mid f hD2 c c2 (by omega) V S3 S4 X2) ?_)
      rintro r ⟨g, rfl, g1, g2⟩
      exact tot_chk like_row (key g g1 g2)
    · refine tot_f (by simp; omega) (key f (Pm.refl _ _ _) ?_)
      rwa [show s = mid by omega] at S3
  · refine tot_f (by simp; omega) (key f (Pm.refl _ _ _) ?_)
    rwa [show s = a by omega] at S4
theorem t1_ok {N D a s m mid e b : Nat} {P : List (Int × Int)} {f : Nat → Nat} (hN : N ≤ 1000) (IH : Smg N P D) (hD : b - mid < D) (hD2 : mid - a < D) (h0 : a ≤ s) (h01 : s ≤ mid) (h1 : mid ≤ e) (h2 : e ≤ b) (hb : b ≤ N) (hsm : s ≤ m) (hme : m ≤ e) (hse : e = mid + m - s) (V : ∀ x, x < N → f x < N)
    (S1 : Sd P a m f) (S2 : Sd P m b f) (X : ∀ p q, a ≤ p → p < m → m ≤ q → q < b → f p < f q)
    (C1 : ∀ p q, a ≤ p → p < s → e ≤ q → q < b → kl P (f p) (f q)) (C2 : ∀ p q, m ≤ p → p < e → s ≤ q → q < m → kl P (f p) (f q)) :
    Tot (fun n => T1 n (pcs P) a s m mid e b (row N f)) (fun r => ∃ g, r = row N g ∧ Pm a b f g ∧ Sd P a b g) := by
  have key : Tot (fun n => T2 n (pcs P) a s mid e b (row N (rot s m e f))) (fun r => ∃ g, r = row N g ∧ Pm a b f g ∧ Sd P a b g) := by
    have p1 : Pm s e f (rot s m e f) := pm_rot f hsm hme
    have r1 : ∀ x, x < s → rot s m e f x = f x := fun x hx => p1.out (.inl hx)
    have r4 : ∀ x, e ≤ x → rot s m e f x = f x := fun x hx => p1.out (.inr hx)
    have r2 : ∀ x, s ≤ x → x < mid → rot s m e f x = f (x + (m - s)) := fun x hx hx2 => by
      simp only [rot]; rw [if_pos (by omega)]
    have r3 : ∀ x, mid ≤ x → x < e → rot s m e f x = f (x - (e - m)) := fun x hx hx2 => by
      simp only [rot]; rw [if_neg (by omega), if_pos (by omega)]
    refine tot_mono (t2_ok IH hD hD2 h0 h01 h1 h2 hb (p1.val (by omega) V) (fun p q a1 a2 a3 => ?_) (fun p q a1 a2 a3 => ?_) (fun p q a1 a2 a3 a4 => ?_) (fun p q a1 a2 a3 => ?_) (fun p q a1 a2 a3 => ?_) (fun p q a1 a2 a3 a4 => ?_) (fun p q a1 a2 a3 a4 => ?_)) ?_
    · rw [r1 p (by omega), r1 q a3]; exact S1 p q a1 a2 (by omega)
    · rw [r2 p a1 (by omega), r2 q (by omega) a3]; exact S2 _ _ (by omega) (by omega) (by omega)
    · rw [r1 p a2, r2 q a3 a4]; exact X _ _ a1 (by omega) (by omega) (by omega)
    · rw [r3 p a1 (by omega), r3 q (by omega) a3]; exact S1 _ _ (by omega) (by omega) (by omega)
    · rw [r4 p a1, r4 q (by omega)]; exact S2 p q (by omega) a2 a3
    · rw [r3 p a1 a2, r4 q a3]; exact X _ _ (by omega) (by omega) (by omega) a4
    · by_cases hp : p < s
      · rw [r1 p hp]
        by_cases hq : q < e
        · rw [r3 q a3 hq]; exact S1 _ _ a1 (by omega) (by omega)
        · rw [r4 q (by omega)]; exact C1 p q a1 hp (by omega) a4
      · rw [r2 p (by omega) a2]
        by_cases hq : q < e
        · rw [r3 q a3 hq]; exact C2 _ _ (by omega) (by omega) (by omega) (by omega)
        · rw [r4 q (by omega)]; exact S2 _ _ (by omega) (by omega) a4
    · rintro r ⟨k, rfl, k1, k2⟩
      exact ⟨k, rfl, (p1.wide h0 h2).trans k1, k2⟩
  unfold T1
  have same : (s = m ∨ m = e) → row N (rot s m e f) = row N f := fun h => row_congr fun x _ => by
    simp only [rot]
    repeat' split
    all_goals first | rfl | (exfalso; omega) | (congr 1; omega)
  by_cases c : s < m
  · refine tot_t (by simp; omega) ?_
    by_cases c2 : m < e
    · exact tot_t (by simp; omega) (tot_ev (rot_ok c c2 (by omega) hN) (tot_chk like_row key))
    · rw [same (.inr (by omega))] at key
      exact tot_f (by simp; omega) key
  · rw [same (.inl (by omega))] at key
    exact tot_f (by simp; omega) key
end Go.Proofs.Ytbejaalnnnogoaa
