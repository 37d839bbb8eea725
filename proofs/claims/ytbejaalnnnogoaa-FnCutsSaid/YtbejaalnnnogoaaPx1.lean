/- Sorting by width: the merge. Sorting by width: the merge as a whole, the stable sort. Sorting by width: the stable sort, and what it gives. -/
import Derived.Test.YtbejaalnnnogoaaPx0
namespace Go.Proofs.Ytbejaalnnnogoaa
open Go
set_option linter.unusedVariables false
set_option linter.unusedSimpArgs false

theorem shL_ok {N s : Nat} (S : Nat → Slf) (hs : s ≤ N) (hN : N ≤ 1000) : ∀ (d i : Nat) (f : Nat → Nat), i + d + 1 = s →
    Ev (fun n => l_symM_b2 (fun _ _ _ _ _ => none) n s i (row N f)) (row N (rot i (i + 1) s f))
  | 0, i, f, hk => by
    refine ev_succ (ev_f ?_ (ev_cast ev_some (row_congr fun x hx => ?_)))
    · rw [show IntKind.i64.wrap ((s : Int) - 1) = ((s - 1 : Nat) : Int) by rw [w64 _ (by omega)]; omega]
      simp; omega
    · simp only [rot]
      repeat' split
      all_goals first | rfl | (exfalso; omega) | (congr 1; omega)
  | d + 1, i, f, hk => by
    refine ev_succ (ev_t ?_ ?_)
    · rw [show IntKind.i64.wrap ((s : Int) - 1) = ((s - 1 : Nat) : Int) by rw [w64 _ (by omega)]; omega]
      simp; omega
    rw [up64 i (by omega)]
    refine ev_chk (inR (by omega)) (ev_bnd (ev_of fun n => nx (by omega)) (ev_chk (inR (by omega)) (ev_bnd (ev_of fun n => nx (by omega)) (ev_bnd (ev_of fun n => nx (by omega)) ?_))))
    rw [sr (by omega)]
    refine ev_chk (inR (by omega)) (ev_bnd (ev_of fun n => nx (by omega)) ?_)
    rw [sr (by omega)]
    refine ev_cast (shL_ok S hs hN d (i + 1) _ (by omega)) (row_congr fun x hx => ?_)
    simp only [rot, pt]
    repeat' split
    all_goals first | rfl | (exfalso; omega) | (congr 1; omega)
theorem shR_ok {N s : Nat} (S : Nat → Slf) (hN : N ≤ 1000) : ∀ (d i : Nat) (f : Nat → Nat), s + d = i → i < N →
    Ev (fun n => l_symM_b6 (fun _ _ _ _ _ => none) n s i (row N f)) (row N (rot s i (i + 1) f))
  | 0, i, f, hk, hi => by
    refine ev_succ (ev_f (by simp; omega) (ev_cast ev_some (row_congr fun x hx => ?_)))
    simp only [rot]
    repeat' split
    all_goals first | rfl | (exfalso; omega) | (congr 1; omega)
  | d + 1, i, f, hk, hi => by
    refine ev_succ (ev_t (by simp; omega) ?_)
    obtain ⟨j, rfl⟩ : ∃ j, i = j + 1 := ⟨i - 1, by omega⟩
    rw [show IntKind.i64.wrap (((j + 1 : Nat) : Int) - 1) = (j : Int) by rw [w64 _ (by omega)]; omega]
    refine ev_chk (inR (by omega)) (ev_bnd (ev_of fun n => nx (by omega)) (ev_chk (inR (by omega)) (ev_bnd (ev_of fun n => nx (by omega)) (ev_bnd (ev_of fun n => nx (by omega)) ?_))))
    rw [sr (by omega)]
    refine ev_chk (inR (by omega)) (ev_bnd (ev_of fun n => nx (by omega)) ?_)
    rw [sr (by omega)]
    refine ev_cast (shR_ok S hN d j _ (by omega) (by omega)) (row_congr fun x hx => ?_)
    simp only [rot, pt]
    repeat' split
    all_goals first | rfl | (exfalso; omega) | (congr 1; omega)
def T3 (n : Nat) (Pv : List V) (mid e b : Int) (y : List V) : Option (List V) :=
 cnd (decide (mid < e)) (cnd (decide (e < b)) (bnd (s_symM n y mid e b Pv) fun z => chk (likeRows y z) (some z)) (some y)) (some y)
def T2 (n : Nat) (Pv : List V) (a s mid e b : Int) (y : List V) : Option (List V) :=
 cnd (decide (a < s)) (cnd (decide (s < mid)) (bnd (s_symM n y a s mid Pv) fun z => chk (likeRows y z) (T3 n Pv mid e b z)) (T3 n Pv mid e b y)) (T3 n Pv mid e b y)
def T1 (n : Nat) (Pv : List V) (a s m mid e b : Int) (y : List V) : Option (List V) :=
 cnd (decide (s < m)) (cnd (decide (m < e)) (bnd (s_rotC n y s m e Pv) fun z => chk (likeRows y z) (T2 n Pv a s mid e b z)) (T2 n Pv a s mid e b y)) (T2 n Pv a s mid e b y)
abbrev slf (n : Nat) : Slf := fun x0 x1 x2 x3 x4 => s_symM n x0 x1 x2 x3 x4
abbrev mi (a b : Int) : Int := IntKind.i64.wrap ((IntKind.u64.wrap (IntKind.i64.wrap (a + b))).fdiv (2 ^ (min ((1 : Int)).toNat IntKind.u64.bits)))
theorem sm_eq (n : Nat) (a0 : List V) (a1 a2 a3 : Int) (a4 : List V) : s_symM (n + 1) a0 a1 a2 a3 a4 =
    cnd (decide ((IntKind.i64.wrap ((a2) - (a1))) = (1)))
      (bnd (l_symM_b0 (slf n) n a1 a4 a2 a3 a0) fun (u10_0, u10_1, u10_2) =>
        bnd (l_symM_b2 (slf n) n u10_1 u10_0 u10_2) fun u20_0 =>
          some (u20_0))
      (cnd (decide ((IntKind.i64.wrap ((a3) - (a2))) = (1)))
        (bnd (l_symM_b4 (slf n) n a2 a4 a1 a2 a0) fun (u31_0, u31_1, u31_2) =>
          bnd (l_symM_b6 (slf n) n u31_1 u31_0 u31_2) fun u41_0 =>
            some (u41_0))
        (chk (decide (0 ≤ 1))
          (cnd (decide (mi a1 a3 < (a2)))
            (bnd (l_symM_b8 (slf n) n a1 a2 a3 a4 (mi a1 a3) (IntKind.i64.wrap (mi a1 a3 + (a2))) (IntKind.i64.wrap ((IntKind.i64.wrap (mi a1 a3 + (a2))) - (a3))) (mi a1 a3) (IntKind.i64.wrap ((IntKind.i64.wrap (mi a1 a3 + (a2))) - (1))) a0) fun (u0, u1, u2, u3, u4, u5, u6, u7) =>
              T1 n u3 u0 u6 u1 u4 (IntKind.i64.wrap (u5 - u6)) u2 u7)
            (bnd (l_symM_b8 (slf n) n a1 a2 a3 a4 (mi a1 a3) (IntKind.i64.wrap (mi a1 a3 + (a2))) a1 a2 (IntKind.i64.wrap ((IntKind.i64.wrap (mi a1 a3 + (a2))) - (1))) a0) fun (u0, u1, u2, u3, u4, u5, u6, u7) =>
              T1 n u3 u0 u6 u1 u4 (IntKind.i64.wrap (u5 - u6)) u2 u7)))) := rfl
/-- the merge does what it should on what is shorter than D -/
def Smg (N : Nat) (P : List (Int × Int)) (D : Nat) : Prop := ∀ (a m b : Nat) (f : Nat → Nat), b - a < D → a < m → m < b → b ≤ N → (∀ x, x < N → f x < N) → Sd P a m f → Sd P m b f → (∀ p q, a ≤ p → p < m → m ≤ q → q < b → f p < f q) →
 Tot (fun n => s_symM n (row N f) a m b (pcs P)) (fun r => ∃ g, r = row N g ∧ Pm a b f g ∧ Sd P a b g)
theorem Pm.val {a b N : Nat} {f g : Nat → Nat} (h : Pm a b f g) (hb : b ≤ N) (V : ∀ x, x < N → f x < N) : ∀ x, x < N → g x < N := by
  intro x hx
  by_cases hi : a ≤ x ∧ x < b
  · obtain ⟨y, _, hy, e⟩ := h.from hi.1 hi.2
    rw [e]; exact V y (by omega)
  · rw [h.out (by omega)]; exact V x hx
theorem t3_ok {N D mid e b : Nat} {P : List (Int × Int)} {f : Nat → Nat} (IH : Smg N P D) (hD : b - mid < D) (h1 : mid ≤ e) (h2 : e ≤ b) (hb : b ≤ N) (V : ∀ x, x < N → f x < N) (S1 : Sd P mid e f) (S2 : Sd P e b f)
    (X : ∀ p q, mid ≤ p → p < e → e ≤ q → q < b → f p < f q) : Tot (fun n => T3 n (pcs P) mid e b (row N f)) (fun r => ∃ g, r = row N g ∧ Pm mid b f g ∧ Sd P mid b g) := by
  unfold T3
  by_cases c : mid < e
  · refine tot_t (by simp; omega) ?_
    by_cases c2 : e < b
    · refine tot_t (by simp; omega) (tot_bnd (IH mid e b f hD c c2 hb V S1 S2 X) ?_)
      rintro r ⟨g, rfl, g1, g2⟩
      exact tot_chk like_row (tot_some ⟨g, rfl, g1, g2⟩)
    · refine tot_f (by simp; omega) (tot_some ⟨f, rfl, Pm.refl _ _ _, ?_⟩)
      rwa [show e = b by omega] at S1
  · refine tot_f (by simp; omega) (tot_some ⟨f, rfl, Pm.refl _ _ _, ?_⟩)
    rwa [show e = mid by omega] at S2
theorem t2_ok {N D a s mid e b : Nat} {P : List (Int × Int)} {f : Nat → Nat} (IH : Smg N P D) (hD : b - mid < D) (hD2 : mid - a < D) (h0 : a ≤ s) (h01 : s ≤ mid) (h1 : mid ≤ e) (h2 : e ≤ b) (hb : b ≤ N) (V : ∀ x, x < N → f x < N)
    (S3 : Sd P a s f) (S4 : Sd P s mid f) (X2 : ∀ p q, a ≤ p → p < s → s ≤ q → q < mid → f p < f q) (S1 : Sd P mid e f) (S2 : Sd P e b f) (X : ∀ p q, mid ≤ p → p < e → e ≤ q → q < b → f p < f q)
    (C : ∀ p q, a ≤ p → p < mid → mid ≤ q → q < b → kl P (f p) (f q)) :
    Tot (fun n => T2 n (pcs P) a s mid e b (row N f)) (fun r => ∃ g, r = row N g ∧ Pm a b f g ∧ Sd P a b g) := by
  have key : ∀ (g : Nat → Nat), Pm a mid f g → Sd P a mid g → Tot (fun n => T3 n (pcs P) mid e b (row N g)) (fun r => ∃ g, r = row N g ∧ Pm a b f g ∧ Sd P a b g) := by
    intro g g1 g2
    have eo : ∀ x, mid ≤ x → g x = f x := fun x hx => g1.out (.inr hx)
    refine tot_mono (t3_ok IH hD h1 h2 hb (g1.val (by omega) V) (fun p q a1 a2 a3 => ?_) (fun p q a1 a2 a3 => ?_) (fun p q a1 a2 a3 a4 => ?_)) ?_
    · rw [eo p a1, eo q (by omega)]; exact S1 p q a1 a2 a3
    · rw [eo p (by omega), eo q (by omega)]; exact S2 p q a1 a2 a3
    · rw [eo p a1, eo q (by omega)]; exact X p q a1 a2 a3 a4
    · rintro r ⟨k, rfl, k1, k2⟩
      refine ⟨k, rfl, (g1.wide (Nat.le_refl _) (by omega)).trans (k1.wide (by omega) (Nat.le_refl _)), fun p q a1 a2 a3 => ?_⟩
      by_cases hq : q < mid
      · rw [k1.out (i := p) (by omega), k1.out (i := q) (by omega)]
        exact g2 p q a1 a2 hq
      · by_cases hp : mid ≤ p
        · exact k2 p q hp a2 a3
        · rw [k1.out (i := p) (by omega)]
          obtain ⟨p', hp1, hp2, e1⟩ := g1.from a1 (by omega)
          obtain ⟨q', hq1, hq2, e2⟩ := k1.from (i := q) (by omega) a3
          rw [e1, e2, eo q' hq1]
          exact C p' q' hp1 hp2 hq1 hq2
  unfold T2
  by_cases c : a < s
  · refine tot_t (by simp; omega) ?_
    by_cases c2 : s < mid
    · refine tot_t (by simp; omega) (tot_bnd (IH a s mid f hD2 c c2 (by omega) V S3 S4 X2) ?_)
      rintro r ⟨g, rfl, g1, g2⟩
      exact tot_chk like_row (key g g1 g2)
    · refine tot_f (by simp; omega) (key f (Pm.refl _ _ _) ?_)
      rwa [show s = mid by omega] at S3
  · refine tot_f (by simp; omega) (key f (Pm.refl _ _ _) ?_)
    rwa [show s = a by omega] at S4
theorem t1_ok {N D a s m mid e b : Nat} {P : List (Int × Int)} {f : Nat → Nat} (hN : N ≤ 1000) (IH : Smg N P D) (hD : b - mid < D) (hD2 : mid - a < D) (h0 : a ≤ s) (h01 : s ≤ mid) (h1 : mid ≤ e) (h2 : e ≤ b) (hb : b ≤ N) (hsm : s ≤ m) (hme : m ≤ e) (hse : e = mid + m - s) (V : ∀ x, x < N → f x < N)
    (S1 : Sd P a m f) (S2 : Sd P m b f) (X : ∀ p q, a ≤ p → p < m → m ≤ q → q < b → f p < f q)
    (C1 : ∀ p q, a ≤ p → p < s → e ≤ q → q < b → kl P (f p) (f q)) (C2 : ∀ p q, m ≤ p → p < e → s ≤ q → q < m → kl P (f p) (f q)) :
    Tot (fun n => T1 n (pcs P) a s m mid e b (row N f)) (fun r => ∃ g, r = row N g ∧ Pm a b f g ∧ Sd P a b g) := by
  have key : Tot (fun n => T2 n (pcs P) a s mid e b (row N (rot s m e f))) (fun r => ∃ g, r = row N g ∧ Pm a b f g ∧ Sd P a b g) := by
    have p1 : Pm s e f (rot s m e f) := pm_rot f hsm hme
    have r1 : ∀ x, x < s → rot s m e f x = f x := fun x hx => p1.out (.inl hx)
    have r4 : ∀ x, e ≤ x → rot s m e f x = f x := fun x hx => p1.out (.inr hx)
    have r2 : ∀ x, s ≤ x → x < mid → rot s m e f x = f (x + (m - s)) := fun x hx hx2 => by
      simp only [rot]; rw [if_pos (by omega)]
    have r3 : ∀ x, mid ≤ x → x < e → rot s m e f x = f (x - (e - m)) := fun x hx hx2 => by
      simp only [rot]; rw [if_neg (by omega), if_pos (by omega)]
    refine tot_mono (t2_ok IH hD hD2 h0 h01 h1 h2 hb (p1.val (by omega) V) (fun p q a1 a2 a3 => ?_) (fun p q a1 a2 a3 => ?_) (fun p q a1 a2 a3 a4 => ?_) (fun p q a1 a2 a3 => ?_) (fun p q a1 a2 a3 => ?_) (fun p q a1 a2 a3 a4 => ?_) (fun p q a1 a2 a3 a4 => ?_)) ?_
    · rw [r1 p (by omega), r1 q a3]; exact S1 p q a1 a2 (by omega)
    · rw [r2 p a1 (by omega), r2 q (by omega) a3]; exact S2 _ _ (by omega) (by omega) (by omega)
    · rw [r1 p a2, r2 q a3 a4]; exact X _ _ a1 (by omega) (by omega) (by omega)
    · rw [r3 p a1 (by omega), r3 q (by omega) a3]; exact S1 _ _ (by omega) (by omega) (by omega)
    · rw [r4 p a1, r4 q (by omega)]; exact S2 p q (by omega) a2 a3
    · rw [r3 p a1 a2, r4 q a3]; exact X _ _ (by omega) (by omega) (by omega) a4
    · by_cases hp : p < s
      · rw [r1 p hp]
        by_cases hq : q < e
        · rw [r3 q a3 hq]; exact S1 _ _ a1 (by omega) (by omega)
        · rw [r4 q (by omega)]; exact C1 p q a1 hp (by omega) a4
      · rw [r2 p (by omega) a2]
        by_cases hq : q < e
        · rw [r3 q a3 hq]; exact C2 _ _ (by omega) (by omega) (by omega) (by omega)
        · rw [r4 q (by omega)]; exact S2 _ _ (by omega) (by omega) a4
    · rintro r ⟨k, rfl, k1, k2⟩
      exact ⟨k, rfl, (p1.wide h0 h2).trans k1, k2⟩
  unfold T1
  have same : (s = m ∨ m = e) → row N (rot s m e f) = row N f := fun h => row_congr fun x _ => by
    simp only [rot]
    repeat' split
    all_goals first | rfl | (exfalso; omega) | (congr 1; omega)
  by_cases c : s < m
  · refine tot_t (by simp; omega) ?_
    by_cases c2 : m < e
    · exact tot_t (by simp; omega) (tot_ev (rot_ok c c2 (by omega) hN) (tot_chk like_row key))
    · rw [same (.inr (by omega))] at key
      exact tot_f (by simp; omega) key
  · rw [same (.inl (by omega))] at key
    exact tot_f (by simp; omega) key
theorem sm_ok {N : Nat} {P : List (Int × Int)} (hN : N ≤ 1000) (hP : P.length = N) : ∀ D, Smg N P D
  | 0 => fun a m b f h => by omega
  | D + 1 => by
    intro a m b f h h1 h2 h3 V S1 S2 X
    have IH := sm_ok hN hP D
    refine tot_succ ?_
    rw [show (fun n => s_symM (n + 1) (row N f) a m b (pcs P)) = _ from funext fun n => sm_eq n ..]
    rw [ws m a (by omega) (by omega), ws b m (by omega) (by omega)]
    by_cases c1 : m = a + 1
    · subst c1
      refine tot_t (by simp) ?_
      obtain ⟨s, s1, s2, s3, s4, s5⟩ := sb0_ok hN hP V slf (a := a) (m := a + 1) (b := b) (by omega) (by omega) h3
      refine tot_ev s5 ?_
      dsimp only
      rw [show (fun n => bnd (l_symM_b2 (slf n) n s a (row N f)) fun u20_0 => some u20_0) = fun n => bnd (l_symM_b2 (fun _ _ _ _ _ => none) n s a (row N f)) fun u20_0 => some u20_0 from funext fun n => by rw [b2_self (slf n) (fun _ _ _ _ _ => none)]]
      refine tot_ev (shL_ok slf (by omega) hN (s - a - 1) a f (by omega)) (tot_some ⟨_, rfl, (pm_rot f (by omega) (by omega)).wide (Nat.le_refl _) s2, ?_⟩)
      have v : ∀ x, rot a (a + 1) s f x = if a ≤ x ∧ x + 1 < s then f (x + 1) else if x + 1 = s then f a else f x := fun x => by
        simp only [rot]
        repeat' split
        all_goals first | rfl | (exfalso; omega) | (congr 1; omega)
      have k1 : ∀ x, a + 1 ≤ x → x < s → kl P (f x) (f a) := fun x hx hx2 => by
        rcases s3 with s3 | s3
        · omega
        · by_cases e : x = s - 1
          · subst e; exact .inl s3
          · exact kl_trans (S2 x (s - 1) hx (by omega) (by omega)) (.inl s3)
      have k2 : ∀ x, s ≤ x → x < b → kl P (f a) (f x) := fun x hx hx2 => by
        have k0 : kl P (f a) (f s) := by
          rcases s4 with s4 | s4
          · omega
          · have := X a s (Nat.le_refl _) (by omega) s1 (by omega)
            unfold kl; omega
        by_cases e : x = s
        · subst e; exact k0
        · exact kl_trans k0 (S2 s x s1 (by omega) hx2)
      intro p q a1 a2 a3
      rw [v, v]
      by_cases hp : p + 1 < s
      · rw [if_pos ⟨a1, hp⟩]
        by_cases hq : q + 1 < s
        · rw [if_pos ⟨by omega, hq⟩]; exact S2 _ _ (by omega) (by omega) (by omega)
        · rw [if_neg (by omega)]
          by_cases hq2 : q + 1 = s
          · rw [if_pos hq2]; exact k1 _ (by omega) (by omega)
          · rw [if_neg hq2]; exact S2 _ _ (by omega) (by omega) a3
      · rw [if_neg (by omega), if_neg (c := a ≤ q ∧ q + 1 < s) (by omega), if_neg (c := q + 1 = s) (by omega)]
        by_cases hp2 : p + 1 = s
        · rw [if_pos hp2]; exact k2 q (by omega) a3
        · rw [if_neg hp2]; exact S2 p q (by omega) a2 a3
    · refine tot_f (by simp; omega) ?_
      by_cases c2 : b = m + 1
      · subst c2
        refine tot_t (by simp) ?_
        obtain ⟨s, s1, s2, s3, s4, s5⟩ := sb4_ok hN hP V slf (a := a) (m := m) (b := 0) (by omega) (by omega)
        refine tot_ev s5 ?_
        dsimp only
        rw [show (fun n => bnd (l_symM_b6 (slf n) n s m (row N f)) fun u41_0 => some u41_0) = fun n => bnd (l_symM_b6 (fun _ _ _ _ _ => none) n s m (row N f)) fun u41_0 => some u41_0 from funext fun n => by rw [b6_self (slf n) (fun _ _ _ _ _ => none)]]
        refine tot_ev (shR_ok slf hN (m - s) m f (by omega) (by omega)) (tot_some ⟨_, rfl, (pm_rot f (by omega) (by omega)).wide s1 (Nat.le_refl _), ?_⟩)
        have v : ∀ x, rot s m (m + 1) f x = if x = s then f m else if s < x ∧ x ≤ m then f (x - 1) else f x := fun x => by
          simp only [rot]
          repeat' split
          all_goals first | rfl | (exfalso; omega) | (congr 1; omega)
        have k1 : ∀ x, a ≤ x → x < s → kl P (f x) (f m) := fun x hx hx2 => by
          have k0 : kl P (f (s - 1)) (f m) := by
            rcases s3 with s3 | s3
            · omega
            · have := X (s - 1) m (by omega) (by omega) (Nat.le_refl _) (by omega)
              unfold kl; omega
          by_cases e : x = s - 1
          · subst e; exact k0
          · exact kl_trans (S1 x (s - 1) hx (by omega) (by omega)) k0
        have k2 : ∀ x, s ≤ x → x < m → kl P (f m) (f x) := fun x hx hx2 => by
          rcases s4 with s4 | s4
          · omega
          · by_cases e : x = s
            · subst e; exact .inl s4
            · exact kl_trans (.inl s4) (S1 s x s1 (by omega) hx2)
        intro p q a1 a2 a3
        rw [v, v]
        by_cases hp : p < s
        · rw [if_neg (c := p = s) (by omega), if_neg (c := s < p ∧ p ≤ m) (by omega)]
          by_cases hq : q = s
          · rw [if_pos hq]; exact k1 p a1 hp
          · rw [if_neg hq]
            by_cases hq2 : s < q
            · rw [if_pos (by omega)]; exact S1 _ _ a1 (by omega) (by omega)
            · rw [if_neg (by omega)]; exact S1 _ _ a1 a2 (by omega)
        · rw [if_neg (c := q = s) (by omega), if_pos (c := s < q ∧ q ≤ m) (by omega)]
          by_cases hp2 : p = s
          · rw [if_pos hp2]; exact k2 _ (by omega) (by omega)
          · rw [if_neg hp2, if_pos (by omega)]; exact S1 _ _ (by omega) (by omega) (by omega)
      · refine tot_f (by simp; omega) (tot_chk rfl ?_)
        have e0 : mi a b = (((a + b) / 2 : Nat) : Int) := hf a b (by omega)
        rw [e0, wa ((a + b) / 2) m (by omega)]
        rw [show IntKind.i64.wrap ((((a + b) / 2 + m : Nat) : Int) - 1) = (((a + b) / 2 + m - 1 : Nat) : Int) by rw [w64 _ (by omega)]; omega]
        generalize hmid : (a + b) / 2 = mid
        have m1 : a < mid := by omega
        have m2 : mid < b := by omega
        have fin : ∀ s, a ≤ s → s ≤ m → s ≤ mid → mid + m ≤ b + s → (s = a ∨ s = mid + m - b ∨ ¬ wd P (f (s - 1)) < wd P (f (mid + m - s))) → (s = m ∨ s = mid ∨ wd P (f s) < wd P (f (mid + m - 1 - s))) → (s = mid + m - b → ¬ s = a → mid + m - s = b) →
            Tot (fun n => T1 n (pcs P) a s m mid (mid + m - s : Nat) b (row N f)) (fun r => ∃ g, r = row N g ∧ Pm a b f g ∧ Sd P a b g) := by
          intro s t1 t2 t3 t4 t5 t6 t7
          refine t1_ok hN IH (by omega) (by omega) t1 t3 (by omega) (by omega) h3 t2 (by omega) rfl V S1 S2 X (fun p q a1 a2 a3 a4 => ?_) (fun p q a1 a2 a3 a4 => ?_)
          · have k0 : kl P (f (s - 1)) (f (mid + m - s)) := by
              rcases t5 with t5 | t5 | t5
              · omega
              · omega
              · have := X (s - 1) (mid + m - s) (by omega) (by omega) (by omega) (by omega)
                unfold kl; omega
            have k1 : kl P (f p) (f (mid + m - s)) := by
              by_cases e : p = s - 1
              · subst e; exact k0
              · exact kl_trans (S1 p (s - 1) a1 (by omega) (by omega)) k0
            by_cases e : q = mid + m - s
            · subst e; exact k1
            · exact kl_trans k1 (S2 _ q (by omega) (by omega) a4)
          · have k0 : kl P (f (mid + m - 1 - s)) (f s) := by
              rcases t6 with t6 | t6 | t6
              · omega
              · omega
              · exact .inl t6
            have k1 : kl P (f p) (f s) := by
              by_cases e : p = mid + m - 1 - s
              · subst e; exact k0
              · exact kl_trans (S2 p (mid + m - 1 - s) a1 (by omega) (by omega)) k0
            by_cases e : q = s
            · subst e; exact k1
            · exact kl_trans k1 (S1 s q t1 (by omega) a4)
        by_cases c3 : mid < m
        · refine tot_t (by simp; omega) ?_
          rw [show IntKind.i64.wrap (((mid + m : Nat) : Int) - (b : Int)) = ((mid + m - b : Nat) : Int) from ws _ _ (by omega) (by omega)]
          obtain ⟨s, s1, s2, s3, s4, s5⟩ := sb8_ok hN hP V slf (lo := mid + m - b) (hi := mid) (p := mid + m - 1) (x0 := a) (x1 := m) (x2 := b) (x4 := mid) (x5 := (mid + m : Nat)) (by omega) (by omega) (by omega) (by omega)
          refine tot_ev s5 ?_
          dsimp only
          rw [ws (mid + m) s (by omega) (by omega)]
          refine fin s (by omega) (by omega) s2 (by omega) ?_ ?_ (by omega)
          · rcases s3 with s3 | s3
            · exact .inr (.inl s3)
            · by_cases e : s = mid + m - b
              · exact .inr (.inl e)
              · rw [show mid + m - 1 - (s - 1) = mid + m - s by omega] at s3
                exact .inr (.inr s3)
          · rcases s4 with s4 | s4
            · exact .inr (.inl s4)
            · exact .inr (.inr s4)
        · refine tot_f (by simp; omega) ?_
          obtain ⟨s, s1, s2, s3, s4, s5⟩ := sb8_ok hN hP V slf (lo := a) (hi := m) (p := mid + m - 1) (x0 := a) (x1 := m) (x2 := b) (x4 := mid) (x5 := (mid + m : Nat)) (by omega) (by omega) (by omega) (by omega)
          refine tot_ev s5 ?_
          dsimp only
          rw [ws (mid + m) s (by omega) (by omega)]
          refine fin s (by omega) s2 (by omega) (by omega) ?_ ?_ (by omega)
          · rcases s3 with s3 | s3
            · exact .inl s3
            · by_cases e : s = a
              · exact .inl e
              · rw [show mid + m - 1 - (s - 1) = mid + m - s by omega] at s3
                exact .inr (.inr s3)
          · rcases s4 with s4 | s4
            · exact .inl s4
            · exact .inr (.inr s4)
/-- blocks: none, one -/
theorem blk_lo {N : Nat} {P : List (Int × Int)} (h : N < 20) : Ev (fun n => l_stabC_b0 n N (pcs P) 20 0 20 (row N id)) ((N : Int), pcs P, (20 : Int), (0 : Int), row N id) :=
  ev_succ (ev_f (by simp; omega) ev_some)
theorem sorted_one {P : List (Int × Int)} {a : Nat} {f : Nat → Nat} : Sd P a a f := fun p q h1 h2 h3 => by omega
theorem stable_ok {N : Nat} {P : List (Int × Int)} (hN : N ≤ 39) (hP : P.length = N) :
    Tot (fun n => s_stabC n (row N id) N (pcs P)) (fun r => ∃ g, r = row N g ∧ Pm 0 N id g ∧ Sd P 0 N g) := by
  unfold s_stabC
  by_cases h : N < 20
  · refine tot_ev (blk_lo h) ?_
    dsimp only
    refine tot_bnd (ins_ok (N := N) (a := 0) (b := N) (f := id) (Nat.zero_le _) (Nat.le_refl _) (by omega) hP (fun x hx => hx) (fun p q h1 h2 h3 => h2)) ?_
    rintro r ⟨g, rfl, g1, g2⟩
    refine tot_chk like_row (tot_ev (a := row N g) (ev_succ (ev_f (by simp; omega) ev_some)) (tot_some ⟨g, rfl, g1, g2⟩))
  · obtain ⟨r, ⟨g, rfl, g1, g2⟩, hev⟩ := ins_ok (N := N) (a := 0) (b := 20) (P := P) (f := id) (by omega) (by omega) (by omega) hP (fun x hx => hx) (fun p q h1 h2 h3 => h2)
    refine tot_ev (a := ((N : Int), pcs P, (20 : Int), (20 : Int), row N g)) (ev_succ (ev_t (by simp; omega) (ev_bnd hev (ev_chk like_row (ev_succ (ev_f ?_ ev_some)))))) ?_
    · rw [show IntKind.i64.wrap ((20 : Int) + 20) = 40 by decide]
      simp; omega
    dsimp only
    have V1 : ∀ x, x < N → g x < N := g1.val (by omega) fun x hx => hx
    have o1 : ∀ x, 20 ≤ x → g x = x := fun x hx => g1.out (.inr hx)
    refine tot_bnd (ins_ok (N := N) (a := 20) (b := N) (f := g) (by omega) (Nat.le_refl _) (by omega) hP V1 (fun p q h1 h2 h3 => by rw [o1 p h1, o1 q (by omega)]; exact h2)) ?_
    rintro r ⟨k, rfl, k1, k2⟩
    refine tot_chk like_row ?_
    by_cases h2 : N = 20
    · refine tot_ev (a := row N k) (ev_succ (ev_f (by simp; omega) ev_some)) (tot_some ⟨k, rfl, (g1.wide (Nat.le_refl _) (by omega)).trans (k1.wide (by omega) (Nat.le_refl _)), fun p q a1 a2 a3 => ?_⟩)
      rw [k1.out (i := p) (by omega), k1.out (i := q) (by omega)]
      exact g2 p q a1 a2 (by omega)
    · have oo : ∀ x, x < 20 → k x = g x := fun x hx => k1.out (.inl hx)
      refine tot_bnd (Q := fun r => ∃ g, r = row N g ∧ Pm 0 N id g ∧ Sd P 0 N g) (tot_succ (tot_t (by simp; omega) ?_)) (fun r hr => tot_some hr)
      refine tot_ev (a := ((N : Int), pcs P, (20 : Int), (0 : Int), row N k)) (ev_succ (ev_f ?_ ev_some)) ?_
      · rw [show IntKind.i64.wrap ((2 : Int) * 20) = 40 by decide]
        simp; omega
      dsimp only
      rw [show IntKind.i64.wrap ((0 : Int) + 20) = 20 by decide]
      refine tot_t (by simp; omega) (tot_bnd (sm_ok (N := N) (P := P) (by omega) hP (N + 1) 0 20 N k (by omega) (by omega) (by omega) (Nat.le_refl _) (k1.val (Nat.le_refl _) V1) (fun p q a1 a2 a3 => ?_) k2 (fun p q a1 a2 a3 a4 => ?_)) ?_)
      · rw [oo p (by omega), oo q a3]; exact g2 p q a1 a2 a3
      · rw [oo p a2]
        obtain ⟨p', p1, p2, e1⟩ := g1.from a1 a2
        obtain ⟨q', q1, q2, e2⟩ := k1.from a3 a4
        rw [e1, e2, o1 q' q1]
        show p' < q'
        omega
      · rintro r ⟨j, rfl, j1, j2⟩
        refine tot_chk like_row (tot_succ (tot_f ?_ (tot_some ⟨j, rfl, ((g1.wide (Nat.le_refl _) (by omega)).trans (k1.wide (by omega) (Nat.le_refl _))).trans j1, j2⟩)))
        rw [show IntKind.i64.wrap ((20 : Int) * 2) = 40 by decide]
        simp; omega
/-- numbers as a list of values -/
def ints (l : List Nat) : List V := l.map fun (x : Nat) => V.int .i64 (x : Int)
theorem row_ints (N : Nat) (f : Nat → Nat) : row N f = ints ((List.range N).map f) := by simp [row, ints, List.map_map, Function.comp_def]
theorem ints_length (l : List Nat) : (ints l).length = l.length := List.length_map ..
theorem ints_app (l m : List Nat) : ints (l ++ m) = ints l ++ ints m := List.map_append ..
theorem idx_ints {l : List Nat} {i x : Nat} (h : l[i]? = some x) : idx (ints l) (i : Int) = some (V.int .i64 (x : Int)) := by
  rw [idx_nat, ints, List.getElem?_map, h]; rfl
theorem nth_ints {l : List Nat} {i x : Nat} (h : l[i]? = some x) : bnd (nth (ints l) ((i : Int).toNat)) as_i64 = some (x : Int) := by
  rw [Int.toNat_natCast, nth_get, ints, List.getElem?_map, h]; rfl
theorem upTo_ok {N : Nat} (hN : N ≤ 1000) : Ev (fun n => s_impl_upTo n N) (row N id) := by
  unfold s_impl_upTo
  refine ev_bnd (a := row N id) ?_ ev_some
  have := loop_map (l := fun n k acc => l_impl_upTo_b0 n N (k : Nat) acc) (g := fun i => V.int .i64 ((i : Nat) : Int)) (R := id) N
    (fun acc => ev_f (by simp) ev_some) (fun k acc hk hl a ha => ev_t (by simp; omega) (ev_chk (by simp [hl]; omega) (by rw [up64 k (by omega)]; exact ha)))
  simpa [row, List.range_eq_range'] using this
/-- the order: all indices, the wider ones first -/
def isOrd (P : List (Int × Int)) (l : List Nat) : Prop := l.Pairwise (kl P) ∧ ∀ x, x ∈ l ↔ x < P.length
theorem uniq {P : List (Int × Int)} : ∀ (l l' : List Nat), l.Pairwise (kl P) → l'.Pairwise (kl P) → (∀ x, x ∈ l ↔ x ∈ l') → l = l'
  | [], [], _, _, _ => rfl
  | [], y :: l', _, _, h => by have := (h y).2 (by simp); simp at this
  | x :: l, [], _, _, h => by have := (h x).1 (by simp); simp at this
  | x :: l, y :: l', h1, h2, h => by
    rw [List.pairwise_cons] at h1 h2
    have e : x = y := by
      have hx := (h x).1 (by simp)
      have hy := (h y).2 (by simp)
      rw [List.mem_cons] at hx hy
      rcases hx with hx | hx
      · exact hx
      · rcases hy with hy | hy
        · exact hy.symm
        · exact (kl_irr (kl_trans (h1.1 y hy) (h2.1 x hx))).elim
    subst e
    rw [uniq l l' h1.2 h2.2 fun z => ?_]
    constructor
    · intro hz
      have := (h z).1 (List.mem_cons_of_mem _ hz)
      rw [List.mem_cons] at this
      rcases this with e | e
      · subst e; exact (kl_irr (h1.1 z hz)).elim
      · exact e
    · intro hz
      have := (h z).2 (List.mem_cons_of_mem _ hz)
      rw [List.mem_cons] at this
      rcases this with e | e
      · subst e; exact (kl_irr (h2.1 z hz)).elim
      · exact e
theorem ord_uniq {P : List (Int × Int)} {l l' : List Nat} (h : isOrd P l) (h' : isOrd P l') : l = l' := uniq l l' h.1 h'.1 fun x => (h.2 x).trans (h'.2 x).symm
theorem byWidth_ok {P : List (Int × Int)} (hP : P.length ≤ 39) : Tot (fun n => s_impl_byWidth n (pcs P)) (fun r => ∃ l, r = ints l ∧ isOrd P l) := by
  unfold s_impl_byWidth
  rw [show ((pcs P).length : Int) = (P.length : Int) by rw [prs_length]]
  refine tot_ev (upTo_ok (by omega)) ?_
  unfold s_sortS
  rw [row_length]
  refine tot_bnd (Q := fun r => ∃ g, r = row P.length g ∧ Pm 0 P.length id g ∧ Sd P 0 P.length g) (tot_bnd (stable_ok hP rfl) ?_) ?_
  · rintro r ⟨g, rfl, g1⟩
    exact tot_chk like_row (tot_some ⟨g, rfl, g1⟩)
  · rintro r ⟨g, rfl, g1, g2⟩
    refine tot_chk like_row (tot_some ⟨_, row_ints _ _, ?_, fun x => ?_⟩)
    · rw [List.pairwise_map]
      refine List.Pairwise.imp_of_mem ?_ List.pairwise_lt_range
      intro a b ha hb hab
      exact g2 a b (Nat.zero_le _) hab (by simpa using hb)
    · simp only [List.mem_map, List.mem_range]
      constructor
      · rintro ⟨i, hi, rfl⟩
        exact g1.val (Nat.le_refl _) (fun x hx => hx) i hi
      · intro hx
        obtain ⟨i, _, hi, e⟩ := g1.to (Nat.zero_le _) hx
        exact ⟨i, hi, e⟩
end Go.Proofs.Ytbejaalnnnogoaa
