/- Sorting: ranges of a row swapped and turned. -/
import Derived.Test.YtbejaalnnnogoaaPg0
import Derived.Test.YtbejaalnnnogoaaSh1
namespace Go.Proofs.Ytbejaalnnnogoaa
open Go
set_option linter.unusedVariables false
set_option linter.unusedSimpArgs false

theorem wa (a b : Nat) (h : a + b < 1000000000) : IntKind.i64.wrap ((a : Int) + (b : Int)) = ((a + b : Nat) : Int) := by rw [w64 _ (by omega)]; omega
theorem ws (a b : Nat) (h : a < 1000000000) (h2 : b ≤ a) : IntKind.i64.wrap ((a : Int) - (b : Int)) = ((a - b : Nat) : Int) := by rw [w64 _ (by omega)]; omega
theorem nx {N : Nat} {f : Nat → Nat} {i : Nat} (h : i < N) : bnd (nth (row N f) ((i : Int).toNat)) as_i64 = some ((f i : Nat) : Int) := by
  rw [Int.toNat_natCast, nth_row h]; rfl
theorem inR {N : Nat} {f : Nat → Nat} {i : Nat} (h : i < N) : inB (i : Int) (row N f).length = true := inB_k _ _ (by rw [row_length]; exact h)
theorem sr {N : Nat} {f : Nat → Nat} {i x : Nat} (h : i < N) : setNth (row N f) ((i : Int).toNat) (V.int .i64 (x : Int)) = row N (pt f i x) := by
  rw [Int.toNat_natCast, set_row h]
/-- two ranges are swapped from k on -/
def swp (a b c k : Nat) (f : Nat → Nat) : Nat → Nat := fun i => if a + k ≤ i ∧ i < a + c then f (i + (b - a)) else if b + k ≤ i ∧ i < b + c then f (i - (b - a)) else f i
theorem swapL_ok {N : Nat} {a b c : Nat} (h1 : a + c ≤ b) (h2 : b + c ≤ N) (hN : N ≤ 1000) : ∀ (d k : Nat) (f : Nat → Nat), k + d = c →
    Ev (fun n => l_slices_swapRangeCmpFunc_int__byWidth_1_b0 n a b c k (row N f)) (row N (swp a b c k f))
  | 0, k, f, hk => by
    refine ev_succ (ev_f (by simp; omega) (ev_cast ev_some (row_congr fun i hi => ?_)))
    unfold swp
    rw [if_neg (by omega), if_neg (by omega)]
  | d + 1, k, f, hk => by
    refine ev_succ (ev_t (by simp; omega) ?_)
    rw [wa b k (by omega), wa a k (by omega)]
    refine ev_chk (inR (by omega)) (ev_bnd (ev_of fun n => nx (by omega)) (ev_chk (inR (by omega)) (ev_bnd (ev_of fun n => nx (by omega)) (ev_bnd (ev_of fun n => nx (by omega)) ?_))))
    rw [sr (by omega)]
    refine ev_chk (inR (by omega)) (ev_bnd (ev_of fun n => nx (by omega)) ?_)
    rw [sr (by omega), up64 k (by omega)]
    refine ev_cast (swapL_ok h1 h2 hN d (k + 1) _ (by omega)) (row_congr fun i hi => ?_)
    simp only [swp, pt]
    repeat' split
    all_goals first | rfl | (exfalso; omega) | (congr 1; omega)
theorem swap_ok {N : Nat} {a b c : Nat} {f : Nat → Nat} {P : List V} (h1 : a + c ≤ b) (h2 : b + c ≤ N) (hN : N ≤ 1000) :
    Ev (fun n => s_slices_swapRangeCmpFunc_int__byWidth_1 n (row N f) a b c P) (row N (swp a b c 0 f)) := by
  unfold s_slices_swapRangeCmpFunc_int__byWidth_1
  exact ev_bnd (swapL_ok h1 h2 hN c 0 f (by omega)) ev_some
/-- the range [a,b) turned about m -/
def rot (a m b : Nat) (f : Nat → Nat) : Nat → Nat := fun i => if a ≤ i ∧ i < a + (b - m) then f (i + (m - a)) else if a + (b - m) ≤ i ∧ i < b then f (i - (b - m)) else f i
theorem rotL_ok {N m : Nat} {P : List V} (hN : N ≤ 1000) : ∀ (s i j : Nat) (f : Nat → Nat), i + j ≤ s → 0 < i → 0 < j → i ≤ m → m + j ≤ N →
    ∃ c g, 0 < c ∧ c ≤ m ∧ m + c ≤ N ∧ Ev (fun n => l_slices_rotateCmpFunc_int__byWidth_1_b0 n m P i j (row N f)) ((m : Int), P, (c : Int), row N g) ∧ ∀ x, swp (m - c) m c 0 g x = rot (m - i) m (m + j) f x
  | 0, i, j, f, h, h1, h2, _, _ => by omega
  | s + 1, i, j, f, h, h1, h2, h3, h4 => by
    by_cases e : i = j
    · subst e
      refine ⟨i, f, h1, h3, h4, ev_succ (ev_t (by simp) ev_some), fun x => ?_⟩
      simp only [swp, rot]
      repeat' split
      all_goals first | rfl | (exfalso; omega) | (congr 1; omega)
    · by_cases hlt : j < i
      · obtain ⟨c, g, c1, c2, c3, hev, hx⟩ := rotL_ok (m := m) (P := P) hN s (i - j) j (swp (m - i) m j 0 f) (by omega) (by omega) h2 (by omega) h4
        refine ⟨c, g, c1, c2, c3, ev_succ (ev_f (by simp; omega) (ev_t (by simp; omega) ?_)), fun x => ?_⟩
        · rw [ws m i (by omega) h3, ws i j (by omega) (by omega)]
          exact ev_bnd (swap_ok (by omega) (by omega) hN) (ev_chk like_row hev)
        · rw [hx x]
          simp only [swp, rot]
          repeat' split
          all_goals first | rfl | (exfalso; omega) | (congr 1; omega)
      · obtain ⟨c, g, c1, c2, c3, hev, hx⟩ := rotL_ok (m := m) (P := P) hN s i (j - i) (swp (m - i) (m + j - i) i 0 f) (by omega) h1 (by omega) h3 (by omega)
        refine ⟨c, g, c1, c2, c3, ev_succ (ev_f (by simp; omega) (ev_f (by simp; omega) ?_)), fun x => ?_⟩
        · rw [ws m i (by omega) h3, wa m j (by omega), ws (m + j) i (by omega) (by omega), ws j i (by omega) (by omega)]
          exact ev_bnd (swap_ok (by omega) (by omega) hN) (ev_chk like_row hev)
        · rw [hx x]
          simp only [swp, rot]
          repeat' split
          all_goals first | rfl | (exfalso; omega) | (congr 1; omega)
theorem rot_ok {N a m b : Nat} {f : Nat → Nat} {P : List V} (h1 : a < m) (h2 : m < b) (h3 : b ≤ N) (hN : N ≤ 1000) :
    Ev (fun n => s_slices_rotateCmpFunc_int__byWidth_1 n (row N f) a m b P) (row N (rot a m b f)) := by
  unfold s_slices_rotateCmpFunc_int__byWidth_1
  rw [ws m a (by omega) (by omega), ws b m (by omega) (by omega)]
  obtain ⟨c, g, c1, c2, c3, hev, hx⟩ := rotL_ok (m := m) (P := P) hN _ (m - a) (b - m) f (Nat.le_refl _) (by omega) (by omega) (by omega) (by omega)
  refine ev_bnd hev ?_
  dsimp only
  rw [ws m c (by omega) c2]
  refine ev_bnd (swap_ok (by omega) (by omega) hN) (ev_chk like_row (ev_cast ev_some (row_congr fun x _ => ?_)))
  rw [hx x, show m - (m - a) = a by omega, show m + (b - m) = b by omega]
end Go.Proofs.Ytbejaalnnnogoaa
