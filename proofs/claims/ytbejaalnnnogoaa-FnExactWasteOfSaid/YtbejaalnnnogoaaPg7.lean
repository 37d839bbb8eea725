/- Sorting by width: the stable sort, and what it gives. -/
import Derived.Test.YtbejaalnnnogoaaPg6
namespace Go.Proofs.Ytbejaalnnnogoaa
open Go
set_option linter.unusedVariables false
set_option linter.unusedSimpArgs false

/-- blocks: none, one -/
theorem blk_lo {N : Nat} {P : List (Int × Int)} (h : N < 20) : Ev (fun n => l_slices_stableCmpFunc_int__byWidth_1_b0 n N (pcs P) 20 0 20 (row N id)) ((N : Int), pcs P, (20 : Int), (0 : Int), row N id) :=
  ev_succ (ev_f (by simp; omega) ev_some)
theorem sorted_one {P : List (Int × Int)} {a : Nat} {f : Nat → Nat} : Sd P a a f := fun p q h1 h2 h3 => by omega
theorem stable_ok {N : Nat} {P : List (Int × Int)} (hN : N ≤ 39) (hP : P.length = N) :
    Tot (fun n => s_slices_stableCmpFunc_int__byWidth_1 n (row N id) N (pcs P)) (fun r => ∃ g, r = row N g ∧ Pm 0 N id g ∧ Sd P 0 N g) := by
  unfold s_slices_stableCmpFunc_int__byWidth_1
  by_cases h : N < 20
  · refine tot_ev (blk_lo h) ?_
    dsimp only
    refine tot_bnd (ins_ok (N := N) (a := 0) (b := N) (f := id) (Nat.zero_le _) (Nat.le_refl _) (by omega) hP (fun x hx => hx) (fun p q h1 h2 h3 => h2)) ?_
    rintro r ⟨g, rfl, g1, g2⟩
    refine tot_chk like_row (tot_ev (a := row N g) (ev_succ (ev_f (by simp; omega) ev_some)) (tot_some ⟨g, rfl, g1, g2⟩))
  · obtain ⟨r, ⟨g, rfl, g1, g2⟩, hev⟩ := ins_ok (N := N) (a := 0) (b := 20) (P := P) (f := id) (by omega) (by omega) (by omega) hP (fun x hx => hx) (fun p q h1 h2 h3 => h2)
    refine tot_ev (a := ((N : Int), pcs P, (20 : Int), (20 : Int), row N g)) (ev_succ (ev_t (by simp; omega) (ev_bnd hev (ev_chk like_row (ev_succ (ev_f ?_ ev_some)))))) ?_
    · rw [show IntKind.i64.wrap ((20 : Int) + 20) = 40 by decide]
      simp; omega
    dsimp only
    have V1 : ∀ x, x < N → g x < N := g1.val (by omega) fun x hx => hx
    have o1 : ∀ x, 20 ≤ x → g x = x := fun x hx => g1.out (.inr hx)
    refine tot_bnd (ins_ok (N := N) (a := 20) (b := N) (f := g) (by omega) (Nat.le_refl _) (by omega) hP V1 (fun p q h1 h2 h3 => by rw [o1 p h1, o1 q (by omega)]; exact h2)) ?_
    rintro r ⟨k, rfl, k1, k2⟩
    refine tot_chk like_row ?_
    by_cases h2 : N = 20
    · refine tot_ev (a := row N k) (ev_succ (ev_f (by simp; omega) ev_some)) (tot_some ⟨k, rfl, (g1.wide (Nat.le_refl _) (by omega)).trans (k1.wide (by omega) (Nat.le_refl _)), fun p q a1 a2 a3 => ?_⟩)
      rw [k1.out (i := p) (by omega), k1.out (i := q) (by omega)]
      exact g2 p q a1 a2 (by omega)
    · have oo : ∀ x, x < 20 → k x = g x := fun x hx => k1.out (.inl hx)
      refine tot_bnd (Q := fun r => ∃ g, r = row N g ∧ Pm 0 N id g ∧ Sd P 0 N g) (tot_succ (tot_t (by simp; omega) ?_)) (fun r hr => tot_some hr)
      refine tot_ev (a := ((N : Int), pcs P, (20 : Int), (0 : Int), row N k)) (ev_succ (ev_f ?_ ev_some)) ?_
      · rw [show IntKind.i64.wrap ((2 : Int) * 20) = 40 by decide]
        simp; omega
      dsimp only
      rw [show IntKind.i64.wrap ((0 : Int) + 20) = 20 by decide]
      refine tot_t (by simp; omega) (tot_bnd (sm_ok (N := N) (P := P) (by omega) hP (N + 1) 0 20 N k (by omega) (by omega) (by omega) (Nat.le_refl _) (k1.val (Nat.le_refl _) V1) (fun p q a1 a2 a3 => ?_) k2 (fun p q a1 a2 a3 a4 => ?_)) ?_)
      · rw [oo p (by omega), oo q a3]; exact g2 p q a1 a2 a3
      · rw [oo p a2]
        obtain ⟨p', p1, p2, e1⟩ := g1.from a1 a2
        obtain ⟨q', q1, q2, e2⟩ := k1.from a3 a4
        rw [e1, e2, o1 q' q1]
        show p' < q'
        omega
      · rintro r ⟨j, rfl, j1, j2⟩
        refine tot_chk like_row (tot_succ (tot_f ?_ (tot_some ⟨j, rfl, ((g1.wide (Nat.le_refl _) (by omega)).trans (k1.wide (by omega) (Nat.le_refl _))).trans j1, j2⟩)))
        rw [show IntKind.i64.wrap ((20 : Int) * 2) = 40 by decide]
        simp; omega
/-- numbers as a list of values -/
def ints (l : List Nat) : List V := l.map fun (x : Nat) => V.int .i64 (x : Int)
theorem row_ints (N : Nat) (f : Nat → Nat) : row N f = ints ((List.range N).map f) := by simp [row, ints, List.map_map, Function.comp_def]
theorem ints_length (l : List Nat) : (ints l).length = l.length := List.length_map ..
theorem ints_app (l m : List Nat) : ints (l ++ m) = ints l ++ ints m := List.map_append ..
theorem idx_ints {l : List Nat} {i x : Nat} (h : l[i]? = some x) : idx (ints l) (i : Int) = some (V.int .i64 (x : Int)) := by
  rw [idx_nat, ints, List.getElem?_map, h]; rfl
theorem nth_ints {l : List Nat} {i x : Nat} (h : l[i]? = some x) : bnd (nth (ints l) ((i : Int).toNat)) as_i64 = some (x : Int) := by
  rw [Int.toNat_natCast, nth_get, ints, List.getElem?_map, h]; rfl
theorem upTo_ok {N : Nat} (hN : N ≤ 1000) : Ev (fun n => s_impl_upTo n N) (row N id) := by
  unfold s_impl_upTo
  refine ev_bnd (a := row N id) ?_ ev_some
  have := loop_map (l := fun n k acc => l_impl_upTo_b0 n N (k : Nat) acc) (g := fun i => V.int .i64 ((i : Nat) : Int)) (R := id) N
    (fun acc => ev_f (by simp) ev_some) (fun k acc hk hl a ha => ev_t (by simp; omega) (ev_chk (by simp [hl]; omega) (by rw [up64 k (by omega)]; exact ha)))
  simpa [row, List.range_eq_range'] using this
/-- the order: all indices, the wider ones first -/
def isOrd (P : List (Int × Int)) (l : List Nat) : Prop := l.Pairwise (kl P) ∧ ∀ x, x ∈ l ↔ x < P.length
theorem uniq {P : List (Int × Int)} : ∀ (l l' : List Nat), l.Pairwise (kl P) → l'.Pairwise (kl P) → (∀ x, x ∈ l ↔ x ∈ l') → l = l'
  | [], [], _, _, _ => rfl
  | [], y :: l', _, _, h => by have := (h y).2 (by simp); simp at this
  | x :: l, [], _, _, h => by have := (h x).1 (by simp); simp at this
  | x :: l, y :: l', h1, h2, h => by
    rw [List.pairwise_cons] at h1 h2
    have e : x = y := by
      have hx := (h x).1 (by simp)
      have hy := (h y).2 (by simp)
      rw [List.mem_cons] at hx hy
      rcases hx with hx | hx
      · exact hx
      · rcases hy with hy | hy
        · exact hy.symm
        · exact (kl_irr (kl_trans (h1.1 y hy) (h2.1 x hx))).elim
    subst e
    rw [uniq l l' h1.2 h2.2 fun z => ?_]
    constructor
    · intro hz
      have := (h z).1 (List.mem_cons_of_mem _ hz)
      rw [List.mem_cons] at this
      rcases this with e | e
      · subst e; exact (kl_irr (h1.1 z hz)).elim
      · exact e
    · intro hz
      have := (h z).2 (List.mem_cons_of_mem _ hz)
      rw [List.mem_cons] at this
      rcases this with e | e
      · subst e; exact (kl_irr (h2.1 z hz)).elim
      · exact e
theorem ord_uniq {P : List (Int × Int)} {l l' : List Nat} (h : isOrd P l) (h' : isOrd P l') : l = l' := uniq l l' h.1 h'.1 fun x => (h.2 x).trans (h'.2 x).symm
theorem byWidth_ok {P : List (Int × Int)} (hP : P.length ≤ 39) : Tot (fun n => s_impl_byWidth n (pcs P)) (fun r => ∃ l, r = ints l ∧ isOrd P l) := by
  unfold s_impl_byWidth
  rw [show ((pcs P).length : Int) = (P.length : Int) by rw [prs_length]]
  refine tot_ev (upTo_ok (by omega)) ?_
  unfold s_slices_SortStableFunc_Sint_int__byWidth_1
  rw [row_length]
  refine tot_bnd (Q := fun r => ∃ g, r = row P.length g ∧ Pm 0 P.length id g ∧ Sd P 0 P.length g) (tot_bnd (stable_ok hP rfl) ?_) ?_
  · rintro r ⟨g, rfl, g1⟩
    exact tot_chk like_row (tot_some ⟨g, rfl, g1⟩)
  · rintro r ⟨g, rfl, g1, g2⟩
    refine tot_chk like_row (tot_some ⟨_, row_ints _ _, ?_, fun x => ?_⟩)
    · rw [List.pairwise_map]
      refine List.Pairwise.imp_of_mem ?_ List.pairwise_lt_range
      intro a b ha hb hab
      exact g2 a b (Nat.zero_le _) hab (by simpa using hb)
    · simp only [List.mem_map, List.mem_range]
      constructor
      · rintro ⟨i, hi, rfl⟩
        exact g1.val (Nat.le_refl _) (fun x hx => hx) i hi
      · intro hx
        obtain ⟨i, _, hi, e⟩ := g1.to (Nat.zero_le _) hx
        exact ⟨i, hi, e⟩
end Go.Proofs.Ytbejaalnnnogoaa
