/- The least count of tiles of a shape: both sides alike. -/
import Derived.Test.YtbejaalnnnogoaaPg10
namespace Go.Proofs.Ytbejaalnnnogoaa
open Go
set_option linter.unusedVariables false
set_option linter.unusedSimpArgs false

def catQ (Q : Nat → List (Int × Int)) (k : Nat) : List (Int × Int) := (List.range k).flatMap Q
theorem catQ_succ (Q : Nat → List (Int × Int)) (k : Nat) : catQ Q (k + 1) = catQ Q k ++ Q k := by
  simp [catQ, List.range_succ]
theorem catQ_len {Q : Nat → List (Int × Int)} : ∀ {N : Nat}, (∀ k, k < N → (Q k).length ≤ 2) → (catQ Q N).length ≤ 2 * N
  | 0, _ => by simp [catQ]
  | N + 1, h => by
    rw [catQ_succ, List.length_append]
    have := catQ_len (N := N) fun k hk => h k (by omega)
    have := h N (by omega)
    omega
theorem catQ_ok {Q : Nat → List (Int × Int)} {N : Nat} (h : ∀ k, k < N → okP (Q k)) : okP (catQ Q N) := fun p hp => by
  rw [catQ, List.mem_flatMap] at hp
  obtain ⟨k, hk, hp⟩ := hp
  exact h k (by simpa using hk) p hp
/-- numbers given by a function -/
def nums (N : Nat) (g : Nat → Int) : List V := (List.range' 0 N).map fun k => V.int .i64 (g k)
theorem nums_length (N : Nat) (g : Nat → Int) : (nums N g).length = N := by simp [nums]
theorem idx_nums {N : Nat} {g : Nat → Int} {k : Nat} (h : k < N) : bnd (idx (nums N g) (k : Int)) as_i64 = some (g k) := by
  rw [idx_nat, nums]; simp [h, bnd, as_i64]
theorem plain_nums (N : Nat) (g : Nat → Int) : plainV (V.fresh 0 (nums N g)) = true := by
  show allB plainP.plainE (nums N g) = true
  unfold nums
  induction List.range' 0 N with
  | nil => rfl
  | cons p l ih => exact ih
theorem sum_ok {N : Nat} {g : Nat → Int} (hN : N ≤ 1000) (hg : ∀ j, j < N → -1000 ≤ g j ∧ g j ≤ 1000) : Ev (fun n => s_impl_sum_int64 n (nums N g)) (sumR g 0 N) := by
  unfold s_impl_sum_int64
  rw [nums_length]
  refine ev_bnd (a := sumR g 0 N) ?_ ev_some
  refine loop_sum (l := fun n k s => l_impl_sum_int64_b0 n s (nums N g) N (k : Nat)) (R := id) N 1000 (by omega) hg (fun s => ev_f (by simp) ev_some) ?_
  intro k s hk hs hs2 a h
  refine ev_t (by simp; omega) (ev_bnd (ev_of fun n => idx_nums hk) ?_)
  rw [up64 k (by omega), w64 _ (by omega)]
  exact h
theorem sizes_pcs (Q : List (Int × Int)) : sizesOk 2 (pcs Q) = true := by
  induction Q with
  | nil => rfl
  | cons p Q ih => exact ih
theorem grow_ok (n : Nat) (z : Nat) (h : z ≤ 1000) : s_slices_Grow_Simpl_Piece_impl_Piece n (z : Int) = some [] := by
  unfold s_slices_Grow_Simpl_Piece_impl_Piece
  rw [show IntKind.i64.wrap ((0 : Int) - 0) = 0 by decide, w64 ((z : Int) - 0) (by omega)]
  have e1 : decide ((z : Int) < 0) = false := by simp
  rw [e1, cnd_f]
  cases c : decide ((0 : Int) < (z : Int) - 0) with
  | false => rfl
  | true =>
    rw [cnd_t, show decide (0 = 0) = true from rfl, chk_t]
    have e2 : decide (((z : Int) - 0).toNat * 2 ≤ 140737488355328) = true := by simp; omega
    rw [e2]
    simp [chk]
theorem all_ok {mode : Int} {s : List (Int × Int)} {W : Nat → Int} {Q : Nat → List (Int × Int)} (hs : s.length ≤ 12) (hW : ∀ k, k < s.length → 0 ≤ W k ∧ W k ≤ 100) (hQ : ∀ k, k < s.length → (Q k).length ≤ 2) (he : ∀ k, k < s.length → Ev (fun n => s_spec_l05Course n mode (spn s) k) (W k, pcs (Q k))) : Ev (fun n => s_spec_l05All n mode (spn s)) (pcs (catQ Q s.length)) := by
  unfold s_spec_l05All
  refine ev_bnd (a := pcs (catQ Q s.length)) ?_ ev_some
  have key : ∀ (d k : Nat), k + d = s.length → Ev (fun n => l_spec_l05All_b0 n mode (spn s) k (pcs (catQ Q k))) (pcs (catQ Q s.length)) := by
    intro d
    induction d with
    | zero =>
      intro k hk
      obtain rfl : k = s.length := by omega
      exact ev_succ (ev_f (by simp [prs_length]) ev_some)
    | succ d ih =>
      intro k hk
      refine ev_succ (ev_t (by simp [prs_length]; omega) (ev_bnd (he k (by omega)) ?_))
      dsimp only
      have l1 := catQ_len (Q := Q) (N := k) fun j hj => hQ j (by omega)
      have l2 := hQ k (by omega)
      refine ev_chk (by simp only [prs_length]; simp; omega) ?_
      rw [up64 k (by omega), show pcs (catQ Q k) ++ pcs (Q k) = pcs (catQ Q (k + 1)) by rw [catQ_succ]; exact (prs_app ..).symm]
      exact ih (k + 1) (by omega)
  exact key s.length 0 (by omega)
theorem pieces_ok {mode : Int} {s : List (Int × Int)} {W : Nat → Int} {Q : Nat → List (Int × Int)} (hs : s.length ≤ 12) (hW : ∀ k, k < s.length → 0 ≤ W k ∧ W k ≤ 100) (hQ : ∀ k, k < s.length → (Q k).length ≤ 2) (he : ∀ k, k < s.length → Ev (fun n => s_impl_Shape_laid n mode (spn s) k) (W k, pcs (Q k))) : Ev (fun n => s_impl_Shape_pieces n mode (spn s)) (pcs (catQ Q s.length)) := by
  unfold s_impl_Shape_pieces
  rw [prs_length]
  refine ev_bnd (upTo_ok (by omega)) (ev_bnd (a := (List.range' 0 s.length).map fun k => V.sl (pcs (Q k))) ?_ ?_)
  · unfold s_impl_each_int_Simpl_Piece__Shape_pieces_1
    rw [row_length]
    refine ev_bnd ?_ ev_some
    refine loop_map (l := fun n k acc => l_impl_each_int_Simpl_Piece__Shape_pieces_1_b0 n mode (spn s) (row s.length id) s.length (k : Nat) acc) (R := id) s.length (fun acc => ev_f (by simp) ev_some) ?_
    intro k acc hk hl a h
    refine ev_t (by simp; omega) (ev_bnd (a := (k : Int)) (ev_of fun n => by rw [idx_row hk]; rfl) (ev_bnd (a := pcs (Q k)) ?_ (ev_chk (by simp [hl]; omega) (by rw [up64 k (by omega)]; exact h))))
    unfold s_impl_Shape_pieces_1
    exact ev_bnd (he k hk) ev_some
  · refine ev_bnd (a := pcs (catQ Q s.length)) ?_ (ev_chk (plain_prs ..) ev_some)
    have ll : ((List.range' 0 s.length).map fun k => V.sl (pcs (Q k))).length = s.length := by simp
    have gx : ∀ k, k < s.length → bnd (idx ((List.range' 0 s.length).map fun k => V.sl (pcs (Q k))) (k : Int)) as_LPi8_i8Q = some (pcs (Q k)) := fun k hk => by
      rw [idx_nat]; simp [hk, bnd, as_LPi8_i8Q]
    generalize (List.range' 0 s.length).map (fun k => V.sl (pcs (Q k))) = xs at ll gx
    unfold s_slices_Concat_Simpl_Piece_impl_Piece
    rw [ll]
    have k1 : ∀ (d k : Nat), k + d = s.length → Ev (fun n => l_slices_Concat_Simpl_Piece_impl_Piece_b0 n xs ((catQ Q k).length : Nat) xs s.length k) (xs, (((catQ Q s.length).length : Nat) : Int)) := by
      intro d
      induction d with
      | zero =>
        intro k hk
        obtain rfl : k = s.length := by omega
        exact ev_succ (ev_f (by simp) ev_some)
      | succ d ih =>
        intro k hk
        have l1 := catQ_len (Q := Q) (N := k) fun j hj => hQ j (by omega)
        have l2 := hQ k (by omega)
        refine ev_succ (ev_t (by simp; omega) (ev_bnd (ev_of fun n => gx k (by omega)) ?_))
        rw [prs_length, wa _ _ (by omega), up64 k (by omega), show (catQ Q k).length + (Q k).length = (catQ Q (k + 1)).length by rw [catQ_succ, List.length_append]]
        exact ev_f (by simp) (ih (k + 1) (by omega))
    have k2 : ∀ (d k : Nat), k + d = s.length → Ev (fun n => l_slices_Concat_Simpl_Piece_impl_Piece_b2 n xs s.length k (pcs (catQ Q k))) (pcs (catQ Q s.length)) := by
      intro d
      induction d with
      | zero =>
        intro k hk
        obtain rfl : k = s.length := by omega
        exact ev_succ (ev_f (by simp) ev_some)
      | succ d ih =>
        intro k hk
        have l1 := catQ_len (Q := Q) (N := k) fun j hj => hQ j (by omega)
        have l2 := hQ k (by omega)
        refine ev_succ (ev_t (by simp; omega) (ev_bnd (ev_of fun n => gx k (by omega)) ?_))
        refine ev_chk (by simp only [prs_length]; simp; omega) (ev_chk (sizes_pcs _) ?_)
        rw [up64 k (by omega), show pcs (catQ Q k) ++ pcs (Q k) = pcs (catQ Q (k + 1)) by rw [catQ_succ]; exact (prs_app ..).symm]
        exact ih (k + 1) (by omega)
    have l3 := catQ_len (Q := Q) (N := s.length) hQ
    refine ev_bnd (k1 s.length 0 (by omega)) ?_
    dsimp only
    refine ev_bnd (ev_of fun n => grow_ok n _ (by omega)) (ev_chk rfl ?_)
    rw [ll]
    exact ev_bnd (k2 s.length 0 (by omega)) ev_some
theorem whole_ok {mode : Int} {s : List (Int × Int)} {W : Nat → Int} {Q : Nat → List (Int × Int)} (hs : s.length ≤ 12) (hW : ∀ k, k < s.length → 0 ≤ W k ∧ W k ≤ 100) (hQ : ∀ k, k < s.length → (Q k).length ≤ 2) (he : ∀ k, k < s.length → Ev (fun n => s_impl_Shape_laid n mode (spn s) k) (W k, pcs (Q k))) : Ev (fun n => s_impl_Shape_whole n mode (spn s)) (sumR W 0 s.length) := by
  unfold s_impl_Shape_whole
  rw [prs_length]
  refine ev_bnd (upTo_ok (by omega)) (ev_bnd (a := nums s.length W) ?_ (ev_chk (plain_nums _ _) (ev_bnd (sum_ok (by omega) fun j hj => by have := hW j hj; omega) ev_some)))
  unfold s_impl_each_int_int64__Shape_whole_1
  rw [row_length]
  refine ev_bnd ?_ ev_some
  refine loop_map (l := fun n k acc => l_impl_each_int_int64__Shape_whole_1_b0 n mode (spn s) (row s.length id) s.length (k : Nat) acc) (R := id) s.length (fun acc => ev_f (by simp) ev_some) ?_
  intro k acc hk hl a h
  refine ev_t (by simp; omega) (ev_bnd (a := (k : Int)) (ev_of fun n => by rw [idx_row hk]; rfl) (ev_bnd (a := W k) ?_ (ev_chk (by simp [hl]; omega) (by rw [up64 k (by omega)]; exact h))))
  unfold s_impl_Shape_whole_1
  exact ev_bnd (he k hk) ev_some
theorem leastL_ok {mode : Int} {s : List (Int × Int)} {W : Nat → Int} {Q : Nat → List (Int × Int)} (hs : s.length ≤ 12) (hW : ∀ k, k < s.length → 0 ≤ W k ∧ W k ≤ 100) (hQ : ∀ k, k < s.length → (Q k).length ≤ 2) {t : Nat} (ht : t ≤ 1000) (he : ∀ k, k < s.length → Ev (fun n => s_spec_l05Course n mode (spn s) k) (W k, pcs (Q k))) : ∀ (d k : Nat), k + d = s.length → Ev (fun n => l_spec_l05Least_b0 n mode (spn s) ((t : Int) + sumR W 0 k) k) ((t : Int) + sumR W 0 s.length)
  | 0, k, hk => by
    obtain rfl : k = s.length := by omega
    exact ev_succ (ev_f (by simp [prs_length]) ev_some)
  | d + 1, k, hk => by
    refine ev_succ (ev_t (by simp [prs_length]; omega) (ev_bnd (he k (by omega)) ?_))
    dsimp only
    have b1 := sumR_nn (g := W) (B := 100) (N := k) fun j hj => hW j (by omega)
    have b2 := hW k (by omega)
    rw [up64 k (by omega), w64 _ (by omega), show (t : Int) + sumR W 0 k + W k = (t : Int) + sumR W 0 (k + 1) by rw [sumR_succ]; omega]
    exact leastL_ok hs hW hQ ht he d (k + 1) (by omega)
theorem least_ok {mode : Int} {s : List (Int × Int)} (h : okS mode s) : ∃ L : Int, 0 ≤ L ∧ L ≤ 10000 ∧ Ev (fun n => s_spec_l05Least n mode (spn s)) L ∧ Ev (fun n => s_impl_Shape_least n mode (spn s)) L := by
  have H : ∀ k : Nat, ∃ x : Int × List (Int × Int), k < s.length → 0 ≤ x.1 ∧ x.1 ≤ 100 ∧ x.2.length ≤ 2 ∧ okP x.2 ∧ Ev (fun n => s_spec_l05Course n mode (spn s) k) (x.1, pcs x.2) ∧ Ev (fun n => s_impl_Shape_laid n mode (spn s) k) (x.1, pcs x.2) := by
    intro k
    by_cases hk : k < s.length
    · obtain ⟨w, Q, hh⟩ := course_ok h hk
      exact ⟨(w, Q), fun _ => hh⟩
    · exact ⟨(0, []), fun hk' => absurd hk' hk⟩
  obtain ⟨F, hF⟩ := Classical.axiomOfChoice H
  obtain ⟨m0, m1, l1, l2, hs⟩ := h
  have hQ : ∀ k, k < s.length → ((fun k => (F k).2) k).length ≤ 2 := fun k hk => (hF k hk).2.2.1
  have hW : ∀ k, k < s.length → 0 ≤ (fun k => (F k).1) k ∧ (fun k => (F k).1) k ≤ 100 := fun k hk => ⟨(hF k hk).1, (hF k hk).2.1⟩
  have l3 := catQ_len hQ
  have okA := catQ_ok (N := s.length) (Q := fun k => (F k).2) fun k hk => (hF k hk).2.2.2.1
  obtain ⟨t, t1, t2, t3⟩ := tiles_ok (P := catQ (fun k => (F k).2) s.length) (by omega) fun x hx => okA _ (pr_mem hx)
  have b1 := sumR_nn (B := 100) hW
  refine ⟨(t : Int) + sumR (fun k => (F k).1) 0 s.length, by omega, by omega, ?_, ?_⟩
  · unfold s_spec_l05Least
    refine ev_bnd (all_ok (by omega) hW hQ fun k hk => (hF k hk).2.2.2.2.1) (ev_bnd t2 ?_)
    have := leastL_ok (t := t) (by omega) hW hQ (by omega) (fun k hk => (hF k hk).2.2.2.2.1) s.length 0 (by omega)
    rw [sumR_zero, Int.add_zero] at this
    exact ev_bnd this ev_some
  · unfold s_impl_Shape_least
    refine ev_bnd (whole_ok (by omega) hW hQ fun k hk => (hF k hk).2.2.2.2.2) (ev_bnd (pieces_ok (by omega) hW hQ fun k hk => (hF k hk).2.2.2.2.2) (ev_bnd t3 (ev_cast ev_some ?_)))
    rw [w64 _ (by omega)]
    omega
end Go.Proofs.Ytbejaalnnnogoaa
