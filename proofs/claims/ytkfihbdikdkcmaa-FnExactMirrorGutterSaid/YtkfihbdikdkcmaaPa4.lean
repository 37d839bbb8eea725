/- Sums of drips, by course and by cell. -/
import Derived.Test.YtkfihbdikdkcmaaPa3
namespace Go.Proofs.Ytkfihbdikdkcmaa
open Go
set_option linter.unusedVariables false
set_option linter.unusedSimpArgs false

theorem plain_ints (k : IntKind) : ∀ (l : List Int), allB plainP.plainE (ints k l) = true
  | [] => rfl
  | x :: l => by simp only [ints, List.map_cons, allB, plainP.plainE, plainO]; exact plain_ints k l
theorem plain_fresh (e : Nat) (k : IntKind) (l : List Int) : plainV (V.fresh e (ints k l)) = true := plain_ints k l
theorem plain_three (e : Nat) (f c : Nat → Int) (k k1 k2 : IntKind) (n m : Nat) (l : List Int) : plainV (V.tup [V.ints k1 n f, V.ints k2 m c, V.fresh e (ints k l)]) = true := by
  have h := plain_ints k l
  simp only [plainV, allB, plainQ, plainP, plainO]
  rw [h]
theorem sum32_ok (l : List Int) (h : ∀ x, x ∈ l → -2147483648 ≤ x ∧ x ≤ 2147483647) (hl : l.length ≤ 1000000) : Ev (fun n => s_impl_sum_int32 n (ints .i32 l)) l.sum := by
  unfold s_impl_sum_int32
  rw [ints_length]
  have ha := fun k hk => take_abs 2147483648 (by omega) l (fun x hx => by have := h x hx; omega) k hk
  obtain ⟨r, hr, h1⟩ := loop_up (l := fun n k (s : Int) => l_impl_sum_int32_b0 n s (ints .i32 l) l.length k) (I := fun k s => s = (l.take k).sum) (P := fun r => r = l.sum) l.length (by
    intro k s hk hs ih
    by_cases hlt : k < l.length
    · refine tot_t (by simp; omega) (tot_ev (a := l[k]) (ev_of fun n => by rw [idx_ints _ _ _ hlt]; rfl) ?_)
      have h1 := h l[k] (List.getElem_mem hlt)
      have h2 := ha k (by omega)
      rw [w64 l[k] (by omega), w64 _ (by omega), up64 k (by omega)]
      exact ih hlt _ (by rw [sum_take_succ l k hlt, hs])
    · obtain rfl : k = l.length := by omega
      refine tot_f (by simp) (tot_some ?_)
      rw [hs, List.take_length]) 0 0 (by omega) (by simp)
  subst hr
  exact ev_bnd h1 ev_some
theorem sum64_ok (l : List Int) (h : ∀ x, x ∈ l → -1000000000 ≤ x ∧ x ≤ 1000000000) (hl : l.length ≤ 1000000) : Ev (fun n => s_impl_sum_int64 n (ints .i64 l)) l.sum := by
  unfold s_impl_sum_int64
  rw [ints_length]
  have ha := fun k hk => take_abs 1000000000 (by omega) l (fun x hx => by have := h x hx; omega) k hk
  obtain ⟨r, hr, h1⟩ := loop_up (l := fun n k (s : Int) => l_impl_sum_int64_b0 n s (ints .i64 l) l.length k) (I := fun k s => s = (l.take k).sum) (P := fun r => r = l.sum) l.length (by
    intro k s hk hs ih
    by_cases hlt : k < l.length
    · refine tot_t (by simp; omega) (tot_ev (a := l[k]) (ev_of fun n => by rw [idx_ints _ _ _ hlt]; rfl) ?_)
      have h1 := h l[k] (List.getElem_mem hlt)
      have h2 := ha k (by omega)
      rw [w64 _ (by omega), up64 k (by omega)]
      exact ih hlt _ (by rw [sum_take_succ l k hlt, hs])
    · obtain rfl : k = l.length := by omega
      refine tot_f (by simp) (tot_some ?_)
      rw [hs, List.take_length]) 0 0 (by omega) (by simp)
  subst hr
  exact ev_bnd h1 ev_some

/-- drips that are not too great -/
def DripB (D : Nat → Int) : Prop := ∀ j, j < 136 → 0 ≤ D j ∧ D j ≤ 1000
theorem dripsOf_b {w h s : Int} {t r : Nat → Int} (R : RainB r) : DripB (dripsOf w h s t r) := by
  intro j hj
  unfold dripsOf
  split
  · have := dr_b (w := w) (s := s) (t := t) R (x := j % 17) (by omega) (j / 17); omega
  · omega
def rowSum (D : Nat → Int) (i : Nat) : Int := sumR (fun x => D (i * 17 + x)) 0 17
def colSum (D : Nat → Int) (x : Nat) : Int := sumR (fun i => D (i * 17 + x)) 0 8
def allSum (D : Nat → Int) : Int := sumR (rowSum D) 0 8
theorem rowSum_b {D : Nat → Int} (hD : DripB D) {i : Nat} (hi : i < 8) : 0 ≤ rowSum D i ∧ rowSum D i ≤ 17000 := by
  have := sumR_nn (g := fun x => D (i * 17 + x)) (B := 1000) (N := 17) fun j hj => hD _ (by omega)
  unfold rowSum; omega
theorem colSum_b {D : Nat → Int} (hD : DripB D) {x : Nat} (hx : x < 17) : 0 ≤ colSum D x ∧ colSum D x ≤ 8000 := by
  have := sumR_nn (g := fun i => D (i * 17 + x)) (B := 1000) (N := 8) fun j hj => hD _ (by omega)
  unfold colSum; omega
theorem at_cell (i x : Nat) : 0 + (i : Int).toNat * 17 + (x : Int).toNat * 1 = i * 17 + x := by simp
theorem allSum_b {D : Nat → Int} (hD : DripB D) : 0 ≤ allSum D ∧ allSum D ≤ 136000 := by
  have := sumR_nn (g := rowSum D) (B := 17000) (N := 8) fun j hj => rowSum_b hD hj
  unfold allSum; omega

/-! ### the reference's sums -/
theorem l02Sum_b2 {D : Nat → Int} (hD : DripB D) (i : Nat) (hi : i < 8) (s0 : Int) (hs : -1000000 ≤ s0 ∧ s0 ≤ 1000000) : Ev (fun n => l_spec_l02Sum_b2 n s0 i 0 D) (s0 + rowSum D i, (i : Int), D) := by
  have h := loop_sum (l := fun n k q => l_spec_l02Sum_b2 n (s0 + q) i (k : Nat) D) (g := fun x => D (i * 17 + x)) (R := fun q => (s0 + q, (i : Int), D)) 17 1000 (by omega) (fun j hj => by have := hD (i * 17 + j) (by omega); omega)
    (fun q => ev_f (by simp) ev_some) (by
    intro k q hk h1 h2 a ih
    have := hD (i * 17 + k) (by omega)
    refine ev_t (by simp; omega) (ev_chk (inB_k _ _ hi) (ev_chk (inB_k _ _ hk) ?_))
    rw [at_cell, w64 (D _) (by omega), w64 _ (by omega), up64 k (by omega), Int.add_assoc]
    exact ih)
  simpa [rowSum] using h
theorem l02Sum_ok {w h s : Int} {t r : Nat → Int} (H : RoofV w h s t) (R : RainB r) : Ev (fun n => s_spec_l02Sum n w h s t r) (allSum (dripsOf w h s t r)) := by
  unfold s_spec_l02Sum
  have hD := dripsOf_b (w := w) (h := h) (s := s) (t := t) R
  generalize hDD : dripsOf w h s t r = D at hD
  refine ev_bnd (l02Run_ok H R) (ev_bnd (a := allSum D) ?_ ev_some)
  rw [hDD]
  refine loop_sum (l := fun n k q => l_spec_l02Sum_b0 n q (k : Nat) D) (g := rowSum D) (R := fun q => q) 8 17000 (by omega) (fun j hj => by have := rowSum_b hD hj; omega) (fun q => ev_f (by simp) ev_some) ?_
  intro k q hk h1 h2 a ih
  refine ev_t (by simp; omega) (ev_bnd (l02Sum_b2 hD k hk q (by omega)) ?_)
  dsimp only
  rw [up64 k (by omega)]
  exact ih
theorem CourseDrips_b2 {D : Nat → Int} (hD : DripB D) (i : Nat) (hi : i < 8) (b c d : Int) (t z : Nat → Int) (g : List V) : Ev (fun n => l_spec_CourseDrips_b2 n i 0 0 b c d t D g) ((i : Int), rowSum D i, b, c, d, t, D, g) := by
  have h := loop_sum (l := fun n k q => l_spec_CourseDrips_b2 n i q (k : Nat) b c d t D g) (g := fun x => D (i * 17 + x)) (R := fun q => ((i : Int), q, b, c, d, t, D, g)) 17 1000 (by omega) (fun j hj => by have := hD (i * 17 + j) (by omega); omega)
    (fun q => ev_f (by simp) ev_some) (by
    intro k q hk h1 h2 a ih
    have := hD (i * 17 + k) (by omega)
    refine ev_t (by simp; omega) (ev_chk (inB_k _ _ hi) (ev_chk (inB_k _ _ hk) ?_))
    rw [at_cell, w64 (D _) (by omega), w64 _ (by omega), up64 k (by omega)]
    exact ih)
  exact h
theorem Across_b2 {D : Nat → Int} (hD : DripB D) (x : Nat) (hx : x < 17) (b c d : Int) (t : Nat → Int) (g : List V) : Ev (fun n => l_spec_l02Across_b2 n b c d t x 0 0 D g) (b, c, d, t, (x : Int), colSum D x, D, g) := by
  have h := loop_sum (l := fun n k q => l_spec_l02Across_b2 n b c d t x q (k : Nat) D g) (g := fun i => D (i * 17 + x)) (R := fun q => (b, c, d, t, (x : Int), q, D, g)) 8 1000 (by omega) (fun j hj => by have := hD (j * 17 + x) (by omega); omega)
    (fun q => ev_f (by simp) ev_some) (by
    intro k q hk h1 h2 a ih
    have := hD (k * 17 + x) (by omega)
    refine ev_t (by simp; omega) (ev_chk (inB_k _ _ hk) (ev_chk (inB_k _ _ hx) ?_))
    rw [at_cell, w64 (D _) (by omega), w64 _ (by omega), up64 k (by omega)]
    exact ih)
  exact h
/-- the sums of the courses; of the cells -/
def rowsOf' (D : Nat → Int) (n : Nat) : List Int := (List.range' 0 n).map (rowSum D)
def colsOf (D : Nat → Int) (n : Nat) : List Int := (List.range' 0 n).map (colSum D)
theorem ints_map (k : IntKind) (f : Nat → Int) (l : List Nat) : ints k (l.map f) = l.map fun x => V.int k (f x) := by unfold ints; rw [List.map_map]; rfl
theorem Across_ok {w h s : Int} {t r : Nat → Int} (H : RoofV w h s t) (R : RainB r) : Ev (fun n => s_spec_l02Across n w h s t r) (ints .i64 (colsOf (dripsOf w h s t r) (2 * w + 1).toNat)) := by
  have hb := H.b
  unfold s_spec_l02Across colsOf
  have hD := dripsOf_b (w := w) (h := h) (s := s) (t := t) R
  generalize hDD : dripsOf w h s t r = D at hD
  obtain ⟨N, hN⟩ : ∃ N : Nat, 2 * w + 1 = (N : Int) := ⟨(2 * w + 1).toNat, by omega⟩
  rw [show (2 * w + 1).toNat = N by omega]
  refine ev_bnd (l02Run_ok H R) ?_
  rw [hDD]
  refine ev_bnd (a := ints .i64 ((List.range' 0 N).map (colSum D))) ?_ ev_some
  rw [ints_map]
  refine loop_map (l := fun n k g => l_spec_l02Across_b0 n w h s t (k : Nat) D g) (R := fun g => g) N (fun acc => ?_) (fun k acc hk hl a ih => ?_)
  · refine ev_bnd (ev_of fun n => l01Cells_eq n H.toRoofT) ?_
    exact ev_f (by simp; omega) ev_some
  · refine ev_bnd (ev_of fun n => l01Cells_eq n H.toRoofT) ?_
    refine ev_t (by simp; omega) (ev_bnd (Across_b2 hD k (by omega) _ _ _ _ _) (ev_chk (by simp; omega) ?_))
    rw [up64 k (by omega)]
    exact ih

/-! ### the program's sums -/
theorem elems17 (D : Nat → Int) (n : Nat) : elems D .i32 0 17 n = (List.range' 0 n).map fun i => V.ints .i32 17 fun j => D (0 + i * 17 + j) := by
  show ((List.range n).map fun i => V.ints .i32 17 fun j => D (0 + i * 17 + j)) = _
  rw [List.range_eq_range']
theorem idx_rows (D : Nat → Int) (n k : Nat) (h : k < n) : idx (elems D .i32 0 17 n) (k : Int) = some (V.ints .i32 17 fun j => D (0 + k * 17 + j)) := by
  rw [idx_nat, elems17, List.getElem?_map, List.getElem?_range' (by omega)]; simp
theorem courses_1_ok {c : Nat → Int} (hc : ∀ j, j < 17 → 0 ≤ c j ∧ c j ≤ 1000) : Ev (fun n => s_impl_Roof_courses_1 n c) (sumR c 0 17) := by
  unfold s_impl_Roof_courses_1
  refine ev_bnd (a := sumR c 0 17) ?_ ev_some
  rw [elems1]
  simp only [Nat.zero_add]
  refine sum32_ok _ ?_ (by simp)
  intro x hx
  obtain ⟨j, hj, rfl⟩ := List.mem_map.1 hx
  have := hc j (by simp at hj; omega)
  omega
theorem courses_ok {w h s : Int} {t D : Nat → Int} (H : RoofV w h s t) (hD : DripB D) : Ev (fun n => s_impl_Roof_courses n w h s t D) (ints .i64 (rowsOf' D h.toNat)) := by
  have hb := H.b
  unfold s_impl_Roof_courses
  refine ev_chk (by simp; omega) (ev_bnd (a := ints .i64 (rowsOf' D h.toNat)) ?_ (ev_chk (plain_fresh _ _ _) ev_some))
  unfold s_impl_each_A17int32_int64__Roof_courses_1
  refine ev_bnd (a := ints .i64 (rowsOf' D h.toNat)) ?_ ev_some
  have hl : (elems D .i32 0 17 h.toNat).length = h.toNat := by rw [elems17]; simp
  rw [hl]
  unfold rowsOf'
  rw [ints_map]
  refine loop_map (l := fun n k g => l_impl_each_A17int32_int64__Roof_courses_1_b0 n (elems D .i32 0 17 h.toNat) h.toNat (k : Nat) g) (R := fun g => g) h.toNat (fun acc => ev_f (by simp) ev_some) (fun k acc hk hl a ih => ?_)
  refine ev_t (by simp; omega) (ev_bnd (a := fun j => D (0 + k * 17 + j)) (ev_of fun n => by rw [idx_rows _ _ _ hk]; rfl) (ev_bnd (a := rowSum D k) ?_ (ev_chk (by simp; omega) ?_)))
  · have := courses_1_ok (c := fun j => D (0 + k * 17 + j)) (fun j hj => hD _ (by omega))
    simpa [rowSum] using this
  · rw [up64 k (by omega)]
    exact ih
theorem dripSum_ok {w h s : Int} {t r : Nat → Int} (H : RoofV w h s t) (R : RainB r) : Ev (fun n => s_impl_Roof_dripSum n w h s t r) (allSum (dripsOf w h s t r)) := by
  have hb := H.b
  unfold s_impl_Roof_dripSum
  have hD := dripsOf_b (w := w) (h := h) (s := s) (t := t) R
  obtain ⟨ks, vs, _, hrun⟩ := run_ok H R
  refine ev_bnd hrun (ev_bnd (courses_ok H hD) (ev_bnd (sum64_ok _ ?_ ?_) (ev_cast ev_some ?_)))
  · intro x hx
    obtain ⟨j, hj, rfl⟩ := List.mem_map.1 hx
    have := rowSum_b hD (i := j) (by simp at hj; omega)
    omega
  · simp [rowsOf']; omega
  · show sumR (rowSum _) 0 h.toNat = sumR (rowSum _) 0 8
    rw [show 8 = h.toNat + (8 - h.toNat) by omega]
    refine (sumR_more _ _ fun i h1 h2 => ?_).symm
    have : rowSum (dripsOf w h s t r) i = sumR (fun _ => 0) 0 17 := sumR_congr fun j hj => by
      unfold dripsOf
      rw [if_neg (by omega)]
    rw [this]; rfl
theorem upTo_ok (N : Nat) (hN : N ≤ 1000) : Ev (fun n => s_impl_upTo n (N : Int)) (ints .i64 ((List.range' 0 N).map fun (i : Nat) => (i : Int))) := by
  unfold s_impl_upTo
  refine ev_bnd (a := ints .i64 ((List.range' 0 N).map fun (i : Nat) => (i : Int))) ?_ ev_some
  rw [ints_map]
  refine loop_map (l := fun n k g => l_impl_upTo_b0 n (N : Nat) (k : Nat) g) (R := fun g => g) N (fun acc => ev_f (by simp) ev_some) (fun k acc hk hl a ih => ?_)
  refine ev_t (by simp; omega) (ev_chk (by simp; omega) ?_)
  rw [up64 k (by omega)]
  exact ih
theorem columns_1_ok {D : Nat → Int} (hD : DripB D) (x : Nat) (hx : x < 17) : Ev (fun n => s_impl_Roof_columns_1 n x D) (colSum D x) := by
  unfold s_impl_Roof_columns_1
  refine ev_bnd (a := ints .i32 ((List.range' 0 8).map fun i => D (i * 17 + x))) ?_ (ev_chk (plain_fresh _ _ _) (ev_bnd (sum32_ok _ ?_ (by simp)) ev_some))
  · unfold s_impl_each_A17int32_int32__Roof_columns_1_1
    refine ev_bnd (a := ints .i32 ((List.range' 0 8).map fun i => D (i * 17 + x))) ?_ ev_some
    have hl : (elems D .i32 0 17 8).length = 8 := by rw [elems17]; simp
    rw [hl, ints_map]
    refine loop_map (l := fun n k g => l_impl_each_A17int32_int32__Roof_columns_1_1_b0 n x (elems D .i32 0 17 8) (8 : Nat) (k : Nat) g) (R := fun g => g) 8 (fun acc => ev_f (by simp) ev_some) (fun k acc hk hl a ih => ?_)
    refine ev_t (by simp; omega) (ev_bnd (a := fun j => D (0 + k * 17 + j)) (ev_of fun n => by rw [idx_rows _ _ _ hk]; rfl) (ev_bnd (a := D (k * 17 + x)) ?_ (ev_chk (by simp; omega) ?_)))
    · unfold s_impl_Roof_columns_1_1
      exact ev_chk (inB_k _ _ hx) (ev_cast ev_some (by simp))
    · rw [up64 k (by omega)]
      exact ih
  · intro y hy
    obtain ⟨j, hj, rfl⟩ := List.mem_map.1 hy
    have := hD (j * 17 + x) (by simp at hj; omega)
    omega
theorem idx_upTo (N k : Nat) (h : k < N) : idx (ints .i64 ((List.range' 0 N).map fun (i : Nat) => (i : Int))) (k : Int) = some (V.int .i64 k) := by
  rw [idx_ints _ _ _ (by simpa using h)]; simp
theorem columns_ok {w h s : Int} {t D : Nat → Int} (H : RoofV w h s t) (hD : DripB D) : Ev (fun n => s_impl_Roof_columns n w h s t D) (ints .i64 (colsOf D (2 * w + 1).toNat)) := by
  have hb := H.b
  unfold s_impl_Roof_columns
  obtain ⟨N, hN⟩ : ∃ N : Nat, 2 * w + 1 = (N : Int) := ⟨(2 * w + 1).toNat, by omega⟩
  rw [show (2 * w + 1).toNat = N by omega]
  refine ev_bnd (ev_of fun n => cells_eq n H.toRoofT) ?_
  rw [hN]
  refine ev_bnd (upTo_ok N (by omega)) (ev_bnd (a := ints .i64 (colsOf D N)) ?_ (ev_chk (plain_fresh _ _ _) ev_some))
  unfold s_impl_each_int_int64__Roof_columns_1
  refine ev_bnd (a := ints .i64 (colsOf D N)) ?_ ev_some
  have hl : (ints .i64 ((List.range' 0 N).map fun (i : Nat) => (i : Int))).length = N := by simp [ints_length]
  rw [hl]
  unfold colsOf
  rw [ints_map .i64 (colSum D)]
  refine loop_map (l := fun n k g => l_impl_each_int_int64__Roof_columns_1_b0 n D (ints .i64 ((List.range' 0 N).map fun (i : Nat) => (i : Int))) (N : Nat) (k : Nat) g) (R := fun g => g) N (fun acc => ev_f (by simp) ev_some) (fun k acc hk hl a ih => ?_)
  refine ev_t (by simp; omega) (ev_bnd (a := (k : Int)) (ev_of fun n => by rw [idx_upTo _ _ hk]; rfl) (ev_bnd (columns_1_ok hD k (by omega)) (ev_chk (by simp; omega) ?_)))
  rw [up64 k (by omega)]
  exact ih
end Go.Proofs.Ytkfihbdikdkcmaa
