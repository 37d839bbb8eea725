/- Law SlopeTo. -/
import Derived.Test.YtdhcfdiggcgmhaaPe4
namespace Go.Proofs.Ytdhcfdiggcgmhaa
open Go
set_option linter.unusedVariables false
set_option linter.unusedSimpArgs false

/-- how far a cell is from a pipe -/
def farP (l : List (Int × Int)) (k : Int) (j : Nat) : Int := if k - (pr l j).1 < (pr l j).1 - k then (pr l j).1 - k else k - (pr l j).1
def fars (l : List (Int × Int)) (k : Int) : List Int := (List.range' 0 l.length).map (farP l k)
theorem fars_length (l : List (Int × Int)) (k : Int) : (fars l k).length = l.length := by simp [fars]
theorem fars_get (l : List (Int × Int)) (k : Int) (j : Nat) (h : j < l.length) : (fars l k)[j]? = some (farP l k j) := by simp [fars, h]
theorem fars_gi (l : List (Int × Int)) (k : Int) (j : Nat) (h : j < l.length) : gi (fars l k) j = farP l k j := by
  have := fars_get l k j h
  unfold gi; rw [List.getD_eq_getElem?_getD, this]; rfl
theorem mins_assoc : ∀ (l : List Int) (a b : Int), l.foldl minI (minI a b) = minI a (l.foldl minI b)
  | [], a, b => rfl
  | x :: l, a, b => by
    rw [List.foldl_cons, List.foldl_cons, ← mins_assoc l a (minI b x)]
    congr 1
    unfold minI
    by_cases h1 : b < a <;> by_cases h2 : x < b <;> by_cases h3 : x < a <;> simp [h1, h2, h3] <;> omega
theorem mins_le : ∀ (l : List Int) (a : Int), l.foldl minI a ≤ a
  | [], a => Int.le_refl _
  | x :: l, a => by
    have h := mins_le l (minI a x)
    rw [List.foldl_cons]
    have : minI a x ≤ a := by unfold minI; split <;> omega
    omega
theorem mins_ge {c : Int} : ∀ (l : List Int) (a : Int), c ≤ a → (∀ x, x ∈ l → c ≤ x) → c ≤ l.foldl minI a
  | [], a, h, _ => h
  | x :: l, a, h, hl => by
    rw [List.foldl_cons]
    refine mins_ge l _ ?_ fun y hy => hl y (List.mem_cons_of_mem _ hy)
    have := hl x (List.mem_cons_self ..)
    unfold minI; split <;> omega
theorem gi_take_fold (q : List Int) (a : Int) (k : Nat) (hk : k < q.length) : (q.take (k + 1)).foldl minI a = minI ((q.take k).foldl minI a) (gi q k) := by
  rw [List.take_add_one, List.foldl_append, List.getElem?_eq_getElem hk]
  simp only [Option.toList, List.foldl_cons, List.foldl_nil]
  rw [gi_get hk]
theorem Min_ok (a : Int) (q : List Int) (hq : q.length ≤ 1048576) : Ev (fun n => s_slices_Min_Sint8_int8 n (ints .i8 (a :: q))) (q.foldl minI a) := by
  unfold s_slices_Min_Sint8_int8
  refine ev_f (by simp [ints_length]; omega) (ev_bnd (a := a) (ev_of fun n => rfl) ?_)
  obtain ⟨v, hv, h1⟩ := loop_up (l := fun n k (m : Int) => l_slices_Min_Sint8_int8_b0 n (ints .i8 (a :: q)) m ((k + 1 : Nat) : Int)) (I := fun k m => m = (q.take k).foldl minI a) (P := fun v => v = q.foldl minI a) q.length (by
    rintro k m hk rfl ih
    by_cases hlt : k < q.length
    · have hg : gi (a :: q) (k + 1) = gi q k := rfl
      refine tot_t (by simp [ints_length]; omega) (tot_ev (a := gi q k) (ev_of fun n => by rw [idx_gi _ _ _ (by simp; omega), hg]; rfl) ?_)
      rw [up64 (k + 1) (by omega)]
      exact ih hlt _ (gi_take_fold _ _ _ hlt).symm
    · obtain rfl : k = q.length := by omega
      exact tot_f (by simp [ints_length]) (tot_some (by rw [List.take_length]))) 0 a (by omega) rfl
  subst hv
  exact ev_bnd h1 ev_some
theorem PipesB {l : List (Int × Int)} {w : Int} (h : ∀ j, j < l.length → (0 ≤ (pr l j).1 ∧ (pr l j).1 < w) ∧ (0 ≤ (pr l j).2 ∧ (pr l j).2 ≤ 1000)) (hw : w ≤ 17) {k : Int} (hk : 0 ≤ k ∧ k < 17) {j : Nat} (hj : j < l.length) : 0 ≤ farP l k j ∧ farP l k j ≤ 17 := by
  have := h j hj
  unfold farP
  split <;> omega
theorem each_ok {l : List (Int × Int)} {w : Int} (h : ∀ j, j < l.length → (0 ≤ (pr l j).1 ∧ (pr l j).1 < w) ∧ (0 ≤ (pr l j).2 ∧ (pr l j).2 ≤ 1000)) (hw : w ≤ 17) (hl : l.length ≤ 4) (k : Int) (hk : 0 ≤ k ∧ k < 17) : Ev (fun n => s_impl_each_impl_Pipe_int8__SlopeTo_1 n (pipes l) k) (ints .i8 (fars l k)) := by
  unfold s_impl_each_impl_Pipe_int8__SlopeTo_1
  rw [show ((pipes l).length : Int) = (l.length : Int) by simp [prs_length]]
  refine ev_bnd (a := ints .i8 (fars l k)) ?_ ev_some
  obtain ⟨v, hv, h1⟩ := loop_up (l := fun n j (q : List Int) => l_impl_each_impl_Pipe_int8__SlopeTo_1_b0 n k (pipes l) (l.length : Int) (j : Nat) (ints .i8 q)) (I := fun j q => q = (fars l k).take j) (P := fun v => v = ints .i8 (fars l k)) l.length (by
    rintro j q hj rfl ih
    by_cases hlt : j < l.length
    · have hb := h j hlt
      have hf := PipesB h hw hk hlt
      refine tot_t (by simp; omega) (tot_ev (a := ((pr l j).1, (pr l j).2)) (ev_of fun n => by rw [idx_prs _ _ _ _ hlt]; rfl) (tot_ev (a := farP l k j) (ev_of fun n => ?_) (tot_chk (by simp [ints_length, fars_length]; omega) ?_)))
      · unfold s_impl_SlopeTo_1
        rw [w8 ((pr l j).1 - k) (by omega), w8 (k - (pr l j).1) (by omega)]
        unfold maxI farP
        by_cases hc : (pr l j).1 - k < k - (pr l j).1
        · rw [if_pos hc, if_neg (by omega)]
        · rw [if_neg hc]
          by_cases hc2 : k - (pr l j).1 < (pr l j).1 - k
          · rw [if_pos hc2]
          · rw [if_neg hc2]; congr 1; omega
      · rw [up64 j (by omega)]
        have := ih hlt _ rfl
        rw [List.take_add_one, fars_get _ _ _ hlt] at this
        have e : ints .i8 ((fars l k).take j ++ [farP l k j]) = ints .i8 ((fars l k).take j) ++ [V.int .i8 (farP l k j)] := List.map_append ..
        simp only [Option.toList] at this
        rw [e] at this
        exact this
    · obtain rfl : j = l.length := by omega
      refine tot_f (by simp) (tot_some ?_)
      rw [List.take_of_length_le (by rw [fars_length]; omega)]) 0 [] (by omega) (by simp)
  subst hv
  exact h1
def slopeH (l : List (Int × Int)) (k : Int) : Int := (fars l k).foldl minI 9
theorem slopeH_b {l : List (Int × Int)} {w : Int} (h : ∀ j, j < l.length → (0 ≤ (pr l j).1 ∧ (pr l j).1 < w) ∧ (0 ≤ (pr l j).2 ∧ (pr l j).2 ≤ 1000)) (hw : w ≤ 17) {k : Int} (hk : 0 ≤ k ∧ k < 17) : 0 ≤ slopeH l k ∧ slopeH l k ≤ 9 := by
  refine ⟨mins_ge _ _ (by omega) fun x hx => ?_, mins_le _ _⟩
  simp only [fars, List.mem_map, List.mem_range'_1] at hx
  obtain ⟨j, ⟨_, hj⟩, rfl⟩ := hx
  exact (PipesB h hw hk (by omega)).1
theorem slope_min {l : List (Int × Int)} {w : Int} (h : ∀ j, j < l.length → (0 ≤ (pr l j).1 ∧ (pr l j).1 < w) ∧ (0 ≤ (pr l j).2 ∧ (pr l j).2 ≤ 1000)) (hw : w ≤ 17) (hl : 0 < l.length ∧ l.length ≤ 4) (k : Int) (hk : 0 ≤ k ∧ k < 17) : Ev (fun n => s_slices_Min_Sint8_int8 n (ints .i8 (fars l k) ++ [V.int .i8 9])) (slopeH l k) := by
  have hlen := fars_length l k
  unfold slopeH
  cases hf : fars l k with
  | nil => rw [hf] at hlen; simp at hlen; omega
  | cons a q =>
    rw [hf] at hlen
    have hm := Min_ok a (q ++ [9]) (by simp at hlen ⊢; omega)
    have e : ints .i8 (a :: (q ++ [9])) = ints .i8 (a :: q) ++ [V.int .i8 9] := by rw [← List.cons_append]; exact List.map_append ..
    rw [e] at hm
    refine ev_cast hm ?_
    rw [List.foldl_append, List.foldl_cons, List.foldl_nil, List.foldl_cons, mins_assoc]
    unfold minI
    by_cases h1 : 9 < q.foldl minI a <;> by_cases h2 : q.foldl minI a < 9 <;> simp [minI] at * <;> omega
theorem spec_b2 {l : List (Int × Int)} {w : Int} (h : ∀ j, j < l.length → (0 ≤ (pr l j).1 ∧ (pr l j).1 < w) ∧ (0 ≤ (pr l j).2 ∧ (pr l j).2 ≤ 1000)) (hw : w ≤ 17) (hl : l.length ≤ 4) (k : Int) (hk : 0 ≤ k ∧ k < 17) (c a5 a6 a8 a9 a10 a12 : Int) (a7 a11 : Nat → Int) (xs ys : List V) :
    Ev (fun n => l_spec_SlopeTo_b2 n c (pipes l) k 9 0 a5 a6 a7 a8 a9 a10 a11 a12 xs ys) (c, pipes l, k, slopeH l k, a5, a6, a7, a8, a9, a10, a11, a12, xs, ys) := by
  obtain ⟨v, hv, h1⟩ := loop_up (l := fun n j (m : Int) => l_spec_SlopeTo_b2 n c (pipes l) k m (j : Nat) a5 a6 a7 a8 a9 a10 a11 a12 xs ys) (I := fun j m => m = ((fars l k).take j).foldl minI 9) (P := fun v => v = (c, pipes l, k, slopeH l k, a5, a6, a7, a8, a9, a10, a11, a12, xs, ys)) l.length (by
    rintro j m hj rfl ih
    by_cases hlt : j < l.length
    · have hb := h j hlt
      have hf := PipesB h hw hk hlt
      refine tot_t (by simp [prs_length]; omega) (tot_ev (a := ((pr l j).1, (pr l j).2)) (ev_of fun n => by rw [idx_prs _ _ _ _ hlt]; rfl) (tot_ev (a := farP l k j) (ev_of fun n => ?_) (tot_ev (a := minI (((fars l k).take j).foldl minI 9) (farP l k j)) (ev_of fun n => ?_) ?_)))
      · unfold s_spec_l04Far s_spec_l00Max
        rw [w64 (pr l j).1 (by omega), w64 (k - (pr l j).1) (by omega), w64 ((pr l j).1 - k) (by omega)]
        unfold farP
        by_cases hc : (pr l j).1 - k < k - (pr l j).1
        · simp only [cnd, decide_eq_true hc, bnd]
          rw [if_neg (by omega)]
        · simp only [cnd, decide_eq_false hc, bnd]
          by_cases hc2 : k - (pr l j).1 < (pr l j).1 - k
          · rw [if_pos hc2]
          · rw [if_neg hc2]; congr 1; omega
      · generalize ((fars l k).take j).foldl minI 9 = m
        unfold s_spec_l00Min minI
        by_cases hc : m < farP l k j
        · simp only [cnd, decide_eq_true hc]; rw [if_neg (by omega)]
        · simp only [cnd, decide_eq_false hc]
          by_cases hc2 : farP l k j < m
          · rw [if_pos hc2]
          · rw [if_neg hc2]; congr 1; omega
      · rw [up64 j (by omega)]
        refine ih hlt _ ?_
        rw [gi_take_fold _ _ _ (by rw [fars_length]; exact hlt), fars_gi _ _ _ hlt]
    · obtain rfl : j = l.length := by omega
      refine tot_f (by simp [prs_length]) (tot_some ?_)
      rw [List.take_of_length_le (by rw [fars_length]; omega)]
      rfl) 0 9 (by omega) rfl
  subst hv
  exact h1
theorem slope_two {l : List (Int × Int)} {c d : Int} (h : ∀ j, j < l.length → (0 ≤ (pr l j).1 ∧ (pr l j).1 < c) ∧ (0 ≤ (pr l j).2 ∧ (pr l j).2 ≤ 1000)) (hc : 1 ≤ c ∧ c ≤ 17) (hl : 0 < l.length ∧ l.length ≤ 4) (z : Nat → Int) :
    ∃ T : Nat → Int, Ev (fun n => l_spec_SlopeTo_b0 n c (pipes l) 0 0 0 z 0 c d (fun _ => 0) 0 [] (pipes l)) (0, 0, z, 0, c, d, T, 0, [], pipes l) ∧ Ev (fun n => l_impl_SlopeTo_b1 n (pipes l) c 0 0 0 z 0 c d (fun _ => 0) 0 [] (pipes l)) (0, 0, z, 0, c, d, T, 0, [], pipes l) := by
  obtain ⟨T, _, a2, a3⟩ := lock (l1 := fun n k T => l_spec_SlopeTo_b0 n c (pipes l) (k : Nat) 0 0 z 0 c d T 0 [] (pipes l)) (l2 := fun n k T => l_impl_SlopeTo_b1 n (pipes l) c (k : Nat) 0 0 z 0 c d T 0 [] (pipes l)) (I := fun _ _ => True) (R1 := fun T => (0, 0, z, 0, c, d, T, 0, [], pipes l)) (R2 := fun T => (0, 0, z, 0, c, d, T, 0, [], pipes l)) c.toNat
    (fun T _ => ev_f (by simp; omega) ev_some) (fun T _ => ev_f (by simp; omega) ev_some) (fun k T hk _ => by
      have hk17 : (0 : Int) ≤ (k : Int) ∧ (k : Int) < 17 := by omega
      have hb := slopeH_b h hc.2 hk17
      refine ⟨updC T k (slopeH l k), trivial, fun a ih => ?_, fun a ih => ?_⟩
      · refine ev_t (by simp; omega) (ev_bnd (spec_b2 h hc.2 hl.2 k hk17 ..) ?_)
        dsimp only
        refine ev_chk (inB_k _ _ (by omega)) ?_
        rw [ix, up64 k (by omega), w8 (slopeH l k) (by omega)]
        exact ih
      · refine ev_t (by simp; omega) (ev_bnd (each_ok h hc.2 hl.2 k hk17) (ev_chk (plain_fresh _ _ _) (ev_chk (by simp [ints_length, fars_length]; omega) (ev_bnd (slope_min h hc.2 hl k hk17) ?_))))
        refine ev_chk (inB_k _ _ (by omega)) ?_
        rw [ix, up8 k (by omega)]
        exact ih) c.toNat 0 (fun _ => 0) (by omega) trivial
  exact ⟨T, a2, a3⟩
theorem SlopeTo_two {c d : Int} {l : List (Int × Int)} (hl : l.length ≤ 1048576) (hb : ∀ j, j < l.length → (-128 ≤ (pr l j).1 ∧ (pr l j).1 ≤ 127) ∧ (-32768 ≤ (pr l j).2 ∧ (pr l j).2 ≤ 32767)) :
    ∃ (w' d' b' : Int) (t' : Nat → Int) (l' : List (Int × Int)) (y : Int), l'.length ≤ 1048576 ∧ Ev (fun n => s_spec_SlopeTo n c d (pipes l)) (w', d', t', b', pipes l', y) ∧ Ev (fun n => s_impl_SlopeTo n c d (pipes l)) (w', d', t', b', pipes l', y) := by
  unfold s_spec_SlopeTo s_impl_SlopeTo
  rw [show ((pipes l).length : Int) = (l.length : Int) by simp [prs_length], List.nil_append]
  have es : ∀ n, s_spec_l00In n c 1 17 = some (decide (1 ≤ c) && decide (c ≤ 17)) := fun n => l00In_eq n _ _ _
  have ei : ∀ n, s_impl_within_int64 n c 1 17 = some (decide (1 ≤ c) && decide (c ≤ 17)) := fun n => within_i64 n _ _ _
  by_cases h1 : 1 ≤ c ∧ c ≤ 17
  · have e1 : (decide (1 ≤ c) && decide (c ≤ 17)) = true := by simp; exact h1
    rw [e1] at es ei
    by_cases h2 : 0 ≤ d ∧ d ≤ 1000
    · rw [w8 c (by omega), w16 d (by omega)]
      have H : GutT c d 0 (fun _ => 0) l := ⟨by omega, by omega, fun j _ => by simp, hb, hl⟩
      have k1 := l06Ok_ok H
      have k2 := ValidGutter_ok H
      have kd : ∀ n, s_spec_l06Deep n d = some true := fun n => by rw [l06Deep_eq, decide_eq_true h2]
      have ki : ∀ n, s_impl_isDeep_int64 n d = some true := fun n => by rw [isDeep64_eq, decide_eq_true h2]
      cases hg : gutOk c d 0 (fun _ => 0) l with
      | false =>
        rw [hg] at k1 k2
        exact ⟨0, 0, 0, fun _ => 0, [], 2, by simp, ev_bnd (ev_of es) (ev_t rfl (ev_bnd (ev_of kd) (ev_t rfl (ev_chk (by simp [prs_length]; omega) (ev_chk (sizes_pipes l) (ev_bnd k1 (ev_f rfl ev_some))))))), ev_bnd (ev_of ei) (ev_t rfl (ev_bnd (ev_of ki) (ev_t rfl (ev_bnd (clone_ok l hl) (ev_bnd k2 (ev_f rfl ev_some))))))⟩
      | true =>
        rw [hg] at k1 k2
        have hV : GutV c d 0 (fun _ => 0) l := ⟨H, hg⟩
        obtain ⟨_, h4, hp⟩ := hV.p
        by_cases h0 : l.length = 0
        · exact ⟨0, 0, 0, fun _ => 0, [], 6, by simp, ev_bnd (ev_of es) (ev_t rfl (ev_bnd (ev_of kd) (ev_t rfl (ev_chk (by simp [prs_length]; omega) (ev_chk (sizes_pipes l) (ev_bnd k1 (ev_t rfl (ev_t (decide_eq_true (by omega)) ev_some)))))))), ev_bnd (ev_of ei) (ev_t rfl (ev_bnd (ev_of ki) (ev_t rfl (ev_bnd (clone_ok l hl) (ev_bnd k2 (ev_t rfl (ev_t (decide_eq_true (by omega)) ev_some)))))))⟩
        · obtain ⟨T, t1, t2⟩ := slope_two (d := d) hp h1 ⟨by omega, h4⟩ (fun _ => 0)
          exact ⟨c, d, 0, T, l, 0, hl, ev_bnd (ev_of es) (ev_t rfl (ev_bnd (ev_of kd) (ev_t rfl (ev_chk (by simp [prs_length]; omega) (ev_chk (sizes_pipes l) (ev_bnd k1 (ev_t rfl (ev_f (decide_eq_false (by omega)) (ev_bnd t1 ev_some))))))))), ev_bnd (ev_of ei) (ev_t rfl (ev_bnd (ev_of ki) (ev_t rfl (ev_bnd (clone_ok l hl) (ev_bnd k2 (ev_t rfl (ev_f (decide_eq_false (by omega)) (ev_bnd t2 ev_some))))))))⟩
    · have kd : ∀ n, s_spec_l06Deep n d = some false := fun n => by rw [l06Deep_eq, decide_eq_false h2]
      have ki : ∀ n, s_impl_isDeep_int64 n d = some false := fun n => by rw [isDeep64_eq, decide_eq_false h2]
      exact ⟨0, 0, 0, fun _ => 0, [], 2, by simp, ev_bnd (ev_of es) (ev_t rfl (ev_bnd (ev_of kd) (ev_f rfl ev_some))), ev_bnd (ev_of ei) (ev_t rfl (ev_bnd (ev_of ki) (ev_f rfl ev_some)))⟩
  · have e1 : (decide (1 ≤ c) && decide (c ≤ 17)) = false := by
      cases hq : (decide (1 ≤ c) && decide (c ≤ 17)) with
      | false => rfl
      | true => simp at hq; exact absurd hq h1
    rw [e1] at es ei
    exact ⟨0, 0, 0, fun _ => 0, [], 2, by simp, ev_bnd (ev_of es) (ev_f rfl ev_some), ev_bnd (ev_of ei) (ev_f rfl ev_some)⟩
theorem szPipeS_ok (l : List (Int × Int)) (hl : l.length ≤ 9223372036854775807) : Ev (fun n => s_laws_szPipeS n (pipes l) 1048576) (if (1048576 : Int) < l.length then -1 else 1048576 - l.length) := by
  unfold s_laws_szPipeS
  rw [show ((pipes l).length : Int) = (l.length : Int) by simp [prs_length], w64 _ (by omega)]
  split
  · exact ev_t (by simp; omega) ev_some
  · exact ev_f (by simp; omega) ev_some
theorem law_FnExactSlopeTo {c d : Int} {xs : List V} (hc : (Lit.int .i64 c).wf = true) (hd : (Lit.int .i64 d).wf = true) (hx : PipeW xs) : Ev (fun n => s_laws_FnExactSlopeTo n c d xs) true := by
  obtain ⟨l, rfl, hl⟩ := prs_of hx.2
  have n1 : l.length ≤ 9223372036854775807 := by have := hx.1; rw [prs_length] at this; simpa [maxLen] using this
  unfold s_laws_FnExactSlopeTo
  refine ev_bnd (szPipeS_ok l n1) ?_
  by_cases h1 : (1048576 : Int) < l.length
  · rw [if_pos h1]; exact ev_t (by simp) ev_some
  · rw [if_neg h1]
    have e2 := toPipeS_ok l (by omega)
    obtain ⟨w2, d2, b2, t2, l2, y, hn2, k1, k2⟩ := SlopeTo_two (c := c) (d := d) (l := l) (by omega) (fun j hj => ⟨wf_i8 (hl _ (pr_mem hj)).1, wf_i16 (hl _ (pr_mem hj)).2⟩)
    have hm1 := markPipeS_okM l 1 (by omega)
    have hm := markGutter_okM w2 d2 b2 t2 l2 hn2
    have hh := heldGutter_ok w2 d2 b2 t2 l2.length hn2
    have hq := eqGutter_ok w2 d2 b2 t2 l2 hn2
    refine ev_f (by simp; omega) (ev_bnd e2 (ev_bnd k1 (ev_chk (plain_gut2 ..) (ev_bnd e2 (ev_bnd k2 (ev_chk (plain_gut2 ..) (ev_bnd hq (ev_t rfl (ev_t (by simp) ?_)))))))))
    refine ev_bnd e2 (ev_bnd (eqPipeS_ok l (by omega)) (ev_t rfl (ev_bnd hm1 (ev_chk (like_prs _ _ _ _ (by rw [marksP_length])) (ev_f (by simp; omega) ?_)))))
    refine ev_bnd hq (ev_t rfl (ev_bnd hm (ev_chk (like_prs _ _ _ _ (by rw [marksP_length])) (ev_bnd hh (ev_f (by simp; omega) (ev_t (by simp) ?_))))))
    exact ev_bnd e2 (ev_bnd k2 (ev_chk (plain_gut2 ..) (ev_bnd hq (ev_t rfl (ev_t (by simp) (ev_bnd hh (ev_f (by simp; omega) (ev_t (by simp) ev_some))))))))
end Go.Proofs.Ytdhcfdiggcgmhaa
