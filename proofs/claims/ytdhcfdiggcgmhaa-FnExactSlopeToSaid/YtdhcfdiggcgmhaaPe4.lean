/- Laws CleanLeaf, LeastTakes, SlopeTo. -/
import Derived.Test.YtdhcfdiggcgmhaaPe2
import Derived.Test.YtdhcfdiggcgmhaaSh9
namespace Go.Proofs.Ytdhcfdiggcgmhaa
open Go
set_option linter.unusedVariables false
set_option linter.unusedSimpArgs false

theorem sizes_pipes : ∀ (l : List (Int × Int)), sizesOk 2 (pipes l) = true
  | [] => rfl
  | p :: l => by
    have h := sizes_pipes l
    show (match Nat.beq (psize (partsOf (pv .i8 .i16 p))) 2 with | true => sizesOk 2 (pipes l) | false => false) = true
    exact h
theorem clone_ok (l : List (Int × Int)) (hl : l.length ≤ 1048576) : Ev (fun n => s_slices_Clone_Simpl_Pipe_impl_Pipe n (pipes l)) (pipes l) := by
  unfold s_slices_Clone_Simpl_Pipe_impl_Pipe
  exact ev_chk (by simp [prs_length]; omega) (ev_chk (sizes_pipes l) ev_some)
theorem l06Own_ok (w d b : Int) (t : Nat → Int) (l : List (Int × Int)) (hl : l.length ≤ 1048576) : Ev (fun n => s_spec_l06Own n w d t b (pipes l)) (w, d, t, b, pipes l) := by
  unfold s_spec_l06Own
  exact ev_chk (by simp [prs_length]; omega) (ev_chk (sizes_pipes l) (ev_cast ev_some (by simp)))
theorem own_ok (w d b : Int) (t : Nat → Int) (l : List (Int × Int)) (hl : l.length ≤ 1048576) : Ev (fun n => s_impl_Gutter_own n w d t b (pipes l)) (w, d, t, b, pipes l) := by
  unfold s_impl_Gutter_own
  exact ev_bnd (clone_ok l hl) ev_some
theorem plainE_prs (k k' : IntKind) : ∀ (l : List (Int × Int)), allB plainP.plainE (prs k k' l) = true
  | [] => rfl
  | p :: l => by
    have h := plainE_prs k k' l
    show (match plainP.plainE (pv k k' p) with | true => allB plainP.plainE (prs k k' l) | false => false) = true
    exact h
theorem plain_gut (a b c : Int) (f : Nat → Int) (e : Nat) (l : List (Int × Int)) : plainV (V.parts [(V.int .i8 (a)), (V.int .i16 (b)), (V.ints .i8 17 f), (V.int .u32 (c)), (V.fresh e (pipes l))]) = true := by
  have h := plainE_prs .i8 .i16 l
  simp only [plainV, allB, plainQ, plainP, plainO]
  rw [h]
theorem plain_gut2 (a b c : Int) (f : Nat → Int) (e : Nat) (l : List (Int × Int)) (y : Int) : plainV (V.tup [(V.parts [(V.int .i8 (a)), (V.int .i16 (b)), (V.ints .i8 17 f), (V.int .u32 (c)), (V.fresh e (pipes l))]), (V.int .i64 (y))]) = true := by
  have h := plainE_prs .i8 .i16 l
  simp only [plainV, allB, plainQ, plainP, plainO]
  rw [h]
-- marks that are told
def marksP (k0 n : Nat) : List (Int × Int) := (List.range' 0 n).map (markP k0)
theorem marksP_length (k0 n : Nat) : (marksP k0 n).length = n := by simp [marksP]
theorem marksP_pr (k0 n j : Nat) (h : j < n) : pr (marksP k0 n) j = markP k0 j := by
  have h2 := pr_get (l := marksP k0 n) (i := j) (by rw [marksP_length]; exact h)
  have h3 : (marksP k0 n)[j]? = some (markP k0 j) := by simp [marksP, h]
  rw [h3] at h2
  exact (Option.some.inj h2).symm
theorem markPipeS_okM (l : List (Int × Int)) (k0 : Nat) (hl : l.length ≤ 1048576 ∧ k0 ≤ 1000) : Ev (fun n => s_laws_markPipeS n (pipes l) (k0 : Int)) (((k0 + 2 * l.length : Nat) : Int), pipes (marksP k0 l.length)) := by
  unfold s_laws_markPipeS
  obtain ⟨v, hv, h1⟩ := loop_up (l := fun n k (st : List (Int × Int)) => l_laws_markPipeS_b0 n ((k0 + 2 * k : Nat) : Int) (k : Nat) (pipes st)) (I := fun k st => st.length = l.length ∧ ∀ j, j < k → st[j]? = some (markP k0 j))
    (P := fun v => v = (((k0 + 2 * l.length : Nat) : Int), pipes (marksP k0 l.length))) l.length (by
    rintro k st hk ⟨e1, e2⟩ ih
    by_cases hlt : k < l.length
    · have hk2 : k < st.length := by omega
      refine tot_t (by simp [prs_length]; omega) (tot_chk (inB_k _ _ (by rw [prs_length]; exact hk2)) (tot_ev (a := ((pr st k).1, (pr st k).2)) (ev_of fun n => by rw [Int.toNat_natCast, nth_prs _ _ _ _ hk2]; rfl) (tot_ev (a := ((pr st k).1, (pr st k).2)) (ev_of fun n => by rw [Int.toNat_natCast, nth_prs _ _ _ _ hk2]; rfl) ?_)))
      rw [Int.toNat_natCast]
      dsimp only
      rw [set_prs]
      have hq : pr (st.set k (IntKind.i8.wrap ((k0 + 2 * k : Nat) : Int), (pr st k).2)) k = (IntKind.i8.wrap ((k0 + 2 * k : Nat) : Int), (pr st k).2) := by
        unfold pr; rw [List.getD_eq_getElem?_getD, List.getElem?_set, if_pos rfl, if_pos hk2]; rfl
      have hg : ∀ n : Nat, bnd (nth (pipes (st.set k (IntKind.i8.wrap ((k0 + 2 * k : Nat) : Int), (pr st k).2))) k) as_Pi8_i16Q = some (IntKind.i8.wrap ((k0 + 2 * k : Nat) : Int), (pr st k).2) := by
        intro n
        rw [nth_prs _ _ _ _ (by simp; exact hk2), hq]; rfl
      refine tot_chk (inB_k _ _ (by simp [prs_length]; exact hk2)) (tot_ev (ev_of hg) (tot_ev (ev_of hg) ?_))
      dsimp only
      rw [set_prs, up64 k (by omega), up64 (k0 + 2 * k) (by omega), up64 (k0 + 2 * k + 1) (by omega), show k0 + 2 * k + 1 + 1 = k0 + 2 * (k + 1) by omega, List.set_set]
      refine ih hlt _ ⟨by simp [e1], fun j hj => ?_⟩
      rw [List.getElem?_set]
      by_cases h : k = j
      · subst h; rw [if_pos rfl, if_pos hk2]; rfl
      · rw [if_neg h]; exact e2 j (by omega)
    · obtain rfl : k = l.length := by omega
      refine tot_f (by simp [prs_length]; omega) (tot_some ?_)
      congr 2
      apply List.ext_getElem?
      intro j
      by_cases hj : j < l.length
      · rw [e2 j hj]; simp [marksP, hj]
      · rw [List.getElem?_eq_none (by omega), List.getElem?_eq_none (by rw [marksP_length]; omega)]) 0 l (by omega) ⟨rfl, fun j hj => by omega⟩
  subst hv
  exact ev_bnd h1 ev_some
theorem markGutter_okM (w d b : Int) (t : Nat → Int) (l : List (Int × Int)) (hl : l.length ≤ 1048576) : Ev (fun n => s_laws_markGutter n w d t b (pipes l) 1) (((1 + 2 * l.length : Nat) : Int), pipes (marksP 1 l.length)) :=
  ev_bnd (markPipeS_okM l 1 (by omega)) (ev_chk (like_prs _ _ _ _ (by rw [marksP_length])) ev_some)
theorem heldPipeS_ok (m k0 : Nat) (hm : m ≤ 1048576 ∧ k0 ≤ 1000) : Ev (fun n => s_laws_heldPipeS n (pipes (marksP k0 m)) (k0 : Int)) ((k0 + 2 * m : Nat) : Int) := by
  unfold s_laws_heldPipeS
  have := loop_all (l := fun n k => l_laws_heldPipeS_b0 n (pipes (marksP k0 m)) ((k0 + 2 * k : Nat) : Int) (k : Nat)) (p := fun _ => true) (A := .inl ((k0 + 2 * m : Nat) : Int)) (B := .inr (-1)) m (ev_f (by simp [prs_length, marksP_length]) ev_some) (by
    intro k hk _ a ih
    have hg : ∀ n : Nat, bnd (idx (pipes (marksP k0 m)) (k : Int)) as_Pi8_i16Q = some ((markP k0 k).1, (markP k0 k).2) := fun n => by rw [idx_prs _ _ _ _ (by rw [marksP_length]; exact hk), marksP_pr _ _ _ hk]; rfl
    refine ev_t (by simp [prs_length, marksP_length]; omega) (ev_bnd (ev_of hg) (ev_t (by simp [markP]) (ev_bnd (ev_of hg) ?_)))
    rw [up64 (k0 + 2 * k) (by omega), up64 k (by omega), up64 (k0 + 2 * k + 1) (by omega), show k0 + 2 * k + 1 + 1 = k0 + 2 * (k + 1) by omega]
    exact ev_t (by simp [markP]) ih) (by intro k hk h; cases h) m 0 (by omega)
  refine ev_bnd this ?_
  rw [show allN (fun _ => true) 0 m = true from (allN_iff _ _ _).2 fun _ _ _ => rfl]
  exact ev_some
theorem heldGutter_ok (w d b : Int) (t : Nat → Int) (m : Nat) (hm : m ≤ 1048576) : Ev (fun n => s_laws_heldGutter n w d t b (pipes (marksP 1 m)) 1) ((1 + 2 * m : Nat) : Int) := by
  unfold s_laws_heldGutter
  exact ev_bnd (heldPipeS_ok m 1 (by omega)) (ev_f (by simp; omega) ev_some)
-- CleanLeaf
def cleanB (b : Int) (k : Nat) : Int := IntKind.u32.wrap (BitVec.ofInt IntKind.u32.bits b &&& ~~~ BitVec.ofInt IntKind.u32.bits (IntKind.u32.wrap (1 * 2 ^ (min k IntKind.u32.bits)))).toNat
theorem CleanLeaf_two {w d b : Int} {t : Nat → Int} {l : List (Int × Int)} (H : GutT w d b t l) (c : Int) : ∃ (w' d' b' : Int) (t' : Nat → Int) (l' : List (Int × Int)) (y : Int), l'.length ≤ 1048576 ∧ Ev (fun n => s_spec_CleanLeaf n w d t b (pipes l) c) (w', d', t', b', pipes l', y) ∧ Ev (fun n => s_impl_CleanLeaf n w d t b (pipes l) c) (w', d', t', b', pipes l', y) := by
  unfold s_spec_CleanLeaf s_impl_CleanLeaf
  have hl := H.ln
  by_cases hz : gutC w d b t l (inG w c) = 0
  · obtain ⟨hg, hc⟩ := gutC_zero hz
    have hV : GutV w d b t l := ⟨H, hg⟩
    have hb := hV.b
    simp only [inG, Bool.and_eq_true, decide_eq_true_eq] at hc
    obtain ⟨k, rfl⟩ := Int.eq_ofNat_of_zero_le hc.1
    cases hf : leafB b k with
    | false =>
      exact ⟨0, 0, 0, fun _ => 0, [], 4, by simp, ev_bnd (ev_of fun n => l06Cell_eq n H _) (ev_bnd (l06Asked_ok H _) (ev_t (by simpa using hz) (ev_bnd (ev_of fun n => l06Leaf_eq n k (by omega)) (ev_f hf ev_some)))), ev_bnd (ev_of fun n => isIn_eq n H _) (ev_bnd (gutterCode_ok H _) (ev_t (by simpa using hz) (ev_bnd (ev_of fun n => hasLeaves_eq n k) (ev_f hf ev_some))))⟩
    | true =>
      refine ⟨w, d, cleanB b k, t, l, 0, hl, ev_bnd (ev_of fun n => l06Cell_eq n H _) (ev_bnd (l06Asked_ok H _) (ev_t (by simpa using hz) (ev_bnd (ev_of fun n => l06Leaf_eq n k (by omega)) (ev_t hf (ev_bnd (l06Own_ok w d b t l hl) (ev_chk (plain_gut ..) ?_)))))), ev_bnd (ev_of fun n => isIn_eq n H _) (ev_bnd (gutterCode_ok H _) (ev_t (by simpa using hz) (ev_bnd (ev_of fun n => hasLeaves_eq n k) (ev_t hf ?_))))⟩
      · rw [wu64 (k : Int) (by omega)]
        exact ev_chk (by simp) ev_some
      · unfold s_impl_Gutter_cleaned
        exact ev_bnd (ev_bnd (own_ok w d b t l hl) (ev_chk (by simp) ev_some)) ev_some
  · exact ⟨0, 0, 0, fun _ => 0, [], gutC w d b t l (inG w c), by simp, ev_bnd (ev_of fun n => l06Cell_eq n H _) (ev_bnd (l06Asked_ok H _) (ev_f (by simpa using hz) ev_some)), ev_bnd (ev_of fun n => isIn_eq n H _) (ev_bnd (gutterCode_ok H _) (ev_f (by simpa using hz) ev_some))⟩
theorem law_FnExactCleanLeaf {w d b c : Int} {t : Nat → Int} {xs : List V} (hw : (Lit.int .i8 w).wf = true) (hd : (Lit.int .i16 d).wf = true) (ht : ∀ j, j < 17 → (Lit.int .i8 (t j)).wf = true) (hb : (Lit.int .u32 b).wf = true) (hx : PipeW xs)
    (hc : (Lit.int .i64 c).wf = true) : Ev (fun n => s_laws_FnExactCleanLeaf n w d t b xs c) true := by
  obtain ⟨l, rfl, hl⟩ := prs_of hx.2
  have n1 : l.length ≤ 9223372036854775807 := by have := hx.1; rw [prs_length] at this; simpa [maxLen] using this
  unfold s_laws_FnExactCleanLeaf
  refine ev_bnd (szGutter_ok w d b t l 1048576 (by omega) n1) ?_
  by_cases h1 : (1048576 : Int) < l.length
  · rw [if_pos h1]; exact ev_t (by simp) ev_some
  · rw [if_neg h1]
    obtain ⟨t', e1, e2⟩ := toGutter_ok w d b t l (by omega)
    have H : GutT w d b t' l := .mk' hw hd ht e1 hl (by omega)
    obtain ⟨w2, d2, b2, t2, l2, y, hn2, k1, k2⟩ := CleanLeaf_two H c
    obtain ⟨l', m, m1, m2, m3⟩ := markGutter_ok w d b t' l (by omega)
    have hm := markGutter_okM w2 d2 b2 t2 l2 hn2
    have hh := heldGutter_ok w2 d2 b2 t2 l2.length hn2
    have hq := eqGutter_ok w2 d2 b2 t2 l2 hn2
    refine ev_f (by simp; omega) (ev_bnd e2 (ev_bnd k1 (ev_chk (plain_gut2 ..) (ev_bnd e2 (ev_bnd k2 (ev_chk (plain_gut2 ..) (ev_bnd hq (ev_t rfl (ev_t (by simp) ?_)))))))))
    refine ev_bnd e2 (ev_bnd (eqGutter_ok _ _ _ _ _ (by omega)) (ev_t rfl (ev_bnd m3 (ev_chk (like_prs _ _ _ _ m1.symm) (ev_f (by simp; omega) ?_)))))
    refine ev_bnd hq (ev_t rfl (ev_bnd hm (ev_chk (like_prs _ _ _ _ (by rw [marksP_length])) (ev_bnd hh (ev_f (by simp; omega) (ev_t (by simp) ?_))))))
    exact ev_bnd e2 (ev_bnd k2 (ev_chk (plain_gut2 ..) (ev_bnd hq (ev_t rfl (ev_t (by simp) (ev_bnd hh (ev_f (by simp; omega) (ev_t (by simp) ev_some))))))))
-- LeastTakes
theorem pr_set (l : List (Int × Int)) (p j : Nat) (x : Int × Int) (hp : p < l.length) : pr (l.set p x) j = if p = j then x else pr l j := by
  unfold pr
  rw [List.getD_eq_getElem?_getD, List.getElem?_set, List.getD_eq_getElem?_getD]
  by_cases h : p = j
  · subst h; rw [if_pos rfl, if_pos hp, if_pos rfl]; rfl
  · rw [if_neg h, if_neg h]
theorem GutV.take {w d b : Int} {t : Nat → Int} {l : List (Int × Int)} (H : GutV w d b t l) {p : Nat} (hp : p < l.length) {k : Int} (hk : 0 ≤ k ∧ k ≤ 1000) : GutV w d b t (l.set p ((pr l p).1, k)) := by
  have hs : ∀ j, (pr (l.set p ((pr l p).1, k)) j).1 = (pr l j).1 := fun j => by
    rw [pr_set _ _ _ _ hp]; by_cases h : p = j
    · subst h; rw [if_pos rfl]
    · rw [if_neg h]
  have hs2 : ∀ j, (pr (l.set p ((pr l p).1, k)) j).2 = if p = j then k else (pr l j).2 := fun j => by
    rw [pr_set _ _ _ _ hp]; split <;> rfl
  have hln : (l.set p ((pr l p).1, k)).length = l.length := by simp
  refine ⟨⟨H.bw, H.bd, H.bt, fun j hj => ?_, by rw [hln]; exact H.ln⟩, ?_⟩
  · rw [hln] at hj
    have := H.bl j hj
    rw [hs, hs2]
    refine ⟨this.1, ?_⟩
    split
    · omega
    · exact this.2
  · have hok := H.ok
    simp only [gutOk, gutHead, Bool.and_eq_true, allN_iff] at hok ⊢
    rw [hln]
    refine ⟨hok.1, hok.2.1, fun j h1 h2 => ?_⟩
    have := hok.2.2 j h1 h2
    simp only [gpipe, Bool.and_eq_true, Bool.or_eq_true, decide_eq_true_eq] at this ⊢
    rw [hs, hs, hs2]
    refine ⟨⟨this.1.1, ?_⟩, this.2⟩
    split
    · exact hk
    · exact this.1.2
theorem set_pr_self (l : List (Int × Int)) (p : Nat) (hp : p < l.length) : l.set p ((pr l p).1, (pr l p).2) = l := by
  apply List.ext_getElem?
  intro j
  rw [List.getElem?_set]
  by_cases h : p = j
  · subst h; rw [if_pos rfl, if_pos hp, pr_get hp]
  · rw [if_neg h]
theorem takes_two {w d b : Int} {t : Nat → Int} {l : List (Int × Int)} (H : GutV w d b t l) {q : List Int} (hq : rainQ w q = true) {p : Nat} (hp : p < l.length) : ∀ (c k : Nat) (x : Int), k + c = 1001 → ∃ r : Sum Unit (Int × Int), Ev (fun n => l_spec_LeastTakes_b0 n (ints .i64 q) p k w d t b (pipes (l.set p ((pr l p).1, x)))) r ∧ Ev (fun n => l_impl_LeastTakes_b0 n (ints .i64 q) p k w d t b (pipes (l.set p ((pr l p).1, x)))) r := by
  intro c
  induction c with
  | zero =>
    intro k x hk
    exact ⟨.inl (), ev_succ (ev_f (by simp; omega) ev_some), ev_succ (ev_f (by simp; omega) ev_some)⟩
  | succ c ih =>
    intro k x hk
    have hlen : (l.set p ((pr l p).1, x)).length = l.length := by simp
    have hpl : p < (l.set p ((pr l p).1, x)).length := by rw [hlen]; exact hp
    have hg : ∀ n : Nat, bnd (nth (pipes (l.set p ((pr l p).1, x))) ((p : Nat) : Int).toNat) as_Pi8_i16Q = some ((pr l p).1, x) := fun n => by
      rw [Int.toNat_natCast, nth_prs _ _ _ _ hpl, pr_set _ _ _ _ hp, if_pos rfl]; rfl
    have hV := H.take hp (k := (k : Int)) (by omega)
    have hst : setNth (pipes (l.set p ((pr l p).1, x))) ((p : Nat) : Int).toNat (V.parts [(V.int .i8 ((pr l p).1)), (V.int .i16 (k : Int))]) = pipes (l.set p ((pr l p).1, (k : Int))) := by
      rw [Int.toNat_natCast, set_prs, List.set_set]
    obtain ⟨y, y0, y1, y2⟩ := first_two hV hq
    by_cases hn : y = -1
    · subst hn
      refine ⟨.inr ((k : Int), 0), ev_succ (ev_t (by simp; omega) (ev_chk (inB_k _ _ (by rw [prs_length]; exact hpl)) (ev_bnd (ev_of hg) (ev_bnd (ev_of hg) ?_)))), ev_succ (ev_t (by simp; omega) (ev_chk (inB_k _ _ (by rw [prs_length]; exact hpl)) (ev_bnd (ev_of hg) (ev_bnd (ev_of hg) ?_))))⟩
      · dsimp only
        rw [w16 (k : Int) (by omega), hst]
        exact ev_bnd y1 (ev_t (by simp) ev_some)
      · dsimp only
        rw [hst]
        refine ev_bnd y2 (ev_t (by simp) ?_)
        rw [w64 (k : Int) (by omega)]; exact ev_some
    · rw [if_neg hn] at y2
      obtain ⟨r, r1, r2⟩ := ih (k + 1) (k : Int) (by omega)
      refine ⟨r, ev_succ (ev_t (by simp; omega) (ev_chk (inB_k _ _ (by rw [prs_length]; exact hpl)) (ev_bnd (ev_of hg) (ev_bnd (ev_of hg) ?_)))), ev_succ (ev_t (by simp; omega) (ev_chk (inB_k _ _ (by rw [prs_length]; exact hpl)) (ev_bnd (ev_of hg) (ev_bnd (ev_of hg) ?_))))⟩
      · dsimp only
        rw [w16 (k : Int) (by omega), hst, up64 k (by omega)]
        exact ev_bnd y1 (ev_f (by simp; omega) r1)
      · dsimp only
        rw [hst, up16 k (by omega)]
        exact ev_bnd y2 (ev_f (by simp; omega) r2)
theorem law_FnExactLeastTakes {w d b p : Int} {t : Nat → Int} {xs ys : List V} (hw : (Lit.int .i8 w).wf = true) (hd : (Lit.int .i16 d).wf = true) (ht : ∀ j, j < 17 → (Lit.int .i8 (t j)).wf = true) (hb : (Lit.int .u32 b).wf = true) (hx : PipeW xs)
    (hy : ys.length ≤ maxLen ∧ ∀ x, x ∈ ys → inL [.int .i64] [x]) (hp : (Lit.int .i64 p).wf = true) : Ev (fun n => s_laws_FnExactLeastTakes n w d t b xs ys p) true := by
  obtain ⟨l, rfl, hl⟩ := prs_of hx.2
  obtain ⟨q, rfl, _⟩ := ints_of hy.2
  have n1 : l.length ≤ 9223372036854775807 := by have := hx.1; rw [prs_length] at this; simpa [maxLen] using this
  unfold s_laws_FnExactLeastTakes
  rw [show ((ints .i64 q).length : Int) = (q.length : Int) by simp [ints_length]]
  by_cases h0 : (1048576 : Int) < q.length
  · exact ev_t (by simpa using h0) ev_some
  · refine ev_f (by simpa using h0) (ev_bnd (szGutter_ok w d b t l 1048576 (by omega) n1) ?_)
    by_cases h1 : (1048576 : Int) < l.length
    · rw [if_pos h1]; exact ev_t (by simp) ev_some
    · rw [if_neg h1]
      obtain ⟨c, e1, e2⟩ := toGutter_ok w d b t l (by omega)
      have hq := toInt64S_ok q (by omega)
      have H : GutT w d b c l := .mk' hw hd ht e1 hl (by omega)
      have k : ∃ (x y : Int), Ev (fun n => s_spec_LeastTakes n w d c b (pipes l) (ints .i64 q) p) (x, y) ∧ Ev (fun n => s_impl_LeastTakes n w d c b (pipes l) (ints .i64 q) p) (x, y) := by
        unfold s_spec_LeastTakes s_impl_LeastTakes
        rw [show ((pipes l).length : Int) = (l.length : Int) by simp [prs_length], w64 ((l.length : Int) - 1) (by omega)]
        have kr := l06Rain_ok H q (by omega)
        have ki := isRain_ok H q (by omega)
        cases hr : rainQ w q with
        | false =>
          rw [hr] at kr ki
          have hz : gutC w d b c l false ≠ 0 := fun h => by have := gutC_zero h; simp at this
          exact ⟨0, _, ev_bnd kr (ev_f rfl (ev_bnd (l06Asked_ok H _) (ev_f (by simpa using hz) ev_some))), ev_bnd ki (ev_f rfl (ev_bnd (gutterCode_ok H _) (ev_f (by simpa using hz) ev_some)))⟩
        | true =>
          rw [hr] at kr ki
          have ek : ∀ n, s_impl_within_int64 n p 0 ((l.length : Int) - 1) = some (decide (0 ≤ p) && decide (p ≤ (l.length : Int) - 1)) := fun n => within_i64 n _ _ _
          have es : ∀ n, s_spec_l00In n p 0 ((l.length : Int) - 1) = some (decide (0 ≤ p) && decide (p ≤ (l.length : Int) - 1)) := fun n => l00In_eq n _ _ _
          by_cases hz : gutC w d b c l (decide (0 ≤ p) && decide (p ≤ (l.length : Int) - 1)) = 0
          · obtain ⟨g1, g2⟩ := gutC_zero hz
            have hV : GutV w d b c l := ⟨H, g1⟩
            simp only [Bool.and_eq_true, decide_eq_true_eq] at g2
            obtain ⟨i, rfl⟩ := Int.eq_ofNat_of_zero_le g2.1
            have hi : i < l.length := by omega
            obtain ⟨r, r1, r2⟩ := takes_two hV hr hi 1001 0 (pr l i).2 (by omega)
            rw [set_pr_self l i hi] at r1 r2
            have fin : ∃ (x y : Int), (match r with | .inl _ => ((0 : Int), (6 : Int)) | .inr (a, b) => (a, b)) = (x, y) := ⟨_, _, rfl⟩
            obtain ⟨x, y, hxy⟩ := fin
            refine ⟨x, y, ev_bnd kr (ev_t rfl (ev_bnd (ev_of es) (ev_bnd (l06Asked_ok H _) (ev_t (decide_eq_true hz) (ev_bnd (l06Own_ok w d b c l (by omega)) (ev_chk (plain_gut ..) (ev_bnd r1 ?_))))))), ev_bnd ki (ev_t rfl (ev_bnd (ev_of ek) (ev_bnd (gutterCode_ok H _) (ev_t (decide_eq_true hz) (ev_bnd (own_ok w d b c l (by omega)) (ev_bnd r2 ?_))))))⟩
            · rw [← hxy]; cases r with
              | inl u => exact ev_some
              | inr u => exact ev_some
            · rw [← hxy]; cases r with
              | inl u => exact ev_some
              | inr u => exact ev_some
          · exact ⟨0, _, ev_bnd kr (ev_t rfl (ev_bnd (ev_of es) (ev_bnd (l06Asked_ok H _) (ev_f (decide_eq_false hz) ev_some)))), ev_bnd ki (ev_t rfl (ev_bnd (ev_of ek) (ev_bnd (gutterCode_ok H _) (ev_f (decide_eq_false hz) ev_some))))⟩
      obtain ⟨x, y, k1, k2⟩ := k
      refine ev_f (by simp; omega) (ev_bnd e2 (ev_bnd hq (ev_bnd k1 (ev_bnd e2 (ev_bnd hq (ev_bnd k2 (ev_t (by simp) (ev_t (by simp) ?_))))))))
      exact ev_bnd e2 (ev_bnd (eqGutter_ok _ _ _ _ _ (by omega)) (ev_t rfl (ev_bnd hq (ev_bnd (eqInt64S_okL q (by omega)) (ev_t rfl ev_some)))))
end Go.Proofs.Ytdhcfdiggcgmhaa
