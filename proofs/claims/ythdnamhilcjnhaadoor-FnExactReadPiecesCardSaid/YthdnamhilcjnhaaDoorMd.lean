/- Lists of pairs of numbers and rows of numbers: read, written, compared. -/
import Derived.Test.YthdnamhilcjnhaaDoorRs24
import Derived.Test.YthdnamhilcjnhaaDoorRg1
import Derived.Test.YthdnamhilcjnhaaDoorRq1
import Derived.Test.YthdnamhilcjnhaaDoorMb
namespace Go.Proofs.YthdnamhilcjnhaaDoor
open Go
set_option linter.unusedVariables false
set_option linter.unusedSimpArgs false

theorem nth_get {α : Type} : ∀ (l : List α) (i : Nat), nth l i = l[i]?
  | [], i => by simp [nth]
  | x :: l, 0 => by simp [nth]
  | x :: l, i + 1 => by simp [nth, nth_get l i]
theorem idx_nat (xs : List V) (i : Nat) : idx xs (i : Int) = xs[i]? := by
  unfold idx
  rw [decide_eq_true (Int.natCast_nonneg i)]
  simp only [Int.toNat_natCast, nth_get]
def pv (k k' : IntKind) (p : Int × Int) : V := V.parts [(V.int k (p.1)), (V.int k' (p.2))]
def prs (k k' : IntKind) (l : List (Int × Int)) : List V := l.map (pv k k')
def pr (l : List (Int × Int)) (j : Nat) : Int × Int := l.getD j (0, 0)
theorem prs_length (k k' : IntKind) (l : List (Int × Int)) : (prs k k' l).length = l.length := List.length_map ..
theorem pr_get {l : List (Int × Int)} {i : Nat} (h : i < l.length) : l[i]? = some (pr l i) := by
  rw [pr, List.getD_eq_getElem?_getD, List.getElem?_eq_getElem h]; rfl
theorem nth_prs (k k' : IntKind) (l : List (Int × Int)) (i : Nat) (h : i < l.length) : nth (prs k k' l) i = some (V.parts [(V.int k ((pr l i).1)), (V.int k' ((pr l i).2))]) := by
  rw [nth_get, prs, List.getElem?_map, pr_get h]; rfl
theorem idx_prs (k k' : IntKind) (l : List (Int × Int)) (i : Nat) (h : i < l.length) : idx (prs k k' l) (i : Int) = some (V.parts [(V.int k ((pr l i).1)), (V.int k' ((pr l i).2))]) := by
  rw [idx_nat, prs, List.getElem?_map, pr_get h]; rfl
theorem set_prs (k k' : IntKind) : ∀ (l : List (Int × Int)) (i : Nat) (a b : Int), setNth (prs k k' l) i (V.parts [(V.int k (a)), (V.int k' (b))]) = prs k k' (l.set i (a, b))
  | [], i, a, b => rfl
  | y :: l, 0, a, b => rfl
  | y :: l, i + 1, a, b => by
    have := set_prs k k' l i a b
    simp only [prs, List.map_cons, setNth, List.set_cons_succ] at this ⊢
    rw [this]
theorem rep_prs (k k' : IntKind) (n : Nat) : List.replicate n (V.parts [(V.int k (0)), (V.int k' (0))]) = prs k k' (List.replicate n (0, 0)) := by
  simp [prs, pv]
theorem prs_app (k k' : IntKind) (l m : List (Int × Int)) : prs k k' (l ++ m) = prs k k' l ++ prs k k' m := List.map_append ..
theorem like_prs (k k' : IntKind) : ∀ (l l' : List (Int × Int)), l.length = l'.length → likeRows (prs k k' l) (prs k k' l') = true
  | [], [], _ => rfl
  | [], _ :: _, h => by simp at h
  | _ :: _, [], h => by simp at h
  | x :: l, y :: l', h => by
    have := like_prs k k' l l' (by simpa using h)
    simp only [prs, pv, List.map_cons, likeRows, likeElem, likeParts, decide_true, Bool.true_and, Bool.and_true] at this ⊢
    exact this
/-- what an argument that is a list of pairs is -/
theorem prs_of {k k' : IntKind} : ∀ {xs : List V}, (∀ x, x ∈ xs → ∃ l, x = .parts l ∧ inL [.int k, .int k'] l) → ∃ l, xs = prs k k' l ∧ ∀ p, p ∈ l → (Lit.int k p.1).wf = true ∧ (Lit.int k' p.2).wf = true
  | [], _ => ⟨[], rfl, fun p hp => by cases hp⟩
  | x :: xs, h => by
    obtain ⟨l, rfl, e⟩ := prs_of (xs := xs) fun y hy => h y (List.mem_cons_of_mem _ hy)
    obtain ⟨m, rfl, hm⟩ := h x (List.mem_cons_self ..)
    simp only [inL, inP] at hm
    obtain ⟨v, r, rfl, ⟨a, rfl, ha⟩, v', r', rfl, ⟨b, rfl, hb⟩, rfl⟩ := hm
    refine ⟨(a, b) :: l, rfl, fun p hp => ?_⟩
    rcases List.mem_cons.1 hp with rfl | hp
    · exact ⟨ha, hb⟩
    · exact e p hp
theorem pr_mem {l : List (Int × Int)} {i : Nat} (h : i < l.length) : pr l i ∈ l := by
  have := pr_get h
  exact List.mem_of_getElem? this
theorem plain_prs (k k' : IntKind) (e : Nat) : ∀ (l : List (Int × Int)), plainV (V.fresh e (prs k k' l)) = true := by
  intro l
  show allB plainP.plainE (prs k k' l) = true
  induction l with
  | nil => rfl
  | cons p l ih => exact ih
/-- a row of N numbers -/
def row (N : Nat) (f : Nat → Nat) : List V := (List.range N).map fun i => V.int .i64 ((f i : Nat) : Int)
def pt (f : Nat → Nat) (i x : Nat) : Nat → Nat := fun j => if j = i then x else f j
theorem row_length (N : Nat) (f : Nat → Nat) : (row N f).length = N := by simp [row]
theorem nth_row {N : Nat} {f : Nat → Nat} {i : Nat} (h : i < N) : nth (row N f) i = some (V.int .i64 ((f i : Nat) : Int)) := by
  rw [nth_getE, row]; simp [h]
theorem idx_row {N : Nat} {f : Nat → Nat} {i : Nat} (h : i < N) : idx (row N f) (i : Int) = some (V.int .i64 ((f i : Nat) : Int)) := by
  rw [idx_nat, row]; simp [h]
theorem row_congr {N : Nat} {f g : Nat → Nat} (h : ∀ i, i < N → f i = g i) : row N f = row N g := by
  unfold row
  refine List.map_congr_left fun i hi => ?_
  rw [h i (by simpa using hi)]
theorem setNth_get {α : Type} : ∀ (l : List α) (i j : Nat) (x : α), (setNth l i x)[j]? = if j = i then (if i < l.length then some x else none) else l[j]?
  | [], i, j, x => by simp [setNth]
  | y :: l, 0, 0, x => by simp [setNth]
  | y :: l, 0, j + 1, x => by simp [setNth]
  | y :: l, i + 1, 0, x => by simp [setNth]
  | y :: l, i + 1, j + 1, x => by simp [setNth, setNth_get l i j x]
theorem set_row {N : Nat} {f : Nat → Nat} {i x : Nat} (h : i < N) : setNth (row N f) i (V.int .i64 (x : Int)) = row N (pt f i x) := by
  apply List.ext_getElem?
  intro j
  rw [setNth_get]
  unfold row
  by_cases hj : j < N
  · by_cases e : j = i
    · subst e; simp [pt, hj]
    · simp [pt, hj, e]
  · by_cases e : j = i
    · omega
    · simp [hj, e]
theorem like_row {N : Nat} {f g : Nat → Nat} : likeRows (row N f) (row N g) = true := by
  have : ∀ (l : List Nat), likeRows (l.map fun i => V.int .i64 ((f i : Nat) : Int)) (l.map fun i => V.int .i64 ((g i : Nat) : Int)) = true := by
    intro l
    induction l with
    | nil => rfl
    | cons x l ih => simp only [List.map_cons, likeRows, likeElem, decide_true, Bool.true_and]; exact ih
  exact this _
end Go.Proofs.YthdnamhilcjnhaaDoor
namespace Go.Proofs.YthdnamhilcjnhaaDoor
open Go
set_option linter.unusedVariables false
set_option linter.unusedSimpArgs false
abbrev pcl (l : List (Int × Int)) : List V := prs .i8 .i8 l
theorem eqPieceS_ok (l : List (Int × Int)) (hl : l.length ≤ 1048576) : Ev (fun n => s_laws_eqPieceS n (pcl l) (pcl l)) true := by
  unfold s_laws_eqPieceS
  refine ev_t (by simp) (ev_bnd (a := Sum.inl ()) ?_ ev_some)
  have := loop_all (l := fun n k => l_laws_eqPieceS_b0 n (pcl l) (pcl l) (k : Nat)) (p := fun _ => true) (A := .inl ()) (B := .inr false) l.length (ev_f (by simp [prs_length]) ev_some) (by
    intro k hk _ a ih
    refine ev_t (by simp [prs_length]; omega) (ev_bnd (a := ((pr l k).1, (pr l k).2)) (ev_of fun n => by rw [idx_prs _ _ _ _ hk]; rfl) (ev_bnd (a := ((pr l k).1, (pr l k).2)) (ev_of fun n => by rw [idx_prs _ _ _ _ hk]; rfl) (ev_bnd (a := true) (by
      unfold s_laws_eqPiece
      exact ev_t (by simp) (ev_t (by simp) ev_some)) (ev_t rfl ?_))))
    rw [up64 k (by omega)]
    exact ih) (by intro k hk h; cases h) l.length 0 (by omega)
  have h2 : allN (fun _ => true) 0 l.length = true := (allN_iff _ _ _).2 fun _ _ _ => rfl
  rw [h2] at this
  exact this
def mark2 (k0 j : Nat) : Int × Int := (IntKind.i8.wrap ((k0 + 2 * j : Nat) : Int), IntKind.i8.wrap ((k0 + 2 * j + 1 : Nat) : Int))
def marks2 (k0 n : Nat) : List (Int × Int) := (List.range' 0 n).map (mark2 k0)
theorem marks2_length (k0 n : Nat) : (marks2 k0 n).length = n := by simp [marks2]
theorem marks2_get (k0 n j : Nat) (h : j < n) : (marks2 k0 n)[j]? = some (mark2 k0 j) := by simp [marks2, h]
theorem marks2_pr (k0 n j : Nat) (h : j < n) : pr (marks2 k0 n) j = mark2 k0 j := by
  have := pr_get (l := marks2 k0 n) (i := j) (by rw [marks2_length]; exact h)
  rw [marks2_get _ _ _ h] at this
  exact (Option.some.inj this).symm
theorem markPieceS_ok (l : List (Int × Int)) (k0 : Nat) (hl : l.length ≤ 1000000 ∧ k0 ≤ 1000) : Ev (fun n => s_laws_markPieceS n (pcl l) (k0 : Int)) (((k0 + 2 * l.length : Nat) : Int), pcl (marks2 k0 l.length)) := by
  unfold s_laws_markPieceS
  obtain ⟨v, hv, h1⟩ := loop_up (l := fun n k (st : List (Int × Int)) => l_laws_markPieceS_b0 n ((k0 + 2 * k : Nat) : Int) (k : Nat) (pcl st)) (I := fun k st => st.length = l.length ∧ ∀ j, j < k → st[j]? = some (mark2 k0 j))
    (P := fun v => v = (((k0 + 2 * l.length : Nat) : Int), pcl (marks2 k0 l.length))) l.length (by
    rintro k st hk ⟨e1, e2⟩ ih
    by_cases hlt : k < l.length
    · have hk2 : k < st.length := by omega
      refine tot_t (by simp [prs_length]; omega) (tot_chk (inB_k _ _ (by rw [prs_length]; exact hk2)) (tot_ev (a := ((pr st k).1, (pr st k).2)) (ev_of fun n => by rw [Int.toNat_natCast, nth_prs _ _ _ _ hk2]; rfl) (tot_ev (a := ((pr st k).1, (pr st k).2)) (ev_of fun n => by rw [Int.toNat_natCast, nth_prs _ _ _ _ hk2]; rfl) ?_)))
      rw [Int.toNat_natCast]
      dsimp only
      rw [set_prs]
      have hq : pr (st.set k (IntKind.i8.wrap ((k0 + 2 * k : Nat) : Int), (pr st k).2)) k = (IntKind.i8.wrap ((k0 + 2 * k : Nat) : Int), (pr st k).2) := by
        unfold pr; rw [List.getD_eq_getElem?_getD, List.getElem?_set, if_pos rfl, if_pos hk2]; rfl
      have hg : ∀ n : Nat, bnd (nth (pcl (st.set k (IntKind.i8.wrap ((k0 + 2 * k : Nat) : Int), (pr st k).2))) k) as_Pi8_i8Q = some (IntKind.i8.wrap ((k0 + 2 * k : Nat) : Int), (pr st k).2) := by
        intro n
        rw [nth_prs _ _ _ _ (by simp; exact hk2), hq]; rfl
      refine tot_chk (inB_k _ _ (by simp [prs_length]; exact hk2)) (tot_ev (ev_of hg) (tot_ev (ev_of hg) ?_))
      dsimp only
      rw [set_prs, up64 k (by omega), up64 (k0 + 2 * k) (by omega), up64 (k0 + 2 * k + 1) (by omega), show k0 + 2 * k + 1 + 1 = k0 + 2 * (k + 1) by omega, List.set_set]
      refine ih hlt _ ⟨by simp [e1], fun j hj => ?_⟩
      rw [List.getElem?_set]
      by_cases h : k = j
      · subst h; rw [if_pos rfl, if_pos hk2]; rfl
      · rw [if_neg h]; exact e2 j (by omega)
    · obtain rfl : k = l.length := by omega
      refine tot_f (by simp [prs_length]; omega) (tot_some ?_)
      refine Prod.ext rfl ?_
      show pcl st = pcl _
      congr 1
      apply List.ext_getElem?
      intro j
      by_cases hj : j < l.length
      · rw [e2 j hj, marks2_get _ _ _ hj]
      · rw [List.getElem?_eq_none (by omega), List.getElem?_eq_none (by rw [marks2_length]; omega)]) 0 l (by omega) ⟨rfl, fun j hj => by omega⟩
  subst hv
  exact ev_bnd h1 ev_some
theorem heldPieceS_ok (m k0 : Nat) (hm : m ≤ 1000000 ∧ k0 ≤ 1000) : Ev (fun n => s_laws_heldPieceS n (pcl (marks2 k0 m)) (k0 : Int)) ((k0 + 2 * m : Nat) : Int) := by
  unfold s_laws_heldPieceS
  refine ev_bnd (a := Sum.inl ((k0 + 2 * m : Nat) : Int)) ?_ ev_some
  have := loop_all (l := fun n k => l_laws_heldPieceS_b0 n (pcl (marks2 k0 m)) ((k0 + 2 * k : Nat) : Int) (k : Nat)) (p := fun _ => true) (A := .inl ((k0 + 2 * m : Nat) : Int)) (B := .inr (-1)) m (ev_f (by simp [prs_length, marks2_length]) ev_some) (by
    intro k hk _ a ih
    have hg : ∀ n : Nat, bnd (idx (pcl (marks2 k0 m)) (k : Int)) as_Pi8_i8Q = some (IntKind.i8.wrap ((k0 + 2 * k : Nat) : Int), IntKind.i8.wrap ((k0 + 2 * k + 1 : Nat) : Int)) := by
      intro n
      rw [idx_prs _ _ _ _ (by rw [marks2_length]; exact hk), marks2_pr _ _ _ hk]; rfl
    refine ev_t (by simp [prs_length, marks2_length]; omega) (ev_bnd (ev_of hg) (ev_t (by simp) (ev_bnd (ev_of hg) ?_)))
    rw [up64 (k0 + 2 * k) (by omega)]
    refine ev_t (by simp) ?_
    rw [up64 k (by omega), up64 (k0 + 2 * k + 1) (by omega), show k0 + 2 * k + 1 + 1 = k0 + 2 * (k + 1) by omega]
    exact ih) (by intro k hk h; cases h) m 0 (by omega)
  have h2 : allN (fun _ => true) 0 m = true := (allN_iff _ _ _).2 fun _ _ _ => rfl
  rw [h2] at this
  exact this
end Go.Proofs.YthdnamhilcjnhaaDoor
namespace Go.Proofs.YthdnamhilcjnhaaDoor
open Go
set_option linter.unusedVariables false
set_option linter.unusedSimpArgs false
theorem words_none : ∀ {l : List UInt8}, (∀ x, x ∈ l → x ≠ 32) → wordsOf l = [l]
  | [], _ => rfl
  | b :: l, h => by
    have hb : (b == 32) = false := by simpa using h b (List.mem_cons_self ..)
    unfold wordsOf
    rw [hb, words_none fun x hx => h x (List.mem_cons_of_mem _ hx)]
theorem words_at : ∀ {u v : List UInt8}, (∀ x, x ∈ u → x ≠ 32) → wordsOf (u ++ 32 :: v) = u :: wordsOf v
  | [], v, _ => by
    show wordsOf (32 :: v) = _
    conv => lhs; unfold wordsOf
    rfl
  | b :: u, v, h => by
    have hb : (b == 32) = false := by simpa using h b (List.mem_cons_self ..)
    show wordsOf (b :: (u ++ 32 :: v)) = _
    conv => lhs; unfold wordsOf
    rw [hb, words_at fun x hx => h x (List.mem_cons_of_mem _ hx)]
theorem words_len : ∀ (l : List UInt8), (wordsOf l).length ≤ l.length + 1
  | [] => by simp [wordsOf]
  | b :: l => by
    have ih := words_len l
    unfold wordsOf
    split
    · simp; omega
    · split
      · simp
      · rename_i w ws he
        rw [he] at ih
        simp at ih ⊢
        omega
def tx (l : List UInt8) : V := .str ⟨l.toArray⟩
def txs (ws : List (List UInt8)) : List V := ws.map tx
theorem ba_ext {a b : ByteArray} (h : a.data.toList = b.data.toList) : a = b := by
  obtain ⟨⟨x⟩⟩ := a
  obtain ⟨⟨y⟩⟩ := b
  simp only at h
  rw [h]
theorem ba_extract (r : ByteArray) (i j : Nat) : r.extract i j = ⟨((r.data.toList.take j).drop i).toArray⟩ := by
  apply ba_ext
  rw [ByteArray.data_extract, Array.toList_extract, List.extract_eq_take_drop, List.drop_take]
theorem ba_size (r : ByteArray) : r.data.toList.length = r.size := by simp
theorem strAt_get (r : ByteArray) (i : Nat) (h : i < r.size) : strAt r i = ((r.data.toList[i]'(by rw [ba_size]; exact h)).toNat : Int) := by
  unfold strAt
  rw [List.getD_eq_getElem?_getD, List.getElem?_eq_getElem (by rw [ba_size]; exact h)]
  rfl
theorem split_ok (s : ByteArray) (hs : s.size ≤ 1048576) : Ev (fun n => s_spec_l01Split n s 32) (txs (wordsOf s.data.toList)) := by
  unfold s_spec_l01Split
  obtain ⟨v, hv, h1⟩ := loop_up (l := fun n k (st : Nat × List (List UInt8)) => l_spec_l01Split_b0 n s 32 (st.1 : Int) (k : Int) (txs st.2)) (I := fun k st => st.1 ≤ k ∧ st.2.length ≤ st.1 ∧ st.2 ++ wordsOf (s.data.toList.drop st.1) = wordsOf s.data.toList ∧ ∀ x, x ∈ (s.data.toList.take k).drop st.1 → x ≠ 32)
    (P := fun v => ∃ st : Nat × List (List UInt8), v = (s, (st.1 : Int), txs st.2) ∧ st.1 ≤ s.size ∧ st.2.length ≤ st.1 ∧ st.2 ++ [s.data.toList.drop st.1] = wordsOf s.data.toList) s.size (by
    rintro k ⟨b, acc⟩ hk ⟨e1, e2, e3, e4⟩ ih
    dsimp only at e1 e2 e3 e4 ih ⊢
    by_cases hlt : k < s.size
    · refine tot_t (by simp; omega) (tot_chk (inB_k _ _ hlt) ?_)
      rw [Int.toNat_natCast, strAt_get s k hlt, up64 k (by omega)]
      have hkl : k < s.data.toList.length := by rw [ba_size]; exact hlt
      by_cases h32 : s.data.toList[k] = 32
      · refine tot_t (by rw [h32]; rfl) (tot_chk (by simp; omega) (tot_chk (by simp; omega) (tot_chk (by simp [txs]; omega) ?_)))
        rw [Int.toNat_natCast, ba_extract]
        have e5 : s.data.toList.drop b = (s.data.toList.take k).drop b ++ 32 :: s.data.toList.drop (k + 1) := by
          have h1 : s.data.toList = s.data.toList.take k ++ s.data.toList[k] :: s.data.toList.drop (k + 1) := by
            rw [← List.drop_eq_getElem_cons hkl, List.take_append_drop]
          conv => lhs; rw [h1]
          rw [List.drop_append_of_le_length (by rw [List.length_take]; omega), h32]
        have e6 := words_at (v := s.data.toList.drop (k + 1)) e4
        rw [← e5] at e6
        have := ih hlt (k + 1, acc ++ [(s.data.toList.take k).drop b]) ⟨Nat.le_refl _, by simp; omega, by rw [List.append_assoc, List.singleton_append, ← e6]; exact e3, fun x hx => by
          rw [List.drop_of_length_le (by rw [List.length_take]; omega)] at hx; cases hx⟩
        simpa [txs, tx] using this
      · refine tot_f (by
          simp only [decide_eq_false_iff_not]
          intro h
          apply h32
          have : s.data.toList[k].toNat = 32 := by omega
          exact UInt8.toNat_inj.1 this) ?_
        refine ih hlt (b, acc) ⟨by omega, e2, e3, fun x hx => ?_⟩
        have h1 : s.data.toList.take (k + 1) = s.data.toList.take k ++ [s.data.toList[k]] := by rw [List.take_succ_eq_append_getElem hkl]
        rw [h1, List.drop_append_of_le_length (by rw [List.length_take]; omega)] at hx
        rcases List.mem_append.1 hx with hx | hx
        · exact e4 x hx
        · simp at hx; subst hx; exact h32
    · obtain rfl : k = s.size := by omega
      refine tot_f (by simp) (tot_some ⟨(b, acc), rfl, e1, e2, ?_⟩)
      rw [List.take_of_length_le (by rw [ba_size]; exact Nat.le_refl _)] at e4
      rw [words_none e4] at e3
      exact e3) 0 (0, []) (by omega) ⟨Nat.le_refl _, by simp, rfl, fun x hx => by simp at hx⟩
  obtain ⟨⟨b, acc⟩, rfl, g1, g2, g3⟩ := hv
  dsimp only at g1 g2 g3
  refine ev_bnd h1 ?_
  dsimp only
  refine ev_chk (by simp; omega) (ev_chk (by simp [txs]; omega) (ev_cast ev_some ?_))
  rw [Int.toNat_natCast, ba_extract, List.take_of_length_le (by rw [ba_size]; exact Nat.le_refl _), ← g3]
  simp [txs, tx]
end Go.Proofs.YthdnamhilcjnhaaDoor
namespace Go.Proofs.YthdnamhilcjnhaaDoor
open Go
set_option linter.unusedVariables false
set_option linter.unusedSimpArgs false
def handOf (a : UInt8) : Option Int := if a = 108 then some 0 else if a = 114 then some 1 else if a = 109 then some 2 else none
def digOf (b : UInt8) : Option Int := if 48 ≤ b.toNat ∧ b.toNat ≤ 55 then some ((b.toNat : Int) - 48) else none
/-- what the reference makes of a word -/
def specW : List UInt8 → Option (Int × Int)
  | [a, b] => match handOf a, digOf b with
    | some h, some d => some (h, d)
    | _, _ => none
  | _ => none
theorem specW_two (a b : UInt8) : specW [a, b] = match handOf a, digOf b with
    | some h, some d => some (h, d)
    | _, _ => none := rfl
theorem wordP_two (a b : UInt8) : wordP [a, b] = match isP (IntKind.i8.wrap (Lib.indexByte [108, 114, 109] a)) (IntKind.i8.wrap (IntKind.i8.wrap (IntKind.u8.wrap (BitVec.ofInt IntKind.u8.bits b.toNat &&& BitVec.ofInt IntKind.u8.bits 127).toNat) - 48)) with
    | true => match (handS (IntKind.i8.wrap (Lib.indexByte [108, 114, 109] a)) ++ digS (IntKind.i8.wrap (IntKind.i8.wrap (IntKind.u8.wrap (BitVec.ofInt IntKind.u8.bits b.toNat &&& BitVec.ofInt IntKind.u8.bits 127).toNat) - 48))).toList == [a, b] with
      | true => some (IntKind.i8.wrap (Lib.indexByte [108, 114, 109] a), IntKind.i8.wrap (IntKind.i8.wrap (IntKind.u8.wrap (BitVec.ofInt IntKind.u8.bits b.toNat &&& BitVec.ofInt IntKind.u8.bits 127).toNat) - 48))
      | false => none
    | false => none := rfl
theorem word_l : ∀ i : Fin 256, wordP [108, UInt8.ofNat i.val] = if 49 ≤ i.val ∧ i.val ≤ 55 then some (0, (i.val : Int) - 48) else none := by decide +kernel
theorem word_r : ∀ i : Fin 256, wordP [114, UInt8.ofNat i.val] = if 49 ≤ i.val ∧ i.val ≤ 55 then some (1, (i.val : Int) - 48) else none := by decide +kernel
theorem word_m : ∀ i : Fin 256, wordP [109, UInt8.ofNat i.val] = if 49 ≤ i.val ∧ i.val ≤ 55 then some (2, (i.val : Int) - 48) else none := by decide +kernel
theorem word_x {a b : UInt8} (h : handOf a = none) : wordP [a, b] = none := by
  unfold handOf at h
  have h1 : a ≠ 108 := fun e => by rw [if_pos e] at h; cases h
  rw [if_neg h1] at h
  have h2 : a ≠ 114 := fun e => by rw [if_pos e] at h; cases h
  rw [if_neg h2] at h
  have h3 : a ≠ 109 := fun e => by rw [if_pos e] at h; cases h
  have hi : Lib.indexByte [108, 114, 109] a = -1 := by
    simp [Lib.indexByte, Ne.symm h1, Ne.symm h2, Ne.symm h3]
  rw [wordP_two, hi]
  rfl
/-- the program takes a word as the reference does, but for a number of 0 -/
theorem wordP_eq (w : List UInt8) : wordP w = match specW w with
    | some p => if 1 ≤ p.2 then some p else none
    | none => none := by
  match w with
  | [] => rfl
  | [_] => rfl
  | _ :: _ :: _ :: _ => rfl
  | [a, b] =>
    have hb : ∃ i : Fin 256, b = UInt8.ofNat i.val := ⟨⟨b.toNat, b.toNat_lt⟩, by simp⟩
    obtain ⟨i, rfl⟩ := hb
    have hn : (UInt8.ofNat i.val).toNat = i.val := by have := i.isLt; simp
    rw [specW_two]
    cases hh : handOf a with
    | none => rw [word_x hh]
    | some h =>
      have key : wordP [a, UInt8.ofNat i.val] = if 49 ≤ i.val ∧ i.val ≤ 55 then some (h, (i.val : Int) - 48) else none := by
        unfold handOf at hh
        split at hh
        · rename_i e; subst e; obtain rfl := Option.some.inj hh; exact word_l i
        · split at hh
          · rename_i e; subst e; obtain rfl := Option.some.inj hh; exact word_r i
          · split at hh
            · rename_i e; subst e; obtain rfl := Option.some.inj hh; exact word_m i
            · cases hh
      rw [key]
      unfold digOf
      rw [hn]
      by_cases h1 : 49 ≤ i.val ∧ i.val ≤ 55
      · rw [if_pos h1, if_pos (by omega)]
        dsimp only
        rw [if_pos (by omega)]
      · rw [if_neg h1]
        by_cases h2 : 48 ≤ i.val ∧ i.val ≤ 55
        · rw [if_pos h2]; dsimp only; rw [if_neg (by omega)]
        · rw [if_neg h2]
theorem specW_b {w : List UInt8} {p : Int × Int} (h : specW w = some p) : 0 ≤ p.1 ∧ p.1 ≤ 2 ∧ 0 ≤ p.2 ∧ p.2 ≤ 7 := by
  match w, h with
  | [a, b], h =>
    rw [specW_two] at h
    split at h
    · rename_i x y hx hy
      obtain rfl := Option.some.inj h
      unfold handOf at hx
      unfold digOf at hy
      split at hy
      · obtain rfl := Option.some.inj hy
        dsimp only
        split at hx
        · obtain rfl := Option.some.inj hx; omega
        · split at hx
          · obtain rfl := Option.some.inj hx; omega
          · split at hx
            · obtain rfl := Option.some.inj hx; omega
            · cases hx
      · cases hy
    · cases h
/-- the reference's words, one behind another -/
def specGo : List (List UInt8) → List (Int × Int) → Option (List (Int × Int))
  | [], acc => some acc
  | w :: ws, acc => match specW w with
    | some p => specGo ws (acc ++ [p])
    | none => none
def okPs (l : List (Int × Int)) : Bool := allN (fun j => decide (0 ≤ (pr l j).1 ∧ (pr l j).1 ≤ 2 ∧ 1 ≤ (pr l j).2 ∧ (pr l j).2 ≤ 7)) 0 l.length
theorem okPs_iff (l : List (Int × Int)) : okPs l = true ↔ ∀ p, p ∈ l → 0 ≤ p.1 ∧ p.1 ≤ 2 ∧ 1 ≤ p.2 ∧ p.2 ≤ 7 := by
  unfold okPs
  rw [allN_iff]
  constructor
  · intro h p hp
    obtain ⟨j, hj, e⟩ := List.getElem_of_mem hp
    have := h j (Nat.zero_le _) (by omega)
    simp only [decide_eq_true_eq] at this
    have e2 : pr l j = p := by have := pr_get hj; rw [List.getElem?_eq_getElem hj, e] at this; exact (Option.some.inj this).symm
    rwa [e2] at this
  · intro h j _ hj
    simp only [decide_eq_true_eq]
    exact h _ (pr_mem (by omega))
theorem specGo_app : ∀ {ws : List (List UInt8)} {acc ps : List (Int × Int)}, specGo ws acc = some ps → ∃ q, ps = acc ++ q ∧ q.length = ws.length
  | [], acc, ps, h => ⟨[], by rw [List.append_nil]; exact (Option.some.inj h).symm, rfl⟩
  | w :: ws, acc, ps, h => by
    rw [show specGo (w :: ws) acc = match specW w with | some p => specGo ws (acc ++ [p]) | none => none from rfl] at h
    split at h
    · rename_i p _
      obtain ⟨q, rfl, hq⟩ := specGo_app h
      exact ⟨p :: q, by simp, by simp [hq]⟩
    · cases h
/-- what the reference gives back -/
def specRes (ws : List (List UInt8)) (acc : List (Int × Int)) : List (Int × Int) × Int := match specGo ws acc with
  | some ps => if okPs ps = true ∧ ps.length ≤ 30 then (ps, 0) else ([], 5)
  | none => ([], 5)
theorem rpGo_cons' (u : List UInt8) (us : List (List UInt8)) (acc : List (Int × Int)) : rpGo (u :: us) acc = match decide (acc.length = 30) with
    | true => ([], 5)
    | false => match wordP u with
      | some p => rpGo us (acc ++ [p])
      | none => ([], 5) := rfl
theorem rp_spec : ∀ (ws : List (List UInt8)) (acc : List (Int × Int)), okPs acc = true → acc.length ≤ 30 → rpGo ws acc = specRes ws acc
  | [], acc, h, hl => by
    unfold specRes specGo
    dsimp only
    rw [if_pos ⟨h, hl⟩]
    rfl
  | w :: ws, acc, h, hl => by
    rw [rpGo_cons', wordP_eq]
    unfold specRes
    by_cases h30 : acc.length = 30
    · rw [show decide (acc.length = 30) = true by simpa using h30]
      dsimp only
      cases hg : specGo (w :: ws) acc with
      | none => rfl
      | some ps =>
        obtain ⟨q, rfl, hq⟩ := specGo_app hg
        dsimp only
        rw [if_neg (by simp at hq ⊢; omega)]
    · rw [show decide (acc.length = 30) = false by simpa using h30]
      dsimp only
      have hgo : specGo (w :: ws) acc = match specW w with
        | some p => specGo ws (acc ++ [p])
        | none => none := rfl
      rw [hgo]
      cases hw : specW w with
      | none => rfl
      | some p =>
        dsimp only
        have hb := specW_b hw
        by_cases h1 : 1 ≤ p.2
        · rw [if_pos h1]
          dsimp only
          rw [rp_spec ws (acc ++ [p]) ((okPs_iff _).2 fun y hy => by
            rcases List.mem_append.1 hy with hy | hy
            · exact (okPs_iff _).1 h y hy
            · simp at hy; subst hy; omega) (by simp; omega)]
          rfl
        · rw [if_neg h1]
          dsimp only
          cases hg : specGo ws (acc ++ [p]) with
          | none => rfl
          | some ps =>
            obtain ⟨q, rfl, hq⟩ := specGo_app hg
            dsimp only
            rw [if_neg]
            rintro ⟨h2, _⟩
            have := (okPs_iff _).1 h2 p (by simp)
            omega
end Go.Proofs.YthdnamhilcjnhaaDoor
namespace Go.Proofs.YthdnamhilcjnhaaDoor
open Go
set_option linter.unusedVariables false
set_option linter.unusedSimpArgs false
theorem strAt_b (t : ByteArray) (k : Nat) : 0 ≤ strAt t k ∧ strAt t k ≤ 255 := by
  unfold strAt
  have := (t.data.toList.getD k 0).toNat_lt
  omega
theorem number_loop (t : ByteArray) (h1 : 1 ≤ t.size) (h10 : t.size ≤ 10) : Tot (fun n => l_spec_l01Number_b0 n t 0 0) (fun r => match r with
    | .inl v => 0 ≤ v ∧ 48 ≤ strAt t 0 ∧ strAt t 0 ≤ 57 ∧ (t.size = 1 → v = strAt t 0 - 48) ∧ (2 ≤ t.size → strAt t 0 ≠ 48 → 10 ≤ v)
    | .inr (v, ok) => ok = false ∧ (t.size = 1 → strAt t 0 < 48 ∨ 57 < strAt t 0)) := by
  refine loop_up (l := fun n k (st : Int) => l_spec_l01Number_b0 n t st (k : Int)) (I := fun k st => 0 ≤ st ∧ st < 10 ^ k ∧ (k = 0 → st = 0) ∧ (1 ≤ k → 48 ≤ strAt t 0 ∧ strAt t 0 ≤ 57) ∧ (k = 1 → st = strAt t 0 - 48) ∧ (2 ≤ k → strAt t 0 ≠ 48 → 10 ≤ st)) t.size ?_ 0 0 (by omega) ⟨by omega, by simp, fun _ => rfl, fun h => by omega, fun h => by omega, fun h => by omega⟩
  rintro k st hk ⟨e1, e2, e3, e4, e5, e6⟩ ih
  have hp : (10 : Int) ^ k ≤ 10 ^ 10 := by
    have : (10 : Nat) ^ k ≤ 10 ^ 10 := Nat.pow_le_pow_right (by omega) (by omega)
    exact_mod_cast this
  have hp10 : (10 : Int) ^ 10 = 10000000000 := by decide
  by_cases hlt : k < t.size
  · have hb := strAt_b t k
    refine tot_t (by simp; omega) (tot_chk (inB_k _ _ hlt) ?_)
    rw [Int.toNat_natCast]
    by_cases h48 : strAt t k < 48
    · refine tot_t (by simpa using h48) (tot_some ⟨rfl, fun hs => ?_⟩)
      obtain rfl : k = 0 := by omega
      exact .inl h48
    · refine tot_f (by simpa using h48) ?_
      by_cases h57 : 57 < strAt t k
      · refine tot_t (by simpa using h57) (tot_some ⟨rfl, fun hs => ?_⟩)
        obtain rfl : k = 0 := by omega
        exact .inr h57
      · refine tot_f (by simpa using h57) ?_
        rw [up64 k (by omega), wu8 (strAt t k - 48) (by omega), w64 (strAt t k - 48) (by omega), w64 (10 * st) (by omega), w64 _ (by omega)]
        refine ih hlt _ ⟨by omega, ?_, fun h => by omega, fun _ => ?_, fun h => ?_, fun h2 hn => ?_⟩
        · rw [Int.pow_succ]; omega
        · by_cases hk0 : k = 0
          · subst hk0; omega
          · exact e4 (by omega)
        · obtain rfl : k = 0 := by omega
          have := e3 rfl
          omega
        · by_cases hk1 : k = 1
          · subst hk1
            have := e5 rfl
            have := e4 (by omega)
            omega
          · have := e6 (by omega) hn
            omega
  · obtain rfl : k = t.size := by omega
    refine tot_f (by simp) (tot_some ⟨e1, (e4 h1).1, (e4 h1).2, e5, e6⟩)
/-- the number of a text: one digit, or it is not taken -/
theorem number_ok (t : ByteArray) (hs : t.size ≤ 1048576) : ∃ (v : Int) (ok : Bool), Ev (fun n => s_spec_l01Number n t) (v, ok) ∧
    ((∃ b d, t.data.toList = [b] ∧ digOf b = some d ∧ ok = true ∧ v = d ∧ v < 8) ∨ ((∀ b, t.data.toList = [b] → digOf b = none) ∧ (ok = false ∨ 8 ≤ v))) := by
  unfold s_spec_l01Number
  by_cases h0 : t.size = 0
  · have hl : t.data.toList = [] := List.eq_nil_of_length_eq_zero (by rw [ba_size]; exact h0)
    refine ⟨0, false, ev_t (by rw [Lib.toList_data, Lib.toList_data, hl]; rfl) ev_some, .inr ⟨fun b hb => (by rw [hl] at hb; cases hb), .inl rfl⟩⟩
  · have hne : (t.toList == (⟨#[]⟩ : ByteArray).toList) = false := by
      rw [Lib.toList_data, Lib.toList_data]
      cases hl : t.data.toList with
      | nil => exact absurd (by rw [← ba_size, hl]; rfl) h0
      | cons _ _ => rfl
    by_cases h10 : 10 < t.size
    · refine ⟨0, false, ev_f hne (ev_t (by simp; omega) ev_some), .inr ⟨fun b hb => ?_, .inl rfl⟩⟩
      have : t.data.toList.length = 1 := by rw [hb]; rfl
      rw [ba_size] at this; omega
    · have hloop := number_loop t (by omega) (by omega)
      obtain ⟨r, hr, hev⟩ := hloop
      have one : ∀ b, t.data.toList = [b] → t.size = 1 ∧ strAt t 0 = (b.toNat : Int) := fun b hb => by
        refine ⟨by rw [← ba_size, hb]; rfl, ?_⟩
        unfold strAt; rw [hb]; rfl
      have toB : t.size = 1 → ∃ b, t.data.toList = [b] := fun h => by
        have : t.data.toList.length = 1 := by rw [ba_size]; exact h
        exact List.length_eq_one_iff.1 this
      have notD : ∀ b, t.data.toList = [b] → (strAt t 0 < 48 ∨ 55 < strAt t 0) → digOf b = none := fun b hb h => by
        obtain ⟨_, h2⟩ := one b hb
        unfold digOf
        rw [if_neg (by omega)]
      by_cases hz : strAt t 0 = 48 ∧ 1 < t.size
      · refine ⟨0, false, ev_f hne (ev_f (by simp; omega) (ev_chk (inB_k 0 _ (by omega)) (ev_t (by simpa using hz.1) (ev_t (by simp; omega) ev_some)))), .inr ⟨fun b hb => ?_, .inl rfl⟩⟩
        have := one b hb
        omega
      · have go : ∀ {v : Int} {ok : Bool}, Ev (fun n => bnd (l_spec_l01Number_b0 n t 0 0) fun w => match w with | .inl u => some (u, true) | .inr (u, b) => some (u, b)) (v, ok) → Ev (fun n => cnd (t.toList == (⟨#[]⟩ : ByteArray).toList) (some (0, false)) (cnd (decide ((10) < ((t.size : Int)))) (some (0, false)) (chk (inB (0) t.size) (cnd (decide ((strAt t ((0 : Int)).toNat) = (48))) (cnd (decide ((1) < ((t.size : Int)))) (some (0, false)) (bnd (l_spec_l01Number_b0 n t 0 0) fun w => match w with | .inl u => some (u, true) | .inr (u, b) => some (u, b))) (bnd (l_spec_l01Number_b0 n t 0 0) fun w => match w with | .inl u => some (u, true) | .inr (u, b) => some (u, b)))))) (v, ok) := by
          intro v ok h
          refine ev_f hne (ev_f (by simp; omega) (ev_chk (inB_k 0 _ (by omega)) ?_))
          by_cases h48 : strAt t 0 = 48
          · exact ev_t (by simpa using h48) (ev_f (by simp; omega) h)
          · exact ev_f (by simpa using h48) h
        cases r with
        | inl v =>
          obtain ⟨g1, g2, g3, g4, g5⟩ := hr
          refine ⟨v, true, go (ev_bnd hev ev_some), ?_⟩
          by_cases hsz : t.size = 1
          · obtain ⟨b, hb⟩ := toB hsz
            have h2 := (one b hb).2
            have h4 := g4 hsz
            by_cases h55 : strAt t 0 ≤ 55
            · refine .inl ⟨b, (b.toNat : Int) - 48, hb, ?_, rfl, by omega, by omega⟩
              unfold digOf
              rw [if_pos (by omega)]
            · exact .inr ⟨fun b' hb' => notD b' hb' (by omega), .inr (by omega)⟩
          · refine .inr ⟨fun b hb => absurd (one b hb).1 hsz, .inr ?_⟩
            have := g5 (by omega) (fun h => hz ⟨h, by omega⟩)
            omega
        | inr q =>
          obtain ⟨v, ok⟩ := q
          obtain ⟨rfl, g2⟩ := hr
          refine ⟨v, false, go (ev_bnd hev ev_some), .inr ⟨fun b hb => ?_, .inl rfl⟩⟩
          have := g2 (one b hb).1
          exact notD b hb (by omega)
theorem nth_txs (ws : List (List UInt8)) (i : Nat) (h : i < ws.length) : nth (txs ws) i = some (tx ws[i]) := by
  rw [nth_get, txs, List.getElem?_map, List.getElem?_eq_getElem h]; rfl
theorem tx_size (w : List UInt8) : (⟨w.toArray⟩ : ByteArray).size = w.length := by simp [ByteArray.size]
theorem tx_data (w : List UInt8) : (⟨w.toArray⟩ : ByteArray).data.toList = w := rfl
/-- the hand of a word -/
def handW (w : List UInt8) : Int := match w with
  | a :: _ :: _ => (handOf a).getD (-1)
  | _ => -1
theorem hand_step (ws : List (List UInt8)) (acc : List V) (i k : Nat) (h : Int) (hi : i < ws.length) (hk : k < 3) {r : Int × Int × List V × List V}
    (ih : Ev (fun n => l_spec_ReadPieces_b2 n (i : Int) (if 2 ≤ ws[i].length ∧ ((ws[i].getD 0 0).toNat : Int) = strAt ⟨#[108, 114, 109]⟩ k then (k : Int) else h) ((k + 1 : Nat) : Int) acc (txs ws)) r) : Ev (fun n => l_spec_ReadPieces_b2 n (i : Int) h (k : Int) acc (txs ws)) r := by
  apply ev_succ
  have g : ∀ n : Nat, bnd (nth (txs ws) ((i : Int)).toNat) as_s = some ⟨ws[i].toArray⟩ := fun n => by rw [Int.toNat_natCast, nth_txs _ _ hi]; rfl
  refine ev_t (by simp; omega) (ev_chk (inB_k _ _ (by simpa [txs] using hi)) (ev_bnd (ev_of g) ?_))
  rw [tx_size, up64 k (by omega)]
  by_cases h2 : 2 ≤ ws[i].length
  · refine ev_t (by simp; omega) (ev_bnd (ev_of g) (ev_chk (inB_k 0 _ (by rw [tx_size]; omega)) (ev_chk (inB_k k _ (by show k < 3; exact hk)) ?_)))
    have e : strAt (⟨ws[i].toArray⟩ : ByteArray) ((0 : Int)).toNat = ((ws[i].getD 0 0).toNat : Int) := rfl
    rw [e, Int.toNat_natCast]
    by_cases hq : ((ws[i].getD 0 0).toNat : Int) = strAt ⟨#[108, 114, 109]⟩ k
    · rw [if_pos ⟨h2, hq⟩] at ih
      exact ev_t (by simpa using hq) ih
    · rw [if_neg (fun x => hq x.2)] at ih
      exact ev_f (by simpa using hq) ih
  · rw [if_neg (fun x => h2 x.1)] at ih
    exact ev_f (by simp; omega) ih
theorem hand_ok (ws : List (List UInt8)) (acc : List V) (i : Nat) (hi : i < ws.length) : Ev (fun n => l_spec_ReadPieces_b2 n (i : Int) (-1) 0 acc (txs ws)) ((i : Int), handW ws[i], acc, txs ws) := by
  refine hand_step ws acc i 0 (-1) hi (by omega) (hand_step ws acc i 1 _ hi (by omega) (hand_step ws acc i 2 _ hi (by omega) (ev_succ (ev_f (by decide) (ev_cast ev_some ?_)))))
  congr 2
  have e0 : strAt ⟨#[108, 114, 109]⟩ 0 = 108 := rfl
  have e1 : strAt ⟨#[108, 114, 109]⟩ 1 = 114 := rfl
  have e2 : strAt ⟨#[108, 114, 109]⟩ 2 = 109 := rfl
  rw [e0, e1, e2]
  generalize ws[i] = w
  match w with
  | [] => rfl
  | [_] => rfl
  | a :: b :: l =>
    have hl : 2 ≤ (a :: b :: l).length := by simp
    have ha : ((a :: b :: l).getD 0 0) = a := rfl
    rw [ha]
    simp only [hl, true_and]
    rw [show handW (a :: b :: l) = (handOf a).getD (-1) from rfl]
    unfold handOf
    have q : ∀ c : UInt8, ((a.toNat : Int) = (c.toNat : Int)) ↔ a = c := fun c => by
      constructor
      · intro h; exact UInt8.toNat_inj.1 (by omega)
      · rintro rfl; rfl
    have q1 := q 108
    have q2 := q 114
    have q3 := q 109
    have r1 : ((108 : UInt8).toNat : Int) = 108 := rfl
    have r2 : ((114 : UInt8).toNat : Int) = 114 := rfl
    have r3 : ((109 : UInt8).toNat : Int) = 109 := rfl
    rw [r1] at q1
    rw [r2] at q2
    rw [r3] at q3
    by_cases h1 : a = 108
    · subst h1; rfl
    · by_cases h2 : a = 114
      · subst h2; rfl
      · by_cases h3 : a = 109
        · subst h3; rfl
        · rw [if_neg (fun h => h3 (q3.1 h)), if_neg (fun h => h2 (q2.1 h)), if_neg (fun h => h1 (q1.1 h)), if_neg h1, if_neg h2, if_neg h3]
          rfl
end Go.Proofs.YthdnamhilcjnhaaDoor
namespace Go.Proofs.YthdnamhilcjnhaaDoor
open Go
set_option linter.unusedVariables false
set_option linter.unusedSimpArgs false
theorem hand_some {w : List UInt8} (h : 0 ≤ handW w) : ∃ a b l, w = a :: b :: l ∧ handOf a = some (handW w) ∧ handW w ≤ 2 := by
  match w, h with
  | [], h => exact absurd h (by decide)
  | [_], h => exact absurd (show (0 : Int) ≤ -1 from h) (by decide)
  | a :: b :: l, h =>
    have e : handW (a :: b :: l) = (handOf a).getD (-1) := rfl
    rw [e] at h ⊢
    refine ⟨a, b, l, rfl, ?_⟩
    unfold handOf at h ⊢
    by_cases h1 : a = 108
    · rw [if_pos h1]; exact ⟨rfl, by decide⟩
    · rw [if_neg h1] at h ⊢
      by_cases h2 : a = 114
      · rw [if_pos h2]; exact ⟨rfl, by decide⟩
      · rw [if_neg h2] at h ⊢
        by_cases h3 : a = 109
        · rw [if_pos h3]; exact ⟨rfl, by decide⟩
        · rw [if_neg h3] at h; exact absurd h (by decide)
theorem hand_none {w : List UInt8} (h : handW w < 0) : specW w = none := by
  match w, h with
  | [], _ => rfl
  | [_], _ => rfl
  | _ :: _ :: _ :: _, _ => rfl
  | [a, b], h =>
    rw [specW_two]
    cases hh : handOf a with
    | none => rfl
    | some x =>
      exfalso
      have e : handW [a, b] = (handOf a).getD (-1) := rfl
      rw [e, hh] at h
      unfold handOf at hh
      split at hh
      · obtain rfl := Option.some.inj hh; exact absurd h (by decide)
      · split at hh
        · obtain rfl := Option.some.inj hh; exact absurd h (by decide)
        · split at hh
          · obtain rfl := Option.some.inj hh; exact absurd h (by decide)
          · cases hh
def goR (o : Option (List (Int × Int))) : Sum (List V) (Int × List V) := match o with
  | some ps => .inl (pcl ps)
  | none => .inr (5, [])
theorem words_ok (ws : List (List UInt8)) (hl : ws.length ≤ 2000000) (hw : ∀ w, w ∈ ws → w.length ≤ 1048576) : ∀ (d i : Nat) (acc : List (Int × Int)), i + d = ws.length → acc.length = i → Ev (fun n => l_spec_ReadPieces_b0 n (i : Int) (pcl acc) (txs ws)) (goR (specGo (ws.drop i) acc)) := by
  intro d
  induction d with
  | zero =>
    intro i acc hi ha
    apply ev_succ
    rw [List.drop_of_length_le (by omega)]
    exact ev_f (by simp [txs]; omega) (ev_cast ev_some rfl)
  | succ d ih =>
    intro i acc hi ha
    have hlt : i < ws.length := by omega
    apply ev_succ
    rw [List.drop_eq_getElem_cons hlt]
    have hgo : specGo (ws[i] :: ws.drop (i + 1)) acc = match specW ws[i] with
      | some p => specGo (ws.drop (i + 1)) (acc ++ [p])
      | none => none := rfl
    rw [hgo]
    have hwl := hw ws[i] (List.getElem_mem hlt)
    refine ev_t (by simp [txs]; omega) (ev_bnd (hand_ok ws (pcl acc) i hlt) ?_)
    dsimp only
    by_cases hn : handW ws[i] < 0
    · rw [hand_none hn]
      exact ev_t (by simpa using hn) ev_some
    · obtain ⟨a, b, l, hwe, hha, hh2⟩ := hand_some (w := ws[i]) (by omega)
      have g : ∀ n : Nat, bnd (nth (txs ws) ((i : Int)).toNat) as_s = some ⟨ws[i].toArray⟩ := fun n => by rw [Int.toNat_natCast, nth_txs _ _ hlt]; rfl
      have hsz : (⟨ws[i].toArray⟩ : ByteArray).size = ws[i].length := tx_size _
      refine ev_f (by simpa using hn) (ev_chk (inB_k _ _ (by simpa [txs] using hlt)) (ev_bnd (ev_of g) (ev_chk (by rw [hsz, hwe]; simp; omega) ?_)))
      have ht : (⟨ws[i].toArray⟩ : ByteArray).extract ((1 : Int)).toNat (⟨ws[i].toArray⟩ : ByteArray).size = ⟨(b :: l).toArray⟩ := by
        rw [ba_extract, tx_data, hsz, List.take_of_length_le (Nat.le_refl _), hwe]
        rfl
      rw [ht]
      obtain ⟨v, ok, hv, hcase⟩ := number_ok ⟨(b :: l).toArray⟩ (by rw [tx_size]; rw [hwe] at hwl; simp at hwl ⊢; omega)
      refine ev_bnd hv ?_
      dsimp only
      rw [tx_data] at hcase
      rcases hcase with ⟨b', dd, hb, hd, rfl, rfl, hlt8⟩ | ⟨hno, hbad⟩
      · obtain ⟨rfl, rfl⟩ : b = b' ∧ l = [] := by simpa using hb
        have hs : specW ws[i] = some (handW ws[i], v) := by
          generalize hH : handW ws[i] = H at hha
          rw [hwe, specW_two, hha, hd]
        have hb := specW_b hs
        dsimp only at hb
        rw [hs]
        dsimp only
        refine ev_t rfl (ev_f (by simp; omega) (ev_chk (by simp [prs_length, ha]; omega) ?_))
        rw [w8 (handW ws[i]) (by omega), w8 v (by omega), up64 i (by omega)]
        have := ih (i + 1) (acc ++ [(handW ws[i], v)]) (by omega) (by simp [ha])
        rw [show pcl (acc ++ [(handW ws[i], v)]) = pcl acc ++ [V.parts [V.int .i8 (handW ws[i]), V.int .i8 v]] from prs_app .i8 .i8 acc [(handW ws[i], v)]] at this
        exact this
      · have hs : specW ws[i] = none := by
          rw [hwe]
          cases l with
          | cons _ _ => rfl
          | nil => rw [specW_two, hno b rfl]; cases handOf a <;> rfl
        rw [hs]
        rcases hbad with rfl | h8
        · exact ev_f rfl ev_some
        · cases ok with
          | false => exact ev_f rfl ev_some
          | true => exact ev_t rfl (ev_t (by simpa using h8) ev_some)
/-- the code of pieces, as the reference tells it -/
theorem l00In_ok (x a b : Int) : Ev (fun n => s_spec_l00In n x a b) (decide (a ≤ x) && decide (x ≤ b)) := by
  unfold s_spec_l00In
  cases h : decide (a ≤ x) with
  | true => exact ev_t rfl (ev_cast ev_some (by simp))
  | false => exact ev_f rfl (ev_cast ev_some (by simp))
theorem okPs_at {l : List (Int × Int)} : okPs l = allN (fun j => (decide (0 ≤ (pr l j).1) && decide ((pr l j).1 ≤ 2)) && (decide (1 ≤ (pr l j).2) && decide ((pr l j).2 ≤ 7))) 0 l.length := by
  unfold okPs
  refine allN_congr fun j _ _ => ?_
  rw [Bool.eq_iff_iff]
  simp
  omega
theorem l05Pieces_ok (l : List (Int × Int)) (hl : l.length ≤ 2000000) (hb : ∀ j, j < l.length → (-128 ≤ (pr l j).1 ∧ (pr l j).1 ≤ 127) ∧ (-128 ≤ (pr l j).2 ∧ (pr l j).2 ≤ 127)) : Ev (fun n => s_spec_l05Pieces n (pcl l)) (okPs l) := by
  unfold s_spec_l05Pieces
  have key := loop_all (l := fun n j => l_spec_l05Pieces_b0 n (pcl l) (j : Nat)) (p := fun j => (decide (0 ≤ (pr l j).1) && decide ((pr l j).1 ≤ 2)) && (decide (1 ≤ (pr l j).2) && decide ((pr l j).2 ≤ 7))) (A := .inl ()) (B := .inr false) l.length (ev_f (by simp [prs_length]) ev_some) (by
    intro j hj hp v ih
    have hbj := hb j hj
    rw [Bool.and_eq_true] at hp
    have g : ∀ n : Nat, bnd (idx (pcl l) (j : Int)) as_Pi8_i8Q = some ((pr l j).1, (pr l j).2) := fun n => by rw [idx_prs _ _ _ _ hj]; rfl
    refine ev_t (by simp [prs_length]; omega) (ev_bnd (ev_of g) (ev_bnd (l00In_ok _ _ _) ?_))
    rw [w64 (pr l j).1 (by omega), hp.1]
    refine ev_t rfl (ev_bnd (ev_of g) (ev_bnd (l00In_ok _ _ _) ?_))
    rw [w64 (pr l j).2 (by omega), hp.2, up64 j (by omega)]
    exact ev_t rfl ih) (by
    intro j hj hp
    have hbj := hb j hj
    have g : ∀ n : Nat, bnd (idx (pcl l) (j : Int)) as_Pi8_i8Q = some ((pr l j).1, (pr l j).2) := fun n => by rw [idx_prs _ _ _ _ hj]; rfl
    refine ev_t (by simp [prs_length]; omega) (ev_bnd (ev_of g) (ev_bnd (l00In_ok _ _ _) ?_))
    rw [w64 (pr l j).1 (by omega)]
    cases h1 : (decide (0 ≤ (pr l j).1) && decide ((pr l j).1 ≤ 2)) with
    | false => exact ev_f rfl ev_some
    | true =>
      rw [h1, Bool.true_and] at hp
      refine ev_t rfl (ev_bnd (ev_of g) (ev_bnd (l00In_ok _ _ _) ?_))
      rw [w64 (pr l j).2 (by omega), hp]
      exact ev_f rfl ev_some) l.length 0 (by omega)
  rw [okPs_at]
  refine ev_bnd key ?_
  cases allN _ 0 l.length <;> exact ev_some
theorem l05Asked_ok (l : List (Int × Int)) (hl : l.length ≤ 2000000) (hb : ∀ j, j < l.length → (-128 ≤ (pr l j).1 ∧ (pr l j).1 ≤ 127) ∧ (-128 ≤ (pr l j).2 ∧ (pr l j).2 ≤ 127)) : Ev (fun n => s_spec_l05Asked n (pcl l)) (if okPs l = true then (if 30 < l.length then 3 else 0) else 1) := by
  unfold s_spec_l05Asked
  refine ev_bnd (l05Pieces_ok l hl hb) ?_
  cases h : okPs l with
  | false => exact ev_f rfl ev_some
  | true =>
    rw [if_pos rfl]
    refine ev_t rfl ?_
    by_cases h30 : 30 < l.length
    · rw [if_pos h30]; exact ev_t (by simp [prs_length]; omega) ev_some
    · rw [if_neg h30]; exact ev_f (by simp [prs_length]; omega) ev_some
theorem specGo_b : ∀ {ws : List (List UInt8)} {acc ps : List (Int × Int)}, (∀ p, p ∈ acc → 0 ≤ p.1 ∧ p.1 ≤ 2 ∧ 0 ≤ p.2 ∧ p.2 ≤ 7) → specGo ws acc = some ps → ∀ p, p ∈ ps → 0 ≤ p.1 ∧ p.1 ≤ 2 ∧ 0 ≤ p.2 ∧ p.2 ≤ 7
  | [], acc, ps, h, hg => by obtain rfl := Option.some.inj hg; exact h
  | w :: ws, acc, ps, h, hg => by
    rw [show specGo (w :: ws) acc = match specW w with | some p => specGo ws (acc ++ [p]) | none => none from rfl] at hg
    split at hg
    · rename_i p hp
      refine specGo_b (acc := acc ++ [p]) (fun q hq => ?_) hg
      rcases List.mem_append.1 hq with hq | hq
      · exact h q hq
      · simp at hq; subst hq; exact specW_b hp
    · cases hg
theorem ws_bound : ∀ (l : List UInt8) (w : List UInt8), w ∈ wordsOf l → w.length ≤ l.length
  | [], w, h => by
    rw [show wordsOf [] = [[]] from rfl] at h
    simp at h; subst h; simp
  | b :: l, w, h => by
    have ih := ws_bound l
    unfold wordsOf at h
    split at h
    · rcases List.mem_cons.1 h with rfl | h
      · simp
      · have := ih w h; simp; omega
    · split at h
      · simp at h; subst h; simp
      · rename_i u us he
        rw [he] at ih
        rcases List.mem_cons.1 h with rfl | h
        · have := ih u (List.mem_cons_self ..); simp; omega
        · have := ih w (List.mem_cons_of_mem _ h); simp; omega
theorem rpQ_len (s : ByteArray) : (rpQ s).1.length ≤ 30 := by
  unfold rpQ
  split
  · simp
  · rw [rp_spec _ _ rfl (by simp)]
    unfold specRes
    split
    · split
      · rename_i h; exact h.2
      · simp
    · simp
theorem spec_ok (s : ByteArray) (hs : s.size ≤ 1048576) : Ev (fun n => s_spec_ReadPieces n s) (prRows s, prCode s) := by
  unfold s_spec_ReadPieces
  by_cases h0 : s.size = 0
  · have hl : s.data.toList = [] := List.eq_nil_of_length_eq_zero (by rw [ba_size]; exact h0)
    refine ev_t (by rw [Lib.toList_data, Lib.toList_data, hl]; rfl) (ev_cast ev_some ?_)
    have e : rpQ s = ([], 0) := by unfold rpQ; rw [show decide (s.size = 0) = true by simpa using h0]
    unfold prRows prCode
    rw [e]; rfl
  · have hne : (s.toList == (⟨#[]⟩ : ByteArray).toList) = false := by
      rw [Lib.toList_data, Lib.toList_data]
      cases hl : s.data.toList with
      | nil => exact absurd (by rw [← ba_size, hl]; rfl) h0
      | cons _ _ => rfl
    have hw1 := words_len s.data.toList
    rw [ba_size] at hw1
    have hwb : ∀ w, w ∈ wordsOf s.data.toList → w.length ≤ 1048576 := fun w hw => by
      have := ws_bound s.data.toList w hw
      rw [ba_size] at this; omega
    have key := words_ok (wordsOf s.data.toList) (by omega) hwb (wordsOf s.data.toList).length 0 [] (by omega) rfl
    rw [List.drop_zero] at key
    refine ev_f hne (ev_bnd (split_ok s hs) (ev_bnd key ?_))
    have e : rpQ s = specRes (wordsOf s.data.toList) [] := by
      unfold rpQ; rw [show decide (s.size = 0) = false by simpa using h0]; exact rp_spec _ _ rfl (by simp)
    unfold prRows prCode
    rw [e]
    unfold specRes
    cases hg : specGo (wordsOf s.data.toList) [] with
    | none => exact ev_some
    | some ps =>
      obtain ⟨q, hq, hlen⟩ := specGo_app hg
      rw [List.nil_append] at hq
      subst hq
      have hb := specGo_b (fun p hp => (by cases hp)) hg
      refine ev_bnd (l05Asked_ok ps (by omega) fun j hj => by
        have := hb _ (pr_mem hj)
        omega) ?_
      dsimp only
      by_cases hok : okPs ps = true
      · rw [if_pos hok]
        by_cases h30 : 30 < ps.length
        · rw [if_pos h30, if_neg (fun h => by omega)]
          exact ev_f rfl ev_some
        · rw [if_neg h30, if_pos ⟨hok, by omega⟩]
          exact ev_t rfl ev_some
      · rw [if_neg hok, if_neg (fun h => hok h.1)]
        exact ev_f rfl ev_some
theorem law_FnExactReadPieces {s : ByteArray} (hs : s.size ≤ maxLen) : Ev (fun n => s_laws_FnExactReadPieces n s) true := by
  unfold s_laws_FnExactReadPieces
  by_cases h1 : (1048576 : Int) < s.size
  · exact ev_t (by simpa using h1) ev_some
  · have hs2 : s.size ≤ 1048576 := by omega
    have im : Ev (fun n => s_impl_ReadPieces n s) (prRows s, prCode s) := by
      unfold s_impl_ReadPieces
      exact ev_chk (by simpa using hs2) ev_some
    have hlen := rpQ_len s
    have e : prRows s = pcl (rpQ s).1 := rfl
    refine ev_f (by simpa using h1) (ev_bnd (spec_ok s hs2) (ev_bnd im ?_))
    dsimp only
    rw [e]
    refine ev_bnd (eqPieceS_ok _ (by omega)) (ev_t rfl (ev_t (by simp) (ev_bnd (markPieceS_ok _ 1 (by omega)) ?_)))
    dsimp only
    refine ev_chk (like_prs _ _ _ _ (by rw [marks2_length])) (ev_bnd (heldPieceS_ok _ 1 (by omega)) (ev_f (by simp; omega) (ev_t (by simp) (ev_bnd im ?_))))
    dsimp only
    rw [e]
    refine ev_bnd (eqPieceS_ok _ (by omega)) (ev_t rfl (ev_t (by simp) (ev_bnd (heldPieceS_ok _ 1 (by omega)) (ev_f (by simp; omega) (ev_t (by simp) ev_some)))))
end Go.Proofs.YthdnamhilcjnhaaDoor
