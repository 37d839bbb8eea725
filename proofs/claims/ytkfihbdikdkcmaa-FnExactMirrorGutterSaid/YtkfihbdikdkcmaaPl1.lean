/- Lists of numbers: compared, marked, held. -/
import Derived.Test.YtkfihbdikdkcmaaPa2
namespace Go.Proofs.Ytkfihbdikdkcmaa
open Go
set_option linter.unusedVariables false
set_option linter.unusedSimpArgs false

theorem nth_ints (k : IntKind) (l : List Int) (i : Nat) (h : i < l.length) : nth (ints k l) i = some (V.int k l[i]) := by
  rw [nth_get, ints, List.getElem?_map, List.getElem?_eq_getElem h]; rfl
theorem set_ints (k : IntKind) : ∀ (l : List Int) (i : Nat) (x : Int), setNth (ints k l) i (V.int k x) = ints k (l.set i x)
  | [], i, x => rfl
  | y :: l, 0, x => rfl
  | y :: l, i + 1, x => by
    have := set_ints k l i x
    simp only [ints, List.map_cons, setNth, List.set_cons_succ] at this ⊢
    rw [this]
theorem like_ints (k : IntKind) : ∀ (l l' : List Int), l.length = l'.length → likeRows (ints k l) (ints k l') = true
  | [], [], _ => rfl
  | [], _ :: _, h => by simp at h
  | _ :: _, [], h => by simp at h
  | x :: l, y :: l', h => by
    have := like_ints k l l' (by simpa using h)
    simp only [ints, List.map_cons, likeRows, likeElem, decide_true, Bool.true_and] at this ⊢
    exact this
theorem eqInt64S_ok (l : List Int) (hl : l.length ≤ 1000000) : Ev (fun n => s_laws_eqInt64S n (ints .i64 l) (ints .i64 l)) true := by
  unfold s_laws_eqInt64S
  refine ev_t (by simp) (ev_bnd (a := Sum.inl ()) ?_ ev_some)
  have := loop_all (l := fun n k => l_laws_eqInt64S_b0 n (ints .i64 l) (ints .i64 l) (k : Nat)) (p := fun _ => true) (A := .inl ()) (B := .inr false) l.length (ev_f (by simp [ints_length]) ev_some) (by
    intro k hk _ a ih
    refine ev_t (by simp [ints_length]; omega) (ev_bnd (a := l[k]) (ev_of fun n => by rw [idx_ints _ _ _ hk]; rfl) (ev_bnd (a := l[k]) (ev_of fun n => by rw [idx_ints _ _ _ hk]; rfl) (ev_t (by simp) ?_)))
    rw [up64 k (by omega)]
    exact ih) (by intro k hk h; cases h) l.length 0 (by omega)
  have h2 : allN (fun _ => true) 0 l.length = true := (allN_iff _ _ _).2 fun _ _ _ => rfl
  rw [h2] at this
  exact this
def marks (k0 n : Nat) : List Int := (List.range' 0 n).map fun (j : Nat) => ((k0 + j : Nat) : Int)
theorem marks_length (k0 n : Nat) : (marks k0 n).length = n := by simp [marks]
theorem marks_get (k0 n j : Nat) (h : j < n) : (marks k0 n)[j]'(by rw [marks_length]; exact h) = ((k0 + j : Nat) : Int) := by simp [marks]
theorem markInt64S_ok (l : List Int) (k0 : Nat) (hl : l.length ≤ 1000000 ∧ k0 ≤ 1000) : Ev (fun n => s_laws_markInt64S n (ints .i64 l) (k0 : Int)) (((k0 + l.length : Nat) : Int), ints .i64 (marks k0 l.length)) := by
  unfold s_laws_markInt64S
  obtain ⟨v, hv, h1⟩ := loop_up (l := fun n k (st : List Int) => l_laws_markInt64S_b0 n ((k0 + k : Nat) : Int) (k : Nat) (ints .i64 st)) (I := fun k st => st.length = l.length ∧ ∀ j, j < k → st[j]? = some ((k0 + j : Nat) : Int))
    (P := fun v => v = (((k0 + l.length : Nat) : Int), ints .i64 (marks k0 l.length))) l.length (by
    rintro k st hk ⟨e1, e2⟩ ih
    by_cases hlt : k < l.length
    · have hk2 : k < st.length := by omega
      refine tot_t (by simp [ints_length]; omega) (tot_chk (inB_k _ _ (by rw [ints_length]; exact hk2)) (tot_ev (a := st[k]) (ev_of fun n => by rw [Int.toNat_natCast, nth_ints _ _ _ hk2]; rfl) ?_))
      rw [Int.toNat_natCast, set_ints, up64 k (by omega), up64 (k0 + k) (by omega), show k0 + k + 1 = k0 + (k + 1) by omega]
      refine ih hlt _ ⟨by simp [e1], fun j hj => ?_⟩
      rw [List.getElem?_set]
      by_cases h : k = j
      · subst h; rw [if_pos rfl, if_pos hk2]
      · rw [if_neg h]; exact e2 j (by omega)
    · obtain rfl : k = l.length := by omega
      refine tot_f (by simp [ints_length]; omega) (tot_some ?_)
      congr 2
      apply List.ext_getElem?
      intro j
      by_cases hj : j < l.length
      · rw [e2 j hj, List.getElem?_eq_getElem (by rw [marks_length]; exact hj), marks_get _ _ _ hj]
      · rw [List.getElem?_eq_none (by omega), List.getElem?_eq_none (by rw [marks_length]; omega)]) 0 l (by omega) ⟨rfl, fun j hj => by omega⟩
  subst hv
  exact ev_bnd h1 ev_some
theorem heldInt64S_ok (m k0 : Nat) (hm : m ≤ 1000000 ∧ k0 ≤ 1000) : Ev (fun n => s_laws_heldInt64S n (ints .i64 (marks k0 m)) (k0 : Int)) ((k0 + m : Nat) : Int) := by
  unfold s_laws_heldInt64S
  refine ev_bnd (a := Sum.inl ((k0 + m : Nat) : Int)) ?_ ev_some
  have := loop_all (l := fun n k => l_laws_heldInt64S_b0 n (ints .i64 (marks k0 m)) ((k0 + k : Nat) : Int) (k : Nat)) (p := fun _ => true) (A := .inl ((k0 + m : Nat) : Int)) (B := .inr (-1)) m (ev_f (by simp [ints_length, marks_length]) ev_some) (by
    intro k hk _ a ih
    refine ev_t (by simp [ints_length, marks_length]; omega) (ev_bnd (a := ((k0 + k : Nat) : Int)) (ev_of fun n => by rw [idx_ints _ _ _ (by rw [marks_length]; exact hk), marks_get _ _ _ hk]; rfl) (ev_t (by simp) ?_))
    rw [up64 k (by omega), up64 (k0 + k) (by omega), show k0 + k + 1 = k0 + (k + 1) by omega]
    exact ih) (by intro k hk h; cases h) m 0 (by omega)
  have h2 : allN (fun _ => true) 0 m = true := (allN_iff _ _ _).2 fun _ _ _ => rfl
  rw [h2] at this
  exact this
end Go.Proofs.Ytkfihbdikdkcmaa
