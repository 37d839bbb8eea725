/- Lists of pairs of numbers: read, written, compared. Gutters: copied, compared, checked. Laws SameGutter, ValidGutter, ValidWater. Gutters that are valid, and their water. Laws ValidGutter, ValidWater. -/
import Derived.Test.YtkfihbdikdkcmaaPl1
import Derived.Test.YtkfihbdikdkcmaaRs24
import Derived.Test.YtkfihbdikdkcmaaSh3
namespace Go.Proofs.Ytkfihbdikdkcmaa
open Go
set_option linter.unusedVariables false
set_option linter.unusedSimpArgs false

def pv (k k' : IntKind) (p : Int × Int) : V := V.parts [(V.int k (p.1)), (V.int k' (p.2))]
def prs (k k' : IntKind) (l : List (Int × Int)) : List V := l.map (pv k k')
def pr (l : List (Int × Int)) (j : Nat) : Int × Int := l.getD j (0, 0)
theorem prs_length (k k' : IntKind) (l : List (Int × Int)) : (prs k k' l).length = l.length := List.length_map ..
theorem pr_get {l : List (Int × Int)} {i : Nat} (h : i < l.length) : l[i]? = some (pr l i) := by
  rw [pr, List.getD_eq_getElem?_getD, List.getElem?_eq_getElem h]; rfl
theorem nth_prs (k k' : IntKind) (l : List (Int × Int)) (i : Nat) (h : i < l.length) : nth (prs k k' l) i = some (V.parts [(V.int k ((pr l i).1)), (V.int k' ((pr l i).2))]) := by
  rw [nth_get, prs, List.getElem?_map, pr_get h]; rfl
theorem idx_prs (k k' : IntKind) (l : List (Int × Int)) (i : Nat) (h : i < l.length) : idx (prs k k' l) (i : Int) = some (V.parts [(V.int k ((pr l i).1)), (V.int k' ((pr l i).2))]) := by
  rw [idx_nat, prs, List.getElem?_map, pr_get h]; rfl
theorem set_prs (k k' : IntKind) : ∀ (l : List (Int × Int)) (i : Nat) (a b : Int), setNth (prs k k' l) i (V.parts [(V.int k (a)), (V.int k' (b))]) = prs k k' (l.set i (a, b))
  | [], i, a, b => rfl
  | y :: l, 0, a, b => rfl
  | y :: l, i + 1, a, b => by
    have := set_prs k k' l i a b
    simp only [prs, List.map_cons, setNth, List.set_cons_succ] at this ⊢
    rw [this]
theorem rep_prs (k k' : IntKind) (n : Nat) : List.replicate n (V.parts [(V.int k (0)), (V.int k' (0))]) = prs k k' (List.replicate n (0, 0)) := by
  simp [prs, pv]
theorem prs_app (k k' : IntKind) (l m : List (Int × Int)) : prs k k' (l ++ m) = prs k k' l ++ prs k k' m := List.map_append ..
theorem like_prs (k k' : IntKind) : ∀ (l l' : List (Int × Int)), l.length = l'.length → likeRows (prs k k' l) (prs k k' l') = true
  | [], [], _ => rfl
  | [], _ :: _, h => by simp at h
  | _ :: _, [], h => by simp at h
  | x :: l, y :: l', h => by
    have := like_prs k k' l l' (by simpa using h)
    simp only [prs, pv, List.map_cons, likeRows, likeElem, likeParts, decide_true, Bool.true_and, Bool.and_true] at this ⊢
    exact this
/-- what an argument that is a list of pairs is -/
theorem prs_of {k k' : IntKind} : ∀ {xs : List V}, (∀ x, x ∈ xs → ∃ l, x = .parts l ∧ inL [.int k, .int k'] l) → ∃ l, xs = prs k k' l ∧ ∀ p, p ∈ l → (Lit.int k p.1).wf = true ∧ (Lit.int k' p.2).wf = true
  | [], _ => ⟨[], rfl, fun p hp => by cases hp⟩
  | x :: xs, h => by
    obtain ⟨l, rfl, e⟩ := prs_of (xs := xs) fun y hy => h y (List.mem_cons_of_mem _ hy)
    obtain ⟨m, rfl, hm⟩ := h x (List.mem_cons_self ..)
    simp only [inL, inP] at hm
    obtain ⟨v, r, rfl, ⟨a, rfl, ha⟩, v', r', rfl, ⟨b, rfl, hb⟩, rfl⟩ := hm
    refine ⟨(a, b) :: l, rfl, fun p hp => ?_⟩
    rcases List.mem_cons.1 hp with rfl | hp
    · exact ⟨ha, hb⟩
    · exact e p hp
theorem pr_mem {l : List (Int × Int)} {i : Nat} (h : i < l.length) : pr l i ∈ l := by
  have := pr_get h
  exact List.mem_of_getElem? this
abbrev pipes (l : List (Int × Int)) : List V := prs .i8 .i16 l
theorem toPipeS_ok (l : List (Int × Int)) (hl : l.length ≤ 1048576) : Ev (fun n => s_laws_toPipeS n (pipes l)) (pipes l) := by
  unfold s_laws_toPipeS
  refine ev_chk (by simp [prs_length]; omega) ?_
  obtain ⟨v, hv, h1⟩ := loop_up (l := fun n k (st : List (Int × Int)) => l_laws_toPipeS_b0 n (pipes l) (k : Nat) (pipes st)) (I := fun k st => st.length = l.length ∧ ∀ j, j < k → st[j]? = l[j]?)
    (P := fun v => v = pipes l) l.length (by
    rintro k st hk ⟨e1, e2⟩ ih
    by_cases hlt : k < l.length
    · have hk2 : k < st.length := by omega
      refine tot_t (by simp [prs_length]; omega) (tot_ev (a := pr l k) (ev_of fun n => by rw [idx_prs _ _ _ _ hlt]; rfl) (tot_ev (a := pr l k) ev_some (tot_chk (inB_k _ _ (by rw [prs_length]; exact hk2)) (tot_ev (a := pr st k) (ev_of fun n => by rw [Int.toNat_natCast, nth_prs _ _ _ _ hk2]; rfl) ?_))))
      rw [Int.toNat_natCast, up64 k (by omega)]
      dsimp only
      rw [set_prs]
      refine ih hlt _ ⟨by simp [e1], fun j hj => ?_⟩
      rw [List.getElem?_set]
      by_cases h : k = j
      · subst h; rw [if_pos rfl, if_pos hk2, pr_get hlt]
      · rw [if_neg h]; exact e2 j (by omega)
    · obtain rfl : k = l.length := by omega
      refine tot_f (by simp [prs_length]) (tot_some ?_)
      congr 1
      apply List.ext_getElem?
      intro j
      by_cases hj : j < l.length
      · exact e2 j hj
      · rw [List.getElem?_eq_none (by omega), List.getElem?_eq_none (by omega)]) 0 (List.replicate l.length (0, 0)) (by omega) ⟨by simp, fun j hj => by omega⟩
  subst hv
  rw [show ((((pipes l).length : Int)).toNat) = l.length by simp [prs_length], rep_prs]
  exact ev_bnd h1 ev_some
theorem toInt8A17_b0 (a2 a3 : Nat → Int) : ∀ (d k : Nat) (a1 : Nat → Int), k + d = 17 → (∀ j, j < k → a1 j = a3 j) → Tot (fun n => l_laws_toInt8A17_b0 n k a3 a2 a1) (fun r => ∀ j, j < 17 → r.2 j = a3 j) := by
  intro d
  induction d with
  | zero =>
    intro k a1 hk h
    refine tot_succ (tot_f (by simp; omega) (tot_some ?_))
    intro j hj; exact h j (by omega)
  | succ d ih =>
    intro k a1 hk h
    refine tot_succ (tot_t (by simp; omega) (tot_chk (inB_k _ _ (by omega)) ?_))
    rw [up64 k (by omega)]
    refine ih (k + 1) _ (by omega) ?_
    intro j hj
    simp only [updC_at, Int.toNat_natCast, Nat.zero_add, Nat.mul_one]
    split
    · subst j; rfl
    · exact h j (by omega)
theorem toInt8A17_ok (a0 : Nat → Int) : Tot (fun n => s_laws_toInt8A17 n a0) (fun r => ∀ j, j < 17 → r j = a0 j) := by
  refine tot_bnd (toInt8A17_b0 _ a0 17 0 _ rfl (fun j hj => by omega)) ?_
  rintro ⟨a, b⟩ h
  exact tot_some h
theorem toGutter_ok (w d b : Int) (t : Nat → Int) (l : List (Int × Int)) (hl : l.length ≤ 1048576) : ∃ t', (∀ j, j < 17 → t' j = t j) ∧ Ev (fun n => s_laws_toGutter n w d t b (pipes l)) (w, d, t', b, pipes l) := by
  obtain ⟨t', e1, e2⟩ := toInt8A17_ok t
  exact ⟨t', e1, ev_bnd e2 (ev_bnd (toPipeS_ok l hl) ev_some)⟩
theorem szGutter_ok (w d b : Int) (t : Nat → Int) (l : List (Int × Int)) (m : Int) (hm : 0 ≤ m ∧ m ≤ 1048576) (hl : l.length ≤ 9223372036854775807) : Ev (fun n => s_laws_szGutter n w d t b (pipes l) m) (if m < l.length then -1 else m - l.length) := by
  unfold s_laws_szGutter s_laws_szPipeS
  rw [show ((pipes l).length : Int) = (l.length : Int) by simp [prs_length], w64 _ (by omega)]
  split
  · exact ev_bnd (ev_t (by simp; omega) ev_some) (ev_t (by simp) ev_some)
  · exact ev_bnd (ev_f (by simp; omega) ev_some) (ev_f (by simp; omega) ev_some)
theorem eqInt8A17_ok (a b : Nat → Int) : Ev (fun n => s_laws_eqInt8A17 n a b) (allN (fun j => decide (a j = b j)) 0 17) := by
  unfold s_laws_eqInt8A17
  have key := loop_all (l := fun n k => l_laws_eqInt8A17_b0 n (k : Nat) a b) (p := fun j => decide (a j = b j)) (A := .inl ()) (B := .inr false) 17 (ev_f (by simp) ev_some) (by
    intro k hk hp v ih
    have e1 : 0 + (k : Int).toNat * 1 = k := by simp
    refine ev_t (by simp; omega) (ev_chk (inB_k _ _ hk) ?_)
    rw [e1, up64 k (by omega)]
    exact ev_t hp ih) (by
    intro k hk hp
    have e1 : 0 + (k : Int).toNat * 1 = k := by simp
    refine ev_t (by simp; omega) (ev_chk (inB_k _ _ hk) ?_)
    rw [e1]
    exact ev_f hp ev_some) 17 0 rfl
  refine ev_bnd key ?_
  cases allN (fun j => decide (a j = b j)) 0 17 <;> exact ev_some
theorem eqPipeS_ok (l : List (Int × Int)) (hl : l.length ≤ 1048576) : Ev (fun n => s_laws_eqPipeS n (pipes l) (pipes l)) true := by
  unfold s_laws_eqPipeS
  refine ev_t (by simp) (ev_bnd (a := Sum.inl ()) ?_ ev_some)
  have := loop_all (l := fun n k => l_laws_eqPipeS_b0 n (pipes l) (pipes l) (k : Nat)) (p := fun _ => true) (A := .inl ()) (B := .inr false) l.length (ev_f (by simp [prs_length]) ev_some) (by
    intro k hk _ a ih
    refine ev_t (by simp [prs_length]; omega) (ev_bnd (a := pr l k) (ev_of fun n => by rw [idx_prs _ _ _ _ hk]; rfl) (ev_bnd (a := pr l k) (ev_of fun n => by rw [idx_prs _ _ _ _ hk]; rfl) (ev_bnd (a := true) (by
      unfold s_laws_eqPipe
      exact ev_t (by simp) (ev_t (by simp) ev_some)) (ev_t rfl ?_))))
    rw [up64 k (by omega)]
    exact ih) (by intro k hk h; cases h) l.length 0 (by omega)
  have h2 : allN (fun _ => true) 0 l.length = true := (allN_iff _ _ _).2 fun _ _ _ => rfl
  rw [h2] at this
  exact this
theorem eqGutter_ok (w d b : Int) (t : Nat → Int) (l : List (Int × Int)) (hl : l.length ≤ 1048576) : Ev (fun n => s_laws_eqGutter n w d t b (pipes l) w d t b (pipes l)) true := by
  unfold s_laws_eqGutter
  exact ev_t (by simp) (ev_t (by simp) (ev_bnd (eqInt8A17_ok t t) (ev_t (allN_refl _ 0 17) (ev_t (by simp) (ev_bnd (eqPipeS_ok l hl) (ev_t rfl ev_some))))))

-- SameGutter
def pipeEq (l m : List (Int × Int)) (j : Nat) : Bool := eqParts [(V.int .i8 ((pr l j).1)), (V.int .i16 ((pr l j).2))] [(V.int .i8 ((pr m j).1)), (V.int .i16 ((pr m j).2))]
def sameG (w d b : Int) (t : Nat → Int) (l : List (Int × Int)) (w' d' b' : Int) (t' : Nat → Int) (l' : List (Int × Int)) : Bool :=
  sel (decide (w = w')) (sel (decide (d = d')) (sel (allEq 17 t t') (sel (decide (b = b')) (sel (decide ((l.length : Int) = (l'.length : Int))) (allN (pipeEq l l') 0 l.length) false) false) false) false) false
theorem ev_sel {α : Type} {f g : Nat → Option α} {c : Bool} {x y : α} (h1 : c = true → Ev f x) (h2 : c = false → Ev g y) : Ev (fun n => cnd c (f n) (g n)) (sel c x y) := by
  cases c with
  | true => exact ev_t rfl (h1 rfl)
  | false => exact ev_f rfl (h2 rfl)
theorem spec_SameGutter_ok (w d b : Int) (t : Nat → Int) (l : List (Int × Int)) (w' d' b' : Int) (t' : Nat → Int) (l' : List (Int × Int)) (hl : l.length ≤ 1048576) :
    Ev (fun n => s_spec_SameGutter n w d t b (pipes l) w' d' t' b' (pipes l')) (sameG w d b t l w' d' b' t' l') := by
  unfold s_spec_SameGutter sameG
  rw [show ((pipes l).length : Int) = (l.length : Int) by simp [prs_length], show ((pipes l').length : Int) = (l'.length : Int) by simp [prs_length]]
  refine ev_sel (fun _ => ev_sel (fun _ => ev_sel (fun _ => ev_sel (fun _ => ev_sel (fun he => ?_) fun _ => ev_some) fun _ => ev_some) fun _ => ev_some) fun _ => ev_some) fun _ => ev_some
  have he' : l.length = l'.length := by have := of_decide_eq_true he; omega
  have key := loop_all (l := fun n k => l_spec_SameGutter_b0 n (k : Nat) w d t b (pipes l) w' d' t' b' (pipes l')) (p := pipeEq l l') (A := .inl ()) (B := .inr false) l.length (ev_f (by simp [prs_length]) ev_some) (by
    intro k hk hp a ih
    refine ev_t (by simp [prs_length]; omega) (ev_bnd (a := pr l k) (ev_of fun n => by rw [idx_prs _ _ _ _ hk]; rfl) (ev_bnd (a := pr l' k) (ev_of fun n => by rw [idx_prs _ _ _ _ (by omega)]; rfl) (ev_t hp ?_)))
    rw [up64 k (by omega)]
    exact ih) (by
    intro k hk hp
    exact ev_t (by simp [prs_length]; omega) (ev_bnd (a := pr l k) (ev_of fun n => by rw [idx_prs _ _ _ _ hk]; rfl) (ev_bnd (a := pr l' k) (ev_of fun n => by rw [idx_prs _ _ _ _ (by omega)]; rfl) (ev_f hp ev_some)))) l.length 0 (by omega)
  refine ev_bnd key ?_
  cases allN (pipeEq l l') 0 l.length <;> exact ev_some
theorem Equal_ok (l l' : List (Int × Int)) (hl : l.length ≤ 1048576) :
    Ev (fun n => s_slices_Equal_Simpl_Pipe_impl_Pipe n (pipes l) (pipes l')) (sel (decide ((l.length : Int) = (l'.length : Int))) (allN (pipeEq l l') 0 l.length) false) := by
  unfold s_slices_Equal_Simpl_Pipe_impl_Pipe
  rw [show ((pipes l).length : Int) = (l.length : Int) by simp [prs_length], show ((pipes l').length : Int) = (l'.length : Int) by simp [prs_length]]
  refine ev_sel (fun he => ?_) fun _ => ev_some
  have he' : l.length = l'.length := by have := of_decide_eq_true he; omega
  have key := loop_all (l := fun n k => l_slices_Equal_Simpl_Pipe_impl_Pipe_b0 n (pipes l) (pipes l') (l.length : Int) (k : Nat)) (p := pipeEq l l') (A := .inl ()) (B := .inr false) l.length (ev_f (by simp) ev_some) (by
    intro k hk hp a ih
    refine ev_t (by simp; omega) (ev_bnd (a := pr l k) (ev_of fun n => by rw [idx_prs _ _ _ _ hk]; rfl) (ev_bnd (a := pr l' k) (ev_of fun n => by rw [idx_prs _ _ _ _ (by omega)]; rfl) (ev_t hp ?_)))
    rw [up64 k (by omega)]
    exact ih) (by
    intro k hk hp
    exact ev_t (by simp; omega) (ev_bnd (a := pr l k) (ev_of fun n => by rw [idx_prs _ _ _ _ hk]; rfl) (ev_bnd (a := pr l' k) (ev_of fun n => by rw [idx_prs _ _ _ _ (by omega)]; rfl) (ev_f hp ev_some)))) l.length 0 (by omega)
  refine ev_bnd key ?_
  cases allN (pipeEq l l') 0 l.length <;> exact ev_some
theorem impl_SameGutter_ok (w d b : Int) (t : Nat → Int) (l : List (Int × Int)) (w' d' b' : Int) (t' : Nat → Int) (l' : List (Int × Int)) (hl : l.length ≤ 1048576) :
    Ev (fun n => s_impl_SameGutter n w d t b (pipes l) w' d' t' b' (pipes l')) (sameG w d b t l w' d' b' t' l') := by
  unfold s_impl_SameGutter sameG
  exact ev_sel (fun _ => ev_sel (fun _ => ev_sel (fun _ => ev_sel (fun _ => ev_bnd (Equal_ok l l' hl) ev_some) fun _ => ev_some) fun _ => ev_some) fun _ => ev_some) fun _ => ev_some
abbrev PipeW (xs : List V) : Prop := xs.length ≤ maxLen ∧ ∀ x, x ∈ xs → ∃ l, x = .parts l ∧ inL [.int .i8, .int .i16] l
theorem law_FnExactSameGutter {w d b w' d' b' : Int} {t t' : Nat → Int} {xs xs' : List V} (hw : (Lit.int .i8 w).wf = true) (hd : (Lit.int .i16 d).wf = true) (ht : ∀ j, j < 17 → (Lit.int .i8 (t j)).wf = true) (hb : (Lit.int .u32 b).wf = true) (hx : PipeW xs)
    (hw' : (Lit.int .i8 w').wf = true) (hd' : (Lit.int .i16 d').wf = true) (ht' : ∀ j, j < 17 → (Lit.int .i8 (t' j)).wf = true) (hb' : (Lit.int .u32 b').wf = true) (hx' : PipeW xs') :
    Ev (fun n => s_laws_FnExactSameGutter n w d t b xs w' d' t' b' xs') true := by
  obtain ⟨l, rfl, hl⟩ := prs_of hx.2
  obtain ⟨l', rfl, hl'⟩ := prs_of hx'.2
  have n1 : l.length ≤ 9223372036854775807 := by have := hx.1; rw [prs_length] at this; simpa [maxLen] using this
  have n2 : l'.length ≤ 9223372036854775807 := by have := hx'.1; rw [prs_length] at this; simpa [maxLen] using this
  unfold s_laws_FnExactSameGutter
  refine ev_bnd (szGutter_ok w d b t l 1048576 (by omega) n1) ?_
  by_cases h1 : (1048576 : Int) < l.length
  · rw [if_pos h1]; exact ev_t (by simp) ev_some
  · rw [if_neg h1]
    refine ev_f (by simp; omega) (ev_bnd (szGutter_ok w' d' b' t' l' _ (by omega) n2) ?_)
    by_cases h2 : (1048576 : Int) - l.length < l'.length
    · rw [if_pos h2]; exact ev_t (by simp) ev_some
    · rw [if_neg h2]
      obtain ⟨c, e1, e2⟩ := toGutter_ok w d b t l (by omega)
      obtain ⟨c', e3, e4⟩ := toGutter_ok w' d' b' t' l' (by omega)
      refine ev_f (by simp; omega) (ev_bnd e2 (ev_bnd e4 (ev_bnd (spec_SameGutter_ok _ _ _ _ _ _ _ _ _ _ (by omega)) (ev_bnd e2 (ev_bnd e4 (ev_bnd (impl_SameGutter_ok _ _ _ _ _ _ _ _ _ _ (by omega)) (ev_t (beq_self_eq_true _) ?_)))))))
      exact ev_bnd e2 (ev_bnd (eqGutter_ok _ _ _ _ _ (by omega)) (ev_t rfl (ev_bnd e4 (ev_bnd (eqGutter_ok _ _ _ _ _ (by omega)) (ev_t rfl ev_some)))))
structure GutT (w d b : Int) (t : Nat → Int) (l : List (Int × Int)) : Prop where
  bw : -128 ≤ w ∧ w ≤ 127
  bd : -32768 ≤ d ∧ d ≤ 32767
  bt : ∀ j, j < 17 → -128 ≤ t j ∧ t j ≤ 127
  bl : ∀ j, j < l.length → (-128 ≤ (pr l j).1 ∧ (pr l j).1 ≤ 127) ∧ (-32768 ≤ (pr l j).2 ∧ (pr l j).2 ≤ 32767)
  ln : l.length ≤ 1048576
def gcell (w : Int) (t : Nat → Int) (k : Nat) : Bool := decide (0 ≤ t k ∧ t k ≤ 9) && (decide (t k = 0) || decide ((k : Int) < w))
def gpipe (w : Int) (l : List (Int × Int)) (k : Nat) : Bool := decide (0 ≤ (pr l k).1 ∧ (pr l k).1 < w) && decide (0 ≤ (pr l k).2 ∧ (pr l k).2 ≤ 1000) && (decide (k = 0) || decide ((pr l (k - 1)).1 < (pr l k).1))
def gutHead (w d b : Int) (l : List (Int × Int)) : Bool := decide (1 ≤ w ∧ w ≤ 17) && (decide (0 ≤ d ∧ d ≤ 1000) && (decide (b.fdiv (2 ^ (min w.toNat 32)) = 0) && decide (l.length ≤ 4)))
def gutOk (w d b : Int) (t : Nat → Int) (l : List (Int × Int)) : Bool := gutHead w d b l && (allN (gcell w t) 0 17 && allN (gpipe w l) 0 l.length)
theorem l06Deep_eq (n : Nat) (a : Int) : s_spec_l06Deep n a = some (decide (0 ≤ a ∧ a ≤ 1000)) := by
  unfold s_spec_l06Deep; rw [l00In_eq]; simp [bnd_s]
theorem isDeep16_eq (n : Nat) (a : Int) (h : -32768 ≤ a ∧ a ≤ 32767) : s_impl_isDeep_int16 n a = some (decide (0 ≤ a ∧ a ≤ 1000)) := by
  unfold s_impl_isDeep_int16; rw [within_i64, w64 _ (by omega)]; simp [bnd_s]
theorem l06Ok_b0 {w d b : Int} {t : Nat → Int} {l : List (Int × Int)} (H : GutT w d b t l) :
    Ev (fun n => l_spec_l06Ok_b0 n w d t b (pipes l) 0) (sel (allN (gcell w t) 0 17) (.inl (w, d, t, b, pipes l)) (.inr false)) := by
  have := loop_all (l := fun n k => l_spec_l06Ok_b0 n w d t b (pipes l) (k : Nat)) (p := gcell w t) (A := .inl (w, d, t, b, pipes l)) (B := .inr false) 17 (ev_f (by simp) ev_some) (by
    intro k hk hp a ih
    have e1 : 0 + (k : Int).toNat * 1 = k := by simp
    have hb := H.bt k hk
    refine ev_t (by simp; omega) (ev_chk (inB_k _ _ hk) ?_)
    rw [e1, w64 _ (by omega), up8 k (by omega)]
    simp only [gcell, Bool.and_eq_true, Bool.or_eq_true, decide_eq_true_eq] at hp
    refine ev_bnd (ev_of fun n => l00In_eq n _ _ _) (ev_t (by simp; omega) ?_)
    by_cases h1 : w ≤ (k : Int)
    · exact ev_t (by simpa using h1) (ev_t (by simp; omega) ih)
    · exact ev_f (by simpa using h1) ih) (by
    intro k hk hp
    have e1 : 0 + (k : Int).toNat * 1 = k := by simp
    have hb := H.bt k hk
    refine ev_t (by simp; omega) (ev_chk (inB_k _ _ hk) ?_)
    rw [e1, w64 _ (by omega)]
    simp only [gcell, Bool.and_eq_false_iff, Bool.or_eq_false_iff, decide_eq_false_iff_not] at hp
    refine ev_bnd (ev_of fun n => l00In_eq n _ _ _) (ev_cnd (fun h1 => ?_) (fun _ => ev_some))
    simp only [Bool.and_eq_true, decide_eq_true_eq] at h1
    exact ev_t (by simp; omega) (ev_f (by simp; omega) ev_some)) 17 0 rfl
  exact this
theorem l06Ok_b2 {w d b : Int} {t : Nat → Int} {l : List (Int × Int)} (H : GutT w d b t l) :
    Ev (fun n => l_spec_l06Ok_b2 n w d t b (pipes l) 0) (sel (allN (gpipe w l) 0 l.length) (.inl ()) (.inr false)) := by
  have hln := H.ln
  have := loop_all (l := fun n k => l_spec_l06Ok_b2 n w d t b (pipes l) (k : Nat)) (p := gpipe w l) (A := .inl ()) (B := .inr false) l.length (ev_f (by simp [prs_length]) ev_some) (by
    intro k hk hp a ih
    have hb := H.bl k hk
    simp only [gpipe, Bool.and_eq_true, Bool.or_eq_true, decide_eq_true_eq] at hp
    refine ev_t (by simp [prs_length]; omega) (ev_bnd (a := ((pr l k).1, (pr l k).2)) (ev_of fun n => by rw [idx_prs _ _ _ _ hk]; rfl) (ev_f (by simp; omega) (ev_f (by simp; omega) (ev_bnd (ev_of fun n => l06Deep_eq n _) ?_))))
    rw [w64 _ (by omega), up64 k (by omega)]
    refine ev_t (by simp; omega) ?_
    by_cases h0 : 0 < k
    · rw [show IntKind.i64.wrap ((k : Int) - 1) = ((k - 1 : Nat) : Int) by rw [w64 _ (by omega)]; omega]
      exact ev_t (by simp; omega) (ev_bnd (a := ((pr l (k - 1)).1, (pr l (k - 1)).2)) (ev_of fun n => by rw [idx_prs _ _ _ _ (by omega)]; rfl) (ev_f (by simp; omega) ih))
    · exact ev_f (by simp; omega) ih) (by
    intro k hk hp
    have hb := H.bl k hk
    simp only [gpipe, Bool.and_eq_false_iff, Bool.or_eq_false_iff, decide_eq_false_iff_not] at hp
    refine ev_t (by simp [prs_length]; omega) (ev_bnd (a := ((pr l k).1, (pr l k).2)) (ev_of fun n => by rw [idx_prs _ _ _ _ hk]; rfl) (ev_cnd (fun _ => ev_some) (fun h1 => ev_cnd (fun _ => ev_some) (fun h2 => ev_bnd (ev_of fun n => l06Deep_eq n _) ?_))))
    simp only [decide_eq_false_iff_not] at h1 h2
    rw [w64 _ (by omega)]
    refine ev_cnd (fun h3 => ?_) (fun _ => ev_some)
    simp only [decide_eq_true_eq] at h3
    rw [show IntKind.i64.wrap ((k : Int) - 1) = ((k - 1 : Nat) : Int) by rw [w64 _ (by omega)]; omega]
    exact ev_t (by simp; omega) (ev_bnd (a := ((pr l (k - 1)).1, (pr l (k - 1)).2)) (ev_of fun n => by rw [idx_prs _ _ _ _ (by omega)]; rfl) (ev_t (by simp; omega) ev_some))) l.length 0 (by omega)
  exact this
theorem l06Ok_ok {w d b : Int} {t : Nat → Int} {l : List (Int × Int)} (H : GutT w d b t l) : Ev (fun n => s_spec_l06Ok n w d t b (pipes l)) (gutOk w d b t l) := by
  unfold s_spec_l06Ok gutOk gutHead
  have hbw := H.bw
  have hbd := H.bd
  rw [w64 w (by omega), w64 d (by omega)]
  refine ev_bnd (ev_of fun n => l00In_eq n _ _ _) (ev_cnd (fun h1 => ?_) (fun h1 => ?_))
  · simp only [Bool.and_eq_true, decide_eq_true_eq] at h1
    refine ev_bnd (ev_of fun n => l06Deep_eq n _) (ev_cnd (fun h2 => ?_) (fun h2 => ?_))
    · rw [wu64 w (by omega)]
      refine ev_chk (by simp; omega) (ev_cnd (fun h3 => ?_) (fun h3 => ?_))
      · refine ev_cnd (fun h4 => ?_) (fun h4 => ?_)
        · rw [prs_length] at h4
          refine ev_cast ev_some ?_
          rw [show decide (l.length ≤ 4) = false by simp at h4 ⊢; omega]
          simp
        · rw [prs_length] at h4
          rw [show decide (1 ≤ w ∧ w ≤ 17) = true by simpa using h1, show decide (l.length ≤ 4) = true by simp at h4 ⊢; omega, h2, show decide (b.fdiv (2 ^ min w.toNat 32) = 0) = true from h3]
          simp only [Bool.true_and]
          refine ev_bnd (l06Ok_b0 H) ?_
          cases allN (gcell w t) 0 17 with
          | false => exact ev_some
          | true =>
            refine ev_bnd (l06Ok_b2 H) ?_
            cases allN (gpipe w l) 0 l.length <;> exact ev_some
      · refine ev_cast ev_some ?_
        rw [show decide (b.fdiv (2 ^ min w.toNat 32) = 0) = false from h3]
        simp
    · refine ev_cast ev_some ?_
      rw [h2]
      simp
  · refine ev_cast ev_some ?_
    rw [show decide (1 ≤ w ∧ w ≤ 17) = false by simp at h1 ⊢; omega]
    simp
theorem ValidGutter_b0 {w d b : Int} {t : Nat → Int} {l : List (Int × Int)} (H : GutT w d b t l) :
    Ev (fun n => l_impl_ValidGutter_b0 n t 0 w d t b (pipes l)) (sel (allN (gcell w t) 0 17) (.inl (w, d, t, b, pipes l)) (.inr false)) := by
  have hbw := H.bw
  have := loop_all (l := fun n k => l_impl_ValidGutter_b0 n t (k : Nat) w d t b (pipes l)) (p := gcell w t) (A := .inl (w, d, t, b, pipes l)) (B := .inr false) 17 (ev_f (by simp) ev_some) (by
    intro k hk hp a ih
    have e1 : (k : Int).toNat * 1 = k := by simp
    have hb := H.bt k hk
    refine ev_t (by simp; omega) (ev_chk (inB_k _ _ hk) ?_)
    rw [e1, up64 k (by omega)]
    simp only [gcell, Bool.and_eq_true, Bool.or_eq_true, decide_eq_true_eq] at hp
    refine ev_bnd (ev_of fun n => within_i8 n _ _ _) (ev_t (by simp; omega) (ev_cnd (fun _ => ih) fun h1 => ?_))
    simp only [decide_eq_false_iff_not] at h1
    rw [w64 w (by omega)]
    exact ev_f (by simp; omega) ih) (by
    intro k hk hp
    have e1 : (k : Int).toNat * 1 = k := by simp
    have hb := H.bt k hk
    refine ev_t (by simp; omega) (ev_chk (inB_k _ _ hk) ?_)
    rw [e1]
    simp only [gcell, Bool.and_eq_false_iff, Bool.or_eq_false_iff, decide_eq_false_iff_not] at hp
    refine ev_bnd (ev_of fun n => within_i8 n _ _ _) (ev_cnd (fun h1 => ?_) (fun _ => ev_some))
    simp only [Bool.and_eq_true, decide_eq_true_eq] at h1
    rw [w64 w (by omega)]
    exact ev_f (by simp; omega) (ev_t (by simp; omega) ev_some)) 17 0 rfl
  exact this
theorem ValidGutter_b2 {w d b : Int} {t : Nat → Int} {l : List (Int × Int)} (H : GutT w d b t l) (hw : 1 ≤ w ∧ w ≤ 17) :
    Ev (fun n => l_impl_ValidGutter_b2 n (pipes l) (l.length : Int) 0 w d t b (pipes l)) (sel (allN (gpipe w l) 0 l.length) (.inl ()) (.inr false)) := by
  have hln := H.ln
  have := loop_all (l := fun n k => l_impl_ValidGutter_b2 n (pipes l) (l.length : Int) (k : Nat) w d t b (pipes l)) (p := gpipe w l) (A := .inl ()) (B := .inr false) l.length (ev_f (by simp) ev_some) (by
    intro k hk hp a ih
    have hb := H.bl k hk
    simp only [gpipe, Bool.and_eq_true, Bool.or_eq_true, decide_eq_true_eq] at hp
    refine ev_t (by simp; omega) (ev_bnd (a := ((pr l k).1, (pr l k).2)) (ev_of fun n => by rw [idx_prs _ _ _ _ hk]; rfl) (ev_bnd (ev_of fun n => within_i8 n _ _ _) ?_))
    rw [w8 (w - 1) (by omega)]
    refine ev_t (by simp; omega) (ev_bnd (ev_of fun n => isDeep16_eq n _ hb.2) (ev_t (by simp; omega) ?_))
    rw [up64 k (by omega)]
    by_cases h0 : 0 < k
    · rw [show IntKind.i64.wrap ((k : Int) - 1) = ((k - 1 : Nat) : Int) by rw [w64 _ (by omega)]; omega]
      exact ev_t (by simp; omega) (ev_bnd (a := ((pr l (k - 1)).1, (pr l (k - 1)).2)) (ev_of fun n => by rw [idx_prs _ _ _ _ (by omega)]; rfl) (ev_f (by simp; omega) ih))
    · exact ev_f (by simp; omega) ih) (by
    intro k hk hp
    have hb := H.bl k hk
    simp only [gpipe, Bool.and_eq_false_iff, Bool.or_eq_false_iff, decide_eq_false_iff_not] at hp
    refine ev_t (by simp; omega) (ev_bnd (a := ((pr l k).1, (pr l k).2)) (ev_of fun n => by rw [idx_prs _ _ _ _ hk]; rfl) (ev_bnd (ev_of fun n => within_i8 n _ _ _) ?_))
    rw [w8 (w - 1) (by omega)]
    refine ev_cnd (fun h1 => ?_) (fun _ => ev_some)
    simp only [Bool.and_eq_true, decide_eq_true_eq] at h1
    refine ev_bnd (ev_of fun n => isDeep16_eq n _ hb.2) (ev_cnd (fun h3 => ?_) (fun _ => ev_some))
    simp only [decide_eq_true_eq] at h3
    rw [show IntKind.i64.wrap ((k : Int) - 1) = ((k - 1 : Nat) : Int) by rw [w64 _ (by omega)]; omega]
    exact ev_t (by simp; omega) (ev_bnd (a := ((pr l (k - 1)).1, (pr l (k - 1)).2)) (ev_of fun n => by rw [idx_prs _ _ _ _ (by omega)]; rfl) (ev_t (by simp; omega) ev_some))) l.length 0 (by omega)
  exact this
theorem ValidGutter_ok {w d b : Int} {t : Nat → Int} {l : List (Int × Int)} (H : GutT w d b t l) : Ev (fun n => s_impl_ValidGutter n w d t b (pipes l)) (gutOk w d b t l) := by
  unfold s_impl_ValidGutter gutOk gutHead
  have hbw := H.bw
  have hbd := H.bd
  refine ev_bnd (ev_of fun n => within_i8 n _ _ _) (ev_cnd (fun h1 => ?_) (fun h1 => ?_))
  · simp only [Bool.and_eq_true, decide_eq_true_eq] at h1
    refine ev_bnd (ev_of fun n => isDeep16_eq n _ hbd) (ev_cnd (fun h2 => ?_) (fun h2 => ?_))
    · refine ev_chk (by simp; omega) (ev_cnd (fun h3 => ?_) (fun h3 => ?_))
      · refine ev_cnd (fun h4 => ?_) (fun h4 => ?_)
        · rw [prs_length] at h4
          refine ev_cast ev_some ?_
          rw [show decide (l.length ≤ 4) = false by simp at h4 ⊢; omega]
          simp
        · rw [prs_length] at h4
          rw [show decide (1 ≤ w ∧ w ≤ 17) = true by simpa using h1, show decide (l.length ≤ 4) = true by simp at h4 ⊢; omega, h2, show decide (b.fdiv (2 ^ min w.toNat 32) = 0) = true from h3]
          simp only [Bool.true_and]
          refine ev_bnd (ValidGutter_b0 H) ?_
          cases allN (gcell w t) 0 17 with
          | false => exact ev_some
          | true =>
            dsimp only [sel]
            rw [prs_length]
            refine ev_bnd (ValidGutter_b2 H h1) ?_
            cases allN (gpipe w l) 0 l.length <;> exact ev_some
      · refine ev_cast ev_some ?_
        rw [show decide (b.fdiv (2 ^ min w.toNat 32) = 0) = false from h3]
        simp
    · refine ev_cast ev_some ?_
      rw [h2]
      simp
  · refine ev_cast ev_some ?_
    rw [show decide (1 ≤ w ∧ w ≤ 17) = false by simp at h1 ⊢; omega]
    simp
theorem GutT.mk' {w d b : Int} {t t' : Nat → Int} {l : List (Int × Int)} (hw : (Lit.int .i8 w).wf = true) (hd : (Lit.int .i16 d).wf = true) (ht : ∀ j, j < 17 → (Lit.int .i8 (t j)).wf = true) (e : ∀ j, j < 17 → t' j = t j)
    (hl : ∀ p, p ∈ l → (Lit.int .i8 p.1).wf = true ∧ (Lit.int .i16 p.2).wf = true) (hn : l.length ≤ 1048576) : GutT w d b t' l :=
  ⟨wf_i8 hw, wf_i16 hd, fun j hj => by rw [e j hj]; exact wf_i8 (ht j hj), fun j hj => ⟨wf_i8 (hl _ (pr_mem hj)).1, wf_i16 (hl _ (pr_mem hj)).2⟩, hn⟩
theorem law_FnExactValidGutter {w d b : Int} {t : Nat → Int} {xs : List V} (hw : (Lit.int .i8 w).wf = true) (hd : (Lit.int .i16 d).wf = true) (ht : ∀ j, j < 17 → (Lit.int .i8 (t j)).wf = true) (hb : (Lit.int .u32 b).wf = true) (hx : PipeW xs) :
    Ev (fun n => s_laws_FnExactValidGutter n w d t b xs) true := by
  obtain ⟨l, rfl, hl⟩ := prs_of hx.2
  have n1 : l.length ≤ 9223372036854775807 := by have := hx.1; rw [prs_length] at this; simpa [maxLen] using this
  unfold s_laws_FnExactValidGutter
  refine ev_bnd (szGutter_ok w d b t l 1048576 (by omega) n1) ?_
  by_cases h1 : (1048576 : Int) < l.length
  · rw [if_pos h1]; exact ev_t (by simp) ev_some
  · rw [if_neg h1]
    obtain ⟨c, e1, e2⟩ := toGutter_ok w d b t l (by omega)
    have H : GutT w d b c l := .mk' hw hd ht e1 hl (by omega)
    refine ev_f (by simp; omega) (ev_bnd e2 (ev_bnd (a := gutOk w d b c l) (by unfold s_spec_ValidGutter; exact ev_bnd (l06Ok_ok H) ev_some) (ev_bnd e2 (ev_bnd (ValidGutter_ok H) (ev_t (beq_self_eq_true _) ?_)))))
    exact ev_bnd e2 (ev_bnd (eqGutter_ok _ _ _ _ _ (by omega)) (ev_t rfl ev_some))

-- water
theorem toWater_b0 (a2 a3 : Nat → Int) : ∀ (d k : Nat) (a1 : Nat → Int), k + d = 17 → (∀ j, j < k → a1 j = a3 j) → Tot (fun n => l_laws_toWater_b0 n k a3 a2 a1) (fun r => ∀ j, j < 17 → r.2 j = a3 j) := by
  intro d
  induction d with
  | zero =>
    intro k a1 hk h
    refine tot_succ (tot_f (by simp; omega) (tot_some ?_))
    intro j hj; exact h j (by omega)
  | succ d ih =>
    intro k a1 hk h
    refine tot_succ (tot_t (by simp; omega) (tot_chk (inB_k _ _ (by omega)) ?_))
    rw [up64 k (by omega)]
    refine ih (k + 1) _ (by omega) ?_
    intro j hj
    simp only [updC_at, Int.toNat_natCast, Nat.zero_add, Nat.mul_one]
    split
    · subst j; rfl
    · exact h j (by omega)
theorem toWater_ok (a0 : Nat → Int) : Tot (fun n => s_laws_toWater n a0) (fun r => ∀ j, j < 17 → r j = a0 j) := by
  refine tot_bnd (toWater_b0 _ a0 17 0 _ rfl (fun j hj => by omega)) ?_
  rintro ⟨a, b⟩ h
  exact tot_some h
def wcell (w d : Int) (v : Nat → Int) (k : Nat) : Bool := decide (0 ≤ v k ∧ v k ≤ d) && (decide (v k = 0) || decide ((k : Int) < w))
def waterOk (w d b : Int) (t : Nat → Int) (l : List (Int × Int)) (v : Nat → Int) : Bool := gutOk w d b t l && allN (wcell w d v) 0 17
theorem within_i32 (n : Nat) (a b c : Int) : s_impl_within_int32 n a b c = some (decide (b ≤ a) && decide (a ≤ c)) := by
  unfold s_impl_within_int32; by_cases h : b ≤ a <;> simp [cnd, h]
theorem l06Water_ok {w d b : Int} {t : Nat → Int} {l : List (Int × Int)} {v : Nat → Int} (H : GutT w d b t l) (hv : ∀ j, j < 17 → -2147483648 ≤ v j ∧ v j ≤ 2147483647) :
    Ev (fun n => s_spec_l06Water n w d t b (pipes l) v) (waterOk w d b t l v) := by
  unfold s_spec_l06Water waterOk
  have hbd := H.bd
  refine ev_bnd (l06Ok_ok H) ?_
  cases gutOk w d b t l with
  | false => exact ev_f rfl ev_some
  | true =>
    refine ev_t rfl ?_
    have key := loop_all (l := fun n k => l_spec_l06Water_b0 n w d t b (pipes l) v (k : Nat)) (p := wcell w d v) (A := .inl ()) (B := .inr false) 17 (ev_f (by simp) ev_some) (by
      intro k hk hp a ih
      have e1 : 0 + (k : Int).toNat * 1 = k := by simp
      have hb := hv k hk
      refine ev_t (by simp; omega) (ev_chk (inB_k _ _ hk) ?_)
      rw [e1, w64 _ (by omega), w64 d (by omega), up8 k (by omega)]
      simp only [wcell, Bool.and_eq_true, Bool.or_eq_true, decide_eq_true_eq] at hp
      refine ev_bnd (ev_of fun n => l00In_eq n _ _ _) (ev_t (by simp; omega) ?_)
      by_cases h1 : w ≤ (k : Int)
      · exact ev_t (by simpa using h1) (ev_t (by simp; omega) ih)
      · exact ev_f (by simpa using h1) ih) (by
      intro k hk hp
      have e1 : 0 + (k : Int).toNat * 1 = k := by simp
      have hb := hv k hk
      refine ev_t (by simp; omega) (ev_chk (inB_k _ _ hk) ?_)
      rw [e1, w64 _ (by omega), w64 d (by omega)]
      simp only [wcell, Bool.and_eq_false_iff, Bool.or_eq_false_iff, decide_eq_false_iff_not] at hp
      refine ev_bnd (ev_of fun n => l00In_eq n _ _ _) (ev_cnd (fun h1 => ?_) (fun _ => ev_some))
      simp only [Bool.and_eq_true, decide_eq_true_eq] at h1
      exact ev_t (by simp; omega) (ev_f (by simp; omega) ev_some)) 17 0 rfl
    refine ev_bnd key ?_
    cases allN (wcell w d v) 0 17 <;> exact ev_some
theorem ValidWater_ok {w d b : Int} {t : Nat → Int} {l : List (Int × Int)} {v : Nat → Int} (H : GutT w d b t l) (hv : ∀ j, j < 17 → -2147483648 ≤ v j ∧ v j ≤ 2147483647) :
    Ev (fun n => s_impl_ValidWater n w d t b (pipes l) v) (waterOk w d b t l v) := by
  unfold s_impl_ValidWater waterOk
  have hbd := H.bd
  have hbw := H.bw
  refine ev_bnd (ValidGutter_ok H) ?_
  cases gutOk w d b t l with
  | false => exact ev_f rfl ev_some
  | true =>
    refine ev_t rfl ?_
    have key := loop_all (l := fun n k => l_impl_ValidWater_b0 n v (k : Nat) w d t b (pipes l)) (p := wcell w d v) (A := .inl ()) (B := .inr false) 17 (ev_f (by simp) ev_some) (by
      intro k hk hp a ih
      have e1 : (k : Int).toNat * 1 = k := by simp
      have hb := hv k hk
      refine ev_t (by simp; omega) (ev_chk (inB_k _ _ hk) ?_)
      rw [e1, w32 d (by omega), up64 k (by omega)]
      simp only [wcell, Bool.and_eq_true, Bool.or_eq_true, decide_eq_true_eq] at hp
      refine ev_bnd (ev_of fun n => within_i32 n _ _ _) (ev_t (by simp; omega) (ev_cnd (fun _ => ih) fun h1 => ?_))
      simp only [decide_eq_false_iff_not] at h1
      rw [w64 w (by omega)]
      exact ev_f (by simp; omega) ih) (by
      intro k hk hp
      have e1 : (k : Int).toNat * 1 = k := by simp
      have hb := hv k hk
      refine ev_t (by simp; omega) (ev_chk (inB_k _ _ hk) ?_)
      rw [e1, w32 d (by omega)]
      simp only [wcell, Bool.and_eq_false_iff, Bool.or_eq_false_iff, decide_eq_false_iff_not] at hp
      refine ev_bnd (ev_of fun n => within_i32 n _ _ _) (ev_cnd (fun h1 => ?_) (fun _ => ev_some))
      simp only [Bool.and_eq_true, decide_eq_true_eq] at h1
      rw [w64 w (by omega)]
      exact ev_f (by simp; omega) (ev_t (by simp; omega) ev_some)) 17 0 rfl
    refine ev_bnd key ?_
    cases allN (wcell w d v) 0 17 <;> exact ev_some
theorem law_FnExactValidWater {w d b : Int} {t v : Nat → Int} {xs : List V} (hw : (Lit.int .i8 w).wf = true) (hd : (Lit.int .i16 d).wf = true) (ht : ∀ j, j < 17 → (Lit.int .i8 (t j)).wf = true) (hb : (Lit.int .u32 b).wf = true) (hx : PipeW xs)
    (hv : ∀ j, j < 17 → (Lit.int .i32 (v j)).wf = true) : Ev (fun n => s_laws_FnExactValidWater n w d t b xs v) true := by
  obtain ⟨l, rfl, hl⟩ := prs_of hx.2
  have n1 : l.length ≤ 9223372036854775807 := by have := hx.1; rw [prs_length] at this; simpa [maxLen] using this
  unfold s_laws_FnExactValidWater
  refine ev_bnd (szGutter_ok w d b t l 1048576 (by omega) n1) ?_
  by_cases h1 : (1048576 : Int) < l.length
  · rw [if_pos h1]; exact ev_t (by simp) ev_some
  · rw [if_neg h1]
    obtain ⟨c, e1, e2⟩ := toGutter_ok w d b t l (by omega)
    obtain ⟨v', e3, e4⟩ := toWater_ok v
    have H : GutT w d b c l := .mk' hw hd ht e1 hl (by omega)
    have hv' : ∀ j, j < 17 → -2147483648 ≤ v' j ∧ v' j ≤ 2147483647 := fun j hj => by rw [e3 j hj]; exact wf_i32 (hv j hj)
    refine ev_f (by simp; omega) (ev_bnd e2 (ev_bnd e4 (ev_bnd (a := waterOk w d b c l v') (by unfold s_spec_ValidWater; exact ev_bnd (l06Water_ok H hv') ev_some) (ev_bnd e2 (ev_bnd e4 (ev_bnd (ValidWater_ok H hv') (ev_t (beq_self_eq_true _) ?_)))))))
    exact ev_bnd e2 (ev_bnd (eqGutter_ok _ _ _ _ _ (by omega)) (ev_t rfl ev_some))
end Go.Proofs.Ytkfihbdikdkcmaa
