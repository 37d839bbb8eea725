/- Gutters: copied, compared, checked. Laws SameGutter, ValidGutter, ValidWater. -/
import Derived.Test.YtdhcfdiggcgmhaaPr0
import Derived.Test.YtdhcfdiggcgmhaaSh3
namespace Go.Proofs.Ytdhcfdiggcgmhaa
open Go
set_option linter.unusedVariables false
set_option linter.unusedSimpArgs false

abbrev pipes (l : List (Int × Int)) : List V := prs .i8 .i16 l
theorem toPipeS_ok (l : List (Int × Int)) (hl : l.length ≤ 1048576) : Ev (fun n => s_laws_toPipeS n (pipes l)) (pipes l) := by
  unfold s_laws_toPipeS
  refine ev_chk (by simp [prs_length]; omega) ?_
  obtain ⟨v, hv, h1⟩ := loop_up (l := fun n k (st : List (Int × Int)) => l_laws_toPipeS_b0 n (pipes l) (k : Nat) (pipes st)) (I := fun k st => st.length = l.length ∧ ∀ j, j < k → st[j]? = l[j]?)
    (P := fun v => v = pipes l) l.length (by
    rintro k st hk ⟨e1, e2⟩ ih
    by_cases hlt : k < l.length
    · have hk2 : k < st.length := by omega
      refine tot_t (by simp [prs_length]; omega) (tot_ev (a := pr l k) (ev_of fun n => by rw [idx_prs _ _ _ _ hlt]; rfl) (tot_ev (a := pr l k) ev_some (tot_chk (inB_k _ _ (by rw [prs_length]; exact hk2)) (tot_ev (a := pr st k) (ev_of fun n => by rw [Int.toNat_natCast, nth_prs _ _ _ _ hk2]; rfl) ?_))))
      rw [Int.toNat_natCast, up64 k (by omega)]
      dsimp only
      rw [set_prs]
      refine ih hlt _ ⟨by simp [e1], fun j hj => ?_⟩
      rw [List.getElem?_set]
      by_cases h : k = j
      · subst h; rw [if_pos rfl, if_pos hk2, pr_get hlt]
      · rw [if_neg h]; exact e2 j (by omega)
    · obtain rfl : k = l.length := by omega
      refine tot_f (by simp [prs_length]) (tot_some ?_)
      congr 1
      apply List.ext_getElem?
      intro j
      by_cases hj : j < l.length
      · exact e2 j hj
      · rw [List.getElem?_eq_none (by omega), List.getElem?_eq_none (by omega)]) 0 (List.replicate l.length (0, 0)) (by omega) ⟨by simp, fun j hj => by omega⟩
  subst hv
  rw [show ((((pipes l).length : Int)).toNat) = l.length by simp [prs_length], rep_prs]
  exact ev_bnd h1 ev_some
theorem toInt8A17_b0 (a2 a3 : Nat → Int) : ∀ (d k : Nat) (a1 : Nat → Int), k + d = 17 → (∀ j, j < k → a1 j = a3 j) → Tot (fun n => l_laws_toInt8A17_b0 n k a3 a2 a1) (fun r => ∀ j, j < 17 → r.2 j = a3 j) := by
  intro d
  induction d with
  | zero =>
    intro k a1 hk h
    refine tot_succ (tot_f (by simp; omega) (tot_some ?_))
    intro j hj; exact h j (by omega)
  | succ d ih =>
    intro k a1 hk h
    refine tot_succ (tot_t (by simp; omega) (tot_chk (inB_k _ _ (by omega)) ?_))
    rw [up64 k (by omega)]
    refine ih (k + 1) _ (by omega) ?_
    intro j hj
    simp only [updC_at, Int.toNat_natCast, Nat.zero_add, Nat.mul_one]
    split
    · subst j; rfl
    · exact h j (by omega)
theorem toInt8A17_ok (a0 : Nat → Int) : Tot (fun n => s_laws_toInt8A17 n a0) (fun r => ∀ j, j < 17 → r j = a0 j) := by
  refine tot_bnd (toInt8A17_b0 _ a0 17 0 _ rfl (fun j hj => by omega)) ?_
  rintro ⟨a, b⟩ h
  exact tot_some h
theorem toGutter_ok (w d b : Int) (t : Nat → Int) (l : List (Int × Int)) (hl : l.length ≤ 1048576) : ∃ t', (∀ j, j < 17 → t' j = t j) ∧ Ev (fun n => s_laws_toGutter n w d t b (pipes l)) (w, d, t', b, pipes l) := by
  obtain ⟨t', e1, e2⟩ := toInt8A17_ok t
  exact ⟨t', e1, ev_bnd e2 (ev_bnd (toPipeS_ok l hl) ev_some)⟩
theorem szGutter_ok (w d b : Int) (t : Nat → Int) (l : List (Int × Int)) (m : Int) (hm : 0 ≤ m ∧ m ≤ 1048576) (hl : l.length ≤ 9223372036854775807) : Ev (fun n => s_laws_szGutter n w d t b (pipes l) m) (if m < l.length then -1 else m - l.length) := by
  unfold s_laws_szGutter s_laws_szPipeS
  rw [show ((pipes l).length : Int) = (l.length : Int) by simp [prs_length], w64 _ (by omega)]
  split
  · exact ev_bnd (ev_t (by simp; omega) ev_some) (ev_t (by simp) ev_some)
  · exact ev_bnd (ev_f (by simp; omega) ev_some) (ev_f (by simp; omega) ev_some)
theorem eqInt8A17_ok (a b : Nat → Int) : Ev (fun n => s_laws_eqInt8A17 n a b) (allN (fun j => decide (a j = b j)) 0 17) := by
  unfold s_laws_eqInt8A17
  have key := loop_all (l := fun n k => l_laws_eqInt8A17_b0 n (k : Nat) a b) (p := fun j => decide (a j = b j)) (A := .inl ()) (B := .inr false) 17 (ev_f (by simp) ev_some) (by
    intro k hk hp v ih
    have e1 : 0 + (k : Int).toNat * 1 = k := by simp
    refine ev_t (by simp; omega) (ev_chk (inB_k _ _ hk) ?_)
    rw [e1, up64 k (by omega)]
    exact ev_t hp ih) (by
    intro k hk hp
    have e1 : 0 + (k : Int).toNat * 1 = k := by simp
    refine ev_t (by simp; omega) (ev_chk (inB_k _ _ hk) ?_)
    rw [e1]
    exact ev_f hp ev_some) 17 0 rfl
  refine ev_bnd key ?_
  cases allN (fun j => decide (a j = b j)) 0 17 <;> exact ev_some
theorem eqPipeS_ok (l : List (Int × Int)) (hl : l.length ≤ 1048576) : Ev (fun n => s_laws_eqPipeS n (pipes l) (pipes l)) true := by
  unfold s_laws_eqPipeS
  refine ev_t (by simp) (ev_bnd (a := Sum.inl ()) ?_ ev_some)
  have := loop_all (l := fun n k => l_laws_eqPipeS_b0 n (pipes l) (pipes l) (k : Nat)) (p := fun _ => true) (A := .inl ()) (B := .inr false) l.length (ev_f (by simp [prs_length]) ev_some) (by
    intro k hk _ a ih
    refine ev_t (by simp [prs_length]; omega) (ev_bnd (a := pr l k) (ev_of fun n => by rw [idx_prs _ _ _ _ hk]; rfl) (ev_bnd (a := pr l k) (ev_of fun n => by rw [idx_prs _ _ _ _ hk]; rfl) (ev_bnd (a := true) (by
      unfold s_laws_eqPipe
      exact ev_t (by simp) (ev_t (by simp) ev_some)) (ev_t rfl ?_))))
    rw [up64 k (by omega)]
    exact ih) (by intro k hk h; cases h) l.length 0 (by omega)
  have h2 : allN (fun _ => true) 0 l.length = true := (allN_iff _ _ _).2 fun _ _ _ => rfl
  rw [h2] at this
  exact this
theorem eqGutter_ok (w d b : Int) (t : Nat → Int) (l : List (Int × Int)) (hl : l.length ≤ 1048576) : Ev (fun n => s_laws_eqGutter n w d t b (pipes l) w d t b (pipes l)) true := by
  unfold s_laws_eqGutter
  exact ev_t (by simp) (ev_t (by simp) (ev_bnd (eqInt8A17_ok t t) (ev_t (allN_refl _ 0 17) (ev_t (by simp) (ev_bnd (eqPipeS_ok l hl) (ev_t rfl ev_some))))))

-- SameGutter
def pipeEq (l m : List (Int × Int)) (j : Nat) : Bool := eqParts [(V.int .i8 ((pr l j).1)), (V.int .i16 ((pr l j).2))] [(V.int .i8 ((pr m j).1)), (V.int .i16 ((pr m j).2))]
def sameG (w d b : Int) (t : Nat → Int) (l : List (Int × Int)) (w' d' b' : Int) (t' : Nat → Int) (l' : List (Int × Int)) : Bool :=
  sel (decide (w = w')) (sel (decide (d = d')) (sel (allEq 17 t t') (sel (decide (b = b')) (sel (decide ((l.length : Int) = (l'.length : Int))) (allN (pipeEq l l') 0 l.length) false) false) false) false) false
theorem ev_sel {α : Type} {f g : Nat → Option α} {c : Bool} {x y : α} (h1 : c = true → Ev f x) (h2 : c = false → Ev g y) : Ev (fun n => cnd c (f n) (g n)) (sel c x y) := by
  cases c with
  | true => exact ev_t rfl (h1 rfl)
  | false => exact ev_f rfl (h2 rfl)
theorem spec_SameGutter_ok (w d b : Int) (t : Nat → Int) (l : List (Int × Int)) (w' d' b' : Int) (t' : Nat → Int) (l' : List (Int × Int)) (hl : l.length ≤ 1048576) :
    Ev (fun n => s_spec_SameGutter n w d t b (pipes l) w' d' t' b' (pipes l')) (sameG w d b t l w' d' b' t' l') := by
  unfold s_spec_SameGutter sameG
  rw [show ((pipes l).length : Int) = (l.length : Int) by simp [prs_length], show ((pipes l').length : Int) = (l'.length : Int) by simp [prs_length]]
  refine ev_sel (fun _ => ev_sel (fun _ => ev_sel (fun _ => ev_sel (fun _ => ev_sel (fun he => ?_) fun _ => ev_some) fun _ => ev_some) fun _ => ev_some) fun _ => ev_some) fun _ => ev_some
  have he' : l.length = l'.length := by have := of_decide_eq_true he; omega
  have key := loop_all (l := fun n k => l_spec_SameGutter_b0 n (k : Nat) w d t b (pipes l) w' d' t' b' (pipes l')) (p := pipeEq l l') (A := .inl ()) (B := .inr false) l.length (ev_f (by simp [prs_length]) ev_some) (by
    intro k hk hp a ih
    refine ev_t (by simp [prs_length]; omega) (ev_bnd (a := pr l k) (ev_of fun n => by rw [idx_prs _ _ _ _ hk]; rfl) (ev_bnd (a := pr l' k) (ev_of fun n => by rw [idx_prs _ _ _ _ (by omega)]; rfl) (ev_t hp ?_)))
    rw [up64 k (by omega)]
    exact ih) (by
    intro k hk hp
    exact ev_t (by simp [prs_length]; omega) (ev_bnd (a := pr l k) (ev_of fun n => by rw [idx_prs _ _ _ _ hk]; rfl) (ev_bnd (a := pr l' k) (ev_of fun n => by rw [idx_prs _ _ _ _ (by omega)]; rfl) (ev_f hp ev_some)))) l.length 0 (by omega)
  refine ev_bnd key ?_
  cases allN (pipeEq l l') 0 l.length <;> exact ev_some
theorem Equal_ok (l l' : List (Int × Int)) (hl : l.length ≤ 1048576) :
    Ev (fun n => s_slices_Equal_Simpl_Pipe_impl_Pipe n (pipes l) (pipes l')) (sel (decide ((l.length : Int) = (l'.length : Int))) (allN (pipeEq l l') 0 l.length) false) := by
  unfold s_slices_Equal_Simpl_Pipe_impl_Pipe
  rw [show ((pipes l).length : Int) = (l.length : Int) by simp [prs_length], show ((pipes l').length : Int) = (l'.length : Int) by simp [prs_length]]
  refine ev_sel (fun he => ?_) fun _ => ev_some
  have he' : l.length = l'.length := by have := of_decide_eq_true he; omega
  have key := loop_all (l := fun n k => l_slices_Equal_Simpl_Pipe_impl_Pipe_b0 n (pipes l) (pipes l') (l.length : Int) (k : Nat)) (p := pipeEq l l') (A := .inl ()) (B := .inr false) l.length (ev_f (by simp) ev_some) (by
    intro k hk hp a ih
    refine ev_t (by simp; omega) (ev_bnd (a := pr l k) (ev_of fun n => by rw [idx_prs _ _ _ _ hk]; rfl) (ev_bnd (a := pr l' k) (ev_of fun n => by rw [idx_prs _ _ _ _ (by omega)]; rfl) (ev_t hp ?_)))
    rw [up64 k (by omega)]
    exact ih) (by
    intro k hk hp
    exact ev_t (by simp; omega) (ev_bnd (a := pr l k) (ev_of fun n => by rw [idx_prs _ _ _ _ hk]; rfl) (ev_bnd (a := pr l' k) (ev_of fun n => by rw [idx_prs _ _ _ _ (by omega)]; rfl) (ev_f hp ev_some)))) l.length 0 (by omega)
  refine ev_bnd key ?_
  cases allN (pipeEq l l') 0 l.length <;> exact ev_some
theorem impl_SameGutter_ok (w d b : Int) (t : Nat → Int) (l : List (Int × Int)) (w' d' b' : Int) (t' : Nat → Int) (l' : List (Int × Int)) (hl : l.length ≤ 1048576) :
    Ev (fun n => s_impl_SameGutter n w d t b (pipes l) w' d' t' b' (pipes l')) (sameG w d b t l w' d' b' t' l') := by
  unfold s_impl_SameGutter sameG
  exact ev_sel (fun _ => ev_sel (fun _ => ev_sel (fun _ => ev_sel (fun _ => ev_bnd (Equal_ok l l' hl) ev_some) fun _ => ev_some) fun _ => ev_some) fun _ => ev_some) fun _ => ev_some
abbrev PipeW (xs : List V) : Prop := xs.length ≤ maxLen ∧ ∀ x, x ∈ xs → ∃ l, x = .parts l ∧ inL [.int .i8, .int .i16] l
theorem law_FnExactSameGutter {w d b w' d' b' : Int} {t t' : Nat → Int} {xs xs' : List V} (hw : (Lit.int .i8 w).wf = true) (hd : (Lit.int .i16 d).wf = true) (ht : ∀ j, j < 17 → (Lit.int .i8 (t j)).wf = true) (hb : (Lit.int .u32 b).wf = true) (hx : PipeW xs)
    (hw' : (Lit.int .i8 w').wf = true) (hd' : (Lit.int .i16 d').wf = true) (ht' : ∀ j, j < 17 → (Lit.int .i8 (t' j)).wf = true) (hb' : (Lit.int .u32 b').wf = true) (hx' : PipeW xs') :
    Ev (fun n => s_laws_FnExactSameGutter n w d t b xs w' d' t' b' xs') true := by
  obtain ⟨l, rfl, hl⟩ := prs_of hx.2
  obtain ⟨l', rfl, hl'⟩ := prs_of hx'.2
  have n1 : l.length ≤ 9223372036854775807 := by have := hx.1; rw [prs_length] at this; simpa [maxLen] using this
  have n2 : l'.length ≤ 9223372036854775807 := by have := hx'.1; rw [prs_length] at this; simpa [maxLen] using this
  unfold s_laws_FnExactSameGutter
  refine ev_bnd (szGutter_ok w d b t l 1048576 (by omega) n1) ?_
  by_cases h1 : (1048576 : Int) < l.length
  · rw [if_pos h1]; exact ev_t (by simp) ev_some
  · rw [if_neg h1]
    refine ev_f (by simp; omega) (ev_bnd (szGutter_ok w' d' b' t' l' _ (by omega) n2) ?_)
    by_cases h2 : (1048576 : Int) - l.length < l'.length
    · rw [if_pos h2]; exact ev_t (by simp) ev_some
    · rw [if_neg h2]
      obtain ⟨c, e1, e2⟩ := toGutter_ok w d b t l (by omega)
      obtain ⟨c', e3, e4⟩ := toGutter_ok w' d' b' t' l' (by omega)
      refine ev_f (by simp; omega) (ev_bnd e2 (ev_bnd e4 (ev_bnd (spec_SameGutter_ok _ _ _ _ _ _ _ _ _ _ (by omega)) (ev_bnd e2 (ev_bnd e4 (ev_bnd (impl_SameGutter_ok _ _ _ _ _ _ _ _ _ _ (by omega)) (ev_t (beq_self_eq_true _) ?_)))))))
      exact ev_bnd e2 (ev_bnd (eqGutter_ok _ _ _ _ _ (by omega)) (ev_t rfl (ev_bnd e4 (ev_bnd (eqGutter_ok _ _ _ _ _ (by omega)) (ev_t rfl ev_some)))))
end Go.Proofs.Ytdhcfdiggcgmhaa
