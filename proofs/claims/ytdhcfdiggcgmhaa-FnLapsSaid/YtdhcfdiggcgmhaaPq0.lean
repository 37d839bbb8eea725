/- Lists of places as arguments: copied, counted, all of a roof. -/
import Derived.Test.YtdhcfdiggcgmhaaPb0
namespace Go.Proofs.Ytdhcfdiggcgmhaa
open Go
set_option linter.unusedVariables false
set_option linter.unusedSimpArgs false

theorem allN_succ (p : Nat → Bool) (k : Nat) : allN p 0 (k + 1) = (allN p 0 k && p k) := by
  rw [Bool.eq_iff_iff, Bool.and_eq_true, allN_iff, allN_iff]
  constructor
  · intro h; exact ⟨fun j h1 h2 => h j h1 (by omega), h k (by omega) (by omega)⟩
  · rintro ⟨h1, h2⟩ j _ hj
    by_cases hjk : j = k
    · subst hjk; exact h2
    · exact h1 j (by omega) (by omega)
theorem contains_all (p : Nat → Bool) (N : Nat) : decide (0 ≤ (match firstN (fun j => !p j) 0 N with | some j => (j : Int) | none => -1)) = !allN p 0 N := by
  cases hf : firstN (fun j => !p j) 0 N with
  | none =>
    have := firstN_none hf
    have h2 : allN p 0 N = true := (allN_iff _ _ _).2 fun j h1 h2 => by have := this j h1 h2; simpa using this
    rw [h2]; simp
  | some j =>
    obtain ⟨_, h1, h2, _⟩ := firstN_some hf
    have h3 : allN p 0 N = false := by
      cases ha : allN p 0 N with
      | false => rfl
      | true => have := (allN_iff _ _ _).1 ha j (by omega) h1; rw [this] at h2; cases h2
    rw [h3]; simp
theorem toPlaceS_ok (l : List (Int × Int)) (hl : l.length ≤ 1048576) : Ev (fun n => s_laws_toPlaceS n (places l)) (places l) := by
  unfold s_laws_toPlaceS
  refine ev_chk (by simp [prs_length]; omega) ?_
  obtain ⟨v, hv, h1⟩ := loop_up (l := fun n k (st : List (Int × Int)) => l_laws_toPlaceS_b0 n (places l) (k : Nat) (places st)) (I := fun k st => st.length = l.length ∧ ∀ j, j < k → st[j]? = l[j]?)
    (P := fun v => v = places l) l.length (by
    rintro k st hk ⟨e1, e2⟩ ih
    by_cases hlt : k < l.length
    · have hk2 : k < st.length := by omega
      refine tot_t (by simp [prs_length]; omega) (tot_ev (a := pr l k) (ev_of fun n => by rw [idx_prs _ _ _ _ hlt]; rfl) (tot_ev (a := pr l k) ev_some (tot_chk (inB_k _ _ (by rw [prs_length]; exact hk2)) (tot_ev (a := pr st k) (ev_of fun n => by rw [Int.toNat_natCast, nth_prs _ _ _ _ hk2]; rfl) ?_))))
      rw [Int.toNat_natCast, up64 k (by omega)]
      dsimp only
      rw [set_prs]
      refine ih hlt _ ⟨by simp [e1], fun j hj => ?_⟩
      rw [List.getElem?_set]
      by_cases h : k = j
      · subst h; rw [if_pos rfl, if_pos hk2, pr_get hlt]
      · rw [if_neg h]; exact e2 j (by omega)
    · obtain rfl : k = l.length := by omega
      refine tot_f (by simp [prs_length]) (tot_some ?_)
      congr 1
      apply List.ext_getElem?
      intro j
      by_cases hj : j < l.length
      · exact e2 j hj
      · rw [List.getElem?_eq_none (by omega), List.getElem?_eq_none (by omega)]) 0 (List.replicate l.length (0, 0)) (by omega) ⟨by simp, fun j hj => by omega⟩
  subst hv
  rw [show ((((places l).length : Int)).toNat) = l.length by simp [prs_length], rep_prs]
  exact ev_bnd h1 ev_some
structure PlT (m : List (Int × Int)) : Prop where
  b : ∀ j, j < m.length → (-128 ≤ (pr m j).1 ∧ (pr m j).1 ≤ 127) ∧ (-128 ≤ (pr m j).2 ∧ (pr m j).2 ≤ 127)
  n : m.length ≤ 1048576
def isQ (w h : Int) (p : Int × Int) : Bool := decide (0 ≤ p.1 ∧ p.1 < h ∧ 0 ≤ p.2 ∧ p.2 < w)
def hasQ (w h : Int) (p : Int × Int) : Bool := (decide (0 ≤ p.1) && decide (p.1 ≤ IntKind.i8.wrap (h - 1))) && (decide (0 ≤ p.2) && decide (p.2 ≤ IntKind.i8.wrap (w - 1)))
theorem has_ok {w h s : Int} {t : Nat → Int} (c k : Int) : Ev (fun n => s_impl_Roof_has n w h s t c k) (hasQ w h (c, k)) := by
  unfold s_impl_Roof_has hasQ
  refine ev_bnd (ev_of fun n => within_i8 n _ _ _) (ev_cnd (fun h1 => ?_) (fun h1 => ?_))
  · refine ev_bnd (ev_of fun n => within_i8 n _ _ _) (ev_cast ev_some ?_)
    dsimp only
    rw [h1, Bool.true_and]
  · refine ev_cast ev_some ?_
    dsimp only
    rw [h1, Bool.false_and]
theorem has_is {w h s : Int} {t : Nat → Int} (H : RoofV w h s t) (p : Int × Int) : hasQ w h p = isQ w h p := by
  have hb := H.b
  unfold hasQ isQ
  rw [w8 (h - 1) (by omega), w8 (w - 1) (by omega), Bool.eq_iff_iff]
  simp
  omega
def allP (q : Int × Int → Bool) (m : List (Int × Int)) : Bool := allN (fun j => q (pr m j)) 0 m.length
theorem areAllHas_ok {w h s : Int} {t : Nat → Int} (m : List (Int × Int)) (hm : m.length ≤ 1048576) : Ev (fun n => s_impl_areAll_impl_Place__Roof_has n (places m) w h s t) (allP (hasQ w h) m) := by
  unfold s_impl_areAll_impl_Place__Roof_has s_slices_ContainsFunc_Simpl_Place_impl_Place__areAll_Place_1__Roof_has s_slices_IndexFunc_Simpl_Place_impl_Place__areAll_Place_1__Roof_has
  have e : ∀ c k, Ev (fun n => s_impl_areAll_impl_Place_1__Roof_has n c k w h s t) (!hasQ w h (c, k)) := fun c k => by
    unfold s_impl_areAll_impl_Place_1__Roof_has
    exact ev_bnd (has_ok c k) ev_some
  rw [show ((places m).length : Int) = (m.length : Int) by simp [prs_length]]
  have key := loop_first (l := fun n j => l_slices_IndexFunc_Simpl_Place_impl_Place__areAll_Place_1__Roof_has_b0 n (places m) w h s t (m.length : Int) (j : Nat)) (p := fun j => !hasQ w h (pr m j)) (A := .inl ()) (B := fun j => .inr (j : Int)) m.length (ev_f (by simp) ev_some) (by
    intro j hj hp v ih
    refine ev_t (by simp; omega) (ev_bnd (a := ((pr m j).1, (pr m j).2)) (ev_of fun n => by rw [idx_prs _ _ _ _ hj]; rfl) (ev_bnd (e _ _) ?_))
    rw [up64 j (by omega)]
    exact ev_f hp ih) (by
    intro j hj hp
    exact ev_t (by simp; omega) (ev_bnd (a := ((pr m j).1, (pr m j).2)) (ev_of fun n => by rw [idx_prs _ _ _ _ hj]; rfl) (ev_bnd (e _ _) (ev_t hp ev_some)))) m.length 0 (by omega)
  refine ev_bnd (ev_bnd (ev_bnd key (b := match firstN (fun j => !hasQ w h (pr m j)) 0 m.length with | some j => (j : Int) | none => -1) ?_) ev_some) ?_
  · cases firstN (fun j => !hasQ w h (pr m j)) 0 m.length <;> exact ev_some
  · refine ev_cast ev_some ?_
    rw [contains_all (fun j => hasQ w h (pr m j)), Bool.not_not]
    rfl
theorem szPlaceS_ok (m : List (Int × Int)) (hl : m.length ≤ 9223372036854775807) : Ev (fun n => s_laws_szPlaceS n (places m) 1048576) (if (1048576 : Int) < m.length then -1 else 1048576 - m.length) := by
  unfold s_laws_szPlaceS
  rw [show ((places m).length : Int) = (m.length : Int) by simp [prs_length], w64 _ (by omega)]
  split
  · exact ev_t (by simp; omega) ev_some
  · exact ev_f (by simp; omega) ev_some
theorem PlT.mk' {m : List (Int × Int)} (h : ∀ p, p ∈ m → (Lit.int .i8 p.1).wf = true ∧ (Lit.int .i8 p.2).wf = true) (hn : m.length ≤ 1048576) : PlT m :=
  ⟨fun j hj => ⟨wf_i8 (h _ (pr_mem hj)).1, wf_i8 (h _ (pr_mem hj)).2⟩, hn⟩
end Go.Proofs.Ytdhcfdiggcgmhaa
