/- Laws CanReach, LadderFor. -/
import Derived.Test.YtdhcfdiggcgmhaaPd2
import Derived.Test.YtdhcfdiggcgmhaaPq0
namespace Go.Proofs.Ytdhcfdiggcgmhaa
open Go
set_option linter.unusedVariables false
set_option linter.unusedSimpArgs false

def askF (w h s : Int) (t : Nat → Int) (l : List Int) (m : List (Int × Int)) (f : Bool) : Int := if roofC w h s t f = 0 then (if 8 < l.length then 3 else if 8 < m.length then 3 else 0) else roofC w h s t f
theorem Asked2_ok {w h s : Int} {t : Nat → Int} (H : RoofT w h s t) (l : List Int) (hl : l.length ≤ 1048576) (m : List (Int × Int)) (hm : PlT m) (b : Bool) : Ev (fun n => s_spec_l04Asked n w h s t (ints .i64 l) (places m) b) (askF w h s t l m (b && allQ w l && allP (isQ w h) m)) := by
  unfold s_spec_l04Asked askF
  have hmn := hm.n
  obtain ⟨v, hv, h1⟩ := loop_up (l := fun n k (q : Bool) => l_spec_l04Asked_b0 n w h s t (ints .i64 l) (places m) q (k : Nat)) (I := fun k q => q = (b && allN (fun j => cellQ w (gi l j)) 0 k))
    (P := fun v => v = (w, h, s, t, ints .i64 l, places m, (b && allQ w l))) l.length (by
    intro k q hk hq ih
    by_cases hlt : k < l.length
    · refine tot_t (by simp [ints_length]; omega) ?_
      rw [up64 k (by omega)]
      refine tot_cnd (fun c => ?_) (fun c => ?_)
      · refine tot_ev (a := gi l k) (ev_of fun n => by rw [idx_gi _ _ _ hlt]; rfl) (tot_ev (l04Cell_ok H _) (ih hlt _ ?_))
        rw [allN_succ, ← Bool.and_assoc, ← hq, c, Bool.true_and]
      · refine ih hlt _ ?_
        rw [allN_succ, ← Bool.and_assoc, ← hq, c, Bool.false_and]
    · obtain rfl : k = l.length := by omega
      subst hq
      exact tot_f (by simp [ints_length]) (tot_some rfl)) 0 b (by omega) (by simp [allN])
  subst hv
  obtain ⟨v, hv, h2⟩ := loop_up (l := fun n k (q : Bool) => l_spec_l04Asked_b2 n w h s t (ints .i64 l) (places m) q (k : Nat)) (I := fun k q => q = ((b && allQ w l) && allN (fun j => isQ w h (pr m j)) 0 k))
    (P := fun v => v = (w, h, s, t, ints .i64 l, places m, (b && allQ w l && allP (isQ w h) m))) m.length (by
    intro k q hk hq ih
    by_cases hlt : k < m.length
    · have hb := hm.b k hlt
      refine tot_t (by simp [prs_length]; omega) ?_
      rw [up64 k (by omega)]
      refine tot_cnd (fun c => ?_) (fun c => ?_)
      · refine tot_ev (a := ((pr m k).1, (pr m k).2)) (ev_of fun n => by rw [idx_prs _ _ _ _ hlt]; rfl) (tot_ev (ev_of fun n => l01Is_eq n _ _ H hb.1 hb.2) (ih hlt _ ?_))
        rw [allN_succ, ← Bool.and_assoc, ← hq, c, Bool.true_and]
        rfl
      · refine ih hlt _ ?_
        rw [allN_succ, ← Bool.and_assoc, ← hq, c, Bool.false_and]
    · obtain rfl : k = m.length := by omega
      subst hq
      exact tot_f (by simp [prs_length]) (tot_some rfl)) 0 (b && allQ w l) (by omega) (by simp [allN])
  subst hv
  refine ev_bnd h1 (ev_bnd h2 (ev_bnd (l01Told_ok H _) ?_))
  by_cases hc : roofC w h s t (b && allQ w l && allP (isQ w h) m) = 0
  · rw [if_pos hc]
    refine ev_t (by simpa using hc) ?_
    by_cases h8 : 8 < l.length
    · rw [if_pos h8]; exact ev_t (by simp [ints_length]; omega) ev_some
    · rw [if_neg h8]
      refine ev_f (by simp [ints_length]; omega) ?_
      by_cases h9 : 8 < m.length
      · rw [if_pos h9]; exact ev_t (by simp [prs_length]; omega) ev_some
      · rw [if_neg h9]; exact ev_f (by simp [prs_length]; omega) (ev_cast ev_some hc)
  · rw [if_neg hc]
    exact ev_f (by simpa using hc) ev_some
theorem jobCode2_ok {w h s : Int} {t : Nat → Int} (H : RoofT w h s t) (b : Bool) (x y : Nat) : Ev (fun n => s_impl_jobCode n w h s t b [(V.int .i64 (x : Int)), (V.int .i64 (y : Int))]) (if roofC w h s t b = 0 then (if 8 < x then 3 else if 8 < y then 3 else 0) else roofC w h s t b) := by
  unfold s_impl_jobCode
  refine ev_bnd (roofCode_ok H b) ?_
  by_cases hc : roofC w h s t b = 0
  · rw [if_pos hc]
    refine ev_t (by simpa using hc) (ev_bnd (a := decide (x ≤ 8) && decide (y ≤ 8)) ?_ ?_)
    · unfold s_impl_areAll_int__jobCode_1 s_slices_ContainsFunc_Sint_int__areAll_int_1__jobCode_1 s_slices_IndexFunc_Sint_int__areAll_int_1__jobCode_1
      have e : ∀ (n : Nat) (c : Int), s_impl_areAll_int_1__jobCode_1 n c = some (!decide (c ≤ 8)) := fun n c => rfl
      refine ev_bnd (ev_bnd (ev_bnd (a := sel (decide (x ≤ 8)) (sel (decide (y ≤ 8)) (.inl ()) (.inr 1)) (.inr 0)) (ev_succ (ev_t (by simp) (ev_bnd (a := (x : Int)) (ev_of fun n => rfl) (ev_bnd (ev_of fun n => e n _) ?_)))) (b := if x ≤ 8 then (if y ≤ 8 then -1 else 1) else 0) ?_) ev_some) (ev_cast ev_some ?_)
      · by_cases h8 : x ≤ 8
        · rw [show decide (x ≤ 8) = true by simpa using h8]
          refine ev_f (by simp; omega) (ev_succ ?_)
          rw [show IntKind.i64.wrap ((0 : Int) + 1) = 1 from rfl]
          refine ev_t (by simp) (ev_bnd (a := (y : Int)) (ev_of fun n => rfl) (ev_bnd (ev_of fun n => e n _) ?_))
          by_cases h9 : y ≤ 8
          · rw [show decide (y ≤ 8) = true by simpa using h9]
            refine ev_f (by simp; omega) (ev_succ ?_)
            rw [show IntKind.i64.wrap ((1 : Int) + 1) = 2 from rfl]
            exact ev_f (by simp) ev_some
          · rw [show decide (y ≤ 8) = false by simpa using h9]
            exact ev_t (by simp; omega) ev_some
        · rw [show decide (x ≤ 8) = false by simpa using h8]
          exact ev_t (by simp; omega) ev_some
      · by_cases h8 : x ≤ 8 <;> by_cases h9 : y ≤ 8 <;> simp only [h8, h9, decide_true, decide_false, sel, if_true, if_false] <;> exact ev_some
      · by_cases h8 : x ≤ 8 <;> by_cases h9 : y ≤ 8 <;> simp [h8, h9]
    · by_cases h8 : x ≤ 8
      · rw [if_neg (by omega)]
        by_cases h9 : y ≤ 8
        · rw [if_neg (by omega)]; exact ev_t (by simp; omega) (ev_cast ev_some hc)
        · rw [if_pos (by omega)]; exact ev_f (by simp; omega) ev_some
      · rw [if_pos (by omega)]; exact ev_f (by simp; omega) ev_some
  · rw [if_neg hc]
    exact ev_f (by simpa using hc) ev_some
def reachB (e : Int) : Bool := decide (0 ≤ e) && decide (e ≤ 8)
theorem roofC_bad {w h s : Int} {t : Nat → Int} (hr : roofOk w h s t = false) (b : Bool) : roofC w h s t b = 1 := by unfold roofC; rw [hr]; rfl
theorem ladderCode_ok {w h s : Int} {t : Nat → Int} (H : RoofT w h s t) (l : List Int) (hl : l.length ≤ 1048576) (e : Int) (m : List (Int × Int)) (hm : PlT m) :
    Ev (fun n => s_impl_ladderCode n w h s t (ints .i64 l) e (places m)) (askF w h s t l m (reachB e && allQ w l && allP (isQ w h) m)) := by
  have fin : ∀ f : Bool, (roofOk w h s t = true → f = (reachB e && allQ w l && allP (isQ w h) m)) → askF w h s t l m f = askF w h s t l m (reachB e && allQ w l && allP (isQ w h) m) := by
    intro f hf
    cases hr : roofOk w h s t with
    | true => rw [hf hr]
    | false => unfold askF; rw [roofC_bad hr, roofC_bad hr]
  unfold s_impl_ladderCode
  rw [show ((ints .i64 l).length : Int) = (l.length : Int) by simp [ints_length], show ((places m).length : Int) = (m.length : Int) by simp [prs_length]]
  refine ev_bnd (areAll_ok H l hl) (ev_cnd (fun h1 => ?_) (fun h1 => ?_))
  · refine ev_bnd (a := reachB e) (by unfold s_impl_isReach; exact ev_bnd (ev_of fun n => within_i64 n _ _ _) ev_some) (ev_cnd (fun h2 => ?_) (fun h2 => ?_))
    · refine ev_bnd (areAllHas_ok m hm.n) (ev_bnd (jobCode2_ok H _ _ _) (ev_cast ev_some (fin _ fun hr => ?_)))
      rw [h1, h2, Bool.true_and, Bool.true_and]
      unfold allP
      exact allN_congr fun j _ _ => has_is ⟨H, hr⟩ _
    · refine ev_bnd (jobCode2_ok H _ _ _) (ev_cast ev_some (fin _ fun hr => ?_))
      rw [h2]; rfl
  · refine ev_bnd (jobCode2_ok H _ _ _) (ev_cast ev_some (fin _ fun hr => ?_))
    rw [h1, Bool.and_false]; rfl
-- ladders
def firstL (s e : Int) (l : List Int) (p : Int × Int) : Option Nat := firstN (fun j => canR s (gi l j) e p.1 p.2) 0 l.length
theorem l04First_ok {w h s : Int} {t : Nat → Int} (H : RoofV w h s t) {l : List Int} (hl : l.length ≤ 8) {e : Int} (he : 0 ≤ e ∧ e ≤ 8) (p : Int × Int) (hp : isQ w h p = true) : Ev (fun n => s_spec_l04First n w h s t (ints .i64 l) e p.1 p.2) (match firstL s e l p with | some j => (j : Int) | none => -1) := by
  have hb := H.b
  simp only [isQ, decide_eq_true_eq] at hp
  unfold s_spec_l04First
  have key := loop_first (l := fun n j => l_spec_l04First_b0 n w h s t (ints .i64 l) e (j : Nat) p.1 p.2) (p := fun j => canR s (gi l j) e p.1 p.2) (A := .inl ()) (B := fun j => .inr (j : Int)) l.length (ev_f (by simp [ints_length]) ev_some) (by
    intro j hj hq v ih
    refine ev_t (by simp [ints_length]; omega) (ev_bnd (a := gi l j) (ev_of fun n => by rw [idx_gi _ _ _ hj]; rfl) (ev_bnd (ev_of fun n => l04Can_eq n _ _ _ _ ⟨hb.2.2.2.2.1, hb.2.2.2.2.2⟩ (by omega) (by omega) (by omega)) ?_))
    rw [up64 j (by omega)]
    exact ev_f hq ih) (by
    intro j hj hq
    exact ev_t (by simp [ints_length]; omega) (ev_bnd (a := gi l j) (ev_of fun n => by rw [idx_gi _ _ _ hj]; rfl) (ev_bnd (ev_of fun n => l04Can_eq n _ _ _ _ ⟨hb.2.2.2.2.1, hb.2.2.2.2.2⟩ (by omega) (by omega) (by omega)) (ev_t hq ev_some)))) l.length 0 (by omega)
  refine ev_bnd key ?_
  unfold firstL
  cases firstN (fun j => canR s (gi l j) e p.1 p.2) 0 l.length <;> exact ev_some
theorem ladderOf_ok {w h s : Int} {t : Nat → Int} (H : RoofV w h s t) {l : List Int} (hl : l.length ≤ 8) (hq : allQ w l = true) {e : Int} (he : 0 ≤ e ∧ e ≤ 8) (p : Int × Int) (hp : isQ w h p = true) : Ev (fun n => s_impl_Roof_ladderOf n w h s t (ints .i64 l) e p.1 p.2) (match firstL s e l p with | some j => (j : Int) | none => (l.length : Int)) := by
  have hb := H.b
  simp only [isQ, decide_eq_true_eq] at hp
  unfold s_impl_Roof_ladderOf
  rw [show ((ints .i64 l).length : Int) = (l.length : Int) by simp [ints_length]]
  have hc : ∀ j, j < l.length → 0 ≤ gi l j ∧ gi l j ≤ 2 * w := fun j hj => by
    have := (allN_iff _ _ _).1 hq j (by omega) (by omega)
    simpa [cellQ] using this
  have key := loop_first (l := fun n j => l_impl_Roof_ladderOf_b0 n (ints .i64 l) e (ints .i64 l) (l.length : Int) (j : Nat) w h s t p.1 p.2) (p := fun j => canR s (gi l j) e p.1 p.2) (A := .inl (ints .i64 l)) (B := fun j => .inr (j : Int)) l.length (ev_f (by simp) ev_some) (by
    intro j hj hr v ih
    have := hc j hj
    refine ev_t (by simp; omega) (ev_bnd (a := gi l j) (ev_of fun n => by rw [idx_gi _ _ _ hj]; rfl) (ev_bnd (reaches_ok _ _ _ _ ⟨hb.2.2.2.2.1, hb.2.2.2.2.2⟩ (by omega) (by omega) (by omega) (by omega)) ?_))
    rw [up64 j (by omega)]
    exact ev_f hr ih) (by
    intro j hj hr
    have := hc j hj
    exact ev_t (by simp; omega) (ev_bnd (a := gi l j) (ev_of fun n => by rw [idx_gi _ _ _ hj]; rfl) (ev_bnd (reaches_ok _ _ _ _ ⟨hb.2.2.2.2.1, hb.2.2.2.2.2⟩ (by omega) (by omega) (by omega) (by omega)) (ev_t hr ev_some)))) l.length 0 (by omega)
  refine ev_bnd key ?_
  unfold firstL
  cases firstN (fun j => canR s (gi l j) e p.1 p.2) 0 l.length with
  | none => exact ev_cast ev_some (by simp [ints_length])
  | some j => exact ev_some
def reached (s e : Int) (l : List Int) (m : List (Int × Int)) : Bool := allN (fun j => (firstL s e l (pr m j)).isSome) 0 m.length
theorem firstL_lt {s e : Int} {l : List Int} {p : Int × Int} {j : Nat} (h : firstL s e l p = some j) : j < l.length := by
  obtain ⟨_, h1, _⟩ := firstN_some h; omega
theorem l04All_ok {w h s : Int} {t : Nat → Int} (H : RoofV w h s t) {l : List Int} (hl : l.length ≤ 8) {e : Int} (he : 0 ≤ e ∧ e ≤ 8) {m : List (Int × Int)} (hm : m.length ≤ 8) (hp : allP (isQ w h) m = true) : Ev (fun n => s_spec_l04All n w h s t (ints .i64 l) e (places m)) (reached s e l m) := by
  unfold s_spec_l04All reached
  have hq : ∀ j, j < m.length → isQ w h (pr m j) = true := fun j hj => (allN_iff _ _ _).1 hp j (by omega) (by omega)
  have key := loop_all (l := fun n j => l_spec_l04All_b0 n w h s t (ints .i64 l) e (places m) (j : Nat)) (p := fun j => (firstL s e l (pr m j)).isSome) (A := .inl ()) (B := .inr false) m.length (ev_f (by simp [prs_length]) ev_some) (by
    intro j hj hr v ih
    refine ev_t (by simp [prs_length]; omega) (ev_bnd (a := ((pr m j).1, (pr m j).2)) (ev_of fun n => by rw [idx_prs _ _ _ _ hj]; rfl) (ev_bnd (l04First_ok H hl he (pr m j) (hq j hj)) ?_))
    rw [up64 j (by omega)]
    cases hf : firstL s e l (pr m j) with
    | none => rw [hf] at hr; cases hr
    | some i => exact ev_f (by simp) ih) (by
    intro j hj hr
    refine ev_t (by simp [prs_length]; omega) (ev_bnd (a := ((pr m j).1, (pr m j).2)) (ev_of fun n => by rw [idx_prs _ _ _ _ hj]; rfl) (ev_bnd (l04First_ok H hl he (pr m j) (hq j hj)) ?_))
    cases hf : firstL s e l (pr m j) with
    | none => exact ev_t (by simp) ev_some
    | some i => rw [hf] at hr; cases hr) m.length 0 (by omega)
  refine ev_bnd key ?_
  cases allN (fun j => (firstL s e l (pr m j)).isSome) 0 m.length <;> exact ev_some
theorem areReached_ok {w h s : Int} {t : Nat → Int} (H : RoofV w h s t) {l : List Int} (hl : l.length ≤ 8) (hq : allQ w l = true) {e : Int} (he : 0 ≤ e ∧ e ≤ 8) {m : List (Int × Int)} (hm : m.length ≤ 8) (hp : allP (isQ w h) m = true) : Ev (fun n => s_impl_Roof_areReached n w h s t (ints .i64 l) e (places m)) (reached s e l m) := by
  unfold s_impl_Roof_areReached s_impl_areAll_impl_Place__Roof_areReached_1 s_slices_ContainsFunc_Simpl_Place_impl_Place__areAll_Place_1__Roof_areReached_1 s_slices_IndexFunc_Simpl_Place_impl_Place__areAll_Place_1__Roof_areReached_1
  have hpj : ∀ j, j < m.length → isQ w h (pr m j) = true := fun j hj => (allN_iff _ _ _).1 hp j (by omega) (by omega)
  have e1 : ∀ j, j < m.length → Ev (fun n => s_impl_areAll_impl_Place_1__Roof_areReached_1 n (pr m j).1 (pr m j).2 w h s t (ints .i64 l) e) (!(firstL s e l (pr m j)).isSome) := fun j hj => by
    unfold s_impl_areAll_impl_Place_1__Roof_areReached_1 s_impl_Roof_areReached_1
    rw [show ((ints .i64 l).length : Int) = (l.length : Int) by simp [ints_length]]
    refine ev_bnd (ev_bnd (ladderOf_ok H hl hq he (pr m j) (hpj j hj)) ev_some) (ev_cast ev_some ?_)
    cases hf : firstL s e l (pr m j) with
    | none => simp
    | some i => have := firstL_lt hf; simp; omega
  rw [show ((places m).length : Int) = (m.length : Int) by simp [prs_length]]
  have key := loop_first (l := fun n j => l_slices_IndexFunc_Simpl_Place_impl_Place__areAll_Place_1__Roof_areReached_1_b0 n (places m) w h s t (ints .i64 l) e (m.length : Int) (j : Nat)) (p := fun j => !(firstL s e l (pr m j)).isSome) (A := .inl ()) (B := fun j => .inr (j : Int)) m.length (ev_f (by simp) ev_some) (by
    intro j hj hr v ih
    refine ev_t (by simp; omega) (ev_bnd (a := ((pr m j).1, (pr m j).2)) (ev_of fun n => by rw [idx_prs _ _ _ _ hj]; rfl) (ev_bnd (e1 j hj) ?_))
    rw [up64 j (by omega)]
    exact ev_f hr ih) (by
    intro j hj hr
    exact ev_t (by simp; omega) (ev_bnd (a := ((pr m j).1, (pr m j).2)) (ev_of fun n => by rw [idx_prs _ _ _ _ hj]; rfl) (ev_bnd (e1 j hj) (ev_t hr ev_some)))) m.length 0 (by omega)
  refine ev_bnd (ev_bnd (ev_bnd (ev_bnd key (b := match firstN (fun j => !(firstL s e l (pr m j)).isSome) 0 m.length with | some j => (j : Int) | none => -1) ?_) ev_some) ev_some) ?_
  · cases firstN (fun j => !(firstL s e l (pr m j)).isSome) 0 m.length <;> exact ev_some
  · refine ev_cast ev_some ?_
    exact (congrArg Bool.not (contains_all (fun j => (firstL s e l (pr m j)).isSome) m.length)).trans (Bool.not_not _)
end Go.Proofs.Ytdhcfdiggcgmhaa
