/- Law WalkFor. -/
import Derived.Test.YtdhcfdiggcgmhaaPd1
import Derived.Test.YtdhcfdiggcgmhaaPq0
import Derived.Test.YtdhcfdiggcgmhaaPq1
namespace Go.Proofs.Ytdhcfdiggcgmhaa
open Go
set_option linter.unusedVariables false
set_option linter.unusedSimpArgs false

theorem toInt64S_ok (l : List Int) (hl : l.length ≤ 1048576) : Ev (fun n => s_laws_toInt64S n (ints .i64 l)) (ints .i64 l) := by
  unfold s_laws_toInt64S
  refine ev_chk (by simp [ints_length]; omega) ?_
  obtain ⟨v, hv, h1⟩ := loop_up (l := fun n k (st : List Int) => l_laws_toInt64S_b0 n (ints .i64 l) (k : Nat) (ints .i64 st)) (I := fun k st => st.length = l.length ∧ ∀ j, j < k → st[j]? = l[j]?)
    (P := fun v => v = ints .i64 l) l.length (by
    rintro k st hk ⟨e1, e2⟩ ih
    by_cases hlt : k < l.length
    · have hk2 : k < st.length := by omega
      refine tot_t (by simp [ints_length]; omega) (tot_ev (a := gi l k) (ev_of fun n => by rw [idx_gi _ _ _ hlt]; rfl) (tot_chk (inB_k _ _ (by rw [ints_length]; exact hk2)) (tot_ev (a := gi st k) (ev_of fun n => by rw [Int.toNat_natCast, nth_gi _ _ _ hk2]; rfl) ?_)))
      rw [Int.toNat_natCast, set_ints, up64 k (by omega)]
      refine ih hlt _ ⟨by simp [e1], fun j hj => ?_⟩
      rw [List.getElem?_set]
      by_cases h : k = j
      · subst h; rw [if_pos rfl, if_pos hk2, List.getElem?_eq_getElem hlt, gi_get hlt]
      · rw [if_neg h]; exact e2 j (by omega)
    · obtain rfl : k = l.length := by omega
      refine tot_f (by simp [ints_length]) (tot_some ?_)
      congr 1
      apply List.ext_getElem?
      intro j
      by_cases hj : j < l.length
      · exact e2 j hj
      · rw [List.getElem?_eq_none (by omega), List.getElem?_eq_none (by omega)]) 0 (List.replicate l.length 0) (by omega) ⟨by simp, fun j hj => by omega⟩
  subst hv
  rw [show ((((ints .i64 l).length : Int)).toNat) = l.length by simp [ints_length], rep_ints]
  exact ev_bnd h1 ev_some
def cellQ (w c : Int) : Bool := decide (0 ≤ c) && decide (c ≤ 2 * w)
theorem l04Cell_ok {w h s : Int} {t : Nat → Int} (H : RoofT w h s t) (a : Int) : Ev (fun n => s_spec_l04Cell n w h s t a) (cellQ w a) := by
  have := H.bw
  unfold s_spec_l04Cell cellQ
  refine ev_bnd (ev_of fun n => l01Cells_eq n H) (ev_bnd (ev_of fun n => l00In_eq n _ _ _) ?_)
  rw [w64 _ (by omega), show 2 * w + 1 - 1 = 2 * w by omega]
  exact ev_some
theorem isCellNumber_ok {w h s : Int} {t : Nat → Int} (H : RoofT w h s t) (a : Int) : Ev (fun n => s_impl_Roof_isCellNumber n w h s t a) (cellQ w a) := by
  have := H.bw
  unfold s_impl_Roof_isCellNumber cellQ
  refine ev_bnd (ev_of fun n => cells_eq n H) (ev_bnd (ev_of fun n => within_i64 n _ _ _) ?_)
  rw [w64 _ (by omega), show 2 * w + 1 - 1 = 2 * w by omega]
  exact ev_some
def allQ (w : Int) (l : List Int) : Bool := allN (fun j => cellQ w (gi l j)) 0 l.length
def askC (w h s : Int) (t : Nat → Int) (l : List Int) (b : Bool) : Int := if roofC w h s t (b && allQ w l) = 0 then (if 8 < l.length then 3 else 0) else roofC w h s t (b && allQ w l)
theorem Asked_ok {w h s : Int} {t : Nat → Int} (H : RoofT w h s t) (l : List Int) (hl : l.length ≤ 1048576) (b : Bool) : Ev (fun n => s_spec_l04Asked n w h s t (ints .i64 l) [] b) (askC w h s t l b) := by
  unfold s_spec_l04Asked askC
  obtain ⟨v, hv, h1⟩ := loop_up (l := fun n k (q : Bool) => l_spec_l04Asked_b0 n w h s t (ints .i64 l) [] q (k : Nat)) (I := fun k q => q = (b && allN (fun j => cellQ w (gi l j)) 0 k))
    (P := fun v => v = (w, h, s, t, ints .i64 l, [], (b && allQ w l))) l.length (by
    intro k q hk hq ih
    by_cases hlt : k < l.length
    · refine tot_t (by simp [ints_length]; omega) ?_
      rw [up64 k (by omega)]
      refine tot_cnd (fun c => ?_) (fun c => ?_)
      · refine tot_ev (a := gi l k) (ev_of fun n => by rw [idx_gi _ _ _ hlt]; rfl) (tot_ev (l04Cell_ok H _) (ih hlt _ ?_))
        rw [allN_succ, ← Bool.and_assoc, ← hq, c, Bool.true_and]
      · refine ih hlt _ ?_
        rw [allN_succ, ← Bool.and_assoc, ← hq, c, Bool.false_and]
    · obtain rfl : k = l.length := by omega
      subst hq
      exact tot_f (by simp [ints_length]) (tot_some rfl)) 0 b (by omega) (by simp [allN])
  subst hv
  refine ev_bnd h1 (ev_bnd (a := (w, h, s, t, ints .i64 l, [], (b && allQ w l))) (ev_succ (ev_f (by simp) ev_some)) (ev_bnd (l01Told_ok H _) ?_))
  by_cases hc : roofC w h s t (b && allQ w l) = 0
  · rw [if_pos hc]
    refine ev_t (by simpa using hc) ?_
    by_cases h8 : 8 < l.length
    · rw [if_pos h8]; exact ev_t (by simp [ints_length]; omega) ev_some
    · rw [if_neg h8]; exact ev_f (by simp [ints_length]; omega) (ev_f (by simp) (ev_cast ev_some hc))
  · rw [if_neg hc]
    exact ev_f (by simpa using hc) ev_some
theorem areAll_ok {w h s : Int} {t : Nat → Int} (H : RoofT w h s t) (l : List Int) (hl : l.length ≤ 1048576) : Ev (fun n => s_impl_areAll_int64__Roof_isCellNumber n (ints .i64 l) w h s t) (allQ w l) := by
  unfold s_impl_areAll_int64__Roof_isCellNumber s_slices_ContainsFunc_Sint64_int64__areAll_int64_1__Roof_isCellNumber s_slices_IndexFunc_Sint64_int64__areAll_int64_1__Roof_isCellNumber
  have e : ∀ c, Ev (fun n => s_impl_areAll_int64_1__Roof_isCellNumber n c w h s t) (!cellQ w c) := fun c => by
    unfold s_impl_areAll_int64_1__Roof_isCellNumber
    exact ev_bnd (isCellNumber_ok H c) ev_some
  rw [show ((ints .i64 l).length : Int) = (l.length : Int) by simp [ints_length]]
  have key := loop_first (l := fun n j => l_slices_IndexFunc_Sint64_int64__areAll_int64_1__Roof_isCellNumber_b0 n (ints .i64 l) w h s t (l.length : Int) (j : Nat)) (p := fun j => !cellQ w (gi l j)) (A := .inl ()) (B := fun j => .inr (j : Int)) l.length (ev_f (by simp) ev_some) (by
    intro j hj hp v ih
    refine ev_t (by simp; omega) (ev_bnd (a := gi l j) (ev_of fun n => by rw [idx_gi _ _ _ hj]; rfl) (ev_bnd (e _) ?_))
    rw [up64 j (by omega)]
    exact ev_f hp ih) (by
    intro j hj hp
    exact ev_t (by simp; omega) (ev_bnd (a := gi l j) (ev_of fun n => by rw [idx_gi _ _ _ hj]; rfl) (ev_bnd (e _) (ev_t hp ev_some)))) l.length 0 (by omega)
  refine ev_bnd (ev_bnd (ev_bnd key (b := match firstN (fun j => !cellQ w (gi l j)) 0 l.length with | some j => (j : Int) | none => -1) ?_) ev_some) ?_
  · cases firstN (fun j => !cellQ w (gi l j)) 0 l.length <;> exact ev_some
  · refine ev_cast ev_some ?_
    cases hf : firstN (fun j => !cellQ w (gi l j)) 0 l.length with
    | none =>
      have := firstN_none hf
      have h2 : allQ w l = true := (allN_iff _ _ _).2 fun j h1 h2 => by have := this j h1 h2; simpa using this
      rw [h2]; simp
    | some j =>
      obtain ⟨_, h1, h2, _⟩ := firstN_some hf
      have h3 : allQ w l = false := by
        cases ha : allQ w l with
        | false => rfl
        | true => have := (allN_iff _ _ _).1 ha j (by omega) h1; rw [this] at h2; cases h2
      rw [h3]; simp
theorem jobCode_ok {w h s : Int} {t : Nat → Int} (H : RoofT w h s t) (b : Bool) (m : Nat) : Ev (fun n => s_impl_jobCode n w h s t b [(V.int .i64 (m : Int))]) (if roofC w h s t b = 0 then (if 8 < m then 3 else 0) else roofC w h s t b) := by
  unfold s_impl_jobCode
  refine ev_bnd (roofCode_ok H b) ?_
  by_cases hc : roofC w h s t b = 0
  · rw [if_pos hc]
    refine ev_t (by simpa using hc) (ev_bnd (a := decide (m ≤ 8)) ?_ ?_)
    · unfold s_impl_areAll_int__jobCode_1 s_slices_ContainsFunc_Sint_int__areAll_int_1__jobCode_1 s_slices_IndexFunc_Sint_int__areAll_int_1__jobCode_1
      have e : ∀ (n : Nat) (c : Int), s_impl_areAll_int_1__jobCode_1 n c = some (!decide (c ≤ 8)) := fun n c => rfl
      refine ev_bnd (ev_bnd (ev_bnd (a := sel (decide (m ≤ 8)) (.inl ()) (.inr 0)) (ev_succ (ev_t (by simp) (ev_bnd (a := (m : Int)) (ev_of fun n => rfl) (ev_bnd (ev_of fun n => e n _) ?_)))) (b := if m ≤ 8 then -1 else 0) ?_) ev_some) (ev_cast ev_some ?_)
      · by_cases h8 : m ≤ 8
        · rw [show decide (m ≤ 8) = true by simpa using h8]
          refine ev_f (by simp; omega) (ev_succ ?_)
          rw [show IntKind.i64.wrap ((0 : Int) + 1) = 1 from rfl]
          exact ev_f (by simp) ev_some
        · rw [show decide (m ≤ 8) = false by simpa using h8]
          exact ev_t (by simp; omega) ev_some
      · by_cases h8 : m ≤ 8
        · rw [show decide (m ≤ 8) = true by simpa using h8, if_pos h8]; exact ev_some
        · rw [show decide (m ≤ 8) = false by simpa using h8, if_neg h8]; exact ev_some
      · by_cases h8 : m ≤ 8 <;> simp [h8]
    · by_cases h8 : m ≤ 8
      · rw [if_neg (by omega)]; exact ev_t (by simpa using h8) (ev_cast ev_some hc)
      · rw [if_pos (by omega)]; exact ev_f (by simpa using h8) ev_some
  · rw [if_neg hc]
    exact ev_f (by simpa using hc) ev_some
theorem walkCode_ok {w h s : Int} {t : Nat → Int} (H : RoofT w h s t) (l : List Int) (hl : l.length ≤ 1048576) (a : Int) : Ev (fun n => s_impl_walkCode n w h s t (ints .i64 l) a) (askC w h s t l (cellQ w a)) := by
  unfold s_impl_walkCode askC
  rw [show ((ints .i64 l).length : Int) = (l.length : Int) by simp [ints_length]]
  refine ev_bnd (areAll_ok H l hl) ?_
  cases allQ w l with
  | true =>
    rw [Bool.and_true]
    exact ev_t rfl (ev_bnd (isCellNumber_ok H a) (ev_bnd (jobCode_ok H _ _) ev_some))
  | false =>
    rw [Bool.and_false]
    exact ev_f rfl (ev_bnd (jobCode_ok H _ _) ev_some)
-- the walk
def farD (a b : Int) : Int := if b - a < a - b then a - b else b - a
def walkS (l : List Int) (a : Int) : Nat → Int
  | 0 => 0
  | k + 1 => walkS l a k + farD (if k = 0 then a else gi l (k - 1)) (gi l k)
def prevC (l : List Int) (a : Int) (k : Nat) : Int := if k = 0 then a else gi l (k - 1)
theorem walk_b {w : Int} (hw : 0 ≤ w ∧ w ≤ 1000) {l : List Int} (hq : allQ w l = true) {a : Int} (ha : cellQ w a = true) : ∀ k, k ≤ l.length → 0 ≤ walkS l a k ∧ walkS l a k ≤ 2000 * k
  | 0, _ => by simp [walkS]
  | k + 1, hk => by
    have ih := walk_b hw hq ha k (by omega)
    have h1 := (allN_iff _ _ _).1 hq k (by omega) (by omega)
    have h2 : cellQ w (if k = 0 then a else gi l (k - 1)) = true := by
      split
      · exact ha
      · exact (allN_iff _ _ _).1 hq (k - 1) (by omega) (by omega)
    simp only [cellQ, Bool.and_eq_true, decide_eq_true_eq] at h1 h2
    simp only [walkS, farD]
    split <;> omega
theorem prev_q {w : Int} {l : List Int} (hq : allQ w l = true) {a : Int} (ha : cellQ w a = true) (k : Nat) (hk : k ≤ l.length) : 0 ≤ prevC l a k ∧ prevC l a k ≤ 2 * w := by
  have h2 : cellQ w (prevC l a k) = true := by
    unfold prevC
    split
    · exact ha
    · exact (allN_iff _ _ _).1 hq (k - 1) (by omega) (by omega)
  simpa [cellQ] using h2
theorem spec_walk {w : Int} (hw : 0 ≤ w ∧ w ≤ 1000) {l : List Int} (hl : l.length ≤ 8) (hq : allQ w l = true) {a : Int} (ha : cellQ w a = true) : Ev (fun n => l_spec_WalkFor_b0 n (ints .i64 l) a 0 0) (walkS l a l.length) := by
  obtain ⟨v, hv, h1⟩ := loop_up (l := fun n k (q : Int × Int) => l_spec_WalkFor_b0 n (ints .i64 l) q.1 q.2 (k : Nat)) (I := fun k q => q = (prevC l a k, walkS l a k))
    (P := fun v => v = walkS l a l.length) l.length (by
    rintro k ⟨q1, q2⟩ hk hq2 ih
    simp only [Prod.mk.injEq] at hq2
    obtain ⟨rfl, rfl⟩ := hq2
    by_cases hlt : k < l.length
    · have b1 := prev_q hq ha k (by omega)
      have b2 := (allN_iff _ _ _).1 hq k (by omega) (by omega)
      simp only [cellQ, Bool.and_eq_true, decide_eq_true_eq] at b2
      have b3 := walk_b hw hq ha k (by omega)
      have b4 := walk_b hw hq ha (k + 1) (by omega)
      refine tot_t (by simp [ints_length]; omega) (tot_ev (a := gi l k) (ev_of fun n => by rw [idx_gi _ _ _ hlt]; rfl) (tot_ev (a := farD (prevC l a k) (gi l k)) (ev_of fun n => ?_) (tot_ev (a := gi l k) (ev_of fun n => by rw [idx_gi _ _ _ hlt]; rfl) ?_)))
      · unfold s_spec_l04Far s_spec_l00Max farD
        rw [w64 _ (by omega), w64 _ (by omega), cnd_d]
        split <;> rfl
      · rw [show walkS l a k + farD (prevC l a k) (gi l k) = walkS l a (k + 1) from rfl, w64 _ (by omega), up64 k (by omega)]
        exact ih hlt (gi l k, walkS l a (k + 1)) rfl
    · obtain rfl : k = l.length := by omega
      exact tot_f (by simp [ints_length]) (tot_some rfl)) 0 (a, 0) (by omega) rfl
  subst hv
  exact h1
theorem impl_walk {w : Int} (hw : 0 ≤ w ∧ w ≤ 1000) {l : List Int} (hl : l.length ≤ 8) (hq : allQ w l = true) {a : Int} (ha : cellQ w a = true) : Ev (fun n => s_impl_walk n (ints .i64 l) a) (walkS l a l.length) := by
  unfold s_impl_walk
  rw [show ((ints .i64 l).length : Int) = (l.length : Int) by simp [ints_length]]
  obtain ⟨v, hv, h1⟩ := loop_up (l := fun n k (q : Int × Int) => l_impl_walk_b0 n q.1 q.2 (ints .i64 l) (l.length : Int) (k : Nat)) (I := fun k q => q = (prevC l a k, walkS l a k))
    (P := fun v => v = walkS l a l.length) l.length (by
    rintro k ⟨q1, q2⟩ hk hq2 ih
    simp only [Prod.mk.injEq] at hq2
    obtain ⟨rfl, rfl⟩ := hq2
    by_cases hlt : k < l.length
    · have b1 := prev_q hq ha k (by omega)
      have b2 := (allN_iff _ _ _).1 hq k (by omega) (by omega)
      simp only [cellQ, Bool.and_eq_true, decide_eq_true_eq] at b2
      have b3 := walk_b hw hq ha k (by omega)
      have b4 := walk_b hw hq ha (k + 1) (by omega)
      refine tot_t (by simp; omega) (tot_ev (a := gi l k) (ev_of fun n => by rw [idx_gi _ _ _ hlt]; rfl) ?_)
      rw [w64 (gi l k - prevC l a k) (by omega), w64 (prevC l a k - gi l k) (by omega), show maxI (gi l k - prevC l a k) (prevC l a k - gi l k) = farD (prevC l a k) (gi l k) by unfold maxI farD; rfl, show walkS l a k + farD (prevC l a k) (gi l k) = walkS l a (k + 1) from rfl, w64 _ (by omega), up64 k (by omega)]
      exact ih hlt (gi l k, walkS l a (k + 1)) rfl
    · obtain rfl : k = l.length := by omega
      exact tot_f (by simp) (tot_some rfl)) 0 (a, 0) (by omega) rfl
  subst hv
  exact ev_bnd h1 ev_some
theorem askC_zero {w h s : Int} {t : Nat → Int} {l : List Int} {b : Bool} (hc : askC w h s t l b = 0) : roofOk w h s t = true ∧ b = true ∧ allQ w l = true ∧ l.length ≤ 8 := by
  unfold askC at hc
  split at hc
  · rename_i h1
    obtain ⟨h2, h3⟩ := roofC_zero h1
    rw [Bool.and_eq_true] at h3
    split at hc
    · cases hc
    · exact ⟨h2, h3.1, h3.2, by omega⟩
  · contradiction
theorem law_FnExactWalkFor {w h s a : Int} {t : Nat → Int} {xs : List V} (hw : (Lit.int .i8 w).wf = true) (hh : (Lit.int .i8 h).wf = true) (hs : (Lit.int .u8 s).wf = true) (ht : ∀ j, j < 64 → (Lit.int .u8 (t j)).wf = true)
    (hx : xs.length ≤ maxLen ∧ ∀ x, x ∈ xs → inL [.int .i64] [x]) (ha : (Lit.int .i64 a).wf = true) : Ev (fun n => s_laws_FnExactWalkFor n w h s t xs a) true := by
  obtain ⟨l, rfl, hl⟩ := ints_of hx.2
  unfold s_laws_FnExactWalkFor
  rw [show ((ints .i64 l).length : Int) = (l.length : Int) by simp [ints_length]]
  by_cases h1 : (1048576 : Int) < l.length
  · exact ev_t (by simpa using h1) ev_some
  · refine ev_f (by simpa using h1) ?_
    obtain ⟨t', e1, e2⟩ := toRoof_ok w h s t
    have H := (RoofT.mk' hw hh hs ht).like e1
    have hc := toInt64S_ok l (by omega)
    have k : ∃ (x y : Int), Ev (fun n => s_spec_WalkFor n w h s t' (ints .i64 l) a) (x, y) ∧ Ev (fun n => s_impl_WalkFor n w h s t' (ints .i64 l) a) (x, y) := by
      unfold s_spec_WalkFor s_impl_WalkFor
      have k1 := Asked_ok H l (by omega) (cellQ w a)
      have k2 := walkCode_ok H l (by omega) a
      by_cases hz : askC w h s t' l (cellQ w a) = 0
      · obtain ⟨g1, g2, g3, g4⟩ := askC_zero hz
        have hb := RoofV.b ⟨H, g1⟩
        exact ⟨walkS l a l.length, 0, ev_bnd (l04Cell_ok H a) (ev_bnd k1 (ev_t (by simpa using hz) (ev_bnd (spec_walk (w := w) (by omega) g4 g3 g2) ev_some))), ev_bnd k2 (ev_t (by simpa using hz) (ev_bnd (impl_walk (w := w) (by omega) g4 g3 g2) ev_some))⟩
      · exact ⟨0, _, ev_bnd (l04Cell_ok H a) (ev_bnd k1 (ev_f (by simpa using hz) ev_some)), ev_bnd k2 (ev_f (by simpa using hz) ev_some)⟩
    obtain ⟨x, y, k1, k2⟩ := k
    exact ev_bnd e2 (ev_bnd hc (ev_bnd k1 (ev_bnd hc (ev_bnd e2 (ev_bnd k2 (ev_t (by simp) (ev_t (by simp) (ev_bnd hc (ev_bnd (eqInt64S_okL l (by omega)) (ev_t rfl ev_some))))))))))
end Go.Proofs.Ytdhcfdiggcgmhaa
