/- Law KindsFor. -/
import Derived.Test.YtdhcfdiggcgmhaaPb3
import Derived.Test.YtdhcfdiggcgmhaaPb0
import Derived.Test.YtdhcfdiggcgmhaaSh8
namespace Go.Proofs.Ytdhcfdiggcgmhaa
open Go
set_option linter.unusedVariables false
set_option linter.unusedSimpArgs false

def fineC (A D : Nat → Int) (i : Nat) (kk : Int) (x : Nat) : Bool := decide (D (i * 17 + x) = dripK kk 0 (A (i * 17 + x))) || (decide (kk = 3) && decide (D (i * 17 + x) = 0))
theorem drop_eq (n : Nat) (k W : Int) (hW : 0 ≤ W ∧ W ≤ 1000000) : s_spec_l03Drop n k W = some (dripK k 0 W) := by
  unfold s_spec_l03Drop dripK
  simp only [cnd_d]
  rw [w64 (W + 1) (by omega), w64 (W + 2) (by omega), Int.tdiv_eq_ediv_of_nonneg (by omega), Int.tdiv_eq_ediv_of_nonneg (by omega), w64 _ (by omega), w64 _ (by omega)]
  split <;> first | rfl | skip
  split <;> first | rfl | skip
  split <;> rfl
theorem ix17 (i x : Nat) : 0 + (i : Int).toNat * 17 + (x : Int).toNat * 1 = i * 17 + x := by simp
theorem spec_cell {A D : Nat → Int} {i x F : Nat} {out kk p : Int} (hx : x ≤ F + 1) (hx17 : x < 17) (hF : F < 17) (hi : i < 8) (hA : 0 ≤ A (i * 17 + x) ∧ A (i * 17 + x) ≤ 1000) (hD : -2147483648 ≤ D (i * 17 + x) ∧ D (i * 17 + x) ≤ 2147483647) (f : Bool) {a}
    (ih : Ev (fun n => l_spec_l03Kinds_b2 n A D out F kk (f && fineC A D i kk x) ((x + 1 : Nat) : Int) i p) a) : Ev (fun n => l_spec_l03Kinds_b2 n A D out F kk f (x : Int) i p) a := by
  refine ev_succ (ev_t (by rw [w64 _ (by omega)]; simp; omega) (ev_chk (inB_k _ _ hi) (ev_chk (inB_k _ _ hx17) ?_)))
  rw [ix17, w64 (A _) (by omega), w64 (D _) (by omega), up64 x (by omega)]
  refine ev_cnd (fun c => ?_) (fun c => ?_)
  · rw [c, Bool.true_and] at ih
    refine ev_bnd (ev_of fun n => drop_eq n kk _ (by omega)) (ev_cnd (fun c1 => ?_) (fun c1 => ?_))
    · have : fineC A D i kk x = true := by unfold fineC; rw [c1]; rfl
      rw [this] at ih; exact ih
    · refine ev_cnd (fun c2 => ?_) (fun c2 => ?_)
      · have : fineC A D i kk x = decide (D (i * 17 + x) = 0) := by unfold fineC; rw [c1, c2]; rfl
        rw [this] at ih; exact ih
      · have : fineC A D i kk x = false := by unfold fineC; rw [c1, c2]; rfl
        rw [this] at ih; exact ih
  · rw [c, Bool.false_and] at ih
    exact ih
theorem spec_b2 {A D : Nat → Int} {i F : Nat} {out kk p : Int} (hF : F + 1 < 17) (hi : i < 8) (hA : ∀ x, x < 17 → 0 ≤ A (i * 17 + x) ∧ A (i * 17 + x) ≤ 1000) (hD : ∀ x, x < 17 → -2147483648 ≤ D (i * 17 + x) ∧ D (i * 17 + x) ≤ 2147483647) :
    Ev (fun n => l_spec_l03Kinds_b2 n A D out F kk true F i p) (A, D, out, (F : Int), kk, (fineC A D i kk F && fineC A D i kk (F + 1)), (i : Int), p) := by
  refine spec_cell (by omega) (by omega) (by omega) hi (hA F (by omega)) (hD F (by omega)) true ?_
  refine spec_cell (x := F + 1) (by omega) (by omega) (by omega) hi (hA (F + 1) (by omega)) (hD (F + 1) (by omega)) _ ?_
  rw [Bool.true_and]
  refine ev_succ (ev_f ?_ ev_some)
  rw [w64 _ (by omega)]; simp; omega
theorem contains_ok {A D : Nat → Int} {i x : Nat} {kk : Int} (hA : 0 ≤ A (i * 17 + x) ∧ A (i * 17 + x) ≤ 1000) : Ev (fun n => s_slices_ContainsFunc_Suint8_uint8__pseeker_kinds_1_1 n [(V.int .u8 (0)), (V.int .u8 (2))] kk (A (i * 17 + x)) (D (i * 17 + x))) (fineC A D i kk x) := by
  unfold s_slices_ContainsFunc_Suint8_uint8__pseeker_kinds_1_1 s_slices_IndexFunc_Suint8_uint8__pseeker_kinds_1_1
  have e : ∀ (n : Nat) (o : Int), s_pimpl_seeker_kinds_1_1 n o kk (A (i * 17 + x)) (D (i * 17 + x)) = some (decide (dripK kk o (A (i * 17 + x)) = D (i * 17 + x))) := fun n o => by
    unfold s_pimpl_seeker_kinds_1_1; rw [dripOf_eq n _ _ _ (by omega)]; rfl
  have two : dripK kk 2 (A (i * 17 + x)) = if kk = 3 then 0 else dripK kk 0 (A (i * 17 + x)) := by
    unfold dripK
    by_cases h1 : kk = 1
    · subst h1; simp
    · by_cases h2 : kk = 2
      · subst h2; simp
      · by_cases h3 : kk = 3 <;> simp [h1, h2, h3]
  by_cases h0 : dripK kk 0 (A (i * 17 + x)) = D (i * 17 + x)
  · have hf : fineC A D i kk x = true := by unfold fineC; rw [decide_eq_true h0.symm]; rfl
    rw [hf]
    exact ev_bnd (ev_bnd (a := Sum.inr (0 : Int)) (ev_succ (ev_t (by simp) (ev_bnd (a := (0 : Int)) (ev_of fun n => rfl) (ev_bnd (ev_of fun n => e n 0) (ev_t (by simpa using h0) ev_some))))) ev_some) (ev_cast ev_some (by simp))
  · by_cases h2 : dripK kk 2 (A (i * 17 + x)) = D (i * 17 + x)
    · have hf : fineC A D i kk x = true := by
        unfold fineC
        rw [two] at h2
        by_cases h3 : kk = 3
        · rw [if_pos h3] at h2; simp [h3, ← h2]
        · rw [if_neg h3] at h2; exact absurd h2 h0
      rw [hf]
      refine ev_bnd (ev_bnd (a := Sum.inr (1 : Int)) (ev_succ (ev_t (by simp) (ev_bnd (a := (0 : Int)) (ev_of fun n => rfl) (ev_bnd (ev_of fun n => e n 0) (ev_f (by simpa using h0) (ev_succ ?_)))))) ev_some) (ev_cast ev_some (by simp))
      rw [show IntKind.i64.wrap ((0 : Int) + 1) = 1 from rfl]
      exact ev_t (by simp) (ev_bnd (a := (2 : Int)) (ev_of fun n => rfl) (ev_bnd (ev_of fun n => e n 2) (ev_t (by simpa using h2) ev_some)))
    · have hf : fineC A D i kk x = false := by
        unfold fineC
        rw [decide_eq_false (fun h => h0 h.symm), Bool.false_or]
        by_cases h3 : kk = 3
        · rw [two, if_pos h3] at h2
          rw [decide_eq_false (p := D (i * 17 + x) = 0) (fun h => h2 h.symm), Bool.and_false]
        · rw [decide_eq_false h3]; rfl
      rw [hf]
      refine ev_bnd (ev_bnd (a := Sum.inl ()) (ev_succ (ev_t (by simp) (ev_bnd (a := (0 : Int)) (ev_of fun n => rfl) (ev_bnd (ev_of fun n => e n 0) (ev_f (by simpa using h0) (ev_succ ?_)))))) ev_some) (ev_cast ev_some (by simp))
      rw [show IntKind.i64.wrap ((0 : Int) + 1) = 1 from rfl]
      refine ev_t (by simp) (ev_bnd (a := (2 : Int)) (ev_of fun n => rfl) (ev_bnd (ev_of fun n => e n 2) (ev_f (by simpa using h2) (ev_succ ?_))))
      rw [show IntKind.i64.wrap ((1 : Int) + 1) = 2 from rfl]
      exact ev_f (by simp) ev_some
theorem impl_cell {w h s : Int} {t A D : Nat → Int} {i x : Nat} {kk p : Int} (hx : x < 17) (hi : i < 8) (hA : 0 ≤ A (i * 17 + x) ∧ A (i * 17 + x) ≤ 1000) : Ev (fun n => s_impl_areAll_int_1__pseeker_kinds_1__KindsFor_1 n x w h s t A D i p kk) (!fineC A D i kk x) := by
  unfold s_impl_areAll_int_1__pseeker_kinds_1__KindsFor_1 s_pimpl_seeker_kinds_1__KindsFor_1 s_impl_KindsFor_1
  refine ev_bnd (ev_chk (inB_k _ _ hi) (ev_chk (inB_k _ _ hx) (ev_bnd ev_some ?_))) ev_some
  rw [ix17]
  exact ev_bnd (contains_ok hA) ev_some
theorem impl_areAll {w h s : Int} {t A D : Nat → Int} {i F : Nat} {kk p : Int} (hF : F + 1 < 17) (hi : i < 8) (hA : ∀ x, x < 17 → 0 ≤ A (i * 17 + x) ∧ A (i * 17 + x) ≤ 1000) :
    Ev (fun n => s_impl_areAll_int__pseeker_kinds_1__KindsFor_1 n [(V.int .i64 (F : Int)), (V.int .i64 ((F + 1 : Nat) : Int))] w h s t A D i p kk) (fineC A D i kk F && fineC A D i kk (F + 1)) := by
  unfold s_impl_areAll_int__pseeker_kinds_1__KindsFor_1 s_slices_ContainsFunc_Sint_int__areAll_int_1__pseeker_kinds_1__KindsFor_1 s_slices_IndexFunc_Sint_int__areAll_int_1__pseeker_kinds_1__KindsFor_1
  have e0 := impl_cell (w := w) (h := h) (s := s) (t := t) (A := A) (D := D) (i := i) (x := F) (kk := kk) (p := p) (by omega) hi (hA F (by omega))
  have e1 := impl_cell (w := w) (h := h) (s := s) (t := t) (A := A) (D := D) (i := i) (x := F + 1) (kk := kk) (p := p) (by omega) hi (hA (F + 1) (by omega))
  cases f0 : fineC A D i kk F with
  | false =>
    rw [f0] at e0
    exact ev_bnd (ev_bnd (ev_bnd (a := Sum.inr (0 : Int)) (ev_succ (ev_t (by simp) (ev_bnd (a := (F : Int)) (ev_of fun n => rfl) (ev_bnd e0 (ev_t rfl ev_some))))) ev_some) ev_some) (ev_cast ev_some (by simp))
  | true =>
    rw [f0] at e0
    cases f1 : fineC A D i kk (F + 1) with
    | false =>
      rw [f1] at e1
      refine ev_bnd (ev_bnd (ev_bnd (a := Sum.inr (1 : Int)) (ev_succ (ev_t (by simp) (ev_bnd (a := (F : Int)) (ev_of fun n => rfl) (ev_bnd e0 (ev_f rfl (ev_succ ?_)))))) ev_some) ev_some) (ev_cast ev_some (by simp))
      rw [show IntKind.i64.wrap ((0 : Int) + 1) = 1 from rfl]
      exact ev_t (by simp) (ev_bnd (a := ((F + 1 : Nat) : Int)) (ev_of fun n => rfl) (ev_bnd e1 (ev_t rfl ev_some)))
    | true =>
      rw [f1] at e1
      refine ev_bnd (ev_bnd (ev_bnd (a := Sum.inl ()) (ev_succ (ev_t (by simp) (ev_bnd (a := (F : Int)) (ev_of fun n => rfl) (ev_bnd e0 (ev_f rfl (ev_succ ?_)))))) ev_some) ev_some) (ev_cast ev_some (by simp))
      rw [show IntKind.i64.wrap ((0 : Int) + 1) = 1 from rfl]
      refine ev_t (by simp) (ev_bnd (a := ((F + 1 : Nat) : Int)) (ev_of fun n => rfl) (ev_bnd e1 (ev_f rfl (ev_succ ?_))))
      rw [show IntKind.i64.wrap ((1 : Int) + 1) = 2 from rfl]
      exact ev_f (by simp) ev_some
theorem cellsOf_ok {w h s : Int} {t : Nat → Int} (i p : Nat) (hs : 0 ≤ s ∧ s ≤ 1) (hi : i < 8) (hp : p < 8) {F : Nat} (hF : (F : Int) = 2 * (p : Int) + shiftOf s (i : Int)) (n : Nat) : s_impl_Roof_cellsOf n w h s t i p = some [(V.int .i64 (F : Int)), (V.int .i64 ((F + 1 : Nat) : Int))] := by
  have := shiftOf_b s (i : Int)
  unfold s_impl_Roof_cellsOf
  rw [w64 (i : Int) (by omega), w64 (p : Int) (by omega), shift_eq n _ hs (by omega), bnd_s, w64 (2 * (p : Int)) (by omega), w64 _ (by omega), w64 _ (by omega), ← hF]
  rfl
theorem kinds_two {w h s : Int} {t A D : Nat → Int} {i p F : Nat} (hs : 0 ≤ s ∧ s ≤ 1) (hF : F + 1 < 17) (hF2 : (F : Int) = 2 * (p : Int) + shiftOf s (i : Int)) (hi : i < 8) (hp : p < 8) (hA : ∀ x, x < 17 → 0 ≤ A (i * 17 + x) ∧ A (i * 17 + x) ≤ 1000) (hD : ∀ x, x < 17 → -2147483648 ≤ D (i * 17 + x) ∧ D (i * 17 + x) ≤ 2147483647) :
    ∀ (d k : Nat) (out : Int), k + d = 4 → ∃ o : Int, Ev (fun n => l_spec_l03Kinds_b0 n A D out F k i p) o ∧ Ev (fun n => l_pimpl_seeker_kinds__KindsFor_1_b0 n out k w h s t A D i p) o := by
  intro d
  induction d with
  | zero =>
    intro k out hk
    exact ⟨out, ev_succ (ev_f (by simp; omega) ev_some), ev_succ (ev_f (by simp; omega) ev_some)⟩
  | succ d ih =>
    intro k out hk
    have b2 := spec_b2 (out := out) (kk := (k : Int)) (p := (p : Int)) hF hi hA hD
    have ba := impl_areAll (w := w) (h := h) (s := s) (t := t) (kk := (k : Int)) (p := (p : Int)) (D := D) hF hi hA
    cases hf : (fineC A D i (k : Int) F && fineC A D i (k : Int) (F + 1)) with
    | true =>
      rw [hf] at b2 ba
      obtain ⟨o, o1, o2⟩ := ih (k + 1) (IntKind.u8.wrap (BitVec.ofInt IntKind.u8.bits out ||| BitVec.ofInt IntKind.u8.bits (IntKind.u8.wrap (1 * 2 ^ min ((k : Int)).toNat IntKind.u8.bits))).toNat) (by omega)
      refine ⟨o, ev_succ (ev_t (by simp; omega) (ev_bnd b2 (ev_t rfl ?_))), ev_succ (ev_t (by simp; omega) (ev_bnd (ev_of fun n => cellsOf_ok i p hs hi hp hF2 n) (ev_bnd ba (ev_t rfl (ev_chk (by simp) ?_)))))⟩
      · rw [wu64 (k : Int) (by omega), up64 k (by omega)]
        exact ev_chk (by simp) o1
      · rw [upu8 k (by omega)]
        exact o2
    | false =>
      rw [hf] at b2 ba
      obtain ⟨o, o1, o2⟩ := ih (k + 1) out (by omega)
      refine ⟨o, ev_succ (ev_t (by simp; omega) (ev_bnd b2 (ev_f rfl ?_))), ev_succ (ev_t (by simp; omega) (ev_bnd (ev_of fun n => cellsOf_ok i p hs hi hp hF2 n) (ev_bnd ba (ev_f rfl ?_))))⟩
      · rw [up64 k (by omega)]; exact o1
      · rw [upu8 k (by omega)]; exact o2
theorem comes_b {w h s : Int} {t D r : Nat → Int} (H : RoofV w h s t) (R : RainB r) (hD : DripC D) (hs : soundS w h D r = true) (i x : Nat) (hi : i < 8) (hx : x < 17) : 0 ≤ comesD w h D r 17 0 (i * 17 + x) ∧ comesD w h D r 17 0 (i * 17 + x) ≤ 1000 := by
  have h1 : (i * 17 + x) % 17 = x := by omega
  have h2 : (i * 17 + x) / 17 = i := by omega
  unfold comesD
  rw [h1, h2]
  split
  · refine wat_b R hD hx i (by omega) fun j hj => ?_
    simp only [soundS, allN_iff, okW, okCell, Bool.and_eq_true, decide_eq_true_eq] at hs
    have := hs x (by omega) (by omega) j (by omega) (by omega)
    exact ⟨this.1.1, this.2⟩
  · omega
theorem law_FnExactKindsFor {w h s c k : Int} {t r D : Nat → Int} (hw : (Lit.int .i8 w).wf = true) (hh : (Lit.int .i8 h).wf = true) (hs : (Lit.int .u8 s).wf = true) (ht : ∀ j, j < 64 → (Lit.int .u8 (t j)).wf = true)
    (hr : ∀ j, j < 17 → (Lit.int .i16 (r j)).wf = true) (hD : ∀ j, j < 136 → (Lit.int .i32 (D j)).wf = true) (hc : (Lit.int .i8 c).wf = true) (hk : (Lit.int .i8 k).wf = true) : Ev (fun n => s_laws_FnExactKindsFor n w h s t r D c k) true := by
  unfold s_laws_FnExactKindsFor
  obtain ⟨t', e1, e2⟩ := toRoof_ok w h s t
  obtain ⟨r', e3, e4⟩ := toRain_ok r
  obtain ⟨D', e5, e6⟩ := toDrips_ok D
  have H := (RoofT.mk' hw hh hs ht).like e1
  have R := (RainT.mk' hr).like e3
  have hC := DripC.mk' hD e5
  have e7 : Ev (fun n => s_laws_toPlace n c k) (c, k) := ev_of fun n => rfl
  have key : ∃ (x y : Int), Ev (fun n => s_spec_KindsFor n w h s t' r' D' c k) (x, y) ∧ Ev (fun n => s_impl_KindsFor n w h s t' r' D' c k) (x, y) := by
    unfold s_spec_KindsFor s_impl_KindsFor
    have k1 := l02Ok_ok H R
    obtain ⟨bb, hbb⟩ := has_any w h s t' c k
    cases hok : rainOk w h s t' r' with
    | false =>
      rw [hok] at k1
      have k2 := seenCode_ok H R hC bb
      have hz : seenC w h s t' r' D' bb = 1 := by unfold seenC rainC; rw [hok]; rfl
      rw [hz] at k2
      exact ⟨0, 1, ev_bnd k1 (ev_f rfl ev_some), ev_bnd (ev_of hbb) (ev_bnd k2 (ev_f (by simp) ev_some))⟩
    | true =>
      rw [hok] at k1
      obtain ⟨h1, h2, _⟩ := rainOk_b hok
      have hV : RoofV w h s t' := ⟨H, h1⟩
      have hb := hV.b
      have k3 : Ev (fun n => s_spec_l01Is n w h s t' c k) (decide (0 ≤ c ∧ c < h ∧ 0 ≤ k ∧ k < w)) := ev_of fun n => l01Is_eq n c k H (wf_i8 hc) (wf_i8 hk)
      obtain ⟨⟨f, cd⟩, ⟨g1, g2⟩, k4⟩ := Asked_ok H R hC (decide (0 ≤ c ∧ c < h ∧ 0 ≤ k ∧ k < w))
      have k5 := seenCode_ok H R hC (decide (0 ≤ c ∧ c < h ∧ 0 ≤ k ∧ k < w))
      simp only at g1 g2
      subst g1
      by_cases hz : seenC w h s t' r' D' (decide (0 ≤ c ∧ c < h ∧ 0 ≤ k ∧ k < w)) = 0
      · have hrc : rainC w h s t' r' (decide (0 ≤ c ∧ c < h ∧ 0 ≤ k ∧ k < w)) = 0 := by
          unfold seenC at hz; split at hz
          · assumption
          · exact hz
        obtain ⟨_, hp⟩ := rainC_z hrc
        have hso : soundI w h D' r' = true := by
          unfold seenC at hz
          rw [if_pos hrc] at hz
          split at hz
          · assumption
          · cases hz
        simp only [decide_eq_true_eq] at hp
        have hss : soundS w h D' r' = true := by rw [sound_eq (by omega) h2]; exact hso
        obtain ⟨i, rfl⟩ := Int.eq_ofNat_of_zero_le hp.1
        obtain ⟨p, rfl⟩ := Int.eq_ofNat_of_zero_le hp.2.2.1
        have hsh := shiftOf_b s (i : Int)
        obtain ⟨F, hF⟩ := Int.eq_ofNat_of_zero_le (show 0 ≤ 2 * (p : Int) + shiftOf s (i : Int) by omega)
        have hf : f = comesD w h D' r' 17 0 := funext (g2 hz)
        obtain ⟨v, hv, k6⟩ := comes_ok hV h2 hC hss
        have hv2 : v = comesD w h D' r' 17 0 := funext hv
        subst hf
        subst hv2
        obtain ⟨o, o1, o2⟩ := kinds_two (w := w) (h := h) (t := t') (A := comesD w h D' r' 17 0) (D := D') (i := i) (p := p) (F := F) ⟨hb.2.2.2.2.1, hb.2.2.2.2.2⟩ (by omega) hF.symm (by omega) (by omega) (fun x hx => comes_b hV h2 hC hss i x (by omega) hx) (fun x hx => hC _ (by omega)) 4 0 0 (by omega)
        refine ⟨o, 0, ev_bnd k1 (ev_t rfl (ev_bnd k3 (ev_bnd k4 (ev_t (decide_eq_true hz) (ev_bnd ?_ ev_some))))), ev_bnd (ev_of fun n => has_eq hV _ _ n) (ev_bnd k5 (ev_t (decide_eq_true hz) (ev_bnd (a := (w, h, s, t', comesD w h D' r' 17 0, D')) ?_ (ev_bnd ?_ ev_some))))⟩
        · unfold s_spec_l03Kinds
          refine ev_bnd (ev_of fun n => l01First_eq n (i : Int) (p : Int) ⟨hb.2.2.2.2.1, hb.2.2.2.2.2⟩ (by omega) (by omega)) ?_
          rw [hF]
          exact ev_bnd o1 ev_some
        · unfold s_impl_seekerOf
          exact ev_bnd k6 ev_some
        · unfold s_pimpl_seeker_kinds__KindsFor_1
          exact ev_bnd o2 ev_some
      · exact ⟨0, _, ev_bnd k1 (ev_t rfl (ev_bnd k3 (ev_bnd k4 (ev_f (decide_eq_false hz) ev_some)))), ev_bnd (ev_of fun n => has_eq hV _ _ n) (ev_bnd k5 (ev_f (decide_eq_false hz) ev_some))⟩
  obtain ⟨x, y, k1, k2⟩ := key
  exact ev_bnd e2 (ev_bnd e4 (ev_bnd e6 (ev_bnd e7 (ev_bnd k1 (ev_bnd e2 (ev_bnd e4 (ev_bnd e6 (ev_bnd e7 (ev_bnd k2 (ev_t (by simp) (ev_t (by simp) ev_some)))))))))))
end Go.Proofs.Ytdhcfdiggcgmhaa
