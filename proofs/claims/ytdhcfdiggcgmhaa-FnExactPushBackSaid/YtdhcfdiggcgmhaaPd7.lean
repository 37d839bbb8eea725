/- Law PushBack. -/
import Derived.Test.YtdhcfdiggcgmhaaPd5
import Derived.Test.YtdhcfdiggcgmhaaSh6
namespace Go.Proofs.Ytdhcfdiggcgmhaa
open Go
set_option linter.unusedVariables false
set_option linter.unusedSimpArgs false

theorem spec_at_eq (n : Nat) {w h s : Int} {t : Nat → Int} (H : RoofT w h s t) (i k : Nat) (hi : i < 8) (hk : k < 8) : s_spec_l01At n w h s t i k = some (t (i * 8 + k)) := by
  have := H.bt (i * 8 + k) (by omega)
  unfold s_spec_l01At
  rw [inB_k _ _ hi, chk_t, inB_k _ _ hk, chk_t, show 0 + (i : Int).toNat * 8 + (k : Int).toNat * 1 = i * 8 + k by simp, w64 _ (by omega)]
def tAt (t : Nat → Int) (p : Int × Int) : Int := t (p.1.toNat * 8 + p.2.toNat)
/-- those of a list that are as told, one after another -/
def keepB (q : Int × Int → Bool) (p : Int × Int) : List (Int × Int) := if q p = true then [(p.1, p.2)] else []
theorem keepB_len (q : Int × Int → Bool) (p : Int × Int) : (keepB q p).length ≤ 1 := by unfold keepB; split <;> simp
theorem keepB_filter (q : Int × Int → Bool) : ∀ (L : List (Int × Int)), L.flatMap (keepB q) = L.filter q
  | [] => rfl
  | p :: L => by
    rw [List.flatMap_cons, keepB_filter q L, List.filter_cons]
    unfold keepB
    split <;> rfl
def qPl (w h : Int) (q : Int × Int → Bool) : List (Int × Int) := (List.range' 0 h.toNat).flatMap fun (i : Nat) => (List.range' 0 w.toNat).flatMap fun (k : Nat) => keepB q ((i : Int), (k : Int))
theorem qPl_eq (w h : Int) (q : Int × Int → Bool) : qPl w h q = (allPl w h).filter q := by
  rw [← keepB_filter]; simp [allPl, qPl, List.flatMap_assoc]
def slipB (t : Nat → Int) (p : Int × Int) : Bool := decide (tAt t p = 2)
theorem l01Tiles_ok {w h s : Int} {t : Nat → Int} (H : RoofV w h s t) : Ev (fun n => s_spec_l01Tiles n w h s t 2) (places ((allPl w h).filter (slipB t))) := by
  have hb := H.b
  have hL := allPl_len (w := w) (h := h) (by omega) (by omega)
  unfold s_spec_l01Tiles
  refine ev_bnd (l01All_ok H) (ev_bnd (a := places ((allPl w h).filter (slipB t))) ?_ ev_some)
  have := loop_cat (l := fun n k g => l_spec_l01Tiles_b0 n w h s t 2 (k : Nat) (places g) (places (allPl w h))) (G := fun j => keepB (slipB t) (pr (allPl w h) j)) (R := fun g => places g) (allPl w h).length 0 1 (fun _ _ => keepB_len ..) (fun acc => ev_f (by simp [prs_length]) ev_some) (fun j acc hj hl v ih => by
    obtain ⟨m1, m2, m3, m4⟩ := allPl_mem (pr_mem hj)
    have hg : ∀ n : Nat, bnd (nth (places (allPl w h)) ((j : Nat) : Int).toNat) as_Pi8_i8Q = some ((pr (allPl w h) j).1, (pr (allPl w h) j).2) := fun n => by rw [Int.toNat_natCast, nth_prs _ _ _ _ hj]; rfl
    unfold keepB at ih
    generalize pr (allPl w h) j = p at m1 m2 m3 m4 hg ih
    obtain ⟨p1, p2⟩ := p
    dsimp only at m1 m2 m3 m4 hg ih
    obtain ⟨i, rfl⟩ := Int.eq_ofNat_of_zero_le m1
    obtain ⟨k, rfl⟩ := Int.eq_ofNat_of_zero_le m3
    refine ev_t (by simp [prs_length]; omega) (ev_chk (inB_k _ _ (by rw [places_length]; exact hj)) (ev_bnd (ev_of hg) (ev_bnd (ev_of fun n => spec_at_eq n H.toRoofT i k (by omega) (by omega)) ?_)))
    rw [up64 j (by omega)]
    refine ev_cnd (fun c => ?_) (fun c => ?_)
    · have hw : slipB t ((i : Int), (k : Int)) = true := by unfold slipB tAt; simp only [Int.toNat_natCast]; exact c
      rw [if_pos hw] at ih
      refine ev_bnd (ev_of hg) (ev_chk (by simp [prs_length]; omega) ?_)
      rw [places_one, ← prs_app]
      exact ih
    · have hw : slipB t ((i : Int), (k : Int)) = false := by unfold slipB tAt; simp only [Int.toNat_natCast]; exact c
      rw [if_neg (by rw [hw]; simp), List.append_nil] at ih
      exact ih) [] (by simp)
  rw [flat_pr, keepB_filter] at this
  exact this
theorem place_ix (c k : Int) : 0 + c.toNat * 8 + k.toNat * 1 = c.toNat * 8 + k.toNat := by omega
theorem with_eq (n : Nat) (w h s : Int) (t : Nat → Int) (c k v : Int) (hc : 0 ≤ c ∧ c < 8) (hk : 0 ≤ k ∧ k < 8) : s_impl_Roof_with n w h s t c k v = some (w, h, s, updC t (c.toNat * 8 + k.toNat) v) := by
  unfold s_impl_Roof_with
  rw [inB_i _ _ (by omega), chk_t, inB_i _ _ (by omega), chk_t, place_ix]
def mendF (t : Nat → Int) (p : Int × Int) : Nat → Int := updC t (p.1.toNat * 8 + p.2.toNat) 0
def mendT (t : Nat → Int) (m : List (Int × Int)) : Nat → Int := m.foldl mendF t
def laddB (s e : Int) (l : List Int) (p : Int × Int) : Bool := (firstL s e l p).isSome
theorem filt_step (q : Int × Int → Bool) (L : List (Int × Int)) (k : Nat) (hk : k < L.length) : (L.take (k + 1)).filter q = (L.take k).filter q ++ keepB q (pr L k) := by
  rw [List.take_add_one, List.filter_append, pr_get hk]
  simp only [Option.toList, List.filter_cons, List.filter_nil, keepB]
theorem spec_push {w h s : Int} {t : Nat → Int} (H : RoofV w h s t) {l : List Int} (hl : l.length ≤ 8) {e : Int} (he : 0 ≤ e ∧ e ≤ 8) (W : List (Int × Int)) (hW : ∀ p, p ∈ W → isQ w h p = true) (hn : W.length ≤ 64) (z : Nat → Int) :
    Ev (fun n => l_spec_PushBack_b0 n (ints .i64 l) e 0 w h s t 0 0 0 z (places []) (places W) w h s t) (0, 0, 0, z, places (W.filter (laddB s e l)), w, h, s, mendT t (W.filter (laddB s e l))) := by
  have hb := H.b
  obtain ⟨v, hv, h1⟩ := loop_up (l := fun n k (c : List (Int × Int)) => l_spec_PushBack_b0 n (ints .i64 l) e (k : Nat) w h s t 0 0 0 z (places c) (places W) w h s (mendT t c)) (I := fun k c => c = (W.take k).filter (laddB s e l))
    (P := fun v => v = (0, 0, 0, z, places (W.filter (laddB s e l)), w, h, s, mendT t (W.filter (laddB s e l)))) W.length (by
    rintro k c hk rfl ih
    by_cases hlt : k < W.length
    · have hq := hW _ (pr_mem hlt)
      have hc : ((W.take k).filter (laddB s e l)).length ≤ 64 := by
        have := List.length_filter_le (laddB s e l) (W.take k)
        have := List.length_take_le k W
        omega
      have hg : ∀ n : Nat, bnd (nth (places W) ((k : Nat) : Int).toNat) as_Pi8_i8Q = some ((pr W k).1, (pr W k).2) := fun n => by rw [Int.toNat_natCast, nth_prs _ _ _ _ hlt]; rfl
      have hf := l04First_ok H hl he (pr W k) hq
      have ih' := ih hlt _ rfl
      rw [filt_step _ _ _ hlt] at ih'
      have hq' := hq
      simp only [isQ, decide_eq_true_eq] at hq
      refine tot_t (by simp [prs_length]; omega) (tot_chk (inB_k _ _ (by rw [places_length]; exact hlt)) (tot_ev (ev_of hg) (tot_ev hf ?_)))
      rw [up64 k (by omega)]
      unfold keepB laddB at ih'
      cases hfi : firstL s e l (pr W k) with
      | none =>
        rw [hfi] at ih'
        rw [if_neg (by simp), List.append_nil] at ih'
        exact tot_f (by simp) ih'
      | some i =>
        rw [hfi] at ih'
        rw [if_pos (by simp)] at ih'
        refine tot_t (by simp) (tot_ev (ev_of hg) (tot_ev (ev_of hg) (tot_ev (ev_of hg) (tot_ev (ev_of hg) (tot_chk (inB_i _ _ (by omega)) (tot_chk (inB_i _ _ (by omega)) (tot_ev (ev_of hg) (tot_chk (by simp [prs_length]; omega) ?_))))))))
        rw [place_ix, places_one, ← prs_app]
        have hm : mendT t ((W.take k).filter (laddB s e l) ++ [((pr W k).1, (pr W k).2)]) = updC (mendT t ((W.take k).filter (laddB s e l))) ((pr W k).1.toNat * 8 + (pr W k).2.toNat) 0 := by
          unfold mendT; rw [List.foldl_append]; rfl
        unfold laddB at hm ⊢
        rw [hm] at ih'
        exact ih'
    · obtain rfl : k = W.length := by omega
      exact tot_f (by simp [prs_length]) (tot_some (by rw [List.take_length]))) 0 [] (by omega) rfl
  subst hv
  exact h1
def pushB (s e : Int) (t : Nat → Int) (l : List Int) (p : Int × Int) : Bool := slipB t p && laddB s e l p
theorem reachable1_ok {w h s : Int} {t : Nat → Int} (H : RoofV w h s t) {l : List Int} (hl : l.length ≤ 8) (hq : allQ w l = true) {e : Int} (he : 0 ≤ e ∧ e ≤ 8) (i k : Nat) (hi : (i : Int) < h) (hk : (k : Int) < w) :
    Ev (fun n => s_impl_Roof_reachable_1__PushBack_1 n i k w h s t (ints .i64 l) e) (pushB s e t l ((i : Int), (k : Int))) := by
  have hb := H.b
  have hp : isQ w h ((i : Int), (k : Int)) = true := by simp [isQ]; omega
  unfold s_impl_Roof_reachable_1__PushBack_1
  rw [show ((ints .i64 l).length : Int) = (l.length : Int) by simp [ints_length]]
  refine ev_bnd (a := t (i * 8 + k)) (ev_of fun n => ?_) (ev_bnd (a := decide (t (i * 8 + k) = 2)) ?_ ?_)
  · unfold s_impl_Roof_kind
    rw [inB_k _ _ (by omega), chk_t, inB_k _ _ (by omega), chk_t, show 0 + (i : Int).toNat * 8 + (k : Int).toNat * 1 = i * 8 + k by simp]
  · unfold s_impl_PushBack_1
    exact ev_some
  · unfold pushB slipB tAt laddB
    simp only [Int.toNat_natCast]
    refine ev_cnd (fun c => ?_) (fun c => ?_)
    · rw [c, Bool.true_and]
      refine ev_bnd (ladderOf_ok H hl hq he ((i : Int), (k : Int)) hp) (ev_cast ev_some ?_)
      cases hf : firstL s e l ((i : Int), (k : Int)) with
      | none => simp
      | some j => have := firstL_lt hf; simp; omega
    · rw [c, Bool.false_and]; exact ev_some
theorem push_b2 {w h s : Int} {t : Nat → Int} (H : RoofV w h s t) {l : List Int} (hl : l.length ≤ 8) (hq : allQ w l = true) {e : Int} (he : 0 ≤ e ∧ e ≤ 8) (i : Nat) (hi : (i : Int) < h) (acc : List (Int × Int)) (hc : acc.length ≤ 64) :
    Ev (fun n => l_impl_Roof_places__Roof_reachable_1__PushBack_1_b2 n w h s t (ints .i64 l) e i h i w 0 w h s t (places acc)) (w, h, s, t, ints .i64 l, e, h, (i : Int), w, h, s, t, places (acc ++ (List.range' 0 w.toNat).flatMap fun (k : Nat) => keepB (pushB s e t l) ((i : Int), (k : Int)))) := by
  have hb := H.b
  refine loop_cat (l := fun n k g => l_impl_Roof_places__Roof_reachable_1__PushBack_1_b2 n w h s t (ints .i64 l) e i h i w (k : Nat) w h s t (places g)) (G := fun (k : Nat) => keepB (pushB s e t l) ((i : Int), (k : Int))) (R := fun g => (w, h, s, t, ints .i64 l, e, h, (i : Int), w, h, s, t, places g)) w.toNat 64 1 (fun _ _ => keepB_len ..) (fun acc => ev_f (by simp; omega) ev_some) (fun k acc hk hl2 v ih => ?_) acc hc
  refine ev_t (by simp; omega) (ev_bnd (reachable1_ok H hl hq he i k hi (by omega)) ?_)
  rw [up8 k (by omega)]
  unfold keepB at ih
  dsimp only at ih
  refine ev_cnd (fun c => ?_) (fun c => ?_)
  · rw [if_pos c] at ih
    refine ev_chk (by simp [prs_length]; omega) ?_
    rw [places_one, ← prs_app]
    exact ih
  · rw [if_neg (by rw [c]; simp), List.append_nil] at ih
    exact ih
theorem reachable_ok {w h s : Int} {t : Nat → Int} (H : RoofV w h s t) {l : List Int} (hl : l.length ≤ 8) (hq : allQ w l = true) {e : Int} (he : 0 ≤ e ∧ e ≤ 8) : Ev (fun n => s_impl_Roof_reachable__PushBack_1 n w h s t (ints .i64 l) e) (places (qPl w h (pushB s e t l))) := by
  have hb := H.b
  unfold s_impl_Roof_reachable__PushBack_1 s_impl_Roof_places__Roof_reachable_1__PushBack_1
  refine ev_bnd (ev_bnd (a := places (qPl w h (pushB s e t l))) ?_ ev_some) (ev_chk (plain_places _ _) ev_some)
  have := loop_cat (l := fun n k g => l_impl_Roof_places__Roof_reachable_1__PushBack_1_b0 n w h s t (ints .i64 l) e h (k : Nat) w h s t (places g)) (G := fun (i : Nat) => (List.range' 0 w.toNat).flatMap fun (k : Nat) => keepB (pushB s e t l) ((i : Int), (k : Int))) (R := fun g => places g) h.toNat 0 8 (fun k _ => by
    have : ((List.range' 0 w.toNat).flatMap fun (j : Nat) => keepB (pushB s e t l) ((k : Int), (j : Int))).length ≤ w.toNat * 1 := flat_len 0 fun _ _ _ => keepB_len ..
    omega) (fun acc => ev_f (by simp; omega) ev_some) (fun k acc hk hl2 v ih => by
    refine ev_t (by simp; omega) (ev_bnd (push_b2 H hl hq he k (by omega) acc (by omega)) ?_)
    dsimp only
    rw [up8 k (by omega)]
    exact ih) [] (by simp)
  exact this
theorem take_foldP {β : Type} (f : β → Int × Int → β) (b : β) (L : List (Int × Int)) (k : Nat) (hk : k < L.length) : (L.take (k + 1)).foldl f b = f ((L.take k).foldl f b) (pr L k) := by
  rw [List.take_add_one, List.foldl_append, pr_get hk]; rfl
theorem mended_ok {w h s : Int} {t : Nat → Int} (m : List (Int × Int)) (hm : m.length ≤ 1000) (hq : ∀ p, p ∈ m → 0 ≤ p.1 ∧ p.1 < 8 ∧ 0 ≤ p.2 ∧ p.2 < 8) : Ev (fun n => s_impl_Roof_mended n w h s t (places m)) (w, h, s, mendT t m) := by
  unfold s_impl_Roof_mended
  rw [show ((places m).length : Int) = (m.length : Int) by simp [prs_length]]
  obtain ⟨v, hv, h1⟩ := loop_up (l := fun n k (st : Nat → Int) => l_impl_Roof_mended_b0 n (places m) (m.length : Int) (k : Nat) w h s st 0 0 0 (fun _ => 0)) (I := fun k st => st = (m.take k).foldl mendF t) (P := fun v => v = (w, h, s, mendT t m, 0, 0, 0, fun _ => 0)) m.length (by
    intro k st hk hst ih
    by_cases hlt : k < m.length
    · have b1 := hq _ (pr_mem hlt)
      refine tot_t (by simp; omega) (tot_ev (a := ((pr m k).1, (pr m k).2)) (ev_of fun n => by rw [idx_prs _ _ _ _ hlt]; rfl) (tot_ev (ev_of fun n => with_eq n w h s st _ _ 0 (by omega) (by omega)) ?_))
      rw [up64 k (by omega)]
      exact ih hlt _ (by rw [take_foldP _ _ _ _ hlt, hst]; rfl)
    · obtain rfl : k = m.length := by omega
      rw [List.take_length] at hst
      subst hst
      exact tot_f (by simp) (tot_some rfl)) 0 t (by omega) rfl
  subst hv
  exact ev_bnd h1 ev_some
theorem eqByteA8_ok (a : Nat → Int) : Ev (fun n => s_laws_eqByteA8 n a a) true := by
  unfold s_laws_eqByteA8
  have := loop_all (l := fun n k => l_laws_eqByteA8_b0 n (k : Nat) a a) (p := fun _ => true) (A := .inl ()) (B := .inr false) 8 (ev_f (by simp) ev_some) (by
    intro k hk _ v ih
    refine ev_t (by simp; omega) (ev_chk (inB_k _ _ hk) (ev_t (by simp) ?_))
    rw [up64 k (by omega)]
    exact ih) (by intro k hk h; cases h) 8 0 (by omega)
  refine ev_bnd this ?_
  rw [show allN (fun _ => true) 0 8 = true from rfl]
  exact ev_some
theorem eqRoof_ok (w h s : Int) (t : Nat → Int) : Ev (fun n => s_laws_eqRoof n w h s t w h s t) true := by
  unfold s_laws_eqRoof s_laws_eqByteA8A8
  refine ev_t (by simp) (ev_t (by simp) (ev_t (by simp) (ev_bnd (a := true) ?_ (ev_t rfl ev_some))))
  have := loop_all (l := fun n k => l_laws_eqByteA8A8_b0 n (k : Nat) t t) (p := fun _ => true) (A := .inl ()) (B := .inr false) 8 (ev_f (by simp) ev_some) (by
    intro k hk _ v ih
    refine ev_t (by simp; omega) (ev_chk (inB_k _ _ hk) (ev_bnd (eqByteA8_ok _) (ev_t rfl ?_)))
    rw [up64 k (by omega)]
    exact ih) (by intro k hk h; cases h) 8 0 (by omega)
  refine ev_bnd this ?_
  rw [show allN (fun _ => true) 0 8 = true from rfl]
  exact ev_some
theorem plain_push (a b c : Int) (f : Nat → Int) (e : Nat) (m : List (Int × Int)) (y : Int) : plainV (V.tup [(V.parts [(V.int .i8 (a)), (V.int .i8 (b)), (V.int .u8 (c)), (V.ints .u8 64 f)]), (V.fresh e (places m)), (V.int .i64 (y))]) = true := by
  have h := plain_places e m
  simp only [plainV, plainQ, plainP] at h
  simp only [plainV, allB, plainQ, plainP, plainO]
  rw [h]
theorem law_FnExactPushBack {w h s e : Int} {t : Nat → Int} {xs : List V} (hw : (Lit.int .i8 w).wf = true) (hh : (Lit.int .i8 h).wf = true) (hs : (Lit.int .u8 s).wf = true) (ht : ∀ j, j < 64 → (Lit.int .u8 (t j)).wf = true)
    (hx : xs.length ≤ maxLen ∧ ∀ x, x ∈ xs → inL [.int .i64] [x]) (he : (Lit.int .i64 e).wf = true) : Ev (fun n => s_laws_FnExactPushBack n w h s t xs e) true := by
  obtain ⟨l, rfl, hl⟩ := ints_of hx.2
  unfold s_laws_FnExactPushBack
  rw [show ((ints .i64 l).length : Int) = (l.length : Int) by simp [ints_length]]
  by_cases h1 : (1048576 : Int) < l.length
  · exact ev_t (by simpa using h1) ev_some
  · refine ev_f (by simpa using h1) ?_
    obtain ⟨t', e1, e2⟩ := toRoof_ok w h s t
    have H := (RoofT.mk' hw hh hs ht).like e1
    have hc := toInt64S_ok l (by omega)
    have hP : PlT [] := ⟨fun j hj => absurd hj (by simp), by simp⟩
    have k : ∃ (a b c : Int) (f : Nat → Int) (m : List (Int × Int)) (y : Int), m.length ≤ 1000 ∧ Ev (fun n => s_spec_PushBack n w h s t' (ints .i64 l) e) (a, b, c, f, places m, y) ∧ Ev (fun n => s_impl_PushBack n w h s t' (ints .i64 l) e) (a, b, c, f, places m, y) := by
      unfold s_spec_PushBack s_impl_PushBack
      have k1 := Asked2_ok H l (by omega) [] hP (reachB e)
      have k2 := ladderCode_ok H l (by omega) e [] hP
      by_cases hz : askF w h s t' l [] (reachB e && allQ w l && allP (isQ w h) []) = 0
      · obtain ⟨g1, g2, g3, g4, g5, g6⟩ := askF_zero hz
        have hV : RoofV w h s t' := ⟨H, g1⟩
        have hb := hV.b
        have hL := allPl_len (w := w) (h := h) (by omega) (by omega)
        have k3 := spec_push hV g5 g2 ((allPl w h).filter (slipB t')) (fun p hp => by
          have := allPl_mem (List.mem_filter.1 hp).1
          simp [isQ]; omega) (by have := List.length_filter_le (slipB t') (allPl w h); omega) (fun _ => 0)
        have heq : ((allPl w h).filter (slipB t')).filter (laddB s e l) = qPl w h (pushB s e t' l) := by
          rw [qPl_eq, List.filter_filter]
          refine List.filter_congr fun p _ => ?_
          unfold pushB; rw [Bool.and_comm]
        rw [heq] at k3
        have hlen : (qPl w h (pushB s e t' l)).length ≤ 64 := by
          rw [qPl_eq]
          have := List.length_filter_le (pushB s e t' l) (allPl w h); omega
        have hmem : ∀ p, p ∈ qPl w h (pushB s e t' l) → 0 ≤ p.1 ∧ p.1 < 8 ∧ 0 ≤ p.2 ∧ p.2 < 8 := fun p hp => by
          rw [qPl_eq] at hp
          have := allPl_mem (List.mem_filter.1 hp).1
          omega
        exact ⟨w, h, s, mendT t' (qPl w h (pushB s e t' l)), qPl w h (pushB s e t' l), 0, by omega, ev_bnd (l04Reach_ok e) (ev_bnd k1 (ev_t (by simpa using hz) (ev_bnd (l01Tiles_ok hV) (ev_chk (plain_places _ _) (ev_bnd k3 ev_some))))), ev_bnd k2 (ev_t (by simpa using hz) (ev_bnd (reachable_ok hV g5 g3 g2) (ev_bnd (mended_ok _ (by omega) hmem) ev_some)))⟩
      · exact ⟨0, 0, 0, fun _ => 0, [], _, by simp, ev_bnd (l04Reach_ok e) (ev_bnd k1 (ev_f (by simpa using hz) ev_some)), ev_bnd k2 (ev_f (by simpa using hz) ev_some)⟩
    obtain ⟨a, b, c, f, m, y, hmn, k1, k2⟩ := k
    have hq2 := eqPlaceS_ok m (by omega)
    have hR := eqRoof_ok a b c f
    have hm := markPlaceS_ok m 1 (by omega)
    have hh2 := heldPlaceS_ok m.length 1 (by omega)
    have hmi := markInt64S_okL l 1 (by omega)
    refine ev_bnd e2 (ev_bnd hc (ev_bnd k1 (ev_chk (plain_push ..) (ev_bnd hc (ev_bnd e2 (ev_bnd k2 (ev_chk (plain_push ..) (ev_bnd hR (ev_t rfl (ev_bnd hq2 (ev_t rfl (ev_t (by simp) ?_))))))))))))
    refine ev_bnd hc (ev_bnd (eqInt64S_okL l (by omega)) (ev_t rfl ?_))
    refine ev_bnd hmi (ev_chk (like_ints _ _ _ (by rw [marks_length])) (ev_f (by simp; omega) (ev_bnd hR (ev_t rfl (ev_bnd hq2 (ev_t rfl ?_))))))
    refine ev_bnd hm (ev_chk (like_prs _ _ _ _ (by rw [marks2_length])) (ev_bnd hh2 (ev_f (by simp; omega) (ev_t (by simp) ?_))))
    exact ev_bnd e2 (ev_bnd hc (ev_bnd k2 (ev_chk (plain_push ..) (ev_bnd hR (ev_t rfl (ev_bnd hq2 (ev_t rfl (ev_t (by simp) (ev_bnd hh2 (ev_f (by simp; omega) (ev_t (by simp) ev_some))))))))))) 
end Go.Proofs.Ytdhcfdiggcgmhaa
