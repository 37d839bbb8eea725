/- Lists of places: made, compared, marked, held. -/
import Derived.Test.YtdhcfdiggcgmhaaPr0
import Derived.Test.YtdhcfdiggcgmhaaPa4
import Derived.Test.YtdhcfdiggcgmhaaSh2
namespace Go.Proofs.Ytdhcfdiggcgmhaa
open Go
set_option linter.unusedVariables false
set_option linter.unusedSimpArgs false

abbrev places (l : List (Int × Int)) : List V := prs .i8 .i8 l
theorem places_length (l : List (Int × Int)) : (places l).length = l.length := prs_length ..
theorem places_one (i k : Int) : [(V.parts [(V.int .i8 (i)), (V.int .i8 (k))])] = places [(i, k)] := rfl
theorem plain_places (e : Nat) : ∀ (l : List (Int × Int)), plainV (V.fresh e (places l)) = true := by
  intro l
  show allB plainP.plainE (places l) = true
  induction l with
  | nil => rfl
  | cons p l ih => exact ih
theorem loop_cat {α β : Type} {l : Nat → Nat → List β → Option α} {G : Nat → List β} {R : List β → α} (N L M : Nat) (hG : ∀ k, k < N → (G k).length ≤ M) (hend : ∀ acc, Ev (fun n => l (n + 1) N acc) (R acc))
    (hstep : ∀ k acc, k < N → acc.length ≤ L + k * M → ∀ a, Ev (fun n => l n (k + 1) (acc ++ G k)) a → Ev (fun n => l (n + 1) k acc) a) (acc0 : List β) (h0 : acc0.length ≤ L) :
    Ev (fun n => l n 0 acc0) (R (acc0 ++ (List.range' 0 N).flatMap G)) := by
  have key : ∀ (d k : Nat), k + d = N → ((List.range' 0 k).flatMap G).length ≤ k * M → Ev (fun n => l n k (acc0 ++ (List.range' 0 k).flatMap G)) (R (acc0 ++ (List.range' 0 N).flatMap G)) := by
    intro d
    induction d with
    | zero => intro k hk _; obtain rfl : k = N := by omega
              exact ev_succ (hend _)
    | succ d ih =>
      intro k hk hl
      have hs : (List.range' 0 (k + 1)).flatMap G = (List.range' 0 k).flatMap G ++ G k := by rw [List.range'_concat]; simp [List.flatMap_append]
      have h1 := ih (k + 1) (by omega) (by rw [hs, List.length_append, Nat.succ_mul]; have := hG k (by omega); omega)
      rw [hs, ← List.append_assoc] at h1
      exact ev_succ (hstep k _ (by omega) (by rw [List.length_append]; omega) _ h1)
  have := key N 0 (by omega) (by simp)
  simpa using this
/-- all places of a roof, row by row -/
def allPl (w h : Int) : List (Int × Int) := (List.range' 0 h.toNat).flatMap fun (i : Nat) => (List.range' 0 w.toNat).flatMap fun (k : Nat) => [((i : Int), (k : Int))]
theorem flat_len {G : Nat → List (Int × Int)} {M : Nat} : ∀ {N : Nat} (k : Nat), (∀ j, k ≤ j → j < k + N → (G j).length ≤ M) → ((List.range' k N).flatMap G).length ≤ N * M
  | 0, k, _ => by simp
  | N + 1, k, h => by
    rw [List.range'_succ, List.flatMap_cons, List.length_append, Nat.succ_mul]
    have h1 := h k (Nat.le_refl _) (by omega)
    have h2 := flat_len (G := G) (M := M) (N := N) (k + 1) fun j h3 h4 => h j (by omega) (by omega)
    omega
theorem row_len (N i : Nat) : ((List.range' 0 N).flatMap fun (k : Nat) => [((i : Int), (k : Int))]).length ≤ N * 1 := flat_len 0 fun _ _ _ => by simp
theorem l01All_b2 {w h s : Int} {t : Nat → Int} (H : RoofV w h s t) (i : Nat) (hi : i < 8) (acc : List (Int × Int)) (ha : acc.length ≤ 64) :
    Ev (fun n => l_spec_l01All_b2 n w h s t i 0 (places acc)) (w, h, s, t, (i : Int), places (acc ++ (List.range' 0 w.toNat).flatMap fun (k : Nat) => [((i : Int), (k : Int))])) := by
  have hb := H.b
  refine loop_cat (l := fun n k g => l_spec_l01All_b2 n w h s t i (k : Nat) (places g)) (G := fun k => [((i : Int), (k : Int))]) (R := fun g => (w, h, s, t, (i : Int), places g)) w.toNat 64 1 (fun _ _ => by simp) (fun acc => ev_f (by simp; omega) ev_some) (fun k acc hk hl a ih => ?_) acc ha
  refine ev_t (by simp; omega) (ev_chk (by simp [prs_length]; omega) ?_)
  rw [up8 k (by omega), places_one, ← prs_app]
  exact ih
theorem l01All_ok {w h s : Int} {t : Nat → Int} (H : RoofV w h s t) : Ev (fun n => s_spec_l01All n w h s t) (places (allPl w h)) := by
  have hb := H.b
  unfold s_spec_l01All
  refine ev_bnd (a := places (allPl w h)) ?_ ev_some
  have := loop_cat (l := fun n k g => l_spec_l01All_b0 n w h s t (k : Nat) (places g)) (G := fun (i : Nat) => (List.range' 0 w.toNat).flatMap fun (k : Nat) => [((i : Int), (k : Int))]) (R := fun g => places g) h.toNat 0 8 (fun k _ => by have := row_len w.toNat k; omega) (fun acc => ev_f (by simp; omega) ev_some) (fun k acc hk hl a ih => by
    refine ev_t (by simp; omega) (ev_bnd (l01All_b2 H k (by omega) acc (by omega)) ?_)
    dsimp only
    rw [up8 k (by omega)]
    exact ih) [] (by simp)
  exact this
theorem allPl_len {w h : Int} (hw : w ≤ 8) (hh : h ≤ 8) : (allPl w h).length ≤ 64 := by
  have h1 : (allPl w h).length ≤ h.toNat * 8 := flat_len 0 fun j _ _ => by have := row_len w.toNat j; omega
  omega
theorem allPl_mem {w h : Int} {p : Int × Int} (hp : p ∈ allPl w h) : 0 ≤ p.1 ∧ p.1 < h ∧ 0 ≤ p.2 ∧ p.2 < w := by
  simp only [allPl, List.mem_flatMap, List.mem_range'_1, List.mem_singleton] at hp
  obtain ⟨i, hi, k, hk, rfl⟩ := hp
  simp only
  omega
theorem l01First_eq (n : Nat) {w h s : Int} {t : Nat → Int} (i k : Int) (hs : 0 ≤ s ∧ s ≤ 1) (hi : 0 ≤ i ∧ i ≤ 1000) (hk : 0 ≤ k ∧ k ≤ 1000) : s_spec_l01First n w h s t i k = some (2 * k + shiftOf s i) := by
  have := shiftOf_b s i
  unfold s_spec_l01First
  rw [w64 i (by omega), w64 k (by omega), l01By_eq n i hs (by omega), bnd_s, w64 (2 * k) (by omega), w64 _ (by omega)]
theorem eqPlaceS_ok (l : List (Int × Int)) (hl : l.length ≤ 1048576) : Ev (fun n => s_laws_eqPlaceS n (places l) (places l)) true := by
  unfold s_laws_eqPlaceS
  refine ev_t (by simp) (ev_bnd (a := Sum.inl ()) ?_ ev_some)
  have := loop_all (l := fun n k => l_laws_eqPlaceS_b0 n (places l) (places l) (k : Nat)) (p := fun _ => true) (A := .inl ()) (B := .inr false) l.length (ev_f (by simp [prs_length]) ev_some) (by
    intro k hk _ a ih
    refine ev_t (by simp [prs_length]; omega) (ev_bnd (a := ((pr l k).1, (pr l k).2)) (ev_of fun n => by rw [idx_prs _ _ _ _ hk]; rfl) (ev_bnd (a := ((pr l k).1, (pr l k).2)) (ev_of fun n => by rw [idx_prs _ _ _ _ hk]; rfl) (ev_bnd (a := true) (by
      unfold s_laws_eqPlace
      exact ev_t (by simp) (ev_t (by simp) ev_some)) (ev_t rfl ?_))))
    rw [up64 k (by omega)]
    exact ih) (by intro k hk h; cases h) l.length 0 (by omega)
  have h2 : allN (fun _ => true) 0 l.length = true := (allN_iff _ _ _).2 fun _ _ _ => rfl
  rw [h2] at this
  exact this
def mark2 (k0 j : Nat) : Int × Int := (IntKind.i8.wrap ((k0 + 2 * j : Nat) : Int), IntKind.i8.wrap ((k0 + 2 * j + 1 : Nat) : Int))
def marks2 (k0 n : Nat) : List (Int × Int) := (List.range' 0 n).map (mark2 k0)
theorem marks2_length (k0 n : Nat) : (marks2 k0 n).length = n := by simp [marks2]
theorem marks2_get (k0 n j : Nat) (h : j < n) : (marks2 k0 n)[j]? = some (mark2 k0 j) := by simp [marks2, h]
theorem marks2_pr (k0 n j : Nat) (h : j < n) : pr (marks2 k0 n) j = mark2 k0 j := by
  have := pr_get (l := marks2 k0 n) (i := j) (by rw [marks2_length]; exact h)
  rw [marks2_get _ _ _ h] at this
  exact (Option.some.inj this).symm
theorem markPlaceS_ok (l : List (Int × Int)) (k0 : Nat) (hl : l.length ≤ 1000000 ∧ k0 ≤ 1000) : Ev (fun n => s_laws_markPlaceS n (places l) (k0 : Int)) (((k0 + 2 * l.length : Nat) : Int), places (marks2 k0 l.length)) := by
  unfold s_laws_markPlaceS
  obtain ⟨v, hv, h1⟩ := loop_up (l := fun n k (st : List (Int × Int)) => l_laws_markPlaceS_b0 n ((k0 + 2 * k : Nat) : Int) (k : Nat) (places st)) (I := fun k st => st.length = l.length ∧ ∀ j, j < k → st[j]? = some (mark2 k0 j))
    (P := fun v => v = (((k0 + 2 * l.length : Nat) : Int), places (marks2 k0 l.length))) l.length (by
    rintro k st hk ⟨e1, e2⟩ ih
    by_cases hlt : k < l.length
    · have hk2 : k < st.length := by omega
      refine tot_t (by simp [prs_length]; omega) (tot_chk (inB_k _ _ (by rw [prs_length]; exact hk2)) (tot_ev (a := ((pr st k).1, (pr st k).2)) (ev_of fun n => by rw [Int.toNat_natCast, nth_prs _ _ _ _ hk2]; rfl) (tot_ev (a := ((pr st k).1, (pr st k).2)) (ev_of fun n => by rw [Int.toNat_natCast, nth_prs _ _ _ _ hk2]; rfl) ?_)))
      rw [Int.toNat_natCast]
      dsimp only
      rw [set_prs]
      have hq : pr (st.set k (IntKind.i8.wrap ((k0 + 2 * k : Nat) : Int), (pr st k).2)) k = (IntKind.i8.wrap ((k0 + 2 * k : Nat) : Int), (pr st k).2) := by
        unfold pr; rw [List.getD_eq_getElem?_getD, List.getElem?_set, if_pos rfl, if_pos hk2]; rfl
      have hg : ∀ n : Nat, bnd (nth (places (st.set k (IntKind.i8.wrap ((k0 + 2 * k : Nat) : Int), (pr st k).2))) k) as_Pi8_i8Q = some (IntKind.i8.wrap ((k0 + 2 * k : Nat) : Int), (pr st k).2) := by
        intro n
        rw [nth_prs _ _ _ _ (by simp; exact hk2), hq]; rfl
      refine tot_chk (inB_k _ _ (by simp [prs_length]; exact hk2)) (tot_ev (ev_of hg) (tot_ev (ev_of hg) ?_))
      dsimp only
      rw [set_prs, up64 k (by omega), up64 (k0 + 2 * k) (by omega), up64 (k0 + 2 * k + 1) (by omega), show k0 + 2 * k + 1 + 1 = k0 + 2 * (k + 1) by omega, List.set_set]
      refine ih hlt _ ⟨by simp [e1], fun j hj => ?_⟩
      rw [List.getElem?_set]
      by_cases h : k = j
      · subst h; rw [if_pos rfl, if_pos hk2]; rfl
      · rw [if_neg h]; exact e2 j (by omega)
    · obtain rfl : k = l.length := by omega
      refine tot_f (by simp [prs_length]; omega) (tot_some ?_)
      refine Prod.ext rfl ?_
      show places st = places _
      congr 1
      apply List.ext_getElem?
      intro j
      by_cases hj : j < l.length
      · rw [e2 j hj, marks2_get _ _ _ hj]
      · rw [List.getElem?_eq_none (by omega), List.getElem?_eq_none (by rw [marks2_length]; omega)]) 0 l (by omega) ⟨rfl, fun j hj => by omega⟩
  subst hv
  exact ev_bnd h1 ev_some
theorem heldPlaceS_ok (m k0 : Nat) (hm : m ≤ 1000000 ∧ k0 ≤ 1000) : Ev (fun n => s_laws_heldPlaceS n (places (marks2 k0 m)) (k0 : Int)) ((k0 + 2 * m : Nat) : Int) := by
  unfold s_laws_heldPlaceS
  refine ev_bnd (a := Sum.inl ((k0 + 2 * m : Nat) : Int)) ?_ ev_some
  have := loop_all (l := fun n k => l_laws_heldPlaceS_b0 n (places (marks2 k0 m)) ((k0 + 2 * k : Nat) : Int) (k : Nat)) (p := fun _ => true) (A := .inl ((k0 + 2 * m : Nat) : Int)) (B := .inr (-1)) m (ev_f (by simp [prs_length, marks2_length]) ev_some) (by
    intro k hk _ a ih
    have hg : ∀ n : Nat, bnd (idx (places (marks2 k0 m)) (k : Int)) as_Pi8_i8Q = some (IntKind.i8.wrap ((k0 + 2 * k : Nat) : Int), IntKind.i8.wrap ((k0 + 2 * k + 1 : Nat) : Int)) := by
      intro n
      rw [idx_prs _ _ _ _ (by rw [marks2_length]; exact hk), marks2_pr _ _ _ hk]; rfl
    refine ev_t (by simp [prs_length, marks2_length]; omega) (ev_bnd (ev_of hg) (ev_t (by simp) (ev_bnd (ev_of hg) ?_)))
    rw [up64 (k0 + 2 * k) (by omega)]
    refine ev_t (by simp) ?_
    rw [up64 k (by omega), up64 (k0 + 2 * k + 1) (by omega), show k0 + 2 * k + 1 + 1 = k0 + 2 * (k + 1) by omega]
    exact ih) (by intro k hk h; cases h) m 0 (by omega)
  have h2 : allN (fun _ => true) 0 m = true := (allN_iff _ _ _).2 fun _ _ _ => rfl
  rw [h2] at this
  exact this
end Go.Proofs.Ytdhcfdiggcgmhaa
