/- A mirrored shape: the same whole tiles, the pieces with hands exchanged; as many tiles are needed. As many tiles for a mirrored shape; no more units than tiles hold. -/
import Derived.Test.YtbejaalnnnogoaaPx4
namespace Go.Proofs.Ytbejaalnnnogoaa
open Go
set_option linter.unusedVariables false
set_option linter.unusedSimpArgs false

theorem crw_snoc (s0 s1 : Int) : ∀ (d : Nat) (t : Int), crw s0 s1 (d + 1) t = crw s0 s1 d t + tw s0 s1 (t + 8 * d)
  | 0, t => by simp [crw]
  | d + 1, t => by
    rw [crw, crw_snoc s0 s1 d (t + 8), crw, show t + 8 + 8 * (d : Int) = t + 8 * ((d + 1 : Nat) : Int) by omega]
    omega
theorem crq_snoc (s0 s1 : Int) : ∀ (d : Nat) (t : Int), crq s0 s1 (d + 1) t = crq s0 s1 d t ++ tq s0 s1 (t + 8 * d)
  | 0, t => by simp [crq]
  | d + 1, t => by
    rw [crq, crq_snoc s0 s1 d (t + 8), crq, show t + 8 + 8 * (d : Int) = t + 8 * ((d + 1 : Nat) : Int) by omega, List.append_assoc]
theorem cr_cut {s0 s1 : Int} (h : s0 < s1) : ∀ (a b : Nat) (t : Int), s1 ≤ t + 8 * a → crw s0 s1 (a + b) t = crw s0 s1 a t ∧ crq s0 s1 (a + b) t = crq s0 s1 a t
  | 0, b, t, ht => by
    obtain ⟨h1, h2⟩ := cr_end h b t (by omega)
    rw [Nat.zero_add, h1, h2]
    exact ⟨rfl, rfl⟩
  | a + 1, b, t, ht => by
    obtain ⟨h1, h2⟩ := cr_cut h a b (t + 8) (by omega)
    rw [show a + 1 + b = (a + b) + 1 by omega]
    exact ⟨by rw [crw, h1, crw], by rw [crq, h2, crq]⟩
/-- a piece with its hand exchanged -/
def sw (p : Int × Int) : Int × Int := (if p.1 = 0 then 1 else if p.1 = 1 then 0 else p.1, p.2)
theorem tw_mir (s0 s1 t : Int) : tw (200 - s1) (200 - s0) (192 - t) = tw s0 s1 t := by
  unfold tw
  split <;> split <;> omega
theorem tq_mir {s0 s1 : Int} (h : s0 < s1) (t : Int) : tq (200 - s1) (200 - s0) (192 - t) = ((tq s0 s1 t).map sw).reverse := by
  unfold tq
  by_cases c : t + 8 ≤ s0 ∨ s1 ≤ t ∨ (s0 ≤ t ∧ t + 8 ≤ s1)
  · rw [if_pos c, if_pos (by omega)]; rfl
  · rw [if_neg c, if_neg (by omega)]
    simp only [List.map_cons, List.map_nil, List.reverse_cons, List.reverse_nil, List.nil_append, sw]
    rw [show min (192 - t + 8) (200 - s0) - max (192 - t) (200 - s1) = min (t + 8) s1 - max t s0 by omega]
    congr 2
    by_cases c1 : t < s0 <;> by_cases c2 : s1 < t + 8
    · rw [if_pos (show 192 - t < 200 - s1 by omega), if_pos (show 200 - s0 < 192 - t + 8 by omega), if_pos c1, if_pos c2]; rfl
    · rw [if_neg (show ¬ 192 - t < 200 - s1 by omega), if_pos c1, if_neg c2]; rfl
    · rw [if_pos (show 192 - t < 200 - s1 by omega), if_neg (show ¬ 200 - s0 < 192 - t + 8 by omega), if_neg c1]; rfl
    · omega
theorem cr_mir {s0 s1 : Int} (h : s0 < s1) : ∀ (d : Nat) (t : Int), crw (200 - s1) (200 - s0) d (200 - t - 8 * d) = crw s0 s1 d t ∧ crq (200 - s1) (200 - s0) d (200 - t - 8 * d) = ((crq s0 s1 d t).map sw).reverse
  | 0, t => ⟨rfl, rfl⟩
  | d + 1, t => by
    obtain ⟨h1, h2⟩ := cr_mir h d (t + 8)
    have e1 : 200 - t - 8 * ((d + 1 : Nat) : Int) = 200 - (t + 8) - 8 * (d : Int) := by omega
    have e2 : 200 - (t + 8) - 8 * (d : Int) + 8 * (d : Int) = 192 - t := by omega
    rw [crw_snoc, crq_snoc, e1, h1, h2, e2, tw_mir, tq_mir h, crw, crq]
    refine ⟨by omega, ?_⟩
    rw [List.map_append, List.reverse_append]
def mir (s : List (Int × Int)) : List (Int × Int) := s.map fun p => (200 - p.2, 200 - p.1)
theorem mir_length (s : List (Int × Int)) : (mir s).length = s.length := by simp [mir]
theorem mir_mir (s : List (Int × Int)) : mir (mir s) = s := by
  unfold mir
  rw [List.map_map]
  conv => rhs; rw [← List.map_id s]
  refine List.map_congr_left fun p _ => ?_
  simp only [Function.comp, id]
  exact Prod.ext (by simp only []; omega) (by simp only []; omega)
theorem mir_pr {s : List (Int × Int)} {k : Nat} (h : k < s.length) : pr (mir s) k = (200 - (pr s k).2, 200 - (pr s k).1) := by
  have h1 := pr_get (l := mir s) (i := k) (by rw [mir_length]; exact h)
  have h2 := pr_get h
  have h3 : (mir s)[k]? = some (200 - (pr s k).2, 200 - (pr s k).1) := by rw [mir, List.getElem?_map, h2]; rfl
  rw [h3] at h1
  exact (Option.some.inj h1).symm
theorem mir_okS {m : Int} {s : List (Int × Int)} (h : okS m s) : okS m (mir s) := by
  obtain ⟨m0, m1, l1, l2, hs⟩ := h
  refine ⟨m0, m1, by rw [mir_length]; exact l1, by rw [mir_length]; exact l2, fun k hk => ?_⟩
  rw [mir_length] at hk
  have := hs k hk
  rw [mir_pr hk]
  dsimp only
  omega
theorem par_01 {m : Int} (hm : 0 ≤ m) (k : Nat) : par m k = 0 ∨ par m k = 1 := by
  have t1 : 0 ≤ par m k := Int.tmod_nonneg _ (by omega)
  have t2 : par m k < 2 := Int.tmod_lt_of_pos _ (by omega)
  omega
theorem course_mir {m : Int} {s : List (Int × Int)} (h : okS m s) {k : Nat} (hk : k < s.length) : Wf m (mir s) k = Wf m s k ∧ Qf m (mir s) k = ((Qf m s k).map sw).reverse := by
  obtain ⟨m0, m1, l1, l2, hs⟩ := h
  have b := hs k hk
  unfold Wf Qf
  rw [mir_pr hk]
  dsimp only
  rcases par_01 m0 k with e | e <;> rw [e]
  · have c1 := cr_cut (s0 := (pr s k).1) (s1 := (pr s k).2) (by omega) 27 3 (4 * 0 - 8) (by omega)
    have c2 := cr_cut (s0 := 200 - (pr s k).2) (s1 := 200 - (pr s k).1) (by omega) 27 3 (4 * 0 - 8) (by omega)
    have c3 := cr_mir (s0 := (pr s k).1) (s1 := (pr s k).2) (by omega) 27 (4 * 0 - 8)
    rw [show (30 : Nat) = 27 + 3 from rfl, c1.1, c1.2, c2.1, c2.2, ← c3.1, ← c3.2]
    exact ⟨rfl, rfl⟩
  · have c1 := cr_cut (s0 := (pr s k).1) (s1 := (pr s k).2) (by omega) 26 4 (4 * 1 - 8) (by omega)
    have c2 := cr_cut (s0 := 200 - (pr s k).2) (s1 := 200 - (pr s k).1) (by omega) 26 4 (4 * 1 - 8) (by omega)
    have c3 := cr_mir (s0 := (pr s k).1) (s1 := (pr s k).2) (by omega) 26 (4 * 1 - 8)
    rw [show (30 : Nat) = 26 + 4 from rfl, c1.1, c1.2, c2.1, c2.2, ← c3.1, ← c3.2]
    exact ⟨rfl, rfl⟩
theorem catQ_mir {Q Q' : Nat → List (Int × Int)} : ∀ {N : Nat}, (∀ k, k < N → Q' k = ((Q k).map sw).reverse) → (catQ Q' N).Perm ((catQ Q N).map sw)
  | 0, _ => by simp [catQ]
  | N + 1, h => by
    rw [catQ_succ, catQ_succ, List.map_append, h N (by omega)]
    exact (catQ_mir fun k hk => h k (by omega)).append (List.reverse_perm _)
theorem Pf_mir {m : Int} {s : List (Int × Int)} (h : okS m s) : (Pf m (mir s)).Perm ((Pf m s).map sw) := by
  unfold Pf
  rw [mir_length]
  exact catQ_mir fun k hk => (course_mir h hk).2
-- widths
def wsum (P : List (Int × Int)) : Int := (P.map (·.2)).sum
theorem wsum_app (P Q : List (Int × Int)) : wsum (P ++ Q) = wsum P + wsum Q := by simp [wsum, List.sum_append_int]
theorem tile_sum {s0 s1 t : Int} (h : s0 < s1) : 8 * tw s0 s1 t + wsum (tq s0 s1 t) = max 0 (min (t + 8) s1 - max t s0) := by
  unfold tw tq
  by_cases c : t + 8 ≤ s0 ∨ s1 ≤ t ∨ (s0 ≤ t ∧ t + 8 ≤ s1)
  · rw [if_pos c]
    simp only [wsum, List.map_nil, List.sum_nil]
    split <;> omega
  · rw [if_neg c, if_neg (by omega)]
    simp only [wsum, List.map_cons, List.map_nil, List.sum_cons, List.sum_nil]
    omega
theorem cr_sum {s0 s1 : Int} (h : s0 < s1) : ∀ (d : Nat) (t : Int), 8 * crw s0 s1 d t + wsum (crq s0 s1 d t) = max 0 (min (t + 8 * d) s1 - max t s0)
  | 0, t => by simp only [crw, crq, wsum, List.map_nil, List.sum_nil]; omega
  | d + 1, t => by
    have h1 := cr_sum h d (t + 8)
    have h2 := tile_sum (t := t) h
    rw [crw, crq, wsum_app]
    omega
theorem course_sum {m : Int} {s : List (Int × Int)} (h : okS m s) {k : Nat} (hk : k < s.length) : 8 * Wf m s k + wsum (Qf m s k) = ln s k := by
  obtain ⟨m0, m1, l1, l2, hs⟩ := h
  have b := hs k hk
  unfold Wf Qf ln
  rw [cr_sum (by omega)]
  have := par_01 m0 k
  omega
theorem catQ_sum {W g : Nat → Int} {Q : Nat → List (Int × Int)} : ∀ {N : Nat}, (∀ k, k < N → 8 * W k + wsum (Q k) = g k) → 8 * sumR W 0 N + wsum (catQ Q N) = sumR g 0 N
  | 0, _ => by simp [catQ, wsum, sumR]
  | N + 1, h => by
    have h1 := catQ_sum (N := N) fun k hk => h k (by omega)
    have h2 := h N (by omega)
    rw [catQ_succ, wsum_app, sumR_succ, sumR_succ]
    omega
theorem shape_sum {m : Int} {s : List (Int × Int)} (h : okS m s) : 8 * sumR (Wf m s) 0 s.length + wsum (Pf m s) = sumR (ln s) 0 s.length := catQ_sum fun k hk => course_sum h hk
-- the count of tiles
def lw (X : List (Int × Int)) : List Int := (X.filter fun p => decide (p.1 = 0)).map (·.2)
def rw' (X : List (Int × Int)) : List Int := (X.filter fun p => decide (p.1 = 1)).map (·.2)
theorem lfs_lw (P : List (Int × Int)) (O : List Nat) : lfs P O = lw (O.map (pr P)) := by
  unfold lfs lw
  rw [List.filter_map, List.map_map]
  rfl
theorem rts_rw (P : List (Int × Int)) (O : List Nat) : rts P (fun _ => false) O = rw' (O.map (pr P)) := by
  unfold rts rw'
  rw [List.filter_map, List.map_map]
  have : (fun x => decide (kd P x = 1) && !false) = ((fun p : Int × Int => decide (p.1 = 1)) ∘ pr P) := by
    funext x
    simp [kd]
    rfl
  rw [this]
  rfl
theorem ord_perm {P : List (Int × Int)} {O : List Nat} (h : isOrd P O) : (O.map (pr P)).Perm P := by
  have nd : O.Nodup := h.1.imp fun h e => by subst e; exact kl_irr h
  have p1 : O.Perm (List.range P.length) := (List.perm_ext_iff_of_nodup nd List.nodup_range).2 fun x => by rw [h.2 x, List.mem_range]
  have e : (List.range P.length).map (pr P) = P := by
    apply List.ext_getElem?
    intro j
    by_cases hj : j < P.length
    · rw [pr_get hj]; simp [hj]
    · rw [List.getElem?_eq_none (by simp; omega), List.getElem?_eq_none (by omega)]
  have p2 := p1.map (pr P)
  rwa [e] at p2
theorem perm_sum {l l' : List Int} (h : l.Perm l') : l.sum = l'.sum := by
  induction h with
  | nil => rfl
  | cons x _ ih => simp [ih]
  | swap x y l => simp only [List.sum_cons]; omega
  | trans _ _ h1 h2 => exact h1.trans h2
theorem lw_perm {X Y : List (Int × Int)} (h : X.Perm Y) : (lw X).Perm (lw Y) := (h.filter _).map _
theorem rw_perm {X Y : List (Int × Int)} (h : X.Perm Y) : (rw' X).Perm (rw' Y) := (h.filter _).map _
theorem lw_sw (P : List (Int × Int)) : lw (P.map sw) = rw' P := by
  unfold lw rw'
  rw [List.filter_map, List.map_map]
  have : ((fun p : Int × Int => decide (p.1 = 0)) ∘ sw) = fun p : Int × Int => decide (p.1 = 1) := by
    funext p
    simp only [Function.comp, sw]
    refine decide_eq_decide.2 ?_
    constructor
    · intro h; split at h
      · omega
      · split at h <;> omega
    · intro h; rw [if_neg (by omega), if_pos h]
  rw [this]
  rfl
theorem rw_sw (P : List (Int × Int)) : rw' (P.map sw) = lw P := by
  unfold lw rw'
  rw [List.filter_map, List.map_map]
  have : ((fun p : Int × Int => decide (p.1 = 1)) ∘ sw) = fun p : Int × Int => decide (p.1 = 0) := by
    funext p
    simp only [Function.comp, sw]
    refine decide_eq_decide.2 ?_
    constructor
    · intro h; split at h
      · omega
      · split at h <;> omega
    · intro h; rw [if_pos h]
  rw [this]
  rfl
theorem down_eq {l l' : List Int} (h : l.Pairwise (fun a b => b ≤ a)) (h' : l'.Pairwise (fun a b => b ≤ a)) (hp : l.Perm l') : l = l' :=
  List.Perm.eq_of_pairwise (fun a b _ _ h1 h2 => by omega) h h' hp
theorem lfs_down {P : List (Int × Int)} {O : List Nat} (h : isOrd P O) : (lfs P O).Pairwise (fun a b => b ≤ a) := by
  unfold lfs
  rw [List.pairwise_map]
  refine List.Pairwise.imp (fun {a b} hk => ?_) (h.1.filter _)
  unfold kl at hk; omega
theorem rts_down {P : List (Int × Int)} {O : List Nat} {T : Nat → Bool} (h : isOrd P O) : (rts P T O).Pairwise (fun a b => b ≤ a) := by
  unfold rts
  rw [List.pairwise_map]
  refine List.Pairwise.imp (fun {a b} hk => ?_) (h.1.filter _)
  unfold kl at hk; omega
theorem tiles_mir {P P' : List (Int × Int)} {O O' : List Nat} {t t' : Nat} (hp : P'.Perm (P.map sw)) (o : isOrd P O) (o' : isOrd P' O') (h : t + gr (lfs P O) (rts P (fun _ => false) O) = P.length)
    (h' : t' + gr (lfs P' O') (rts P' (fun _ => false) O') = P'.length) : t' = t := by
  have e1 : lfs P' O' = rts P (fun _ => false) O := by
    refine down_eq (lfs_down o') (rts_down o) ?_
    rw [lfs_lw, rts_rw]
    refine (lw_perm (ord_perm o')).trans ((lw_perm hp).trans ?_)
    rw [lw_sw]
    exact (rw_perm (ord_perm o)).symm
  have e2 : rts P' (fun _ => false) O' = lfs P O := by
    refine down_eq (rts_down o') (lfs_down o) ?_
    rw [lfs_lw, rts_rw]
    refine (rw_perm (ord_perm o')).trans ((rw_perm hp).trans ?_)
    rw [rw_sw]
    exact (lw_perm (ord_perm o)).symm
  rw [e1, e2, gr_comm _ _ _ (Nat.le_refl _)] at h'
  have := hp.length_eq
  rw [List.length_map] at this
  omega
theorem width_split : ∀ (X : List (Int × Int)), (∀ p, p ∈ X → p.2 ≤ 8) → wsum X + 8 * ((lw X).length : Int) + 8 * ((rw' X).length : Int) ≤ (lw X).sum + (rw' X).sum + 8 * (X.length : Int)
  | [], _ => by simp [wsum, lw, rw']
  | p :: X, h => by
    have ih := width_split X fun q hq => h q (by simp [hq])
    have hp := h p (by simp)
    unfold wsum lw rw' at ih ⊢
    rw [List.filter_cons, List.filter_cons]
    by_cases c0 : p.1 = 0
    · rw [if_pos (by simpa using c0), if_neg (by simp; omega)]
      simp only [List.map_cons, List.sum_cons, List.length_cons] at ih ⊢
      omega
    · by_cases c1 : p.1 = 1
      · rw [if_neg (by simpa using c0), if_pos (by simpa using c1)]
        simp only [List.map_cons, List.sum_cons, List.length_cons] at ih ⊢
        omega
      · rw [if_neg (by simpa using c0), if_neg (by simpa using c1)]
        simp only [List.map_cons, List.sum_cons, List.length_cons] at ih ⊢
        omega
theorem tiles_waste {P : List (Int × Int)} {O : List Nat} {t : Nat} (hP : okP P) (o : isOrd P O) (h : t + gr (lfs P O) (rts P (fun _ => false) O) = P.length) : wsum P ≤ 8 * (t : Int) := by
  have h1 := width_split P fun p hp => by have := hP p hp; omega
  have ea : (lfs P O).Perm (lw P) := by rw [lfs_lw]; exact lw_perm (ord_perm o)
  have eb : (rts P (fun _ => false) O).Perm (rw' P) := by rw [rts_rw]; exact rw_perm (ord_perm o)
  have inA : ∀ x, x ∈ lfs P O → x ≤ 8 := fun x hx => by
    have := ea.subset hx
    unfold lw at this
    obtain ⟨p, hp, rfl⟩ := List.mem_map.1 this
    have := hP p (List.mem_filter.1 hp).1
    omega
  have inB : ∀ x, x ∈ rts P (fun _ => false) O → x ≤ 8 := fun x hx => by
    have := eb.subset hx
    unfold rw' at this
    obtain ⟨p, hp, rfl⟩ := List.mem_map.1 this
    have := hP p (List.mem_filter.1 hp).1
    omega
  have h2 := gr_waste _ _ inA inB
  rw [perm_sum ea, perm_sum eb, ea.length_eq, eb.length_eq] at h2
  omega
/-- what there is to say of a shape on the roof -/
theorem shape_all {m : Int} {s : List (Int × Int)} (h : okS m s) : ∃ (t : Nat) (W : Int), 0 ≤ W ∧ W ≤ 1200 ∧ t ≤ 24 ∧ (Pf m s).length ≤ 24 ∧ okP (Pf m s) ∧ W = sumR (Wf m s) 0 s.length ∧ sumR (ln s) 0 s.length ≤ 8 * ((t : Int) + W) ∧ 1 ≤ sumR (ln s) 0 s.length ∧
    Ev (fun n => s_spec_l05Least n m (spn s)) ((t : Int) + W) ∧ Ev (fun n => s_impl_Shape_least n m (spn s)) ((t : Int) + W) ∧ Ev (fun n => s_impl_Shape_least n m (spn (mir s))) ((t : Int) + W) ∧
    Ev (fun n => s_impl_tilesFor n (pcs (Pf m s))) (t : Int) ∧ Ev (fun n => s_impl_Shape_whole n m (spn s)) W ∧ Ev (fun n => s_spec_l05All n m (spn s)) (pcs (Pf m s)) ∧ Ev (fun n => s_impl_Shape_pieces n m (spn s)) (pcs (Pf m s)) := by
  obtain ⟨t, O, o1, t0, l1, okA, b0, b1, e1, e2, e3, e4, e5, e6⟩ := least_full h
  obtain ⟨t', O', o1', t0', _, _, _, _, _, e2', _⟩ := least_full (mir_okS h)
  have et : t' = t := tiles_mir (Pf_mir h) o1 o1' t0 t0'
  have eW : sumR (Wf m (mir s)) 0 (mir s).length = sumR (Wf m s) 0 s.length := by
    rw [mir_length]
    exact sumR_congr fun j hj => (course_mir h hj).1
  rw [et, eW] at e2'
  have hw := tiles_waste okA o1 t0
  have hs := shape_sum h
  have hu : 1 ≤ sumR (ln s) 0 s.length := by
    obtain ⟨m0, m1, n1, n2, hh⟩ := h
    have key : ∀ N, N ≤ s.length → (N : Int) ≤ sumR (ln s) 0 N := by
      intro N
      induction N with
      | zero => intro _; simp [sumR]
      | succ N ih =>
        intro hN
        have := ih (by omega)
        have := hh N (by omega)
        rw [sumR_succ]
        unfold ln at *
        omega
    have := key s.length (Nat.le_refl _)
    omega
  exact ⟨t, _, b0, b1, by omega, l1, okA, rfl, by omega, hu, e1, e2, e2', e3, e4, e5, e6⟩
end Go.Proofs.Ytbejaalnnnogoaa
