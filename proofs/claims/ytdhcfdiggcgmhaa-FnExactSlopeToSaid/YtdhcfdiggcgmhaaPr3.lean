/- Where water flows in a gutter. Laws EndOf, FlowsTo, Undrained, BasinOf. -/
import Derived.Test.YtdhcfdiggcgmhaaPr2
import Derived.Test.YtdhcfdiggcgmhaaPa4
namespace Go.Proofs.Ytdhcfdiggcgmhaa
open Go
set_option linter.unusedVariables false
set_option linter.unusedSimpArgs false

theorem loop_cat {α β : Type} {l : Nat → Nat → List β → Option α} {G : Nat → List β} {R : List β → α} (N L M : Nat) (hG : ∀ k, k < N → (G k).length ≤ M) (hend : ∀ acc, Ev (fun n => l (n + 1) N acc) (R acc))
    (hstep : ∀ k acc, k < N → acc.length ≤ L + k * M → ∀ a, Ev (fun n => l n (k + 1) (acc ++ G k)) a → Ev (fun n => l (n + 1) k acc) a) (acc0 : List β) (h0 : acc0.length ≤ L) :
    Ev (fun n => l n 0 acc0) (R (acc0 ++ (List.range' 0 N).flatMap G)) := by
  have key : ∀ (d k : Nat), k + d = N → ((List.range' 0 k).flatMap G).length ≤ k * M → Ev (fun n => l n k (acc0 ++ (List.range' 0 k).flatMap G)) (R (acc0 ++ (List.range' 0 N).flatMap G)) := by
    intro d
    induction d with
    | zero => intro k hk _; obtain rfl : k = N := by omega
              exact ev_succ (hend _)
    | succ d ih =>
      intro k hk hl
      have hs : (List.range' 0 (k + 1)).flatMap G = (List.range' 0 k).flatMap G ++ G k := by rw [List.range'_concat]; simp [List.flatMap_append]
      have h1 := ih (k + 1) (by omega) (by rw [hs, List.length_append, Nat.succ_mul]; have := hG k (by omega); omega)
      rw [hs, ← List.append_assoc] at h1
      exact ev_succ (hstep k _ (by omega) (by rw [List.length_append]; omega) _ h1)
  have := key N 0 (by omega) (by simp)
  simpa using this
theorem flat_len {β : Type} {G : Nat → List β} {M : Nat} : ∀ {N : Nat} (k : Nat), (∀ j, k ≤ j → j < k + N → (G j).length ≤ M) → ((List.range' k N).flatMap G).length ≤ N * M
  | 0, k, _ => by simp
  | N + 1, k, h => by
    rw [List.range'_succ, List.flatMap_cons, List.length_append, Nat.succ_mul]
    have h1 := h k (Nat.le_refl _) (by omega)
    have h2 := flat_len (G := G) (M := M) (N := N) (k + 1) fun j h3 h4 => h j (by omega) (by omega)
    omega
structure GutV (w d b : Int) (t : Nat → Int) (l : List (Int × Int)) : Prop extends GutT w d b t l where
  ok : gutOk w d b t l = true
theorem GutV.b {w d b : Int} {t : Nat → Int} {l : List (Int × Int)} (H : GutV w d b t l) : (1 ≤ w ∧ w ≤ 17) ∧ ∀ j, j < 17 → 0 ≤ t j ∧ t j ≤ 9 := by
  have := H.ok
  simp only [gutOk, gutHead, Bool.and_eq_true, decide_eq_true_eq, allN_iff, gcell] at this
  exact ⟨this.1.1, fun j hj => (this.2.1 j (by omega) (by omega)).1⟩
def leafB (b : Int) (k : Nat) : Bool := decide ((IntKind.u32.wrap (BitVec.ofInt IntKind.u32.bits ((b).fdiv (2 ^ (min k IntKind.u32.bits))) &&& BitVec.ofInt IntKind.u32.bits (1)).toNat) = (1))
def pipeB (l : List (Int × Int)) (k : Int) : Bool := (firstN (fun j => decide ((pr l j).1 = k)) 0 l.length).isSome
def flow (w b : Int) (t : Nat → Int) (l : List (Int × Int)) (k : Nat) : Int :=
  if leafB b k = true then -1 else if pipeB l k = true then -1 else
  if 0 < k ∧ t (k - 1) < t k then (if (k : Int) + 1 < w ∧ t (k + 1) < t (k - 1) then (k : Int) + 1 else (k : Int) - 1)
  else if (k : Int) + 1 < w ∧ t (k + 1) < t k then (k : Int) + 1 else -1
theorem flow_b {w b : Int} {t : Nat → Int} {l : List (Int × Int)} {k : Nat} (hk : (k : Int) < w) : flow w b t l k = -1 ∨ (0 ≤ flow w b t l k ∧ flow w b t l k < w ∧ t (flow w b t l k).toNat < t k) := by
  unfold flow
  split
  · exact .inl rfl
  · split
    · exact .inl rfl
    · split
      · rename_i h1
        split
        · rename_i h2
          refine .inr ⟨by omega, h2.1, ?_⟩
          rw [show ((k : Int) + 1).toNat = k + 1 by omega]
          omega
        · refine .inr ⟨by omega, by omega, ?_⟩
          rw [show ((k : Int) - 1).toNat = k - 1 by omega]
          exact h1.2
      · split
        · rename_i h2
          refine .inr ⟨by omega, h2.1, ?_⟩
          rw [show ((k : Int) + 1).toNat = k + 1 by omega]
          exact h2.2
        · exact .inl rfl
theorem l06Leaf_eq (n : Nat) {w d b : Int} {t : Nat → Int} {l : List V} (k : Nat) (hk : k < 100) : s_spec_l06Leaf n w d t b l k = some (leafB b k) := by
  unfold s_spec_l06Leaf leafB
  rw [wu64 (k : Int) (by omega), show decide (0 ≤ (k : Int)) = true by simp, chk_t, Int.toNat_natCast]
theorem hasLeaves_eq (n : Nat) {w d b : Int} {t : Nat → Int} {l : List V} (k : Nat) : s_impl_Gutter_hasLeaves n w d t b l k = some (leafB b k) := by
  unfold s_impl_Gutter_hasLeaves leafB
  rw [show decide (0 ≤ (k : Int)) = true by simp, chk_t, Int.toNat_natCast]
theorem l06Pipe_ok {w d b : Int} {t : Nat → Int} {l : List (Int × Int)} (H : GutT w d b t l) (k : Int) : Ev (fun n => s_spec_l06Pipe n w d t b (pipes l) k) (pipeB l k) := by
  unfold s_spec_l06Pipe pipeB
  have hn := H.ln
  have key := loop_first (l := fun n j => l_spec_l06Pipe_b0 n w d t b (pipes l) k (j : Nat)) (p := fun j => decide ((pr l j).1 = k)) (A := .inl ()) (B := fun _ => .inr true) l.length (ev_f (by simp [prs_length]) ev_some) (by
    intro j hj hp v ih
    have hb := H.bl j hj
    refine ev_t (by simp [prs_length]; omega) (ev_bnd (a := ((pr l j).1, (pr l j).2)) (ev_of fun n => by rw [idx_prs _ _ _ _ hj]; rfl) ?_)
    dsimp only
    rw [w64 _ (by omega), up64 j (by omega)]
    exact ev_f hp ih) (by
    intro j hj hp
    have hb := H.bl j hj
    refine ev_t (by simp [prs_length]; omega) (ev_bnd (a := ((pr l j).1, (pr l j).2)) (ev_of fun n => by rw [idx_prs _ _ _ _ hj]; rfl) ?_)
    dsimp only
    rw [w64 _ (by omega)]
    exact ev_t hp ev_some) l.length 0 (by omega)
  refine ev_bnd key ?_
  cases firstN (fun j => decide ((pr l j).1 = k)) 0 l.length <;> exact ev_some
theorem hasPipe_ok {w d b : Int} {t : Nat → Int} {l : List (Int × Int)} (H : GutT w d b t l) (k : Int) : Ev (fun n => s_impl_Gutter_hasPipe n w d t b (pipes l) k) (pipeB l k) := by
  unfold s_impl_Gutter_hasPipe s_slices_ContainsFunc_Simpl_Pipe_impl_Pipe__Gutter_hasPipe_1 s_slices_IndexFunc_Simpl_Pipe_impl_Pipe__Gutter_hasPipe_1 pipeB
  have hn := H.ln
  rw [show ((pipes l).length : Int) = (l.length : Int) by simp [prs_length]]
  have key := loop_first (l := fun n j => l_slices_IndexFunc_Simpl_Pipe_impl_Pipe__Gutter_hasPipe_1_b0 n (pipes l) k (l.length : Int) (j : Nat)) (p := fun j => decide ((pr l j).1 = k)) (A := .inl ()) (B := fun j => .inr (j : Int)) l.length (ev_f (by simp) ev_some) (by
    intro j hj hp v ih
    have hb := H.bl j hj
    refine ev_t (by simp; omega) (ev_bnd (a := ((pr l j).1, (pr l j).2)) (ev_of fun n => by rw [idx_prs _ _ _ _ hj]; rfl) (ev_bnd (a := decide ((pr l j).1 = k)) (ev_of fun n => by unfold s_impl_Gutter_hasPipe_1; rw [w64 _ (by omega)]) ?_))
    rw [up64 j (by omega)]
    exact ev_f hp ih) (by
    intro j hj hp
    have hb := H.bl j hj
    exact ev_t (by simp; omega) (ev_bnd (a := ((pr l j).1, (pr l j).2)) (ev_of fun n => by rw [idx_prs _ _ _ _ hj]; rfl) (ev_bnd (a := decide ((pr l j).1 = k)) (ev_of fun n => by unfold s_impl_Gutter_hasPipe_1; rw [w64 _ (by omega)]) (ev_t hp ev_some)))) l.length 0 (by omega)
  refine ev_bnd (ev_bnd (ev_bnd key (b := match firstN (fun j => decide ((pr l j).1 = k)) 0 l.length with | some j => (j : Int) | none => -1) ?_) ev_some) ?_
  · cases firstN (fun j => decide ((pr l j).1 = k)) 0 l.length <;> exact ev_some
  · refine ev_cast ev_some ?_
    cases firstN (fun j => decide ((pr l j).1 = k)) 0 l.length <;> simp
theorem at1 (t : Nat → Int) (k : Nat) : t (0 + (k : Int).toNat * 1) = t k := by congr 1; simp
theorem l06To_ok {w d b : Int} {t : Nat → Int} {l : List (Int × Int)} (H : GutV w d b t l) (k : Nat) (hk : (k : Int) < w) : Ev (fun n => s_spec_l06To n w d t b (pipes l) k) (flow w b t l k) := by
  have hb := H.b
  unfold s_spec_l06To flow
  refine ev_bnd (ev_of fun n => l06Leaf_eq n k (by omega)) (ev_cnd (fun h1 => by rw [if_pos h1]; exact ev_some) (fun h1 => ?_))
  rw [if_neg (by rw [h1]; simp)]
  refine ev_bnd (l06Pipe_ok H.toGutT k) (ev_cnd (fun h2 => by rw [if_pos h2]; exact ev_some) (fun h2 => ?_))
  rw [if_neg (by rw [h2]; simp)]
  refine ev_chk (inB_k _ _ (by omega)) ?_
  rw [at1 t k, up64 k (by omega), at1 t (k + 1), w64 w (by omega)]
  by_cases h0 : 0 < k
  · rw [show IntKind.i64.wrap ((k : Int) - 1) = ((k - 1 : Nat) : Int) by rw [w64 _ (by omega)]; omega, at1 t (k - 1)]
    refine ev_t (by simp; omega) (ev_chk (inB_k _ _ (by omega)) ?_)
    by_cases h3 : t (k - 1) < t k
    · rw [if_pos ⟨h0, h3⟩]
      refine ev_t (by simpa using h3) ?_
      by_cases h4 : (k : Int) + 1 < w
      · refine ev_t (by simp; omega) (ev_chk (inB_k _ _ (by omega)) ?_)
        by_cases h5 : t (k + 1) < t (k - 1)
        · rw [if_pos ⟨h4, h5⟩]; exact ev_t (by simpa using h5) (ev_cast ev_some (by omega))
        · rw [if_neg (by omega)]; exact ev_f (by simpa using h5) (ev_cast ev_some (by omega))
      · rw [if_neg (by omega)]
        exact ev_f (by simp; omega) (ev_cast ev_some (by omega))
    · rw [if_neg (by omega)]
      refine ev_f (by simpa using h3) ?_
      by_cases h4 : (k : Int) + 1 < w
      · refine ev_t (by simp; omega) (ev_chk (inB_k _ _ (by omega)) ?_)
        by_cases h5 : t (k + 1) < t k
        · rw [if_pos ⟨h4, h5⟩]; exact ev_t (by simpa using h5) (ev_cast ev_some (by omega))
        · rw [if_neg (by omega)]; exact ev_f (by simpa using h5) ev_some
      · rw [if_neg (by omega)]
        exact ev_f (by simp; omega) ev_some
  · rw [if_neg (by omega)]
    refine ev_f (by simp; omega) ?_
    by_cases h4 : (k : Int) + 1 < w
    · refine ev_t (by simp; omega) (ev_chk (inB_k _ _ (by omega)) ?_)
      by_cases h5 : t (k + 1) < t k
      · rw [if_pos ⟨h4, h5⟩]; exact ev_t (by simpa using h5) (ev_cast ev_some (by omega))
      · rw [if_neg (by omega)]; exact ev_f (by simpa using h5) ev_some
    · rw [if_neg (by omega)]
      exact ev_f (by simp; omega) ev_some
/-- the program's two sides, one after another -/
theorem side_ok {w d b : Int} {t : Nat → Int} {l : List (Int × Int)} (H : GutV w d b t l) (k : Nat) (hk : (k : Int) < w) (xs : List V) (N j : Nat) (hj : j < N) (hN : N ≤ 10) (c best : Int) (hc : -1 ≤ c ∧ c ≤ 17) (hbest : best = -1 ∨ (0 ≤ best ∧ best < 17)) (hx : nth xs j = some (V.int .i64 c)) (hl : j < xs.length) {v : Int}
    (ih : Ev (fun n => l_impl_Gutter_flowsTo_b0 n k (if 0 ≤ c ∧ c < w ∧ t c.toNat < t k ∧ (best = -1 ∨ t c.toNat < t best.toNat) then c else best) (N : Int) ((j + 1 : Nat) : Int) w d t b (pipes l) xs) v) :
    Ev (fun n => l_impl_Gutter_flowsTo_b0 n k best (N : Int) (j : Int) w d t b (pipes l) xs) v := by
  have hb := H.b
  refine ev_succ (ev_t (by simp; omega) (ev_chk (inB_k _ _ hl) (ev_bnd (a := c) (ev_of fun n => by rw [Int.toNat_natCast, hx]; rfl) (ev_bnd (ev_of fun n => within_int n _ _ _) ?_))))
  rw [w64 w (by omega), w64 (w - 1) (by omega), up64 j (by omega)]
  refine ev_cnd (fun h1 => ?_) (fun h1 => ?_)
  · simp only [Bool.and_eq_true, decide_eq_true_eq] at h1
    refine ev_chk (inB_i _ _ (by omega)) (ev_chk (inB_k _ _ (by omega)) ?_)
    rw [show t (0 + c.toNat * 1) = t c.toNat by congr 1; omega, at1 t k]
    refine ev_cnd (fun h2 => ?_) (fun h2 => ?_)
    · simp only [decide_eq_true_eq] at h2
      refine ev_cnd (fun h3 => ?_) (fun h3 => ?_)
      · simp only [decide_eq_true_eq] at h3
        rw [if_pos ⟨by omega, by omega, h2, .inl h3⟩] at ih
        exact ih
      · simp only [decide_eq_false_iff_not] at h3
        refine ev_chk (inB_i _ _ (by omega)) ?_
        rw [show t (0 + best.toNat * 1) = t best.toNat by congr 1; omega]
        refine ev_cnd (fun h4 => ?_) (fun h4 => ?_)
        · simp only [decide_eq_true_eq] at h4
          rw [if_pos ⟨by omega, by omega, h2, .inr h4⟩] at ih
          exact ih
        · simp only [decide_eq_false_iff_not] at h4
          rw [if_neg (by rintro ⟨_, _, _, h5 | h5⟩ <;> omega)] at ih
          exact ih
    · simp only [decide_eq_false_iff_not] at h2
      rw [if_neg (by rintro ⟨_, _, h5, _⟩; omega)] at ih
      exact ih
  · simp only [Bool.and_eq_false_iff, decide_eq_false_iff_not] at h1
    rw [if_neg (by rintro ⟨h5, h6, _⟩; omega)] at ih
    exact ih
theorem flowsTo_ok {w d b : Int} {t : Nat → Int} {l : List (Int × Int)} (H : GutV w d b t l) (k : Nat) (hk : (k : Int) < w) : Ev (fun n => s_impl_Gutter_flowsTo n w d t b (pipes l) k) (flow w b t l k) := by
  have hb := H.b
  unfold s_impl_Gutter_flowsTo flow
  refine ev_bnd (ev_of fun n => hasLeaves_eq n k) (ev_cnd (fun h1 => by rw [if_pos h1]; exact ev_some) (fun h1 => ?_))
  rw [if_neg (by rw [h1]; simp)]
  refine ev_bnd (hasPipe_ok H.toGutT k) (ev_cnd (fun h2 => by rw [if_pos h2]; exact ev_some) (fun h2 => ?_))
  rw [if_neg (by rw [h2]; simp), w64 ((k : Int) - 1) (by omega), w64 ((k : Int) + 1) (by omega)]
  refine ev_bnd ?_ ev_some
  refine side_ok H k hk _ 2 0 (by omega) (by omega) ((k : Int) - 1) (-1) (by omega) (.inl rfl) rfl (by simp) ?_
  refine side_ok H k hk _ 2 1 (by omega) (by omega) ((k : Int) + 1) _ (by omega) (by split <;> omega) rfl (by simp) ?_
  refine ev_succ (ev_f (by simp) (ev_cast ev_some ?_))
  rw [show ((k : Int) + 1).toNat = k + 1 by omega, show ((k : Int) - 1).toNat = k - 1 by omega]
  by_cases h0 : 0 < k
  · by_cases h3 : t (k - 1) < t k
    · rw [if_pos (show 0 < k ∧ t (k - 1) < t k from ⟨h0, h3⟩), if_pos (show 0 ≤ (k : Int) - 1 ∧ (k : Int) - 1 < w ∧ t (k - 1) < t k ∧ ((-1 : Int) = -1 ∨ t (k - 1) < t (-1 : Int).toNat) from ⟨by omega, by omega, h3, .inl rfl⟩), show ((k : Int) - 1).toNat = k - 1 by omega]
      by_cases h4 : (k : Int) + 1 < w ∧ t (k + 1) < t (k - 1)
      · rw [if_pos h4, if_pos ⟨by omega, h4.1, by omega, .inr h4.2⟩]
      · rw [if_neg h4, if_neg (by rintro ⟨_, h5, _, h6 | h6⟩ <;> omega)]
    · rw [if_neg (show ¬ (0 < k ∧ t (k - 1) < t k) by omega), if_neg (show ¬ (0 ≤ (k : Int) - 1 ∧ (k : Int) - 1 < w ∧ t (k - 1) < t k ∧ ((-1 : Int) = -1 ∨ t (k - 1) < t (-1 : Int).toNat)) by rintro ⟨_, _, h5, _⟩; omega)]
      by_cases h4 : (k : Int) + 1 < w ∧ t (k + 1) < t k
      · rw [if_pos h4, if_pos ⟨by omega, h4.1, h4.2, .inl rfl⟩]
      · rw [if_neg h4, if_neg (by rintro ⟨_, h5, h6, _⟩; omega)]
  · rw [if_neg (show ¬ (0 < k ∧ t (k - 1) < t k) by omega), if_neg (show ¬ (0 ≤ (k : Int) - 1 ∧ (k : Int) - 1 < w ∧ t (k - 1) < t k ∧ ((-1 : Int) = -1 ∨ t (k - 1) < t (-1 : Int).toNat)) by rintro ⟨h5, _⟩; omega)]
    by_cases h4 : (k : Int) + 1 < w ∧ t (k + 1) < t k
    · rw [if_pos h4, if_pos ⟨by omega, h4.1, h4.2, .inl rfl⟩]
    · rw [if_neg h4, if_neg (by rintro ⟨_, h5, h6, _⟩; omega)]
def endF (w b : Int) (t : Nat → Int) (l : List (Int × Int)) : Nat → Nat → Nat
  | 0, k => k
  | f + 1, k => if flow w b t l k = -1 then k else endF w b t l f (flow w b t l k).toNat
def endG (w b : Int) (t : Nat → Int) (l : List (Int × Int)) (k : Nat) : Nat := endF w b t l 10 k
theorem endF_b {w b : Int} {t : Nat → Int} {l : List (Int × Int)} : ∀ (f k : Nat), (k : Int) < w → (endF w b t l f k : Int) < w
  | 0, k, h => h
  | f + 1, k, h => by
    unfold endF
    split
    · exact h
    · rcases flow_b (b := b) (t := t) (l := l) h with h1 | h1
      · contradiction
      · exact endF_b f _ (by omega)
theorem spec_end_b0 {w d b : Int} {t : Nat → Int} {l : List (Int × Int)} (H : GutV w d b t l) : ∀ (f k : Nat), (k : Int) < w → t k < f → Ev (fun n => l_spec_l06End_b0 n w d t b (pipes l) k (flow w b t l k)) (endF w b t l f k : Int)
  | 0, k, hk, hf => by have := H.b.2 k (by have := H.b; omega); omega
  | f + 1, k, hk, hf => by
    refine ev_succ ?_
    unfold endF
    rcases flow_b (b := b) (t := t) (l := l) hk with h1 | h1
    · rw [if_pos h1, h1]; exact ev_f (by simp) ev_some
    · rw [if_neg (by omega)]
      have ih := spec_end_b0 H f (flow w b t l k).toNat (by omega) (by omega)
      have ht := l06To_ok H (flow w b t l k).toNat (by omega)
      rw [show (((flow w b t l k).toNat : Nat) : Int) = flow w b t l k by omega] at ih ht
      exact ev_t (by simpa using h1.1) (ev_bnd ht ih)
theorem l06End_ok {w d b : Int} {t : Nat → Int} {l : List (Int × Int)} (H : GutV w d b t l) (k : Nat) (hk : (k : Int) < w) : Ev (fun n => s_spec_l06End n w d t b (pipes l) k) (endG w b t l k : Int) := by
  have hb := H.b
  have := hb.2 k (by omega)
  unfold s_spec_l06End
  exact ev_bnd (l06To_ok H k hk) (ev_bnd (spec_end_b0 H 10 k hk (by omega)) ev_some)
theorem impl_end_b0 {w d b : Int} {t : Nat → Int} {l : List (Int × Int)} (H : GutV w d b t l) : ∀ (f k : Nat), (k : Int) < w → t k < f → Ev (fun n => l_impl_Gutter_end_b0 n k (flow w b t l k) w d t b (pipes l)) (endF w b t l f k : Int)
  | 0, k, hk, hf => by have := H.b.2 k (by have := H.b; omega); omega
  | f + 1, k, hk, hf => by
    refine ev_succ ?_
    unfold endF
    rcases flow_b (b := b) (t := t) (l := l) hk with h1 | h1
    · rw [if_pos h1, h1]; exact ev_t (by simp) ev_some
    · rw [if_neg (by omega)]
      have ih := impl_end_b0 H f (flow w b t l k).toNat (by omega) (by omega)
      have ht := flowsTo_ok H (flow w b t l k).toNat (by omega)
      rw [show (((flow w b t l k).toNat : Nat) : Int) = flow w b t l k by omega] at ih ht
      exact ev_f (by simp; omega) (ev_bnd ht ih)
theorem end_ok {w d b : Int} {t : Nat → Int} {l : List (Int × Int)} (H : GutV w d b t l) (k : Nat) (hk : (k : Int) < w) : Ev (fun n => s_impl_Gutter_end n w d t b (pipes l) k) (endG w b t l k : Int) := by
  have hb := H.b
  have := hb.2 k (by omega)
  unfold s_impl_Gutter_end
  exact ev_bnd (flowsTo_ok H k hk) (ev_bnd (impl_end_b0 H 10 k hk (by omega)) ev_some)
def gutC (w d b : Int) (t : Nat → Int) (l : List (Int × Int)) (c : Bool) : Int := sel (gutOk w d b t l) (sel c 0 2) 1
theorem gutC_zero {w d b : Int} {t : Nat → Int} {l : List (Int × Int)} {c : Bool} (h : gutC w d b t l c = 0) : gutOk w d b t l = true ∧ c = true := by
  unfold gutC at h
  cases h1 : gutOk w d b t l <;> cases h2 : c <;> simp_all [sel]
theorem l06Asked_ok {w d b : Int} {t : Nat → Int} {l : List (Int × Int)} (H : GutT w d b t l) (c : Bool) : Ev (fun n => s_spec_l06Asked n w d t b (pipes l) c) (gutC w d b t l c) := by
  unfold s_spec_l06Asked gutC
  refine ev_bnd (l06Ok_ok H) ?_
  cases gutOk w d b t l <;> cases c <;> exact ev_some
theorem gutterCode_ok {w d b : Int} {t : Nat → Int} {l : List (Int × Int)} (H : GutT w d b t l) (c : Bool) : Ev (fun n => s_impl_gutterCode n w d t b (pipes l) c) (gutC w d b t l c) := by
  unfold s_impl_gutterCode gutC
  refine ev_bnd (ValidGutter_ok H) ?_
  cases gutOk w d b t l <;> cases c <;> exact ev_some
def inG (w c : Int) : Bool := decide (0 ≤ c) && decide (c ≤ w - 1)
theorem l06Cell_eq (n : Nat) {w d b : Int} {t : Nat → Int} {l : List (Int × Int)} (H : GutT w d b t l) (c : Int) : s_spec_l06Cell n w d t b (pipes l) c = some (inG w c) := by
  have := H.bw
  unfold s_spec_l06Cell inG
  rw [w64 w (by omega), w64 (w - 1) (by omega), l00In_eq]
  rfl
theorem isIn_eq (n : Nat) {w d b : Int} {t : Nat → Int} {l : List (Int × Int)} (H : GutT w d b t l) (c : Int) : s_impl_Gutter_isIn n w d t b (pipes l) c = some (inG w c) := by
  have := H.bw
  unfold s_impl_Gutter_isIn inG
  rw [w64 w (by omega), w64 (w - 1) (by omega), within_i64]
  rfl
theorem law_FnExactEndOf {w d b c : Int} {t : Nat → Int} {xs : List V} (hw : (Lit.int .i8 w).wf = true) (hd : (Lit.int .i16 d).wf = true) (ht : ∀ j, j < 17 → (Lit.int .i8 (t j)).wf = true) (hb : (Lit.int .u32 b).wf = true) (hx : PipeW xs)
    (hc : (Lit.int .i64 c).wf = true) : Ev (fun n => s_laws_FnExactEndOf n w d t b xs c) true := by
  obtain ⟨l, rfl, hl⟩ := prs_of hx.2
  have n1 : l.length ≤ 9223372036854775807 := by have := hx.1; rw [prs_length] at this; simpa [maxLen] using this
  unfold s_laws_FnExactEndOf
  refine ev_bnd (szGutter_ok w d b t l 1048576 (by omega) n1) ?_
  by_cases h1 : (1048576 : Int) < l.length
  · rw [if_pos h1]; exact ev_t (by simp) ev_some
  · rw [if_neg h1]
    obtain ⟨t', e1, e2⟩ := toGutter_ok w d b t l (by omega)
    have H : GutT w d b t' l := .mk' hw hd ht e1 hl (by omega)
    have k : ∃ (x y : Int), Ev (fun n => s_spec_EndOf n w d t' b (pipes l) c) (x, y) ∧ Ev (fun n => s_impl_EndOf n w d t' b (pipes l) c) (x, y) := by
      unfold s_spec_EndOf s_impl_EndOf
      by_cases hz : gutC w d b t' l (inG w c) = 0
      · obtain ⟨g1, g2⟩ := gutC_zero hz
        have hV : GutV w d b t' l := ⟨H, g1⟩
        simp only [inG, Bool.and_eq_true, decide_eq_true_eq] at g2
        obtain ⟨k, rfl⟩ := Int.eq_ofNat_of_zero_le g2.1
        exact ⟨endG w b t' l k, 0, ev_bnd (ev_of fun n => l06Cell_eq n H _) (ev_bnd (l06Asked_ok H _) (ev_t (by simpa using hz) (ev_bnd (l06End_ok hV k (by omega)) ev_some))), ev_bnd (ev_of fun n => isIn_eq n H _) (ev_bnd (gutterCode_ok H _) (ev_t (by simpa using hz) (ev_bnd (end_ok hV k (by omega)) ev_some)))⟩
      · exact ⟨0, gutC w d b t' l (inG w c), ev_bnd (ev_of fun n => l06Cell_eq n H _) (ev_bnd (l06Asked_ok H _) (ev_f (by simpa using hz) ev_some)), ev_bnd (ev_of fun n => isIn_eq n H _) (ev_bnd (gutterCode_ok H _) (ev_f (by simpa using hz) ev_some))⟩
    obtain ⟨x, y, k1, k2⟩ := k
    refine ev_f (by simp; omega) (ev_bnd e2 (ev_bnd k1 (ev_bnd e2 (ev_bnd k2 (ev_t (by simp) (ev_t (by simp) ?_))))))
    exact ev_bnd e2 (ev_bnd (eqGutter_ok _ _ _ _ _ (by omega)) (ev_t rfl ev_some))
-- marks in the pipes
def markP (k0 j : Nat) : Int × Int := (IntKind.i8.wrap ((k0 + 2 * j : Nat) : Int), IntKind.i16.wrap ((k0 + 2 * j + 1 : Nat) : Int))
theorem markPipeS_ok (l : List (Int × Int)) (k0 : Nat) (hl : l.length ≤ 1048576 ∧ k0 ≤ 1000) : ∃ l', l'.length = l.length ∧ Ev (fun n => s_laws_markPipeS n (pipes l) (k0 : Int)) (((k0 + 2 * l.length : Nat) : Int), pipes l') := by
  unfold s_laws_markPipeS
  obtain ⟨v, ⟨l', hv1, hv⟩, h1⟩ := loop_up (l := fun n k (st : List (Int × Int)) => l_laws_markPipeS_b0 n ((k0 + 2 * k : Nat) : Int) (k : Nat) (pipes st)) (I := fun k st => st.length = l.length)
    (P := fun v => ∃ l', l'.length = l.length ∧ v = (((k0 + 2 * l.length : Nat) : Int), pipes l')) l.length (by
    rintro k st hk e1 ih
    by_cases hlt : k < l.length
    · have hk2 : k < st.length := by omega
      refine tot_t (by simp [prs_length]; omega) (tot_chk (inB_k _ _ (by rw [prs_length]; exact hk2)) (tot_ev (a := ((pr st k).1, (pr st k).2)) (ev_of fun n => by rw [Int.toNat_natCast, nth_prs _ _ _ _ hk2]; rfl) (tot_ev (a := ((pr st k).1, (pr st k).2)) (ev_of fun n => by rw [Int.toNat_natCast, nth_prs _ _ _ _ hk2]; rfl) ?_)))
      rw [Int.toNat_natCast]
      dsimp only
      rw [set_prs]
      have hq : pr (st.set k (IntKind.i8.wrap ((k0 + 2 * k : Nat) : Int), (pr st k).2)) k = (IntKind.i8.wrap ((k0 + 2 * k : Nat) : Int), (pr st k).2) := by
        unfold pr; rw [List.getD_eq_getElem?_getD, List.getElem?_set, if_pos rfl, if_pos hk2]; rfl
      have hg : ∀ n : Nat, bnd (nth (pipes (st.set k (IntKind.i8.wrap ((k0 + 2 * k : Nat) : Int), (pr st k).2))) k) as_Pi8_i16Q = some (IntKind.i8.wrap ((k0 + 2 * k : Nat) : Int), (pr st k).2) := by
        intro n
        rw [nth_prs _ _ _ _ (by simp; exact hk2), hq]; rfl
      refine tot_chk (inB_k _ _ (by simp [prs_length]; exact hk2)) (tot_ev (ev_of hg) (tot_ev (ev_of hg) ?_))
      dsimp only
      rw [set_prs, up64 k (by omega), up64 (k0 + 2 * k) (by omega), up64 (k0 + 2 * k + 1) (by omega), show k0 + 2 * k + 1 + 1 = k0 + 2 * (k + 1) by omega, List.set_set]
      exact ih hlt _ (by simp [e1])
    · obtain rfl : k = l.length := by omega
      exact tot_f (by simp [prs_length]; omega) (tot_some ⟨st, e1, rfl⟩)) 0 l (by omega) rfl
  subst hv
  exact ⟨l', hv1, ev_bnd h1 ev_some⟩
theorem markGutter_ok (w d b : Int) (t : Nat → Int) (l : List (Int × Int)) (hl : l.length ≤ 1048576) : ∃ l' m, l'.length = l.length ∧ 0 ≤ m ∧ Ev (fun n => s_laws_markGutter n w d t b (pipes l) 1) (m, pipes l') := by
  obtain ⟨l', h1, h2⟩ := markPipeS_ok l 1 (by omega)
  exact ⟨l', _, h1, by omega, ev_bnd h2 (ev_chk (like_prs _ _ _ _ h1.symm) ev_some)⟩
theorem plain_two (e : Nat) (k k1 : IntKind) (l : List Int) (c : Int) : plainV (V.tup [V.fresh e (ints k l), V.int k1 c]) = true := by
  have h := plain_ints k l
  simp only [plainV, allB, plainQ, plainP, plainO]
  rw [h]
theorem nth_upTo (N k : Nat) (h : k < N) : nth (ints .i64 ((List.range' 0 N).map fun (i : Nat) => (i : Int))) k = some (V.int .i64 k) := by
  rw [nth_ints _ _ _ (by simpa using h)]; simp
theorem gcells_ok {w d b : Int} {t : Nat → Int} {l : List (Int × Int)} (H : GutV w d b t l) : Ev (fun n => s_impl_Gutter_cells n w d t b (pipes l)) (ints .i64 ((List.range' 0 w.toNat).map fun (i : Nat) => (i : Int))) := by
  have hb := H.b
  unfold s_impl_Gutter_cells
  rw [w64 w (by omega), show w = ((w.toNat : Nat) : Int) by omega]
  exact ev_bnd (upTo_ok w.toNat (by omega)) ev_some
def flowsL (w b : Int) (t : Nat → Int) (l : List (Int × Int)) : List Int := (List.range' 0 w.toNat).map (flow w b t l)
theorem FlowsTo_two {w d b : Int} {t : Nat → Int} {l : List (Int × Int)} (H : GutT w d b t l) : ∃ (q : List Int) (y : Int), q.length ≤ 1000 ∧ Ev (fun n => s_spec_FlowsTo n w d t b (pipes l)) (ints .i64 q, y) ∧ Ev (fun n => s_impl_FlowsTo n w d t b (pipes l)) (ints .i64 q, y) := by
  unfold s_spec_FlowsTo s_impl_FlowsTo
  have k1 := l06Ok_ok H
  have k2 := ValidGutter_ok H
  cases hg : gutOk w d b t l with
  | false =>
    rw [hg] at k1 k2
    exact ⟨[], 1, by simp, ev_bnd k1 (ev_f rfl ev_some), ev_bnd k2 (ev_f rfl ev_some)⟩
  | true =>
    rw [hg] at k1 k2
    have hV : GutV w d b t l := ⟨H, hg⟩
    have hb := hV.b
    refine ⟨flowsL w b t l, 0, by simp [flowsL]; omega, ev_bnd k1 (ev_t rfl (ev_bnd (a := ints .i64 (flowsL w b t l)) ?_ ev_some)), ev_bnd k2 (ev_t rfl (ev_bnd (gcells_ok hV) (ev_bnd (a := ints .i64 (flowsL w b t l)) ?_ (ev_chk (plain_fresh _ _ _) ev_some))))⟩
    · unfold flowsL
      rw [ints_map]
      refine loop_map (l := fun n k g => l_spec_FlowsTo_b0 n (k : Nat) w d t b (pipes l) g) (R := fun g => g) w.toNat (fun acc => ?_) (fun k acc hk hl a ih => ?_)
      · simp only [l_spec_FlowsTo_b0]
        rw [w64 w (by omega)]
        exact ev_f (by simp; omega) ev_some
      · simp only [l_spec_FlowsTo_b0]
        rw [w64 w (by omega), up64 k (by omega)]
        exact ev_t (by simp; omega) (ev_bnd (l06To_ok hV k (by omega)) (ev_chk (by simp; omega) ih))
    · unfold s_impl_each_int_int64__FlowsTo_1
      refine ev_bnd (a := ints .i64 (flowsL w b t l)) ?_ ev_some
      have hl : (ints .i64 ((List.range' 0 w.toNat).map fun (i : Nat) => (i : Int))).length = w.toNat := by simp [ints_length]
      rw [hl]
      unfold flowsL
      rw [ints_map .i64 (flow w b t l)]
      refine loop_map (l := fun n k g => l_impl_each_int_int64__FlowsTo_1_b0 n w d t b (pipes l) (ints .i64 ((List.range' 0 w.toNat).map fun (i : Nat) => (i : Int))) (w.toNat : Nat) (k : Nat) g) (R := fun g => g) w.toNat (fun acc => ev_f (by simp) ev_some) (fun k acc hk hl a ih => ?_)
      refine ev_t (by simp; omega) (ev_bnd (a := (k : Int)) (ev_of fun n => by rw [idx_upTo _ _ hk]; rfl) (ev_bnd (a := flow w b t l k) (by
        unfold s_impl_FlowsTo_1
        exact ev_bnd (flowsTo_ok hV k (by omega)) ev_some) (ev_chk (by simp; omega) ?_)))
      rw [up64 k (by omega)]
      exact ih
def keepI (p : Nat → Bool) (k : Nat) : List Int := if p k = true then [(k : Int)] else []
theorem keepI_len (p : Nat → Bool) (k : Nat) : (keepI p k).length ≤ 1 := by unfold keepI; split <;> simp
def keptI (p : Nat → Bool) (N : Nat) : List Int := (List.range' 0 N).flatMap (keepI p)
theorem keptI_len (p : Nat → Bool) (N : Nat) : (keptI p N).length ≤ N := by
  have : (keptI p N).length ≤ N * 1 := flat_len 0 fun _ _ _ => keepI_len ..
  omega
theorem ints_app (l m : List Int) : ints .i64 (l ++ m) = ints .i64 l ++ ints .i64 m := List.map_append ..
theorem Undrained_two {w d b : Int} {t : Nat → Int} {l : List (Int × Int)} (H : GutT w d b t l) : ∃ (q : List Int) (y : Int), q.length ≤ 1000 ∧ Ev (fun n => s_spec_Undrained n w d t b (pipes l)) (ints .i64 q, y) ∧ Ev (fun n => s_impl_Undrained n w d t b (pipes l)) (ints .i64 q, y) := by
  unfold s_spec_Undrained s_impl_Undrained
  have k1 := l06Ok_ok H
  have k2 := ValidGutter_ok H
  cases hg : gutOk w d b t l with
  | false =>
    rw [hg] at k1 k2
    exact ⟨[], 1, by simp, ev_bnd k1 (ev_f rfl ev_some), ev_bnd k2 (ev_f rfl ev_some)⟩
  | true =>
    rw [hg] at k1 k2
    have hV : GutV w d b t l := ⟨H, hg⟩
    have hb := hV.b
    have hk := keptI_len (fun k => !pipeB l (endG w b t l k)) w.toNat
    refine ⟨keptI (fun k => !pipeB l (endG w b t l k)) w.toNat, 0, by omega, ev_bnd k1 (ev_t rfl (ev_bnd (a := ints .i64 (keptI (fun k => !pipeB l (endG w b t l k)) w.toNat)) ?_ ev_some)), ev_bnd k2 (ev_t rfl (ev_bnd (a := ints .i64 (keptI (fun k => !pipeB l (endG w b t l k)) w.toNat)) ?_ (ev_chk (plain_fresh _ _ _) ev_some)))⟩
    · have := loop_cat (l := fun n k g => l_spec_Undrained_b0 n (k : Nat) w d t b (pipes l) (ints .i64 g)) (G := keepI fun k => !pipeB l (endG w b t l k)) (R := fun g => ints .i64 g) w.toNat 0 1 (fun _ _ => keepI_len ..) (fun acc => by
        simp only [l_spec_Undrained_b0]
        rw [w64 w (by omega)]
        exact ev_f (by simp; omega) ev_some) (fun k acc hk hl a ih => by
        simp only [l_spec_Undrained_b0]
        rw [w64 w (by omega), up64 k (by omega)]
        refine ev_t (by simp; omega) (ev_bnd (l06End_ok hV k (by omega)) (ev_bnd (l06Pipe_ok H _) ?_))
        unfold keepI at ih
        dsimp only at ih
        refine ev_cnd (fun c => ?_) (fun c => ?_)
        · rw [if_neg (by rw [c]; simp), List.append_nil] at ih
          exact ih
        · rw [if_pos (by rw [c]; rfl), ints_app] at ih
          exact ev_chk (by simp [ints_length]; omega) ih) [] (by simp)
      exact this
    · unfold s_impl_Gutter_which__Undrained_1
      refine ev_bnd (gcells_ok hV) (ev_bnd (a := ints .i64 (keptI (fun k => !pipeB l (endG w b t l k)) w.toNat)) ?_ ev_some)
      have hl : (ints .i64 ((List.range' 0 w.toNat).map fun (i : Nat) => (i : Int))).length = w.toNat := by simp [ints_length]
      rw [hl]
      have := loop_cat (l := fun n k g => l_impl_Gutter_which__Undrained_1_b0 n w d t b (pipes l) (w.toNat : Nat) (k : Nat) (ints .i64 g) (ints .i64 ((List.range' 0 w.toNat).map fun (i : Nat) => (i : Int)))) (G := keepI fun k => !pipeB l (endG w b t l k)) (R := fun g => ints .i64 g) w.toNat 0 1 (fun _ _ => keepI_len ..) (fun acc => ev_f (by simp) ev_some) (fun k acc hk hl2 a ih => by
        refine ev_t (by simp; omega) (ev_chk (inB_k _ _ (by rw [hl]; exact hk)) (ev_bnd (a := (k : Int)) (ev_of fun n => by rw [Int.toNat_natCast, nth_upTo _ _ hk]; rfl) (ev_bnd (a := !pipeB l (endG w b t l k)) (by
          unfold s_impl_Undrained_1
          exact ev_bnd (end_ok hV k (by omega)) (ev_bnd (hasPipe_ok H _) ev_some)) ?_)))
        rw [up64 k (by omega)]
        unfold keepI at ih
        dsimp only at ih
        refine ev_cnd (fun c => ?_) (fun c => ?_)
        · rw [if_pos c, ints_app] at ih
          exact ev_chk (by simp [ints_length]; omega) ih
        · rw [if_neg (by rw [c]; simp), List.append_nil] at ih
          exact ih) [] (by simp)
      exact this
theorem BasinOf_two {w d b : Int} {t : Nat → Int} {l : List (Int × Int)} (H : GutT w d b t l) (c : Int) : ∃ (q : List Int) (y : Int), q.length ≤ 1000 ∧ Ev (fun n => s_spec_BasinOf n w d t b (pipes l) c) (ints .i64 q, y) ∧ Ev (fun n => s_impl_BasinOf n w d t b (pipes l) c) (ints .i64 q, y) := by
  unfold s_spec_BasinOf s_impl_BasinOf
  by_cases hz : gutC w d b t l (inG w c) = 0
  · obtain ⟨hg, _⟩ := gutC_zero hz
    have hV : GutV w d b t l := ⟨H, hg⟩
    have hb := hV.b
    have hk := keptI_len (fun k => decide ((endG w b t l k : Int) = c)) w.toNat
    refine ⟨keptI (fun k => decide ((endG w b t l k : Int) = c)) w.toNat, 0, by omega, ev_bnd (ev_of fun n => l06Cell_eq n H _) (ev_bnd (l06Asked_ok H _) (ev_t (by simpa using hz) (ev_bnd (a := ints .i64 (keptI (fun k => decide ((endG w b t l k : Int) = c)) w.toNat)) ?_ ev_some))), ev_bnd (ev_of fun n => isIn_eq n H _) (ev_bnd (gutterCode_ok H _) (ev_t (by simpa using hz) (ev_bnd (a := ints .i64 (keptI (fun k => decide ((endG w b t l k : Int) = c)) w.toNat)) ?_ (ev_chk (plain_fresh _ _ _) ev_some))))⟩
    · have := loop_cat (l := fun n k g => l_spec_BasinOf_b0 n c (k : Nat) w d t b (pipes l) (ints .i64 g)) (G := keepI fun k => decide ((endG w b t l k : Int) = c)) (R := fun g => ints .i64 g) w.toNat 0 1 (fun _ _ => keepI_len ..) (fun acc => by
        simp only [l_spec_BasinOf_b0]
        rw [w64 w (by omega)]
        exact ev_f (by simp; omega) ev_some) (fun k acc hk hl a ih => by
        simp only [l_spec_BasinOf_b0]
        rw [w64 w (by omega), up64 k (by omega)]
        refine ev_t (by simp; omega) (ev_bnd (l06End_ok hV k (by omega)) ?_)
        unfold keepI at ih
        dsimp only at ih
        refine ev_cnd (fun c => ?_) (fun c => ?_)
        · rw [if_pos c, ints_app] at ih
          exact ev_chk (by simp [ints_length]; omega) ih
        · rw [if_neg (by rw [c]; simp), List.append_nil] at ih
          exact ih) [] (by simp)
      exact this
    · unfold s_impl_Gutter_which__BasinOf_1
      refine ev_bnd (gcells_ok hV) (ev_bnd (a := ints .i64 (keptI (fun k => decide ((endG w b t l k : Int) = c)) w.toNat)) ?_ ev_some)
      have hl : (ints .i64 ((List.range' 0 w.toNat).map fun (i : Nat) => (i : Int))).length = w.toNat := by simp [ints_length]
      rw [hl]
      have := loop_cat (l := fun n k g => l_impl_Gutter_which__BasinOf_1_b0 n w d t b (pipes l) c (w.toNat : Nat) (k : Nat) (ints .i64 g) (ints .i64 ((List.range' 0 w.toNat).map fun (i : Nat) => (i : Int)))) (G := keepI fun k => decide ((endG w b t l k : Int) = c)) (R := fun g => ints .i64 g) w.toNat 0 1 (fun _ _ => keepI_len ..) (fun acc => ev_f (by simp) ev_some) (fun k acc hk hl2 a ih => by
        refine ev_t (by simp; omega) (ev_chk (inB_k _ _ (by rw [hl]; exact hk)) (ev_bnd (a := (k : Int)) (ev_of fun n => by rw [Int.toNat_natCast, nth_upTo _ _ hk]; rfl) (ev_bnd (a := decide ((endG w b t l k : Int) = c)) (by
          unfold s_impl_BasinOf_1
          exact ev_bnd (end_ok hV k (by omega)) ev_some) ?_)))
        rw [up64 k (by omega)]
        unfold keepI at ih
        dsimp only at ih
        refine ev_cnd (fun c => ?_) (fun c => ?_)
        · rw [if_pos c, ints_app] at ih
          exact ev_chk (by simp [ints_length]; omega) ih
        · rw [if_neg (by rw [c]; simp), List.append_nil] at ih
          exact ih) [] (by simp)
      exact this
  · exact ⟨[], gutC w d b t l (inG w c), by simp, ev_bnd (ev_of fun n => l06Cell_eq n H _) (ev_bnd (l06Asked_ok H _) (ev_f (by simpa using hz) ev_some)), ev_bnd (ev_of fun n => isIn_eq n H _) (ev_bnd (gutterCode_ok H _) (ev_f (by simpa using hz) ev_some))⟩
theorem law_FnExactFlowsTo {w d b : Int} {t : Nat → Int} {xs : List V} (hw : (Lit.int .i8 w).wf = true) (hd : (Lit.int .i16 d).wf = true) (ht : ∀ j, j < 17 → (Lit.int .i8 (t j)).wf = true) (hb : (Lit.int .u32 b).wf = true) (hx : PipeW xs)
    : Ev (fun n => s_laws_FnExactFlowsTo n w d t b xs) true := by
  obtain ⟨l, rfl, hl⟩ := prs_of hx.2
  have n1 : l.length ≤ 9223372036854775807 := by have := hx.1; rw [prs_length] at this; simpa [maxLen] using this
  unfold s_laws_FnExactFlowsTo
  refine ev_bnd (szGutter_ok w d b t l 1048576 (by omega) n1) ?_
  by_cases h1 : (1048576 : Int) < l.length
  · rw [if_pos h1]; exact ev_t (by simp) ev_some
  · rw [if_neg h1]
    obtain ⟨t', e1, e2⟩ := toGutter_ok w d b t l (by omega)
    have H : GutT w d b t' l := .mk' hw hd ht e1 hl (by omega)
    obtain ⟨q, y, hq, k1, k2⟩ := FlowsTo_two H
    obtain ⟨l', m, m1, m2, m3⟩ := markGutter_ok w d b t' l (by omega)
    have hm := markInt64S_ok q 1 (by omega)
    have hh := heldInt64S_ok q.length 1 (by omega)
    have hq2 := eqInt64S_ok q (by omega)
    refine ev_f (by simp; omega) (ev_bnd e2 (ev_bnd k1 (ev_chk (plain_two ..) (ev_bnd e2 (ev_bnd k2 (ev_chk (plain_two ..) (ev_bnd hq2 (ev_t rfl (ev_t (by simp) ?_)))))))))
    refine ev_bnd e2 (ev_bnd (eqGutter_ok _ _ _ _ _ (by omega)) (ev_t rfl (ev_bnd m3 (ev_chk (like_prs _ _ _ _ m1.symm) (ev_f (by simp; omega) ?_)))))
    refine ev_bnd hq2 (ev_t rfl (ev_bnd hm (ev_chk (like_ints _ _ _ (by rw [marks_length])) (ev_bnd hh (ev_f (by simp; omega) (ev_t (by simp) ?_))))))
    exact ev_bnd e2 (ev_bnd k2 (ev_chk (plain_two ..) (ev_bnd hq2 (ev_t rfl (ev_t (by simp) (ev_bnd hh (ev_f (by simp; omega) (ev_t (by simp) ev_some))))))))
theorem law_FnExactUndrained {w d b : Int} {t : Nat → Int} {xs : List V} (hw : (Lit.int .i8 w).wf = true) (hd : (Lit.int .i16 d).wf = true) (ht : ∀ j, j < 17 → (Lit.int .i8 (t j)).wf = true) (hb : (Lit.int .u32 b).wf = true) (hx : PipeW xs)
    : Ev (fun n => s_laws_FnExactUndrained n w d t b xs) true := by
  obtain ⟨l, rfl, hl⟩ := prs_of hx.2
  have n1 : l.length ≤ 9223372036854775807 := by have := hx.1; rw [prs_length] at this; simpa [maxLen] using this
  unfold s_laws_FnExactUndrained
  refine ev_bnd (szGutter_ok w d b t l 1048576 (by omega) n1) ?_
  by_cases h1 : (1048576 : Int) < l.length
  · rw [if_pos h1]; exact ev_t (by simp) ev_some
  · rw [if_neg h1]
    obtain ⟨t', e1, e2⟩ := toGutter_ok w d b t l (by omega)
    have H : GutT w d b t' l := .mk' hw hd ht e1 hl (by omega)
    obtain ⟨q, y, hq, k1, k2⟩ := Undrained_two H
    obtain ⟨l', m, m1, m2, m3⟩ := markGutter_ok w d b t' l (by omega)
    have hm := markInt64S_ok q 1 (by omega)
    have hh := heldInt64S_ok q.length 1 (by omega)
    have hq2 := eqInt64S_ok q (by omega)
    refine ev_f (by simp; omega) (ev_bnd e2 (ev_bnd k1 (ev_chk (plain_two ..) (ev_bnd e2 (ev_bnd k2 (ev_chk (plain_two ..) (ev_bnd hq2 (ev_t rfl (ev_t (by simp) ?_)))))))))
    refine ev_bnd e2 (ev_bnd (eqGutter_ok _ _ _ _ _ (by omega)) (ev_t rfl (ev_bnd m3 (ev_chk (like_prs _ _ _ _ m1.symm) (ev_f (by simp; omega) ?_)))))
    refine ev_bnd hq2 (ev_t rfl (ev_bnd hm (ev_chk (like_ints _ _ _ (by rw [marks_length])) (ev_bnd hh (ev_f (by simp; omega) (ev_t (by simp) ?_))))))
    exact ev_bnd e2 (ev_bnd k2 (ev_chk (plain_two ..) (ev_bnd hq2 (ev_t rfl (ev_t (by simp) (ev_bnd hh (ev_f (by simp; omega) (ev_t (by simp) ev_some))))))))
theorem law_FnExactBasinOf {w d b c : Int} {t : Nat → Int} {xs : List V} (hw : (Lit.int .i8 w).wf = true) (hd : (Lit.int .i16 d).wf = true) (ht : ∀ j, j < 17 → (Lit.int .i8 (t j)).wf = true) (hb : (Lit.int .u32 b).wf = true) (hx : PipeW xs)
    (hc : (Lit.int .i64 c).wf = true) : Ev (fun n => s_laws_FnExactBasinOf n w d t b xs c ) true := by
  obtain ⟨l, rfl, hl⟩ := prs_of hx.2
  have n1 : l.length ≤ 9223372036854775807 := by have := hx.1; rw [prs_length] at this; simpa [maxLen] using this
  unfold s_laws_FnExactBasinOf
  refine ev_bnd (szGutter_ok w d b t l 1048576 (by omega) n1) ?_
  by_cases h1 : (1048576 : Int) < l.length
  · rw [if_pos h1]; exact ev_t (by simp) ev_some
  · rw [if_neg h1]
    obtain ⟨t', e1, e2⟩ := toGutter_ok w d b t l (by omega)
    have H : GutT w d b t' l := .mk' hw hd ht e1 hl (by omega)
    obtain ⟨q, y, hq, k1, k2⟩ := BasinOf_two H c 
    obtain ⟨l', m, m1, m2, m3⟩ := markGutter_ok w d b t' l (by omega)
    have hm := markInt64S_ok q 1 (by omega)
    have hh := heldInt64S_ok q.length 1 (by omega)
    have hq2 := eqInt64S_ok q (by omega)
    refine ev_f (by simp; omega) (ev_bnd e2 (ev_bnd k1 (ev_chk (plain_two ..) (ev_bnd e2 (ev_bnd k2 (ev_chk (plain_two ..) (ev_bnd hq2 (ev_t rfl (ev_t (by simp) ?_)))))))))
    refine ev_bnd e2 (ev_bnd (eqGutter_ok _ _ _ _ _ (by omega)) (ev_t rfl (ev_bnd m3 (ev_chk (like_prs _ _ _ _ m1.symm) (ev_f (by simp; omega) ?_)))))
    refine ev_bnd hq2 (ev_t rfl (ev_bnd hm (ev_chk (like_ints _ _ _ (by rw [marks_length])) (ev_bnd hh (ev_f (by simp; omega) (ev_t (by simp) ?_))))))
    exact ev_bnd e2 (ev_bnd k2 (ev_chk (plain_two ..) (ev_bnd hq2 (ev_t rfl (ev_t (by simp) (ev_bnd hh (ev_f (by simp; omega) (ev_t (by simp) ev_some))))))))
end Go.Proofs.Ytdhcfdiggcgmhaa
