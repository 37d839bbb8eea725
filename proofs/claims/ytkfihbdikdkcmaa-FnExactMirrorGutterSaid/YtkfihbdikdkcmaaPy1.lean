/- Where water flows in a gutter. Laws EndOf, FlowsTo, Undrained, BasinOf. Lists of numbers as arguments. Law FewestPipes; what a minute does to the water of a gutter; laws DrainTime, FirstOver. Laws CleanLeaf, LeastTakes, SlopeTo. Law MirrorGutter. -/
import Derived.Test.YtkfihbdikdkcmaaPy0
import Derived.Test.YtkfihbdikdkcmaaPa4
import Derived.Test.YtkfihbdikdkcmaaSh5
import Derived.Test.YtkfihbdikdkcmaaSh9
import Derived.Test.YtkfihbdikdkcmaaShB
namespace Go.Proofs.Ytkfihbdikdkcmaa
open Go
set_option linter.unusedVariables false
set_option linter.unusedSimpArgs false

theorem loop_cat {α β : Type} {l : Nat → Nat → List β → Option α} {G : Nat → List β} {R : List β → α} (N L M : Nat) (hG : ∀ k, k < N → (G k).length ≤ M) (hend : ∀ acc, Ev (fun n => l (n + 1) N acc) (R acc))
    (hstep : ∀ k acc, k < N → acc.length ≤ L + k * M → ∀ a, Ev (fun n => l n (k + 1) (acc ++ G k)) a → Ev (fun n => l (n + 1) k acc) a) (acc0 : List β) (h0 : acc0.length ≤ L) :
    Ev (fun n => l n 0 acc0) (R (acc0 ++ (List.range' 0 N).flatMap G)) := by
  have key : ∀ (d k : Nat), k + d = N → ((List.range' 0 k).flatMap G).length ≤ k * M → Ev (fun n => l n k (acc0 ++ (List.range' 0 k).flatMap G)) (R (acc0 ++ (List.range' 0 N).flatMap G)) := by
    intro d
    induction d with
    | zero => intro k hk _; obtain rfl : k = N := by omega
              exact ev_succ (hend _)
    | succ d ih =>
      intro k hk hl
      have hs : (List.range' 0 (k + 1)).flatMap G = (List.range' 0 k).flatMap G ++ G k := by rw [List.range'_concat]; simp [List.flatMap_append]
      have h1 := ih (k + 1) (by omega) (by rw [hs, List.length_append, Nat.succ_mul]; have := hG k (by omega); omega)
      rw [hs, ← List.append_assoc] at h1
      exact ev_succ (hstep k _ (by omega) (by rw [List.length_append]; omega) _ h1)
  have := key N 0 (by omega) (by simp)
  simpa using this
theorem flat_len {β : Type} {G : Nat → List β} {M : Nat} : ∀ {N : Nat} (k : Nat), (∀ j, k ≤ j → j < k + N → (G j).length ≤ M) → ((List.range' k N).flatMap G).length ≤ N * M
  | 0, k, _ => by simp
  | N + 1, k, h => by
    rw [List.range'_succ, List.flatMap_cons, List.length_append, Nat.succ_mul]
    have h1 := h k (Nat.le_refl _) (by omega)
    have h2 := flat_len (G := G) (M := M) (N := N) (k + 1) fun j h3 h4 => h j (by omega) (by omega)
    omega
structure GutV (w d b : Int) (t : Nat → Int) (l : List (Int × Int)) : Prop extends GutT w d b t l where
  ok : gutOk w d b t l = true
theorem GutV.b {w d b : Int} {t : Nat → Int} {l : List (Int × Int)} (H : GutV w d b t l) : (1 ≤ w ∧ w ≤ 17) ∧ ∀ j, j < 17 → 0 ≤ t j ∧ t j ≤ 9 := by
  have := H.ok
  simp only [gutOk, gutHead, Bool.and_eq_true, decide_eq_true_eq, allN_iff, gcell] at this
  exact ⟨this.1.1, fun j hj => (this.2.1 j (by omega) (by omega)).1⟩
def leafB (b : Int) (k : Nat) : Bool := decide ((IntKind.u32.wrap (BitVec.ofInt IntKind.u32.bits ((b).fdiv (2 ^ (min k IntKind.u32.bits))) &&& BitVec.ofInt IntKind.u32.bits (1)).toNat) = (1))
def pipeB (l : List (Int × Int)) (k : Int) : Bool := (firstN (fun j => decide ((pr l j).1 = k)) 0 l.length).isSome
def flow (w b : Int) (t : Nat → Int) (l : List (Int × Int)) (k : Nat) : Int :=
  if leafB b k = true then -1 else if pipeB l k = true then -1 else
  if 0 < k ∧ t (k - 1) < t k then (if (k : Int) + 1 < w ∧ t (k + 1) < t (k - 1) then (k : Int) + 1 else (k : Int) - 1)
  else if (k : Int) + 1 < w ∧ t (k + 1) < t k then (k : Int) + 1 else -1
theorem flow_b {w b : Int} {t : Nat → Int} {l : List (Int × Int)} {k : Nat} (hk : (k : Int) < w) : flow w b t l k = -1 ∨ (0 ≤ flow w b t l k ∧ flow w b t l k < w ∧ t (flow w b t l k).toNat < t k) := by
  unfold flow
  split
  · exact .inl rfl
  · split
    · exact .inl rfl
    · split
      · rename_i h1
        split
        · rename_i h2
          refine .inr ⟨by omega, h2.1, ?_⟩
          rw [show ((k : Int) + 1).toNat = k + 1 by omega]
          omega
        · refine .inr ⟨by omega, by omega, ?_⟩
          rw [show ((k : Int) - 1).toNat = k - 1 by omega]
          exact h1.2
      · split
        · rename_i h2
          refine .inr ⟨by omega, h2.1, ?_⟩
          rw [show ((k : Int) + 1).toNat = k + 1 by omega]
          exact h2.2
        · exact .inl rfl
theorem l06Leaf_eq (n : Nat) {w d b : Int} {t : Nat → Int} {l : List V} (k : Nat) (hk : k < 100) : s_spec_l06Leaf n w d t b l k = some (leafB b k) := by
  unfold s_spec_l06Leaf leafB
  rw [wu64 (k : Int) (by omega), show decide (0 ≤ (k : Int)) = true by simp, chk_t, Int.toNat_natCast]
theorem hasLeaves_eq (n : Nat) {w d b : Int} {t : Nat → Int} {l : List V} (k : Nat) : s_impl_Gutter_hasLeaves n w d t b l k = some (leafB b k) := by
  unfold s_impl_Gutter_hasLeaves leafB
  rw [show decide (0 ≤ (k : Int)) = true by simp, chk_t, Int.toNat_natCast]
theorem l06Pipe_ok {w d b : Int} {t : Nat → Int} {l : List (Int × Int)} (H : GutT w d b t l) (k : Int) : Ev (fun n => s_spec_l06Pipe n w d t b (pipes l) k) (pipeB l k) := by
  unfold s_spec_l06Pipe pipeB
  have hn := H.ln
  have key := loop_first (l := fun n j => l_spec_l06Pipe_b0 n w d t b (pipes l) k (j : Nat)) (p := fun j => decide ((pr l j).1 = k)) (A := .inl ()) (B := fun _ => .inr true) l.length (ev_f (by simp [prs_length]) ev_some) (by
    intro j hj hp v ih
    have hb := H.bl j hj
    refine ev_t (by simp [prs_length]; omega) (ev_bnd (a := ((pr l j).1, (pr l j).2)) (ev_of fun n => by rw [idx_prs _ _ _ _ hj]; rfl) ?_)
    dsimp only
    rw [w64 _ (by omega), up64 j (by omega)]
    exact ev_f hp ih) (by
    intro j hj hp
    have hb := H.bl j hj
    refine ev_t (by simp [prs_length]; omega) (ev_bnd (a := ((pr l j).1, (pr l j).2)) (ev_of fun n => by rw [idx_prs _ _ _ _ hj]; rfl) ?_)
    dsimp only
    rw [w64 _ (by omega)]
    exact ev_t hp ev_some) l.length 0 (by omega)
  refine ev_bnd key ?_
  cases firstN (fun j => decide ((pr l j).1 = k)) 0 l.length <;> exact ev_some
theorem hasPipe_ok {w d b : Int} {t : Nat → Int} {l : List (Int × Int)} (H : GutT w d b t l) (k : Int) : Ev (fun n => s_impl_Gutter_hasPipe n w d t b (pipes l) k) (pipeB l k) := by
  unfold s_impl_Gutter_hasPipe s_slices_ContainsFunc_Simpl_Pipe_impl_Pipe__Gutter_hasPipe_1 s_slices_IndexFunc_Simpl_Pipe_impl_Pipe__Gutter_hasPipe_1 pipeB
  have hn := H.ln
  rw [show ((pipes l).length : Int) = (l.length : Int) by simp [prs_length]]
  have key := loop_first (l := fun n j => l_slices_IndexFunc_Simpl_Pipe_impl_Pipe__Gutter_hasPipe_1_b0 n (pipes l) k (l.length : Int) (j : Nat)) (p := fun j => decide ((pr l j).1 = k)) (A := .inl ()) (B := fun j => .inr (j : Int)) l.length (ev_f (by simp) ev_some) (by
    intro j hj hp v ih
    have hb := H.bl j hj
    refine ev_t (by simp; omega) (ev_bnd (a := ((pr l j).1, (pr l j).2)) (ev_of fun n => by rw [idx_prs _ _ _ _ hj]; rfl) (ev_bnd (a := decide ((pr l j).1 = k)) (ev_of fun n => by unfold s_impl_Gutter_hasPipe_1; rw [w64 _ (by omega)]) ?_))
    rw [up64 j (by omega)]
    exact ev_f hp ih) (by
    intro j hj hp
    have hb := H.bl j hj
    exact ev_t (by simp; omega) (ev_bnd (a := ((pr l j).1, (pr l j).2)) (ev_of fun n => by rw [idx_prs _ _ _ _ hj]; rfl) (ev_bnd (a := decide ((pr l j).1 = k)) (ev_of fun n => by unfold s_impl_Gutter_hasPipe_1; rw [w64 _ (by omega)]) (ev_t hp ev_some)))) l.length 0 (by omega)
  refine ev_bnd (ev_bnd (ev_bnd key (b := match firstN (fun j => decide ((pr l j).1 = k)) 0 l.length with | some j => (j : Int) | none => -1) ?_) ev_some) ?_
  · cases firstN (fun j => decide ((pr l j).1 = k)) 0 l.length <;> exact ev_some
  · refine ev_cast ev_some ?_
    cases firstN (fun j => decide ((pr l j).1 = k)) 0 l.length <;> simp
theorem at1 (t : Nat → Int) (k : Nat) : t (0 + (k : Int).toNat * 1) = t k := by congr 1; simp
theorem l06To_ok {w d b : Int} {t : Nat → Int} {l : List (Int × Int)} (H : GutV w d b t l) (k : Nat) (hk : (k : Int) < w) : Ev (fun n => s_spec_l06To n w d t b (pipes l) k) (flow w b t l k) := by
  have hb := H.b
  unfold s_spec_l06To flow
  refine ev_bnd (ev_of fun n => l06Leaf_eq n k (by omega)) (ev_cnd (fun h1 => by rw [if_pos h1]; exact ev_some) (fun h1 => ?_))
  rw [if_neg (by rw [h1]; simp)]
  refine ev_bnd (l06Pipe_ok H.toGutT k) (ev_cnd (fun h2 => by rw [if_pos h2]; exact ev_some) (fun h2 => ?_))
  rw [if_neg (by rw [h2]; simp)]
  refine ev_chk (inB_k _ _ (by omega)) ?_
  rw [at1 t k, up64 k (by omega), at1 t (k + 1), w64 w (by omega)]
  by_cases h0 : 0 < k
  · rw [show IntKind.i64.wrap ((k : Int) - 1) = ((k - 1 : Nat) : Int) by rw [w64 _ (by omega)]; omega, at1 t (k - 1)]
    refine ev_t (by simp; omega) (ev_chk (inB_k _ _ (by omega)) ?_)
    by_cases h3 : t (k - 1) < t k
    · rw [if_pos ⟨h0, h3⟩]
      refine ev_t (by simpa using h3) ?_
      by_cases h4 : (k : Int) + 1 < w
      · refine ev_t (by simp; omega) (ev_chk (inB_k _ _ (by omega)) ?_)
        by_cases h5 : t (k + 1) < t (k - 1)
        · rw [if_pos ⟨h4, h5⟩]; exact ev_t (by simpa using h5) (ev_cast ev_some (by omega))
        · rw [if_neg (by omega)]; exact ev_f (by simpa using h5) (ev_cast ev_some (by omega))
      · rw [if_neg (by omega)]
        exact ev_f (by simp; omega) (ev_cast ev_some (by omega))
    · rw [if_neg (by omega)]
      refine ev_f (by simpa using h3) ?_
      by_cases h4 : (k : Int) + 1 < w
      · refine ev_t (by simp; omega) (ev_chk (inB_k _ _ (by omega)) ?_)
        by_cases h5 : t (k + 1) < t k
        · rw [if_pos ⟨h4, h5⟩]; exact ev_t (by simpa using h5) (ev_cast ev_some (by omega))
        · rw [if_neg (by omega)]; exact ev_f (by simpa using h5) ev_some
      · rw [if_neg (by omega)]
        exact ev_f (by simp; omega) ev_some
  · rw [if_neg (by omega)]
    refine ev_f (by simp; omega) ?_
    by_cases h4 : (k : Int) + 1 < w
    · refine ev_t (by simp; omega) (ev_chk (inB_k _ _ (by omega)) ?_)
      by_cases h5 : t (k + 1) < t k
      · rw [if_pos ⟨h4, h5⟩]; exact ev_t (by simpa using h5) (ev_cast ev_some (by omega))
      · rw [if_neg (by omega)]; exact ev_f (by simpa using h5) ev_some
    · rw [if_neg (by omega)]
      exact ev_f (by simp; omega) ev_some
/-- the program's two sides, one after another -/
theorem side_ok {w d b : Int} {t : Nat → Int} {l : List (Int × Int)} (H : GutV w d b t l) (k : Nat) (hk : (k : Int) < w) (xs : List V) (N j : Nat) (hj : j < N) (hN : N ≤ 10) (c best : Int) (hc : -1 ≤ c ∧ c ≤ 17) (hbest : best = -1 ∨ (0 ≤ best ∧ best < 17)) (hx : nth xs j = some (V.int .i64 c)) (hl : j < xs.length) {v : Int}
    (ih : Ev (fun n => l_impl_Gutter_flowsTo_b0 n k (if 0 ≤ c ∧ c < w ∧ t c.toNat < t k ∧ (best = -1 ∨ t c.toNat < t best.toNat) then c else best) (N : Int) ((j + 1 : Nat) : Int) w d t b (pipes l) xs) v) :
    Ev (fun n => l_impl_Gutter_flowsTo_b0 n k best (N : Int) (j : Int) w d t b (pipes l) xs) v := by
  have hb := H.b
  refine ev_succ (ev_t (by simp; omega) (ev_chk (inB_k _ _ hl) (ev_bnd (a := c) (ev_of fun n => by rw [Int.toNat_natCast, hx]; rfl) (ev_bnd (ev_of fun n => within_int n _ _ _) ?_))))
  rw [w64 w (by omega), w64 (w - 1) (by omega), up64 j (by omega)]
  refine ev_cnd (fun h1 => ?_) (fun h1 => ?_)
  · simp only [Bool.and_eq_true, decide_eq_true_eq] at h1
    refine ev_chk (inB_i _ _ (by omega)) (ev_chk (inB_k _ _ (by omega)) ?_)
    rw [show t (0 + c.toNat * 1) = t c.toNat by congr 1; omega, at1 t k]
    refine ev_cnd (fun h2 => ?_) (fun h2 => ?_)
    · simp only [decide_eq_true_eq] at h2
      refine ev_cnd (fun h3 => ?_) (fun h3 => ?_)
      · simp only [decide_eq_true_eq] at h3
        rw [if_pos ⟨by omega, by omega, h2, .inl h3⟩] at ih
        exact ih
      · simp only [decide_eq_false_iff_not] at h3
        refine ev_chk (inB_i _ _ (by omega)) ?_
        rw [show t (0 + best.toNat * 1) = t best.toNat by congr 1; omega]
        refine ev_cnd (fun h4 => ?_) (fun h4 => ?_)
        · simp only [decide_eq_true_eq] at h4
          rw [if_pos ⟨by omega, by omega, h2, .inr h4⟩] at ih
          exact ih
        · simp only [decide_eq_false_iff_not] at h4
          rw [if_neg (by rintro ⟨_, _, _, h5 | h5⟩ <;> omega)] at ih
          exact ih
    · simp only [decide_eq_false_iff_not] at h2
      rw [if_neg (by rintro ⟨_, _, h5, _⟩; omega)] at ih
      exact ih
  · simp only [Bool.and_eq_false_iff, decide_eq_false_iff_not] at h1
    rw [if_neg (by rintro ⟨h5, h6, _⟩; omega)] at ih
    exact ih
theorem flowsTo_ok {w d b : Int} {t : Nat → Int} {l : List (Int × Int)} (H : GutV w d b t l) (k : Nat) (hk : (k : Int) < w) : Ev (fun n => s_impl_Gutter_flowsTo n w d t b (pipes l) k) (flow w b t l k) := by
  have hb := H.b
  unfold s_impl_Gutter_flowsTo flow
  refine ev_bnd (ev_of fun n => hasLeaves_eq n k) (ev_cnd (fun h1 => by rw [if_pos h1]; exact ev_some) (fun h1 => ?_))
  rw [if_neg (by rw [h1]; simp)]
  refine ev_bnd (hasPipe_ok H.toGutT k) (ev_cnd (fun h2 => by rw [if_pos h2]; exact ev_some) (fun h2 => ?_))
  rw [if_neg (by rw [h2]; simp), w64 ((k : Int) - 1) (by omega), w64 ((k : Int) + 1) (by omega)]
  refine ev_bnd ?_ ev_some
  refine side_ok H k hk _ 2 0 (by omega) (by omega) ((k : Int) - 1) (-1) (by omega) (.inl rfl) rfl (by simp) ?_
  refine side_ok H k hk _ 2 1 (by omega) (by omega) ((k : Int) + 1) _ (by omega) (by split <;> omega) rfl (by simp) ?_
  refine ev_succ (ev_f (by simp) (ev_cast ev_some ?_))
  rw [show ((k : Int) + 1).toNat = k + 1 by omega, show ((k : Int) - 1).toNat = k - 1 by omega]
  by_cases h0 : 0 < k
  · by_cases h3 : t (k - 1) < t k
    · rw [if_pos (show 0 < k ∧ t (k - 1) < t k from ⟨h0, h3⟩), if_pos (show 0 ≤ (k : Int) - 1 ∧ (k : Int) - 1 < w ∧ t (k - 1) < t k ∧ ((-1 : Int) = -1 ∨ t (k - 1) < t (-1 : Int).toNat) from ⟨by omega, by omega, h3, .inl rfl⟩), show ((k : Int) - 1).toNat = k - 1 by omega]
      by_cases h4 : (k : Int) + 1 < w ∧ t (k + 1) < t (k - 1)
      · rw [if_pos h4, if_pos ⟨by omega, h4.1, by omega, .inr h4.2⟩]
      · rw [if_neg h4, if_neg (by rintro ⟨_, h5, _, h6 | h6⟩ <;> omega)]
    · rw [if_neg (show ¬ (0 < k ∧ t (k - 1) < t k) by omega), if_neg (show ¬ (0 ≤ (k : Int) - 1 ∧ (k : Int) - 1 < w ∧ t (k - 1) < t k ∧ ((-1 : Int) = -1 ∨ t (k - 1) < t (-1 : Int).toNat)) by rintro ⟨_, _, h5, _⟩; omega)]
      by_cases h4 : (k : Int) + 1 < w ∧ t (k + 1) < t k
      · rw [if_pos h4, if_pos ⟨by omega, h4.1, h4.2, .inl rfl⟩]
      · rw [if_neg h4, if_neg (by rintro ⟨_, h5, h6, _⟩; omega)]
  · rw [if_neg (show ¬ (0 < k ∧ t (k - 1) < t k) by omega), if_neg (show ¬ (0 ≤ (k : Int) - 1 ∧ (k : Int) - 1 < w ∧ t (k - 1) < t k ∧ ((-1 : Int) = -1 ∨ t (k - 1) < t (-1 : Int).toNat)) by rintro ⟨h5, _⟩; omega)]
    by_cases h4 : (k : Int) + 1 < w ∧ t (k + 1) < t k
    · rw [if_pos h4, if_pos ⟨by omega, h4.1, h4.2, .inl rfl⟩]
    · rw [if_neg h4, if_neg (by rintro ⟨_, h5, h6, _⟩; omega)]
def endF (w b : Int) (t : Nat → Int) (l : List (Int × Int)) : Nat → Nat → Nat
  | 0, k => k
  | f + 1, k => if flow w b t l k = -1 then k else endF w b t l f (flow w b t l k).toNat
def endG (w b : Int) (t : Nat → Int) (l : List (Int × Int)) (k : Nat) : Nat := endF w b t l 10 k
theorem endF_b {w b : Int} {t : Nat → Int} {l : List (Int × Int)} : ∀ (f k : Nat), (k : Int) < w → (endF w b t l f k : Int) < w
  | 0, k, h => h
  | f + 1, k, h => by
    unfold endF
    split
    · exact h
    · rcases flow_b (b := b) (t := t) (l := l) h with h1 | h1
      · contradiction
      · exact endF_b f _ (by omega)
theorem spec_end_b0 {w d b : Int} {t : Nat → Int} {l : List (Int × Int)} (H : GutV w d b t l) : ∀ (f k : Nat), (k : Int) < w → t k < f → Ev (fun n => l_spec_l06End_b0 n w d t b (pipes l) k (flow w b t l k)) (endF w b t l f k : Int)
  | 0, k, hk, hf => by have := H.b.2 k (by have := H.b; omega); omega
  | f + 1, k, hk, hf => by
    refine ev_succ ?_
    unfold endF
    rcases flow_b (b := b) (t := t) (l := l) hk with h1 | h1
    · rw [if_pos h1, h1]; exact ev_f (by simp) ev_some
    · rw [if_neg (by omega)]
      have ih := spec_end_b0 H f (flow w b t l k).toNat (by omega) (by omega)
      have ht := l06To_ok H (flow w b t l k).toNat (by omega)
      rw [show (((flow w b t l k).toNat : Nat) : Int) = flow w b t l k by omega] at ih ht
      exact ev_t (by simpa using h1.1) (ev_bnd ht ih)
theorem l06End_ok {w d b : Int} {t : Nat → Int} {l : List (Int × Int)} (H : GutV w d b t l) (k : Nat) (hk : (k : Int) < w) : Ev (fun n => s_spec_l06End n w d t b (pipes l) k) (endG w b t l k : Int) := by
  have hb := H.b
  have := hb.2 k (by omega)
  unfold s_spec_l06End
  exact ev_bnd (l06To_ok H k hk) (ev_bnd (spec_end_b0 H 10 k hk (by omega)) ev_some)
theorem impl_end_b0 {w d b : Int} {t : Nat → Int} {l : List (Int × Int)} (H : GutV w d b t l) : ∀ (f k : Nat), (k : Int) < w → t k < f → Ev (fun n => l_impl_Gutter_end_b0 n k (flow w b t l k) w d t b (pipes l)) (endF w b t l f k : Int)
  | 0, k, hk, hf => by have := H.b.2 k (by have := H.b; omega); omega
  | f + 1, k, hk, hf => by
    refine ev_succ ?_
    unfold endF
    rcases flow_b (b := b) (t := t) (l := l) hk with h1 | h1
    · rw [if_pos h1, h1]; exact ev_t (by simp) ev_some
    · rw [if_neg (by omega)]
      have ih := impl_end_b0 H f (flow w b t l k).toNat (by omega) (by omega)
      have ht := flowsTo_ok H (flow w b t l k).toNat (by omega)
      rw [show (((flow w b t l k).toNat : Nat) : Int) = flow w b t l k by omega] at ih ht
      exact ev_f (by simp; omega) (ev_bnd ht ih)
theorem end_ok {w d b : Int} {t : Nat → Int} {l : List (Int × Int)} (H : GutV w d b t l) (k : Nat) (hk : (k : Int) < w) : Ev (fun n => s_impl_Gutter_end n w d t b (pipes l) k) (endG w b t l k : Int) := by
  have hb := H.b
  have := hb.2 k (by omega)
  unfold s_impl_Gutter_end
  exact ev_bnd (flowsTo_ok H k hk) (ev_bnd (impl_end_b0 H 10 k hk (by omega)) ev_some)
def gutC (w d b : Int) (t : Nat → Int) (l : List (Int × Int)) (c : Bool) : Int := sel (gutOk w d b t l) (sel c 0 2) 1
theorem gutC_zero {w d b : Int} {t : Nat → Int} {l : List (Int × Int)} {c : Bool} (h : gutC w d b t l c = 0) : gutOk w d b t l = true ∧ c = true := by
  unfold gutC at h
  cases h1 : gutOk w d b t l <;> cases h2 : c <;> simp_all [sel]
theorem l06Asked_ok {w d b : Int} {t : Nat → Int} {l : List (Int × Int)} (H : GutT w d b t l) (c : Bool) : Ev (fun n => s_spec_l06Asked n w d t b (pipes l) c) (gutC w d b t l c) := by
  unfold s_spec_l06Asked gutC
  refine ev_bnd (l06Ok_ok H) ?_
  cases gutOk w d b t l <;> cases c <;> exact ev_some
theorem gutterCode_ok {w d b : Int} {t : Nat → Int} {l : List (Int × Int)} (H : GutT w d b t l) (c : Bool) : Ev (fun n => s_impl_gutterCode n w d t b (pipes l) c) (gutC w d b t l c) := by
  unfold s_impl_gutterCode gutC
  refine ev_bnd (ValidGutter_ok H) ?_
  cases gutOk w d b t l <;> cases c <;> exact ev_some
def inG (w c : Int) : Bool := decide (0 ≤ c) && decide (c ≤ w - 1)
theorem l06Cell_eq (n : Nat) {w d b : Int} {t : Nat → Int} {l : List (Int × Int)} (H : GutT w d b t l) (c : Int) : s_spec_l06Cell n w d t b (pipes l) c = some (inG w c) := by
  have := H.bw
  unfold s_spec_l06Cell inG
  rw [w64 w (by omega), w64 (w - 1) (by omega), l00In_eq]
  rfl
theorem isIn_eq (n : Nat) {w d b : Int} {t : Nat → Int} {l : List (Int × Int)} (H : GutT w d b t l) (c : Int) : s_impl_Gutter_isIn n w d t b (pipes l) c = some (inG w c) := by
  have := H.bw
  unfold s_impl_Gutter_isIn inG
  rw [w64 w (by omega), w64 (w - 1) (by omega), within_i64]
  rfl
theorem law_FnExactEndOf {w d b c : Int} {t : Nat → Int} {xs : List V} (hw : (Lit.int .i8 w).wf = true) (hd : (Lit.int .i16 d).wf = true) (ht : ∀ j, j < 17 → (Lit.int .i8 (t j)).wf = true) (hb : (Lit.int .u32 b).wf = true) (hx : PipeW xs)
    (hc : (Lit.int .i64 c).wf = true) : Ev (fun n => s_laws_FnExactEndOf n w d t b xs c) true := by
  obtain ⟨l, rfl, hl⟩ := prs_of hx.2
  have n1 : l.length ≤ 9223372036854775807 := by have := hx.1; rw [prs_length] at this; simpa [maxLen] using this
  unfold s_laws_FnExactEndOf
  refine ev_bnd (szGutter_ok w d b t l 1048576 (by omega) n1) ?_
  by_cases h1 : (1048576 : Int) < l.length
  · rw [if_pos h1]; exact ev_t (by simp) ev_some
  · rw [if_neg h1]
    obtain ⟨t', e1, e2⟩ := toGutter_ok w d b t l (by omega)
    have H : GutT w d b t' l := .mk' hw hd ht e1 hl (by omega)
    have k : ∃ (x y : Int), Ev (fun n => s_spec_EndOf n w d t' b (pipes l) c) (x, y) ∧ Ev (fun n => s_impl_EndOf n w d t' b (pipes l) c) (x, y) := by
      unfold s_spec_EndOf s_impl_EndOf
      by_cases hz : gutC w d b t' l (inG w c) = 0
      · obtain ⟨g1, g2⟩ := gutC_zero hz
        have hV : GutV w d b t' l := ⟨H, g1⟩
        simp only [inG, Bool.and_eq_true, decide_eq_true_eq] at g2
        obtain ⟨k, rfl⟩ := Int.eq_ofNat_of_zero_le g2.1
        exact ⟨endG w b t' l k, 0, ev_bnd (ev_of fun n => l06Cell_eq n H _) (ev_bnd (l06Asked_ok H _) (ev_t (by simpa using hz) (ev_bnd (l06End_ok hV k (by omega)) ev_some))), ev_bnd (ev_of fun n => isIn_eq n H _) (ev_bnd (gutterCode_ok H _) (ev_t (by simpa using hz) (ev_bnd (end_ok hV k (by omega)) ev_some)))⟩
      · exact ⟨0, gutC w d b t' l (inG w c), ev_bnd (ev_of fun n => l06Cell_eq n H _) (ev_bnd (l06Asked_ok H _) (ev_f (by simpa using hz) ev_some)), ev_bnd (ev_of fun n => isIn_eq n H _) (ev_bnd (gutterCode_ok H _) (ev_f (by simpa using hz) ev_some))⟩
    obtain ⟨x, y, k1, k2⟩ := k
    refine ev_f (by simp; omega) (ev_bnd e2 (ev_bnd k1 (ev_bnd e2 (ev_bnd k2 (ev_t (by simp) (ev_t (by simp) ?_))))))
    exact ev_bnd e2 (ev_bnd (eqGutter_ok _ _ _ _ _ (by omega)) (ev_t rfl ev_some))
-- marks in the pipes
def markP (k0 j : Nat) : Int × Int := (IntKind.i8.wrap ((k0 + 2 * j : Nat) : Int), IntKind.i16.wrap ((k0 + 2 * j + 1 : Nat) : Int))
theorem markPipeS_ok (l : List (Int × Int)) (k0 : Nat) (hl : l.length ≤ 1048576 ∧ k0 ≤ 1000) : ∃ l', l'.length = l.length ∧ Ev (fun n => s_laws_markPipeS n (pipes l) (k0 : Int)) (((k0 + 2 * l.length : Nat) : Int), pipes l') := by
  unfold s_laws_markPipeS
  obtain ⟨v, ⟨l', hv1, hv⟩, h1⟩ := loop_up (l := fun n k (st : List (Int × Int)) => l_laws_markPipeS_b0 n ((k0 + 2 * k : Nat) : Int) (k : Nat) (pipes st)) (I := fun k st => st.length = l.length)
    (P := fun v => ∃ l', l'.length = l.length ∧ v = (((k0 + 2 * l.length : Nat) : Int), pipes l')) l.length (by
    rintro k st hk e1 ih
    by_cases hlt : k < l.length
    · have hk2 : k < st.length := by omega
      refine tot_t (by simp [prs_length]; omega) (tot_chk (inB_k _ _ (by rw [prs_length]; exact hk2)) (tot_ev (a := ((pr st k).1, (pr st k).2)) (ev_of fun n => by rw [Int.toNat_natCast, nth_prs _ _ _ _ hk2]; rfl) (tot_ev (a := ((pr st k).1, (pr st k).2)) (ev_of fun n => by rw [Int.toNat_natCast, nth_prs _ _ _ _ hk2]; rfl) ?_)))
      rw [Int.toNat_natCast]
      dsimp only
      rw [set_prs]
      have hq : pr (st.set k (IntKind.i8.wrap ((k0 + 2 * k : Nat) : Int), (pr st k).2)) k = (IntKind.i8.wrap ((k0 + 2 * k : Nat) : Int), (pr st k).2) := by
        unfold pr; rw [List.getD_eq_getElem?_getD, List.getElem?_set, if_pos rfl, if_pos hk2]; rfl
      have hg : ∀ n : Nat, bnd (nth (pipes (st.set k (IntKind.i8.wrap ((k0 + 2 * k : Nat) : Int), (pr st k).2))) k) as_Pi8_i16Q = some (IntKind.i8.wrap ((k0 + 2 * k : Nat) : Int), (pr st k).2) := by
        intro n
        rw [nth_prs _ _ _ _ (by simp; exact hk2), hq]; rfl
      refine tot_chk (inB_k _ _ (by simp [prs_length]; exact hk2)) (tot_ev (ev_of hg) (tot_ev (ev_of hg) ?_))
      dsimp only
      rw [set_prs, up64 k (by omega), up64 (k0 + 2 * k) (by omega), up64 (k0 + 2 * k + 1) (by omega), show k0 + 2 * k + 1 + 1 = k0 + 2 * (k + 1) by omega, List.set_set]
      exact ih hlt _ (by simp [e1])
    · obtain rfl : k = l.length := by omega
      exact tot_f (by simp [prs_length]; omega) (tot_some ⟨st, e1, rfl⟩)) 0 l (by omega) rfl
  subst hv
  exact ⟨l', hv1, ev_bnd h1 ev_some⟩
theorem markGutter_ok (w d b : Int) (t : Nat → Int) (l : List (Int × Int)) (hl : l.length ≤ 1048576) : ∃ l' m, l'.length = l.length ∧ 0 ≤ m ∧ Ev (fun n => s_laws_markGutter n w d t b (pipes l) 1) (m, pipes l') := by
  obtain ⟨l', h1, h2⟩ := markPipeS_ok l 1 (by omega)
  exact ⟨l', _, h1, by omega, ev_bnd h2 (ev_chk (like_prs _ _ _ _ h1.symm) ev_some)⟩
theorem plain_two (e : Nat) (k k1 : IntKind) (l : List Int) (c : Int) : plainV (V.tup [V.fresh e (ints k l), V.int k1 c]) = true := by
  have h := plain_ints k l
  simp only [plainV, allB, plainQ, plainP, plainO]
  rw [h]
theorem nth_upTo (N k : Nat) (h : k < N) : nth (ints .i64 ((List.range' 0 N).map fun (i : Nat) => (i : Int))) k = some (V.int .i64 k) := by
  rw [nth_ints _ _ _ (by simpa using h)]; simp
theorem gcells_ok {w d b : Int} {t : Nat → Int} {l : List (Int × Int)} (H : GutV w d b t l) : Ev (fun n => s_impl_Gutter_cells n w d t b (pipes l)) (ints .i64 ((List.range' 0 w.toNat).map fun (i : Nat) => (i : Int))) := by
  have hb := H.b
  unfold s_impl_Gutter_cells
  rw [w64 w (by omega), show w = ((w.toNat : Nat) : Int) by omega]
  exact ev_bnd (upTo_ok w.toNat (by omega)) ev_some
def flowsL (w b : Int) (t : Nat → Int) (l : List (Int × Int)) : List Int := (List.range' 0 w.toNat).map (flow w b t l)
theorem FlowsTo_two {w d b : Int} {t : Nat → Int} {l : List (Int × Int)} (H : GutT w d b t l) : ∃ (q : List Int) (y : Int), q.length ≤ 1000 ∧ Ev (fun n => s_spec_FlowsTo n w d t b (pipes l)) (ints .i64 q, y) ∧ Ev (fun n => s_impl_FlowsTo n w d t b (pipes l)) (ints .i64 q, y) := by
  unfold s_spec_FlowsTo s_impl_FlowsTo
  have k1 := l06Ok_ok H
  have k2 := ValidGutter_ok H
  cases hg : gutOk w d b t l with
  | false =>
    rw [hg] at k1 k2
    exact ⟨[], 1, by simp, ev_bnd k1 (ev_f rfl ev_some), ev_bnd k2 (ev_f rfl ev_some)⟩
  | true =>
    rw [hg] at k1 k2
    have hV : GutV w d b t l := ⟨H, hg⟩
    have hb := hV.b
    refine ⟨flowsL w b t l, 0, by simp [flowsL]; omega, ev_bnd k1 (ev_t rfl (ev_bnd (a := ints .i64 (flowsL w b t l)) ?_ ev_some)), ev_bnd k2 (ev_t rfl (ev_bnd (gcells_ok hV) (ev_bnd (a := ints .i64 (flowsL w b t l)) ?_ (ev_chk (plain_fresh _ _ _) ev_some))))⟩
    · unfold flowsL
      rw [ints_map]
      refine loop_map (l := fun n k g => l_spec_FlowsTo_b0 n (k : Nat) w d t b (pipes l) g) (R := fun g => g) w.toNat (fun acc => ?_) (fun k acc hk hl a ih => ?_)
      · simp only [l_spec_FlowsTo_b0]
        rw [w64 w (by omega)]
        exact ev_f (by simp; omega) ev_some
      · simp only [l_spec_FlowsTo_b0]
        rw [w64 w (by omega), up64 k (by omega)]
        exact ev_t (by simp; omega) (ev_bnd (l06To_ok hV k (by omega)) (ev_chk (by simp; omega) ih))
    · unfold s_impl_each_int_int64__FlowsTo_1
      refine ev_bnd (a := ints .i64 (flowsL w b t l)) ?_ ev_some
      have hl : (ints .i64 ((List.range' 0 w.toNat).map fun (i : Nat) => (i : Int))).length = w.toNat := by simp [ints_length]
      rw [hl]
      unfold flowsL
      rw [ints_map .i64 (flow w b t l)]
      refine loop_map (l := fun n k g => l_impl_each_int_int64__FlowsTo_1_b0 n w d t b (pipes l) (ints .i64 ((List.range' 0 w.toNat).map fun (i : Nat) => (i : Int))) (w.toNat : Nat) (k : Nat) g) (R := fun g => g) w.toNat (fun acc => ev_f (by simp) ev_some) (fun k acc hk hl a ih => ?_)
      refine ev_t (by simp; omega) (ev_bnd (a := (k : Int)) (ev_of fun n => by rw [idx_upTo _ _ hk]; rfl) (ev_bnd (a := flow w b t l k) (by
        unfold s_impl_FlowsTo_1
        exact ev_bnd (flowsTo_ok hV k (by omega)) ev_some) (ev_chk (by simp; omega) ?_)))
      rw [up64 k (by omega)]
      exact ih
def keepI (p : Nat → Bool) (k : Nat) : List Int := if p k = true then [(k : Int)] else []
theorem keepI_len (p : Nat → Bool) (k : Nat) : (keepI p k).length ≤ 1 := by unfold keepI; split <;> simp
def keptI (p : Nat → Bool) (N : Nat) : List Int := (List.range' 0 N).flatMap (keepI p)
theorem keptI_len (p : Nat → Bool) (N : Nat) : (keptI p N).length ≤ N := by
  have : (keptI p N).length ≤ N * 1 := flat_len 0 fun _ _ _ => keepI_len ..
  omega
theorem ints_app (l m : List Int) : ints .i64 (l ++ m) = ints .i64 l ++ ints .i64 m := List.map_append ..
theorem Undrained_two {w d b : Int} {t : Nat → Int} {l : List (Int × Int)} (H : GutT w d b t l) : ∃ (q : List Int) (y : Int), q.length ≤ 1000 ∧ Ev (fun n => s_spec_Undrained n w d t b (pipes l)) (ints .i64 q, y) ∧ Ev (fun n => s_impl_Undrained n w d t b (pipes l)) (ints .i64 q, y) := by
  unfold s_spec_Undrained s_impl_Undrained
  have k1 := l06Ok_ok H
  have k2 := ValidGutter_ok H
  cases hg : gutOk w d b t l with
  | false =>
    rw [hg] at k1 k2
    exact ⟨[], 1, by simp, ev_bnd k1 (ev_f rfl ev_some), ev_bnd k2 (ev_f rfl ev_some)⟩
  | true =>
    rw [hg] at k1 k2
    have hV : GutV w d b t l := ⟨H, hg⟩
    have hb := hV.b
    have hk := keptI_len (fun k => !pipeB l (endG w b t l k)) w.toNat
    refine ⟨keptI (fun k => !pipeB l (endG w b t l k)) w.toNat, 0, by omega, ev_bnd k1 (ev_t rfl (ev_bnd (a := ints .i64 (keptI (fun k => !pipeB l (endG w b t l k)) w.toNat)) ?_ ev_some)), ev_bnd k2 (ev_t rfl (ev_bnd (a := ints .i64 (keptI (fun k => !pipeB l (endG w b t l k)) w.toNat)) ?_ (ev_chk (plain_fresh _ _ _) ev_some)))⟩
    · have := loop_cat (l := fun n k g => l_spec_Undrained_b0 n (k : Nat) w d t b (pipes l) (ints .i64 g)) (G := keepI fun k => !pipeB l (endG w b t l k)) (R := fun g => ints .i64 g) w.toNat 0 1 (fun _ _ => keepI_len ..) (fun acc => by
        simp only [l_spec_Undrained_b0]
        rw [w64 w (by omega)]
        exact ev_f (by simp; omega) ev_some) (fun k acc hk hl a ih => by
        simp only [l_spec_Undrained_b0]
        rw [w64 w (by omega), up64 k (by omega)]
        refine ev_t (by simp; omega) (ev_bnd (l06End_ok hV k (by omega)) (ev_bnd (l06Pipe_ok H _) ?_))
        unfold keepI at ih
        dsimp only at ih
        refine ev_cnd (fun c => ?_) (fun c => ?_)
        · rw [if_neg (by rw [c]; simp), List.append_nil] at ih
          exact ih
        · rw [if_pos (by rw [c]; rfl), ints_app] at ih
          exact ev_chk (by simp [ints_length]; omega) ih) [] (by simp)
      exact this
    · unfold s_impl_Gutter_which__Undrained_1
      refine ev_bnd (gcells_ok hV) (ev_bnd (a := ints .i64 (keptI (fun k => !pipeB l (endG w b t l k)) w.toNat)) ?_ ev_some)
      have hl : (ints .i64 ((List.range' 0 w.toNat).map fun (i : Nat) => (i : Int))).length = w.toNat := by simp [ints_length]
      rw [hl]
      have := loop_cat (l := fun n k g => l_impl_Gutter_which__Undrained_1_b0 n w d t b (pipes l) (w.toNat : Nat) (k : Nat) (ints .i64 g) (ints .i64 ((List.range' 0 w.toNat).map fun (i : Nat) => (i : Int)))) (G := keepI fun k => !pipeB l (endG w b t l k)) (R := fun g => ints .i64 g) w.toNat 0 1 (fun _ _ => keepI_len ..) (fun acc => ev_f (by simp) ev_some) (fun k acc hk hl2 a ih => by
        refine ev_t (by simp; omega) (ev_chk (inB_k _ _ (by rw [hl]; exact hk)) (ev_bnd (a := (k : Int)) (ev_of fun n => by rw [Int.toNat_natCast, nth_upTo _ _ hk]; rfl) (ev_bnd (a := !pipeB l (endG w b t l k)) (by
          unfold s_impl_Undrained_1
          exact ev_bnd (end_ok hV k (by omega)) (ev_bnd (hasPipe_ok H _) ev_some)) ?_)))
        rw [up64 k (by omega)]
        unfold keepI at ih
        dsimp only at ih
        refine ev_cnd (fun c => ?_) (fun c => ?_)
        · rw [if_pos c, ints_app] at ih
          exact ev_chk (by simp [ints_length]; omega) ih
        · rw [if_neg (by rw [c]; simp), List.append_nil] at ih
          exact ih) [] (by simp)
      exact this
theorem BasinOf_two {w d b : Int} {t : Nat → Int} {l : List (Int × Int)} (H : GutT w d b t l) (c : Int) : ∃ (q : List Int) (y : Int), q.length ≤ 1000 ∧ Ev (fun n => s_spec_BasinOf n w d t b (pipes l) c) (ints .i64 q, y) ∧ Ev (fun n => s_impl_BasinOf n w d t b (pipes l) c) (ints .i64 q, y) := by
  unfold s_spec_BasinOf s_impl_BasinOf
  by_cases hz : gutC w d b t l (inG w c) = 0
  · obtain ⟨hg, _⟩ := gutC_zero hz
    have hV : GutV w d b t l := ⟨H, hg⟩
    have hb := hV.b
    have hk := keptI_len (fun k => decide ((endG w b t l k : Int) = c)) w.toNat
    refine ⟨keptI (fun k => decide ((endG w b t l k : Int) = c)) w.toNat, 0, by omega, ev_bnd (ev_of fun n => l06Cell_eq n H _) (ev_bnd (l06Asked_ok H _) (ev_t (by simpa using hz) (ev_bnd (a := ints .i64 (keptI (fun k => decide ((endG w b t l k : Int) = c)) w.toNat)) ?_ ev_some))), ev_bnd (ev_of fun n => isIn_eq n H _) (ev_bnd (gutterCode_ok H _) (ev_t (by simpa using hz) (ev_bnd (a := ints .i64 (keptI (fun k => decide ((endG w b t l k : Int) = c)) w.toNat)) ?_ (ev_chk (plain_fresh _ _ _) ev_some))))⟩
    · have := loop_cat (l := fun n k g => l_spec_BasinOf_b0 n c (k : Nat) w d t b (pipes l) (ints .i64 g)) (G := keepI fun k => decide ((endG w b t l k : Int) = c)) (R := fun g => ints .i64 g) w.toNat 0 1 (fun _ _ => keepI_len ..) (fun acc => by
        simp only [l_spec_BasinOf_b0]
        rw [w64 w (by omega)]
        exact ev_f (by simp; omega) ev_some) (fun k acc hk hl a ih => by
        simp only [l_spec_BasinOf_b0]
        rw [w64 w (by omega), up64 k (by omega)]
        refine ev_t (by simp; omega) (ev_bnd (l06End_ok hV k (by omega)) ?_)
        unfold keepI at ih
        dsimp only at ih
        refine ev_cnd (fun c => ?_) (fun c => ?_)
        · rw [if_pos c, ints_app] at ih
          exact ev_chk (by simp [ints_length]; omega) ih
        · rw [if_neg (by rw [c]; simp), List.append_nil] at ih
          exact ih) [] (by simp)
      exact this
    · unfold s_impl_Gutter_which__BasinOf_1
      refine ev_bnd (gcells_ok hV) (ev_bnd (a := ints .i64 (keptI (fun k => decide ((endG w b t l k : Int) = c)) w.toNat)) ?_ ev_some)
      have hl : (ints .i64 ((List.range' 0 w.toNat).map fun (i : Nat) => (i : Int))).length = w.toNat := by simp [ints_length]
      rw [hl]
      have := loop_cat (l := fun n k g => l_impl_Gutter_which__BasinOf_1_b0 n w d t b (pipes l) c (w.toNat : Nat) (k : Nat) (ints .i64 g) (ints .i64 ((List.range' 0 w.toNat).map fun (i : Nat) => (i : Int)))) (G := keepI fun k => decide ((endG w b t l k : Int) = c)) (R := fun g => ints .i64 g) w.toNat 0 1 (fun _ _ => keepI_len ..) (fun acc => ev_f (by simp) ev_some) (fun k acc hk hl2 a ih => by
        refine ev_t (by simp; omega) (ev_chk (inB_k _ _ (by rw [hl]; exact hk)) (ev_bnd (a := (k : Int)) (ev_of fun n => by rw [Int.toNat_natCast, nth_upTo _ _ hk]; rfl) (ev_bnd (a := decide ((endG w b t l k : Int) = c)) (by
          unfold s_impl_BasinOf_1
          exact ev_bnd (end_ok hV k (by omega)) ev_some) ?_)))
        rw [up64 k (by omega)]
        unfold keepI at ih
        dsimp only at ih
        refine ev_cnd (fun c => ?_) (fun c => ?_)
        · rw [if_pos c, ints_app] at ih
          exact ev_chk (by simp [ints_length]; omega) ih
        · rw [if_neg (by rw [c]; simp), List.append_nil] at ih
          exact ih) [] (by simp)
      exact this
  · exact ⟨[], gutC w d b t l (inG w c), by simp, ev_bnd (ev_of fun n => l06Cell_eq n H _) (ev_bnd (l06Asked_ok H _) (ev_f (by simpa using hz) ev_some)), ev_bnd (ev_of fun n => isIn_eq n H _) (ev_bnd (gutterCode_ok H _) (ev_f (by simpa using hz) ev_some))⟩
theorem law_FnExactFlowsTo {w d b : Int} {t : Nat → Int} {xs : List V} (hw : (Lit.int .i8 w).wf = true) (hd : (Lit.int .i16 d).wf = true) (ht : ∀ j, j < 17 → (Lit.int .i8 (t j)).wf = true) (hb : (Lit.int .u32 b).wf = true) (hx : PipeW xs)
    : Ev (fun n => s_laws_FnExactFlowsTo n w d t b xs) true := by
  obtain ⟨l, rfl, hl⟩ := prs_of hx.2
  have n1 : l.length ≤ 9223372036854775807 := by have := hx.1; rw [prs_length] at this; simpa [maxLen] using this
  unfold s_laws_FnExactFlowsTo
  refine ev_bnd (szGutter_ok w d b t l 1048576 (by omega) n1) ?_
  by_cases h1 : (1048576 : Int) < l.length
  · rw [if_pos h1]; exact ev_t (by simp) ev_some
  · rw [if_neg h1]
    obtain ⟨t', e1, e2⟩ := toGutter_ok w d b t l (by omega)
    have H : GutT w d b t' l := .mk' hw hd ht e1 hl (by omega)
    obtain ⟨q, y, hq, k1, k2⟩ := FlowsTo_two H
    obtain ⟨l', m, m1, m2, m3⟩ := markGutter_ok w d b t' l (by omega)
    have hm := markInt64S_ok q 1 (by omega)
    have hh := heldInt64S_ok q.length 1 (by omega)
    have hq2 := eqInt64S_ok q (by omega)
    refine ev_f (by simp; omega) (ev_bnd e2 (ev_bnd k1 (ev_chk (plain_two ..) (ev_bnd e2 (ev_bnd k2 (ev_chk (plain_two ..) (ev_bnd hq2 (ev_t rfl (ev_t (by simp) ?_)))))))))
    refine ev_bnd e2 (ev_bnd (eqGutter_ok _ _ _ _ _ (by omega)) (ev_t rfl (ev_bnd m3 (ev_chk (like_prs _ _ _ _ m1.symm) (ev_f (by simp; omega) ?_)))))
    refine ev_bnd hq2 (ev_t rfl (ev_bnd hm (ev_chk (like_ints _ _ _ (by rw [marks_length])) (ev_bnd hh (ev_f (by simp; omega) (ev_t (by simp) ?_))))))
    exact ev_bnd e2 (ev_bnd k2 (ev_chk (plain_two ..) (ev_bnd hq2 (ev_t rfl (ev_t (by simp) (ev_bnd hh (ev_f (by simp; omega) (ev_t (by simp) ev_some))))))))
theorem law_FnExactUndrained {w d b : Int} {t : Nat → Int} {xs : List V} (hw : (Lit.int .i8 w).wf = true) (hd : (Lit.int .i16 d).wf = true) (ht : ∀ j, j < 17 → (Lit.int .i8 (t j)).wf = true) (hb : (Lit.int .u32 b).wf = true) (hx : PipeW xs)
    : Ev (fun n => s_laws_FnExactUndrained n w d t b xs) true := by
  obtain ⟨l, rfl, hl⟩ := prs_of hx.2
  have n1 : l.length ≤ 9223372036854775807 := by have := hx.1; rw [prs_length] at this; simpa [maxLen] using this
  unfold s_laws_FnExactUndrained
  refine ev_bnd (szGutter_ok w d b t l 1048576 (by omega) n1) ?_
  by_cases h1 : (1048576 : Int) < l.length
  · rw [if_pos h1]; exact ev_t (by simp) ev_some
  · rw [if_neg h1]
    obtain ⟨t', e1, e2⟩ := toGutter_ok w d b t l (by omega)
    have H : GutT w d b t' l := .mk' hw hd ht e1 hl (by omega)
    obtain ⟨q, y, hq, k1, k2⟩ := Undrained_two H
    obtain ⟨l', m, m1, m2, m3⟩ := markGutter_ok w d b t' l (by omega)
    have hm := markInt64S_ok q 1 (by omega)
    have hh := heldInt64S_ok q.length 1 (by omega)
    have hq2 := eqInt64S_ok q (by omega)
    refine ev_f (by simp; omega) (ev_bnd e2 (ev_bnd k1 (ev_chk (plain_two ..) (ev_bnd e2 (ev_bnd k2 (ev_chk (plain_two ..) (ev_bnd hq2 (ev_t rfl (ev_t (by simp) ?_)))))))))
    refine ev_bnd e2 (ev_bnd (eqGutter_ok _ _ _ _ _ (by omega)) (ev_t rfl (ev_bnd m3 (ev_chk (like_prs _ _ _ _ m1.symm) (ev_f (by simp; omega) ?_)))))
    refine ev_bnd hq2 (ev_t rfl (ev_bnd hm (ev_chk (like_ints _ _ _ (by rw [marks_length])) (ev_bnd hh (ev_f (by simp; omega) (ev_t (by simp) ?_))))))
    exact ev_bnd e2 (ev_bnd k2 (ev_chk (plain_two ..) (ev_bnd hq2 (ev_t rfl (ev_t (by simp) (ev_bnd hh (ev_f (by simp; omega) (ev_t (by simp) ev_some))))))))
theorem law_FnExactBasinOf {w d b c : Int} {t : Nat → Int} {xs : List V} (hw : (Lit.int .i8 w).wf = true) (hd : (Lit.int .i16 d).wf = true) (ht : ∀ j, j < 17 → (Lit.int .i8 (t j)).wf = true) (hb : (Lit.int .u32 b).wf = true) (hx : PipeW xs)
    (hc : (Lit.int .i64 c).wf = true) : Ev (fun n => s_laws_FnExactBasinOf n w d t b xs c ) true := by
  obtain ⟨l, rfl, hl⟩ := prs_of hx.2
  have n1 : l.length ≤ 9223372036854775807 := by have := hx.1; rw [prs_length] at this; simpa [maxLen] using this
  unfold s_laws_FnExactBasinOf
  refine ev_bnd (szGutter_ok w d b t l 1048576 (by omega) n1) ?_
  by_cases h1 : (1048576 : Int) < l.length
  · rw [if_pos h1]; exact ev_t (by simp) ev_some
  · rw [if_neg h1]
    obtain ⟨t', e1, e2⟩ := toGutter_ok w d b t l (by omega)
    have H : GutT w d b t' l := .mk' hw hd ht e1 hl (by omega)
    obtain ⟨q, y, hq, k1, k2⟩ := BasinOf_two H c 
    obtain ⟨l', m, m1, m2, m3⟩ := markGutter_ok w d b t' l (by omega)
    have hm := markInt64S_ok q 1 (by omega)
    have hh := heldInt64S_ok q.length 1 (by omega)
    have hq2 := eqInt64S_ok q (by omega)
    refine ev_f (by simp; omega) (ev_bnd e2 (ev_bnd k1 (ev_chk (plain_two ..) (ev_bnd e2 (ev_bnd k2 (ev_chk (plain_two ..) (ev_bnd hq2 (ev_t rfl (ev_t (by simp) ?_)))))))))
    refine ev_bnd e2 (ev_bnd (eqGutter_ok _ _ _ _ _ (by omega)) (ev_t rfl (ev_bnd m3 (ev_chk (like_prs _ _ _ _ m1.symm) (ev_f (by simp; omega) ?_)))))
    refine ev_bnd hq2 (ev_t rfl (ev_bnd hm (ev_chk (like_ints _ _ _ (by rw [marks_length])) (ev_bnd hh (ev_f (by simp; omega) (ev_t (by simp) ?_))))))
    exact ev_bnd e2 (ev_bnd k2 (ev_chk (plain_two ..) (ev_bnd hq2 (ev_t rfl (ev_t (by simp) (ev_bnd hh (ev_f (by simp; omega) (ev_t (by simp) ev_some))))))))
def gi (l : List Int) (j : Nat) : Int := l.getD j 0
theorem gi_get {l : List Int} {j : Nat} (h : j < l.length) : l[j] = gi l j := by
  unfold gi; rw [List.getD_eq_getElem?_getD, List.getElem?_eq_getElem h]; rfl
theorem idx_gi (k : IntKind) (l : List Int) (j : Nat) (h : j < l.length) : idx (ints k l) (j : Int) = some (V.int k (gi l j)) := by
  rw [idx_ints _ _ _ h, gi_get h]
theorem nth_gi (k : IntKind) (l : List Int) (j : Nat) (h : j < l.length) : nth (ints k l) j = some (V.int k (gi l j)) := by
  rw [nth_ints _ _ _ h, gi_get h]
theorem ints_of {k : IntKind} : ∀ {xs : List V}, (∀ x, x ∈ xs → inL [.int k] [x]) → ∃ l, xs = ints k l ∧ ∀ y, y ∈ l → (Lit.int k y).wf = true
  | [], _ => ⟨[], rfl, fun p hp => by cases hp⟩
  | x :: xs, h => by
    obtain ⟨l, rfl, e⟩ := ints_of (xs := xs) fun y hy => h y (List.mem_cons_of_mem _ hy)
    have hm := h x (List.mem_cons_self ..)
    simp only [inL, inP] at hm
    obtain ⟨v, r, e1, ⟨a, rfl, ha⟩, rfl⟩ := hm
    obtain ⟨rfl, _⟩ := List.cons.inj e1
    refine ⟨a :: l, rfl, fun p hp => ?_⟩
    rcases List.mem_cons.1 hp with rfl | hp
    · exact ha
    · exact e p hp
theorem rep_ints (k : IntKind) (n : Nat) : List.replicate n (V.int k 0) = ints k (List.replicate n 0) := by simp [ints]
theorem eqInt64S_okL (l : List Int) (hl : l.length ≤ 1048576) : Ev (fun n => s_laws_eqInt64S n (ints .i64 l) (ints .i64 l)) true := by
  unfold s_laws_eqInt64S
  refine ev_t (by simp) (ev_bnd (a := Sum.inl ()) ?_ ev_some)
  have := loop_all (l := fun n k => l_laws_eqInt64S_b0 n (ints .i64 l) (ints .i64 l) (k : Nat)) (p := fun _ => true) (A := .inl ()) (B := .inr false) l.length (ev_f (by simp [ints_length]) ev_some) (by
    intro k hk _ a ih
    refine ev_t (by simp [ints_length]; omega) (ev_bnd (a := gi l k) (ev_of fun n => by rw [idx_gi _ _ _ hk]; rfl) (ev_bnd (a := gi l k) (ev_of fun n => by rw [idx_gi _ _ _ hk]; rfl) (ev_t (by simp) ?_)))
    rw [up64 k (by omega)]
    exact ih) (by intro k hk h; cases h) l.length 0 (by omega)
  have h2 : allN (fun _ => true) 0 l.length = true := (allN_iff _ _ _).2 fun _ _ _ => rfl
  rw [h2] at this
  exact this
theorem GutV.p {w d b : Int} {t : Nat → Int} {l : List (Int × Int)} (H : GutV w d b t l) : (0 ≤ d ∧ d ≤ 1000) ∧ l.length ≤ 4 ∧ ∀ j, j < l.length → (0 ≤ (pr l j).1 ∧ (pr l j).1 < w) ∧ (0 ≤ (pr l j).2 ∧ (pr l j).2 ≤ 1000) := by
  have := H.ok
  simp only [gutOk, gutHead, Bool.and_eq_true, decide_eq_true_eq, allN_iff, gpipe] at this
  exact ⟨this.1.2.1, this.1.2.2.2, fun j hj => ⟨(this.2.2 j (by omega) (by omega)).1.1, (this.2.2 j (by omega) (by omega)).1.2⟩⟩
theorem GutV.bare {w d b : Int} {t : Nat → Int} {l : List (Int × Int)} (H : GutV w d b t l) : GutV w d b t [] := by
  refine ⟨⟨H.bw, H.bd, H.bt, fun j hj => by simp at hj, by simp⟩, ?_⟩
  have := H.ok
  simp only [gutOk, gutHead, Bool.and_eq_true] at this ⊢
  exact ⟨⟨this.1.1, this.1.2.1, this.1.2.2.1, by simp⟩, this.2.1, rfl⟩
theorem FewestPipes_two {w d b : Int} {t : Nat → Int} {l : List (Int × Int)} (H : GutT w d b t l) : ∃ (q : List Int) (y : Int), q.length ≤ 1000 ∧ Ev (fun n => s_spec_FewestPipes n w d t b (pipes l)) (ints .i64 q, y) ∧ Ev (fun n => s_impl_FewestPipes n w d t b (pipes l)) (ints .i64 q, y) := by
  unfold s_spec_FewestPipes s_impl_FewestPipes
  have k1 := l06Ok_ok H
  have k2 := ValidGutter_ok H
  cases hg : gutOk w d b t l with
  | false =>
    rw [hg] at k1 k2
    exact ⟨[], 1, by simp, ev_bnd k1 (ev_f rfl ev_some), ev_bnd k2 (ev_f rfl ev_some)⟩
  | true =>
    rw [hg] at k1 k2
    have hV : GutV w d b t l := ⟨H, hg⟩
    have hB := hV.bare
    have hb := hV.b
    have hk := keptI_len (fun k => decide (flow w b t [] k = -1)) w.toNat
    refine ⟨keptI (fun k => decide (flow w b t [] k = -1)) w.toNat, 0, by omega, ev_bnd k1 (ev_t rfl (ev_bnd (a := ints .i64 (keptI (fun k => decide (flow w b t [] k = -1)) w.toNat)) ?_ ev_some)), ev_bnd k2 (ev_t rfl (ev_bnd (a := ints .i64 (keptI (fun k => decide (flow w b t [] k = -1)) w.toNat)) ?_ (ev_chk (plain_fresh _ _ _) ev_some)))⟩
    · have := loop_cat (l := fun n k g => l_spec_FewestPipes_b0 n (k : Nat) w d t b (pipes l) (ints .i64 g) w d t b (pipes [])) (G := keepI fun k => decide (flow w b t [] k = -1)) (R := fun g => ints .i64 g) w.toNat 0 1 (fun _ _ => keepI_len ..) (fun acc => by
        simp only [l_spec_FewestPipes_b0]
        rw [w64 w (by omega)]
        exact ev_f (by simp; omega) ev_some) (fun k acc hk hl a ih => by
        simp only [l_spec_FewestPipes_b0]
        rw [w64 w (by omega), up64 k (by omega)]
        have hf := flow_b (w := w) (b := b) (t := t) (l := []) (k := k) (by omega)
        refine ev_t (by simp; omega) (ev_bnd (l06To_ok hB k (by omega)) ?_)
        unfold keepI at ih
        dsimp only at ih
        refine ev_cnd (fun c => ?_) (fun c => ?_)
        · simp only [decide_eq_true_eq] at c
          rw [if_pos (by simp; omega), ints_app] at ih
          exact ev_chk (by simp [ints_length]; omega) ih
        · simp only [decide_eq_false_iff_not] at c
          rw [if_neg (by simp; omega), List.append_nil] at ih
          exact ih) [] (by simp)
      exact this
    · unfold s_impl_Gutter_which__FewestPipes_1
      refine ev_bnd (gcells_ok hB) (ev_bnd (a := ints .i64 (keptI (fun k => decide (flow w b t [] k = -1)) w.toNat)) ?_ ev_some)
      have hl : (ints .i64 ((List.range' 0 w.toNat).map fun (i : Nat) => (i : Int))).length = w.toNat := by simp [ints_length]
      rw [hl]
      have := loop_cat (l := fun n k g => l_impl_Gutter_which__FewestPipes_1_b0 n w d t b (pipes []) (w.toNat : Nat) (k : Nat) (ints .i64 g) (ints .i64 ((List.range' 0 w.toNat).map fun (i : Nat) => (i : Int)))) (G := keepI fun k => decide (flow w b t [] k = -1)) (R := fun g => ints .i64 g) w.toNat 0 1 (fun _ _ => keepI_len ..) (fun acc => ev_f (by simp) ev_some) (fun k acc hk hl2 a ih => by
        refine ev_t (by simp; omega) (ev_chk (inB_k _ _ (by rw [hl]; exact hk)) (ev_bnd (a := (k : Int)) (ev_of fun n => by rw [Int.toNat_natCast, nth_upTo _ _ hk]; rfl) (ev_bnd (a := decide (flow w b t [] k = -1)) (by
          unfold s_impl_FewestPipes_1
          exact ev_bnd (flowsTo_ok hB k (by omega)) ev_some) ?_)))
        rw [up64 k (by omega)]
        unfold keepI at ih
        dsimp only at ih
        refine ev_cnd (fun c => ?_) (fun c => ?_)
        · rw [if_pos c, ints_app] at ih
          exact ev_chk (by simp [ints_length]; omega) ih
        · rw [if_neg (by rw [c]; simp), List.append_nil] at ih
          exact ih) [] (by simp)
      exact this
theorem law_FnExactFewestPipes {w d b : Int} {t : Nat → Int} {xs : List V} (hw : (Lit.int .i8 w).wf = true) (hd : (Lit.int .i16 d).wf = true) (ht : ∀ j, j < 17 → (Lit.int .i8 (t j)).wf = true) (hb : (Lit.int .u32 b).wf = true) (hx : PipeW xs)
    : Ev (fun n => s_laws_FnExactFewestPipes n w d t b xs) true := by
  obtain ⟨l, rfl, hl⟩ := prs_of hx.2
  have n1 : l.length ≤ 9223372036854775807 := by have := hx.1; rw [prs_length] at this; simpa [maxLen] using this
  unfold s_laws_FnExactFewestPipes
  refine ev_bnd (szGutter_ok w d b t l 1048576 (by omega) n1) ?_
  by_cases h1 : (1048576 : Int) < l.length
  · rw [if_pos h1]; exact ev_t (by simp) ev_some
  · rw [if_neg h1]
    obtain ⟨t', e1, e2⟩ := toGutter_ok w d b t l (by omega)
    have H : GutT w d b t' l := .mk' hw hd ht e1 hl (by omega)
    obtain ⟨q, y, hq, k1, k2⟩ := FewestPipes_two H
    obtain ⟨l', m, m1, m2, m3⟩ := markGutter_ok w d b t' l (by omega)
    have hm := markInt64S_ok q 1 (by omega)
    have hh := heldInt64S_ok q.length 1 (by omega)
    have hq2 := eqInt64S_ok q (by omega)
    refine ev_f (by simp; omega) (ev_bnd e2 (ev_bnd k1 (ev_chk (plain_two ..) (ev_bnd e2 (ev_bnd k2 (ev_chk (plain_two ..) (ev_bnd hq2 (ev_t rfl (ev_t (by simp) ?_)))))))))
    refine ev_bnd e2 (ev_bnd (eqGutter_ok _ _ _ _ _ (by omega)) (ev_t rfl (ev_bnd m3 (ev_chk (like_prs _ _ _ _ m1.symm) (ev_f (by simp; omega) ?_)))))
    refine ev_bnd hq2 (ev_t rfl (ev_bnd hm (ev_chk (like_ints _ _ _ (by rw [marks_length])) (ev_bnd hh (ev_f (by simp; omega) (ev_t (by simp) ?_))))))
    exact ev_bnd e2 (ev_bnd k2 (ev_chk (plain_two ..) (ev_bnd hq2 (ev_t rfl (ev_t (by simp) (ev_bnd hh (ev_f (by simp; omega) (ev_t (by simp) ev_some))))))))
-- two loops, round by round
theorem lock {σ α β : Type} {l1 : Nat → Nat → σ → Option α} {l2 : Nat → Nat → σ → Option β} {I : Nat → σ → Prop} {R1 : σ → α} {R2 : σ → β} (N : Nat)
    (h1 : ∀ s, I N s → Ev (fun n => l1 (n + 1) N s) (R1 s)) (h2 : ∀ s, I N s → Ev (fun n => l2 (n + 1) N s) (R2 s))
    (hs : ∀ k s, k < N → I k s → ∃ s', I (k + 1) s' ∧ (∀ a, Ev (fun n => l1 n (k + 1) s') a → Ev (fun n => l1 (n + 1) k s) a) ∧ (∀ a, Ev (fun n => l2 n (k + 1) s') a → Ev (fun n => l2 (n + 1) k s) a)) :
    ∀ (d k : Nat) (s : σ), k + d = N → I k s → ∃ s', I N s' ∧ Ev (fun n => l1 n k s) (R1 s') ∧ Ev (fun n => l2 n k s) (R2 s') := by
  intro d
  induction d with
  | zero => intro k s hk hi; obtain rfl : k = N := by omega
            exact ⟨s, hi, ev_succ (h1 s hi), ev_succ (h2 s hi)⟩
  | succ d ih =>
    intro k s hk hi
    obtain ⟨s', a1, a2, a3⟩ := hs k s (by omega) hi
    obtain ⟨s2, b1, b2, b3⟩ := ih (k + 1) s' (by omega) a1
    exact ⟨s2, b1, ev_succ (a2 _ b2), ev_succ (a3 _ b3)⟩
theorem ix (k : Nat) : 0 + (k : Int).toNat * 1 = k := by simp
theorem ixi (c : Int) : 0 + c.toNat * 1 = c.toNat := by omega
theorem ix0 (k : Nat) : (k : Int).toNat * 1 = k := by simp
def WB (m : Int) (v : Nat → Int) : Prop := ∀ j, j < 17 → 0 ≤ v j ∧ v j ≤ m
/-- water that is valid for a gutter -/
def WOk (w d : Int) (v : Nat → Int) : Prop := ∀ j, j < 17 → (0 ≤ v j ∧ v j ≤ d) ∧ (w ≤ (j : Int) → v j = 0)
theorem rain_two {w d b : Int} {t : Nat → Int} {xs : List V} {q : List Int} (hq : ∀ j, j < q.length → 0 ≤ gi q j ∧ gi q j ≤ 1000) (hn : q.length ≤ 17) {v : Nat → Int} (hv : WB 1000 v) (f : Nat → Int) :
    ∃ v', WB 2000 v' ∧ Ev (fun n => l_spec_l06Minute_b0 n w d t b xs (ints .i64 q) 0 v) (w, d, t, b, xs, v') ∧ Ev (fun n => l_impl_Gutter_minute_b0 n (ints .i64 q) (q.length : Int) 0 w d t b xs v f) (w, d, t, b, xs, v', f) := by
  obtain ⟨v', a1, a2, a3⟩ := lock (l1 := fun n k v => l_spec_l06Minute_b0 n w d t b xs (ints .i64 q) (k : Nat) v) (l2 := fun n k v => l_impl_Gutter_minute_b0 n (ints .i64 q) (q.length : Int) (k : Nat) w d t b xs v f) (I := fun k v => ∀ j, j < 17 → 0 ≤ v j ∧ v j ≤ (if j < k then 2000 else 1000)) (R1 := fun v => (w, d, t, b, xs, v)) (R2 := fun v => (w, d, t, b, xs, v, f)) q.length
    (fun v _ => ev_f (by simp [ints_length]) ev_some) (fun v _ => ev_f (by simp) ev_some) (fun k v hk hi => by
      have b1 := hq k hk
      have b2 := hi k (by omega)
      rw [if_neg (by omega)] at b2
      refine ⟨updC v k (v k + gi q k), fun j hj => ?_, fun a ih => ?_, fun a ih => ?_⟩
      · rw [updC_at]
        have b3 := hi j hj
        split
        · subst j; rw [if_pos (by omega)]; omega
        · by_cases hjk : j < k
          · rw [if_pos hjk] at b3; rw [if_pos (by omega)]; exact b3
          · rw [if_neg hjk] at b3; rw [if_neg (by omega)]; exact b3
      · refine ev_t (by simp [ints_length]; omega) (ev_chk (inB_k _ _ (by omega)) (ev_bnd (a := gi q k) (ev_of fun n => by rw [idx_gi _ _ _ hk]; rfl) ?_))
        rw [ix, up64 k (by omega), w32 (gi q k) (by omega), w32 _ (by omega)]
        exact ih
      · refine ev_t (by simp; omega) (ev_bnd (a := gi q k) (ev_of fun n => by rw [idx_gi _ _ _ hk]; rfl) (ev_chk (inB_k _ _ (by omega)) ?_))
        rw [ix, up64 k (by omega), w32 (gi q k) (by omega), w32 _ (by omega)]
        exact ih) q.length 0 v (by omega) (fun j hj => by rw [if_neg (by omega)]; exact hv j hj)
  refine ⟨v', fun j hj => ?_, a2, a3⟩
  have := a1 j hj
  split at this <;> omega
theorem pipes_two {w d b : Int} {t : Nat → Int} {l : List (Int × Int)} (H : GutV w d b t l) {v : Nat → Int} (hv : WB 2000 v) (f : Nat → Int) :
    ∃ (v' : Nat → Int) (m : Int), WB 2000 v' ∧ (∀ j : Nat, w ≤ (j : Int) → v' j = v j) ∧ Ev (fun n => l_spec_l06Minute_b2 n w d t b (pipes l) 0 0 v) (w, d, t, b, pipes l, m, v') ∧ Ev (fun n => l_impl_Gutter_minute_b2 n 0 0 (pipes l) (l.length : Int) 0 w d t b (pipes l) v f) (m, 0, w, d, t, b, pipes l, v', f) := by
  obtain ⟨hd, h4, hp⟩ := H.p
  have hb := H.b
  obtain ⟨⟨v', m⟩, a1, a2, a3⟩ := lock (σ := (Nat → Int) × Int) (l1 := fun n k s => l_spec_l06Minute_b2 n w d t b (pipes l) s.2 (k : Nat) s.1) (l2 := fun n k s => l_impl_Gutter_minute_b2 n s.2 0 (pipes l) (l.length : Int) (k : Nat) w d t b (pipes l) s.1 f)
    (I := fun k s => WB 2000 s.1 ∧ (∀ j : Nat, w ≤ (j : Int) → s.1 j = v j) ∧ 0 ≤ s.2 ∧ s.2 ≤ 2000 * k) (R1 := fun s => (w, d, t, b, pipes l, s.2, s.1)) (R2 := fun s => (s.2, 0, w, d, t, b, pipes l, s.1, f)) l.length
    (fun s _ => ev_f (by simp [prs_length]) ev_some) (fun s _ => ev_f (by simp) ev_some) (fun k s hk hi => by
      obtain ⟨i1, i2, i3, i4⟩ := hi
      obtain ⟨p1, p2⟩ := hp k hk
      have hg : ∀ n : Nat, bnd (idx (pipes l) ((k : Nat) : Int)) as_Pi8_i16Q = some ((pr l k).1, (pr l k).2) := fun n => by rw [idx_prs _ _ _ _ hk]; rfl
      generalize pr l k = p at p1 p2 hg
      obtain ⟨at1, tk⟩ := p
      dsimp only at p1 p2 hg
      obtain ⟨c, rfl⟩ := Int.eq_ofNat_of_zero_le p1.1
      have b1 := i1 c (by omega)
      have hmin : minI (s.1 c) tk = if s.1 c < tk then s.1 c else tk := by unfold minI; split <;> split <;> omega
      have hmb : 0 ≤ minI (s.1 c) tk ∧ minI (s.1 c) tk ≤ s.1 c := by rw [hmin]; split <;> omega
      refine ⟨(updC s.1 c (s.1 c - minI (s.1 c) tk), s.2 + minI (s.1 c) tk), ⟨fun j hj => ?_, fun j hj => ?_, by dsimp only; omega, by dsimp only; push_cast; omega⟩, fun a ih => ?_, fun a ih => ?_⟩
      · dsimp only
        rw [updC_at]
        have := i1 j hj
        split
        · subst j; omega
        · exact this
      · dsimp only
        rw [updC_at, if_neg (by intro h; subst h; omega)]
        exact i2 j hj
      · refine ev_t (by simp [prs_length]; omega) (ev_bnd (ev_of hg) (ev_chk (inB_k _ _ (by omega)) (ev_bnd (a := minI (s.1 c) tk) (ev_of fun n => ?_) ?_)))
        · rw [ix, w64 _ (by omega), w64 tk (by omega)]
          unfold s_spec_l00Min
          rw [hmin]
          by_cases hlt : s.1 c < tk <;> simp [cnd, hlt]
        · rw [ix, up64 k (by omega), w64 _ (by omega), w32 (minI _ _) (by omega), w32 _ (by omega)]
          exact ih
      · refine ev_t (by simp; omega) (ev_bnd (ev_of hg) (ev_chk (inB_k _ _ (by omega)) ?_))
        rw [ix, up64 k (by omega), w32 tk (by omega), w64 (minI _ _) (by omega), w64 _ (by omega), w32 _ (by omega)]
        exact ih) l.length 0 (v, 0) (by omega) ⟨hv, fun _ _ => rfl, by simp, by simp⟩
  exact ⟨v', m, a1.1, a1.2.1, a2, a3⟩
theorem flow_two {w d b : Int} {t : Nat → Int} {l : List (Int × Int)} (H : GutV w d b t l) {v : Nat → Int} (hv : WB 2000 v) (m : Int) (f : Nat → Int) :
    ∃ (o : Nat → Int), WB 34000 o ∧ (∀ j : Nat, w ≤ (j : Int) → o j = 0) ∧ Ev (fun n => l_spec_l06Minute_b4 n w d t b (pipes l) m 0 v (fun _ => 0)) (w, d, t, b, pipes l, m, v, o) ∧
      Ev (fun n => l_impl_Gutter_minute_b4 n m 0 (w.toNat : Int) 0 w d t b (pipes l) v f (fun _ => 0) (ints .i64 ((List.range' 0 w.toNat).map fun (i : Nat) => (i : Int)))) (m, 0, w, d, t, b, pipes l, f, o) := by
  have hb := H.b
  obtain ⟨o, a1, a2, a3⟩ := lock (l1 := fun n k o => l_spec_l06Minute_b4 n w d t b (pipes l) m (k : Nat) v o) (l2 := fun n k o => l_impl_Gutter_minute_b4 n m 0 (w.toNat : Int) (k : Nat) w d t b (pipes l) v f o (ints .i64 ((List.range' 0 w.toNat).map fun (i : Nat) => (i : Int))))
    (I := fun k o => (∀ j, j < 17 → 0 ≤ o j ∧ o j ≤ 2000 * k) ∧ (∀ j : Nat, w ≤ (j : Int) → o j = 0)) (R1 := fun o => (w, d, t, b, pipes l, m, v, o)) (R2 := fun o => (m, 0, w, d, t, b, pipes l, f, o)) w.toNat
    (fun o _ => by
      simp only [l_spec_l06Minute_b4]
      rw [w64 w (by omega)]
      exact ev_f (by simp; omega) ev_some) (fun o _ => ev_f (by simp) ev_some) (fun k o hk hi => by
      obtain ⟨i1, i2⟩ := hi
      have hl : (ints .i64 ((List.range' 0 w.toNat).map fun (i : Nat) => (i : Int))).length = w.toNat := by simp [ints_length]
      have b1 := hv k (by omega)
      have key : ∃ c : Nat, c < 17 ∧ (c : Int) < w ∧ ((flow w b t l k = -1 ∧ c = k) ∨ (0 ≤ flow w b t l k ∧ flow w b t l k = (c : Int))) := by
        rcases flow_b (b := b) (t := t) (l := l) (show (k : Int) < w by omega) with h | h
        · exact ⟨k, by omega, by omega, .inl ⟨h, rfl⟩⟩
        · exact ⟨(flow w b t l k).toNat, by omega, by omega, .inr ⟨h.1, by omega⟩⟩
      obtain ⟨c, c1, c2, c3⟩ := key
      have b2 := i1 c c1
      have hw32 : IntKind.i32.wrap (o c + v k) = o c + v k := w32 _ (by omega)
      refine ⟨updC o c (o c + v k), ⟨fun j hj => ?_, fun j hj => ?_⟩, fun a ih => ?_, fun a ih => ?_⟩
      · rw [updC_at]
        have := i1 j hj
        push_cast
        split
        · subst j; omega
        · omega
      · rw [updC_at, if_neg (by intro h; subst h; omega)]
        exact i2 j hj
      · show Ev (fun n => l_spec_l06Minute_b4 (n + 1) w d t b (pipes l) m (k : Nat) v o) a
        simp only [l_spec_l06Minute_b4]
        rw [w64 w (by omega), up64 k (by omega)]
        refine ev_t (by simp; omega) (ev_bnd (l06To_ok H k (by omega)) ?_)
        rcases c3 with ⟨c3, c4⟩ | ⟨c3, c4⟩
        · subst c4
          refine ev_t (by simp; omega) (ev_chk (inB_k _ _ (by omega)) ?_)
          rw [ix, hw32]; exact ih
        · rw [c4]
          refine ev_f (by simp) (ev_chk (inB_k _ _ (by omega)) (ev_chk (inB_k _ _ (by omega)) ?_))
          rw [ix, ix, hw32]; exact ih
      · refine ev_t (by simp; omega) (ev_chk (inB_k _ _ (by rw [hl]; exact hk)) (ev_bnd (a := (k : Int)) (ev_of fun n => by rw [Int.toNat_natCast, nth_upTo _ _ hk]; rfl) (ev_bnd (flowsTo_ok H k (by omega)) ?_)))
        rw [up64 k (by omega)]
        rcases c3 with ⟨c3, c4⟩ | ⟨c3, c4⟩
        · subst c4
          refine ev_t (by simpa using c3) (ev_chk (inB_k _ _ (by omega)) ?_)
          rw [ix, hw32]; exact ih
        · rw [c4]
          refine ev_f (by simp <;> omega) (ev_chk (inB_k _ _ (by omega)) (ev_chk (inB_k _ _ (by omega)) ?_))
          rw [ix, ix, hw32]; exact ih) w.toNat 0 (fun _ => 0) (by omega) ⟨fun j _ => by simp, fun _ _ => rfl⟩
  refine ⟨o, fun j hj => ?_, a1.2, a2, a3⟩
  have := a1.1 j hj
  omega
theorem over_loop {w d b : Int} {t : Nat → Int} {l : List (Int × Int)} (H : GutV w d b t l) {o : Nat → Int} (ho : WB 34000 o) (hz : ∀ j : Nat, w ≤ (j : Int) → o j = 0) (m : Int) (v f : Nat → Int) :
    ∃ (e : Nat → Int) (x : Int), WOk w d e ∧ 0 ≤ x ∧ Ev (fun n => l_spec_l06Minute_b6 n w d t b (pipes l) m 0 0 v o) (m, x, v, e) ∧ Ev (fun n => l_impl_Gutter_minute_b6 n m 0 o 0 w d t b (pipes l) f o) (m, x, f, e) := by
  have hb := H.b
  obtain ⟨hd, _, _⟩ := H.p
  -- beyond the cells nothing runs over
  have tail : ∀ (k : Nat) (e : Nat → Int) (x : Int), ∀ c, c + k = 17 → w ≤ (c : Int) → Ev (fun n => l_impl_Gutter_minute_b6 n m x o (c : Nat) w d t b (pipes l) f e) (m, x, f, e) := by
    intro k e x
    induction k with
    | zero =>
      intro c hc hw
      exact ev_succ (ev_f (by simp; omega) ev_some)
    | succ k ih =>
      intro c hc hw
      refine ev_succ (ev_t (by simp; omega) (ev_chk (inB_k _ _ (by omega)) ?_))
      rw [ix0, hz c hw, w32 d (by omega), w32 (0 - d) (by omega), up64 c (by omega)]
      exact ev_f (by simp; omega) (ih (c + 1) (by omega) (by omega))
  obtain ⟨s, a1, a2, a3⟩ := lock (σ := (Nat → Int) × Int) (l1 := fun n k s => l_spec_l06Minute_b6 n w d t b (pipes l) m s.2 (k : Nat) v s.1) (l2 := fun n k s => l_impl_Gutter_minute_b6 n m s.2 o (k : Nat) w d t b (pipes l) f s.1)
    (I := fun k s => (∀ j, k ≤ j → j < 17 → s.1 j = o j) ∧ (∀ j, j < k → 0 ≤ s.1 j ∧ s.1 j ≤ d) ∧ 0 ≤ s.2 ∧ s.2 ≤ 34000 * k) (R1 := fun s => (m, s.2, v, s.1)) (R2 := fun s => (m, s.2, f, s.1)) w.toNat
    (fun s _ => by
      simp only [l_spec_l06Minute_b6]
      rw [w64 w (by omega)]
      exact ev_f (by simp; omega) ev_some) (fun s _ => by
      obtain ⟨N, hN⟩ := tail (17 - w.toNat) s.1 s.2 w.toNat (by omega) (by omega)
      exact ⟨N, fun n hn => hN (n + 1) (by omega)⟩) (fun k s hk hi => by
      obtain ⟨i1, i2, i3, i4⟩ := hi
      have e0 := i1 k (Nat.le_refl _) (by omega)
      have b0 := ho k (by omega)
      by_cases hov : d < o k
      · refine ⟨(updC s.1 k d, s.2 + (o k - d)), ⟨fun j h1 h2 => ?_, fun j hj => ?_, by dsimp only; omega, by dsimp only; push_cast; omega⟩, fun a ih => ?_, fun a ih => ?_⟩
        · dsimp only
          rw [updC_at, if_neg (by omega)]; exact i1 j (by omega) h2
        · dsimp only
          rw [updC_at]; split
          · omega
          · exact i2 j (by omega)
        · show Ev (fun n => l_spec_l06Minute_b6 (n + 1) w d t b (pipes l) m s.2 (k : Nat) v s.1) a
          simp only [l_spec_l06Minute_b6]
          rw [w64 w (by omega), ix, e0, w64 (o k) (by omega), w64 d (by omega), w64 (o k - d) (by omega), up64 k (by omega), w64 (s.2 + (o k - d)) (by omega), w32 d (by omega)]
          exact ev_t (by simp; omega) (ev_chk (inB_k _ _ (by omega)) (ev_t (by simp; omega) ih))
        · refine ev_t (by simp; omega) (ev_chk (inB_k _ _ (by omega)) ?_)
          rw [ix0, Nat.zero_add, w32 d (by omega), w32 (o k - d) (by omega), w64 (o k - d) (by omega), up64 k (by omega), w64 (s.2 + (o k - d)) (by omega)]
          exact ev_t (by simp; omega) ih
      · refine ⟨s, ⟨fun j h1 h2 => i1 j (by omega) h2, fun j hj => ?_, i3, by push_cast; omega⟩, fun a ih => ?_, fun a ih => ?_⟩
        · by_cases hjk : j = k
          · subst hjk; omega
          · exact i2 j (by omega)
        · show Ev (fun n => l_spec_l06Minute_b6 (n + 1) w d t b (pipes l) m s.2 (k : Nat) v s.1) a
          simp only [l_spec_l06Minute_b6]
          rw [w64 w (by omega), ix, e0, w64 (o k) (by omega), w64 d (by omega), w64 (o k - d) (by omega), up64 k (by omega)]
          exact ev_t (by simp; omega) (ev_chk (inB_k _ _ (by omega)) (ev_f (by simp; omega) ih))
        · refine ev_t (by simp; omega) (ev_chk (inB_k _ _ (by omega)) ?_)
          rw [ix0, w32 d (by omega), w32 (o k - d) (by omega), up64 k (by omega)]
          exact ev_f (by simp; omega) ih) w.toNat 0 (o, 0) (by omega) ⟨fun _ _ _ => rfl, fun j hj => by omega, by simp, by simp⟩
  refine ⟨s.1, s.2, fun j hj => ?_, a1.2.2.1, a2, a3⟩
  by_cases hjw : j < w.toNat
  · exact ⟨a1.2.1 j hjw, fun h => by omega⟩
  · have h1 := a1.1 j (by omega) hj
    have h2 := hz j (by omega)
    rw [h1, h2]; exact ⟨by omega, fun _ => rfl⟩
/-- a minute, on both sides -/
theorem minute_two {w d b : Int} {t : Nat → Int} {l : List (Int × Int)} (H : GutV w d b t l) {q : List Int} (hq : ∀ j, j < q.length → 0 ≤ gi q j ∧ gi q j ≤ 1000) (hn : q.length ≤ 17) {v : Nat → Int} (hv : WOk w d v) :
    ∃ (m x : Int) (e : Nat → Int), WOk w d e ∧ 0 ≤ x ∧ Ev (fun n => s_spec_l06Minute n w d t b (pipes l) v (ints .i64 q)) (m, x, e) ∧ Ev (fun n => s_impl_Gutter_minute n w d t b (pipes l) v (ints .i64 q)) (e, m, x) := by
  have hb := H.b
  obtain ⟨hd, _, _⟩ := H.p
  unfold s_spec_l06Minute s_impl_Gutter_minute
  obtain ⟨v1, r1, r2, r3⟩ := rain_two (w := w) (d := d) (b := b) (t := t) (xs := pipes l) hq hn (v := v) (fun j hj => by have := hv j hj; omega) (fun _ => 0)
  obtain ⟨v2, m, p1, _, p2, p3⟩ := pipes_two H r1 (fun _ => 0)
  obtain ⟨o, o1, o2, o3, o4⟩ := flow_two H p1 m (fun _ => 0)
  obtain ⟨e, x, e1, e2, e3, e4⟩ := over_loop H o1 o2 m v2 (fun _ => 0)
  refine ⟨m, x, e, e1, e2, ev_bnd r2 (ev_bnd p2 (ev_bnd o3 (ev_bnd e3 ev_some))), ?_⟩
  rw [show ((ints .i64 q).length : Int) = (q.length : Int) by simp [ints_length]]
  refine ev_bnd r3 ?_
  dsimp only
  rw [show ((pipes l).length : Int) = (l.length : Int) by simp [prs_length]]
  refine ev_bnd p3 (ev_bnd (gcells_ok H) ?_)
  dsimp only
  rw [show ((ints .i64 ((List.range' 0 w.toNat).map fun (i : Nat) => (i : Int))).length : Int) = (w.toNat : Int) by simp [ints_length]]
  exact ev_bnd o4 (ev_bnd e4 ev_some)
theorem waterOk_W {w d b : Int} {t v : Nat → Int} {l : List (Int × Int)} (h : waterOk w d b t l v = true) : gutOk w d b t l = true ∧ WOk w d v := by
  simp only [waterOk, Bool.and_eq_true, allN_iff, wcell, Bool.or_eq_true, decide_eq_true_eq] at h
  refine ⟨h.1, fun j hj => ?_⟩
  have := h.2 j (by omega) (by omega)
  exact ⟨this.1, fun hw => by omega⟩
theorem drain_two {w d b : Int} {t : Nat → Int} {l : List (Int × Int)} (H : GutV w d b t l) : ∀ (c k : Nat) (v : Nat → Int), k + c = 201 → WOk w d v → ∃ x : Sum Unit (Int × Int), Ev (fun n => l_spec_DrainTime_b0 n k w d t b (pipes l) v) x ∧ Ev (fun n => l_impl_DrainTime_b0 n k w d t b (pipes l) v) x := by
  intro c
  induction c with
  | zero =>
    intro k v hk _
    exact ⟨.inl (), ev_succ (ev_f (by simp; omega) ev_some), ev_succ (ev_f (by simp; omega) ev_some)⟩
  | succ c ih =>
    intro k v hk hv
    cases hz : allEq 17 v (fun _ => 0) with
    | true => exact ⟨.inr ((k : Int), 0), ev_succ (ev_t (by simp; omega) (ev_t hz ev_some)), ev_succ (ev_t (by simp; omega) (ev_t hz ev_some))⟩
    | false =>
      obtain ⟨m, x, e, e1, _, e3, e4⟩ := minute_two H (q := []) (fun j hj => by simp at hj) (by simp) hv
      obtain ⟨y, y1, y2⟩ := ih (k + 1) e (by omega) e1
      refine ⟨y, ev_succ (ev_t (by simp; omega) (ev_f hz (ev_bnd e3 ?_))), ev_succ (ev_t (by simp; omega) (ev_f hz (ev_bnd e4 ?_)))⟩
      · dsimp only; rw [up64 k (by omega)]; exact y1
      · dsimp only; rw [up64 k (by omega)]; exact y2
theorem law_FnExactDrainTime {w d b : Int} {t v : Nat → Int} {xs : List V} (hw : (Lit.int .i8 w).wf = true) (hd : (Lit.int .i16 d).wf = true) (ht : ∀ j, j < 17 → (Lit.int .i8 (t j)).wf = true) (hb : (Lit.int .u32 b).wf = true) (hx : PipeW xs)
    (hv : ∀ j, j < 17 → (Lit.int .i32 (v j)).wf = true) : Ev (fun n => s_laws_FnExactDrainTime n w d t b xs v) true := by
  obtain ⟨l, rfl, hl⟩ := prs_of hx.2
  have n1 : l.length ≤ 9223372036854775807 := by have := hx.1; rw [prs_length] at this; simpa [maxLen] using this
  unfold s_laws_FnExactDrainTime
  refine ev_bnd (szGutter_ok w d b t l 1048576 (by omega) n1) ?_
  by_cases h1 : (1048576 : Int) < l.length
  · rw [if_pos h1]; exact ev_t (by simp) ev_some
  · rw [if_neg h1]
    obtain ⟨c, e1, e2⟩ := toGutter_ok w d b t l (by omega)
    obtain ⟨v', e3, e4⟩ := toWater_ok v
    have H : GutT w d b c l := .mk' hw hd ht e1 hl (by omega)
    have hv' : ∀ j, j < 17 → -2147483648 ≤ v' j ∧ v' j ≤ 2147483647 := fun j hj => by rw [e3 j hj]; exact wf_i32 (hv j hj)
    have k : ∃ (x y : Int), Ev (fun n => s_spec_DrainTime n w d c b (pipes l) v') (x, y) ∧ Ev (fun n => s_impl_DrainTime n w d c b (pipes l) v') (x, y) := by
      unfold s_spec_DrainTime s_impl_DrainTime s_impl_waterCode
      have k1 := l06Water_ok H hv'
      have k2 := ValidWater_ok H hv'
      cases hg : waterOk w d b c l v' with
      | false =>
        rw [hg] at k1 k2
        exact ⟨0, 1, ev_bnd k1 (ev_f rfl ev_some), ev_bnd (ev_bnd k2 (ev_f rfl ev_some)) (ev_f (by simp) ev_some)⟩
      | true =>
        rw [hg] at k1 k2
        obtain ⟨g1, g2⟩ := waterOk_W hg
        obtain ⟨x, y1, y2⟩ := drain_two ⟨H, g1⟩ 201 0 v' (by omega) g2
        cases x with
        | inl u => exact ⟨0, 6, ev_bnd k1 (ev_t rfl (ev_bnd y1 ev_some)), ev_bnd (ev_bnd k2 (ev_t rfl (ev_t rfl ev_some))) (ev_t (by simp) (ev_bnd y2 ev_some))⟩
        | inr p =>
          obtain ⟨p1, p2⟩ := p
          exact ⟨p1, p2, ev_bnd k1 (ev_t rfl (ev_bnd y1 ev_some)), ev_bnd (ev_bnd k2 (ev_t rfl (ev_t rfl ev_some))) (ev_t (by simp) (ev_bnd y2 ev_some))⟩
    obtain ⟨x, y, k1, k2⟩ := k
    refine ev_f (by simp; omega) (ev_bnd e2 (ev_bnd e4 (ev_bnd k1 (ev_bnd e2 (ev_bnd e4 (ev_bnd k2 (ev_t (by simp) (ev_t (by simp) ?_))))))))
    exact ev_bnd e2 (ev_bnd (eqGutter_ok _ _ _ _ _ (by omega)) (ev_t rfl ev_some))
-- rain
def deepQ (q : List Int) : Bool := allN (fun j => decide (0 ≤ gi q j ∧ gi q j ≤ 1000)) 0 q.length
def rainQ (w : Int) (q : List Int) : Bool := deepQ q && decide ((q.length : Int) = w)
theorem l06Rain_ok {w d b : Int} {t : Nat → Int} {l : List (Int × Int)} (H : GutT w d b t l) (q : List Int) (hq : q.length ≤ 1048576) : Ev (fun n => s_spec_l06Rain n w d t b (pipes l) (ints .i64 q)) (rainQ w q) := by
  unfold s_spec_l06Rain rainQ deepQ
  have hbw := H.bw
  have key := loop_all (l := fun n k => l_spec_l06Rain_b0 n w d t b (pipes l) (ints .i64 q) (k : Nat)) (p := fun j => decide (0 ≤ gi q j ∧ gi q j ≤ 1000)) (A := .inl (w, d, t, b, pipes l, ints .i64 q)) (B := .inr false) q.length (ev_f (by simp [ints_length]) ev_some) (by
    intro k hk hp a ih
    refine ev_t (by simp [ints_length]; omega) (ev_bnd (a := gi q k) (ev_of fun n => by rw [idx_gi _ _ _ hk]; rfl) (ev_bnd (ev_of fun n => l06Deep_eq n _) (ev_t hp ?_)))
    rw [up64 k (by omega)]; exact ih) (by
    intro k hk hp
    exact ev_t (by simp [ints_length]; omega) (ev_bnd (a := gi q k) (ev_of fun n => by rw [idx_gi _ _ _ hk]; rfl) (ev_bnd (ev_of fun n => l06Deep_eq n _) (ev_f hp ev_some)))) q.length 0 (by omega)
  refine ev_bnd key ?_
  cases allN (fun j => decide (0 ≤ gi q j ∧ gi q j ≤ 1000)) 0 q.length with
  | false => exact ev_some
  | true => refine ev_cast ev_some ?_; rw [w64 w (by omega), ints_length]; simp
theorem isDeep64_eq (n : Nat) (a : Int) : s_impl_isDeep_int64 n a = some (decide (0 ≤ a ∧ a ≤ 1000)) := by
  unfold s_impl_isDeep_int64; rw [within_i64]; simp [bnd_s]
theorem isRain_ok {w d b : Int} {t : Nat → Int} {l : List (Int × Int)} (H : GutT w d b t l) (q : List Int) (hq : q.length ≤ 1048576) : Ev (fun n => s_impl_Gutter_isRain n w d t b (pipes l) (ints .i64 q)) (rainQ w q) := by
  unfold s_impl_Gutter_isRain rainQ deepQ
  have hbw := H.bw
  rw [w64 w (by omega), show ((ints .i64 q).length : Int) = (q.length : Int) by simp [ints_length]]
  by_cases hw : (q.length : Int) = w
  · rw [show decide ((q.length : Int) = w) = true by simpa using hw, Bool.and_true]
    refine ev_t rfl ?_
    unfold s_impl_areAll_int64__isDeep_int64 s_slices_ContainsFunc_Sint64_int64__areAll_int64_1__isDeep_int64 s_slices_IndexFunc_Sint64_int64__areAll_int64_1__isDeep_int64
    have e : ∀ (n : Nat) (c : Int), s_impl_areAll_int64_1__isDeep_int64 n c = some (!decide (0 ≤ c ∧ c ≤ 1000)) := fun n c => by
      unfold s_impl_areAll_int64_1__isDeep_int64; rw [isDeep64_eq]; rfl
    rw [show ((ints .i64 q).length : Int) = (q.length : Int) by simp [ints_length]]
    have key2 : ∀ (c k : Nat), k + c = q.length → ∃ x : Sum Unit Int, Ev (fun n => l_slices_IndexFunc_Sint64_int64__areAll_int64_1__isDeep_int64_b0 n (ints .i64 q) (q.length : Int) (k : Nat)) x ∧ ((x = .inl () ∧ allN (fun j => decide (0 ≤ gi q j ∧ gi q j ≤ 1000)) k c = true) ∨ (∃ j : Nat, x = .inr (j : Int) ∧ allN (fun j => decide (0 ≤ gi q j ∧ gi q j ≤ 1000)) k c = false)) := by
      intro c
      induction c with
      | zero => intro k hk; exact ⟨.inl (), ev_succ (ev_f (by simp; omega) ev_some), .inl ⟨rfl, rfl⟩⟩
      | succ c ih =>
        intro k hk
        have hlt : k < q.length := by omega
        cases hp : decide (0 ≤ gi q k ∧ gi q k ≤ 1000) with
        | false => exact ⟨.inr (k : Int), ev_succ (ev_t (by simp; omega) (ev_bnd (a := gi q k) (ev_of fun n => by rw [idx_gi _ _ _ hlt]; rfl) (ev_bnd (ev_of fun n => e n _) (ev_t (by rw [hp]; rfl) ev_some)))), .inr ⟨k, rfl, by simp only [allN]; rw [hp]; rfl⟩⟩
        | true =>
          obtain ⟨x, x1, x2⟩ := ih (k + 1) (by omega)
          refine ⟨x, ev_succ (ev_t (by simp; omega) (ev_bnd (a := gi q k) (ev_of fun n => by rw [idx_gi _ _ _ hlt]; rfl) (ev_bnd (ev_of fun n => e n _) (ev_f (by rw [hp]; rfl) ?_)))), ?_⟩
          · rw [up64 k (by omega)]; exact x1
          · simp only [allN]; rw [hp, Bool.true_and]; exact x2
    obtain ⟨x, x1, x2⟩ := key2 q.length 0 (by omega)
    rcases x2 with ⟨rfl, x2⟩ | ⟨j, rfl, x2⟩
    · rw [x2]
      exact ev_bnd (ev_bnd (ev_bnd (ev_bnd x1 ev_some) ev_some) ev_some) (ev_cast ev_some (by simp))
    · rw [x2]
      exact ev_bnd (ev_bnd (ev_bnd (ev_bnd x1 ev_some) ev_some) ev_some) (ev_cast ev_some (by simp))
  · rw [show decide ((q.length : Int) = w) = false by simpa using hw, Bool.and_false]
    exact ev_f rfl ev_some
theorem rainQ_b {w : Int} {q : List Int} (h : rainQ w q = true) : (q.length : Int) = w ∧ ∀ j, j < q.length → 0 ≤ gi q j ∧ gi q j ≤ 1000 := by
  simp only [rainQ, deepQ, Bool.and_eq_true, decide_eq_true_eq, allN_iff] at h
  exact ⟨h.2, fun j hj => h.1 j (by omega) (by omega)⟩
theorem WOk_zero {w d : Int} (hd : 0 ≤ d) : WOk w d (fun _ => 0) := fun j _ => ⟨⟨by simp, hd⟩, fun _ => rfl⟩
theorem over_two {w d b : Int} {t : Nat → Int} {l : List (Int × Int)} (H : GutV w d b t l) {q : List Int} (hq : rainQ w q = true) : ∀ (c k : Nat) (v : Nat → Int), k + c = 200 → WOk w d v → ∃ x : Sum Unit Int, (∀ y, x = .inr y → 0 ≤ y ∧ y < 200) ∧ Ev (fun n => l_spec_l06Over_b0 n w d t b (pipes l) (ints .i64 q) k v) x ∧ Ev (fun n => l_impl_Gutter_firstOver_b0 n (ints .i64 q) k w d t b (pipes l) v) x := by
  obtain ⟨q1, q2⟩ := rainQ_b hq
  have hb := H.b
  intro c
  induction c with
  | zero =>
    intro k v hk _
    refine ⟨.inl (), ⟨?_, ev_succ (ev_f (by simp; omega) ev_some), ev_succ (ev_f (by simp; omega) ev_some)⟩⟩
    intro y h; cases h
  | succ c ih =>
    intro k v hk hv
    obtain ⟨m, x, e, e1, _, e3, e4⟩ := minute_two H q2 (by omega) hv
    by_cases hx : 0 < x
    · refine ⟨.inr (k : Int), ⟨?_, ?_⟩⟩
      · intro y h; have := Sum.inr.inj h; omega
      exact ⟨ev_succ (ev_t (by simp; omega) (ev_bnd e3 (ev_t (by simpa using hx) ev_some))), ev_succ (ev_t (by simp; omega) (ev_bnd e4 (ev_t (by simpa using hx) ev_some)))⟩
    · obtain ⟨y, y0, y1, y2⟩ := ih (k + 1) e (by omega) e1
      refine ⟨y, y0, ev_succ (ev_t (by simp; omega) (ev_bnd e3 (ev_f (by simpa using hx) ?_))), ev_succ (ev_t (by simp; omega) (ev_bnd e4 (ev_f (by simpa using hx) ?_)))⟩
      · rw [up64 k (by omega)]; exact y1
      · rw [up64 k (by omega)]; exact y2
/-- the first minute, on both sides -/
theorem first_two {w d b : Int} {t : Nat → Int} {l : List (Int × Int)} (H : GutV w d b t l) {q : List Int} (hq : rainQ w q = true) : ∃ y : Int, (y = -1 ∨ (0 ≤ y ∧ y < 200)) ∧ Ev (fun n => s_spec_l06Over n w d t b (pipes l) (ints .i64 q)) y ∧ Ev (fun n => s_impl_Gutter_firstOver n w d t b (pipes l) (ints .i64 q)) (if y = -1 then 200 else y) := by
  obtain ⟨hd, _, _⟩ := H.p
  obtain ⟨x, x0, x1, x2⟩ := over_two H hq 200 0 (fun _ => 0) (by omega) (WOk_zero hd.1)
  unfold s_spec_l06Over s_impl_Gutter_firstOver
  cases x with
  | inl u => exact ⟨-1, .inl rfl, ev_bnd x1 ev_some, ev_bnd x2 ev_some⟩
  | inr y =>
    have := x0 y rfl
    refine ⟨y, .inr this, ev_bnd x1 ev_some, ev_bnd x2 ?_⟩
    rw [if_neg (by omega)]; exact ev_some
theorem toInt64S_ok (l : List Int) (hl : l.length ≤ 1048576) : Ev (fun n => s_laws_toInt64S n (ints .i64 l)) (ints .i64 l) := by
  unfold s_laws_toInt64S
  refine ev_chk (by simp [ints_length]; omega) ?_
  obtain ⟨v, hv, h1⟩ := loop_up (l := fun n k (st : List Int) => l_laws_toInt64S_b0 n (ints .i64 l) (k : Nat) (ints .i64 st)) (I := fun k st => st.length = l.length ∧ ∀ j, j < k → st[j]? = l[j]?)
    (P := fun v => v = ints .i64 l) l.length (by
    rintro k st hk ⟨e1, e2⟩ ih
    by_cases hlt : k < l.length
    · have hk2 : k < st.length := by omega
      refine tot_t (by simp [ints_length]; omega) (tot_ev (a := gi l k) (ev_of fun n => by rw [idx_gi _ _ _ hlt]; rfl) (tot_chk (inB_k _ _ (by rw [ints_length]; exact hk2)) (tot_ev (a := gi st k) (ev_of fun n => by rw [Int.toNat_natCast, nth_gi _ _ _ hk2]; rfl) ?_)))
      rw [Int.toNat_natCast, set_ints, up64 k (by omega)]
      refine ih hlt _ ⟨by simp [e1], fun j hj => ?_⟩
      rw [List.getElem?_set]
      by_cases h : k = j
      · subst h; rw [if_pos rfl, if_pos hk2, List.getElem?_eq_getElem hlt, gi_get hlt]
      · rw [if_neg h]; exact e2 j (by omega)
    · obtain rfl : k = l.length := by omega
      refine tot_f (by simp [ints_length]) (tot_some ?_)
      congr 1
      apply List.ext_getElem?
      intro j
      by_cases hj : j < l.length
      · exact e2 j hj
      · rw [List.getElem?_eq_none (by omega), List.getElem?_eq_none (by omega)]) 0 (List.replicate l.length 0) (by omega) ⟨by simp, fun j hj => by omega⟩
  subst hv
  rw [show ((((ints .i64 l).length : Int)).toNat) = l.length by simp [ints_length], rep_ints]
  exact ev_bnd h1 ev_some
theorem law_FnExactFirstOver {w d b : Int} {t : Nat → Int} {xs ys : List V} (hw : (Lit.int .i8 w).wf = true) (hd : (Lit.int .i16 d).wf = true) (ht : ∀ j, j < 17 → (Lit.int .i8 (t j)).wf = true) (hb : (Lit.int .u32 b).wf = true) (hx : PipeW xs)
    (hy : ys.length ≤ maxLen ∧ ∀ x, x ∈ ys → inL [.int .i64] [x]) : Ev (fun n => s_laws_FnExactFirstOver n w d t b xs ys) true := by
  obtain ⟨l, rfl, hl⟩ := prs_of hx.2
  obtain ⟨q, rfl, _⟩ := ints_of hy.2
  have n1 : l.length ≤ 9223372036854775807 := by have := hx.1; rw [prs_length] at this; simpa [maxLen] using this
  unfold s_laws_FnExactFirstOver
  rw [show ((ints .i64 q).length : Int) = (q.length : Int) by simp [ints_length]]
  by_cases h0 : (1048576 : Int) < q.length
  · exact ev_t (by simpa using h0) ev_some
  · refine ev_f (by simpa using h0) (ev_bnd (szGutter_ok w d b t l 1048576 (by omega) n1) ?_)
    by_cases h1 : (1048576 : Int) < l.length
    · rw [if_pos h1]; exact ev_t (by simp) ev_some
    · rw [if_neg h1]
      obtain ⟨c, e1, e2⟩ := toGutter_ok w d b t l (by omega)
      have hq := toInt64S_ok q (by omega)
      have H : GutT w d b c l := .mk' hw hd ht e1 hl (by omega)
      have k : ∃ (x y : Int), Ev (fun n => s_spec_FirstOver n w d c b (pipes l) (ints .i64 q)) (x, y) ∧ Ev (fun n => s_impl_FirstOver n w d c b (pipes l) (ints .i64 q)) (x, y) := by
        unfold s_spec_FirstOver s_impl_FirstOver
        by_cases hz : gutC w d b c l (rainQ w q) = 0
        · obtain ⟨g1, g2⟩ := gutC_zero hz
          obtain ⟨y, y0, y1, y2⟩ := first_two ⟨H, g1⟩ g2
          have hy : ∃ (x z : Int), (if y < 0 then ((0 : Int), (6 : Int)) else (y, 0)) = (x, z) := ⟨_, _, rfl⟩
          by_cases hn : y = -1
          · subst hn
            exact ⟨0, 6, ev_bnd (l06Rain_ok H q (by omega)) (ev_bnd (l06Asked_ok H _) (ev_t (by simpa using hz) (ev_bnd y1 (ev_t (by simp) ev_some)))), ev_bnd (isRain_ok H q (by omega)) (ev_bnd (gutterCode_ok H _) (ev_t (by simpa using hz) (ev_bnd y2 (ev_t (by simp) ev_some))))⟩
          · rw [if_neg hn] at y2
            exact ⟨y, 0, ev_bnd (l06Rain_ok H q (by omega)) (ev_bnd (l06Asked_ok H _) (ev_t (by simpa using hz) (ev_bnd y1 (ev_f (by simp; omega) ev_some)))), ev_bnd (isRain_ok H q (by omega)) (ev_bnd (gutterCode_ok H _) (ev_t (by simpa using hz) (ev_bnd y2 (ev_f (by simp; omega) ev_some))))⟩
        · exact ⟨0, _, ev_bnd (l06Rain_ok H q (by omega)) (ev_bnd (l06Asked_ok H _) (ev_f (by simpa using hz) ev_some)), ev_bnd (isRain_ok H q (by omega)) (ev_bnd (gutterCode_ok H _) (ev_f (by simpa using hz) ev_some))⟩
      obtain ⟨x, y, k1, k2⟩ := k
      refine ev_f (by simp; omega) (ev_bnd e2 (ev_bnd hq (ev_bnd k1 (ev_bnd e2 (ev_bnd hq (ev_bnd k2 (ev_t (by simp) (ev_t (by simp) ?_))))))))
      exact ev_bnd e2 (ev_bnd (eqGutter_ok _ _ _ _ _ (by omega)) (ev_t rfl (ev_bnd hq (ev_bnd (eqInt64S_okL q (by omega)) (ev_t rfl ev_some)))))
theorem sizes_pipes : ∀ (l : List (Int × Int)), sizesOk 2 (pipes l) = true
  | [] => rfl
  | p :: l => by
    have h := sizes_pipes l
    show (match Nat.beq (psize (partsOf (pv .i8 .i16 p))) 2 with | true => sizesOk 2 (pipes l) | false => false) = true
    exact h
theorem clone_ok (l : List (Int × Int)) (hl : l.length ≤ 1048576) : Ev (fun n => s_slices_Clone_Simpl_Pipe_impl_Pipe n (pipes l)) (pipes l) := by
  unfold s_slices_Clone_Simpl_Pipe_impl_Pipe
  exact ev_chk (by simp [prs_length]; omega) (ev_chk (sizes_pipes l) ev_some)
theorem l06Own_ok (w d b : Int) (t : Nat → Int) (l : List (Int × Int)) (hl : l.length ≤ 1048576) : Ev (fun n => s_spec_l06Own n w d t b (pipes l)) (w, d, t, b, pipes l) := by
  unfold s_spec_l06Own
  exact ev_chk (by simp [prs_length]; omega) (ev_chk (sizes_pipes l) (ev_cast ev_some (by simp)))
theorem own_ok (w d b : Int) (t : Nat → Int) (l : List (Int × Int)) (hl : l.length ≤ 1048576) : Ev (fun n => s_impl_Gutter_own n w d t b (pipes l)) (w, d, t, b, pipes l) := by
  unfold s_impl_Gutter_own
  exact ev_bnd (clone_ok l hl) ev_some
theorem plainE_prs (k k' : IntKind) : ∀ (l : List (Int × Int)), allB plainP.plainE (prs k k' l) = true
  | [] => rfl
  | p :: l => by
    have h := plainE_prs k k' l
    show (match plainP.plainE (pv k k' p) with | true => allB plainP.plainE (prs k k' l) | false => false) = true
    exact h
theorem plain_gut (a b c : Int) (f : Nat → Int) (e : Nat) (l : List (Int × Int)) : plainV (V.parts [(V.int .i8 (a)), (V.int .i16 (b)), (V.ints .i8 17 f), (V.int .u32 (c)), (V.fresh e (pipes l))]) = true := by
  have h := plainE_prs .i8 .i16 l
  simp only [plainV, allB, plainQ, plainP, plainO]
  rw [h]
theorem plain_gut2 (a b c : Int) (f : Nat → Int) (e : Nat) (l : List (Int × Int)) (y : Int) : plainV (V.tup [(V.parts [(V.int .i8 (a)), (V.int .i16 (b)), (V.ints .i8 17 f), (V.int .u32 (c)), (V.fresh e (pipes l))]), (V.int .i64 (y))]) = true := by
  have h := plainE_prs .i8 .i16 l
  simp only [plainV, allB, plainQ, plainP, plainO]
  rw [h]
-- marks that are told
def marksP (k0 n : Nat) : List (Int × Int) := (List.range' 0 n).map (markP k0)
theorem marksP_length (k0 n : Nat) : (marksP k0 n).length = n := by simp [marksP]
theorem marksP_pr (k0 n j : Nat) (h : j < n) : pr (marksP k0 n) j = markP k0 j := by
  have h2 := pr_get (l := marksP k0 n) (i := j) (by rw [marksP_length]; exact h)
  have h3 : (marksP k0 n)[j]? = some (markP k0 j) := by simp [marksP, h]
  rw [h3] at h2
  exact (Option.some.inj h2).symm
theorem markPipeS_okM (l : List (Int × Int)) (k0 : Nat) (hl : l.length ≤ 1048576 ∧ k0 ≤ 1000) : Ev (fun n => s_laws_markPipeS n (pipes l) (k0 : Int)) (((k0 + 2 * l.length : Nat) : Int), pipes (marksP k0 l.length)) := by
  unfold s_laws_markPipeS
  obtain ⟨v, hv, h1⟩ := loop_up (l := fun n k (st : List (Int × Int)) => l_laws_markPipeS_b0 n ((k0 + 2 * k : Nat) : Int) (k : Nat) (pipes st)) (I := fun k st => st.length = l.length ∧ ∀ j, j < k → st[j]? = some (markP k0 j))
    (P := fun v => v = (((k0 + 2 * l.length : Nat) : Int), pipes (marksP k0 l.length))) l.length (by
    rintro k st hk ⟨e1, e2⟩ ih
    by_cases hlt : k < l.length
    · have hk2 : k < st.length := by omega
      refine tot_t (by simp [prs_length]; omega) (tot_chk (inB_k _ _ (by rw [prs_length]; exact hk2)) (tot_ev (a := ((pr st k).1, (pr st k).2)) (ev_of fun n => by rw [Int.toNat_natCast, nth_prs _ _ _ _ hk2]; rfl) (tot_ev (a := ((pr st k).1, (pr st k).2)) (ev_of fun n => by rw [Int.toNat_natCast, nth_prs _ _ _ _ hk2]; rfl) ?_)))
      rw [Int.toNat_natCast]
      dsimp only
      rw [set_prs]
      have hq : pr (st.set k (IntKind.i8.wrap ((k0 + 2 * k : Nat) : Int), (pr st k).2)) k = (IntKind.i8.wrap ((k0 + 2 * k : Nat) : Int), (pr st k).2) := by
        unfold pr; rw [List.getD_eq_getElem?_getD, List.getElem?_set, if_pos rfl, if_pos hk2]; rfl
      have hg : ∀ n : Nat, bnd (nth (pipes (st.set k (IntKind.i8.wrap ((k0 + 2 * k : Nat) : Int), (pr st k).2))) k) as_Pi8_i16Q = some (IntKind.i8.wrap ((k0 + 2 * k : Nat) : Int), (pr st k).2) := by
        intro n
        rw [nth_prs _ _ _ _ (by simp; exact hk2), hq]; rfl
      refine tot_chk (inB_k _ _ (by simp [prs_length]; exact hk2)) (tot_ev (ev_of hg) (tot_ev (ev_of hg) ?_))
      dsimp only
      rw [set_prs, up64 k (by omega), up64 (k0 + 2 * k) (by omega), up64 (k0 + 2 * k + 1) (by omega), show k0 + 2 * k + 1 + 1 = k0 + 2 * (k + 1) by omega, List.set_set]
      refine ih hlt _ ⟨by simp [e1], fun j hj => ?_⟩
      rw [List.getElem?_set]
      by_cases h : k = j
      · subst h; rw [if_pos rfl, if_pos hk2]; rfl
      · rw [if_neg h]; exact e2 j (by omega)
    · obtain rfl : k = l.length := by omega
      refine tot_f (by simp [prs_length]; omega) (tot_some ?_)
      congr 2
      apply List.ext_getElem?
      intro j
      by_cases hj : j < l.length
      · rw [e2 j hj]; simp [marksP, hj]
      · rw [List.getElem?_eq_none (by omega), List.getElem?_eq_none (by rw [marksP_length]; omega)]) 0 l (by omega) ⟨rfl, fun j hj => by omega⟩
  subst hv
  exact ev_bnd h1 ev_some
theorem markGutter_okM (w d b : Int) (t : Nat → Int) (l : List (Int × Int)) (hl : l.length ≤ 1048576) : Ev (fun n => s_laws_markGutter n w d t b (pipes l) 1) (((1 + 2 * l.length : Nat) : Int), pipes (marksP 1 l.length)) :=
  ev_bnd (markPipeS_okM l 1 (by omega)) (ev_chk (like_prs _ _ _ _ (by rw [marksP_length])) ev_some)
theorem heldPipeS_ok (m k0 : Nat) (hm : m ≤ 1048576 ∧ k0 ≤ 1000) : Ev (fun n => s_laws_heldPipeS n (pipes (marksP k0 m)) (k0 : Int)) ((k0 + 2 * m : Nat) : Int) := by
  unfold s_laws_heldPipeS
  have := loop_all (l := fun n k => l_laws_heldPipeS_b0 n (pipes (marksP k0 m)) ((k0 + 2 * k : Nat) : Int) (k : Nat)) (p := fun _ => true) (A := .inl ((k0 + 2 * m : Nat) : Int)) (B := .inr (-1)) m (ev_f (by simp [prs_length, marksP_length]) ev_some) (by
    intro k hk _ a ih
    have hg : ∀ n : Nat, bnd (idx (pipes (marksP k0 m)) (k : Int)) as_Pi8_i16Q = some ((markP k0 k).1, (markP k0 k).2) := fun n => by rw [idx_prs _ _ _ _ (by rw [marksP_length]; exact hk), marksP_pr _ _ _ hk]; rfl
    refine ev_t (by simp [prs_length, marksP_length]; omega) (ev_bnd (ev_of hg) (ev_t (by simp [markP]) (ev_bnd (ev_of hg) ?_)))
    rw [up64 (k0 + 2 * k) (by omega), up64 k (by omega), up64 (k0 + 2 * k + 1) (by omega), show k0 + 2 * k + 1 + 1 = k0 + 2 * (k + 1) by omega]
    exact ev_t (by simp [markP]) ih) (by intro k hk h; cases h) m 0 (by omega)
  refine ev_bnd this ?_
  rw [show allN (fun _ => true) 0 m = true from (allN_iff _ _ _).2 fun _ _ _ => rfl]
  exact ev_some
theorem heldGutter_ok (w d b : Int) (t : Nat → Int) (m : Nat) (hm : m ≤ 1048576) : Ev (fun n => s_laws_heldGutter n w d t b (pipes (marksP 1 m)) 1) ((1 + 2 * m : Nat) : Int) := by
  unfold s_laws_heldGutter
  exact ev_bnd (heldPipeS_ok m 1 (by omega)) (ev_f (by simp; omega) ev_some)
-- CleanLeaf
def cleanB (b : Int) (k : Nat) : Int := IntKind.u32.wrap (BitVec.ofInt IntKind.u32.bits b &&& ~~~ BitVec.ofInt IntKind.u32.bits (IntKind.u32.wrap (1 * 2 ^ (min k IntKind.u32.bits)))).toNat
theorem CleanLeaf_two {w d b : Int} {t : Nat → Int} {l : List (Int × Int)} (H : GutT w d b t l) (c : Int) : ∃ (w' d' b' : Int) (t' : Nat → Int) (l' : List (Int × Int)) (y : Int), l'.length ≤ 1048576 ∧ Ev (fun n => s_spec_CleanLeaf n w d t b (pipes l) c) (w', d', t', b', pipes l', y) ∧ Ev (fun n => s_impl_CleanLeaf n w d t b (pipes l) c) (w', d', t', b', pipes l', y) := by
  unfold s_spec_CleanLeaf s_impl_CleanLeaf
  have hl := H.ln
  by_cases hz : gutC w d b t l (inG w c) = 0
  · obtain ⟨hg, hc⟩ := gutC_zero hz
    have hV : GutV w d b t l := ⟨H, hg⟩
    have hb := hV.b
    simp only [inG, Bool.and_eq_true, decide_eq_true_eq] at hc
    obtain ⟨k, rfl⟩ := Int.eq_ofNat_of_zero_le hc.1
    cases hf : leafB b k with
    | false =>
      exact ⟨0, 0, 0, fun _ => 0, [], 4, by simp, ev_bnd (ev_of fun n => l06Cell_eq n H _) (ev_bnd (l06Asked_ok H _) (ev_t (by simpa using hz) (ev_bnd (ev_of fun n => l06Leaf_eq n k (by omega)) (ev_f hf ev_some)))), ev_bnd (ev_of fun n => isIn_eq n H _) (ev_bnd (gutterCode_ok H _) (ev_t (by simpa using hz) (ev_bnd (ev_of fun n => hasLeaves_eq n k) (ev_f hf ev_some))))⟩
    | true =>
      refine ⟨w, d, cleanB b k, t, l, 0, hl, ev_bnd (ev_of fun n => l06Cell_eq n H _) (ev_bnd (l06Asked_ok H _) (ev_t (by simpa using hz) (ev_bnd (ev_of fun n => l06Leaf_eq n k (by omega)) (ev_t hf (ev_bnd (l06Own_ok w d b t l hl) (ev_chk (plain_gut ..) ?_)))))), ev_bnd (ev_of fun n => isIn_eq n H _) (ev_bnd (gutterCode_ok H _) (ev_t (by simpa using hz) (ev_bnd (ev_of fun n => hasLeaves_eq n k) (ev_t hf ?_))))⟩
      · rw [wu64 (k : Int) (by omega)]
        exact ev_chk (by simp) ev_some
      · unfold s_impl_Gutter_cleaned
        exact ev_bnd (ev_bnd (own_ok w d b t l hl) (ev_chk (by simp) ev_some)) ev_some
  · exact ⟨0, 0, 0, fun _ => 0, [], gutC w d b t l (inG w c), by simp, ev_bnd (ev_of fun n => l06Cell_eq n H _) (ev_bnd (l06Asked_ok H _) (ev_f (by simpa using hz) ev_some)), ev_bnd (ev_of fun n => isIn_eq n H _) (ev_bnd (gutterCode_ok H _) (ev_f (by simpa using hz) ev_some))⟩
theorem law_FnExactCleanLeaf {w d b c : Int} {t : Nat → Int} {xs : List V} (hw : (Lit.int .i8 w).wf = true) (hd : (Lit.int .i16 d).wf = true) (ht : ∀ j, j < 17 → (Lit.int .i8 (t j)).wf = true) (hb : (Lit.int .u32 b).wf = true) (hx : PipeW xs)
    (hc : (Lit.int .i64 c).wf = true) : Ev (fun n => s_laws_FnExactCleanLeaf n w d t b xs c) true := by
  obtain ⟨l, rfl, hl⟩ := prs_of hx.2
  have n1 : l.length ≤ 9223372036854775807 := by have := hx.1; rw [prs_length] at this; simpa [maxLen] using this
  unfold s_laws_FnExactCleanLeaf
  refine ev_bnd (szGutter_ok w d b t l 1048576 (by omega) n1) ?_
  by_cases h1 : (1048576 : Int) < l.length
  · rw [if_pos h1]; exact ev_t (by simp) ev_some
  · rw [if_neg h1]
    obtain ⟨t', e1, e2⟩ := toGutter_ok w d b t l (by omega)
    have H : GutT w d b t' l := .mk' hw hd ht e1 hl (by omega)
    obtain ⟨w2, d2, b2, t2, l2, y, hn2, k1, k2⟩ := CleanLeaf_two H c
    obtain ⟨l', m, m1, m2, m3⟩ := markGutter_ok w d b t' l (by omega)
    have hm := markGutter_okM w2 d2 b2 t2 l2 hn2
    have hh := heldGutter_ok w2 d2 b2 t2 l2.length hn2
    have hq := eqGutter_ok w2 d2 b2 t2 l2 hn2
    refine ev_f (by simp; omega) (ev_bnd e2 (ev_bnd k1 (ev_chk (plain_gut2 ..) (ev_bnd e2 (ev_bnd k2 (ev_chk (plain_gut2 ..) (ev_bnd hq (ev_t rfl (ev_t (by simp) ?_)))))))))
    refine ev_bnd e2 (ev_bnd (eqGutter_ok _ _ _ _ _ (by omega)) (ev_t rfl (ev_bnd m3 (ev_chk (like_prs _ _ _ _ m1.symm) (ev_f (by simp; omega) ?_)))))
    refine ev_bnd hq (ev_t rfl (ev_bnd hm (ev_chk (like_prs _ _ _ _ (by rw [marksP_length])) (ev_bnd hh (ev_f (by simp; omega) (ev_t (by simp) ?_))))))
    exact ev_bnd e2 (ev_bnd k2 (ev_chk (plain_gut2 ..) (ev_bnd hq (ev_t rfl (ev_t (by simp) (ev_bnd hh (ev_f (by simp; omega) (ev_t (by simp) ev_some))))))))
-- LeastTakes
theorem pr_set (l : List (Int × Int)) (p j : Nat) (x : Int × Int) (hp : p < l.length) : pr (l.set p x) j = if p = j then x else pr l j := by
  unfold pr
  rw [List.getD_eq_getElem?_getD, List.getElem?_set, List.getD_eq_getElem?_getD]
  by_cases h : p = j
  · subst h; rw [if_pos rfl, if_pos hp, if_pos rfl]; rfl
  · rw [if_neg h, if_neg h]
theorem GutV.take {w d b : Int} {t : Nat → Int} {l : List (Int × Int)} (H : GutV w d b t l) {p : Nat} (hp : p < l.length) {k : Int} (hk : 0 ≤ k ∧ k ≤ 1000) : GutV w d b t (l.set p ((pr l p).1, k)) := by
  have hs : ∀ j, (pr (l.set p ((pr l p).1, k)) j).1 = (pr l j).1 := fun j => by
    rw [pr_set _ _ _ _ hp]; by_cases h : p = j
    · subst h; rw [if_pos rfl]
    · rw [if_neg h]
  have hs2 : ∀ j, (pr (l.set p ((pr l p).1, k)) j).2 = if p = j then k else (pr l j).2 := fun j => by
    rw [pr_set _ _ _ _ hp]; split <;> rfl
  have hln : (l.set p ((pr l p).1, k)).length = l.length := by simp
  refine ⟨⟨H.bw, H.bd, H.bt, fun j hj => ?_, by rw [hln]; exact H.ln⟩, ?_⟩
  · rw [hln] at hj
    have := H.bl j hj
    rw [hs, hs2]
    refine ⟨this.1, ?_⟩
    split
    · omega
    · exact this.2
  · have hok := H.ok
    simp only [gutOk, gutHead, Bool.and_eq_true, allN_iff] at hok ⊢
    rw [hln]
    refine ⟨hok.1, hok.2.1, fun j h1 h2 => ?_⟩
    have := hok.2.2 j h1 h2
    simp only [gpipe, Bool.and_eq_true, Bool.or_eq_true, decide_eq_true_eq] at this ⊢
    rw [hs, hs, hs2]
    refine ⟨⟨this.1.1, ?_⟩, this.2⟩
    split
    · exact hk
    · exact this.1.2
theorem set_pr_self (l : List (Int × Int)) (p : Nat) (hp : p < l.length) : l.set p ((pr l p).1, (pr l p).2) = l := by
  apply List.ext_getElem?
  intro j
  rw [List.getElem?_set]
  by_cases h : p = j
  · subst h; rw [if_pos rfl, if_pos hp, pr_get hp]
  · rw [if_neg h]
theorem takes_two {w d b : Int} {t : Nat → Int} {l : List (Int × Int)} (H : GutV w d b t l) {q : List Int} (hq : rainQ w q = true) {p : Nat} (hp : p < l.length) : ∀ (c k : Nat) (x : Int), k + c = 1001 → ∃ r : Sum Unit (Int × Int), Ev (fun n => l_spec_LeastTakes_b0 n (ints .i64 q) p k w d t b (pipes (l.set p ((pr l p).1, x)))) r ∧ Ev (fun n => l_impl_LeastTakes_b0 n (ints .i64 q) p k w d t b (pipes (l.set p ((pr l p).1, x)))) r := by
  intro c
  induction c with
  | zero =>
    intro k x hk
    exact ⟨.inl (), ev_succ (ev_f (by simp; omega) ev_some), ev_succ (ev_f (by simp; omega) ev_some)⟩
  | succ c ih =>
    intro k x hk
    have hlen : (l.set p ((pr l p).1, x)).length = l.length := by simp
    have hpl : p < (l.set p ((pr l p).1, x)).length := by rw [hlen]; exact hp
    have hg : ∀ n : Nat, bnd (nth (pipes (l.set p ((pr l p).1, x))) ((p : Nat) : Int).toNat) as_Pi8_i16Q = some ((pr l p).1, x) := fun n => by
      rw [Int.toNat_natCast, nth_prs _ _ _ _ hpl, pr_set _ _ _ _ hp, if_pos rfl]; rfl
    have hV := H.take hp (k := (k : Int)) (by omega)
    have hst : setNth (pipes (l.set p ((pr l p).1, x))) ((p : Nat) : Int).toNat (V.parts [(V.int .i8 ((pr l p).1)), (V.int .i16 (k : Int))]) = pipes (l.set p ((pr l p).1, (k : Int))) := by
      rw [Int.toNat_natCast, set_prs, List.set_set]
    obtain ⟨y, y0, y1, y2⟩ := first_two hV hq
    by_cases hn : y = -1
    · subst hn
      refine ⟨.inr ((k : Int), 0), ev_succ (ev_t (by simp; omega) (ev_chk (inB_k _ _ (by rw [prs_length]; exact hpl)) (ev_bnd (ev_of hg) (ev_bnd (ev_of hg) ?_)))), ev_succ (ev_t (by simp; omega) (ev_chk (inB_k _ _ (by rw [prs_length]; exact hpl)) (ev_bnd (ev_of hg) (ev_bnd (ev_of hg) ?_))))⟩
      · dsimp only
        rw [w16 (k : Int) (by omega), hst]
        exact ev_bnd y1 (ev_t (by simp) ev_some)
      · dsimp only
        rw [hst]
        refine ev_bnd y2 (ev_t (by simp) ?_)
        rw [w64 (k : Int) (by omega)]; exact ev_some
    · rw [if_neg hn] at y2
      obtain ⟨r, r1, r2⟩ := ih (k + 1) (k : Int) (by omega)
      refine ⟨r, ev_succ (ev_t (by simp; omega) (ev_chk (inB_k _ _ (by rw [prs_length]; exact hpl)) (ev_bnd (ev_of hg) (ev_bnd (ev_of hg) ?_)))), ev_succ (ev_t (by simp; omega) (ev_chk (inB_k _ _ (by rw [prs_length]; exact hpl)) (ev_bnd (ev_of hg) (ev_bnd (ev_of hg) ?_))))⟩
      · dsimp only
        rw [w16 (k : Int) (by omega), hst, up64 k (by omega)]
        exact ev_bnd y1 (ev_f (by simp; omega) r1)
      · dsimp only
        rw [hst, up16 k (by omega)]
        exact ev_bnd y2 (ev_f (by simp; omega) r2)
theorem law_FnExactLeastTakes {w d b p : Int} {t : Nat → Int} {xs ys : List V} (hw : (Lit.int .i8 w).wf = true) (hd : (Lit.int .i16 d).wf = true) (ht : ∀ j, j < 17 → (Lit.int .i8 (t j)).wf = true) (hb : (Lit.int .u32 b).wf = true) (hx : PipeW xs)
    (hy : ys.length ≤ maxLen ∧ ∀ x, x ∈ ys → inL [.int .i64] [x]) (hp : (Lit.int .i64 p).wf = true) : Ev (fun n => s_laws_FnExactLeastTakes n w d t b xs ys p) true := by
  obtain ⟨l, rfl, hl⟩ := prs_of hx.2
  obtain ⟨q, rfl, _⟩ := ints_of hy.2
  have n1 : l.length ≤ 9223372036854775807 := by have := hx.1; rw [prs_length] at this; simpa [maxLen] using this
  unfold s_laws_FnExactLeastTakes
  rw [show ((ints .i64 q).length : Int) = (q.length : Int) by simp [ints_length]]
  by_cases h0 : (1048576 : Int) < q.length
  · exact ev_t (by simpa using h0) ev_some
  · refine ev_f (by simpa using h0) (ev_bnd (szGutter_ok w d b t l 1048576 (by omega) n1) ?_)
    by_cases h1 : (1048576 : Int) < l.length
    · rw [if_pos h1]; exact ev_t (by simp) ev_some
    · rw [if_neg h1]
      obtain ⟨c, e1, e2⟩ := toGutter_ok w d b t l (by omega)
      have hq := toInt64S_ok q (by omega)
      have H : GutT w d b c l := .mk' hw hd ht e1 hl (by omega)
      have k : ∃ (x y : Int), Ev (fun n => s_spec_LeastTakes n w d c b (pipes l) (ints .i64 q) p) (x, y) ∧ Ev (fun n => s_impl_LeastTakes n w d c b (pipes l) (ints .i64 q) p) (x, y) := by
        unfold s_spec_LeastTakes s_impl_LeastTakes
        rw [show ((pipes l).length : Int) = (l.length : Int) by simp [prs_length], w64 ((l.length : Int) - 1) (by omega)]
        have kr := l06Rain_ok H q (by omega)
        have ki := isRain_ok H q (by omega)
        cases hr : rainQ w q with
        | false =>
          rw [hr] at kr ki
          have hz : gutC w d b c l false ≠ 0 := fun h => by have := gutC_zero h; simp at this
          exact ⟨0, _, ev_bnd kr (ev_f rfl (ev_bnd (l06Asked_ok H _) (ev_f (by simpa using hz) ev_some))), ev_bnd ki (ev_f rfl (ev_bnd (gutterCode_ok H _) (ev_f (by simpa using hz) ev_some)))⟩
        | true =>
          rw [hr] at kr ki
          have ek : ∀ n, s_impl_within_int64 n p 0 ((l.length : Int) - 1) = some (decide (0 ≤ p) && decide (p ≤ (l.length : Int) - 1)) := fun n => within_i64 n _ _ _
          have es : ∀ n, s_spec_l00In n p 0 ((l.length : Int) - 1) = some (decide (0 ≤ p) && decide (p ≤ (l.length : Int) - 1)) := fun n => l00In_eq n _ _ _
          by_cases hz : gutC w d b c l (decide (0 ≤ p) && decide (p ≤ (l.length : Int) - 1)) = 0
          · obtain ⟨g1, g2⟩ := gutC_zero hz
            have hV : GutV w d b c l := ⟨H, g1⟩
            simp only [Bool.and_eq_true, decide_eq_true_eq] at g2
            obtain ⟨i, rfl⟩ := Int.eq_ofNat_of_zero_le g2.1
            have hi : i < l.length := by omega
            obtain ⟨r, r1, r2⟩ := takes_two hV hr hi 1001 0 (pr l i).2 (by omega)
            rw [set_pr_self l i hi] at r1 r2
            have fin : ∃ (x y : Int), (match r with | .inl _ => ((0 : Int), (6 : Int)) | .inr (a, b) => (a, b)) = (x, y) := ⟨_, _, rfl⟩
            obtain ⟨x, y, hxy⟩ := fin
            refine ⟨x, y, ev_bnd kr (ev_t rfl (ev_bnd (ev_of es) (ev_bnd (l06Asked_ok H _) (ev_t (decide_eq_true hz) (ev_bnd (l06Own_ok w d b c l (by omega)) (ev_chk (plain_gut ..) (ev_bnd r1 ?_))))))), ev_bnd ki (ev_t rfl (ev_bnd (ev_of ek) (ev_bnd (gutterCode_ok H _) (ev_t (decide_eq_true hz) (ev_bnd (own_ok w d b c l (by omega)) (ev_bnd r2 ?_))))))⟩
            · rw [← hxy]; cases r with
              | inl u => exact ev_some
              | inr u => exact ev_some
            · rw [← hxy]; cases r with
              | inl u => exact ev_some
              | inr u => exact ev_some
          · exact ⟨0, _, ev_bnd kr (ev_t rfl (ev_bnd (ev_of es) (ev_bnd (l06Asked_ok H _) (ev_f (decide_eq_false hz) ev_some)))), ev_bnd ki (ev_t rfl (ev_bnd (ev_of ek) (ev_bnd (gutterCode_ok H _) (ev_f (decide_eq_false hz) ev_some))))⟩
      obtain ⟨x, y, k1, k2⟩ := k
      refine ev_f (by simp; omega) (ev_bnd e2 (ev_bnd hq (ev_bnd k1 (ev_bnd e2 (ev_bnd hq (ev_bnd k2 (ev_t (by simp) (ev_t (by simp) ?_))))))))
      exact ev_bnd e2 (ev_bnd (eqGutter_ok _ _ _ _ _ (by omega)) (ev_t rfl (ev_bnd hq (ev_bnd (eqInt64S_okL q (by omega)) (ev_t rfl ev_some)))))
theorem mirror_cells {w d b : Int} {t : Nat → Int} {l : List (Int × Int)} (H : GutV w d b t l) : ∀ (c k : Nat) (t' : Nat → Int) (b' : Int), k + c = w.toNat → ∃ (t2 : Nat → Int) (b2 : Int),
    Ev (fun n => l_spec_MirrorGutter_b0 n (w - 1) (k : Int) w d t b (pipes l) 0 0 (fun _ => 0) 0 w d t' b' ([] : List V) ([] : List V)) (w, d, t, b, pipes l, 0, 0, (fun _ => 0), 0, w, d, t2, b2, [], []) ∧
    Ev (fun n => l_impl_MirrorGutter_b0 n w (k : Int) w d t b (pipes l) 0 0 (fun _ => 0) 0 w d t' b' (ints .i64 ((List.range' 0 w.toNat).map fun (i : Nat) => (i : Int))) ([] : List V) ([] : List V)) (w, d, t, b, pipes l, 0, 0, (fun _ => 0), 0, w, d, t2, b2, [], []) := by
  intro c
  have hb := H.b
  induction c with
  | zero =>
    intro k t' b' hk
    exact ⟨t', b', ev_succ (ev_f (by simp; omega) ev_some), ev_succ (ev_f (by simp; omega) ev_some)⟩
  | succ c ih =>
    intro k t' b' hk
    have hkw : (k : Int) < w := by omega
    have e1 : IntKind.i64.wrap ((w - 1) - (k : Int)) = ((w.toNat - 1 - k : Nat) : Int) := by rw [w64 _ (by omega)]; omega
    have e2 : IntKind.u64.wrap ((w.toNat - 1 - k : Nat) : Int) = ((w.toNat - 1 - k : Nat) : Int) := wu64 _ (by omega)
    have e3 : IntKind.i64.wrap (IntKind.i64.wrap w - 1) = w - 1 := by rw [w64 w (by omega), w64 _ (by omega)]
    have hn : ∀ n : Nat, bnd (nth (ints .i64 ((List.range' 0 w.toNat).map fun (i : Nat) => (i : Int))) ((k : Int).toNat)) as_i64 = some (k : Int) := fun n => by
      rw [Int.toNat_natCast, nth_ints _ _ _ (by simp; omega)]
      simp only [List.getElem_map, List.getElem_range', Nat.zero_add, Nat.one_mul]
      rfl
    have hin : inB ((w.toNat - 1 - k : Nat) : Int) 17 = true := inB_k _ _ (by omega)
    cases hf : leafB b k with
    | true =>
      obtain ⟨t2, b2, i1, i2⟩ := ih (k + 1) (updC t' (0 + ((w.toNat - 1 - k : Nat) : Int).toNat * 1) (t (0 + (k : Int).toNat * 1))) (IntKind.u32.wrap (BitVec.ofInt IntKind.u32.bits b' ||| BitVec.ofInt IntKind.u32.bits (IntKind.u32.wrap (1 * 2 ^ (min (((w.toNat - 1 - k : Nat) : Int)).toNat IntKind.u32.bits)))).toNat) (by omega)
      refine ⟨t2, b2, ev_succ (ev_t (by simp; omega) (ev_chk (inB_k _ _ (by omega)) ?_)), ev_succ (ev_t (by simp; omega) (ev_chk (inB_k _ _ (by rw [ints_length]; simp; omega)) (ev_bnd (ev_of hn) (ev_chk (inB_k _ _ (by omega)) ?_))))⟩
      · rw [e1, e2, up64 k (by omega)]
        exact ev_chk hin (ev_bnd (ev_of fun n => l06Leaf_eq n k (by omega)) (ev_t hf (ev_chk (by simp) i1)))
      · rw [e3, e1, up64 k (by omega)]
        exact ev_chk hin (ev_bnd (ev_of fun n => hasLeaves_eq n k) (ev_t hf (ev_chk (by simp) i2)))
    | false =>
      obtain ⟨t2, b2, i1, i2⟩ := ih (k + 1) (updC t' (0 + ((w.toNat - 1 - k : Nat) : Int).toNat * 1) (t (0 + (k : Int).toNat * 1))) b' (by omega)
      refine ⟨t2, b2, ev_succ (ev_t (by simp; omega) (ev_chk (inB_k _ _ (by omega)) ?_)), ev_succ (ev_t (by simp; omega) (ev_chk (inB_k _ _ (by rw [ints_length]; simp; omega)) (ev_bnd (ev_of hn) (ev_chk (inB_k _ _ (by omega)) ?_))))⟩
      · rw [e1, e2, up64 k (by omega)]
        exact ev_chk hin (ev_bnd (ev_of fun n => l06Leaf_eq n k (by omega)) (ev_f hf i1))
      · rw [e3, e1, up64 k (by omega)]
        exact ev_chk hin (ev_bnd (ev_of fun n => hasLeaves_eq n k) (ev_f hf i2))
def mirP (w : Int) (p : Int × Int) : Int × Int := (IntKind.i8.wrap ((IntKind.i8.wrap (w - 1)) - p.1), p.2)
theorem mirror_spec2 {w d b : Int} {t t2 : Nat → Int} {b2 : Int} {l : List (Int × Int)} : ∀ (c : Nat) (acc : List (Int × Int)), c ≤ l.length → acc.length + c ≤ 1000 →
    Ev (fun n => l_spec_MirrorGutter_b2 n ((c : Int) - 1) w d t b (pipes l) 0 0 (fun _ => 0) 0 w d t2 b2 ([] : List V) (pipes acc)) (0, 0, (fun _ => 0), 0, w, d, t2, b2, [], pipes (acc ++ (l.take c).reverse.map (mirP w))) := by
  intro c
  induction c with
  | zero =>
    intro acc _ _
    exact ev_succ (ev_f (by simp) (ev_cast ev_some (by simp)))
  | succ c ih =>
    intro acc hc ha
    have hc2 : c < l.length := by omega
    have hz : ((c + 1 : Nat) : Int) - 1 = (c : Int) := by omega
    have hg : ∀ n : Nat, bnd (idx (pipes l) (((c + 1 : Nat) : Int) - 1)) as_Pi8_i16Q = some ((pr l c).1, (pr l c).2) := fun n => by rw [hz, idx_prs _ _ _ _ hc2]; rfl
    refine ev_succ (ev_t (by simp) (ev_bnd (ev_of hg) (ev_bnd (ev_of hg) (ev_chk (by simp [prs_length]; omega) ?_))))
    have h1 := ih (acc ++ [mirP w (pr l c)]) (by omega) (by simp; omega)
    have ht : l.take (c + 1) = l.take c ++ [pr l c] := by
      rw [List.take_add_one, pr_get hc2]; rfl
    rw [ht, List.reverse_append, List.map_append]
    rw [List.append_assoc] at h1
    rw [show IntKind.i64.wrap (((c + 1 : Nat) : Int) - 1 - 1) = (c : Int) - 1 by rw [w64 _ (by omega)]; omega]
    rw [show pipes acc ++ [V.parts [V.int .i8 (IntKind.i8.wrap (IntKind.i8.wrap (w - 1) - (pr l c).1)), V.int .i16 (pr l c).2]] = pipes (acc ++ [mirP w (pr l c)]) by unfold pipes; rw [prs_app]; rfl]
    exact h1
theorem mirror_impl2 {w d b : Int} {t t2 : Nat → Int} {b2 : Int} {l : List (Int × Int)} {ys : List V} : ∀ (m acc : List (Int × Int)), acc.length + m.length ≤ 1000 →
    l_impl_MirrorGutter_rf (pipes m) ys w d t b (pipes l) 0 0 (fun _ => 0) 0 w d t2 b2 ([] : List V) (pipes acc) = some (ys, w, d, t, b, pipes l, 0, 0, (fun _ => 0), 0, w, d, t2, b2, [], pipes (acc ++ m.map (mirP w)))
  | [], acc, _ => by
    show some _ = some _
    simp
  | p :: m, acc, h => by
    have h1 := mirror_impl2 (w := w) (d := d) (b := b) (t := t) (t2 := t2) (b2 := b2) (l := l) (ys := ys) m (acc ++ [mirP w p]) (by simp at h ⊢; omega)
    rw [List.append_assoc] at h1
    have hc : decide (((pipes acc).length + ([(V.parts [(V.int .i8 (IntKind.i8.wrap ((IntKind.i8.wrap (w - 1)) - p.1))), (V.int .i16 p.2)])]).length) * 4 ≤ 140737488355328) = true := by
      simp [prs_length] at h ⊢; omega
    show chk (decide (((pipes acc).length + ([(V.parts [(V.int .i8 (IntKind.i8.wrap ((IntKind.i8.wrap (w - 1)) - p.1))), (V.int .i16 p.2)])]).length) * 4 ≤ 140737488355328)) (l_impl_MirrorGutter_rf (pipes m) ys w d t b (pipes l) 0 0 (fun _ => 0) 0 w d t2 b2 ([] : List V) (pipes acc ++ [(V.parts [(V.int .i8 (IntKind.i8.wrap ((IntKind.i8.wrap (w - 1)) - p.1))), (V.int .i16 p.2)])])) = _
    rw [hc, chk_t, show pipes acc ++ [V.parts [V.int .i8 (IntKind.i8.wrap (IntKind.i8.wrap (w - 1) - p.1)), V.int .i16 p.2]] = pipes (acc ++ [mirP w p]) by unfold pipes; rw [prs_app]; rfl, h1]
    rfl
theorem MirrorGutter_two {w d b : Int} {t : Nat → Int} {l : List (Int × Int)} (H : GutT w d b t l) : ∃ (w' d' b' : Int) (t' : Nat → Int) (l' : List (Int × Int)) (y : Int), l'.length ≤ 1048576 ∧ Ev (fun n => s_spec_MirrorGutter n w d t b (pipes l)) (w', d', t', b', pipes l', y) ∧ Ev (fun n => s_impl_MirrorGutter n w d t b (pipes l)) (w', d', t', b', pipes l', y) := by
  unfold s_spec_MirrorGutter s_impl_MirrorGutter
  have hl := H.ln
  cases hg : gutOk w d b t l with
  | false =>
    exact ⟨0, 0, 0, fun _ => 0, [], 1, by simp, ev_bnd (l06Ok_ok H) (ev_f hg ev_some), ev_bnd (ValidGutter_ok H) (ev_f hg ev_some)⟩
  | true =>
    have hV : GutV w d b t l := ⟨H, hg⟩
    have hb := hV.b
    have h4 : l.length ≤ 4 := by
      have := hg
      simp only [gutOk, gutHead, Bool.and_eq_true, decide_eq_true_eq] at this
      exact this.1.2.2.2
    obtain ⟨t2, b2, i1, i2⟩ := mirror_cells hV w.toNat 0 (fun _ => 0) 0 (by omega)
    have s2 := mirror_spec2 (w := w) (d := d) (b := b) (t := t) (t2 := t2) (b2 := b2) (l := l) l.length [] (by omega) (by simp; omega)
    have m2 := mirror_impl2 (w := w) (d := d) (b := b) (t := t) (t2 := t2) (b2 := b2) (l := l) (ys := pipes l) l.reverse [] (by simp; omega)
    rw [List.nil_append] at s2 m2
    rw [List.take_length] at s2
    refine ⟨w, d, b2, t2, l.reverse.map (mirP w), 0, by simp; omega, ev_bnd (l06Ok_ok H) (ev_t hg ?_), ev_bnd (ValidGutter_ok H) (ev_t hg (ev_bnd (gcells_ok hV) ?_))⟩
    · rw [show IntKind.i64.wrap (IntKind.i64.wrap w - 1) = w - 1 by rw [w64 w (by omega), w64 _ (by omega)]]
      refine ev_bnd i1 ?_
      dsimp only
      rw [show IntKind.i64.wrap (((pipes l).length : Int) - 1) = (l.length : Int) - 1 by rw [prs_length, w64 _ (by omega)]]
      exact ev_bnd s2 ev_some
    · rw [show ((ints .i64 ((List.range' 0 w.toNat).map fun (i : Nat) => (i : Int))).length : Int) = w by rw [ints_length]; simp; omega]
      refine ev_bnd i2 ?_
      dsimp only
      refine ev_bnd (a := pipes l) (ev_of fun n => rfl) ?_
      rw [show (pipes l).reverse = pipes l.reverse by simp [prs]]
      exact ev_bnd (ev_of fun n => m2) ev_some
theorem law_FnExactMirrorGutter {w d b : Int} {t : Nat → Int} {xs : List V} (hw : (Lit.int .i8 w).wf = true) (hd : (Lit.int .i16 d).wf = true) (ht : ∀ j, j < 17 → (Lit.int .i8 (t j)).wf = true) (hb : (Lit.int .u32 b).wf = true) (hx : PipeW xs) : Ev (fun n => s_laws_FnExactMirrorGutter n w d t b xs) true := by
  obtain ⟨l, rfl, hl⟩ := prs_of hx.2
  have n1 : l.length ≤ 9223372036854775807 := by have := hx.1; rw [prs_length] at this; simpa [maxLen] using this
  unfold s_laws_FnExactMirrorGutter
  refine ev_bnd (szGutter_ok w d b t l 1048576 (by omega) n1) ?_
  by_cases h1 : (1048576 : Int) < l.length
  · rw [if_pos h1]; exact ev_t (by simp) ev_some
  · rw [if_neg h1]
    obtain ⟨t', e1, e2⟩ := toGutter_ok w d b t l (by omega)
    have H : GutT w d b t' l := .mk' hw hd ht e1 hl (by omega)
    obtain ⟨w2, d2, b2, t2, l2, y, hn2, k1, k2⟩ := MirrorGutter_two H
    obtain ⟨l', m, m1, m2, m3⟩ := markGutter_ok w d b t' l (by omega)
    have hm := markGutter_okM w2 d2 b2 t2 l2 hn2
    have hh := heldGutter_ok w2 d2 b2 t2 l2.length hn2
    have hq := eqGutter_ok w2 d2 b2 t2 l2 hn2
    refine ev_f (by simp; omega) (ev_bnd e2 (ev_bnd k1 (ev_chk (plain_gut2 ..) (ev_bnd e2 (ev_bnd k2 (ev_chk (plain_gut2 ..) (ev_bnd hq (ev_t rfl (ev_t (by simp) ?_)))))))))
    refine ev_bnd e2 (ev_bnd (eqGutter_ok _ _ _ _ _ (by omega)) (ev_t rfl (ev_bnd m3 (ev_chk (like_prs _ _ _ _ m1.symm) (ev_f (by simp; omega) ?_)))))
    refine ev_bnd hq (ev_t rfl (ev_bnd hm (ev_chk (like_prs _ _ _ _ (by rw [marksP_length])) (ev_bnd hh (ev_f (by simp; omega) (ev_t (by simp) ?_))))))
    exact ev_bnd e2 (ev_bnd k2 (ev_chk (plain_gut2 ..) (ev_bnd hq (ev_t rfl (ev_t (by simp) (ev_bnd hh (ev_f (by simp; omega) (ev_t (by simp) ev_some))))))))
end Go.Proofs.Ytkfihbdikdkcmaa
