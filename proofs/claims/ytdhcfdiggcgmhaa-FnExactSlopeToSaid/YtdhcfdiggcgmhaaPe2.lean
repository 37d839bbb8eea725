/- Law FewestPipes; what a minute does to the water of a gutter; laws DrainTime, FirstOver. -/
import Derived.Test.YtdhcfdiggcgmhaaPr3
import Derived.Test.YtdhcfdiggcgmhaaPq1
import Derived.Test.YtdhcfdiggcgmhaaSh5
namespace Go.Proofs.Ytdhcfdiggcgmhaa
open Go
set_option linter.unusedVariables false
set_option linter.unusedSimpArgs false

theorem GutV.p {w d b : Int} {t : Nat → Int} {l : List (Int × Int)} (H : GutV w d b t l) : (0 ≤ d ∧ d ≤ 1000) ∧ l.length ≤ 4 ∧ ∀ j, j < l.length → (0 ≤ (pr l j).1 ∧ (pr l j).1 < w) ∧ (0 ≤ (pr l j).2 ∧ (pr l j).2 ≤ 1000) := by
  have := H.ok
  simp only [gutOk, gutHead, Bool.and_eq_true, decide_eq_true_eq, allN_iff, gpipe] at this
  exact ⟨this.1.2.1, this.1.2.2.2, fun j hj => ⟨(this.2.2 j (by omega) (by omega)).1.1, (this.2.2 j (by omega) (by omega)).1.2⟩⟩
theorem GutV.bare {w d b : Int} {t : Nat → Int} {l : List (Int × Int)} (H : GutV w d b t l) : GutV w d b t [] := by
  refine ⟨⟨H.bw, H.bd, H.bt, fun j hj => by simp at hj, by simp⟩, ?_⟩
  have := H.ok
  simp only [gutOk, gutHead, Bool.and_eq_true] at this ⊢
  exact ⟨⟨this.1.1, this.1.2.1, this.1.2.2.1, by simp⟩, this.2.1, rfl⟩
theorem FewestPipes_two {w d b : Int} {t : Nat → Int} {l : List (Int × Int)} (H : GutT w d b t l) : ∃ (q : List Int) (y : Int), q.length ≤ 1000 ∧ Ev (fun n => s_spec_FewestPipes n w d t b (pipes l)) (ints .i64 q, y) ∧ Ev (fun n => s_impl_FewestPipes n w d t b (pipes l)) (ints .i64 q, y) := by
  unfold s_spec_FewestPipes s_impl_FewestPipes
  have k1 := l06Ok_ok H
  have k2 := ValidGutter_ok H
  cases hg : gutOk w d b t l with
  | false =>
    rw [hg] at k1 k2
    exact ⟨[], 1, by simp, ev_bnd k1 (ev_f rfl ev_some), ev_bnd k2 (ev_f rfl ev_some)⟩
  | true =>
    rw [hg] at k1 k2
    have hV : GutV w d b t l := ⟨H, hg⟩
    have hB := hV.bare
    have hb := hV.b
    have hk := keptI_len (fun k => decide (flow w b t [] k = -1)) w.toNat
    refine ⟨keptI (fun k => decide (flow w b t [] k = -1)) w.toNat, 0, by omega, ev_bnd k1 (ev_t rfl (ev_bnd (a := ints .i64 (keptI (fun k => decide (flow w b t [] k = -1)) w.toNat)) ?_ ev_some)), ev_bnd k2 (ev_t rfl (ev_bnd (a := ints .i64 (keptI (fun k => decide (flow w b t [] k = -1)) w.toNat)) ?_ (ev_chk (plain_fresh _ _ _) ev_some)))⟩
    · have := loop_cat (l := fun n k g => l_spec_FewestPipes_b0 n (k : Nat) w d t b (pipes l) (ints .i64 g) w d t b (pipes [])) (G := keepI fun k => decide (flow w b t [] k = -1)) (R := fun g => ints .i64 g) w.toNat 0 1 (fun _ _ => keepI_len ..) (fun acc => by
        simp only [l_spec_FewestPipes_b0]
        rw [w64 w (by omega)]
        exact ev_f (by simp; omega) ev_some) (fun k acc hk hl a ih => by
        simp only [l_spec_FewestPipes_b0]
        rw [w64 w (by omega), up64 k (by omega)]
        have hf := flow_b (w := w) (b := b) (t := t) (l := []) (k := k) (by omega)
        refine ev_t (by simp; omega) (ev_bnd (l06To_ok hB k (by omega)) ?_)
        unfold keepI at ih
        dsimp only at ih
        refine ev_cnd (fun c => ?_) (fun c => ?_)
        · simp only [decide_eq_true_eq] at c
          rw [if_pos (by simp; omega), ints_app] at ih
          exact ev_chk (by simp [ints_length]; omega) ih
        · simp only [decide_eq_false_iff_not] at c
          rw [if_neg (by simp; omega), List.append_nil] at ih
          exact ih) [] (by simp)
      exact this
    · unfold s_impl_Gutter_which__FewestPipes_1
      refine ev_bnd (gcells_ok hB) (ev_bnd (a := ints .i64 (keptI (fun k => decide (flow w b t [] k = -1)) w.toNat)) ?_ ev_some)
      have hl : (ints .i64 ((List.range' 0 w.toNat).map fun (i : Nat) => (i : Int))).length = w.toNat := by simp [ints_length]
      rw [hl]
      have := loop_cat (l := fun n k g => l_impl_Gutter_which__FewestPipes_1_b0 n w d t b (pipes []) (w.toNat : Nat) (k : Nat) (ints .i64 g) (ints .i64 ((List.range' 0 w.toNat).map fun (i : Nat) => (i : Int)))) (G := keepI fun k => decide (flow w b t [] k = -1)) (R := fun g => ints .i64 g) w.toNat 0 1 (fun _ _ => keepI_len ..) (fun acc => ev_f (by simp) ev_some) (fun k acc hk hl2 a ih => by
        refine ev_t (by simp; omega) (ev_chk (inB_k _ _ (by rw [hl]; exact hk)) (ev_bnd (a := (k : Int)) (ev_of fun n => by rw [Int.toNat_natCast, nth_upTo _ _ hk]; rfl) (ev_bnd (a := decide (flow w b t [] k = -1)) (by
          unfold s_impl_FewestPipes_1
          exact ev_bnd (flowsTo_ok hB k (by omega)) ev_some) ?_)))
        rw [up64 k (by omega)]
        unfold keepI at ih
        dsimp only at ih
        refine ev_cnd (fun c => ?_) (fun c => ?_)
        · rw [if_pos c, ints_app] at ih
          exact ev_chk (by simp [ints_length]; omega) ih
        · rw [if_neg (by rw [c]; simp), List.append_nil] at ih
          exact ih) [] (by simp)
      exact this
theorem law_FnExactFewestPipes {w d b : Int} {t : Nat → Int} {xs : List V} (hw : (Lit.int .i8 w).wf = true) (hd : (Lit.int .i16 d).wf = true) (ht : ∀ j, j < 17 → (Lit.int .i8 (t j)).wf = true) (hb : (Lit.int .u32 b).wf = true) (hx : PipeW xs)
    : Ev (fun n => s_laws_FnExactFewestPipes n w d t b xs) true := by
  obtain ⟨l, rfl, hl⟩ := prs_of hx.2
  have n1 : l.length ≤ 9223372036854775807 := by have := hx.1; rw [prs_length] at this; simpa [maxLen] using this
  unfold s_laws_FnExactFewestPipes
  refine ev_bnd (szGutter_ok w d b t l 1048576 (by omega) n1) ?_
  by_cases h1 : (1048576 : Int) < l.length
  · rw [if_pos h1]; exact ev_t (by simp) ev_some
  · rw [if_neg h1]
    obtain ⟨t', e1, e2⟩ := toGutter_ok w d b t l (by omega)
    have H : GutT w d b t' l := .mk' hw hd ht e1 hl (by omega)
    obtain ⟨q, y, hq, k1, k2⟩ := FewestPipes_two H
    obtain ⟨l', m, m1, m2, m3⟩ := markGutter_ok w d b t' l (by omega)
    have hm := markInt64S_ok q 1 (by omega)
    have hh := heldInt64S_ok q.length 1 (by omega)
    have hq2 := eqInt64S_ok q (by omega)
    refine ev_f (by simp; omega) (ev_bnd e2 (ev_bnd k1 (ev_chk (plain_two ..) (ev_bnd e2 (ev_bnd k2 (ev_chk (plain_two ..) (ev_bnd hq2 (ev_t rfl (ev_t (by simp) ?_)))))))))
    refine ev_bnd e2 (ev_bnd (eqGutter_ok _ _ _ _ _ (by omega)) (ev_t rfl (ev_bnd m3 (ev_chk (like_prs _ _ _ _ m1.symm) (ev_f (by simp; omega) ?_)))))
    refine ev_bnd hq2 (ev_t rfl (ev_bnd hm (ev_chk (like_ints _ _ _ (by rw [marks_length])) (ev_bnd hh (ev_f (by simp; omega) (ev_t (by simp) ?_))))))
    exact ev_bnd e2 (ev_bnd k2 (ev_chk (plain_two ..) (ev_bnd hq2 (ev_t rfl (ev_t (by simp) (ev_bnd hh (ev_f (by simp; omega) (ev_t (by simp) ev_some))))))))
-- two loops, round by round
theorem lock {σ α β : Type} {l1 : Nat → Nat → σ → Option α} {l2 : Nat → Nat → σ → Option β} {I : Nat → σ → Prop} {R1 : σ → α} {R2 : σ → β} (N : Nat)
    (h1 : ∀ s, I N s → Ev (fun n => l1 (n + 1) N s) (R1 s)) (h2 : ∀ s, I N s → Ev (fun n => l2 (n + 1) N s) (R2 s))
    (hs : ∀ k s, k < N → I k s → ∃ s', I (k + 1) s' ∧ (∀ a, Ev (fun n => l1 n (k + 1) s') a → Ev (fun n => l1 (n + 1) k s) a) ∧ (∀ a, Ev (fun n => l2 n (k + 1) s') a → Ev (fun n => l2 (n + 1) k s) a)) :
    ∀ (d k : Nat) (s : σ), k + d = N → I k s → ∃ s', I N s' ∧ Ev (fun n => l1 n k s) (R1 s') ∧ Ev (fun n => l2 n k s) (R2 s') := by
  intro d
  induction d with
  | zero => intro k s hk hi; obtain rfl : k = N := by omega
            exact ⟨s, hi, ev_succ (h1 s hi), ev_succ (h2 s hi)⟩
  | succ d ih =>
    intro k s hk hi
    obtain ⟨s', a1, a2, a3⟩ := hs k s (by omega) hi
    obtain ⟨s2, b1, b2, b3⟩ := ih (k + 1) s' (by omega) a1
    exact ⟨s2, b1, ev_succ (a2 _ b2), ev_succ (a3 _ b3)⟩
theorem ix (k : Nat) : 0 + (k : Int).toNat * 1 = k := by simp
theorem ixi (c : Int) : 0 + c.toNat * 1 = c.toNat := by omega
theorem ix0 (k : Nat) : (k : Int).toNat * 1 = k := by simp
def WB (m : Int) (v : Nat → Int) : Prop := ∀ j, j < 17 → 0 ≤ v j ∧ v j ≤ m
/-- water that is valid for a gutter -/
def WOk (w d : Int) (v : Nat → Int) : Prop := ∀ j, j < 17 → (0 ≤ v j ∧ v j ≤ d) ∧ (w ≤ (j : Int) → v j = 0)
theorem rain_two {w d b : Int} {t : Nat → Int} {xs : List V} {q : List Int} (hq : ∀ j, j < q.length → 0 ≤ gi q j ∧ gi q j ≤ 1000) (hn : q.length ≤ 17) {v : Nat → Int} (hv : WB 1000 v) (f : Nat → Int) :
    ∃ v', WB 2000 v' ∧ Ev (fun n => l_spec_l06Minute_b0 n w d t b xs (ints .i64 q) 0 v) (w, d, t, b, xs, v') ∧ Ev (fun n => l_impl_Gutter_minute_b0 n (ints .i64 q) (q.length : Int) 0 w d t b xs v f) (w, d, t, b, xs, v', f) := by
  obtain ⟨v', a1, a2, a3⟩ := lock (l1 := fun n k v => l_spec_l06Minute_b0 n w d t b xs (ints .i64 q) (k : Nat) v) (l2 := fun n k v => l_impl_Gutter_minute_b0 n (ints .i64 q) (q.length : Int) (k : Nat) w d t b xs v f) (I := fun k v => ∀ j, j < 17 → 0 ≤ v j ∧ v j ≤ (if j < k then 2000 else 1000)) (R1 := fun v => (w, d, t, b, xs, v)) (R2 := fun v => (w, d, t, b, xs, v, f)) q.length
    (fun v _ => ev_f (by simp [ints_length]) ev_some) (fun v _ => ev_f (by simp) ev_some) (fun k v hk hi => by
      have b1 := hq k hk
      have b2 := hi k (by omega)
      rw [if_neg (by omega)] at b2
      refine ⟨updC v k (v k + gi q k), fun j hj => ?_, fun a ih => ?_, fun a ih => ?_⟩
      · rw [updC_at]
        have b3 := hi j hj
        split
        · subst j; rw [if_pos (by omega)]; omega
        · by_cases hjk : j < k
          · rw [if_pos hjk] at b3; rw [if_pos (by omega)]; exact b3
          · rw [if_neg hjk] at b3; rw [if_neg (by omega)]; exact b3
      · refine ev_t (by simp [ints_length]; omega) (ev_chk (inB_k _ _ (by omega)) (ev_bnd (a := gi q k) (ev_of fun n => by rw [idx_gi _ _ _ hk]; rfl) ?_))
        rw [ix, up64 k (by omega), w32 (gi q k) (by omega), w32 _ (by omega)]
        exact ih
      · refine ev_t (by simp; omega) (ev_bnd (a := gi q k) (ev_of fun n => by rw [idx_gi _ _ _ hk]; rfl) (ev_chk (inB_k _ _ (by omega)) ?_))
        rw [ix, up64 k (by omega), w32 (gi q k) (by omega), w32 _ (by omega)]
        exact ih) q.length 0 v (by omega) (fun j hj => by rw [if_neg (by omega)]; exact hv j hj)
  refine ⟨v', fun j hj => ?_, a2, a3⟩
  have := a1 j hj
  split at this <;> omega
theorem pipes_two {w d b : Int} {t : Nat → Int} {l : List (Int × Int)} (H : GutV w d b t l) {v : Nat → Int} (hv : WB 2000 v) (f : Nat → Int) :
    ∃ (v' : Nat → Int) (m : Int), WB 2000 v' ∧ (∀ j : Nat, w ≤ (j : Int) → v' j = v j) ∧ Ev (fun n => l_spec_l06Minute_b2 n w d t b (pipes l) 0 0 v) (w, d, t, b, pipes l, m, v') ∧ Ev (fun n => l_impl_Gutter_minute_b2 n 0 0 (pipes l) (l.length : Int) 0 w d t b (pipes l) v f) (m, 0, w, d, t, b, pipes l, v', f) := by
  obtain ⟨hd, h4, hp⟩ := H.p
  have hb := H.b
  obtain ⟨⟨v', m⟩, a1, a2, a3⟩ := lock (σ := (Nat → Int) × Int) (l1 := fun n k s => l_spec_l06Minute_b2 n w d t b (pipes l) s.2 (k : Nat) s.1) (l2 := fun n k s => l_impl_Gutter_minute_b2 n s.2 0 (pipes l) (l.length : Int) (k : Nat) w d t b (pipes l) s.1 f)
    (I := fun k s => WB 2000 s.1 ∧ (∀ j : Nat, w ≤ (j : Int) → s.1 j = v j) ∧ 0 ≤ s.2 ∧ s.2 ≤ 2000 * k) (R1 := fun s => (w, d, t, b, pipes l, s.2, s.1)) (R2 := fun s => (s.2, 0, w, d, t, b, pipes l, s.1, f)) l.length
    (fun s _ => ev_f (by simp [prs_length]) ev_some) (fun s _ => ev_f (by simp) ev_some) (fun k s hk hi => by
      obtain ⟨i1, i2, i3, i4⟩ := hi
      obtain ⟨p1, p2⟩ := hp k hk
      have hg : ∀ n : Nat, bnd (idx (pipes l) ((k : Nat) : Int)) as_Pi8_i16Q = some ((pr l k).1, (pr l k).2) := fun n => by rw [idx_prs _ _ _ _ hk]; rfl
      generalize pr l k = p at p1 p2 hg
      obtain ⟨at1, tk⟩ := p
      dsimp only at p1 p2 hg
      obtain ⟨c, rfl⟩ := Int.eq_ofNat_of_zero_le p1.1
      have b1 := i1 c (by omega)
      have hmin : minI (s.1 c) tk = if s.1 c < tk then s.1 c else tk := by unfold minI; split <;> split <;> omega
      have hmb : 0 ≤ minI (s.1 c) tk ∧ minI (s.1 c) tk ≤ s.1 c := by rw [hmin]; split <;> omega
      refine ⟨(updC s.1 c (s.1 c - minI (s.1 c) tk), s.2 + minI (s.1 c) tk), ⟨fun j hj => ?_, fun j hj => ?_, by dsimp only; omega, by dsimp only; push_cast; omega⟩, fun a ih => ?_, fun a ih => ?_⟩
      · dsimp only
        rw [updC_at]
        have := i1 j hj
        split
        · subst j; omega
        · exact this
      · dsimp only
        rw [updC_at, if_neg (by intro h; subst h; omega)]
        exact i2 j hj
      · refine ev_t (by simp [prs_length]; omega) (ev_bnd (ev_of hg) (ev_chk (inB_k _ _ (by omega)) (ev_bnd (a := minI (s.1 c) tk) (ev_of fun n => ?_) ?_)))
        · rw [ix, w64 _ (by omega), w64 tk (by omega)]
          unfold s_spec_l00Min
          rw [hmin]
          by_cases hlt : s.1 c < tk <;> simp [cnd, hlt]
        · rw [ix, up64 k (by omega), w64 _ (by omega), w32 (minI _ _) (by omega), w32 _ (by omega)]
          exact ih
      · refine ev_t (by simp; omega) (ev_bnd (ev_of hg) (ev_chk (inB_k _ _ (by omega)) ?_))
        rw [ix, up64 k (by omega), w32 tk (by omega), w64 (minI _ _) (by omega), w64 _ (by omega), w32 _ (by omega)]
        exact ih) l.length 0 (v, 0) (by omega) ⟨hv, fun _ _ => rfl, by simp, by simp⟩
  exact ⟨v', m, a1.1, a1.2.1, a2, a3⟩
theorem flow_two {w d b : Int} {t : Nat → Int} {l : List (Int × Int)} (H : GutV w d b t l) {v : Nat → Int} (hv : WB 2000 v) (m : Int) (f : Nat → Int) :
    ∃ (o : Nat → Int), WB 34000 o ∧ (∀ j : Nat, w ≤ (j : Int) → o j = 0) ∧ Ev (fun n => l_spec_l06Minute_b4 n w d t b (pipes l) m 0 v (fun _ => 0)) (w, d, t, b, pipes l, m, v, o) ∧
      Ev (fun n => l_impl_Gutter_minute_b4 n m 0 (w.toNat : Int) 0 w d t b (pipes l) v f (fun _ => 0) (ints .i64 ((List.range' 0 w.toNat).map fun (i : Nat) => (i : Int)))) (m, 0, w, d, t, b, pipes l, f, o) := by
  have hb := H.b
  obtain ⟨o, a1, a2, a3⟩ := lock (l1 := fun n k o => l_spec_l06Minute_b4 n w d t b (pipes l) m (k : Nat) v o) (l2 := fun n k o => l_impl_Gutter_minute_b4 n m 0 (w.toNat : Int) (k : Nat) w d t b (pipes l) v f o (ints .i64 ((List.range' 0 w.toNat).map fun (i : Nat) => (i : Int))))
    (I := fun k o => (∀ j, j < 17 → 0 ≤ o j ∧ o j ≤ 2000 * k) ∧ (∀ j : Nat, w ≤ (j : Int) → o j = 0)) (R1 := fun o => (w, d, t, b, pipes l, m, v, o)) (R2 := fun o => (m, 0, w, d, t, b, pipes l, f, o)) w.toNat
    (fun o _ => by
      simp only [l_spec_l06Minute_b4]
      rw [w64 w (by omega)]
      exact ev_f (by simp; omega) ev_some) (fun o _ => ev_f (by simp) ev_some) (fun k o hk hi => by
      obtain ⟨i1, i2⟩ := hi
      have hl : (ints .i64 ((List.range' 0 w.toNat).map fun (i : Nat) => (i : Int))).length = w.toNat := by simp [ints_length]
      have b1 := hv k (by omega)
      have key : ∃ c : Nat, c < 17 ∧ (c : Int) < w ∧ ((flow w b t l k = -1 ∧ c = k) ∨ (0 ≤ flow w b t l k ∧ flow w b t l k = (c : Int))) := by
        rcases flow_b (b := b) (t := t) (l := l) (show (k : Int) < w by omega) with h | h
        · exact ⟨k, by omega, by omega, .inl ⟨h, rfl⟩⟩
        · exact ⟨(flow w b t l k).toNat, by omega, by omega, .inr ⟨h.1, by omega⟩⟩
      obtain ⟨c, c1, c2, c3⟩ := key
      have b2 := i1 c c1
      have hw32 : IntKind.i32.wrap (o c + v k) = o c + v k := w32 _ (by omega)
      refine ⟨updC o c (o c + v k), ⟨fun j hj => ?_, fun j hj => ?_⟩, fun a ih => ?_, fun a ih => ?_⟩
      · rw [updC_at]
        have := i1 j hj
        push_cast
        split
        · subst j; omega
        · omega
      · rw [updC_at, if_neg (by intro h; subst h; omega)]
        exact i2 j hj
      · show Ev (fun n => l_spec_l06Minute_b4 (n + 1) w d t b (pipes l) m (k : Nat) v o) a
        simp only [l_spec_l06Minute_b4]
        rw [w64 w (by omega), up64 k (by omega)]
        refine ev_t (by simp; omega) (ev_bnd (l06To_ok H k (by omega)) ?_)
        rcases c3 with ⟨c3, c4⟩ | ⟨c3, c4⟩
        · subst c4
          refine ev_t (by simp; omega) (ev_chk (inB_k _ _ (by omega)) ?_)
          rw [ix, hw32]; exact ih
        · rw [c4]
          refine ev_f (by simp) (ev_chk (inB_k _ _ (by omega)) (ev_chk (inB_k _ _ (by omega)) ?_))
          rw [ix, ix, hw32]; exact ih
      · refine ev_t (by simp; omega) (ev_chk (inB_k _ _ (by rw [hl]; exact hk)) (ev_bnd (a := (k : Int)) (ev_of fun n => by rw [Int.toNat_natCast, nth_upTo _ _ hk]; rfl) (ev_bnd (flowsTo_ok H k (by omega)) ?_)))
        rw [up64 k (by omega)]
        rcases c3 with ⟨c3, c4⟩ | ⟨c3, c4⟩
        · subst c4
          refine ev_t (by simpa using c3) (ev_chk (inB_k _ _ (by omega)) ?_)
          rw [ix, hw32]; exact ih
        · rw [c4]
          refine ev_f (by simp <;> omega) (ev_chk (inB_k _ _ (by omega)) (ev_chk (inB_k _ _ (by omega)) ?_))
          rw [ix, ix, hw32]; exact ih) w.toNat 0 (fun _ => 0) (by omega) ⟨fun j _ => by simp, fun _ _ => rfl⟩
  refine ⟨o, fun j hj => ?_, a1.2, a2, a3⟩
  have := a1.1 j hj
  omega
theorem over_loop {w d b : Int} {t : Nat → Int} {l : List (Int × Int)} (H : GutV w d b t l) {o : Nat → Int} (ho : WB 34000 o) (hz : ∀ j : Nat, w ≤ (j : Int) → o j = 0) (m : Int) (v f : Nat → Int) :
    ∃ (e : Nat → Int) (x : Int), WOk w d e ∧ 0 ≤ x ∧ Ev (fun n => l_spec_l06Minute_b6 n w d t b (pipes l) m 0 0 v o) (m, x, v, e) ∧ Ev (fun n => l_impl_Gutter_minute_b6 n m 0 o 0 w d t b (pipes l) f o) (m, x, f, e) := by
  have hb := H.b
  obtain ⟨hd, _, _⟩ := H.p
  -- beyond the cells nothing runs over
  have tail : ∀ (k : Nat) (e : Nat → Int) (x : Int), ∀ c, c + k = 17 → w ≤ (c : Int) → Ev (fun n => l_impl_Gutter_minute_b6 n m x o (c : Nat) w d t b (pipes l) f e) (m, x, f, e) := by
    intro k e x
    induction k with
    | zero =>
      intro c hc hw
      exact ev_succ (ev_f (by simp; omega) ev_some)
    | succ k ih =>
      intro c hc hw
      refine ev_succ (ev_t (by simp; omega) (ev_chk (inB_k _ _ (by omega)) ?_))
      rw [ix0, hz c hw, w32 d (by omega), w32 (0 - d) (by omega), up64 c (by omega)]
      exact ev_f (by simp; omega) (ih (c + 1) (by omega) (by omega))
  obtain ⟨s, a1, a2, a3⟩ := lock (σ := (Nat → Int) × Int) (l1 := fun n k s => l_spec_l06Minute_b6 n w d t b (pipes l) m s.2 (k : Nat) v s.1) (l2 := fun n k s => l_impl_Gutter_minute_b6 n m s.2 o (k : Nat) w d t b (pipes l) f s.1)
    (I := fun k s => (∀ j, k ≤ j → j < 17 → s.1 j = o j) ∧ (∀ j, j < k → 0 ≤ s.1 j ∧ s.1 j ≤ d) ∧ 0 ≤ s.2 ∧ s.2 ≤ 34000 * k) (R1 := fun s => (m, s.2, v, s.1)) (R2 := fun s => (m, s.2, f, s.1)) w.toNat
    (fun s _ => by
      simp only [l_spec_l06Minute_b6]
      rw [w64 w (by omega)]
      exact ev_f (by simp; omega) ev_some) (fun s _ => by
      obtain ⟨N, hN⟩ := tail (17 - w.toNat) s.1 s.2 w.toNat (by omega) (by omega)
      exact ⟨N, fun n hn => hN (n + 1) (by omega)⟩) (fun k s hk hi => by
      obtain ⟨i1, i2, i3, i4⟩ := hi
      have e0 := i1 k (Nat.le_refl _) (by omega)
      have b0 := ho k (by omega)
      by_cases hov : d < o k
      · refine ⟨(updC s.1 k d, s.2 + (o k - d)), ⟨fun j h1 h2 => ?_, fun j hj => ?_, by dsimp only; omega, by dsimp only; push_cast; omega⟩, fun a ih => ?_, fun a ih => ?_⟩
        · dsimp only
          rw [updC_at, if_neg (by omega)]; exact i1 j (by omega) h2
        · dsimp only
          rw [updC_at]; split
          · omega
          · exact i2 j (by omega)
        · show Ev (fun n => l_spec_l06Minute_b6 (n + 1) w d t b (pipes l) m s.2 (k : Nat) v s.1) a
          simp only [l_spec_l06Minute_b6]
          rw [w64 w (by omega), ix, e0, w64 (o k) (by omega), w64 d (by omega), w64 (o k - d) (by omega), up64 k (by omega), w64 (s.2 + (o k - d)) (by omega), w32 d (by omega)]
          exact ev_t (by simp; omega) (ev_chk (inB_k _ _ (by omega)) (ev_t (by simp; omega) ih))
        · refine ev_t (by simp; omega) (ev_chk (inB_k _ _ (by omega)) ?_)
          rw [ix0, Nat.zero_add, w32 d (by omega), w32 (o k - d) (by omega), w64 (o k - d) (by omega), up64 k (by omega), w64 (s.2 + (o k - d)) (by omega)]
          exact ev_t (by simp; omega) ih
      · refine ⟨s, ⟨fun j h1 h2 => i1 j (by omega) h2, fun j hj => ?_, i3, by push_cast; omega⟩, fun a ih => ?_, fun a ih => ?_⟩
        · by_cases hjk : j = k
          · subst hjk; omega
          · exact i2 j (by omega)
        · show Ev (fun n => l_spec_l06Minute_b6 (n + 1) w d t b (pipes l) m s.2 (k : Nat) v s.1) a
          simp only [l_spec_l06Minute_b6]
          rw [w64 w (by omega), ix, e0, w64 (o k) (by omega), w64 d (by omega), w64 (o k - d) (by omega), up64 k (by omega)]
          exact ev_t (by simp; omega) (ev_chk (inB_k _ _ (by omega)) (ev_f (by simp; omega) ih))
        · refine ev_t (by simp; omega) (ev_chk (inB_k _ _ (by omega)) ?_)
          rw [ix0, w32 d (by omega), w32 (o k - d) (by omega), up64 k (by omega)]
          exact ev_f (by simp; omega) ih) w.toNat 0 (o, 0) (by omega) ⟨fun _ _ _ => rfl, fun j hj => by omega, by simp, by simp⟩
  refine ⟨s.1, s.2, fun j hj => ?_, a1.2.2.1, a2, a3⟩
  by_cases hjw : j < w.toNat
  · exact ⟨a1.2.1 j hjw, fun h => by omega⟩
  · have h1 := a1.1 j (by omega) hj
    have h2 := hz j (by omega)
    rw [h1, h2]; exact ⟨by omega, fun _ => rfl⟩
/-- a minute, on both sides -/
theorem minute_two {w d b : Int} {t : Nat → Int} {l : List (Int × Int)} (H : GutV w d b t l) {q : List Int} (hq : ∀ j, j < q.length → 0 ≤ gi q j ∧ gi q j ≤ 1000) (hn : q.length ≤ 17) {v : Nat → Int} (hv : WOk w d v) :
    ∃ (m x : Int) (e : Nat → Int), WOk w d e ∧ 0 ≤ x ∧ Ev (fun n => s_spec_l06Minute n w d t b (pipes l) v (ints .i64 q)) (m, x, e) ∧ Ev (fun n => s_impl_Gutter_minute n w d t b (pipes l) v (ints .i64 q)) (e, m, x) := by
  have hb := H.b
  obtain ⟨hd, _, _⟩ := H.p
  unfold s_spec_l06Minute s_impl_Gutter_minute
  obtain ⟨v1, r1, r2, r3⟩ := rain_two (w := w) (d := d) (b := b) (t := t) (xs := pipes l) hq hn (v := v) (fun j hj => by have := hv j hj; omega) (fun _ => 0)
  obtain ⟨v2, m, p1, _, p2, p3⟩ := pipes_two H r1 (fun _ => 0)
  obtain ⟨o, o1, o2, o3, o4⟩ := flow_two H p1 m (fun _ => 0)
  obtain ⟨e, x, e1, e2, e3, e4⟩ := over_loop H o1 o2 m v2 (fun _ => 0)
  refine ⟨m, x, e, e1, e2, ev_bnd r2 (ev_bnd p2 (ev_bnd o3 (ev_bnd e3 ev_some))), ?_⟩
  rw [show ((ints .i64 q).length : Int) = (q.length : Int) by simp [ints_length]]
  refine ev_bnd r3 ?_
  dsimp only
  rw [show ((pipes l).length : Int) = (l.length : Int) by simp [prs_length]]
  refine ev_bnd p3 (ev_bnd (gcells_ok H) ?_)
  dsimp only
  rw [show ((ints .i64 ((List.range' 0 w.toNat).map fun (i : Nat) => (i : Int))).length : Int) = (w.toNat : Int) by simp [ints_length]]
  exact ev_bnd o4 (ev_bnd e4 ev_some)
theorem waterOk_W {w d b : Int} {t v : Nat → Int} {l : List (Int × Int)} (h : waterOk w d b t l v = true) : gutOk w d b t l = true ∧ WOk w d v := by
  simp only [waterOk, Bool.and_eq_true, allN_iff, wcell, Bool.or_eq_true, decide_eq_true_eq] at h
  refine ⟨h.1, fun j hj => ?_⟩
  have := h.2 j (by omega) (by omega)
  exact ⟨this.1, fun hw => by omega⟩
theorem drain_two {w d b : Int} {t : Nat → Int} {l : List (Int × Int)} (H : GutV w d b t l) : ∀ (c k : Nat) (v : Nat → Int), k + c = 201 → WOk w d v → ∃ x : Sum Unit (Int × Int), Ev (fun n => l_spec_DrainTime_b0 n k w d t b (pipes l) v) x ∧ Ev (fun n => l_impl_DrainTime_b0 n k w d t b (pipes l) v) x := by
  intro c
  induction c with
  | zero =>
    intro k v hk _
    exact ⟨.inl (), ev_succ (ev_f (by simp; omega) ev_some), ev_succ (ev_f (by simp; omega) ev_some)⟩
  | succ c ih =>
    intro k v hk hv
    cases hz : allEq 17 v (fun _ => 0) with
    | true => exact ⟨.inr ((k : Int), 0), ev_succ (ev_t (by simp; omega) (ev_t hz ev_some)), ev_succ (ev_t (by simp; omega) (ev_t hz ev_some))⟩
    | false =>
      obtain ⟨m, x, e, e1, _, e3, e4⟩ := minute_two H (q := []) (fun j hj => by simp at hj) (by simp) hv
      obtain ⟨y, y1, y2⟩ := ih (k + 1) e (by omega) e1
      refine ⟨y, ev_succ (ev_t (by simp; omega) (ev_f hz (ev_bnd e3 ?_))), ev_succ (ev_t (by simp; omega) (ev_f hz (ev_bnd e4 ?_)))⟩
      · dsimp only; rw [up64 k (by omega)]; exact y1
      · dsimp only; rw [up64 k (by omega)]; exact y2
theorem law_FnExactDrainTime {w d b : Int} {t v : Nat → Int} {xs : List V} (hw : (Lit.int .i8 w).wf = true) (hd : (Lit.int .i16 d).wf = true) (ht : ∀ j, j < 17 → (Lit.int .i8 (t j)).wf = true) (hb : (Lit.int .u32 b).wf = true) (hx : PipeW xs)
    (hv : ∀ j, j < 17 → (Lit.int .i32 (v j)).wf = true) : Ev (fun n => s_laws_FnExactDrainTime n w d t b xs v) true := by
  obtain ⟨l, rfl, hl⟩ := prs_of hx.2
  have n1 : l.length ≤ 9223372036854775807 := by have := hx.1; rw [prs_length] at this; simpa [maxLen] using this
  unfold s_laws_FnExactDrainTime
  refine ev_bnd (szGutter_ok w d b t l 1048576 (by omega) n1) ?_
  by_cases h1 : (1048576 : Int) < l.length
  · rw [if_pos h1]; exact ev_t (by simp) ev_some
  · rw [if_neg h1]
    obtain ⟨c, e1, e2⟩ := toGutter_ok w d b t l (by omega)
    obtain ⟨v', e3, e4⟩ := toWater_ok v
    have H : GutT w d b c l := .mk' hw hd ht e1 hl (by omega)
    have hv' : ∀ j, j < 17 → -2147483648 ≤ v' j ∧ v' j ≤ 2147483647 := fun j hj => by rw [e3 j hj]; exact wf_i32 (hv j hj)
    have k : ∃ (x y : Int), Ev (fun n => s_spec_DrainTime n w d c b (pipes l) v') (x, y) ∧ Ev (fun n => s_impl_DrainTime n w d c b (pipes l) v') (x, y) := by
      unfold s_spec_DrainTime s_impl_DrainTime s_impl_waterCode
      have k1 := l06Water_ok H hv'
      have k2 := ValidWater_ok H hv'
      cases hg : waterOk w d b c l v' with
      | false =>
        rw [hg] at k1 k2
        exact ⟨0, 1, ev_bnd k1 (ev_f rfl ev_some), ev_bnd (ev_bnd k2 (ev_f rfl ev_some)) (ev_f (by simp) ev_some)⟩
      | true =>
        rw [hg] at k1 k2
        obtain ⟨g1, g2⟩ := waterOk_W hg
        obtain ⟨x, y1, y2⟩ := drain_two ⟨H, g1⟩ 201 0 v' (by omega) g2
        cases x with
        | inl u => exact ⟨0, 6, ev_bnd k1 (ev_t rfl (ev_bnd y1 ev_some)), ev_bnd (ev_bnd k2 (ev_t rfl (ev_t rfl ev_some))) (ev_t (by simp) (ev_bnd y2 ev_some))⟩
        | inr p =>
          obtain ⟨p1, p2⟩ := p
          exact ⟨p1, p2, ev_bnd k1 (ev_t rfl (ev_bnd y1 ev_some)), ev_bnd (ev_bnd k2 (ev_t rfl (ev_t rfl ev_some))) (ev_t (by simp) (ev_bnd y2 ev_some))⟩
    obtain ⟨x, y, k1, k2⟩ := k
    refine ev_f (by simp; omega) (ev_bnd e2 (ev_bnd e4 (ev_bnd k1 (ev_bnd e2 (ev_bnd e4 (ev_bnd k2 (ev_t (by simp) (ev_t (by simp) ?_))))))))
    exact ev_bnd e2 (ev_bnd (eqGutter_ok _ _ _ _ _ (by omega)) (ev_t rfl ev_some))
-- rain
def deepQ (q : List Int) : Bool := allN (fun j => decide (0 ≤ gi q j ∧ gi q j ≤ 1000)) 0 q.length
def rainQ (w : Int) (q : List Int) : Bool := deepQ q && decide ((q.length : Int) = w)
theorem l06Rain_ok {w d b : Int} {t : Nat → Int} {l : List (Int × Int)} (H : GutT w d b t l) (q : List Int) (hq : q.length ≤ 1048576) : Ev (fun n => s_spec_l06Rain n w d t b (pipes l) (ints .i64 q)) (rainQ w q) := by
  unfold s_spec_l06Rain rainQ deepQ
  have hbw := H.bw
  have key := loop_all (l := fun n k => l_spec_l06Rain_b0 n w d t b (pipes l) (ints .i64 q) (k : Nat)) (p := fun j => decide (0 ≤ gi q j ∧ gi q j ≤ 1000)) (A := .inl (w, d, t, b, pipes l, ints .i64 q)) (B := .inr false) q.length (ev_f (by simp [ints_length]) ev_some) (by
    intro k hk hp a ih
    refine ev_t (by simp [ints_length]; omega) (ev_bnd (a := gi q k) (ev_of fun n => by rw [idx_gi _ _ _ hk]; rfl) (ev_bnd (ev_of fun n => l06Deep_eq n _) (ev_t hp ?_)))
    rw [up64 k (by omega)]; exact ih) (by
    intro k hk hp
    exact ev_t (by simp [ints_length]; omega) (ev_bnd (a := gi q k) (ev_of fun n => by rw [idx_gi _ _ _ hk]; rfl) (ev_bnd (ev_of fun n => l06Deep_eq n _) (ev_f hp ev_some)))) q.length 0 (by omega)
  refine ev_bnd key ?_
  cases allN (fun j => decide (0 ≤ gi q j ∧ gi q j ≤ 1000)) 0 q.length with
  | false => exact ev_some
  | true => refine ev_cast ev_some ?_; rw [w64 w (by omega), ints_length]; simp
theorem isDeep64_eq (n : Nat) (a : Int) : s_impl_isDeep_int64 n a = some (decide (0 ≤ a ∧ a ≤ 1000)) := by
  unfold s_impl_isDeep_int64; rw [within_i64]; simp [bnd_s]
theorem isRain_ok {w d b : Int} {t : Nat → Int} {l : List (Int × Int)} (H : GutT w d b t l) (q : List Int) (hq : q.length ≤ 1048576) : Ev (fun n => s_impl_Gutter_isRain n w d t b (pipes l) (ints .i64 q)) (rainQ w q) := by
  unfold s_impl_Gutter_isRain rainQ deepQ
  have hbw := H.bw
  rw [w64 w (by omega), show ((ints .i64 q).length : Int) = (q.length : Int) by simp [ints_length]]
  by_cases hw : (q.length : Int) = w
  · rw [show decide ((q.length : Int) = w) = true by simpa using hw, Bool.and_true]
    refine ev_t rfl ?_
    unfold s_impl_areAll_int64__isDeep_int64 s_slices_ContainsFunc_Sint64_int64__areAll_int64_1__isDeep_int64 s_slices_IndexFunc_Sint64_int64__areAll_int64_1__isDeep_int64
    have e : ∀ (n : Nat) (c : Int), s_impl_areAll_int64_1__isDeep_int64 n c = some (!decide (0 ≤ c ∧ c ≤ 1000)) := fun n c => by
      unfold s_impl_areAll_int64_1__isDeep_int64; rw [isDeep64_eq]; rfl
    rw [show ((ints .i64 q).length : Int) = (q.length : Int) by simp [ints_length]]
    have key2 : ∀ (c k : Nat), k + c = q.length → ∃ x : Sum Unit Int, Ev (fun n => l_slices_IndexFunc_Sint64_int64__areAll_int64_1__isDeep_int64_b0 n (ints .i64 q) (q.length : Int) (k : Nat)) x ∧ ((x = .inl () ∧ allN (fun j => decide (0 ≤ gi q j ∧ gi q j ≤ 1000)) k c = true) ∨ (∃ j : Nat, x = .inr (j : Int) ∧ allN (fun j => decide (0 ≤ gi q j ∧ gi q j ≤ 1000)) k c = false)) := by
      intro c
      induction c with
      | zero => intro k hk; exact ⟨.inl (), ev_succ (ev_f (by simp; omega) ev_some), .inl ⟨rfl, rfl⟩⟩
      | succ c ih =>
        intro k hk
        have hlt : k < q.length := by omega
        cases hp : decide (0 ≤ gi q k ∧ gi q k ≤ 1000) with
        | false => exact ⟨.inr (k : Int), ev_succ (ev_t (by simp; omega) (ev_bnd (a := gi q k) (ev_of fun n => by rw [idx_gi _ _ _ hlt]; rfl) (ev_bnd (ev_of fun n => e n _) (ev_t (by rw [hp]; rfl) ev_some)))), .inr ⟨k, rfl, by simp only [allN]; rw [hp]; rfl⟩⟩
        | true =>
          obtain ⟨x, x1, x2⟩ := ih (k + 1) (by omega)
          refine ⟨x, ev_succ (ev_t (by simp; omega) (ev_bnd (a := gi q k) (ev_of fun n => by rw [idx_gi _ _ _ hlt]; rfl) (ev_bnd (ev_of fun n => e n _) (ev_f (by rw [hp]; rfl) ?_)))), ?_⟩
          · rw [up64 k (by omega)]; exact x1
          · simp only [allN]; rw [hp, Bool.true_and]; exact x2
    obtain ⟨x, x1, x2⟩ := key2 q.length 0 (by omega)
    rcases x2 with ⟨rfl, x2⟩ | ⟨j, rfl, x2⟩
    · rw [x2]
      exact ev_bnd (ev_bnd (ev_bnd (ev_bnd x1 ev_some) ev_some) ev_some) (ev_cast ev_some (by simp))
    · rw [x2]
      exact ev_bnd (ev_bnd (ev_bnd (ev_bnd x1 ev_some) ev_some) ev_some) (ev_cast ev_some (by simp))
  · rw [show decide ((q.length : Int) = w) = false by simpa using hw, Bool.and_false]
    exact ev_f rfl ev_some
theorem rainQ_b {w : Int} {q : List Int} (h : rainQ w q = true) : (q.length : Int) = w ∧ ∀ j, j < q.length → 0 ≤ gi q j ∧ gi q j ≤ 1000 := by
  simp only [rainQ, deepQ, Bool.and_eq_true, decide_eq_true_eq, allN_iff] at h
  exact ⟨h.2, fun j hj => h.1 j (by omega) (by omega)⟩
theorem WOk_zero {w d : Int} (hd : 0 ≤ d) : WOk w d (fun _ => 0) := fun j _ => ⟨⟨by simp, hd⟩, fun _ => rfl⟩
theorem over_two {w d b : Int} {t : Nat → Int} {l : List (Int × Int)} (H : GutV w d b t l) {q : List Int} (hq : rainQ w q = true) : ∀ (c k : Nat) (v : Nat → Int), k + c = 200 → WOk w d v → ∃ x : Sum Unit Int, (∀ y, x = .inr y → 0 ≤ y ∧ y < 200) ∧ Ev (fun n => l_spec_l06Over_b0 n w d t b (pipes l) (ints .i64 q) k v) x ∧ Ev (fun n => l_impl_Gutter_firstOver_b0 n (ints .i64 q) k w d t b (pipes l) v) x := by
  obtain ⟨q1, q2⟩ := rainQ_b hq
  have hb := H.b
  intro c
  induction c with
  | zero =>
    intro k v hk _
    refine ⟨.inl (), ⟨?_, ev_succ (ev_f (by simp; omega) ev_some), ev_succ (ev_f (by simp; omega) ev_some)⟩⟩
    intro y h; cases h
  | succ c ih =>
    intro k v hk hv
    obtain ⟨m, x, e, e1, _, e3, e4⟩ := minute_two H q2 (by omega) hv
    by_cases hx : 0 < x
    · refine ⟨.inr (k : Int), ⟨?_, ?_⟩⟩
      · intro y h; have := Sum.inr.inj h; omega
      exact ⟨ev_succ (ev_t (by simp; omega) (ev_bnd e3 (ev_t (by simpa using hx) ev_some))), ev_succ (ev_t (by simp; omega) (ev_bnd e4 (ev_t (by simpa using hx) ev_some)))⟩
    · obtain ⟨y, y0, y1, y2⟩ := ih (k + 1) e (by omega) e1
      refine ⟨y, y0, ev_succ (ev_t (by simp; omega) (ev_bnd e3 (ev_f (by simpa using hx) ?_))), ev_succ (ev_t (by simp; omega) (ev_bnd e4 (ev_f (by simpa using hx) ?_)))⟩
      · rw [up64 k (by omega)]; exact y1
      · rw [up64 k (by omega)]; exact y2
/-- the first minute, on both sides -/
theorem first_two {w d b : Int} {t : Nat → Int} {l : List (Int × Int)} (H : GutV w d b t l) {q : List Int} (hq : rainQ w q = true) : ∃ y : Int, (y = -1 ∨ (0 ≤ y ∧ y < 200)) ∧ Ev (fun n => s_spec_l06Over n w d t b (pipes l) (ints .i64 q)) y ∧ Ev (fun n => s_impl_Gutter_firstOver n w d t b (pipes l) (ints .i64 q)) (if y = -1 then 200 else y) := by
  obtain ⟨hd, _, _⟩ := H.p
  obtain ⟨x, x0, x1, x2⟩ := over_two H hq 200 0 (fun _ => 0) (by omega) (WOk_zero hd.1)
  unfold s_spec_l06Over s_impl_Gutter_firstOver
  cases x with
  | inl u => exact ⟨-1, .inl rfl, ev_bnd x1 ev_some, ev_bnd x2 ev_some⟩
  | inr y =>
    have := x0 y rfl
    refine ⟨y, .inr this, ev_bnd x1 ev_some, ev_bnd x2 ?_⟩
    rw [if_neg (by omega)]; exact ev_some
theorem toInt64S_ok (l : List Int) (hl : l.length ≤ 1048576) : Ev (fun n => s_laws_toInt64S n (ints .i64 l)) (ints .i64 l) := by
  unfold s_laws_toInt64S
  refine ev_chk (by simp [ints_length]; omega) ?_
  obtain ⟨v, hv, h1⟩ := loop_up (l := fun n k (st : List Int) => l_laws_toInt64S_b0 n (ints .i64 l) (k : Nat) (ints .i64 st)) (I := fun k st => st.length = l.length ∧ ∀ j, j < k → st[j]? = l[j]?)
    (P := fun v => v = ints .i64 l) l.length (by
    rintro k st hk ⟨e1, e2⟩ ih
    by_cases hlt : k < l.length
    · have hk2 : k < st.length := by omega
      refine tot_t (by simp [ints_length]; omega) (tot_ev (a := gi l k) (ev_of fun n => by rw [idx_gi _ _ _ hlt]; rfl) (tot_chk (inB_k _ _ (by rw [ints_length]; exact hk2)) (tot_ev (a := gi st k) (ev_of fun n => by rw [Int.toNat_natCast, nth_gi _ _ _ hk2]; rfl) ?_)))
      rw [Int.toNat_natCast, set_ints, up64 k (by omega)]
      refine ih hlt _ ⟨by simp [e1], fun j hj => ?_⟩
      rw [List.getElem?_set]
      by_cases h : k = j
      · subst h; rw [if_pos rfl, if_pos hk2, List.getElem?_eq_getElem hlt, gi_get hlt]
      · rw [if_neg h]; exact e2 j (by omega)
    · obtain rfl : k = l.length := by omega
      refine tot_f (by simp [ints_length]) (tot_some ?_)
      congr 1
      apply List.ext_getElem?
      intro j
      by_cases hj : j < l.length
      · exact e2 j hj
      · rw [List.getElem?_eq_none (by omega), List.getElem?_eq_none (by omega)]) 0 (List.replicate l.length 0) (by omega) ⟨by simp, fun j hj => by omega⟩
  subst hv
  rw [show ((((ints .i64 l).length : Int)).toNat) = l.length by simp [ints_length], rep_ints]
  exact ev_bnd h1 ev_some
theorem law_FnExactFirstOver {w d b : Int} {t : Nat → Int} {xs ys : List V} (hw : (Lit.int .i8 w).wf = true) (hd : (Lit.int .i16 d).wf = true) (ht : ∀ j, j < 17 → (Lit.int .i8 (t j)).wf = true) (hb : (Lit.int .u32 b).wf = true) (hx : PipeW xs)
    (hy : ys.length ≤ maxLen ∧ ∀ x, x ∈ ys → inL [.int .i64] [x]) : Ev (fun n => s_laws_FnExactFirstOver n w d t b xs ys) true := by
  obtain ⟨l, rfl, hl⟩ := prs_of hx.2
  obtain ⟨q, rfl, _⟩ := ints_of hy.2
  have n1 : l.length ≤ 9223372036854775807 := by have := hx.1; rw [prs_length] at this; simpa [maxLen] using this
  unfold s_laws_FnExactFirstOver
  rw [show ((ints .i64 q).length : Int) = (q.length : Int) by simp [ints_length]]
  by_cases h0 : (1048576 : Int) < q.length
  · exact ev_t (by simpa using h0) ev_some
  · refine ev_f (by simpa using h0) (ev_bnd (szGutter_ok w d b t l 1048576 (by omega) n1) ?_)
    by_cases h1 : (1048576 : Int) < l.length
    · rw [if_pos h1]; exact ev_t (by simp) ev_some
    · rw [if_neg h1]
      obtain ⟨c, e1, e2⟩ := toGutter_ok w d b t l (by omega)
      have hq := toInt64S_ok q (by omega)
      have H : GutT w d b c l := .mk' hw hd ht e1 hl (by omega)
      have k : ∃ (x y : Int), Ev (fun n => s_spec_FirstOver n w d c b (pipes l) (ints .i64 q)) (x, y) ∧ Ev (fun n => s_impl_FirstOver n w d c b (pipes l) (ints .i64 q)) (x, y) := by
        unfold s_spec_FirstOver s_impl_FirstOver
        by_cases hz : gutC w d b c l (rainQ w q) = 0
        · obtain ⟨g1, g2⟩ := gutC_zero hz
          obtain ⟨y, y0, y1, y2⟩ := first_two ⟨H, g1⟩ g2
          have hy : ∃ (x z : Int), (if y < 0 then ((0 : Int), (6 : Int)) else (y, 0)) = (x, z) := ⟨_, _, rfl⟩
          by_cases hn : y = -1
          · subst hn
            exact ⟨0, 6, ev_bnd (l06Rain_ok H q (by omega)) (ev_bnd (l06Asked_ok H _) (ev_t (by simpa using hz) (ev_bnd y1 (ev_t (by simp) ev_some)))), ev_bnd (isRain_ok H q (by omega)) (ev_bnd (gutterCode_ok H _) (ev_t (by simpa using hz) (ev_bnd y2 (ev_t (by simp) ev_some))))⟩
          · rw [if_neg hn] at y2
            exact ⟨y, 0, ev_bnd (l06Rain_ok H q (by omega)) (ev_bnd (l06Asked_ok H _) (ev_t (by simpa using hz) (ev_bnd y1 (ev_f (by simp; omega) ev_some)))), ev_bnd (isRain_ok H q (by omega)) (ev_bnd (gutterCode_ok H _) (ev_t (by simpa using hz) (ev_bnd y2 (ev_f (by simp; omega) ev_some))))⟩
        · exact ⟨0, _, ev_bnd (l06Rain_ok H q (by omega)) (ev_bnd (l06Asked_ok H _) (ev_f (by simpa using hz) ev_some)), ev_bnd (isRain_ok H q (by omega)) (ev_bnd (gutterCode_ok H _) (ev_f (by simpa using hz) ev_some))⟩
      obtain ⟨x, y, k1, k2⟩ := k
      refine ev_f (by simp; omega) (ev_bnd e2 (ev_bnd hq (ev_bnd k1 (ev_bnd e2 (ev_bnd hq (ev_bnd k2 (ev_t (by simp) (ev_t (by simp) ?_))))))))
      exact ev_bnd e2 (ev_bnd (eqGutter_ok _ _ _ _ _ (by omega)) (ev_t rfl (ev_bnd hq (ev_bnd (eqInt64S_okL q (by omega)) (ev_t rfl ev_some)))))
end Go.Proofs.Ytdhcfdiggcgmhaa
