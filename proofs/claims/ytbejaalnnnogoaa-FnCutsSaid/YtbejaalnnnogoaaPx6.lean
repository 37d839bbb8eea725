/- What is drawn out of bytes: numbers, a valid shape. The functions of the law FnCuts, one by one. The law FnCuts. -/
import Derived.Test.YtbejaalnnnogoaaPx5
import Derived.Test.YtbejaalnnnogoaaSh2
namespace Go.Proofs.Ytbejaalnnnogoaa
open Go
set_option linter.unusedVariables false
set_option linter.unusedSimpArgs false

def bys (l : List Int) : List V := l.map fun x => V.int .u8 x
theorem bys_length (l : List Int) : (bys l).length = l.length := List.length_map ..
theorem bys_of : ∀ {xs : List V}, (∀ x, x ∈ xs → inL [.int .u8] [x]) → ∃ l, xs = bys l ∧ ∀ y, y ∈ l → 0 ≤ y ∧ y ≤ 255
  | [], _ => ⟨[], rfl, fun p hp => by cases hp⟩
  | x :: xs, h => by
    obtain ⟨l, rfl, e⟩ := bys_of (xs := xs) fun y hy => h y (List.mem_cons_of_mem _ hy)
    have hm := h x (List.mem_cons_self ..)
    simp only [inL, inP] at hm
    obtain ⟨v, r, e1, ⟨a, rfl, ha⟩, _⟩ := hm
    obtain ⟨rfl, _⟩ := List.cons.inj e1
    refine ⟨a :: l, rfl, fun p hp => ?_⟩
    rcases List.mem_cons.1 hp with rfl | hp
    · exact wf_u8 ha
    · exact e p hp
theorem idx_bys {l : List Int} {j : Nat} (h : j < l.length) : bnd (idx (bys l) (j : Int)) as_u8 = some l[j] := by
  rw [idx_nat, bys]; simp [h, bnd, as_u8]
def Bytes (l : List Int) : Prop := l.length ≤ 1000000 ∧ ∀ y, y ∈ l → 0 ≤ y ∧ y ≤ 255
theorem low8 (x : Int) : 0 ≤ IntKind.i64.wrap (IntKind.u64.wrap (BitVec.ofInt IntKind.u64.bits x &&& BitVec.ofInt IntKind.u64.bits (255)).toNat) ∧ IntKind.i64.wrap (IntKind.u64.wrap (BitVec.ofInt IntKind.u64.bits x &&& BitVec.ofInt IntKind.u64.bits (255)).toNat) ≤ 255 := by
  have h : (BitVec.ofInt IntKind.u64.bits x &&& BitVec.ofInt IntKind.u64.bits (255)).toNat ≤ 255 := by
    rw [BitVec.toNat_and]
    exact Nat.le_trans Nat.and_le_right (by decide)
  rw [wu64 _ (by omega), w64 _ (by omega)]
  omega
/-- a number that is drawn, and what the source is then -/
def PickP (l : List Int) (a n : Int) (v : Int × List V × Int × Int) : Prop := ∃ x a' z : Int, v = (x, bys l, a', z) ∧ 0 ≤ x ∧ x < n ∧ a ≤ a' ∧ a' ≤ a + 1
theorem next_ok {l : List Int} (hl : Bytes l) (a z : Int) (ha : 0 ≤ a ∧ a ≤ 1000000) : Tot (fun n => s_pspec_l00Src_next n (bys l) a z) (PickP l a 256) := by
  have hn := hl.1
  obtain ⟨j, rfl⟩ := Int.eq_ofNat_of_zero_le ha.1
  unfold s_pspec_l00Src_next
  rw [up64 j (by omega)]
  by_cases hlt : j < l.length
  · have hb := hl.2 _ (List.getElem_mem hlt)
    refine tot_t (by simp [bys_length]; omega) (tot_ev (a := l[j]) (ev_of fun n => idx_bys hlt) (tot_cnd (fun c => tot_some ⟨_, _, _, rfl, ?_, ?_, by omega, by omega⟩) (fun c => tot_chk (by simp) (tot_some ⟨_, _, _, rfl, ?_, ?_, by omega, by omega⟩))))
    · rw [w64 _ (by omega)]; omega
    · rw [w64 _ (by omega)]; omega
    · exact (low8 _).1
    · have := (low8 ((IntKind.u64.wrap ((IntKind.u64.wrap ((IntKind.u64.wrap (z * 6364136223846793005)) + (IntKind.u64.wrap (IntKind.i64.wrap l[j])))) + (1442695040888963407))).fdiv (2 ^ (min (40 : Int).toNat IntKind.u64.bits)))).2
      omega
  · refine tot_f (by simp [bys_length]; omega) (tot_cnd (fun c => tot_some ⟨_, _, _, rfl, by omega, by omega, by omega, by omega⟩) (fun c => tot_chk (by simp) (tot_some ⟨_, _, _, rfl, ?_, ?_, by omega, by omega⟩)))
    · exact (low8 _).1
    · have := (low8 ((IntKind.u64.wrap ((IntKind.u64.wrap ((IntKind.u64.wrap (z * 6364136223846793005)) + (IntKind.u64.wrap (0)))) + (1442695040888963407))).fdiv (2 ^ (min (40 : Int).toNat IntKind.u64.bits)))).2
      omega
theorem pick_ok {l : List Int} (hl : Bytes l) (a z n : Int) (ha : 0 ≤ a ∧ a ≤ 1000000) (hn : 1 ≤ n ∧ n ≤ 200) : Tot (fun k => s_pspec_l00Src_pick k (bys l) a z n) (PickP l a n) := by
  unfold s_pspec_l00Src_pick
  by_cases h1 : n ≤ 1
  · exact tot_t (by simpa using h1) (tot_some ⟨0, a, z, rfl, by omega, by omega, by omega, by omega⟩)
  · refine tot_f (by simpa using h1) (tot_bnd (next_ok hl a z ha) ?_)
    rintro v ⟨x, a', z', rfl, h2, h3, h4, h5⟩
    refine tot_f (by simp; omega) (tot_chk (by simp; omega) (tot_some ⟨_, _, _, rfl, ?_, ?_, h4, h5⟩))
    · rw [Int.tmod_eq_emod_of_nonneg h2]; exact Int.emod_nonneg _ (by omega)
    · rw [Int.tmod_eq_emod_of_nonneg h2]; exact Int.emod_lt_of_pos _ (by omega)
theorem one_ok {l : List Int} (hl : Bytes l) (a z n : Int) (ha : 0 ≤ a ∧ a ≤ 1000000) (hn : 1 ≤ n ∧ n ≤ 200) : Tot (fun k => s_pspec_l00Src_one k (bys l) a z n) (fun v => ∃ (b : Bool) (a' z' : Int), v = (b, bys l, a', z') ∧ a ≤ a' ∧ a' ≤ a + 1) := by
  unfold s_pspec_l00Src_one
  refine tot_bnd (pick_ok hl a z n ha hn) ?_
  rintro v ⟨x, a', z', rfl, h2, h3, h4, h5⟩
  exact tot_some ⟨_, _, _, rfl, h4, h5⟩
/-- spans that lie on the roof -/
def okL (s : List (Int × Int)) : Prop := ∀ p, p ∈ s → 0 ≤ p.1 ∧ p.1 < p.2 ∧ p.2 ≤ 200
theorem spn_snoc (Q : List (Int × Int)) (a b : Int) : spn Q ++ [V.parts [V.int .i16 a, V.int .i16 b]] = spn (Q ++ [(a, b)]) := by
  show _ = prs .i16 .i16 (Q ++ [(a, b)])
  rw [prs_app]; rfl
theorem okL_snoc {s : List (Int × Int)} {a b : Int} (h : okL s) (hb : 0 ≤ a ∧ a < b ∧ b ≤ 200) : okL (s ++ [(a, b)]) := fun p hp => by
  rcases List.mem_append.1 hp with hp | hp
  · exact h p hp
  · rw [List.mem_singleton] at hp; subst hp; exact hb
theorem drawnL_ok {l : List Int} (hl : Bytes l) {x1 x2 : Int} {x3 : List V} : ∀ (k : Nat) (a z : Int) (s : List (Int × Int)), k ≤ 6 → 0 ≤ a → a + 4 * k ≤ 1000 → s.length + k ≤ 6 → okL s →
    Tot (fun n => l_spec_l05Drawn_b0 n k (bys l) a z x1 x2 x3 (spn s)) (fun r => ∃ (a' z' : Int) (s' : List (Int × Int)), r = (bys l, a', z', x1, x2, x3, spn s') ∧ s'.length = s.length + k ∧ okL s')
  | 0, a, z, s, _, _, _, _, hs => tot_succ (tot_f (by simp) (tot_some ⟨_, _, _, rfl, rfl, hs⟩))
  | k + 1, a, z, s, hk, ha, ha2, hl6, hs => by
    refine tot_succ (tot_t (by simp) (tot_bnd (pick_ok hl a z 60 (by omega) (by omega)) ?_))
    rintro v ⟨x, a1, z1, rfl, b1, c1, d1, e1⟩
    refine tot_bnd (pick_ok hl a1 z1 50 (by omega) (by omega)) ?_
    rintro v ⟨y, a2, z2, rfl, b2, c2, d2, e2⟩
    refine tot_bnd (one_ok hl a2 z2 5 (by omega) (by omega)) ?_
    rintro v ⟨b, a3, z3, rfl, d3, e3⟩
    have ek : IntKind.i64.wrap (((k + 1 : Nat) : Int) - 1) = (k : Int) := by rw [w64 _ (by omega)]; omega
    have hc : ∀ p : V, decide (((spn s).length + [p].length) * 4 ≤ 140737488355328) = true := fun p => by rw [prs_length]; simp; omega
    cases b with
    | true =>
      refine tot_t rfl (tot_bnd (pick_ok hl a3 z3 7 (by omega) (by omega)) ?_)
      rintro v ⟨y', a4, z4, rfl, b4, c4, d4, e4⟩
      refine tot_chk (hc _) ?_
      rw [ek, w16 x (by omega), w64 (1 + y') (by omega), w64 (x + (1 + y')) (by omega), w16 _ (by omega), spn_snoc]
      refine tot_mono (drawnL_ok hl k a4 z4 _ (by omega) (by omega) (by omega) (by simp; omega) (okL_snoc hs (by omega))) ?_
      rintro r ⟨a', z', s', rfl, h1, h2⟩
      exact ⟨a', z', s', rfl, by rw [h1]; simp; omega, h2⟩
    | false =>
      refine tot_f rfl (tot_chk (hc _) ?_)
      rw [ek, w16 x (by omega), w64 (1 + y) (by omega), w64 (x + (1 + y)) (by omega), w16 _ (by omega), spn_snoc]
      refine tot_mono (drawnL_ok hl k a3 z3 _ (by omega) (by omega) (by omega) (by simp; omega) (okL_snoc hs (by omega))) ?_
      rintro r ⟨a', z', s', rfl, h1, h2⟩
      exact ⟨a', z', s', rfl, by rw [h1]; simp; omega, h2⟩
theorem plain_shape (m : Int) (s : List (Int × Int)) : plainV (V.parts [(V.int .u8 m), (V.fresh 0 (spn s))]) = true := by
  have : allB plainP.plainE (spn s) = true := plain_prs .i16 .i16 0 s
  simp only [plainV, allB, plainQ, plainP, plainO, this]
theorem A2Shape_ok {l : List Int} (hl : Bytes l) : Tot (fun n => s_spec_A2Shape n (bys l)) (fun r => ∃ (m : Int) (s : List (Int × Int)), r = (m, spn s) ∧ okS m s) := by
  unfold s_spec_A2Shape s_spec_l00From s_spec_l05Drawn
  refine tot_ev ev_some ?_
  refine tot_bnd (Q := fun r => ∃ (m : Int) (s : List (Int × Int)) (b : List V) (a z : Int), r = (m, spn s, b, a, z) ∧ okS m s) (tot_bnd (pick_ok hl 0 0 2 (by omega) (by omega)) ?_) ?_
  · rintro v ⟨x, a1, z1, rfl, b1, c1, d1, e1⟩
    refine tot_bnd (pick_ok hl a1 z1 6 (by omega) (by omega)) ?_
    rintro v ⟨y, a2, z2, rfl, b2, c2, d2, e2⟩
    dsimp only
    obtain ⟨k, rfl⟩ := Int.eq_ofNat_of_zero_le b2
    rw [show IntKind.i64.wrap (1 + (k : Int)) = ((k + 1 : Nat) : Int) by rw [w64 _ (by omega)]; omega, wu8 x (by omega)]
    refine tot_bnd (drawnL_ok hl (k + 1) a2 z2 [] (by omega) (by omega) (by omega) (by simp; omega) (fun p hp => by cases hp)) ?_
    rintro r ⟨a', z', s', rfl, h1, h2⟩
    simp only [List.length_nil] at h1
    exact tot_some ⟨x, s', _, _, _, rfl, by omega, by omega, by omega, by omega, fun j hj => h2 _ (pr_mem hj)⟩
  · rintro v ⟨m, s, b, a, z, rfl, h⟩
    exact tot_chk (plain_shape m s) (tot_some ⟨m, s, rfl, h⟩)
theorem plain_tup2 (m c : Int) (s : List (Int × Int)) : plainV (V.tup [(V.parts [(V.int .u8 m), (V.fresh 0 (spn s))]), (V.int .i64 c)]) = true := by
  have : allB plainP.plainE (spn s) = true := plain_prs .i16 .i16 0 s
  simp only [plainV, allB, plainQ, plainP, plainO, this]
theorem plain_tup3 (c : Int) (P : List (Int × Int)) : plainV (V.tup [(V.fresh 0 (pcs P)), (V.int .i64 c)]) = true := by
  have : allB plainP.plainE (pcs P) = true := plain_prs .i8 .i8 0 P
  simp only [plainV, allB, plainQ, plainP, plainO, this]
theorem plain_tup4 (c : Int) (P : List (Int × Int)) : plainV (V.tup [(V.int .i64 c), (V.fresh 0 (pcs P))]) = true := by
  have : allB plainP.plainE (pcs P) = true := plain_prs .i8 .i8 0 P
  simp only [plainV, allB, plainQ, plainP, plainO, this]
theorem eqp (k k' : IntKind) (a b c d : Int) : eqParts [(V.int k a), (V.int k' b)] [(V.int k c), (V.int k' d)] = (decide (a = c) && decide (b = d)) := by simp [eqParts]
theorem SameShape_ok (m : Int) (s : List (Int × Int)) (hl : s.length ≤ 1000) : Ev (fun n => s_spec_SameShape n m (spn s) m (spn s)) true := by
  unfold s_spec_SameShape
  refine ev_t (by simp) (ev_t (by simp) (ev_bnd (a := Sum.inl ()) ?_ ev_some))
  have := loop_all (l := fun n k => l_spec_SameShape_b0 n (k : Nat) m (spn s) m (spn s)) (p := fun _ => true) (A := .inl ()) (B := .inr false) s.length (ev_f (by simp [prs_length]) ev_some) (by
    intro k hk _ a ih
    refine ev_t (by simp [prs_length]; omega) (ev_bnd (ev_of fun n => idx_spn hk) (ev_bnd (ev_of fun n => idx_spn hk) (ev_t (by rw [eqp]; simp) ?_)))
    rw [up64 k (by omega)]; exact ih) (by
    intro k hk h; cases h) s.length 0 (Nat.zero_add _)
  rwa [allN_true, sel_t] at this
theorem SamePieces_ok (P : List (Int × Int)) (hl : P.length ≤ 1000) : Ev (fun n => s_spec_A2SamePieces n (pcs P) (pcs P)) true := by
  unfold s_spec_A2SamePieces
  refine ev_t (by simp) (ev_bnd (a := Sum.inl ()) ?_ ev_some)
  have := loop_all (l := fun n k => l_spec_A2SamePieces_b0 n (pcs P) (pcs P) (k : Nat)) (p := fun _ => true) (A := .inl ()) (B := .inr false) P.length (ev_f (by simp [prs_length]) ev_some) (by
    intro k hk _ a ih
    refine ev_t (by simp [prs_length]; omega) (ev_bnd (ev_of fun n => idx_pcs hk) (ev_bnd (ev_of fun n => idx_pcs hk) (ev_t (by rw [eqp]; simp) ?_)))
    rw [up64 k (by omega)]; exact ih) (by
    intro k hk h; cases h) P.length 0 (Nat.zero_add _)
  rwa [allN_true, sel_t] at this
theorem Valid_t {m : Int} {s : List (Int × Int)} (h : okS m s) : Ev (fun n => s_impl_ValidShape n m (spn s)) true := by
  have := ValidShape_ok m s (by have := h.2.2.2.1; omega)
  rwa [(shOk_iff h.1).2 h] at this
theorem Ok_t {m : Int} {s : List (Int × Int)} (h : okS m s) : Ev (fun n => s_spec_l05Ok n m (spn s)) true := by
  have := l05Ok_ok m s (by have := h.2.2.2.1; omega)
  rwa [(shOk_iff h.1).2 h] at this
theorem mir_range (s : List (Int × Int)) : spn (mir s) = (List.range' 0 s.length).map fun k => V.parts [V.int .i16 (200 - (pr s k).2), V.int .i16 (200 - (pr s k).1)] := by
  apply List.ext_getElem?
  intro j
  by_cases hj : j < s.length
  · show (List.map (pv .i16 .i16) (mir s))[j]? = _
    rw [List.getElem?_map, pr_get (l := mir s) (by rw [mir_length]; exact hj), mir_pr hj]
    simp [hj, pv]
  · rw [List.getElem?_eq_none (by rw [prs_length, mir_length]; omega), List.getElem?_eq_none (by simp; omega)]
theorem iMirror_ok {m : Int} {s : List (Int × Int)} (h : okS m s) : Ev (fun n => s_impl_MirrorShape n m (spn s)) (m, spn (mir s), 0) := by
  unfold s_impl_MirrorShape
  refine ev_bnd (Valid_t h) (ev_t rfl (ev_bnd (a := spn (mir s)) ?_ ev_some))
  obtain ⟨m0, m1, l1, l2, hs⟩ := h
  unfold s_eaMi
  rw [prs_length, mir_range]
  refine ev_bnd ?_ ev_some
  refine loop_map (l := fun n k acc => l_eaMi_b0 n (spn s) s.length (k : Nat) acc) (R := id) s.length (fun acc => ev_f (by simp) ev_some) ?_
  intro k acc hk hl a h
  have b := hs k hk
  refine ev_t (by simp; omega) (ev_bnd (ev_of fun n => idx_spn hk) (ev_bnd (a := (200 - (pr s k).2, 200 - (pr s k).1)) (ev_cast ev_some ?_) ?_))
  · rw [w16 _ (by omega), w16 _ (by omega)]
  · exact ev_chk (by simp [hl]; omega) (by rw [up64 k (by omega)]; exact h)
theorem sMirror_ok {m : Int} {s : List (Int × Int)} (h : okS m s) : Ev (fun n => s_spec_MirrorShape n m (spn s)) (m, spn (mir s), 0) := by
  unfold s_spec_MirrorShape
  refine ev_bnd (Ok_t h) (ev_t rfl (ev_bnd (a := ((0 : Int), m, ([] : List V), spn (mir s))) ?_ ev_some))
  obtain ⟨m0, m1, l1, l2, hs⟩ := h
  rw [mir_range]
  refine loop_map (l := fun n k acc => l_spec_MirrorShape_b0 n (k : Nat) m (spn s) 0 m [] acc) (R := fun acc => ((0 : Int), m, ([] : List V), acc)) s.length (fun acc => ev_f (by simp [prs_length]) ev_some) ?_
  intro k acc hk hl a h
  have b := hs k hk
  refine ev_t (by simp [prs_length]; omega) (ev_bnd (ev_of fun n => idx_spn hk) (ev_bnd (ev_of fun n => idx_spn hk) ?_))
  dsimp only
  rw [w16 _ (by omega), w16 _ (by omega), up64 k (by omega)]
  exact ev_chk (by simp [hl]; omega) h
-- pieces of one course
theorem iIn_course {m : Int} {s : List (Int × Int)} (h : okS m s) {k : Nat} (hk : k < s.length) : Ev (fun n => s_impl_PiecesIn n m (spn s) k) (pcs (Qf m s k), 0) := by
  unfold s_impl_PiecesIn s_impl_within_int64
  have hl := h.2.2.2.1
  rw [show ((spn s).length : Int) = (s.length : Int) by simp [prs_length], w64 _ (by omega)]
  refine ev_bnd (Valid_t h) (ev_t rfl (ev_bnd (a := true) (ev_t (by simp) (ev_cast ev_some (by simp; omega))) (ev_t rfl ?_)))
  exact ev_bnd (course_ok h hk).2.2.2.2.2 ev_some
theorem sIn_course {m : Int} {s : List (Int × Int)} (h : okS m s) {k : Nat} (hk : k < s.length) : Ev (fun n => s_spec_PiecesIn n m (spn s) k) (pcs (Qf m s k), 0) := by
  unfold s_spec_PiecesIn s_spec_l00In
  have hl := h.2.2.2.1
  rw [show ((spn s).length : Int) = (s.length : Int) by simp [prs_length], w64 _ (by omega)]
  refine ev_bnd (Ok_t h) (ev_t rfl (ev_bnd (a := true) (ev_t (by simp) (ev_cast ev_some (by simp; omega))) (ev_t rfl ?_)))
  exact ev_bnd (course_ok h hk).2.2.2.2.1 (ev_chk (plain_tup4 ..) ev_some)
-- the code of pieces
theorem isPiece_ok {a b : Int} (ha : 0 ≤ a ∧ a ≤ 2) (hb : 1 ≤ b ∧ b ≤ 7) (n : Nat) : s_impl_areAll_impl_Piece_1__isPiece n a b = some false := by
  unfold s_impl_areAll_impl_Piece_1__isPiece s_impl_isPiece s_impl_within_int8
  simp only [bnd_s, decide_eq_true ha.1, decide_eq_true ha.2, decide_eq_true hb.1, decide_eq_true hb.2, cnd_t, Bool.not_true]
theorem allPieces_ok {P : List (Int × Int)} (hP : okP P) (hl : P.length ≤ 1000) : Ev (fun n => s_impl_areAll_impl_Piece__isPiece n (pcs P)) true := by
  unfold s_impl_areAll_impl_Piece__isPiece s_cnPc s_ixPc
  rw [prs_length]
  have := loop_all (l := fun n k => l_ixPc_b0 n (pcs P) P.length (k : Nat)) (p := fun _ => true) (A := .inl ()) (B := .inr 0) P.length (ev_f (by simp) ev_some) (by
    intro k hk _ a ih
    have b := hP _ (pr_mem hk)
    refine ev_t (by simp; omega) (ev_bnd (ev_of fun n => idx_pcs hk) (ev_bnd (ev_of fun n => isPiece_ok (a := kd P k) (b := wd P k) ⟨b.1, b.2.1⟩ ⟨b.2.2.1, b.2.2.2⟩ n) (ev_f rfl ?_)))
    rw [up64 k (by omega)]; exact ih) (by
    intro k hk h; cases h) P.length 0 (Nat.zero_add _)
  rw [allN_true, sel_t] at this
  exact ev_bnd (a := false) (ev_bnd (a := -1) (ev_bnd this ev_some) ev_some) ev_some
theorem code_ok {P : List (Int × Int)} (hP : okP P) (hl : P.length ≤ 30) : Ev (fun n => s_impl_piecesCode n [V.sl (pcs P)]) 0 := by
  unfold s_impl_piecesCode
  have i0 : ∀ n : Nat, bnd (idx [V.sl (pcs P)] 0) as_LPi8_i8Q = some (pcs P) := fun n => rfl
  refine ev_bnd (a := true) ?_ (ev_t rfl (ev_bnd (a := true) ?_ (ev_t rfl ev_some)))
  · unfold s_impl_areAll_Simpl_Piece__piecesCode_1 s_cnPa s_ixPa
    refine ev_bnd (a := false) (ev_bnd (a := -1) (ev_bnd (a := Sum.inl ()) (ev_succ (ev_t (by simp) (ev_bnd (ev_of i0) (ev_bnd (a := false) ?_ (ev_f rfl ?_))))) ev_some) ev_some) ev_some
    · unfold s_impl_areAll_Simpl_Piece_1__piecesCode_1 s_impl_piecesCode_1
      exact ev_bnd (ev_bnd (allPieces_ok hP (by omega)) ev_some) ev_some
    · exact ev_succ (ev_f (by show decide (IntKind.i64.wrap (0 + 1) < ((1 : Nat) : Int)) = false; decide) ev_some)
  · unfold s_impl_areAll_Simpl_Piece__piecesCode_2 s_cnPb s_ixPb
    refine ev_bnd (a := false) (ev_bnd (a := -1) (ev_bnd (a := Sum.inl ()) (ev_succ (ev_t (by simp) (ev_bnd (ev_of i0) (ev_bnd (a := false) ?_ (ev_f rfl ?_))))) ev_some) ev_some) ev_some
    · unfold s_impl_areAll_Simpl_Piece_1__piecesCode_2 s_impl_piecesCode_2
      refine ev_bnd (a := true) (ev_cast ev_some ?_) ev_some
      rw [prs_length]; simp; omega
    · exact ev_succ (ev_f (by show decide (IntKind.i64.wrap (0 + 1) < ((1 : Nat) : Int)) = false; decide) ev_some)
-- the pieces of all courses, one after another
theorem catQ_pre {Q : Nat → List (Int × Int)} {k : Nat} : ∀ (d : Nat), ∃ R, catQ Q (k + 1 + d) = catQ Q k ++ (Q k ++ R)
  | 0 => ⟨[], by rw [Nat.add_zero, catQ_succ, List.append_nil]⟩
  | d + 1 => by
    obtain ⟨R, h⟩ := catQ_pre (Q := Q) (k := k) d
    refine ⟨R ++ Q (k + 1 + d), ?_⟩
    rw [show k + 1 + (d + 1) = (k + 1 + d) + 1 by omega, catQ_succ, h, List.append_assoc, List.append_assoc]
theorem catQ_get {Q : Nat → List (Int × Int)} {k N i : Nat} (hk : k < N) (hi : i < (Q k).length) : (catQ Q k).length + i < (catQ Q N).length ∧ pr (catQ Q N) ((catQ Q k).length + i) = pr (Q k) i := by
  obtain ⟨R, h⟩ := catQ_pre (Q := Q) (k := k) (N - (k + 1))
  rw [show k + 1 + (N - (k + 1)) = N by omega] at h
  have e : (catQ Q N)[(catQ Q k).length + i]? = (Q k)[i]? := by
    rw [h, List.getElem?_append_right (by omega), Nat.add_sub_cancel_left, List.getElem?_append_left hi]
  have hlt : (catQ Q k).length + i < (catQ Q N).length := by
    rw [h]; simp only [List.length_append]; omega
  refine ⟨hlt, ?_⟩
  rw [pr_get hlt, pr_get hi] at e
  exact Option.some.inj e
theorem cuts2_ok {U F c m m' : Int} {sp sp' : List V} {D K : List (Int × Int)} {A : Nat} (hK : okP K) (hK2 : K.length ≤ 2) (hD : D.length ≤ 1000) (hA : ∀ i, i < K.length → A + i < D.length ∧ pr D (A + i) = pr K i) : ∀ (d i : Nat) (sum : Int), i + d = K.length → 0 ≤ sum → sum + 7 * d ≤ 100000 →
    Ev (fun n => l_laws_FnCuts_b2 n U F sum (A + i : Nat) c i m (pcs D) m' (pcs K) sp sp') (.inl (U, F, sum + wsum (K.drop i), ((A + K.length : Nat) : Int), c, m, pcs D, m', sp, sp'))
  | 0, i, sum, hi, h1, h2 => by
    obtain rfl : i = K.length := by omega
    refine ev_succ (ev_f (by simp [prs_length]) (ev_cast ev_some ?_))
    rw [List.drop_length]
    simp [wsum]
  | d + 1, i, sum, hi, h1, h2 => by
    obtain ⟨a1, a2⟩ := hA i (by omega)
    have b := hK _ (pr_mem (l := K) (i := i) (by omega))
    have n1 : ∀ n : Nat, bnd (nth (pcs D) (((A + i : Nat) : Int).toNat)) as_Pi8_i8Q = some ((pr K i).1, (pr K i).2) := fun n => by
      rw [Int.toNat_natCast, nth_prs _ _ _ _ a1, a2]; rfl
    have n2 : ∀ n : Nat, bnd (nth (pcs K) ((i : Int).toNat)) as_Pi8_i8Q = some ((pr K i).1, (pr K i).2) := fun n => by
      rw [Int.toNat_natCast, nth_prs _ _ _ _ (by omega)]; rfl
    refine ev_succ (ev_t (by simp [prs_length]; omega) (ev_f (by rw [prs_length]; simp; omega) (ev_chk (inB_k _ _ (by rw [prs_length]; exact a1)) (ev_bnd (ev_of n1) (ev_chk (inB_k _ _ (by rw [prs_length]; omega)) (ev_bnd (ev_of n2) (ev_t (by rw [eqp]; simp) ?_)))))))
    refine ev_bnd (ev_of n2) (ev_bnd (ev_of n2) (ev_f (by simp; omega) (ev_bnd (ev_of n2) (ev_bnd (ev_of n2) (ev_f (by simp; omega) (ev_bnd (ev_of n2) (ev_bnd (ev_of n2) ?_)))))))
    dsimp only
    have hd : K.drop i = pr K i :: K.drop (i + 1) := by
      rw [List.drop_eq_getElem_cons (by omega)]
      have := pr_get (l := K) (i := i) (by omega)
      rw [List.getElem?_eq_getElem (by omega)] at this
      rw [Option.some.inj this]
    rw [w64 (pr K i).2 (by omega), w64 _ (by omega), up64 (A + i) (by omega), up64 i (by omega)]
    refine ev_cast (cuts2_ok hK hK2 hD hA d (i + 1) (sum + (pr K i).2) (by omega) (by omega) (by omega)) ?_
    rw [hd]
    simp only [wsum, List.map_cons, List.sum_cons]
    rw [Int.add_assoc]
-- slides
theorem slid_back (s : List (Int × Int)) (d : Int) : slid (slid s d) (-d) = s := by
  unfold slid
  rw [List.map_map]
  conv => rhs; rw [← List.map_id s]
  refine List.map_congr_left fun p _ => ?_
  simp only [Function.comp, id]
  exact Prod.ext (by simp only []; omega) (by simp only []; omega)
theorem iSlidN_ok {m : Int} {s : List (Int × Int)} (h : okS m s) {d : Int} (hd : -200 ≤ d ∧ d ≤ 200) : Ev (fun n => s_impl_Shape_slid n m (spn s) d) (m, spn (slid s d)) := by
  obtain ⟨m0, m1, l1, l2, hs⟩ := h
  unfold s_impl_Shape_slid
  refine ev_bnd (a := spn (slid s d)) ?_ (ev_chk (plain_prs ..) ev_some)
  unfold s_eaSl
  rw [prs_length, (slid_range s d).2]
  refine ev_bnd ?_ ev_some
  refine loop_map (l := fun n k acc => l_eaSl_b0 n d (spn s) s.length (k : Nat) acc) (R := id) s.length (fun acc => ev_f (by simp) ev_some) ?_
  intro k acc hk hl a h
  have b := hs k hk
  refine ev_t (by simp; omega) (ev_bnd (ev_of fun n => idx_spn hk) (ev_bnd (a := ((pr s k).1 + d, (pr s k).2 + d)) (ev_cast ev_some ?_) ?_))
  · rw [w16 _ (by omega), w16 _ (by omega)]
  · exact ev_chk (by simp [hl]; omega) (by rw [up64 k (by omega)]; exact h)
theorem within_ok {d : Int} (hd : -200 ≤ d ∧ d ≤ 200) : Ev (fun n => s_impl_within_int64 n d (-200) 200) true := by
  unfold s_impl_within_int64
  exact ev_t (by simp; omega) (ev_cast ev_some (by simp; omega))
theorem iSlide_ok {m : Int} {s : List (Int × Int)} (h : okS m s) {d : Nat} (hd : d ≤ 7) : Ev (fun n => s_impl_SlideShape n m (spn s) d) (sel (fits s d) (m, spn (slid s d), 0) (0, [], 4)) := by
  unfold s_impl_SlideShape
  have hl := h.2.2.2.1
  have e3 := ValidShape_ok m (slid s d) (by rw [slid_length]; omega)
  rw [fits_ok h (by omega)] at e3
  refine ev_bnd (Valid_t h) (ev_t rfl (ev_bnd (within_ok (by omega)) (ev_t rfl ?_)))
  rw [w16 _ (by omega)]
  refine ev_bnd (iSlidN_ok h (by omega)) (ev_bnd e3 ?_)
  cases fits s d with
  | false => exact ev_f rfl ev_some
  | true => exact ev_t rfl ev_some
theorem sSlide2_ok {m : Int} {s : List (Int × Int)} (h : okS m s) {d : Nat} (hd : d ≤ 7) : Ev (fun n => s_spec_SlideShape n m (spn s) d) (sel (fits s d) (m, spn (slid s d), 0) (0, [], 4)) := by
  unfold s_spec_SlideShape s_spec_l00In
  have e1 := sSlide_ok h (d := (d : Int)) (by omega)
  refine ev_bnd (Ok_t h) (ev_t rfl (ev_bnd (a := true) (ev_t (by rw [decide_eq_true_eq]; omega) (ev_cast ev_some (by simp; omega))) (ev_t rfl (ev_bnd e1 ?_))))
  cases fits s d with
  | false => exact ev_chk rfl (ev_f rfl ev_some)
  | true => exact ev_chk (plain_tup ..) (ev_t rfl ev_some)
theorem iHome_ok {m : Int} {s : List (Int × Int)} (h : okS m s) {d : Nat} (hd : d ≤ 7) (hf : fits s d = true) : Ev (fun n => s_impl_SlideShape n m (spn (slid s d)) (-(d : Int))) (m, spn s, 0) := by
  unfold s_impl_SlideShape
  have h' : okS m (slid s d) := (shOk_iff h.1).1 (by rw [fits_ok h (by omega), hf])
  refine ev_bnd (Valid_t h') (ev_t rfl (ev_bnd (within_ok (by omega)) (ev_t rfl ?_)))
  rw [w16 _ (by omega)]
  have e := iSlidN_ok h' (d := -(d : Int)) (by omega)
  rw [slid_back] at e
  exact ev_bnd e (ev_bnd (Valid_t h) (ev_t rfl ev_some))
/-- the best of the first d slides -/
def BestI (s : List (Int × Int)) (F : Nat → Int) (d : Nat) (bd best : Int) : Prop := ∃ x : Nat, bd = x ∧ x < d ∧ fits s x = true ∧ F x = best ∧ ∀ j, j < d → fits s j = true → best ≤ F j ∧ (F j = best → x ≤ j)
theorem best2_ok {m : Int} {s : List (Int × Int)} (h : okS m s) {F : Nat → Int} (hF : ∀ d, d < 8 → fits s (d : Nat) = true → 0 ≤ F d ∧ Ev (fun n => s_spec_l05Least n m (spn (slid s (d : Nat)))) (F d) ∧ Ev (fun n => s_impl_Shape_least n m (spn (slid s (d : Nat)))) (F d)) :
    ∀ (r d : Nat) (bd best : Int), d + r = 8 → 0 ≤ best → BestI s F d bd best →
    ∃ (x y : Int), BestI s F 8 x y ∧ Ev (fun n => l_spec_BestSlide_b0 n bd best d m (spn s)) (x, y) ∧ Ev (fun n => l_impl_BestSlide_b0 n bd best d m (spn s)) (x, y)
  | 0, d, bd, best, hd, hb, hI => by
    obtain rfl : d = 8 := by omega
    exact ⟨bd, best, hI, ev_succ (ev_f (by simp) ev_some), ev_succ (ev_f (by simp) ev_some)⟩
  | r + 1, d, bd, best, hd, hb, hI => by
    have e1 := sSlide_ok h (d := (d : Int)) (by omega)
    have e2 := iSlid_ok h (d := (d : Int)) (by omega)
    have hl := h.2.2.2.1
    have e3 := ValidShape_ok m (slid s d) (by rw [slid_length]; omega)
    rw [fits_ok h (by omega)] at e3
    have hm := h.1
    obtain ⟨x0, i1, i2, i3, i4, i5⟩ := hI
    cases hg : fits s d with
    | false =>
      rw [hg] at e1 e3
      rw [sel_f] at e1
      obtain ⟨x, y, f0, f1, f2⟩ := best2_ok h hF r (d + 1) bd best (by omega) hb ⟨x0, i1, by omega, i3, i4, fun j hj hfj => by
        by_cases e : j = d
        · subst e; rw [hg] at hfj; cases hfj
        · exact i5 j (by omega) hfj⟩
      refine ⟨x, y, f0, ev_succ (ev_t (by simp; omega) (ev_bnd e1 (ev_chk rfl (ev_f rfl ?_)))), ev_succ (ev_t (by simp; omega) (ev_bnd e2 (ev_bnd e3 (ev_f rfl ?_))))⟩
      · rw [up64 d (by omega)]; exact f1
      · rw [up16 d (by omega)]; exact f2
    | true =>
      obtain ⟨l0, g1, g2⟩ := hF d (by omega) hg
      rw [hg] at e1 e3
      rw [sel_t] at e1
      by_cases c : F d < best
      · obtain ⟨x, y, f0, f1, f2⟩ := best2_ok h hF r (d + 1) d (F d) (by omega) l0 ⟨d, rfl, by omega, hg, rfl, fun j hj hfj => by
          by_cases e : j = d
          · subst e; omega
          · have := i5 j (by omega) hfj
            omega⟩
        refine ⟨x, y, f0, ev_succ (ev_t (by simp; omega) (ev_bnd e1 (ev_chk (plain_tup ..) (ev_t rfl (ev_bnd g1 (ev_f (by simp; omega) (ev_t (by simpa using c) ?_))))))), ev_succ (ev_t (by simp; omega) (ev_bnd e2 (ev_bnd e3 (ev_t rfl (ev_bnd g2 (ev_t (by simpa using c) (ev_bnd g2 ?_)))))))⟩
        · rw [up64 d (by omega)]; exact f1
        · rw [up16 d (by omega), w64 (d : Int) (by omega)]; exact f2
      · obtain ⟨x, y, f0, f1, f2⟩ := best2_ok h hF r (d + 1) bd best (by omega) hb ⟨x0, i1, by omega, i3, i4, fun j hj hfj => by
          by_cases e : j = d
          · subst e; omega
          · exact i5 j (by omega) hfj⟩
        refine ⟨x, y, f0, ev_succ (ev_t (by simp; omega) (ev_bnd e1 (ev_chk (plain_tup ..) (ev_t rfl (ev_bnd g1 (ev_f (by simp; omega) (ev_f (by simpa using c) ?_))))))), ev_succ (ev_t (by simp; omega) (ev_bnd e2 (ev_bnd e3 (ev_t rfl (ev_bnd g2 (ev_f (by simpa using c) ?_))))))⟩
        · rw [up64 d (by omega)]; exact f1
        · rw [up16 d (by omega)]; exact f2
-- the loop over the courses
theorem cuts0_ok {m U F : Int} {s : List (Int × Int)} (h : okS m s) (hU : U = sumR (ln s) 0 s.length) {sp' : List V} (hW : 0 ≤ sumR (Wf m s) 0 s.length ∧ sumR (Wf m s) 0 s.length ≤ 1200) : ∀ (d k : Nat), k + d = s.length →
    Ev (fun n => l_laws_FnCuts_b0 n U F (8 * sumR (Wf m s) 0 s.length + wsum (catQ (Qf m s) k)) ((catQ (Qf m s) k).length : Nat) k m (pcs (Pf m s)) m (spn s) sp') (.inl (U, F, 8 * sumR (Wf m s) 0 s.length + wsum (Pf m s), ((Pf m s).length : Int), m, pcs (Pf m s), m, spn s, sp'))
  | 0, k, hk => by
    obtain rfl : k = s.length := by omega
    exact ev_succ (ev_f (by simp [prs_length]) ev_some)
  | d + 1, k, hk => by
    have hl := h.2.2.2.1
    have hc := course_ok h (k := k) (by omega)
    have hQl := hc.2.2.1
    have hn : ∀ j, j < s.length → (Qf m s j).length ≤ 2 := fun j hj => (course_ok h hj).2.2.1
    have l3 := catQ_len (Q := Qf m s) hn
    have l4 := catQ_len (Q := Qf m s) (N := k) fun j hj => hn j (by omega)
    have okC : okP (catQ (Qf m s) k) := catQ_ok fun j hj => (course_ok h (k := j) (by omega)).2.2.2.1
    have hb : ∀ X : List (Int × Int), okP X → 0 ≤ wsum X ∧ wsum X ≤ 7 * (X.length : Int) := by
      intro X
      induction X with
      | nil => intro _; simp [wsum]
      | cons p X ih =>
        intro hX
        have h1 := ih fun q hq => hX q (by simp [hq])
        have h2 := hX p (by simp)
        simp only [wsum, List.map_cons, List.sum_cons, List.length_cons] at h1 ⊢
        omega
    have b1 := hb _ okC
    have key := cuts2_ok (U := U) (F := F) (c := (k : Int)) (m := m) (m' := m) (sp := spn s) (sp' := sp') (D := Pf m s) (K := Qf m s k) (A := (catQ (Qf m s) k).length) hc.2.2.2.1 hQl (by unfold Pf; omega) (fun i hi => catQ_get (by omega) hi) (Qf m s k).length 0 (8 * sumR (Wf m s) 0 s.length + wsum (catQ (Qf m s) k)) (by omega) (by omega) (by omega)
    refine ev_succ (ev_t (by simp [prs_length]; omega) (ev_bnd (iIn_course h (by omega)) (ev_chk (plain_tup3 ..) (ev_bnd (sIn_course h (by omega)) (ev_chk (plain_tup3 ..) (ev_t (by simp) (ev_t (by simp) (ev_bnd (SamePieces_ok _ (by omega)) (ev_t rfl (ev_f (by rw [prs_length]; simp; omega) ?_))))))))))
    refine ev_bnd key ?_
    dsimp only
    rw [up64 k (by omega), List.drop_zero]
    have := cuts0_ok (F := F) (sp' := sp') h hU hW d (k + 1) (by omega)
    rw [catQ_succ, wsum_app, List.length_append] at this
    rw [Int.add_assoc]
    exact this
-- the loop over the slides
theorem cuts4_ok {m : Int} {s : List (Int × Int)} (h : okS m s) {F : Nat → Int} (hF : ∀ d, d < 8 → fits s (d : Nat) = true → 0 ≤ F d ∧ Ev (fun n => s_spec_l05Least n m (spn (slid s (d : Nat)))) (F d) ∧ Ev (fun n => s_impl_Shape_least n m (spn (slid s (d : Nat)))) (F d)) {x y : Int} (hI : BestI s F 8 x y) :
    ∀ (d k : Nat), k + d = 8 → Ev (fun n => l_laws_FnCuts_b4 n x y k m (spn s)) (.inl ())
  | 0, k, hk => by
    obtain rfl : k = 8 := by omega
    exact ev_succ (ev_f (by simp) ev_some)
  | d + 1, k, hk => by
    have hl := h.2.2.2.1
    have e1 := iSlide_ok h (d := k) (by omega)
    have e2 := sSlide2_ok h (d := k) (by omega)
    have ih := cuts4_ok h hF hI d (k + 1) (by omega)
    rw [← up64 k (by omega)] at ih
    obtain ⟨x0, i1, i2, i3, i4, i5⟩ := hI
    cases hg : fits s k with
    | false =>
      rw [hg, sel_f] at e1 e2
      have e0 := SameShape_ok 0 [] (by simp)
      exact ev_succ (ev_t (by simp; omega) (ev_bnd e1 (ev_chk rfl (ev_bnd e2 (ev_chk rfl (ev_t (by simp) (ev_bnd e0 (ev_t rfl (ev_f (by simp) (ev_t (by simp) ih))))))))))
    | true =>
      rw [hg, sel_t] at e1 e2
      obtain ⟨f0, f1, f2⟩ := hF k (by omega) hg
      obtain ⟨j1, j2⟩ := i5 k (by omega) hg
      have h' : okS m (slid s k) := (shOk_iff h.1).1 (by rw [fits_ok h (by omega), hg])
      have e0 := SameShape_ok m (slid s k) (by rw [slid_length]; omega)
      have eL : Ev (fun n => s_impl_LeastTiles n m (spn (slid s k))) (F k, 0) := by
        unfold s_impl_LeastTiles
        exact ev_bnd (Valid_t h') (ev_t rfl (ev_bnd f2 ev_some))
      have eH := iHome_ok h (d := k) (by omega) hg
      have eS := SameShape_ok m s (by omega)
      refine ev_succ (ev_t (by simp; omega) (ev_bnd e1 (ev_chk (plain_tup2 ..) (ev_bnd e2 (ev_chk (plain_tup2 ..) (ev_t (by simp) (ev_bnd e0 (ev_t rfl (ev_t (by simp) (ev_bnd eL ?_))))))))))
      rw [show IntKind.i64.wrap (0 - (k : Int)) = -(k : Int) by rw [w64 _ (by omega)]; omega]
      refine ev_bnd eH (ev_chk (plain_tup2 ..) (ev_t (by simp) (ev_f (by simp; omega) ?_)))
      by_cases c : F k = y
      · have := j2 c
        refine ev_t (by simpa using c) (ev_f (by simp; omega) ?_)
        by_cases c2 : (k : Int) = x
        · exact ev_t (by simpa using c2) (ev_t (by simp) (ev_bnd eS (ev_t rfl (ev_t (by simp) ih))))
        · exact ev_f (by simpa using c2) (ev_t (by simp) (ev_bnd eS (ev_t rfl (ev_t (by simp) ih))))
      · refine ev_f (by simpa using c) (ev_f ?_ (ev_t (by simp) (ev_bnd eS (ev_t rfl (ev_t (by simp) ih)))))
        rw [decide_eq_false_iff_not]
        intro e
        have : k = x0 := by omega
        subst this
        exact c i4
theorem law_FnCuts {xs ys : List V} (hx : xs.length ≤ maxLen ∧ ∀ x, x ∈ xs → inL [.int .u8] [x]) (hy : ys.length ≤ maxLen ∧ ∀ x, x ∈ ys → inL [.int .u8] [x]) : Ev (fun n => s_laws_FnCuts n xs ys) true := by
  obtain ⟨l, rfl, hl⟩ := bys_of hx.2
  obtain ⟨l', rfl, hl'⟩ := bys_of hy.2
  unfold s_laws_FnCuts
  have long : Ev (fun n => s_laws_a2Long n (bys l) (bys l')) (decide (3000 < l.length) || decide (3000 < l'.length)) := by
    unfold s_laws_a2Long
    by_cases h1 : 3000 < l.length
    · exact ev_t (by simp [bys_length]; omega) (ev_cast ev_some (by simp [h1]))
    · refine ev_f (by simp [bys_length]; omega) (ev_cast ev_some ?_)
      simp only [bys_length, decide_eq_false h1, Bool.false_or]
      exact decide_eq_decide.2 (by omega)
  refine ev_bnd long ?_
  cases hc : (decide (3000 < l.length) || decide (3000 < l'.length)) with
  | true => exact ev_t rfl ev_some
  | false =>
    simp only [Bool.or_eq_false_iff, decide_eq_false_iff_not] at hc
    refine ev_f rfl (tot_bndE (A2Shape_ok (l := l) ⟨by omega, hl⟩) ?_)
    rintro r ⟨m, s, rfl, h⟩
    dsimp only
    obtain ⟨t, W, w0, w1, t1, pl, okA, eW, hwaste, hu, a1, a2, a3, a4, a5, a6, a7⟩ := shape_all h
    have hsl := h.2.2.2.1
    have hmS := mir_okS h
    have hUb : sumR (ln s) 0 s.length ≤ 100000 := by omega
    have v1 : Ev (fun n => s_impl_AllPieces n m (spn s)) (pcs (Pf m s), 0) := ev_bnd (Valid_t h) (ev_t rfl (ev_bnd a7 ev_some))
    have v2 : Ev (fun n => s_spec_AllPieces n m (spn s)) (pcs (Pf m s), 0) := ev_bnd (Ok_t h) (ev_t rfl (ev_bnd a6 (ev_chk (plain_prs ..) ev_some)))
    have v3 : Ev (fun n => s_impl_WholeIn n m (spn s)) (W, 0) := ev_bnd (Valid_t h) (ev_t rfl (ev_bnd a5 ev_some))
    have v4 : Ev (fun n => s_impl_UnitsOf n m (spn s)) (sumR (ln s) 0 s.length, 0) := ev_bnd (Valid_t h) (ev_t rfl (ev_bnd (iunits_ok h) ev_some))
    have v5 : Ev (fun n => s_impl_LeastTiles n m (spn s)) ((t : Int) + W, 0) := ev_bnd (Valid_t h) (ev_t rfl (ev_bnd a2 ev_some))
    have v6 : Ev (fun n => s_spec_LeastTiles n m (spn s)) ((t : Int) + W, 0) := ev_bnd (Ok_t h) (ev_t rfl (ev_bnd a1 ev_some))
    have v7 : Ev (fun n => s_impl_WasteOf n m (spn s)) (8 * ((t : Int) + W) - sumR (ln s) 0 s.length, 0) := by
      refine ev_bnd (Valid_t h) (ev_t rfl (ev_bnd a2 (ev_bnd (iunits_ok h) (ev_cast ev_some ?_))))
      rw [w64 (8 * _) (by omega), w64 _ (by omega)]
    have v8 : Ev (fun n => s_impl_TilesFor n (pcs (Pf m s))) ((t : Int), 0) := ev_bnd (code_ok okA (by omega)) (ev_t (by simp) (ev_bnd a4 ev_some))
    have v9 := iMirror_ok h
    have v10 := sMirror_ok h
    have v11 : Ev (fun n => s_impl_LeastTiles n m (spn (mir s))) ((t : Int) + W, 0) := ev_bnd (Valid_t hmS) (ev_t rfl (ev_bnd a3 ev_some))
    have H : ∀ d : Nat, ∃ L : Int, d < 8 → fits s (d : Nat) = true → 0 ≤ L ∧ Ev (fun n => s_spec_l05Least n m (spn (slid s (d : Nat)))) L ∧ Ev (fun n => s_impl_Shape_least n m (spn (slid s (d : Nat)))) L := by
      intro d
      by_cases hf : fits s (d : Nat) = true
      · obtain ⟨L, l0, _, g1, g2⟩ := least_ok (s := slid s (d : Nat)) ((shOk_iff h.1).1 (by rw [fits_ok h (by omega), hf]))
        exact ⟨L, fun _ _ => ⟨l0, g1, g2⟩⟩
      · exact ⟨0, fun _ hf' => absurd hf' hf⟩
    obtain ⟨F, hF⟩ := Classical.axiomOfChoice H
    have f00 : fits s ((0 : Nat) : Int) = true := by
      have := fits_ok h (d := ((0 : Nat) : Int)) (by omega)
      rw [← this, show ((0 : Nat) : Int) = 0 from rfl, slid_zero]
      exact (shOk_iff h.1).2 h
    have F0 : F 0 = (t : Int) + W := by
      obtain ⟨_, g1, _⟩ := hF 0 (by omega) f00
      rw [show ((0 : Nat) : Int) = 0 from rfl, slid_zero] at g1
      exact ev_two g1 a1
    obtain ⟨x, y, hI, q1, q2⟩ := best2_ok h hF 7 1 0 ((t : Int) + W) (by omega) (by omega) ⟨0, rfl, by omega, f00, F0, fun j hj hfj => by
      obtain rfl : j = 0 := by omega
      omega⟩
    have hxy : y ≤ (t : Int) + W := by
      obtain ⟨x0, _, _, _, _, i5⟩ := hI
      have := (i5 0 (by omega) f00).1
      omega
    have b1 : Ev (fun n => s_impl_BestSlide n m (spn s)) (x, y, 0) := ev_bnd (Valid_t h) (ev_t rfl (ev_bnd a2 (ev_bnd q2 ev_some)))
    have b2 : Ev (fun n => s_spec_BestSlide n m (spn s)) (x, y, 0) := by
      have e3 := sSlide_ok h (d := 0) (by omega)
      have e4 := fits_ok h (d := 0) (by omega)
      rw [slid_zero] at e3 e4
      rw [(shOk_iff h.1).2 h] at e4
      rw [← e4, sel_t] at e3
      exact ev_bnd (Ok_t h) (ev_t rfl (ev_bnd (a := (x, y)) (ev_succ (ev_t (by simp) (ev_bnd e3 (ev_chk (plain_tup ..) (ev_t rfl (ev_bnd a1 (ev_t (by simp) q1))))))) ev_some))
    have c0 := cuts0_ok (F := (t : Int) + W) (U := sumR (ln s) 0 s.length) (sp' := spn (mir s)) h rfl (by omega) s.length 0 (by omega)
    have hbk := iMirror_ok hmS
    rw [mir_mir] at hbk
    have hss := shape_sum h
    have c4 := cuts4_ok h hF hI 8 0 (by omega)
    refine ev_bnd v1 (ev_chk (plain_tup3 ..) (ev_bnd v2 (ev_chk (plain_tup3 ..) (ev_bnd v3 (ev_bnd v4 (ev_bnd v5 (ev_bnd v6 (ev_bnd v7 (ev_bnd v8 (ev_bnd v9 (ev_chk (plain_tup2 ..) (ev_bnd v10 (ev_chk (plain_tup2 ..) (ev_bnd v11 ?_))))))))))))))
    refine ev_t (by simp) (ev_t (by simp) (ev_bnd (SamePieces_ok _ (by omega)) (ev_t rfl (ev_t (by simp) (ev_t (by simp) (ev_t (by simp) (ev_t (by simp) (ev_t (by simp) (ev_t (by simp) (ev_t (by simp) (ev_t (by simp) (ev_t (by simp) ?_))))))))))))
    refine ev_bnd (SameShape_ok m (mir s) (by rw [mir_length]; omega)) (ev_t rfl (ev_bnd (Valid_t hmS) (ev_t rfl (ev_bnd (Valid_t h) (ev_t rfl (ev_t (by simp) (ev_t (by simp) ?_)))))))
    refine ev_t (by rw [decide_eq_true_eq, w64 _ (by omega)]; omega) (ev_t (by rw [decide_eq_true_eq, w64 (8 * _) (by omega), w64 _ (by omega)]) (ev_f (by simp; omega) (ev_f (by simp; omega) ?_)))
    rw [w64 (8 * W) (by omega), eW]
    rw [show wsum (catQ (Qf m s) 0) = 0 from rfl, Int.add_zero] at c0
    refine ev_bnd (a := _) (by rw [← eW] at c0 ⊢; exact c0) ?_
    dsimp only
    refine ev_bnd hbk (ev_chk (plain_tup2 ..) (ev_t (by rw [decide_eq_true_eq]; omega) (ev_t (by simp [prs_length]) (ev_t (by simp) (ev_bnd (SameShape_ok m s (by omega)) (ev_t rfl (ev_t (by simp) ?_)))))))
    refine ev_bnd b1 (ev_bnd b2 (ev_t (by simp) (ev_t (by simp) (ev_t (by simp) (ev_t (by simp) (ev_f (by simp; omega) ?_))))))
    exact ev_bnd c4 ev_some
end Go.Proofs.Ytbejaalnnnogoaa
