/- Lists of pairs of numbers and rows of numbers: read, written, compared. Sorting: ranges of a row swapped and turned. Sorting by width: the order, rearrangements, insertion. Sorting by width: insertion. Sorting by width: searches and shifts of the merge. -/
import Derived.Test.YtbejaalnnnogoaaRs24
import Derived.Test.YtbejaalnnnogoaaRg1
import Derived.Test.YtbejaalnnnogoaaRq1
import Derived.Test.YtbejaalnnnogoaaSh1
namespace Go.Proofs.Ytbejaalnnnogoaa
open Go
set_option linter.unusedVariables false
set_option linter.unusedSimpArgs false

theorem nth_get {α : Type} : ∀ (l : List α) (i : Nat), nth l i = l[i]?
  | [], i => by simp [nth]
  | x :: l, 0 => by simp [nth]
  | x :: l, i + 1 => by simp [nth, nth_get l i]
theorem idx_nat (xs : List V) (i : Nat) : idx xs (i : Int) = xs[i]? := by
  unfold idx
  rw [decide_eq_true (Int.natCast_nonneg i)]
  simp only [Int.toNat_natCast, nth_get]
def pv (k k' : IntKind) (p : Int × Int) : V := V.parts [(V.int k (p.1)), (V.int k' (p.2))]
def prs (k k' : IntKind) (l : List (Int × Int)) : List V := l.map (pv k k')
def pr (l : List (Int × Int)) (j : Nat) : Int × Int := l.getD j (0, 0)
theorem prs_length (k k' : IntKind) (l : List (Int × Int)) : (prs k k' l).length = l.length := List.length_map ..
theorem pr_get {l : List (Int × Int)} {i : Nat} (h : i < l.length) : l[i]? = some (pr l i) := by
  rw [pr, List.getD_eq_getElem?_getD, List.getElem?_eq_getElem h]; rfl
theorem nth_prs (k k' : IntKind) (l : List (Int × Int)) (i : Nat) (h : i < l.length) : nth (prs k k' l) i = some (V.parts [(V.int k ((pr l i).1)), (V.int k' ((pr l i).2))]) := by
  rw [nth_get, prs, List.getElem?_map, pr_get h]; rfl
theorem idx_prs (k k' : IntKind) (l : List (Int × Int)) (i : Nat) (h : i < l.length) : idx (prs k k' l) (i : Int) = some (V.parts [(V.int k ((pr l i).1)), (V.int k' ((pr l i).2))]) := by
  rw [idx_nat, prs, List.getElem?_map, pr_get h]; rfl
theorem set_prs (k k' : IntKind) : ∀ (l : List (Int × Int)) (i : Nat) (a b : Int), setNth (prs k k' l) i (V.parts [(V.int k (a)), (V.int k' (b))]) = prs k k' (l.set i (a, b))
  | [], i, a, b => rfl
  | y :: l, 0, a, b => rfl
  | y :: l, i + 1, a, b => by
    have := set_prs k k' l i a b
    simp only [prs, List.map_cons, setNth, List.set_cons_succ] at this ⊢
    rw [this]
theorem rep_prs (k k' : IntKind) (n : Nat) : List.replicate n (V.parts [(V.int k (0)), (V.int k' (0))]) = prs k k' (List.replicate n (0, 0)) := by
  simp [prs, pv]
theorem prs_app (k k' : IntKind) (l m : List (Int × Int)) : prs k k' (l ++ m) = prs k k' l ++ prs k k' m := List.map_append ..
theorem like_prs (k k' : IntKind) : ∀ (l l' : List (Int × Int)), l.length = l'.length → likeRows (prs k k' l) (prs k k' l') = true
  | [], [], _ => rfl
  | [], _ :: _, h => by simp at h
  | _ :: _, [], h => by simp at h
  | x :: l, y :: l', h => by
    have := like_prs k k' l l' (by simpa using h)
    simp only [prs, pv, List.map_cons, likeRows, likeElem, likeParts, decide_true, Bool.true_and, Bool.and_true] at this ⊢
    exact this
/-- what an argument that is a list of pairs is -/
theorem prs_of {k k' : IntKind} : ∀ {xs : List V}, (∀ x, x ∈ xs → ∃ l, x = .parts l ∧ inL [.int k, .int k'] l) → ∃ l, xs = prs k k' l ∧ ∀ p, p ∈ l → (Lit.int k p.1).wf = true ∧ (Lit.int k' p.2).wf = true
  | [], _ => ⟨[], rfl, fun p hp => by cases hp⟩
  | x :: xs, h => by
    obtain ⟨l, rfl, e⟩ := prs_of (xs := xs) fun y hy => h y (List.mem_cons_of_mem _ hy)
    obtain ⟨m, rfl, hm⟩ := h x (List.mem_cons_self ..)
    simp only [inL, inP] at hm
    obtain ⟨v, r, rfl, ⟨a, rfl, ha⟩, v', r', rfl, ⟨b, rfl, hb⟩, rfl⟩ := hm
    refine ⟨(a, b) :: l, rfl, fun p hp => ?_⟩
    rcases List.mem_cons.1 hp with rfl | hp
    · exact ⟨ha, hb⟩
    · exact e p hp
theorem pr_mem {l : List (Int × Int)} {i : Nat} (h : i < l.length) : pr l i ∈ l := by
  have := pr_get h
  exact List.mem_of_getElem? this
theorem plain_prs (k k' : IntKind) (e : Nat) : ∀ (l : List (Int × Int)), plainV (V.fresh e (prs k k' l)) = true := by
  intro l
  show allB plainP.plainE (prs k k' l) = true
  induction l with
  | nil => rfl
  | cons p l ih => exact ih
/-- a row of N numbers -/
def row (N : Nat) (f : Nat → Nat) : List V := (List.range N).map fun i => V.int .i64 ((f i : Nat) : Int)
def pt (f : Nat → Nat) (i x : Nat) : Nat → Nat := fun j => if j = i then x else f j
theorem row_length (N : Nat) (f : Nat → Nat) : (row N f).length = N := by simp [row]
theorem nth_row {N : Nat} {f : Nat → Nat} {i : Nat} (h : i < N) : nth (row N f) i = some (V.int .i64 ((f i : Nat) : Int)) := by
  rw [nth_getE, row]; simp [h]
theorem idx_row {N : Nat} {f : Nat → Nat} {i : Nat} (h : i < N) : idx (row N f) (i : Int) = some (V.int .i64 ((f i : Nat) : Int)) := by
  rw [idx_nat, row]; simp [h]
theorem row_congr {N : Nat} {f g : Nat → Nat} (h : ∀ i, i < N → f i = g i) : row N f = row N g := by
  unfold row
  refine List.map_congr_left fun i hi => ?_
  rw [h i (by simpa using hi)]
theorem setNth_get {α : Type} : ∀ (l : List α) (i j : Nat) (x : α), (setNth l i x)[j]? = if j = i then (if i < l.length then some x else none) else l[j]?
  | [], i, j, x => by simp [setNth]
  | y :: l, 0, 0, x => by simp [setNth]
  | y :: l, 0, j + 1, x => by simp [setNth]
  | y :: l, i + 1, 0, x => by simp [setNth]
  | y :: l, i + 1, j + 1, x => by simp [setNth, setNth_get l i j x]
theorem set_row {N : Nat} {f : Nat → Nat} {i x : Nat} (h : i < N) : setNth (row N f) i (V.int .i64 (x : Int)) = row N (pt f i x) := by
  apply List.ext_getElem?
  intro j
  rw [setNth_get]
  unfold row
  by_cases hj : j < N
  · by_cases e : j = i
    · subst e; simp [pt, hj]
    · simp [pt, hj, e]
  · by_cases e : j = i
    · omega
    · simp [hj, e]
theorem like_row {N : Nat} {f g : Nat → Nat} : likeRows (row N f) (row N g) = true := by
  have : ∀ (l : List Nat), likeRows (l.map fun i => V.int .i64 ((f i : Nat) : Int)) (l.map fun i => V.int .i64 ((g i : Nat) : Int)) = true := by
    intro l
    induction l with
    | nil => rfl
    | cons x l ih => simp only [List.map_cons, likeRows, likeElem, decide_true, Bool.true_and]; exact ih
  exact this _
theorem wa (a b : Nat) (h : a + b < 1000000000) : IntKind.i64.wrap ((a : Int) + (b : Int)) = ((a + b : Nat) : Int) := by rw [w64 _ (by omega)]; omega
theorem ws (a b : Nat) (h : a < 1000000000) (h2 : b ≤ a) : IntKind.i64.wrap ((a : Int) - (b : Int)) = ((a - b : Nat) : Int) := by rw [w64 _ (by omega)]; omega
theorem nx {N : Nat} {f : Nat → Nat} {i : Nat} (h : i < N) : bnd (nth (row N f) ((i : Int).toNat)) as_i64 = some ((f i : Nat) : Int) := by
  rw [Int.toNat_natCast, nth_row h]; rfl
theorem inR {N : Nat} {f : Nat → Nat} {i : Nat} (h : i < N) : inB (i : Int) (row N f).length = true := inB_k _ _ (by rw [row_length]; exact h)
theorem sr {N : Nat} {f : Nat → Nat} {i x : Nat} (h : i < N) : setNth (row N f) ((i : Int).toNat) (V.int .i64 (x : Int)) = row N (pt f i x) := by
  rw [Int.toNat_natCast, set_row h]
/-- two ranges are swapped from k on -/
def swp (a b c k : Nat) (f : Nat → Nat) : Nat → Nat := fun i => if a + k ≤ i ∧ i < a + c then f (i + (b - a)) else if b + k ≤ i ∧ i < b + c then f (i - (b - a)) else f i
theorem swapL_ok {N : Nat} {a b c : Nat} (h1 : a + c ≤ b) (h2 : b + c ≤ N) (hN : N ≤ 1000) : ∀ (d k : Nat) (f : Nat → Nat), k + d = c →
    Ev (fun n => l_swpC_b0 n a b c k (row N f)) (row N (swp a b c k f))
  | 0, k, f, hk => by
    refine ev_succ (ev_f (by simp; omega) (ev_cast ev_some (row_congr fun i hi => ?_)))
    unfold swp
    rw [if_neg (by omega), if_neg (by omega)]
  | d + 1, k, f, hk => by
    refine ev_succ (ev_t (by simp; omega) ?_)
    rw [wa b k (by omega), wa a k (by omega)]
    refine ev_chk (inR (by omega)) (ev_bnd (ev_of fun n => nx (by omega)) (ev_chk (inR (by omega)) (ev_bnd (ev_of fun n => nx (by omega)) (ev_bnd (ev_of fun n => nx (by omega)) ?_))))
    rw [sr (by omega)]
    refine ev_chk (inR (by omega)) (ev_bnd (ev_of fun n => nx (by omega)) ?_)
    rw [sr (by omega), up64 k (by omega)]
    refine ev_cast (swapL_ok h1 h2 hN d (k + 1) _ (by omega)) (row_congr fun i hi => ?_)
    simp only [swp, pt]
    repeat' split
    all_goals first | rfl | (exfalso; omega) | (congr 1; omega)
theorem swap_ok {N : Nat} {a b c : Nat} {f : Nat → Nat} {P : List V} (h1 : a + c ≤ b) (h2 : b + c ≤ N) (hN : N ≤ 1000) :
    Ev (fun n => s_swpC n (row N f) a b c P) (row N (swp a b c 0 f)) := by
  unfold s_swpC
  exact ev_bnd (swapL_ok h1 h2 hN c 0 f (by omega)) ev_some
/-- the range [a,b) turned about m -/
def rot (a m b : Nat) (f : Nat → Nat) : Nat → Nat := fun i => if a ≤ i ∧ i < a + (b - m) then f (i + (m - a)) else if a + (b - m) ≤ i ∧ i < b then f (i - (b - m)) else f i
theorem rotL_ok {N m : Nat} {P : List V} (hN : N ≤ 1000) : ∀ (s i j : Nat) (f : Nat → Nat), i + j ≤ s → 0 < i → 0 < j → i ≤ m → m + j ≤ N →
    ∃ c g, 0 < c ∧ c ≤ m ∧ m + c ≤ N ∧ Ev (fun n => l_rotC_b0 n m P i j (row N f)) ((m : Int), P, (c : Int), row N g) ∧ ∀ x, swp (m - c) m c 0 g x = rot (m - i) m (m + j) f x
  | 0, i, j, f, h, h1, h2, _, _ => by omega
  | s + 1, i, j, f, h, h1, h2, h3, h4 => by
    by_cases e : i = j
    · subst e
      refine ⟨i, f, h1, h3, h4, ev_succ (ev_t (by simp) ev_some), fun x => ?_⟩
      simp only [swp, rot]
      repeat' split
      all_goals first | rfl | (exfalso; omega) | (congr 1; omega)
    · by_cases hlt : j < i
      · obtain ⟨c, g, c1, c2, c3, hev, hx⟩ := rotL_ok (m := m) (P := P) hN s (i - j) j (swp (m - i) m j 0 f) (by omega) (by omega) h2 (by omega) h4
        refine ⟨c, g, c1, c2, c3, ev_succ (ev_f (by simp; omega) (ev_t (by simp; omega) ?_)), fun x => ?_⟩
        · rw [ws m i (by omega) h3, ws i j (by omega) (by omega)]
          exact ev_bnd (swap_ok (by omega) (by omega) hN) (ev_chk like_row hev)
        · rw [hx x]
          simp only [swp, rot]
          repeat' split
          all_goals first | rfl | (exfalso; omega) | (congr 1; omega)
      · obtain ⟨c, g, c1, c2, c3, hev, hx⟩ := rotL_ok (m := m) (P := P) hN s i (j - i) (swp (m - i) (m + j - i) i 0 f) (by omega) h1 (by omega) h3 (by omega)
        refine ⟨c, g, c1, c2, c3, ev_succ (ev_f (by simp; omega) (ev_f (by simp; omega) ?_)), fun x => ?_⟩
        · rw [ws m i (by omega) h3, wa m j (by omega), ws (m + j) i (by omega) (by omega), ws j i (by omega) (by omega)]
          exact ev_bnd (swap_ok (by omega) (by omega) hN) (ev_chk like_row hev)
        · rw [hx x]
          simp only [swp, rot]
          repeat' split
          all_goals first | rfl | (exfalso; omega) | (congr 1; omega)
theorem rot_ok {N a m b : Nat} {f : Nat → Nat} {P : List V} (h1 : a < m) (h2 : m < b) (h3 : b ≤ N) (hN : N ≤ 1000) :
    Ev (fun n => s_rotC n (row N f) a m b P) (row N (rot a m b f)) := by
  unfold s_rotC
  rw [ws m a (by omega) (by omega), ws b m (by omega) (by omega)]
  obtain ⟨c, g, c1, c2, c3, hev, hx⟩ := rotL_ok (m := m) (P := P) hN _ (m - a) (b - m) f (Nat.le_refl _) (by omega) (by omega) (by omega) (by omega)
  refine ev_bnd hev ?_
  dsimp only
  rw [ws m c (by omega) c2]
  refine ev_bnd (swap_ok (by omega) (by omega) hN) (ev_chk like_row (ev_cast ev_some (row_congr fun x _ => ?_)))
  rw [hx x, show m - (m - a) = a by omega, show m + (b - m) = b by omega]
abbrev pcs (P : List (Int × Int)) : List V := prs .i8 .i8 P
def wd (P : List (Int × Int)) (x : Nat) : Int := (pr P x).2
/-- the strict order: wider first, then the lower index -/
def kl (P : List (Int × Int)) (x y : Nat) : Prop := wd P y < wd P x ∨ (wd P x = wd P y ∧ x < y)
theorem kl_trans {P : List (Int × Int)} {x y z : Nat} (h1 : kl P x y) (h2 : kl P y z) : kl P x z := by unfold kl at *; omega
theorem kl_irr {P : List (Int × Int)} {x : Nat} (h : kl P x x) : False := by unfold kl at h; omega
theorem cmp_eq (n : Nat) (a b : Int) : s_cmp_Compare_int8 n a b = some (if a < b then -1 else if b < a then 1 else 0) := by
  unfold s_cmp_Compare_int8 s_cmp_isNaN_int8
  simp only [bnd_s, decide_true, Bool.not_true, cnd_f, cnd_d]
  split
  · rfl
  · split <;> rfl
def byR (P : List (Int × Int)) (x y : Nat) : Int := if wd P y < wd P x then -1 else if wd P x < wd P y then 1 else 0
theorem byW_eq (n : Nat) {P : List (Int × Int)} {x y : Nat} (hx : x < P.length) (hy : y < P.length) : s_impl_byWidth_1 n x y (pcs P) = some (byR P x y) := by
  unfold s_impl_byWidth_1
  rw [idx_prs _ _ _ _ hy, idx_prs _ _ _ _ hx]
  show bnd (s_cmp_Compare_int8 n (pr P y).2 (pr P x).2) _ = _
  rw [cmp_eq]
  rfl
theorem byR_lt {P : List (Int × Int)} {x y : Nat} : decide (byR P x y < 0) = decide (wd P y < wd P x) := by
  unfold byR
  by_cases h : wd P y < wd P x
  · simp [h]
  · rw [if_neg h]
    split <;> simp [h]
/-- g is f with the indices of [a,b) rearranged -/
def Pm (a b : Nat) (f g : Nat → Nat) : Prop := ∃ σ τ : Nat → Nat, (∀ i, τ (σ i) = i) ∧ (∀ i, σ (τ i) = i) ∧ (∀ i, a ≤ i → i < b → a ≤ σ i ∧ σ i < b) ∧ (∀ i, i < a ∨ b ≤ i → σ i = i) ∧ ∀ i, g i = f (σ i)
theorem Pm.refl (a b : Nat) (f : Nat → Nat) : Pm a b f f := ⟨id, id, fun _ => rfl, fun _ => rfl, fun i h1 h2 => ⟨h1, h2⟩, fun _ _ => rfl, fun _ => rfl⟩
theorem Pm.trans {a b : Nat} {f g h : Nat → Nat} (h1 : Pm a b f g) (h2 : Pm a b g h) : Pm a b f h := by
  obtain ⟨σ, τ, p1, p2, p3, p4, p5⟩ := h1
  obtain ⟨σ', τ', q1, q2, q3, q4, q5⟩ := h2
  refine ⟨fun i => σ (σ' i), fun i => τ' (τ i), fun i => by simp only [p1, q1], fun i => by simp only [p2, q2], fun i h1 h2 => p3 _ (q3 i h1 h2).1 (q3 i h1 h2).2, fun i hi => by simp only [q4 i hi, p4 i hi], fun i => by rw [q5, p5]⟩
theorem Pm.wide {a b c d : Nat} {f g : Nat → Nat} (h : Pm a b f g) (h1 : c ≤ a) (h2 : b ≤ d) : Pm c d f g := by
  obtain ⟨σ, τ, p1, p2, p3, p4, p5⟩ := h
  refine ⟨σ, τ, p1, p2, fun i h3 h4 => ?_, fun i hi => p4 i (by omega), p5⟩
  by_cases hi : a ≤ i ∧ i < b
  · have := p3 i hi.1 hi.2; omega
  · rw [p4 i (by omega)]; omega
theorem Pm.out {a b : Nat} {f g : Nat → Nat} (h : Pm a b f g) {i : Nat} (hi : i < a ∨ b ≤ i) : g i = f i := by
  obtain ⟨σ, τ, p1, p2, p3, p4, p5⟩ := h
  rw [p5, p4 i hi]
theorem Pm.from {a b : Nat} {f g : Nat → Nat} (h : Pm a b f g) {i : Nat} (h1 : a ≤ i) (h2 : i < b) : ∃ j, a ≤ j ∧ j < b ∧ g i = f j := by
  obtain ⟨σ, τ, p1, p2, p3, p4, p5⟩ := h
  exact ⟨σ i, (p3 i h1 h2).1, (p3 i h1 h2).2, p5 i⟩
theorem Pm.to {a b : Nat} {f g : Nat → Nat} (h : Pm a b f g) {j : Nat} (h1 : a ≤ j) (h2 : j < b) : ∃ i, a ≤ i ∧ i < b ∧ g i = f j := by
  obtain ⟨σ, τ, p1, p2, p3, p4, p5⟩ := h
  refine ⟨τ j, ?_⟩
  have e : g (τ j) = f j := by rw [p5, p2]
  by_cases hi : a ≤ τ j ∧ τ j < b
  · exact ⟨hi.1, hi.2, e⟩
  · have h3 := p4 (τ j) (by omega)
    rw [p2] at h3
    omega
theorem pm_rot {a m b : Nat} (f : Nat → Nat) (h1 : a ≤ m) (h2 : m ≤ b) : Pm a b f (rot a m b f) := by
  refine ⟨rot a m b id, rot a (a + (b - m)) b id, fun i => ?_, fun i => ?_, fun i h3 h4 => ?_, fun i hi => ?_, fun i => ?_⟩
  · simp only [rot, id]; repeat' split
    all_goals omega
  · simp only [rot, id]; repeat' split
    all_goals omega
  · simp only [rot, id]; repeat' split
    all_goals omega
  · simp only [rot, id]; repeat' split
    all_goals omega
  · simp only [rot, id]; repeat' split
    all_goals rfl
/-- sorted on [a,b) -/
def Sd (P : List (Int × Int)) (a b : Nat) (f : Nat → Nat) : Prop := ∀ p q, a ≤ p → p < q → q < b → kl P (f p) (f q)
theorem pm_swap {a b j : Nat} (f : Nat → Nat) (h1 : a ≤ j) (h2 : j + 1 < b) : Pm a b f (pt (pt f (j + 1) (f j)) j (f (j + 1))) := by
  have e : pt (pt f (j + 1) (f j)) j (f (j + 1)) = rot j (j + 1) (j + 2) f := by
    funext i
    simp only [pt, rot]
    repeat' split
    all_goals first | rfl | (exfalso; omega) | (congr 1; omega)
  rw [e]
  exact (pm_rot f (by omega) (by omega)).wide h1 (by omega)
theorem insL_ok {N a b i : Nat} {P : List (Int × Int)} (hi : i < b) (hb : b ≤ N) (hN : N ≤ 1000) (hP : P.length = N) : ∀ (j : Nat) (f : Nat → Nat), a ≤ j → j ≤ i → (∀ x, x < N → f x < N) →
    (∀ p q, a ≤ p → p < q → q ≤ i → p ≠ j → q ≠ j → kl P (f p) (f q)) → (∀ q, j < q → q ≤ i → kl P (f j) (f q)) → (∀ p, a ≤ p → p < j → f p < f j) →
    Tot (fun n => l_insC_b2 n a b (pcs P) i j (row N f)) (fun r => ∃ g, r = ((a : Int), (b : Int), pcs P, (i : Int), row N g) ∧ Pm a (i + 1) f g ∧ Sd P a (i + 1) g)
  | 0, f, h1, h2, V, Hs, Hj, Hx => by
    refine tot_succ (tot_f (by simp) (tot_some ⟨f, rfl, Pm.refl _ _ _, fun p q h3 h4 h5 => ?_⟩))
    by_cases e : p = 0
    · subst e; exact Hj q h4 (by omega)
    · exact Hs p q h3 h4 (by omega) e (by omega)
  | j + 1, f, h1, h2, V, Hs, Hj, Hx => by
    have done : (a = j + 1 ∨ kl P (f j) (f (j + 1))) → Sd P a (i + 1) f := by
      intro hd p q h3 h4 h5
      by_cases e : p = j + 1
      · subst e; exact Hj q h4 (by omega)
      · by_cases e2 : q = j + 1
        · subst e2
          rcases hd with hd | hd
          · omega
          · by_cases e3 : p = j
            · subst e3; exact hd
            · exact kl_trans (Hs p j h3 (by omega) (by omega) e (by omega)) hd
        · exact Hs p q h3 h4 (by omega) e e2
    by_cases ha : a = j + 1
    · exact tot_succ (tot_f (by simp; omega) (tot_some ⟨f, rfl, Pm.refl _ _ _, done (.inl ha)⟩))
    · refine tot_succ (tot_t (by simp; omega) ?_)
      have ej : IntKind.i64.wrap (((j + 1 : Nat) : Int) - 1) = (j : Int) := by rw [w64 _ (by omega)]; omega
      rw [ej]
      refine tot_chk (inR (by omega)) (tot_ev (ev_of fun n => nx (by omega)) (tot_chk (inR (by omega)) (tot_ev (ev_of fun n => nx (by omega)) (tot_ev (ev_of fun n => byW_eq n (by rw [hP]; exact V _ (by omega)) (by rw [hP]; exact V _ (by omega))) ?_))))
      have hlt := Hx j (by omega) (by omega)
      refine tot_cnd (fun c => ?_) (fun c => ?_)
      · rw [byR_lt, decide_eq_true_eq] at c
        refine tot_ev (ev_of fun n => nx (by omega)) (tot_ev (ev_of fun n => nx (by omega)) (tot_ev (ev_of fun n => nx (by omega)) ?_))
        rw [sr (by omega)]
        refine tot_chk (inR (by omega)) (tot_ev (ev_of fun n => nx (by omega)) ?_)
        rw [sr (by omega)]
        have k1 : kl P (f (j + 1)) (f j) := .inl c
        have v0 : ∀ x, pt (pt f (j + 1) (f j)) j (f (j + 1)) x = if x = j then f (j + 1) else if x = j + 1 then f j else f x := fun x => by simp only [pt]
        refine tot_mono (insL_ok hi hb hN hP j (pt (pt f (j + 1) (f j)) j (f (j + 1))) (by omega) (by omega) (fun x hx => ?_) (fun p q h3 h4 h5 h6 h7 => ?_) (fun q h3 h4 => ?_) (fun p h3 h4 => ?_)) ?_
        · rw [v0]
          repeat' split
          all_goals exact V _ (by omega)
        · rw [v0, v0, if_neg h6, if_neg h7]
          by_cases e1 : p = j + 1
          · rw [if_pos e1, if_neg (by omega)]
            exact Hs j q (by omega) (by omega) h5 (by omega) (by omega)
          · rw [if_neg e1]
            by_cases e2 : q = j + 1
            · rw [if_pos e2]
              exact Hs p j h3 (by omega) (by omega) e1 (by omega)
            · rw [if_neg e2]
              exact Hs p q h3 h4 h5 e1 e2
        · rw [v0, v0, if_pos rfl, if_neg (by omega)]
          by_cases e1 : q = j + 1
          · rw [if_pos e1]; exact k1
          · rw [if_neg e1]; exact Hj q (by omega) h4
        · rw [v0, v0, if_neg (by omega), if_neg (by omega), if_pos rfl]
          exact Hx p h3 (by omega)
        · rintro r ⟨g, rfl, g1, g2⟩
          exact ⟨g, rfl, (pm_swap f (by omega) (by omega)).trans g1, g2⟩
      · rw [byR_lt, decide_eq_false_iff_not] at c
        refine tot_some ⟨f, rfl, Pm.refl _ _ _, done (.inr ?_)⟩
        unfold kl
        omega
/-- the outer loop -/
theorem insO_ok {N a b : Nat} {P : List (Int × Int)} (hb : b ≤ N) (hN : N ≤ 1000) (hP : P.length = N) : ∀ (d i : Nat) (f : Nat → Nat), (i + d = b ∨ b ≤ i ∧ d = 0) → a ≤ i → (∀ x, x < N → f x < N) →
    Sd P a i f → (∀ p q, a ≤ p → p < q → i ≤ q → q < b → f p < f q) →
    Tot (fun n => l_insC_b0 n a b (pcs P) i (row N f)) (fun r => ∃ g, r = row N g ∧ Pm a (max i b) f g ∧ Sd P a (max i b) g)
  | 0, i, f, hd, h1, V, S, X => by
    refine tot_succ (tot_f (by simp; omega) (tot_some ⟨f, rfl, Pm.refl _ _ _, ?_⟩))
    rw [show max i b = i by omega]
    exact S
  | d + 1, i, f, hd, h1, V, S, X => by
    refine tot_succ (tot_t (by simp; omega) (tot_bnd (insL_ok (a := a) (b := b) (i := i) (by omega) hb hN hP i f h1 (Nat.le_refl _) V (fun p q h2 h3 h4 h5 h6 => S p q h2 h3 (by omega)) (fun q h2 h3 => by omega) (fun p h2 h3 => X p i h2 h3 (Nat.le_refl _) (by omega))) ?_))
    rintro r ⟨g, rfl, g1, g2⟩
    dsimp only
    rw [up64 i (by omega)]
    refine tot_mono (insO_ok hb hN hP d (i + 1) g (by omega) (by omega) (fun x hx => ?_) g2 (fun p q h2 h3 h4 h5 => ?_)) ?_
    · by_cases hx2 : a ≤ x ∧ x < i + 1
      · obtain ⟨y, _, hy, e⟩ := g1.from hx2.1 hx2.2
        rw [e]; exact V y (by omega)
      · rw [g1.out (by omega)]; exact V x hx
    · rw [g1.out (i := q) (by omega)]
      by_cases hp : p < i + 1
      · obtain ⟨y, hy1, hy, e⟩ := g1.from h2 hp
        rw [e]; exact X y q hy1 (by omega) (by omega) h5
      · rw [g1.out (i := p) (by omega)]; exact X p q h2 h3 (by omega) h5
    · rintro r ⟨k, rfl, k1, k2⟩
      rw [show max (i + 1) b = max i b by omega] at k1 k2
      exact ⟨k, rfl, (g1.wide (Nat.le_refl _) (by omega)).trans k1, k2⟩
theorem ins_ok {N a b : Nat} {P : List (Int × Int)} {f : Nat → Nat} (hab : a ≤ b) (hb : b ≤ N) (hN : N ≤ 1000) (hP : P.length = N) (V : ∀ x, x < N → f x < N) (X : ∀ p q, a ≤ p → p < q → q < b → f p < f q) :
    Tot (fun n => s_insC n (row N f) a b (pcs P)) (fun r => ∃ g, r = row N g ∧ Pm a b f g ∧ Sd P a b g) := by
  unfold s_insC
  rw [up64 a (by omega)]
  by_cases h : a = b
  · subst h
    refine tot_bnd (insO_ok (N := N) (a := a) (b := a) hb hN hP 0 (a + 1) f (by omega) (by omega) V (fun p q h1 h2 h3 => by omega) (fun p q h1 h2 h3 h4 => by omega)) ?_
    rintro r ⟨g, rfl, g1, g2⟩
    refine tot_some ⟨g, rfl, ?_, fun p q h1 h2 h3 => by omega⟩
    obtain ⟨σ, τ, p1, p2, p3, p4, p5⟩ := g1
    have : ∀ x, σ x = x := fun x => by
      by_cases hx : x = a
      · have := p3 x (by omega) (by omega); omega
      · exact p4 x (by omega)
    exact ⟨σ, τ, p1, p2, fun x h1 h2 => by omega, fun x _ => this x, p5⟩
  · refine tot_bnd (insO_ok (N := N) (a := a) (b := b) hb hN hP (b - (a + 1)) (a + 1) f (by omega) (by omega) V (fun p q h1 h2 h3 => by omega) (fun p q h1 h2 h3 h4 => X p q h1 h2 h4)) ?_
    rintro r ⟨g, rfl, g1, g2⟩
    rw [show max (a + 1) b = b by omega] at g1 g2
    exact tot_some ⟨g, rfl, g1, g2⟩
theorem hf (a b : Nat) (h : a + b < 1000000000) : IntKind.i64.wrap ((IntKind.u64.wrap (IntKind.i64.wrap ((a : Int) + (b : Int)))).fdiv (2 ^ (min ((1 : Int)).toNat IntKind.u64.bits))) = (((a + b) / 2 : Nat) : Int) := by
  rw [wa a b h, wu64 _ (by omega), show (2 : Int) ^ (min ((1 : Int)).toNat IntKind.u64.bits) = 2 by decide, Int.fdiv_eq_ediv_of_nonneg _ (by omega), w64 _ (by omega)]
  omega
/-- a search by halves -/
theorem bs_ok {α : Type} {l : Nat → Nat → Nat → Option α} {R : Nat → α} {Pd : Nat → Bool} (lo hi : Nat) (hend : ∀ i, lo ≤ i → i ≤ hi → Ev (fun n => l (n + 1) i i) (R i))
    (hstep : ∀ i j v, lo ≤ i → i < j → j ≤ hi → (Pd ((i + j) / 2) = true → Ev (fun n => l n ((i + j) / 2 + 1) j) v) → (Pd ((i + j) / 2) = false → Ev (fun n => l n i ((i + j) / 2)) v) → Ev (fun n => l (n + 1) i j) v) :
    ∀ (d i j : Nat), j - i ≤ d → lo ≤ i → i ≤ j → j ≤ hi → (i = lo ∨ Pd (i - 1) = true) → (j = hi ∨ Pd j = false) →
    ∃ s, lo ≤ s ∧ s ≤ hi ∧ (s = lo ∨ Pd (s - 1) = true) ∧ (s = hi ∨ Pd s = false) ∧ Ev (fun n => l n i j) (R s)
  | 0, i, j, h, h1, h2, h3, h4, h5 => by
    obtain rfl : i = j := by omega
    exact ⟨i, h1, h3, h4, h5, ev_succ (hend i h1 h3)⟩
  | d + 1, i, j, h, h1, h2, h3, h4, h5 => by
    by_cases e : i = j
    · subst e
      exact ⟨i, h1, h3, h4, h5, ev_succ (hend i h1 h3)⟩
    · cases c : Pd ((i + j) / 2) with
      | true =>
        obtain ⟨s, s1, s2, s3, s4, s5⟩ := bs_ok lo hi hend hstep d ((i + j) / 2 + 1) j (by omega) (by omega) (by omega) h3 (.inr (by rw [Nat.add_sub_cancel]; exact c)) h5
        exact ⟨s, s1, s2, s3, s4, ev_succ (hstep i j _ h1 (by omega) h3 (fun _ => s5) (fun c2 => by rw [c] at c2; cases c2))⟩
      | false =>
        obtain ⟨s, s1, s2, s3, s4, s5⟩ := bs_ok lo hi hend hstep d i ((i + j) / 2) (by omega) h1 (by omega) (by omega) h4 (.inr c)
        exact ⟨s, s1, s2, s3, s4, ev_succ (hstep i j _ h1 (by omega) h3 (fun c2 => by rw [c] at c2; cases c2) (fun _ => s5))⟩
abbrev Slf := List V → Int → Int → Int → List V → Option (List V)
theorem b0_self (S S' : Slf) : ∀ (n : Nat) (a0 : Int) (a1 : List V) (a2 a3 : Int) (a4 : List V), l_symM_b0 S n a0 a1 a2 a3 a4 = l_symM_b0 S' n a0 a1 a2 a3 a4
  | 0, _, _, _, _, _ => rfl
  | n + 1, a0, a1, a2, a3, a4 => by simp only [l_symM_b0, b0_self S S' n]
theorem b2_self (S S' : Slf) : ∀ (n : Nat) (a0 a1 : Int) (a2 : List V), l_symM_b2 S n a0 a1 a2 = l_symM_b2 S' n a0 a1 a2
  | 0, _, _, _ => rfl
  | n + 1, a0, a1, a2 => by simp only [l_symM_b2, b2_self S S' n]
theorem b4_self (S S' : Slf) : ∀ (n : Nat) (a0 : Int) (a1 : List V) (a2 a3 : Int) (a4 : List V), l_symM_b4 S n a0 a1 a2 a3 a4 = l_symM_b4 S' n a0 a1 a2 a3 a4
  | 0, _, _, _, _, _ => rfl
  | n + 1, a0, a1, a2, a3, a4 => by simp only [l_symM_b4, b4_self S S' n]
theorem b6_self (S S' : Slf) : ∀ (n : Nat) (a0 a1 : Int) (a2 : List V), l_symM_b6 S n a0 a1 a2 = l_symM_b6 S' n a0 a1 a2
  | 0, _, _, _ => rfl
  | n + 1, a0, a1, a2 => by simp only [l_symM_b6, b6_self S S' n]
theorem b8_self (S S' : Slf) : ∀ (n : Nat) (a0 a1 a2 : Int) (a3 : List V) (a4 a5 a6 a7 a8 : Int) (a9 : List V), l_symM_b8 S n a0 a1 a2 a3 a4 a5 a6 a7 a8 a9 = l_symM_b8 S' n a0 a1 a2 a3 a4 a5 a6 a7 a8 a9
  | 0, _, _, _, _, _, _, _, _, _, _ => rfl
  | n + 1, a0, a1, a2, a3, a4, a5, a6, a7, a8, a9 => by simp only [l_symM_b8, b8_self S S' n]
theorem sb0_ok {N : Nat} {P : List (Int × Int)} {f : Nat → Nat} (hN : N ≤ 1000) (hP : P.length = N) (V : ∀ x, x < N → f x < N) (S : Nat → Slf) {a m b : Nat} (h1 : a < m) (h2 : m ≤ b) (h3 : b ≤ N) :
    ∃ s, m ≤ s ∧ s ≤ b ∧ (s = m ∨ wd P (f a) < wd P (f (s - 1))) ∧ (s = b ∨ ¬ wd P (f a) < wd P (f s)) ∧ Ev (fun n => l_symM_b0 (S n) n a (pcs P) m b (row N f)) ((a : Int), (s : Int), row N f) := by
  have := bs_ok (l := fun n i j => l_symM_b0 (fun _ _ _ _ _ => none) n a (pcs P) (i : Nat) (j : Nat) (row N f)) (R := fun s => ((a : Int), (s : Int), row N f)) (Pd := fun h => decide (wd P (f a) < wd P (f h))) m b
    (fun i _ _ => ev_f (by simp) ev_some) (by
      intro i j v h4 h5 h6 ht hf'
      refine ev_t (by simp; omega) ?_
      rw [hf i j (by omega)]
      refine ev_chk rfl (ev_chk (inR (by omega)) (ev_bnd (ev_of fun n => nx (by omega)) (ev_chk (inR (by omega)) (ev_bnd (ev_of fun n => nx (by omega)) (ev_bnd (ev_of fun n => byW_eq n (by rw [hP]; exact V _ (by omega)) (by rw [hP]; exact V _ (by omega))) ?_)))))
      rw [byR_lt]
      refine ev_cnd (fun c => ?_) (fun c => ?_)
      · rw [up64 _ (by omega)]; exact ht c
      · exact hf' c) (b - m) m b (Nat.le_refl _) (Nat.le_refl _) h2 (Nat.le_refl _) (.inl rfl) (.inl rfl)
  obtain ⟨s, s1, s2, s3, s4, s5⟩ := this
  refine ⟨s, s1, s2, by simpa using s3, by simpa using s4, ?_⟩
  rw [show (fun n => l_symM_b0 (S n) n a (pcs P) m b (row N f)) = fun n => l_symM_b0 (fun _ _ _ _ _ => none) n a (pcs P) m b (row N f) from funext fun n => b0_self ..]
  exact s5
theorem sb4_ok {N : Nat} {P : List (Int × Int)} {f : Nat → Nat} (hN : N ≤ 1000) (hP : P.length = N) (V : ∀ x, x < N → f x < N) (S : Nat → Slf) {a m b : Nat} (h1 : a ≤ m) (h2 : m < N) :
    ∃ s, a ≤ s ∧ s ≤ m ∧ (s = a ∨ ¬ wd P (f (s - 1)) < wd P (f m)) ∧ (s = m ∨ wd P (f s) < wd P (f m)) ∧ Ev (fun n => l_symM_b4 (S n) n m (pcs P) a m (row N f)) ((m : Int), (s : Int), row N f) := by
  have := bs_ok (l := fun n i j => l_symM_b4 (fun _ _ _ _ _ => none) n m (pcs P) (i : Nat) (j : Nat) (row N f)) (R := fun s => ((m : Int), (s : Int), row N f)) (Pd := fun h => !decide (wd P (f h) < wd P (f m))) a m
    (fun i _ _ => ev_f (by simp) ev_some) (by
      intro i j v h4 h5 h6 ht hf'
      refine ev_t (by simp; omega) ?_
      rw [hf i j (by omega)]
      refine ev_chk rfl (ev_chk (inR (by omega)) (ev_bnd (ev_of fun n => nx (by omega)) (ev_chk (inR (by omega)) (ev_bnd (ev_of fun n => nx (by omega)) (ev_bnd (ev_of fun n => byW_eq n (by rw [hP]; exact V _ (by omega)) (by rw [hP]; exact V _ (by omega))) ?_)))))
      rw [byR_lt]
      refine ev_cnd (fun c => ?_) (fun c => ?_)
      · exact hf' (by rw [c]; rfl)
      · rw [up64 _ (by omega)]; exact ht (by rw [c]; rfl)) (m - a) a m (Nat.le_refl _) (Nat.le_refl _) h1 (Nat.le_refl _) (.inl rfl) (.inl rfl)
  obtain ⟨s, s1, s2, s3, s4, s5⟩ := this
  refine ⟨s, s1, s2, by simpa using s3, by simpa using s4, ?_⟩
  rw [show (fun n => l_symM_b4 (S n) n m (pcs P) a m (row N f)) = fun n => l_symM_b4 (fun _ _ _ _ _ => none) n m (pcs P) a m (row N f) from funext fun n => b4_self ..]
  exact s5
theorem sb8_ok {N : Nat} {P : List (Int × Int)} {f : Nat → Nat} (hN : N ≤ 1000) (hP : P.length = N) (V : ∀ x, x < N → f x < N) (S : Nat → Slf) {lo hi p : Nat} {x0 x1 x2 x4 x5 : Int} (h1 : lo ≤ hi) (h2 : hi ≤ N) (h3 : hi ≤ p + 1) (h4 : p < N + lo) :
    ∃ s, lo ≤ s ∧ s ≤ hi ∧ (s = lo ∨ ¬ wd P (f (s - 1)) < wd P (f (p - (s - 1)))) ∧ (s = hi ∨ wd P (f s) < wd P (f (p - s))) ∧
      Ev (fun n => l_symM_b8 (S n) n x0 x1 x2 (pcs P) x4 x5 lo hi p (row N f)) (x0, x1, x2, pcs P, x4, x5, (s : Int), row N f) := by
  have := bs_ok (l := fun n i j => l_symM_b8 (fun _ _ _ _ _ => none) n x0 x1 x2 (pcs P) x4 x5 (i : Nat) (j : Nat) p (row N f)) (R := fun s => (x0, x1, x2, pcs P, x4, x5, (s : Int), row N f)) (Pd := fun h => !decide (wd P (f h) < wd P (f (p - h)))) lo hi
    (fun i _ _ => ev_f (by simp) ev_some) (by
      intro i j v h4 h5 h6 ht hf'
      refine ev_t (by simp; omega) ?_
      rw [hf i j (by omega), ws p ((i + j) / 2) (by omega) (by omega)]
      refine ev_chk rfl (ev_chk (inR (by omega)) (ev_bnd (ev_of fun n => nx (by omega)) (ev_chk (inR (by omega)) (ev_bnd (ev_of fun n => nx (by omega)) (ev_bnd (ev_of fun n => byW_eq n (by rw [hP]; exact V _ (by omega)) (by rw [hP]; exact V _ (by omega))) ?_)))))
      rw [byR_lt]
      refine ev_cnd (fun c => ?_) (fun c => ?_)
      · exact hf' (by rw [c]; rfl)
      · rw [up64 _ (by omega)]; exact ht (by rw [c]; rfl)) (hi - lo) lo hi (Nat.le_refl _) (Nat.le_refl _) h1 (Nat.le_refl _) (.inl rfl) (.inl rfl)
  obtain ⟨s, s1, s2, s3, s4, s5⟩ := this
  refine ⟨s, s1, s2, by simpa using s3, by simpa using s4, ?_⟩
  rw [show (fun n => l_symM_b8 (S n) n x0 x1 x2 (pcs P) x4 x5 lo hi p (row N f)) = fun n => l_symM_b8 (fun _ _ _ _ _ => none) n x0 x1 x2 (pcs P) x4 x5 lo hi p (row N f) from funext fun n => b8_self ..]
  exact s5
end Go.Proofs.Ytbejaalnnnogoaa
