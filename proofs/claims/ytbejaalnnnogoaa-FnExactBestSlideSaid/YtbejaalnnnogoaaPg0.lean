/- Lists of pairs of numbers and rows of numbers: read, written, compared. -/
import Derived.Test.YtbejaalnnnogoaaRs24
import Derived.Test.YtbejaalnnnogoaaRg1
import Derived.Test.YtbejaalnnnogoaaRq1
namespace Go.Proofs.Ytbejaalnnnogoaa
open Go
set_option linter.unusedVariables false
set_option linter.unusedSimpArgs false

theorem nth_get {α : Type} : ∀ (l : List α) (i : Nat), nth l i = l[i]?
  | [], i => by simp [nth]
  | x :: l, 0 => by simp [nth]
  | x :: l, i + 1 => by simp [nth, nth_get l i]
theorem idx_nat (xs : List V) (i : Nat) : idx xs (i : Int) = xs[i]? := by
  unfold idx
  rw [decide_eq_true (Int.natCast_nonneg i)]
  simp only [Int.toNat_natCast, nth_get]
def pv (k k' : IntKind) (p : Int × Int) : V := V.parts [(V.int k (p.1)), (V.int k' (p.2))]
def prs (k k' : IntKind) (l : List (Int × Int)) : List V := l.map (pv k k')
def pr (l : List (Int × Int)) (j : Nat) : Int × Int := l.getD j (0, 0)
theorem prs_length (k k' : IntKind) (l : List (Int × Int)) : (prs k k' l).length = l.length := List.length_map ..
theorem pr_get {l : List (Int × Int)} {i : Nat} (h : i < l.length) : l[i]? = some (pr l i) := by
  rw [pr, List.getD_eq_getElem?_getD, List.getElem?_eq_getElem h]; rfl
theorem nth_prs (k k' : IntKind) (l : List (Int × Int)) (i : Nat) (h : i < l.length) : nth (prs k k' l) i = some (V.parts [(V.int k ((pr l i).1)), (V.int k' ((pr l i).2))]) := by
  rw [nth_get, prs, List.getElem?_map, pr_get h]; rfl
theorem idx_prs (k k' : IntKind) (l : List (Int × Int)) (i : Nat) (h : i < l.length) : idx (prs k k' l) (i : Int) = some (V.parts [(V.int k ((pr l i).1)), (V.int k' ((pr l i).2))]) := by
  rw [idx_nat, prs, List.getElem?_map, pr_get h]; rfl
theorem set_prs (k k' : IntKind) : ∀ (l : List (Int × Int)) (i : Nat) (a b : Int), setNth (prs k k' l) i (V.parts [(V.int k (a)), (V.int k' (b))]) = prs k k' (l.set i (a, b))
  | [], i, a, b => rfl
  | y :: l, 0, a, b => rfl
  | y :: l, i + 1, a, b => by
    have := set_prs k k' l i a b
    simp only [prs, List.map_cons, setNth, List.set_cons_succ] at this ⊢
    rw [this]
theorem rep_prs (k k' : IntKind) (n : Nat) : List.replicate n (V.parts [(V.int k (0)), (V.int k' (0))]) = prs k k' (List.replicate n (0, 0)) := by
  simp [prs, pv]
theorem prs_app (k k' : IntKind) (l m : List (Int × Int)) : prs k k' (l ++ m) = prs k k' l ++ prs k k' m := List.map_append ..
theorem like_prs (k k' : IntKind) : ∀ (l l' : List (Int × Int)), l.length = l'.length → likeRows (prs k k' l) (prs k k' l') = true
  | [], [], _ => rfl
  | [], _ :: _, h => by simp at h
  | _ :: _, [], h => by simp at h
  | x :: l, y :: l', h => by
    have := like_prs k k' l l' (by simpa using h)
    simp only [prs, pv, List.map_cons, likeRows, likeElem, likeParts, decide_true, Bool.true_and, Bool.and_true] at this ⊢
    exact this
/-- what an argument that is a list of pairs is -/
theorem prs_of {k k' : IntKind} : ∀ {xs : List V}, (∀ x, x ∈ xs → ∃ l, x = .parts l ∧ inL [.int k, .int k'] l) → ∃ l, xs = prs k k' l ∧ ∀ p, p ∈ l → (Lit.int k p.1).wf = true ∧ (Lit.int k' p.2).wf = true
  | [], _ => ⟨[], rfl, fun p hp => by cases hp⟩
  | x :: xs, h => by
    obtain ⟨l, rfl, e⟩ := prs_of (xs := xs) fun y hy => h y (List.mem_cons_of_mem _ hy)
    obtain ⟨m, rfl, hm⟩ := h x (List.mem_cons_self ..)
    simp only [inL, inP] at hm
    obtain ⟨v, r, rfl, ⟨a, rfl, ha⟩, v', r', rfl, ⟨b, rfl, hb⟩, rfl⟩ := hm
    refine ⟨(a, b) :: l, rfl, fun p hp => ?_⟩
    rcases List.mem_cons.1 hp with rfl | hp
    · exact ⟨ha, hb⟩
    · exact e p hp
theorem pr_mem {l : List (Int × Int)} {i : Nat} (h : i < l.length) : pr l i ∈ l := by
  have := pr_get h
  exact List.mem_of_getElem? this
theorem plain_prs (k k' : IntKind) (e : Nat) : ∀ (l : List (Int × Int)), plainV (V.fresh e (prs k k' l)) = true := by
  intro l
  show allB plainP.plainE (prs k k' l) = true
  induction l with
  | nil => rfl
  | cons p l ih => exact ih
/-- a row of N numbers -/
def row (N : Nat) (f : Nat → Nat) : List V := (List.range N).map fun i => V.int .i64 ((f i : Nat) : Int)
def pt (f : Nat → Nat) (i x : Nat) : Nat → Nat := fun j => if j = i then x else f j
theorem row_length (N : Nat) (f : Nat → Nat) : (row N f).length = N := by simp [row]
theorem nth_row {N : Nat} {f : Nat → Nat} {i : Nat} (h : i < N) : nth (row N f) i = some (V.int .i64 ((f i : Nat) : Int)) := by
  rw [nth_getE, row]; simp [h]
theorem idx_row {N : Nat} {f : Nat → Nat} {i : Nat} (h : i < N) : idx (row N f) (i : Int) = some (V.int .i64 ((f i : Nat) : Int)) := by
  rw [idx_nat, row]; simp [h]
theorem row_congr {N : Nat} {f g : Nat → Nat} (h : ∀ i, i < N → f i = g i) : row N f = row N g := by
  unfold row
  refine List.map_congr_left fun i hi => ?_
  rw [h i (by simpa using hi)]
theorem setNth_get {α : Type} : ∀ (l : List α) (i j : Nat) (x : α), (setNth l i x)[j]? = if j = i then (if i < l.length then some x else none) else l[j]?
  | [], i, j, x => by simp [setNth]
  | y :: l, 0, 0, x => by simp [setNth]
  | y :: l, 0, j + 1, x => by simp [setNth]
  | y :: l, i + 1, 0, x => by simp [setNth]
  | y :: l, i + 1, j + 1, x => by simp [setNth, setNth_get l i j x]
theorem set_row {N : Nat} {f : Nat → Nat} {i x : Nat} (h : i < N) : setNth (row N f) i (V.int .i64 (x : Int)) = row N (pt f i x) := by
  apply List.ext_getElem?
  intro j
  rw [setNth_get]
  unfold row
  by_cases hj : j < N
  · by_cases e : j = i
    · subst e; simp [pt, hj]
    · simp [pt, hj, e]
  · by_cases e : j = i
    · omega
    · simp [hj, e]
theorem like_row {N : Nat} {f g : Nat → Nat} : likeRows (row N f) (row N g) = true := by
  have : ∀ (l : List Nat), likeRows (l.map fun i => V.int .i64 ((f i : Nat) : Int)) (l.map fun i => V.int .i64 ((g i : Nat) : Int)) = true := by
    intro l
    induction l with
    | nil => rfl
    | cons x l ih => simp only [List.map_cons, likeRows, likeElem, decide_true, Bool.true_and]; exact ih
  exact this _
end Go.Proofs.Ytbejaalnnnogoaa
