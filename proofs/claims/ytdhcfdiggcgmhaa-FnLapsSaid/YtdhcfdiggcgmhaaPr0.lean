/- Lists of pairs of numbers: read, written, compared. -/
import Derived.Test.YtdhcfdiggcgmhaaPl1
import Derived.Test.YtdhcfdiggcgmhaaRs24
namespace Go.Proofs.Ytdhcfdiggcgmhaa
open Go
set_option linter.unusedVariables false
set_option linter.unusedSimpArgs false

def pv (k k' : IntKind) (p : Int × Int) : V := V.parts [(V.int k (p.1)), (V.int k' (p.2))]
def prs (k k' : IntKind) (l : List (Int × Int)) : List V := l.map (pv k k')
def pr (l : List (Int × Int)) (j : Nat) : Int × Int := l.getD j (0, 0)
theorem prs_length (k k' : IntKind) (l : List (Int × Int)) : (prs k k' l).length = l.length := List.length_map ..
theorem pr_get {l : List (Int × Int)} {i : Nat} (h : i < l.length) : l[i]? = some (pr l i) := by
  rw [pr, List.getD_eq_getElem?_getD, List.getElem?_eq_getElem h]; rfl
theorem nth_prs (k k' : IntKind) (l : List (Int × Int)) (i : Nat) (h : i < l.length) : nth (prs k k' l) i = some (V.parts [(V.int k ((pr l i).1)), (V.int k' ((pr l i).2))]) := by
  rw [nth_get, prs, List.getElem?_map, pr_get h]; rfl
theorem idx_prs (k k' : IntKind) (l : List (Int × Int)) (i : Nat) (h : i < l.length) : idx (prs k k' l) (i : Int) = some (V.parts [(V.int k ((pr l i).1)), (V.int k' ((pr l i).2))]) := by
  rw [idx_nat, prs, List.getElem?_map, pr_get h]; rfl
theorem set_prs (k k' : IntKind) : ∀ (l : List (Int × Int)) (i : Nat) (a b : Int), setNth (prs k k' l) i (V.parts [(V.int k (a)), (V.int k' (b))]) = prs k k' (l.set i (a, b))
  | [], i, a, b => rfl
  | y :: l, 0, a, b => rfl
  | y :: l, i + 1, a, b => by
    have := set_prs k k' l i a b
    simp only [prs, List.map_cons, setNth, List.set_cons_succ] at this ⊢
    rw [this]
theorem rep_prs (k k' : IntKind) (n : Nat) : List.replicate n (V.parts [(V.int k (0)), (V.int k' (0))]) = prs k k' (List.replicate n (0, 0)) := by
  simp [prs, pv]
theorem prs_app (k k' : IntKind) (l m : List (Int × Int)) : prs k k' (l ++ m) = prs k k' l ++ prs k k' m := List.map_append ..
theorem like_prs (k k' : IntKind) : ∀ (l l' : List (Int × Int)), l.length = l'.length → likeRows (prs k k' l) (prs k k' l') = true
  | [], [], _ => rfl
  | [], _ :: _, h => by simp at h
  | _ :: _, [], h => by simp at h
  | x :: l, y :: l', h => by
    have := like_prs k k' l l' (by simpa using h)
    simp only [prs, pv, List.map_cons, likeRows, likeElem, likeParts, decide_true, Bool.true_and, Bool.and_true] at this ⊢
    exact this
/-- what an argument that is a list of pairs is -/
theorem prs_of {k k' : IntKind} : ∀ {xs : List V}, (∀ x, x ∈ xs → ∃ l, x = .parts l ∧ inL [.int k, .int k'] l) → ∃ l, xs = prs k k' l ∧ ∀ p, p ∈ l → (Lit.int k p.1).wf = true ∧ (Lit.int k' p.2).wf = true
  | [], _ => ⟨[], rfl, fun p hp => by cases hp⟩
  | x :: xs, h => by
    obtain ⟨l, rfl, e⟩ := prs_of (xs := xs) fun y hy => h y (List.mem_cons_of_mem _ hy)
    obtain ⟨m, rfl, hm⟩ := h x (List.mem_cons_self ..)
    simp only [inL, inP] at hm
    obtain ⟨v, r, rfl, ⟨a, rfl, ha⟩, v', r', rfl, ⟨b, rfl, hb⟩, rfl⟩ := hm
    refine ⟨(a, b) :: l, rfl, fun p hp => ?_⟩
    rcases List.mem_cons.1 hp with rfl | hp
    · exact ⟨ha, hb⟩
    · exact e p hp
theorem pr_mem {l : List (Int × Int)} {i : Nat} (h : i < l.length) : pr l i ∈ l := by
  have := pr_get h
  exact List.mem_of_getElem? this
end Go.Proofs.Ytdhcfdiggcgmhaa
