/- Lists of numbers as arguments. -/
import Derived.Test.YtdhcfdiggcgmhaaPa4
import Derived.Test.YtdhcfdiggcgmhaaPr0
namespace Go.Proofs.Ytdhcfdiggcgmhaa
open Go
set_option linter.unusedVariables false
set_option linter.unusedSimpArgs false

def gi (l : List Int) (j : Nat) : Int := l.getD j 0
theorem gi_get {l : List Int} {j : Nat} (h : j < l.length) : l[j] = gi l j := by
  unfold gi; rw [List.getD_eq_getElem?_getD, List.getElem?_eq_getElem h]; rfl
theorem idx_gi (k : IntKind) (l : List Int) (j : Nat) (h : j < l.length) : idx (ints k l) (j : Int) = some (V.int k (gi l j)) := by
  rw [idx_ints _ _ _ h, gi_get h]
theorem nth_gi (k : IntKind) (l : List Int) (j : Nat) (h : j < l.length) : nth (ints k l) j = some (V.int k (gi l j)) := by
  rw [nth_ints _ _ _ h, gi_get h]
theorem ints_of {k : IntKind} : ∀ {xs : List V}, (∀ x, x ∈ xs → inL [.int k] [x]) → ∃ l, xs = ints k l ∧ ∀ y, y ∈ l → (Lit.int k y).wf = true
  | [], _ => ⟨[], rfl, fun p hp => by cases hp⟩
  | x :: xs, h => by
    obtain ⟨l, rfl, e⟩ := ints_of (xs := xs) fun y hy => h y (List.mem_cons_of_mem _ hy)
    have hm := h x (List.mem_cons_self ..)
    simp only [inL, inP] at hm
    obtain ⟨v, r, e1, ⟨a, rfl, ha⟩, rfl⟩ := hm
    obtain ⟨rfl, _⟩ := List.cons.inj e1
    refine ⟨a :: l, rfl, fun p hp => ?_⟩
    rcases List.mem_cons.1 hp with rfl | hp
    · exact ha
    · exact e p hp
theorem rep_ints (k : IntKind) (n : Nat) : List.replicate n (V.int k 0) = ints k (List.replicate n 0) := by simp [ints]
theorem eqInt64S_okL (l : List Int) (hl : l.length ≤ 1048576) : Ev (fun n => s_laws_eqInt64S n (ints .i64 l) (ints .i64 l)) true := by
  unfold s_laws_eqInt64S
  refine ev_t (by simp) (ev_bnd (a := Sum.inl ()) ?_ ev_some)
  have := loop_all (l := fun n k => l_laws_eqInt64S_b0 n (ints .i64 l) (ints .i64 l) (k : Nat)) (p := fun _ => true) (A := .inl ()) (B := .inr false) l.length (ev_f (by simp [ints_length]) ev_some) (by
    intro k hk _ a ih
    refine ev_t (by simp [ints_length]; omega) (ev_bnd (a := gi l k) (ev_of fun n => by rw [idx_gi _ _ _ hk]; rfl) (ev_bnd (a := gi l k) (ev_of fun n => by rw [idx_gi _ _ _ hk]; rfl) (ev_t (by simp) ?_)))
    rw [up64 k (by omega)]
    exact ih) (by intro k hk h; cases h) l.length 0 (by omega)
  have h2 : allN (fun _ => true) 0 l.length = true := (allN_iff _ _ _).2 fun _ _ _ => rfl
  rw [h2] at this
  exact this
end Go.Proofs.Ytdhcfdiggcgmhaa
