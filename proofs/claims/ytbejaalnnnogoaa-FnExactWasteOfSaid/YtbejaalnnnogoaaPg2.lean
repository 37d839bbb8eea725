/- Sorting by width: the order, rearrangements, insertion. -/
import Derived.Test.YtbejaalnnnogoaaPg1
namespace Go.Proofs.Ytbejaalnnnogoaa
open Go
set_option linter.unusedVariables false
set_option linter.unusedSimpArgs false

abbrev pcs (P : List (Int × Int)) : List V := prs .i8 .i8 P
def wd (P : List (Int × Int)) (x : Nat) : Int := (pr P x).2
/-- the strict order: wider first, then the lower index -/
def kl (P : List (Int × Int)) (x y : Nat) : Prop := wd P y < wd P x ∨ (wd P x = wd P y ∧ x < y)
theorem kl_trans {P : List (Int × Int)} {x y z : Nat} (h1 : kl P x y) (h2 : kl P y z) : kl P x z := by unfold kl at *; omega
theorem kl_irr {P : List (Int × Int)} {x : Nat} (h : kl P x x) : False := by unfold kl at h; omega
theorem cmp_eq (n : Nat) (a b : Int) : s_cmp_Compare_int8 n a b = some (if a < b then -1 else if b < a then 1 else 0) := by
  unfold s_cmp_Compare_int8 s_cmp_isNaN_int8
  simp only [bnd_s, decide_true, Bool.not_true, cnd_f, cnd_d]
  split
  · rfl
  · split <;> rfl
def byR (P : List (Int × Int)) (x y : Nat) : Int := if wd P y < wd P x then -1 else if wd P x < wd P y then 1 else 0
theorem byW_eq (n : Nat) {P : List (Int × Int)} {x y : Nat} (hx : x < P.length) (hy : y < P.length) : s_impl_byWidth_1 n x y (pcs P) = some (byR P x y) := by
  unfold s_impl_byWidth_1
  rw [idx_prs _ _ _ _ hy, idx_prs _ _ _ _ hx]
  show bnd (s_cmp_Compare_int8 n (pr P y).2 (pr P x).2) _ = _
  rw [cmp_eq]
  rfl
theorem byR_lt {P : List (Int × Int)} {x y : Nat} : decide (byR P x y < 0) = decide (wd P y < wd P x) := by
  unfold byR
  by_cases h : wd P y < wd P x
  · simp [h]
  · rw [if_neg h]
    split <;> simp [h]
/-- g is f with the indices of [a,b) rearranged -/
def Pm (a b : Nat) (f g : Nat → Nat) : Prop := ∃ σ τ : Nat → Nat, (∀ i, τ (σ i) = i) ∧ (∀ i, σ (τ i) = i) ∧ (∀ i, a ≤ i → i < b → a ≤ σ i ∧ σ i < b) ∧ (∀ i, i < a ∨ b ≤ i → σ i = i) ∧ ∀ i, g i = f (σ i)
theorem Pm.refl (a b : Nat) (f : Nat → Nat) : Pm a b f f := ⟨id, id, fun _ => rfl, fun _ => rfl, fun i h1 h2 => ⟨h1, h2⟩, fun _ _ => rfl, fun _ => rfl⟩
theorem Pm.trans {a b : Nat} {f g h : Nat → Nat} (h1 : Pm a b f g) (h2 : Pm a b g h) : Pm a b f h := by
  obtain ⟨σ, τ, p1, p2, p3, p4, p5⟩ := h1
  obtain ⟨σ', τ', q1, q2, q3, q4, q5⟩ := h2
  refine ⟨fun i => σ (σ' i), fun i => τ' (τ i), fun i => by simp only [p1, q1], fun i => by simp only [p2, q2], fun i h1 h2 => p3 _ (q3 i h1 h2).1 (q3 i h1 h2).2, fun i hi => by simp only [q4 i hi, p4 i hi], fun i => by rw [q5, p5]⟩
theorem Pm.wide {a b c d : Nat} {f g : Nat → Nat} (h : Pm a b f g) (h1 : c ≤ a) (h2 : b ≤ d) : Pm c d f g := by
  obtain ⟨σ, τ, p1, p2, p3, p4, p5⟩ := h
  refine ⟨σ, τ, p1, p2, fun i h3 h4 => ?_, fun i hi => p4 i (by omega), p5⟩
  by_cases hi : a ≤ i ∧ i < b
  · have := p3 i hi.1 hi.2; omega
  · rw [p4 i (by omega)]; omega
theorem Pm.out {a b : Nat} {f g : Nat → Nat} (h : Pm a b f g) {i : Nat} (hi : i < a ∨ b ≤ i) : g i = f i := by
  obtain ⟨σ, τ, p1, p2, p3, p4, p5⟩ := h
  rw [p5, p4 i hi]
theorem Pm.from {a b : Nat} {f g : Nat → Nat} (h : Pm a b f g) {i : Nat} (h1 : a ≤ i) (h2 : i < b) : ∃ j, a ≤ j ∧ j < b ∧ g i = f j := by
  obtain ⟨σ, τ, p1, p2, p3, p4, p5⟩ := h
  exact ⟨σ i, (p3 i h1 h2).1, (p3 i h1 h2).2, p5 i⟩
theorem Pm.to {a b : Nat} {f g : Nat → Nat} (h : Pm a b f g) {j : Nat} (h1 : a ≤ j) (h2 : j < b) : ∃ i, a ≤ i ∧ i < b ∧ g i = f j := by
  obtain ⟨σ, τ, p1, p2, p3, p4, p5⟩ := h
  refine ⟨τ j, ?_⟩
  have e : g (τ j) = f j := by rw [p5, p2]
  by_cases hi : a ≤ τ j ∧ τ j < b
  · exact ⟨hi.1, hi.2, e⟩
  · have h3 := p4 (τ j) (by omega)
    rw [p2] at h3
    omega
theorem pm_rot {a m b : Nat} (f : Nat → Nat) (h1 : a ≤ m) (h2 : m ≤ b) : Pm a b f (rot a m b f) := by
  refine ⟨rot a m b id, rot a (a + (b - m)) b id, fun i => ?_, fun i => ?_, fun i h3 h4 => ?_, fun i hi => ?_, fun i => ?_⟩
  · simp only [rot, id]; repeat' split
    all_goals omega
  · simp only [rot, id]; repeat' split
    all_goals omega
  · simp only [rot, id]; repeat' split
    all_goals omega
  · simp only [rot, id]; repeat' split
    all_goals omega
  · simp only [rot, id]; repeat' split
    all_goals rfl
/-- sorted on [a,b) -/
def Sd (P : List (Int × Int)) (a b : Nat) (f : Nat → Nat) : Prop := ∀ p q, a ≤ p → p < q → q < b → kl P (f p) (f q)
end Go.Proofs.Ytbejaalnnnogoaa
