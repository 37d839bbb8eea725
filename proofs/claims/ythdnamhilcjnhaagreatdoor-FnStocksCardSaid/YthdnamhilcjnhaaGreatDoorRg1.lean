/- Eventually: what a shallow text answers once it may go enough rounds. -/
import Derived.Test.YthdnamhilcjnhaaGreatDoorRg0
import Derived.IntWalk
import GoSem.Claim
namespace Go.Proofs.YthdnamhilcjnhaaGreatDoor
open Go
set_option linter.unusedVariables false
set_option linter.unusedSimpArgs false
def Ev {α : Type} (f : Nat → Option α) (a : α) : Prop := ∃ N, ∀ n, N ≤ n → f n = some a
theorem ev_some {α : Type} {a : α} : Ev (fun _ => some a) a := ⟨0, fun _ _ => rfl⟩
theorem ev_of {α : Type} {f : Nat → Option α} {a : α} (h : ∀ n, f n = some a) : Ev f a := ⟨0, fun n _ => h n⟩
theorem ev_bnd {α β : Type} {f : Nat → Option α} {g : Nat → α → Option β} {a : α} {b : β} (h1 : Ev f a) (h2 : Ev (fun n => g n a) b) : Ev (fun n => bnd (f n) (g n)) b := by
 obtain ⟨N, h1⟩ := h1
 obtain ⟨M, h2⟩ := h2
 refine ⟨max N M, fun n hn => ?_⟩
 simp only [h1 n (by omega), bnd]
 exact h2 n (by omega)
theorem ev_succ {α : Type} {f : Nat → Option α} {a : α} (h : Ev (fun n => f (n + 1)) a) : Ev f a := by
 obtain ⟨N, h⟩ := h
 refine ⟨N + 1, fun n hn => ?_⟩
 obtain ⟨n, rfl⟩ : ∃ m, n = m + 1 := ⟨n - 1, by omega⟩
 exact h n (by omega)
theorem ev_t {α : Type} {f g : Nat → Option α} {a : α} {c : Bool} (hc : c = true) (h : Ev f a) : Ev (fun n => cnd c (f n) (g n)) a := by
 subst hc; exact h
theorem ev_f {α : Type} {f g : Nat → Option α} {a : α} {c : Bool} (hc : c = false) (h : Ev g a) : Ev (fun n => cnd c (f n) (g n)) a := by
 subst hc; exact h
theorem ev_cnd {α : Type} {f g : Nat → Option α} {a : α} {c : Bool} (h1 : c = true → Ev f a) (h2 : c = false → Ev g a) : Ev (fun n => cnd c (f n) (g n)) a := by
 cases c with
 | true => exact h1 rfl
 | false => exact h2 rfl
theorem ev_chk {α : Type} {f : Nat → Option α} {a : α} {c : Bool} (hc : c = true) (h : Ev f a) : Ev (fun n => chk c (f n)) a := by
 subst hc; exact h
theorem ev_cast {α : Type} {f : Nat → Option α} {a b : α} (h : Ev f a) (e : a = b) : Ev f b := e ▸ h
theorem ev_run {α : Type} {f : Nat → Option α} {a : α} (h : Ev f a) : ∃ n, f n = some a := by
 obtain ⟨N, h⟩ := h
 exact ⟨N, h N (Nat.le_refl _)⟩
theorem ev_two {α : Type} {f : Nat → Option α} {a b : α} (h : Ev f a) (h' : Ev f b) : a = b := by
 obtain ⟨N, h⟩ := h
 obtain ⟨M, h'⟩ := h'
 have e := h (max N M) (by omega)
 rw [h' (max N M) (by omega)] at e
 exact (Option.some.inj e).symm
def Tot {α : Type} (f : Nat → Option α) (P : α → Prop) : Prop := ∃ a, P a ∧ Ev f a
theorem tot_some {α : Type} {P : α → Prop} {a : α} (hp : P a) : Tot (fun _ => some a) P := ⟨a, hp, ev_some⟩
theorem tot_bnd {α β : Type} {f : Nat → Option α} {g : Nat → α → Option β} {Q : α → Prop} {P : β → Prop} (h1 : Tot f Q) (h2 : ∀ a, Q a → Tot (fun n => g n a) P) : Tot (fun n => bnd (f n) (g n)) P := by
 obtain ⟨a, ha, h1⟩ := h1
 obtain ⟨b, hb, h2⟩ := h2 a ha
 exact ⟨b, hb, ev_bnd h1 h2⟩
theorem tot_ev {α β : Type} {f : Nat → Option α} {g : Nat → α → Option β} {a : α} {P : β → Prop} (h1 : Ev f a) (h2 : Tot (fun n => g n a) P) : Tot (fun n => bnd (f n) (g n)) P := by
 obtain ⟨b, hb, h2⟩ := h2
 exact ⟨b, hb, ev_bnd h1 h2⟩
theorem tot_succ {α : Type} {f : Nat → Option α} {P : α → Prop} (h : Tot (fun n => f (n + 1)) P) : Tot f P := by
 obtain ⟨a, ha, h⟩ := h
 exact ⟨a, ha, ev_succ h⟩
theorem tot_t {α : Type} {f g : Nat → Option α} {P : α → Prop} {c : Bool} (hc : c = true) (h : Tot f P) : Tot (fun n => cnd c (f n) (g n)) P := by
 subst hc; exact h
theorem tot_f {α : Type} {f g : Nat → Option α} {P : α → Prop} {c : Bool} (hc : c = false) (h : Tot g P) : Tot (fun n => cnd c (f n) (g n)) P := by
 subst hc; exact h
theorem tot_cnd {α : Type} {f g : Nat → Option α} {P : α → Prop} {c : Bool} (h1 : c = true → Tot f P) (h2 : c = false → Tot g P) : Tot (fun n => cnd c (f n) (g n)) P := by
 cases c with
 | true => exact h1 rfl
 | false => exact h2 rfl
theorem tot_chk {α : Type} {f : Nat → Option α} {P : α → Prop} {c : Bool} (hc : c = true) (h : Tot f P) : Tot (fun n => chk c (f n)) P := by
 subst hc; exact h
theorem tot_mono {α : Type} {f : Nat → Option α} {P Q : α → Prop} (h : Tot f P) (hpq : ∀ a, P a → Q a) : Tot f Q := by
 obtain ⟨a, ha, h⟩ := h
 exact ⟨a, hpq a ha, h⟩
theorem bnd_s {α β : Type} (x : α) (f : α → Option β) : bnd (some x) f = f x := rfl
theorem cnd_t {α : Type} (a b : Option α) : cnd true a b = a := rfl
theorem cnd_f {α : Type} (a b : Option α) : cnd false a b = b := rfl
theorem chk_t {α : Type} (a : Option α) : chk true a = a := rfl
theorem cnd_d {α : Type} (p : Prop) [Decidable p] (a b : Option α) : cnd (decide p) a b = if p then a else b := by
 by_cases h : p <;> simp [h, cnd]
theorem cnd_or (c d : Bool) : cnd c (some true) (some d) = some (c || d) := by cases c <;> rfl
theorem w64 (x : Int) (h : -9223372036854775808 ≤ x ∧ x ≤ 9223372036854775807) : IntKind.i64.wrap x = x := IntWalk.i64_in _ (by omega)
theorem w8 (x : Int) (h : -128 ≤ x ∧ x ≤ 127) : IntKind.i8.wrap x = x := by
 simp only [IntKind.wrap, IntKind.signed, IntKind.bits]; simp [Int.bmod]; omega
theorem wu64 (x : Int) (h : 0 ≤ x ∧ x ≤ 18446744073709551615) : IntKind.u64.wrap x = x := by
 simp only [IntKind.wrap, IntKind.signed, IntKind.bits]; simp; omega
theorem up64 (k : Nat) (h : k < 1000000000) : IntKind.i64.wrap ((k : Int) + 1) = ((k + 1 : Nat) : Int) := by rw [w64 _ (by omega)]; omega
theorem inB_k (k n : Nat) (h : k < n) : inB (k : Int) n = true := by simp [inB]; omega
theorem wf_u8 {c : Int} (h : (Lit.int .u8 c).wf = true) : 0 ≤ c ∧ c ≤ 255 := by
 simp [Lit.wf, IntKind.min, IntKind.max, IntKind.signed, IntKind.bits] at h; omega
def sel {α : Type} (b : Bool) (x y : α) : α := match b with
 | true => x
 | false => y
theorem sel_t {α : Type} (x y : α) : sel true x y = x := rfl
def allN (p : Nat → Bool) : Nat → Nat → Bool
 | _, 0 => true
 | k, d + 1 => p k && allN p (k + 1) d
theorem allN_iff (p : Nat → Bool) : ∀ (d k : Nat), allN p k d = true ↔ ∀ j, k ≤ j → j < k + d → p j = true := by
 intro d
 induction d with
 | zero => intro k; simp only [allN, true_iff]; intro j h1 h2; omega
 | succ d ih =>
  intro k
  simp only [allN, Bool.and_eq_true, ih]
  constructor
  ·rintro ⟨h1, h2⟩ j h3 h4
   rcases Nat.eq_or_lt_of_le h3 with rfl | h5
   ·exact h1
   ·exact h2 j h5 (by omega)
  ·intro h
   exact ⟨h k (Nat.le_refl _) (by omega), fun j h1 h2 => h j (by omega) (by omega)⟩
def sumR (g : Nat → Int) (k d : Nat) : Int := ((List.range' k d).map g).sum
theorem sumR_succ (g : Nat → Int) (k : Nat) : sumR g 0 (k + 1) = sumR g 0 k + g k := by
 unfold sumR; rw [List.range'_concat]; simp
theorem sumR_zero (g : Nat → Int) (k : Nat) : sumR g k 0 = 0 := rfl
theorem sumR_nn {g : Nat → Int} {B : Int} : ∀ {N : Nat}, (∀ j, j < N → 0 ≤ g j ∧ g j ≤ B) → 0 ≤ sumR g 0 N ∧ sumR g 0 N ≤ B * N
 | 0, _ => by simp [sumR]
 | N + 1, h => by
  have h1 := sumR_nn (B := B) (N := N) fun j hj => h j (by omega)
  have h2 := h N (by omega)
  rw [sumR_succ, Int.natCast_add, Int.mul_add]
  simp; omega
theorem sumR_congr {g g' : Nat → Int} : ∀ {N : Nat}, (∀ j, j < N → g j = g' j) → sumR g 0 N = sumR g' 0 N
 | 0, _ => rfl
 | N + 1, h => by rw [sumR_succ, sumR_succ, sumR_congr fun j hj => h j (by omega), h N (by omega)]
theorem loop_map {α β : Type} {l : Nat → Nat → List β → Option α} {g : Nat → β} {R : List β → α} (N : Nat) (hend : ∀ acc, Ev (fun n => l (n + 1) N acc) (R acc))
 (hstep : ∀ k acc, k < N → acc.length = k → ∀ a, Ev (fun n => l n (k + 1) (acc ++ [g k])) a → Ev (fun n => l (n + 1) k acc) a) : Ev (fun n => l n 0 []) (R ((List.range' 0 N).map g)) := by
 have key : ∀ (d k : Nat), k + d = N → Ev (fun n => l n k ((List.range' 0 k).map g)) (R ((List.range' 0 N).map g)) := by
  intro d
  induction d with
  | zero => intro k hk; obtain rfl : k = N := by omega
            exact ev_succ (hend _)
  | succ d ih =>
   intro k hk
   have h1 := ih (k + 1) (by omega)
   rw [List.range'_concat] at h1
   simp only [List.map_append, List.map_cons, List.map_nil, Nat.zero_add, Nat.one_mul] at h1
   exact ev_succ (hstep k _ (by omega) (by simp) _ h1)
 exact key N 0 (by omega)
def firstN (p : Nat → Bool) : Nat → Nat → Option Nat
 | _, 0 => none
 | k, d + 1 => match p k with
  | true => some k
  | false => firstN p (k + 1) d
def selO {α : Type} (o : Option Nat) (A : α) (B : Nat → α) : α := match o with
 | some j => B j
 | none => A
theorem loop_first {α : Type} {l : Nat → Nat → Option α} {p : Nat → Bool} {A : α} {B : Nat → α} (N : Nat) (hend : Ev (fun n => l (n + 1) N) A)
 (hstep : ∀ k, k < N → p k = false → ∀ a, Ev (fun n => l n (k + 1)) a → Ev (fun n => l (n + 1) k) a) (hstop : ∀ k, k < N → p k = true → Ev (fun n => l (n + 1) k) (B k)) :
 ∀ (d k : Nat), k + d = N → Ev (fun n => l n k) (selO (firstN p k d) A B) := by
 intro d
 induction d with
 | zero => intro k hk; obtain rfl : k = N := by omega
           exact ev_succ hend
 | succ d ih =>
  intro k hk
  simp only [firstN]
  cases hp : p k with
  | false => exact ev_succ (hstep k (by omega) hp _ (ih (k + 1) (by omega)))
  | true => exact ev_succ (hstop k (by omega) hp)
theorem firstN_some {p : Nat → Bool} : ∀ {d k j : Nat}, firstN p k d = some j → k ≤ j ∧ j < k + d ∧ p j = true ∧ ∀ i, k ≤ i → i < j → p i = false
 | 0, k, j, h => by simp [firstN] at h
 | d + 1, k, j, h => by
  simp only [firstN] at h
  split at h
  ·rename_i hp
   simp only [Option.some.injEq] at h
   subst h
   exact ⟨Nat.le_refl _, by omega, hp, fun i h1 h2 => absurd h2 (by omega)⟩
  ·rename_i hp
   obtain ⟨h1, h2, h3, h4⟩ := firstN_some h
   refine ⟨by omega, by omega, h3, fun i h5 h6 => ?_⟩
   rcases Nat.eq_or_lt_of_le h5 with rfl | h7
   ·exact hp
   ·exact h4 i h7 h6
theorem firstN_none {p : Nat → Bool} : ∀ {d k : Nat}, firstN p k d = none → ∀ i, k ≤ i → i < k + d → p i = false
 | 0, k, _, i, h1, h2 => absurd h2 (by omega)
 | d + 1, k, h, i, h1, h2 => by
  simp only [firstN] at h
  split at h
  ·cases h
  ·rename_i hp
   rcases Nat.eq_or_lt_of_le h1 with rfl | h7
   ·exact hp
   ·exact firstN_none h i h7 (by omega)
theorem loop_all {α : Type} {l : Nat → Nat → Option α} {p : Nat → Bool} {A B : α} (N : Nat) (hend : Ev (fun n => l (n + 1) N) A)
 (hstep : ∀ k, k < N → p k = true → ∀ a, Ev (fun n => l n (k + 1)) a → Ev (fun n => l (n + 1) k) a) (hstop : ∀ k, k < N → p k = false → Ev (fun n => l (n + 1) k) B) :
 ∀ (d k : Nat), k + d = N → Ev (fun n => l n k) (sel (allN p k d) A B) := by
 intro d
 induction d with
 | zero => intro k hk; obtain rfl : k = N := by omega
           exact ev_succ hend
 | succ d ih =>
  intro k hk
  simp only [allN]
  cases hp : p k with
  | true => rw [Bool.true_and]; exact ev_succ (hstep k (by omega) hp _ (ih (k + 1) (by omega)))
  | false => rw [Bool.false_and]; exact ev_succ (hstop k (by omega) hp)
end Go.Proofs.YthdnamhilcjnhaaGreatDoor
