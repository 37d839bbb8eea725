/- Words for shallow embeddings: choices, checks, binds; and how each is undone. -/
import Derived.Test.YtbiolgckmfjfoaaRv2
namespace Go.Proofs.Ytbiolgckmfjfoaa
open Go
set_option linter.unusedVariables false

def cnd {α : Type} (c : Bool) (a b : Option α) : Option α := match c with
  | true => a
  | false => b
def chk {α : Type} (c : Bool) (a : Option α) : Option α := match c with
  | true => a
  | false => none
def bnd {α β : Type} (x : Option α) (f : α → Option β) : Option β := match x with
  | some v => f v
  | none => none
theorem cnd_some {α : Type} {c : Bool} {a b : Option α} {r : α} (h : cnd c a b = some r) : (c = true ∧ a = some r) ∨ (c = false ∧ b = some r) := by
  cases c with
  | true => exact .inl ⟨rfl, h⟩
  | false => exact .inr ⟨rfl, h⟩
theorem chk_some {α : Type} {c : Bool} {a : Option α} {r : α} (h : chk c a = some r) : c = true ∧ a = some r := by
  cases c with
  | true => exact ⟨rfl, h⟩
  | false => cases h
theorem bnd_some {α β : Type} {x : Option α} {f : α → Option β} {r : β} (h : bnd x f = some r) : ∃ v, x = some v ∧ f v = some r := by
  cases x with
  | none => cases h
  | some v => exact ⟨v, rfl, h⟩
theorem not_t {b : Bool} (h : b = false) : (!b) = true := by rw [h]; rfl
theorem not_f {b : Bool} (h : b = true) : (!b) = false := by rw [h]; rfl
end Go.Proofs.Ytbiolgckmfjfoaa
