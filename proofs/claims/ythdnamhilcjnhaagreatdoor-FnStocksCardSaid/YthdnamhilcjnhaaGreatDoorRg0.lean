/- Words for shallow embeddings: choices, checks, binds; and how each is undone. -/
import Derived.Test.YthdnamhilcjnhaaGreatDoorRv2
namespace Go.Proofs.YthdnamhilcjnhaaGreatDoor
open Go
set_option linter.unusedVariables false
def cnd {α : Type} (c : Bool) (a b : Option α) : Option α := match c with
 | true => a
 | false => b
def chk {α : Type} (c : Bool) (a : Option α) : Option α := match c with
 | true => a
 | false => none
def bnd {α β : Type} (x : Option α) (f : α → Option β) : Option β := match x with
 | some v => f v
 | none => none
theorem cnd_some {α : Type} {c : Bool} {a b : Option α} {r : α} (h : cnd c a b = some r) : (c = true ∧ a = some r) ∨ (c = false ∧ b = some r) := by
 cases c with
 | true => exact .inl ⟨rfl, h⟩
 | false => exact .inr ⟨rfl, h⟩
theorem chk_some {α : Type} {c : Bool} {a : Option α} {r : α} (h : chk c a = some r) : c = true ∧ a = some r := by
 cases c with
 | true => exact ⟨rfl, h⟩
 | false => cases h
theorem bnd_some {α β : Type} {x : Option α} {f : α → Option β} {r : β} (h : bnd x f = some r) : ∃ v, x = some v ∧ f v = some r := by
 cases x with
 | none => cases h
 | some v => exact ⟨v, rfl, h⟩
section
variable (E : Env)
def OwesF (f k : Nat) (args : List V) (cs : List Ch) (v : V) : Prop := match pFun E f k args cs with
 | some (v', [], os) => v' = v ∧ Owes os
 | _ => False
def OwesP (f k : Nat) (args : List V) (cs : List Ch) (v : V) : Prop := match pPu E f k args cs with
 | some (v', [], os) => v' = v ∧ Owes os
 | _ => False
def OwesB (f k : Nat) (args : List V) (cs : List Ch) (v : V) : Prop := match pBx E f k args cs with
 | some (v', [], os) => v' = v ∧ Owes os
 | _ => False
def OwesR (f k : Nat) (args : List V) (cs : List Ch) (v : V) : Prop := match pRu E f k args cs with
 | some (v', [], os) => v' = v ∧ Owes os
 | _ => False
def OwesN (f b k : Nat) (st : St) (cs : List Ch) (st' : St) : Prop := match pRound E f b k st cs with
 | some ((true, .normal, st1), [], os) => st1 = st' ∧ Owes os
 | _ => False
def OwesL (f b k : Nat) (st : St) (cs : List Ch) (e : Ex) (st' : St) : Prop := match pRound E f b k st cs with
 | some ((false, e1, st1), [], os) => (e1, st1) = (e, st') ∧ Owes os
 | _ => False
end
section
variable {E : Env}
theorem pFun_by {f k : Nat} {args : List V} (cs : List Ch) {v : V} {R : Prop} (hf : Nat.blt f muBase = true) (r : R) (h : OwesF E f k args cs v = (v = v ∧ R)) : sem E (k + 1) f args = some v := by
 have h1 : OwesF E f k args cs v := by rw [h]; exact ⟨rfl, r⟩
 unfold OwesF at h1
 split at h1
 ·rename_i v' os he
  obtain ⟨rfl, ho⟩ := h1
  exact pFun_sound cs hf he ho
 ·exact h1.elim
theorem pBx_by {f k : Nat} {args : List V} (cs : List Ch) {v : V} {R : Prop} (hf : Nat.blt (bxBase + f) muBase = false) (hg : Nat.blt (bxBase + f) puBase = true) (hm : Nat.blt (bxBase + f) mvBase = false) (hb : Nat.blt (bxBase + f) bxBase = false) (hr : Nat.blt (bxBase + f) ruBase = true) (r : R) (h : OwesB E f k args cs v = (v = v ∧ R)) : sem E (k + 1) (bxBase + f) args = some v := by
 have h1 : OwesB E f k args cs v := by rw [h]; exact ⟨rfl, r⟩
 unfold OwesB at h1
 split at h1
 ·rename_i v' os he
  obtain ⟨rfl, ho⟩ := h1
  exact pBx_sound cs hf hg hm hb hr he ho
 ·exact h1.elim
theorem pRu_by {f k : Nat} {args : List V} (cs : List Ch) {v : V} {R : Prop} (hf : Nat.blt (ruBase + f) muBase = false) (hg : Nat.blt (ruBase + f) puBase = true) (hm : Nat.blt (ruBase + f) mvBase = false) (hb : Nat.blt (ruBase + f) bxBase = false) (hr : Nat.blt (ruBase + f) ruBase = false) (r : R) (h : OwesR E f k args cs v = (v = v ∧ R)) : sem E (k + 1) (ruBase + f) args = some v := by
 have h1 : OwesR E f k args cs v := by rw [h]; exact ⟨rfl, r⟩
 unfold OwesR at h1
 split at h1
 ·rename_i v' os he
  obtain ⟨rfl, ho⟩ := h1
  exact pRu_sound cs hf hg hm hb hr he ho
 ·exact h1.elim
theorem pPu_by {f k : Nat} {args : List V} (cs : List Ch) {v : V} {R : Prop} (hf : Nat.blt (puBase + f) muBase = false) (hg : Nat.blt (puBase + f) puBase = false) (r : R) (h : OwesP E f k args cs v = (v = v ∧ R)) : sem E (k + 1) (puBase + f) args = some v := by
 have h1 : OwesP E f k args cs v := by rw [h]; exact ⟨rfl, r⟩
 unfold OwesP at h1
 split at h1
 ·rename_i v' os he
  obtain ⟨rfl, ho⟩ := h1
  exact pPu_sound cs hf hg he ho
 ·exact h1.elim
theorem pNext_by {f b k n : Nat} {st st' : St} (cs : List Ch) {x : Option (Ex × St)} {R : Prop} (r : R) (hn : LB E f b k n st' = x) (h : OwesN E f b k st cs st' = (st' = st' ∧ R)) : LB E f b k (n + 1) st = x := by
 have h1 : OwesN E f b k st cs st' := by rw [h]; exact ⟨rfl, r⟩
 unfold OwesN at h1
 split at h1
 ·rename_i st1 os he
  obtain ⟨rfl, ho⟩ := h1
  exact pNext cs he ho hn
 ·exact h1.elim
theorem pLast_by {f b k n : Nat} {st st' : St} {e : Ex} (cs : List Ch) {R : Prop} (r : R) (h : OwesL E f b k st cs e st' = ((e, st') = (e, st') ∧ R)) : LB E f b k (n + 1) st = some (e, st') := by
 have h1 : OwesL E f b k st cs e st' := by rw [h]; exact ⟨rfl, r⟩
 unfold OwesL at h1
 split at h1
 ·rename_i e1 st1 os he
  obtain ⟨he1, ho⟩ := h1
  simp only [Prod.mk.injEq] at he1
  obtain ⟨rfl, rfl⟩ := he1
  exact pLast cs he ho
 ·exact h1.elim
end
theorem not_t {b : Bool} (h : b = false) : (!b) = true := by rw [h]; rfl
theorem not_f {b : Bool} (h : b = true) : (!b) = false := by rw [h]; rfl
end Go.Proofs.YthdnamhilcjnhaaGreatDoor
