/- A range over an iterator: worlds re-based, rounds. -/
import Derived.Test.YthdnamhilcjnhaaGreatDoorRt0
namespace Go.Proofs.YthdnamhilcjnhaaGreatDoor
open Go Go.RowKit
set_option linter.unusedVariables false
set_option linter.unusedSimpArgs false
section
variable {E : Env} {P : Program} {keep : Nat → Prop} {w0 : World} {σ : Sg} {w : World} {st : St} {a : Act} {o : Oper} {v : V} {es : List (Nat × Ent)} {call : Nat → List V → Option V} {ent : Nat → Ent}
theorem EntR_keep2 {keep' : Nat → Prop} {id : Nat} (hk : ∀ b, (ent id).live = true → blk (σ id) = some b → ¬ keep' b) (h : EntR E ent σ w keep id) : EntR E ent σ w keep' id := by
 unfold EntR at h ⊢
 cases he : ent id with
 | none => trivial
 | tomb => trivial
 | box ps =>
  rw [he] at h hk
  obtain ⟨b, cs, e, h1, h2, h3⟩ := h
  exact ⟨b, cs, e, h1, hk b rfl (by rw [h1]; rfl), h3⟩
 | row e xs =>
  rw [he] at h hk
  obtain ⟨cells, h1, h2, h3⟩ := h
  exact ⟨cells, h1, h2, fun b hb => hk b rfl hb⟩
 | map ks vs =>
  rw [he] at h hk
  obtain ⟨b, es, clk, h1, h2, h3⟩ := h
  exact ⟨b, es, clk, h1, hk b rfl (by rw [h1]; rfl), h3⟩
theorem Inv.rebase {no no' keep' : Nat → Prop} {n : Nat} {W' : World} (hi : Inv E keep w0 no n none st σ a w) (hsz : w.heap.size ≤ W'.heap.size)
 (hL : ∀ b, b < w.heap.size → ¬ no b → W'.heap[b]? = w.heap[b]?) (hno : ∀ b, no' b → no b ∨ w.heap.size ≤ b) (hno2 : ∀ b, no' b → b < W'.heap.size)
 (hk : ∀ b, keep' b → b < W'.heap.size ∧ ∀ id, (st.ent id).live = true → blk (σ id) ≠ some b) : Inv E keep' W' no' n none st ⟨σ.val, no'⟩ a W' := by
 have own : ∀ id b, (st.ent id).live = true → blk (σ id) = some b → ¬ keep b ∧ b < w.heap.size ∧ ¬ no b := fun id b hl hb => by
  have h1 := EntR_blk (hi.hr.ents id) hl hb
  exact ⟨h1.1, h1.2, by have := hi.hr.nown id b hl hb; rwa [hi.no] at this⟩
 have own' : ∀ id b, (st.ent id).live = true → blk (σ id) = some b → ¬ no' b := fun id b hl hb h => by
  obtain ⟨h1, h2, h3⟩ := own id b hl hb
  rcases hno b h with h | h
  ·exact h3 h
  ·omega
 have hx : Tx st.ent σ w st.ent ⟨σ.val, no'⟩ W' := by
  refine ⟨fun _ h => h, fun id ps _ h => ⟨ps, h, rfl, rfl⟩, fun id e xs _ h => ⟨xs, h, rfl, fun i x hx => ⟨x, hx, rfl⟩, rfl⟩, fun id ks vs _ h => ⟨⟨ks, vs, h⟩, rfl⟩, fun b h => ?_⟩
  obtain ⟨h1, h2, h3⟩ := h
  rw [hi.no] at h3
  refine ⟨⟨by omega, h2, fun h4 => ?_⟩, hL b h1 h3⟩
  rcases hno b h4 with h | h
  ·exact h3 h
  ·omega
 refine ⟨⟨Kept.refl _ _, fun b hb => (hk b hb).1, fun id => ?_, own', fun b hb => hno2 b hb, hi.hr.dist⟩, fun t => RT_move hx _ _ (hi.fr t), hi.size, hi.defs, rfl, fun u h => by cases h⟩
 refine EntR_keep2 (keep := keep) (fun b hl hb hkb => ?_) (EntR_move hx rfl rfl (fun b hl hb => ?_) (hi.hr.ents id))
 ·exact (hk b hkb).2 id hl hb
 ·obtain ⟨h1, h2, h3⟩ := own id b hl hb
  exact hL b h2 h3
theorem Inv.unbase {no no' keep' : Nat → Prop} {n : Nat} {w1 : World} (hi : Inv E keep' w1 no' n none st σ a w) (hkept : Kept keep w0 w) (hk : ∀ b, keep b → keep' b ∧ b < w0.heap.size) (hno : ∀ b, no b → no' b ∧ b < w0.heap.size) : Inv E keep w0 no n none st ⟨σ.val, no⟩ a w := by
 have hx : Tx st.ent σ w st.ent ⟨σ.val, no⟩ w := by
  refine ⟨fun _ h => h, fun id ps _ h => ⟨ps, h, rfl, rfl⟩, fun id e xs _ h => ⟨xs, h, rfl, fun i x hx => ⟨x, hx, rfl⟩, rfl⟩, fun id ks vs _ h => ⟨⟨ks, vs, h⟩, rfl⟩, fun b h => ?_⟩
  obtain ⟨h1, h2, h3⟩ := h
  rw [hi.no] at h3
  exact ⟨⟨h1, h2, fun h4 => h3 (hno b h4).1⟩, rfl⟩
 refine ⟨⟨hkept, fun b hb => (hk b hb).2, fun id => ?_, fun id b hl hb h => ?_, fun b hb => (hno b hb).2, hi.hr.dist⟩, fun t => RT_move hx _ _ (hi.fr t), hi.size, hi.defs, rfl, fun u h => by cases h⟩
 ·exact EntR_keep (fun b hb => (hk b hb).1) (EntR_move hx rfl rfl (fun b hl hb => rfl) (hi.hr.ents id))
 ·have := hi.hr.nown id b hl hb
  rw [hi.no] at this
  exact this (hno b h).1
theorem find_clear (ds : List Nat) (t : Nat) : ∀ (l : List (Nat × V)), find (clearL ds l) t = if natMem t ds = true then none else find l t
 | [] => by simp [clearL, find]
 | (j, x) :: l => by
  have ih := find_clear ds t l
  simp only [clearL]
  cases hm : natMem j ds with
  | true =>
   simp only
   rw [ih]
   by_cases ht : natMem t ds = true
   ·rw [if_pos ht, if_pos ht]
   ·rw [if_neg ht, if_neg ht]
    simp only [find]
    cases hb : Nat.beq j t with
    | false => rfl
    | true => exact absurd (by rw [← Nat.eq_of_beq_eq_true hb]; exact hm) ht
  | false =>
   simp only [find]
   cases hb : Nat.beq j t with
   | true =>
    rw [if_neg (by rw [← Nat.eq_of_beq_eq_true hb, hm]; simp)]
   | false => simp only; rw [ih]
theorem Inv.clear {no : Nat → Prop} {n : Nat} (hi : Inv E keep w0 no n none st σ a w) {ds : List Nat} {a0 : Act} (hf : FrameL ds a0 a) (hs : a0.tmps.size = a.tmps.size) : Inv E keep w0 no n none ⟨clearL ds st.fr, st.hp⟩ σ { tmps := a0.tmps, defers := [] } w := by
 refine ⟨hi.hr, fun t => ?_, hs.trans hi.size, rfl, hi.no, fun u h => by cases h⟩
 have e : (St.get ⟨clearL ds st.fr, st.hp⟩ t) = if natMem t ds = true then .dead else st.get t := by
  unfold St.get
  simp only [find_clear]
  by_cases ht : natMem t ds = true
  ·rw [if_pos ht, if_pos ht]
  ·rw [if_neg ht, if_neg ht]
 rw [e]
 by_cases ht : natMem t ds = true
 ·rw [if_pos ht]; trivial
 ·rw [if_neg ht]
  have h1 := hi.fr t
  have h2 := hf t (by simpa using ht)
  rw [h2] at h1
  exact h1
end
end Go.Proofs.YthdnamhilcjnhaaGreatDoor
