/- A change of own blocks carried through; stores; new blocks. -/
import Derived.Test.YthdnamhilcjnhaaGreatDoorRs6
namespace Go.Proofs.YthdnamhilcjnhaaGreatDoor
open Go Go.RowKit
set_option linter.unusedVariables false
set_option linter.unusedSimpArgs false
section
variable {E : Env} {P : Program} {keep : Nat → Prop} {w0 : World} {σ : Sg} {w : World} {st : St} {a : Act} {o : Oper} {v : V} {es : List (Nat × Ent)} {call : Nat → List V → Option V} {ent : Nat → Ent}
theorem EntR_blk {id b : Nat} (h : EntR E ent σ w keep id) (hl : (ent id).live = true) (hb : blk (σ id) = some b) : ¬ keep b ∧ b < w.heap.size := by
 unfold EntR at h
 cases he : ent id with
 | none => simp [he, Ent.live] at hl
 | tomb => simp [he, Ent.live] at hl
 | box ps =>
  rw [he] at h
  obtain ⟨b', cs, e, h1, h2, h3, _⟩ := h
  rw [h1] at hb
  simp only [blk, Option.some.injEq] at hb
  subst hb
  exact ⟨h2, (Array.getElem?_eq_some_iff.1 h3).1⟩
 | row e xs =>
  rw [he] at h
  obtain ⟨cells, h1, h2, h3⟩ := h
  refine ⟨h3 b hb, ?_⟩
  rcases h1.2 with ⟨h4, _⟩ | ⟨g, cap, cur, h4, _, h6, _⟩
  ·rw [h4] at hb; simp [blk] at hb
  ·rw [h4] at hb
   simp only [blk, Option.some.injEq] at hb
   subst hb
   exact (Array.getElem?_eq_some_iff.1 h6).1
 | map ks vs =>
  rw [he] at h
  obtain ⟨b', ms, clk, h1, h2, h3, _⟩ := h
  rw [h1] at hb
  simp only [blk, Option.some.injEq] at hb
  subst hb
  exact ⟨h2, (Array.getElem?_eq_some_iff.1 h3).1⟩
theorem EntR_move {ent' : Nat → Ent} {σ' : Sg} {w' : World} (hx : Tx ent σ w ent' σ' w') {id : Nat} (he : ent' id = ent id) (hs : σ' id = σ id)
 (hb : ∀ b, (ent id).live = true → blk (σ id) = some b → w'.heap[b]? = w.heap[b]?) (h : EntR E ent σ w keep id) : EntR E ent' σ' w' keep id := by
 unfold EntR at h ⊢
 rw [he, hs]
 cases hc : ent id with
 | none => trivial
 | tomb => trivial
 | box ps =>
  rw [hc] at h hb
  obtain ⟨b, cs, e, h1, h2, h3, h4⟩ := h
  refine ⟨b, cs, e, h1, h2, ?_, ROL_move hx _ _ h4⟩
  rw [hb b rfl (by rw [h1]; rfl)]
  exact h3
 | row e xs =>
  rw [hc] at h hb
  obtain ⟨cells, h1, h2, h3⟩ := h
  refine ⟨cells, ⟨h1.1, ?_⟩, RRow_move hx.ok _ _ h2, h3⟩
  rcases h1.2 with h4 | ⟨g, cap, cur, h4, h5, h6, h7⟩
  ·exact .inl h4
  ·refine .inr ⟨g, cap, cur, h4, h5, ?_, h7⟩
   rw [hb g rfl (by rw [h4]; rfl)]
   exact h6
 | map ks vs =>
  rw [hc] at h hb
  obtain ⟨b, ms, clk, h1, h2, h3, h4, h5⟩ := h
  refine ⟨b, ms, clk, h1, h2, ?_, RFC_move hx.ok _ _ h4, RFC_move hx.ok _ _ h5⟩
  rw [hb b rfl (by rw [h1]; rfl)]
  exact h3
structure Chg (ent : Nat → Ent) (σ : Sg) (w : World) (es : List (Nat × Ent)) (σ' : Sg) (w' : World) : Prop where
 os : w'.os = w.os
 tape : w'.tape = w.tape
 output : w'.output = w.output
 size : w.heap.size ≤ w'.heap.size
 no : σ'.no = σ.no
 sig : ∀ id, find es id = none → σ' id = σ id
 blocks : ∀ k, k < w.heap.size → (∀ id e, find es id = some e → (ent id).live = true → blk (σ id) ≠ some k) → w'.heap[k]? = w.heap[k]?
 owned : ∀ id e b, find es id = some e → e.live = true → blk (σ' id) = some b → w.heap.size ≤ b ∨ ∃ j e', find es j = some e' ∧ (ent j).live = true ∧ blk (σ j) = some b
 dist : ∀ i j e e' b, i ≠ j → find es i = some e → find es j = some e' → e.live = true → e'.live = true → blk (σ' i) = some b → blk (σ' j) ≠ some b
 dom : ∀ id e, find es id = some e → e ≠ .none
 box : ∀ id ps', find es id = some (.box ps') → ent id ≠ .none → ∃ ps, ent id = .box ps ∧ shps ps = shps ps' ∧ σ' id = σ id
 row : ∀ id e xs', find es id = some (.row e xs') → ent id ≠ .none → ∃ xs, ent id = .row e xs ∧ xs'.length = xs.length ∧ (∀ i x', nth xs' i = some x' → ∃ x, nth xs i = some x ∧ shps (partsOf x) = shps (partsOf x')) ∧ σ' id = σ id
 map : ∀ id ks' vs', find es id = some (.map ks' vs') → ent id ≠ .none → (∃ ks vs, ent id = .map ks vs) ∧ σ' id = σ id
theorem updE_some {es : List (Nat × Ent)} {id : Nat} {e : Ent} (h : find es id = some e) : updE es ent id = e := by simp [updE, h]
theorem updE_none {es : List (Nat × Ent)} {id : Nat} (h : find es id = none) : updE es ent id = ent id := by simp [updE, h]
theorem Chg.tx (hr : HR E keep w0 ent σ w) {σ' : Sg} {w' : World} (hc : Chg ent σ w es σ' w') : Tx ent σ w (updE es ent) σ' w' := by
 refine ⟨?_, ?_, ?_, ?_, ?_⟩
 ·intro id h
  cases hf : find es id with
  | none => rw [updE_none hf]; exact h
  | some e => rw [updE_some hf]; exact hc.dom id e hf
 ·intro id ps' h1 h2
  cases hf : find es id with
  | none => rw [updE_none hf] at h2; exact ⟨ps', h2, rfl, hc.sig id hf⟩
  | some e => rw [updE_some hf] at h2; subst h2; exact hc.box id ps' hf h1
 ·intro id e xs' h1 h2
  cases hf : find es id with
  | none => rw [updE_none hf] at h2; exact ⟨xs', h2, rfl, fun i x hx => ⟨x, hx, rfl⟩, hc.sig id hf⟩
  | some e => rw [updE_some hf] at h2; subst h2; exact hc.row id _ xs' hf h1
 ·intro id ks vs h1 h2
  cases hf : find es id with
  | none => rw [updE_none hf] at h2; exact ⟨⟨ks, vs, h2⟩, hc.sig id hf⟩
  | some e => rw [updE_some hf] at h2; subst h2; exact hc.map id ks vs hf h1
 ·intro b ⟨h1, h2, h3⟩
  refine ⟨⟨Nat.lt_of_lt_of_le h1 hc.size, ?_, by rw [hc.no]; exact h3⟩, hc.blocks b h1 fun id e he hl => h2 id hl⟩
  intro id hl hb
  cases hf : find es id with
  | none => rw [updE_none hf] at hl; rw [hc.sig id hf] at hb; exact h2 id hl hb
  | some e =>
   rw [updE_some hf] at hl
   rcases hc.owned id e b hf hl hb with h | ⟨j, e', h4, h5, h6⟩
   ·omega
   ·exact h2 j h5 h6
theorem Chg.hr (hr : HR E keep w0 ent σ w) {σ' : Sg} {w' : World} (hc : Chg ent σ w es σ' w') (he : ∀ id e, find es id = some e → EntR E (updE es ent) σ' w' keep id) : HR E keep w0 (updE es ent) σ' w' := by
 have hx := hc.tx hr
 refine ⟨?_, hr.klt, ?_, ?_, ?_, ?_⟩
 ·refine hr.kept.trans ⟨hc.os, hc.tape, hc.output, hc.size, fun k hk => ?_⟩
  refine hc.blocks k (Nat.lt_of_lt_of_le (hr.klt k hk) hr.kept.size) fun id e h1 h2 h3 => ?_
  exact (EntR_blk (hr.ents id) h2 h3).1 hk
 ·intro id
  cases hf : find es id with
  | some e => exact he id e hf
  | none =>
   refine EntR_move hx (updE_none hf) (hc.sig id hf) (fun b h1 h2 => ?_) (hr.ents id)
   refine hc.blocks b (EntR_blk (hr.ents id) h1 h2).2 fun j e h3 h4 h5 => ?_
   refine hr.dist id j b (fun h => ?_) h1 h4 h2 h5
   subst h
   rw [hf] at h3; cases h3
 ·intro id b hl hb
  rw [hc.no]
  cases hf : find es id with
  | none => rw [updE_none hf] at hl; rw [hc.sig id hf] at hb; exact hr.nown id b hl hb
  | some e =>
   rw [updE_some hf] at hl
   rcases hc.owned id e b hf hl hb with h | ⟨j, e', h4, h5, h6⟩
   ·intro h7
    have := hr.nlt b h7
    have := hr.kept.size
    omega
   ·exact hr.nown j b h5 h6
 ·intro b; rw [hc.no]; exact hr.nlt b
 ·have one : ∀ i j e b, find es i = none → find es j = some e → (ent i).live = true → e.live = true → blk (σ i) = some b → blk (σ' j) ≠ some b := by
   intro i j e b hi hj h3 h4 h5 h6
   rcases hc.owned j e b hj h4 h6 with h | ⟨k, e', h7, h8, h9⟩
   ·have := (EntR_blk (hr.ents i) h3 h5).2
    omega
   ·refine hr.dist i k b (fun h => ?_) h3 h8 h5 h9
    subst h
    rw [hi] at h7; cases h7
  intro i j b hij h1 h2 h3 h4
  cases hi : find es i with
  | none =>
   rw [updE_none hi] at h1
   rw [hc.sig i hi] at h3
   cases hj : find es j with
   | none =>
    rw [updE_none hj] at h2
    rw [hc.sig j hj] at h4
    exact hr.dist i j b hij h1 h2 h3 h4
   | some e =>
    rw [updE_some hj] at h2
    exact one i j e b hi hj h1 h2 h3 h4
  | some e =>
   rw [updE_some hi] at h1
   cases hj : find es j with
   | none =>
    rw [updE_none hj] at h2
    rw [hc.sig j hj] at h4
    exact one j i e b hj hi h2 h1 h4 h3
   | some e' =>
    rw [updE_some hj] at h2
    exact hc.dist i j e e' b hij hi hj h1 h2 h3 h4
theorem find_one {α : Type} {id j : Nat} {e e' : α} (h : find [(id, e)] j = some e') : j = id ∧ e' = e := by
 simp only [find] at h
 split at h
 ·rename_i hb
  simp only [Option.some.injEq] at h
  exact ⟨(Nat.eq_of_beq_eq_true hb).symm, h.symm⟩
 ·cases h
theorem find_self {α : Type} {id : Nat} {e : α} {l : List (Nat × α)} : find ((id, e) :: l) id = some e := by simp [find]
theorem find_other {α : Type} {id j : Nat} {e : α} {l : List (Nat × α)} (h : j ≠ id) : find ((id, e) :: l) j = find l j := by
 have : Nat.beq id j = false := by
  cases hb : Nat.beq id j with
  | false => rfl
  | true => exact absurd (Nat.eq_of_beq_eq_true hb).symm h
 simp [find, this]
theorem Chg.write (hr : HR E keep w0 ent σ w) {id g : Nat} {e' : Ent} {w' : World} (hl : (ent id).live = true) (hg : blk (σ id) = some g) (hne : e' ≠ .none)
 (hos : w'.os = w.os) (ht : w'.tape = w.tape) (hout : w'.output = w.output) (hsz : w'.heap.size = w.heap.size) (hother : ∀ k, k ≠ g → w'.heap[k]? = w.heap[k]?)
 (hbox : ∀ ps', e' = .box ps' → ∃ ps, ent id = .box ps ∧ shps ps = shps ps')
 (hrow : ∀ e xs', e' = .row e xs' → ∃ xs, ent id = .row e xs ∧ xs'.length = xs.length ∧ (∀ i x', nth xs' i = some x' → ∃ x, nth xs i = some x ∧ shps (partsOf x) = shps (partsOf x')))
 (hmap : ∀ ks vs, e' = .map ks vs → ∃ ks vs, ent id = .map ks vs) : Chg ent σ w [(id, e')] σ w' := by
 refine ⟨hos, ht, hout, by omega, rfl, fun _ _ => rfl, ?_, ?_, ?_, ?_, ?_, ?_, ?_⟩
 ·intro k hk h
  exact hother k fun h' => h id e' find_self hl (by rw [h']; exact hg)
 ·intro j e b hj h1 h2
  obtain ⟨rfl, rfl⟩ := find_one hj
  exact .inr ⟨j, _, hj, hl, h2⟩
 ·intro i j e e2 b hij hi hj
  exact absurd ((find_one hi).1.trans (find_one hj).1.symm) hij
 ·intro j e hj
  obtain ⟨rfl, rfl⟩ := find_one hj
  exact hne
 ·intro j ps' hj _
  obtain ⟨rfl, h⟩ := find_one hj
  obtain ⟨ps, h1, h2⟩ := hbox ps' h.symm
  exact ⟨ps, h1, h2, rfl⟩
 ·intro j e xs' hj _
  obtain ⟨rfl, h⟩ := find_one hj
  obtain ⟨xs, h1, h2, h3⟩ := hrow e xs' h.symm
  exact ⟨xs, h1, h2, h3, rfl⟩
 ·intro j ks vs hj _
  obtain ⟨rfl, h⟩ := find_one hj
  exact ⟨hmap ks vs h.symm, rfl⟩
def Sg.set (σ : Sg) (id : Nat) (u : Value) : Sg := ⟨fun j => if j = id then u else σ j, σ.no⟩
theorem Sg.set_self (σ : Sg) (id : Nat) (u : Value) : (σ.set id u) id = u := by simp [Sg.set]
theorem Sg.set_other (σ : Sg) {id j : Nat} (u : Value) (h : j ≠ id) : (σ.set id u) j = σ j := by simp [Sg.set, h]
theorem Chg.new (hr : HR E keep w0 ent σ w) {id : Nat} {e' : Ent} {u : Value} {w' : World} (hn : ent id = .none) (hne : e' ≠ .none)
 (hos : w'.os = w.os) (ht : w'.tape = w.tape) (hout : w'.output = w.output) (hsz : w.heap.size ≤ w'.heap.size) (hold : ∀ k, k < w.heap.size → w'.heap[k]? = w.heap[k]?)
 (hu : ∀ b, blk u = some b → w.heap.size ≤ b) : Chg ent σ w [(id, e')] (σ.set id u) w' := by
 have hnone : ∀ j e, find [(id, e')] j = some e → ent j = .none := fun j e hj => by rw [(find_one hj).1]; exact hn
 refine ⟨hos, ht, hout, hsz, rfl, ?_, fun k hk _ => hold k hk, ?_, ?_, ?_, ?_, ?_, ?_⟩
 ·intro j hj
  refine Sg.set_other σ u fun h => ?_
  subst h
  rw [find_self] at hj; cases hj
 ·intro j e b hj h1 h2
  obtain ⟨rfl, rfl⟩ := find_one hj
  rw [Sg.set_self] at h2
  exact .inl (hu b h2)
 ·intro i j e e2 b hij hi hj
  exact absurd ((find_one hi).1.trans (find_one hj).1.symm) hij
 ·intro j e hj
  obtain ⟨rfl, rfl⟩ := find_one hj
  exact hne
 ·intro j ps' hj h
  exact absurd (hnone j _ hj) h
 ·intro j e xs' hj h
  exact absurd (hnone j _ hj) h
 ·intro j ks vs hj h
  exact absurd (hnone j _ hj) h
theorem Done.chg (hr : HR E keep w0 ent σ w) {r : Result Next} {nx : Next} {u : Value} {w' : World} {σ' : Sg} (h : r = .ok nx w') (hnx : nx = .value u ∨ (nx = .skip ∧ u = undef)) (hc : Chg ent σ w es σ' w')
 (he : Tx ent σ w (updE es ent) σ' w' → ∀ id e, find es id = some e → EntR E (updE es ent) σ' w' keep id) (hu : Tx ent σ w (updE es ent) σ' w' → RT E (updE es ent) σ' w' v u) : Done E keep w0 ent σ w r v es :=
 ⟨nx, u, w', σ', h, hnx, hc.hr hr (he (hc.tx hr)), hc.tx hr, hc.no, hu (hc.tx hr)⟩
theorem op_alloc (hE : EnvOk E P) (hr : HR E keep w0 st.ent σ w) (t : TypeId) (ho : o.op = .alloc t) (h : (stepOp E call o st).eval = some (v, es)) :
 Done E keep w0 st.ent σ w ((execOp a.eval o).run P w) v es := by
 simp only [stepOp, ho] at h
 split at h
 ·rename_i ty ht hn
  simp only [Tr.eval, Option.some.injEq, Prod.mk.injEq] at h
  obtain ⟨rfl, rfl⟩ := h
  obtain ⟨d, i, z, h1, h2, h3, h4, h5, h6, h7, h8, h9, h10, _⟩ := hE.ty t ty ht
  have hz : (zeroValue t).run P w = .ok z w := by simp [zeroValue, typeInfo, h3, h6]
  refine Done.chg hr (nx := .value (.pointer (some ⟨w.heap.size, 0, none⟩))) (u := .pointer (some ⟨w.heap.size, 0, none⟩)) (w' := w.alloc (.cells z.cells t)) ?_ (.inl rfl) (Chg.new hr (e' := .box ty.zero) (u := .pointer (some ⟨w.heap.size, 0, none⟩)) hn (by simp) rfl rfl rfl (by simp) (fun k hk => heap_alloc_old w _ hk) ?_) ?_ ?_
  ·simp [execOp, ho, Instr.alloc, hz, newVar, newRow]
  ·intro b hb
   simp only [blk, Option.some.injEq] at hb
   omega
  ·intro hx id e hf
   obtain ⟨rfl, rfl⟩ := find_one hf
   unfold EntR
   rw [updE_some hf]
   refine ⟨w.heap.size, z.cells, t, Sg.set_self _ _ _, ?_, heap_alloc_new w _, ROL_of_RFL _ _ (h8 _ _)⟩
   intro hk
   have := hr.klt _ hk
   have := hr.kept.size
   omega
  ·intro hx
   refine ⟨rfl, ?_⟩
   show RO1 E _ _ _ (.ptr _ 0 0 ty.size) _
   simp only [RO1]
   refine ⟨_, rfl, rfl, by rw [updE_some find_self]; simp, fun ps hps => ?_⟩
   rw [updE_some find_self] at hps
   cases hps
   refine ⟨w.heap.size, Sg.set_self _ _ _, by cases ty.zero <;> rfl, .inr ⟨rfl, ?_⟩⟩
   have := RFL_len (w := w) (ok := fun _ => True) _ _ (h8 _ _)
   have h11 : psize (dropN ty.zero 0) = psize ty.zero := by cases ty.zero <;> rfl
   rw [h11, ← this, ← h7]
   simp
 ·simp [Tr.eval] at h
theorem op_box (hE : EnvOk E P) (hr : HR E keep w0 st.ent σ w) (hf : FRel E st.ent σ w st a) (t : TypeId) (x : Operand) (ho : o.op = .box t x) (h : (stepOp E call o st).eval = some (v, es)) :
 Done E keep w0 st.ent σ w ((execOp a.eval o).run P w) v es := by
 have hx := ev_RT (E := E) hf t x
 simp only [stepOp, ho] at h
 split at h
 ·rename_i hn
  split at h
  ·rename_i hcap
   simp only [Tr.eval, Option.some.injEq, Prod.mk.injEq] at h
   obtain ⟨rfl, rfl⟩ := h
   have hsz := capOk_size hx hcap
   have hrol := RT_parts hx hsz.symm hcap
   refine Done.chg hr (nx := .value (.pointer (some ⟨w.heap.size, 0, none⟩))) (u := .pointer (some ⟨w.heap.size, 0, none⟩)) (w' := w.alloc (.cells (a.eval x).cells t)) ?_ (.inl rfl) (Chg.new hr (e' := .box (partsOf (st.ev E t x))) (u := .pointer (some ⟨w.heap.size, 0, none⟩)) hn (by simp) rfl rfl rfl (by simp) (fun k hk => heap_alloc_old w _ hk) ?_) ?_ ?_
   ·simp [execOp, ho, Instr.box, newVar, newRow]
   ·intro b hb
    simp only [blk, Option.some.injEq] at hb
    omega
   ·intro hx id e hf
    obtain ⟨rfl, rfl⟩ := find_one hf
    unfold EntR
    rw [updE_some hf]
    refine ⟨w.heap.size, _, t, Sg.set_self _ _ _, ?_, heap_alloc_new w _, ROL_move hx _ _ hrol⟩
    intro hk
    have := hr.klt _ hk
    have := hr.kept.size
    omega
   ·intro hx
    refine ⟨rfl, ?_⟩
    show RO1 E _ _ _ (.ptr _ 0 0 _) _
    simp only [RO1]
    refine ⟨_, rfl, rfl, by rw [updE_some find_self]; simp, fun ps hps => ?_⟩
    rw [updE_some find_self] at hps
    cases hps
    refine ⟨w.heap.size, Sg.set_self _ _ _, by cases partsOf (st.ev E t x) <;> rfl, .inr ⟨rfl, ?_⟩⟩
    have h11 : psize (dropN (partsOf (st.ev E t x)) 0) = psize (partsOf (st.ev E t x)) := by cases partsOf (st.ev E t x) <;> rfl
    rw [h11]
    exact Nat.le_refl _
  ·simp [Tr.eval] at h
 ·simp [Tr.eval] at h
theorem op_makeMap (hr : HR E keep w0 st.ent σ w) (t : TypeId) (ho : o.op = .makeMap t none) (h : (stepOp E call o st).eval = some (v, es)) :
 Done E keep w0 st.ent σ w ((execOp a.eval o).run P w) v es := by
 simp only [stepOp, ho] at h
 split at h
 ·rename_i hn
  simp only [Tr.eval, Option.some.injEq, Prod.mk.injEq] at h
  obtain ⟨rfl, rfl⟩ := h
  refine Done.chg hr (nx := .value (.map (some w.heap.size))) (u := .map (some w.heap.size)) (w' := w.alloc (.map #[] 0)) ?_ (.inl rfl) (Chg.new hr (e' := .map [] []) (u := .map (some w.heap.size)) hn (by simp) rfl rfl rfl (by simp) (fun k hk => heap_alloc_old w _ hk) ?_) ?_ ?_
  ·simp [execOp, ho, Instr.makeMap]
  ·intro b hb
   simp only [blk, Option.some.injEq] at hb
   omega
  ·intro hx id e hf
   obtain ⟨rfl, rfl⟩ := find_one hf
   unfold EntR
   rw [updE_some hf]
   refine ⟨w.heap.size, #[], 0, Sg.set_self _ _ _, ?_, heap_alloc_new w _, by simp [RFC], by simp [RFC]⟩
   intro hk
   have := hr.klt _ hk
   have := hr.kept.size
   omega
  ·intro hx
   refine ⟨rfl, ?_⟩
   show RO1 E _ _ _ (.mp _) _
   simp only [RO1]
   refine ⟨_, rfl, rfl, by rw [updE_some find_self]; simp, fun ks vs hps => (Sg.set_self _ _ _).symm⟩
 ·simp [Tr.eval] at h
end
end Go.Proofs.YthdnamhilcjnhaaGreatDoor
