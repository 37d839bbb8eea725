/- What an operation looks at. -/
import Derived.Test.YthdnamhilcjnhaaGreatDoorRs18
namespace Go.Proofs.YthdnamhilcjnhaaGreatDoor
open Go Go.RowKit
set_option linter.unusedVariables false
set_option linter.unusedSimpArgs false
section
variable {E : Env} {v : V} {es : List (Nat × Ent)} {call : Nat → List V → Option V} {s s' : St} {o : Oper}
theorem ev_congr {x : Operand} (h : ∀ t, x = .tmp t → s.get t = s'.get t) (t : Nat) : s'.ev E t x = s.ev E t x := by
 cases x with
 | tmp i => exact (h i rfl).symm
 | _ => rfl
theorem evs_congr {l : List Operand} (h : ∀ x, x ∈ l → ∀ t, s'.ev E t x = s.ev E t x) (t : Nat) : l.map (s'.ev E t) = l.map (s.ev E t) :=
 List.map_congr_left fun x hx => h x hx t
theorem ptrTo_congr {a : V} {K : List V → Nat → Nat → Nat → Tr} (h : ∀ i, i ∈ ids1 a → s'.ent i = s.ent i) : ptrTo s' a K = ptrTo s a K := by
 cases a <;> simp only [ptrTo] <;> first
  | rfl
  | rw [h _ (by simp [ids1])]
theorem lenV_congr {a : V} (h : ∀ i, i ∈ ids1 a → s'.ent i = s.ent i) : lenV s' a = lenV s a := by
 cases a <;> simp only [lenV] <;> first
  | rfl
  | rw [h _ (by simp [ids1])]
theorem rowE_congr {a : V} {e : Nat} (h : ∀ i, i ∈ ids1 a → s'.ent i = s.ent i) : rowE s' e a = rowE s e a := by
 cases a <;> simp only [rowE] <;> first
  | rfl
  | rw [h _ (by simp [ids1])]
theorem close1_congr {a : V} (h : ∀ i, i ∈ ids1 a → s'.ent i = s.ent i) : close1 s' a = close1 s a := by
 cases a with
 | clo f caps => rfl
 | _ => simp only [close1] <;> first
  | rfl
  | rw [h _ (by simp [ids1])]
theorem mapO_congr {α β : Type} {f g : α → Option β} : ∀ {l : List α}, (∀ x, x ∈ l → f x = g x) → mapO f l = mapO g l
 | [], _ => rfl
 | x :: l, h => by
  simp only [mapO]
  rw [h x (by simp), mapO_congr (l := l) fun y hy => h y (by simp [hy])]
theorem mem_idsL {i : Nat} : ∀ {l : List V} {x : V}, x ∈ l → i ∈ ids1 x → i ∈ idsL l
 | y :: l, x, hx, hi => by
  simp only [idsL, List.mem_append]
  rcases List.mem_cons.1 hx with rfl | hx
  ·exact .inl hi
  ·exact .inr (mem_idsL hx hi)
theorem mem_idsBL {i : Nat} : ∀ {l : List V} {x : V}, x ∈ l → i ∈ idsB s x → i ∈ idsBL s l
 | y :: l, x, hx, hi => by
  simp only [idsBL, List.mem_append]
  rcases List.mem_cons.1 hx with rfl | hx
  ·exact .inl hi
  ·exact .inr (mem_idsBL hx hi)
theorem mem_idsCL {i : Nat} : ∀ {l : List V} {x : V}, x ∈ l → i ∈ idsC s x → i ∈ idsCL s l
 | y :: l, x, hx, hi => by
  simp only [idsCL, List.mem_append]
  rcases List.mem_cons.1 hx with rfl | hx
  ·exact .inl hi
  ·exact .inr (mem_idsCL hx hi)
theorem closeP_congr {a : V} (h : ∀ i, i ∈ idsB s a → s'.ent i = s.ent i) : closeP s' a = closeP s a := by
 by_cases h1 : ∃ id pi rel ext, a = .ptr id pi rel ext
 ·obtain ⟨id, pi, rel, ext, rfl⟩ := h1
  simp only [closeP]
  have h0 : s'.ent id = s.ent id := h id (by simp only [idsB]; split <;> simp)
  rw [h0]
  cases hp : s.ent id with
  | box ps =>
   simp only
   rw [mapO_congr (g := close1 s) fun x hx => close1_congr fun i hi => h i (by simp only [idsB, hp]; exact List.mem_cons_of_mem _ (mem_idsL hx hi))]
  | _ => rfl
 ·by_cases h2 : ∃ ps, a = .parts ps
  ·obtain ⟨ps, rfl⟩ := h2
   simp only [closeP]
   rw [mapO_congr (g := close1 s) fun x hx => close1_congr fun i hi => h i (by simp only [idsB]; exact mem_idsL hx hi)]
  ·have h3 : ∀ s, closeP s a = close1 s a := by
    intro s
    cases a <;> first | rfl | exact absurd ⟨_, _, _, _, rfl⟩ h1 | exact absurd ⟨_, rfl⟩ h2
   have h4 : idsB s a = ids1 a := by cases a <;> first | rfl | exact absurd ⟨_, _, _, _, rfl⟩ h1 | exact absurd ⟨_, rfl⟩ h2
   rw [h3, h3]
   exact close1_congr (by rw [← h4]; exact h)
theorem close_congr {a : V} (h : ∀ i, i ∈ idsC s a → s'.ent i = s.ent i) : close s' a = close s a := by
 by_cases h1 : ∃ f caps, a = .clo f caps
 ·obtain ⟨f, caps, rfl⟩ := h1
  simp only [close]
  rw [mapO_congr (g := closeP s) fun x hx => closeP_congr fun i hi => h i (by simp only [idsC]; exact mem_idsBL hx hi)]
 ·have h3 : ∀ s, close s a = closeP s a := by
   intro s
   cases a <;> first | rfl | exact absurd ⟨_, _, rfl⟩ h1
  have h4 : idsC s a = idsB s a := by cases a <;> first | rfl | exact absurd ⟨_, _, rfl⟩ h1
  rw [h3, h3]
  exact closeP_congr (by rw [← h4]; exact h)
theorem freeAll_congr : ∀ {es : List (Nat × Ent)}, (∀ i, i ∈ es.map (·.1) → s'.ent i = s.ent i) → freeAll s' es = freeAll s es
 | [], _ => rfl
 | (i, x) :: es, h => by
  simp only [freeAll]
  rw [h i (by simp), freeAll_congr (es := es) fun j hj => h j (by simp only [List.map_cons, List.mem_cons]; exact .inr hj)]
theorem buildP_congr (fs : List (Nat × Nat)) : ∀ (gs : List (Nat × Operand)) (ps : List V), (∀ g, g ∈ gs → ∀ t, s'.ev E t g.2 = s.ev E t g.2) → buildP E s' fs gs ps = buildP E s fs gs ps
 | [], ps, _ => rfl
 | (i, x) :: gs, ps, h => by
  have h1 := h (i, x) (by simp)
  have h2 : ∀ ps, buildP E s' fs gs ps = buildP E s fs gs ps := fun ps => buildP_congr fs gs ps fun g hg => h g (by simp [hg])
  simp only [buildP, h1, h2]
theorem fill_congr (e : Nat) : ∀ (gs : List (Nat × Operand)) (i : Nat), (∀ g, g ∈ gs → ∀ t, s'.ev E t g.2 = s.ev E t g.2) → fillElems E s' e gs i = fillElems E s e gs i
 | [], i, _ => rfl
 | (j, x) :: gs, i, h => by
  have h1 := h (j, x) (by simp)
  have h2 : ∀ i, fillElems E s' e gs i = fillElems E s e gs i := fun i => fill_congr e gs i fun g hg => h g (by simp [hg])
  simp only [fillElems, h1, h2]
theorem rowAt_ids {i : Nat} : ∀ (ps : List V) (o o' : Nat), rowAt ps o = some (o', i) → i ∈ idsL ps
 | [], o, o', h => by simp [rowAt] at h
 | p :: ps, o, o', h => by
  simp only [idsL, List.mem_append]
  by_cases hpr : ∃ j, p = .row j
  ·obtain ⟨j, rfl⟩ := hpr
   simp only [rowAt] at h
   split at h
   ·simp only [Option.some.injEq, Prod.mk.injEq] at h
    left; simp [ids1, h.2]
   ·cases h
  ·right
   have : rowAt ps (o + vsize1 p) = some (o', i) := by
    cases p <;> first
     | (simp only [rowAt] at h; split at h; · exact h
        ·cases h)
     | exact absurd ⟨_, rfl⟩ hpr
   exact rowAt_ids ps _ _ this
theorem rowIn_ids {st : St} {v : V} {o i : Nat} (h : rowIn v = some (o, i)) : i ∈ idsC st v := by
 unfold rowIn at h
 have := rowAt_ids _ _ _ h
 cases v <;> first
  | (simp only [partsOf, idsL, List.append_nil] at this; simp only [idsC, idsB]; exact this)
  | (simp [partsOf, rowAt, plainO] at h; done)
theorem nth_mem {α : Type} : ∀ {l : List α} {p : Nat} {x : α}, nth l p = some x → x ∈ l
 | [], p, x, h => by cases p <;> simp [nth] at h
 | y :: l, 0, x, h => by simp only [nth, Option.some.injEq] at h; subst h; exact List.mem_cons_self
 | y :: l, p + 1, x, h => by simp only [nth] at h; exact List.mem_cons_of_mem _ (nth_mem h)
theorem dropAt_mem {α : Type} : ∀ {l : List α} {p : Nat} {x : α}, x ∈ dropAt l p → x ∈ l
 | [], p, x, h => by cases p <;> simp [dropAt] at h
 | y :: l, 0, x, h => by simp only [dropAt] at h; exact List.mem_cons_of_mem _ h
 | y :: l, p + 1, x, h => by
  simp only [dropAt] at h
  rcases List.mem_cons.1 h with h | h
  ·subst h; exact List.mem_cons_self
  ·exact List.mem_cons_of_mem _ (dropAt_mem h)
theorem idsB_bury {st : St} {i j : Nat} {v : V} (h : j ∈ idsB (st.bury i) v) : j ∈ idsB st v := by
 cases v with
 | ptr id pi rel ext =>
  simp only [idsB, ent_bury] at h ⊢
  by_cases hi : id = i
  ·rw [if_pos hi] at h
   simp only [List.mem_singleton] at h
   subst h
   split <;> simp
  ·rw [if_neg hi] at h
   exact h
 | _ => exact h
theorem idsBL_bury {st : St} {i j : Nat} : ∀ {vs : List V}, j ∈ idsBL (st.bury i) vs → j ∈ idsBL st vs
 | [], h => h
 | v :: vs, h => by
  simp only [idsBL, List.mem_append] at h ⊢
  exact h.imp idsB_bury idsBL_bury
theorem idsC_bury {st : St} {i j : Nat} {v : V} (h : j ∈ idsC (st.bury i) v) : j ∈ idsC st v := by
 cases v with
 | clo f caps => exact idsBL_bury h
 | _ => (simp only [idsC] at h ⊢; exact idsB_bury h)
theorem stepOp_congr (h : (stepOp E call o s).eval = some (v, es)) (ht : ∀ t, .tmp t ∈ o.op.operands.toList → s.get t = s'.get t)
 (hi : ∀ i, i ∈ reads E o s → s'.ent i = s.ent i) (hw : ∀ i, i ∈ es.map (·.1) → s'.ent i = s.ent i) : (stepOp E call o s').eval = some (v, es) := by
 have hev : ∀ x, x ∈ o.op.operands.toList → ∀ t, s'.ev E t x = s.ev E t x := fun x hx t => ev_congr (fun i hxi => ht i (by rw [← hxi]; exact hx)) t
 unfold reads at hi
 cases ho : o.op with
 | move x =>
  have e1 := hev x (by simp [ho, Op.operands])
  simp only [stepOp, ho, e1] at h ⊢; exact h
 | assign x =>
  have e1 := hev x (by simp [ho, Op.operands])
  simp only [stepOp, ho, e1] at h ⊢; exact h
 | pick c x y =>
  have e1 := hev c (by simp [ho, Op.operands])
  have e2 := hev x (by simp [ho, Op.operands])
  have e3 := hev y (by simp [ho, Op.operands])
  simp only [stepOp, ho, e1, e2, e3] at h ⊢; exact h
 | alloc t =>
  have key : ownId o ∈ es.map (·.1) := by
   simp only [stepOp, ho] at h
   split at h
   ·simp only [Tr.eval, Option.some.injEq, Prod.mk.injEq] at h; obtain ⟨_, rfl⟩ := h; simp
   ·simp [Tr.eval] at h
  simp only [stepOp, ho, hw _ key] at h ⊢; exact h
 | box t x =>
  have e1 := hev x (by simp [ho, Op.operands])
  have key : ownId o ∈ es.map (·.1) := by
   simp only [stepOp, ho] at h
   split at h
   ·split at h
    ·simp only [Tr.eval, Option.some.injEq, Prod.mk.injEq] at h; obtain ⟨_, rfl⟩ := h; simp
    ·simp [Tr.eval] at h
   ·simp [Tr.eval] at h
  simp only [stepOp, ho, e1, hw _ key] at h ⊢; exact h
 | build t gs =>
  have e1 := fun fs ps => buildP_congr (E := E) (s := s) (s' := s') fs gs.toList ps fun g hg => hev g.2 (by simp only [ho, Op.operands, List.toList_toArray]; exact List.mem_map.2 ⟨g, hg, rfl⟩)
  simp only [stepOp, ho, e1] at h ⊢; exact h
 | buildSlice t n gs =>
  have e1 := fun e i => fill_congr (E := E) (s := s) (s' := s') e gs.toList i fun g hg => hev g.2 (by simp only [ho, Op.operands, List.toList_toArray]; exact List.mem_map.2 ⟨g, hg, rfl⟩)
  have e0 : frzOf E s' t n gs.toList = frzOf E s t n gs.toList := by
   have h1 : ∀ e, frz1 E s' e n gs.toList = frz1 E s e n gs.toList := by
    intro e
    unfold frz1
    cases hg : gs.toList with
    | nil => rfl
    | cons g l =>
     obtain ⟨j, x⟩ := g
     cases l with
     | cons _ _ => rfl
     | nil =>
      have h2 := hev x (by simp only [ho, Op.operands, List.toList_toArray]; exact List.mem_map.2 ⟨(j, x), by rw [hg]; simp, rfl⟩) e
      simp only [h2]
   unfold frzOf
   simp only [h1]
  cases hfz : frzOf E s t n gs.toList with
  | some q =>
   obtain ⟨e, i⟩ := q
   simp only [stepOp, ho, e0, hfz] at h ⊢
   split at h
   ·rename_i e2 xs hp hn
    simp only [Tr.eval, Option.some.injEq, Prod.mk.injEq] at h
    have k1 : s'.ent (ownId o) = s.ent (ownId o) := hw _ (by rw [← h.2]; simp)
    have k2 : s'.ent i = s.ent i := hw _ (by rw [← h.2]; simp)
    rw [k1, k2, hp, hn]
    simp only [Tr.eval, Option.some.injEq, Prod.mk.injEq]
    exact h
   ·simp [Tr.eval] at h
  | none =>
   have key : ownId o ∈ es.map (·.1) := by
    simp only [stepOp, ho, hfz] at h
    split at h
    ·split at h
     ·split at h
      ·split at h
       ·simp only [Tr.eval, Option.some.injEq, Prod.mk.injEq] at h; obtain ⟨_, rfl⟩ := h; simp
       ·simp [Tr.eval] at h
      ·simp [Tr.eval] at h
     ·simp [Tr.eval] at h
    ·simp [Tr.eval] at h
   simp only [stepOp, ho, e0, hfz, e1, hw _ key] at h ⊢; exact h
 | load t x =>
  have e1 := hev x (by simp [ho, Op.operands])
  simp only [ho] at hi
  have e2 := fun K => ptrTo_congr (K := K) hi
  simp only [stepOp, ho, e1, e2] at h ⊢; exact h
 | store t x y =>
  have e1 := hev x (by simp [ho, Op.operands])
  have e2 := hev y (by simp [ho, Op.operands])
  simp only [ho] at hi
  simp only [stepOp, ho, e1, e2] at h ⊢
  cases hx : s.ev E 0 x with
  | ptr i pi rel ext => rw [hx] at hi h; simp only [hi i (by simp [ids1])] at h ⊢; exact h
  | elem i j pi rel ext => rw [hx] at hi h; simp only [hi i (by simp [ids1])] at h ⊢; exact h
  | _ => rw [hx] at h; exact h
 | nilCheck x =>
  have e1 := hev x (by simp [ho, Op.operands])
  simp only [ho] at hi
  simp only [stepOp, ho, e1] at h ⊢
  cases hx : s.ev E 0 x with
  | ptr i pi rel ext => rw [hx] at hi h; simp only [hi i (by simp [ids1])] at h ⊢; exact h
  | _ => rw [hx] at h; exact h
 | binOp op t x y yt =>
  have e1 := hev x (by simp [ho, Op.operands])
  have e2 := hev y (by simp [ho, Op.operands])
  simp only [stepOp, ho, e1, e2] at h ⊢; exact h
 | unOp op t x =>
  have e1 := hev x (by simp [ho, Op.operands])
  simp only [stepOp, ho, e1] at h ⊢; exact h
 | convert s1 t x =>
  have e1 := hev x (by simp [ho, Op.operands])
  simp only [stepOp, ho, e1] at h ⊢; exact h
 | fieldAddr s1 x i =>
  have e1 := hev x (by simp [ho, Op.operands])
  simp only [ho] at hi
  have e2 := fun K => ptrTo_congr (K := K) hi
  simp only [stepOp, ho, e1, e2] at h ⊢; exact h
 | field t x i =>
  have e1 := hev x (by simp [ho, Op.operands])
  simp only [stepOp, ho, e1] at h ⊢; exact h
 | indexAddr t x i =>
  have e1 := hev x (by simp [ho, Op.operands])
  have e2 := hev i (by simp [ho, Op.operands])
  simp only [ho] at hi
  have e3 := fun K => ptrTo_congr (K := K) hi
  have e4 : ∀ e sz n, sliceIdx s' e sz (s.ev E 0 x) n = sliceIdx s e sz (s.ev E 0 x) n := by
   intro e sz n
   cases hx : s.ev E 0 x <;> simp only [sliceIdx]
   rw [hx] at hi
   rw [hi _ (by simp [ids1])]
  simp only [stepOp, ho, e1, e2, e3, e4] at h ⊢; exact h
 | index t x i =>
  have e1 := hev x (by simp [ho, Op.operands])
  have e2 := hev i (by simp [ho, Op.operands])
  simp only [stepOp, ho, e1, e2] at h ⊢; exact h
 | extract x i =>
  have e1 := hev x (by simp [ho, Op.operands])
  simp only [stepOp, ho, e1] at h ⊢; exact h
 | makeFunc f first caps =>
  have e0 := evs_congr (E := E) (s := s) (s' := s') (l := first.toList) (fun x hx => hev x (by simp [ho, Op.operands]; left; simpa using hx)) 0
  have e1 := evs_congr (E := E) (s := s) (s' := s') (l := caps.toList) (fun x hx => hev x (by simp [ho, Op.operands]; right; simpa using hx)) 0
  cases f with
  | func f => simp only [stepOp, ho, e0, e1] at h ⊢; exact h
  | _ => simp [stepOp, ho, Tr.eval] at h
 | slice t x lo hi' mx =>
  have e1 := hev x (by simp [ho, Op.operands])
  have e2 : ∀ y, hi' = some y → ∀ t, s'.ev E t y = s.ev E t y := fun y hy => hev y (by simp [ho, Op.operands, hy])
  simp only [ho] at hi
  simp only [stepOp, ho, e1] at h ⊢
  cases hx : s.ev E 0 x with
  | ptr i pi rel ext =>
   rw [hx] at hi h
   simp only [hi i (by simp [ids1])] at h ⊢
   cases hi' with
   | none => exact h
   | some y => simp only [e2 y rfl, sliceRow] at h ⊢; exact h
  | str s0 =>
   rw [hx] at h
   have e5 : ∀ y, lo = some y → ∀ t, s'.ev E t y = s.ev E t y := fun y hy => hev y (by simp [ho, Op.operands, hy])
   have key : strSl E s' t s0 lo hi' mx = strSl E s t s0 lo hi' mx := by
    cases lo with
    | none =>
     cases hi' with
     | none => rfl
     | some y => simp only [strSl, e2 y rfl]
    | some l =>
     cases hi' with
     | none => simp only [strSl, e5 l rfl]
     | some y => simp only [strSl, e2 y rfl, e5 l rfl]
   simp only [key] at h ⊢
   exact h
  | ref ps pi rel ext =>
   rw [hx] at h
   cases hi' with
   | none => exact h
   | some y => simp only [e2 y rfl, sliceRow] at h ⊢; exact h
  | nils =>
   rw [hx] at h
   cases hi' with
   | none => exact h
   | some y => simp only [e2 y rfl, sliceRow] at h ⊢; exact h
  | row i =>
   rw [hx] at hi h
   have e3 := hi i (by simp [ids1])
   cases hi' with
   | none => exact h
   | some y =>
    have key : ownId o ∈ es.map (·.1) := by
     unfold sliceRow at h
     dsimp only at h
     repeat' split at h
     all_goals first
      | (simp [Tr.eval] at h; done)
      | (simp only [Tr.eval] at h
         split at h
         ·simp only [Option.some.injEq, Prod.mk.injEq] at h; obtain ⟨_, rfl⟩ := h; simp
         ·cases h)
    simp only [e2 y rfl, sliceRow, e3, hw _ key] at h ⊢
    exact h
  | _ => rw [hx] at h; cases hi' with
   | none => exact h
   | some y => simp only [e2 y rfl, sliceRow] at h ⊢; exact h
 | makeSlice t l c =>
  have e1 := hev l (by simp [ho, Op.operands])
  have e2 := hev c (by simp [ho, Op.operands])
  have key : ownId o ∈ es.map (·.1) := by
   simp only [stepOp, ho] at h
   split at h
   ·split at h
    ·split at h
     ·split at h
      ·simp only [Tr.eval] at h
       split at h
       ·simp only [Option.some.injEq, Prod.mk.injEq] at h; obtain ⟨_, rfl⟩ := h; simp
       ·cases h
      ·simp [Tr.eval] at h
     ·simp [Tr.eval] at h
    ·simp [Tr.eval] at h
   ·simp [Tr.eval] at h
  simp only [stepOp, ho, e1, e2, hw _ key] at h ⊢; exact h
 | makeMap t r =>
  cases r with
  | none =>
   have key : ownId o ∈ es.map (·.1) := by
    simp only [stepOp, ho] at h
    split at h
    ·simp only [Tr.eval, Option.some.injEq, Prod.mk.injEq] at h; obtain ⟨_, rfl⟩ := h; simp
    ·simp [Tr.eval] at h
   simp only [stepOp, ho, hw _ key] at h ⊢; exact h
  | some r => simp [stepOp, ho, Tr.eval] at h
 | lookup t m k c =>
  have e1 := hev m (by simp [ho, Op.operands])
  have e2 := hev k (by simp [ho, Op.operands])
  simp only [ho] at hi
  simp only [stepOp, ho, e1, e2] at h ⊢
  cases hx : s.ev E 0 m with
  | mp i => rw [hx] at hi h; simp only [hi i (by simp [ids1])] at h ⊢; exact h
  | _ => rw [hx] at h; exact h
 | mapUpdate t m k x =>
  have e1 := hev m (by simp [ho, Op.operands])
  have e2 := hev k (by simp [ho, Op.operands])
  have e3 := hev x (by simp [ho, Op.operands])
  simp only [ho] at hi
  simp only [stepOp, ho, e1, e2, e3] at h ⊢
  cases hty : E.ty t with
  | none => rw [hty] at h; simp [Tr.eval] at h
  | some ty =>
   rw [hty] at h
   cases hx : s.ev E 0 m with
   | mp i => rw [hx] at hi h; simp only [hi i (by simp [ids1])] at h ⊢; exact h
   | _ => rw [hx] at h; simp [Tr.eval] at h
 | call c =>
  have hargs : ∀ x, x ∈ c.args.toList → ∀ t, s'.ev E t x = s.ev E t x := fun x hx => hev x (by
   simp only [ho, Op.operands, Call.operands]
   cases hc : c.callee <;> simp <;> first | (exact .inr (by simpa using hx)) | (simpa using hx))
  have e1 := evs_congr (E := E) (s := s) (s' := s') hargs 0
  simp only [ho] at hi
  cases hc : c.callee with
  | builtin b =>
   simp only [hc] at hi
   cases b with
   | len =>
    simp only [stepOp, ho, hc] at h ⊢
    cases ha : c.args.toList with
    | nil => rw [ha] at h; simp [Tr.eval] at h
    | cons x l =>
     cases l with
     | cons _ _ => rw [ha] at h; simp [Tr.eval] at h
     | nil =>
      rw [ha] at h hi hargs
      have e2 := hargs x (by simp)
      have e3 := lenV_congr (s := s) (s' := s') (a := s.ev E 0 x) fun i h => hi i (by simp [idsL, h])
      cases hta : c.argTypes.toList with
      | nil => rw [hta] at h; simp [Tr.eval] at h
      | cons t l =>
       cases l with
       | cons _ _ => rw [hta] at h; simp [Tr.eval] at h
       | nil => rw [hta] at h; simp only [e2, e3] at h ⊢; exact h
   | max =>
    simp only [stepOp, ho, hc] at h ⊢
    split at h
    ·rename_i x y ha
     rw [ha] at hargs
     have e2 := hargs x (by simp)
     have e3 := hargs y (by simp)
     simp only [e2, e3] at h ⊢; exact h
    ·simp [Tr.eval] at h
   | min =>
    simp only [stepOp, ho, hc] at h ⊢
    split at h
    ·rename_i x y ha
     rw [ha] at hargs
     have e2 := hargs x (by simp)
     have e3 := hargs y (by simp)
     simp only [e2, e3] at h ⊢; exact h
    ·simp [Tr.eval] at h
   | append =>
    simp only [stepOp, ho, hc] at h ⊢
    split at h
    ·rename_i x y t t' ha hta
     rw [ha] at hi hargs
     have e2 := hargs x (by simp)
     have e3 := hargs y (by simp)
     have e4 := fun e => rowE_congr (s := s) (s' := s') (e := e) (a := s.ev E 0 x) fun i h => hi i (by simp [idsL, h])
     have e5 := fun e => rowE_congr (s := s) (s' := s') (e := e) (a := s.ev E 0 y) fun i h => hi i (by simp [idsL, h])
     have key : ownId o ∈ es.map (·.1) := by
      split at h
      ·split at h
       ·split at h
        ·split at h
         ·simp only [Tr.eval] at h
          split at h
          ·split at h
           ·split at h
            ·simp only [Tr.eval, Option.some.injEq, Prod.mk.injEq] at h; obtain ⟨_, rfl⟩ := h; simp
            ·simp only [Tr.eval, Option.some.injEq, Prod.mk.injEq] at h; obtain ⟨_, rfl⟩ := h; simp
            ·simp [Tr.eval] at h
           ·cases h
          ·cases h
         ·simp [Tr.eval] at h
        ·simp [Tr.eval] at h
       ·simp [Tr.eval] at h
      ·unfold appMk at h
       repeat' split at h
       all_goals first
        | (simp [Tr.eval] at h; done)
        | (simp only [Tr.eval] at h
           split at h
           ·simp only [Option.some.injEq, Prod.mk.injEq] at h; obtain ⟨_, rfl⟩ := h; simp
           ·cases h)
      ·simp [Tr.eval] at h
     simp only [e2, e3, e4, e5, hw _ key] at h ⊢; exact h
    ·simp [Tr.eval] at h
   | cap =>
    simp only [stepOp, ho, hc] at h ⊢
    split at h
    ·rename_i x t ha hta
     rw [ha] at hargs
     have e2 := hargs x (by simp)
     simp only [e2] at h ⊢; exact h
    ·simp [Tr.eval] at h
   | _ => simp [stepOp, ho, hc, Tr.eval] at h
  | value x =>
   simp only [hc] at hi
   have e2 := hev x (by simp [ho, Op.operands, Call.operands, hc])
   simp only [stepOp, ho, hc, e1, e2] at h ⊢
   cases hx : s.ev E 0 x with
   | clo g caps =>
    rw [hx] at h hi
    dsimp only at h hi ⊢
    cases hk : callKind E (gOf g caps) with
    | none => rw [hk] at h; simp [Tr.eval] at h
    | some kd =>
    rw [hk] at h
    cases kd with
    | pu p =>
     try dsimp only at h ⊢
     cases caps with
     | cons _ _ => simp [Tr.eval] at h
     | nil =>
      try dsimp only at h ⊢
      cases hn : nth (c.args.toList.map (s.ev E 0)) p with
      | none => rw [hn] at h; simp [Tr.eval] at h
      | some y =>
       rw [hn] at h
       cases y with
       | ptr i pi rel ext =>
        dsimp only at h ⊢
        have hmem : i ∈ idsCL s (c.args.toList.map (s.ev E 0)) := by
         refine mem_idsCL (x := .ptr i pi rel ext) (nth_mem hn) ?_
         simp only [idsC, idsB]
         split <;> simp
        have e7 : s'.ent i = s.ent i := hi i (List.mem_append.2 (.inr hmem))
        rw [e7]
        have e8 : mapO (close (s'.bury i)) (dropAt (c.args.toList.map (s.ev E 0)) p) = mapO (close (s.bury i)) (dropAt (c.args.toList.map (s.ev E 0)) p) := by
         refine mapO_congr fun y hy => close_congr fun j hj => ?_
         have hy' := dropAt_mem hy
         have hj' := idsC_bury hj
         rw [ent_bury, ent_bury]
         by_cases hji : j = i
         ·rw [if_pos hji, if_pos hji]
         ·rw [if_neg hji, if_neg hji]
          exact hi j (List.mem_append.2 (.inr (mem_idsCL hy' hj')))
        rw [e8]
        split at h
        ·rename_i ps hb1 hz1 hz2
         cases hm : mapO (close (s.bury i)) (dropAt (c.args.toList.map (s.ev E 0)) p) with
         | none => rw [hm] at h; simp [Tr.eval] at h
         | some l =>
          rw [hm] at h
          dsimp only at h ⊢
          unfold Tr.eval at h ⊢
          cases hr : call (puBase + g) (insAt (.ref ps 0 0 ext) l p) with
          | none => rw [hr] at h; simp at h
          | some r =>
           rw [hr] at h
           dsimp only at h ⊢
           cases hp : puRes r with
           | none => rw [hp] at h; simp [Tr.eval] at h
           | some xp =>
            obtain ⟨x, ps'⟩ := xp
            rw [hp] at h
            dsimp only at h ⊢
            cases hfi : puFine ps ps' (allB forV (dropAt (c.args.toList.map (s.ev E 0)) p)) with
            | false => rw [hfi] at h; simp [Tr.eval] at h
            | true =>
             rw [hfi] at h
             dsimp only at h ⊢
             have key : es = (i, .box ps') :: (recv x (ownId o)).2 := by
              split at h
              ·split at h
               ·simp only [Tr.eval, Option.some.injEq, Prod.mk.injEq] at h; exact h.2.symm
               ·simp only [Tr.eval] at h
                split at h
                ·simp only [Option.some.injEq, Prod.mk.injEq] at h; exact h.2.symm
                ·cases h
              ·simp [Tr.eval] at h
             have e4 := freeAll_congr (s := s) (s' := s') (es := (recv x (ownId o)).2) (fun j hj => hw j (by rw [key]; simp only [List.map_cons, List.mem_cons]; exact .inr hj))
             rw [e4]; exact h
        ·simp [Tr.eval] at h
       | _ => simp [Tr.eval] at h
    | mv p =>
     try dsimp only at h ⊢
     cases caps with
     | cons _ _ => simp [Tr.eval] at h
     | nil =>
      try dsimp only at h ⊢
      have em : ∀ q, mvArg E s (c.args.toList.map (s.ev E 0)) c.argTypes.toList p = some q → ∃ stB, mvArg E s' (c.args.toList.map (s.ev E 0)) c.argTypes.toList p = some (q.1, q.2.1, q.2.2.1, stB) ∧ mapO (close stB) (dropAt (c.args.toList.map (s.ev E 0)) p) = mapO (close q.2.2.2) (dropAt (c.args.toList.map (s.ev E 0)) p) := by
       rintro ⟨e, xs, tb, stB⟩ hq
       have hq0 := hq
       unfold mvArg at hq ⊢
       split at hq
       ·rename_i i hn
        have hmem : i ∈ idsCL s (c.args.toList.map (s.ev E 0)) := mem_idsCL (x := .row i) (nth_mem hn) (by simp [idsC, idsB, ids1])
        have e7 : s'.ent i = s.ent i := hi i (List.mem_append.2 (.inr hmem))
        rw [e7]
        split at hq
        ·rename_i e1 x1 hi1
         simp only [Option.some.injEq, Prod.mk.injEq] at hq
         obtain ⟨rfl, rfl, rfl, rfl⟩ := hq
         refine ⟨s'.bury i, rfl, ?_⟩
         refine mapO_congr fun y hy => close_congr fun j hj => ?_
         have hy' := dropAt_mem hy
         have hj' := idsC_bury hj
         rw [ent_bury, ent_bury]
         by_cases hji : j = i
         ·rw [if_pos hji, if_pos hji]
         ·rw [if_neg hji, if_neg hji]
          exact hi j (List.mem_append.2 (.inr (mem_idsCL hy' hj')))
        ·cases hq
       ·split at hq
        ·split at hq
         ·split at hq
          ·simp only [Option.some.injEq, Prod.mk.injEq] at hq
           obtain ⟨rfl, rfl, rfl, rfl⟩ := hq
           refine ⟨s', rfl, ?_⟩
           refine mapO_congr fun y hy => close_congr fun j hj => ?_
           exact hi j (List.mem_append.2 (.inr (mem_idsCL (dropAt_mem hy) hj)))
          ·cases hq
         ·cases hq
        ·cases hq
       ·cases hq
      split at h
      ·rename_i e xs tb stB _ hma hid
       obtain ⟨stB', hm1, hm2⟩ := em _ hma
       have key : es.map (·.1) = ownId o * 100 :: tb.map (·.1) := by
        split at h
        ·unfold Tr.eval at h
         split at h
         ·unfold Tr.eval at h
          split at h
          ·dsimp only at h
           split at h
           ·unfold Tr.eval at h
            split at h
            ·simp only [Tr.eval, Option.some.injEq, Prod.mk.injEq] at h
             rw [← h.2]; rfl
            ·cases h
           ·simp [Tr.eval] at h
          ·cases h
         ·cases h
        ·simp [Tr.eval] at h
       have hid' : s'.ent (ownId o * 100) = s.ent (ownId o * 100) := hw _ (by rw [key]; simp)
       rw [hm1, hid', hid]
       simp only [hm2]
       exact h
      ·simp [Tr.eval] at h
    | fz =>
     try dsimp only at h ⊢
     split at h
     ·rename_i i f j pi rel ext hargs hid
      split at h
      ·rename_i e1 xs ps hp hq
       have key : es.map (·.1) = [ownId o, i, j] := by
        split at h
        ·unfold Tr.eval at h
         split at h
         ·dsimp only at h
          split at h
          ·simp only [Tr.eval, Option.some.injEq, Prod.mk.injEq] at h
           rw [← h.2]; rfl
          ·simp [Tr.eval] at h
         ·cases h
        ·simp [Tr.eval] at h
       have k1 : s'.ent (ownId o) = s.ent (ownId o) := hw _ (by rw [key]; simp)
       have k2 : s'.ent i = s.ent i := hw _ (by rw [key]; simp)
       have k3 : s'.ent j = s.ent j := hw _ (by rw [key]; simp)
       rw [k1, hid, hargs]
       dsimp only
       rw [k2, k3, hp, hq]
       exact h
      ·simp [Tr.eval] at h
     ·simp [Tr.eval] at h
    | gw =>
     try dsimp only at h ⊢
     split at h
     ·rename_i k n hargs hid
      have key : es.map (·.1) = [ownId o] := by
       unfold Tr.eval at h
       split at h
       ·dsimp only at h
        split at h
        ·unfold Tr.eval at h
         split at h
         ·simp only [Tr.eval, Option.some.injEq, Prod.mk.injEq] at h
          rw [← h.2]; rfl
         ·cases h
        ·simp [Tr.eval] at h
       ·cases h
      have hid' : s'.ent (ownId o) = s.ent (ownId o) := hw _ (by rw [key]; simp)
      rw [hid', hid, hargs]
      exact h
     ·simp [Tr.eval] at h
    | ru p =>
     try dsimp only at h ⊢
     cases caps with
     | cons _ _ => simp [Tr.eval] at h
     | nil =>
      try dsimp only at h ⊢
      cases hn : nth (c.args.toList.map (s.ev E 0)) p with
      | none => rw [hn] at h; simp [Tr.eval] at h
      | some y =>
       rw [hn] at h
       cases y with
       | row i =>
        try dsimp only at h ⊢
        have hmem : i ∈ idsCL s (c.args.toList.map (s.ev E 0)) := mem_idsCL (x := .row i) (nth_mem hn) (by simp [idsC, idsB, ids1])
        have e7 : s'.ent i = s.ent i := hi i (List.mem_append.2 (.inr hmem))
        rw [e7]
        cases hp : s.ent i with
        | row e xs =>
         rw [hp] at h
         dsimp only at h ⊢
         have e8 : mapO (close (s'.bury i)) (dropAt (c.args.toList.map (s.ev E 0)) p) = mapO (close (s.bury i)) (dropAt (c.args.toList.map (s.ev E 0)) p) := by
          refine mapO_congr fun y hy => close_congr fun j hj => ?_
          have hy' := dropAt_mem hy
          have hj' := idsC_bury hj
          rw [ent_bury, ent_bury]
          by_cases hji : j = i
          ·rw [if_pos hji, if_pos hji]
          ·rw [if_neg hji, if_neg hji]
           exact hi j (List.mem_append.2 (.inr (mem_idsCL hy' hj')))
         rw [e8]
         exact h
        | _ => rw [hp] at h; simp [Tr.eval] at h
       | _ => simp [Tr.eval] at h
    | bx =>
     try dsimp only at h ⊢
     cases caps with
     | cons _ _ => simp [Tr.eval] at h
     | nil =>
      try dsimp only at h ⊢
      split at h
      ·rename_i hall hid
       have key : es.map (·.1) = [ownId o * 100] := by
        split at h
        ·unfold Tr.eval at h
         split at h
         ·dsimp only at h
          split at h
          ·simp only [Tr.eval, Option.some.injEq, Prod.mk.injEq] at h
           rw [← h.2]; rfl
          ·simp [Tr.eval] at h
         ·cases h
        ·simp [Tr.eval] at h
       have hid' : s'.ent (ownId o * 100) = s.ent (ownId o * 100) := hw _ (by rw [key]; simp)
       have hcl : mapO (close s') (c.args.toList.map (s.ev E 0)) = mapO (close s) (c.args.toList.map (s.ev E 0)) := by
        refine mapO_congr fun y hy => close_congr fun j hj => ?_
        exact hi j (List.mem_append.2 (.inr (mem_idsCL hy hj)))
       rw [hid', hid, hcl]
       simp only [hall]
       exact h
      ·simp [Tr.eval] at h
    | mu =>
     try dsimp only at h ⊢
     cases ha : c.args.toList with
     | nil => rw [ha] at h; simp [Tr.eval] at h
     | cons y l =>
      cases l with
      | nil => rw [ha] at h; simp [Tr.eval] at h
      | cons z l =>
       cases l with
       | cons _ _ => rw [ha] at h; simp [Tr.eval] at h
       | nil =>
        rw [ha] at h hi hargs
        have e5 := hargs y (by simp) 0
        have e6 := hargs z (by simp) 0
        cases caps with
        | cons _ _ => simp [Tr.eval] at h
        | nil =>
         dsimp only at h ⊢
         rw [e5, e6]
         cases hr : rowIn (s.ev E 0 y) with
         | none => rw [hr] at h; simp [Tr.eval] at h
         | some p =>
          obtain ⟨oo, i⟩ := p
          have hmem := rowIn_ids (st := s) hr
          have e7 : s'.ent i = s.ent i := hi i (List.mem_append.2 (.inr (by simp only [List.map_cons, idsCL]; exact List.mem_append.2 (.inl hmem))))
          rw [hr] at h
          cases hz : s.ev E 0 z with
          | int k n =>
           rw [hz] at h
           dsimp only at h ⊢
           rw [e7]
           exact h
          | _ => rw [hz] at h; simp [Tr.eval] at h
    | fn =>
    try dsimp only at h ⊢
    have e3 : mapO (close s') (ordL g (c.args.toList.map (s.ev E 0)) caps) = mapO (close s) (ordL g (c.args.toList.map (s.ev E 0)) caps) := by
     refine mapO_congr fun y hy => close_congr fun i hi' => hi i ?_
     rcases mem_ordL hy with hy | hy
     ·exact List.mem_append.2 (.inr (mem_idsCL hy hi'))
     ·exact List.mem_append.2 (.inl (mem_idsCL hy hi'))
    simp only [e3] at h ⊢
    cases hm : mapO (close s) (ordL g (c.args.toList.map (s.ev E 0)) caps) with
    | none => rw [hm] at h; simp [Tr.eval] at h
    | some avs =>
     rw [hm] at h
     unfold Tr.eval at h ⊢
     cases hr : call (gOf g caps) avs with
     | none => rw [hr] at h; simp at h
     | some r =>
      rw [hr] at h
      simp only [] at h ⊢
      have key : es = (recv r (ownId o)).2 := by
       split at h
       ·split at h
        ·simp only [Tr.eval, Option.some.injEq, Prod.mk.injEq] at h; exact h.2.symm
        ·simp only [Tr.eval] at h
         split at h
         ·simp only [Option.some.injEq, Prod.mk.injEq] at h; exact h.2.symm
         ·cases h
       ·simp [Tr.eval] at h
      have e4 := freeAll_congr (s := s) (s' := s') (es := (recv r (ownId o)).2) (by rw [← key]; exact hw)
      rw [e4]; exact h
   | _ => rw [hx] at h; simp [Tr.eval] at h
  | invoke _ _ => simp [stepOp, ho, hc, Tr.eval] at h
 | _ => simp [stepOp, ho, Tr.eval] at h
end
end Go.Proofs.YthdnamhilcjnhaaGreatDoor
