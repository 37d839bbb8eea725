/- A range over an iterator: operations that call nothing, in a round. -/
import Derived.Test.YthdnamhilcjnhaaGreatDoorRs16
import Derived.RangeFuncNested
import Derived.RangeFuncLeaves
namespace Go.Proofs.YthdnamhilcjnhaaGreatDoor
open Go Go.RowKit
set_option linter.unusedVariables false
set_option linter.unusedSimpArgs false
section
variable {E : Env} {P : Program} {keep : Nat → Prop} {w0 : World} {σ : Sg} {w : World} {st : St} {a : Act} {o : Oper} {v : V} {es : List (Nat × Ent)} {call : Nat → List V → Option V} {ent : Nat → Ent}
theorem op_done (hE : EnvOk E P) (hr : HR E keep w0 st.ent σ w) (hf : FRel E st.ent σ w st a) (h : (stepOp E call o st).eval = some (v, es)) (hc : calmOp o.op = true) : Done E keep w0 st.ent σ w ((execOp a.eval o).run P w) v es := by
 cases ho : o.op with
 | move x => exact op_move hr hf x (.inl ho) h
 | assign x => exact op_move hr hf x (.inr ho) h
 | pick c x y => exact op_pick hr hf c x y ho h
 | alloc t => exact op_alloc hE hr t ho h
 | box t x => exact op_box hE hr hf t x ho h
 | build t gs => exact op_build hE hr hf t gs ho h
 | buildSlice t n gs =>
  cases hfz : frzOf E st t n gs.toList with
  | none => exact op_buildSlice hE hr hf t n gs ho hfz h
  | some q => exact op_frz hE hr hf t n gs ho (e := q.1) (i := q.2) hfz h
 | load t x => exact op_load hE hr hf t x ho h
 | store t x y => exact op_store hE hr hf t x y ho h
 | nilCheck x => exact op_nilCheck hr hf x ho h
 | binOp op t x y yt => exact op_bin hE hr hf op t x y yt ho h
 | unOp op t x => exact op_un hr hf op t x ho h
 | convert s t x => exact op_convert hE hr hf s t x ho h
 | fieldAddr s x i => exact op_fieldAddr hE hr hf s x i ho h
 | field t x i => exact op_field hE hr hf t x i ho h
 | indexAddr t x i => exact op_indexAddr hE hr hf t x i ho h
 | index t x i => exact op_index hE hr hf t x i ho h
 | extract x i => exact op_extract hr hf x i ho h
 | makeFunc f first caps =>
  cases f with
  | func f => exact op_func hr hf f first caps ho h
  | _ => simp [stepOp, ho, Tr.eval] at h
 | slice t x lo hi mx => exact op_slice hE hr hf t x lo hi mx ho h
 | makeSlice t l c => exact op_makeSlice hE hr hf t l c ho h
 | makeMap t r =>
  cases r with
  | none => exact op_makeMap hr t ho h
  | some r => simp [stepOp, ho, Tr.eval] at h
 | lookup t m k c => exact op_lookup hE hr hf t m k c ho h
 | mapUpdate t m k x => exact op_mapUpdate hE hr hf t m k x ho h
 | call c =>
  cases hcl : c.callee with
  | builtin b =>
   cases b with
   | len => exact op_len hE hr hf c hcl ho h
   | append => exact op_append hE hr hf c hcl ho h
   | max => exact op_max hE hr hf c hcl ho h
   | min => exact op_min hE hr hf c hcl ho h
   | cap => exact op_cap hE hr hf c hcl ho h
   | _ => simp [stepOp, ho, hcl, Tr.eval] at h
  | value x => rw [ho] at hc; simp [calmOp, hcl] at hc
  | invoke _ _ => simp [stepOp, ho, hcl, Tr.eval] at h
 | _ => simp [stepOp, ho, Tr.eval] at h
def FrameL (ds : List Nat) (a a' : Act) : Prop := ∀ t, natMem t ds = false → a'.tmps.getD t undef = a.tmps.getD t undef
theorem natMem_cons {x y : Nat} {l : List Nat} (h : natMem x (y :: l) = false) : x ≠ y ∧ natMem x l = false := by
 simp only [natMem] at h
 cases hb : Nat.beq x y with
 | true => rw [hb] at h; cases h
 | false =>
  rw [hb] at h
  exact ⟨fun e => (by subst e; rw [Nat.beq_refl] at hb; cases hb), h⟩
theorem natMem_app {x : Nat} : ∀ {l m : List Nat}, natMem x (l ++ m) = false → natMem x l = false ∧ natMem x m = false
 | [], m, h => ⟨rfl, h⟩
 | y :: l, m, h => by
  rw [List.cons_append] at h
  obtain ⟨h1, h2⟩ := natMem_cons h
  obtain ⟨h3, h4⟩ := natMem_app h2
  refine ⟨?_, h4⟩
  simp only [natMem]
  cases hb : Nat.beq x y with
  | true => exact absurd (Nat.eq_of_beq_eq_true hb) h1
  | false => exact h3
theorem getD_put_ne {a : Act} {d : Option Nat} {u : Value} {t : Nat} (h : d ≠ some t) : (a.put d u).tmps.getD t undef = a.tmps.getD t undef := by
 cases d with
 | none => rfl
 | some d =>
  simp only [Act.put, Array.getD_eq_getD_getElem?]
  rw [Array.getElem?_setIfInBounds, if_neg (fun e => h (by rw [e]))]
theorem runOps_in (hE : EnvOk E P) {no : Nat → Prop} {n : Nat} {z : Option Value} {all : Array Oper} {Fe : Fence} (hF : ∀ f, Fe.fn f) {m : Nat} {ds : List Deferred} {Q : Exit → Act → World → Prop} : ∀ (l : List Oper) (st : St) (a : Act) (w : World) (σ : Sg) (tr tr' : List Foot) (st' : St),
 calmL all l = true → Inv E keep w0 no n z st σ a w → runOps E call n all l st tr = some (st', tr') → (∀ a' w' σ', Inv E keep w0 no n z st' σ' a' w' → FrameL (dstsOf l) a a' → Q .normal { a' with defers := ds } w') → wpListIn Fe m P all Q l { a with defers := ds } w
 | [], st, a, w, σ, tr, tr', st', hc, hi, h, hQ => by
  simp only [runOps, Option.some.injEq, Prod.mk.injEq] at h
  obtain ⟨rfl, rfl⟩ := h
  exact hQ _ _ _ hi fun _ _ => rfl
 | o :: l, st, a, w, σ, tr, tr', st', hc, hi, h, hQ => by
  rw [runOps_cons] at h
  simp only [calmL] at hc
  split at hc
  ·rename_i hg hcm
   split at h
   ·rename_i st1 tr1 h1
    unfold Step1 at h1
    rw [hg] at h1
    split at h1
    ·rename_i hd _
     split at h1
     ·rename_i v es hev
      simp only [Option.some.injEq, Prod.mk.injEq] at h1
      obtain ⟨rfl, rfl⟩ := h1
      obtain ⟨nx, u, w', σ', hr, hnx, h2, h3, h4, h5⟩ := op_done (P := P) hE hi.hr hi.fr hev hcm
      have hi' := hi.put (fun t ht => dst_lt hd ht) h2 h3 h4 h5
      have rest := runOps_in hE hF (m := m) (ds := ds) (Q := Q) l _ _ _ _ _ _ _ hc hi' h fun a' w'' σ'' hi2 hfr => hQ a' w'' σ'' hi2 (by
       intro t ht
       have hne : o.dst ≠ some t ∧ natMem t (dstsOf l) = false := by
        simp only [dstsOf] at ht
        split at ht
        ·rename_i d hdd
         obtain ⟨q1, q2⟩ := natMem_cons ht
         exact ⟨by rw [hdd]; intro e; exact q1 (Option.some.inj e).symm, q2⟩
        ·rename_i hdd
         exact ⟨by rw [hdd]; simp, ht⟩
       rw [hfr t hne.2, getD_put_ne hne.1])
      simp only [wpListIn]
      rw [guard_none hg, if_pos rfl]
      refine ⟨fun f _ => hF f, ?_⟩
      have hnd : ∀ c, o.op ≠ .defer c := fun c e => by
       rw [show stepOp E call o st = .fail by simp [stepOp, e]] at hev
       simp [Tr.eval] at hev
      rw [Oper.semAt_eq _ _ _ hnd]
      have ee : ({ a with defers := ds } : Act).eval = a.eval := rfl
      rw [ee, hr]
      have ep : ({ a with defers := ds } : Act).put o.dst u = { a.put o.dst u with defers := ds } := by cases o.dst <;> rfl
      rcases hnx with rfl | ⟨rfl, rfl⟩
      ·show wpListIn Fe m P all Q l (({ a with defers := ds } : Act).put o.dst u) w'
       rw [ep]; exact rest
      ·show wpListIn Fe m P all Q l (({ a with defers := ds } : Act).put o.dst undef) w'
       rw [ep]; exact rest
     ·cases h1
    ·rename_i d want hd hg2
     cases hg2
    ·cases h1
   ·cases h
  ·cases hc
end
end Go.Proofs.YthdnamhilcjnhaaGreatDoor
