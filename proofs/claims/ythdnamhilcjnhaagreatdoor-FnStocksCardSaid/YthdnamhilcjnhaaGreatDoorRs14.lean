/- One operation; a list of operations. -/
import Derived.Test.YthdnamhilcjnhaaGreatDoorRs13
import Derived.Test.YthdnamhilcjnhaaGreatDoorRq1
namespace Go.Proofs.YthdnamhilcjnhaaGreatDoor
open Go Go.RowKit
set_option linter.unusedVariables false
set_option linter.unusedSimpArgs false
section
variable {E : Env} {P : Program} {keep : Nat → Prop} {w0 : World} {σ : Sg} {w : World} {st : St} {a : Act} {o : Oper} {v : V} {es : List (Nat × Ent)} {call : Nat → List V → Option V} {ent : Nat → Ent}
theorem op_sound (hE : EnvOk E P) (hcall : CallsOk P E call) (hr : HR E keep w0 st.ent σ w) (hf : FRel E st.ent σ w st a) (h : (stepOp E call o st).eval = some (v, es))
 {K : Act → World → Prop} {Q : Exit → Act → World → Prop} (hK : Goes E keep w0 st.ent σ w a o v es K) : o.wp P a w K Q := by
 unfold Oper.wp
 cases ho : o.op with
 | move x => exact (op_move hr hf x (.inl ho) h).goes hK
 | assign x => exact (op_move hr hf x (.inr ho) h).goes hK
 | pick c x y => exact (op_pick hr hf c x y ho h).goes hK
 | alloc t => exact (op_alloc hE hr t ho h).goes hK
 | box t x => exact (op_box hE hr hf t x ho h).goes hK
 | build t gs => exact (op_build hE hr hf t gs ho h).goes hK
 | buildSlice t n gs =>
  cases hfz : frzOf E st t n gs.toList with
  | none => exact (op_buildSlice hE hr hf t n gs ho hfz h).goes hK
  | some q => exact (op_frz hE hr hf t n gs ho (e := q.1) (i := q.2) hfz h).goes hK
 | load t x => exact (op_load hE hr hf t x ho h).goes hK
 | store t x y => exact (op_store hE hr hf t x y ho h).goes hK
 | nilCheck x => exact (op_nilCheck hr hf x ho h).goes hK
 | binOp op t x y yt => exact (op_bin hE hr hf op t x y yt ho h).goes hK
 | unOp op t x => exact (op_un hr hf op t x ho h).goes hK
 | convert s t x => exact (op_convert hE hr hf s t x ho h).goes hK
 | fieldAddr s x i => exact (op_fieldAddr hE hr hf s x i ho h).goes hK
 | field t x i => exact (op_field hE hr hf t x i ho h).goes hK
 | indexAddr t x i => exact (op_indexAddr hE hr hf t x i ho h).goes hK
 | index t x i => exact (op_index hE hr hf t x i ho h).goes hK
 | extract x i => exact (op_extract hr hf x i ho h).goes hK
 | makeFunc f first caps =>
  cases f with
  | func f => exact (op_func hr hf f first caps ho h).goes hK
  | _ => simp [stepOp, ho, Tr.eval] at h
 | slice t x lo hi mx => exact (op_slice hE hr hf t x lo hi mx ho h).goes hK
 | makeSlice t l c => exact (op_makeSlice hE hr hf t l c ho h).goes hK
 | makeMap t r =>
  cases r with
  | none => exact (op_makeMap hr t ho h).goes hK
  | some r => simp [stepOp, ho, Tr.eval] at h
 | lookup t m k c => exact (op_lookup hE hr hf t m k c ho h).goes hK
 | mapUpdate t m k x => exact (op_mapUpdate hE hr hf t m k x ho h).goes hK
 | call c =>
  cases hc : c.callee with
  | builtin b =>
   cases b with
   | len => exact (op_len hE hr hf c hc ho h).goes hK
   | append => exact (op_append hE hr hf c hc ho h).goes hK
   | max => exact (op_max hE hr hf c hc ho h).goes hK
   | min => exact (op_min hE hr hf c hc ho h).goes hK
   | cap => exact (op_cap hE hr hf c hc ho h).goes hK
   | _ => simp [stepOp, ho, hc, Tr.eval] at h
  | value x => exact op_call hE hcall hr hf c x hc ho h hK
  | invoke _ _ => simp [stepOp, ho, hc, Tr.eval] at h
 | _ => simp [stepOp, ho, Tr.eval] at h
theorem find_append {α : Type} : ∀ (es fs : List (Nat × α)) (i : Nat), find (es ++ fs) i = match find es i with | some e => some e | none => find fs i
 | [], fs, i => rfl
 | (j, x) :: es, fs, i => by
  simp only [List.cons_append, find]
  split
  ·rfl
  ·exact find_append es fs i
theorem ent_put (st : St) (d : Option Nat) (v : V) (es : List (Nat × Ent)) : (st.put d v es).ent = updE es st.ent := by
 funext i
 have : (st.put d v es).hp = es ++ st.hp := by cases d <;> rfl
 unfold St.ent updE
 rw [this, find_append]
 cases find es i <;> rfl
theorem get_put (st : St) (d : Nat) (v : V) (es : List (Nat × Ent)) (t : Nat) : (st.put (some d) v es).get t = if t = d then v else st.get t := by
 unfold St.get St.put
 by_cases h : t = d
 ·subst h
  simp [find]
 ·rw [if_neg h]
  have : Nat.beq d t = false := by
   cases hb : Nat.beq d t with
   | false => rfl
   | true => exact absurd (Nat.eq_of_beq_eq_true hb).symm h
  simp [find, this]
theorem getD_put {a : Act} {d : Nat} {u : Value} (hd : d < a.tmps.size) (t : Nat) : (a.put (some d) u).tmps.getD t undef = if t = d then u else a.tmps.getD t undef := by
 simp only [Act.put, Array.getD_eq_getD_getElem?]
 rw [Array.getElem?_setIfInBounds]
 by_cases h : d = t
 ·subst h; simp [hd]
 ·rw [if_neg h, if_neg (Ne.symm h)]
theorem dst_lt {n : Nat} {o : Oper} (h : dstOk n o = true) {d : Nat} (hd : o.dst = some d) : d < nOf n ∧ qOf n ≠ d := by
 unfold dstOk at h
 rw [hd] at h
 simp only [Bool.and_eq_true, Bool.not_eq_true'] at h
 refine ⟨Nat.blt_eq.mp h.1, fun hq => ?_⟩
 rw [← hq, show Nat.beq (qOf n) (qOf n) = true from Nat.beq_refl _] at h
 cases h.2
structure Inv (E : Env) (keep : Nat → Prop) (w0 : World) (no : Nat → Prop) (n : Nat) (z : Option Value) (st : St) (σ : Sg) (a : Act) (w : World) : Prop where
 hr : HR E keep w0 st.ent σ w
 fr : FRel E st.ent σ w st a
 size : a.tmps.size = nOf n
 defs : a.defers = []
 no : σ.no = no
 z0 : ∀ u, z = some u → a.tmps.getD (qOf n) undef = u
theorem size_put (a : Act) (d : Option Nat) (u : Value) : (a.put d u).tmps.size = a.tmps.size := by cases d <;> simp [Act.put]
theorem defs_put (a : Act) (d : Option Nat) (u : Value) : (a.put d u).defers = a.defers := by cases d <;> rfl
theorem getD0_put {a : Act} {d : Option Nat} {u : Value} {q : Nat} (hd : ∀ t, d = some t → q ≠ t) : (a.put d u).tmps.getD q undef = a.tmps.getD q undef := by
 cases d with
 | none => rfl
 | some d =>
  have := hd d rfl
  simp only [Act.put, Array.getD_eq_getD_getElem?]
  rw [Array.getElem?_setIfInBounds, if_neg (by omega)]
theorem Inv.put {no : Nat → Prop} {n : Nat} {z : Option Value} (hi : Inv E keep w0 no n z st σ a w) {d : Option Nat} (hd : ∀ t, d = some t → t < nOf n ∧ qOf n ≠ t) {σ' : Sg} {w' : World} {u : Value}
 (hr : HR E keep w0 (updE es st.ent) σ' w') (hx : Tx st.ent σ w (updE es st.ent) σ' w') (hno : σ'.no = σ.no) (hu : RT E (updE es st.ent) σ' w' v u) : Inv E keep w0 no n z (st.put d v es) σ' (a.put d u) w' := by
 refine ⟨by rw [ent_put]; exact hr, ?_, by rw [size_put]; exact hi.size, by rw [defs_put]; exact hi.defs, hno.trans hi.no, fun u hz => by rw [getD0_put (fun t ht => (hd t ht).2)]; exact hi.z0 u hz⟩
 intro t
 rw [ent_put]
 cases d with
 | none => exact RT_move hx _ _ (hi.fr t)
 | some d =>
  rw [get_put, getD_put (by rw [hi.size]; exact (hd d rfl).1)]
  by_cases h : t = d
  ·rw [if_pos h, if_pos h]; exact hu
  ·rw [if_neg h, if_neg h]; exact RT_move hx _ _ (hi.fr t)
theorem Inv.set {no : Nat → Prop} {n : Nat} {z : Option Value} (hi : Inv E keep w0 no n z st σ a w) {d : Nat} (h : RT E st.ent σ w v (a.tmps.getD d undef)) : Inv E keep w0 no n z (st.put (some d) v []) σ a w := by
 refine ⟨by rw [ent_put]; exact hi.hr, ?_, hi.size, hi.defs, hi.no, hi.z0⟩
 intro t
 rw [ent_put, get_put]
 by_cases ht : t = d
 ·rw [if_pos ht]; subst ht; exact h
 ·rw [if_neg ht]; exact hi.fr t
theorem Inv.und {no : Nat → Prop} {n : Nat} {z : Option Value} (hi : Inv E keep w0 no n z st σ a w) {d : Option Nat} (hd : ∀ t, d = some t → t < nOf n ∧ qOf n ≠ t) : Inv E keep w0 no n z (st.put d .und []) σ (a.put d undef) w :=
 hi.put (es := []) hd hi.hr (Tx.refl _ _ _) rfl rfl
theorem guard_none {all : Array Oper} {o : Oper} (h : guardOf all o = some none) (f : Nat → Option Bool) : Region.wanted o f = true := by
 unfold guardOf at h
 split at h
 ·rename_i hg; simp [Region.wanted, hg]
 ·split at h
  ·split at h <;> cases h
  ·cases h
theorem guard_some {all : Array Oper} {o : Oper} {d : Nat} {want : Bool} (h : guardOf all o = some (some (d, want))) (tmps : Array Value) :
 Region.wanted o (yielded all tmps) = match tmps[d]? with
  | some (.bool b) => b == want
  | _ => false := by
 unfold guardOf at h
 split at h
 ·cases h
 ·rename_i j want' hg
  split at h
  ·rename_i oj hj
   split at h
   ·rename_i d' hd
    simp only [Option.some.injEq, Prod.mk.injEq] at h
    obtain ⟨rfl, rfl⟩ := h
    simp only [Region.wanted, hg, yielded, hj, Option.bind_some, hd]
    cases tmps[d']? with
    | none => rfl
    | some u => cases u <;> first | rfl | (rename_i b; cases b <;> cases want' <;> rfl)
   ·cases h
  ·cases h
theorem getD_bool {tmps : Array Value} {d : Nat} {b : Bool} (h : tmps.getD d undef = .bool b) : tmps[d]? = some (.bool b) := by
 rw [Array.getD_eq_getD_getElem?] at h
 cases hq : tmps[d]? with
 | none => rw [hq] at h; simp [undef] at h
 | some u => rw [hq] at h; simpa using h
theorem getD_undef {tmps : Array Value} {d : Nat} (h : tmps.getD d undef = undef) : tmps[d]? = none ∨ tmps[d]? = some undef := by
 rw [Array.getD_eq_getD_getElem?] at h
 cases hq : tmps[d]? with
 | none => exact .inl rfl
 | some u => rw [hq] at h; right; simpa using h
def Step1 (E : Env) (call : Nat → List V → Option V) (n : Nat) (all : Array Oper) (o : Oper) (st : St) (tr : List Foot) : Option (St × List Foot) :=
 match dstOk n o, guardOf all o with
  | true, some none => match (stepOp E call o st).eval with
   | some (v, es) => some (st.put o.dst v es, ⟨reads E o st, es.map (·.1)⟩ :: tr)
   | none => none
  | true, some (some (d, want)) => match st.get d with
   | .bool b => match b == want with
    | true => match (stepOp E call o (st.put (some d) (.bool want) [])).eval with
     | some (v, es) => some ((st.put (some d) (.bool want) []).put o.dst v es, ⟨reads E o (st.put (some d) (.bool want) []), es.map (·.1)⟩ :: tr)
     | none => none
    | false => some ((st.put (some d) (.bool (!want)) []).put o.dst .und [], ⟨[], []⟩ :: tr)
   | .und => some (st.put o.dst .und [], ⟨[], []⟩ :: tr)
   | _ => none
  | _, _ => none
theorem runOps_cons (n : Nat) (all : Array Oper) (o : Oper) (os : List Oper) (st : St) (tr : List Foot) :
 runOps E call n all (o :: os) st tr = match Step1 E call n all o st tr with
  | some (st', tr') => runOps E call n all os st' tr'
  | none => none := by
 simp only [runOps, Step1]
 cases dstOk n o with
 | false => cases guardOf all o with
  | none => rfl
  | some g => cases g <;> rfl
 | true =>
  cases guardOf all o with
  | none => rfl
  | some g =>
   cases g with
   | none =>
    simp only
    cases (stepOp E call o st).eval with
    | none => rfl
    | some r => rfl
   | some g =>
    obtain ⟨d, want⟩ := g
    simp only
    cases st.get d <;> first
     | rfl
     | (rename_i b
        simp only
        cases (b == want) with
        | false => rfl
        | true =>
         simp only
         cases (stepOp E call o (st.put (some d) (.bool want) [])).eval with
         | none => rfl
         | some r => rfl)
theorem step1_sound (hE : EnvOk E P) (hcall : CallsOk P E call) {no : Nat → Prop} {n : Nat} {z : Option Value} {all : Array Oper} {tr tr' : List Foot} {st' : St} (hi : Inv E keep w0 no n z st σ a w) (h : Step1 E call n all o st tr = some (st', tr'))
 {K : Act → World → Prop} {Q : Exit → Act → World → Prop} (hK : ∀ a' w' σ', Inv E keep w0 no n z st' σ' a' w' → K a' w') :
 if Region.wanted o (yielded all a.tmps) then o.wp P a w K Q else K (a.put o.dst undef) w := by
 unfold Step1 at h
 split at h
 ·rename_i hd hg
  split at h
  ·rename_i v es hev
   simp only [Option.some.injEq, Prod.mk.injEq] at h
   obtain ⟨rfl, rfl⟩ := h
   rw [guard_none hg, if_pos rfl]
   exact op_sound hE hcall hi.hr hi.fr hev fun u w' σ' h1 h2 h3 h4 => hK _ _ _ (hi.put (fun t ht => dst_lt hd ht) h1 h2 h3 h4)
  ·cases h
 ·rename_i d want hd hg
  have hg2 := guard_some hg a.tmps
  have hd' := hi.fr d
  split at h
  ·rename_i b hb
   rw [hb] at hd'
   have hbool := RT_bool hd'
   rw [getD_bool hbool] at hg2
   split at h
   ·rename_i hbw
    rw [if_pos (hg2.trans hbw)]
    have hbw : b = want := by simpa using hbw
    have hi2 := hi.set (d := d) (v := .bool want) (by rw [hbool, hbw]; exact RT_mkbool _)
    split at h
    ·rename_i v es hev
     simp only [Option.some.injEq, Prod.mk.injEq] at h
     obtain ⟨rfl, rfl⟩ := h
     exact op_sound hE hcall hi2.hr hi2.fr hev fun u w' σ' h1 h2 h3 h4 => hK _ _ _ (hi2.put (fun t ht => dst_lt hd ht) h1 h2 h3 h4)
    ·cases h
   ·rename_i hbw
    rw [if_neg (by rw [hg2]; simp only; rw [hbw]; simp)]
    have hbw : b = !want := by cases b <;> cases want <;> simp at hbw ⊢
    simp only [Option.some.injEq, Prod.mk.injEq] at h
    obtain ⟨rfl, rfl⟩ := h
    have hi2 := hi.set (d := d) (v := .bool (!want)) (by rw [hbool, hbw]; exact RT_mkbool _)
    exact hK _ _ _ (hi2.und fun t ht => dst_lt hd ht)
  ·rename_i hb
   rw [hb] at hd'
   have hund : a.tmps.getD d undef = undef := hd'
   simp only [Option.some.injEq, Prod.mk.injEq] at h
   obtain ⟨rfl, rfl⟩ := h
   have : (match a.tmps[d]? with | some (.bool b) => b == want | _ => false) = false := by
    rcases getD_undef hund with h | h <;> rw [h] <;> rfl
   rw [if_neg (by rw [hg2, this]; simp)]
   exact hK _ _ _ (hi.und fun t ht => dst_lt hd ht)
  ·cases h
 ·cases h
theorem runOps_sound (hE : EnvOk E P) (hcall : CallsOk P E call) {no : Nat → Prop} {n : Nat} {z : Option Value} {all : Array Oper} {Q : Exit → Act → World → Prop} : ∀ (l : List Oper) (st : St) (a : Act) (w : World) (σ : Sg) (tr tr' : List Foot) (st' : St),
 Inv E keep w0 no n z st σ a w → runOps E call n all l st tr = some (st', tr') → (∀ a' w' σ', Inv E keep w0 no n z st' σ' a' w' → Q .normal a' w') → wpList P all Q l a w
 | [], st, a, w, σ, tr, tr', st', hi, h, hQ => by
  simp only [runOps, Option.some.injEq, Prod.mk.injEq] at h
  obtain ⟨rfl, rfl⟩ := h
  exact hQ _ _ _ hi
 | o :: l, st, a, w, σ, tr, tr', st', hi, h, hQ => by
  rw [runOps_cons] at h
  split at h
  ·rename_i st1 tr1 h1
   refine wpList_step fun K hK => step1_sound hE hcall hi h1 fun a' w' σ' hi' => hK _ _ (runOps_sound hE hcall l st1 a' w' σ' tr1 tr' st' hi' h hQ)
  ·cases h
end
end Go.Proofs.YthdnamhilcjnhaaGreatDoor
