/- A path through the code under the abstract interpreter: decisions and values are given, what they owe is listed. -/
import Derived.Test.YthdnamhilcjnhaaGreatDoorRv1
namespace Go.Proofs.YthdnamhilcjnhaaGreatDoor
open Go
set_option linter.unusedVariables false
inductive Ch where
 | b (d : Bool)
 | v (x : V)
 | l (e : Ex) (st : St)
inductive Ob where
 | b (x : Bool) (d : Bool)
 | v (x : Option V) (y : V)
 | l (x : Option (Ex × St)) (e : Ex) (st : St)
def Ob.holds : Ob → Prop
 | .b x d => x = d
 | .v x y => x = some y
 | .l x e st => x = some (e, st)
def Owes : List Ob → Prop
 | [] => True
 | o :: os => o.holds ∧ Owes os
def Tr.path : Tr → List Ch → Option ((V × List (Nat × Ent)) × List Ch × List Ob)
 | .fail, _ => none
 | .out v es, cs => some ((v, es), cs, [])
 | .ck b t, cs => match t.path cs with
  | some (r, cs', os) => some (r, cs', .b b true :: os)
  | none => none
 | .br b t f, cs => match cs with
  | .b true :: cs => match t.path cs with
   | some (r, cs', os) => some (r, cs', .b b true :: os)
   | none => none
  | .b false :: cs => match f.path cs with
   | some (r, cs', os) => some (r, cs', .b b false :: os)
   | none => none
  | _ => none
 | .get x k, cs => match cs with
  | .v y :: cs => match (k y).path cs with
   | some (r, cs', os) => some (r, cs', .v x y :: os)
   | none => none
  | _ => none
def app {α : Type} : List α → List α → List α
 | [], ys => ys
 | x :: xs, ys => x :: app xs ys
section
variable (E : Env)
def known (dec : List (Nat × Bool)) (o : Oper) : Bool := match o.op with
 | .pick (.tmp d) _ _ => match find dec d with
  | some _ => true
  | none => false
 | _ => false
def pOps (call : Nat → List V → Option V) (n : Nat) (all : Array Oper) : List Oper → St → List Foot → List (Nat × Bool) → List Ch → Option ((St × List Foot) × List Ch × List Ob)
 | [], st, tr, _, cs => some ((st, tr), cs, [])
 | o :: os, st, tr, dec, cs => match dstOk n o, guardOf all o with
  | true, some none => match known dec o with
   | true => match (stepOp E call o st).eval with
    | some (v, es) => pOps call n all os (st.put o.dst v es) (⟨reads E o st, es.map (·.1)⟩ :: tr) dec cs
    | none => none
   | false => match (stepOp E call o st).path cs with
    | some ((v, es), cs1, o1) => match pOps call n all os (st.put o.dst v es) (⟨reads E o st, es.map (·.1)⟩ :: tr) dec cs1 with
     | some (r, cs2, o2) => some (r, cs2, app o1 o2)
     | none => none
    | none => none
  | true, some (some (d, want)) => match find dec d with
   | some v => match st.get d with
    | .bool b => match b with
     | true => match want with
      | true => match known dec o with
       | true => match (stepOp E call o (st.put (some d) (.bool want) [])).eval with
        | some (v, es) => pOps call n all os ((st.put (some d) (.bool want) []).put o.dst v es) (⟨reads E o (st.put (some d) (.bool want) []), es.map (·.1)⟩ :: tr) dec cs
        | none => none
       | false => match (stepOp E call o (st.put (some d) (.bool want) [])).path cs with
        | some ((v, es), cs1, o1) => match pOps call n all os ((st.put (some d) (.bool want) []).put o.dst v es) (⟨reads E o (st.put (some d) (.bool want) []), es.map (·.1)⟩ :: tr) dec cs1 with
         | some (r, cs2, o2) => some (r, cs2, app o1 o2)
         | none => none
        | none => none
      | false => pOps call n all os ((st.put (some d) (.bool (!want)) []).put o.dst .und []) (⟨[], []⟩ :: tr) dec cs
     | false => match want with
      | false => match known dec o with
       | true => match (stepOp E call o (st.put (some d) (.bool want) [])).eval with
        | some (v, es) => pOps call n all os ((st.put (some d) (.bool want) []).put o.dst v es) (⟨reads E o (st.put (some d) (.bool want) []), es.map (·.1)⟩ :: tr) dec cs
        | none => none
       | false => match (stepOp E call o (st.put (some d) (.bool want) [])).path cs with
        | some ((v, es), cs1, o1) => match pOps call n all os ((st.put (some d) (.bool want) []).put o.dst v es) (⟨reads E o (st.put (some d) (.bool want) []), es.map (·.1)⟩ :: tr) dec cs1 with
         | some (r, cs2, o2) => some (r, cs2, app o1 o2)
         | none => none
        | none => none
      | true => pOps call n all os ((st.put (some d) (.bool (!want)) []).put o.dst .und []) (⟨[], []⟩ :: tr) dec cs
    | .und => pOps call n all os (st.put o.dst .und []) (⟨[], []⟩ :: tr) dec cs
    | _ => none
   | none => match st.get d with
    | .bool b => match cs with
     | .b d' :: cs => match d' == want with
      | true => match known dec o with
       | true => match (stepOp E call o (st.put (some d) (.bool want) [])).eval with
        | some (v, es) => match pOps call n all os ((st.put (some d) (.bool want) []).put o.dst v es) (⟨reads E o (st.put (some d) (.bool want) []), es.map (·.1)⟩ :: tr) ((d, want) :: dec) cs with
         | some (r, cs2, o2) => some (r, cs2, .b b want :: o2)
         | none => none
        | none => none
       | false => match (stepOp E call o (st.put (some d) (.bool want) [])).path cs with
        | some ((v, es), cs1, o1) => match pOps call n all os ((st.put (some d) (.bool want) []).put o.dst v es) (⟨reads E o (st.put (some d) (.bool want) []), es.map (·.1)⟩ :: tr) ((d, want) :: dec) cs1 with
         | some (r, cs2, o2) => some (r, cs2, .b b want :: app o1 o2)
         | none => none
        | none => none
      | false => match pOps call n all os ((st.put (some d) (.bool (!want)) []).put o.dst .und []) (⟨[], []⟩ :: tr) ((d, !want) :: dec) cs with
       | some (r, cs2, o2) => some (r, cs2, .b b (!want) :: o2)
       | none => none
     | _ => none
    | .und => pOps call n all os (st.put o.dst .und []) (⟨[], []⟩ :: tr) dec cs
    | _ => none
  | _, _ => none
def pEx (F : FnI) (k : Nat) (call : Nat → List V → Option V) : Code → Nat → St → List Ch → Option ((Ex × St) × List Ch × List Ob)
 | .skip, _, st, cs => some ((.normal, st), cs, [])
 | .region _ os draw, _, st, cs => match pOps E call F.n os os.toList st [] [] cs with
  | some ((st', tr), cs', ob) => match draw with
   | false => some ((.normal, st'), cs', ob)
   | true => match drawOk os tr with
    | true => some ((.normal, st'), cs', ob)
    | false => none
  | none => none
 | .seq a b, _, st, cs => match pEx F k call a 0 st cs with
  | some ((.normal, st'), cs1, o1) => match pEx F k call b 0 st' cs1 with
   | some (r, cs2, o2) => some (r, cs2, app o1 o2)
   | none => none
  | r => r
 | .cond c t f, _, st, cs => match c with
  | .tmp d => match st.get d with
   | .bool b => match cs with
    | .b true :: cs => match pEx F k call t 0 (st.put (some d) (.bool true) []) cs with
     | some (r, cs', os) => some (r, cs', .b b true :: os)
     | none => none
    | .b false :: cs => match pEx F k call f 0 (st.put (some d) (.bool false) []) cs with
     | some (r, cs', os) => some (r, cs', .b b false :: os)
     | none => none
    | _ => none
   | _ => none
  | _ => none
 | .block id body, _, st, cs => match body with
  | .loop body' => match cs with
   | .l e st' :: cs => some ((e, st'), cs, [.l (ex E F k call (.block id (.loop body')) 0 st) e st'])
   | _ => none
  | _ => match pEx F k call body id st cs with
   | some (r, cs', os) => match blkOut F id (some r) with
    | some r' => some (r', cs', os)
    | none => none
   | none => none
 | .exit id, _, st, cs => some ((.exit id, st), cs, [])
 | .ret, _, st, cs => some ((.ret, norm F.ret st), cs, [])
 | _, _, _, _ => none
def loopOf : Code → Nat → Nat → Option Code
 | .seq a b, _, i => match loopOf a 0 i with
  | some c => some c
  | none => loopOf b 0 i
 | .cond _ a b, _, i => match loopOf a 0 i with
  | some c => some c
  | none => loopOf b 0 i
 | .block id c, _, i => loopOf c (id + 1) i
 | .loop c, id, i => match Nat.beq id (i + 1) with
  | true => some c
  | false => loopOf c 0 i
 | _, _, _ => none
def LB (f b k n : Nat) (st : St) : Option (Ex × St) := match nth E.fl f, find E.fi f with
 | some fn, some F => match fn.body with
  | some c => match loopOf c 0 b, find F.loops b with
   | some body, some lv => blkOut F b (loopN (fun st => ex E F k (sem E k) body 0 st) (norm lv.head) n st)
   | _, _ => none
  | none => none
 | _, _ => none
def pRound (f b k : Nat) (st : St) (cs : List Ch) : Option ((Bool × Ex × St) × List Ch × List Ob) := match nth E.fl f, find E.fi f with
 | some fn, some F => match fn.body with
  | some c => match loopOf c 0 b, find F.loops b with
   | some body, some lv => match pEx E F k (sem E k) body 0 st cs with
    | some ((.normal, st'), cs', os) => some ((true, .normal, norm lv.head st'), cs', os)
    | some (r, cs', os) => match blkOut F b (some r) with
     | some (e, st') => some ((false, e, st'), cs', os)
     | none => none
    | none => none
   | _, _ => none
  | none => none
 | _, _ => none
def pPu (f k : Nat) (args : List V) (cs : List Ch) : Option (V × List Ch × List Ob) := match nth E.fl f, find E.fi f with
 | some fn, some F => match F.pu, F.mu with
  | some p, false => match nth args p with
   | some (.ref ps 0 0 ext) => match fn.body, Nat.beq fn.ntmps (nOf F.n), Nat.ble args.length (nOf F.n), Nat.beq (qOf F.n) p && Nat.blt f muBase with
    | some c, true, true, true => match allB forO ps with
     | true => match pEx E F k (sem E k) c 0 ⟨argFr (setNth args p (.ptr 1 0 0 ext)) 0, [(1, .box ps)]⟩ cs with
      | some (r, cs', os) => match finP E fn p ps (some r) with
       | some v => some (v, cs', os)
       | none => none
      | none => none
     | false => none
    | _, _, _, _ => none
   | _ => none
  | _, _ => none
 | _, _ => none
def pRu (f k : Nat) (args : List V) (cs : List Ch) : Option (V × List Ch × List Ob) := match nth E.fl f, find E.fi f with
 | some fn, some F => match callKind E f with
  | some (.ru p) => match nth args p with
   | some (.fresh e xs) => match fn.body, Nat.beq fn.ntmps (nOf F.n), Nat.ble args.length (nOf F.n), Nat.beq (qOf F.n) p with
    | some c, true, true, true => match pEx E F k (sem E k) c 0 ⟨argFr (setNth args p (.row 1)) 0, [(1, .row e xs)]⟩ cs with
     | some (r, cs', os) => match finR E fn F.ret p (some r) with
      | some v => some (v, cs', os)
      | none => none
     | none => none
    | _, _, _, _ => none
   | _ => none
  | _ => none
 | _, _ => none
def pBx (f k : Nat) (args : List V) (cs : List Ch) : Option (V × List Ch × List Ob) := match nth E.fl f, find E.fi f with
 | some fn, some F => match callKind E f with
  | some .bx => match fn.body, Nat.beq fn.ntmps (nOf F.n), Nat.ble args.length (nOf F.n) with
   | some c, true, true => match pEx E F k (sem E k) c 0 ⟨argFr args 0, []⟩ cs with
    | some (r, cs', os) => match finB E fn (some r) with
     | some v => some (v, cs', os)
     | none => none
    | none => none
   | _, _, _ => none
  | _ => none
 | _, _ => none
def pFun (f k : Nat) (args : List V) (cs : List Ch) : Option (V × List Ch × List Ob) := match find E.pr f with
 | some _ => none
 | none => match nth E.fl f, find E.fi f with
  | some fn, some F => match F.cl with
   | true => none
   | false => match fn.body, Nat.beq fn.ntmps (nOf F.n), Nat.ble args.length (nOf F.n) with
    | some c, true, true => match pEx E F k (sem E k) c 0 ⟨argFr args 0, []⟩ cs with
     | some ((.ret, st), cs', os) => match resV E st fn.results.toList with
      | some v => some (v, cs', os)
      | none => none
     | some ((.normal, st), cs', os) => match resV E (norm F.ret st) fn.results.toList with
      | some v => some (v, cs', os)
      | none => none
     | _ => none
    | _, _, _ => none
  | _, _ => none
end
theorem owes_app {xs ys : List Ob} (h : Owes (app xs ys)) : Owes xs ∧ Owes ys := by
 induction xs with
 | nil => exact ⟨trivial, h⟩
 | cons x xs ih => exact ⟨⟨h.1, (ih h.2).1⟩, (ih h.2).2⟩
theorem Tr.path_eval {t : Tr} : ∀ {cs cs' : List Ch} {r : V × List (Nat × Ent)} {os : List Ob}, t.path cs = some (r, cs', os) → Owes os → t.eval = some r := by
 induction t with
 | fail => intro cs cs' r os h; simp [Tr.path] at h
 | out v es =>
  intro cs cs' r os h _
  simp only [Tr.path, Option.some.injEq, Prod.mk.injEq] at h
  simp [Tr.eval, h.1]
 | ck b t ih =>
  intro cs cs' r os h ho
  simp only [Tr.path] at h
  split at h
  ·rename_i r' cs1 os' he
   simp only [Option.some.injEq, Prod.mk.injEq] at h
   obtain ⟨rfl, rfl, rfl⟩ := h
   have hb : b = true := ho.1
   simp only [Tr.eval, hb]
   exact ih he ho.2
  ·cases h
 | br b t f iht ihf =>
  intro cs cs' r os h ho
  simp only [Tr.path] at h
  split at h
  ·split at h
   ·rename_i r' cs1 os' he
    simp only [Option.some.injEq, Prod.mk.injEq] at h
    obtain ⟨rfl, rfl, rfl⟩ := h
    have hb : b = true := ho.1
    simp only [Tr.eval, hb]
    exact iht he ho.2
   ·cases h
  ·split at h
   ·rename_i r' cs1 os' he
    simp only [Option.some.injEq, Prod.mk.injEq] at h
    obtain ⟨rfl, rfl, rfl⟩ := h
    have hb : b = false := ho.1
    simp only [Tr.eval, hb]
    exact ihf he ho.2
   ·cases h
  ·cases h
 | get x k ih =>
  intro cs cs' r os h ho
  unfold Tr.path at h
  split at h
  ·rename_i y cs1
   split at h
   ·rename_i r' cs1 os' he
    simp only [Option.some.injEq, Prod.mk.injEq] at h
    obtain ⟨rfl, rfl, rfl⟩ := h
    have hb : x = some y := ho.1
    unfold Tr.eval
    simp only [hb]
    exact ih y he ho.2
   ·cases h
  ·cases h
section
variable {E : Env}
theorem pOps_sound {call : Nat → List V → Option V} {n : Nat} {all : Array Oper} : ∀ (l : List Oper) {st : St} {tr : List Foot} {dec : List (Nat × Bool)} {cs cs' : List Ch} {r : St × List Foot} {os : List Ob},
 pOps E call n all l st tr dec cs = some (r, cs', os) → Owes os → runOps E call n all l st tr = some r := by
 intro l
 induction l with
 | nil =>
  intro st tr dec cs cs' r os h _
  simp only [pOps, Option.some.injEq, Prod.mk.injEq] at h
  simp [runOps, h.1]
 | cons o l ih =>
  intro st tr dec cs cs' r os h ho
  unfold pOps at h
  unfold runOps
  split at h
  ·rename_i h1 h2
   simp only [h1, h2]
   split at h
   ·split at h
    ·rename_i v es he
     rw [he]
     exact ih h ho
    ·cases h
   ·split at h
    ·rename_i v es cs1 o1 he
     split at h
     ·rename_i r2 cs2 o2 h3
      simp only [Option.some.injEq, Prod.mk.injEq] at h
      obtain ⟨rfl, rfl, rfl⟩ := h
      obtain ⟨ha, hb⟩ := owes_app ho
      rw [Tr.path_eval he ha]
      exact ih h3 hb
     ·cases h
    ·cases h
  ·rename_i d want h1 h2
   simp only [h1, h2]
   split at h
   ·split at h
    ·rename_i b hg
     simp only [hg]
     split at h
     ·split at h
      ·split at h
       ·split at h
        ·rename_i v es he
         simp only [BEq.rfl, he]
         exact ih h ho
        ·cases h
       ·split at h
        ·rename_i v es cs1 o1 he
         split at h
         ·rename_i r2 cs2 o2 h3
          simp only [Option.some.injEq, Prod.mk.injEq] at h
          obtain ⟨rfl, rfl, rfl⟩ := h
          obtain ⟨ha, hb⟩ := owes_app ho
          simp only [BEq.rfl, Tr.path_eval he ha]
          exact ih h3 hb
         ·cases h
        ·cases h
      ·exact ih h ho
     ·split at h
      ·split at h
       ·split at h
        ·rename_i v es he
         simp only [BEq.rfl, he]
         exact ih h ho
        ·cases h
       ·split at h
        ·rename_i v es cs1 o1 he
         split at h
         ·rename_i r2 cs2 o2 h3
          simp only [Option.some.injEq, Prod.mk.injEq] at h
          obtain ⟨rfl, rfl, rfl⟩ := h
          obtain ⟨ha, hb⟩ := owes_app ho
          simp only [BEq.rfl, Tr.path_eval he ha]
          exact ih h3 hb
         ·cases h
        ·cases h
      ·exact ih h ho
    ·rename_i hg
     simp only [hg]
     exact ih h ho
    ·cases h
   ·split at h
    ·rename_i b hg
     simp only [hg]
     split at h
     ·rename_i d' cs
      split at h
      ·split at h
       ·split at h
        ·rename_i v es he
         split at h
         ·rename_i r2 cs2 o2 h3
          simp only [Option.some.injEq, Prod.mk.injEq] at h
          obtain ⟨rfl, rfl, rfl⟩ := h
          obtain ⟨hbw, ho⟩ := ho
          have hbw : b = want := hbw
          subst hbw
          simp only [BEq.rfl, he]
          exact ih h3 ho
         ·cases h
        ·cases h
       ·split at h
        ·rename_i v es cs1 o1 he
         split at h
         ·rename_i r2 cs2 o2 h3
          simp only [Option.some.injEq, Prod.mk.injEq] at h
          obtain ⟨rfl, rfl, rfl⟩ := h
          obtain ⟨hbw, ho⟩ := ho
          obtain ⟨ha, hb⟩ := owes_app ho
          have hbw : b = want := hbw
          subst hbw
          simp only [BEq.rfl, Tr.path_eval he ha]
          exact ih h3 hb
         ·cases h
        ·cases h
      ·split at h
       ·rename_i r2 cs2 o2 h3
        simp only [Option.some.injEq, Prod.mk.injEq] at h
        obtain ⟨rfl, rfl, rfl⟩ := h
        obtain ⟨hbw, ho⟩ := ho
        have hbw : b = !want := hbw
        have e : (b == want) = false := by rw [hbw]; cases want <;> rfl
        rw [e]
        exact ih h3 ho
       ·cases h
     ·cases h
    ·rename_i hg
     simp only [hg]
     exact ih h ho
    ·cases h
  ·cases h
theorem pEx_sound {F : FnI} {k : Nat} {call : Nat → List V → Option V} : ∀ (c : Code) {bid : Nat} {st : St} {cs cs' : List Ch} {r : Ex × St} {os : List Ob},
 pEx E F k call c bid st cs = some (r, cs', os) → Owes os → ex E F k call c bid st = some r := by
 intro c
 induction c with
 | skip => intro bid st cs cs' r os h _; simp only [pEx, Option.some.injEq, Prod.mk.injEq] at h; simp [ex, h.1]
 | exit id => intro bid st cs cs' r os h _; simp only [pEx, Option.some.injEq, Prod.mk.injEq] at h; simp [ex, h.1]
 | ret => intro bid st cs cs' r os h _; simp only [pEx, Option.some.injEq, Prod.mk.injEq] at h; simp [ex, h.1]
 | region id ops draw =>
  intro bid st cs cs' r os h ho
  simp only [pEx] at h
  simp only [ex]
  split at h
  ·rename_i st' tr cs1 ob he
   cases draw with
   | false =>
    simp only [Option.some.injEq, Prod.mk.injEq] at h
    obtain ⟨rfl, rfl, rfl⟩ := h
    rw [pOps_sound _ he ho]
   | true =>
    simp only [] at h
    split at h
    ·rename_i hd
     simp only [Option.some.injEq, Prod.mk.injEq] at h
     obtain ⟨rfl, rfl, rfl⟩ := h
     rw [pOps_sound _ he ho]
     simp only [hd]
    ·cases h
  ·cases h
 | seq a b iha ihb =>
  intro bid st cs cs' r os h ho
  simp only [pEx] at h
  simp only [ex]
  split at h
  ·rename_i st' cs1 o1 ha
   split at h
   ·rename_i r2 cs2 o2 hb
    simp only [Option.some.injEq, Prod.mk.injEq] at h
    obtain ⟨rfl, rfl, rfl⟩ := h
    obtain ⟨h1, h2⟩ := owes_app ho
    rw [iha ha h1]
    exact ihb hb h2
   ·cases h
  ·rename_i hne
   have := iha h ho
   rw [this]
   obtain ⟨e, st'⟩ := r
   cases e with
   | normal => exact absurd h (hne _ _ _)
   | exit i => rfl
   | ret => rfl
 | cond c t f iht ihf =>
  intro bid st cs cs' r os h ho
  simp only [pEx] at h
  simp only [ex]
  split at h
  ·split at h
   ·rename_i b hg
    simp only [hg]
    split at h
    ·split at h
     ·rename_i r' cs1 os' he
      simp only [Option.some.injEq, Prod.mk.injEq] at h
      obtain ⟨rfl, rfl, rfl⟩ := h
      have hb : b = true := ho.1
      simp only [hb]
      exact iht he ho.2
     ·cases h
    ·split at h
     ·rename_i r' cs1 os' he
      simp only [Option.some.injEq, Prod.mk.injEq] at h
      obtain ⟨rfl, rfl, rfl⟩ := h
      have hb : b = false := ho.1
      simp only [hb]
      exact ihf he ho.2
     ·cases h
    ·cases h
   ·cases h
  ·cases h
 | block id body ih =>
  intro bid st cs cs' r os h ho
  have key : ∀ {cs cs' : List Ch} {os : List Ob} {r : Ex × St}, (match pEx E F k call body id st cs with
   | some (r, cs', os) => match blkOut F id (some r) with
    | some r' => some (r', cs', os)
    | none => none
   | none => none) = some (r, cs', os) → Owes os → ex E F k call (.block id body) bid st = some r := by
   intro cs cs' os r h ho
   split at h
   ·rename_i r1 cs1 os1 he
    split at h
    ·rename_i r2 h2
     simp only [Option.some.injEq, Prod.mk.injEq] at h
     obtain ⟨rfl, rfl, rfl⟩ := h
     simp only [ex, ih he ho, h2]
    ·cases h
   ·cases h
  cases body with
  | loop body' =>
   simp only [pEx] at h
   split at h
   ·simp only [Option.some.injEq, Prod.mk.injEq] at h
    obtain ⟨rfl, rfl, rfl⟩ := h
    exact ho.1
   ·cases h
  | _ => exact key (cs := cs) h ho
 | _ => intro bid st cs cs' r os h _; simp [pEx] at h
theorem pFun_sound {f k : Nat} {args : List V} (cs : List Ch) {v : V} {os : List Ob} (hf : Nat.blt f muBase = true) (h : pFun E f k args cs = some (v, [], os)) (ho : Owes os) : sem E (k + 1) f args = some v := by
 unfold pFun at h
 unfold sem
 simp only [hf]
 split at h
 ·cases h
 rename_i hpr
 simp only [hpr]
 split at h
 ·rename_i fn F h1 h2
  simp only [h1, h2]
  split at h
  ·cases h
  rename_i hcl
  simp only [hcl]
  split at h
  ·rename_i c h3 h4 h5
   simp only [h3, h4, h5]
   split at h
   ·rename_i st cs' os' he
    split at h
    ·rename_i v' hv
     simp only [Option.some.injEq, Prod.mk.injEq] at h
     obtain ⟨rfl, _, rfl⟩ := h
     rw [pEx_sound _ he ho]
     exact hv
    ·cases h
   ·rename_i st cs' os' he
    split at h
    ·rename_i v' hv
     simp only [Option.some.injEq, Prod.mk.injEq] at h
     obtain ⟨rfl, _, rfl⟩ := h
     rw [pEx_sound _ he ho]
     exact hv
    ·cases h
   ·cases h
  ·cases h
 ·cases h
theorem pBx_sound {f k : Nat} {args : List V} (cs : List Ch) {v : V} {os : List Ob} (hf : Nat.blt (bxBase + f) muBase = false) (hg : Nat.blt (bxBase + f) puBase = true) (hm : Nat.blt (bxBase + f) mvBase = false) (hb : Nat.blt (bxBase + f) bxBase = false) (hr : Nat.blt (bxBase + f) ruBase = true) (h : pBx E f k args cs = some (v, [], os)) (ho : Owes os) : sem E (k + 1) (bxBase + f) args = some v := by
 unfold pBx at h
 unfold sem
 simp only [hf, hg, hm, hb, hr, Nat.add_sub_cancel_left]
 split at h
 ·rename_i fn F h1 h2
  simp only [h1, h2]
  split at h
  ·rename_i h3
   simp only [h3]
   split at h
   ·rename_i c h5 h6 h7
    simp only [h5, h6, h7]
    split at h
    ·rename_i r cs' os' he
     split at h
     ·rename_i v' hv
      simp only [Option.some.injEq, Prod.mk.injEq] at h
      obtain ⟨rfl, _, rfl⟩ := h
      rw [pEx_sound _ he ho]
      exact hv
     ·cases h
    ·cases h
   ·cases h
  ·cases h
 ·cases h
theorem pRu_sound {f k : Nat} {args : List V} (cs : List Ch) {v : V} {os : List Ob} (hf : Nat.blt (ruBase + f) muBase = false) (hg : Nat.blt (ruBase + f) puBase = true) (hm : Nat.blt (ruBase + f) mvBase = false) (hb : Nat.blt (ruBase + f) bxBase = false) (hr : Nat.blt (ruBase + f) ruBase = false) (h : pRu E f k args cs = some (v, [], os)) (ho : Owes os) : sem E (k + 1) (ruBase + f) args = some v := by
 unfold pRu at h
 unfold sem
 simp only [hf, hg, hm, hb, hr, Nat.add_sub_cancel_left]
 split at h
 ·rename_i fn F h1 h2
  simp only [h1, h2]
  split at h
  ·rename_i p h3
   simp only [h3]
   split at h
   ·rename_i e xs h4
    simp only [h4]
    split at h
    ·rename_i c h5 h6 h7 h8
     simp only [h5, h6, h7, h8]
     split at h
     ·rename_i r cs' os' he
      split at h
      ·rename_i v' hv
       simp only [Option.some.injEq, Prod.mk.injEq] at h
       obtain ⟨rfl, _, rfl⟩ := h
       rw [pEx_sound _ he ho]
       exact hv
      ·cases h
     ·cases h
    ·cases h
   ·cases h
  ·cases h
 ·cases h
theorem pPu_sound {f k : Nat} {args : List V} (cs : List Ch) {v : V} {os : List Ob} (hf : Nat.blt (puBase + f) muBase = false) (hg : Nat.blt (puBase + f) puBase = false) (h : pPu E f k args cs = some (v, [], os)) (ho : Owes os) : sem E (k + 1) (puBase + f) args = some v := by
 unfold pPu at h
 unfold sem
 simp only [hf, hg, Nat.add_sub_cancel_left]
 split at h
 ·rename_i fn F h1 h2
  simp only [h1, h2]
  split at h
  ·rename_i p h3 h3'
   simp only [h3, h3']
   split at h
   ·rename_i ps ext h4
    simp only [h4]
    split at h
    ·rename_i c h5 h6 h7 h8
     simp only [h5, h6, h7, h8]
     split at h
     ·rename_i h9
      simp only [h9]
      split at h
      ·rename_i r cs' os' he
       split at h
       ·rename_i v' hv
        simp only [Option.some.injEq, Prod.mk.injEq] at h
        obtain ⟨rfl, _, rfl⟩ := h
        rw [pEx_sound _ he ho]
        exact hv
       ·cases h
      ·cases h
     ·cases h
    ·cases h
   ·cases h
  ·cases h
 ·cases h
theorem pNext {f b k n : Nat} {st st' : St} (cs : List Ch) {os : List Ob} {r : Option (Ex × St)} (h : pRound E f b k st cs = some ((true, .normal, st'), [], os)) (ho : Owes os)
 (hn : LB E f b k n st' = r) : LB E f b k (n + 1) st = r := by
 unfold pRound at h
 unfold LB at hn ⊢
 cases h1 : nth E.fl f with
 | none => simp [h1] at h
 | some fn =>
  cases h2 : find E.fi f with
  | none => simp [h1, h2] at h
  | some F =>
   cases h3 : fn.body with
   | none => simp [h1, h2, h3] at h
   | some c =>
    cases h4 : loopOf c 0 b with
    | none => simp [h1, h2, h3, h4] at h
    | some body =>
     cases h5 : find F.loops b with
     | none => simp [h1, h2, h3, h4, h5] at h
     | some lv =>
      simp only [h1, h2, h3, h4, h5] at h hn ⊢
      split at h
      ·rename_i st1 cs1 os1 he
       simp only [Option.some.injEq, Prod.mk.injEq, true_and] at h
       obtain ⟨rfl, _, rfl⟩ := h
       simp only [loopN]
       rw [pEx_sound _ he ho]
       exact hn
      ·split at h
       ·simp at h
       ·cases h
      ·cases h
theorem pLast {f b k n : Nat} {st st' : St} {e : Ex} (cs : List Ch) {os : List Ob} (h : pRound E f b k st cs = some ((false, e, st'), [], os)) (ho : Owes os) :
 LB E f b k (n + 1) st = some (e, st') := by
 unfold pRound at h
 unfold LB
 cases h1 : nth E.fl f with
 | none => simp [h1] at h
 | some fn =>
  cases h2 : find E.fi f with
  | none => simp [h1, h2] at h
  | some F =>
   cases h3 : fn.body with
   | none => simp [h1, h2, h3] at h
   | some c =>
    cases h4 : loopOf c 0 b with
    | none => simp [h1, h2, h3, h4] at h
    | some body =>
     cases h5 : find F.loops b with
     | none => simp [h1, h2, h3, h4, h5] at h
     | some lv =>
      simp only [h1, h2, h3, h4, h5] at h ⊢
      split at h
      ·simp at h
      ·rename_i r1 cs1 os1 hne he
       split at h
       ·rename_i e1 st1 hb
        simp only [Option.some.injEq, Prod.mk.injEq, true_and] at h
        obtain ⟨⟨rfl, rfl⟩, _, rfl⟩ := h
        simp only [loopN]
        rw [pEx_sound _ he ho]
        obtain ⟨e2, st2⟩ := r1
        cases e2 with
        | normal => first | exact absurd he (hne _ _ _) | exact (hne _ rfl).elim | exact (hne _ _ rfl).elim | exact (hne _ _ _ rfl).elim
        | exit i => exact hb
        | ret => exact hb
       ·cases h
      ·cases h
end
end Go.Proofs.YthdnamhilcjnhaaGreatDoor
