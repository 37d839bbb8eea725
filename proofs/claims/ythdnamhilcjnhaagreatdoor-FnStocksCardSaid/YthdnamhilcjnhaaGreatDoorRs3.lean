/- Operations that change no memory: the abstract interpreter's word on each is so. -/
import Derived.Test.YthdnamhilcjnhaaGreatDoorRs2
namespace Go.Proofs.YthdnamhilcjnhaaGreatDoor
open Go Go.RowKit
set_option linter.unusedVariables false
set_option linter.unusedSimpArgs false
section
variable {E : Env} {P : Program} {keep : Nat → Prop} {w0 : World} {σ : Sg} {w : World} {st : St} {a : Act} {o : Oper} {v : V} {es : List (Nat × Ent)} {call : Nat → List V → Option V}
theorem op_move (hr : HR E keep w0 st.ent σ w) (hf : FRel E st.ent σ w st a) (x : Operand) (ho : o.op = .move x ∨ o.op = .assign x) (h : (stepOp E call o st).eval = some (v, es)) :
 Done E keep w0 st.ent σ w ((execOp a.eval o).run P w) v es := by
 have hx := ev_RT (E := E) hf o.type x
 rcases ho with ho | ho <;>
  (simp only [stepOp, ho, Tr.eval, Option.some.injEq, Prod.mk.injEq] at h
   obtain ⟨rfl, rfl⟩ := h
   refine Done.pure hr (u := a.eval x) ?_ hx
   simp [execOp, ho])
theorem op_pick (hr : HR E keep w0 st.ent σ w) (hf : FRel E st.ent σ w st a) (c x y : Operand) (ho : o.op = .pick c x y) (h : (stepOp E call o st).eval = some (v, es)) :
 Done E keep w0 st.ent σ w ((execOp a.eval o).run P w) v es := by
 have hc := ev_RT (E := E) hf o.type c
 have hx := ev_RT (E := E) hf o.type x
 have hy := ev_RT (E := E) hf o.type y
 simp only [stepOp, ho] at h
 split at h
 ·rename_i b hb
  rw [hb] at hc
  have hcb := RT_bool hc
  cases b <;> simp only [Tr.eval, Option.some.injEq, Prod.mk.injEq] at h <;> obtain ⟨rfl, rfl⟩ := h
  ·refine Done.pure hr (u := a.eval y) ?_ hy
   simp [execOp, ho, hcb, asBool]
  ·refine Done.pure hr (u := a.eval x) ?_ hx
   simp [execOp, ho, hcb, asBool]
 ·simp [Tr.eval] at h
theorem eqGuard_int (op : BinOp) (t : TypeId) (x y : Operand) (k k' : IntKind) (m n : Int) : (eqGuard op t x y (.int k m) (.int k' n)).run P w = .ok () w := by
 unfold eqGuard
 split <;> simp
theorem arith_run {op : BinOp} {k : IntKind} {m n : Int} (h : (arith op k m n).eval = some (v, es)) (t : TypeId) (hs : op ≠ .shl) (hs' : op ≠ .shr) :
 es = [] ∧ ∃ u, (binOp op t (.int k m) (.int k n)).run P w = .ok u w ∧ RT E st.ent σ w v u := by
 cases op <;> simp only [arith, Tr.eval, Option.some.injEq, Prod.mk.injEq] at h
 case shl => exact absurd rfl hs
 case shr => exact absurd rfl hs'
 case quo =>
  split at h
  ·rename_i hb
   simp only [Option.some.injEq, Prod.mk.injEq] at h
   obtain ⟨rfl, rfl⟩ := h
   have hb : ¬ n = 0 := by simpa using hb
   exact ⟨rfl, _, by simp [binOp, Op.intDiv, hb], RT_mkint _ _⟩
  ·cases h
 case rem =>
  split at h
  ·rename_i hb
   simp only [Option.some.injEq, Prod.mk.injEq] at h
   obtain ⟨rfl, rfl⟩ := h
   have hb : ¬ n = 0 := by simpa using hb
   exact ⟨rfl, _, by simp [binOp, Op.intDiv, hb], RT_mkint _ _⟩
  ·cases h
 case eql => obtain ⟨rfl, rfl⟩ := h; exact ⟨rfl, .bool (decide (m = n)), by simp only [binOp, Op.intCmp, ne_eq, not_true_eq_false, if_false, Sem.run_pure]; rfl, RT_mkbool _⟩
 case neq => obtain ⟨rfl, rfl⟩ := h; exact ⟨rfl, .bool (!decide (m = n)), by simp only [binOp, Op.intCmp, ne_eq, not_true_eq_false, if_false, Sem.run_pure]; rfl, RT_mkbool _⟩
 case lss => obtain ⟨rfl, rfl⟩ := h; exact ⟨rfl, _, by simp [binOp, Op.intCmp], RT_mkbool _⟩
 case leq => obtain ⟨rfl, rfl⟩ := h; exact ⟨rfl, _, by simp [binOp, Op.intCmp], RT_mkbool _⟩
 case gtr => obtain ⟨rfl, rfl⟩ := h; exact ⟨rfl, _, by simp [binOp, Op.intCmp], RT_mkbool _⟩
 case geq => obtain ⟨rfl, rfl⟩ := h; exact ⟨rfl, _, by simp [binOp, Op.intCmp], RT_mkbool _⟩
 case add => obtain ⟨rfl, rfl⟩ := h; exact ⟨rfl, _, by simp [binOp, Op.intArith], RT_mkint _ _⟩
 case sub => obtain ⟨rfl, rfl⟩ := h; exact ⟨rfl, _, by simp [binOp, Op.intArith], RT_mkint _ _⟩
 case mul => obtain ⟨rfl, rfl⟩ := h; exact ⟨rfl, _, by simp [binOp, Op.intArith], RT_mkint _ _⟩
 case and => obtain ⟨rfl, rfl⟩ := h; exact ⟨rfl, _, by simp [binOp, Op.intBits], RT_mkint _ _⟩
 case or => obtain ⟨rfl, rfl⟩ := h; exact ⟨rfl, _, by simp [binOp, Op.intBits], RT_mkint _ _⟩
 case xor => obtain ⟨rfl, rfl⟩ := h; exact ⟨rfl, _, by simp [binOp, Op.intBits], RT_mkint _ _⟩
 case andNot => obtain ⟨rfl, rfl⟩ := h; exact ⟨rfl, _, by simp [binOp, Op.intBits], RT_mkint _ _⟩
theorem shift_run {k k' : IntKind} {m n : Int} (t : TypeId) (left : Bool) (hn : 0 ≤ n) :
 (binOp (if left then .shl else .shr) t (.int k m) (.int k' n)).run P w = .ok (.int k (if left then k.wrap (m * 2 ^ (min n.toNat k.bits)) else m.fdiv (2 ^ (min n.toNat k.bits)))) w := by
 have : ¬ n < 0 := by omega
 cases left <;> simp [binOp, Op.shift, this]
theorem equalIn_bool (n : Nat) {t : TypeId} {b c : Bool} (hd : (underlying t).run P w = .ok .bool w) : (Op.equalIn (n + 1) t (.bool b) (.bool c)).run P w = .ok (b == c) w := by
 unfold Op.equalIn
 simp only [Sem.run_bind, hd, Result.andThen_ok, Sem.run_pure]
theorem like_cells : ∀ (ps qs : List V) (xs ys : List Value), likeParts ps qs = true → ROL E st.ent σ w ps xs → ROL E st.ent σ w qs ys →
 ∃ tr, xs = lefts tr ∧ ys = rights tr ∧ sames tr = eqParts ps qs ∧ tr.length = psize ps
 | [], [], xs, ys, _, hx, hy => by
  simp only [ROL] at hx hy
  subst hx; subst hy
  exact ⟨[], rfl, rfl, rfl, rfl⟩
 | [], q :: qs, xs, ys, h, _, _ => by simp [likeParts] at h
 | p :: ps, [], xs, ys, h, _, _ => by cases p <;> simp [likeParts] at h
 | p :: ps, q :: qs, xs, ys, h, hx, hy => by
  simp only [ROL] at hx hy
  obtain ⟨a1, b1, rfl, h1, h2⟩ := hx
  obtain ⟨a2, b2, rfl, h3, h4⟩ := hy
  cases p <;> cases q <;> simp only [likeParts, Bool.and_eq_true, decide_eq_true_eq, Bool.false_eq_true] at h
  ·rename_i k m k' n
   obtain ⟨rfl, h⟩ := h
   obtain ⟨tr, t1, t2, t3, t4⟩ := like_cells ps qs b1 b2 h h2 h4
   simp only [RO1, RF] at h1 h3
   subst h1; subst h3; subst t1; subst t2
   exact ⟨(k, m, n) :: tr, rfl, rfl, by simp only [eqParts, ← t3]; simp [sames], by simp [psize, vsize1, t4]; omega⟩
  ·rename_i k n c k' m d
   obtain ⟨⟨rfl, hn⟩, h⟩ := h
   have hn := Nat.eq_of_beq_eq_true hn
   subst hn
   obtain ⟨tr, t1, t2, t3, t4⟩ := like_cells ps qs b1 b2 h h2 h4
   simp only [RO1, RF] at h1 h3
   subst h1; subst h3; subst t1; subst t2
   refine ⟨((List.range n).map fun j => (k, c j, d j)) ++ tr, by simp [lefts], by simp [rights], ?_, by simp [psize, vsize1, t4]⟩
   simp only [eqParts, ← t3]
   simp [sames, allEq, List.all_map]; rfl
theorem RT_str {s : ByteArray} {u : Value} (h : RT E st.ent σ w (.str s) u) : u = .string s := by
 have := h.2; simpa [RO1, RF] using this
theorem RT_mkstr (s : ByteArray) : RT E st.ent σ w (.str s) (.string s) := ⟨rfl, by simp [RO1, RF]⟩
theorem op_bin (hE : EnvOk E P) (hr : HR E keep w0 st.ent σ w) (hf : FRel E st.ent σ w st a) (op : BinOp) (t : TypeId) (x y : Operand) (yt : TypeId) (ho : o.op = .binOp op t x y yt) (h : (stepOp E call o st).eval = some (v, es)) :
 Done E keep w0 st.ent σ w ((execOp a.eval o).run P w) v es := by
 have hx := ev_RT (E := E) hf o.type x
 have hy := ev_RT (E := E) hf o.type y
 simp only [stepOp, ho, bin] at h
 split at h
 ·rename_i k m k' n h1 h2
  rw [h1] at hx
  rw [h2] at hy
  have ex := RT_int hx
  have ey := RT_int hy
  split at h
  ·simp only [Tr.eval] at h
   split at h
   ·rename_i hb
    simp only [Option.some.injEq, Prod.mk.injEq] at h
    obtain ⟨rfl, rfl⟩ := h
    refine Done.pure hr ?_ (RT_mkint _ _)
    have := shift_run (P := P) (w := w) (k := k) (k' := k') (m := m) t true (of_decide_eq_true hb)
    simp only [if_true] at this
    simp [execOp, ho, ex, ey, eqGuard_int, this]
   ·cases h
  ·simp only [Tr.eval] at h
   split at h
   ·rename_i hb
    simp only [Option.some.injEq, Prod.mk.injEq] at h
    obtain ⟨rfl, rfl⟩ := h
    refine Done.pure hr ?_ (RT_mkint _ _)
    have := shift_run (P := P) (w := w) (k := k) (k' := k') (m := m) t false (of_decide_eq_true hb)
    simp only [Bool.false_eq_true, if_false] at this
    simp [execOp, ho, ex, ey, eqGuard_int, this]
   ·cases h
  ·rename_i hs hs'
   split at h
   ·rename_i hk
    have hk : k = k' := of_decide_eq_true hk
    subst hk
    obtain ⟨rfl, u, hu, hru⟩ := arith_run (P := P) (E := E) (st := st) (σ := σ) (w := w) h t hs hs'
    refine Done.pure hr (u := u) ?_ hru
    simp [execOp, ho, ex, ey, eqGuard_int, hu]
   ·simp [Tr.eval] at h
 ·rename_i b c h1 h2
  rw [h1] at hx
  rw [h2] at hy
  have ex := RT_bool hx
  have ey := RT_bool hy
  split at h
  ·rename_i ty ht
   obtain ⟨d, hd, htd⟩ := ty_run hE ht w
   have hq : (Op.equal t (.bool b) (.bool c)).run P w = .ok (b == c) w ∨ ¬ (∃ _ : ty.d = .bool, True) := by
    by_cases hb : ty.d = .bool
    ·left
     rw [hb] at htd
     cases d <;> simp only [tyD] at htd
     exact equalIn_bool 9999 hd
    ·right
     intro ⟨h', _⟩
     exact hb h'
   split at h
   ·rename_i hb
    have hq := hq.resolve_right (fun h' => h' ⟨hb, trivial⟩)
    simp only [Tr.eval, Option.some.injEq, Prod.mk.injEq] at h
    obtain ⟨rfl, rfl⟩ := h
    refine Done.pure hr (u := .bool (b == c)) ?_ (RT_mkbool _)
    simp [execOp, ho, ex, ey, eqGuard, binOp, hq]
   ·rename_i hb
    have hq := hq.resolve_right (fun h' => h' ⟨hb, trivial⟩)
    simp only [Tr.eval, Option.some.injEq, Prod.mk.injEq] at h
    obtain ⟨rfl, rfl⟩ := h
    refine Done.pure hr (u := .bool (!(b == c))) ?_ (RT_mkbool _)
    simp [execOp, ho, ex, ey, eqGuard, binOp, hq]
   ·simp [Tr.eval] at h
  ·simp [Tr.eval] at h
 ·rename_i ps qs h1 h2
  rw [h1] at hx
  rw [h2] at hy
  obtain ⟨xs, ex, hxs⟩ := hx
  obtain ⟨ys, ey, hys⟩ := hy
  split at h
  ·rename_i ty ht
   split at h
   ·rename_i fs hd hl hsz
    obtain ⟨tr, t1, t2, t3, t4⟩ := like_cells ps qs _ _ hl hxs hys
    have hsz : psize ps = ty.size := Nat.eq_of_beq_eq_true hsz
    split at h
    ·rename_i heq
     obtain ⟨hq, hg⟩ := hE.eqa t ty ht heq (by rw [hd]; rfl) tr xs ys (t4.trans hsz) t1 t2 w
     simp only [Tr.eval, Option.some.injEq, Prod.mk.injEq] at h
     obtain ⟨rfl, rfl⟩ := h
     refine Done.pure hr (u := .bool (eqParts ps qs)) ?_ (RT_mkbool _)
     rw [t3] at hq
     simp [execOp, ho, ex, ey, eqGuard, binOp, hq, hg]
    ·rename_i heq
     obtain ⟨hq, hg⟩ := hE.eqa t ty ht heq (by rw [hd]; rfl) tr xs ys (t4.trans hsz) t1 t2 w
     simp only [Tr.eval, Option.some.injEq, Prod.mk.injEq] at h
     obtain ⟨rfl, rfl⟩ := h
     refine Done.pure hr (u := .bool (!eqParts ps qs)) ?_ (RT_mkbool _)
     rw [t3] at hq
     simp [execOp, ho, ex, ey, eqGuard, binOp, hq, hg]
    ·simp [Tr.eval] at h
   ·simp [Tr.eval] at h
  ·simp [Tr.eval] at h
 ·rename_i k n c k' n' d h1 h2
  rw [h1] at hx
  rw [h2] at hy
  obtain ⟨xs, ex, hxs⟩ := hx
  obtain ⟨ys, ey, hys⟩ := hy
  split at h
  ·rename_i ty ht
   split at h
   ·rename_i hd hk hn hsz
    have hk : k = k' := of_decide_eq_true hk
    have hn : n = n' := Nat.eq_of_beq_eq_true hn
    have hsz : n = ty.size := Nat.eq_of_beq_eq_true hsz
    subst hk
    subst hn
    have eqa := fun heq => hE.eqa t ty ht heq (by rw [hd]; rfl) ((List.range n).map fun j => (k, c j, d j)) xs ys (by simpa using hsz) (by rw [hxs]; simp [lefts]) (by rw [hys]; simp [rights]) w
    have hsame : sames ((List.range n).map fun j => (k, c j, d j)) = allEq n c d := by simp [sames, allEq, List.all_map]; rfl
    rw [hsame] at eqa
    split at h
    ·rename_i heq
     obtain ⟨hq, hg⟩ := eqa heq
     simp only [Tr.eval, Option.some.injEq, Prod.mk.injEq] at h
     obtain ⟨rfl, rfl⟩ := h
     refine Done.pure hr (u := .bool (allEq n c d)) ?_ (RT_mkbool _)
     simp [execOp, ho, ex, ey, eqGuard, binOp, hq, hg]
    ·rename_i heq
     obtain ⟨hq, hg⟩ := eqa heq
     simp only [Tr.eval, Option.some.injEq, Prod.mk.injEq] at h
     obtain ⟨rfl, rfl⟩ := h
     refine Done.pure hr (u := .bool (!allEq n c d)) ?_ (RT_mkbool _)
     simp [execOp, ho, ex, ey, eqGuard, binOp, hq, hg]
    ·simp [Tr.eval] at h
   ·simp [Tr.eval] at h
  ·simp [Tr.eval] at h
 ·rename_i s1 s2 h1 h2
  rw [h1] at hx
  rw [h2] at hy
  have ex := RT_str hx
  have ey := RT_str hy
  split at h
  ·simp only [Tr.eval] at h
   split at h
   ·rename_i hb
    simp only [Option.some.injEq, Prod.mk.injEq] at h
    obtain ⟨rfl, rfl⟩ := h
    have hb : ((s1.size + s2.size : Nat) : Int) ≤ 9223372036854775807 := of_decide_eq_true hb
    have hm : IntKind.i64.max = 9223372036854775807 := by decide +kernel
    have hn : ¬ ((s1.size + s2.size : Nat) : Int) > IntKind.i64.max := by rw [hm]; omega
    have hq : (Op.stringOp .add s1 s2).run P w = .ok (.string (s1 ++ s2)) w := by
     simp only [Op.stringOp]; rw [if_neg hn]; rfl
    refine Done.pure hr (u := .string (s1 ++ s2)) ?_ (RT_mkstr _)
    simp [execOp, ho, ex, ey, eqGuard, binOp, hq]
   ·cases h
  ·simp only [Tr.eval, Option.some.injEq, Prod.mk.injEq] at h
   obtain ⟨rfl, rfl⟩ := h
   refine Done.pure hr (u := .bool (s1.toList == s2.toList)) ?_ (RT_mkbool _)
   simp [execOp, ho, ex, ey, eqGuard, binOp, Op.stringOp]
  ·simp only [Tr.eval, Option.some.injEq, Prod.mk.injEq] at h
   obtain ⟨rfl, rfl⟩ := h
   refine Done.pure hr (u := .bool (!(s1.toList == s2.toList))) ?_ (RT_mkbool _)
   simp [execOp, ho, ex, ey, eqGuard, binOp, Op.stringOp]
  ·simp [Tr.eval] at h
 ·simp [Tr.eval] at h
theorem op_un (hr : HR E keep w0 st.ent σ w) (hf : FRel E st.ent σ w st a) (op : UnOp) (t : TypeId) (x : Operand) (ho : o.op = .unOp op t x) (h : (stepOp E call o st).eval = some (v, es)) :
 Done E keep w0 st.ent σ w ((execOp a.eval o).run P w) v es := by
 have hx := ev_RT (E := E) hf o.type x
 simp only [stepOp, ho] at h
 split at h
 ·rename_i b hb
  rw [hb] at hx
  have ex := RT_bool hx
  simp only [Tr.eval, Option.some.injEq, Prod.mk.injEq] at h
  obtain ⟨rfl, rfl⟩ := h
  refine Done.pure hr (u := .bool (!b)) ?_ (RT_mkbool _)
  simp [execOp, ho, ex, Op.unary]
 ·rename_i k n hb
  rw [hb] at hx
  have ex := RT_int hx
  simp only [Tr.eval, Option.some.injEq, Prod.mk.injEq] at h
  obtain ⟨rfl, rfl⟩ := h
  refine Done.pure hr (u := .int k (k.wrap (0 - n))) ?_ (RT_mkint _ _)
  simp [execOp, ho, ex, Op.unary, Op.intArith]
 ·simp [Tr.eval] at h
theorem op_convert (hE : EnvOk E P) (hr : HR E keep w0 st.ent σ w) (hf : FRel E st.ent σ w st a) (s t : TypeId) (x : Operand) (ho : o.op = .convert s t x) (h : (stepOp E call o st).eval = some (v, es)) :
 Done E keep w0 st.ent σ w ((execOp a.eval o).run P w) v es := by
 have hx := ev_RT (E := E) hf 0 x
 simp only [stepOp, ho] at h
 split at h
 ·rename_i sty ty k' n hs ht hv
  rw [hv] at hx
  have ex := RT_int hx
  split at h
  ·rename_i k hd
   simp only [Tr.eval, Option.some.injEq, Prod.mk.injEq] at h
   obtain ⟨rfl, rfl⟩ := h
   refine Done.pure hr (u := .int k (k.wrap n)) ?_ (RT_mkint _ _)
   obtain ⟨d1, h1, _⟩ := ty_run hE hs w
   obtain ⟨d2, h2, h3⟩ := ty_run hE ht w
   rw [hd] at h3
   cases d2 <;> simp only [tyD] at h3
   subst h3
   simp [execOp, ho, ex, convert, h1, h2, Conv.intToInt]
  ·simp [Tr.eval] at h
 ·simp [Tr.eval] at h
theorem RTL_nth : ∀ (vs : List V) (us : List Value) (i : Nat) (x : V), RTL E st.ent σ w vs us → nth vs i = some x → ∃ u, us[i]? = some u ∧ RTc E st.ent σ w x u
 | [], us, i, x, h, hn => by cases i <;> simp [nth] at hn
 | y :: vs, us, 0, x, h, hn => by
  rw [RTL_cons] at h
  obtain ⟨u, l, rfl, h2, h3⟩ := h
  simp only [nth, Option.some.injEq] at hn
  subst hn
  exact ⟨u, rfl, h2⟩
 | y :: vs, us, i + 1, x, h, hn => by
  rw [RTL_cons] at h
  obtain ⟨u, l, rfl, h2, h3⟩ := h
  simp only [nth] at hn
  obtain ⟨u', h4, h5⟩ := RTL_nth vs l i x h3 hn
  exact ⟨u', by simpa using h4, h5⟩
theorem RT_of_RTc {x : V} {u : Value} (h : RTc E st.ent σ w x u) : RT E st.ent σ w x u := by
 cases x with
 | dead => trivial
 | und => have := h.2; simp [RO1, RF] at this
 | tup vs => have := h.2; simp [RO1, RF] at this
 | _ => exact h
theorem op_extract (hr : HR E keep w0 st.ent σ w) (hf : FRel E st.ent σ w st a) (x : Operand) (i : Nat) (ho : o.op = .extract x i) (h : (stepOp E call o st).eval = some (v, es)) :
 Done E keep w0 st.ent σ w ((execOp a.eval o).run P w) v es := by
 have hx := ev_RT (E := E) hf 0 x
 simp only [stepOp, ho] at h
 split at h
 ·rename_i vs hv
  rw [hv] at hx
  obtain ⟨us, ex, hl⟩ := hx
  split at h
  ·rename_i y hy
   simp only [Tr.eval, Option.some.injEq, Prod.mk.injEq] at h
   obtain ⟨rfl, rfl⟩ := h
   obtain ⟨u, hu, hru⟩ := RTL_nth vs us.toList i _ hl hy
   have hu : us[i]? = some u := by simpa using hu
   refine Done.pure hr (u := u) ?_ (RT_of_RTc hru)
   simp [execOp, ho, ex, Instr.extract, hu]
  ·simp [Tr.eval] at h
 ·simp [Tr.eval] at h
theorem RTc_of_RT {x : V} {u : Value} (hx : capOk x = true) (h : RT E st.ent σ w x u) : RTc E st.ent σ w x u := by
 cases x <;> first
  | exact h
  | (simp [capOk, oneV] at hx; done)
theorem RTL_caps {a : Act} (hf : FRel E st.ent σ w st a) : ∀ (l : List Operand), capsOk (l.map (st.ev E 0)) = true → RTL E st.ent σ w (l.map (st.ev E 0)) (l.map a.eval)
 | [], _ => by simp only [List.map_nil, RTL]
 | x :: l, h => by
  simp only [List.map_cons, capsOk] at h
  split at h
  ·rename_i hc
   rw [List.map_cons, List.map_cons, RTL_cons]
   exact ⟨_, _, rfl, RTc_of_RT hc (ev_RT hf 0 x), RTL_caps hf l h⟩
  ·cases h
theorem op_func (hr : HR E keep w0 st.ent σ w) (hf : FRel E st.ent σ w st a) (f : FuncId) (first caps : Array Operand) (ho : o.op = .makeFunc (.func f) first caps) (h : (stepOp E call o st).eval = some (v, es)) :
 Done E keep w0 st.ent σ w ((execOp a.eval o).run P w) v es := by
 simp only [stepOp, ho] at h
 split at h
 ·rename_i hfirst
  split at h
  ·rename_i hc hb
   simp only [Tr.eval, Option.some.injEq, Prod.mk.injEq] at h
   obtain ⟨rfl, rfl⟩ := h
   have hcap := RTL_caps (E := E) hf caps.toList hc
   have h0 : first = #[] := by
    cases first with
    | mk l => simp only at hfirst; subst hfirst; rfl
   refine Done.pure hr (u := .func (.func f) #[] (caps.map a.eval)) ?_ ?_
   ·simp [execOp, ho, Instr.makeFunc, h0]
   ·refine ⟨rfl, ?_⟩
    show RO1 E st.ent σ w (.clo f _) _
    simp only [RO1]
    refine ⟨caps.toList.map a.eval, ?_, hcap⟩
    cases caps with
    | mk l =>
     cases l with
     | nil => simp [cloVal]
     | cons x l => simp [cloVal, hb]
  ·simp [Tr.eval] at h
 ·rename_i y l hfirst
  split at h
  ·rename_i hcaps hc
   simp only [Tr.eval, Option.some.injEq, Prod.mk.injEq] at h
   obtain ⟨rfl, rfl⟩ := h
   have hcap := RTL_caps (E := E) hf first.toList hc
   have h0 : caps = #[] := by
    cases caps with
    | mk l => simp only at hcaps; subst hcaps; rfl
   refine Done.pure hr (u := .func (.func f) (first.map a.eval) #[]) ?_ ?_
   ·simp [execOp, ho, Instr.makeFunc, h0]
   ·refine ⟨rfl, ?_⟩
    show RO1 E st.ent σ w (.clo (thBase + f) _) _
    simp only [RO1]
    refine ⟨first.toList.map a.eval, ?_, hcap⟩
    have hb : Nat.blt (thBase + f) thBase = false := by
     cases hb : Nat.blt (thBase + f) thBase with
     | false => rfl
     | true => have := Nat.blt_eq.mp hb; omega
    cases first with
    | mk l =>
     simp only at hfirst
     subst hfirst
     simp [cloVal, hb]
  ·simp [Tr.eval] at h
theorem op_nilCheck (hr : HR E keep w0 st.ent σ w) (hf : FRel E st.ent σ w st a) (x : Operand) (ho : o.op = .nilCheck x) (h : (stepOp E call o st).eval = some (v, es)) :
 Done E keep w0 st.ent σ w ((execOp a.eval o).run P w) v es := by
 have hx := ev_RT (E := E) hf 0 x
 simp only [stepOp, ho] at h
 split at h
 ·rename_i i pi rel ext hv
  rw [hv] at hx
  split at h
  ·rename_i ps hp
   simp only [Tr.eval, Option.some.injEq, Prod.mk.injEq] at h
   obtain ⟨rfl, rfl⟩ := h
   have hx2 : RO1 E st.ent σ w (.ptr i pi rel ext) [a.eval x] := hx.2
   simp only [RO1] at hx2
   obtain ⟨u, h1, h2, h3, h4⟩ := hx2
   obtain ⟨b, _, hu, _⟩ := h4 ps hp
   simp only [List.cons.injEq, and_true] at h1
   refine Done.pure hr (u := a.eval x) ?_ hx
   rw [hu] at h1
   simp [execOp, ho, h1]
  ·simp [Tr.eval] at h
 ·rename_i ps pi rel ext hv
  rw [hv] at hx
  simp only [Tr.eval, Option.some.injEq, Prod.mk.injEq] at h
  obtain ⟨rfl, rfl⟩ := h
  have hx2 : RO1 E st.ent σ w (.ref ps pi rel ext) [a.eval x] := hx.2
  simp only [RO1, RF] at hx2
  obtain ⟨b, o', us, h1, _⟩ := hx2
  simp only [List.cons.injEq, and_true] at h1
  refine Done.pure hr (u := a.eval x) ?_ hx
  simp [execOp, ho, h1]
 ·simp [Tr.eval] at h
end
end Go.Proofs.YthdnamhilcjnhaaGreatDoor
