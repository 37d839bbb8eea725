/- Lengths, slices of arrays, new rows, appends. -/
import Derived.Test.YthdnamhilcjnhaaGreatDoorRs9
namespace Go.Proofs.YthdnamhilcjnhaaGreatDoor
open Go Go.RowKit
set_option linter.unusedVariables false
set_option linter.unusedSimpArgs false
section
variable {E : Env} {P : Program} {keep : Nat → Prop} {w0 : World} {σ : Sg} {w : World} {st : St} {a : Act} {o : Oper} {v : V} {es : List (Nat × Ent)} {call : Nat → List V → Option V} {ent : Nat → Ent}
theorem arr_one {α : Type} {xs : Array α} {x : α} (h : xs.toList = [x]) : xs = #[x] := by
 apply Array.ext'; simpa using h
theorem arr_two {α : Type} {xs : Array α} {x y : α} (h : xs.toList = [x, y]) : xs = #[x, y] := by
 apply Array.ext'; simpa using h
theorem op_len (hE : EnvOk E P) (hr : HR E keep w0 st.ent σ w) (hf : FRel E st.ent σ w st a) (c : Call) (hc : c.callee = .builtin .len) (ho : o.op = .call c) (h : (stepOp E call o st).eval = some (v, es)) :
 Done E keep w0 st.ent σ w ((execOp a.eval o).run P w) v es := by
 simp only [stepOp, ho, hc] at h
 split at h
 ·rename_i x t hx ht
  have hx := arr_one hx
  have ht := arr_one ht
  split at h
  ·rename_i ty hty
   obtain ⟨d, hd1, hd2⟩ := ty_run hE hty w
   have hv := ev_RT (E := E) hf 0 x
   split at h
   ·rename_i e hd
    rw [hd] at hd2
    cases d <;> simp only [tyD] at hd2
    split at h
    ·rename_i n hn
     simp only [Tr.eval, Option.some.injEq, Prod.mk.injEq] at h
     obtain ⟨rfl, rfl⟩ := h
     obtain ⟨⟨A, cap, hu⟩, _⟩ := len_sound hr hv hn
     refine Done.pure hr (u := .int .i64 n) ?_ (RT_mkint _ _)
     simp [execOp, ho, hc, resolve, invoke, builtin, hx, ht, Builtin.len_, hd1, hu, goInt]
    ·simp [Tr.eval] at h
   ·rename_i hd
    rw [hd] at hd2
    cases d <;> simp only [tyD] at hd2
    split at h
    ·rename_i s hs
     simp only [Tr.eval, Option.some.injEq, Prod.mk.injEq] at h
     obtain ⟨rfl, rfl⟩ := h
     rw [hs] at hv
     have hu : a.eval x = .string s := by have := hv.2; simpa [RO1, RF] using this
     refine Done.pure hr (u := .int .i64 s.size) ?_ (RT_mkint _ _)
     simp [execOp, ho, hc, resolve, invoke, builtin, hx, ht, Builtin.len_, hd1, hu, goInt]
    ·simp [Tr.eval] at h
   ·simp [Tr.eval] at h
  ·simp [Tr.eval] at h
 ·simp [Tr.eval] at h
theorem RE_map {ok' : Nat → Prop} {b sz : Nat} (f : Nat → V) (g : Nat → List Value) (hl : ∀ i, (g i).length = sz) (hf : ∀ i, RF w ok' (f i) (g i)) : ∀ (n i o : Nat), (∀ j, i ≤ j → j < i + n → cellsAt w b (o + (j - i) * sz) (g j)) → RE w ok' ((List.range' i n).map f) b o sz
 | 0, i, o, _ => by simp [RE]
 | n + 1, i, o, hc => by
  simp only [List.range'_succ, List.map_cons, RE]
  refine ⟨⟨g i, hl i, hf i, by simpa using hc i (Nat.le_refl _) (by omega)⟩, RE_map f g hl hf n (i + 1) (o + sz) fun j h1 h2 => ?_⟩
  have := hc j (by omega) (by omega)
  rwa [show o + (j - i) * sz = o + sz + (j - (i + 1)) * sz by
   have : j - i = (j - (i + 1)) + 1 := by omega
   rw [this, Nat.succ_mul]; omega] at this
theorem elems_REo {ok' : Nat → Prop} {b ob : Nat} {us : List Value} {k : IntKind} {c : Nat → Int} {start m : Nat} (hc : cellsAt w b ob us) (hu : ∀ j, j < m → us[start + j]? = some (Value.int k (c j))) (sz n rel : Nat) (hle : rel + n * sz ≤ m) :
 RE w ok' (elems c k rel sz n) b (ob + start + rel) sz := by
 have cell : ∀ j, j < n → ∀ i, i < sz → w.cell? ⟨b, ob + start + rel + j * sz + i, none⟩ = some (Value.int k (c (rel + j * sz + i))) := by
  intro j hj i hi
  have h1 : (j + 1) * sz ≤ n * sz := Nat.mul_le_mul_right _ hj
  rw [Nat.succ_mul] at h1
  have := hc (start + (rel + j * sz + i)) _ (hu (rel + j * sz + i) (by omega))
  rwa [show ob + (start + (rel + j * sz + i)) = ob + start + rel + j * sz + i by omega] at this
 unfold elems
 split
 ·rename_i h1
  have h1 : sz = 1 := Nat.eq_of_beq_eq_true h1
  subst h1
  rw [List.range_eq_range']
  refine RE_map (fun i => .int k (c (rel + i))) (fun i => [.int k (c (rel + i))]) (fun _ => rfl) (fun i => by simp [RF]) n 0 _ fun j _ hj => ?_
  intro i u hiu
  cases i with
  | zero =>
   simp only [List.getElem?_cons_zero, Option.some.injEq] at hiu
   subst hiu
   have := cell j (by omega) 0 (by omega)
   simpa using this
  | succ i => simp at hiu
 ·rw [List.range_eq_range']
  refine RE_map (fun i => .ints k sz (fun j => c (rel + i * sz + j))) (fun i => (List.range sz).map fun j => .int k (c (rel + i * sz + j))) (fun _ => by simp) (fun i => by simp [RF]) n 0 _ fun j _ hj => ?_
  intro i u hiu
  rw [List.getElem?_map] at hiu
  rcases Nat.lt_or_ge i sz with h | h
  ·rw [List.getElem?_range h] at hiu
   simp only [Option.map_some, Option.some.injEq] at hiu
   subst hiu
   have := cell j (by omega) i h
   simpa using this
  ·rw [List.getElem?_eq_none (by simpa using h)] at hiu; cases hiu
theorem ints_cells {ok : Nat → Prop} {k : IntKind} {m : Nat} {c : Nat → Int} : ∀ {ps : List V} {pi : Nat} {us : List Value}, RFL w ok ps us → nth ps pi = some (.ints k m c) → ∀ j, j < m → us[startOf ps pi + j]? = some (Value.int k (c j))
 | [], pi, us, _, hn => by cases pi <;> simp [nth] at hn
 | p :: ps, 0, us, h, hn => by
  simp only [nth, Option.some.injEq] at hn
  subst hn
  simp only [RFL] at h
  obtain ⟨a1, b1, rfl, _, h2, _⟩ := h
  simp only [RF] at h2
  subst h2
  intro j hj
  simp only [startOf, Nat.zero_add]
  rw [List.getElem?_append_left (by simpa using hj)]
  simp [hj]
 | p :: ps, pi + 1, us, h, hn => by
  simp only [nth] at hn
  simp only [RFL] at h
  obtain ⟨a1, b1, rfl, h0, h2, h3⟩ := h
  intro j hj
  have hl := RF_len p a1 h0 h2
  simp only [startOf]
  rw [List.getElem?_append_right (by omega), show vsize1 p + startOf ps pi + j - a1.length = startOf ps pi + j by omega]
  exact ints_cells h3 hn j hj
theorem find_cases {α : Type} {id j : Nat} {r ee : α} {tb : List (Nat × α)} (h : find ((id, r) :: tb) j = some ee) : (j = id ∧ ee = r) ∨ (j ≠ id ∧ find tb j = some ee) := by
 by_cases hj : j = id
 ·subst hj
  rw [find_self] at h
  exact .inl ⟨rfl, (Option.some.inj h).symm⟩
 ·rw [find_other hj] at h
  exact .inr ⟨hj, h⟩
theorem mv_chg {id e' : Nat} {ys : List V} (hid : st.ent id = .none) {tb : List (Nat × Ent)} (htb : tb = [] ∨ ∃ i, tb = [(i, Ent.tomb)] ∧ i ≠ id ∧ (st.ent i).live = true) {v0 u1 : Value} {w' : World} (hkept : Kept (fun b' => b' < w.heap.size ∧ blk v0 ≠ some b') w w')
 (hv0 : ∀ b', blk v0 = some b' → ∃ i, tb = [(i, Ent.tomb)] ∧ blk (σ i) = some b') (hb1 : ∀ b', blk u1 = some b' → w.heap.size ≤ b' ∨ blk v0 = some b') :
 Chg st.ent σ w ((id, .row e' ys) :: tb) ⟨fun j => if j = id then u1 else σ j, σ.no⟩ w' := by
 have tomb : ∀ j ee, find tb j = some ee → ee = .tomb := by
  intro j ee h
  rcases htb with rfl | ⟨i, rfl, _, _⟩
  ·simp [find] at h
  ·exact (find_one h).2
 have at_i : ∀ i, tb = [(i, Ent.tomb)] → find ((id, Ent.row e' ys) :: tb) i = some .tomb ∧ (st.ent i).live = true := by
  intro i hi
  rcases htb with h | ⟨i', h, hne, hl⟩
  ·rw [h] at hi; cases hi
  ·rw [h] at hi
   simp only [List.cons.injEq, Prod.mk.injEq, and_true] at hi
   subst hi
   rw [find_other hne, h, find_self]
   exact ⟨rfl, hl⟩
 refine ⟨hkept.os, hkept.tape, hkept.output, hkept.size, rfl, ?_, ?_, ?_, ?_, ?_, ?_, ?_, ?_⟩
 ·intro j hj
  have : j ≠ id := fun h => by rw [h, find_self] at hj; cases hj
  show (if j = id then u1 else σ j) = σ j
  rw [if_neg this]
 ·intro k hk hn
  refine hkept.block k ⟨hk, fun h => ?_⟩
  obtain ⟨i, hi, hb⟩ := hv0 k h
  obtain ⟨h1, h2⟩ := at_i i hi
  exact hn i _ h1 h2 hb
 ·intro j ee b' hfi hl hb
  rcases find_cases hfi with ⟨rfl, rfl⟩ | ⟨hne, hfi2⟩
  ·replace hb : blk u1 = some b' := by simpa using hb
   rcases hb1 b' hb with h | h
   ·exact .inl h
   ·obtain ⟨i, hi, hb2⟩ := hv0 b' h
    obtain ⟨h1, h2⟩ := at_i i hi
    exact .inr ⟨i, _, h1, h2, hb2⟩
  ·rw [tomb j ee hfi2] at hl; cases hl
 ·intro p q ep eq b' hpq hp hq hl1 hl2
  rcases find_cases hp with ⟨rfl, rfl⟩ | ⟨_, hp2⟩
  ·rcases find_cases hq with ⟨rfl, rfl⟩ | ⟨_, hq2⟩
   ·exact absurd rfl hpq
   ·rw [tomb q eq hq2] at hl2; cases hl2
  ·rw [tomb p ep hp2] at hl1; cases hl1
 ·intro j ee hfi
  rcases find_cases hfi with ⟨rfl, rfl⟩ | ⟨_, hfi2⟩
  ·simp
  ·rw [tomb j ee hfi2]; simp
 ·intro j ps hfi
  rcases find_cases hfi with ⟨_, h⟩ | ⟨_, hfi2⟩
  ·cases h
  ·have := tomb j _ hfi2; cases this
 ·intro j ee xs2 hfi hne
  rcases find_cases hfi with ⟨rfl, _⟩ | ⟨_, hfi2⟩
  ·exact absurd hid hne
  ·have := tomb j _ hfi2; cases this
 ·intro j ks vs hfi
  rcases find_cases hfi with ⟨_, h⟩ | ⟨_, hfi2⟩
  ·cases h
  ·have := tomb j _ hfi2; cases this
theorem own_take {e sz n m cap : Nat} {A : Option Addr} {cells : List Value} (h : w.ownsRow 0 e sz (.slice A n cap) n cells) (hm : m ≤ n) : w.ownsRow 0 e sz (.slice A m cap) m (cells.take (m * sz)) := by
 have hle : m * sz ≤ n * sz := Nat.mul_le_mul_right _ hm
 refine ⟨by rw [List.length_take, h.1]; omega, ?_⟩
 rcases h.2 with ⟨h1, h2⟩ | ⟨g, cap', cur, h4, h5, h6, h7, h8, h9, h10⟩
 ·simp only [Value.slice.injEq] at h1
  obtain ⟨rfl, rfl, rfl⟩ := h1
  have : m = 0 := by omega
  subst this
  exact .inl ⟨rfl, rfl⟩
 ·simp only [Value.slice.injEq, true_and] at h4
  obtain ⟨rfl, rfl⟩ := h4
  refine .inr ⟨g, cap, cur, rfl, h5, h6, by omega, h8, h9, ?_⟩
  rw [← h10, List.take_take, Nat.min_eq_left hle]
theorem RRow_take {sz : Nat} : ∀ (m : Nat) (xs : List V) (cs : List Value), RRow ent σ w sz xs cs → RRow ent σ w sz (xs.take m) (cs.take (m * sz))
 | 0, xs, cs, _ => by simp only [List.take_zero, Nat.zero_mul]; rfl
 | m + 1, [], cs, h => by simp only [RRow] at h; subst h; simp [RRow]
 | m + 1, x :: xs, cs, h => by
  simp only [RRow] at h
  obtain ⟨a1, b1, rfl, h1, h2, h3⟩ := h
  have ih := RRow_take m xs b1 h3
  simp only [List.take_succ_cons, RRow]
  refine ⟨a1, b1.take (m * sz), ?_, h1, h2, ih⟩
  rw [List.take_append, Nat.succ_mul, h1, List.take_of_length_le (by omega), show m * sz + sz - sz = m * sz by omega]
theorem op_sliceRow (hr : HR E keep w0 st.ent σ w) {t e : Nat} (hd1 : P.underlying t = some (.slice e)) (hsz : ∀ W, (sizeOf e).run P W = .ok (E.sz e) W) {xv : V} {u : Value} (hx : RT E st.ent σ w xv u) {id : Nat} {m : Int} (h : (sliceRow st id xv m).eval = some (v, es)) {r : Result Next}
 (hres : ∀ v', (Instr.sliceAt t u none (some (.int .i64 m)) none).run P w = .ok v' w → r = .ok (.value v') w) : Done E keep w0 st.ent σ w r v es := by
 unfold sliceRow at h
 split at h
 ·simp only [Tr.eval] at h
  split at h
  ·rename_i h0
   have h0 := of_decide_eq_true h0
   subst h0
   simp only [Option.some.injEq, Prod.mk.injEq] at h
   obtain ⟨rfl, rfl⟩ := h
   have hx2 : RO1 E st.ent σ w .nils [u] := hx.2
   simp only [RO1, RF, List.cons.injEq, and_true] at hx2
   subst hx2
   refine Done.pure hr (u := .slice none 0 0) ?_ hx
   exact hres _ (by simp [Instr.sliceAt, run_underlying hd1, Instr.slice, Instr.sliceBounds, Instr.sliceBound, asIntOf, hsz])
  ·cases h
 ·rename_i i
  split at h
  ·rename_i e' xs hp hn
   simp only [Tr.eval] at h
   split at h
   ·rename_i hb
    simp only [Bool.and_eq_true, decide_eq_true_eq] at hb
    simp only [Option.some.injEq, Prod.mk.injEq] at h
    obtain ⟨rfl, rfl⟩ := h
    have hu := RT_row hr hx hp
    have hlive : (st.ent i).live = true := by rw [hp]; rfl
    have he := hr.ents i
    have hbs : ∀ b, blk (σ i) = some b → b < w.heap.size := fun b hb' => (EntR_blk he hlive hb').2
    unfold EntR at he
    rw [hp] at he
    obtain ⟨cells, k1, k2, k3⟩ := he
    have hne : i ≠ id := fun h6 => by rw [h6, hn] at hp; cases hp
    obtain ⟨A, cap, hs⟩ : ∃ A cap, σ i = .slice A xs.length cap ∧ (A = none ∨ ∃ g, A = some ⟨g, 0, none⟩) ∧ xs.length ≤ cap := by
     rcases k1.2 with ⟨h4, h5⟩ | ⟨g, cap, cur, h4, h5, h6, h7, h8⟩
     ·exact ⟨none, 0, by rw [h4, h5], .inl rfl, by omega⟩
     ·exact ⟨_, cap, h4, .inr ⟨g, rfl⟩, h7⟩
    obtain ⟨hs, hA, hcap⟩ := hs
    rw [hs] at k1
    have hrun : (Instr.sliceAt t u none (some (.int .i64 m)) none).run P w = .ok (.slice A m.toNat cap) w := by
     rw [hu, hs]
     have hmc : m ≤ (cap : Int) := by omega
     rcases hA with rfl | ⟨g, rfl⟩
     ·simp [Instr.sliceAt, run_underlying hd1, Instr.slice, Instr.sliceBounds, Instr.sliceBound, asIntOf, hsz, hb.1, hmc]
     ·simp [Instr.sliceAt, run_underlying hd1, Instr.slice, Instr.sliceBounds, Instr.sliceBound, asIntOf, hsz, hb.1, hmc, Addr.add]
    have hown := own_take (m := m.toNat) k1 (by omega)
    have hb1 : ∀ b', blk (Value.slice A m.toNat cap) = some b' → blk (σ i) = some b' := by
     intro b' h'
     rw [hs]
     rcases hA with rfl | ⟨g, rfl⟩
     ·simp [blk] at h'
     ·exact h'
    have hchg := mv_chg (σ := σ) (w := w) (e' := e') (ys := xs.take m.toNat) hn (tb := [(i, .tomb)]) (.inr ⟨i, rfl, hne, hlive⟩) (v0 := σ i) (u1 := .slice A m.toNat cap) (w' := w) (Kept.refl _ _) (fun b' hb' => ⟨i, rfl, hb'⟩) (fun b' hb' => .inr (hb1 b' hb'))
    refine Done.chg hr (nx := .value (.slice A m.toNat cap)) (u := .slice A m.toNat cap) (w' := w) (σ' := ⟨fun j => if j = id then .slice A m.toNat cap else σ j, σ.no⟩) (hres _ hrun) (.inl rfl) hchg ?_ ?_
    ·intro hx' j ee hfi
     rcases find_cases hfi with ⟨rfl, rfl⟩ | ⟨hne2, hfi2⟩
     ·unfold EntR
      rw [updE_some hfi]
      refine ⟨cells.take (m.toNat * E.sz e'), ?_, RRow_move hx'.ok _ _ (RRow_take _ _ _ k2), fun b' hb' => ?_⟩
      ·simp only [if_true]
       rw [List.length_take, Nat.min_eq_left (by omega)]
       exact hown
      ·replace hb' : blk (Value.slice A m.toNat cap) = some b' := by simpa using hb'
       exact k3 b' (hb1 b' hb')
     ·obtain ⟨rfl, rfl⟩ := find_one hfi2
      unfold EntR
      rw [updE_some hfi]
      trivial
    ·intro hx'
     refine ⟨rfl, ?_⟩
     show RO1 E _ _ _ (.row id) _
     simp only [RO1]
     exact ⟨_, rfl, rfl, by rw [updE_some find_self]; simp, fun _ _ _ => by simp⟩
   ·cases h
  ·simp [Tr.eval] at h
 ·simp [Tr.eval] at h
theorem op_sliceStr (hE : EnvOk E P) (hr : HR E keep w0 st.ent σ w) (hf : FRel E st.ent σ w st a) (t : TypeId) (x : Operand) (lo hi mx : Option Operand) (ho : o.op = .slice t x lo hi mx) {s : ByteArray} (hv : st.ev E 0 x = .str s) (h : (strSl E st t s lo hi mx).eval = some (v, es)) :
 Done E keep w0 st.ent σ w ((execOp a.eval o).run P w) v es := by
 have hx := ev_RT (E := E) hf 0 x
 rw [hv] at hx
 have ex := RT_str hx
 unfold strSl at h
 split at h
 ·rename_i ty ht
  split at h
  ·rename_i hd
   obtain ⟨d, hd1, hd2⟩ := ty_run hE ht w
   rw [hd] at hd2
   cases d <;> simp only [tyD] at hd2
   split at h
   ·split at h
    ·simp only [Tr.eval, Option.some.injEq, Prod.mk.injEq] at h
     obtain ⟨rfl, rfl⟩ := h
     refine Done.pure hr (u := .string (s.extract 0 s.size)) ?_ (RT_mkstr _)
     simp [execOp, ho, ex, Instr.sliceAt, Instr.slice, hd1, Instr.sliceBounds]
    ·rename_i l
     have hl := ev_RT (E := E) hf 0 l
     split at h
     ·rename_i k m hm
      rw [hm] at hl
      have el := RT_int hl
      simp only [Tr.eval] at h
      split at h
      ·rename_i hb
       simp only [Bool.and_eq_true, decide_eq_true_eq] at hb
       simp only [Option.some.injEq, Prod.mk.injEq] at h
       obtain ⟨rfl, rfl⟩ := h
       refine Done.pure hr (u := .string (s.extract m.toNat s.size)) ?_ (RT_mkstr _)
       simp [execOp, ho, ex, el, Instr.sliceAt, Instr.slice, hd1, Instr.sliceBounds, Instr.sliceBound, asIntOf, hb]
      ·cases h
     ·simp [Tr.eval] at h
   ·rename_i q0
    have hq := ev_RT (E := E) hf 0 q0
    split at h
    ·rename_i k q hm
     rw [hm] at hq
     have eq := RT_int hq
     split at h
     ·simp only [Tr.eval] at h
      split at h
      ·rename_i hb
       simp only [Bool.and_eq_true, decide_eq_true_eq] at hb
       simp only [Option.some.injEq, Prod.mk.injEq] at h
       obtain ⟨rfl, rfl⟩ := h
       refine Done.pure hr (u := .string (s.extract 0 q.toNat)) ?_ (RT_mkstr _)
       simp [execOp, ho, ex, eq, Instr.sliceAt, Instr.slice, hd1, Instr.sliceBounds, Instr.sliceBound, asIntOf, hb]
      ·cases h
     ·rename_i l
      have hl := ev_RT (E := E) hf 0 l
      split at h
      ·rename_i k' m hm'
       rw [hm'] at hl
       have el := RT_int hl
       simp only [Tr.eval] at h
       split at h
       ·rename_i hb
        split at h
        ·rename_i hb2
         simp only [Bool.and_eq_true, decide_eq_true_eq] at hb hb2
         simp only [Option.some.injEq, Prod.mk.injEq] at h
         obtain ⟨rfl, rfl⟩ := h
         refine Done.pure hr (u := .string (s.extract m.toNat q.toNat)) ?_ (RT_mkstr _)
         have hb3 : m ≤ q := by omega
         simp [execOp, ho, ex, el, eq, Instr.sliceAt, Instr.slice, hd1, Instr.sliceBounds, Instr.sliceBound, asIntOf, hb, hb2, hb3]
         intro hc; omega
        ·cases h
       ·cases h
      ·simp [Tr.eval] at h
    ·simp [Tr.eval] at h
  ·simp [Tr.eval] at h
 ·simp [Tr.eval] at h
theorem op_slice (hE : EnvOk E P) (hr : HR E keep w0 st.ent σ w) (hf : FRel E st.ent σ w st a) (t : TypeId) (x : Operand) (lo hi mx : Option Operand) (ho : o.op = .slice t x lo hi mx) (h : (stepOp E call o st).eval = some (v, es)) :
 Done E keep w0 st.ent σ w ((execOp a.eval o).run P w) v es := by
 simp only [stepOp, ho] at h
 split at h
 ·rename_i s hv
  exact op_sliceStr hE hr hf t x lo hi mx ho hv h
 split at h
 ·rename_i ty ht
  split at h
  ·rename_i n e hd
   have hx := ev_RT (E := E) hf 0 x
   split at h
   ·rename_i i pi rel ext hv
    rw [hv] at hx
    split at h
    ·rename_i ps hp
     split at h
     ·rename_i k m c hn
      split at h
      ·rename_i hem0 hne0 hnm0
       have hem : ext ≤ m := Nat.le_of_ble_eq_true hem0
       have hne : n * E.sz e ≤ ext := Nat.le_of_ble_eq_true hne0
       have hnm : n ≤ 1048576 := Nat.le_of_ble_eq_true hnm0
       obtain ⟨d, _, _, hd0, hd2, _, _, _, _, _, _, _, _, harr, _⟩ := hE.ty t ty ht
       have hd1 := run_underlying (P := P) hd0 w
       have hsome := (harr n e hd).2
       have hsz := sz_run' (P := P) hE hsome w
       rw [hd] at hd2
       cases d <;> simp only [tyD] at hd2
       obtain ⟨rfl, rfl⟩ := hd2
       rename_i n e
       have hx2 : RO1 E st.ent σ w (.ptr i pi rel ext) [a.eval x] := hx.2
       simp only [RO1] at hx2
       obtain ⟨u', h1, h2, h3, h4⟩ := hx2
       simp only [List.cons.injEq, and_true] at h1
       subst h1
       obtain ⟨b, hb, hu, hk⟩ := h4 ps hp
       have hext : rel + n * E.sz e ≤ m := by
        rcases hk with ⟨p, hp1, hp2⟩ | ⟨hp1, _⟩
        ·rw [hn] at hp1; cases hp1; simp only [vsize1] at hp2; omega
        ·omega
       have main : ∀ h, h ≤ n → RT E st.ent σ w (.arr i pi rel h (E.sz e)) (.slice (some ⟨b, startOf ps pi + rel, none⟩) h n) := by
        intro q hq
        refine ⟨rfl, ?_⟩
        show RO1 E st.ent σ w (.arr i pi rel q (E.sz e)) _
        simp only [RO1]
        refine ⟨_, rfl, rfl, h3, fun ps1 hp1 => ?_⟩
        rw [hp] at hp1
        cases hp1
        have := Nat.mul_le_mul_right (E.sz e) hq
        exact ⟨b, n, hb, rfl, by simp only [maxLen]; omega, k, m, c, hn, by omega⟩
       split at h
       ·simp only [Tr.eval, Option.some.injEq, Prod.mk.injEq] at h
        obtain ⟨rfl, rfl⟩ := h
        refine Done.pure hr (u := .slice (some ⟨b, startOf ps pi + rel, none⟩) n n) ?_ (main n (Nat.le_refl _))
        simp [execOp, ho, hu, Instr.sliceAt, hd1, Instr.sureAddr, Instr.sliceBounds, hsz, addr_add]
       ·rename_i hop
        have hh := ev_RT (E := E) hf 0 hop
        split at h
        ·rename_i k' z hz
         rw [hz] at hh
         have hh := RT_int hh
         simp only [Tr.eval] at h
         split at h
         ·rename_i hb2
          simp only [Bool.and_eq_true, decide_eq_true_eq] at hb2
          simp only [Option.some.injEq, Prod.mk.injEq] at h
          obtain ⟨rfl, rfl⟩ := h
          refine Done.pure hr (u := .slice (some ⟨b, startOf ps pi + rel, none⟩) z.toNat n) ?_ (main _ (by omega))
          simp [execOp, ho, hu, Instr.sliceAt, hd1, Instr.sureAddr, Instr.sliceBounds, Instr.sliceBound, asIntOf, hh, hb2, hsz, addr_add]
         ·cases h
        ·simp [Tr.eval] at h
      ·simp [Tr.eval] at h
     ·simp [Tr.eval] at h
    ·simp [Tr.eval] at h
   ·rename_i ps pi rel ext hv
    rw [hv] at hx
    split at h
    ·rename_i k m c hn
     split at h
     ·rename_i hem0 hne0 hnm0
      have hem : ext ≤ m := Nat.le_of_ble_eq_true hem0
      have hne : n * E.sz e ≤ ext := Nat.le_of_ble_eq_true hne0
      have hnm : n ≤ 1048576 := Nat.le_of_ble_eq_true hnm0
      obtain ⟨d, _, _, hd0, hd2, _, _, _, _, _, _, _, _, harr, _⟩ := hE.ty t ty ht
      have hd1 := run_underlying (P := P) hd0 w
      have hsome := (harr n e hd).2
      have hsz := sz_run' (P := P) hE hsome w
      rw [hd] at hd2
      cases d <;> simp only [tyD] at hd2
      obtain ⟨rfl, rfl⟩ := hd2
      rename_i n e
      have hx2 : RO1 E st.ent σ w (.ref ps pi rel ext) [a.eval x] := hx.2
      simp only [RO1, RF] at hx2
      obtain ⟨b, ob, us, h1, hok, hrf, hc, hk⟩ := hx2
      simp only [List.cons.injEq, and_true] at h1
      have hext : rel + n * E.sz e ≤ m := by
       rcases hk with ⟨p, hp1, hp2⟩ | ⟨hp1, _⟩
       ·rw [hn] at hp1; cases hp1; simp only [vsize1] at hp2; omega
       ·omega
      have hus := ints_cells hrf hn
      have main : ∀ h, h ≤ n → RT E st.ent σ w (.sl (elems c k rel (E.sz e) h)) (.slice (some ⟨b, ob + startOf ps pi + rel, none⟩) h n) := by
       intro q hq
       refine ⟨rfl, ?_⟩
       show RO1 E st.ent σ w (.sl (elems c k rel (E.sz e) q)) _
       simp only [RO1, RF]
       have hlen : (elems c k rel (E.sz e) q).length = q := by unfold elems; split <;> simp
       have := Nat.mul_le_mul_right (E.sz e) hq
       refine ⟨some ⟨b, ob + startOf ps pi + rel, none⟩, n, by rw [hlen], by rw [hlen]; simp only [maxLen]; omega, .inr ⟨b, ob + startOf ps pi + rel, E.sz e, rfl, hok, elems_REo hc hus _ _ _ (by omega)⟩⟩
      split at h
      ·simp only [Tr.eval, Option.some.injEq, Prod.mk.injEq] at h
       obtain ⟨rfl, rfl⟩ := h
       refine Done.pure hr (u := .slice (some ⟨b, ob + startOf ps pi + rel, none⟩) n n) ?_ (main n (Nat.le_refl _))
       simp [execOp, ho, h1, Instr.sliceAt, hd1, Instr.sureAddr, Instr.sliceBounds, hsz, addr_add]
      ·rename_i hop
       have hh := ev_RT (E := E) hf 0 hop
       split at h
       ·rename_i k' z hz
        rw [hz] at hh
        have hh := RT_int hh
        simp only [Tr.eval] at h
        split at h
        ·rename_i hb2
         simp only [Bool.and_eq_true, decide_eq_true_eq] at hb2
         simp only [Option.some.injEq, Prod.mk.injEq] at h
         obtain ⟨rfl, rfl⟩ := h
         refine Done.pure hr (u := .slice (some ⟨b, ob + startOf ps pi + rel, none⟩) z.toNat n) ?_ (main _ (by omega))
         simp [execOp, ho, h1, Instr.sliceAt, hd1, Instr.sureAddr, Instr.sliceBounds, Instr.sliceBound, asIntOf, hh, hb2, hsz, addr_add]
        ·cases h
       ·simp [Tr.eval] at h
     ·simp [Tr.eval] at h
    ·simp [Tr.eval] at h
   ·simp [Tr.eval] at h
  ·rename_i e hd
   split at h
   ·rename_i hop
    have hh := ev_RT (E := E) hf 0 hop
    split at h
    ·rename_i k m hety hz
     split at h
     ·rename_i hk
      have hk := of_decide_eq_true hk
      subst hk
      rw [hz] at hh
      have hh := RT_int hh
      obtain ⟨d, _, _, hd0, hd2, _⟩ := hE.ty t ty ht
      rw [hd] at hd2
      cases d <;> simp only [tyD] at hd2
      subst hd2
      refine op_sliceRow hr hd0 (fun W => sz_run' (P := P) hE (by rw [hety]; rfl) W) (ev_RT (E := E) hf 0 x) h fun v' hv' => ?_
      simp [execOp, ho, hh, hv']
     ·simp [Tr.eval] at h
    ·simp [Tr.eval] at h
   ·simp [Tr.eval] at h
  ·simp [Tr.eval] at h
 ·simp [Tr.eval] at h
theorem zeroV_RF (hE : EnvOk E P) {e : Nat} {ety : TyI} {z : V} (he : E.ty e = some ety) (hz : zeroV E e = some z) (w : World) (ok : Nat → Prop) :
 ∃ i zv, P.info? e = some i ∧ i.zero = some zv ∧ i.size = ety.size ∧ i.bytes = ety.bytes ∧ zv.cells.size = ety.size ∧ RF w ok z zv.cells.toList := by
 obtain ⟨d, i, zv, h1, h2, h3, h4, h5, h6, h7, h8, _⟩ := hE.ty e ety he
 refine ⟨i, zv, h3, h6, h4, h5, h7, ?_⟩
 have h8 := h8 w ok
 unfold zeroV at hz
 rw [he] at hz
 simp only at hz
 split at hz
 ·simp only [Option.some.injEq] at hz
  subst hz
  simpa only [RF] using h8
 ·split at hz
  ·rename_i x hx
   simp only [Option.some.injEq] at hz
   subst hz
   rw [hx] at h8
   simp only [RFL] at h8
   obtain ⟨a1, b1, h9, _, h10, rfl⟩ := h8
   rw [h9, List.append_nil]
   exact h10
  ·cases hz
theorem RRow_rep {sz : Nat} {z : V} {zc : List Value} (hz : RF w (okB ent σ w) z zc) (hl : zc.length = sz) : ∀ n, RRow ent σ w sz (List.replicate n z) ((List.replicate n zc).flatten)
 | 0 => rfl
 | n + 1 => by
  simp only [List.replicate_succ, List.flatten_cons, RRow]
  exact ⟨zc, _, rfl, hl, hz, RRow_rep hz hl n⟩
theorem made_eq (z : Array Value) (n : Nat) (hz : 0 < z.size) : (madeCells z (n * z.size)).toList = (List.replicate n z.toList).flatten := by
 apply List.ext_getElem?
 intro j
 have key : ∀ n j, ((List.replicate n z.toList).flatten)[j]? = if j < n * z.size then z.toList[j % z.size]? else none := by
  intro n
  induction n with
  | zero => intro j; simp
  | succ n ih =>
   intro j
   rw [List.replicate_succ, List.flatten_cons, List.getElem?_append]
   by_cases h : j < z.size
   ·rw [if_pos (by simpa using h), if_pos (by rw [Nat.succ_mul]; omega), Nat.mod_eq_of_lt h]
   ·rw [if_neg (by simpa using h), ih]
    simp only [Array.length_toList]
    have hs : (n + 1) * z.size = n * z.size + z.size := Nat.succ_mul _ _
    by_cases h2 : j < (n + 1) * z.size
    ·rw [if_pos (by omega), if_pos h2]
     have : (j - z.size) % z.size = j % z.size := by
      conv => rhs; rw [← Nat.sub_add_cancel (Nat.le_of_not_lt h)]
      rw [Nat.add_mod_right]
     rw [this]
    ·rw [if_neg (by omega), if_neg h2]
 rw [key]
 unfold madeCells
 by_cases h : j < n * z.size
 ·rw [if_pos h]
  have hm : j % z.size < z.size := Nat.mod_lt _ hz
  simp [h, hm, Array.getElem?_eq_getElem hm]
 ·rw [if_neg h]
  simp [h]
theorem Done.row (hr : HR E keep w0 ent σ w) {r : Result Next} {u : Value} {w' : World} {id e : Nat} {xs : List V} {cells : List Value} (h : r = .ok (.value u) w') (hn : ent id = .none)
 (hg : w.grownBy w' none) (hu : ∀ b, blk u = some b → w.heap.size ≤ b) (h1 : u.oneCell' = true) (hown : w'.ownsRow 0 e (E.sz e) u xs.length cells) (hrow : RRow ent σ w (E.sz e) xs cells) :
 Done E keep w0 ent σ w r (.row id) [(id, .row e xs)] := by
 refine Done.chg hr (nx := .value u) (u := u) (w' := w') (σ' := σ.set id u) h (.inl rfl) (Chg.new hr (e' := .row e xs) hn (by simp) hg.os hg.tape hg.output hg.size (fun k hk => hg.block k hk (by simp)) hu) ?_ ?_
 ·intro hx j e' hf
  obtain ⟨rfl, rfl⟩ := find_one hf
  unfold EntR
  rw [updE_some hf]
  refine ⟨cells, by rw [Sg.set_self]; exact hown, RRow_move hx.ok _ _ hrow, fun b hb hk => ?_⟩
  rw [Sg.set_self] at hb
  have := hu b hb
  have := hr.klt b hk
  have := hr.kept.size
  omega
 ·intro hx
  refine ⟨h1, ?_⟩
  show RO1 E _ _ _ (.row id) _
  simp only [RO1]
  exact ⟨u, rfl, h1, by rw [updE_some find_self]; simp, fun e' xs' _ => (Sg.set_self _ _ _).symm⟩
theorem op_makeSlice (hE : EnvOk E P) (hr : HR E keep w0 st.ent σ w) (hf : FRel E st.ent σ w st a) (t : TypeId) (l c : Operand) (ho : o.op = .makeSlice t l c) (h : (stepOp E call o st).eval = some (v, es)) :
 Done E keep w0 st.ent σ w ((execOp a.eval o).run P w) v es := by
 simp only [stepOp, ho] at h
 split at h
 ·rename_i ty ht hn
  split at h
  ·rename_i e hd
   split at h
   ·rename_i z ety hz hety
    split at h
    ·rename_i k n k' m hl hc hs hb
     have el := ev_RT (E := E) hf 0 l
     have ec := ev_RT (E := E) hf 0 c
     rw [hl] at el
     rw [hc] at ec
     have el := RT_int el
     have ec := RT_int ec
     have hs : 0 < ety.size := by simpa [Nat.blt_eq] using hs
     have hb : 0 < ety.bytes := by simpa [Nat.blt_eq] using hb
     simp only [Tr.eval] at h
     split at h
     ·rename_i hck
      simp only [Bool.and_eq_true, decide_eq_true_eq] at hck
      obtain ⟨⟨rfl, h0⟩, h1⟩ := hck
      simp only [Option.some.injEq, Prod.mk.injEq] at h
      obtain ⟨rfl, rfl⟩ := h
      obtain ⟨i, zv, h3, h4, h5, h6, h7, h8⟩ := zeroV_RF hE hety hz w (okB st.ent σ w)
      obtain ⟨d, i0, z0, hd1, hd2, _⟩ := hE.ty t ty ht
      rw [hd] at hd2
      cases d <;> simp only [tyD] at hd2
      subst hd2
      have hnn : ((n.toNat : Nat) : Int) = n := Int.toNat_of_nonneg h0
      have hle : n.toNat ≤ n.toNat * ety.bytes := Nat.le_mul_of_pos_right _ hb
      obtain ⟨w', hr1, hr2, hr3⟩ := run_make_full (P := P) w 0 t _ i zv ety.size hd1 h3 h4 h5 k k' n.toNat (by rw [h6, Nat.mul_comm]; omega) (by simp only [maxLen]; omega) (Nat.zero_le _)
      rw [hnn] at hr1
      have hsz := sz_eq hety
      refine Done.row hr (u := .slice (some ⟨w.heap.size, 0, none⟩) n.toNat n.toNat) (w' := w') (cells := (madeCells zv.cells (n.toNat * ety.size)).toList) ?_ hn hr3 ?_ rfl ?_ ?_
      ·simp [execOp, ho, el, ec, hr1]
      ·intro b hb
       simp only [blk, Option.some.injEq] at hb
       omega
      ·rw [hsz, List.length_replicate]; exact hr2
      ·rw [hsz, ← h7, made_eq _ _ (by omega)]
       exact RRow_rep h8 (by simp) _
     ·cases h
    ·simp [Tr.eval] at h
   ·simp [Tr.eval] at h
  ·simp [Tr.eval] at h
 ·simp [Tr.eval] at h
theorem fill_sound (hE : EnvOk E P) (hf : FRel E st.ent σ w st a) (e : Nat) : ∀ (gs : List (Nat × Operand)) (i : Nat) (xs : List V), fillElems E st e gs i = some xs →
 ∃ vs : List Value, gs.map (fun (i, x) => (i, a.eval x)) = (vs.zipIdx i).map (fun x => (x.2, x.1)) ∧ (∀ u ∈ vs, u.cells.size = E.sz e) ∧ vs.length = gs.length ∧ xs.length = gs.length ∧ RRow st.ent σ w (E.sz e) xs (vs.flatMap fun u => u.cells.toList)
 | [], i, xs, h => by
  simp only [fillElems, Option.some.injEq] at h
  subst h
  exact ⟨[], rfl, by simp, rfl, rfl, rfl⟩
 | (j, x) :: gs, i, xs, h => by
  simp only [fillElems] at h
  split at h
  ·rename_i hij hfor hcap hsz
   split at h
   ·rename_i l hl
    simp only [Option.some.injEq] at h
    subst h
    have hij : i = j := Nat.eq_of_beq_eq_true hij
    subst hij
    have hsz : psize (partsOf (st.ev E e x)) = E.sz e := Nat.eq_of_beq_eq_true hsz
    obtain ⟨vs, h1, h2, h3, h4, h5⟩ := fill_sound hE hf e gs (i + 1) l hl
    have hx := ev_RT (E := E) hf e x
    have hcs := capOk_size hx hcap
    obtain ⟨hrf, _⟩ := RFv_of_RTc hfor (RTc_of_RT hcap hx)
    refine ⟨a.eval x :: vs, ?_, ?_, by simp [h3], by simp [h4], ?_⟩
    ·simp only [List.map_cons, List.zipIdx_cons, h1]
    ·intro u hu
     rcases List.mem_cons.1 hu with rfl | hu
     ·rw [hcs, hsz]
     ·exact h2 u hu
    ·simp only [List.flatMap_cons, RRow]
     exact ⟨_, _, rfl, by simpa using hcs.trans hsz, hrf, h5⟩
   ·cases h
  ·cases h
theorem op_buildSlice (hE : EnvOk E P) (hr : HR E keep w0 st.ent σ w) (hf : FRel E st.ent σ w st a) (t : TypeId) (n : Nat) (gs : Array (Nat × Operand)) (ho : o.op = .buildSlice t n gs) (hfz : frzOf E st t n gs.toList = none) (h : (stepOp E call o st).eval = some (v, es)) :
 Done E keep w0 st.ent σ w ((execOp a.eval o).run P w) v es := by
 simp only [stepOp, ho, hfz] at h
 split at h
 ·rename_i ty ht hn
  split at h
  ·rename_i e hd
   split at h
   ·rename_i ety xs hety hfill hlen hpos
    split at h
    ·rename_i hle
     simp only [Tr.eval, Option.some.injEq, Prod.mk.injEq] at h
     obtain ⟨rfl, rfl⟩ := h
     have hlen : gs.toList.length = n := Nat.eq_of_beq_eq_true hlen
     have hpos : 0 < E.sz e := by simpa [Nat.blt_eq] using hpos
     have hle : n * E.sz e ≤ 16777216 := Nat.le_of_ble_eq_true hle
     obtain ⟨vs, h1, h2, h3, h4, h5⟩ := fill_sound hE hf e gs.toList 0 xs hfill
     obtain ⟨d, i0, z0, hd1, hd2, _⟩ := hE.ty t ty ht
     rw [hd] at hd2
     cases d <;> simp only [tyD] at hd2
     rw [hd2] at hd1
     obtain ⟨d, i, z, k1, k2, k3, k4, k5, k6, k7, _⟩ := hE.ty _ ety hety
     have hsz := sz_eq hety
     have hnn : n ≤ n * E.sz e := Nat.le_mul_of_pos_right _ hpos
     have hcl : (vs.flatMap fun u => u.cells.toList).length = n * E.sz e := by
      have : ∀ l : List Value, (∀ u ∈ l, u.cells.size = E.sz e) → (l.flatMap fun u => u.cells.toList).length = l.length * E.sz e := by
       intro l
       induction l with
       | nil => intro _; simp
       | cons u l ih =>
        intro hu
        rw [List.flatMap_cons, List.length_append, ih (fun x hx => hu x (by simp [hx])), List.length_cons, Nat.succ_mul]
        have := hu u (by simp)
        simp only [Array.length_toList]
        omega
      rw [this vs h2, h3, hlen]
     have hxl : xs.length = n := by omega
     have hrun : (Instr.buildSlice t n (gs.map fun (i, x) => (i, a.eval x))).run P w = .ok (.slice (some ⟨w.heap.size, 0, none⟩) n n) (w.alloc (.cells (vs.flatMap fun u => u.cells.toList).toArray e)) := by
      by_cases h0 : n * i.size = 0
      ·have hn0 : n = 0 := by
        rcases Nat.mul_eq_zero.1 h0 with h | h
        ·exact h
        ·omega
       subst hn0
       have hv0 : vs = [] := List.eq_nil_of_length_eq_zero (by omega)
       have hg0 : gs = #[] := by
        apply Array.ext'
        exact List.eq_nil_of_length_eq_zero hlen
       subst hv0
       subst hg0
       have harr : Array.map (fun x => (default : Value)) (Array.range 0) = #[] := by apply Array.ext' <;> simp
       simp [Instr.buildSlice, run_underlying hd1, sizeOf, typeInfo, k3, Instr.fill, newRow, harr]
      ·refine run_buildSlice w t _ n _ _ i z hd1 k3 k6 (by rw [k4, ← hsz]; omega) h0 ?_
       rw [Array.toList_map, h1, k4, ← hsz]
       refine Go.Great.fill_whole hpos vs _ h2 ?_
       simp only [Array.size_map, Array.size_range]
       rw [h3, hlen]
     refine Done.row hr (u := .slice (some ⟨w.heap.size, 0, none⟩) n n) (w' := w.alloc (.cells (vs.flatMap fun u => u.cells.toList).toArray e)) (cells := vs.flatMap fun u => u.cells.toList) ?_ hn (World.grownBy_alloc w _ none) ?_ rfl ?_ h5
     ·simp [execOp, ho]
      rw [hrun]
      rfl
     ·intro b hb
      simp only [blk, Option.some.injEq] at hb
      omega
     ·rw [hxl]
      refine ⟨hcl, .inr ⟨w.heap.size, n, _, rfl, Nat.zero_le _, heap_alloc_new w _, Nat.le_refl _, by simp only [maxLen]; omega, by simpa using hcl, ?_⟩⟩
      rw [List.toList_toArray, ← hcl, List.take_length]
    ·simp [Tr.eval] at h
   ·simp [Tr.eval] at h
  ·simp [Tr.eval] at h
 ·simp [Tr.eval] at h
end
end Go.Proofs.YthdnamhilcjnhaaGreatDoor
