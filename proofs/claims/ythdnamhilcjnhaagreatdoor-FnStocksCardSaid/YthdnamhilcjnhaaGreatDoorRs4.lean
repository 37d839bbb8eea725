/- Pointers, loads, places within. -/
import Derived.Test.YthdnamhilcjnhaaGreatDoorRs3
namespace Go.Proofs.YthdnamhilcjnhaaGreatDoor
open Go Go.RowKit
set_option linter.unusedVariables false
set_option linter.unusedSimpArgs false
section
variable {E : Env} {P : Program} {keep : Nat → Prop} {w0 : World} {σ : Sg} {w : World} {st : St} {a : Act} {o : Oper} {v : V} {es : List (Nat × Ent)} {call : Nat → List V → Option V} {ent : Nat → Ent}
theorem cellsAt_block {b : Nat} {cs : Array Value} {e : TypeId} {fr : Nat × Nat} (h : w.heap[b]? = some (.cells cs e fr)) : cellsAt w b 0 cs.toList := by
 intro j u hj
 rw [Nat.zero_add, cell_of_row w b j cs e fr h]
 simpa using hj
theorem ROL_of_RF (x : V) (cs : List Value) (h : RF w (okB ent σ w) x cs) : ROL E ent σ w (partsOf x) cs := by
 cases x with
 | parts ps => simp only [RF] at h; exact ROL_of_RFL ps cs h
 | _ =>
  simp only [partsOf, ROL]
  exact ⟨cs, [], by simp, RO1_of_RF _ _ rfl h, rfl⟩
theorem RRow_nth {sz : Nat} : ∀ (xs : List V) (cells : List Value) (i : Nat) (x : V), RRow ent σ w sz xs cells → nth xs i = some x →
 RF w (okB ent σ w) x ((cells.drop (i * sz)).take sz) ∧ i * sz + sz ≤ cells.length
 | [], cells, i, x, h, hn => by cases i <;> simp [nth] at hn
 | y :: xs, cells, 0, x, h, hn => by
  simp only [RRow] at h
  obtain ⟨p, q, rfl, h2, h3, h4⟩ := h
  simp only [nth, Option.some.injEq] at hn
  subst hn
  rw [Nat.zero_mul, List.drop_zero, ← h2, List.take_left]
  exact ⟨h3, by rw [List.length_append]; omega⟩
 | y :: xs, cells, i + 1, x, h, hn => by
  simp only [RRow] at h
  obtain ⟨p, q, rfl, h2, h3, h4⟩ := h
  simp only [nth] at hn
  obtain ⟨h5, h6⟩ := RRow_nth xs q i x h4 hn
  have hs : (i + 1) * sz = p.length + i * sz := by rw [Nat.succ_mul, h2, Nat.add_comm]
  rw [hs, List.drop_append, List.drop_of_length_le (by omega), List.nil_append, Nat.add_sub_cancel_left]
  exact ⟨h5, by rw [List.length_append]; omega⟩
theorem nth_lt {α : Type} : ∀ (l : List α) (i : Nat) (x : α), nth l i = some x → i < l.length
 | [], i, x, h => by cases i <;> simp [nth] at h
 | y :: l, 0, x, h => by simp
 | y :: l, i + 1, x, h => by
  simp only [nth] at h
  have := nth_lt l i x h
  simp only [List.length_cons]
  omega
def Leads (E : Env) (ent : Nat → Ent) (σ : Sg) (w : World) (u : Value) (ps : List V) (pi rel ext : Nat) : Prop :=
 ∃ b o us, u = .pointer (some ⟨b, o + startOf ps pi + rel, none⟩) ∧ ROL E ent σ w ps us ∧ cellsAt w b o us ∧ pOk ps pi rel ext
theorem leads_ptr (hr : HR E keep w0 ent σ w) {id pi rel ext : Nat} {u : Value} {ps : List V} (hx : RT E ent σ w (.ptr id pi rel ext) u) (hp : ent id = .box ps) : Leads E ent σ w u ps pi rel ext := by
 have hx2 : RO1 E ent σ w (.ptr id pi rel ext) [u] := hx.2
 simp only [RO1] at hx2
 obtain ⟨u', h1, h2, h3, h4⟩ := hx2
 simp only [List.cons.injEq, and_true] at h1
 subst h1
 obtain ⟨b, hb, hu, hk⟩ := h4 ps hp
 have he := hr.ents id
 unfold EntR at he
 rw [hp] at he
 obtain ⟨b', cs, e, h5, h6, h7, h8⟩ := he
 rw [hb] at h5
 simp only [Value.pointer.injEq, Option.some.injEq, Addr.mk.injEq, and_true] at h5
 subst h5
 exact ⟨b, 0, cs.toList, by rw [hu, Nat.zero_add], h8, cellsAt_block h7, hk⟩
theorem leads_ref {ps : List V} {pi rel ext : Nat} {u : Value} (hx : RT E ent σ w (.ref ps pi rel ext) u) : Leads E ent σ w u ps pi rel ext := by
 have hx2 : RO1 E ent σ w (.ref ps pi rel ext) [u] := hx.2
 simp only [RO1, RF] at hx2
 obtain ⟨b, o', us, h1, h2, h3, h4, h5⟩ := hx2
 simp only [List.cons.injEq, and_true] at h1
 exact ⟨b, o', us, h1, ROL_of_RFL _ _ h3, h4, h5⟩
theorem row_cells (hr : HR E keep w0 ent σ w) {id e : Nat} {xs : List V} (hp : ent id = .row e xs) {i : Nat} {x : V} (hn : nth xs i = some x) :
 ∃ g n c cur, σ id = .slice (some ⟨g, 0, none⟩) n c ∧ n = xs.length ∧ w.heap[g]? = some (.cells cur e (0, 0)) ∧ ¬ keep g ∧ cellsAt w g (i * E.sz e) (((cur.toList.take (xs.length * E.sz e)).drop (i * E.sz e)).take (E.sz e)) ∧ RF w (okB ent σ w) x (((cur.toList.take (xs.length * E.sz e)).drop (i * E.sz e)).take (E.sz e)) ∧ i * E.sz e + E.sz e ≤ xs.length * E.sz e ∧ xs.length * E.sz e ≤ cur.size := by
 have he := hr.ents id
 unfold EntR at he
 rw [hp] at he
 obtain ⟨cells, h1, h2, h3⟩ := he
 have hi := nth_lt _ _ _ hn
 rcases h1.2 with ⟨_, h4⟩ | ⟨g, cap, cur, h4, h5, h6, h7, h8, h9, h10⟩
 ·omega
 ·obtain ⟨h11, h12⟩ := RRow_nth xs cells i x h2 hn
  have hle : xs.length * E.sz e ≤ cur.size := by rw [h9]; exact Nat.mul_le_mul_right _ h7
  subst h10
  rw [List.length_take] at h12
  refine ⟨g, _, cap, cur, h4, rfl, h6, h3 g (by rw [h4]; rfl), ?_, h11, by omega, hle⟩
  intro j u hj
  rw [List.getElem?_take] at hj
  split at hj
  ·rw [List.getElem?_drop, List.getElem?_take] at hj
   split at hj
   ·rw [cell_of_row w g _ cur e _ h6]
    simpa using hj
   ·cases hj
  ·cases hj
theorem leads_elem (hr : HR E keep w0 ent σ w) {id i pi rel ext e : Nat} {u : Value} {xs : List V} {x : V} (hx : RT E ent σ w (.elem id i pi rel ext) u) (hp : ent id = .row e xs) (hn : nth xs i = some x) :
 Leads E ent σ w u (partsOf x) pi rel ext := by
 have hx2 : RO1 E ent σ w (.elem id i pi rel ext) [u] := hx.2
 simp only [RO1] at hx2
 obtain ⟨u', h1, h2, h3, h4⟩ := hx2
 simp only [List.cons.injEq, and_true] at h1
 subst h1
 obtain ⟨hi, b, n, c, hb, hu⟩ := h4 e xs hp
 obtain ⟨hu1, hu2⟩ := hu x hn
 obtain ⟨g, n', c', cur, h5, h6, h7, h8, h9, h10, _, _⟩ := row_cells hr hp hn
 rw [hb] at h5
 simp only [Value.slice.injEq, Option.some.injEq, Addr.mk.injEq, and_true] at h5
 obtain ⟨rfl, rfl, rfl⟩ := h5
 exact ⟨b, i * E.sz e, _, hu1, ROL_of_RF x _ h10, h9, hu2⟩
theorem ptr_sound (hr : HR E keep w0 st.ent σ w) {x : V} {u : Value} {K : List V → Nat → Nat → Nat → Tr} {r : V × List (Nat × Ent)} (hx : RT E st.ent σ w x u) (h : (ptrTo st x K).eval = some r) :
 ∃ ps pi rel ext, (K ps pi rel ext).eval = some r ∧ Leads E st.ent σ w u ps pi rel ext ∧ (∀ pi' rel' ext', pOk ps pi' rel' ext' → ∀ b o, u = .pointer (some ⟨b, o + startOf ps pi + rel, none⟩) → RT E st.ent σ w (rePtr x pi' rel' ext') (.pointer (some ⟨b, o + startOf ps pi' + rel', none⟩))) := by
 unfold ptrTo at h
 split at h
 ·rename_i id pi rel ext
  split at h
  ·rename_i ps hp
   refine ⟨ps, pi, rel, ext, h, leads_ptr hr hx hp, fun pi' rel' ext' hk b o' hu => ⟨rfl, ?_⟩⟩
   show RO1 E st.ent σ w (.ptr id pi' rel' ext') _
   simp only [RO1]
   refine ⟨_, rfl, rfl, by rw [hp]; simp, fun ps1 hp1 => ?_⟩
   rw [hp] at hp1
   cases hp1
   obtain ⟨b1, o1, us, h1, _⟩ := leads_ptr hr hx hp
   have hx2 : RO1 E st.ent σ w (.ptr id pi rel ext) [u] := hx.2
   simp only [RO1] at hx2
   obtain ⟨u', h2, _, _, h4⟩ := hx2
   obtain ⟨b2, hb2, hu2, _⟩ := h4 ps hp
   simp only [List.cons.injEq, and_true] at h2
   subst h2
   rw [hu2] at hu
   simp only [Value.pointer.injEq, Option.some.injEq, Addr.mk.injEq, and_true] at hu
   obtain ⟨rfl, hu⟩ := hu
   exact ⟨b2, hb2, by congr 3; omega, hk⟩
  ·simp [Tr.eval] at h
 ·rename_i ps pi rel ext
  refine ⟨ps, pi, rel, ext, h, leads_ref hx, fun pi' rel' ext' hk b o' hu => ⟨rfl, ?_⟩⟩
  show RO1 E st.ent σ w (.ref ps pi' rel' ext') _
  have hx2 : RO1 E st.ent σ w (.ref ps pi rel ext) [u] := hx.2
  simp only [RO1, RF] at hx2 ⊢
  obtain ⟨b1, o1, us, h1, h2, h3, h4, h5⟩ := hx2
  simp only [List.cons.injEq, and_true] at h1
  rw [h1] at hu
  simp only [Value.pointer.injEq, Option.some.injEq, Addr.mk.injEq, and_true] at hu
  obtain ⟨rfl, hu⟩ := hu
  exact ⟨b1, o1, us, by congr 4; omega, h2, h3, h4, hk⟩
 ·rename_i id i pi rel ext
  split at h
  ·rename_i e xs hp
   unfold Tr.eval at h
   split at h
   ·rename_i y hn
    refine ⟨partsOf y, pi, rel, ext, h, leads_elem hr hx hp hn, fun pi' rel' ext' hk b o' hu => ⟨rfl, ?_⟩⟩
    show RO1 E st.ent σ w (.elem id i pi' rel' ext') _
    simp only [RO1]
    refine ⟨_, rfl, rfl, by rw [hp]; simp, fun e1 xs1 hp1 => ?_⟩
    rw [hp] at hp1
    cases hp1
    have hx2 : RO1 E st.ent σ w (.elem id i pi rel ext) [u] := hx.2
    simp only [RO1] at hx2
    obtain ⟨u', h2, _, _, h4⟩ := hx2
    obtain ⟨hi, b2, n2, c2, hb2, hu2⟩ := h4 e xs hp
    obtain ⟨hu3, _⟩ := hu2 y hn
    simp only [List.cons.injEq, and_true] at h2
    subst h2
    rw [hu3] at hu
    simp only [Value.pointer.injEq, Option.some.injEq, Addr.mk.injEq, and_true] at hu
    obtain ⟨rfl, hu⟩ := hu
    refine ⟨hi, b2, n2, c2, hb2, fun x' hx' => ?_⟩
    rw [hn] at hx'
    cases hx'
    exact ⟨by congr 3; omega, hk⟩
   ·cases h
  ·simp [Tr.eval] at h
 ·simp [Tr.eval] at h
theorem op_load (hE : EnvOk E P) (hr : HR E keep w0 st.ent σ w) (hf : FRel E st.ent σ w st a) (t : TypeId) (x : Operand) (ho : o.op = .load t x) (h : (stepOp E call o st).eval = some (v, es)) :
 Done E keep w0 st.ent σ w ((execOp a.eval o).run P w) v es := by
 have hx := ev_RT (E := E) hf 0 x
 simp only [stepOp, ho] at h
 split at h
 ·rename_i ty ht
  obtain ⟨ps, pi, rel, ext, h1, ⟨b, o', us, hu, hp, hc, hk⟩, _⟩ := ptr_sound hr hx h
  split at h1
  ·rename_i v' hl
   simp only [Tr.eval, Option.some.injEq, Prod.mk.injEq] at h1
   obtain ⟨rfl, rfl⟩ := h1
   obtain ⟨u, hrun, hru⟩ := load_sound (P := P) hE ht hp hc hk hl
   refine Done.pure hr (u := u) ?_ hru
   simp [execOp, ho, hu, Instr.loadAt, Instr.sureAddr, hrun]
  ·simp [Tr.eval] at h1
 ·simp [Tr.eval] at h
theorem placeOk_pOk {ps : List V} {pi rel ext : Nat} (h : placeOk ps pi rel ext = true) : pOk ps pi rel ext := by
 unfold placeOk at h
 split at h
 ·rename_i p hp
  split at h
  ·rename_i hle
   exact .inl ⟨p, hp, Nat.le_of_ble_eq_true hle⟩
  ·simp only [Bool.and_eq_true] at h
   refine .inr ⟨?_, Nat.le_of_ble_eq_true h.2⟩
   cases rel with
   | zero => rfl
   | succ n => simp [isZero] at h
 ·cases h
theorem locate_start : ∀ (ps : List V) (i off pi rel : Nat), locate ps i off = some (pi, rel) → i ≤ pi ∧ off = startOf ps (pi - i) + rel
 | [], i, off, pi, rel, h => by simp [locate] at h
 | p :: ps, i, off, pi, rel, h => by
  simp only [locate] at h
  split at h
  ·simp only [Option.some.injEq, Prod.mk.injEq] at h
   obtain ⟨rfl, rfl⟩ := h
   simp [startOf]
  ·rename_i hlt
   have hlt : ¬ off < vsize1 p := by
    intro h'
    have : Nat.blt off (vsize1 p) = true := by simp [Nat.blt_eq, h']
    rw [this] at hlt
    cases hlt
   obtain ⟨h1, h2⟩ := locate_start ps (i + 1) _ pi rel h
   refine ⟨by omega, ?_⟩
   have : pi - i = (pi - (i + 1)) + 1 := by omega
   rw [this]
   simp only [startOf]
   omega
theorem startOf_add : ∀ (ps : List V) (i j : Nat), startOf ps (i + j) = startOf ps i + startOf (dropN ps i) j
 | [], i, j => by cases i <;> cases j <;> simp [startOf, dropN]
 | p :: ps, 0, j => by simp [startOf, dropN]
 | p :: ps, i + 1, j => by
  have := startOf_add ps i j
  rw [show i + 1 + j = (i + j) + 1 by omega]
  simp only [startOf, dropN]
  omega
theorem nth_fields {fs : List (Nat × Nat)} {fields : Array Go.Field} (h : fields.toList.map (fun f => (f.offset, f.type)) = fs) {i off t : Nat} (hn : nth fs i = some (off, t)) :
 ∃ f, fields[i]? = some f ∧ f.offset = off ∧ f.type = t := by
 subst h
 have key : ∀ (l : List Go.Field) (i : Nat), nth (l.map (fun f => (f.offset, f.type))) i = some (off, t) → ∃ f, l[i]? = some f ∧ f.offset = off ∧ f.type = t := by
  intro l
  induction l with
  | nil => intro i h; cases i <;> simp [nth] at h
  | cons f l ih =>
   intro i h
   cases i with
   | zero =>
    simp only [List.map_cons, nth, Option.some.injEq, Prod.mk.injEq] at h
    exact ⟨f, rfl, h.1, h.2⟩
   | succ i =>
    simp only [List.map_cons, nth] at h
    obtain ⟨f', h1, h2⟩ := ih i h
    exact ⟨f', by simpa using h1, h2⟩
 obtain ⟨f, h1, h2⟩ := key _ _ hn
 exact ⟨f, by simpa using h1, h2⟩
theorem isZero_eq {n : Nat} (h : isZero n = true) : n = 0 := by cases n <;> simp [isZero] at h; rfl
theorem op_fieldAddr (hE : EnvOk E P) (hr : HR E keep w0 st.ent σ w) (hf : FRel E st.ent σ w st a) (s : TypeId) (x : Operand) (i : Nat) (ho : o.op = .fieldAddr s x i) (h : (stepOp E call o st).eval = some (v, es)) :
 Done E keep w0 st.ent σ w ((execOp a.eval o).run P w) v es := by
 have hx := ev_RT (E := E) hf 0 x
 simp only [stepOp, ho] at h
 split at h
 ·rename_i ty ht
  split at h
  ·rename_i fs hd
   split at h
   ·rename_i off t hn
    obtain ⟨ps, pi, rel, ext, h1, ⟨b, o', us, hu, hp, hc, hk⟩, hre⟩ := ptr_sound hr hx h
    split at h1
    ·rename_i pi' rel' hz hs1 hl
     split at h1
     ·rename_i hpl
      simp only [Tr.eval, Option.some.injEq, Prod.mk.injEq] at h1
      obtain ⟨rfl, rfl⟩ := h1
      have hz := isZero_eq hz
      subst hz
      obtain ⟨h2, h3⟩ := locate_start _ _ _ _ _ hl
      have h4 := startOf_add ps pi (pi' - pi)
      rw [show pi + (pi' - pi) = pi' by omega] at h4
      have h5 := hre pi' rel' (E.sz t) (placeOk_pOk hpl) b o' hu
      refine Done.pure hr (u := .pointer (some ⟨b, o' + startOf ps pi' + rel', none⟩)) ?_ h5
      obtain ⟨d, hd1, hd2⟩ := ty_run hE ht w
      rw [hd] at hd2
      cases d <;> simp only [tyD] at hd2
      rename_i fields
      obtain ⟨f, hf1, hf2, hf3⟩ := nth_fields hd2 hn
      have hplace : (fieldPlace ⟨b, o' + startOf ps pi + 0, none⟩ f).run P w = .ok ⟨b, o' + startOf ps pi' + rel', none⟩ w := by
       have hs1 : 1 ≤ E.sz t := Nat.le_of_ble_eq_true hs1
       have hty : ∃ fty, E.ty t = some fty := by
        cases hq : E.ty t with
        | none => simp [Env.sz, hq] at hs1
        | some fty => exact ⟨fty, rfl⟩
       obtain ⟨fty, hty⟩ := hty
       have hsr := sz_run hE hty w
       rw [sz_eq hty] at hs1
       unfold fieldPlace
       rw [hf3]
       simp only [Sem.run_bind, hsr, Result.andThen_ok]
       rw [if_neg (by omega), Sem.run_pure, addr_add, hf2, h3, h4]
       congr 2
       omega
      simp only [Nat.add_zero] at hplace
      simp [execOp, ho, hu, Instr.fieldAt, hd1, hf1, Instr.sureAddr, hplace]
     ·simp [Tr.eval] at h1
    ·simp [Tr.eval] at h1
   ·simp [Tr.eval] at h
  ·simp [Tr.eval] at h
 ·simp [Tr.eval] at h
theorem inB_of {n : Int} {len : Nat} (h : inB n len = true) : 0 ≤ n ∧ n < len := by simpa [inB] using h
theorem sz_run' (hE : EnvOk E P) {t : Nat} (h : (E.ty t).isSome = true) (w : World) : (sizeOf t).run P w = .ok (E.sz t) w := by
 cases hq : E.ty t with
 | none => simp [hq] at h
 | some ty => rw [sz_eq hq]; exact sz_run hE hq w
theorem op_indexAddr (hE : EnvOk E P) (hr : HR E keep w0 st.ent σ w) (hf : FRel E st.ent σ w st a) (t : TypeId) (x i : Operand) (ho : o.op = .indexAddr t x i) (h : (stepOp E call o st).eval = some (v, es)) :
 Done E keep w0 st.ent σ w ((execOp a.eval o).run P w) v es := by
 have hx := ev_RT (E := E) hf 0 x
 have hi := ev_RT (E := E) hf 0 i
 simp only [stepOp, ho] at h
 split at h
 ·rename_i ty k n ht hn
  rw [hn] at hi
  have ei := RT_int hi
  obtain ⟨d, hd1, hd2⟩ := ty_run hE ht w
  split at h
  ·rename_i len e hd
   rw [hd] at hd2
   cases d <;> simp only [tyD] at hd2
   obtain ⟨rfl, rfl⟩ := hd2
   rename_i len e
   have hsome : (E.ty e).isSome = true := by
    obtain ⟨_, _, _, _, _, _, _, _, _, _, _, _, _, harr, _⟩ := hE.ty t ty ht
    exact (harr len e hd).2
   obtain ⟨ps, pi, rel, ext, h1, ⟨b, o', us, hu, hp, hc, hk⟩, hre⟩ := ptr_sound hr hx h
   split at h1
   ·rename_i k' m c hnth
    split at h1
    ·rename_i hem hle
     have hem : ext ≤ m := Nat.le_of_ble_eq_true hem
     have hle : len * E.sz e ≤ ext := Nat.le_of_ble_eq_true hle
     simp only [Tr.eval] at h1
     split at h1
     ·rename_i hb
      simp only [Option.some.injEq, Prod.mk.injEq] at h1
      obtain ⟨rfl, rfl⟩ := h1
      obtain ⟨hb1, hb2⟩ := inB_of hb
      have hlt : n.toNat < len := by omega
      have hmul : n.toNat * E.sz e + E.sz e ≤ len * E.sz e := by
       rw [← Nat.succ_mul]; exact Nat.mul_le_mul_right _ hlt
      have hpok : pOk ps pi (rel + n.toNat * E.sz e) (E.sz e) := by
       left
       refine ⟨_, hnth, ?_⟩
       simp only [vsize1]
       rcases hk with ⟨p, hp1, hp2⟩ | ⟨hp1, _⟩
       ·rw [hnth] at hp1; cases hp1; simp only [vsize1] at hp2; omega
       ·omega
      have h5 := hre _ _ _ hpok b o' hu
      refine Done.pure hr (u := .pointer (some ⟨b, o' + startOf ps pi + (rel + n.toNat * E.sz e), none⟩)) ?_ h5
      have hsz := sz_run' hE hsome w
      simp [execOp, ho, hu, ei, Instr.indexAt, asIntOf, hd1, Instr.sureAddr, hb1, hb2, hsz, addr_add, Nat.add_assoc]
     ·cases h1
    ·simp [Tr.eval] at h1
   ·simp [Tr.eval] at h1
  ·rename_i e hd
   rw [hd] at hd2
   cases d <;> simp only [tyD] at hd2
   subst hd2
   rename_i e
   have hev : ∃ ety, E.ty e = some ety ∧ (sliceIdx st e (E.sz e) (st.ev E 0 x) n).eval = some (v, es) := by
    split at h
    ·rename_i ety hety; exact ⟨ety, hety, h⟩
    ·simp [Tr.eval] at h
   obtain ⟨ety, hety, h⟩ := hev
   unfold sliceIdx at h
   split at h
   ·rename_i xs hv
    have hz : (E.ty e).isSome = true := by rw [hety]; rfl
    have hszr := sz_run' hE hz w
    rw [hv] at hx
    have hx2 : RO1 E st.ent σ w (.sl xs) [a.eval x] := hx.2
    simp only [RO1, RF] at hx2
    obtain ⟨A, cap, h1, hmax, h2⟩ := hx2
    simp only [List.cons.injEq, and_true] at h1
    unfold Tr.eval at h
    split at h
    ·rename_i y hy
     dsimp only at h
     split at h
     ·rename_i hsz
      simp only [Tr.eval, Option.some.injEq, Prod.mk.injEq] at h
      obtain ⟨rfl, rfl⟩ := h
      have hsz : psize (partsOf y) = E.sz e := Nat.eq_of_beq_eq_true hsz
      have hge : 0 ≤ n ∧ nth xs n.toNat = some y := by
       unfold idx at hy
       split at hy
       ·rename_i h0; exact ⟨of_decide_eq_true h0, hy⟩
       ·cases hy
      have hlt := nth_lt _ _ _ hge.2
      rcases h2 with h2 | ⟨b, o', sz, hA, hok, hre⟩
      ·subst h2; simp at hlt
      ·have key : ∀ (l : List V) (j off : Nat) (z : V), RE w (okB st.ent σ w) l b off sz → nth l j = some z → ∃ us, us.length = sz ∧ RF w (okB st.ent σ w) z us ∧ cellsAt w b (off + j * sz) us := by
        intro l
        induction l with
        | nil => intro j off z _ hz; cases j <;> simp [nth] at hz
        | cons y0 l ih =>
         intro j off z hre hz
         simp only [RE] at hre
         cases j with
         | zero =>
          simp only [nth, Option.some.injEq] at hz
          subst hz
          simpa using hre.1
         | succ j =>
          simp only [nth] at hz
          obtain ⟨us, h3, h4, h5⟩ := ih j (off + sz) z hre.2 hz
          exact ⟨us, h3, h4, by rw [Nat.succ_mul]; rwa [show off + sz + j * sz = off + (j * sz + sz) by omega] at h5⟩
       obtain ⟨us, h3, h4, h5⟩ := key xs n.toNat o' y hre hge.2
       have hsz2 : sz = E.sz e := by rw [← h3, RF_size y us h4, hsz]
       refine Done.pure hr (u := .pointer (some ⟨b, o' + n.toNat * E.sz e, none⟩)) ?_ ⟨rfl, ?_⟩
       ·simp [execOp, ho, h1, ei, Instr.indexAt, asIntOf, hd1, hA, hge.1, show n < (xs.length : Int) by omega, hszr, addr_add]
       ·show RO1 E st.ent σ w (.ref (partsOf y) 0 0 (E.sz e)) _
        simp only [RO1, RF]
        refine ⟨b, o' + n.toNat * E.sz e, us, by simp [startOf], hok, ?_, ?_, ?_⟩
        ·cases y with
         | parts ps => simp only [RF] at h4; exact h4
         | _ => simp only [partsOf, RFL]; exact ⟨us, [], by simp, rfl, h4, rfl⟩
        ·rw [← hsz2]; exact h5
        ·right; exact ⟨rfl, by simp [dropN, hsz]⟩
     ·simp [Tr.eval] at h
    ·cases h
   ·rename_i id hv
    have hz : (E.ty e).isSome = true := by rw [hety]; rfl
    have hszr := sz_run' hE hz w
    rw [hv] at hx
    split at h
    ·rename_i e' xs hp
     split at h
     ·rename_i hee
      have hee : e = e' := Nat.eq_of_beq_eq_true hee
      subst hee
      simp only [Tr.eval] at h
      split at h
      ·rename_i hb
       simp only [Option.some.injEq, Prod.mk.injEq] at h
       obtain ⟨rfl, rfl⟩ := h
       obtain ⟨hb1, hb2⟩ := inB_of hb
       have hx2 : RO1 E st.ent σ w (.row id) [a.eval x] := hx.2
       simp only [RO1] at hx2
       obtain ⟨u, h1, h2, h3, h4⟩ := hx2
       have h4 := h4 e xs hp
       simp only [List.cons.injEq, and_true] at h1
       subst h1
       have hlt : n.toNat < xs.length := by omega
       have hnth : ∃ y, nth xs n.toNat = some y := by
        have key : ∀ (l : List V) (j : Nat), j < l.length → ∃ y, nth l j = some y := by
         intro l
         induction l with
         | nil => intro j hj; simp at hj
         | cons y0 l ih =>
          intro j hj
          cases j with
          | zero => exact ⟨y0, rfl⟩
          | succ j => exact ih j (by simpa using hj)
        exact key xs _ hlt
       obtain ⟨y, hy⟩ := hnth
       obtain ⟨g, n', c', cur, h5, h6, h7, h8, h9, h10, h11, h12⟩ := row_cells hr hp hy
       refine Done.pure hr (u := .pointer (some ⟨g, n.toNat * E.sz e, none⟩)) ?_ ⟨rfl, ?_⟩
       ·simp [execOp, ho, h4, h5, ei, Instr.indexAt, asIntOf, hd1, hb1, h6, show n < (xs.length : Int) by omega, hszr, addr_add]
       ·show RO1 E st.ent σ w (.elem id n.toNat 0 0 (E.sz e)) _
        simp only [RO1]
        refine ⟨_, rfl, rfl, h3, fun e1 xs1 hp1 => ?_⟩
        rw [hp] at hp1
        cases hp1
        refine ⟨hlt, g, n', c', h5, fun z hz' => ?_⟩
        rw [hy] at hz'
        cases hz'
        refine ⟨by simp [startOf], ?_⟩
        right
        refine ⟨rfl, ?_⟩
        have := RF_size _ _ h10
        rw [List.length_take, List.length_drop, List.length_take] at this
        have hcl : cur.toList.length = cur.size := by simp
        simp only [dropN]
        omega
      ·cases h
     ·simp [Tr.eval] at h
    ·simp [Tr.eval] at h
   ·simp [Tr.eval] at h
  ·simp [Tr.eval] at h
 ·simp [Tr.eval] at h
end
end Go.Proofs.YthdnamhilcjnhaaGreatDoor
