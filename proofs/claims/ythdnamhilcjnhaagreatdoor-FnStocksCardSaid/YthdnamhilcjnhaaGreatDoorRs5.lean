/- Parts of values: an element of an array, a field, a struct built, a slice of an array, a length. -/
import Derived.Test.YthdnamhilcjnhaaGreatDoorRs4
namespace Go.Proofs.YthdnamhilcjnhaaGreatDoor
open Go Go.RowKit
set_option linter.unusedVariables false
set_option linter.unusedSimpArgs false
section
variable {E : Env} {P : Program} {keep : Nat → Prop} {w0 : World} {σ : Sg} {w : World} {st : St} {a : Act} {o : Oper} {v : V} {es : List (Nat × Ent)} {call : Nat → List V → Option V} {ent : Nat → Ent}
theorem op_index (hE : EnvOk E P) (hr : HR E keep w0 st.ent σ w) (hf : FRel E st.ent σ w st a) (t : TypeId) (x i : Operand) (ho : o.op = .index t x i) (h : (stepOp E call o st).eval = some (v, es)) :
 Done E keep w0 st.ent σ w ((execOp a.eval o).run P w) v es := by
 have hx := ev_RT (E := E) hf t x
 have hi := ev_RT (E := E) hf 0 i
 simp only [stepOp, ho] at h
 split at h
 ·rename_i ty sb k' n ht hv hn
  rw [hv] at hx
  rw [hn] at hi
  have ei := RT_int hi
  have ex := RT_str hx
  obtain ⟨d, hd1, hd2⟩ := ty_run hE ht w
  split at h
  ·rename_i hd
   rw [hd] at hd2
   cases d <;> simp only [tyD] at hd2
   simp only [Tr.eval] at h
   split at h
   ·rename_i hb
    obtain ⟨hb1, hb2⟩ := inB_of hb
    simp only [Option.some.injEq, Prod.mk.injEq] at h
    obtain ⟨rfl, rfl⟩ := h
    have hlt : n.toNat < sb.size := by omega
    have hget : sb[n.toNat]? = some (sb.data.toList.getD n.toNat 0) := by
     have hl : n.toNat < sb.data.toList.length := by simpa using hlt
     rw [List.getD_eq_getElem?_getD, List.getElem?_eq_getElem hl]
     rw [getElem?_pos sb n.toNat hlt]
     rfl
    refine Done.pure hr (u := .int .u8 (strAt sb n.toNat)) ?_ (RT_mkint _ _)
    have h0 : (if 0 ≤ n then sb[n.toNat]? else none) = some (sb.data.toList.getD n.toNat 0) := by rw [if_pos hb1, hget]
    simp only [execOp, ho, Instr.index, Sem.run_bind, ex, ei, asIntOf, Result.andThen_ok, Sem.run_pure, hd1]
    rw [h0]
    rfl
   ·cases h
  ·simp [Tr.eval] at h
 ·rename_i ty k m c k' n ht hv hn
  rw [hv] at hx
  rw [hn] at hi
  have ei := RT_int hi
  obtain ⟨cs, ex, hcs⟩ := hx
  obtain ⟨d, hd1, hd2⟩ := ty_run hE ht w
  split at h
  ·rename_i len e hd
   rw [hd] at hd2
   cases d <;> simp only [tyD] at hd2
   obtain ⟨rfl, rfl⟩ := hd2
   rename_i len e
   split at h
   ·rename_i ety hety hle
    have hle : len * E.sz e ≤ m := Nat.le_of_ble_eq_true hle
    simp only [Tr.eval] at h
    split at h
    ·rename_i hb
     obtain ⟨hb1, hb2⟩ := inB_of hb
     have hsz := sz_run hE hety w
     have hag := agg_run hE hety w
     rw [sz_eq hety] at hle
     have hlt : n.toNat < len := by omega
     have hmul : n.toNat * ety.size + ety.size ≤ len * ety.size := by
      rw [← Nat.succ_mul]; exact Nat.mul_le_mul_right _ hlt
     have hget : ∀ j, j < m → cs.toList[j]? = some (Value.int k (c j)) := by
      intro j hj
      rw [hcs, List.getElem?_map, List.getElem?_range hj]; rfl
     split at h
     ·rename_i n2 e2 hd3
      simp only [Tr.eval, Option.some.injEq, Prod.mk.injEq] at h
      obtain ⟨rfl, rfl⟩ := h
      refine Done.pure hr (u := .agg (cs.extract (n.toNat * ety.size) (n.toNat * ety.size + ety.size))) ?_ ⟨_, rfl, ?_⟩
      ·simp [execOp, ho, ex, ei, Instr.index, asIntOf, hd1, hb1, hb2, hsz, part, hag, hd3, isAggTy]
      ·apply List.ext_getElem?
       intro j
       rw [List.getElem?_map]
       by_cases hj : j < ety.size
       ·rw [List.getElem?_range hj]
        have h1 := hget (n.toNat * ety.size + j) (by omega)
        have h2 : (cs.extract (n.toNat * ety.size) (n.toNat * ety.size + ety.size)).toList[j]? = cs.toList[n.toNat * ety.size + j]? := by
         simp only [Array.getElem?_toList, Array.getElem?_extract]
         have hcl : cs.size = m := by
          have := congrArg List.length hcs
          simpa using this
         rw [if_pos (by omega)]
        rw [h2, h1, Nat.add_comm]; rfl
       ·have hcl : cs.size = m := by
         have := congrArg List.length hcs
         simpa using this
        rw [List.getElem?_eq_none (by simp; omega), List.getElem?_eq_none (by simp; omega)]; rfl
     ·rename_i k2 hd3
      simp only [Tr.eval, Option.some.injEq, Prod.mk.injEq] at h
      obtain ⟨rfl, rfl⟩ := h
      obtain ⟨_, _, z, _, _, _, _, _, _, hzs, _, _, hz1, _⟩ := hE.ty e ety hety
      have hs1 : ety.size = 1 := by
       have := hz1 (by rw [hd3]; rfl)
       rw [← hzs]
       cases z <;> simp [Value.oneCell'] at this <;> rfl
      have h1 := hget (n.toNat * ety.size) (by omega)
      have h1 : cs[n.toNat * ety.size]? = some (Value.int k (c (n.toNat * ety.size))) := by simpa using h1
      refine Done.pure hr (u := .int k (c (n.toNat * ety.size))) ?_ (RT_mkint _ _)
      simp [execOp, ho, ex, ei, Instr.index, asIntOf, hd1, hb1, hb2, hsz, part, hag, hd3, isAggTy, h1]
     ·simp [Tr.eval] at h
    ·cases h
   ·simp [Tr.eval] at h
  ·simp [Tr.eval] at h
 ·simp [Tr.eval] at h
theorem loadP_seg {ty : TyI} {ps : List V} {us : List Value} {pi rel ext : Nat} {v : V}
 (hp : ROL E ent σ w ps us) (hk : pOk ps pi rel ext) (hl : loadP ty ps pi rel ext = some v) :
 (isAggTy ty.d = true → RT E ent σ w v (.agg ((us.drop (startOf ps pi + rel)).take ty.size).toArray) ∧ startOf ps pi + rel + ty.size ≤ us.length) ∧
 (isAggTy ty.d = false → ∃ u, us[startOf ps pi + rel]? = some u ∧ RT E ent σ w v u) := by
 unfold loadP at hl
 split at hl
 ·cases hl
 ·rename_i hle
  have hle : ty.size ≤ ext := Nat.le_of_ble_eq_true hle
  split at hl
  ·rename_i fs hd
   split at hl
   ·split at hl
    ·rename_i l htk
     simp only [Option.some.injEq] at hl
     subst hl
     obtain ⟨h1, h2⟩ := ROL_take _ _ _ _ (ROL_drop pi ps us hp) htk
     refine ⟨fun _ => ⟨⟨_, rfl, by simpa using h1⟩, ?_⟩, fun h => by simp [hd, isAggTy] at h⟩
     rw [List.length_drop] at h2
     by_cases h0 : startOf ps pi ≤ us.length
     ·omega
     ·exfalso
      have := ROL_len ps us hp
      have hsp : startOf ps pi ≤ psize ps := by
       have key : ∀ (l : List V) (n : Nat), startOf l n ≤ psize l := by
        intro l
        induction l with
        | nil => intro n; cases n <;> simp [startOf]
        | cons p l ih => intro n; cases n with
         | zero => simp [startOf]
         | succ n => have := ih n; simp only [startOf, psize]; omega
       exact key ps pi
      omega
    ·cases hl
   ·cases hl
  ·rename_i n e hd
   split at hl
   ·rename_i k n' c hn
    split at hl
    ·rename_i hen
     simp only [Option.some.injEq] at hl
     subst hl
     have hen : ext ≤ n' := Nat.le_of_ble_eq_true hen
     obtain ⟨h1, h2⟩ := ROL_ints hp hn
     have hre : rel + ty.size ≤ n' := by
      rcases hk with ⟨p, hp1, hp2⟩ | ⟨hp1, _⟩
      ·rw [hn] at hp1; cases hp1; simp only [vsize1] at hp2; omega
      ·omega
     have hseg : ((us.drop (startOf ps pi + rel)).take ty.size) = (List.range ty.size).map fun j => Value.int k (shiftC c rel j) := by
      apply List.ext_getElem?
      intro j
      rw [List.getElem?_take, List.getElem?_drop, List.getElem?_map]
      by_cases hj : j < ty.size
      ·rw [if_pos hj, List.getElem?_range hj, Nat.add_assoc, h2 (rel + j) (by omega)]
       cases rel with
       | zero => simp [shiftC]
       | succ r => simp [shiftC, Nat.add_comm]
      ·rw [if_neg hj, List.getElem?_eq_none (by simp; omega)]; rfl
     exact ⟨fun _ => ⟨⟨_, rfl, by rw [List.toList_toArray]; exact hseg⟩, by omega⟩, fun h => by simp [hd, isAggTy] at h⟩
    ·cases hl
   ·cases hl
  ·rename_i hd1 hd2
   have hna : isAggTy ty.d = false := by
    cases h : ty.d <;> simp_all [isAggTy]
   refine ⟨fun h => absurd h (by rw [hna]; simp), fun _ => ?_⟩
   split at hl
   ·rename_i k n' c hn
    split at hl
    ·rename_i hen hs
     simp only [Option.some.injEq] at hl
     subst hl
     have hen : ext ≤ n' := Nat.le_of_ble_eq_true hen
     have hs : ty.size = 1 := Nat.eq_of_beq_eq_true hs
     obtain ⟨h1, h2⟩ := ROL_ints hp hn
     have hre : rel < n' := by
      rcases hk with ⟨p, hp1, hp2⟩ | ⟨hp1, _⟩
      ·rw [hn] at hp1; cases hp1; simp only [vsize1] at hp2; omega
      ·omega
     exact ⟨_, h2 rel hre, RT_mkint _ _⟩
    ·cases hl
   ·rename_i p hnp hn
    split at hl
    ·rename_i h1 h2
     simp only [Option.some.injEq] at hl
     subst hl
     obtain ⟨u, hu, hr⟩ := ROL_one hp hn (oneV_size h1)
     exact ⟨u, by simpa using hu, RT_of_one h1 hr⟩
    ·cases hl
   ·cases hl
theorem part_sound (hE : EnvOk E P) {t : Nat} {ty : TyI} (ht : E.ty t = some ty) {ps : List V} {cs : Array Value} {pi rel ext : Nat} {v : V}
 (hp : ROL E ent σ w ps cs.toList) (hk : pOk ps pi rel ext) (hl : loadP ty ps pi rel ext = some v) :
 ∃ u, (part t cs (startOf ps pi + rel)).run P w = .ok u w ∧ RT E ent σ w v u := by
 obtain ⟨h1, h2⟩ := loadP_seg hp hk hl
 unfold part
 simp only [Sem.run_bind, agg_run hE ht, Result.andThen_ok]
 cases hag : isAggTy ty.d with
 | true =>
  obtain ⟨h3, h4⟩ := h1 hag
  refine ⟨.agg (cs.extract (startOf ps pi + rel) (startOf ps pi + rel + ty.size)), ?_, ?_⟩
  ·simp [sz_run hE ht]
  ·have : cs.extract (startOf ps pi + rel) (startOf ps pi + rel + ty.size) = ((cs.toList.drop (startOf ps pi + rel)).take ty.size).toArray := by
    apply Array.ext'
    rw [Array.toList_extract, List.toList_toArray, List.extract_eq_take_drop, Nat.add_sub_cancel_left]
   rw [this]
   exact h3
 | false =>
  obtain ⟨u, h3, h4⟩ := h2 hag
  have h3 : cs[startOf ps pi + rel]? = some u := by simpa using h3
  exact ⟨u, by simp [h3], h4⟩
theorem op_field (hE : EnvOk E P) (hr : HR E keep w0 st.ent σ w) (hf : FRel E st.ent σ w st a) (t : TypeId) (x : Operand) (i : Nat) (ho : o.op = .field t x i) (h : (stepOp E call o st).eval = some (v, es)) :
 Done E keep w0 st.ent σ w ((execOp a.eval o).run P w) v es := by
 have hx := ev_RT (E := E) hf 0 x
 simp only [stepOp, ho] at h
 split at h
 ·rename_i ty ps ht hv
  rw [hv] at hx
  obtain ⟨cs, ex, hps⟩ := hx
  obtain ⟨d, hd1, hd2⟩ := ty_run hE ht w
  split at h
  ·rename_i fs hd
   rw [hd] at hd2
   cases d <;> simp only [tyD] at hd2
   rename_i fields
   split at h
   ·rename_i off ft hn
    obtain ⟨f, hf1, hf2, hf3⟩ := nth_fields hd2 hn
    split at h
    ·rename_i fty hfty
     split at h
     ·rename_i pi rel hl
      split at h
      ·rename_i hpl
       split at h
       ·rename_i u hload
        simp only [Tr.eval, Option.some.injEq, Prod.mk.injEq] at h
        obtain ⟨rfl, rfl⟩ := h
        obtain ⟨_, h3⟩ := locate_start _ _ _ _ _ hl
        rw [Nat.sub_zero] at h3
        obtain ⟨u, hrun, hru⟩ := part_sound hE hfty hps (placeOk_pOk hpl) hload
        refine Done.pure hr (u := u) ?_ hru
        simp [execOp, ho, ex, Instr.field, hd1, hf1, asAgg, hf2, hf3, h3, hrun]
       ·simp [Tr.eval] at h
      ·simp [Tr.eval] at h
     ·simp [Tr.eval] at h
    ·simp [Tr.eval] at h
   ·simp [Tr.eval] at h
  ·simp [Tr.eval] at h
 ·simp [Tr.eval] at h
theorem RT_parts {x : V} {u : Value} (h : RT E ent σ w x u) (hs : psize (partsOf x) = u.cells.size) (hx : capOk x = true) : ROL E ent σ w (partsOf x) u.cells.toList := by
 cases x <;> first
  | (simp [capOk, oneV] at hx; done)
  | (obtain ⟨cs, rfl, h2⟩ := h; exact h2)
  | (obtain ⟨cs, rfl, h2⟩ := h
     simp only [partsOf, ROL]
     refine ⟨cs.toList, [], by simp [Value.cells], ?_, rfl⟩
     simp only [RO1, RF]
     exact h2)
  | (obtain ⟨h1, h2⟩ := h
     have hc : u.cells.toList = [u] := by cases u <;> first | rfl | simp [Value.oneCell'] at h1
     rw [hc]
     simp only [partsOf, ROL]
     exact ⟨[u], [], rfl, h2, rfl⟩)
theorem capOk_size {x : V} {u : Value} (h : RT E ent σ w x u) (hx : capOk x = true) : u.cells.size = psize (partsOf x) := by
 cases x <;> first
  | (simp [capOk, oneV] at hx; done)
  | (obtain ⟨cs, rfl, h2⟩ := h; have := ROL_len _ _ h2; simpa [Value.cells, partsOf] using this)
  | (obtain ⟨cs, rfl, h2⟩ := h; have := congrArg List.length h2; simpa [Value.cells, partsOf, psize, vsize1] using this)
  | (obtain ⟨h1, h2⟩ := h
     have hc : u.cells = #[u] := by cases u <;> first | rfl | simp [Value.oneCell'] at h1
     rw [hc]; rfl)
end
end Go.Proofs.YthdnamhilcjnhaaGreatDoor
