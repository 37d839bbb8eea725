/- Stores; structs built; slices of arrays; lengths. -/
import Derived.Test.YthdnamhilcjnhaaGreatDoorRs7
namespace Go.Proofs.YthdnamhilcjnhaaGreatDoor
open Go Go.RowKit
set_option linter.unusedVariables false
set_option linter.unusedSimpArgs false
section
variable {E : Env} {P : Program} {keep : Nat → Prop} {w0 : World} {σ : Sg} {w : World} {st : St} {a : Act} {o : Oper} {v : V} {es : List (Nat × Ent)} {call : Nat → List V → Option V} {ent : Nat → Ent}
mutual
theorem RF_of_RO1 (ok : okB ent σ w = okB ent σ w) : ∀ (v : V) (cs : List Value), forO v = true → RO1 E ent σ w v cs → RF w (okB ent σ w) v cs
 | .int .., cs, _, h => by simpa only [RO1] using h
 | .bool .., cs, _, h => by simpa only [RO1] using h
 | .str .., cs, _, h => by simpa only [RO1] using h
 | .ints .., cs, _, h => by simpa only [RO1] using h
 | .nils, cs, _, h => by simpa only [RO1] using h
 | .nilp, cs, _, h => by simpa only [RO1] using h
 | .nilf, cs, _, h => by simpa only [RO1] using h
 | .nilm, cs, _, h => by simpa only [RO1] using h
 | .sl .., cs, _, h => by simpa only [RO1] using h
 | .ref .., cs, _, h => by simpa only [RO1] using h
 | .mapc .., cs, _, h => by simpa only [RO1] using h
 | .parts .., cs, hf, h => by simp [forO] at hf
 | .tup .., cs, hf, h => by simp [forO] at hf
 | .fresh .., cs, hf, h => by simp [forO] at hf
 | .clo .., cs, hf, h => by simp [forO] at hf
 | .ptr .., cs, hf, h => by simp [forO] at hf
 | .elem .., cs, hf, h => by simp [forO] at hf
 | .arr .., cs, hf, h => by simp [forO] at hf
 | .row .., cs, hf, h => by simp [forO] at hf
 | .mp .., cs, hf, h => by simp [forO] at hf
 | .und, cs, hf, h => by simp [forO] at hf
 | .dead, cs, hf, h => by simp [forO] at hf
end
theorem allB_cons {α : Type} {p : α → Bool} {x : α} {xs : List α} (h : allB p (x :: xs) = true) : p x = true ∧ allB p xs = true := by
 unfold allB at h
 cases hp : p x <;> simp [hp] at h
 exact ⟨rfl, h⟩
theorem forO_notP {v : V} (h : forO v = true) : notP v = true := by cases v <;> first | rfl | simp [forO] at h
theorem RFL_of_ROL : ∀ (ps : List V) (cs : List Value), allB forO ps = true → ROL E ent σ w ps cs → RFL w (okB ent σ w) ps cs
 | [], cs, _, h => by simpa only [ROL, RFL] using h
 | p :: ps, cs, hf, h => by
  obtain ⟨h1, h2⟩ := allB_cons hf
  simp only [ROL] at h
  obtain ⟨a1, b1, h3, h4, h5⟩ := h
  simp only [RFL]
  exact ⟨a1, b1, h3, forO_notP h1, RF_of_RO1 rfl p a1 h1 h4, RFL_of_ROL ps b1 h2 h5⟩
theorem RFc_of_RTc {x : V} {u : Value} (hf : forP x = true) (h : RTc E ent σ w x u) : RF w (okB ent σ w) x u.cells.toList ∧ aggOk x u := by
 cases x with
 | parts ps =>
  obtain ⟨cs, rfl, h2⟩ := h
  exact ⟨by simp only [RF]; exact RFL_of_ROL ps _ hf h2, ⟨cs, rfl⟩⟩
 | ints k n c =>
  obtain ⟨cs, rfl, h2⟩ := h
  exact ⟨by simp only [RF]; exact h2, ⟨cs, rfl⟩⟩
 | _ =>
  obtain ⟨h1, h2⟩ := h
  have hc : u.cells.toList = [u] := by cases u <;> first | rfl | simp [Value.oneCell'] at h1
  rw [hc]
  exact ⟨RF_of_RO1 rfl _ _ hf h2, h1⟩
theorem RFC_of_RTL : ∀ (vs : List V) (us : List Value), allB forP vs = true → RTL E ent σ w vs us → RFC w (okB ent σ w) vs us
 | [], us, _, h => by simpa only [RTL, RFC] using h
 | v :: vs, us, hf, h => by
  obtain ⟨h1, h2⟩ := allB_cons hf
  rw [RTL_cons] at h
  obtain ⟨u, l, h3, h4, h5⟩ := h
  simp only [RFC]
  obtain ⟨h6, h7⟩ := RFc_of_RTc h1 h4
  exact ⟨u, l, h3, h6, h7, RFC_of_RTL vs l h2 h5⟩
theorem RFv_of_RTc {x : V} {u : Value} (hf : forV x = true) (h : RTc E ent σ w x u) : RF w (okB ent σ w) x u.cells.toList ∧ aggOk x u := by
 cases x with
 | clo f caps =>
  obtain ⟨h1, h2⟩ := h
  have h2' : RO1 E ent σ w (.clo f caps) [u] := h2
  simp only [RO1] at h2'
  obtain ⟨cv, h3, h4⟩ := h2'
  simp only [List.cons.injEq, and_true] at h3
  subst h3
  refine ⟨?_, h1⟩
  simp only [RF]
  exact ⟨cv, cloVal_cells f cv, RFC_of_RTL _ _ hf h4⟩
 | parts ps => exact RFc_of_RTc hf h
 | ints k n c => exact RFc_of_RTc rfl h
 | _ => exact RFc_of_RTc hf h
theorem storeVar_run (hE : EnvOk E P) {t : Nat} {ty : TyI} (ht : E.ty t = some ty) {g off : Nat} {cs : Array Value} {e : TypeId} {u : Value} (hg : w.heap[g]? = some (.cells cs e (0, 0)))
 (hs : u.cells.size = ty.size) (hle : off + ty.size ≤ cs.size) (h1 : ∀ c ∈ u.cells.toList, c.oneCell' = true) :
 (storeVar t ⟨g, off, none⟩ u).run P w = .ok () (w.setRow g (cs.toList.take off ++ u.cells.toList ++ cs.toList.drop (off + ty.size)).toArray) := by
 have hl : u.cells.toList.length = ty.size := by simpa using hs
 have := run_storeCells_at P g off e u.cells.toList 0 cs w hg (by rw [hl]; omega) h1
 simp only [Nat.add_zero, hl] at this
 unfold storeVar
 simp only [Sem.run_bind, sz_run hE ht, Result.andThen_ok, hs, ne_eq, not_true_eq_false, if_false]
 exact this
theorem nth_setNth {α : Type} : ∀ (l : List α) (i j : Nat) (x y : α), nth (setNth l i x) j = some y → (j = i ∧ y = x) ∨ nth l j = some y
 | [], i, j, x, y, h => by cases i <;> cases j <;> simp [setNth, nth] at h
 | z :: l, 0, 0, x, y, h => by
  simp only [setNth, nth, Option.some.injEq] at h
  exact .inl ⟨rfl, h.symm⟩
 | z :: l, 0, j + 1, x, y, h => by
  simp only [setNth, nth] at h ⊢
  exact .inr h
 | z :: l, i + 1, 0, x, y, h => by
  simp only [setNth, nth] at h ⊢
  exact .inr h
 | z :: l, i + 1, j + 1, x, y, h => by
  simp only [setNth, nth] at h ⊢
  rcases nth_setNth l i j x y h with ⟨h1, h2⟩ | h
  ·exact .inl ⟨by rw [h1], h2⟩
  ·exact .inr h
theorem setNth_length {α : Type} : ∀ (l : List α) (i : Nat) (x : α), (setNth l i x).length = l.length
 | [], i, x => by cases i <;> rfl
 | z :: l, 0, x => rfl
 | z :: l, i + 1, x => by simp [setNth, setNth_length l i x]
theorem unparts_parts {x : V} {ps' : List V} {us : List Value} (hs : shps ps' = shps (partsOf x)) (hr : ROL E ent σ w ps' us) : partsOf (unparts x ps') = ps' := by
 cases x <;> first
  | rfl
  | (cases ps' with
     | nil => simp [shps, partsOf] at hs
     | cons q l =>
      cases l with
      | cons _ _ => simp [shps, partsOf] at hs
      | nil =>
       simp only [unparts]
       cases q <;> first
        | rfl
        | (simp only [ROL, RO1] at hr; obtain ⟨_, _, _, h, _⟩ := hr; exact h.elim))
theorem unparts_RF {x : V} {ps' : List V} {us : List Value} (hs : shps ps' = shps (partsOf x)) (hr : ROL E ent σ w ps' us) (hf : forV (unparts x ps') = true) : RF w (okB ent σ w) (unparts x ps') us := by
 have one : ∀ q, ROL E ent σ w [q] us → forV q = true → RF w (okB ent σ w) q us := by
  intro q h hq
  simp only [ROL] at h
  obtain ⟨a1, b1, rfl, h1, rfl⟩ := h
  rw [List.append_nil]
  cases q with
  | clo f caps =>
   simp only [RO1] at h1
   obtain ⟨cv, rfl, h2⟩ := h1
   simp only [RF]
   exact ⟨cv, rfl, RFC_of_RTL _ _ hq h2⟩
  | parts ps => simp only [RO1] at h1
  | _ => exact RF_of_RO1 rfl _ _ hq h1
 have two : notP x = true → ps' = [unparts x ps'] := by
  intro hx
  cases x <;> first
   | (simp [notP] at hx; done)
   | (cases ps' with
      | nil => simp [shps, partsOf] at hs
      | cons q l =>
       cases l with
       | cons _ _ => simp [shps, partsOf] at hs
       | nil => rfl)
 by_cases hx : notP x = true
 ·rw [two hx] at hr
  exact one _ hr hf
 ·cases x <;> first
   | (simp [notP] at hx; done)
   | (simp only [unparts, RF] at hf ⊢
      exact RFL_of_ROL _ _ hf hr)
theorem RRow_set {sz : Nat} : ∀ (xs : List V) (cells : List Value) (i : Nat) (x x' : V) (us : List Value), RRow ent σ w sz xs cells → nth xs i = some x → us.length = sz → RF w (okB ent σ w) x' us →
 RRow ent σ w sz (setNth xs i x') (cells.take (i * sz) ++ us ++ cells.drop (i * sz + sz))
 | [], cells, i, x, x', us, h, hn, _, _ => by cases i <;> simp [nth] at hn
 | y :: xs, cells, 0, x, x', us, h, hn, hl, hu => by
  simp only [RRow] at h
  obtain ⟨p, q, rfl, h2, h3, h4⟩ := h
  simp only [setNth, RRow]
  refine ⟨us, q, ?_, hl, hu, h4⟩
  rw [Nat.zero_mul, List.take_zero, List.nil_append, Nat.zero_add, ← h2, List.drop_left]
 | y :: xs, cells, i + 1, x, x', us, h, hn, hl, hu => by
  simp only [RRow] at h
  obtain ⟨p, q, rfl, h2, h3, h4⟩ := h
  simp only [nth] at hn
  simp only [setNth, RRow]
  refine ⟨p, _, ?_, h2, h3, RRow_set xs q i x x' us h4 hn hl hu⟩
  have hs : (i + 1) * sz = p.length + i * sz := by rw [Nat.succ_mul, h2, Nat.add_comm]
  rw [hs, List.take_append, List.take_of_length_le (by omega), Nat.add_sub_cancel_left, Nat.add_assoc, List.drop_append, List.drop_of_length_le (by omega), List.nil_append, Nat.add_sub_cancel_left]
  simp
theorem row_write {α : Type} (cur u : List α) (base sz k N : Nat) (hk : k + u.length ≤ sz) (hb : base + sz ≤ N) (hN : N ≤ cur.length) :
 (cur.take (base + k) ++ u ++ cur.drop (base + k + u.length)).take N =
  (cur.take N).take base ++ ((((cur.take N).drop base).take sz).take k ++ u ++ (((cur.take N).drop base).take sz).drop (k + u.length)) ++ (cur.take N).drop (base + sz) := by
 apply List.ext_getElem?
 intro i
 simp only [List.getElem?_append, List.length_append, List.length_take, List.length_drop, List.getElem?_take, List.getElem?_drop]
 rw [Nat.min_eq_left (show base + k ≤ cur.length by omega), Nat.min_eq_left (show N ≤ cur.length by omega), Nat.min_eq_left (show base ≤ N by omega), Nat.min_eq_left (show sz ≤ N - base by omega), Nat.min_eq_left (show k ≤ sz by omega)]
 by_cases h1 : i < base
 ·rw [if_pos (by omega), if_pos (by omega), if_pos (by omega), if_pos (by omega), if_pos (by omega), if_pos (by omega), if_pos (by omega), if_pos (by omega)]
 ·by_cases h2 : i < base + k
  ·rw [if_pos (by omega), if_pos (by omega), if_pos (by omega), if_pos (by omega), if_pos (by omega), if_neg h1, if_pos (by omega), if_pos (by omega), if_pos (by omega), if_pos (by omega)]
   rw [if_pos (by omega)]
   congr 1
   omega
  ·by_cases h3 : i < base + k + u.length
   ·rw [if_pos (by omega), if_pos (by omega), if_neg (by omega), if_pos (by omega), if_neg h1, if_pos (by omega), if_neg (by omega)]
    congr 1
    omega
   ·by_cases h4 : i < base + sz
    ·rw [if_pos (by omega), if_neg (by omega), if_pos (by omega), if_neg h1, if_neg (by omega), if_pos (by omega), if_pos (by omega)]
     congr 1
     omega
    ·by_cases h5 : i < N
     ·rw [if_pos h5, if_neg (by omega), if_neg (by omega), if_pos (by omega)]
      congr 1
      omega
     ·rw [if_neg h5, if_neg (by omega), if_neg (by omega)]
theorem op_store (hE : EnvOk E P) (hr : HR E keep w0 st.ent σ w) (hf : FRel E st.ent σ w st a) (t : TypeId) (x y : Operand) (ho : o.op = .store t x y) (h : (stepOp E call o st).eval = some (v, es)) :
 Done E keep w0 st.ent σ w ((execOp a.eval o).run P w) v es := by
 have hx := ev_RT (E := E) hf 0 x
 have hy := ev_RT (E := E) hf t y
 simp only [stepOp, ho] at h
 split at h
 ·rename_i ty ht
  split at h
  ·rename_i i pi rel ext hv
   rw [hv] at hx
   split at h
   ·rename_i ps hp
    split at h
    ·rename_i ps' hs
     simp only [Tr.eval, Option.some.injEq, Prod.mk.injEq] at h
     obtain ⟨rfl, rfl⟩ := h
     have he := hr.ents i
     unfold EntR at he
     rw [hp] at he
     obtain ⟨b', cs, e, h5, h6, h7, h8⟩ := he
     have hx2 : RO1 E st.ent σ w (.ptr i pi rel ext) [a.eval x] := hx.2
     simp only [RO1] at hx2
     obtain ⟨u', h1, h2, h3, h4⟩ := hx2
     simp only [List.cons.injEq, and_true] at h1
     subst h1
     obtain ⟨b, hb, hu, hk⟩ := h4 ps hp
     rw [hb] at h5
     simp only [Value.pointer.injEq, Option.some.injEq, Addr.mk.injEq, and_true] at h5
     subst h5
     obtain ⟨g1, g2, g3, g4, g5⟩ := storeP_ROL h8 hk hy hs
     have g3' : startOf ps pi + rel + ty.size ≤ cs.size := by simpa using g3
     have hrun := storeVar_run (P := P) hE ht h7 g1 g3' g4
     refine Done.chg hr (nx := .skip) (u := undef) (w' := w.setRow b (cs.toList.take (startOf ps pi + rel) ++ (a.eval y).cells.toList ++ cs.toList.drop (startOf ps pi + rel + ty.size)).toArray) (σ' := σ) ?_ (.inr ⟨rfl, rfl⟩)
      (Chg.write hr (id := i) (g := b) (e' := .box ps') (by rw [hp]; rfl) (by rw [hb]; rfl) (by simp) rfl rfl rfl (by simp) (fun k hk => setRow_other w b k _ hk) (fun ps1 h1 => by cases h1; exact ⟨ps, hp, g2.symm⟩) (fun e xs h1 => by cases h1) (fun ks vs h1 => by cases h1)) ?_ (fun _ => trivial)
     ·simp [execOp, ho, hu, Instr.storeAt, Instr.sureAddr, hrun]
     ·intro htx id e' hfe
      obtain ⟨rfl, rfl⟩ := find_one hfe
      unfold EntR
      rw [updE_some hfe]
      exact ⟨b, _, e, hb, h6, setRow_heap w b cs _ e _ h7, ROL_move htx _ _ (by simpa using g5)⟩
    ·simp [Tr.eval] at h
   ·simp [Tr.eval] at h
  ·rename_i i j pi rel ext hv
   rw [hv] at hx
   split at h
   ·rename_i e xs hp
    unfold Tr.eval at h
    split at h
    ·rename_i z hn
     simp only [] at h
     split at h
     ·rename_i ps' hs
      split at h
      ·rename_i hfor
       simp only [Tr.eval, Option.some.injEq, Prod.mk.injEq] at h
       obtain ⟨rfl, rfl⟩ := h
       have hx2 : RO1 E st.ent σ w (.elem i j pi rel ext) [a.eval x] := hx.2
       simp only [RO1] at hx2
       obtain ⟨u', h1, h2, h3, h4⟩ := hx2
       simp only [List.cons.injEq, and_true] at h1
       subst h1
       obtain ⟨hi, b, n, c, hb, hu⟩ := h4 e xs hp
       obtain ⟨hu1, hu2⟩ := hu z hn
       have he := hr.ents i
       unfold EntR at he
       rw [hp] at he
       obtain ⟨cells, k1, k2, k3⟩ := he
       rcases k1.2 with ⟨k4, _⟩ | ⟨g, cap, cur, k4, k5, k6, k7, k8, k9, k10⟩
       ·rw [hb] at k4; cases k4
       ·rw [hb] at k4
        simp only [Value.slice.injEq, Option.some.injEq, Addr.mk.injEq, and_true] at k4
        obtain ⟨rfl, rfl, rfl⟩ := k4
        obtain ⟨m1, m2⟩ := RRow_nth xs cells j z k2 hn
        have hcl : xs.length * E.sz e ≤ cur.size := by rw [k9]; exact Nat.mul_le_mul_right _ k7
        have hcells : cells.length = xs.length * E.sz e := by rw [← k10, List.length_take]; simp; omega
        have hseg : ((cells.drop (j * E.sz e)).take (E.sz e)).length = E.sz e := by rw [List.length_take, List.length_drop]; omega
        have hrol := ROL_of_RF (E := E) z _ m1
        obtain ⟨g1, g2, g3, g4, g5⟩ := storeP_ROL hrol hu2 hy hs
        rw [hseg] at g3
        have hul : (a.eval y).cells.toList.length = ty.size := by simpa using g1
        have hrun := storeVar_run (P := P) (u := a.eval y) hE ht k6 g1 (off := j * E.sz e + startOf (partsOf z) pi + rel) (by omega) g4
        have hnew : (cur.toList.take (j * E.sz e + startOf (partsOf z) pi + rel) ++ (a.eval y).cells.toList ++ cur.toList.drop (j * E.sz e + startOf (partsOf z) pi + rel + ty.size)).take (xs.length * E.sz e) =
         cells.take (j * E.sz e) ++ (((cells.drop (j * E.sz e)).take (E.sz e)).take (startOf (partsOf z) pi + rel) ++ (a.eval y).cells.toList ++ ((cells.drop (j * E.sz e)).take (E.sz e)).drop (startOf (partsOf z) pi + rel + ty.size)) ++ cells.drop (j * E.sz e + E.sz e) := by
         rw [← k10, ← hul, Nat.add_assoc (j * E.sz e)]
         exact row_write _ _ _ _ _ _ (by omega) (by omega) (by simpa using hcl)
        have hlen2 : (cur.toList.take (j * E.sz e + startOf (partsOf z) pi + rel) ++ (a.eval y).cells.toList ++ cur.toList.drop (j * E.sz e + startOf (partsOf z) pi + rel + ty.size)).length = cur.size := by
         simp only [List.length_append, List.length_take, List.length_drop, hul, Array.length_toList]
         omega
        have hup := unparts_parts g2 g5
        refine Done.chg hr (nx := .skip) (u := undef) (w' := w.setRow b (cur.toList.take (j * E.sz e + startOf (partsOf z) pi + rel) ++ (a.eval y).cells.toList ++ cur.toList.drop (j * E.sz e + startOf (partsOf z) pi + rel + ty.size)).toArray) (σ' := σ) ?_ (.inr ⟨rfl, rfl⟩)
         (Chg.write hr (id := i) (g := b) (e' := .row e (setNth xs j (unparts z ps'))) (by rw [hp]; rfl) (by rw [hb]; rfl) (by simp) rfl rfl rfl (by simp) (fun k hk => setRow_other w b k _ hk) (fun ps1 h1 => by cases h1) (fun e2 xs2 h1 => ?_) (fun ks vs h1 => by cases h1)) ?_ (fun _ => trivial)
        ·simp [execOp, ho, hu1, Instr.storeAt, Instr.sureAddr, hrun]
        ·cases h1
         refine ⟨xs, hp, setNth_length _ _ _, fun i2 y2 hy2 => ?_⟩
         rcases nth_setNth xs j i2 _ y2 hy2 with ⟨rfl, rfl⟩ | h9
         ·exact ⟨z, hn, by rw [hup]; exact g2.symm⟩
         ·exact ⟨y2, h9, rfl⟩
        ·intro htx id e' hfe
         obtain ⟨rfl, rfl⟩ := find_one hfe
         unfold EntR
         rw [updE_some hfe]
         have hrf := unparts_RF g2 g5 hfor
         have hlu : (((cells.drop (j * E.sz e)).take (E.sz e)).take (startOf (partsOf z) pi + rel) ++ (a.eval y).cells.toList ++ ((cells.drop (j * E.sz e)).take (E.sz e)).drop (startOf (partsOf z) pi + rel + ty.size)).length = E.sz e := by
          simp only [List.length_append, List.length_take, List.length_drop, hul]
          omega
         have hrow := RRow_set xs cells j z _ _ k2 hn hlu hrf
         rw [← hnew] at hrow
         refine ⟨_, ⟨?_, .inr ⟨b, c, _, ?_, Nat.zero_le _, setRow_heap w b cur _ e _ k6, ?_, k8, ?_, ?_⟩⟩, RRow_move htx.ok _ _ hrow, k3⟩
         ·rw [setNth_length, List.length_take, hlen2]; omega
         ·rw [setNth_length]; exact hb
         ·rw [setNth_length]; exact k7
         ·rw [List.size_toArray, hlen2, k9]
         ·rw [setNth_length]
      ·simp [Tr.eval] at h
     ·simp [Tr.eval] at h
    ·cases h
   ·simp [Tr.eval] at h
  ·simp [Tr.eval] at h
 ·simp [Tr.eval] at h
end
end Go.Proofs.YthdnamhilcjnhaaGreatDoor
