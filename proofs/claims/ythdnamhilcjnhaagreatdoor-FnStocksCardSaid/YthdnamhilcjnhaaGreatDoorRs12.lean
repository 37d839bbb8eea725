/- What a call is handed: own blocks closed. -/
import Derived.Test.YthdnamhilcjnhaaGreatDoorRs11
namespace Go.Proofs.YthdnamhilcjnhaaGreatDoor
open Go Go.RowKit
set_option linter.unusedVariables false
set_option linter.unusedSimpArgs false
section
variable {E : Env} {P : Program} {keep : Nat → Prop} {w0 : World} {σ : Sg} {w : World} {st : St} {a : Act} {o : Oper} {v : V} {es : List (Nat × Ent)} {call : Nat → List V → Option V} {ent : Nat → Ent}
theorem RE_of_RRow {ok' : Nat → Prop} {sz : Nat} (hm : Moved w w (okB ent σ w) ok') : ∀ (xs : List V) (cells : List Value) (b o : Nat), RRow ent σ w sz xs cells → cellsAt w b o cells → RE w ok' xs b o sz
 | [], cells, b, o, _, _ => by simp only [RE]
 | x :: xs, cells, b, o, h, hc => by
  simp only [RRow] at h
  obtain ⟨a1, b1, rfl, h1, h2, h3⟩ := h
  simp only [RE]
  refine ⟨⟨a1, h1, RF_move hm _ _ h2, fun j u hj => hc j u ?_⟩, RE_of_RRow hm xs b1 b (o + sz) h3 fun j u hj => ?_⟩
  ·rw [List.getElem?_append]
   rw [if_pos (by
    rcases Nat.lt_or_ge j a1.length with h | h
    ·exact h
    ·rw [List.getElem?_eq_none h] at hj; cases hj)]
   exact hj
  ·have := hc (sz + j) u (by
    rw [List.getElem?_append, if_neg (by omega)]
    rw [show sz + j - a1.length = j by omega]
    exact hj)
   rwa [← Nat.add_assoc] at this
theorem elems_RE {ok' : Nat → Prop} {b : Nat} {us : List Value} {k : IntKind} {c : Nat → Int} {start m : Nat} (hc : cellsAt w b 0 us) (hu : ∀ j, j < m → us[start + j]? = some (Value.int k (c j))) (sz n rel : Nat) (hle : rel + n * sz ≤ m) :
 RE w ok' (elems c k rel sz n) b (start + rel) sz := by
 have := elems_REo (ok' := ok') hc hu sz n rel hle
 rwa [Nat.zero_add] at this
theorem mapO_cons {α β : Type} {f : α → Option β} {x : α} {xs : List α} {l : List β} (h : mapO f (x :: xs) = some l) : ∃ y l', f x = some y ∧ mapO f xs = some l' ∧ l = y :: l' := by
 simp only [mapO] at h
 split at h
 ·rename_i y l' h1 h2
  simp only [Option.some.injEq] at h
  exact ⟨y, l', h1, h2, h.symm⟩
 ·cases h
def May (ent : Nat → Ent) (σ : Sg) (ok' : Nat → Prop) : Prop := ∀ id b, (ent id).live = true → blk (σ id) = some b → ok' b
theorem close1_sound (hr : HR E keep w0 st.ent σ w) {ok' : Nat → Prop} (hm : Moved w w (okB st.ent σ w) ok') (hmay : May st.ent σ ok' ∨ forO v = true) {x : V} {cs : List Value} (h : RO1 E st.ent σ w v cs) (hx : close1 st v = some x) :
 RF w ok' x cs ∧ shp x = shp v ∧ notP x = true := by
 have own : ∀ id, (v = .row id ∨ (∃ pi rel n sz, v = .arr id pi rel n sz) ∨ v = .mp id) → May st.ent σ ok' := by
  intro id h
  refine hmay.resolve_right fun h1 => ?_
  rcases h with rfl | ⟨_, _, _, _, rfl⟩ | rfl <;> simp [forO] at h1
 cases v with
 | row id =>
  have hown := own id (.inl rfl)
  simp only [close1] at hx
  split at hx
  ·rename_i e xs hp
   simp only [Option.some.injEq] at hx
   subst hx
   simp only [RO1] at h
   obtain ⟨u, rfl, _, _, h4⟩ := h
   have hu := h4 e xs hp
   subst hu
   have he := hr.ents id
   unfold EntR at he
   rw [hp] at he
   obtain ⟨cells, h1, h2, h3⟩ := he
   refine ⟨?_, rfl, rfl⟩
   simp only [RF]
   rcases h1.2 with ⟨h4, h5⟩ | ⟨g, cap, cur, h4, h5, h6, h7, h8, h9, h10⟩
   ·exact ⟨none, 0, by rw [h4, h5], by rw [h5]; simp [maxLen], .inl (List.eq_nil_of_length_eq_zero h5)⟩
   ·refine ⟨_, cap, by rw [h4], by omega, .inr ⟨g, 0, _, rfl, hown id g (by rw [hp]; rfl) (by rw [h4]; rfl), RE_of_RRow hm _ _ g 0 h2 fun j u hj => ?_⟩⟩
    have := h1.cells (g := g) (by rw [h4]; rfl) j u hj
    rwa [addr_add] at this
  ·cases hx
 | nils =>
  simp only [close1, Option.some.injEq] at hx
  subst hx
  simp only [RO1, RF] at h
  refine ⟨?_, rfl, rfl⟩
  simp only [RF]
  exact ⟨none, 0, h, by simp [maxLen], by simp⟩
 | arr id pi rel n sz =>
  have hown := own id (.inr (.inl ⟨_, _, _, _, rfl⟩))
  simp only [close1] at hx
  split at hx
  ·rename_i ps hp
   split at hx
   ·rename_i k n' c hn
    simp only [Option.some.injEq] at hx
    subst hx
    simp only [RO1] at h
    obtain ⟨u, rfl, _, _, h4⟩ := h
    obtain ⟨b, cap, hb, hu, hmx, k2, m2, c2, hn2, hle⟩ := h4 ps hp
    rw [hn] at hn2
    simp only [Option.some.injEq, V.ints.injEq] at hn2
    obtain ⟨rfl, rfl, rfl⟩ := hn2
    subst hu
    have he := hr.ents id
    unfold EntR at he
    rw [hp] at he
    obtain ⟨b', cs, e, h5, h6, h7, h8⟩ := he
    rw [hb] at h5
    simp only [Value.pointer.injEq, Option.some.injEq, Addr.mk.injEq, and_true] at h5
    subst h5
    obtain ⟨h9, h10⟩ := ROL_ints h8 hn
    have hlen : (elems c k rel sz n).length = n := by unfold elems; split <;> simp
    refine ⟨?_, rfl, rfl⟩
    simp only [RF]
    exact ⟨_, cap, by rw [hlen], by rw [hlen]; exact hmx, .inr ⟨b, _, sz, rfl, hown id b (by rw [hp]; rfl) (by rw [hb]; rfl), elems_RE (cellsAt_block h7) h10 sz n rel hle⟩⟩
   ·cases hx
  ·cases hx
 | mp id =>
  have hown := own id (.inr (.inr rfl))
  simp only [close1] at hx
  split at hx
  ·rename_i ks vs hp
   simp only [Option.some.injEq] at hx
   subst hx
   simp only [RO1] at h
   obtain ⟨u, rfl, _, _, h4⟩ := h
   have hu := h4 ks vs hp
   subst hu
   have he := hr.ents id
   unfold EntR at he
   rw [hp] at he
   obtain ⟨b, ms, clk, h5, h6, h7, h8, h9⟩ := he
   refine ⟨?_, rfl, rfl⟩
   simp only [RF]
   exact ⟨b, ms, clk, by rw [h5], hown id b (by rw [hp]; rfl) (by rw [h5]; rfl), h7, RFC_move hm _ _ h8, RFC_move hm _ _ h9⟩
  ·cases hx
 | clo f caps =>
  simp only [close1] at hx
  split at hx
  ·rename_i hfor
   simp only [Option.some.injEq] at hx
   subst hx
   simp only [RO1] at h
   obtain ⟨cv, h1, h2⟩ := h
   refine ⟨?_, rfl, rfl⟩
   simp only [RF]
   exact ⟨cv, h1, RFC_move hm _ _ (RFC_of_RTL _ _ hfor h2)⟩
  ·cases hx
 | _ => first
  | (simp only [close1, reduceCtorEq] at hx; done)
  | (simp only [close1, Option.some.injEq] at hx
     subst hx
     refine ⟨?_, rfl, rfl⟩
     simp only [RO1] at h
     exact RF_move hm _ _ h)
theorem closeL_sound (hr : HR E keep w0 st.ent σ w) {ok' : Nat → Prop} (hm : Moved w w (okB st.ent σ w) ok') : ∀ (ps l : List V) (cs : List Value), (May st.ent σ ok' ∨ allB forO ps = true) → ROL E st.ent σ w ps cs → mapO (close1 st) ps = some l →
 RFL w ok' l cs ∧ shps l = shps ps
 | [], l, cs, _, h, hx => by
  simp only [mapO, Option.some.injEq] at hx
  subst hx
  simp only [ROL] at h
  exact ⟨by simpa only [RFL] using h, rfl⟩
 | p :: ps, l, cs, hmay, h, hx => by
  obtain ⟨y, l', h1, h2, rfl⟩ := mapO_cons hx
  simp only [ROL] at h
  obtain ⟨a1, b1, rfl, h3, h4⟩ := h
  obtain ⟨h5, h6, h7⟩ := close1_sound hr hm (hmay.imp id fun h => (allB_cons h).1) h3 h1
  obtain ⟨h8, h9⟩ := closeL_sound hr hm ps l' b1 (hmay.imp id fun h => (allB_cons h).2) h4 h2
  simp only [RFL]
  exact ⟨⟨a1, b1, rfl, h7, h5, h8⟩, by simp only [shps, List.map_cons, h6] at h9 ⊢; rw [h9]⟩
theorem one_cells {u : Value} (h : u.oneCell' = true) : u.cells.toList = [u] := by cases u <;> first | rfl | simp [Value.oneCell'] at h
theorem RTc_cell {x : V} {u : Value} (h : RTc E ent σ w x u) : (∃ ps cs, x = .parts ps ∧ u = .agg cs ∧ ROL E ent σ w ps cs.toList) ∨ (∃ k n c cs, x = .ints k n c ∧ u = .agg cs ∧ RO1 E ent σ w x cs.toList) ∨ (u.oneCell' = true ∧ RO1 E ent σ w x [u]) := by
 cases x with
 | parts ps => obtain ⟨cs, h1, h2⟩ := h; exact .inl ⟨ps, cs, rfl, h1, h2⟩
 | ints k n c => obtain ⟨cs, h1, h2⟩ := h; exact .inr (.inl ⟨k, n, c, cs, rfl, h1, by simp only [RO1, RF]; exact h2⟩)
 | _ => exact .inr (.inr h)
theorem agg_one {x : V} {u : Value} (h : u.oneCell' = true) (hx : notP x = true) (hi : (shp x).2 = false) : aggOk x u := by
 cases x <;> first
  | exact h
  | (simp [notP] at hx; done)
  | (simp [shp] at hi; done)
theorem close1_RTc (hr : HR E keep w0 st.ent σ w) {ok' : Nat → Prop} (hm : Moved w w (okB st.ent σ w) ok') (hmay : May st.ent σ ok' ∨ forO v = true) {x : V} {u : Value} (h : RTc E st.ent σ w v u) (hx : close1 st v = some x) :
 RF w ok' x u.cells.toList ∧ aggOk x u := by
 rcases RTc_cell h with ⟨ps, cs, rfl, rfl, h1⟩ | ⟨k, n, c, cs, rfl, rfl, h1⟩ | ⟨h1, h2⟩
 ·simp [close1] at hx
 ·simp only [close1, Option.some.injEq] at hx
  subst hx
  simp only [RO1, RF] at h1
  exact ⟨by simp only [RF, Value.cells]; exact h1, ⟨cs, rfl⟩⟩
 ·obtain ⟨h3, h4, h5⟩ := close1_sound hr hm hmay h2 hx
  rw [one_cells h1]
  refine ⟨h3, agg_one h1 h5 ?_⟩
  rw [h4]
  cases v <;> first
   | rfl
   | (obtain ⟨cs, rfl, _⟩ := h; simp [Value.oneCell'] at h1)
theorem closeP_sound (hr : HR E keep w0 st.ent σ w) {ok' : Nat → Prop} (hm : Moved w w (okB st.ent σ w) ok') (hmay : May st.ent σ ok' ∨ forP v = true) {x : V} {u : Value} (h : RTc E st.ent σ w v u) (hx : closeP st v = some x) :
 RF w ok' x u.cells.toList ∧ aggOk x u := by
 cases v with
 | ptr id pi rel ext =>
  have hown : May st.ent σ ok' := hmay.resolve_right (by simp [forP, forO])
  simp only [closeP] at hx
  split at hx
  ·rename_i ps hp
   split at hx
   ·rename_i l hl
    simp only [Option.some.injEq] at hx
    subst hx
    obtain ⟨h1, h2⟩ := h
    have h2' : RO1 E st.ent σ w (.ptr id pi rel ext) [u] := h2
    simp only [RO1] at h2'
    obtain ⟨u', h3, h4, h5, h6⟩ := h2'
    simp only [List.cons.injEq, and_true] at h3
    subst h3
    obtain ⟨b, hb, hu, hk⟩ := h6 ps hp
    have he := hr.ents id
    unfold EntR at he
    rw [hp] at he
    obtain ⟨b', cs, e, h7, h8, h9, h10⟩ := he
    rw [hb] at h7
    simp only [Value.pointer.injEq, Option.some.injEq, Addr.mk.injEq, and_true] at h7
    subst h7
    obtain ⟨h11, h12⟩ := closeL_sound hr hm ps l _ (.inl hown) h10 hl
    rw [one_cells h1]
    refine ⟨?_, h1⟩
    simp only [RF]
    refine ⟨b, 0, cs.toList, by rw [hu, Nat.zero_add, startOf_shps pi h12], hown id b (by rw [hp]; rfl) (by rw [hb]; rfl), h11, cellsAt_block h9, pOk_shps h12.symm hk⟩
   ·cases hx
  ·cases hx
 | parts ps =>
  simp only [closeP] at hx
  split at hx
  ·rename_i l hl
   simp only [Option.some.injEq] at hx
   subst hx
   obtain ⟨cs, rfl, h2⟩ := h
   obtain ⟨h11, h12⟩ := closeL_sound hr hm ps l _ hmay h2 hl
   exact ⟨by simp only [RF]; exact h11, ⟨cs, rfl⟩⟩
  ·cases hx
 | _ => (refine close1_RTc hr hm ?_ h hx; exact hmay)
theorem closePL_sound (hr : HR E keep w0 st.ent σ w) {ok' : Nat → Prop} (hm : Moved w w (okB st.ent σ w) ok') : ∀ (vs l : List V) (us : List Value), (May st.ent σ ok' ∨ allB forP vs = true) → RTL E st.ent σ w vs us → mapO (closeP st) vs = some l → RFC w ok' l us
 | [], l, us, _, h, hx => by
  simp only [mapO, Option.some.injEq] at hx
  subst hx
  simp only [RTL] at h
  simpa only [RFC] using h
 | v :: vs, l, us, hmay, h, hx => by
  obtain ⟨y, l', h1, h2, rfl⟩ := mapO_cons hx
  rw [RTL_cons] at h
  obtain ⟨u, r, rfl, h3, h4⟩ := h
  obtain ⟨h5, h6⟩ := closeP_sound hr hm (hmay.imp id fun h => (allB_cons h).1) h3 h1
  simp only [RFC]
  exact ⟨u, r, rfl, h5, h6, closePL_sound hr hm vs l' r (hmay.imp id fun h => (allB_cons h).2) h4 h2⟩
theorem close_sound (hr : HR E keep w0 st.ent σ w) {ok' : Nat → Prop} (hm : Moved w w (okB st.ent σ w) ok') (hmay : May st.ent σ ok' ∨ forV v = true) {x : V} {u : Value} (h : RTc E st.ent σ w v u) (hx : close st v = some x) :
 RF w ok' x u.cells.toList ∧ aggOk x u := by
 cases v with
 | clo f caps =>
  simp only [close] at hx
  split at hx
  ·rename_i l hl
   simp only [Option.some.injEq] at hx
   subst hx
   obtain ⟨h1, h2⟩ := h
   have h2' : RO1 E st.ent σ w (.clo f caps) [u] := h2
   simp only [RO1] at h2'
   obtain ⟨cv, h3, h4⟩ := h2'
   simp only [List.cons.injEq, and_true] at h3
   subst h3
   refine ⟨?_, h1⟩
   simp only [RF]
   exact ⟨cv, cloVal_cells f cv, closePL_sound hr hm caps l cv hmay h4 hl⟩
  ·cases hx
 | _ => (refine closeP_sound hr hm ?_ h hx; exact hmay)
theorem close_cap {x : V} (h : close st v = some x) : capOk v = true := by
 cases v <;> first
  | rfl
  | (simp [close, closeP, close1] at h; done)
theorem closeA_sound (hr : HR E keep w0 st.ent σ w) {ok' : Nat → Prop} (hm : Moved w w (okB st.ent σ w) ok') : ∀ (vs l : List V) (us : List Value), (May st.ent σ ok' ∨ allB forV vs = true) → RTL E st.ent σ w vs us → mapO (close st) vs = some l → RFC w ok' l us
 | [], l, us, _, h, hx => by
  simp only [mapO, Option.some.injEq] at hx
  subst hx
  simp only [RTL] at h
  simpa only [RFC] using h
 | v :: vs, l, us, hmay, h, hx => by
  obtain ⟨y, l', h1, h2, rfl⟩ := mapO_cons hx
  rw [RTL_cons] at h
  obtain ⟨u, r, rfl, h3, h4⟩ := h
  obtain ⟨h5, h6⟩ := close_sound hr hm (hmay.imp id fun h => (allB_cons h).1) h3 h1
  simp only [RFC]
  exact ⟨u, r, rfl, h5, h6, closeA_sound hr hm vs l' r (hmay.imp id fun h => (allB_cons h).2) h4 h2⟩
theorem frzOf_some {t n e i : Nat} {gs : List (Nat × Operand)} (h : frzOf E st t n gs = some (e, i)) : ∃ ty ety x, E.ty t = some ty ∧ ty.d = .sl e ∧ E.ty e = some ety ∧ ety.size = 1 ∧ gs = [(0, x)] ∧ n = 1 ∧ st.ev E e x = .row i := by
 unfold frzOf at h
 split at h
 ·rename_i ty hty
  split at h
  ·rename_i e' hd
   split at h
   ·rename_i ety hety
    split at h
    ·rename_i i' hf
     simp only [Option.some.injEq, Prod.mk.injEq] at h
     obtain ⟨rfl, rfl⟩ := h
     unfold frz1 at hf
     split at hf
     ·rename_i j x
      split at hf
      ·rename_i i' hx hj hn hs
       simp only [Option.some.injEq] at hf
       subst hf
       have hs := Nat.eq_of_beq_eq_true hs
       rw [sz_eq hety] at hs
       have hj := isZero_eq hj
       subst hj
       exact ⟨ty, ety, x, hty, hd, hety, hs, rfl, Nat.eq_of_beq_eq_true hn, hx⟩
      ·cases hf
     ·cases hf
    ·cases h
   ·cases h
  ·cases h
 ·cases h
theorem op_frz (hE : EnvOk E P) (hr : HR E keep w0 st.ent σ w) (hf : FRel E st.ent σ w st a) (t : TypeId) (n : Nat) (gs : Array (Nat × Operand)) (ho : o.op = .buildSlice t n gs) {e i : Nat} (hfz : frzOf E st t n gs.toList = some (e, i)) (h : (stepOp E call o st).eval = some (v, es)) :
 Done E keep w0 st.ent σ w ((execOp a.eval o).run P w) v es := by
 simp only [stepOp, ho, hfz] at h
 split at h
 ·rename_i e1 xs hp hn
  simp only [Tr.eval, Option.some.injEq, Prod.mk.injEq] at h
  obtain ⟨rfl, rfl⟩ := h
  obtain ⟨ty, ety, x, hty, hd, hety, hs1, hgs, rfl, hev⟩ := frzOf_some hfz
  have hx := ev_RT (E := E) hf e x
  rw [hev] at hx
  have hone : (a.eval x).oneCell' = true := hx.1
  have hu := RT_row hr hx hp
  have hlive : (st.ent i).live = true := by rw [hp]; rfl
  have he := hr.ents i
  have hbs : ∀ b, blk (σ i) = some b → b < w.heap.size := fun b hb' => (EntR_blk he hlive hb').2
  unfold EntR at he
  rw [hp] at he
  obtain ⟨cells, k1, k2, k3⟩ := he
  have hne : i ≠ ownId o := fun h6 => by rw [h6, hn] at hp; cases hp
  obtain ⟨d, _, _, hd1, hd2, _⟩ := hE.ty t ty hty
  rw [hd] at hd2
  cases d <;> simp only [tyD] at hd2
  rw [hd2] at hd1
  obtain ⟨d', i', z, m1, m2, m3, m4, m5, m6, m7, _⟩ := hE.ty _ ety hety
  have hcl : (a.eval x).cells.toList = [a.eval x] := one_cells hone
  have hg : gs = #[(0, x)] := by apply Array.ext'; simpa using hgs
  have hfill : Instr.fill (fun i => some (i * 1, 1)) ((Array.range (1 * 1)).map (z.cells[· % z.cells.size]!)) [(0, a.eval x)] = some #[a.eval x] := by
   have := Go.Great.fill_whole (s := 1) (by omega) [a.eval x] ((Array.range (1 * 1)).map (z.cells[· % z.cells.size]!)) (fun u hu => by
    simp only [List.mem_singleton] at hu
    subst hu
    have := congrArg List.length hcl
    simpa using this) (by simp)
   simpa [hcl] using this
  have hrun : (Instr.buildSlice t 1 (gs.map fun (i, x) => (i, a.eval x))).run P w = .ok (.slice (some ⟨w.heap.size, 0, none⟩) 1 1) (w.alloc (.cells #[a.eval x] e)) := by
   refine run_buildSlice w t e 1 _ _ i' z hd1 m3 m6 (by rw [m4, hs1]; decide) (by rw [m4, hs1]; decide) ?_
   rw [hg, m4, hs1]
   simpa using hfill
  have hgr := World.grownBy_alloc w (.cells #[a.eval x] e) none
  let w' := w.alloc (.cells #[a.eval x] e)
  have hchg := mv_chg (σ := σ) (w := w) (e' := e) (ys := [V.sl xs]) hn (tb := [(i, .tomb)]) (.inr ⟨i, rfl, hne, hlive⟩) (v0 := .slice none 0 0) (u1 := .slice (some ⟨w.heap.size, 0, none⟩) 1 1) (w' := w')
   ⟨hgr.os, hgr.tape, hgr.output, hgr.size, fun k hk => hgr.block k hk.1 (by simp)⟩ (fun b' hb' => by cases hb') (fun b' hb' => by
    simp only [blk, Option.some.injEq] at hb'
    exact .inl (by omega))
  refine Done.chg hr (nx := .value (.slice (some ⟨w.heap.size, 0, none⟩) 1 1)) (u := .slice (some ⟨w.heap.size, 0, none⟩) 1 1) (w' := w') (σ' := ⟨fun j => if j = ownId o then .slice (some ⟨w.heap.size, 0, none⟩) 1 1 else σ j, σ.no⟩) ?_ (.inl rfl) hchg ?_ ?_
  ·simp only [execOp, ho]
   simp only [Sem.run_bind, hrun]
   rfl
  ·intro hx' j ee hfi
   rcases find_cases hfi with ⟨rfl, rfl⟩ | ⟨hne2, hfi2⟩
   ·unfold EntR
    rw [updE_some hfi]
    refine ⟨[a.eval x], ?_, ?_, fun b' hb' hk => ?_⟩
    ·simp only [if_true, sz_eq hety, hs1]
     refine ⟨rfl, .inr ⟨w.heap.size, 1, _, rfl, Nat.zero_le _, heap_alloc_new w _, Nat.le_refl _, by simp [maxLen], rfl, rfl⟩⟩
    ·simp only [RRow, sz_eq hety, hs1]
     refine ⟨[a.eval x], [], rfl, rfl, ?_, rfl⟩
     simp only [RF]
     have hm : Moved w w' (okB st.ent σ w) (okB (updE ((ownId o, Ent.row e [V.sl xs]) :: [(i, Ent.tomb)]) st.ent) ⟨fun j => if j = ownId o then .slice (some ⟨w.heap.size, 0, none⟩) 1 1 else σ j, σ.no⟩ w') := hx'.ok
     rcases k1.2 with ⟨h4, h5⟩ | ⟨g, cap, cur, h4, h5, h6, h7, h8, h9, h10⟩
     ·exact ⟨none, 0, by rw [hu, h4, h5], by rw [h5]; simp [maxLen], .inl (List.eq_nil_of_length_eq_zero h5)⟩
     ·have hgi : blk (σ i) = some g := by rw [h4]; rfl
      have hgs2 := hbs g hgi
      refine ⟨_, cap, by rw [hu, h4], by omega, .inr ⟨g, 0, _, rfl, ⟨Nat.lt_of_lt_of_le hgs2 hgr.size, fun id hl hb2 => ?_, fun h => hr.nown i g hlive hgi h⟩, RE_of_RRow (sz := E.sz e1) (fun b hb => ⟨hb, rfl⟩) _ cells g 0 (RRow_move hm _ _ k2) fun j u hj => ?_⟩⟩
      ·by_cases hid : id = ownId o
       ·subst hid
        simp only [if_true, blk, Option.some.injEq] at hb2
        omega
       ·replace hb2 : blk (σ id) = some g := by simpa [hid] using hb2
        by_cases hii : id = i
        ·subst hii
         rw [updE_some (by rw [find_other hid, find_self])] at hl
         simp [Ent.live] at hl
        ·have h0 : updE ((ownId o, Ent.row e [V.sl xs]) :: [(i, Ent.tomb)]) st.ent id = st.ent id := updE_none (by rw [find_other hid, find_other hii]; rfl)
         rw [h0] at hl
         exact hr.dist id i g hii hl hlive hb2 hgi
      ·have := k1.cells (g := g) (by rw [h4]; rfl) j u hj
       rw [addr_add] at this
       have hb3 := hgr.block g hgs2 (by simp)
       unfold World.cell? at this ⊢
       rw [hb3]
       exact this
    ·simp only [if_true, blk, Option.some.injEq] at hb'
     have := hr.klt b' hk
     have := hr.kept.size
     omega
   ·obtain ⟨rfl, rfl⟩ := find_one hfi2
    unfold EntR
    rw [updE_some hfi]
    trivial
  ·intro hx'
   refine ⟨rfl, ?_⟩
   show RO1 E _ _ _ (.row _) _
   simp only [RO1]
   exact ⟨_, rfl, rfl, by rw [updE_some find_self]; simp, fun _ _ _ => by simp⟩
 ·simp [Tr.eval] at h
end
end Go.Proofs.YthdnamhilcjnhaaGreatDoor
