/- Own blocks renamed. -/
import Derived.Test.YthdnamhilcjnhaaGreatDoorRs14
namespace Go.Proofs.YthdnamhilcjnhaaGreatDoor
open Go Go.RowKit
set_option linter.unusedVariables false
set_option linter.unusedSimpArgs false
section
variable {E : Env} {P : Program} {keep : Nat → Prop} {w0 : World} {σ : Sg} {w : World} {st : St} {a : Act} {o : Oper} {v : V} {es : List (Nat × Ent)} {call : Nat → List V → Option V} {ent : Nat → Ent}
theorem natMem_of {x : Nat} : ∀ {xs : List Nat}, x ∈ xs → natMem x xs = true
 | y :: ys, h => by
  simp only [natMem]
  split
  ·rfl
  ·rename_i hb
   rcases List.mem_cons.1 h with h | h
   ·subst h
    rw [show Nat.beq x x = true from Nat.beq_refl x] at hb
    cases hb
   ·exact natMem_of h
theorem nodup_cons {x : Nat} {xs : List Nat} (h : nodupN (x :: xs) = true) : (∀ y, y ∈ xs → y ≠ x) ∧ nodupN xs = true := by
 simp only [nodupN] at h
 split at h
 ·cases h
 ·rename_i hm
  refine ⟨fun y hy he => ?_, h⟩
  subst he
  rw [natMem_of hy] at hm
  cases hm
theorem nodup_inj : ∀ {m : List (Nat × Nat)} {o i j : Nat}, nodupN (m.map (·.1)) = true → (o, i) ∈ m → (o, j) ∈ m → i = j
 | (p, q) :: m, o, i, j, h, hi, hj => by
  rw [List.map_cons] at h
  obtain ⟨h1, h2⟩ := nodup_cons h
  rcases List.mem_cons.1 hi with hi | hi <;> rcases List.mem_cons.1 hj with hj | hj
  ·cases hi; cases hj; rfl
  ·cases hi; exact absurd rfl (h1 _ (List.mem_map.2 ⟨_, hj, rfl⟩))
  ·cases hj; exact absurd rfl (h1 _ (List.mem_map.2 ⟨_, hi, rfl⟩))
  ·exact nodup_inj h2 hi hj
theorem findNew_mem : ∀ {m : List (Nat × Nat)} {j o : Nat}, findNew m j = some o → (o, j) ∈ m
 | [], j, o, h => by simp [findNew] at h
 | (p, q) :: m, j, o, h => by
  simp only [findNew] at h
  split at h
  ·rename_i hb
   simp only [Option.some.injEq] at h
   rw [← Nat.eq_of_beq_eq_true hb, h]
   exact List.mem_cons_self
  ·exact List.mem_cons_of_mem _ (findNew_mem h)
theorem find_entM (m0 N : List (Nat × Nat)) (j : Nat) : ∀ m : List (Nat × Nat), find (entM st m0 N m) j = (findNew m j).map fun o => entOf st m0 N o j
 | [] => rfl
 | (o, n) :: m => by
  simp only [entM, find, findNew]
  cases hb : Nat.beq n j with
  | true => rw [Nat.eq_of_beq_eq_true hb]; rfl
  | false => exact find_entM m0 N j m
theorem find_entN : ∀ (N : List (Nat × Nat)) (j : Nat), find (entN N) j = (find N j).map fun e => Ent.row e []
 | [], j => rfl
 | (n, e) :: N, j => by
  simp only [entN, find]
  cases hb : Nat.beq n j with
  | true => rfl
  | false => exact find_entN N j
def reσ (m : List (Nat × Nat)) (σ : Sg) : Sg := ⟨fun j => match findNew m j with | some o => σ o | none => .slice none 0 0, σ.no⟩
theorem reσ_some {m : List (Nat × Nat)} {j o : Nat} (h : findNew m j = some o) : (reσ m σ) j = σ o := by show (match findNew m j with | some o => σ o | none => Value.slice none 0 0) = _; rw [h]
theorem reσ_none {m : List (Nat × Nat)} {j : Nat} (h : findNew m j = none) : (reσ m σ) j = .slice none 0 0 := by show (match findNew m j with | some o => σ o | none => Value.slice none 0 0) = _; rw [h]
def reEnt (st : St) (m N : List (Nat × Nat)) : Nat → Ent := fun j => match find (entM st m N m ++ entN N) j with
 | some e => e
 | none => .none
theorem reEnt_some {m N : List (Nat × Nat)} {j o : Nat} (h : findNew m j = some o) : reEnt st m N j = entOf st m N o j := by
 unfold reEnt
 rw [find_append, find_entM, h]; rfl
theorem reEnt_none {m N : List (Nat × Nat)} {j : Nat} (h : findNew m j = none) : reEnt st m N j = match find N j with | some e => .row e [] | none => .none := by
 unfold reEnt
 rw [find_append, find_entM, h]
 simp only [Option.map_none]
 rw [find_entN]
 cases find N j <;> rfl
theorem entOf_live {m N : List (Nat × Nat)} {o n : Nat} (h : (entOf st m N o n).live = true) : (st.ent o).live = true := by
 unfold entOf at h
 split at h <;> first
  | (rename_i he; rw [he]; rfl)
  | (simp [Ent.live] at h; done)
theorem re_moved {m N : List (Nat × Nat)} : Moved w w (okB st.ent σ w) (okB (reEnt st m N) (reσ m σ) w) := by
 intro b ⟨h1, h2, h3⟩
 refine ⟨⟨h1, fun j hl hb => ?_, h3⟩, rfl⟩
 cases hf : findNew m j with
 | some o =>
  rw [reEnt_some hf] at hl
  rw [reσ_some hf] at hb
  exact h2 o (entOf_live hl) hb
 | none =>
  rw [reσ_none hf] at hb
  cases hb
theorem RTc_of_RFc {x : V} {u : Value} (h : RF w (okB ent σ w) x u.cells.toList) (ha : aggOk x u) : RTc E ent σ w x u := by
 have h1 : RFC w (okB ent σ w) [x] [u] := by
  simp only [RFC]
  exact ⟨u, [], rfl, h, ha, rfl⟩
 have h2 := RTL_of_RFC (E := E) _ _ h1
 rw [RTL_cons] at h2
 obtain ⟨u', l, h3, h4, _⟩ := h2
 simp only [List.cons.injEq] at h3
 rw [h3.1]; exact h4
theorem RF_of_RO1v {x : V} {cs : List Value} (hn : isPartV x = false) (hf : forV x = true) (h : RO1 E ent σ w x cs) : RF w (okB ent σ w) x cs := by
 cases x with
 | clo f caps =>
  simp only [RO1] at h
  obtain ⟨cv, rfl, h2⟩ := h
  simp only [RF]
  exact ⟨cv, rfl, RFC_of_RTL _ _ hf h2⟩
 | parts ps => simp [isPartV] at hn
 | _ => exact RF_of_RO1 rfl _ _ hf h
theorem sub1_sound {m N : List (Nat × Nat)} {new : Nat} {x : V} {cs : List Value} (hn : isPartV v = false) (h : RO1 E st.ent σ w v cs) (hx : sub1 st m N new v = some x) :
 RO1 E (reEnt st m N) (reσ m σ) w x cs ∧ shp x = shp v := by
 have other : forV v = true → x = v → RO1 E (reEnt st m N) (reσ m σ) w x cs ∧ shp x = shp v := by
  rintro h1 rfl
  refine ⟨RO1_of_RF _ _ ?_ (RF_move re_moved _ _ (RF_of_RO1v hn h1 h)), rfl⟩
  cases x <;> first | rfl | simp [isPartV] at hn
 unfold sub1 at hx
 split at hx
 ·rename_i id
  split at hx
  ·rename_i n e xs hm hp
   split at hx
   ·rename_i o' hf
    split at hx
    ·rename_i ho
     have ho := Nat.eq_of_beq_eq_true ho
     subst ho
     simp only [Option.some.injEq] at hx
     subst hx
     refine ⟨?_, rfl⟩
     simp only [RO1] at h ⊢
     obtain ⟨u, h1, h2, h3, h4⟩ := h
     refine ⟨u, h1, h2, ?_, fun e' xs' h5 => ?_⟩
     ·rw [reEnt_some hf]; unfold entOf; rw [hp]; simp
     ·rw [reσ_some hf]; exact h4 e xs hp
    ·cases hx
   ·cases hx
  ·cases hx
 ·rename_i id
  split at hx
  ·rename_i n ks vs hm hp
   split at hx
   ·rename_i o' hf
    split at hx
    ·rename_i ho
     have ho := Nat.eq_of_beq_eq_true ho
     subst ho
     simp only [Option.some.injEq] at hx
     subst hx
     refine ⟨?_, rfl⟩
     simp only [RO1] at h ⊢
     obtain ⟨u, h1, h2, h3, h4⟩ := h
     refine ⟨u, h1, h2, ?_, fun ks' vs' h5 => ?_⟩
     ·rw [reEnt_some hf]; unfold entOf; rw [hp]; simp
     ·rw [reσ_some hf]; exact h4 ks vs hp
    ·cases hx
   ·cases hx
  ·cases hx
 ·split at hx
  ·rename_i e hN hf
   simp only [Option.some.injEq] at hx
   subst hx
   refine ⟨?_, rfl⟩
   simp only [RO1, RF] at h ⊢
   refine ⟨_, h, rfl, ?_, fun e' xs' h5 => (reσ_none hf).symm⟩
   rw [reEnt_none hf, hN]; simp
  ·cases hx
 ·split at hx
  ·rename_i hfv
   simp only [Option.some.injEq] at hx
   exact other hfv hx.symm
  ·cases hx
theorem subL_sound {m N : List (Nat × Nat)} : ∀ (ps : List V) (new : Nat) (l : List V) (cs : List Value), ROL E st.ent σ w ps cs → subL st m N new ps = some l → ROL E (reEnt st m N) (reσ m σ) w l cs ∧ shps l = shps ps
 | [], new, l, cs, h, hx => by
  simp only [subL, Option.some.injEq] at hx
  subst hx
  simp only [ROL] at h
  exact ⟨by simpa only [ROL] using h, rfl⟩
 | p :: ps, new, l, cs, h, hx => by
  simp only [subL] at hx
  split at hx
  ·rename_i x l' hn h1 h2
   simp only [Option.some.injEq] at hx
   subst hx
   simp only [ROL] at h
   obtain ⟨a1, b1, rfl, h3, h4⟩ := h
   obtain ⟨h5, h6⟩ := sub1_sound hn h3 h1
   obtain ⟨h7, h8⟩ := subL_sound ps (new + 2) l' b1 h4 h2
   simp only [ROL]
   exact ⟨⟨a1, b1, rfl, h5, h7⟩, by simp only [shps, List.map_cons, h6] at h8 ⊢; rw [h8]⟩
  ·cases hx
theorem sub1_cell {m N : List (Nat × Nat)} {new : Nat} {x : V} {u : Value} (h : RT E st.ent σ w v u) (hx : sub1 st m N new v = some x) : RT E (reEnt st m N) (reσ m σ) w x u := by
 have other : forV v = true → x = v → RT E (reEnt st m N) (reσ m σ) w x u := by
  rintro h1 rfl
  have hc : RTc E st.ent σ w x u := by
   cases x <;> first
    | exact h
    | (simp [forV, forP, forO] at h1; done)
  obtain ⟨h2, h3⟩ := RFv_of_RTc h1 hc
  have h4 := RTc_of_RFc (E := E) (RF_move (re_moved (m := m) (N := N)) _ _ h2) h3
  cases x <;> first
   | exact h4
   | (simp [forV, forP, forO] at h1; done)
 have one : oneV v = true → isPartV v = false → oneV x = true → RT E (reEnt st m N) (reσ m σ) w x u := by
  intro h1 h2 h3
  have hc : RO1 E st.ent σ w v [u] := by
   cases v <;> first
    | exact h.2
    | (simp [oneV] at h1; done)
  exact RT_of_one h3 (sub1_sound h2 hc hx).1
 cases v with
 | row id =>
  refine one rfl rfl ?_
  unfold sub1 at hx
  simp only at hx
  split at hx
  ·split at hx
   ·split at hx
    ·simp only [Option.some.injEq] at hx; subst hx; rfl
    ·cases hx
   ·cases hx
  ·cases hx
 | mp id =>
  refine one rfl rfl ?_
  unfold sub1 at hx
  simp only at hx
  split at hx
  ·split at hx
   ·split at hx
    ·simp only [Option.some.injEq] at hx; subst hx; rfl
    ·cases hx
   ·cases hx
  ·cases hx
 | nils =>
  refine one rfl rfl ?_
  unfold sub1 at hx
  simp only at hx
  split at hx
  ·simp only [Option.some.injEq] at hx; subst hx; rfl
  ·cases hx
 | _ =>
  unfold sub1 at hx
  simp only at hx
  split at hx
  ·rename_i hfv
   simp only [Option.some.injEq] at hx
   exact other hfv hx.symm
  ·cases hx
theorem find_none_mem : ∀ {m : List (Nat × Nat)} {o j : Nat}, find m o = none → (o, j) ∈ m → False
 | [], o, j, _, h => by cases h
 | (i, x) :: m, o, j, hf, h => by
  simp only [find] at hf
  cases hb : Nat.beq i o with
  | true => rw [hb] at hf; cases hf
  | false =>
   rw [hb] at hf
   rcases List.mem_cons.1 h with h | h
   ·simp only [Prod.mk.injEq] at h
    obtain ⟨rfl, _⟩ := h
    rw [Nat.beq_refl] at hb; cases hb
   ·exact find_none_mem hf h
theorem cloSub_sound (hr : HR E keep w0 st.ent σ w) {m N : List (Nat × Nat)} {u : Value} (h : RT E st.ent σ w v u) : RT E (reEnt st m N) (reσ m σ) w (cloSub st m v) u := by
 unfold cloSub
 split
 ·rename_i f caps
  split
  ·rename_i id pi rel ext
   split
   ·rename_i ps hm hp
    split
    ·rename_i hfo
     obtain ⟨h1, h2⟩ := h
     refine ⟨h1, ?_⟩
     show RO1 E (reEnt st m N) (reσ m σ) w (.clo f [.ref ps pi rel ext]) [u]
     simp only [RO1, RTL] at h2 ⊢
     obtain ⟨cv, h3, u1, l1, h4, ⟨h5, u', h6, _, _, h7⟩, h8⟩ := h2
     simp only [List.cons.injEq, and_true] at h6
     subst h6
     obtain ⟨b, hb, hu, hk⟩ := h7 ps hp
     have hen := hr.ents id
     unfold EntR at hen
     rw [hp] at hen
     obtain ⟨b', cs, e, e1, _, e3, e4⟩ := hen
     rw [hb] at e1
     simp only [Value.pointer.injEq, Option.some.injEq, Addr.mk.injEq, and_true] at e1
     subst e1
     refine ⟨cv, h3, u1, l1, h4, ⟨h5, ?_⟩, h8⟩
     simp only [RF]
     refine ⟨b, 0, cs.toList, by rw [hu, Nat.zero_add], ⟨(Array.getElem?_eq_some_iff.1 e3).1, fun j hl hbj => ?_, hr.nown id b (by rw [hp]; rfl) (by rw [hb]; rfl)⟩, RFL_move (re_moved (m := m) (N := N)) _ _ (RFL_of_ROL ps _ hfo e4), cellsAt_block e3, hk⟩
     cases hf : findNew m j with
     | some o =>
      rw [reEnt_some hf] at hl
      rw [reσ_some hf] at hbj
      refine hr.dist o id b (fun h => ?_) (entOf_live hl) (by rw [hp]; rfl) hbj (by rw [hb]; rfl)
      subst h
      exact find_none_mem hm (findNew_mem hf)
     | none =>
      rw [reσ_none hf] at hbj
      cases hbj
    ·trivial
   ·trivial
  ·trivial
 ·trivial
theorem subB_sound (hr : HR E keep w0 st.ent σ w) {m N : List (Nat × Nat)} {new : Nat} {u : Value} (h : RT E st.ent σ w v u) : RT E (reEnt st m N) (reσ m σ) w (subB st m N new v) u := by
 have other : RT E (reEnt st m N) (reσ m σ) w (match sub1 st m N new v with | some x => x | none => cloSub st m v) u := by
  cases hx : sub1 st m N new v with
  | none => exact cloSub_sound hr h
  | some x => exact sub1_cell h hx
 cases v with
 | ptr id pi rel ext =>
  simp only [subB]
  split
  ·rename_i n ps hm hp
   split
   ·rename_i o' hf
    split
    ·rename_i ho
     have ho := Nat.eq_of_beq_eq_true ho
     subst ho
     refine ⟨h.1, ?_⟩
     have h2 : RO1 E st.ent σ w (.ptr _ pi rel ext) [u] := h.2
     show RO1 E _ _ _ (.ptr n pi rel ext) [u]
     simp only [RO1] at h2 ⊢
     obtain ⟨u', h3, h4, h5, h6⟩ := h2
     refine ⟨u', h3, h4, ?_, fun ps' hp' => ?_⟩
     ·rw [reEnt_some hf]; unfold entOf; rw [hp]; simp only; split <;> simp
     ·obtain ⟨b, h7, h8, h9⟩ := h6 ps hp
      rw [reEnt_some hf] at hp'
      unfold entOf at hp'
      rw [hp] at hp'
      simp only at hp'
      split at hp'
      ·rename_i l hl
       simp only [Ent.box.injEq] at hp'
       subst hp'
       have he := hr.ents o'
       unfold EntR at he
       rw [hp] at he
       obtain ⟨b', cs, e, k1, k2, k3, k4⟩ := he
       obtain ⟨_, hsh⟩ := subL_sound ps _ _ _ k4 hl
       rw [reσ_some hf]
       exact ⟨b, h7, by rw [startOf_shps pi hsh]; exact h8, pOk_shps hsh.symm h9⟩
      ·cases hp'
    ·trivial
   ·trivial
  ·trivial
 | parts ps =>
  simp only [subB]
  split
  ·rename_i hf
   obtain ⟨cs, h1, h2⟩ := h
   have hc : RTc E st.ent σ w (.parts ps) u := ⟨cs, h1, h2⟩
   obtain ⟨h3, h4⟩ := RFc_of_RTc (x := .parts ps) hf hc
   exact RTc_of_RFc (E := E) (x := .parts ps) (RF_move (re_moved (m := m) (N := N)) _ _ h3) h4
  ·split
   ·rename_i l hl
    obtain ⟨cs, h1, h2⟩ := h
    exact ⟨cs, h1, (subL_sound ps _ _ _ h2 hl).1⟩
   ·trivial
 | _ => exact other
theorem find_subF {m N : List (Nat × Nat)} : ∀ (live : List (Nat × List Nat)) (t : Nat), find (subF st m N live) t = none ∨ find (subF st m N live) t = some (subB st m N (2 * t + 1) (st.get t))
 | [], t => .inl rfl
 | (j, e) :: live, t => by
  simp only [subF, find]
  split
  ·rename_i hb
   rw [Nat.eq_of_beq_eq_true hb]; exact .inr rfl
  ·exact find_subF live t
theorem HR_re (hr : HR E keep w0 st.ent σ w) {m N : List (Nat × Nat)} (hm : nodupN (m.map (·.1)) = true) : HR E keep w0 (reEnt st m N) (reσ m σ) w := by
 refine ⟨hr.kept, hr.klt, ?_, ?_, hr.nlt, ?_⟩
 ·intro j
  cases hf : findNew m j with
  | some o' =>
   have he := hr.ents o'
   unfold EntR at he ⊢
   rw [reEnt_some hf, reσ_some hf]
   unfold entOf
   cases hp : st.ent o' with
   | none => trivial
   | tomb => trivial
   | box ps =>
    rw [hp] at he
    obtain ⟨b, cs, e, k1, k2, k3, k4⟩ := he
    simp only
    split
    ·trivial
    ·trivial
    ·rename_i ps' hq
     split at hq
     ·rename_i l hl
      simp only [Ent.box.injEq] at hq
      subst hq
      exact ⟨b, cs, e, k1, k2, k3, (subL_sound ps _ _ _ k4 hl).1⟩
     ·cases hq
    ·rename_i hq
     split at hq <;> cases hq
    ·rename_i hq
     split at hq <;> cases hq
   | row e xs =>
    rw [hp] at he
    obtain ⟨cells, k1, k2, k3⟩ := he
    exact ⟨cells, k1, RRow_move re_moved _ _ k2, k3⟩
   | map ks vs =>
    rw [hp] at he
    obtain ⟨b, ms, clk, k1, k2, k3, k4, k5⟩ := he
    exact ⟨b, ms, clk, k1, k2, k3, RFC_move re_moved _ _ k4, RFC_move re_moved _ _ k5⟩
  | none =>
   unfold EntR
   rw [reEnt_none hf, reσ_none hf]
   cases find N j with
   | none => trivial
   | some e => exact ⟨[], World.ownsRow_nil w 0 e _, rfl, fun b hb => by cases hb⟩
 ·intro j b hl hb
  cases hf : findNew m j with
  | some o' =>
   rw [reEnt_some hf] at hl
   rw [reσ_some hf] at hb
   exact hr.nown o' b (entOf_live hl) hb
  | none => rw [reσ_none hf] at hb; cases hb
 ·intro i j b hij h1 h2 h3 h4
  cases hi : findNew m i with
  | none => rw [reσ_none hi] at h3; cases h3
  | some p =>
   cases hj : findNew m j with
   | none => rw [reσ_none hj] at h4; cases h4
   | some q =>
    rw [reEnt_some hi] at h1
    rw [reσ_some hi] at h3
    rw [reEnt_some hj] at h2
    rw [reσ_some hj] at h4
    refine hr.dist p q b (fun h => ?_) (entOf_live h1) (entOf_live h2) h3 h4
    subst h
    exact hij (nodup_inj hm (findNew_mem hi) (findNew_mem hj))
theorem find_insH (i : Nat) (e : Ent) : ∀ (l : List (Nat × Ent)) (k : Nat), find (insH i e l) k = match Nat.beq i k with | true => some e | false => find l k
 | [], k => rfl
 | (j, f) :: l, k => by
  simp only [insH]
  cases hij : Nat.beq i j with
  | true =>
   have := Nat.eq_of_beq_eq_true hij
   subst this
   simp only [find]
   cases Nat.beq i k <;> rfl
  | false =>
   cases Nat.blt i j with
   | true => rfl
   | false =>
    simp only [find, find_insH i e l k]
    cases hjk : Nat.beq j k with
    | false => rfl
    | true =>
     have := Nat.eq_of_beq_eq_true hjk
     subst this
     rw [hij]
theorem find_sortH : ∀ (l : List (Nat × Ent)) (k : Nat), find (sortH l) k = find l k
 | [], k => rfl
 | (i, e) :: l, k => by
  simp only [sortH, find_insH, find, find_sortH l k]
  cases Nat.beq i k <;> rfl
theorem ent_sort (fr : List (Nat × V)) (l : List (Nat × Ent)) : St.ent ⟨fr, sortH l⟩ = St.ent ⟨fr, l⟩ := by
 funext k
 unfold St.ent
 simp only [find_sortH]
theorem norm_sound {no : Nat → Prop} {n : Nat} {z : Option Value} (hi : Inv E keep w0 no n z st σ a w) (live : List (Nat × List Nat)) : ∃ σ', Inv E keep w0 no n z (norm live st) σ' a w := by
 unfold norm
 simp only
 split
 ·rename_i hm
  refine ⟨reσ (collF st [] live) σ, ?_, ?_, hi.size, hi.defs, hi.no, hi.z0⟩
  ·rw [ent_sort]; exact HR_re hi.hr hm
  ·rw [ent_sort]
   intro t
   show RT E (reEnt st _ _) _ _ (St.get ⟨subF st _ _ live, _⟩ t) _
   unfold St.get
   simp only
   rcases find_subF (st := st) live t with h | h <;> rw [h]
   ·trivial
   ·exact subB_sound hi.hr (hi.fr t)
 ·refine ⟨⟨fun _ => undef, σ.no⟩, ⟨hi.hr.kept, hi.hr.klt, fun _ => trivial, ?_, hi.hr.nlt, ?_⟩, fun _ => trivial, hi.size, hi.defs, hi.no, hi.z0⟩
  ·intro id b hl _
   simp [St.ent, find, Ent.live] at hl
  ·intro i j b _ hl
   simp [St.ent, find, Ent.live] at hl
end
end Go.Proofs.YthdnamhilcjnhaaGreatDoor
