/- What a function gives back. -/
import Derived.Test.YthdnamhilcjnhaaGreatDoorRs16
namespace Go.Proofs.YthdnamhilcjnhaaGreatDoor
open Go Go.RowKit
set_option linter.unusedVariables false
set_option linter.unusedSimpArgs false
section
variable {E : Env} {P : Program} {keep : Nat → Prop} {w0 : World} {σ : Sg} {w : World} {st : St} {a : Act} {o : Oper} {v : V} {es : List (Nat × Ent)} {call : Nat → List V → Option V} {ent : Nat → Ent}
def org1 (v : V) (i : Nat) : List (Nat × Nat) := match v with
 | .row id => [(i, id)]
 | _ => []
def orgL : List V → Nat → List (Nat × Nat)
 | [], _ => []
 | v :: vs, i => org1 v i ++ orgL vs (i + 2)
def orgP (v : V) (i : Nat) : List (Nat × Nat) := match v with
 | .parts ps => orgL ps (i * 100)
 | v => org1 v i
def orgT : List V → Nat → List (Nat × Nat)
 | [], _ => []
 | v :: vs, i => orgP v i ++ orgT vs (i + 2)
def EsOf (st : St) (org : List (Nat × Nat)) (es : List (Nat × Ent)) : Prop := es.map (·.1) = org.map (·.1) ∧ ∀ j, find es j = (find org j).map st.ent ∧ ∀ id, find org j = some id → ∃ e xs, st.ent id = .row e xs
theorem EsOf.nil : EsOf st [] [] := ⟨rfl, fun j => ⟨rfl, fun id h => by simp [find] at h⟩⟩
theorem EsOf.append {o1 o2 : List (Nat × Nat)} {e1 e2 : List (Nat × Ent)} (h1 : EsOf st o1 e1) (h2 : EsOf st o2 e2) : EsOf st (o1 ++ o2) (e1 ++ e2) := by
 refine ⟨by rw [List.map_append, List.map_append, h1.1, h2.1], fun j => ?_⟩
 rw [find_append, find_append]
 obtain ⟨h3, h4⟩ := h1.2 j
 obtain ⟨h5, h6⟩ := h2.2 j
 rw [h3]
 cases hf : find o1 j with
 | none => exact ⟨h5, h6⟩
 | some id => exact ⟨rfl, fun id' h => by cases h; exact h4 id hf⟩
theorem out1_es {x : V} {i : Nat} (h : out1 st v = some x) : EsOf st (org1 v i) (recv1 x i).2 := by
 unfold out1 at h
 split at h
 ·rename_i id
  split at h
  ·rename_i e xs hp
   simp only [Option.some.injEq] at h
   subst h
   refine ⟨rfl, fun j => ?_⟩
   simp only [org1, recv1, find]
   cases hb : Nat.beq i j with
   | true => exact ⟨by simp [hp], fun id' h => by cases h; exact ⟨e, xs, hp⟩⟩
   | false => exact ⟨rfl, fun id' h => by cases h⟩
  ·cases h
 ·split at h
  ·simp only [Option.some.injEq] at h
   subst h
   exact EsOf.nil
  ·cases h
 ·split at h
  ·rename_i hf
   simp only [Option.some.injEq] at h
   subst h
   cases v <;> first
    | exact EsOf.nil
    | (simp [forO] at hf; done)
  ·cases h
theorem outL_es : ∀ (vs l : List V) (i : Nat), mapO (out1 st) vs = some l → EsOf st (orgL vs i) (recvL l i).2
 | [], l, i, h => by
  simp only [mapO, Option.some.injEq] at h
  subst h
  exact EsOf.nil
 | v :: vs, l, i, h => by
  obtain ⟨y, l', h1, h2, rfl⟩ := mapO_cons h
  exact (out1_es h1).append (outL_es vs l' (i + 2) h2)
theorem cloOut_some {f : Nat} {caps : List V} {x : V} (h : cloOut st f caps = some x) : ∃ id pi rel ext ps, caps = [.ptr id pi rel ext] ∧ st.ent id = .box ps ∧ allB forO ps = true ∧ x = .clo f [.ref ps pi rel ext] := by
 unfold cloOut at h
 split at h
 ·rename_i id pi rel ext
  split at h
  ·rename_i ps hp
   split at h
   ·rename_i hf
    exact ⟨id, pi, rel, ext, ps, rfl, hp, hf, (Option.some.inj h).symm⟩
   ·cases h
  ·cases h
 ·cases h
theorem outP_es {x : V} {i : Nat} (h : outP st v = some x) : EsOf st (orgP v i) (recvP x i).2 := by
 unfold outP at h
 split at h
 ·split at h
  ·rename_i l hl
   simp only [Option.some.injEq] at h
   subst h
   exact outL_es _ _ _ hl
  ·cases h
 ·split at h
  ·simp only [Option.some.injEq] at h
   subst h
   exact EsOf.nil
  ·obtain ⟨id, pi, rel, ext, ps, rfl, _, _, rfl⟩ := cloOut_some h
   exact EsOf.nil
 ·split at h
  ·split at h
   ·simp only [Option.some.injEq] at h
    subst h
    exact EsOf.nil
   ·cases h
  ·cases h
 ·rename_i h1 h2 h2'
  have h3 : orgP v i = org1 v i := by cases v <;> first | rfl | exact absurd rfl (h1 _)
  have h4 : recvP x i = recv1 x i := by
   unfold out1 at h
   split at h
   ·split at h
    ·simp only [Option.some.injEq] at h; subst h; rfl
    ·cases h
   ·split at h
    ·simp only [Option.some.injEq] at h; subst h; rfl
    ·cases h
   ·split at h
    ·rename_i hf
     simp only [Option.some.injEq] at h
     subst h
     cases v <;> first
      | rfl
      | (simp [forO] at hf; done)
    ·cases h
  rw [h3, h4]
  exact out1_es h
theorem outT_es : ∀ (vs l : List V) (i : Nat), mapO (outP st) vs = some l → EsOf st (orgT vs i) (recvT l i).2
 | [], l, i, h => by
  simp only [mapO, Option.some.injEq] at h
  subst h
  exact EsOf.nil
 | v :: vs, l, i, h => by
  obtain ⟨y, l', h1, h2, rfl⟩ := mapO_cons h
  exact (outP_es h1).append (outT_es vs l' (i + 2) h2)
theorem orgL_ids : ∀ (vs : List V) (i : Nat), (orgL vs i).map (·.2) = rowIds vs
 | [], i => rfl
 | v :: vs, i => by
  simp only [orgL, List.map_append, orgL_ids vs]
  cases v <;> rfl
theorem orgP_ids (v : V) (i : Nat) : (orgP v i).map (·.2) = rowIds (partsOf v) := by
 cases v <;> first
  | rfl
  | exact orgL_ids _ _
theorem orgT_ids : ∀ (vs : List V) (i : Nat), (orgT vs i).map (·.2) = rowsOf vs
 | [], i => rfl
 | v :: vs, i => by simp only [orgT, List.map_append, orgP_ids, orgT_ids vs, rowsOf]
theorem nodup_find : ∀ {m : List (Nat × Nat)} {j id : Nat}, nodupN (m.map (·.1)) = true → (j, id) ∈ m → find m j = some id
 | (p, q) :: m, j, id, h, hm => by
  rw [List.map_cons] at h
  obtain ⟨h1, h2⟩ := nodup_cons h
  simp only [find]
  rcases List.mem_cons.1 hm with hm | hm
  ·cases hm
   simp
  ·have hne : p ≠ j := fun h => h1 j (List.mem_map.2 ⟨_, hm, rfl⟩) h.symm
   have : Nat.beq p j = false := by
    cases hb : Nat.beq p j with
    | false => rfl
    | true => exact absurd (Nat.eq_of_beq_eq_true hb) hne
   rw [this]
   exact nodup_find h2 hm
theorem nodup_snd : ∀ {m : List (Nat × Nat)} {i j id : Nat}, nodupN (m.map (·.2)) = true → (i, id) ∈ m → (j, id) ∈ m → i = j
 | (p, q) :: m, i, j, id, h, hi, hj => by
  rw [List.map_cons] at h
  obtain ⟨h1, h2⟩ := nodup_cons h
  rcases List.mem_cons.1 hi with hi | hi <;> rcases List.mem_cons.1 hj with hj | hj
  ·cases hi; cases hj; rfl
  ·cases hi; exact absurd rfl (h1 _ (List.mem_map.2 ⟨_, hj, rfl⟩))
  ·cases hj; exact absurd rfl (h1 _ (List.mem_map.2 ⟨_, hi, rfl⟩))
  ·exact nodup_snd h2 hi hj
def orgσ (org : List (Nat × Nat)) (σ : Sg) : Sg := ⟨fun j => match find org j with | some id => σ id | none => undef, σ.no⟩
theorem orgσ_some {org : List (Nat × Nat)} {j id : Nat} (h : find org j = some id) : (orgσ org σ) j = σ id := by show (match find org j with | some o => σ o | none => undef) = _; rw [h]
theorem orgEnt {org : List (Nat × Nat)} (he : EsOf st org es) (j : Nat) : updE es ent0 j = match find org j with | some id => st.ent id | none => .none := by
 unfold updE
 rw [(he.2 j).1]
 cases find org j <;> rfl
theorem org_moved {org : List (Nat × Nat)} (he : EsOf st org es) : Moved w w (okB st.ent σ w) (okB (updE es ent0) (orgσ org σ) w) := by
 intro b ⟨h1, h2, h3⟩
 refine ⟨⟨h1, fun j hl hb => ?_, h3⟩, rfl⟩
 rw [orgEnt he] at hl
 cases hf : find org j with
 | some id =>
  rw [hf] at hl
  rw [orgσ_some hf] at hb
  exact h2 id hl hb
 | none => rw [hf] at hl; simp [Ent.live] at hl
theorem org_HR (hr : HR E keep w0 st.ent σ w) {org : List (Nat × Nat)} (he : EsOf st org es) (hn : nodupN (org.map (·.2)) = true) : HR E keep w0 (updE es ent0) (orgσ org σ) w := by
 refine ⟨hr.kept, hr.klt, ?_, ?_, hr.nlt, ?_⟩
 ·intro j
  have h0 := orgEnt he j
  cases hf : find org j with
  | none =>
   rw [hf] at h0
   unfold EntR
   rw [h0]
   trivial
  | some id =>
   obtain ⟨e, xs, hp⟩ := (he.2 j).2 id hf
   rw [hf] at h0
   simp only [hp] at h0
   have h1 := hr.ents id
   unfold EntR at h1 ⊢
   rw [h0, orgσ_some hf]
   rw [hp] at h1
   obtain ⟨cells, k1, k2, k3⟩ := h1
   exact ⟨cells, k1, RRow_move (org_moved he) _ _ k2, k3⟩
 ·intro j b hl hb
  rw [orgEnt he] at hl
  cases hf : find org j with
  | none => rw [hf] at hl; simp [Ent.live] at hl
  | some id =>
   rw [hf] at hl
   rw [orgσ_some hf] at hb
   exact hr.nown id b hl hb
 ·intro i j b hij h1 h2 h3 h4
  rw [orgEnt he] at h1 h2
  cases hi : find org i with
  | none => rw [hi] at h1; simp [Ent.live] at h1
  | some p =>
   cases hj : find org j with
   | none => rw [hj] at h2; simp [Ent.live] at h2
   | some q =>
    rw [hi] at h1
    rw [hj] at h2
    rw [orgσ_some hi] at h3
    rw [orgσ_some hj] at h4
    refine hr.dist p q b (fun h => ?_) h1 h2 h3 h4
    subst h
    exact hij (nodup_snd hn (find_mem hi) (find_mem hj))
theorem map_out {org : List (Nat × Nat)} (he : EsOf st org es) (hr : HR E keep w0 st.ent σ w) {id : Nat} {ks vs : List V} (hp : st.ent id = .map ks vs) : RF w (okB (updE es ent0) (orgσ org σ) w) (.mapc ks vs) [σ id] := by
 have hen := hr.ents id
 unfold EntR at hen
 rw [hp] at hen
 obtain ⟨b, ms, clk, e1, _, e3, e4, e5⟩ := hen
 simp only [RF]
 refine ⟨b, ms, clk, by rw [e1], ⟨(Array.getElem?_eq_some_iff.1 e3).1, fun j hl hb => ?_, hr.nown id b (by rw [hp]; rfl) (by rw [e1]; rfl)⟩, e3, RFC_move (org_moved he) _ _ e4, RFC_move (org_moved he) _ _ e5⟩
 rw [orgEnt he] at hl
 cases hf : find org j with
 | none => rw [hf] at hl; simp [Ent.live] at hl
 | some q =>
  rw [hf] at hl
  rw [orgσ_some hf] at hb
  obtain ⟨e, xs, hq⟩ := (he.2 j).2 q hf
  refine hr.dist q id b (fun h => ?_) hl (by rw [hp]; rfl) hb (by rw [e1]; rfl)
  subst h
  rw [hp] at hq; cases hq
theorem box_out {org : List (Nat × Nat)} (he : EsOf st org es) (hr : HR E keep w0 st.ent σ w) {id pi rel ext : Nat} {ps : List V} {u : Value} (hp : st.ent id = .box ps) (hf : allB forO ps = true) (h : RO1 E st.ent σ w (.ptr id pi rel ext) [u]) : RF w (okB (updE es ent0) (orgσ org σ) w) (.ref ps pi rel ext) [u] := by
 simp only [RO1] at h
 obtain ⟨u', h1, _, _, h4⟩ := h
 simp only [List.cons.injEq, and_true] at h1
 subst h1
 obtain ⟨b, hb, hu, hk⟩ := h4 ps hp
 have hen := hr.ents id
 unfold EntR at hen
 rw [hp] at hen
 obtain ⟨b', cs, e, e1, _, e3, e4⟩ := hen
 rw [hb] at e1
 simp only [Value.pointer.injEq, Option.some.injEq, Addr.mk.injEq, and_true] at e1
 subst e1
 simp only [RF]
 refine ⟨b, 0, cs.toList, by rw [hu, Nat.zero_add], ⟨(Array.getElem?_eq_some_iff.1 e3).1, fun j hl hbj => ?_, hr.nown id b (by rw [hp]; rfl) (by rw [hb]; rfl)⟩, RFL_move (org_moved he) _ _ (RFL_of_ROL ps _ hf e4), cellsAt_block e3, hk⟩
 rw [orgEnt he] at hl
 cases hfo : find org j with
 | none => rw [hfo] at hl; simp [Ent.live] at hl
 | some q =>
  rw [hfo] at hl
  rw [orgσ_some hfo] at hbj
  obtain ⟨e, xs, hq⟩ := (he.2 j).2 q hfo
  refine hr.dist q id b (fun h => ?_) hl (by rw [hp]; rfl) hbj (by rw [hb]; rfl)
  subst h
  rw [hp] at hq; cases hq
section
variable {org : List (Nat × Nat)} (he : EsOf st org es) (hr : HR E keep w0 st.ent σ w)
include he hr
theorem out1_RO1 {x : V} {i : Nat} {cs : List Value} (h : RO1 E st.ent σ w v cs) (hx : out1 st v = some x) (hf : ∀ p, p ∈ org1 v i → find org p.1 = some p.2) : RO1 E (updE es ent0) (orgσ org σ) w (recv1 x i).1 cs := by
 unfold out1 at hx
 split at hx
 ·rename_i id
  split at hx
  ·rename_i e xs hp
   simp only [Option.some.injEq] at hx
   subst hx
   have h1 := hf (i, id) (by simp [org1])
   simp only [recv1, RO1] at h ⊢
   obtain ⟨u, h2, h3, h4, h5⟩ := h
   refine ⟨u, h2, h3, ?_, fun e' xs' _ => ?_⟩
   ·rw [orgEnt he, h1]; exact h4
   ·rw [orgσ_some h1]; exact h5 e xs hp
  ·cases hx
 ·rename_i id
  split at hx
  ·rename_i ks vs hp
   simp only [Option.some.injEq] at hx
   subst hx
   simp only [RO1] at h
   obtain ⟨u, h2, h3, h4, h5⟩ := h
   have hu := h5 ks vs hp
   subst hu
   rw [h2]
   exact RO1_of_RF _ _ rfl (map_out he hr hp)
  ·cases hx
 ·split at hx
  ·rename_i hfo
   simp only [Option.some.injEq] at hx
   subst hx
   have h1 : (recv1 v i).1 = v := by cases v <;> first | rfl | simp [forO] at hfo
   rw [h1]
   exact RO1_of_RF _ _ (forO_notP hfo) (RF_move (org_moved he) _ _ (RF_of_RO1 rfl _ _ hfo h))
  ·cases hx
theorem outL_ROL : ∀ (vs l : List V) (i : Nat) (cs : List Value), ROL E st.ent σ w vs cs → mapO (out1 st) vs = some l → (∀ p, p ∈ orgL vs i → find org p.1 = some p.2) → ROL E (updE es ent0) (orgσ org σ) w (recvL l i).1 cs
 | [], l, i, cs, h, hx, hf => by
  simp only [mapO, Option.some.injEq] at hx
  subst hx
  simp only [recvL, ROL] at h ⊢
  exact h
 | v :: vs, l, i, cs, h, hx, hf => by
  obtain ⟨y, l', h1, h2, rfl⟩ := mapO_cons hx
  simp only [ROL] at h
  obtain ⟨a1, b1, rfl, h3, h4⟩ := h
  simp only [recvL, ROL]
  exact ⟨a1, b1, rfl, out1_RO1 he hr h3 h1 fun p hp => hf p (List.mem_append.2 (.inl hp)), outL_ROL vs l' (i + 2) b1 h4 h2 fun p hp => hf p (List.mem_append.2 (.inr hp))⟩
theorem outP_RTc {x : V} {i : Nat} {u : Value} (h : RT E st.ent σ w v u) (hx : outP st v = some x) (hf : ∀ p, p ∈ orgP v i → find org p.1 = some p.2) : RTc E (updE es ent0) (orgσ org σ) w (recvP x i).1 u := by
 unfold outP at hx
 split at hx
 ·rename_i ps
  split at hx
  ·rename_i l hl
   simp only [Option.some.injEq] at hx
   subst hx
   obtain ⟨cs, h1, h2⟩ := h
   exact ⟨cs, h1, outL_ROL he hr ps l _ _ h2 hl hf⟩
  ·cases hx
 ·rename_i f caps
  split at hx
  ·rename_i hc
   simp only [Option.some.injEq] at hx
   subst hx
   have hc' : RTc E st.ent σ w (.clo f caps) u := h
   obtain ⟨h2, h3⟩ := RFv_of_RTc (x := .clo f caps) hc hc'
   exact RTc_of_RFc (RF_move (org_moved he) _ _ h2) h3
  ·obtain ⟨id, pi, rel, ext, ps, rfl, hp, hfo, rfl⟩ := cloOut_some hx
   obtain ⟨h1, h2⟩ := h
   simp only [RO1, RTL] at h2
   obtain ⟨cv, h3, u1, l1, h4, ⟨h5, h6⟩, h7⟩ := h2
   refine ⟨h1, ?_⟩
   show RO1 E (updE es ent0) (orgσ org σ) w (.clo f [.ref ps pi rel ext]) [u]
   simp only [RO1]
   refine ⟨cv, h3, ?_⟩
   rw [RTL_cons]
   exact ⟨u1, l1, h4, ⟨h5, RO1_of_RF _ _ rfl (box_out he hr hp hfo (by simp only [RO1]; exact h6))⟩, h7⟩
 ·rename_i id pi rel ext
  split at hx
  ·rename_i ps hp
   split at hx
   ·rename_i hfo
    simp only [Option.some.injEq] at hx
    subst hx
    exact ⟨h.1, RO1_of_RF _ _ rfl (box_out he hr hp hfo h.2)⟩
   ·cases hx
  ·cases hx
 ·rename_i h1 h2 h2'
  have h3 : orgP v i = org1 v i := by cases v <;> first | rfl | exact absurd rfl (h1 _)
  have h0 := hx
  unfold out1 at hx
  split at hx
  ·rename_i id
   split at hx
   ·rename_i e xs hp
    simp only [Option.some.injEq] at hx
    subst hx
    have h4 : RO1 E st.ent σ w (.row id) [u] := h.2
    exact ⟨h.1, out1_RO1 he hr h4 h0 hf⟩
   ·cases hx
  ·rename_i id
   split at hx
   ·rename_i ks vs hp
    simp only [Option.some.injEq] at hx
    subst hx
    have h4 : RO1 E st.ent σ w (.mp id) [u] := h.2
    exact ⟨h.1, out1_RO1 he hr h4 h0 hf⟩
   ·cases hx
  ·split at hx
   ·rename_i hfo
    simp only [Option.some.injEq] at hx
    subst hx
    have hc : RTc E st.ent σ w v u := RTc_of_RT (by cases v <;> first | rfl | simp [forO] at hfo) h
    have h5 : (recvP v i).1 = v := by cases v <;> first | rfl | simp [forO] at hfo
    rw [h5]
    have hfp : forP v = true := by cases v <;> first | exact hfo | simp [forO] at hfo
    obtain ⟨h6, h7⟩ := RFc_of_RTc hfp hc
    exact RTc_of_RFc (RF_move (org_moved he) _ _ h6) h7
   ·cases hx
end
def RTS (E : Env) (ent : Nat → Ent) (σ : Sg) (w : World) : List V → List Value → Prop
 | [], us => us = []
 | v :: vs, us => ∃ u l, us = u :: l ∧ RT E ent σ w v u ∧ RTS E ent σ w vs l
theorem outT_RTL {org : List (Nat × Nat)} (he : EsOf st org es) (hr : HR E keep w0 st.ent σ w) : ∀ (vs l : List V) (i : Nat) (us : List Value), RTS E st.ent σ w vs us → mapO (outP st) vs = some l → (∀ p, p ∈ orgT vs i → find org p.1 = some p.2) → RTL E (updE es ent0) (orgσ org σ) w (recvT l i).1 us
 | [], l, i, us, h, hx, hf => by
  simp only [mapO, Option.some.injEq] at hx
  subst hx
  simp only [RTS] at h
  simp only [recvT, RTL]
  exact h
 | v :: vs, l, i, us, h, hx, hf => by
  obtain ⟨y, l', h1, h2, rfl⟩ := mapO_cons hx
  simp only [RTS] at h
  obtain ⟨u, r, rfl, h3, h4⟩ := h
  simp only [recvT]
  rw [RTL_cons]
  exact ⟨u, r, rfl, outP_RTc he hr h3 h1 fun p hp => hf p (List.mem_append.2 (.inl hp)), outT_RTL he hr vs l' (i + 2) r h4 h2 fun p hp => hf p (List.mem_append.2 (.inr hp))⟩
theorem RT_resOne {x : V} {u : Value} (h : RTc E ent σ w x u) : RT E ent σ w x u := by
 cases x with
 | dead => trivial
 | und => have := h.2; simp [RO1, RF] at this
 | tup vs => have := h.2; simp [RO1, RF] at this
 | _ => exact h
theorem outP_notTup {x : V} (h : outP st v = some x) : (∀ i, recv x i = recvP x i) := by
 unfold outP at h
 split at h
 ·split at h
  ·simp only [Option.some.injEq] at h; subst h; intro i; rfl
  ·cases h
 ·split at h
  ·simp only [Option.some.injEq] at h; subst h; intro i; rfl
  ·obtain ⟨id, pi, rel, ext, ps, rfl, _, _, rfl⟩ := cloOut_some h
   intro i; rfl
 ·split at h
  ·split at h
   ·simp only [Option.some.injEq] at h; subst h; intro i; rfl
   ·cases h
  ·cases h
 ·unfold out1 at h
  split at h
  ·split at h
   ·simp only [Option.some.injEq] at h; subst h; intro i; rfl
   ·cases h
  ·split at h
   ·simp only [Option.some.injEq] at h; subst h; intro i; rfl
   ·cases h
  ·split at h
   ·rename_i hf
    simp only [Option.some.injEq] at h
    subst h
    intro i
    cases v <;> first | rfl | simp [forO] at hf
   ·cases h
theorem org_from {org : List (Nat × Nat)} (he : EsOf st org es) : ∀ id, (updE es ent0 id).live = true → ∃ j, updE es ent0 id = st.ent j ∧ (orgσ org σ) id = σ j := by
 intro id h
 rw [orgEnt he] at h ⊢
 cases hf : find org id with
 | none => rw [hf] at h; simp [Ent.live] at h
 | some j => exact ⟨j, rfl, orgσ_some hf⟩
def ResK (E : Env) (keep : Nat → Prop) (no : Nat → Prop) (w0 w' : World) (ent : Nat → Ent) (σ : Sg) (r : V) (u : Value) : Prop :=
 ∀ i, nodupN ((recv r i).2.map (·.1)) = true → ∃ σ' : Sg, σ'.no = no ∧ HR E keep w0 (updE (recv r i).2 ent0) σ' w' ∧ (∀ id, (updE (recv r i).2 ent0 id).live = true → ∃ j, updE (recv r i).2 ent0 id = ent j ∧ σ' id = σ j) ∧ RT E (updE (recv r i).2 ent0) σ' w' (recv r i).1 u
theorem res_soundK {w' : World} {no : Nat → Prop} (hr : HR E keep w0 st.ent σ w') (hno : σ.no = no) {rs : List ResultVar} {vs : List V} {r : V} {us : List Value} (hv : RTS E st.ent σ w' vs us) (hn : nodupN (rowsOf vs) = true)
 (hres : (match mapO (outP st) vs with | some [x] => r = x ∧ ∃ y, vs = [y] | some l => r = .tup l ∧ vs.length ≠ 1 | none => False)) : ResK E keep no w0 w' st.ent σ r (if h : us.length = 1 then us[0] else .tuple us.toArray) := by
 intro i hnd
 cases hm : mapO (outP st) vs with
 | none => rw [hm] at hres; exact hres.elim
 | some l =>
  rw [hm] at hres
  have tup : r = .tup l → vs.length ≠ 1 → ∃ σ' : Sg, σ'.no = no ∧ HR E keep w0 (updE (recv r i).2 ent0) σ' w' ∧ (∀ id, (updE (recv r i).2 ent0 id).live = true → ∃ j, updE (recv r i).2 ent0 id = st.ent j ∧ σ' id = σ j) ∧ RT E (updE (recv r i).2 ent0) σ' w' (recv r i).1 (if h : us.length = 1 then us[0] else .tuple us.toArray) := by
   intro hrl hlen
   subst hrl
   have hes := outT_es vs l (i * 100) hm
   have hlu : us.length = vs.length := by
    have : ∀ (vs : List V) (us : List Value), RTS E st.ent σ w' vs us → us.length = vs.length := by
     intro vs
     induction vs with
     | nil => intro us h; simp only [RTS] at h; subst h; rfl
     | cons v vs ih => intro us h; simp only [RTS] at h; obtain ⟨u, l, rfl, _, h2⟩ := h; simp [ih l h2]
    exact this vs us hv
   refine ⟨orgσ (orgT vs (i * 100)) σ, hno, org_HR hr hes (by rw [orgT_ids]; exact hn), org_from hes, ?_⟩
   rw [dif_neg (by omega)]
   refine ⟨us.toArray, rfl, ?_⟩
   have hkeys : nodupN ((orgT vs (i * 100)).map (·.1)) = true := by rw [← hes.1]; exact hnd
   rw [List.toList_toArray]
   exact outT_RTL hes hr vs l (i * 100) us hv hm fun p hp => nodup_find hkeys hp
  match l, hm, hres, tup with
  | [x], hm, hres, _ =>
   obtain ⟨rfl, y, rfl⟩ := hres
   obtain ⟨y', l', h1, h2, h3⟩ := mapO_cons hm
   simp only [List.cons.injEq] at h3
   obtain ⟨rfl, _⟩ := h3
   simp only [RTS] at hv
   obtain ⟨u, l2, rfl, h4, rfl⟩ := hv
   have hrp := outP_notTup h1 i
   rw [hrp] at hnd ⊢
   have hes := outP_es (i := i) h1
   refine ⟨orgσ (orgP y i) σ, hno, org_HR hr hes ?_, org_from hes, ?_⟩
   ·have := orgT_ids [y] i
    simp only [orgT, List.append_nil] at this
    rw [this]; exact hn
   ·have hkeys : nodupN ((orgP y i).map (·.1)) = true := by rw [← hes.1]; exact hnd
    simpa using RT_resOne (outP_RTc hes hr h4 h1 fun p hp => nodup_find hkeys hp)
  | [], hm, hres, tup => exact tup hres.1 hres.2
  | _ :: _ :: _, hm, hres, tup => exact tup hres.1 hres.2
theorem res_sound {w' : World} {no : Nat → Prop} (hr : HR E (fun b => b < w.heap.size) w st.ent σ w') (hno : σ.no = no) {rs : List ResultVar} {vs : List V} {r : V} {us : List Value} (hv : RTS E st.ent σ w' vs us) (hn : nodupN (rowsOf vs) = true)
 (hres : (match mapO (outP st) vs with | some [x] => r = x ∧ ∃ y, vs = [y] | some l => r = .tup l ∧ vs.length ≠ 1 | none => False)) : ResR E no w w' r (if h : us.length = 1 then us[0] else .tuple us.toArray) := by
 intro i hnd
 obtain ⟨σ', h1, h2, _, h3⟩ := res_soundK (rs := rs) hr hno hv hn hres i hnd
 exact ⟨σ', h1, h2, h3⟩
end
end Go.Proofs.YthdnamhilcjnhaaGreatDoor
