/- Calls. -/
import Derived.Test.YthdnamhilcjnhaaGreatDoorRs12
namespace Go.Proofs.YthdnamhilcjnhaaGreatDoor
open Go Go.RowKit
set_option linter.unusedVariables false
set_option linter.unusedSimpArgs false
section
variable {E : Env} {P : Program} {keep : Nat → Prop} {w0 : World} {σ : Sg} {w : World} {st : St} {a : Act} {o : Oper} {v : V} {es : List (Nat × Ent)} {call : Nat → List V → Option V} {ent : Nat → Ent}
def MuOk (P : Program) (E : Env) (f : Nat) (avs : List V) (r : V) : Prop :=
 (∃ fn, P.funcs[f]? = some fn ∧ fn.body.isSome = true) ∧ ∃ (a : V) (q : IntKind) (n : Int) (o e : Nat) (xs : List V) (q' : IntKind) (m : Int) (e' : Nat) (xs' : List V), avs = [a, .int q n] ∧ freshIn a = some (o, e, xs) ∧ r = .tup [.int q' m, .fresh e' xs'] ∧
  ∀ (w : World) (u v0 : Value) (cells : List Value), (∀ (ent : Nat → Ent) (σ : Sg), ent 1 = .row e xs → σ 1 = v0 → RT E ent σ w (putRow (.row 1) a) u) → u.cells.toList[o]? = some v0 → w.ownsRow 0 e (E.sz e) v0 xs.length cells →
   (∀ (ent : Nat → Ent) (σ : Sg) (w : World), RRow ent σ w (E.sz e) xs cells) → Calls P f #[u, .int q n] w fun en w' => match en with
    | .returned x => x = .int q' m ∧ Kept (fun b => b < w.heap.size ∧ blk v0 ≠ some b) w w' ∧ ∃ (ent : Nat → Ent) (σ : Sg) (cells' : List Value), w'.ownsRow 0 e' (E.sz e') v0 xs'.length cells' ∧ RRow ent σ w' (E.sz e') xs' cells'
    | _ => False
def PuRes (E : Env) (no : Nat → Prop) (b : Nat) (w w' : World) (x : V) (ps' : List V) (u : Value) : Prop :=
 Kept (fun b' => b' < w.heap.size ∧ b' ≠ b) w w' ∧ ∃ (cs' : Array Value) (e' : Nat), w'.heap[b]? = some (.cells cs' e' (0, 0)) ∧
  ∀ i, nodupN ((recv x i).2.map (·.1)) = true → ∃ σ' : Sg, HR E (fun b' => b' < w.heap.size ∧ b' ≠ b) w (updE (recv x i).2 ent0) σ' w' ∧ (∀ id b', (updE (recv x i).2 ent0 id).live = true → blk (σ' id) = some b' → b' ≠ b) ∧
   RT E (updE (recv x i).2 ent0) σ' w' (recv x i).1 u ∧ RFL w' (fun b' => okN no w' b' ∧ ∀ id, (updE (recv x i).2 ent0 id).live = true → blk (σ' id) ≠ some b') ps' cs'.toList
def PuOk (P : Program) (E : Env) (f : Nat) (avs : List V) (r : V) : Prop :=
 (∃ fn, P.funcs[f]? = some fn ∧ fn.body.isSome = true) ∧ ∃ (p : Nat) (ps : List V) (ext : Nat) (x : V) (ps' : List V), callKind E f = some (.pu p) ∧ nth avs p = some (.ref ps 0 0 ext) ∧ r = .tup [x, .parts ps'] ∧
  ∀ (no : Nat → Prop) (w : World) (us : List Value) (b : Nat) (cs : Array Value) (e : Nat), (∀ b, no b → b < w.heap.size) → no b → us[p]? = some (.pointer (some ⟨b, 0, none⟩)) → w.heap[b]? = some (.cells cs e (0, 0)) → RFL w (okN no w) ps cs.toList → us.length = avs.length →
   RFC w (okN no w) (dropAt avs p) (dropAt us p) → pOk ps 0 0 ext → Calls P f us.toArray w fun en w' => match en with
    | .returned u => PuRes E no b w w' x ps' u
    | _ => False
def MvOk (P : Program) (E : Env) (f : Nat) (avs : List V) (r : V) : Prop :=
 (∃ fn, P.funcs[f]? = some fn ∧ fn.body.isSome = true) ∧ ∃ (p e : Nat) (xs : List V) (e' : Nat) (ys : List V) (b : Bool), callKind E f = some (.mv p) ∧ nth avs p = some (.fresh e xs) ∧ r = .tup [.fresh e' ys, .bool b] ∧
  ∀ (no : Nat → Prop) (w : World) (us : List Value) (v0 : Value) (cells : List Value), (∀ b, no b → b < w.heap.size) → (∀ b, blk v0 = some b → no b) → us[p]? = some v0 → v0.oneCell' = true → w.ownsRow 0 e (E.sz e) v0 xs.length cells → (∀ (ent : Nat → Ent) (σ : Sg) (w : World), RRow ent σ w (E.sz e) xs cells) → us.length = avs.length →
   RFC w (okN no w) (dropAt avs p) (dropAt us p) → Calls P f us.toArray w fun en w' => match en with
    | .returned u => ∃ u1, u = .tuple #[u1, .bool b] ∧ u1.oneCell' = true ∧ Kept (fun b' => b' < w.heap.size ∧ blk v0 ≠ some b') w w' ∧ (∀ b', blk u1 = some b' → w.heap.size ≤ b' ∨ blk v0 = some b') ∧ ∃ (ent : Nat → Ent) (σ : Sg) (cells' : List Value), w'.ownsRow 0 e' (E.sz e') u1 ys.length cells' ∧ RRow ent σ w' (E.sz e') ys cells'
    | _ => False
def BxOk (P : Program) (E : Env) (f : Nat) (avs : List V) (r : V) : Prop :=
 (∃ fn, P.funcs[f]? = some fn ∧ fn.body.isSome = true) ∧ ∃ (ps : List V) (ext : Nat), r = .ref ps 0 0 ext ∧
  ∀ (no : Nat → Prop) (w : World) (us : List Value), (∀ b, no b → b < w.heap.size) → RFC w (okN no w) avs us → Calls P f us.toArray w fun en w' => match en with
   | .returned u => ∃ (b : Nat) (cs : Array Value) (e : Nat), u = .pointer (some ⟨b, 0, none⟩) ∧ Kept (fun b' => b' < w.heap.size) w w' ∧ w.heap.size ≤ b ∧ w'.heap[b]? = some (.cells cs e (0, 0)) ∧ RFL w' (fun b' => okN no w' b' ∧ b' ≠ b) ps cs.toList ∧ pOk ps 0 0 ext
   | _ => False
def RuOk (P : Program) (E : Env) (f : Nat) (avs : List V) (r : V) : Prop :=
 (∃ fn, P.funcs[f]? = some fn ∧ fn.body.isSome = true) ∧ ∃ (p e : Nat) (xs : List V) (e' : Nat) (ys : List V), callKind E f = some (.ru p) ∧ nth avs p = some (.fresh e xs) ∧ r = .fresh e' ys ∧
  ∀ (no : Nat → Prop) (w : World) (us : List Value) (v0 : Value) (cells : List Value), (∀ b, no b → b < w.heap.size) → (∀ b, blk v0 = some b → no b) → us[p]? = some v0 → v0.oneCell' = true → w.ownsRow 0 e (E.sz e) v0 xs.length cells → (∀ (ent : Nat → Ent) (σ : Sg) (w : World), RRow ent σ w (E.sz e) xs cells) → us.length = avs.length →
   RFC w (okN no w) (dropAt avs p) (dropAt us p) → Calls P f us.toArray w fun en w' => match en with
    | .returned _ => Kept (fun b' => b' < w.heap.size ∧ blk v0 ≠ some b') w w' ∧ ∃ (ent : Nat → Ent) (σ : Sg) (cells' : List Value), w'.ownsRow 0 e' (E.sz e') v0 ys.length cells' ∧ RRow ent σ w' (E.sz e') ys cells'
    | _ => False
def CallsOk (P : Program) (E : Env) (call : Nat → List V → Option V) : Prop :=
 ∀ f avs r, call f avs = some r → (Nat.blt f muBase = true → FunOk P E f avs r) ∧ (Nat.blt f muBase = false → Nat.blt f puBase = true → Nat.blt f mvBase = true → MuOk P E (f - muBase) avs r) ∧ (Nat.blt f muBase = false → Nat.blt f puBase = false → PuOk P E (f - puBase) avs r) ∧
  (Nat.blt f muBase = false → Nat.blt f puBase = true → Nat.blt f mvBase = false → Nat.blt f bxBase = true → MvOk P E (f - mvBase) avs r) ∧ (Nat.blt f muBase = false → Nat.blt f puBase = true → Nat.blt f mvBase = false → Nat.blt f bxBase = false → Nat.blt f ruBase = true → BxOk P E (f - bxBase) avs r) ∧ (Nat.blt f muBase = false → Nat.blt f puBase = true → Nat.blt f mvBase = false → Nat.blt f bxBase = false → Nat.blt f ruBase = false → RuOk P E (f - ruBase) avs r)
def plR0 : V → Bool
 | .parts _ => true
 | .row _ => true
 | v => plainO v
def plR : V → Bool
 | .parts ps => allB plR0 ps
 | v => plR0 v
def plRT : V → Bool
 | .tup vs => allB plR vs
 | v => plR v
def rowsP (p : V → Bool) (es : List (Nat × Ent)) : Prop := ∀ x, x ∈ es → ∃ e xs, x.2 = .row e xs ∧ allB p xs = true
theorem rowsP_append {p : V → Bool} {xs ys : List (Nat × Ent)} (h : rowsP p xs) (h' : rowsP p ys) : rowsP p (xs ++ ys) := by
 intro x hx
 rcases List.mem_append.1 hx with hx | hx
 ·exact h x hx
 ·exact h' x hx
theorem allB_true {α : Type} : ∀ (xs : List α), allB (fun _ => true) xs = true
 | [] => rfl
 | _ :: xs => by simp only [allB]; exact allB_true xs
theorem recv1_rows (v : V) (i : Nat) : rowsP (fun _ => true) (recv1 v i).2 := by
 cases v <;> intro x hx <;> simp only [recv1, List.not_mem_nil, List.mem_singleton] at hx
 subst hx
 exact ⟨_, _, rfl, allB_true _⟩
theorem recvL_rows : ∀ (vs : List V) (i : Nat), rowsP (fun _ => true) (recvL vs i).2
 | [], i => by intro x hx; cases hx
 | v :: vs, i => by
  simp only [recvL]
  exact rowsP_append (recv1_rows v i) (recvL_rows vs (i + 2))
theorem recvP_rows (v : V) (i : Nat) : rowsP (fun _ => true) (recvP v i).2 := by
 cases v <;> first
  | exact recvL_rows _ _
  | exact recv1_rows _ _
theorem recvT_rows : ∀ (vs : List V) (i : Nat), rowsP (fun _ => true) (recvT vs i).2
 | [], i => by intro x hx; cases hx
 | v :: vs, i => by
  simp only [recvT]
  exact rowsP_append (recvP_rows v i) (recvT_rows vs (i + 2))
theorem recv_rows (v : V) (i : Nat) : rowsP (fun _ => true) (recv v i).2 := by
 cases v <;> first
  | exact recvT_rows _ _
  | exact recvP_rows _ _
theorem find_mem {α : Type} : ∀ {es : List (Nat × α)} {id : Nat} {e : α}, find es id = some e → (id, e) ∈ es
 | [], id, e, h => by simp [find] at h
 | (j, x) :: es, id, e, h => by
  simp only [find] at h
  split at h
  ·rename_i hb
   simp only [Option.some.injEq] at h
   rw [← Nat.eq_of_beq_eq_true hb, h]
   exact List.mem_cons_self
  ·exact List.mem_cons_of_mem _ (find_mem h)
theorem recv_row {r : V} {i id : Nat} {e : Ent} (h : find (recv r i).2 id = some e) : ∃ e' xs, e = .row e' xs := by
 obtain ⟨e', xs, h1, _⟩ := recv_rows r i _ (find_mem h)
 exact ⟨e', xs, h1⟩
theorem recv1_plain {v : V} {i : Nat} (h : plainP v = true) : plR0 (recv1 v i).1 = true ∧ rowsP plainP.plainE (recv1 v i).2 := by
 have nil : rowsP plainP.plainE [] := by intro x hx; cases hx
 cases v with
 | fresh e xs =>
  refine ⟨rfl, fun x hx => ?_⟩
  simp only [recv1, List.mem_singleton] at hx
  subst hx
  exact ⟨_, _, rfl, h⟩
 | int _ _ => exact ⟨rfl, nil⟩
 | bool _ => exact ⟨rfl, nil⟩
 | str _ => exact ⟨rfl, nil⟩
 | ints _ _ _ => exact ⟨rfl, nil⟩
 | parts _ => exact ⟨rfl, nil⟩
 | nils => exact ⟨rfl, nil⟩
 | nilp => exact ⟨rfl, nil⟩
 | nilf => exact ⟨rfl, nil⟩
 | nilm => exact ⟨rfl, nil⟩
 | _ => simp [plainP, plainO] at h
theorem recvL_plain : ∀ (vs : List V) (i : Nat), allB plainP vs = true → allB plR0 (recvL vs i).1 = true ∧ rowsP plainP.plainE (recvL vs i).2
 | [], i, _ => ⟨rfl, by intro x hx; cases hx⟩
 | v :: vs, i, h => by
  obtain ⟨h1, h2⟩ := allB_cons h
  obtain ⟨h3, h4⟩ := recv1_plain (i := i) h1
  obtain ⟨h5, h6⟩ := recvL_plain vs (i + 2) h2
  simp only [recvL]
  exact ⟨by simp only [allB, h3, h5], rowsP_append h4 h6⟩
theorem recvP_plain {v : V} {i : Nat} (h : plainQ v = true) : plR (recvP v i).1 = true ∧ rowsP plainP.plainE (recvP v i).2 := by
 by_cases hp : ∃ ps, v = .parts ps
 ·obtain ⟨ps, rfl⟩ := hp
  obtain ⟨h1, h2⟩ := recvL_plain ps (i * 100) h
  exact ⟨h1, h2⟩
 ·have h0 : plainP v = true := by cases v <;> first | exact h | exact absurd ⟨_, rfl⟩ hp
  have h1 : recvP v i = recv1 v i := by cases v <;> first | rfl | exact absurd ⟨_, rfl⟩ hp
  obtain ⟨h2, h3⟩ := recv1_plain (i := i) h0
  rw [h1]
  refine ⟨?_, h3⟩
  cases v <;> first | exact h2 | exact absurd ⟨_, rfl⟩ hp
theorem recvT_plain : ∀ (vs : List V) (i : Nat), allB plainQ vs = true → allB plR (recvT vs i).1 = true ∧ rowsP plainP.plainE (recvT vs i).2
 | [], i, _ => ⟨rfl, by intro x hx; cases hx⟩
 | v :: vs, i, h => by
  obtain ⟨h1, h2⟩ := allB_cons h
  obtain ⟨h3, h4⟩ := recvP_plain (i := i) h1
  obtain ⟨h5, h6⟩ := recvT_plain vs (i + 2) h2
  simp only [recvT]
  exact ⟨by simp only [allB, h3, h5], rowsP_append h4 h6⟩
theorem recv_plain {v : V} {i : Nat} (h : plainV v = true) : plRT (recv v i).1 = true ∧ rowsP plainP.plainE (recv v i).2 := by
 by_cases hp : ∃ ps, v = .tup ps
 ·obtain ⟨ps, rfl⟩ := hp
  exact recvT_plain ps (i * 100) h
 ·have h0 : plainQ v = true := by cases v <;> first | exact h | exact absurd ⟨_, rfl⟩ hp
  have h1 : recv v i = recvP v i := by cases v <;> first | rfl | exact absurd ⟨_, rfl⟩ hp
  obtain ⟨h2, h3⟩ := recvP_plain (i := i) h0
  rw [h1]
  refine ⟨?_, h3⟩
  cases v <;> first | exact h2 | exact absurd ⟨_, rfl⟩ hp
theorem RF_plain {w w' : World} {ok ok' : Nat → Prop} {x : V} {cs : List Value} (hx : plainO x = true) (h : RF w ok x cs) : RF w' ok' x cs := by
 cases x <;> first
  | (simp [plainO] at hx; done)
  | (simp only [RF] at h ⊢; exact h)
theorem RFL_plain {w w' : World} {ok ok' : Nat → Prop} : ∀ (ps : List V) (cs : List Value), allB plainO ps = true → RFL w ok ps cs → RFL w' ok' ps cs
 | [], cs, _, h => by simpa only [RFL] using h
 | p :: ps, cs, hp, h => by
  obtain ⟨h1, h2⟩ := allB_cons hp
  simp only [RFL] at h ⊢
  obtain ⟨a1, b1, h3, h4, h5, h6⟩ := h
  exact ⟨a1, b1, h3, h4, RF_plain h1 h5, RFL_plain ps b1 h2 h6⟩
theorem RFE_plain {w w' : World} {ok ok' : Nat → Prop} {x : V} {cs : List Value} (hx : plainP.plainE x = true) (h : RF w ok x cs) : RF w' ok' x cs := by
 cases x with
 | parts ps => simp only [RF] at h ⊢; exact RFL_plain ps cs hx h
 | _ => first
  | exact RF_plain hx h
theorem RRow_plain {ent ent' : Nat → Ent} {σ σ' : Sg} {w w' : World} {sz : Nat} : ∀ (xs : List V) (cs : List Value), allB plainP.plainE xs = true → RRow ent σ w sz xs cs → RRow ent' σ' w' sz xs cs
 | [], cs, _, h => h
 | x :: xs, cs, hp, h => by
  obtain ⟨h1, h2⟩ := allB_cons hp
  obtain ⟨a1, b1, h3, h4, h5, h6⟩ := h
  exact ⟨a1, b1, h3, h4, RFE_plain h1 h5, RRow_plain xs b1 h2 h6⟩
section
variable {ent' : Nat → Ent} {σ' : Sg}
theorem RO1_plR (ha : ∀ id, ent id ≠ .none → ent' id = ent id ∧ σ' id = σ id) {v : V} {cs : List Value} (hv : plR0 v = true) (h : RO1 E ent σ w v cs) : RO1 E ent' σ' w v cs := by
 cases v with
 | row id =>
  simp only [RO1] at h ⊢
  obtain ⟨u, h1, h2, h3, h4⟩ := h
  obtain ⟨h5, h6⟩ := ha id h3
  exact ⟨u, h1, h2, by rw [h5]; exact h3, fun e xs h7 => by rw [h6]; rw [h5] at h7; exact h4 e xs h7⟩
 | _ => first
  | (simp [plR0, plainO] at hv; done)
  | (simp only [RO1] at h; done)
  | (simp only [RO1] at h ⊢; exact RF_plain hv h)
theorem ROL_plR (ha : ∀ id, ent id ≠ .none → ent' id = ent id ∧ σ' id = σ id) : ∀ (ps : List V) (cs : List Value), allB plR0 ps = true → ROL E ent σ w ps cs → ROL E ent' σ' w ps cs
 | [], cs, _, h => by simpa only [ROL] using h
 | p :: ps, cs, hp, h => by
  obtain ⟨h1, h2⟩ := allB_cons hp
  simp only [ROL] at h ⊢
  obtain ⟨a1, b1, h3, h4, h5⟩ := h
  exact ⟨a1, b1, h3, RO1_plR ha h1 h4, ROL_plR ha ps b1 h2 h5⟩
theorem RTc_plR (ha : ∀ id, ent id ≠ .none → ent' id = ent id ∧ σ' id = σ id) {v : V} {u : Value} (hv : plR v = true) (h : RTc E ent σ w v u) : RTc E ent' σ' w v u := by
 cases v with
 | parts ps => obtain ⟨cs, h1, h2⟩ := h; exact ⟨cs, h1, ROL_plR ha ps _ hv h2⟩
 | ints k n c => exact h
 | _ => exact ⟨h.1, RO1_plR ha hv h.2⟩
theorem RTL_plR (ha : ∀ id, ent id ≠ .none → ent' id = ent id ∧ σ' id = σ id) : ∀ (vs : List V) (us : List Value), allB plR vs = true → RTL E ent σ w vs us → RTL E ent' σ' w vs us
 | [], us, _, h => by simpa only [RTL] using h
 | v :: vs, us, hp, h => by
  obtain ⟨h1, h2⟩ := allB_cons hp
  rw [RTL_cons] at h ⊢
  obtain ⟨u, l, h3, h4, h5⟩ := h
  exact ⟨u, l, h3, RTc_plR ha h1 h4, RTL_plR ha vs l h2 h5⟩
theorem RT_plR (ha : ∀ id, ent id ≠ .none → ent' id = ent id ∧ σ' id = σ id) {v : V} {u : Value} (hv : plRT v = true) (h : RT E ent σ w v u) : RT E ent' σ' w v u := by
 cases v with
 | dead => trivial
 | und => exact h
 | tup vs => obtain ⟨us, h1, h2⟩ := h; exact ⟨us, h1, RTL_plR ha vs _ hv h2⟩
 | _ => (unfold RT at h ⊢; exact RTc_plR ha hv h)
end
def Goes (E : Env) (keep : Nat → Prop) (w0 : World) (ent : Nat → Ent) (σ : Sg) (w : World) (a : Act) (o : Oper) (v : V) (es : List (Nat × Ent)) (K : Act → World → Prop) : Prop :=
 ∀ u w' σ', HR E keep w0 (updE es ent) σ' w' → Tx ent σ w (updE es ent) σ' w' → σ'.no = σ.no → RT E (updE es ent) σ' w' v u → K (a.put o.dst u) w'
theorem Done.goes {r : Result Next} (h : Done E keep w0 ent σ w r v es) {K : Act → World → Prop} {Q : Exit → Act → World → Prop} (hK : Goes E keep w0 ent σ w a o v es K) : o.upon P a K Q r := by
 obtain ⟨nx, u, w', σ', rfl, h1, h2, h3, h4, h5⟩ := h
 have := hK u w' σ' h2 h3 h4 h5
 rcases h1 with rfl | ⟨rfl, rfl⟩
 ·exact this
 ·exact this
theorem RTL_append : ∀ (vs ws : List V) (us ts : List Value), RTL E ent σ w vs us → RTL E ent σ w ws ts → RTL E ent σ w (vs ++ ws) (us ++ ts)
 | [], ws, us, ts, h, h' => by simp only [RTL] at h; subst h; simpa using h'
 | v :: vs, ws, us, ts, h, h' => by
  rw [RTL_cons] at h
  obtain ⟨u, l, rfl, h2, h3⟩ := h
  rw [List.cons_append, RTL_cons]
  exact ⟨u, l ++ ts, rfl, h2, RTL_append vs ws l ts h3 h'⟩
theorem mapO_append {α β : Type} {f : α → Option β} : ∀ {xs ys : List α} {l : List β}, mapO f (xs ++ ys) = some l → ∃ l1, mapO f xs = some l1
 | [], ys, l, h => ⟨[], rfl⟩
 | x :: xs, ys, l, h => by
  obtain ⟨y, l', h1, h2, _⟩ := mapO_cons h
  obtain ⟨l1, h3⟩ := mapO_append h2
  exact ⟨y :: l1, by simp only [mapO, h1, h3]⟩
theorem mapO_append2 {α β : Type} {f : α → Option β} : ∀ {xs ys : List α} {l : List β}, mapO f (xs ++ ys) = some l → ∃ l2, mapO f ys = some l2
 | [], ys, l, h => ⟨l, h⟩
 | x :: xs, ys, l, h => by
  obtain ⟨y, l', h1, h2, _⟩ := mapO_cons h
  exact mapO_append2 h2
theorem RTL_len : ∀ (vs : List V) (us : List Value), RTL E ent σ w vs us → vs.length = us.length
 | [], us, h => by simp only [RTL] at h; subst h; rfl
 | v :: vs, us, h => by
  rw [RTL_cons] at h
  obtain ⟨u, l, rfl, h2, h3⟩ := h
  rw [List.length_cons, List.length_cons, RTL_len vs l h3]
theorem RTL_args {a : Act} (hf : FRel E st.ent σ w st a) : ∀ (l : List Operand) (r : List V), mapO (close st) (l.map (st.ev E 0)) = some r → RTL E st.ent σ w (l.map (st.ev E 0)) (l.map a.eval)
 | [], r, h => by simp only [List.map_nil, RTL]
 | x :: l, r, h => by
  rw [List.map_cons] at h
  obtain ⟨y, l', h1, h2, _⟩ := mapO_cons h
  rw [List.map_cons, List.map_cons, RTL_cons]
  exact ⟨_, _, rfl, RTc_of_RT (close_cap h1) (ev_RT hf 0 x), RTL_args hf l l' h2⟩
theorem freeAll_none : ∀ {es : List (Nat × Ent)}, freeAll st es = true → ∀ {id e}, find es id = some e → st.ent id = .none
 | [], _, id, e, h => by simp [find] at h
 | (j, x) :: es, hf, id, e, h => by
  simp only [freeAll] at hf
  split at hf
  ·rename_i hn
   simp only [find] at h
   split at h
   ·rename_i hb
    rw [← Nat.eq_of_beq_eq_true hb]; exact hn
   ·exact freeAll_none hf h
  ·cases hf
theorem like_plain : ∀ {xs ys : List V}, likeRows xs ys = true → allB plainP.plainE xs = true ∧ allB plainP.plainE ys = true ∧ ys.length = xs.length ∧ ∀ i y, nth ys i = some y → ∃ x, nth xs i = some x ∧ shps (partsOf x) = shps (partsOf y)
 | [], [], _ => ⟨rfl, rfl, rfl, fun i y h => by cases i <;> simp [nth] at h⟩
 | [], _ :: _, h => by simp [likeRows] at h
 | _ :: _, [], h => by simp [likeRows] at h
 | x :: xs, y :: ys, h => by
  simp only [likeRows, Bool.and_eq_true] at h
  obtain ⟨h1, h2, h3, h4⟩ := like_plain h.2
  have key : plainP.plainE x = true ∧ plainP.plainE y = true ∧ shps (partsOf x) = shps (partsOf y) := by
   have parts : ∀ (ps qs : List V), likeParts ps qs = true → allB plainO ps = true ∧ allB plainO qs = true ∧ shps ps = shps qs := by
    intro ps
    induction ps with
    | nil => intro qs h; cases qs with
     | nil => exact ⟨rfl, rfl, rfl⟩
     | cons q qs => simp [likeParts] at h
    | cons p ps ih =>
     intro qs h
     cases qs with
     | nil => cases p <;> simp [likeParts] at h
     | cons q qs =>
      cases p <;> cases q <;> simp only [likeParts, Bool.and_eq_true, Bool.false_eq_true] at h
      ·obtain ⟨h1, h2, h3⟩ := ih qs h.2
       exact ⟨h1, h2, by simp only [shps, List.map_cons] at h3 ⊢; rw [h3]; rfl⟩
      ·obtain ⟨h1, h2, h3⟩ := ih qs h.2
       have := Nat.eq_of_beq_eq_true h.1.2
       subst this
       exact ⟨h1, h2, by simp only [shps, List.map_cons] at h3 ⊢; rw [h3]; rfl⟩
   have hl := h.1
   cases x <;> cases y <;> simp only [likeElem, Bool.false_eq_true] at hl
   ·exact ⟨rfl, rfl, rfl⟩
   ·obtain ⟨k1, k2, k3⟩ := parts _ _ hl
    exact ⟨k1, k2, k3⟩
  refine ⟨by simp only [allB, key.1, h1], by simp only [allB, key.2.1, h2], by simp [h3], fun i z hz => ?_⟩
  cases i with
  | zero => simp only [nth, Option.some.injEq] at hz; subst hz; exact ⟨x, rfl, key.2.2⟩
  | succ i => simp only [nth] at hz ⊢; exact h4 i z hz
theorem rowAt_ROL {ent1 : Nat → Ent} {σ1 : Sg} {e id : Nat} {xs : List V} (hp : ent id = .row e xs) (h1 : ent1 1 = .row e xs) (hs : σ1 1 = σ id) : ∀ (ps : List V) (o o' : Nat) (cs : List Value), ROL E ent σ w ps cs → rowAt ps o = some (o', id) →
 ROL E ent1 σ1 w (putRowL (.row 1) ps) cs ∧ o ≤ o' ∧ cs[o' - o]? = some (σ id) ∧ freshAt (putRowL (.fresh e xs) ps) o = some (o', e, xs)
 | [], o, o', cs, h, hr => by simp [rowAt] at hr
 | p :: ps, o, o', cs, h, hr => by
  simp only [ROL] at h
  obtain ⟨a1, b1, rfl, h2, h3⟩ := h
  by_cases hpr : ∃ i, p = .row i
  ·obtain ⟨i, rfl⟩ := hpr
   simp only [rowAt] at hr
   split at hr
   ·rename_i hpl
    simp only [Option.some.injEq, Prod.mk.injEq] at hr
    obtain ⟨rfl, rfl⟩ := hr
    simp only [RO1] at h2
    obtain ⟨u, rfl, h4, h5, h6⟩ := h2
    have hu := h6 e xs hp
    subst hu
    refine ⟨?_, Nat.le_refl _, by simp, by simp only [putRowL, freshAt, hpl]⟩
    simp only [putRowL, ROL, RO1]
    refine ⟨[_], b1, rfl, ⟨_, rfl, h4, by rw [h1]; simp, fun e2 xs2 h7 => hs.symm⟩, ?_⟩
    have : ∀ (ps : List V) (cs : List Value), allB plainO ps = true → ROL E ent σ w ps cs → ROL E ent1 σ1 w ps cs := by
     intro ps
     induction ps with
     | nil => intro cs _ h; simpa only [ROL] using h
     | cons q qs ih =>
      intro cs hpl h
      simp only [allB] at hpl
      split at hpl
      ·rename_i hq
       simp only [ROL] at h ⊢
       obtain ⟨a2, b2, rfl, h8, h9⟩ := h
       refine ⟨a2, b2, rfl, ?_, ih b2 hpl h9⟩
       cases q <;> simp only [plainO, Bool.false_eq_true] at hq <;> (simp only [RO1] at h8 ⊢; exact RF_plain (by rfl) h8)
      ·cases hpl
    exact this ps b1 hpl h3
   ·cases hr
  ·have hr' : plainO p = true ∧ rowAt ps (o + vsize1 p) = some (o', id) := by
    cases p <;> first
     | (simp only [rowAt] at hr; split at hr; · rename_i hq; exact ⟨hq, hr⟩
        ·cases hr)
     | exact absurd ⟨_, rfl⟩ hpr
   obtain ⟨hq, hr⟩ := hr'
   obtain ⟨k1, k2, k3, k4⟩ := rowAt_ROL hp h1 hs ps (o + vsize1 p) o' b1 h3 hr
   have hlen := RO1_len p a1 h2
   have hput : ∀ r, putRowL r (p :: ps) = p :: putRowL r ps := by
    intro r
    cases p <;> first | rfl | simp [plainO] at hq
   have hfr : freshAt (p :: putRowL (.fresh e xs) ps) o = freshAt (putRowL (.fresh e xs) ps) (o + vsize1 p) := by
    cases p <;> first | (simp only [freshAt, plainO]; done) | simp [plainO] at hq
   refine ⟨?_, by omega, ?_, by rw [hput, hfr]; exact k4⟩
   ·rw [hput]
    simp only [ROL]
    refine ⟨a1, b1, rfl, ?_, k1⟩
    cases p <;> simp only [plainO, Bool.false_eq_true] at hq <;> (simp only [RO1] at h2 ⊢; exact RF_plain (by rfl) h2)
   ·rw [List.getElem?_append_right (by omega), hlen, show o' - o - vsize1 p = o' - (o + vsize1 p) by omega]
    exact k3
theorem rowIn_RT {ent1 : Nat → Ent} {σ1 : Sg} {e id o : Nat} {xs : List V} {u : Value} (hp : ent id = .row e xs) (h1 : ent1 1 = .row e xs) (hs : σ1 1 = σ id) (h : RT E ent σ w v u) (hr : rowIn v = some (o, id)) :
 RT E ent1 σ1 w (putRow (.row 1) v) u ∧ u.cells.toList[o]? = some (σ id) ∧ freshIn (putRow (.fresh e xs) v) = some (o, e, xs) := by
 unfold rowIn at hr
 cases v with
 | parts ps =>
  obtain ⟨cs, rfl, h2⟩ := h
  obtain ⟨k1, k2, k3, k4⟩ := rowAt_ROL hp h1 hs ps 0 o cs.toList h2 hr
  exact ⟨⟨cs, rfl, k1⟩, by simpa [Value.cells] using k3, k4⟩
 | row i =>
  simp only [partsOf, rowAt, allB, Option.some.injEq, Prod.mk.injEq] at hr
  obtain ⟨rfl, rfl⟩ := hr
  have h2 : RO1 E ent σ w (.row i) [u] := h.2
  simp only [RO1] at h2
  obtain ⟨u', h3, h4, h5, h6⟩ := h2
  simp only [List.cons.injEq, and_true] at h3
  subst h3
  have hu := h6 e xs hp
  subst hu
  refine ⟨⟨h.1, ?_⟩, ?_, rfl⟩
  ·show RO1 E ent1 σ1 w (.row 1) _
   simp only [RO1]
   exact ⟨_, rfl, h.1, by rw [h1]; simp, fun _ _ _ => hs.symm⟩
  ·have ho : (σ i).oneCell' = true := h.1
   have : (σ i).cells.toList = [σ i] := by generalize σ i = y at ho; cases y <;> first | rfl | simp [Value.oneCell'] at ho
   rw [this]; rfl
 | _ => simp [partsOf, rowAt, plainO] at hr
theorem RTL_args2 {a : Act} {st2 : St} (hf : FRel E st.ent σ w st a) : ∀ (l : List Operand) (r : List V), mapO (close st2) (l.map (st.ev E 0)) = some r → RTL E st.ent σ w (l.map (st.ev E 0)) (l.map a.eval)
 | [], r, h => by simp only [List.map_nil, RTL]
 | x :: l, r, h => by
  rw [List.map_cons] at h
  obtain ⟨y, l', h1, h2, _⟩ := mapO_cons h
  rw [List.map_cons, List.map_cons, RTL_cons]
  exact ⟨_, _, rfl, RTc_of_RT (close_cap h1) (ev_RT hf 0 x), RTL_args2 hf l l' h2⟩
theorem dropAt_map {α β : Type} (f : α → β) : ∀ (l : List α) (p : Nat), dropAt (l.map f) p = (dropAt l p).map f
 | [], p => by cases p <;> rfl
 | x :: l, 0 => rfl
 | x :: l, p + 1 => by simp only [List.map_cons, dropAt]; rw [dropAt_map f l p]
theorem dropAt_insAt {α : Type} (y : α) : ∀ (l : List α) (p : Nat), p ≤ l.length → dropAt (insAt y l p) p = l
 | l, 0, _ => by cases l <;> rfl
 | [], p + 1, h => by simp at h
 | x :: l, p + 1, h => by simp only [insAt, dropAt]; rw [dropAt_insAt y l p (by simpa using h)]
theorem nth_insAt {α : Type} (y : α) : ∀ (l : List α) (p : Nat), p ≤ l.length → nth (insAt y l p) p = some y
 | l, 0, _ => by cases l <;> rfl
 | [], p + 1, h => by simp at h
 | x :: l, p + 1, h => by simp only [insAt, nth]; exact nth_insAt y l p (by simpa using h)
theorem insAt_length {α : Type} (y : α) : ∀ (l : List α) (p : Nat), (insAt y l p).length = l.length + 1
 | l, 0 => by cases l <;> rfl
 | [], p + 1 => rfl
 | x :: l, p + 1 => by simp only [insAt, List.length_cons]; rw [insAt_length y l p]
theorem dropAt_length {α : Type} : ∀ (l : List α) (p : Nat), p < l.length → (dropAt l p).length + 1 = l.length
 | [], p, h => by simp at h
 | x :: l, 0, _ => rfl
 | x :: l, p + 1, h => by simp only [dropAt, List.length_cons]; rw [dropAt_length l p (by simpa using h)]
theorem nth_map2 {α β : Type} {f : α → β} : ∀ {l : List α} {p : Nat} {y : β}, nth (l.map f) p = some y → ∃ x, l[p]? = some x ∧ f x = y
 | [], p, y, h => by cases p <;> simp [nth] at h
 | x :: l, 0, y, h => by simp only [List.map_cons, nth, Option.some.injEq] at h; exact ⟨x, rfl, h⟩
 | x :: l, p + 1, y, h => by simp only [List.map_cons, nth] at h; rw [List.getElem?_cons_succ]; exact nth_map2 h
theorem mapO_len {α β : Type} {f : α → Option β} : ∀ {xs : List α} {l : List β}, mapO f xs = some l → l.length = xs.length
 | [], l, h => by simp only [mapO, Option.some.injEq] at h; subst h; rfl
 | x :: xs, l, h => by
  obtain ⟨y, l', _, h2, rfl⟩ := mapO_cons h
  simp [mapO_len h2]
theorem sameSz_shps : ∀ {ps qs : List V}, sameSz ps qs = true → shps ps = shps qs
 | [], [], _ => rfl
 | [], _ :: _, h => by simp [sameSz] at h
 | _ :: _, [], h => by simp [sameSz] at h
 | p :: ps, q :: qs, h => by
  have key : shp p = shp q ∧ sameSz ps qs = true := by
   cases p <;> cases q <;> first
    | exact ⟨rfl, h⟩
    | (simp [sameSz] at h; done)
    | (simp only [sameSz, Bool.and_eq_true] at h; exact ⟨by simp only [shp]; rw [Nat.eq_of_beq_eq_true h.1], h.2⟩)
  simp only [shps, List.map_cons]
  rw [key.1]
  have := sameSz_shps key.2
  simp only [shps] at this
  rw [this]
theorem ent_bury (st : St) (i id : Nat) : (st.bury i).ent id = if id = i then .tomb else st.ent id := by
 unfold St.ent St.bury
 simp only [find]
 by_cases h : id = i
 ·subst h; simp
 ·rw [if_neg h]
  cases hb : Nat.beq i id with
  | false => rfl
  | true => exact absurd (Nat.eq_of_beq_eq_true hb).symm h
theorem EntR_keep {keep' : Nat → Prop} (hk : ∀ b, keep' b → keep b) {id : Nat} (h : EntR E ent σ w keep id) : EntR E ent σ w keep' id := by
 unfold EntR at h ⊢
 cases he : ent id with
 | none => trivial
 | tomb => trivial
 | box ps => rw [he] at h; obtain ⟨b, cs, e, h1, h2, h3⟩ := h; exact ⟨b, cs, e, h1, fun h => h2 (hk b h), h3⟩
 | row e xs => rw [he] at h; obtain ⟨cells, h1, h2, h3⟩ := h; exact ⟨cells, h1, h2, fun b hb h => h3 b hb (hk b h)⟩
 | map ks vs => rw [he] at h; obtain ⟨b, es, clk, h1, h2, h3⟩ := h; exact ⟨b, es, clk, h1, fun h => h2 (hk b h), h3⟩
theorem RFL_move2 {w' : World} {ok ok' : Nat → Prop} (hm : ∀ b, ok b → ok' b) {ps : List V} {cs : List Value} (h : RFL w' ok ps cs) : RFL w' ok' ps cs := RFL_move (fun b hb => ⟨hm b hb, rfl⟩) _ _ h
theorem plainO_P {v : V} (h : plainO v = true) : plainP v = true := by
 cases v <;> first | exact h | cases h
theorem plainE_Q {v : V} (h : plainP.plainE v = true) : plainQ v = true := by
 cases v with
 | parts ps =>
  have h : allB plainO ps = true := h
  show allB plainP ps = true
  induction ps with
  | nil => rfl
  | cons p ps ih =>
   obtain ⟨h1, h2⟩ := allB_cons h
   simp only [allB, plainO_P h1]
   exact ih h2 h2
 | _ => first | rfl | cases h
theorem plainW_V {v : V} (h : plainW v = true) : plainV v = true := by
 cases v with
 | tup vs =>
  have h : allB plainP.plainE vs = true := h
  show allB plainQ vs = true
  induction vs with
  | nil => rfl
  | cons p ps ih =>
   obtain ⟨h1, h2⟩ := allB_cons h
   simp only [allB, plainE_Q h1]
   exact ih h2 h2
 | parts ps => exact plainE_Q (v := .parts ps) h
 | _ => first | rfl | cases h
theorem op_pu (hE : EnvOk E P) (hcall : CallsOk P E call) (hr : HR E keep w0 st.ent σ w) (hf : FRel E st.ent σ w st a) (c : Call) (x : Operand) (hc : c.callee = .value x) (ho : o.op = .call c) {g : Nat} (hg : st.ev E 0 x = .clo g []) {p i ext : Nat} {ps l ps' : List V} {v : V}
 (hk : callKind E g = some (.pu p)) (h1 : nth (c.args.toList.map (st.ev E 0)) p = some (.ptr i 0 0 ext)) (h2 : st.ent i = .box ps) (h3 : mapO (close (st.bury i)) (dropAt (c.args.toList.map (st.ev E 0)) p) = some l)
 (h4 : call (puBase + g) (insAt (.ref ps 0 0 ext) l p) = some (.tup [v, .parts ps'])) (h5 : puFine ps ps' (allB forV (dropAt (c.args.toList.map (st.ev E 0)) p)) = true) (h6 : freeAll st (recv v (ownId o)).2 = true) (h7 : nodupN ((recv v (ownId o)).2.map (·.1)) = true) (h8 : plainV v = true)
 {K : Act → World → Prop} {Q : Exit → Act → World → Prop} (hK : Goes E keep w0 st.ent σ w a o (recv v (ownId o)).1 ((i, .box ps') :: (recv v (ownId o)).2) K) : o.upon P a K Q ((execOp a.eval o).run P w) := by
 unfold puFine at h5
 simp only [Bool.and_eq_true, Bool.or_eq_true] at h5
 obtain ⟨⟨⟨f1, f2⟩, f3⟩, f5⟩ := h5
 have hx := ev_RT (E := E) hf 0 x
 rw [hg] at hx
 have hx2 : RO1 E st.ent σ w (.clo g []) [a.eval x] := hx.2
 simp only [RO1, RTL] at hx2
 obtain ⟨cv, e1, e2⟩ := hx2
 subst e2
 simp only [List.cons.injEq, and_true] at e1
 replace e1 : a.eval x = .func (.func g) #[] #[] := e1
 have hbl : Nat.blt (puBase + g) muBase = false := by
  cases hb : Nat.blt (puBase + g) muBase with
  | false => rfl
  | true => have := Nat.blt_eq.mp hb; unfold puBase muBase at this; omega
 have hbl2 : Nat.blt (puBase + g) puBase = false := by
  cases hb : Nat.blt (puBase + g) puBase with
  | false => rfl
  | true => have := Nat.blt_eq.mp hb; omega
 obtain ⟨⟨fn, hfn, hbody⟩, p', ps0, ext0, v0, ps0', hk', hn', hr', hcalls⟩ := (hcall _ _ _ h4).2.2.1 hbl hbl2
 rw [Nat.add_sub_cancel_left] at hfn hk' hcalls
 rw [hk] at hk'
 simp only [Option.some.injEq, CK.pu.injEq] at hk'
 subst hk'
 have hplt : p < c.args.toList.length := by have := nth_lt _ _ _ h1; simpa using this
 have hll : l.length + 1 = c.args.toList.length := by
  rw [mapO_len h3, dropAt_length _ _ (by simpa using hplt), List.length_map]
 rw [nth_insAt _ _ _ (by omega)] at hn'
 simp only [Option.some.injEq, V.ref.injEq, and_true, true_and] at hn'
 obtain ⟨rfl, rfl⟩ := hn'
 simp only [V.tup.injEq, List.cons.injEq, V.parts.injEq, and_true] at hr'
 obtain ⟨rfl, rfl⟩ := hr'
 rw [dropAt_insAt _ _ _ (by omega)] at hcalls
 have hbody : fn.body ≠ none := by cases hb : fn.body <;> simp [hb] at hbody ⊢
 have hname : fn.name ≠ "runtime.NumGoroutine" := by have := hE.num g fn hfn; simpa using this
 have hrun : (execOp a.eval o).run P w = .ok (.enter g (c.args.toList.map a.eval).toArray) w := by
  have : (c.args.toList.map a.eval).toArray = c.args.map a.eval := by apply Array.ext'; simp
  rw [this]
  simp [execOp, ho, hc, resolve, e1, Deferred.ofValue, invoke, callFunc, hfn, hname, hbody]
 rw [hrun, Oper.upon_enter]
 obtain ⟨y, hy1, hy2⟩ := nth_map2 h1
 have hy := ev_RT (E := E) hf 0 y
 rw [hy2] at hy
 have hyo : RO1 E st.ent σ w (.ptr i 0 0 ext) [a.eval y] := hy.2
 simp only [RO1] at hyo
 obtain ⟨u', hu1, hu2, hu3, hu4⟩ := hyo
 simp only [List.cons.injEq, and_true] at hu1
 subst hu1
 obtain ⟨b, hb, hu, hpk⟩ := hu4 ps h2
 have hu0 : a.eval y = .pointer (some ⟨b, 0, none⟩) := by rw [hu]; cases ps <;> rfl
 have hlive : (st.ent i).live = true := by rw [h2]; rfl
 have hblk : blk (σ i) = some b := by rw [hb]; rfl
 have hen := hr.ents i
 have hbs := (EntR_blk hen hlive hblk).2
 have hbk := (EntR_blk hen hlive hblk).1
 unfold EntR at hen
 rw [h2] at hen
 obtain ⟨b', cs, e, c1, c2, c3, c4⟩ := hen
 rw [hb] at c1
 simp only [Value.pointer.injEq, Option.some.injEq, Addr.mk.injEq, and_true] at c1
 subst c1
 let σT : Sg := ⟨σ.val, fun b' => σ.no b' ∨ b' = b⟩
 have hbury : ∀ id, ((st.bury i).ent id).live = true → id ≠ i ∧ (st.ent id).live = true := by
  intro id h
  rw [ent_bury] at h
  by_cases hi : id = i
  ·rw [if_pos hi] at h; simp [Ent.live] at h
  ·rw [if_neg hi] at h; exact ⟨hi, h⟩
 have hTx : Tx st.ent σ w (st.bury i).ent σT w := by
  refine ⟨?_, ?_, ?_, ?_, ?_⟩
  ·intro id h; rw [ent_bury]; split
   ·simp
   ·exact h
  ·intro id qs h h'; rw [ent_bury] at h'; split at h'
   ·cases h'
   ·exact ⟨qs, h', rfl, rfl⟩
  ·intro id e xs h h'; rw [ent_bury] at h'; split at h'
   ·cases h'
   ·exact ⟨xs, h', rfl, fun i x hx => ⟨x, hx, rfl⟩, rfl⟩
  ·intro id ks vs h h'; rw [ent_bury] at h'; split at h'
   ·cases h'
   ·exact ⟨⟨ks, vs, h'⟩, rfl⟩
  ·intro b' ⟨k1, k2, k3⟩
   refine ⟨⟨k1, fun id hl hbb => k2 id (hbury id hl).2 hbb, ?_⟩, rfl⟩
   rintro (h | h)
   ·exact k3 h
   ·subst h; exact k2 i hlive hblk
 have hrT : HR E (fun _ => False) w (st.bury i).ent σT w := by
  refine ⟨Kept.refl _ _, fun _ h => h.elim, ?_, ?_, ?_, ?_⟩
  ·intro id
   by_cases hi : id = i
   ·unfold EntR; rw [ent_bury, if_pos hi]; trivial
   ·exact EntR_keep (fun _ h => h.elim) (EntR_move hTx (by rw [ent_bury, if_neg hi]) rfl (fun _ _ _ => rfl) (hr.ents id))
  ·intro id b' hl hbb hno
   obtain ⟨hi, hl'⟩ := hbury id hl
   rcases hno with h | h
   ·exact hr.nown id b' hl' hbb h
   ·subst h; exact hr.dist id i b' hi hl' hlive hbb hblk
  ·intro b' hno
   rcases hno with h | h
   ·exact Nat.lt_of_lt_of_le (hr.nlt b' h) hr.kept.size
   ·subst h; exact hbs
  ·intro j j' b' hjj hl hl' hb1 hb2
   exact hr.dist j j' b' hjj (hbury j hl).2 (hbury j' hl').2 hb1 hb2
 have hargs : RTL E (st.bury i).ent σT w (dropAt (c.args.toList.map (st.ev E 0)) p) (dropAt (c.args.toList.map a.eval) p) := by
  rw [dropAt_map] at h3
  rw [dropAt_map, dropAt_map]
  exact RTL_move hTx _ _ (RTL_args2 hf _ _ h3)
 have huse : (c.args.toList.map a.eval)[p]? = some (.pointer (some ⟨b, 0, none⟩)) := by
  rw [List.getElem?_map, hy1, ← hu0]; rfl
 have hlen2 : (c.args.toList.map a.eval).length = (insAt (V.ref ps 0 0 ext) l p).length := by rw [List.length_map, insAt_length]; omega
 have main : ∀ no : Nat → Prop, (∀ b', no b' → b' < w.heap.size) → no b → (∀ b', okB st.ent σ w b' → okN no w b') → RFC w (okN no w) l (dropAt (c.args.toList.map a.eval) p) →
  (∀ (w' : World) (cs' : List Value) (ok' : Nat → Prop) (σ' : Sg), σ'.no = σ.no → (∀ id, find (recv v (ownId o)).2 id = none → σ' id = σ id) → (∀ b', ok' b' → okN no w' b' ∧ ∀ id e, find (recv v (ownId o)).2 id = some e → blk (σ' id) ≠ some b') → RFL w' ok' ps' cs' → RFL w' (okB (updE ((i, .box ps') :: (recv v (ownId o)).2) st.ent) σ' w') ps' cs') → o.upon P a K Q (.ok (.enter g (c.args.toList.map a.eval).toArray) w) := by
  intro no hno hnb hok hrfc hback
  rw [Oper.upon_enter]
  refine Calls.mono (hcalls no w _ b cs e hno hnb huse c3 (RFL_move2 hok (RFL_of_ROL ps _ f1 c4)) hlen2 hrfc hpk) fun en w' he => ?_
  cases en with
  | panicked chain => exact he.elim
  | outgrown => exact he.elim
  | returned u =>
   simp only at he ⊢
   obtain ⟨hkept, cs', e', d1, hres⟩ := he
   obtain ⟨σ1, hh1, hnb1, hrt, d2⟩ := hres (ownId o) h7
   obtain ⟨hp1, hp2⟩ := recv_plain (i := ownId o) h8
   generalize hes : (recv v (ownId o)).2 = es0 at hh1 hnb1 hrt d2 hp2 hK hback h6 h7
   have hfree' : ∀ id e, find es0 id = some e → st.ent id = .none := fun id e h => freeAll_none h6 h
   have hrow : ∀ id e, find es0 id = some e → ∃ e' xs, e = .row e' xs ∧ allB plainP.plainE xs = true := fun id e h => hp2 _ (find_mem h)
   have hi0 : find es0 i = none := by
    cases hfd : find es0 i with
    | none => rfl
    | some e => have := hfree' i e hfd; rw [h2] at this; cases this
   have fc : ∀ id e, find ((i, Ent.box ps') :: es0) id = some e → (id = i ∧ e = .box ps') ∨ (id ≠ i ∧ find es0 id = some e) := by
    intro id e h
    simp only [find] at h
    cases hq : Nat.beq i id with
    | true =>
     rw [hq] at h
     simp only [Option.some.injEq] at h
     exact .inl ⟨(Nat.eq_of_beq_eq_true hq).symm, h.symm⟩
    | false =>
     rw [hq] at h
     refine .inr ⟨fun hh => ?_, h⟩
     subst hh
     rw [Nat.beq_refl] at hq; cases hq
   have fn : ∀ id, find ((i, Ent.box ps') :: es0) id = none → find es0 id = none := by
    intro id h
    simp only [find] at h
    split at h
    ·cases h
    ·exact h
   let σ' : Sg := ⟨fun id => match find es0 id with | some _ => σ1 id | none => σ id, σ.no⟩
   have hsn : ∀ id, find es0 id = none → σ' id = σ id := fun id h => by show (match find es0 id with | some _ => σ1 id | none => σ id) = _; rw [h]
   have hss : ∀ id e, find es0 id = some e → σ' id = σ1 id := fun id e h => by show (match find es0 id with | some _ => σ1 id | none => σ id) = _; rw [h]
   have hl0 : ∀ id e, find es0 id = some e → (updE es0 ent0 id).live = true ∧ updE es0 ent0 id = e := by
    intro id e h
    obtain ⟨e', xs, h3, _⟩ := hrow id e h
    rw [updE_some h, h3]
    exact ⟨rfl, rfl⟩
   have hge : ∀ id e b2, find es0 id = some e → blk (σ1 id) = some b2 → w.heap.size ≤ b2 := by
    intro id e b2 h1 h2'
    have h3 := (EntR_blk (hh1.ents id) (hl0 id e h1).1 h2').1
    have h4' := hnb1 id b2 (hl0 id e h1).1 h2'
    refine Nat.le_of_not_lt fun h5' => h3 ⟨h5', h4'⟩
   have hchg : Chg st.ent σ w ((i, .box ps') :: es0) σ' w' := by
    refine ⟨hkept.os, hkept.tape, hkept.output, hkept.size, rfl, fun id h => hsn id (fn id h), ?_, ?_, ?_, ?_, ?_, ?_, ?_⟩
    ·intro k hk2 hn
     exact hkept.block k ⟨hk2, fun h => hn i _ find_self hlive (by rw [hblk, h])⟩
    ·intro id ee b2 hfi hl hb2
     rcases fc id ee hfi with ⟨rfl, rfl⟩ | ⟨_, h⟩
     ·rw [hsn _ hi0] at hb2
      exact .inr ⟨_, _, find_self, hlive, hb2⟩
     ·rw [hss _ _ h] at hb2
      exact .inl (hge id ee b2 h hb2)
    ·intro p q ep eq b2 hpq hp hq l1 l2 g1
     rcases fc p ep hp with ⟨rfl, rfl⟩ | ⟨_, h⟩
     ·rcases fc q eq hq with ⟨rfl, rfl⟩ | ⟨_, h'⟩
      ·exact absurd rfl hpq
      ·rw [hsn _ hi0, hblk] at g1
       simp only [Option.some.injEq] at g1
       rw [hss _ _ h']
       intro g2
       exact hnb1 q b2 (hl0 q eq h').1 g2 g1.symm
     ·rw [hss _ _ h] at g1
      rcases fc q eq hq with ⟨rfl, rfl⟩ | ⟨_, h'⟩
      ·rw [hsn _ hi0, hblk]
       intro g2
       simp only [Option.some.injEq] at g2
       exact hnb1 p b2 (hl0 p ep h).1 g1 g2.symm
      ·rw [hss _ _ h']
       exact hh1.dist p q b2 hpq (hl0 p ep h).1 (hl0 q eq h').1 g1
    ·intro id ee hfi
     rcases fc id ee hfi with ⟨rfl, rfl⟩ | ⟨_, h⟩
     ·simp
     ·obtain ⟨e', xs, h3, _⟩ := hrow id ee h
      rw [h3]; simp
    ·intro id qs hfi hne
     rcases fc id _ hfi with ⟨rfl, h⟩ | ⟨_, h⟩
     ·simp only [Ent.box.injEq] at h
      subst h
      exact ⟨ps, h2, sameSz_shps f3, hsn _ hi0⟩
     ·exact absurd (hfree' id _ h) hne
    ·intro id ee xs2 hfi hne
     rcases fc id _ hfi with ⟨_, h⟩ | ⟨_, h⟩
     ·cases h
     ·exact absurd (hfree' id _ h) hne
    ·intro id ks vs hfi hne
     rcases fc id _ hfi with ⟨_, h⟩ | ⟨_, h⟩
     ·cases h
     ·exact absurd (hfree' id _ h) hne
   have hup : ∀ id, updE es0 ent0 id ≠ .none → updE ((i, Ent.box ps') :: es0) st.ent id = updE es0 ent0 id ∧ σ' id = σ1 id := by
    intro id h
    cases hfd : find es0 id with
    | none => rw [updE_none hfd] at h; exact absurd rfl h
    | some e =>
     have hne : id ≠ i := fun hh => by subst hh; rw [hi0] at hfd; cases hfd
     have : find ((i, Ent.box ps') :: es0) id = some e := by
      simp only [find]
      cases hq : Nat.beq i id with
      | true => exact absurd (Nat.eq_of_beq_eq_true hq).symm hne
      | false => exact hfd
     exact ⟨by rw [updE_some this, updE_some hfd], hss id e hfd⟩
   refine hK u w' σ' (hchg.hr hr fun id ee hfi => ?_) (hchg.tx hr) rfl (RT_plR hup hp1 hrt)
   rcases fc id ee hfi with ⟨rfl, rfl⟩ | ⟨hne, h⟩
   ·unfold EntR
    rw [updE_some hfi]
    refine ⟨b, cs', e', by rw [hsn _ hi0]; exact hb, hbk, d1, ROL_of_RFL _ _ (hback w' _ _ σ' rfl hsn (fun b' hb' => ⟨hb'.1, fun id e h => ?_⟩) d2)⟩
    rw [hss id e h]
    exact hb'.2 id (hl0 id e h).1
   ·obtain ⟨e2, xs, h3, h4'⟩ := hrow id ee h
    have hen2 := hh1.ents id
    unfold EntR at hen2
    rw [(hl0 id ee h).2] at hen2
    subst h3
    obtain ⟨cells, g1, g2, g3⟩ := hen2
    unfold EntR
    rw [updE_some hfi]
    refine ⟨cells, by rw [hss id _ h]; exact g1, RRow_plain _ _ h4' g2, fun b2 hb2 hk2 => ?_⟩
    rw [hss id _ h] at hb2
    have := hge id _ b2 h hb2
    have := hr.klt b2 hk2
    have := hr.kept.size
    omega
 rcases f5 with f5 | f5
 ·refine main (fun b' => σT.no b' ∨ ∃ id, ((st.bury i).ent id).live = true ∧ blk (σ id) = some b') ?_ (.inl (.inr rfl)) ?_ ?_ ?_
  ·rintro b' (h | ⟨id, hl, hb'⟩)
   ·exact hrT.nlt b' h
   ·exact (EntR_blk (hrT.ents id) hl hb').2
  ·intro b' ⟨k1, k2, k3⟩
   refine ⟨k1, ?_⟩
   rintro ((h | h) | ⟨id, hl, hb'⟩)
   ·exact k3 h
   ·subst h; exact k2 i hlive hblk
   ·exact k2 id (hbury id hl).2 hb'
  ·refine closeA_sound hrT ?_ _ _ _ (.inr f5) hargs h3
   intro b' hb'
   refine ⟨⟨hb'.1, ?_⟩, rfl⟩
   rintro (h | ⟨id, hl, h⟩)
   ·exact hb'.2.2 h
   ·exact hb'.2.1 id hl h
  ·intro w' cs' ok' σ' hn1 hn2 hok' h
   refine RFL_move2 (fun b' hb' => ⟨(hok' b' hb').1.1, fun id hl hb2 => ?_, fun h => (hok' b' hb').1.2 (.inl (.inl (by rw [← hn1]; exact h)))⟩) h
   have hbb := hok' b' hb'
   cases hfd : find (recv v (ownId o)).2 id with
   | some e => exact hbb.2 id e hfd hb2
   | none =>
    rw [hn2 id hfd] at hb2
    by_cases hi : id = i
    ·subst hi
     rw [hblk] at hb2
     exact hbb.1.2 (.inl (.inr (Option.some.inj hb2).symm))
    ·have h0 : updE ((i, .box ps') :: (recv v (ownId o)).2) st.ent id = st.ent id := updE_none (by
      simp only [find]
      cases hq : Nat.beq i id with
      | false => exact hfd
      | true => exact absurd (Nat.eq_of_beq_eq_true hq).symm hi)
     rw [h0] at hl
     exact hbb.1.2 (.inr ⟨id, by rw [ent_bury, if_neg hi]; exact hl, hb2⟩)
 ·refine main σT.no (fun b' h => hrT.nlt b' h) (.inr rfl) ?_ ?_ ?_
  ·intro b' ⟨k1, k2, k3⟩
   refine ⟨k1, ?_⟩
   rintro (h | h)
   ·exact k3 h
   ·subst h; exact k2 i hlive hblk
  ·refine closeA_sound hrT ?_ _ _ _ (.inl ?_) hargs h3
   ·intro b' hb'
    exact ⟨⟨hb'.1, hb'.2.2⟩, rfl⟩
   ·intro id b' hl hb'
    exact ⟨(EntR_blk (hrT.ents id) hl hb').2, hrT.nown id b' hl hb'⟩
  ·intro w' cs' ok' σ' _ _ _ h
   exact RFL_plain _ _ f5 h
theorem mvRes_some {r : V} {e : Nat} {ys : List V} {b : Bool} (h : mvRes r = some (e, ys, b)) : r = .tup [.fresh e ys, .bool b] := by
 unfold mvRes at h
 split at h
 ·split at h
  ·simp only [Option.some.injEq, Prod.mk.injEq] at h
   obtain ⟨rfl, rfl, rfl⟩ := h
   rfl
  ·cases h
 ·cases h
theorem mv_res {id e' : Nat} {ys : List V} {tb : List (Nat × Ent)} {u1 : Value} {b : Bool} {w' : World} (ho : u1.oneCell' = true) : RT E (updE ((id, .row e' ys) :: tb) st.ent) ⟨fun j => if j = id then u1 else σ j, σ.no⟩ w' (.tup [.row id, .bool b]) (.tuple #[u1, .bool b]) := by
 refine ⟨_, rfl, ?_⟩
 show RTL E _ _ w' [.row id, .bool b] [u1, .bool b]
 rw [RTL_cons]
 refine ⟨u1, [.bool b], rfl, ⟨ho, ?_⟩, ?_⟩
 ·simp only [RO1]
  refine ⟨u1, rfl, ho, ?_, fun _ _ _ => ?_⟩
  ·rw [updE_some find_self]; simp
  ·simp
 ·rw [RTL_cons]
  exact ⟨.bool b, [], rfl, ⟨rfl, by simp [RO1, RF]⟩, rfl⟩
theorem mvArg_some {vs : List V} {ts : List Nat} {p e : Nat} {xs : List V} {tb : List (Nat × Ent)} {stB : St} (h : mvArg E st vs ts p = some (e, xs, tb, stB)) :
 (∃ i, nth vs p = some (.row i) ∧ st.ent i = .row e xs ∧ tb = [(i, .tomb)] ∧ stB = st.bury i) ∨ (nth vs p = some .nils ∧ xs = [] ∧ tb = [] ∧ st = stB) := by
 unfold mvArg at h
 split at h
 ·rename_i i hn
  split at h
  ·rename_i e1 x1 hi
   simp only [Option.some.injEq, Prod.mk.injEq] at h
   obtain ⟨rfl, rfl, rfl, rfl⟩ := h
   exact .inl ⟨i, hn, hi, rfl, rfl⟩
  ·cases h
 ·rename_i hn
  split at h
  ·split at h
   ·split at h
    ·simp only [Option.some.injEq, Prod.mk.injEq] at h
     obtain ⟨_, rfl, rfl, rfl⟩ := h
     exact .inr ⟨hn, rfl, rfl, rfl⟩
    ·cases h
   ·cases h
  ·cases h
 ·cases h
theorem bxRes_some {r : V} {ps : List V} {ext : Nat} (h : bxRes r = some (ps, ext)) : r = .ref ps 0 0 ext ∧ allB forO ps = true := by
 unfold bxRes at h
 split at h
 ·split at h
  ·rename_i h1 h2 h3
   simp only [Option.some.injEq, Prod.mk.injEq] at h
   obtain ⟨rfl, rfl⟩ := h
   have := isZero_eq h1
   have := isZero_eq h2
   subst_vars
   exact ⟨rfl, h3⟩
  ·cases h
 ·cases h
theorem op_bx (hE : EnvOk E P) (hcall : CallsOk P E call) (hr : HR E keep w0 st.ent σ w) (hf : FRel E st.ent σ w st a) (c : Call) (x : Operand) (hc : c.callee = .value x) (ho : o.op = .call c) {g : Nat} (hg : st.ev E 0 x = .clo g []) {l ps : List V} {ext id : Nat}
 (hk : callKind E g = some .bx) (hall : allB forV (c.args.toList.map (st.ev E 0)) = true) (hid : st.ent id = .none) (h3 : mapO (close st) (c.args.toList.map (st.ev E 0)) = some l) (h4 : call (bxBase + g) l = some (.ref ps 0 0 ext))
 {K : Act → World → Prop} {Q : Exit → Act → World → Prop} (hK : Goes E keep w0 st.ent σ w a o (.ptr id 0 0 ext) [(id, .box ps)] K) : o.upon P a K Q ((execOp a.eval o).run P w) := by
 have hx := ev_RT (E := E) hf 0 x
 rw [hg] at hx
 have hx2 : RO1 E st.ent σ w (.clo g []) [a.eval x] := hx.2
 simp only [RO1, RTL] at hx2
 obtain ⟨cv, e1, e2⟩ := hx2
 subst e2
 simp only [List.cons.injEq, and_true] at e1
 replace e1 : a.eval x = .func (.func g) #[] #[] := e1
 have hbl : Nat.blt (bxBase + g) muBase = false := by
  cases hb : Nat.blt (bxBase + g) muBase with
  | false => rfl
  | true => have := Nat.blt_eq.mp hb; unfold bxBase muBase at this; omega
 have hbl2 : Nat.blt (bxBase + g) mvBase = false := by
  cases hb : Nat.blt (bxBase + g) mvBase with
  | false => rfl
  | true => have := Nat.blt_eq.mp hb; unfold bxBase mvBase at this; omega
 have hbl3 : Nat.blt (bxBase + g) bxBase = false := by
  cases hb : Nat.blt (bxBase + g) bxBase with
  | false => rfl
  | true => have := Nat.blt_eq.mp hb; omega
 obtain ⟨⟨fn, hfn, hbody⟩, ps0, ext0, hr', hcalls⟩ := (hcall _ _ _ h4).2.2.2.2.1 hbl (by have := Nat.blt_eq.mp (callKind_bx hk); exact Nat.blt_eq.mpr (by unfold ruBase at this; unfold puBase; omega)) hbl2 hbl3 (callKind_bx hk)
 rw [Nat.add_sub_cancel_left] at hfn hcalls
 simp only [V.ref.injEq, true_and] at hr'
 obtain ⟨rfl, rfl⟩ := hr'
 have hbody : fn.body ≠ none := by cases hb : fn.body <;> simp [hb] at hbody ⊢
 have hname : fn.name ≠ "runtime.NumGoroutine" := by have := hE.num g fn hfn; simpa using this
 have hrun : (execOp a.eval o).run P w = .ok (.enter g (c.args.toList.map a.eval).toArray) w := by
  have : (c.args.toList.map a.eval).toArray = c.args.map a.eval := by apply Array.ext'; simp
  rw [this]
  simp [execOp, ho, hc, resolve, e1, Deferred.ofValue, invoke, callFunc, hfn, hname, hbody]
 rw [hrun, Oper.upon_enter]
 let no : Nat → Prop := fun b => σ.no b ∨ ∃ id, (st.ent id).live = true ∧ blk (σ id) = some b
 have hno : ∀ b, no b → b < w.heap.size := by
  rintro b (h | ⟨id, hl, hb⟩)
  ·exact Nat.lt_of_lt_of_le (hr.nlt b h) hr.kept.size
  ·exact (EntR_blk (hr.ents id) hl hb).2
 have hrfc : RFC w (okN no w) l (c.args.toList.map a.eval) := by
  refine closeA_sound hr ?_ _ _ _ (.inr hall) (RTL_args hf _ _ h3) h3
  intro b hb
  refine ⟨⟨hb.1, ?_⟩, rfl⟩
  rintro (h | ⟨id, hl, h⟩)
  ·exact hb.2.2 h
  ·exact hb.2.1 id hl h
 refine Calls.mono (hcalls no w _ hno hrfc) fun en w' he => ?_
 cases en with
 | panicked chain => exact he.elim
 | outgrown => exact he.elim
 | returned u =>
  simp only at he ⊢
  obtain ⟨b, cs, e, rfl, hkept, hbge, hheap, hps, hpok⟩ := he
  have hchg := Chg.new hr (id := id) (e' := .box ps) (u := .pointer (some ⟨b, 0, none⟩)) (w' := w') hid (by simp) hkept.os hkept.tape hkept.output hkept.size (fun k hk => hkept.block k hk) (fun b' hb' => by
   simp only [blk, Option.some.injEq] at hb'
   omega)
  have hok : ∀ b', (okN no w' b' ∧ b' ≠ b) → okB (updE [(id, .box ps)] st.ent) (σ.set id (.pointer (some ⟨b, 0, none⟩))) w' b' := by
   rintro b' ⟨⟨k1, k2⟩, k3⟩
   refine ⟨k1, fun id' hl hb' => ?_, fun h => k2 (.inl h)⟩
   by_cases hi : id' = id
   ·subst hi
    rw [Sg.set_self] at hb'
    simp only [blk, Option.some.injEq] at hb'
    exact k3 hb'.symm
   ·rw [Sg.set_other _ _ hi] at hb'
    have h0 : updE [(id, .box ps)] st.ent id' = st.ent id' := updE_none (by rw [find_other hi]; rfl)
    rw [h0] at hl
    exact k2 (.inr ⟨id', hl, hb'⟩)
  refine hK _ w' _ (hchg.hr hr fun j ee hfi => ?_) (hchg.tx hr) rfl ?_
  ·obtain ⟨rfl, rfl⟩ := find_one hfi
   unfold EntR
   rw [updE_some hfi]
   refine ⟨b, cs, e, Sg.set_self _ _ _, fun hk2 => ?_, hheap, ROL_of_RFL _ _ (RFL_move2 hok hps)⟩
   have := hr.klt b hk2
   have := hr.kept.size
   omega
  ·refine ⟨rfl, ?_⟩
   show RO1 E _ _ _ (.ptr _ 0 0 _) _
   simp only [RO1]
   refine ⟨_, rfl, rfl, by rw [updE_some find_self]; simp, fun qs hqs => ?_⟩
   rw [updE_some find_self] at hqs
   cases hqs
   exact ⟨b, Sg.set_self _ _ _, by cases ps <;> rfl, hpok⟩
theorem newT_chg {id e' : Nat} {ys : List V} (hid : st.ent id = .none) {tb : List (Nat × Ent)} (htb : ∀ j ee, find tb j = some ee → ee = Ent.tomb) {u1 : Value} {w' : World} (hkept : Kept (fun b' => b' < w.heap.size) w w') (hu : ∀ b', blk u1 = some b' → w.heap.size ≤ b') :
 Chg st.ent σ w ((id, .row e' ys) :: tb) ⟨fun j => if j = id then u1 else σ j, σ.no⟩ w' := by
 refine ⟨hkept.os, hkept.tape, hkept.output, hkept.size, rfl, ?_, fun k hk _ => hkept.block k hk, ?_, ?_, ?_, ?_, ?_, ?_⟩
 ·intro j hj
  have : j ≠ id := fun h => by rw [h, find_self] at hj; cases hj
  show (if j = id then u1 else σ j) = σ j
  rw [if_neg this]
 ·intro j ee b' hfi hl hb
  rcases find_cases hfi with ⟨rfl, rfl⟩ | ⟨hne, hfi2⟩
  ·exact .inl (hu b' (by simpa using hb))
  ·rw [htb j ee hfi2] at hl; cases hl
 ·intro p q ep eq b' hpq hp hq hl1 hl2
  rcases find_cases hp with ⟨rfl, rfl⟩ | ⟨_, hp2⟩
  ·rcases find_cases hq with ⟨rfl, rfl⟩ | ⟨_, hq2⟩
   ·exact absurd rfl hpq
   ·rw [htb q eq hq2] at hl2; cases hl2
  ·rw [htb p ep hp2] at hl1; cases hl1
 ·intro j ee hfi
  rcases find_cases hfi with ⟨rfl, rfl⟩ | ⟨_, hfi2⟩
  ·simp
  ·rw [htb j ee hfi2]; simp
 ·intro j ps hfi
  rcases find_cases hfi with ⟨_, h⟩ | ⟨_, hfi2⟩
  ·cases h
  ·have := htb j _ hfi2; cases this
 ·intro j ee xs2 hfi hne
  rcases find_cases hfi with ⟨rfl, _⟩ | ⟨_, hfi2⟩
  ·exact absurd hid hne
  ·have := htb j _ hfi2; cases this
 ·intro j ks vs hfi
  rcases find_cases hfi with ⟨_, h⟩ | ⟨_, hfi2⟩
  ·cases h
  ·have := htb j _ hfi2; cases this
theorem op_fz (hE : EnvOk E P) (hcall : CallsOk P E call) (hr : HR E keep w0 st.ent σ w) (hf : FRel E st.ent σ w st a) (c : Call) (x : Operand) (hc : c.callee = .value x) (ho : o.op = .call c) {g : Nat} (hg : st.ev E 0 x = .clo g []) {i j f pi rel ext e e1 : Nat} {xs ps ys : List V} {id : Nat} (hid2 : id = ownId o)
 (hk : callKind E g = some .fz) (hargs : c.args.toList.map (st.ev E 0) = [.row i, .clo f [.ptr j pi rel ext]]) (hid : st.ent id = .none) (hi : st.ent i = .row e1 xs) (hj : st.ent j = .box ps) (hfo : allB forO ps = true) (h4 : call g [.sl xs, .clo f [.ref ps pi rel ext]] = some (.fresh e ys))
 {K : Act → World → Prop} {Q : Exit → Act → World → Prop} (hK : Goes E keep w0 st.ent σ w a o (.row id) [(id, .row e ys), (i, .tomb), (j, .tomb)] K) : o.upon P a K Q ((execOp a.eval o).run P w) := by
 have hx := ev_RT (E := E) hf 0 x
 rw [hg] at hx
 have hx2 : RO1 E st.ent σ w (.clo g []) [a.eval x] := hx.2
 simp only [RO1, RTL] at hx2
 obtain ⟨cv, e1', e2⟩ := hx2
 subst e2
 simp only [List.cons.injEq, and_true] at e1'
 replace e1' : a.eval x = .func (.func g) #[] #[] := e1'
 obtain ⟨⟨fn, hfn, hbody⟩, hcalls⟩ := (hcall _ _ _ h4).1 (callKind_fz hk)
 have hbody : fn.body ≠ none := by cases hb : fn.body <;> simp [hb] at hbody ⊢
 have hname : fn.name ≠ "runtime.NumGoroutine" := by have := hE.num g fn hfn; simpa using this
 have hrun : (execOp a.eval o).run P w = .ok (.enter g (c.args.toList.map a.eval).toArray) w := by
  have : (c.args.toList.map a.eval).toArray = c.args.map a.eval := by apply Array.ext'; simp
  rw [this]
  simp [execOp, ho, hc, resolve, e1', Deferred.ofValue, invoke, callFunc, hfn, hname, hbody]
 rw [hrun, Oper.upon_enter]
 let no : Nat → Prop := fun b => σ.no b ∨ ∃ id, (st.ent id).live = true ∧ id ≠ i ∧ id ≠ j ∧ blk (σ id) = some b
 have hno : ∀ b, no b → b < w.heap.size := by
  rintro b (h | ⟨id, hl, _, _, hb⟩)
  ·exact Nat.lt_of_lt_of_le (hr.nlt b h) hr.kept.size
  ·exact (EntR_blk (hr.ents id) hl hb).2
 have hli : (st.ent i).live = true := by rw [hi]; rfl
 have hlj : (st.ent j).live = true := by rw [hj]; rfl
 have hmv : Moved w w (okB st.ent σ w) (okN no w) := by
  intro b hb
  refine ⟨⟨hb.1, ?_⟩, rfl⟩
  rintro (h | ⟨id, hl, _, _, h⟩)
  ·exact hb.2.2 h
  ·exact hb.2.1 id hl h
 have hown : ∀ q b, (q = i ∨ q = j) → (st.ent q).live = true → blk (σ q) = some b → okN no w b := by
  intro q b hq hl hb
  refine ⟨(EntR_blk (hr.ents q) hl hb).2, ?_⟩
  rintro (h | ⟨id, hl2, h1, h2, h3⟩)
  ·exact hr.nown q b hl hb h
  ·refine hr.dist id q b (fun h => ?_) hl2 hl h3 hb
   rcases hq with rfl | rfl
   ·exact h1 h
   ·exact h2 h
 have hrfc : RFC w (okN no w) [.sl xs, .clo f [.ref ps pi rel ext]] (c.args.toList.map a.eval) := by
  revert hargs
  generalize c.args.toList = L
  intro hargs
  rcases L with _ | ⟨y, _ | ⟨z, _ | ⟨z2, L⟩⟩⟩ <;> simp only [List.map_cons, List.map_nil, List.cons.injEq, reduceCtorEq, and_false, and_true] at hargs
  have hy := ev_RT (E := E) hf 0 y
  have hz := ev_RT (E := E) hf 0 z
  rw [hargs.1] at hy
  rw [hargs.2] at hz
  have hyu := RT_row hr hy hi
  have hyone : (a.eval y).oneCell' = true := hy.1
  have hzone : (a.eval z).oneCell' = true := hz.1
  simp only [List.map_cons, List.map_nil, RFC]
  refine ⟨_, _, rfl, ?_, hyone, _, _, rfl, ?_, hzone, rfl⟩
  ·rw [one_cells hyone]
   have he := hr.ents i
   unfold EntR at he
   rw [hi] at he
   obtain ⟨cells, h1, h2, h3⟩ := he
   simp only [RF]
   rcases h1.2 with ⟨h4, h5⟩ | ⟨gg, cap, cur, h4, h5, h6, h7, h8, h9, h10⟩
   ·exact ⟨none, 0, by rw [hyu, h4, h5], by rw [h5]; simp [maxLen], .inl (List.eq_nil_of_length_eq_zero h5)⟩
   ·refine ⟨_, cap, by rw [hyu, h4], by omega, .inr ⟨gg, 0, _, rfl, hown i gg (.inl rfl) hli (by rw [h4]; rfl), RE_of_RRow hmv _ _ gg 0 h2 fun j u hj => ?_⟩⟩
    have := h1.cells (g := gg) (by rw [h4]; rfl) j u hj
    rwa [addr_add] at this
  ·rw [one_cells hzone]
   have hz2 : RO1 E st.ent σ w (.clo f [.ptr j pi rel ext]) [a.eval z] := hz.2
   simp only [RO1] at hz2
   obtain ⟨cv, h1, h2⟩ := hz2
   rw [RTL_cons] at h2
   obtain ⟨u, l, rfl, h3, h4⟩ := h2
   simp only [RTL] at h4
   subst h4
   have huone : u.oneCell' = true := h3.1
   have h3' : RO1 E st.ent σ w (.ptr j pi rel ext) [u] := h3.2
   simp only [RO1] at h3'
   obtain ⟨u', g1, _, _, g4⟩ := h3'
   simp only [List.cons.injEq, and_true] at g1
   subst g1
   obtain ⟨b, hb, hu, hpk⟩ := g4 ps hj
   have he := hr.ents j
   unfold EntR at he
   rw [hj] at he
   obtain ⟨b', cs, e', k1, k2, k3, k4⟩ := he
   rw [hb] at k1
   simp only [Value.pointer.injEq, Option.some.injEq, Addr.mk.injEq, and_true] at k1
   subst k1
   simp only [RF]
   refine ⟨[u], h1, ?_⟩
   simp only [RFC]
   refine ⟨u, [], rfl, ?_, huone, rfl⟩
   rw [one_cells huone]
   simp only [RF]
   exact ⟨b, 0, cs.toList, by rw [hu, Nat.zero_add], hown j b (.inr rfl) hlj (by rw [hb]; rfl), RFL_move hmv _ _ (RFL_of_ROL ps _ hfo k4), cellsAt_block k3, hpk⟩
 refine Calls.mono (hcalls no w _ hno hrfc) fun en w' he => ?_
 cases en with
 | panicked chain => exact he.elim
 | outgrown => exact he.elim
 | returned u =>
  simp only at he ⊢
  obtain ⟨σ1, hs1, hh1, hrt⟩ := he id rfl
  have hh1' : HR E (fun b => b < w.heap.size) w (updE [(id, .row e ys)] ent0) σ1 w' := hh1
  have hrt' : RT E (updE [(id, .row e ys)] ent0) σ1 w' (.row id) u := hrt
  have hone := hrt'.1
  have hro : RO1 E (updE [(id, .row e ys)] ent0) σ1 w' (.row id) [u] := hrt'.2
  simp only [RO1] at hro
  obtain ⟨u', hu1, _, _, hu4⟩ := hro
  simp only [List.cons.injEq, and_true] at hu1
  subst hu1
  have hu5 := hu4 e ys (by rw [updE_some find_self])
  have hen := hh1'.ents id
  have hlive : (updE [(id, Ent.row e ys)] ent0 id).live = true := by rw [updE_some find_self]; rfl
  have hge : ∀ b, blk u = some b → w.heap.size ≤ b := by
   intro b hb
   rw [hu5] at hb
   exact Nat.le_of_not_lt (EntR_blk hen hlive hb).1
  unfold EntR at hen
  rw [updE_some find_self] at hen
  obtain ⟨cells, d1, d2, d3⟩ := hen
  rw [← hu5] at d1
  have htb : ∀ q ee, find [(i, Ent.tomb), (j, Ent.tomb)] q = some ee → ee = Ent.tomb := by
   intro q ee hq
   rcases find_cases hq with ⟨_, h⟩ | ⟨_, h⟩
   ·exact h
   ·exact (find_one h).2.symm ▸ rfl
  have hchg := newT_chg (σ := σ) (w := w) (e' := e) (ys := ys) hid (tb := [(i, .tomb), (j, .tomb)]) htb (u1 := u) (w' := w') hh1'.kept hge
  have hmv2 : ∀ b, okB (updE [(id, Ent.row e ys)] ent0) σ1 w' b → okB (updE [(id, .row e ys), (i, .tomb), (j, .tomb)] st.ent) ⟨fun q => if q = id then u else σ q, σ.no⟩ w' b := by
   intro b hb
   have hb3 := hb.2.2
   rw [hs1] at hb3
   refine ⟨hb.1, fun q hl hq => ?_, fun h => hb3 (.inl h)⟩
   by_cases hqi : q = id
   ·subst hqi
    replace hq : blk u = some b := by simpa using hq
    rw [hu5] at hq
    exact hb.2.1 q hlive hq
   ·replace hq : blk (σ q) = some b := by simpa [hqi] using hq
    by_cases h1 : q = i
    ·subst h1
     rw [updE_some (by rw [find_other hqi, find_self])] at hl
     simp [Ent.live] at hl
    ·by_cases h2 : q = j
     ·subst h2
      rw [updE_some (by rw [find_other hqi, find_other h1, find_self])] at hl
      simp [Ent.live] at hl
     ·rw [updE_none (by rw [find_other hqi, find_other h1, find_other h2]; rfl)] at hl
      exact hb3 (.inr ⟨q, hl, h1, h2, hq⟩)
  refine hK u w' _ (hchg.hr hr fun q ee hfi => ?_) (hchg.tx hr) rfl ?_
  ·rcases find_cases hfi with ⟨rfl, rfl⟩ | ⟨hne2, hfi2⟩
   ·unfold EntR
    rw [updE_some hfi]
    refine ⟨cells, by simpa using d1, RRow_move (fun b hb => ⟨hmv2 b hb, rfl⟩) _ _ d2, fun b hb hk2 => ?_⟩
    replace hb : blk u = some b := by simpa using hb
    have := hge b hb
    have := hr.klt b hk2
    have := hr.kept.size
    omega
   ·have := htb _ _ hfi2
    subst this
    unfold EntR
    rw [updE_some hfi]
    trivial
  ·refine ⟨hone, ?_⟩
   show RO1 E _ _ _ (.row id) _
   simp only [RO1]
   exact ⟨u, rfl, hone, by rw [updE_some find_self]; simp, fun _ _ _ => by simp⟩
theorem op_gw (hE : EnvOk E P) (hcall : CallsOk P E call) (hr : HR E keep w0 st.ent σ w) (hf : FRel E st.ent σ w st a) (c : Call) (x : Operand) (hc : c.callee = .value x) (ho : o.op = .call c) {g : Nat} (hg : st.ev E 0 x = .clo g []) {k : IntKind} {n : Int} {e : Nat} {ys : List V} {id : Nat} (hid2 : id = ownId o)
 (hk : callKind E g = some .gw) (hargs : c.args.toList.map (st.ev E 0) = [.nils, .int k n]) (hid : st.ent id = .none) (h4 : call g [.nils, .int k n] = some (.fresh e ys)) (hp : plainV (.fresh e ys) = true)
 {K : Act → World → Prop} {Q : Exit → Act → World → Prop} (hK : Goes E keep w0 st.ent σ w a o (.row id) [(id, .row e ys)] K) : o.upon P a K Q ((execOp a.eval o).run P w) := by
 have hx := ev_RT (E := E) hf 0 x
 rw [hg] at hx
 have hx2 : RO1 E st.ent σ w (.clo g []) [a.eval x] := hx.2
 simp only [RO1, RTL] at hx2
 obtain ⟨cv, e1, e2⟩ := hx2
 subst e2
 simp only [List.cons.injEq, and_true] at e1
 replace e1 : a.eval x = .func (.func g) #[] #[] := e1
 obtain ⟨⟨fn, hfn, hbody⟩, hcalls⟩ := (hcall _ _ _ h4).1 (callKind_gw hk)
 have hbody : fn.body ≠ none := by cases hb : fn.body <;> simp [hb] at hbody ⊢
 have hname : fn.name ≠ "runtime.NumGoroutine" := by have := hE.num g fn hfn; simpa using this
 have hrun : (execOp a.eval o).run P w = .ok (.enter g (c.args.toList.map a.eval).toArray) w := by
  have : (c.args.toList.map a.eval).toArray = c.args.map a.eval := by apply Array.ext'; simp
  rw [this]
  simp [execOp, ho, hc, resolve, e1, Deferred.ofValue, invoke, callFunc, hfn, hname, hbody]
 rw [hrun, Oper.upon_enter]
 have hrfc : RFC w (okN σ.no w) [.nils, .int k n] (c.args.toList.map a.eval) := by
  revert hargs
  generalize c.args.toList = L
  intro hargs
  rcases L with _ | ⟨y, _ | ⟨z, _ | ⟨z2, L⟩⟩⟩ <;> simp only [List.map_cons, List.map_nil, List.cons.injEq, reduceCtorEq, and_false, and_true] at hargs
  have hy := ev_RT (E := E) hf 0 y
  have hz := ev_RT (E := E) hf 0 z
  rw [hargs.1] at hy
  rw [hargs.2] at hz
  have hy2 : a.eval y = .slice none 0 0 := by have := hy.2; simpa [RO1, RF] using this
  have hz2 := RT_int hz
  simp only [List.map_cons, List.map_nil, hy2, hz2, RFC]
  refine ⟨_, _, rfl, ?_, rfl, _, _, rfl, ?_, rfl, rfl⟩
  ·simp [RF, Value.cells]
  ·simp [RF, Value.cells]
 refine Calls.mono (hcalls σ.no w _ (fun b hb => Nat.lt_of_lt_of_le (hr.nlt b hb) hr.kept.size) hrfc) fun en w' he => ?_
 cases en with
 | panicked chain => exact he.elim
 | outgrown => exact he.elim
 | returned u =>
  simp only at he ⊢
  obtain ⟨σ1, hs1, hh1, hrt⟩ := he id rfl
  have hh1' : HR E (fun b => b < w.heap.size) w (updE [(id, .row e ys)] ent0) σ1 w' := hh1
  have hrt' : RT E (updE [(id, .row e ys)] ent0) σ1 w' (.row id) u := hrt
  have hone := hrt'.1
  have hro : RO1 E (updE [(id, .row e ys)] ent0) σ1 w' (.row id) [u] := hrt'.2
  simp only [RO1] at hro
  obtain ⟨u', hu1, _, _, hu4⟩ := hro
  simp only [List.cons.injEq, and_true] at hu1
  subst hu1
  have hu5 := hu4 e ys (by rw [updE_some find_self])
  have hen := hh1'.ents id
  have hlive : (updE [(id, Ent.row e ys)] ent0 id).live = true := by rw [updE_some find_self]; rfl
  have hge : ∀ b, blk u = some b → w.heap.size ≤ b := by
   intro b hb
   rw [hu5] at hb
   exact Nat.le_of_not_lt (EntR_blk hen hlive hb).1
  unfold EntR at hen
  rw [updE_some find_self] at hen
  obtain ⟨cells, d1, d2, d3⟩ := hen
  rw [← hu5] at d1
  have hchg := Chg.new hr (id := id) (e' := .row e ys) (u := u) (w' := w') hid (by simp) hh1'.kept.os hh1'.kept.tape hh1'.kept.output hh1'.kept.size (fun k hk => hh1'.kept.block k hk) hge
  refine hK u w' _ (hchg.hr hr fun j ee hfi => ?_) (hchg.tx hr) rfl ?_
  ·obtain ⟨rfl, rfl⟩ := find_one hfi
   unfold EntR
   rw [updE_some hfi]
   refine ⟨cells, by rw [Sg.set_self]; exact d1, RRow_plain _ _ hp d2, fun b hb hk2 => ?_⟩
   rw [Sg.set_self] at hb
   have := hge b hb
   have := hr.klt b hk2
   have := hr.kept.size
   omega
  ·refine ⟨hone, ?_⟩
   show RO1 E _ _ _ (.row id) _
   simp only [RO1]
   exact ⟨u, rfl, hone, by rw [updE_some find_self]; simp, fun _ _ _ => (Sg.set_self _ _ _).symm⟩
theorem op_ru (hE : EnvOk E P) (hcall : CallsOk P E call) (hr : HR E keep w0 st.ent σ w) (hf : FRel E st.ent σ w st a) (c : Call) (x : Operand) (hc : c.callee = .value x) (ho : o.op = .call c) {g : Nat} (hg : st.ev E 0 x = .clo g []) {p i e : Nat} {xs l ys : List V}
 (hk : callKind E g = some (.ru p)) (h1 : nth (c.args.toList.map (st.ev E 0)) p = some (.row i)) (h2 : st.ent i = .row e xs) (h3 : mapO (close (st.bury i)) (dropAt (c.args.toList.map (st.ev E 0)) p) = some l)
 (h4 : call (ruBase + g) (insAt (.fresh e xs) l p) = some (.fresh e ys)) (h5 : likeRows xs ys = true)
 {K : Act → World → Prop} {Q : Exit → Act → World → Prop} (hK : Goes E keep w0 st.ent σ w a o .dead [(i, .row e ys)] K) : o.upon P a K Q ((execOp a.eval o).run P w) := by
 obtain ⟨f1, f2, f3, f4⟩ := like_plain h5
 have hx := ev_RT (E := E) hf 0 x
 rw [hg] at hx
 have hx2 : RO1 E st.ent σ w (.clo g []) [a.eval x] := hx.2
 simp only [RO1, RTL] at hx2
 obtain ⟨cv, e1, e2⟩ := hx2
 subst e2
 simp only [List.cons.injEq, and_true] at e1
 replace e1 : a.eval x = .func (.func g) #[] #[] := e1
 have hbl : Nat.blt (ruBase + g) muBase = false := by
  cases hb : Nat.blt (ruBase + g) muBase with
  | false => rfl
  | true => have := Nat.blt_eq.mp hb; unfold ruBase muBase at this; omega
 have hbl2 : Nat.blt (ruBase + g) mvBase = false := by
  cases hb : Nat.blt (ruBase + g) mvBase with
  | false => rfl
  | true => have := Nat.blt_eq.mp hb; unfold ruBase mvBase at this; omega
 have hbl3 : Nat.blt (ruBase + g) bxBase = false := by
  cases hb : Nat.blt (ruBase + g) bxBase with
  | false => rfl
  | true => have := Nat.blt_eq.mp hb; unfold ruBase bxBase at this; omega
 have hbl4 : Nat.blt (ruBase + g) ruBase = false := by
  cases hb : Nat.blt (ruBase + g) ruBase with
  | false => rfl
  | true => have := Nat.blt_eq.mp hb; omega
 obtain ⟨⟨fn, hfn, hbody⟩, p', e0, xs0, e0', ys0, hk', hn', hr', hcalls⟩ := (hcall _ _ _ h4).2.2.2.2.2 hbl (callKind_ru hk) hbl2 hbl3 hbl4
 rw [Nat.add_sub_cancel_left] at hfn hk' hcalls
 rw [hk] at hk'
 simp only [Option.some.injEq, CK.ru.injEq] at hk'
 subst hk'
 have hplt : p < c.args.toList.length := by have := nth_lt _ _ _ h1; simpa using this
 have hll : l.length + 1 = c.args.toList.length := by
  rw [mapO_len h3, dropAt_length _ _ (by simpa using hplt), List.length_map]
 rw [nth_insAt _ _ _ (by omega)] at hn'
 simp only [Option.some.injEq, V.fresh.injEq] at hn'
 obtain ⟨rfl, rfl⟩ := hn'
 simp only [V.fresh.injEq] at hr'
 obtain ⟨rfl, rfl⟩ := hr'
 rw [dropAt_insAt _ _ _ (by omega)] at hcalls
 have hbody : fn.body ≠ none := by cases hb : fn.body <;> simp [hb] at hbody ⊢
 have hname : fn.name ≠ "runtime.NumGoroutine" := by have := hE.num g fn hfn; simpa using this
 have hrun : (execOp a.eval o).run P w = .ok (.enter g (c.args.toList.map a.eval).toArray) w := by
  have : (c.args.toList.map a.eval).toArray = c.args.map a.eval := by apply Array.ext'; simp
  rw [this]
  simp [execOp, ho, hc, resolve, e1, Deferred.ofValue, invoke, callFunc, hfn, hname, hbody]
 rw [hrun, Oper.upon_enter]
 have hlen2 : (c.args.toList.map a.eval).length = (insAt (V.fresh e xs) l p).length := by rw [List.length_map, insAt_length]; omega
 obtain ⟨y, hy1, hy2⟩ := nth_map2 h1
 have hy := ev_RT (E := E) hf 0 y
 rw [hy2] at hy
 have hone : (a.eval y).oneCell' = true := hy.1
 have hyo : RO1 E st.ent σ w (.row i) [a.eval y] := hy.2
 simp only [RO1] at hyo
 obtain ⟨u', hu1, hu2, hu3, hu4⟩ := hyo
 simp only [List.cons.injEq, and_true] at hu1
 subst hu1
 have hu0 := hu4 e xs h2
 have hlive : (st.ent i).live = true := by rw [h2]; rfl
 have hen := hr.ents i
 have hbs : ∀ b', blk (σ i) = some b' → b' < w.heap.size := fun b' hb' => (EntR_blk hen hlive hb').2
 have hbk : ∀ b', blk (σ i) = some b' → ¬ keep b' := fun b' hb' => (EntR_blk hen hlive hb').1
 unfold EntR at hen
 rw [h2] at hen
 obtain ⟨cells, c1, c2, c3⟩ := hen
 let σT : Sg := ⟨σ.val, fun b' => σ.no b' ∨ blk (σ i) = some b'⟩
 have hbury : ∀ id, ((st.bury i).ent id).live = true → id ≠ i ∧ (st.ent id).live = true := by
  intro id h
  rw [ent_bury] at h
  by_cases hi : id = i
  ·rw [if_pos hi] at h; simp [Ent.live] at h
  ·rw [if_neg hi] at h; exact ⟨hi, h⟩
 have hTx : Tx st.ent σ w (st.bury i).ent σT w := by
  refine ⟨?_, ?_, ?_, ?_, ?_⟩
  ·intro id h; rw [ent_bury]; split
   ·simp
   ·exact h
  ·intro id qs h h'; rw [ent_bury] at h'; split at h'
   ·cases h'
   ·exact ⟨qs, h', rfl, rfl⟩
  ·intro id e xs h h'; rw [ent_bury] at h'; split at h'
   ·cases h'
   ·exact ⟨xs, h', rfl, fun i x hx => ⟨x, hx, rfl⟩, rfl⟩
  ·intro id ks vs h h'; rw [ent_bury] at h'; split at h'
   ·cases h'
   ·exact ⟨⟨ks, vs, h'⟩, rfl⟩
  ·intro b' ⟨k1, k2, k3⟩
   refine ⟨⟨k1, fun id hl hbb => k2 id (hbury id hl).2 hbb, ?_⟩, rfl⟩
   rintro (h | h)
   ·exact k3 h
   ·exact k2 i hlive h
 have hrT : HR E (fun _ => False) w (st.bury i).ent σT w := by
  refine ⟨Kept.refl _ _, fun _ h => h.elim, ?_, ?_, ?_, ?_⟩
  ·intro id
   by_cases hi : id = i
   ·unfold EntR; rw [ent_bury, if_pos hi]; trivial
   ·exact EntR_keep (fun _ h => h.elim) (EntR_move hTx (by rw [ent_bury, if_neg hi]) rfl (fun _ _ _ => rfl) (hr.ents id))
  ·intro id b' hl hbb hno
   obtain ⟨hi, hl'⟩ := hbury id hl
   rcases hno with h | h
   ·exact hr.nown id b' hl' hbb h
   ·exact hr.dist id i b' hi hl' hlive hbb h
  ·intro b' hno
   rcases hno with h | h
   ·exact Nat.lt_of_lt_of_le (hr.nlt b' h) hr.kept.size
   ·exact hbs b' h
  ·intro j j' b' hjj hl hl' hb1 hb2
   exact hr.dist j j' b' hjj (hbury j hl).2 (hbury j' hl').2 hb1 hb2
 have hrest : RTL E (st.bury i).ent σT w (dropAt (c.args.toList.map (st.ev E 0)) p) (dropAt (c.args.toList.map a.eval) p) := by
  rw [dropAt_map] at h3
  rw [dropAt_map, dropAt_map]
  exact RTL_move hTx _ _ (RTL_args2 hf _ _ h3)
 have huse : (c.args.toList.map a.eval)[p]? = some (σ i) := by
  rw [List.getElem?_map, hy1, ← hu0]; rfl
 have hrfc : RFC w (okN σT.no w) l (dropAt (c.args.toList.map a.eval) p) := by
  refine closeA_sound hrT ?_ _ _ _ (.inl ?_) hrest h3
  ·intro b' hb'
   exact ⟨⟨hb'.1, hb'.2.2⟩, rfl⟩
  ·intro id b' hl hb'
   exact ⟨(EntR_blk (hrT.ents id) hl hb').2, hrT.nown id b' hl hb'⟩
 refine Calls.mono (hcalls σT.no w _ (σ i) cells (fun b' h => hrT.nlt b' h) (fun b' h => .inr h) huse (by rw [← hu0]; exact hone) c1 (fun ent1 σ1 w1 => RRow_plain _ _ f1 c2) hlen2 hrfc) fun en w' he => ?_
 cases en with
 | panicked chain => exact he.elim
 | outgrown => exact he.elim
 | returned u =>
  simp only at he ⊢
  obtain ⟨hkept, ent1, σ1, cells', d1, d2⟩ := he
  have hchg : Chg st.ent σ w [(i, .row e ys)] σ w' := by
   refine ⟨hkept.os, hkept.tape, hkept.output, hkept.size, rfl, fun _ _ => rfl, ?_, ?_, ?_, ?_, ?_, ?_, ?_⟩
   ·intro k hk2 hn
    exact hkept.block k ⟨hk2, fun h => hn i _ find_self hlive h⟩
   ·intro id ee b2 hfi hl hb2
    obtain ⟨rfl, rfl⟩ := find_one hfi
    exact .inr ⟨_, _, find_self, hlive, hb2⟩
   ·intro p q ep eq b2 hpq hp hq
    obtain ⟨rfl, _⟩ := find_one hp
    obtain ⟨rfl, _⟩ := find_one hq
    exact absurd rfl hpq
   ·intro id ee hfi
    obtain ⟨rfl, rfl⟩ := find_one hfi
    simp
   ·intro id qs hfi _
    obtain ⟨_, h⟩ := find_one hfi
    cases h
   ·intro id ee xs2 hfi _
    obtain ⟨rfl, h⟩ := find_one hfi
    simp only [Ent.row.injEq] at h
    obtain ⟨rfl, rfl⟩ := h
    exact ⟨xs, h2, f3, f4, rfl⟩
   ·intro id ks vs hfi
    obtain ⟨_, h⟩ := find_one hfi
    cases h
  refine hK u w' σ (hchg.hr hr fun id ee hfi => ?_) (hchg.tx hr) rfl trivial
  obtain ⟨rfl, rfl⟩ := find_one hfi
  unfold EntR
  rw [updE_some hfi]
  exact ⟨cells', d1, RRow_plain _ _ f2 d2, hbk⟩
theorem op_mv (hE : EnvOk E P) (hcall : CallsOk P E call) (hr : HR E keep w0 st.ent σ w) (hf : FRel E st.ent σ w st a) (c : Call) (x : Operand) (hc : c.callee = .value x) (ho : o.op = .call c) {g : Nat} (hg : st.ev E 0 x = .clo g []) {p e e' id : Nat} {xs l ys : List V} {tb : List (Nat × Ent)} {stB : St} {b : Bool}
 (hk : callKind E g = some (.mv p)) (hma : mvArg E st (c.args.toList.map (st.ev E 0)) c.argTypes.toList p = some (e, xs, tb, stB)) (hid : st.ent id = .none) (h3 : mapO (close stB) (dropAt (c.args.toList.map (st.ev E 0)) p) = some l)
 (hp1 : plainV (.fresh e xs) = true) (h4 : call (mvBase + g) (insAt (.fresh e xs) l p) = some (.tup [.fresh e' ys, .bool b])) (hp2 : plainV (.fresh e' ys) = true)
 {K : Act → World → Prop} {Q : Exit → Act → World → Prop} (hK : Goes E keep w0 st.ent σ w a o (.tup [.row id, .bool b]) ((id, .row e' ys) :: tb) K) : o.upon P a K Q ((execOp a.eval o).run P w) := by
 have hx := ev_RT (E := E) hf 0 x
 rw [hg] at hx
 have hx2 : RO1 E st.ent σ w (.clo g []) [a.eval x] := hx.2
 simp only [RO1, RTL] at hx2
 obtain ⟨cv, e1, e2⟩ := hx2
 subst e2
 simp only [List.cons.injEq, and_true] at e1
 replace e1 : a.eval x = .func (.func g) #[] #[] := e1
 have hbl : Nat.blt (mvBase + g) muBase = false := by
  cases hb : Nat.blt (mvBase + g) muBase with
  | false => rfl
  | true => have := Nat.blt_eq.mp hb; unfold mvBase muBase at this; omega
 have hbl2 : Nat.blt (mvBase + g) mvBase = false := by
  cases hb : Nat.blt (mvBase + g) mvBase with
  | false => rfl
  | true => have := Nat.blt_eq.mp hb; omega
 obtain ⟨⟨fn, hfn, hbody⟩, p', e0, xs0, e0', ys0, b0, hk', hn', hr', hcalls⟩ := (hcall _ _ _ h4).2.2.2.1 hbl (by have := Nat.blt_eq.mp (callKind_mv hk); exact Nat.blt_eq.mpr (by unfold bxBase at this; unfold puBase; omega)) hbl2 (callKind_mv hk)
 rw [Nat.add_sub_cancel_left] at hfn hk' hcalls
 rw [hk] at hk'
 simp only [Option.some.injEq, CK.mv.injEq] at hk'
 subst hk'
 have hplt : p < c.args.toList.length := by
  rcases mvArg_some hma with ⟨i, h1, _⟩ | ⟨h1, _⟩
  ·have := nth_lt _ _ _ h1; simpa using this
  ·have := nth_lt _ _ _ h1; simpa using this
 have hll : l.length + 1 = c.args.toList.length := by
  rw [mapO_len h3, dropAt_length _ _ (by simpa using hplt), List.length_map]
 rw [nth_insAt _ _ _ (by omega)] at hn'
 simp only [Option.some.injEq, V.fresh.injEq] at hn'
 obtain ⟨rfl, rfl⟩ := hn'
 simp only [V.tup.injEq, List.cons.injEq, V.fresh.injEq, V.bool.injEq, and_true] at hr'
 obtain ⟨⟨rfl, rfl⟩, rfl⟩ := hr'
 rw [dropAt_insAt _ _ _ (by omega)] at hcalls
 have hbody : fn.body ≠ none := by cases hb : fn.body <;> simp [hb] at hbody ⊢
 have hname : fn.name ≠ "runtime.NumGoroutine" := by have := hE.num g fn hfn; simpa using this
 have hrun : (execOp a.eval o).run P w = .ok (.enter g (c.args.toList.map a.eval).toArray) w := by
  have : (c.args.toList.map a.eval).toArray = c.args.map a.eval := by apply Array.ext'; simp
  rw [this]
  simp [execOp, ho, hc, resolve, e1, Deferred.ofValue, invoke, callFunc, hfn, hname, hbody]
 rw [hrun, Oper.upon_enter]
 have hlen2 : (c.args.toList.map a.eval).length = (insAt (V.fresh e xs) l p).length := by rw [List.length_map, insAt_length]; omega
 have hrest : ∀ {σT : Sg}, Tx st.ent σ w stB.ent σT w → RTL E stB.ent σT w (dropAt (c.args.toList.map (st.ev E 0)) p) (dropAt (c.args.toList.map a.eval) p) := by
  intro σT hT
  rw [dropAt_map] at h3
  rw [dropAt_map, dropAt_map]
  exact RTL_move hT _ _ (RTL_args2 hf _ _ h3)
 rcases mvArg_some hma with ⟨i, h1, h2, rfl, rfl⟩ | ⟨h1, rfl, rfl, rfl⟩
 ·
  obtain ⟨y, hy1, hy2⟩ := nth_map2 h1
  have hy := ev_RT (E := E) hf 0 y
  rw [hy2] at hy
  have hone : (a.eval y).oneCell' = true := hy.1
  have hyo : RO1 E st.ent σ w (.row i) [a.eval y] := hy.2
  simp only [RO1] at hyo
  obtain ⟨u', hu1, hu2, hu3, hu4⟩ := hyo
  simp only [List.cons.injEq, and_true] at hu1
  subst hu1
  have hu0 := hu4 e xs h2
  have hlive : (st.ent i).live = true := by rw [h2]; rfl
  have hni : i ≠ id := fun h => by rw [h, hid] at h2; cases h2
  have hen := hr.ents i
  have hbs : ∀ b', blk (σ i) = some b' → b' < w.heap.size := fun b' hb' => (EntR_blk hen hlive hb').2
  have hbk : ∀ b', blk (σ i) = some b' → ¬ keep b' := fun b' hb' => (EntR_blk hen hlive hb').1
  unfold EntR at hen
  rw [h2] at hen
  obtain ⟨cells, c1, c2, c3⟩ := hen
  let σT : Sg := ⟨σ.val, fun b' => σ.no b' ∨ blk (σ i) = some b'⟩
  have hbury : ∀ id, ((st.bury i).ent id).live = true → id ≠ i ∧ (st.ent id).live = true := by
   intro id h
   rw [ent_bury] at h
   by_cases hi : id = i
   ·rw [if_pos hi] at h; simp [Ent.live] at h
   ·rw [if_neg hi] at h; exact ⟨hi, h⟩
  have hTx : Tx st.ent σ w (st.bury i).ent σT w := by
   refine ⟨?_, ?_, ?_, ?_, ?_⟩
   ·intro id h; rw [ent_bury]; split
    ·simp
    ·exact h
   ·intro id qs h h'; rw [ent_bury] at h'; split at h'
    ·cases h'
    ·exact ⟨qs, h', rfl, rfl⟩
   ·intro id e xs h h'; rw [ent_bury] at h'; split at h'
    ·cases h'
    ·exact ⟨xs, h', rfl, fun i x hx => ⟨x, hx, rfl⟩, rfl⟩
   ·intro id ks vs h h'; rw [ent_bury] at h'; split at h'
    ·cases h'
    ·exact ⟨⟨ks, vs, h'⟩, rfl⟩
   ·intro b' ⟨k1, k2, k3⟩
    refine ⟨⟨k1, fun id hl hbb => k2 id (hbury id hl).2 hbb, ?_⟩, rfl⟩
    rintro (h | h)
    ·exact k3 h
    ·exact k2 i hlive h
  have hrT : HR E (fun _ => False) w (st.bury i).ent σT w := by
   refine ⟨Kept.refl _ _, fun _ h => h.elim, ?_, ?_, ?_, ?_⟩
   ·intro id
    by_cases hi : id = i
    ·unfold EntR; rw [ent_bury, if_pos hi]; trivial
    ·exact EntR_keep (fun _ h => h.elim) (EntR_move hTx (by rw [ent_bury, if_neg hi]) rfl (fun _ _ _ => rfl) (hr.ents id))
   ·intro id b' hl hbb hno
    obtain ⟨hi, hl'⟩ := hbury id hl
    rcases hno with h | h
    ·exact hr.nown id b' hl' hbb h
    ·exact hr.dist id i b' hi hl' hlive hbb h
   ·intro b' hno
    rcases hno with h | h
    ·exact Nat.lt_of_lt_of_le (hr.nlt b' h) hr.kept.size
    ·exact hbs b' h
   ·intro j j' b' hjj hl hl' hb1 hb2
    exact hr.dist j j' b' hjj (hbury j hl).2 (hbury j' hl').2 hb1 hb2
  have huse : (c.args.toList.map a.eval)[p]? = some (σ i) := by
   rw [List.getElem?_map, hy1, ← hu0]; rfl
  have hrfc : RFC w (okN σT.no w) l (dropAt (c.args.toList.map a.eval) p) := by
   refine closeA_sound hrT ?_ _ _ _ (.inl ?_) (hrest hTx) h3
   ·intro b' hb'
    exact ⟨⟨hb'.1, hb'.2.2⟩, rfl⟩
   ·intro id b' hl hb'
    exact ⟨(EntR_blk (hrT.ents id) hl hb').2, hrT.nown id b' hl hb'⟩
  refine Calls.mono (hcalls σT.no w _ (σ i) cells (fun b' h => hrT.nlt b' h) (fun b' h => .inr h) huse (by rw [← hu0]; exact hone) c1 (fun ent1 σ1 w1 => RRow_plain _ _ hp1 c2) hlen2 hrfc) fun en w' he => ?_
  cases en with
  | panicked chain => exact he.elim
  | outgrown => exact he.elim
  | returned u =>
   simp only at he ⊢
   obtain ⟨u1, rfl, ho1, hkept, hb1, ent1, σ1, cells', d1, d2⟩ := he
   have hchg := mv_chg (σ := σ) (w := w) (e' := e') (ys := ys) hid (tb := [(i, .tomb)]) (.inr ⟨i, rfl, hni, hlive⟩) (v0 := σ i) (u1 := u1) hkept (fun b' hb' => ⟨i, rfl, hb'⟩) hb1
   refine hK _ w' _ (hchg.hr hr fun j ee hfi => ?_) (hchg.tx hr) rfl (mv_res ho1)
   rcases find_cases hfi with ⟨rfl, rfl⟩ | ⟨hne, hfi2⟩
   ·unfold EntR
    rw [updE_some hfi]
    refine ⟨cells', by simpa using d1, RRow_plain _ _ hp2 d2, fun b' hb' hk2 => ?_⟩
    replace hb' : blk u1 = some b' := by simpa using hb'
    rcases hb1 b' hb' with h | h
    ·have := hr.klt b' hk2
     have := hr.kept.size
     omega
    ·exact hbk b' h hk2
   ·obtain ⟨rfl, rfl⟩ := find_one hfi2
    unfold EntR
    rw [updE_some hfi]
    trivial
 ·
  obtain ⟨y, hy1, hy2⟩ := nth_map2 h1
  have hy := ev_RT (E := E) hf 0 y
  rw [hy2] at hy
  have hyo : RO1 E st.ent σ w .nils [a.eval y] := hy.2
  simp only [RO1, RF, List.cons.injEq, and_true] at hyo
  have huse : (c.args.toList.map a.eval)[p]? = some (.slice none 0 0) := by
   rw [List.getElem?_map, hy1, ← hyo]; rfl
  have hrfc : RFC w (okN σ.no w) l (dropAt (c.args.toList.map a.eval) p) := by
   refine closeA_sound hr ?_ _ _ _ (.inl ?_) (hrest (Tx.refl _ _ _)) h3
   ·intro b' hb'
    exact ⟨⟨hb'.1, hb'.2.2⟩, rfl⟩
   ·intro id b' hl hb'
    exact ⟨(EntR_blk (hr.ents id) hl hb').2, hr.nown id b' hl hb'⟩
  refine Calls.mono (hcalls σ.no w _ (.slice none 0 0) [] (fun b' h => Nat.lt_of_lt_of_le (hr.nlt b' h) hr.kept.size) (fun b' h => by cases h) huse rfl (World.ownsRow_nil w _ e _) (fun ent1 σ1 w1 => rfl) hlen2 hrfc) fun en w' he => ?_
  cases en with
  | panicked chain => exact he.elim
  | outgrown => exact he.elim
  | returned u =>
   simp only at he ⊢
   obtain ⟨u1, rfl, ho1, hkept, hb1, ent1, σ1, cells', d1, d2⟩ := he
   have hchg := mv_chg (σ := σ) (w := w) (e' := e') (ys := ys) hid (tb := []) (.inl rfl) (v0 := .slice none 0 0) (u1 := u1) hkept (fun b' hb' => by cases hb') hb1
   refine hK _ w' _ (hchg.hr hr fun j ee hfi => ?_) (hchg.tx hr) rfl (mv_res ho1)
   rcases find_cases hfi with ⟨rfl, rfl⟩ | ⟨hne, hfi2⟩
   ·unfold EntR
    rw [updE_some hfi]
    refine ⟨cells', by simpa using d1, RRow_plain _ _ hp2 d2, fun b' hb' hk2 => ?_⟩
    replace hb' : blk u1 = some b' := by simpa using hb'
    rcases hb1 b' hb' with h | h
    ·have := hr.klt b' hk2
     have := hr.kept.size
     omega
    ·cases h
   ·simp [find] at hfi2
theorem puRes_some {r x : V} {ps : List V} (h : puRes r = some (x, ps)) : r = .tup [x, .parts ps] := by
 unfold puRes at h
 split at h
 ·split at h
  ·simp only [Option.some.injEq, Prod.mk.injEq] at h
   obtain ⟨rfl, rfl⟩ := h
   rfl
  ·cases h
 ·cases h
theorem op_mark (hE : EnvOk E P) (hcall : CallsOk P E call) (hr : HR E keep w0 st.ent σ w) (hf : FRel E st.ent σ w st a) (c : Call) (x : Operand) (hc : c.callee = .value x) (ho : o.op = .call c) {g : Nat} (hg : st.ev E 0 x = .clo g []) {y z : Operand} (hargs : c.args.toList = [y, z])
 {oo i e : Nat} {k k' : IntKind} {n m : Int} {xs xs' : List V} {e' : Nat} (h1 : rowIn (st.ev E 0 y) = some (oo, i)) (h2 : st.ev E 0 z = .int k n) (h3 : st.ent i = .row e xs) (h4 : call (muBase + g) [putRow (.fresh e xs) (st.ev E 0 y), .int k n] = some (.tup [.int k' m, .fresh e' xs']))
 (h5 : e' = e) (h6 : likeRows xs xs' = true) (hkm : Nat.blt (muBase + g) mvBase = true) {K : Act → World → Prop} {Q : Exit → Act → World → Prop} (hK : Goes E keep w0 st.ent σ w a o (.int k' m) [(i, .row e xs')] K) : o.upon P a K Q ((execOp a.eval o).run P w) := by
 subst h5
 have hx := ev_RT (E := E) hf 0 x
 have hy := ev_RT (E := E) hf 0 y
 have hz := ev_RT (E := E) hf 0 z
 rw [hg] at hx
 rw [h2] at hz
 have ez := RT_int hz
 have hx2 : RO1 E st.ent σ w (.clo g []) [a.eval x] := hx.2
 simp only [RO1, RTL] at hx2
 obtain ⟨cv, e1, e2⟩ := hx2
 subst e2
 simp only [List.cons.injEq, and_true] at e1
 replace e1 : a.eval x = .func (.func g) #[] #[] := e1
 have hbl : Nat.blt (muBase + g) muBase = false := by
  cases hb : Nat.blt (muBase + g) muBase with
  | false => rfl
  | true => have := Nat.blt_eq.mp hb; omega
 obtain ⟨⟨fn, hfn, hbody⟩, a0, q0, n0, o0, e0, xs0, q1, m1, e3, xs1, ha, hfr, hres, hcalls⟩ := (hcall _ _ _ h4).2.1 hbl (by
  have h7 := Nat.blt_eq.mp hkm
  exact Nat.blt_eq.mpr (Nat.lt_trans h7 (by decide))) hkm
 rw [Nat.add_sub_cancel_left] at hfn hcalls
 simp only [List.cons.injEq, V.int.injEq, and_true] at ha
 obtain ⟨ha, rfl, rfl⟩ := ha
 simp only [V.tup.injEq, List.cons.injEq, V.int.injEq, V.fresh.injEq, and_true] at hres
 obtain ⟨⟨rfl, rfl⟩, rfl, rfl⟩ := hres
 subst ha
 have hen := hr.ents i
 unfold EntR at hen
 rw [h3] at hen
 obtain ⟨cells, c1, c2, c3⟩ := hen
 obtain ⟨p1, p2, p3, p4⟩ := like_plain h6
 have hfr2 := (rowIn_RT (ent1 := fun j => if j = 1 then .row e' xs else .none) (σ1 := ⟨fun _ => σ i, σ.no⟩) h3 (by simp) rfl hy h1).2.2
 rw [hfr2] at hfr
 simp only [Option.some.injEq, Prod.mk.injEq] at hfr
 obtain ⟨rfl, rfl, rfl⟩ := hfr
 have hbody : fn.body ≠ none := by cases hb : fn.body <;> simp [hb] at hbody ⊢
 have hname : fn.name ≠ "runtime.NumGoroutine" := by have := hE.num g fn hfn; simpa using this
 have hargs2 : c.args = #[y, z] := by apply Array.ext'; simpa using hargs
 have hrun : (execOp a.eval o).run P w = .ok (.enter g #[a.eval y, .int k n]) w := by
  simp [execOp, ho, hc, resolve, e1, Deferred.ofValue, invoke, callFunc, hfn, hname, hbody, hargs2, ez]
 rw [hrun, Oper.upon_enter]
 have hput : ∀ (x : V) (r r' : V), (∀ ps, putRowL r (putRowL (.fresh e' xs) ps) = putRowL r ps) := by
  intro x r r' ps
  induction ps with
  | nil => rfl
  | cons p ps ih => cases p <;> first | rfl | (simp only [putRowL]; rw [ih])
 have hput2 : putRow (.row 1) (putRow (.fresh e' xs) (st.ev E 0 y)) = putRow (.row 1) (st.ev E 0 y) := by
  cases st.ev E 0 y <;> first | rfl | (simp only [putRow]; rw [hput (.row 1) (.row 1) (.row 1)])
 refine Calls.mono (hcalls w (a.eval y) (σ i) cells (fun ent1 σ1 k1 k2 => ?_) (rowIn_RT (ent1 := fun j => if j = 1 then .row e' xs else .none) (σ1 := ⟨fun _ => σ i, σ.no⟩) h3 (by simp) rfl hy h1).2.1 c1 (fun ent1 σ1 w1 => RRow_plain _ _ p1 c2)) fun en w' he => ?_
 ·rw [hput2]
  exact (rowIn_RT h3 k1 k2 hy h1).1
 cases en with
 | panicked chain => exact he.elim
 | outgrown => exact he.elim
 | returned u =>
  simp only at he ⊢
  obtain ⟨rfl, hkept, ent1, σ1, cells', d1, d2⟩ := he
  have hlive : (st.ent i).live = true := by rw [h3]; rfl
  have hchg : Chg st.ent σ w [(i, .row e' xs')] σ w' := by
   refine ⟨hkept.os, hkept.tape, hkept.output, hkept.size, rfl, fun _ _ => rfl, ?_, ?_, ?_, ?_, ?_, ?_, ?_⟩
   ·intro k hk hn
    exact hkept.block k ⟨hk, hn i _ find_self hlive⟩
   ·intro id ee b hfi hl hb
    obtain ⟨rfl, rfl⟩ := find_one hfi
    exact .inr ⟨_, _, find_self, hlive, hb⟩
   ·intro p q ep eq b hpq hp hq
    obtain ⟨rfl, _⟩ := find_one hp
    obtain ⟨rfl, _⟩ := find_one hq
    exact absurd rfl hpq
   ·intro id ee hfi
    obtain ⟨rfl, rfl⟩ := find_one hfi
    simp
   ·intro id ps hfi
    obtain ⟨_, h⟩ := find_one hfi
    cases h
   ·intro id ee xs2 hfi _
    obtain ⟨rfl, h⟩ := find_one hfi
    simp only [Ent.row.injEq] at h
    obtain ⟨rfl, rfl⟩ := h
    exact ⟨xs, h3, p3, p4, rfl⟩
   ·intro id ks vs hfi
    obtain ⟨_, h⟩ := find_one hfi
    cases h
  refine hK _ w' σ (hchg.hr hr fun id ee hfi => ?_) (hchg.tx hr) rfl (RT_mkint _ _)
  obtain ⟨rfl, rfl⟩ := find_one hfi
  unfold EntR
  rw [updE_some hfi]
  exact ⟨cells', d1, RRow_plain _ _ p2 d2, c3⟩
theorem op_call (hE : EnvOk E P) (hcall : CallsOk P E call) (hr : HR E keep w0 st.ent σ w) (hf : FRel E st.ent σ w st a) (c : Call) (x : Operand) (hc : c.callee = .value x) (ho : o.op = .call c) (h : (stepOp E call o st).eval = some (v, es))
 {K : Act → World → Prop} {Q : Exit → Act → World → Prop} (hK : Goes E keep w0 st.ent σ w a o v es K) : o.upon P a K Q ((execOp a.eval o).run P w) := by
 have hx := ev_RT (E := E) hf 0 x
 simp only [stepOp, ho, hc] at h
 split at h
 ·rename_i g caps hg
  split at h
  ·simp [Tr.eval] at h
  ·rename_i p hk
   split at h
   ·rename_i i pi rel ext h1
    split at h
    ·rename_i ps h2 hz1 hz2
     split at h
     ·rename_i l h3
      unfold Tr.eval at h
      split at h
      ·rename_i r hr0
       simp only [] at h
       split at h
       ·rename_i v0 ps' hres
        split at h
        ·rename_i hfine
         split at h
         ·rename_i hfree hnd
          have hpl : plainV v0 = true ∧ (recv v0 (ownId o)).1 = v ∧ (i, Ent.box ps') :: (recv v0 (ownId o)).2 = es := by
           split at h
           ·rename_i hw
            simp only [Tr.eval, Option.some.injEq, Prod.mk.injEq] at h
            exact ⟨plainW_V hw, h.1, h.2⟩
           ·simp only [Tr.eval] at h
            split at h
            ·rename_i hp
             simp only [Option.some.injEq, Prod.mk.injEq] at h
             exact ⟨hp, h.1, h.2⟩
            ·cases h
          obtain ⟨hpl, rfl, rfl⟩ := hpl
          have hr1 := puRes_some hres
          subst hr1
          have hp0 : pi = 0 := by cases pi with | zero => rfl | succ n => cases hz1
          have hp1 : rel = 0 := by cases rel with | zero => rfl | succ n => cases hz2
          subst hp0
          subst hp1
          exact op_pu hE hcall hr hf c x hc ho hg hk h1 h2 h3 hr0 hfine hfree hnd hpl hK
         ·simp [Tr.eval] at h
        ·simp [Tr.eval] at h
       ·simp [Tr.eval] at h
      ·cases h
     ·simp [Tr.eval] at h
    ·simp [Tr.eval] at h
   ·simp [Tr.eval] at h
  ·rename_i p hk
   split at h
   ·rename_i e xs tb stB hma hid
    split at h
    ·rename_i l h3
     unfold Tr.eval at h
     split at h
     ·rename_i hp1
      unfold Tr.eval at h
      split at h
      ·rename_i r hr0
       dsimp only at h
       split at h
       ·rename_i e' ys b hres
        unfold Tr.eval at h
        split at h
        ·rename_i hp2
         simp only [Tr.eval] at h
         simp only [Option.some.injEq, Prod.mk.injEq] at h
         obtain ⟨rfl, rfl⟩ := h
         have hr1 := mvRes_some hres
         subst hr1
         exact op_mv hE hcall hr hf c x hc ho hg hk hma hid h3 hp1 hr0 hp2 hK
        ·cases h
       ·simp [Tr.eval] at h
      ·cases h
     ·cases h
    ·simp [Tr.eval] at h
   ·simp [Tr.eval] at h
  ·rename_i hk
   split at h
   ·rename_i i f j pi rel ext hargs hid
    split at h
    ·rename_i e1 xs ps hi hj
     split at h
     ·rename_i hfo
      unfold Tr.eval at h
      split at h
      ·rename_i r hr0
       dsimp only at h
       split at h
       ·rename_i e ys
        simp only [Tr.eval, Option.some.injEq, Prod.mk.injEq] at h
        obtain ⟨rfl, rfl⟩ := h
        exact op_fz hE hcall hr hf c x hc ho hg rfl hk hargs hid hi hj hfo hr0 hK
       ·simp [Tr.eval] at h
      ·cases h
     ·simp [Tr.eval] at h
    ·simp [Tr.eval] at h
   ·simp [Tr.eval] at h
  ·rename_i hk
   split at h
   ·rename_i k n hargs hid
    unfold Tr.eval at h
    split at h
    ·rename_i r hr0
     dsimp only at h
     split at h
     ·rename_i e ys
      unfold Tr.eval at h
      split at h
      ·rename_i hp
       simp only [Tr.eval, Option.some.injEq, Prod.mk.injEq] at h
       obtain ⟨rfl, rfl⟩ := h
       exact op_gw hE hcall hr hf c x hc ho hg rfl hk hargs hid hr0 hp hK
      ·cases h
     ·simp [Tr.eval] at h
    ·cases h
   ·simp [Tr.eval] at h
  ·rename_i p hk
   split at h
   ·rename_i i h1
    split at h
    ·rename_i e xs h2
     split at h
     ·rename_i l h3
      unfold Tr.eval at h
      split at h
      ·rename_i r hr0
       dsimp only at h
       split at h
       ·rename_i e' ys
        split at h
        ·rename_i hee
         have hee := Nat.eq_of_beq_eq_true hee
         subst hee
         unfold Tr.eval at h
         split at h
         ·rename_i hlike
          simp only [Tr.eval, Option.some.injEq, Prod.mk.injEq] at h
          obtain ⟨rfl, rfl⟩ := h
          exact op_ru hE hcall hr hf c x hc ho hg hk h1 h2 h3 hr0 hlike hK
         ·cases h
        ·simp [Tr.eval] at h
       ·simp [Tr.eval] at h
      ·cases h
     ·simp [Tr.eval] at h
    ·simp [Tr.eval] at h
   ·simp [Tr.eval] at h
  ·rename_i hk
   split at h
   ·rename_i hall hid
    split at h
    ·rename_i l h3
     unfold Tr.eval at h
     split at h
     ·rename_i r hr0
      dsimp only at h
      split at h
      ·rename_i ps ext hres
       simp only [Tr.eval, Option.some.injEq, Prod.mk.injEq] at h
       obtain ⟨rfl, rfl⟩ := h
       obtain ⟨rfl, _⟩ := bxRes_some hres
       exact op_bx hE hcall hr hf c x hc ho hg hk hall hid h3 hr0 hK
      ·simp [Tr.eval] at h
     ·cases h
    ·simp [Tr.eval] at h
   ·simp [Tr.eval] at h
  ·rename_i hkm
   replace hkm := callKind_mu hkm
   split at h
   ·rename_i y z hargs
    split at h
    ·rename_i oo i k n h1 h2
     split at h
     ·rename_i e xs h3
      unfold Tr.eval at h
      split at h
      ·rename_i r hr0
       simp only [] at h
       split at h
       ·rename_i k' m e' xs'
        split at h
        ·rename_i hb
         simp only [Tr.eval] at h
         split at h
         ·rename_i hl
          simp only [Option.some.injEq, Prod.mk.injEq] at h
          obtain ⟨rfl, rfl⟩ := h
          exact op_mark hE hcall hr hf c x hc ho hg hargs h1 h2 h3 hr0 (Nat.eq_of_beq_eq_true hb) hl hkm hK
         ·cases h
        ·simp [Tr.eval] at h
       ·simp [Tr.eval] at h
      ·cases h
     ·simp [Tr.eval] at h
    ·simp [Tr.eval] at h
   ·simp [Tr.eval] at h
  rename_i hmu
  replace hmu := callKind_blt hmu
  rw [hg] at hx
  split at h
  ·rename_i avs havs
   unfold Tr.eval at h
   split at h
   ·rename_i r hr0
    simp only [] at h
    split at h
    ·rename_i hfree hnd
     have hpl : (allB forV (ordL g (c.args.toList.map (st.ev E 0)) caps) || plainV r) = true ∧ (recv r (ownId o)).1 = v ∧ (recv r (ownId o)).2 = es := by
      split at h
      ·rename_i hall
       simp only [Tr.eval, Option.some.injEq, Prod.mk.injEq] at h
       exact ⟨by rw [hall]; rfl, h.1, h.2⟩
      ·simp only [Tr.eval] at h
       split at h
       ·rename_i hp
        simp only [Option.some.injEq, Prod.mk.injEq] at h
        exact ⟨by rw [hp, Bool.or_true], h.1, h.2⟩
       ·cases h
     obtain ⟨hpl, hv, hes⟩ := hpl
     have hx2 : RO1 E st.ent σ w (.clo g caps) [a.eval x] := hx.2
     simp only [RO1] at hx2
     obtain ⟨cv, h1, h2⟩ := hx2
     simp only [List.cons.injEq, and_true] at h1
     have hblt : Nat.blt (gOf g caps) muBase = true := hmu
     obtain ⟨⟨fn, hfn, hbody⟩, hcalls⟩ := (hcall (gOf g caps) avs r hr0).1 hblt
     have hbody : fn.body ≠ none := by cases hb : fn.body <;> simp [hb] at hbody ⊢
     have hname : fn.name ≠ "runtime.NumGoroutine" := by have := hE.num (gOf g caps) fn hfn; simpa using this
     obtain ⟨fs, cs, hclo, hord⟩ := clo_call g (RTL_len _ _ h2)
     rw [hclo] at h1
     have hrun : (execOp a.eval o).run P w = .ok (.enter (gOf g caps) (fs.toArray ++ c.args.map a.eval ++ cs.toArray)) w := by
      simp [execOp, ho, hc, resolve, h1, Deferred.ofValue, invoke, callFunc, hfn, hname, hbody]
     rw [hrun]
     have hargs : RTL E st.ent σ w (ordL g (c.args.toList.map (st.ev E 0)) caps) (ordL g (c.args.toList.map a.eval) cv) := by
      unfold ordL at havs ⊢
      cases hb : Nat.blt g thBase with
      | true =>
       simp only [hb] at havs ⊢
       obtain ⟨l1, hl1⟩ := mapO_append havs
       exact RTL_append _ _ _ _ (RTL_args hf _ _ hl1) h2
      | false =>
       simp only [hb] at havs ⊢
       obtain ⟨l1, hl1⟩ := mapO_append2 havs
       exact RTL_append _ _ _ _ h2 (RTL_args hf _ _ hl1)
     have hus : (fs.toArray ++ c.args.map a.eval ++ cs.toArray) = (ordL g (c.args.toList.map a.eval) cv).toArray := by
      rw [hord]; apply Array.ext'; simp
     rw [hus]
     have main : ∀ no : Nat → Prop, (∀ b, no b → b < w.heap.size) → (∀ b, σ.no b → no b) → RFC w (okN no w) avs (ordL g (c.args.toList.map a.eval) cv) →
      (∀ w' σ1, σ1.no = no → HR E (fun b => b < w.heap.size) w (updE (recv r (ownId o)).2 ent0) σ1 w' → ∀ σ' : Sg, σ'.no = σ.no → (∀ id, find es id = none → σ' id = σ id) → (∀ id e, find es id = some e → σ' id = σ1 id) →
       (∀ id e, find es id = some e → EntR E (updE es ent0) σ1 w' (fun b => b < w.heap.size) id → (∃ cells, w'.ownsRow 0 (match e with | .row e' _ => e' | _ => 0) (E.sz (match e with | .row e' _ => e' | _ => 0)) (σ1 id) (match e with | .row _ xs => xs.length | _ => 0) cells ∧ (match e with | .row e' xs => RRow (updE es st.ent) σ' w' (E.sz e') xs cells | _ => True))) ∧
       (∀ u, RT E (updE es ent0) σ1 w' (recv r (ownId o)).1 u → RT E (updE es st.ent) σ' w' (recv r (ownId o)).1 u)) →
      o.upon P a K Q (.ok (.enter (gOf g caps) (ordL g (c.args.toList.map a.eval) cv).toArray) w) := by
      intro no hno hsub hrfc hmove
      rw [Oper.upon_enter]
      refine Calls.mono (hcalls no w _ hno hrfc) fun e w' he => ?_
      cases e with
      | panicked chain => exact he.elim
      | outgrown => exact he.elim
      | returned u =>
       simp only at he ⊢
       obtain ⟨σ1, hs1, hh1, hrt⟩ := he (ownId o) hnd
       let σ' : Sg := ⟨fun id => match find es id with | some _ => σ1 id | none => σ id, σ.no⟩
       have hsn : ∀ id, find es id = none → σ' id = σ id := fun id h => by show (match find es id with | some _ => σ1 id | none => σ id) = _; rw [h]
       have hss : ∀ id e, find es id = some e → σ' id = σ1 id := fun id e h => by show (match find es id with | some _ => σ1 id | none => σ id) = _; rw [h]
       obtain ⟨hm1, hm2⟩ := hmove w' σ1 hs1 hh1 σ' rfl hsn hss
       rw [hes] at hh1
       have hlive : ∀ id e, find es id = some e → (updE es ent0 id).live = true ∧ updE es ent0 id = e ∧ ∃ e' xs, e = .row e' xs := by
        intro id e h
        rw [← hes] at h
        obtain ⟨e', xs, h3⟩ := recv_row h
        rw [hes] at h
        rw [updE_some h, h3]
        exact ⟨rfl, rfl, e', xs, rfl⟩
       have hge : ∀ id e b, find es id = some e → blk (σ1 id) = some b → w.heap.size ≤ b := by
        intro id e b h1 h2
        exact Nat.le_of_not_lt (EntR_blk (hh1.ents id) (hlive id e h1).1 h2).1
       have hfree' : ∀ id e, find es id = some e → st.ent id = .none := fun id e h => freeAll_none (by rw [← hes]; exact hfree) h
       have hchg : Chg st.ent σ w es σ' w' := by
        refine ⟨hh1.kept.os, hh1.kept.tape, hh1.kept.output, hh1.kept.size, rfl, hsn, fun k hk _ => hh1.kept.block k hk, ?_, ?_, ?_, ?_, ?_, ?_⟩
        ·intro id e b h1 _ h2
         rw [hss id e h1] at h2
         exact .inl (hge id e b h1 h2)
        ·intro i j e e' b hij hi hj _ _ h1 h2
         rw [hss i e hi] at h1
         rw [hss j e' hj] at h2
         exact hh1.dist i j b hij (hlive i e hi).1 (hlive j e' hj).1 h1 h2
        ·intro id e h1
         obtain ⟨_, _, e', xs, h3⟩ := hlive id e h1
         rw [h3]; simp
        ·intro id ps h1 h2; exact absurd (hfree' id _ h1) h2
        ·intro id e xs h1 h2; exact absurd (hfree' id _ h1) h2
        ·intro id ks vs h1 h2; exact absurd (hfree' id _ h1) h2
       refine hK u w' σ' (hchg.hr hr fun id e h1 => ?_) (hchg.tx hr) rfl (by rw [← hv]; exact hm2 u (by rw [← hes]; exact hrt))
       obtain ⟨_, h2, e', xs, h3⟩ := hlive id e h1
       obtain ⟨cells, h4, h5⟩ := hm1 id e h1 (hh1.ents id)
       subst h3
       unfold EntR
       rw [updE_some h1]
       refine ⟨cells, by rw [hss id _ h1]; exact h4, h5, fun b hb hk => ?_⟩
       rw [hss id _ h1] at hb
       have := hge id _ b h1 hb
       have := hr.klt b hk
       have := hr.kept.size
       omega
     have rowOf : ∀ (w' : World) (σ1 : Sg) id e, find es id = some e → EntR E (updE es ent0) σ1 w' (fun b => b < w.heap.size) id → ∃ e' xs cells, e = .row e' xs ∧ w'.ownsRow 0 e' (E.sz e') (σ1 id) xs.length cells ∧ RRow (updE es ent0) σ1 w' (E.sz e') xs cells := by
      intro w' σ1 id e h1 h2
      have h1' := h1
      rw [← hes] at h1'
      obtain ⟨e', xs, rfl⟩ := recv_row h1'
      unfold EntR at h2
      rw [updE_some h1] at h2
      obtain ⟨cells, h3, h4, _⟩ := h2
      exact ⟨e', xs, cells, rfl, h3, h4⟩
     rw [Bool.or_eq_true] at hpl
     rcases hpl with hpl | hpl
     ·
      refine main (fun b => σ.no b ∨ ∃ id, (st.ent id).live = true ∧ blk (σ id) = some b) ?_ (fun b h => .inl h) ?_ ?_
      ·intro b hb
       rcases hb with hb | ⟨id, hl, hb⟩
       ·exact Nat.lt_of_lt_of_le (hr.nlt b hb) hr.kept.size
       ·exact (EntR_blk (hr.ents id) hl hb).2
      ·refine closeA_sound hr ?_ _ _ _ (.inr hpl) hargs havs
       intro b hb
       refine ⟨⟨hb.1, ?_⟩, rfl⟩
       rintro (h | ⟨id, hl, h⟩)
       ·exact hb.2.2 h
       ·exact hb.2.1 id hl h
      ·intro w' σ1 hs1 hh1 σ' hno hsn hss
       rw [hes] at hh1
       have htx : Tx (updE es ent0) σ1 w' (updE es st.ent) σ' w' := by
        have hin : ∀ id, updE es ent0 id ≠ .none → ∃ e, find es id = some e := by
         intro id h
         cases hfd : find es id with
         | none => rw [updE_none hfd] at h; exact absurd rfl h
         | some e => exact ⟨e, rfl⟩
        refine ⟨?_, ?_, ?_, ?_, ?_⟩
        ·intro id h
         obtain ⟨e, he⟩ := hin id h
         rw [updE_some he] at h ⊢; exact h
        ·intro id ps h h'
         obtain ⟨e, he⟩ := hin id h
         rw [updE_some he] at h' ⊢
         exact ⟨ps, h', rfl, hss id e he⟩
        ·intro id e1 xs h h'
         obtain ⟨e, he⟩ := hin id h
         rw [updE_some he] at h' ⊢
         exact ⟨xs, h', rfl, fun i x hx => ⟨x, hx, rfl⟩, hss id e he⟩
        ·intro id ks vs h h'
         obtain ⟨e, he⟩ := hin id h
         rw [updE_some he] at h' ⊢
         exact ⟨⟨ks, vs, h'⟩, hss id e he⟩
        ·intro b ⟨h1, h2, h3⟩
         rw [hs1] at h3
         refine ⟨⟨h1, fun id hl hb => ?_, by rw [hno]; exact fun h => h3 (.inl h)⟩, rfl⟩
         cases hfd : find es id with
         | none =>
          rw [updE_none hfd] at hl
          rw [hsn id hfd] at hb
          exact h3 (.inr ⟨id, hl, hb⟩)
         | some e =>
          rw [updE_some hfd] at hl
          rw [hss id e hfd] at hb
          exact h2 id (by rw [updE_some hfd]; exact hl) hb
       refine ⟨fun id e h1 h2 => ?_, fun u hu => RT_move htx _ _ hu⟩
       obtain ⟨e', xs, cells, rfl, h3, h4⟩ := rowOf w' σ1 id e h1 h2
       exact ⟨cells, h3, RRow_move htx.ok _ _ h4⟩
     ·
      refine main σ.no (fun b hb => Nat.lt_of_lt_of_le (hr.nlt b hb) hr.kept.size) (fun b h => h) ?_ ?_
      ·refine closeA_sound hr ?_ _ _ _ (.inl ?_) hargs havs
       ·intro b hb
        exact ⟨⟨hb.1, hb.2.2⟩, rfl⟩
       ·intro id b hl hb
        exact ⟨(EntR_blk (hr.ents id) hl hb).2, hr.nown id b hl hb⟩
      ·intro w' σ1 hs1 hh1 σ' hno hsn hss
       obtain ⟨hp1, hp2⟩ := recv_plain (i := ownId o) hpl
       refine ⟨fun id e h1 h2 => ?_, fun u hu => RT_plR ?_ hp1 hu⟩
       ·obtain ⟨e', xs, cells, rfl, h3, h4⟩ := rowOf w' σ1 id e h1 h2
        rw [← hes] at h1
        obtain ⟨e2, xs2, h5, h6⟩ := hp2 _ (find_mem h1)
        simp only [Ent.row.injEq] at h5
        obtain ⟨rfl, rfl⟩ := h5
        exact ⟨cells, h3, RRow_plain _ _ h6 h4⟩
       ·intro id h
        cases hfd : find es id with
        | none => rw [updE_none hfd] at h; exact absurd rfl h
        | some e => exact ⟨by rw [updE_some hfd, updE_some hfd], hss id e hfd⟩
    ·simp [Tr.eval] at h
   ·cases h
  ·simp [Tr.eval] at h
 ·simp [Tr.eval] at h
end
end Go.Proofs.YthdnamhilcjnhaaGreatDoor
