/- Calls. -/
import Derived.Test.YtlnpblomnlppiaaRs12
namespace Go.Proofs.Ytlnpblomnlppiaa
open Go Go.RowKit
set_option linter.unusedVariables false
set_option linter.unusedSimpArgs false
section
variable {E : Env} {P : Program} {keep : Nat → Prop} {w0 : World} {σ : Sg} {w : World} {st : St} {a : Act} {o : Oper} {v : V} {es : List (Nat × Ent)} {call : Nat → List V → Option V} {ent : Nat → Ent}

def ent0 : Nat → Ent := fun _ => .none
/-- what a call has given back -/
def ResR (E : Env) (no : Nat → Prop) (w w' : World) (r : V) (u : Value) : Prop :=
  ∀ i, nodupN ((recv r i).2.map (·.1)) = true → ∃ σ' : Sg, σ'.no = no ∧ HR E (fun b => b < w.heap.size) w (updE (recv r i).2 ent0) σ' w' ∧ RT E (updE (recv r i).2 ent0) σ' w' (recv r i).1 u
/-- a function: it gives back what the abstract call says -/
def FunOk (P : Program) (E : Env) (f : Nat) (avs : List V) (r : V) : Prop :=
  (∃ fn, P.funcs[f]? = some fn ∧ fn.body.isSome = true) ∧ ∀ (no : Nat → Prop) (w : World) (us : List Value), (∀ b, no b → b < w.heap.size) → RFC w (okN no w) avs us →
    Calls P f us.toArray w fun e w' => match e with
      | .returned u => ResR E no w w' r u
      | _ => False
/-- a function that writes into a row of its caller's -/
def MuOk (P : Program) (E : Env) (f : Nat) (avs : List V) (r : V) : Prop :=
  (∃ fn, P.funcs[f]? = some fn ∧ fn.body.isSome = true) ∧ ∃ (a : V) (q : IntKind) (n : Int) (o e : Nat) (xs : List V) (q' : IntKind) (m : Int) (e' : Nat) (xs' : List V), avs = [a, .int q n] ∧ freshIn a = some (o, e, xs) ∧ r = .tup [.int q' m, .fresh e' xs'] ∧
    ∀ (w : World) (u v0 : Value) (cells : List Value), (∀ (ent : Nat → Ent) (σ : Sg), ent 1 = .row e xs → σ 1 = v0 → RT E ent σ w (putRow (.row 1) a) u) → u.cells.toList[o]? = some v0 → w.ownsRow 0 e (E.sz e) v0 xs.length cells →
      (∀ (ent : Nat → Ent) (σ : Sg) (w : World), RRow ent σ w (E.sz e) xs cells) → Calls P f #[u, .int q n] w fun en w' => match en with
        | .returned x => x = .int q' m ∧ Kept (fun b => b < w.heap.size ∧ blk v0 ≠ some b) w w' ∧ ∃ (ent : Nat → Ent) (σ : Sg) (cells' : List Value), w'.ownsRow 0 e' (E.sz e') v0 xs'.length cells' ∧ RRow ent σ w' (E.sz e') xs' cells'
        | _ => False
/-- the abstract calls are so -/
def CallsOk (P : Program) (E : Env) (call : Nat → List V → Option V) : Prop :=
  ∀ f avs r, call f avs = some r → (Nat.blt f muBase = true → FunOk P E f avs r) ∧ (Nat.blt f muBase = false → MuOk P E (f - muBase) avs r)

def plR0 : V → Bool
  | .parts _ => true
  | .row _ => true
  | v => plainO v
def plR : V → Bool
  | .parts ps => allB plR0 ps
  | v => plR0 v
def plRT : V → Bool
  | .tup vs => allB plR vs
  | v => plR v
theorem allB_append {α : Type} {p : α → Bool} : ∀ {xs ys : List α}, allB p xs = true → allB p ys = true → allB p (xs ++ ys) = true
  | [], ys, _, h => h
  | x :: xs, ys, h, h' => by
    obtain ⟨h1, h2⟩ := allB_cons h
    simp only [List.cons_append, allB, h1]
    exact allB_append h2 h'
/-- rows alone, with what is said of their elements -/
def rowsP (p : V → Bool) (es : List (Nat × Ent)) : Prop := ∀ x, x ∈ es → ∃ e xs, x.2 = .row e xs ∧ allB p xs = true
theorem rowsP_append {p : V → Bool} {xs ys : List (Nat × Ent)} (h : rowsP p xs) (h' : rowsP p ys) : rowsP p (xs ++ ys) := by
  intro x hx
  rcases List.mem_append.1 hx with hx | hx
  · exact h x hx
  · exact h' x hx
theorem allB_true {α : Type} : ∀ (xs : List α), allB (fun _ => true) xs = true
  | [] => rfl
  | _ :: xs => by simp only [allB]; exact allB_true xs
theorem recv1_rows (v : V) (i : Nat) : rowsP (fun _ => true) (recv1 v i).2 := by
  cases v <;> intro x hx <;> simp only [recv1, List.not_mem_nil, List.mem_singleton] at hx
  subst hx
  exact ⟨_, _, rfl, allB_true _⟩
theorem recvL_rows : ∀ (vs : List V) (i : Nat), rowsP (fun _ => true) (recvL vs i).2
  | [], i => by intro x hx; cases hx
  | v :: vs, i => by
    simp only [recvL]
    exact rowsP_append (recv1_rows v i) (recvL_rows vs (i + 2))
theorem recvP_rows (v : V) (i : Nat) : rowsP (fun _ => true) (recvP v i).2 := by
  cases v <;> first
    | exact recvL_rows _ _
    | exact recv1_rows _ _
theorem recvT_rows : ∀ (vs : List V) (i : Nat), rowsP (fun _ => true) (recvT vs i).2
  | [], i => by intro x hx; cases hx
  | v :: vs, i => by
    simp only [recvT]
    exact rowsP_append (recvP_rows v i) (recvT_rows vs (i + 2))
theorem recv_rows (v : V) (i : Nat) : rowsP (fun _ => true) (recv v i).2 := by
  cases v <;> first
    | exact recvT_rows _ _
    | exact recvP_rows _ _
theorem find_mem {α : Type} : ∀ {es : List (Nat × α)} {id : Nat} {e : α}, find es id = some e → (id, e) ∈ es
  | [], id, e, h => by simp [find] at h
  | (j, x) :: es, id, e, h => by
    simp only [find] at h
    split at h
    · rename_i hb
      simp only [Option.some.injEq] at h
      rw [← Nat.eq_of_beq_eq_true hb, h]
      exact List.mem_cons_self
    · exact List.mem_cons_of_mem _ (find_mem h)
theorem recv_row {r : V} {i id : Nat} {e : Ent} (h : find (recv r i).2 id = some e) : ∃ e' xs, e = .row e' xs := by
  obtain ⟨e', xs, h1, _⟩ := recv_rows r i _ (find_mem h)
  exact ⟨e', xs, h1⟩

/-! ### plain results -/
theorem plainO_plR0 {v : V} (h : plainO v = true) : plR0 v = true := by cases v <;> first | rfl | simp [plainO] at h
theorem recv1_plain {v : V} {i : Nat} (h : plainP v = true) : plR0 (recv1 v i).1 = true ∧ rowsP plainP.plainE (recv1 v i).2 := by
  have nil : rowsP plainP.plainE [] := by intro x hx; cases hx
  cases v with
  | fresh e xs =>
    refine ⟨rfl, fun x hx => ?_⟩
    simp only [recv1, List.mem_singleton] at hx
    subst hx
    exact ⟨_, _, rfl, h⟩
  | int _ _ => exact ⟨rfl, nil⟩
  | bool _ => exact ⟨rfl, nil⟩
  | str _ => exact ⟨rfl, nil⟩
  | ints _ _ _ => exact ⟨rfl, nil⟩
  | parts _ => exact ⟨rfl, nil⟩
  | nils => exact ⟨rfl, nil⟩
  | nilp => exact ⟨rfl, nil⟩
  | nilf => exact ⟨rfl, nil⟩
  | nilm => exact ⟨rfl, nil⟩
  | _ => simp [plainP, plainO] at h
theorem recvL_plain : ∀ (vs : List V) (i : Nat), allB plainP vs = true → allB plR0 (recvL vs i).1 = true ∧ rowsP plainP.plainE (recvL vs i).2
  | [], i, _ => ⟨rfl, by intro x hx; cases hx⟩
  | v :: vs, i, h => by
    obtain ⟨h1, h2⟩ := allB_cons h
    obtain ⟨h3, h4⟩ := recv1_plain (i := i) h1
    obtain ⟨h5, h6⟩ := recvL_plain vs (i + 2) h2
    simp only [recvL]
    exact ⟨by simp only [allB, h3, h5], rowsP_append h4 h6⟩
theorem recvP_plain {v : V} {i : Nat} (h : plainQ v = true) : plR (recvP v i).1 = true ∧ rowsP plainP.plainE (recvP v i).2 := by
  by_cases hp : ∃ ps, v = .parts ps
  · obtain ⟨ps, rfl⟩ := hp
    obtain ⟨h1, h2⟩ := recvL_plain ps (i * 100) h
    exact ⟨h1, h2⟩
  · have h0 : plainP v = true := by cases v <;> first | exact h | exact absurd ⟨_, rfl⟩ hp
    have h1 : recvP v i = recv1 v i := by cases v <;> first | rfl | exact absurd ⟨_, rfl⟩ hp
    obtain ⟨h2, h3⟩ := recv1_plain (i := i) h0
    rw [h1]
    refine ⟨?_, h3⟩
    cases v <;> first | exact h2 | exact absurd ⟨_, rfl⟩ hp
theorem recvT_plain : ∀ (vs : List V) (i : Nat), allB plainQ vs = true → allB plR (recvT vs i).1 = true ∧ rowsP plainP.plainE (recvT vs i).2
  | [], i, _ => ⟨rfl, by intro x hx; cases hx⟩
  | v :: vs, i, h => by
    obtain ⟨h1, h2⟩ := allB_cons h
    obtain ⟨h3, h4⟩ := recvP_plain (i := i) h1
    obtain ⟨h5, h6⟩ := recvT_plain vs (i + 2) h2
    simp only [recvT]
    exact ⟨by simp only [allB, h3, h5], rowsP_append h4 h6⟩
theorem recv_plain {v : V} {i : Nat} (h : plainV v = true) : plRT (recv v i).1 = true ∧ rowsP plainP.plainE (recv v i).2 := by
  by_cases hp : ∃ ps, v = .tup ps
  · obtain ⟨ps, rfl⟩ := hp
    exact recvT_plain ps (i * 100) h
  · have h0 : plainQ v = true := by cases v <;> first | exact h | exact absurd ⟨_, rfl⟩ hp
    have h1 : recv v i = recvP v i := by cases v <;> first | rfl | exact absurd ⟨_, rfl⟩ hp
    obtain ⟨h2, h3⟩ := recvP_plain (i := i) h0
    rw [h1]
    refine ⟨?_, h3⟩
    cases v <;> first | exact h2 | exact absurd ⟨_, rfl⟩ hp
theorem RF_plain {w w' : World} {ok ok' : Nat → Prop} {x : V} {cs : List Value} (hx : plainO x = true) (h : RF w ok x cs) : RF w' ok' x cs := by
  cases x <;> first
    | (simp [plainO] at hx; done)
    | (simp only [RF] at h ⊢; exact h)
theorem RFL_plain {w w' : World} {ok ok' : Nat → Prop} : ∀ (ps : List V) (cs : List Value), allB plainO ps = true → RFL w ok ps cs → RFL w' ok' ps cs
  | [], cs, _, h => by simpa only [RFL] using h
  | p :: ps, cs, hp, h => by
    obtain ⟨h1, h2⟩ := allB_cons hp
    simp only [RFL] at h ⊢
    obtain ⟨a1, b1, h3, h4, h5, h6⟩ := h
    exact ⟨a1, b1, h3, h4, RF_plain h1 h5, RFL_plain ps b1 h2 h6⟩
theorem RFE_plain {w w' : World} {ok ok' : Nat → Prop} {x : V} {cs : List Value} (hx : plainP.plainE x = true) (h : RF w ok x cs) : RF w' ok' x cs := by
  cases x with
  | parts ps => simp only [RF] at h ⊢; exact RFL_plain ps cs hx h
  | _ => first
    | exact RF_plain hx h
theorem RRow_plain {ent ent' : Nat → Ent} {σ σ' : Sg} {w w' : World} {sz : Nat} : ∀ (xs : List V) (cs : List Value), allB plainP.plainE xs = true → RRow ent σ w sz xs cs → RRow ent' σ' w' sz xs cs
  | [], cs, _, h => h
  | x :: xs, cs, hp, h => by
    obtain ⟨h1, h2⟩ := allB_cons hp
    obtain ⟨a1, b1, h3, h4, h5, h6⟩ := h
    exact ⟨a1, b1, h3, h4, RFE_plain h1 h5, RRow_plain xs b1 h2 h6⟩
section
variable {ent' : Nat → Ent} {σ' : Sg}
theorem RO1_plR (ha : ∀ id, ent id ≠ .none → ent' id = ent id ∧ σ' id = σ id) {v : V} {cs : List Value} (hv : plR0 v = true) (h : RO1 E ent σ w v cs) : RO1 E ent' σ' w v cs := by
  cases v with
  | row id =>
    simp only [RO1] at h ⊢
    obtain ⟨u, h1, h2, h3, h4⟩ := h
    obtain ⟨h5, h6⟩ := ha id h3
    exact ⟨u, h1, h2, by rw [h5]; exact h3, fun e xs h7 => by rw [h6]; rw [h5] at h7; exact h4 e xs h7⟩
  | _ => first
    | (simp [plR0, plainO] at hv; done)
    | (simp only [RO1] at h; done)
    | (simp only [RO1] at h ⊢; exact RF_plain hv h)
theorem ROL_plR (ha : ∀ id, ent id ≠ .none → ent' id = ent id ∧ σ' id = σ id) : ∀ (ps : List V) (cs : List Value), allB plR0 ps = true → ROL E ent σ w ps cs → ROL E ent' σ' w ps cs
  | [], cs, _, h => by simpa only [ROL] using h
  | p :: ps, cs, hp, h => by
    obtain ⟨h1, h2⟩ := allB_cons hp
    simp only [ROL] at h ⊢
    obtain ⟨a1, b1, h3, h4, h5⟩ := h
    exact ⟨a1, b1, h3, RO1_plR ha h1 h4, ROL_plR ha ps b1 h2 h5⟩
theorem RTc_plR (ha : ∀ id, ent id ≠ .none → ent' id = ent id ∧ σ' id = σ id) {v : V} {u : Value} (hv : plR v = true) (h : RTc E ent σ w v u) : RTc E ent' σ' w v u := by
  cases v with
  | parts ps => obtain ⟨cs, h1, h2⟩ := h; exact ⟨cs, h1, ROL_plR ha ps _ hv h2⟩
  | ints k n c => exact h
  | _ => exact ⟨h.1, RO1_plR ha hv h.2⟩
theorem RTL_plR (ha : ∀ id, ent id ≠ .none → ent' id = ent id ∧ σ' id = σ id) : ∀ (vs : List V) (us : List Value), allB plR vs = true → RTL E ent σ w vs us → RTL E ent' σ' w vs us
  | [], us, _, h => by simpa only [RTL] using h
  | v :: vs, us, hp, h => by
    obtain ⟨h1, h2⟩ := allB_cons hp
    rw [RTL_cons] at h ⊢
    obtain ⟨u, l, h3, h4, h5⟩ := h
    exact ⟨u, l, h3, RTc_plR ha h1 h4, RTL_plR ha vs l h2 h5⟩
theorem RT_plR (ha : ∀ id, ent id ≠ .none → ent' id = ent id ∧ σ' id = σ id) {v : V} {u : Value} (hv : plRT v = true) (h : RT E ent σ w v u) : RT E ent' σ' w v u := by
  cases v with
  | dead => trivial
  | und => exact h
  | tup vs => obtain ⟨us, h1, h2⟩ := h; exact ⟨us, h1, RTL_plR ha vs _ hv h2⟩
  | _ => (unfold RT at h ⊢; exact RTc_plR ha hv h)
end

/-! ### The operation -/
/-- what goes on from an operation -/
def Goes (E : Env) (keep : Nat → Prop) (w0 : World) (ent : Nat → Ent) (σ : Sg) (w : World) (a : Act) (o : Oper) (v : V) (es : List (Nat × Ent)) (K : Act → World → Prop) : Prop :=
  ∀ u w' σ', HR E keep w0 (updE es ent) σ' w' → Tx ent σ w (updE es ent) σ' w' → σ'.no = σ.no → RT E (updE es ent) σ' w' v u → K (a.put o.dst u) w'
theorem Done.goes {r : Result Next} (h : Done E keep w0 ent σ w r v es) {K : Act → World → Prop} {Q : Exit → Act → World → Prop} (hK : Goes E keep w0 ent σ w a o v es K) : o.upon P a K Q r := by
  obtain ⟨nx, u, w', σ', rfl, h1, h2, h3, h4, h5⟩ := h
  have := hK u w' σ' h2 h3 h4 h5
  rcases h1 with rfl | ⟨rfl, rfl⟩
  · exact this
  · exact this
theorem RTL_append : ∀ (vs ws : List V) (us ts : List Value), RTL E ent σ w vs us → RTL E ent σ w ws ts → RTL E ent σ w (vs ++ ws) (us ++ ts)
  | [], ws, us, ts, h, h' => by simp only [RTL] at h; subst h; simpa using h'
  | v :: vs, ws, us, ts, h, h' => by
    rw [RTL_cons] at h
    obtain ⟨u, l, rfl, h2, h3⟩ := h
    rw [List.cons_append, RTL_cons]
    exact ⟨u, l ++ ts, rfl, h2, RTL_append vs ws l ts h3 h'⟩
theorem mapO_append {α β : Type} {f : α → Option β} : ∀ {xs ys : List α} {l : List β}, mapO f (xs ++ ys) = some l → ∃ l1, mapO f xs = some l1
  | [], ys, l, h => ⟨[], rfl⟩
  | x :: xs, ys, l, h => by
    obtain ⟨y, l', h1, h2, _⟩ := mapO_cons h
    obtain ⟨l1, h3⟩ := mapO_append h2
    exact ⟨y :: l1, by simp only [mapO, h1, h3]⟩
theorem mapO_append2 {α β : Type} {f : α → Option β} : ∀ {xs ys : List α} {l : List β}, mapO f (xs ++ ys) = some l → ∃ l2, mapO f ys = some l2
  | [], ys, l, h => ⟨l, h⟩
  | x :: xs, ys, l, h => by
    obtain ⟨y, l', h1, h2, _⟩ := mapO_cons h
    exact mapO_append2 h2
theorem RTL_len : ∀ (vs : List V) (us : List Value), RTL E ent σ w vs us → vs.length = us.length
  | [], us, h => by simp only [RTL] at h; subst h; rfl
  | v :: vs, us, h => by
    rw [RTL_cons] at h
    obtain ⟨u, l, rfl, h2, h3⟩ := h
    rw [List.length_cons, List.length_cons, RTL_len vs l h3]
theorem RTL_args {a : Act} (hf : FRel E st.ent σ w st a) : ∀ (l : List Operand) (r : List V), mapO (close st) (l.map (st.ev E 0)) = some r → RTL E st.ent σ w (l.map (st.ev E 0)) (l.map a.eval)
  | [], r, h => by simp only [List.map_nil, RTL]
  | x :: l, r, h => by
    rw [List.map_cons] at h
    obtain ⟨y, l', h1, h2, _⟩ := mapO_cons h
    rw [List.map_cons, List.map_cons, RTL_cons]
    exact ⟨_, _, rfl, RTc_of_RT (close_cap h1) (ev_RT hf 0 x), RTL_args hf l l' h2⟩
theorem freeAll_none : ∀ {es : List (Nat × Ent)}, freeAll st es = true → ∀ {id e}, find es id = some e → st.ent id = .none
  | [], _, id, e, h => by simp [find] at h
  | (j, x) :: es, hf, id, e, h => by
    simp only [freeAll] at hf
    split at hf
    · rename_i hn
      simp only [find] at h
      split at h
      · rename_i hb
        rw [← Nat.eq_of_beq_eq_true hb]; exact hn
      · exact freeAll_none hf h
    · cases hf

theorem like_plain : ∀ {xs ys : List V}, likeRows xs ys = true → allB plainP.plainE xs = true ∧ allB plainP.plainE ys = true ∧ ys.length = xs.length ∧ ∀ i y, nth ys i = some y → ∃ x, nth xs i = some x ∧ shps (partsOf x) = shps (partsOf y)
  | [], [], _ => ⟨rfl, rfl, rfl, fun i y h => by cases i <;> simp [nth] at h⟩
  | [], _ :: _, h => by simp [likeRows] at h
  | _ :: _, [], h => by simp [likeRows] at h
  | x :: xs, y :: ys, h => by
    simp only [likeRows, Bool.and_eq_true] at h
    obtain ⟨h1, h2, h3, h4⟩ := like_plain h.2
    have key : plainP.plainE x = true ∧ plainP.plainE y = true ∧ shps (partsOf x) = shps (partsOf y) := by
      have parts : ∀ (ps qs : List V), likeParts ps qs = true → allB plainO ps = true ∧ allB plainO qs = true ∧ shps ps = shps qs := by
        intro ps
        induction ps with
        | nil => intro qs h; cases qs with
          | nil => exact ⟨rfl, rfl, rfl⟩
          | cons q qs => simp [likeParts] at h
        | cons p ps ih =>
          intro qs h
          cases qs with
          | nil => cases p <;> simp [likeParts] at h
          | cons q qs =>
            cases p <;> cases q <;> simp only [likeParts, Bool.and_eq_true, Bool.false_eq_true] at h
            · obtain ⟨h1, h2, h3⟩ := ih qs h.2
              exact ⟨h1, h2, by simp only [shps, List.map_cons] at h3 ⊢; rw [h3]; rfl⟩
            · obtain ⟨h1, h2, h3⟩ := ih qs h.2
              have := Nat.eq_of_beq_eq_true h.1.2
              subst this
              exact ⟨h1, h2, by simp only [shps, List.map_cons] at h3 ⊢; rw [h3]; rfl⟩
      have hl := h.1
      cases x <;> cases y <;> simp only [likeElem, Bool.false_eq_true] at hl
      · exact ⟨rfl, rfl, rfl⟩
      · obtain ⟨k1, k2, k3⟩ := parts _ _ hl
        exact ⟨k1, k2, k3⟩
    refine ⟨by simp only [allB, key.1, h1], by simp only [allB, key.2.1, h2], by simp [h3], fun i z hz => ?_⟩
    cases i with
    | zero => simp only [nth, Option.some.injEq] at hz; subst hz; exact ⟨x, rfl, key.2.2⟩
    | succ i => simp only [nth] at hz ⊢; exact h4 i z hz
/-- the row of a value, in other words -/
theorem rowAt_ROL {ent1 : Nat → Ent} {σ1 : Sg} {e id : Nat} {xs : List V} (hp : ent id = .row e xs) (h1 : ent1 1 = .row e xs) (hs : σ1 1 = σ id) : ∀ (ps : List V) (o o' : Nat) (cs : List Value), ROL E ent σ w ps cs → rowAt ps o = some (o', id) →
    ROL E ent1 σ1 w (putRowL (.row 1) ps) cs ∧ o ≤ o' ∧ cs[o' - o]? = some (σ id) ∧ freshAt (putRowL (.fresh e xs) ps) o = some (o', e, xs)
  | [], o, o', cs, h, hr => by simp [rowAt] at hr
  | p :: ps, o, o', cs, h, hr => by
    simp only [ROL] at h
    obtain ⟨a1, b1, rfl, h2, h3⟩ := h
    by_cases hpr : ∃ i, p = .row i
    · obtain ⟨i, rfl⟩ := hpr
      simp only [rowAt] at hr
      split at hr
      · rename_i hpl
        simp only [Option.some.injEq, Prod.mk.injEq] at hr
        obtain ⟨rfl, rfl⟩ := hr
        simp only [RO1] at h2
        obtain ⟨u, rfl, h4, h5, h6⟩ := h2
        have hu := h6 e xs hp
        subst hu
        refine ⟨?_, Nat.le_refl _, by simp, by simp only [putRowL, freshAt, hpl]⟩
        simp only [putRowL, ROL, RO1]
        refine ⟨[_], b1, rfl, ⟨_, rfl, h4, by rw [h1]; simp, fun e2 xs2 h7 => hs.symm⟩, ?_⟩
        have : ∀ (ps : List V) (cs : List Value), allB plainO ps = true → ROL E ent σ w ps cs → ROL E ent1 σ1 w ps cs := by
          intro ps
          induction ps with
          | nil => intro cs _ h; simpa only [ROL] using h
          | cons q qs ih =>
            intro cs hpl h
            simp only [allB] at hpl
            split at hpl
            · rename_i hq
              simp only [ROL] at h ⊢
              obtain ⟨a2, b2, rfl, h8, h9⟩ := h
              refine ⟨a2, b2, rfl, ?_, ih b2 hpl h9⟩
              cases q <;> simp only [plainO, Bool.false_eq_true] at hq <;> (simp only [RO1] at h8 ⊢; exact RF_plain (by rfl) h8)
            · cases hpl
        exact this ps b1 hpl h3
      · cases hr
    · have hr' : plainO p = true ∧ rowAt ps (o + vsize1 p) = some (o', id) := by
        cases p <;> first
          | (simp only [rowAt] at hr; split at hr; · rename_i hq; exact ⟨hq, hr⟩
             · cases hr)
          | exact absurd ⟨_, rfl⟩ hpr
      obtain ⟨hq, hr⟩ := hr'
      obtain ⟨k1, k2, k3, k4⟩ := rowAt_ROL hp h1 hs ps (o + vsize1 p) o' b1 h3 hr
      have hlen := RO1_len p a1 h2
      have hput : ∀ r, putRowL r (p :: ps) = p :: putRowL r ps := by
        intro r
        cases p <;> first | rfl | simp [plainO] at hq
      have hfr : freshAt (p :: putRowL (.fresh e xs) ps) o = freshAt (putRowL (.fresh e xs) ps) (o + vsize1 p) := by
        cases p <;> first | (simp only [freshAt, plainO]; done) | simp [plainO] at hq
      refine ⟨?_, by omega, ?_, by rw [hput, hfr]; exact k4⟩
      · rw [hput]
        simp only [ROL]
        refine ⟨a1, b1, rfl, ?_, k1⟩
        cases p <;> simp only [plainO, Bool.false_eq_true] at hq <;> (simp only [RO1] at h2 ⊢; exact RF_plain (by rfl) h2)
      · rw [List.getElem?_append_right (by omega), hlen, show o' - o - vsize1 p = o' - (o + vsize1 p) by omega]
        exact k3
theorem rowIn_RT {ent1 : Nat → Ent} {σ1 : Sg} {e id o : Nat} {xs : List V} {u : Value} (hp : ent id = .row e xs) (h1 : ent1 1 = .row e xs) (hs : σ1 1 = σ id) (h : RT E ent σ w v u) (hr : rowIn v = some (o, id)) :
    RT E ent1 σ1 w (putRow (.row 1) v) u ∧ u.cells.toList[o]? = some (σ id) ∧ freshIn (putRow (.fresh e xs) v) = some (o, e, xs) := by
  unfold rowIn at hr
  cases v with
  | parts ps =>
    obtain ⟨cs, rfl, h2⟩ := h
    obtain ⟨k1, k2, k3, k4⟩ := rowAt_ROL hp h1 hs ps 0 o cs.toList h2 hr
    exact ⟨⟨cs, rfl, k1⟩, by simpa [Value.cells] using k3, k4⟩
  | row i =>
    simp only [partsOf, rowAt, allB, Option.some.injEq, Prod.mk.injEq] at hr
    obtain ⟨rfl, rfl⟩ := hr
    have h2 : RO1 E ent σ w (.row i) [u] := h.2
    simp only [RO1] at h2
    obtain ⟨u', h3, h4, h5, h6⟩ := h2
    simp only [List.cons.injEq, and_true] at h3
    subst h3
    have hu := h6 e xs hp
    subst hu
    refine ⟨⟨h.1, ?_⟩, ?_, rfl⟩
    · show RO1 E ent1 σ1 w (.row 1) _
      simp only [RO1]
      exact ⟨_, rfl, h.1, by rw [h1]; simp, fun _ _ _ => hs.symm⟩
    · have ho : (σ i).oneCell' = true := h.1
      have : (σ i).cells.toList = [σ i] := by generalize σ i = y at ho; cases y <;> first | rfl | simp [Value.oneCell'] at ho
      rw [this]; rfl
  | _ => simp [partsOf, rowAt, plainO] at hr
theorem op_mark (hE : EnvOk E P) (hcall : CallsOk P E call) (hr : HR E keep w0 st.ent σ w) (hf : FRel E st.ent σ w st a) (c : Call) (x : Operand) (hc : c.callee = .value x) (ho : o.op = .call c) {g : Nat} (hg : st.ev E 0 x = .clo g []) {y z : Operand} (hargs : c.args.toList = [y, z])
    {oo i e : Nat} {k k' : IntKind} {n m : Int} {xs xs' : List V} {e' : Nat} (h1 : rowIn (st.ev E 0 y) = some (oo, i)) (h2 : st.ev E 0 z = .int k n) (h3 : st.ent i = .row e xs) (h4 : call (muBase + g) [putRow (.fresh e xs) (st.ev E 0 y), .int k n] = some (.tup [.int k' m, .fresh e' xs']))
    (h5 : e' = e) (h6 : likeRows xs xs' = true) {K : Act → World → Prop} {Q : Exit → Act → World → Prop} (hK : Goes E keep w0 st.ent σ w a o (.int k' m) [(i, .row e xs')] K) : o.upon P a K Q ((execOp a.eval o).run P w) := by
  subst h5
  have hx := ev_RT (E := E) hf 0 x
  have hy := ev_RT (E := E) hf 0 y
  have hz := ev_RT (E := E) hf 0 z
  rw [hg] at hx
  rw [h2] at hz
  have ez := RT_int hz
  have hx2 : RO1 E st.ent σ w (.clo g []) [a.eval x] := hx.2
  simp only [RO1, RTL] at hx2
  obtain ⟨cv, e1, e2⟩ := hx2
  subst e2
  simp only [List.cons.injEq, and_true] at e1
  replace e1 : a.eval x = .func (.func g) #[] #[] := e1
  have hbl : Nat.blt (muBase + g) muBase = false := by
    cases hb : Nat.blt (muBase + g) muBase with
    | false => rfl
    | true => have := Nat.blt_eq.mp hb; omega
  obtain ⟨⟨fn, hfn, hbody⟩, a0, q0, n0, o0, e0, xs0, q1, m1, e3, xs1, ha, hfr, hres, hcalls⟩ := (hcall _ _ _ h4).2 hbl
  rw [Nat.add_sub_cancel_left] at hfn hcalls
  simp only [List.cons.injEq, V.int.injEq, and_true] at ha
  obtain ⟨ha, rfl, rfl⟩ := ha
  simp only [V.tup.injEq, List.cons.injEq, V.int.injEq, V.fresh.injEq, and_true] at hres
  obtain ⟨⟨rfl, rfl⟩, rfl, rfl⟩ := hres
  subst ha
  have hen := hr.ents i
  unfold EntR at hen
  rw [h3] at hen
  obtain ⟨cells, c1, c2, c3⟩ := hen
  obtain ⟨p1, p2, p3, p4⟩ := like_plain h6
  have hfr2 := (rowIn_RT (ent1 := fun j => if j = 1 then .row e' xs else .none) (σ1 := ⟨fun _ => σ i, σ.no⟩) h3 (by simp) rfl hy h1).2.2
  rw [hfr2] at hfr
  simp only [Option.some.injEq, Prod.mk.injEq] at hfr
  obtain ⟨rfl, rfl, rfl⟩ := hfr
  have hbody : fn.body ≠ none := by cases hb : fn.body <;> simp [hb] at hbody ⊢
  have hname : fn.name ≠ "runtime.NumGoroutine" := by have := hE.num g fn hfn; simpa using this
  have hargs2 : c.args = #[y, z] := by apply Array.ext'; simpa using hargs
  have hrun : (execOp a.eval o).run P w = .ok (.enter g #[a.eval y, .int k n]) w := by
    simp [execOp, ho, hc, resolve, e1, Deferred.ofValue, invoke, callFunc, hfn, hname, hbody, hargs2, ez]
  rw [hrun, Oper.upon_enter]
  have hput : ∀ (x : V) (r r' : V), (∀ ps, putRowL r (putRowL (.fresh e' xs) ps) = putRowL r ps) := by
    intro x r r' ps
    induction ps with
    | nil => rfl
    | cons p ps ih => cases p <;> first | rfl | (simp only [putRowL]; rw [ih])
  have hput2 : putRow (.row 1) (putRow (.fresh e' xs) (st.ev E 0 y)) = putRow (.row 1) (st.ev E 0 y) := by
    cases st.ev E 0 y <;> first | rfl | (simp only [putRow]; rw [hput (.row 1) (.row 1) (.row 1)])
  refine Calls.mono (hcalls w (a.eval y) (σ i) cells (fun ent1 σ1 k1 k2 => ?_) (rowIn_RT (ent1 := fun j => if j = 1 then .row e' xs else .none) (σ1 := ⟨fun _ => σ i, σ.no⟩) h3 (by simp) rfl hy h1).2.1 c1 (fun ent1 σ1 w1 => RRow_plain _ _ p1 c2)) fun en w' he => ?_
  · rw [hput2]
    exact (rowIn_RT h3 k1 k2 hy h1).1
  cases en with
  | panicked chain => exact he.elim
  | outgrown => exact he.elim
  | returned u =>
    simp only at he ⊢
    obtain ⟨rfl, hkept, ent1, σ1, cells', d1, d2⟩ := he
    have hlive : (st.ent i).live = true := by rw [h3]; rfl
    have hchg : Chg st.ent σ w [(i, .row e' xs')] σ w' := by
      refine ⟨hkept.os, hkept.tape, hkept.output, hkept.size, rfl, fun _ _ => rfl, ?_, ?_, ?_, ?_, ?_, ?_, ?_⟩
      · intro k hk hn
        exact hkept.block k ⟨hk, hn i _ find_self hlive⟩
      · intro id ee b hfi hl hb
        obtain ⟨rfl, rfl⟩ := find_one hfi
        exact .inr ⟨_, _, find_self, hlive, hb⟩
      · intro p q ep eq b hpq hp hq
        obtain ⟨rfl, _⟩ := find_one hp
        obtain ⟨rfl, _⟩ := find_one hq
        exact absurd rfl hpq
      · intro id ee hfi
        obtain ⟨rfl, rfl⟩ := find_one hfi
        simp
      · intro id ps hfi
        obtain ⟨_, h⟩ := find_one hfi
        cases h
      · intro id ee xs2 hfi _
        obtain ⟨rfl, h⟩ := find_one hfi
        simp only [Ent.row.injEq] at h
        obtain ⟨rfl, rfl⟩ := h
        exact ⟨xs, h3, p3, p4, rfl⟩
      · intro id ks vs hfi
        obtain ⟨_, h⟩ := find_one hfi
        cases h
    refine hK _ w' σ (hchg.hr hr fun id ee hfi => ?_) (hchg.tx hr) rfl (RT_mkint _ _)
    obtain ⟨rfl, rfl⟩ := find_one hfi
    unfold EntR
    rw [updE_some hfi]
    exact ⟨cells', d1, RRow_plain _ _ p2 d2, c3⟩

theorem op_call (hE : EnvOk E P) (hcall : CallsOk P E call) (hr : HR E keep w0 st.ent σ w) (hf : FRel E st.ent σ w st a) (c : Call) (x : Operand) (hc : c.callee = .value x) (ho : o.op = .call c) (h : (stepOp E call o st).eval = some (v, es))
    {K : Act → World → Prop} {Q : Exit → Act → World → Prop} (hK : Goes E keep w0 st.ent σ w a o v es K) : o.upon P a K Q ((execOp a.eval o).run P w) := by
  have hx := ev_RT (E := E) hf 0 x
  simp only [stepOp, ho, hc] at h
  split at h
  · rename_i g caps hg
    split at h
    · simp [Tr.eval] at h
    · split at h
      · rename_i y z hargs hkk
        split at h
        · rename_i oo i k n h1 h2
          split at h
          · rename_i e xs h3
            unfold Tr.eval at h
            split at h
            · rename_i r hr0
              simp only [] at h
              split at h
              · rename_i k' m e' xs'
                split at h
                · rename_i hb
                  simp only [Tr.eval] at h
                  split at h
                  · rename_i hl
                    simp only [Option.some.injEq, Prod.mk.injEq] at h
                    obtain ⟨rfl, rfl⟩ := h
                    exact op_mark hE hcall hr hf c x hc ho hg hargs h1 h2 h3 hr0 (Nat.eq_of_beq_eq_true hb) hl hK
                  · cases h
                · simp [Tr.eval] at h
              · simp [Tr.eval] at h
            · cases h
          · simp [Tr.eval] at h
        · simp [Tr.eval] at h
      · simp [Tr.eval] at h
    rename_i hmu
    replace hmu := callKind_blt hmu
    rw [hg] at hx
    split at h
    · rename_i avs havs
      unfold Tr.eval at h
      split at h
      · rename_i r hr0
        simp only [] at h
        split at h
        · rename_i hfree hnd
          have hpl : (allB forV (ordL g (c.args.toList.map (st.ev E 0)) caps) || plainV r) = true ∧ (recv r (ownId o)).1 = v ∧ (recv r (ownId o)).2 = es := by
            split at h
            · rename_i hall
              simp only [Tr.eval, Option.some.injEq, Prod.mk.injEq] at h
              exact ⟨by rw [hall]; rfl, h.1, h.2⟩
            · simp only [Tr.eval] at h
              split at h
              · rename_i hp
                simp only [Option.some.injEq, Prod.mk.injEq] at h
                exact ⟨by rw [hp, Bool.or_true], h.1, h.2⟩
              · cases h
          obtain ⟨hpl, hv, hes⟩ := hpl
          have hx2 : RO1 E st.ent σ w (.clo g caps) [a.eval x] := hx.2
          simp only [RO1] at hx2
          obtain ⟨cv, h1, h2⟩ := hx2
          simp only [List.cons.injEq, and_true] at h1
          have hblt : Nat.blt (gOf g caps) muBase = true := hmu
          obtain ⟨⟨fn, hfn, hbody⟩, hcalls⟩ := (hcall (gOf g caps) avs r hr0).1 hblt
          have hbody : fn.body ≠ none := by cases hb : fn.body <;> simp [hb] at hbody ⊢
          have hname : fn.name ≠ "runtime.NumGoroutine" := by have := hE.num (gOf g caps) fn hfn; simpa using this
          obtain ⟨fs, cs, hclo, hord⟩ := clo_call g (RTL_len _ _ h2)
          rw [hclo] at h1
          have hrun : (execOp a.eval o).run P w = .ok (.enter (gOf g caps) (fs.toArray ++ c.args.map a.eval ++ cs.toArray)) w := by
            simp [execOp, ho, hc, resolve, h1, Deferred.ofValue, invoke, callFunc, hfn, hname, hbody]
          rw [hrun]
          have hargs : RTL E st.ent σ w (ordL g (c.args.toList.map (st.ev E 0)) caps) (ordL g (c.args.toList.map a.eval) cv) := by
            unfold ordL at havs ⊢
            cases hb : Nat.blt g thBase with
            | true =>
              simp only [hb] at havs ⊢
              obtain ⟨l1, hl1⟩ := mapO_append havs
              exact RTL_append _ _ _ _ (RTL_args hf _ _ hl1) h2
            | false =>
              simp only [hb] at havs ⊢
              obtain ⟨l1, hl1⟩ := mapO_append2 havs
              exact RTL_append _ _ _ _ h2 (RTL_args hf _ _ hl1)
          have hus : (fs.toArray ++ c.args.map a.eval ++ cs.toArray) = (ordL g (c.args.toList.map a.eval) cv).toArray := by
            rw [hord]; apply Array.ext'; simp
          rw [hus]
          -- what the callee may not lead to
          have main : ∀ no : Nat → Prop, (∀ b, no b → b < w.heap.size) → (∀ b, σ.no b → no b) → RFC w (okN no w) avs (ordL g (c.args.toList.map a.eval) cv) →
              (∀ w' σ1, σ1.no = no → HR E (fun b => b < w.heap.size) w (updE (recv r (ownId o)).2 ent0) σ1 w' → ∀ σ' : Sg, σ'.no = σ.no → (∀ id, find es id = none → σ' id = σ id) → (∀ id e, find es id = some e → σ' id = σ1 id) →
                (∀ id e, find es id = some e → EntR E (updE es ent0) σ1 w' (fun b => b < w.heap.size) id → (∃ cells, w'.ownsRow 0 (match e with | .row e' _ => e' | _ => 0) (E.sz (match e with | .row e' _ => e' | _ => 0)) (σ1 id) (match e with | .row _ xs => xs.length | _ => 0) cells ∧ (match e with | .row e' xs => RRow (updE es st.ent) σ' w' (E.sz e') xs cells | _ => True))) ∧
                (∀ u, RT E (updE es ent0) σ1 w' (recv r (ownId o)).1 u → RT E (updE es st.ent) σ' w' (recv r (ownId o)).1 u)) →
              o.upon P a K Q (.ok (.enter (gOf g caps) (ordL g (c.args.toList.map a.eval) cv).toArray) w) := by
            intro no hno hsub hrfc hmove
            rw [Oper.upon_enter]
            refine Calls.mono (hcalls no w _ hno hrfc) fun e w' he => ?_
            cases e with
            | panicked chain => exact he.elim
            | outgrown => exact he.elim
            | returned u =>
              simp only at he ⊢
              obtain ⟨σ1, hs1, hh1, hrt⟩ := he (ownId o) hnd
              let σ' : Sg := ⟨fun id => match find es id with | some _ => σ1 id | none => σ id, σ.no⟩
              have hsn : ∀ id, find es id = none → σ' id = σ id := fun id h => by show (match find es id with | some _ => σ1 id | none => σ id) = _; rw [h]
              have hss : ∀ id e, find es id = some e → σ' id = σ1 id := fun id e h => by show (match find es id with | some _ => σ1 id | none => σ id) = _; rw [h]
              obtain ⟨hm1, hm2⟩ := hmove w' σ1 hs1 hh1 σ' rfl hsn hss
              rw [hes] at hh1
              have hlive : ∀ id e, find es id = some e → (updE es ent0 id).live = true ∧ updE es ent0 id = e ∧ ∃ e' xs, e = .row e' xs := by
                intro id e h
                rw [← hes] at h
                obtain ⟨e', xs, h3⟩ := recv_row h
                rw [hes] at h
                rw [updE_some h, h3]
                exact ⟨rfl, rfl, e', xs, rfl⟩
              have hge : ∀ id e b, find es id = some e → blk (σ1 id) = some b → w.heap.size ≤ b := by
                intro id e b h1 h2
                exact Nat.le_of_not_lt (EntR_blk (hh1.ents id) (hlive id e h1).1 h2).1
              have hfree' : ∀ id e, find es id = some e → st.ent id = .none := fun id e h => freeAll_none (by rw [← hes]; exact hfree) h
              have hchg : Chg st.ent σ w es σ' w' := by
                refine ⟨hh1.kept.os, hh1.kept.tape, hh1.kept.output, hh1.kept.size, rfl, hsn, fun k hk _ => hh1.kept.block k hk, ?_, ?_, ?_, ?_, ?_, ?_⟩
                · intro id e b h1 _ h2
                  rw [hss id e h1] at h2
                  exact .inl (hge id e b h1 h2)
                · intro i j e e' b hij hi hj _ _ h1 h2
                  rw [hss i e hi] at h1
                  rw [hss j e' hj] at h2
                  exact hh1.dist i j b hij (hlive i e hi).1 (hlive j e' hj).1 h1 h2
                · intro id e h1
                  obtain ⟨_, _, e', xs, h3⟩ := hlive id e h1
                  rw [h3]; simp
                · intro id ps h1 h2; exact absurd (hfree' id _ h1) h2
                · intro id e xs h1 h2; exact absurd (hfree' id _ h1) h2
                · intro id ks vs h1 h2; exact absurd (hfree' id _ h1) h2
              refine hK u w' σ' (hchg.hr hr fun id e h1 => ?_) (hchg.tx hr) rfl (by rw [← hv]; exact hm2 u (by rw [← hes]; exact hrt))
              obtain ⟨_, h2, e', xs, h3⟩ := hlive id e h1
              obtain ⟨cells, h4, h5⟩ := hm1 id e h1 (hh1.ents id)
              subst h3
              unfold EntR
              rw [updE_some h1]
              refine ⟨cells, by rw [hss id _ h1]; exact h4, h5, fun b hb hk => ?_⟩
              rw [hss id _ h1] at hb
              have := hge id _ b h1 hb
              have := hr.klt b hk
              have := hr.kept.size
              omega
          -- rows of the callee's, in the caller's words
          have rowOf : ∀ (w' : World) (σ1 : Sg) id e, find es id = some e → EntR E (updE es ent0) σ1 w' (fun b => b < w.heap.size) id → ∃ e' xs cells, e = .row e' xs ∧ w'.ownsRow 0 e' (E.sz e') (σ1 id) xs.length cells ∧ RRow (updE es ent0) σ1 w' (E.sz e') xs cells := by
            intro w' σ1 id e h1 h2
            have h1' := h1
            rw [← hes] at h1'
            obtain ⟨e', xs, rfl⟩ := recv_row h1'
            unfold EntR at h2
            rw [updE_some h1] at h2
            obtain ⟨cells, h3, h4, _⟩ := h2
            exact ⟨e', xs, cells, rfl, h3, h4⟩
          rw [Bool.or_eq_true] at hpl
          rcases hpl with hpl | hpl
          · -- only foreign values are handed on
            refine main (fun b => σ.no b ∨ ∃ id, (st.ent id).live = true ∧ blk (σ id) = some b) ?_ (fun b h => .inl h) ?_ ?_
            · intro b hb
              rcases hb with hb | ⟨id, hl, hb⟩
              · exact Nat.lt_of_lt_of_le (hr.nlt b hb) hr.kept.size
              · exact (EntR_blk (hr.ents id) hl hb).2
            · refine closeA_sound hr ?_ _ _ _ (.inr hpl) hargs havs
              intro b hb
              refine ⟨⟨hb.1, ?_⟩, rfl⟩
              rintro (h | ⟨id, hl, h⟩)
              · exact hb.2.2 h
              · exact hb.2.1 id hl h
            · intro w' σ1 hs1 hh1 σ' hno hsn hss
              rw [hes] at hh1
              have htx : Tx (updE es ent0) σ1 w' (updE es st.ent) σ' w' := by
                have hin : ∀ id, updE es ent0 id ≠ .none → ∃ e, find es id = some e := by
                  intro id h
                  cases hfd : find es id with
                  | none => rw [updE_none hfd] at h; exact absurd rfl h
                  | some e => exact ⟨e, rfl⟩
                refine ⟨?_, ?_, ?_, ?_, ?_⟩
                · intro id h
                  obtain ⟨e, he⟩ := hin id h
                  rw [updE_some he] at h ⊢; exact h
                · intro id ps h h'
                  obtain ⟨e, he⟩ := hin id h
                  rw [updE_some he] at h' ⊢
                  exact ⟨ps, h', rfl, hss id e he⟩
                · intro id e1 xs h h'
                  obtain ⟨e, he⟩ := hin id h
                  rw [updE_some he] at h' ⊢
                  exact ⟨xs, h', rfl, fun i x hx => ⟨x, hx, rfl⟩, hss id e he⟩
                · intro id ks vs h h'
                  obtain ⟨e, he⟩ := hin id h
                  rw [updE_some he] at h' ⊢
                  exact ⟨⟨ks, vs, h'⟩, hss id e he⟩
                · intro b ⟨h1, h2, h3⟩
                  rw [hs1] at h3
                  refine ⟨⟨h1, fun id hl hb => ?_, by rw [hno]; exact fun h => h3 (.inl h)⟩, rfl⟩
                  cases hfd : find es id with
                  | none =>
                    rw [updE_none hfd] at hl
                    rw [hsn id hfd] at hb
                    exact h3 (.inr ⟨id, hl, hb⟩)
                  | some e =>
                    rw [updE_some hfd] at hl
                    rw [hss id e hfd] at hb
                    exact h2 id (by rw [updE_some hfd]; exact hl) hb
              refine ⟨fun id e h1 h2 => ?_, fun u hu => RT_move htx _ _ hu⟩
              obtain ⟨e', xs, cells, rfl, h3, h4⟩ := rowOf w' σ1 id e h1 h2
              exact ⟨cells, h3, RRow_move htx.ok _ _ h4⟩
          · -- a plain result
            refine main σ.no (fun b hb => Nat.lt_of_lt_of_le (hr.nlt b hb) hr.kept.size) (fun b h => h) ?_ ?_
            · refine closeA_sound hr ?_ _ _ _ (.inl ?_) hargs havs
              · intro b hb
                exact ⟨⟨hb.1, hb.2.2⟩, rfl⟩
              · intro id b hl hb
                exact ⟨(EntR_blk (hr.ents id) hl hb).2, hr.nown id b hl hb⟩
            · intro w' σ1 hs1 hh1 σ' hno hsn hss
              obtain ⟨hp1, hp2⟩ := recv_plain (i := ownId o) hpl
              refine ⟨fun id e h1 h2 => ?_, fun u hu => RT_plR ?_ hp1 hu⟩
              · obtain ⟨e', xs, cells, rfl, h3, h4⟩ := rowOf w' σ1 id e h1 h2
                rw [← hes] at h1
                obtain ⟨e2, xs2, h5, h6⟩ := hp2 _ (find_mem h1)
                simp only [Ent.row.injEq] at h5
                obtain ⟨rfl, rfl⟩ := h5
                exact ⟨cells, h3, RRow_plain _ _ h6 h4⟩
              · intro id h
                cases hfd : find es id with
                | none => rw [updE_none hfd] at h; exact absurd rfl h
                | some e => exact ⟨by rw [updE_some hfd, updE_some hfd], hss id e hfd⟩
        · simp [Tr.eval] at h
      · cases h
    · simp [Tr.eval] at h
  · simp [Tr.eval] at h
end
end Go.Proofs.Ytlnpblomnlppiaa
