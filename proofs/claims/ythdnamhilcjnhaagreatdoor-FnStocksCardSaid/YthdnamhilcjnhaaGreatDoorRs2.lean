/- Operations that touch no memory, and loads: what the abstract interpreter says of them is so. -/
import Derived.Test.YthdnamhilcjnhaaGreatDoorRs1
import Derived.Test.YthdnamhilcjnhaaGreatDoorRq0
import Derived.Maps.Keyed
import Derived.RangeFuncNested
import Derived.RangeFuncLeaves
namespace Go.Proofs.YthdnamhilcjnhaaGreatDoor
open Go Go.RowKit
set_option linter.unusedVariables false
set_option linter.unusedSimpArgs false
def tyD : Ty → TypeDesc → Prop
 | .int k, .int k' => k' = k
 | .bool, .bool => True
 | .str, .string => True
 | .ptr e, .pointer e' => e' = e
 | .sl e, .slice e' => e' = e
 | .arr n e, .array n' e' => n' = n ∧ e' = e
 | .st fs, .struct fields => fields.toList.map (fun f => (f.offset, f.type)) = fs
 | .fn, .func _ _ _ => True
 | .mp k e, .map k' e' => k' = k ∧ e' = e
 | _, _ => False
def PairsAt (k1 k2 : IntKind) (w : World) (sv : Value) (l : List (Int × Int)) : Prop :=
 ∃ A cap, sv = .slice A l.length cap ∧ l.length ≤ maxLen ∧ (l = [] ∨ ∃ b o, A = some ⟨b, o, none⟩ ∧ ∀ j, j < l.length → w.cell? ⟨b, o + 2 * j, none⟩ = some (.int k1 (l.getD j (0, 0)).1) ∧ w.cell? ⟨b, o + 2 * j + 1, none⟩ = some (.int k2 (l.getD j (0, 0)).2))
def BwOk (P : Program) (g : Nat) (k1 k2 : IntKind) : Prop :=
 (∀ args w, (callFunc g args).run P w = .ok (.enter g args) w) ∧
 ∀ (m l Bs Bo : Nat) (lst : List (Int × Int)) (J : Nat → World → Prop) (W : World),
  (∀ k W1, J k W1 → ∃ sv, W1.cell? ⟨Bs, Bo, none⟩ = some sv ∧ PairsAt k1 k2 W1 sv lst) →
  (∀ k W1, k < lst.length → J k W1 → YieldAt Fence.wide m P l #[.int .i64 ((lst.length - 1 - k : Nat) : Int), .agg #[.int k1 (lst.getD (lst.length - 1 - k) (0, 0)).1, .int k2 (lst.getD (lst.length - 1 - k) (0, 0)).2]] W1 fun e W' => e = .returned (.bool true) ∧ J (k + 1) W') →
  J 0 W → CallsIn Fence.wide (m + 1) P g #[.func (.yield l) #[] #[], .pointer (some ⟨Bs, Bo, none⟩)] W fun e W' => (∃ v, e = .returned v) ∧ J lst.length W'
def updE (es : List (Nat × Ent)) (ent : Nat → Ent) : Nat → Ent := fun id => match find es id with
 | some e => e
 | none => ent id
def okN (no : Nat → Prop) (w : World) (b : Nat) : Prop := b < w.heap.size ∧ ¬ no b
def ent0 : Nat → Ent := fun _ => .none
def ResR (E : Env) (no : Nat → Prop) (w w' : World) (r : V) (u : Value) : Prop :=
 ∀ i, nodupN ((recv r i).2.map (·.1)) = true → ∃ σ' : Sg, σ'.no = no ∧ HR E (fun b => b < w.heap.size) w (updE (recv r i).2 ent0) σ' w' ∧ RT E (updE (recv r i).2 ent0) σ' w' (recv r i).1 u
def FunOk (P : Program) (E : Env) (f : Nat) (avs : List V) (r : V) : Prop :=
 (∃ fn, P.funcs[f]? = some fn ∧ fn.body.isSome = true) ∧ ∀ (no : Nat → Prop) (w : World) (us : List Value), (∀ b, no b → b < w.heap.size) → RFC w (okN no w) avs us →
  Calls P f us.toArray w fun e w' => match e with
   | .returned u => ResR E no w w' r u
   | _ => False
structure EnvOk (E : Env) (P : Program) : Prop where
 ty : ∀ t ty, E.ty t = some ty → ∃ d i z, P.underlying t = some d ∧ tyD ty.d d ∧ P.info? t = some i ∧ i.size = ty.size ∧ i.bytes = ty.bytes ∧ i.zero = some z ∧ z.cells.size = ty.size ∧
  (∀ w ok, RFL w ok ty.zero z.cells.toList) ∧ (isAggTy ty.d = true → z = .agg z.cells) ∧ (isAggTy ty.d = false → z.oneCell' = true) ∧ (∀ n e, ty.d = .arr n e → ty.size = n * E.sz e ∧ (E.ty e).isSome = true) ∧ (∀ fs, ty.d = .st fs → ∀ f, f ∈ fs → (E.ty f.2).isSome = true)
 eqa : ∀ t ty, E.ty t = some ty → ty.eq = true → isAggTy ty.d = true → ∀ (tr : List (IntKind × Int × Int)) (xs ys : Array Value), tr.length = ty.size → xs.toList = lefts tr → ys.toList = rights tr → ∀ w, (Op.equal t (.agg xs) (.agg ys)).run P w = .ok (sames tr) w ∧ P.eqGuardType P.depth t = false
 key : ∀ kt kd, E.kd kt = some kd → Maps.Keyed P kt ∧ ∀ ns, wfs kd.2 ns = true → ∃ l, keyOf P kt (keyVal kd ns) = some l
 zb : ∀ t ty, E.ty t = some ty → ty.d = .bool → ∀ w, (zeroValue t).run P w = .ok (.bool false) w
 mixed : P.follows .mixedOrders = true
 fl : ∀ (f : Nat) (fn : Func), nth E.fl f = some fn → P.funcs[f]? = some fn
 num : ∀ (f : Nat) (fn : Func), P.funcs[f]? = some fn → (fn.name == "runtime.NumGoroutine") = false
 bw : ∀ (g : Nat) (F : FnI) (ks : IntKind × IntKind), find E.fi g = some F → F.bw = some ks → BwOk P g ks.1 ks.2
 pr : ∀ (f : Nat) (p : List V → Option V) (avs : List V) (r : V), find E.pr f = some p → p avs = some r → FunOk P E f avs r
section
variable (E : Env) (P : Program) (keep : Nat → Prop) (w0 : World) (ent : Nat → Ent) (σ : Sg) (w : World)
def Done (r : Result Next) (v : V) (es : List (Nat × Ent)) : Prop := ∃ nx u w' σ', r = .ok nx w' ∧ (nx = .value u ∨ (nx = .skip ∧ u = undef)) ∧
 HR E keep w0 (updE es ent) σ' w' ∧ Tx ent σ w (updE es ent) σ' w' ∧ σ'.no = σ.no ∧ RT E (updE es ent) σ' w' v u
end
section
variable {E : Env} {P : Program} {keep : Nat → Prop} {w0 : World} {ent : Nat → Ent} {σ : Sg} {w : World}
theorem Done.pure (hr : HR E keep w0 ent σ w) {r : Result Next} {v : V} {u : Value} (h : r = .ok (.value u) w) (hu : RT E ent σ w v u) : Done E keep w0 ent σ w r v [] :=
 ⟨_, u, w, σ, h, .inl rfl, hr, Tx.refl _ _ _, rfl, hu⟩
theorem RT_int {k : IntKind} {n : Int} {u : Value} (h : RT E ent σ w (.int k n) u) : u = .int k n := by
 have := h.2; simpa [RO1, RF] using this
theorem RT_bool {b : Bool} {u : Value} (h : RT E ent σ w (.bool b) u) : u = .bool b := by
 have := h.2; simpa [RO1, RF] using this
theorem RT_mkint (k : IntKind) (n : Int) : RT E ent σ w (.int k n) (.int k n) := ⟨rfl, by simp [RO1, RF]⟩
theorem RT_mkbool (b : Bool) : RT E ent σ w (.bool b) (.bool b) := ⟨rfl, by simp [RO1, RF]⟩
theorem scal_RF {ok : Nat → Prop} {v : Value} {x : V} (h : scal v = some x) : oneV x = true ∧ RF w ok x [v] ∧ v.oneCell' = true := by
 cases v with
 | slice a l c =>
  cases a with
  | none => cases l <;> cases c <;> simp [scal] at h <;> (subst h; simp [oneV, RF, Value.oneCell'])
  | some a => simp [scal] at h
 | pointer a => cases a <;> simp [scal] at h <;> (subst h; simp [oneV, RF, Value.oneCell'])
 | map a => cases a <;> simp [scal] at h <;> (subst h; simp [oneV, RF, Value.oneCell'])
 | _ => simp [scal] at h <;> (subst h; simp [oneV, RF, Value.oneCell'])
theorem zeros_eq {k : IntKind} : ∀ (n : Nat) (vs vs' : List Value), zeros k vs n = some vs' → vs = (List.range n).map (fun _ => Value.int k 0) ++ vs'
 | 0, vs, vs', h => by cases vs <;> simpa [zeros] using h
 | n + 1, [], vs', h => by simp [zeros] at h
 | n + 1, v :: vs, vs', h => by
  unfold zeros at h
  split at h
  ·rename_i h0; cases h0
  ·rename_i k' vs1 m h1 h2
   cases h1
   cases h2
   split at h
   ·rename_i hk
    have hk : k' = k := of_decide_eq_true hk
    subst hk
    have := zeros_eq n vs vs' h
    rw [this, List.range_succ_eq_map]
    simp
   ·cases h
  ·cases h
theorem pack_RFL {ok : Nat → Prop} : ∀ (sh : List V) (vs : List Value) (ps : List V), pack sh vs = some ps → RFL w ok ps vs := by
 intro sh
 induction sh with
 | nil =>
  intro vs ps h
  cases vs with
  | nil => simp only [pack, Option.some.injEq] at h; subst h; simp [RFL]
  | cons v vs => simp [pack] at h
 | cons x sh ih =>
  intro vs ps h
  unfold pack at h
  split at h
  ·exact absurd ‹x :: sh = []› (by simp)
  ·rename_i k n c sh1 h1
   cases h1
   split at h
   ·rename_i vs' hz
    split at h
    ·rename_i l hl
     simp only [Option.some.injEq] at h
     subst h
     rw [zeros_eq n _ vs' hz]
     simp only [RFL]
     exact ⟨_, _, rfl, rfl, by simp [RF], ih _ _ hl⟩
    ·cases h
   ·cases h
  ·rename_i sh1 v vs1 _ h1
   cases h1
   split at h
   ·rename_i x l h2 h3
    simp only [Option.some.injEq] at h
    subst h
    obtain ⟨h4, h5, _⟩ := scal_RF (w := w) (ok := ok) h2
    simp only [RFL]
    refine ⟨[v], vs1, rfl, ?_, h5, ih _ _ h3⟩
    cases x <;> first | rfl | simp [oneV] at h4
   ·cases h
  ·cases h
theorem scal_RT {v : Value} {x : V} (h : scal v = some x) : RT E ent σ w x v := by
 obtain ⟨h1, h2, h3⟩ := scal_RF (w := w) (ok := okB ent σ w) h
 refine RT_of_one h1 ?_
 refine RO1_of_RF _ _ ?_ h2
 cases x <;> first | rfl | simp [oneV] at h1
theorem ofConst_RT (t : Nat) (v : Value) : RT E ent σ w (ofConst E t v) v := by
 unfold ofConst
 split
 ·rename_i cs
  split
  ·rename_i ty _
   split
   ·rename_i ps hp
    have h1 := pack_RFL (w := w) (ok := okB ent σ w) _ _ _ hp
    split
    ·split
     ·rename_i k n c
      simp only [RFL] at h1
      obtain ⟨a, b, h2, _, h3, h4⟩ := h1
      simp only [RF] at h3
      subst h3; subst h4
      exact ⟨cs, rfl, by rw [h2]; simp⟩
     ·trivial
    ·exact ⟨cs, rfl, ROL_of_RFL _ _ h1⟩
    ·trivial
   ·trivial
  ·trivial
 ·split
  ·rename_i x hx
   exact scal_RT hx
  ·trivial
def FRel (E : Env) (ent : Nat → Ent) (σ : Sg) (w : World) (st : St) (a : Act) : Prop := ∀ t, RT E ent σ w (st.get t) (a.tmps.getD t undef)
theorem ev_RT {st : St} {a : Act} (hf : FRel E ent σ w st a) (t : Nat) (x : Operand) : RT E ent σ w (st.ev E t x) (a.eval x) := by
 cases x with
 | tmp i => exact hf i
 | const v => exact ofConst_RT t v
 | global g => trivial
 | func f =>
  refine ⟨rfl, ?_⟩
  show RO1 E ent σ w (.clo f []) _
  simp only [RO1]
  exact ⟨[], rfl, by simp only [RTL]⟩
theorem ty_run {t : Nat} {ty : TyI} (hE : EnvOk E P) (h : E.ty t = some ty) (w : World) : ∃ d, (underlying t).run P w = .ok d w ∧ tyD ty.d d := by
 obtain ⟨d, i, z, h1, h2, _⟩ := hE.ty t ty h
 exact ⟨d, run_underlying h1 w, h2⟩
theorem sz_run {t : Nat} {ty : TyI} (hE : EnvOk E P) (h : E.ty t = some ty) (w : World) : (sizeOf t).run P w = .ok ty.size w := by
 obtain ⟨d, i, z, _, _, h3, h4, _⟩ := hE.ty t ty h
 simp [sizeOf, typeInfo, h3, h4]
theorem sz_eq {t : Nat} {ty : TyI} (h : E.ty t = some ty) : E.sz t = ty.size := by simp [Env.sz, h]
theorem agg_run {t : Nat} {ty : TyI} (hE : EnvOk E P) (h : E.ty t = some ty) (w : World) : (isAgg t).run P w = .ok (isAggTy ty.d) w := by
 obtain ⟨d, h1, h2⟩ := ty_run hE h w
 unfold isAgg
 rw [Sem.run_bind, h1]
 cases hd : ty.d <;> rw [hd] at h2 <;> cases d <;> simp_all [tyD, isAggTy]
theorem addr_add (b o n : Nat) : (⟨b, o, none⟩ : Addr).add n = ⟨b, o + n, none⟩ := by unfold Addr.add; split <;> simp_all
theorem loadCells_at {b o n : Nat} {us : List Value} (hc : cellsAt w b o us) (hn : us.length = n) : (loadCells ⟨b, o, none⟩ n).run P w = .ok us.toArray w := by
 subst hn
 refine run_loadCells_list (P := P) w ⟨b, o, none⟩ us fun j v hv => ?_
 rw [addr_add]
 exact hc j v hv
theorem cellsAt_sub {b o i m : Nat} {us : List Value} (hc : cellsAt w b o us) : cellsAt w b (o + i) ((us.drop i).take m) := by
 intro j u hj
 rw [List.getElem?_take] at hj
 split at hj
 ·rw [List.getElem?_drop] at hj
  have := hc (i + j) u hj
  rwa [← Nat.add_assoc] at this
 ·cases hj
theorem load_sound (hE : EnvOk E P) {t : Nat} {ty : TyI} (ht : E.ty t = some ty) {ps : List V} {us : List Value} {b o pi rel ext : Nat} {v : V}
 (hp : ROL E ent σ w ps us) (hc : cellsAt w b o us) (hk : pOk ps pi rel ext) (hl : loadP ty ps pi rel ext = some v) :
 ∃ u, (loadVar t ⟨b, o + startOf ps pi + rel, none⟩).run P w = .ok u w ∧ RT E ent σ w v u := by
 unfold loadP at hl
 split at hl
 ·cases hl
 ·rename_i hle
  have hle : ty.size ≤ ext := Nat.le_of_ble_eq_true hle
  split at hl
  ·rename_i fs hd
   split at hl
   ·split at hl
    ·rename_i l htk
     simp only [Option.some.injEq] at hl
     subst hl
     obtain ⟨h1, h2⟩ := ROL_take _ _ _ _ (ROL_drop pi ps us hp) htk
     refine ⟨.agg ((us.drop (startOf ps pi)).take ty.size).toArray, ?_, ⟨_, rfl, by simpa using h1⟩⟩
     unfold loadVar
     simp only [Sem.run_bind, agg_run hE ht, Result.andThen_ok, hd, isAggTy, if_true, sz_run hE ht, Nat.add_zero]
     rw [loadCells_at (us := (us.drop (startOf ps pi)).take ty.size) (cellsAt_sub hc) (by rw [List.length_take]; omega)]
     simp
    ·cases hl
   ·cases hl
  ·rename_i n e hd
   split at hl
   ·rename_i k n' c hn
    split at hl
    ·rename_i hen
     simp only [Option.some.injEq] at hl
     subst hl
     have hen : ext ≤ n' := Nat.le_of_ble_eq_true hen
     obtain ⟨h1, h2⟩ := ROL_ints hp hn
     have hre : rel + ty.size ≤ n' := by
      rcases hk with ⟨p, hp1, hp2⟩ | ⟨hp1, _⟩
      ·rw [hn] at hp1; cases hp1; simp only [vsize1] at hp2; omega
      ·omega
     have hseg : ((us.drop (startOf ps pi + rel)).take ty.size) = (List.range ty.size).map fun j => Value.int k (shiftC c rel j) := by
      apply List.ext_getElem?
      intro j
      rw [List.getElem?_take, List.getElem?_drop, List.getElem?_map]
      by_cases hj : j < ty.size
      ·rw [if_pos hj, List.getElem?_range hj, Nat.add_assoc, h2 (rel + j) (by omega)]
       cases rel with
       | zero => simp [shiftC]
       | succ r => simp [shiftC, Nat.add_comm]
      ·rw [if_neg hj, List.getElem?_eq_none (by simp; omega)]; rfl
     refine ⟨.agg ((us.drop (startOf ps pi + rel)).take ty.size).toArray, ?_, ⟨_, rfl, by rw [List.toList_toArray]; exact hseg⟩⟩
     unfold loadVar
     simp only [Sem.run_bind, agg_run hE ht, Result.andThen_ok, hd, isAggTy, if_true, sz_run hE ht]
     rw [Nat.add_assoc o, loadCells_at (us := (us.drop (startOf ps pi + rel)).take ty.size) (cellsAt_sub hc) (by rw [List.length_take, List.length_drop]; omega)]
     simp
    ·cases hl
   ·cases hl
  ·rename_i hd1 hd2
   have hna : isAggTy ty.d = false := by
    cases h : ty.d <;> simp_all [isAggTy]
   have hrun : ∀ u, us[startOf ps pi + rel]? = some u → (loadVar t ⟨b, o + startOf ps pi + rel, none⟩).run P w = .ok u w := by
    intro u hu
    unfold loadVar
    have := hc _ _ hu
    rw [← Nat.add_assoc] at this
    simp [Sem.run_bind, agg_run hE ht, hna, this]
   split at hl
   ·rename_i k n' c hn
    split at hl
    ·rename_i hen hs
     simp only [Option.some.injEq] at hl
     subst hl
     have hen : ext ≤ n' := Nat.le_of_ble_eq_true hen
     have hs : ty.size = 1 := Nat.eq_of_beq_eq_true hs
     obtain ⟨h1, h2⟩ := ROL_ints hp hn
     have hre : rel < n' := by
      rcases hk with ⟨p, hp1, hp2⟩ | ⟨hp1, _⟩
      ·rw [hn] at hp1; cases hp1; simp only [vsize1] at hp2; omega
      ·omega
     exact ⟨_, hrun _ (h2 rel hre), RT_mkint _ _⟩
    ·cases hl
   ·rename_i p hnp hn
    split at hl
    ·rename_i h1 h2
     simp only [Option.some.injEq] at hl
     subst hl
     obtain ⟨u, hu, hr⟩ := ROL_one hp hn (oneV_size h1)
     exact ⟨u, hrun u (by simpa using hu), RT_of_one h1 hr⟩
    ·cases hl
   ·cases hl
end
end Go.Proofs.YthdnamhilcjnhaaGreatDoor
