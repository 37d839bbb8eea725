/- The table of types, checked; a law, from its abstract value. -/
import Derived.Test.YthdnamhilcjnhaaGreatDoorRs21
import Derived.DeepKeys4
namespace Go.Proofs.YthdnamhilcjnhaaGreatDoor
open Go Go.RowKit
set_option linter.unusedVariables false
set_option linter.unusedSimpArgs false
def tyDb : Ty → TypeDesc → Bool
 | .int k, .int k' => decide (k' = k)
 | .bool, .bool => true
 | .str, .string => true
 | .ptr e, .pointer e' => Nat.beq e' e
 | .sl e, .slice e' => Nat.beq e' e
 | .arr n e, .array n' e' => Nat.beq n' n && Nat.beq e' e
 | .st fs, .struct fields => decide (fields.toList.map (fun f => (f.offset, f.type)) = fs)
 | .fn, .func _ _ _ => true
 | .mp k e, .map k' e' => Nat.beq k' k && Nat.beq e' e
 | _, _ => false
theorem tyDb_ok {t : Ty} {d : TypeDesc} (h : tyDb t d = true) : tyD t d := by
 unfold tyDb at h
 split at h <;> first
  | (simp only [tyD]; done)
  | (simp only [tyD]; exact of_decide_eq_true h)
  | (simp only [tyD]; exact Nat.eq_of_beq_eq_true h)
  | (simp only [tyD]; rw [Bool.and_eq_true] at h; exact ⟨Nat.eq_of_beq_eq_true h.1, Nat.eq_of_beq_eq_true h.2⟩)
  | cases h
def isAggVal : Value → Bool
 | .agg _ => true
 | _ => false
def tyCheck (E : Env) (P : Program) (t : Nat) (ty : TyI) : Bool := match P.underlying t, P.info? t with
 | some d, some i => match i.zero with
  | some z => tyDb ty.d d && Nat.beq i.size ty.size && Nat.beq i.bytes ty.bytes && Nat.beq z.cells.size ty.size && (match isAggTy ty.d with | true => isAggVal z | false => z.oneCell') &&
   (match ty.d with
    | .arr n e => Nat.beq ty.size (n * E.sz e) && (E.ty e).isSome
    | .st fs => fs.all fun f => (E.ty f.2).isSome
    | _ => true)
  | none => false
 | _, _ => false
def tyPack (P : Program) (t : Nat) (ty : TyI) : Option (List V) := match P.info? t with
 | some i => match i.zero with
  | some z => pack ty.zero z.cells.toList
  | none => none
 | none => none
def keyFs (P : Program) : List Go.Field → Nat → Nat → Option (List IntKind)
 | [], o, tot => match Nat.beq o tot with
  | true => some []
  | false => none
 | f :: fs, o, tot => match P.underlying f.type, Nat.beq f.offset o, f.name != "_", Nat.beq (P.cellsOf f.type) 1, keyFs P fs (o + 1) tot with
  | some (.int k), true, true, true, some ks => some (k :: ks)
  | _, _, _, _, _ => none
def keyChk (P : Program) (t : Nat) (ks : List IntKind) : Bool := match P.underlying t with
 | some (.struct fs) => decide (keyFs P fs.toList 0 (P.cellsOf t) = some ks) && P.keyTypeAt 3 t && P.keyType t && decide (t < P.types.size)
 | _ => false
def isZeroBool : Option Value → Bool
 | some (.bool false) => true
 | _ => false
def eqChk (P : Program) (t : Nat) (ty : TyI) : Bool := (match ty.d with
    | .bool => match P.info? t with
     | some i => isZeroBool i.zero
     | none => false
    | _ => true) && (match ty.eq with
 | false => true
 | true => match ty.d with
  | .int _ => true
  | .st _ => eqTy P 12 t && !P.eqGuardType P.depth t && Nat.beq (P.cellsOf t) ty.size && (match kindsOf ty.zero with
   | some ks => keyChk P t ks
   | none => true)
  | .arr _ _ => eqTy P 12 t && !P.eqGuardType P.depth t && Nat.beq (P.cellsOf t) ty.size
  | _ => false)
theorem keyFs_lits {P : Program} (D : Nat) : ∀ (fs : List Go.Field) (o tot : Nat) (ks : List IntKind) (ns : List Int) (pre : List Value), keyFs P fs o tot = some ks → wfs ks ns = true → pre.length = o →
 ∃ ls, (fs.mapM fun f => P.keyLits (D + 1) f.type (((pre ++ zipI ks ns).drop f.offset).take (P.cellsOf f.type))) = some ls ∧ (pre ++ zipI ks ns).length = tot ∧ fs.all (·.name != "_") = true
 | [], o, tot, ks, ns, pre, h, hw, hp => by
  simp only [keyFs] at h
  split at h
  ·rename_i hb
   simp only [Option.some.injEq] at h
   subst h
   have := Nat.eq_of_beq_eq_true hb
   cases ns with
   | nil => exact ⟨[], rfl, by simp [zipI]; omega, rfl⟩
   | cons n ns => simp [wfs] at hw
  ·cases h
 | f :: fs, o, tot, ks, ns, pre, h, hw, hp => by
  simp only [keyFs] at h
  split at h
  ·rename_i k ks' hu ho hn hc hr
   simp only [Option.some.injEq] at h
   subst h
   have ho := Nat.eq_of_beq_eq_true ho
   have hc := Nat.eq_of_beq_eq_true hc
   cases ns with
   | nil => simp [wfs] at hw
   | cons n ns =>
    simp only [wfs, Bool.and_eq_true] at hw
    obtain ⟨ls, h1, h2, h3⟩ := keyFs_lits D fs (o + 1) tot ks' ns (pre ++ [.int k n]) hr hw.2 (by simp [hp])
    have e : pre ++ zipI (k :: ks') (n :: ns) = (pre ++ [.int k n]) ++ zipI ks' ns := by simp [zipI]
    rw [e]
    have hd : (((pre ++ [Value.int k n]) ++ zipI ks' ns).drop f.offset).take (P.cellsOf f.type) = [.int k n] := by
     rw [hc, ho, ← hp]
     simp
    have hl : P.keyLits (D + 1) f.type [.int k n] = some [.int k n] := by
     have hwf : (Lit.int k n).wf = true := hw.1
     unfold Program.keyLits
     simp only [hu]
     rw [if_pos (by simpa using hwf)]
    refine ⟨[.int k n] :: ls, ?_, h2, ?_⟩
    ·rw [List.mapM_cons, hd, hl]
     simp only [Option.bind_eq_bind, Option.bind_some, h1, Option.pure_def]
    ·rw [List.all_cons, hn, h3]; rfl
  ·cases h
theorem key_struct {P : Program} (hl : laidOutB P = true) {t : Nat} {ks : List IntKind} (h : keyChk P t ks = true) : Maps.Keyed P t ∧ ∀ ns, wfs ks ns = true → ∃ l, keyOf P t (keyVal (true, ks) ns) = some l := by
 unfold keyChk at h
 split at h
 ·rename_i fs hu
  simp only [Bool.and_eq_true, decide_eq_true_eq] at h
  obtain ⟨⟨⟨h1, h2⟩, h3⟩, h4⟩ := h
  refine ⟨Maps.Keyed.of_law (deep_law_laid hl (m := 3) (by omega) h4 h2 (by rw [hu])), fun ns hw => ?_⟩
  obtain ⟨D, hD⟩ : ∃ D, P.types.size + 1 = D + 2 := ⟨P.types.size - 1, by omega⟩
  obtain ⟨ls, k1, k2, k3⟩ := keyFs_lits (P := P) D fs.toList 0 _ ks ns [] h1 hw rfl
  simp only [List.nil_append] at k1 k2
  refine ⟨.string (keyBytes ls.flatten), ?_⟩
  have hf : (Value.agg (zipI ks ns).toArray).formed P t = true := by simp [Value.formed, hu, k2]
  have hk : P.keyLits (P.types.size + 1) t (zipI ks ns) = some ls.flatten := by
   rw [hD]
   unfold Program.keyLits
   simp only [hu]
   rw [if_pos ⟨k2, by rw [← Array.all_toList]; exact k3⟩, k1]
   rfl
  unfold keyOf
  simp only [hu, keyVal, h3, hf, Bool.and_self, if_true, Value.cells, hk, Option.map_some]
 ·cases h
theorem key_int {P : Program} {t : Nat} {k : IntKind} (hu : P.underlying t = some (.int k)) : Maps.Keyed P t ∧ ∀ ns, wfs [k] ns = true → ∃ l, keyOf P t (keyVal (false, [k]) ns) = some l := by
 refine ⟨Maps.int_keyed hu, fun ns hw => ?_⟩
 cases ns with
 | nil => simp [wfs] at hw
 | cons n ns =>
 cases ns with
 | cons _ _ => simp [wfs] at hw
 | nil =>
  simp only [wfs, Bool.and_true] at hw
  have hwf : (Lit.int k n).wf = true := hw
  exact ⟨.int k n, by simp [keyOf, hu, keyVal, zipI, mapKey, hwf]⟩
def allTy (E : Env) (P : Program) : List (Nat × TyI) → Prop
 | [] => True
 | (t, ty) :: l => (tyCheck E P t ty = true ∧ tyPack P t ty = some ty.zero ∧ eqChk P t ty = true) ∧ allTy E P l
theorem allTy_get {E : Env} {P : Program} : ∀ {l : List (Nat × TyI)} {t : Nat} {ty : TyI}, allTy E P l → find l t = some ty → tyCheck E P t ty = true ∧ tyPack P t ty = some ty.zero ∧ eqChk P t ty = true
 | [], t, ty, _, h => by simp [find] at h
 | (s, ty0) :: l, t, ty, ha, h => by
  simp only [find] at h
  split at h
  ·rename_i hb
   simp only [Option.some.injEq] at h
   rw [← Nat.eq_of_beq_eq_true hb, ← h]
   exact ha.1
  ·exact allTy_get ha.2 h
def allFn (P : Program) : Nat → List Func → Prop
 | _, [] => True
 | i, fn :: l => P.funcs[i]? = some fn ∧ allFn P (i + 1) l
theorem allFn_get {P : Program} : ∀ {l : List Func} {i f : Nat} {fn : Func}, allFn P i l → nth l f = some fn → P.funcs[i + f]? = some fn
 | [], i, f, fn, _, h => by cases f <;> simp [nth] at h
 | g :: l, i, 0, fn, ha, h => by
  simp only [nth, Option.some.injEq] at h
  rw [← h]; exact ha.1
 | g :: l, i, f + 1, fn, ha, h => by
  simp only [nth] at h
  have := allFn_get ha.2 h
  rwa [show i + 1 + f = i + (f + 1) by omega] at this
def noBw : List (Nat × FnI) → Bool
 | [] => true
 | (_, F) :: l => match F.bw with
  | some _ => false
  | none => noBw l
theorem noBw_ok : ∀ {l : List (Nat × FnI)}, noBw l = true → ∀ {g : Nat} {F : FnI} {ks : IntKind × IntKind}, find l g = some F → F.bw = some ks → False
 | [], _, g, F, ks, h, _ => by simp [find] at h
 | (j, F') :: l, hn, g, F, ks, h, hb => by
  simp only [noBw] at hn
  split at hn
  ·cases hn
  ·rename_i hF
   simp only [find] at h
   split at h
   ·simp only [Option.some.injEq] at h
    subst h
    rw [hF] at hb; cases hb
   ·exact noBw_ok hn h hb
theorem env_okB {E : Env} {P : Program} (hl : laidOutB P = true) (h1 : allTy E P E.tt) (h2 : allFn P 0 E.fl) (h3 : P.follows .mixedOrders = true) (h4 : P.funcs.all (fun fn => !(fn.name == "runtime.NumGoroutine")) = true)
 (h5 : ∀ (g : Nat) (F : FnI) (ks : IntKind × IntKind), find E.fi g = some F → F.bw = some ks → BwOk P g ks.1 ks.2)
 (h6 : ∀ (f : Nat) (p : List V → Option V) (avs : List V) (r : V), find E.pr f = some p → p avs = some r → FunOk P E f avs r) : EnvOk E P := by
 refine ⟨fun t ty ht => ?_, fun t ty ht he hagg => ?_, fun kt kd hkd => ?_, fun t ty ht hd w => ?_, h3, fun f fn hf => ?_, fun f fn hf => ?_, h5, h6⟩
 ·obtain ⟨k1, k2, _⟩ := allTy_get h1 ht
  unfold tyCheck at k1
  unfold tyPack at k2
  split at k1
  ·rename_i d i hd hi
   rw [hi] at k2
   simp only at k2
   split at k1
   ·rename_i z hz
    rw [hz] at k2
    simp only at k2
    simp only [Bool.and_eq_true] at k1
    obtain ⟨⟨⟨⟨⟨c1, c2⟩, c3⟩, c4⟩, c5⟩, c6⟩ := k1
    refine ⟨d, i, z, hd, tyDb_ok c1, hi, Nat.eq_of_beq_eq_true c2, Nat.eq_of_beq_eq_true c3, hz, Nat.eq_of_beq_eq_true c4, fun w ok => pack_RFL _ _ _ k2, fun ha => ?_, fun ha => ?_, fun n e hd => ?_, fun fs hd f hf => ?_⟩
    ·rw [ha] at c5
     cases z <;> simp only [isAggVal] at c5 <;> first | rfl | cases c5
    ·rw [ha] at c5; exact c5
    ·rw [hd] at c6
     simp only [Bool.and_eq_true] at c6
     exact ⟨Nat.eq_of_beq_eq_true c6.1, c6.2⟩
    ·rw [hd] at c6
     simp only [List.all_eq_true] at c6
     exact c6 f hf
   ·cases k1
  ·cases k1
 ·obtain ⟨k0, _, k3⟩ := allTy_get h1 ht
  intro tr xs ys hlen hx hy w
  have key : eqTy P 12 t = true ∧ P.eqGuardType P.depth t = false ∧ P.cellsOf t = ty.size := by
   unfold eqChk at k3
   rw [he] at k3
   cases hd : ty.d <;> rw [hd] at hagg <;> simp only [isAggTy, Bool.false_eq_true] at hagg <;> simp only [hd, Bool.and_eq_true, Bool.not_eq_true', true_and] at k3
   ·exact ⟨k3.1.1, k3.1.2, Nat.eq_of_beq_eq_true k3.2⟩
   ·exact ⟨k3.1.1.1, k3.1.1.2, Nat.eq_of_beq_eq_true k3.1.2⟩
  refine ⟨eq_agg (m := 12) (by omega) key.1 ?_ tr (by rw [hlen, key.2.2]) hx hy w, key.2.1⟩
  unfold tyCheck at k0
  split at k0
  ·rename_i d i hu hi
   split at k0
   ·simp only [Bool.and_eq_true] at k0
    have := tyDb_ok k0.1.1.1.1.1
    rw [hu]
    cases hd : ty.d <;> rw [hd] at hagg this <;> simp only [isAggTy, Bool.false_eq_true] at hagg <;> cases d <;> simp only [tyD] at this <;> rfl
   ·cases k0
  ·cases k0
 ·unfold Env.kd at hkd
  split at hkd
  ·rename_i ty ht
   obtain ⟨k0, _, k3⟩ := allTy_get h1 ht
   have hun : ∃ d, P.underlying kt = some d ∧ tyD ty.d d := by
    unfold tyCheck at k0
    split at k0
    ·rename_i d i hu hi
     split at k0
     ·simp only [Bool.and_eq_true] at k0
      exact ⟨d, hu, tyDb_ok k0.1.1.1.1.1⟩
     ·cases k0
    ·cases k0
   obtain ⟨d, hu, htd⟩ := hun
   split at hkd
   ·rename_i k he hd
    simp only [Option.some.injEq] at hkd
    subst hkd
    rw [hd] at htd
    cases d <;> simp only [tyD] at htd
    subst htd
    exact key_int hu
   ·rename_i fs he hd
    split at hkd
    ·rename_i ks hks
     simp only [Option.some.injEq] at hkd
     subst hkd
     unfold eqChk at k3
     rw [he] at k3
     simp only [hd, hks, Bool.and_eq_true] at k3
     exact key_struct hl k3.2.2
    ·cases hkd
   ·cases hkd
  ·cases hkd
 ·obtain ⟨_, _, k3⟩ := allTy_get h1 ht
  unfold eqChk at k3
  simp only [hd, Bool.and_eq_true] at k3
  have k4 := k3.1
  split at k4
  ·rename_i i hi
   have hz : i.zero = some (.bool false) := by
    generalize i.zero = z at k4
    cases z with
    | none => cases k4
    | some z => cases z <;> first | (rename_i b; cases b <;> first | rfl | cases k4) | cases k4
   simp [zeroValue, typeInfo, hi, hz]
  ·cases k4
 ·have := allFn_get h2 hf
  rwa [Nat.zero_add] at this
 ·rw [Array.all_eq_true'] at h4
  have := h4 fn (by
   have hlt : f < P.funcs.size := by
    rcases Nat.lt_or_ge f P.funcs.size with h | h
    ·exact h
    ·rw [Array.getElem?_eq_none h] at hf; cases hf
   rw [Array.getElem?_eq_getElem hlt] at hf
   simp only [Option.some.injEq] at hf
   rw [← hf]
   exact Array.getElem_mem hlt)
  simpa using this
end Go.Proofs.YthdnamhilcjnhaaGreatDoor
