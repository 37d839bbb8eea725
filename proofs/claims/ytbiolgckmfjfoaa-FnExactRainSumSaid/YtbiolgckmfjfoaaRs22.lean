/- The table of types, checked; a law, from its abstract value. -/
import Derived.Test.YtbiolgckmfjfoaaRs21
namespace Go.Proofs.Ytbiolgckmfjfoaa
open Go Go.RowKit
set_option linter.unusedVariables false
set_option linter.unusedSimpArgs false

def tyDb : Ty → TypeDesc → Bool
  | .int k, .int k' => decide (k' = k)
  | .bool, .bool => true
  | .str, .string => true
  | .ptr e, .pointer e' => Nat.beq e' e
  | .sl e, .slice e' => Nat.beq e' e
  | .arr n e, .array n' e' => Nat.beq n' n && Nat.beq e' e
  | .st fs, .struct fields => decide (fields.toList.map (fun f => (f.offset, f.type)) = fs)
  | .fn, .func _ _ _ => true
  | .mp k e, .map k' e' => Nat.beq k' k && Nat.beq e' e
  | _, _ => false
theorem tyDb_ok {t : Ty} {d : TypeDesc} (h : tyDb t d = true) : tyD t d := by
  unfold tyDb at h
  split at h <;> first
    | (simp only [tyD]; done)
    | (simp only [tyD]; exact of_decide_eq_true h)
    | (simp only [tyD]; exact Nat.eq_of_beq_eq_true h)
    | (simp only [tyD]; rw [Bool.and_eq_true] at h; exact ⟨Nat.eq_of_beq_eq_true h.1, Nat.eq_of_beq_eq_true h.2⟩)
    | cases h
def isAggVal : Value → Bool
  | .agg _ => true
  | _ => false
def tyCheck (E : Env) (P : Program) (t : Nat) (ty : TyI) : Bool := match P.underlying t, P.info? t with
  | some d, some i => match i.zero with
    | some z => tyDb ty.d d && Nat.beq i.size ty.size && Nat.beq i.bytes ty.bytes && Nat.beq z.cells.size ty.size && (match isAggTy ty.d with | true => isAggVal z | false => z.oneCell') &&
      (match ty.d with
        | .arr n e => Nat.beq ty.size (n * E.sz e) && (E.ty e).isSome
        | .st fs => fs.all fun f => (E.ty f.2).isSome
        | _ => true)
    | none => false
  | _, _ => false
def tyPack (P : Program) (t : Nat) (ty : TyI) : Option (List V) := match P.info? t with
  | some i => match i.zero with
    | some z => pack ty.zero z.cells.toList
    | none => none
  | none => none
def allTy (E : Env) (P : Program) : List (Nat × TyI) → Prop
  | [] => True
  | (t, ty) :: l => (tyCheck E P t ty = true ∧ tyPack P t ty = some ty.zero ∧ ty.eq = false) ∧ allTy E P l
theorem allTy_get {E : Env} {P : Program} : ∀ {l : List (Nat × TyI)} {t : Nat} {ty : TyI}, allTy E P l → find l t = some ty → tyCheck E P t ty = true ∧ tyPack P t ty = some ty.zero ∧ ty.eq = false
  | [], t, ty, _, h => by simp [find] at h
  | (s, ty0) :: l, t, ty, ha, h => by
    simp only [find] at h
    split at h
    · rename_i hb
      simp only [Option.some.injEq] at h
      rw [← Nat.eq_of_beq_eq_true hb, ← h]
      exact ha.1
    · exact allTy_get ha.2 h
def allFn (P : Program) : Nat → List Func → Prop
  | _, [] => True
  | i, fn :: l => P.funcs[i]? = some fn ∧ allFn P (i + 1) l
theorem allFn_get {P : Program} : ∀ {l : List Func} {i f : Nat} {fn : Func}, allFn P i l → nth l f = some fn → P.funcs[i + f]? = some fn
  | [], i, f, fn, _, h => by cases f <;> simp [nth] at h
  | g :: l, i, 0, fn, ha, h => by
    simp only [nth, Option.some.injEq] at h
    rw [← h]; exact ha.1
  | g :: l, i, f + 1, fn, ha, h => by
    simp only [nth] at h
    have := allFn_get ha.2 h
    rwa [show i + 1 + f = i + (f + 1) by omega] at this
theorem env_ok {E : Env} {P : Program} (h1 : allTy E P E.tt) (h2 : allFn P 0 E.fl) (h3 : P.follows .mixedOrders = true) (h4 : P.funcs.all (fun fn => !(fn.name == "runtime.NumGoroutine")) = true) : EnvOk E P := by
  refine ⟨fun t ty ht => ?_, fun t ty ht he => ?_, h3, fun f fn hf => ?_, fun f fn hf => ?_⟩
  · obtain ⟨k1, k2, _⟩ := allTy_get h1 ht
    unfold tyCheck at k1
    unfold tyPack at k2
    split at k1
    · rename_i d i hd hi
      rw [hi] at k2
      simp only at k2
      split at k1
      · rename_i z hz
        rw [hz] at k2
        simp only at k2
        simp only [Bool.and_eq_true] at k1
        obtain ⟨⟨⟨⟨⟨c1, c2⟩, c3⟩, c4⟩, c5⟩, c6⟩ := k1
        refine ⟨d, i, z, hd, tyDb_ok c1, hi, Nat.eq_of_beq_eq_true c2, Nat.eq_of_beq_eq_true c3, hz, Nat.eq_of_beq_eq_true c4, fun w ok => pack_RFL _ _ _ k2, fun ha => ?_, fun ha => ?_, fun n e hd => ?_, fun fs hd f hf => ?_⟩
        · rw [ha] at c5
          cases z <;> simp only [isAggVal] at c5 <;> first | rfl | cases c5
        · rw [ha] at c5; exact c5
        · rw [hd] at c6
          simp only [Bool.and_eq_true] at c6
          exact ⟨Nat.eq_of_beq_eq_true c6.1, c6.2⟩
        · rw [hd] at c6
          simp only [List.all_eq_true] at c6
          exact c6 f hf
      · cases k1
    · cases k1
  · obtain ⟨_, _, k3⟩ := allTy_get h1 ht
    rw [k3] at he; cases he
  · have := allFn_get h2 hf
    rwa [Nat.zero_add] at this
  · rw [Array.all_eq_true'] at h4
    have := h4 fn (by
      have hlt : f < P.funcs.size := by
        rcases Nat.lt_or_ge f P.funcs.size with h | h
        · exact h
        · rw [Array.getElem?_eq_none h] at hf; cases hf
      rw [Array.getElem?_eq_getElem hlt] at hf
      simp only [Option.some.injEq] at hf
      rw [← hf]
      exact Array.getElem_mem hlt)
    simpa using this
end Go.Proofs.Ytbiolgckmfjfoaa
