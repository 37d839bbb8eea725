/- Code, loops, functions. -/
import Derived.Test.YthdnamhilcjnhaaGreatDoorRs15
import Derived.LoopN
namespace Go.Proofs.YthdnamhilcjnhaaGreatDoor
open Go Go.RowKit
set_option linter.unusedVariables false
set_option linter.unusedSimpArgs false
section
variable {E : Env} {P : Program} {keep : Nat → Prop} {w0 : World} {σ : Sg} {w : World} {st : St} {a : Act} {o : Oper} {v : V} {es : List (Nat × Ent)} {call : Nat → List V → Option V} {ent : Nat → Ent}
def DrawSound (E : Env) (P : Program) : Prop :=
 ∀ (call : Nat → List V → Option V), CallsOk P E call → ∀ (keep : Nat → Prop) (w0 : World) (no : Nat → Prop) (n : Nat) (z : Option Value) (os : Array Oper) (id : Nat) (st st' : St) (tr : List Foot) (σ : Sg) (a : Act) (w : World) (Q : Exit → Act → World → Prop),
  Inv E keep w0 no n z st σ a w → runOps E call n os os.toList st [] = some (st', tr) → drawOk os tr = true → (∀ a' w' σ', Inv E keep w0 no n z st' σ' a' w' → Q .normal a' w') → (Code.region id os true).wp P Q a w
def exitOf : Ex → Exit
 | .normal => .normal
 | .exit id => .exit id
 | .ret => .ret
def Runs (P : Program) (E : Env) (keep : Nat → Prop) (w0 : World) (no : Nat → Prop) (n : Nat) (z : Option Value) (c : Code) (st : St) (r : Ex) (st' : St) : Prop :=
 ∀ (σ : Sg) (a : Act) (w : World) (Q : Exit → Act → World → Prop), Inv E keep w0 no n z st σ a w → (∀ a' w' σ', Inv E keep w0 no n z st' σ' a' w' → Q (exitOf r) a' w') → c.wp P Q a w
theorem loopN_sound {no : Nat → Prop} {n : Nat} {z : Option Value} {c : Code} {body : St → Option (Ex × St)} {nm : St → St}
 (hb : ∀ st r st', body st = some (r, st') → Runs P E keep w0 no n z c st r st') (hn : ∀ st σ a w, Inv E keep w0 no n z st σ a w → ∃ σ', Inv E keep w0 no n z (nm st) σ' a w) :
 ∀ (m : Nat) (st : St) (r : Ex) (st' : St), loopN body nm m st = some (r, st') → ∀ (σ : Sg) (a : Act) (w : World) (Q : Exit → Act → World → Prop), Inv E keep w0 no n z st σ a w → (∀ a' w' σ', Inv E keep w0 no n z st' σ' a' w' → Q (exitOf r) a' w') → Code.rounds P c Q m a w
 | 0, st, r, st', h, σ, a, w, Q, hi, hQ => by simp [loopN] at h
 | m + 1, st, r, st', h, σ, a, w, Q, hi, hQ => by
  rw [rounds_succ]
  simp only [loopN] at h
  split at h
  ·rename_i st1 h1
   refine hb _ _ _ h1 σ a w _ hi fun a' w' σ' hi' => ?_
   obtain ⟨σ2, hi2⟩ := hn _ _ _ _ hi'
   exact loopN_sound hb hn m _ r st' h σ2 a' w' Q hi2 hQ
  ·rename_i hne
   refine hb _ _ _ h σ a w _ hi fun a' w' σ' hi' => ?_
   have := hQ a' w' σ' hi'
   cases r with
   | normal => exact absurd h (hne _)
   | exit id => exact this
   | ret => exact this
theorem ex_sound (hE : EnvOk E P) (hD : DrawSound E P) (hcall : CallsOk P E call) {no : Nat → Prop} {z : Option Value} {F : FnI} {k : Nat} : ∀ (c : Code) (bid : Nat) (st : St) (r : Ex) (st' : St), ex E F k call c bid st = some (r, st') → Runs P E keep w0 no F.n z c st r st'
 | .skip, bid, st, r, st', h => by
  intro σ a w Q hi hQ
  simp only [ex, Option.some.injEq, Prod.mk.injEq] at h
  obtain ⟨rfl, rfl⟩ := h
  exact wp_skip (hQ _ _ _ hi)
 | .region id os draw, bid, st, r, st', h => by
  intro σ a w Q hi hQ
  simp only [ex] at h
  split at h
  ·rename_i st1 tr h1
   cases draw with
   | false =>
    simp only [Option.some.injEq, Prod.mk.injEq] at h
    obtain ⟨rfl, rfl⟩ := h
    exact wp_region_list (runOps_sound hE hcall _ _ _ _ _ _ _ _ hi h1 hQ)
   | true =>
    simp only at h
    split at h
    ·rename_i hd
     simp only [Option.some.injEq, Prod.mk.injEq] at h
     obtain ⟨rfl, rfl⟩ := h
     exact hD call hcall keep w0 no F.n z os id st st1 tr σ a w Q hi h1 hd hQ
    ·cases h
  ·cases h
 | .seq c d, bid, st, r, st', h => by
  intro σ a w Q hi hQ
  simp only [ex] at h
  refine wp_seq ?_
  split at h
  ·rename_i st1 h1
   exact ex_sound hE hD hcall c 0 st _ st1 h1 σ a w _ hi fun a' w' σ' hi' => ex_sound hE hD hcall d 0 st1 r st' h σ' a' w' Q hi' hQ
  ·rename_i hne
   refine ex_sound hE hD hcall c 0 st r st' h σ a w _ hi fun a' w' σ' hi' => ?_
   have := hQ a' w' σ' hi'
   cases r with
   | normal => exact absurd h (hne _)
   | exit id => exact this
   | ret => exact this
 | .cond c x y, bid, st, r, st', h => by
  intro σ a w Q hi hQ
  cases c with
  | tmp d =>
   simp only [ex] at h
   have hd := hi.fr d
   split at h
   ·rename_i b hb
    rw [hb] at hd
    have hbool := RT_bool hd
    have hev : a.eval (.tmp d) = .bool b := hbool
    cases b with
    | true => exact wp_cond_true hev (ex_sound hE hD hcall x 0 _ r st' h σ a w Q (hi.set (by rw [hbool]; exact RT_mkbool _)) hQ)
    | false => exact wp_cond_false hev (ex_sound hE hD hcall y 0 _ r st' h σ a w Q (hi.set (by rw [hbool]; exact RT_mkbool _)) hQ)
   ·cases h
  | _ => simp [ex] at h
 | .block id body, bid, st, r, st', h => by
  intro σ a w Q hi hQ
  simp only [ex, blkOut] at h
  refine wp_block ?_
  split at h
  ·rename_i i st1 h1
   split at h
   ·rename_i hid
    have hid : i = id := Nat.eq_of_beq_eq_true hid
    subst hid
    split at h
    ·rename_i lv hl
     simp only [Option.some.injEq, Prod.mk.injEq] at h
     obtain ⟨rfl, rfl⟩ := h
     refine ex_sound hE hD hcall body _ st _ st1 h1 σ a w _ hi fun a' w' σ' hi' => ?_
     obtain ⟨σ2, hi2⟩ := norm_sound hi' lv.out
     simp only [exitOf, Exit.inBlock, if_true]
     exact hQ _ _ _ hi2
    ·simp only [Option.some.injEq, Prod.mk.injEq] at h
     obtain ⟨rfl, rfl⟩ := h
     refine ex_sound hE hD hcall body _ st _ st1 h1 σ a w _ hi fun a' w' σ' hi' => ?_
     simp only [exitOf, Exit.inBlock, if_true]
     exact hQ _ _ _ hi'
   ·rename_i hid
    have hid : i ≠ id := fun h => by
     rw [h, show Nat.beq id id = true from Nat.beq_refl id] at hid; cases hid
    simp only [Option.some.injEq, Prod.mk.injEq] at h
    obtain ⟨rfl, rfl⟩ := h
    refine ex_sound hE hD hcall body _ st _ st1 h1 σ a w _ hi fun a' w' σ' hi' => ?_
    simp only [exitOf, Exit.inBlock, if_neg hid]
    exact hQ _ _ _ hi'
  ·rename_i hne
   refine ex_sound hE hD hcall body _ st r st' h σ a w _ hi fun a' w' σ' hi' => ?_
   have := hQ a' w' σ' hi'
   cases r with
   | normal => exact this
   | exit id => exact absurd h (hne _ _)
   | ret => exact this
 | .loop body, bid, st, r, st', h => by
  intro σ a w Q hi hQ
  simp only [ex] at h
  split at h
  ·rename_i lv hl
   obtain ⟨σ2, hi2⟩ := norm_sound hi lv.head
   refine wp_loop_rounds k ?_
   exact loopN_sound (fun st r st' h => ex_sound hE hD hcall body 0 st r st' h) (fun st σ a w hi => norm_sound hi lv.head) k _ r st' h σ2 a w Q hi2 hQ
  ·cases h
 | .exit id, bid, st, r, st', h => by
  intro σ a w Q hi hQ
  simp only [ex, Option.some.injEq, Prod.mk.injEq] at h
  obtain ⟨rfl, rfl⟩ := h
  exact wp_exit (hQ _ _ _ hi)
 | .ret, bid, st, r, st', h => by
  intro σ a w Q hi hQ
  simp only [ex, Option.some.injEq, Prod.mk.injEq] at h
  obtain ⟨rfl, rfl⟩ := h
  obtain ⟨σ2, hi2⟩ := norm_sound hi F.ret
  exact wp_ret (hQ _ _ _ hi2)
 | .label _, bid, st, r, st', h => by simp [ex] at h
 | .goto _, bid, st, r, st', h => by simp [ex] at h
end
end Go.Proofs.YthdnamhilcjnhaaGreatDoor
