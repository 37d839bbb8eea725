/- A law: from its abstract value to the given statement. -/
import Derived.Test.YthdnamhilcjnhaaGreatDoorRs23
import Derived.Carry
import Derived.ProofKit
namespace Go.Proofs.YthdnamhilcjnhaaGreatDoor
open Go Go.RowKit
set_option linter.unusedVariables false
set_option linter.unusedSimpArgs false
def inA (st : Bool) (sh : List PSh) (v : V) : Prop := match st with
 | true => ∃ vs, v = .parts vs ∧ inL sh vs
 | false => inL sh [v]
def inArgs : List (Bool × List PSh) → List V → Prop
 | [], vs => vs = []
 | p :: l, vs => ∃ v r, vs = v :: r ∧ inA p.1 p.2 v ∧ inArgs l r
def argShapes (P : Program) (g : Nat) : List TypeId → Option (List (Bool × List PSh))
 | [] => some []
 | t :: ts => match shapeOf P g t, argShapes P g ts with
  | some sh, some l => match isSt P t, sh with
   | true, sh => some ((true, sh) :: l)
   | false, [p] => some ((false, [p]) :: l)
   | _, _ => none
  | _, _ => none
section
variable {E : Env} {P : Program} {W : World} {H : Type} {enc : TypeId × Value → H} {ok : Nat → Prop}
theorem args_read (g : Nat) (hok : ∀ b, b < W.heap.size → ok b) {base : Nat} : ∀ (ts : List TypeId) (us : List Value) (ds : List (DataW H)) (ps : List MemPlace) (shs : List (Bool × List PSh)),
 DataW.TrodAll enc P W 0 (fun _ => true) true ts us ds ps → (∀ (j : Nat) t v, ts[j]? = some t → us[j]? = some v → Value.okWide P W .any base t v) → argShapes P g ts = some shs →
 ∃ vs, inArgs shs vs ∧ RFC W ok vs us
 | [], us, ds, ps, shs, h, hv, hs => by
  simp only [argShapes, Option.some.injEq] at hs
  subst hs
  cases us with
  | nil => exact ⟨[], rfl, by simp only [RFC]⟩
  | cons u us => cases ds <;> simp [DataW.TrodAll] at h
 | t :: ts, us, ds, ps, shs, h, hv, hs => by
  cases us with
  | nil => simp [DataW.TrodAll] at h
  | cons u us =>
   cases ds with
   | nil => simp [DataW.TrodAll] at h
   | cons d ds =>
    obtain ⟨p, q, ⟨fuel, ht⟩, hrest, _⟩ := h
    simp only [argShapes] at hs
    split at hs
    ·rename_i sh l hsh hl
     obtain ⟨vs, h1, h2⟩ := args_read g hok ts us ds q l hrest (fun j t' v' hj hu => hv (j + 1) t' v' (by simpa using hj) (by simpa using hu)) hl
     obtain ⟨xs, h3, h4⟩ := read_ok g hok t fuel _ _ sh ht hsh
     have hou := hv 0 t u rfl rfl
     split at hs
     ·rename_i hst
      simp only [Option.some.injEq] at hs
      subst hs
      have hagg : ∃ cs, u = .agg cs := by
       unfold isSt at hst
       split at hst
       ·rename_i fs hu
        obtain ⟨cs, h, _⟩ := WideShapes.okWide_struct hu hou
        exact ⟨cs, h⟩
       ·cases hst
      refine ⟨.parts xs :: vs, ⟨_, vs, rfl, ⟨xs, rfl, h3⟩, h1⟩, ?_⟩
      simp only [RFC, RF]
      exact ⟨u, us, rfl, h4, hagg, h2⟩
     ·rename_i pp hst
      simp only [Option.some.injEq] at hs
      subst hs
      obtain ⟨v, rfl, h5⟩ := inL_one h3
      refine ⟨v :: vs, ⟨v, vs, rfl, h3, h1⟩, ?_⟩
      simp only [RFC]
      refine ⟨u, us, rfl, RFL_one h4, ?_, h2⟩
      have hrf := RFL_one h4
      unfold shapeOf at hsh
      cases g with
      | zero => cases hsh
      | succ g =>
       simp only at hsh
       split at hsh
       ·rename_i k hu
        simp only [Option.some.injEq, List.cons.injEq, and_true] at hsh
        subst hsh
        obtain ⟨n, rfl⟩ := WideShapes.okWide_int hu hou
        simp only [inP] at h5
        obtain ⟨m, rfl, _⟩ := h5
        rfl
       ·rename_i hu
        simp only [Option.some.injEq, List.cons.injEq, and_true] at hsh
        subst hsh
        obtain ⟨n, rfl⟩ := WideShapes.okWide_bool hu hou
        simp only [inP] at h5
        obtain ⟨m, rfl⟩ := h5
        rfl
       ·rename_i hu
        simp only [Option.some.injEq, List.cons.injEq, and_true] at hsh
        subst hsh
        obtain ⟨n, rfl⟩ := WideShapes.okWide_string hu hou
        simp only [inP] at h5
        obtain ⟨m, rfl, _⟩ := h5
        rfl
       ·rename_i fs hu
        unfold isSt at hst
        rw [hu] at hst
        cases hst
       ·rename_i n e hu
        have hagg : ∃ cs, u = .agg cs := by
         unfold Value.okWide at hou
         rw [hu] at hou
         obtain ⟨cs, h, _⟩ := hou
         exact ⟨cs, h⟩
        have hints : ∃ k m, pp = .ints k m := by
         split at hsh
         ·split at hsh
          ·simp only [Option.some.injEq, List.cons.injEq, and_true] at hsh; exact ⟨_, _, hsh.symm⟩
          ·cases hsh
         ·split at hsh
          ·simp only [Option.some.injEq, List.cons.injEq, and_true] at hsh; exact ⟨_, _, hsh.symm⟩
          ·cases hsh
         ·cases hsh
        obtain ⟨k, m, rfl⟩ := hints
        simp only [inP] at h5
        obtain ⟨c, rfl, _⟩ := h5
        exact hagg
       ·rename_i e hu
        obtain ⟨a, len, cap, rfl⟩ := WideShapes.okWide_slice hu hou
        have hsl : ∃ b qs, pp = .sl b qs := by
         split at hsh
         ·split at hsh
          ·split at hsh
           ·simp only [Option.some.injEq, List.cons.injEq, and_true] at hsh; exact ⟨_, _, hsh.symm⟩
           ·simp only [Option.some.injEq, List.cons.injEq, and_true] at hsh; exact ⟨_, _, hsh.symm⟩
           ·cases hsh
          ·cases hsh
         ·cases hsh
        obtain ⟨b, qs, rfl⟩ := hsl
        simp only [inP] at h5
        obtain ⟨xs, rfl, _⟩ := h5
        rfl
       ·cases hsh
     ·cases hs
    ·cases hs
theorem args_stay (hl : laidOutB P = true) {W' : World} (hb : Below W.heap.size W W') : ∀ (ts : List TypeId) (us : List Value) (ds : List (DataW H)) (ps : List MemPlace), (ts.all fun t => P.readableRec t && decide (t < P.types.size)) = true →
 DataW.TrodAll enc P W 0 (fun _ => true) true ts us ds ps → (∀ x ∈ ps, x.block < W.heap.size) → DataW.TrodAll enc P W' 0 (fun b => decide (b < W.heap.size)) true ts us ds ps
 | [], us, ds, ps, _, h, _ => by
  cases us <;> cases ds <;> simp [DataW.TrodAll] at h ⊢
  exact h
 | t :: ts, us, ds, ps, hr, h, hlt => by
  cases us with
  | nil => simp [DataW.TrodAll] at h
  | cons u us =>
   cases ds with
   | nil => simp [DataW.TrodAll] at h
   | cons d ds =>
    obtain ⟨p, q, ht, hrest, rfl⟩ := h
    rw [List.all_cons, Bool.and_eq_true, Bool.and_eq_true] at hr
    exact ⟨p, q, Below.trod hl hr.1.1 (of_decide_eq_true hr.1.2) ht hb (fun x hx => hlt x (List.mem_append.2 (.inl hx))), args_stay hl hb ts us ds q hr.2 hrest (fun x hx => hlt x (List.mem_append.2 (.inr hx))), rfl⟩
theorem trodAll_len {base : Nat} {spare : Nat → Bool} {held : Bool} : ∀ (ts : List TypeId) (us : List Value) (ds : List (DataW H)) (ps : List MemPlace), DataW.TrodAll enc P W base spare held ts us ds ps → ds.length = ts.length
 | [], us, ds, ps, h => by cases us <;> cases ds <;> simp [DataW.TrodAll] at h ⊢
 | t :: ts, us, ds, ps, h => by
  cases us with
  | nil => simp [DataW.TrodAll] at h
  | cons u us =>
   cases ds with
   | nil => simp [DataW.TrodAll] at h
   | cons d ds =>
    obtain ⟨p, q, _, hrest, _⟩ := h
    simp [trodAll_len ts us ds q hrest]
theorem law_calls (hE : EnvOk E P) (hl : laidOutB P = true) {f : FuncId} {fn : Func} {s : ChangeSpec} {apart fresh handsOn : Bool} {g : Nat} {shs : List (Bool × List PSh)} {tb : TypeId}
 (hvars : s.vars = []) (hfn : ∀ ds : List (DataW H), ds.length = fn.params.toList.length → s.fn H ds = { results := [.lit (.bool true)], args := ds })
 (hres : fn.resultTypes = #[tb]) (htb : P.underlying tb = some .bool) (hread : (fn.params.toList.all fun t => P.readableRec t && decide (t < P.types.size)) = true)
 (hsh : argShapes P g fn.params.toList = some shs) (hblt : Nat.blt f muBase = true) (hsem : ∀ vs, inArgs shs vs → ∃ k, sem E k f vs = some (.bool true))
 {base : Nat} {args : Array Value} {ds gs : List (DataW H)} {before : List MemPlace}
 (hval : ∀ (j : Nat) t v, fn.params[j]? = some t → args[j]? = some v → Value.okWide P W .any base t v)
 (hW : DataW.Whole enc P fn.params.toList s.vars apart W args.toList ds gs before) :
 Calls P f args W fun e W' => ∃ v, e = .returned v ∧ s.post enc P fn apart fresh handsOn false W args v W' := by
 have hW' := hW
 obtain ⟨p, q, hA, hV, rfl, hfz, hnd⟩ := hW
 rw [hvars] at hV
 have hgs : gs = [] ∧ q = [] := by cases gs <;> simp [DataW.TrodVars] at hV ⊢; exact hV
 obtain ⟨rfl, rfl⟩ := hgs
 obtain ⟨vs, h1, h2⟩ := args_read (ok := okN (fun _ => False) W) g (fun b hb => ⟨hb, fun h => h⟩) fn.params.toList args.toList ds p shs hA (fun j t v hj hv => hval j t v (by simpa using hj) (by simpa using hv)) hsh
 obtain ⟨k, hk⟩ := hsem vs h1
 have hcalls := ((sem_ok hE k f vs _ hk).1 hblt).2 (fun _ => False) W args.toList (fun _ h => h.elim) h2
 rw [Array.toArray_toList] at hcalls
 refine Calls.mono hcalls fun e W' he => ?_
 cases e with
 | panicked chain => exact he.elim
 | outgrown => exact he.elim
 | returned u =>
  simp only at he
  obtain ⟨σ', _, hr, hrt⟩ := he 0 rfl
  have hu := RT_bool hrt
  subst hu
  have hbelow : Below W.heap.size W W' := ⟨hr.kept.os, hr.kept.tape, hr.kept.output, hr.kept.size, fun k hk => hr.kept.block k hk⟩
  have hlen := trodAll_len _ _ _ _ hA
  have hspec := hfn (ds ++ []) (by rw [List.append_nil]; exact hlen)
  rw [List.append_nil] at hspec
  refine ⟨_, rfl, ds, [], p ++ [], [], p, [], hW', ?_, ?_, ?_, Below.frame hbelow _, fun h => by cases h⟩
  ·rw [List.append_nil, hspec, hres]
   refine ⟨[], [], ⟨1, ?_⟩, rfl, rfl⟩
   simp [DataW.trod, Value.cells, htb]
  ·rw [List.append_nil, hspec]
   exact args_stay hl hbelow _ _ _ _ hread hA fun x hx => by simpa using hW'.lt x (List.mem_append.2 (.inl hx))
  ·rw [List.append_nil, hspec, hvars]
   rfl
end
end Go.Proofs.YthdnamhilcjnhaaGreatDoor
