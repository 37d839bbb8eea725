/- Structs built, lengths, slices of arrays. -/
import Derived.Test.YthdnamhilcjnhaaGreatDoorRs8
import Derived.Maps.AppendAt
import Derived.Great.BuildSlice
namespace Go.Proofs.YthdnamhilcjnhaaGreatDoor
open Go Go.RowKit
set_option linter.unusedVariables false
set_option linter.unusedSimpArgs false
section
variable {E : Env} {P : Program} {keep : Nat → Prop} {w0 : World} {σ : Sg} {w : World} {st : St} {a : Act} {o : Oper} {v : V} {es : List (Nat × Ent)} {call : Nat → List V → Option V} {ent : Nat → Ent}
theorem fold_part (off : Nat) (vs : Array Value) (cs : Array Value) (h : off + vs.size ≤ cs.size) :
 (vs.zipIdx.foldl (fun cs (x : Value × Nat) => cs.setIfInBounds (off + x.2) x.1) cs).toList = cs.toList.take off ++ vs.toList ++ cs.toList.drop (off + vs.size) := by
 rw [← Array.foldl_toList, Array.toList_zipIdx]
 obtain ⟨h1, h2⟩ := Go.Great.foldl_set off vs.toList 0 cs
 apply List.ext_getElem?
 intro k
 rw [Array.getElem?_toList, h2 k]
 simp only [List.getElem?_append, List.length_append, List.length_take, List.getElem?_take, List.getElem?_drop, Array.length_toList, Array.getElem?_toList, Nat.add_zero]
 rw [Nat.min_eq_left (by omega)]
 by_cases h3 : k < off
 ·rw [if_neg (by omega), if_pos (by omega), if_pos h3, if_pos h3]
 ·by_cases h4 : k < off + vs.size
  ·rw [if_pos (by omega), if_pos h4, if_neg h3]
  ·rw [if_neg (by omega), if_neg h4]
   congr 1
   omega
theorem build_sound (hE : EnvOk E P) (hf : FRel E st.ent σ w st a) (fields : Array Go.Field) (places : List (Nat × Nat)) (fs : List (Nat × Nat))
 (hfs : fields.toList.map (fun f => (f.offset, f.type)) = fs) (hpl : places = fs.map fun f => (f.1, E.sz f.2)) :
 ∀ (gs : List (Nat × Operand)) (ps l : List V) (cells : Array Value), buildP E st fs gs ps = some l → ROL E st.ent σ w ps cells.toList →
  ∃ cells', Instr.fill (places[·]?) cells (gs.map fun (i, x) => (i, a.eval x)) = some cells' ∧ ROL E st.ent σ w l cells'.toList
 | [], ps, l, cells, h, hp => by
  simp only [buildP, Option.some.injEq] at h
  subst h
  exact ⟨cells, rfl, hp⟩
 | (i, x) :: gs, ps, l, cells, h, hp => by
  simp only [buildP] at h
  split at h
  ·rename_i off ft hn
   split at h
   ·rename_i pi rel fty hl hcap hsz hfty
    split at h
    ·rename_i ps' hz hset
     have hx := ev_RT (E := E) hf ft x
     have hsz : psize (partsOf (st.ev E ft x)) = E.sz ft := Nat.eq_of_beq_eq_true hsz
     have hcs := capOk_size hx hcap
     have hrol := RT_parts hx hcs.symm hcap
     obtain ⟨_, h3⟩ := locate_start _ _ _ _ _ hl
     have hz := isZero_eq hz
     subst hz
     rw [Nat.sub_zero, Nat.add_zero] at h3
     obtain ⟨h4, h5, h6⟩ := setAt_ROL _ _ hrol ps pi ps' cells.toList hset hp
     have hul : (a.eval x).cells.toList.length = (a.eval x).cells.size := by simp
     rw [hul] at h5 h6
     rw [← h3] at h5 h6
     have h5' : off + (a.eval x).cells.size ≤ cells.size := by simpa using h5
     have hfold := fold_part off (a.eval x).cells cells h5'
     rw [← hfold] at h6
     obtain ⟨cells', h7, h8⟩ := build_sound hE hf fields places fs hfs hpl gs ps' l _ h h6
     refine ⟨cells', ?_, h8⟩
     have hpi : places[i]? = some (off, E.sz ft) := by
      subst hpl
      have : ∀ (l : List (Nat × Nat)) (i : Nat), nth l i = some (off, ft) → (l.map fun f => (f.1, E.sz f.2))[i]? = some (off, E.sz ft) := by
       intro l
       induction l with
       | nil => intro i h; cases i <;> simp [nth] at h
       | cons y l ih =>
        intro i h
        cases i with
        | zero => simp only [nth, Option.some.injEq] at h; subst h; rfl
        | succ i => simp only [nth] at h; simpa using ih i h
      exact this _ _ hn
     simp only [List.map_cons]
     unfold Instr.fill
     simp only [hpi]
     rw [hcs, hsz]
     simp only [ne_eq, not_true_eq_false, decide_false, Bool.false_or, decide_eq_true_eq]
     rw [if_neg (by rw [← hsz, ← hcs]; omega)]
     exact h7
    ·cases h
   ·cases h
  ·cases h
theorem places_map {fields : List Go.Field} (hE : EnvOk E P) (h : ∀ f ∈ fields, (E.ty f.type).isSome = true) :
 fields.mapM (fun f => (P.info? f.type).map fun i => (f.offset, i.size)) = some (fields.map fun f => (f.offset, E.sz f.type)) := by
 induction fields with
 | nil => rfl
 | cons f l ih =>
  have hf := h f (by simp)
  cases ht : E.ty f.type with
  | none => simp [ht] at hf
  | some ty =>
   obtain ⟨d, i, z, h1, h2, h3, h4, _⟩ := hE.ty _ _ ht
   simp [List.mapM_cons, h3, ih (fun g hg => h g (by simp [hg])), h4, sz_eq ht]
theorem op_build (hE : EnvOk E P) (hr : HR E keep w0 st.ent σ w) (hf : FRel E st.ent σ w st a) (t : TypeId) (gs : Array (Nat × Operand)) (ho : o.op = .build t gs) (h : (stepOp E call o st).eval = some (v, es)) :
 Done E keep w0 st.ent σ w ((execOp a.eval o).run P w) v es := by
 simp only [stepOp, ho] at h
 split at h
 ·rename_i ty ht
  split at h
  ·rename_i fs hd
   split at h
   ·rename_i ps hb
    simp only [Tr.eval, Option.some.injEq, Prod.mk.injEq] at h
    obtain ⟨rfl, rfl⟩ := h
    obtain ⟨d, i, z, h1, h2, h3, h4, h5, h6, h7, h8, h9, h10, h11, h12⟩ := hE.ty t ty ht
    rw [hd] at h2
    cases d <;> simp only [tyD] at h2
    rename_i fields
    have hall : ∀ f ∈ fields.toList, (E.ty f.type).isSome = true := by
     intro f hf'
     refine h12 fs hd (f.offset, f.type) ?_
     rw [← h2]
     exact List.mem_map.2 ⟨f, hf', rfl⟩
    have hpl := places_map hE hall
    obtain ⟨cells', h13, h14⟩ := build_sound hE hf fields (fields.toList.map fun f => (f.offset, E.sz f.type)) fs h2 (by rw [← h2]; simp) gs.toList ty.zero ps z.cells hb (ROL_of_RFL _ _ (h8 _ _))
    refine Done.pure hr (u := .agg cells') ?_ ⟨cells', rfl, h14⟩
    have hbt : P.built t (gs.map fun (i, x) => (i, a.eval x)).toList = some cells' := by
     unfold Program.built
     simp only [h3, h1, h6, hpl]
     rw [Array.toList_map]
     simpa using h13
    have := run_build (P := P) w t _ _ hbt
    simp [execOp, ho, this]
   ·simp [Tr.eval] at h
  ·rename_i n e hd
   split at h
   ·rename_i k m c hg hz
    simp only [Tr.eval, Option.some.injEq, Prod.mk.injEq] at h
    obtain ⟨rfl, rfl⟩ := h
    obtain ⟨d, i, z, h1, h2, h3, h4, h5, h6, h7, h8, h9, h10, h11, h12⟩ := hE.ty t ty ht
    have hsome := (h11 n e hd).2
    rw [hd] at h2
    cases d <;> simp only [tyD] at h2
    obtain ⟨rfl, rfl⟩ := h2
    have hz8 := h8 w (okB st.ent σ w)
    rw [hz] at hz8
    simp only [RFL] at hz8
    obtain ⟨a1, b1, hz9, _, hz10, rfl⟩ := hz8
    rw [List.append_nil] at hz9
    simp only [RF] at hz10
    refine Done.pure hr (u := .agg z.cells) ?_ ⟨z.cells, rfl, by rw [hz9]; exact hz10⟩
    have hgs : gs = #[] := by apply Array.ext'; simpa using hg
    subst hgs
    obtain ⟨ety, hety⟩ := Option.isSome_iff_exists.1 hsome
    obtain ⟨_, ie, _, _, _, hie, _⟩ := hE.ty _ ety hety
    have hbt : P.built t (#[].map fun (x : Nat × Operand) => (x.1, a.eval x.2)).toList = some z.cells := by
     unfold Program.built
     simp [h3, h1, h6, hie, Instr.fill]
    have := run_build (P := P) w t _ _ hbt
    have this : (Instr.build t #[]).run P w = .ok (.agg z.cells) w := by simpa using this
    simp [execOp, ho, this]
   ·simp [Tr.eval] at h
  ·simp [Tr.eval] at h
 ·simp [Tr.eval] at h
theorem RT_row (hr : HR E keep w0 ent σ w) {id e : Nat} {xs : List V} {u : Value} (hx : RT E ent σ w (.row id) u) (hp : ent id = .row e xs) : u = σ id := by
 have hx2 : RO1 E ent σ w (.row id) [u] := hx.2
 simp only [RO1] at hx2
 obtain ⟨u', h1, h2, h3, h4⟩ := hx2
 simp only [List.cons.injEq, and_true] at h1
 subst h1
 exact h4 e xs hp
theorem len_sound (hr : HR E keep w0 st.ent σ w) {x : V} {u : Value} {n : Nat} (hx : RT E st.ent σ w x u) (h : lenV st x = some n) : (∃ A cap, u = .slice A n cap) ∧ n ≤ maxLen := by
 unfold lenV at h
 split at h
 ·simp only [Option.some.injEq] at h
  subst h
  have hx2 : RO1 E st.ent σ w (.sl _) [u] := hx.2
  simp only [RO1, RF] at hx2
  obtain ⟨A, cap, h1, h2, _⟩ := hx2
  simp only [List.cons.injEq, and_true] at h1
  exact ⟨⟨A, cap, h1⟩, h2⟩
 ·simp only [Option.some.injEq] at h
  subst h
  have hx2 : RO1 E st.ent σ w .nils [u] := hx.2
  simp only [RO1, RF, List.cons.injEq, and_true] at hx2
  exact ⟨⟨none, 0, hx2⟩, by simp [maxLen]⟩
 ·rename_i id
  split at h
  ·rename_i e xs hp
   simp only [Option.some.injEq] at h
   subst h
   have hu := RT_row hr hx hp
   have he := hr.ents id
   unfold EntR at he
   rw [hp] at he
   obtain ⟨cells, h1, h2, h3⟩ := he
   rcases h1.2 with ⟨h4, h5⟩ | ⟨g, cap, cur, h4, h5, h6, h7, h8, _⟩
   ·exact ⟨⟨none, 0, by rw [hu, h4, h5]⟩, by rw [h5]; simp [maxLen]⟩
   ·exact ⟨⟨_, cap, by rw [hu, h4]⟩, by omega⟩
  ·cases h
 ·rename_i id pi rel n' sz
  split at h
  ·rename_i ps hp
   simp only [Option.some.injEq] at h
   subst h
   have hx2 : RO1 E st.ent σ w (.arr id pi rel _ sz) [u] := hx.2
   simp only [RO1] at hx2
   obtain ⟨u', h1, h2, h3, h4⟩ := hx2
   simp only [List.cons.injEq, and_true] at h1
   subst h1
   obtain ⟨b, cap, _, hu, hm, _⟩ := h4 ps hp
   exact ⟨⟨_, cap, hu⟩, hm⟩
  ·cases h
 ·cases h
end
end Go.Proofs.YthdnamhilcjnhaaGreatDoor
