/- Equality of arrays and structs of whole numbers. -/
import Derived.Test.YthdnamhilcjnhaaGreatDoorRv1
import Derived.DeepKeys
namespace Go.Proofs.YthdnamhilcjnhaaGreatDoor
open Go Go.RowKit
set_option linter.unusedVariables false
set_option linter.unusedSimpArgs false
def zipI : List IntKind → List Int → List Value
 | k :: ks, n :: ns => .int k n :: zipI ks ns
 | _, _ => []
def wfs : List IntKind → List Int → Bool
 | [], [] => true
 | k :: ks, n :: ns => wfK k n && wfs ks ns
 | _, _ => false
def keyVal (kd : Bool × List IntKind) (ns : List Int) : Value := match kd.1 with
 | true => .agg (zipI kd.2 ns).toArray
 | false => match zipI kd.2 ns with
  | [x] => x
  | _ => undef
def eqFs (P : Program) (q : TypeId → Bool) : List Go.Field → Nat → Nat → Bool
 | [], o, tot => Nat.beq o tot
 | f :: fs, o, tot => Nat.beq f.offset o && (f.name != "_") && q f.type && eqFs P q fs (o + P.cellsOf f.type) tot
def eqTy (P : Program) : Nat → TypeId → Bool
 | 0, _ => false
 | m + 1, t => match P.underlying t with
  | some (.int _) => Nat.beq (P.cellsOf t) 1
  | some (.array n e) => eqTy P m e && Nat.beq (P.cellsOf t) (n * P.cellsOf e)
  | some (.struct fs) => eqFs P (eqTy P m) fs.toList 0 (P.cellsOf t) && !P.stoodInHeld t
  | _ => false
def valOf (P : Program) (t : TypeId) (cs : List Value) : Value := match P.underlying t with
 | some (.array _ _) => .agg cs.toArray
 | some (.struct _) => .agg cs.toArray
 | _ => match cs with
  | [v] => v
  | _ => undef
def lefts (ps : List (IntKind × Int × Int)) : List Value := ps.map fun p => .int p.1 p.2.1
def rights (ps : List (IntKind × Int × Int)) : List Value := ps.map fun p => .int p.1 p.2.2
def sames (ps : List (IntKind × Int × Int)) : Bool := ps.all fun p => decide (p.2.1 = p.2.2)
def EqC (P : Program) (d : Nat) (t : TypeId) : Prop := ∀ (w : World) (ps : List (IntKind × Int × Int)), ps.length = P.cellsOf t →
 (Op.equalIn d t (valOf P t (lefts ps)) (valOf P t (rights ps))).run P w = .ok (sames ps) w
section
variable {P : Program}
theorem part_valOf {m : Nat} {e : TypeId} (he : eqTy P m e = true) {xs : Array Value} {off : Nat} {cs : List Value} (hx : (xs.toList.drop off).take (P.cellsOf e) = cs) (hl : cs.length = P.cellsOf e) (w : World) :
 (part e xs off).run P w = .ok (valOf P e cs) w := by
 cases m with
 | zero => simp [eqTy] at he
 | succ m =>
  unfold eqTy at he
  have agg : ∀ d, P.underlying e = some d → ((∃ n e', d = .array n e') ∨ (∃ fs, d = .struct fs)) → (part e xs off).run P w = .ok (valOf P e cs) w := by
   intro d hu hd
   obtain ⟨i, hi⟩ := info_of_underlying hu
   have h1 : (xs.extract off (off + P.cellsOf e)) = cs.toArray := by
    apply Array.ext'
    rw [Array.toList_extract, ← hx]
    simp [List.extract]
   rcases hd with ⟨n, e', rfl⟩ | ⟨fs, rfl⟩ <;> simp [part, isAgg, run_underlying hu, run_sizeOf w hi, valOf, hu, h1]
  cases hu : P.underlying e with
  | none => simp [hu] at he
  | some d =>
   cases d
   case int k =>
    simp only [hu] at he
    have h1 : P.cellsOf e = 1 := Nat.eq_of_beq_eq_true he
    rw [h1] at hx hl
    obtain ⟨v, rfl⟩ : ∃ v, cs = [v] := by
     match cs, hl with
     | [v], _ => exact ⟨v, rfl⟩
    have h2 : xs[off]? = some v := by
     have : ((xs.toList.drop off).take 1)[0]? = some v := by rw [hx]; rfl
     rw [List.getElem?_take, if_pos (by omega), List.getElem?_drop] at this
     simpa using this
    rw [run_part_plain w (by simp [Program.plainKey, hu]) h2]
    simp [valOf, hu]
   case array n e' => exact agg _ hu (.inl ⟨n, e', rfl⟩)
   case struct fs => exact agg _ hu (.inr ⟨fs, rfl⟩)
   all_goals simp [hu] at he
theorem part_lefts {m : Nat} {e : TypeId} (he : eqTy P m e = true) (ps : List (IntKind × Int × Int)) (off : Nat) (h : off + P.cellsOf e ≤ ps.length) (w : World) :
 (part e (lefts ps).toArray off).run P w = .ok (valOf P e (lefts ((ps.drop off).take (P.cellsOf e)))) w := by
 refine part_valOf he (by simp [lefts]) ?_ w
 simp [lefts]; omega
theorem part_rights {m : Nat} {e : TypeId} (he : eqTy P m e = true) (ps : List (IntKind × Int × Int)) (off : Nat) (h : off + P.cellsOf e ≤ ps.length) (w : World) :
 (part e (rights ps).toArray off).run P w = .ok (valOf P e (rights ((ps.drop off).take (P.cellsOf e)))) w := by
 refine part_valOf he (by simp [rights]) ?_ w
 simp [rights]; omega
theorem sames_split (ps : List (IntKind × Int × Int)) (off n : Nat) : sames (ps.drop off) = (sames ((ps.drop off).take n) && sames (ps.drop (off + n))) := by
 unfold sames
 rw [← List.all_append, ← List.drop_drop, List.take_append_drop]
theorem eqItems_run {m d : Nat} {e : TypeId} (he : eqTy P m e = true) (IH : EqC P d e) (ps : List (IntKind × Int × Int)) : ∀ (n i : Nat) (w : World), (i + n) * P.cellsOf e = ps.length →
 (Op.eqItems d e (P.cellsOf e) (lefts ps).toArray (rights ps).toArray (List.range' i n)).run P w = .ok (sames (ps.drop (i * P.cellsOf e))) w
 | 0, i, w, h => by
  rw [Nat.add_zero] at h
  rw [List.drop_of_length_le (by omega)]
  simp [Op.eqItems, sames]
 | n + 1, i, w, h => by
  have h1 : (i + 1) * P.cellsOf e ≤ ps.length := by rw [← h]; exact Nat.mul_le_mul_right _ (by omega)
  rw [Nat.succ_mul] at h1
  rw [List.range'_succ]
  simp only [Op.eqItems, Sem.run_bind, part_lefts he ps _ h1, part_rights he ps _ h1, Result.andThen_ok]
  rw [IH w _ (by rw [List.length_take, List.length_drop]; omega)]
  rw [sames_split ps _ (P.cellsOf e)]
  simp only [Result.andThen_ok]
  cases sames ((ps.drop (i * P.cellsOf e)).take (P.cellsOf e)) with
  | false => simp
  | true =>
   have := eqItems_run he IH ps n (i + 1) w (by rw [← h]; congr 1; omega)
   rw [Nat.succ_mul] at this
   simpa using this
theorem eqFields_run {m d : Nat} (IH : ∀ e, eqTy P m e = true → EqC P d e) (ps : List (IntKind × Int × Int)) : ∀ (fs : List Go.Field) (o : Nat) (w : World), eqFs P (eqTy P m) fs o ps.length = true →
 (Op.eqFields d (lefts ps).toArray (rights ps).toArray fs).run P w = .ok (sames (ps.drop o)) w
 | [], o, w, h => by
  have h := Nat.eq_of_beq_eq_true h
  rw [List.drop_of_length_le (by omega)]
  simp [Op.eqFields, sames]
 | f :: fs, o, w, h => by
  simp only [eqFs, Bool.and_eq_true, bne_iff_ne, ne_eq] at h
  obtain ⟨⟨⟨h1, h2⟩, h3⟩, h4⟩ := h
  have h1 := Nat.eq_of_beq_eq_true h1
  have hle : ∀ (fs : List Go.Field) (o : Nat), eqFs P (eqTy P m) fs o ps.length = true → o ≤ ps.length := by
   intro fs
   induction fs with
   | nil => intro o h; have := Nat.eq_of_beq_eq_true h; omega
   | cons g fs ih =>
    intro o h
    simp only [eqFs, Bool.and_eq_true] at h
    have := ih _ h.2
    omega
  have h5 := hle _ _ h4
  simp only [Op.eqFields, h2, not_false_eq_true, ne_eq, if_true, Sem.run_bind, h1, part_lefts h3 ps o h5, part_rights h3 ps o h5, Result.andThen_ok]
  rw [IH _ h3 w _ (by rw [List.length_take, List.length_drop]; omega)]
  rw [sames_split ps o (P.cellsOf f.type)]
  simp only [Result.andThen_ok]
  cases sames ((ps.drop o).take (P.cellsOf f.type)) with
  | false => simp
  | true =>
   have := eqFields_run IH ps fs (o + P.cellsOf f.type) w h4
   simpa using this
theorem eqTy_run (d : Nat) : ∀ (m : Nat) (t : TypeId), eqTy P m t = true → EqC P (d + m) t
 | 0, t, h => by simp [eqTy] at h
 | m + 1, t, h => by
  intro w ps hl
  unfold eqTy at h
  cases hu : P.underlying t with
  | none => simp [hu] at h
  | some dd =>
   cases dd
   case int k =>
    simp only [hu] at h
    have h1 : P.cellsOf t = 1 := Nat.eq_of_beq_eq_true h
    rw [h1] at hl
    match ps, hl with
    | [p], _ =>
     have e1 : valOf P t (lefts [p]) = .int p.1 p.2.1 := by simp [valOf, hu, lefts]
     have e2 : valOf P t (rights [p]) = .int p.1 p.2.2 := by simp [valOf, hu, rights]
     rw [e1, e2]
     show (Op.equalIn ((d + m) + 1) t _ _).run P w = _
     simp only [Op.equalIn, Sem.run_bind, run_underlying hu, Result.andThen_ok]
     simp [sames]
     rfl
   case array n e =>
    simp only [hu, Bool.and_eq_true] at h
    have h1 := Nat.eq_of_beq_eq_true h.2
    obtain ⟨i, hi⟩ : ∃ i, P.info? e = some i := by
     have h2 := h.1
     cases m with
     | zero => simp [eqTy] at h2
     | succ m =>
      unfold eqTy at h2
      cases hue : P.underlying e with
      | none => simp [hue] at h2
      | some _ => exact info_of_underlying hue
    have e1 : valOf P t (lefts ps) = .agg (lefts ps).toArray := by simp [valOf, hu]
    have e2 : valOf P t (rights ps) = .agg (rights ps).toArray := by simp [valOf, hu]
    rw [e1, e2, show d + (m + 1) = (d + m) + 1 from rfl, run_equalIn_array w (d + m) _ _ hu hi]
    have := eqItems_run h.1 (eqTy_run d m e h.1) ps n 0 w (by rw [Nat.zero_add, hl, h1])
    rw [← List.range_eq_range'] at this
    simpa using this
   case struct fs =>
    simp only [hu, Bool.and_eq_true, Bool.not_eq_true'] at h
    have hfs : P.fieldsOf t = fs := by simp [Program.fieldsOf, hu]
    have e1 : valOf P t (lefts ps) = .agg (lefts ps).toArray := by simp [valOf, hu]
    have e2 : valOf P t (rights ps) = .agg (rights ps).toArray := by simp [valOf, hu]
    rw [e1, e2, show d + (m + 1) = (d + m) + 1 from rfl, run_equalIn_struct w (d + m) t _ _ (by rw [hfs]; exact hu) h.2, hfs]
    have := eqFields_run (eqTy_run d m) ps fs.toList 0 w (by rw [hl]; exact h.1)
    simpa using this
   all_goals simp [hu] at h
theorem eq_agg {m : Nat} (hm : m ≤ 10000) {t : TypeId} (h : eqTy P m t = true) (ha : (match P.underlying t with | some (.array _ _) | some (.struct _) => true | _ => false) = true) (ps : List (IntKind × Int × Int)) (hl : ps.length = P.cellsOf t)
 {xs ys : Array Value} (hx : xs.toList = lefts ps) (hy : ys.toList = rights ps) (w : World) : (Op.equal t (.agg xs) (.agg ys)).run P w = .ok (sames ps) w := by
 have := eqTy_run (10000 - m) m t h w ps hl
 rw [show 10000 - m + m = 10000 by omega] at this
 have e1 : valOf P t (lefts ps) = .agg xs := by
  have : xs = (lefts ps).toArray := by apply Array.ext'; simpa using hx
  rw [this]
  unfold valOf
  split at ha <;> simp_all
 have e2 : valOf P t (rights ps) = .agg ys := by
  have : ys = (rights ps).toArray := by apply Array.ext'; simpa using hy
  rw [this]
  unfold valOf
  split at ha <;> simp_all
 rw [e1, e2] at this
 exact this
end
end Go.Proofs.YthdnamhilcjnhaaGreatDoor
