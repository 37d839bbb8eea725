/- Maps with bools: what is put in is found. -/
import Derived.Test.YtkfihbdikdkcmaaRg1
import Derived.Test.YtkfihbdikdkcmaaRq1
namespace Go.Proofs.Ytkfihbdikdkcmaa
open Go
set_option linter.unusedVariables false
set_option linter.unusedSimpArgs false

def kNums (v : V) : List Int := keyNums (partsOf v)
theorem mapFind_append (k x : V) : ∀ (xs : List V) (i : Nat), mapFind k (xs ++ [x]) i = match mapFind k xs i with | some j => some j | none => if sameKey k x = true then some (i + xs.length) else none
  | [], i => by
    simp only [List.nil_append, mapFind, sameKey, List.length_nil, Nat.add_zero]
    split <;> rename_i h <;> simp [h]
  | y :: ys, i => by
    simp only [List.cons_append, mapFind]
    cases sameParts (partsOf k) (partsOf y) with
    | true => rfl
    | false =>
      simp only [mapFind_append k x ys (i + 1), List.length_cons]
      rw [show i + 1 + ys.length = i + (ys.length + 1) by omega]
theorem mapFind_lt {k : V} : ∀ {xs : List V} {i j : Nat}, mapFind k xs i = some j → i ≤ j ∧ j < i + xs.length ∧ ∃ x, xs[j - i]? = some x ∧ sameKey k x = true
  | [], i, j, h => by simp [mapFind] at h
  | y :: ys, i, j, h => by
    simp only [mapFind] at h
    split at h
    · rename_i hs
      simp only [Option.some.injEq] at h
      subst h
      exact ⟨Nat.le_refl _, by simp, y, by simp, hs⟩
    · obtain ⟨h1, h2, x, h3, h4⟩ := mapFind_lt h
      refine ⟨by omega, by simp only [List.length_cons]; omega, x, ?_, h4⟩
      rw [show j - i = (j - (i + 1)) + 1 by omega]
      simpa using h3
theorem nth_eq {α : Type} (l : List α) (i : Nat) : nth l i = l[i]? := nth_getE l i
theorem nthSet {α : Type} : ∀ (l : List α) (i j : Nat) (x : α), nth (setNth l i x) j = if j = i then (if i < l.length then some x else none) else nth l j
  | [], i, j, x => by simp [setNth, nth]
  | y :: l, 0, 0, x => by simp [setNth, nth]
  | y :: l, 0, j + 1, x => by simp [setNth, nth]
  | y :: l, i + 1, 0, x => by simp [setNth, nth]
  | y :: l, i + 1, j + 1, x => by simp [setNth, nth, nthSet l i j x]
theorem setLen {α : Type} : ∀ (l : List α) (i : Nat) (x : α), (setNth l i x).length = l.length
  | [], i, x => rfl
  | y :: l, 0, x => rfl
  | y :: l, i + 1, x => by simp [setNth, setLen l i x]
theorem allBools_set : ∀ (vs : List V) (j : Nat) (b : Bool), allBools vs = true → allBools (setNth vs j (.bool b)) = true
  | [], j, b, _ => rfl
  | v :: vs, 0, b, h => by cases v <;> simp only [allBools, Bool.false_eq_true] at h; simpa only [setNth, allBools] using h
  | v :: vs, j + 1, b, h => by cases v <;> simp only [allBools, Bool.false_eq_true] at h; simpa only [setNth, allBools] using allBools_set vs j b h
theorem allBools_snoc : ∀ (vs : List V) (b : Bool), allBools vs = true → allBools (vs ++ [.bool b]) = true
  | [], b, _ => rfl
  | v :: vs, b, h => by cases v <;> simp only [allBools, Bool.false_eq_true] at h; simpa only [List.cons_append, allBools] using allBools_snoc vs b h
theorem hasKey_append (k x : V) : ∀ (xs : List V), hasKey k (xs ++ [x]) = (hasKey k xs || sameKey k x)
  | [] => by simp [hasKey]
  | y :: ys => by simp only [List.cons_append, hasKey, hasKey_append k x ys, Bool.or_assoc]
theorem keysFine_snoc {kd : Bool × List IntKind} {k : V} (hk : keyIs kd k = true) : ∀ (xs : List V), keysFine kd xs = true → (∀ x, x ∈ xs → kNums k ≠ kNums x) → keysFine kd (xs ++ [k]) = true
  | [], _, _ => by simp [keysFine, hasKey, hk]
  | y :: ys, h, hn => by
    simp only [keysFine, Bool.and_eq_true, Bool.not_eq_true'] at h
    simp only [List.cons_append, keysFine, Bool.and_eq_true, Bool.not_eq_true']
    refine ⟨⟨h.1.1, ?_⟩, keysFine_snoc hk ys h.2 fun x hx => hn x (by simp [hx])⟩
    rw [hasKey_append, h.1.2, Bool.false_or]
    cases hs : sameKey y k with
    | false => rfl
    | true => exact absurd ((sameKey_iff h.1.1 hk).1 hs).symm (hn y (by simp))
theorem mapFind_no {kd : Bool × List IntKind} {k : V} (hk : keyIs kd k = true) {ks : List V} (h : keysFine kd ks = true) (hf : mapFind k ks 0 = none) : ∀ x, x ∈ ks → kNums k ≠ kNums x := by
  intro x hx he
  obtain ⟨j, hj⟩ := List.mem_iff_getElem?.1 hx
  have := mapFind_at hk ks 0 j x h hj he
  rw [hf] at this; cases this
theorem mapPut_fine {kd : Bool × List IntKind} {ks vs : List V} {k : V} (b : Bool) (h : mapFine kd ks vs = true) (hl : ks.length = vs.length) (hk : keyIs kd k = true) :
    mapFine kd (mapPutK k ks) (mapPutV k (.bool b) ks vs) = true ∧ (mapPutK k ks).length = (mapPutV k (.bool b) ks vs).length := by
  simp only [mapFine, Bool.and_eq_true] at h ⊢
  unfold mapPutK mapPutV
  cases hf : mapFind k ks 0 with
  | some j => exact ⟨⟨h.1, allBools_set _ _ _ h.2⟩, by simp [setLen, hl]⟩
  | none => exact ⟨⟨keysFine_snoc hk ks h.1 (mapFind_no hk h.1 hf), allBools_snoc _ _ h.2⟩, by simp [hl]⟩
theorem mapFind_same {kd : Bool × List IntKind} {k k' : V} (hk : keyIs kd k = true) (hk' : keyIs kd k' = true) (he : kNums k' = kNums k) {ks : List V} (h : keysFine kd ks = true) : mapFind k' ks 0 = mapFind k ks 0 := by
  cases hf : mapFind k ks 0 with
  | none => exact mapFind_none hk' ks 0 h fun x hx hn => mapFind_no hk h hf x hx (he.symm.trans hn)
  | some j =>
    obtain ⟨_, _, x, h3, h4⟩ := mapFind_lt hf
    simp only [Nat.sub_zero] at h3
    have := mapFind_at hk' ks 0 j x h h3 (he.trans ((sameKey_iff hk (keysFine_mem h (List.mem_of_getElem? h3))).1 h4))
    rwa [Nat.zero_add] at this
theorem getB_put {kd : Bool × List IntKind} {ks vs : List V} {k k' : V} (b : Bool) (h : mapFine kd ks vs = true) (hl : ks.length = vs.length) (hk : keyIs kd k = true) (hk' : keyIs kd k' = true) :
    mapGetB k' (mapPutK k ks) (mapPutV k (.bool b) ks vs) = if kNums k' = kNums k then b else mapGetB k' ks vs := by
  simp only [mapFine, Bool.and_eq_true] at h
  unfold mapGetB mapPutK mapPutV
  cases hf : mapFind k ks 0 with
  | some j =>
    obtain ⟨_, hj, x, h3, h4⟩ := mapFind_lt hf
    simp only [Nat.zero_add, Nat.sub_zero] at hj h3
    by_cases he : kNums k' = kNums k
    · rw [if_pos he, mapFind_same hk hk' he h.1, hf]
      simp only [nthSet, if_true]
      rw [if_pos (by omega)]
    · rw [if_neg he]
      cases hf' : mapFind k' ks 0 with
      | none => rfl
      | some j' =>
        obtain ⟨_, _, x', h5, h6⟩ := mapFind_lt hf'
        simp only [Nat.sub_zero] at h5
        simp only [nthSet]
        rw [if_neg]
        rintro rfl
        rw [h3] at h5
        cases h5
        have e1 := (sameKey_iff hk (keysFine_mem h.1 (List.mem_of_getElem? h3))).1 h4
        have e2 := (sameKey_iff hk' (keysFine_mem h.1 (List.mem_of_getElem? h3))).1 h6
        exact he (e2.trans e1.symm)
  | none =>
    simp only [mapFind_append]
    by_cases he : kNums k' = kNums k
    · rw [if_pos he, mapFind_same hk hk' he h.1, hf]
      simp only [(sameKey_iff hk' hk).2 he, if_true, Nat.zero_add, nth_eq]
      rw [List.getElem?_append_right (by omega), hl]
      simp
    · rw [if_neg he]
      have hs : sameKey k' k = false := by
        cases hs : sameKey k' k with
        | false => rfl
        | true => exact absurd ((sameKey_iff hk' hk).1 hs) he
      cases hf' : mapFind k' ks 0 with
      | none => simp [hs]
      | some j' =>
        obtain ⟨_, hj, _⟩ := mapFind_lt hf'
        simp only [nth_eq]
        rw [List.getElem?_append_left (by omega)]
theorem getB_nil (k : V) : mapGetB k [] [] = false := rfl
end Go.Proofs.Ytkfihbdikdkcmaa
