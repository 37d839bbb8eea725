/- Parts of what is laid in cells; loads. -/
import Derived.Test.YthdnamhilcjnhaaGreatDoorRs0
namespace Go.Proofs.YthdnamhilcjnhaaGreatDoor
open Go Go.RowKit
set_option linter.unusedVariables false
set_option linter.unusedSimpArgs false
theorem RF_len {w : World} {ok : Nat → Prop} : ∀ (v : V) (cs : List Value), notP v = true → RF w ok v cs → cs.length = vsize1 v := by
 intro v cs hn h
 cases v <;> simp only [RF] at h <;> first
  | (subst h; simp [vsize1]; done)
  | (obtain ⟨_, _, h, _⟩ := h; subst h; rfl)
  | (obtain ⟨_, _, _, h, _⟩ := h; subst h; rfl)
  | (obtain ⟨_, h, _⟩ := h; subst h; rfl)
  | (simp [notP] at hn; done)
  | exact h.elim
theorem RFL_len {w : World} {ok : Nat → Prop} : ∀ (ps : List V) (cs : List Value), RFL w ok ps cs → cs.length = psize ps
 | [], cs, h => by simp only [RFL] at h; subst h; rfl
 | p :: ps, cs, h => by
  simp only [RFL] at h
  obtain ⟨a, b, rfl, h0, h1, h2⟩ := h
  rw [List.length_append, RF_len p a h0 h1, RFL_len ps b h2]; rfl
theorem RF_size {w : World} {ok : Nat → Prop} (v : V) (cs : List Value) (h : RF w ok v cs) : cs.length = psize (partsOf v) := by
 cases v with
 | parts ps => simp only [RF] at h; exact RFL_len ps cs h
 | _ => exact (RF_len _ cs rfl h).trans (by simp [partsOf, psize])
section
variable {E : Env} {ent : Nat → Ent} {σ : Sg} {w : World}
def isAggV : V → Bool
 | .parts _ => true
 | .ints _ _ _ => true
 | _ => false
mutual
theorem RO1_of_RF : ∀ (v : V) (cs : List Value), notP v = true → RF w (okB ent σ w) v cs → RO1 E ent σ w v cs
 | .clo f caps, cs, hn, h => by
  simp only [RF] at h
  simp only [RO1]
  obtain ⟨cv, h1, h2⟩ := h
  exact ⟨cv, h1, RTL_of_RFC caps cv h2⟩
 | .parts ps, cs, hn, h => by simp [notP] at hn
 | .int .., cs, _, h => by simpa only [RO1] using h
 | .bool .., cs, _, h => by simpa only [RO1] using h
 | .str .., cs, _, h => by simpa only [RO1] using h
 | .ints .., cs, _, h => by simpa only [RO1] using h
 | .nils, cs, _, h => by simpa only [RO1] using h
 | .nilp, cs, _, h => by simpa only [RO1] using h
 | .nilf, cs, _, h => by simpa only [RO1] using h
 | .nilm, cs, _, h => by simpa only [RO1] using h
 | .sl .., cs, _, h => by simpa only [RO1] using h
 | .ref .., cs, _, h => by simpa only [RO1] using h
 | .mapc .., cs, _, h => by simpa only [RO1] using h
 | .tup .., cs, _, h => by simpa only [RO1] using h
 | .fresh .., cs, _, h => by simpa only [RO1] using h
 | .ptr .., cs, _, h => by simp only [RF] at h
 | .elem .., cs, _, h => by simp only [RF] at h
 | .arr .., cs, _, h => by simp only [RF] at h
 | .row .., cs, _, h => by simp only [RF] at h
 | .mp .., cs, _, h => by simp only [RF] at h
 | .und, cs, _, h => by simpa only [RO1] using h
 | .dead, cs, _, h => by simpa only [RO1] using h
theorem ROL_of_RFL : ∀ (ps : List V) (cs : List Value), RFL w (okB ent σ w) ps cs → ROL E ent σ w ps cs
 | [], cs, h => by simp only [RFL] at h; simpa only [ROL] using h
 | p :: ps, cs, h => by
  simp only [RFL] at h
  obtain ⟨a, b, h1, h0, h2, h3⟩ := h
  simp only [ROL]
  exact ⟨a, b, h1, RO1_of_RF p a h0 h2, ROL_of_RFL ps b h3⟩
theorem RTL_of_RFC : ∀ (vs : List V) (us : List Value), RFC w (okB ent σ w) vs us → RTL E ent σ w vs us
 | [], us, h => by simp only [RFC] at h; simpa only [RTL] using h
 | v :: vs, us, h => by
  simp only [RFC] at h
  obtain ⟨u, l, h1, h2, h3, h4⟩ := h
  rw [RTL_cons]
  refine ⟨u, l, h1, ?_, RTL_of_RFC vs l h4⟩
  have key := fun cs hn => RO1_of_RF v cs hn
  have one : aggOk v u → isAggV v = false → u.cells.toList = [u] := by
   intro h5 h6
   cases v <;> simp only [isAggV, Bool.true_eq_false] at h6 <;> (cases u <;> first | rfl | simp [aggOk, Value.oneCell'] at h5)
  match v, h2, h3, key, one with
  | .parts ps, h2, h3, _, _ =>
   obtain ⟨cs, rfl⟩ := h3
   simp only [RF] at h2
   exact ⟨cs, rfl, ROL_of_RFL ps _ h2⟩
  | .ints k n c, h2, h3, _, _ =>
   obtain ⟨cs, rfl⟩ := h3
   simp only [RF] at h2
   exact ⟨cs, rfl, h2⟩
  | .int .., h2, h3, key, one => rw [one h3 rfl] at h2; exact ⟨h3, key _ rfl h2⟩
  | .bool .., h2, h3, key, one => rw [one h3 rfl] at h2; exact ⟨h3, key _ rfl h2⟩
  | .str .., h2, h3, key, one => rw [one h3 rfl] at h2; exact ⟨h3, key _ rfl h2⟩
  | .tup .., h2, h3, key, one => rw [one h3 rfl] at h2; exact ⟨h3, key _ rfl h2⟩
  | .nils, h2, h3, key, one => rw [one h3 rfl] at h2; exact ⟨h3, key _ rfl h2⟩
  | .nilp, h2, h3, key, one => rw [one h3 rfl] at h2; exact ⟨h3, key _ rfl h2⟩
  | .nilf, h2, h3, key, one => rw [one h3 rfl] at h2; exact ⟨h3, key _ rfl h2⟩
  | .nilm, h2, h3, key, one => rw [one h3 rfl] at h2; exact ⟨h3, key _ rfl h2⟩
  | .sl .., h2, h3, key, one => rw [one h3 rfl] at h2; exact ⟨h3, key _ rfl h2⟩
  | .fresh .., h2, h3, key, one => rw [one h3 rfl] at h2; exact ⟨h3, key _ rfl h2⟩
  | .ref .., h2, h3, key, one => rw [one h3 rfl] at h2; exact ⟨h3, key _ rfl h2⟩
  | .clo .., h2, h3, key, one => rw [one h3 rfl] at h2; exact ⟨h3, key _ rfl h2⟩
  | .ptr .., h2, h3, key, one => rw [one h3 rfl] at h2; exact ⟨h3, key _ rfl h2⟩
  | .elem .., h2, h3, key, one => rw [one h3 rfl] at h2; exact ⟨h3, key _ rfl h2⟩
  | .arr .., h2, h3, key, one => rw [one h3 rfl] at h2; exact ⟨h3, key _ rfl h2⟩
  | .row .., h2, h3, key, one => rw [one h3 rfl] at h2; exact ⟨h3, key _ rfl h2⟩
  | .mp .., h2, h3, key, one => rw [one h3 rfl] at h2; exact ⟨h3, key _ rfl h2⟩
  | .mapc .., h2, h3, key, one => rw [one h3 rfl] at h2; exact ⟨h3, key _ rfl h2⟩
  | .und, h2, h3, key, one => rw [one h3 rfl] at h2; exact ⟨h3, key _ rfl h2⟩
  | .dead, h2, h3, key, one => rw [one h3 rfl] at h2; exact ⟨h3, key _ rfl h2⟩
end
theorem RO1_len (v : V) (cs : List Value) (h : RO1 E ent σ w v cs) : cs.length = vsize1 v := by
 cases v <;> simp only [RO1] at h <;> first
  | (obtain ⟨u, h, _⟩ := h; subst h; rfl)
  | exact RF_len (w := w) (ok := okB ent σ w) _ _ rfl h
theorem ROL_len : ∀ (ps : List V) (cs : List Value), ROL E ent σ w ps cs → cs.length = psize ps
 | [], cs, h => by simp only [ROL] at h; subst h; rfl
 | p :: ps, cs, h => by
  simp only [ROL] at h
  obtain ⟨a, b, rfl, h1, h2⟩ := h
  rw [List.length_append, RO1_len p a h1, ROL_len ps b h2]; rfl
theorem ROL_drop : ∀ (n : Nat) (ps : List V) (cs : List Value), ROL E ent σ w ps cs → ROL E ent σ w (dropN ps n) (cs.drop (startOf ps n))
 | 0, ps, cs, h => by cases ps <;> simpa [dropN, startOf] using h
 | n + 1, [], cs, h => by simpa [dropN, startOf] using h
 | n + 1, p :: ps, cs, h => by
  simp only [ROL] at h
  obtain ⟨a, b, rfl, h1, h2⟩ := h
  simp only [dropN, startOf]
  rw [← RO1_len p a h1, List.drop_append, List.drop_of_length_le (by omega), List.nil_append, Nat.add_sub_cancel_left]
  exact ROL_drop n ps b h2
theorem ROL_take : ∀ (ps : List V) (m : Nat) (l : List V) (cs : List Value), ROL E ent σ w ps cs → takeParts ps m = some l → ROL E ent σ w l (cs.take m) ∧ m ≤ cs.length
 | ps, 0, l, cs, h, ht => by
  cases ps <;> (simp only [takeParts, Option.some.injEq] at ht; subst ht; simp [ROL])
 | [], m + 1, l, cs, h, ht => by simp [takeParts] at ht
 | p :: ps, m + 1, l, cs, h, ht => by
  simp only [ROL] at h
  obtain ⟨a, b, rfl, h1, h2⟩ := h
  simp only [takeParts] at ht
  split at ht
  ·rename_i hle
   split at ht
   ·rename_i l' hl
    simp only [Option.some.injEq] at ht
    subst ht
    have hlen := RO1_len p a h1
    have hle' : vsize1 p ≤ m + 1 := Nat.le_of_ble_eq_true hle
    obtain ⟨h3, h4⟩ := ROL_take ps (m + 1 - vsize1 p) l' b h2 hl
    refine ⟨⟨a, b.take (m + 1 - vsize1 p), ?_, h1, h3⟩, by rw [List.length_append]; omega⟩
    rw [List.take_append, List.take_of_length_le (by omega), hlen]
   ·cases ht
  ·cases ht
theorem nth_dropN {α : Type} : ∀ (l : List α) (n : Nat), nth l n = (dropN l n).head?
 | [], n => by cases n <;> rfl
 | x :: l, 0 => rfl
 | x :: l, n + 1 => by simp only [nth, dropN]; exact nth_dropN l n
theorem start_le : ∀ (ps : List V) (n : Nat) (p : V), nth ps n = some p → startOf ps n + vsize1 p ≤ psize ps
 | [], n, p, h => by cases n <;> simp [nth] at h
 | q :: ps, 0, p, h => by
  simp only [nth, Option.some.injEq] at h
  subst h
  simp [startOf, psize]
 | q :: ps, n + 1, p, h => by
  simp only [nth] at h
  have := start_le ps n p h
  simp only [startOf, psize]
  omega
theorem ROL_nth {ps : List V} {cs : List Value} {n : Nat} {p : V} (h : ROL E ent σ w ps cs) (hp : nth ps n = some p) :
 RO1 E ent σ w p ((cs.drop (startOf ps n)).take (vsize1 p)) ∧ startOf ps n + vsize1 p ≤ cs.length := by
 have h1 := ROL_drop n ps cs h
 have hle := start_le ps n p hp
 rw [← ROL_len ps cs h] at hle
 rw [nth_dropN] at hp
 cases hd : dropN ps n with
 | nil => simp [hd] at hp
 | cons q l =>
  rw [hd] at hp h1
  simp only [List.head?_cons, Option.some.injEq] at hp
  subst hp
  simp only [ROL] at h1
  obtain ⟨a, b, h2, h3, h4⟩ := h1
  have hlen := RO1_len q a h3
  rw [h2, ← hlen, List.take_left]
  exact ⟨h3, by rw [hlen]; exact hle⟩
theorem ROL_ints {ps : List V} {cs : List Value} {n : Nat} {k : IntKind} {m : Nat} {c : Nat → Int} (h : ROL E ent σ w ps cs) (hp : nth ps n = some (.ints k m c)) :
 startOf ps n + m ≤ cs.length ∧ ∀ j, j < m → cs[startOf ps n + j]? = some (.int k (c j)) := by
 obtain ⟨h1, h2⟩ := ROL_nth h hp
 refine ⟨h2, fun j hj => ?_⟩
 have h3 : (cs.drop (startOf ps n)).take m = (List.range m).map fun j => Value.int k (c j) := by simpa [RO1, RF, vsize1] using h1
 have h4 := congrArg (fun l => l[j]?) h3
 simp only [List.getElem?_take, List.getElem?_drop, List.getElem?_map, List.getElem?_range hj, if_pos hj, Option.map_some] at h4
 exact h4
theorem ROL_one {ps : List V} {cs : List Value} {n : Nat} {p : V} (h : ROL E ent σ w ps cs) (hp : nth ps n = some p) (h1 : vsize1 p = 1) :
 ∃ u, cs[startOf ps n]? = some u ∧ RO1 E ent σ w p [u] := by
 obtain ⟨h2, h3⟩ := ROL_nth h hp
 rw [h1] at h2 h3
 have hlt : startOf ps n < cs.length := by omega
 refine ⟨cs[startOf ps n], List.getElem?_eq_getElem hlt, ?_⟩
 have h4 : (cs.drop (startOf ps n)).take 1 = [cs[startOf ps n]] := by
  rw [List.drop_eq_getElem_cons hlt]; rfl
 rw [h4] at h2
 exact h2
theorem oneV_size {v : V} (h : oneV v = true) : vsize1 v = 1 := by cases v <;> simp [oneV] at h <;> rfl
theorem RO1_one {v : V} {u : Value} (hv : oneV v = true) (h : RO1 E ent σ w v [u]) : u.oneCell' = true := by
 cases v <;> simp only [oneV, Bool.false_eq_true] at hv <;> simp only [RO1] at h <;> first
  | (obtain ⟨u', h1, h2, _⟩ := h; simp only [List.cons.injEq, and_true] at h1; subst h1; exact h2)
  | (simp only [RO1, RF, List.cons.injEq, and_true] at h; subst h; rfl)
  | (simp only [RO1, RF, List.cons.injEq, and_true] at h; obtain ⟨_, _, h, _⟩ := h; subst h; rfl)
  | (simp only [RO1, RF, List.cons.injEq, and_true] at h; obtain ⟨_, _, _, h, _⟩ := h; subst h; rfl)
  | (simp only [RO1, RF, List.cons.injEq, and_true] at h; obtain ⟨_, h, _⟩ := h; subst h; first | rfl | exact cloVal_one _ _)
theorem RT_of_one {v : V} {u : Value} (hv : oneV v = true) (h : RO1 E ent σ w v [u]) : RT E ent σ w v u := by
 have h1 := RO1_one hv h
 cases v <;> first
  | exact ⟨h1, h⟩
  | (simp [oneV] at hv; done)
end
end Go.Proofs.YthdnamhilcjnhaaGreatDoor
