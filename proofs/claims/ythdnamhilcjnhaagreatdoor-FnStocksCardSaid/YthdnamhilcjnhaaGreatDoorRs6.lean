/- Parts set anew: a struct built, a store. -/
import Derived.Test.YthdnamhilcjnhaaGreatDoorRs5
namespace Go.Proofs.YthdnamhilcjnhaaGreatDoor
open Go Go.RowKit
set_option linter.unusedVariables false
set_option linter.unusedSimpArgs false
section
variable {E : Env} {P : Program} {keep : Nat → Prop} {w0 : World} {σ : Sg} {w : World} {st : St} {a : Act} {o : Oper} {v : V} {es : List (Nat × Ent)} {call : Nat → List V → Option V} {ent : Nat → Ent}
theorem oneV_shp {v : V} (h : oneV v = true) : shp v = (1, false) := by cases v <;> simp [oneV] at h <;> rfl
theorem sameSh_shp {q p : V} (h : sameSh q p = true) : shp q = shp p := by
 unfold sameSh at h
 split at h
 ·simp only [Bool.and_eq_true] at h
  have := Nat.eq_of_beq_eq_true h.2
  subst this
  rfl
 ·simp only [Bool.and_eq_true] at h
  rw [oneV_shp h.1, oneV_shp h.2]
theorem setParts_ROL : ∀ (qs ps l : List V) (as us : List Value), setParts qs ps = some l → ROL E ent σ w qs as → ROL E ent σ w ps us →
 shps l = shps ps ∧ as.length ≤ us.length ∧ ROL E ent σ w l (as ++ us.drop as.length)
 | [], ps, l, as, us, h, ha, hu => by
  simp only [setParts, Option.some.injEq] at h
  simp only [ROL] at ha
  subst h; subst ha
  exact ⟨rfl, by simp, by simpa using hu⟩
 | q :: qs, [], l, as, us, h, ha, hu => by simp [setParts] at h
 | q :: qs, p :: ps, l, as, us, h, ha, hu => by
  simp only [setParts] at h
  split at h
  ·rename_i l' hs hl
   simp only [Option.some.injEq] at h
   subst h
   simp only [ROL] at ha hu
   obtain ⟨a1, b1, rfl, h1, h2⟩ := ha
   obtain ⟨a2, b2, rfl, h3, h4⟩ := hu
   have hsh := sameSh_shp hs
   have hlen : a1.length = a2.length := by rw [RO1_len q a1 h1, RO1_len p a2 h3, vsize1_shp, vsize1_shp, hsh]
   obtain ⟨h5, h6, h7⟩ := setParts_ROL qs ps l' b1 b2 hl h2 h4
   refine ⟨by simp only [shps, List.map_cons, hsh] at h5 ⊢; rw [h5], by simp only [List.length_append]; omega, ?_⟩
   simp only [ROL]
   refine ⟨a1, b1 ++ b2.drop b1.length, ?_, h1, h7⟩
   rw [List.length_append, List.drop_append, List.drop_of_length_le (by omega), List.nil_append, List.append_assoc]
   congr 3
   omega
  ·cases h
theorem setAt_ROL (qs : List V) (as : List Value) (ha : ROL E ent σ w qs as) : ∀ (ps : List V) (n : Nat) (l : List V) (us : List Value), setAt qs ps n = some l → ROL E ent σ w ps us →
 shps l = shps ps ∧ startOf ps n + as.length ≤ us.length ∧ ROL E ent σ w l (us.take (startOf ps n) ++ as ++ us.drop (startOf ps n + as.length))
 | ps, 0, l, us, h, hu => by
  have h' : setParts qs ps = some l := by cases ps <;> simpa [setAt] using h
  obtain ⟨h1, h2, h3⟩ := setParts_ROL qs ps l as us h' ha hu
  have h0 : startOf ps 0 = 0 := by cases ps <;> rfl
  rw [h0]
  refine ⟨h1, by omega, by simpa using h3⟩
 | [], n + 1, l, us, h, hu => by simp [setAt] at h
 | p :: ps, n + 1, l, us, h, hu => by
  simp only [setAt] at h
  split at h
  ·rename_i l' hl
   simp only [Option.some.injEq] at h
   subst h
   simp only [ROL] at hu
   obtain ⟨a2, b2, rfl, h3, h4⟩ := hu
   obtain ⟨h5, h6, h7⟩ := setAt_ROL qs as ha ps n l' b2 hl h4
   have hlen := RO1_len p a2 h3
   simp only [startOf]
   refine ⟨by simp only [shps, List.map_cons] at h5 ⊢; rw [h5], by simp only [List.length_append]; omega, ?_⟩
   simp only [ROL]
   refine ⟨a2, _, ?_, h3, h7⟩
   rw [← hlen, List.take_append, List.take_of_length_le (by omega), Nat.add_sub_cancel_left, Nat.add_assoc, List.drop_append, List.drop_of_length_le (by omega), List.nil_append, Nat.add_sub_cancel_left]
   simp
  ·cases h
theorem setNth_ROL {q p : V} {ps : List V} {us as : List Value} {n : Nat} (hp : ROL E ent σ w ps us) (hn : nth ps n = some p) (hs : shp q = shp p) (ha : RO1 E ent σ w q as) :
 shps (setNth ps n q) = shps ps ∧ startOf ps n + as.length ≤ us.length ∧ ROL E ent σ w (setNth ps n q) (us.take (startOf ps n) ++ as ++ us.drop (startOf ps n + as.length)) := by
 induction ps generalizing n us with
 | nil => cases n <;> simp [nth] at hn
 | cons p0 ps ih =>
  simp only [ROL] at hp
  obtain ⟨a2, b2, rfl, h3, h4⟩ := hp
  cases n with
  | zero =>
   simp only [nth, Option.some.injEq] at hn
   subst hn
   have hlen : as.length = a2.length := by rw [RO1_len q as ha, RO1_len p0 a2 h3, vsize1_shp, vsize1_shp, hs]
   simp only [setNth, startOf]
   refine ⟨by simp only [shps, List.map_cons, hs], by simp only [List.length_append]; omega, ?_⟩
   simp only [ROL]
   refine ⟨as, b2, ?_, ha, h4⟩
   rw [Nat.zero_add, hlen, List.drop_left]; simp
  | succ n =>
   simp only [nth] at hn
   obtain ⟨h5, h6, h7⟩ := ih h4 hn
   have hlen := RO1_len p0 a2 h3
   simp only [setNth, startOf]
   refine ⟨by simp only [shps, List.map_cons] at h5 ⊢; rw [h5], by simp only [List.length_append]; omega, ?_⟩
   simp only [ROL]
   refine ⟨a2, _, ?_, h3, h7⟩
   rw [← hlen, List.take_append, List.take_of_length_le (by omega), Nat.add_sub_cancel_left, Nat.add_assoc, List.drop_append, List.drop_of_length_le (by omega), List.nil_append, Nat.add_sub_cancel_left]
   simp
theorem RF_cells {ok : Nat → Prop} : ∀ (v : V) (cs : List Value), notP v = true → RF w ok v cs → ∀ c ∈ cs, c.oneCell' = true := by
 intro v cs hn h
 cases v <;> simp only [RF] at h <;> first
  | (subst h; simp [Value.oneCell']; done)
  | (subst h; intro c hc; simp only [List.mem_map] at hc; obtain ⟨j, _, rfl⟩ := hc; rfl)
  | (obtain ⟨_, _, h, _⟩ := h; subst h; simp [Value.oneCell']; done)
  | (obtain ⟨_, _, _, h, _⟩ := h; subst h; simp [Value.oneCell']; done)
  | (obtain ⟨_, h, _⟩ := h; subst h; simp [Value.oneCell']; done)
  | (obtain ⟨_, h, _⟩ := h; subst h; intro c hc; simp only [List.mem_singleton] at hc; subst hc; exact cloVal_one _ _)
  | (simp [notP] at hn; done)
  | exact h.elim
theorem RO1_cells (v : V) (cs : List Value) (h : RO1 E ent σ w v cs) : ∀ c ∈ cs, c.oneCell' = true := by
 cases v <;> simp only [RO1] at h <;> first
  | (obtain ⟨u, rfl, h, _⟩ := h; intro c hc; simp only [List.mem_singleton] at hc; subst hc; exact h)
  | (obtain ⟨cv, rfl, _⟩ := h; intro c hc; simp only [List.mem_singleton] at hc; subst hc; first | rfl | exact cloVal_one _ _)
  | exact RF_cells (w := w) (ok := okB ent σ w) _ _ rfl h
theorem ROL_cells : ∀ (ps : List V) (cs : List Value), ROL E ent σ w ps cs → ∀ c ∈ cs, c.oneCell' = true
 | [], cs, h => by simp only [ROL] at h; subst h; intro c hc; cases hc
 | p :: ps, cs, h => by
  simp only [ROL] at h
  obtain ⟨a1, b1, rfl, h1, h2⟩ := h
  intro c hc
  rcases List.mem_append.1 hc with hc | hc
  ·exact RO1_cells p a1 h1 c hc
  ·exact ROL_cells ps b1 h2 c hc
theorem RO1_ints {k : IntKind} {n : Nat} {c : Nat → Int} {cs : List Value} : RO1 E ent σ w (.ints k n c) cs ↔ cs = (List.range n).map fun j => .int k (c j) := by
 simp only [RO1, RF]
theorem storeP_ROL {ty : TyI} {ps ps' : List V} {pi rel ext : Nat} {x : V} {us : List Value} {u : Value}
 (hp : ROL E ent σ w ps us) (hk : pOk ps pi rel ext) (hu : RT E ent σ w x u) (hs : storeP ty ps pi rel ext x = some ps') :
 u.cells.size = ty.size ∧ shps ps' = shps ps ∧ startOf ps pi + rel + ty.size ≤ us.length ∧ (∀ c ∈ u.cells.toList, c.oneCell' = true) ∧
 ROL E ent σ w ps' (us.take (startOf ps pi + rel) ++ u.cells.toList ++ us.drop (startOf ps pi + rel + ty.size)) := by
 unfold storeP at hs
 split at hs
 ·cases hs
 ·rename_i hle
  have hle : ty.size ≤ ext := Nat.le_of_ble_eq_true hle
  split at hs
  ·
   split at hs
   ·rename_i qs
    split at hs
    ·rename_i hps
     have hps : psize qs = ty.size := Nat.eq_of_beq_eq_true hps
     obtain ⟨cs, rfl, hq⟩ := hu
     have hlen := ROL_len _ _ hq
     obtain ⟨h1, h2, h3⟩ := setAt_ROL qs cs.toList hq ps pi ps' us hs hp
     rw [hlen, hps] at h2 h3
     refine ⟨by simpa [Value.cells] using hlen.trans hps, h1, by omega, ROL_cells _ _ hq, by simpa [Value.cells] using h3⟩
    ·cases hs
   ·cases hs
  ·
   split at hs
   ·rename_i k n c k' m d hn
    split at hs
    ·rename_i hkk hm hen
     have hkk : k = k' := of_decide_eq_true hkk
     have hm : m = ty.size := Nat.eq_of_beq_eq_true hm
     have hen : ext ≤ n := Nat.le_of_ble_eq_true hen
     subst hkk
     obtain ⟨cs, rfl, hcs⟩ := hu
     have hlen : cs.size = m := by have := congrArg List.length hcs; simpa using this
     obtain ⟨h1, h2⟩ := ROL_ints hp hn
     have hre : rel + ty.size ≤ n := by
      rcases hk with ⟨p, hp1, hp2⟩ | ⟨hp1, _⟩
      ·rw [hn] at hp1; cases hp1; simp only [vsize1] at hp2; omega
      ·omega
     have hone : ∀ c ∈ cs.toList, c.oneCell' = true := by
      intro c hc
      rw [hcs] at hc
      simp only [List.mem_map] at hc
      obtain ⟨j, _, rfl⟩ := hc
      rfl
     have h1' := (ROL_nth hp hn).1
     simp only [vsize1] at h1'
     rw [RO1_ints] at h1'
     have main : ∀ f : Nat → Int, (∀ j, j < n → f j = if rel ≤ j ∧ j < rel + m then d (j - rel) else c j) → ps' = setNth ps pi (.ints k n f) →
      shps ps' = shps ps ∧ ROL E ent σ w ps' (us.take (startOf ps pi + rel) ++ cs.toList ++ us.drop (startOf ps pi + rel + ty.size)) := by
      intro f hf hps'
      subst hps'
      obtain ⟨h3, h4, h5⟩ := setNth_ROL (q := .ints k n f) (as := (List.range n).map fun j => .int k (f j)) hp hn rfl (by simp only [RO1, RF])
      refine ⟨h3, ?_⟩
      simp only [List.length_map, List.length_range] at h4 h5
      have : us.take (startOf ps pi + rel) ++ cs.toList ++ us.drop (startOf ps pi + rel + ty.size) = us.take (startOf ps pi) ++ ((List.range n).map fun j => .int k (f j)) ++ us.drop (startOf ps pi + n) := by
       apply List.ext_getElem?
       intro i
       simp only [List.getElem?_append, List.length_append, List.length_take, List.getElem?_take, List.getElem?_drop, List.length_map, List.length_range, List.getElem?_map, Array.length_toList, hlen]
       rw [Nat.min_eq_left (by omega), Nat.min_eq_left (by omega)]
       by_cases h6 : i < startOf ps pi
       ·rw [if_pos (by omega), if_pos (by omega), if_pos (by omega), if_pos (by omega), if_pos (by omega), if_pos (by omega)]
       ·by_cases h7 : i < startOf ps pi + n
        ·rw [if_pos (show i < startOf ps pi + n from h7), if_neg h6]
         rw [List.getElem?_range (by omega)]
         simp only [Option.map_some]
         rw [hf _ (by omega)]
         by_cases h8 : i < startOf ps pi + rel
         ·rw [if_pos (by omega), if_pos h8, if_pos h8, if_neg (by omega)]
          have := h2 (i - startOf ps pi) (by omega)
          rw [show startOf ps pi + (i - startOf ps pi) = i by omega] at this
          exact this
         ·by_cases h9 : i < startOf ps pi + rel + m
          ·rw [if_pos (by omega), if_neg h8, if_pos (by omega), hcs, List.getElem?_map, List.getElem?_range (by omega)]
           simp only [Option.map_some]
           rw [show i - startOf ps pi - rel = i - (startOf ps pi + rel) by omega]
          ·rw [if_neg (by omega), if_neg (by omega)]
           have := h2 (i - startOf ps pi) (by omega)
           rw [show startOf ps pi + (i - startOf ps pi) = i by omega] at this
           rw [show startOf ps pi + rel + ty.size + (i - (startOf ps pi + rel + m)) = i by omega]
           exact this
        ·rw [if_neg (by omega), if_neg (by omega)]
         congr 1
         omega
      rw [this]
      exact h5
     have fin : (∃ f : Nat → Int, (∀ j, j < n → f j = if rel ≤ j ∧ j < rel + m then d (j - rel) else c j) ∧ ps' = setNth ps pi (.ints k n f)) := by
      split at hs
      ·rename_i hnm
       have hnm : n = m := Nat.eq_of_beq_eq_true hnm
       split at hs
       ·rename_i hz
        have hz := isZero_eq hz
        subst hz
        subst hnm
        simp only [Option.some.injEq] at hs
        exact ⟨d, fun j hj => by rw [if_pos (by omega)]; simp, hs.symm⟩
       ·simp only [Option.some.injEq] at hs
        exact ⟨updR c rel m d, fun j hj => rfl, hs.symm⟩
      ·simp only [Option.some.injEq] at hs
       exact ⟨updR c rel m d, fun j hj => rfl, hs.symm⟩
     obtain ⟨f, hf1, hf2⟩ := fin
     obtain ⟨h6, h7⟩ := main f hf1 hf2
     exact ⟨by simp only [Value.cells]; omega, h6, by omega, hone, h7⟩
    ·cases hs
   ·cases hs
  ·
   split at hs
   ·rename_i k n c hn
    split at hs
    ·rename_i k' z
     split at hs
     ·rename_i hkk hen hsz
      have hkk : k = k' := of_decide_eq_true hkk
      have hen : ext ≤ n := Nat.le_of_ble_eq_true hen
      have hsz : ty.size = 1 := Nat.eq_of_beq_eq_true hsz
      subst hkk
      simp only [Option.some.injEq] at hs
      subst hs
      have hu := RT_int hu
      subst hu
      obtain ⟨h1, h2⟩ := ROL_ints hp hn
      have hre : rel < n := by
       rcases hk with ⟨p, hp1, hp2⟩ | ⟨hp1, _⟩
       ·rw [hn] at hp1; cases hp1; simp only [vsize1] at hp2; omega
       ·omega
      obtain ⟨h3, h4, h5⟩ := setNth_ROL (q := .ints k n (updC c rel z)) (as := (List.range n).map fun j => .int k (updC c rel z j)) hp hn rfl (by simp only [RO1, RF])
      simp only [List.length_map, List.length_range] at h4 h5
      refine ⟨by rw [hsz]; rfl, h3, by omega, by intro c hc; simp [Value.cells] at hc; subst hc; rfl, ?_⟩
      have : us.take (startOf ps pi + rel) ++ (Value.int k z).cells.toList ++ us.drop (startOf ps pi + rel + ty.size) = us.take (startOf ps pi) ++ ((List.range n).map fun j => .int k (updC c rel z j)) ++ us.drop (startOf ps pi + n) := by
       rw [hsz]
       apply List.ext_getElem?
       intro i
       simp only [Value.cells, List.getElem?_append, List.length_append, List.length_take, List.getElem?_take, List.getElem?_drop, List.length_map, List.length_range, List.getElem?_map, List.length_cons, List.length_nil]
       rw [Nat.min_eq_left (by omega), Nat.min_eq_left (by omega)]
       by_cases h6 : i < startOf ps pi
       ·rw [if_pos (by omega), if_pos (by omega), if_pos (by omega), if_pos (by omega), if_pos (by omega), if_pos (by omega)]
       ·by_cases h7 : i < startOf ps pi + n
        ·rw [if_pos (show i < startOf ps pi + n from h7), if_neg h6]
         rw [List.getElem?_range (by omega)]
         simp only [Option.map_some, updC]
         by_cases h8 : i < startOf ps pi + rel
         ·rw [if_pos (by omega), if_pos h8, if_pos h8, if_neg (by omega)]
          have := h2 (i - startOf ps pi) (by omega)
          rw [show startOf ps pi + (i - startOf ps pi) = i by omega] at this
          exact this
         ·by_cases h9 : i = startOf ps pi + rel
          ·rw [if_pos (by omega), if_neg h8, if_pos (by omega), show i - (startOf ps pi + rel) = 0 by omega]
           rfl
          ·rw [if_neg (by omega), if_neg (by omega)]
           have := h2 (i - startOf ps pi) (by omega)
           rw [show startOf ps pi + (i - startOf ps pi) = i by omega] at this
           rw [show startOf ps pi + rel + 1 + (i - (startOf ps pi + rel + 1)) = i by omega]
           exact this
        ·rw [if_neg (by omega), if_neg (by omega)]
         congr 1
         omega
      rw [this]
      exact h5
     ·cases hs
    ·cases hs
   ·rename_i p hnp hn
    split at hs
    ·rename_i h1 h2 h3 h4
     have hz := isZero_eq h4
     subst hz
     have hsz : ty.size = 1 := Nat.eq_of_beq_eq_true h3
     simp only [Option.some.injEq] at hs
     subst hs
     have hx : RO1 E ent σ w x [u] ∧ u.cells = #[u] := by
      have : RTc E ent σ w x u := by
       cases x <;> first | exact hu | simp [oneV] at h2
      have : u.oneCell' = true ∧ RO1 E ent σ w x [u] := by
       cases x <;> first | exact this | simp [oneV] at h2
      exact ⟨this.2, by cases u <;> first | rfl | simp [Value.oneCell'] at this⟩
     obtain ⟨h5, h6, h7⟩ := setNth_ROL hp hn (by rw [oneV_shp h1, oneV_shp h2]) hx.1
     simp only [List.length_cons, List.length_nil] at h6 h7
     rw [hx.2, hsz]
     exact ⟨rfl, h5, by omega, by intro c hc; exact RO1_cells x _ hx.1 c hc, h7⟩
    ·cases hs
   ·cases hs
end
end Go.Proofs.YthdnamhilcjnhaaGreatDoor
