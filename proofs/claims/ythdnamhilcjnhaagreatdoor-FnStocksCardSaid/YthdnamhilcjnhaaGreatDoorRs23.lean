/- What a law is handed: from the given reading of its arguments to abstract values. -/
import Derived.Test.YthdnamhilcjnhaaGreatDoorRs22
import GoSem.ClaimChange
import Derived.OpenShut
namespace Go.Proofs.YthdnamhilcjnhaaGreatDoor
open Go Go.RowKit
set_option linter.unusedVariables false
set_option linter.unusedSimpArgs false
inductive PSh where
 | int (k : IntKind)
 | bool
 | str
 | ints (k : IntKind) (n : Nat)
 | sl (agg : Bool) (ps : List PSh)
def psz : List PSh → Nat
 | [] => 0
 | .ints _ n :: l => n + psz l
 | _ :: l => 1 + psz l
def shapeFs (sh : TypeId → Option (List PSh)) (size : TypeId → Nat) : List Go.Field → Nat → Nat → Option (List PSh)
 | [], o, tot => match Nat.beq o tot with
  | true => some []
  | false => none
 | f :: fs, o, tot => match Nat.beq f.offset o, sh f.type, shapeFs sh size fs (o + size f.type) tot with
  | true, some l, some r => match Nat.beq (psz l) (size f.type) with
   | true => some (l ++ r)
   | false => none
  | _, _, _ => none
def isSt (P : Program) (t : TypeId) : Bool := match P.underlying t with
 | some (.struct _) => true
 | _ => false
def shapeOf (P : Program) : Nat → TypeId → Option (List PSh)
 | 0, _ => none
 | g + 1, t => match P.underlying t with
  | some (.int k) => some [.int k]
  | some .bool => some [.bool]
  | some .string => some [.str]
  | some (.struct fs) => shapeFs (shapeOf P g) P.cellsOf fs.toList 0 (P.cellsOf t)
  | some (.array n e) => match shapeOf P g e, Nat.beq (n * P.cellsOf e) (P.cellsOf t) with
   | some [.int k], true => match Nat.beq (P.cellsOf e) 1 with
    | true => some [.ints k n]
    | false => none
   | some [.ints k m], true => match Nat.beq (P.cellsOf e) m with
    | true => some [.ints k (n * m)]
    | false => none
   | _, _ => none
  | some (.slice e) => match shapeOf P g e with
   | some ps => match Nat.blt 0 (P.cellsOf e), Nat.beq (psz ps) (P.cellsOf e) with
    | true, true => match isSt P e, ps with
     | true, ps => some [.sl true ps]
     | false, [p] => some [.sl false [p]]
     | _, _ => none
    | _, _ => none
   | none => none
  | _ => none
mutual
def inP : PSh → V → Prop
 | .int k, v => ∃ n, v = .int k n ∧ (Lit.int k n).wf = true
 | .bool, v => ∃ b, v = .bool b
 | .str, v => ∃ s, v = .str s ∧ s.size ≤ maxLen
 | .ints k n, v => ∃ c, v = .ints k n c ∧ ∀ j, j < n → (Lit.int k (c j)).wf = true
 | .sl agg ps, v => ∃ xs, v = .sl xs ∧ xs.length ≤ maxLen ∧ ∀ x, x ∈ xs → (match agg with
  | true => ∃ l, x = .parts l ∧ inL ps l
  | false => inL ps [x])
def inL : List PSh → List V → Prop
 | [], vs => vs = []
 | p :: ps, vs => ∃ v l, vs = v :: l ∧ inP p v ∧ inL ps l
end
theorem inL_append : ∀ (ps qs : List PSh) (vs ws : List V), inL ps vs → inL qs ws → inL (ps ++ qs) (vs ++ ws)
 | [], qs, vs, ws, h, h' => by simp only [inL] at h; subst h; simpa using h'
 | p :: ps, qs, vs, ws, h, h' => by
  simp only [inL] at h
  obtain ⟨v, l, rfl, h1, h2⟩ := h
  simp only [List.cons_append, inL]
  exact ⟨v, l ++ ws, rfl, h1, inL_append ps qs l ws h2 h'⟩
section
variable {P : Program} {W : World} {H : Type} {enc : TypeId × Value → H} {base : Nat} {spare : Nat → Bool} {held : Bool} {ok : Nat → Prop}
theorem RFL_append : ∀ (ps qs : List V) (as bs : List Value), RFL W ok ps as → RFL W ok qs bs → RFL W ok (ps ++ qs) (as ++ bs)
 | [], qs, as, bs, h, h' => by simp only [RFL] at h; subst h; simpa using h'
 | p :: ps, qs, as, bs, h, h' => by
  simp only [RFL] at h
  obtain ⟨a1, b1, rfl, h0, h1, h2⟩ := h
  simp only [List.cons_append, RFL]
  exact ⟨a1, b1 ++ bs, by simp, h0, h1, RFL_append ps qs b1 bs h2 h'⟩
def Reads (P : Program) (W : World) (ok : Nat → Prop) (enc : TypeId × Value → H) (base : Nat) (spare : Nat → Bool) (held : Bool) (g : Nat) (t : TypeId) : Prop :=
 ∀ (fuel : Nat) (cs : List Value) (x : DataW H × List MemPlace) (sh : List PSh), DataW.trod enc P W base spare held fuel t cs = some x → shapeOf P g t = some sh → ∃ vs, inL sh vs ∧ RFL W ok vs cs
theorem fields_read {g fuel : Nat} (ih : ∀ t, Reads P W ok enc base spare held g t) {tot : Nat} {cs : List Value} (hlen : cs.length = tot) : ∀ (fs : List Go.Field) (o : Nat) (sh : List PSh),
 (∀ f, f ∈ fs → ∃ y, DataW.trod enc P W base spare held fuel f.type ((cs.drop f.offset).take (P.cellsOf f.type)) = some y) → shapeFs (shapeOf P g) P.cellsOf fs o tot = some sh → ∃ vs, inL sh vs ∧ RFL W ok vs (cs.drop o)
 | [], o, sh, h, hs => by
  simp only [shapeFs] at hs
  split at hs
  ·rename_i hb
   simp only [Option.some.injEq] at hs
   subst hs
   have := Nat.eq_of_beq_eq_true hb
   exact ⟨[], by simp only [inL], by simp only [RFL]; rw [List.drop_of_length_le (by omega)]⟩
  ·cases hs
 | f :: fs, o, sh, h, hs => by
  simp only [shapeFs] at hs
  split at hs
  ·rename_i l r hoff hl hr
   split at hs
   ·rename_i hsz
    simp only [Option.some.injEq] at hs
    subst hs
    have hoff := Nat.eq_of_beq_eq_true hoff
    obtain ⟨y, h1⟩ := h f (by simp)
    obtain ⟨vs, h3, h4⟩ := ih f.type fuel _ _ _ h1 hl
    obtain ⟨ws, h5, h6⟩ := fields_read ih hlen fs _ _ (fun f' hf => h f' (by simp [hf])) hr
    refine ⟨vs ++ ws, inL_append _ _ _ _ h3 h5, ?_⟩
    have := RFL_append _ _ _ _ h4 h6
    rw [hoff] at this
    have e : (cs.drop o).take (P.cellsOf f.type) ++ cs.drop (o + P.cellsOf f.type) = cs.drop o := by
     rw [← List.drop_drop]; exact List.take_append_drop _ _
    rwa [e] at this
   ·cases hs
  ·cases hs
theorem pieces {k : IntKind} {m : Nat} : ∀ (n : Nat) (cs : List Value), cs.length = n * m → (∀ i, i < n → ∃ c : Nat → Int, (cs.drop (i * m)).take m = ((List.range m).map fun j => Value.int k (c j)) ∧ ∀ j, j < m → (Lit.int k (c j)).wf = true) →
 ∃ c : Nat → Int, cs = ((List.range (n * m)).map fun j => Value.int k (c j)) ∧ ∀ j, j < n * m → (Lit.int k (c j)).wf = true := by
 intro n cs hl h
 have cell : ∀ j, j < n * m → ∃ z, cs[j]? = some (Value.int k z) ∧ (Lit.int k z).wf = true := by
  intro j hj
  have hm : 0 < m := by
   rcases Nat.eq_zero_or_pos m with h | h
   ·subst h; simp at hj
   ·exact h
  obtain ⟨c, h1, h2⟩ := h (j / m) (Nat.div_lt_of_lt_mul (by rw [Nat.mul_comm]; exact hj))
  have hr := Nat.mod_lt j hm
  refine ⟨c (j % m), ?_, h2 _ hr⟩
  have h3 := congrArg (fun l => l[j % m]?) h1
  simp only [List.getElem?_take, if_pos hr, List.getElem?_drop, List.getElem?_map, List.getElem?_range hr, Option.map_some] at h3
  rwa [Nat.mul_comm, Nat.div_add_mod] at h3
 refine ⟨fun j => match cs[j]? with | some (.int _ z) => z | _ => 0, ?_, fun j hj => ?_⟩
 ·apply List.ext_getElem?
  intro j
  rw [List.getElem?_map]
  by_cases hj : j < n * m
  ·obtain ⟨z, h1, _⟩ := cell j hj
   rw [List.getElem?_range hj, Option.map_some]
   simp only [h1]
  ·rw [List.getElem?_eq_none (by omega), List.getElem?_eq_none (by simpa using hj)]; rfl
 ·obtain ⟨z, h1, h2⟩ := cell j hj
  simp only [h1]; exact h2
theorem inL_one {p : PSh} {vs : List V} (h : inL [p] vs) : ∃ v, vs = [v] ∧ inP p v := by
 simp only [inL] at h
 obtain ⟨v, l, rfl, h1, rfl⟩ := h
 exact ⟨v, rfl, h1⟩
theorem RFL_one {v : V} {cs : List Value} (h : RFL W ok [v] cs) : RF W ok v cs := by
 simp only [RFL] at h
 obtain ⟨a1, b1, rfl, _, h1, rfl⟩ := h
 rw [List.append_nil]; exact h1
theorem range_mapM {α : Type} (f : Nat → Option α) : ∀ (n i : Nat) (l : List α), (List.range' i n).mapM f = some l → l.length = n ∧ ∀ j, j < n → f (i + j) = l[j]?
 | 0, i, l, h => by simp at h; subst h; simp
 | n + 1, i, l, h => by
  rw [List.range'_succ, List.mapM_cons] at h
  cases hx : f i with
  | none => simp [hx] at h
  | some y =>
   cases hl : (List.range' (i + 1) n).mapM f with
   | none => simp [hx, hl] at h
   | some l' =>
    simp [hx, hl] at h
    subst h
    obtain ⟨h1, h2⟩ := range_mapM f n (i + 1) l' hl
    refine ⟨by simp [h1], fun j hj => ?_⟩
    cases j with
    | zero => simpa using hx
    | succ j =>
     rw [List.getElem?_cons_succ, ← h2 j (by omega)]
     congr 1
     omega
theorem cells_at {a : Addr} {n : Nat} {us : List Value} (h : W.cells? base a n = some us) : us.length = n ∧ ∀ j u, us[j]? = some u → W.cell? (a.add j) = some u := by
 unfold World.cells? at h
 split at h
 ·rw [List.range_eq_range'] at h
  obtain ⟨h1, h2⟩ := range_mapM _ n 0 us h
  refine ⟨h1, fun j u hj => ?_⟩
  have hlt : j < n := by
   rcases Nat.lt_or_ge j n with h | h
   ·exact h
   ·rw [List.getElem?_eq_none (by omega)] at hj; cases hj
  have := h2 j hlt
  rw [Nat.zero_add, hj] at this
  exact this
 ·cases h
theorem elems_read {b o sz : Nat} {el : List V → V} {R : V → Prop} : ∀ (n i : Nat), (∀ j, i ≤ j → j < i + n → ∃ x us, R x ∧ us.length = sz ∧ RF W ok x us ∧ cellsAt W b (o + j * sz) us) → ∃ xs : List V, xs.length = n ∧ (∀ x, x ∈ xs → R x) ∧ RE W ok xs b (o + i * sz) sz
 | 0, i, _ => ⟨[], rfl, by simp, by simp only [RE]⟩
 | n + 1, i, h => by
  obtain ⟨x, us, h1, h2, h3, h4⟩ := h i (Nat.le_refl _) (by omega)
  obtain ⟨xs, h5, h6, h7⟩ := elems_read (el := el) n (i + 1) fun j h8 h9 => h j (by omega) (by omega)
  refine ⟨x :: xs, by simp [h5], fun y hy => ?_, ?_⟩
  ·rcases List.mem_cons.1 hy with rfl | hy
   ·exact h1
   ·exact h6 y hy
  ·simp only [RE]
   refine ⟨⟨us, h2, h3, h4⟩, ?_⟩
   rwa [Nat.succ_mul, ← Nat.add_assoc] at h7
theorem read_ok (g : Nat) (hok : ∀ b, b < W.heap.size → ok b) : ∀ t, Reads P W ok enc base spare held g t := by
 induction g with
 | zero => intro t fuel cs x sh h hs; simp [shapeOf] at hs
 | succ g ih =>
  intro t fuel cs x sh h hs
  simp only [shapeOf] at hs
  split at hs
  ·rename_i k hu
   simp only [Option.some.injEq] at hs
   subst hs
   obtain ⟨n, rfl, _, hw⟩ := DataW.trod_int hu h
   exact ⟨[.int k n], by simp only [inL, inP]; exact ⟨_, [], rfl, ⟨n, rfl, hw⟩, rfl⟩, by simp only [RFL, RF]; exact ⟨[.int k n], [], rfl, rfl, rfl, rfl⟩⟩
  ·rename_i hu
   simp only [Option.some.injEq] at hs
   subst hs
   obtain ⟨b, rfl, _⟩ := DataW.trod_bool hu h
   exact ⟨[.bool b], by simp only [inL, inP]; exact ⟨_, [], rfl, ⟨b, rfl⟩, rfl⟩, by simp only [RFL, RF]; exact ⟨[.bool b], [], rfl, rfl, rfl, rfl⟩⟩
  ·rename_i hu
   simp only [Option.some.injEq] at hs
   subst hs
   obtain ⟨s, rfl, _, hw⟩ := DataW.trod_string hu h
   exact ⟨[.str s], by simp only [inL, inP]; exact ⟨_, [], rfl, ⟨s, rfl, hw⟩, rfl⟩, by simp only [RFL, RF]; exact ⟨[.string s], [], rfl, rfl, rfl, rfl⟩⟩
  ·rename_i fs hu
   obtain ⟨xs, m, rfl, _, hl, hxl, hf⟩ := DataW.trod_struct hu h
   have := fields_read (cs := cs) (fuel := m) ih hl fs.toList 0 sh (fun f hf' => ?_) hs
   ·simpa using this
   ·obtain ⟨i, hi⟩ := List.mem_iff_getElem?.1 hf'
    have hi' : fs[i]? = some f := by simpa using hi
    have hlt : i < fs.size := by
     rcases Nat.lt_or_ge i fs.size with h | h
     ·exact h
     ·rw [Array.getElem?_eq_none h] at hi'; cases hi'
    exact ⟨xs[i]'(by omega), by rw [hf i f hi', List.getElem?_eq_getElem]⟩
  ·rename_i n e hu
   obtain ⟨xs, m, rfl, _, hl, hxl, hf⟩ := DataW.trod_array hu h
   have el : ∀ sh', shapeOf P g e = some sh' → ∀ i, i < n → ∃ vs, inL sh' vs ∧ RFL W ok vs ((cs.drop (i * P.cellsOf e)).take (P.cellsOf e)) := by
    intro sh' hs' i hi
    have := hf i hi
    rw [List.getElem?_eq_getElem (by omega)] at this
    exact ih e m _ _ sh' this hs'
   split at hs
   ·rename_i k hk hsz
    have hsz : n * P.cellsOf e = P.cellsOf t := Nat.eq_of_beq_eq_true hsz
    split at hs
    ·rename_i h1
     have h1 : P.cellsOf e = 1 := Nat.eq_of_beq_eq_true h1
     simp only [Option.some.injEq] at hs
     subst hs
     rw [h1] at hsz el
     obtain ⟨c, h2, h3⟩ := pieces (k := k) (m := 1) n cs (by omega) fun i hi => by
      obtain ⟨vs, h4, h5⟩ := el _ hk i hi
      obtain ⟨v, rfl, h6⟩ := inL_one h4
      simp only [inP] at h6
      obtain ⟨z, rfl, h7⟩ := h6
      have h8 := RFL_one h5
      simp only [RF] at h8
      exact ⟨fun _ => z, by rw [h8]; rfl, fun _ _ => h7⟩
     rw [Nat.mul_one] at h2 h3
     exact ⟨[.ints k n c], by simp only [inL, inP]; exact ⟨_, [], rfl, ⟨c, rfl, h3⟩, rfl⟩, by simp only [RFL, RF]; exact ⟨cs, [], by simp, rfl, h2, rfl⟩⟩
    ·cases hs
   ·rename_i k q hk hsz
    have hsz : n * P.cellsOf e = P.cellsOf t := Nat.eq_of_beq_eq_true hsz
    split at hs
    ·rename_i h1
     have h1 : P.cellsOf e = q := Nat.eq_of_beq_eq_true h1
     simp only [Option.some.injEq] at hs
     subst hs
     rw [h1] at hsz el
     obtain ⟨c, h2, h3⟩ := pieces (k := k) (m := q) n cs (by omega) fun i hi => by
      obtain ⟨vs, h4, h5⟩ := el _ hk i hi
      obtain ⟨v, rfl, h6⟩ := inL_one h4
      simp only [inP] at h6
      obtain ⟨z, rfl, h7⟩ := h6
      have h8 := RFL_one h5
      simp only [RF] at h8
      exact ⟨z, h8, h7⟩
     exact ⟨[.ints k (n * q) c], by simp only [inL, inP]; exact ⟨_, [], rfl, ⟨c, rfl, h3⟩, rfl⟩, by simp only [RFL, RF]; exact ⟨cs, [], by simp, rfl, h2, rfl⟩⟩
    ·cases hs
   ·cases hs
  ·rename_i e hu
   split at hs
   ·rename_i ps hps
    split at hs
    ·rename_i hpos hsz
     have hpos : 0 < P.cellsOf e := by simpa [Nat.blt_eq] using hpos
     have hsz : psz ps = P.cellsOf e := Nat.eq_of_beq_eq_true hsz
     have main : ∀ (agg : Bool) (R : V → Prop), sh = [.sl agg ps] → (∀ x, R x → (match agg with | true => ∃ l, x = .parts l ∧ inL ps l | false => inL ps [x])) →
      (∀ vs us, inL ps vs → RFL W ok vs us → ∃ x, R x ∧ RF W ok x us) → ∃ vs, inL sh vs ∧ RFL W ok vs cs := by
      intro agg R hsh hR hx
      subst hsh
      rcases DataW.trod_slice hu h with ⟨rfl, _⟩ | ⟨a, len, cap, elems, rest, m, rfl, rfl, _, _, hlc, hcm, hel, he, _⟩
      ·refine ⟨[.sl []], ?_, ?_⟩
       ·simp only [inL, inP]
        exact ⟨_, [], rfl, ⟨[], rfl, by simp [maxLen], by simp⟩, rfl⟩
       ·simp only [RFL, RF]
        exact ⟨[.slice none 0 0], [], rfl, rfl, ⟨none, 0, rfl, by simp [maxLen], by simp⟩, rfl⟩
      ·have one : ∀ i, i < len → ∃ x us, R x ∧ us.length = P.cellsOf e ∧ RF W ok x us ∧ ∀ j u, us[j]? = some u → W.cell? ((a.add (i * P.cellsOf e)).add j) = some u := by
        intro i hi
        have h1 := he i hi
        rw [List.getElem?_eq_getElem (by omega)] at h1
        cases hc : W.cells? base (a.add (i * P.cellsOf e)) (P.cellsOf e) with
        | none => rw [hc] at h1; simp at h1
        | some us =>
         rw [hc, Option.bind_some] at h1
         obtain ⟨h2, h3⟩ := cells_at hc
         obtain ⟨vs, h4, h5⟩ := ih e m us _ ps h1 hps
         obtain ⟨x, h6, h7⟩ := hx vs us h4 h5
         exact ⟨x, us, h6, h2, h7, h3⟩
       rcases Nat.eq_zero_or_pos len with h0 | h0
       ·subst h0
        refine ⟨[.sl []], ?_, ?_⟩
        ·simp only [inL, inP]
         exact ⟨_, [], rfl, ⟨[], rfl, by simp [maxLen], by simp⟩, rfl⟩
        ·simp only [RFL, RF]
         exact ⟨[.slice (some a) 0 cap], [], rfl, rfl, ⟨some a, cap, rfl, by simp [maxLen], by simp⟩, rfl⟩
       ·
        obtain ⟨x0, us0, _, hl0, _, hc0⟩ := one 0 h0
        have hcell := hc0 0 us0[0] (List.getElem?_eq_getElem (by omega))
        have ha0 : (a.add (0 * P.cellsOf e)).add 0 = a := by simp [Addr.add]
        rw [ha0] at hcell
        have hspot : a.spot = none := by
         unfold World.cell? at hcell
         split at hcell
         ·split at hcell
          ·cases hcell
          ·rename_i hsp; cases hq : a.spot <;> simp [hq] at hsp ⊢
         ·cases hcell
        have hblk := block_lt_of_cell hcell
        obtain ⟨b, o', sp⟩ := a
        simp only at hspot
        subst hspot
        obtain ⟨xs, h1, h2, h3⟩ := elems_read (W := W) (ok := ok) (b := b) (o := o') (sz := P.cellsOf e) (el := fun _ => .dead) (R := R) len 0 fun j _ hj => by
         obtain ⟨x, us, k1, k2, k3, k4⟩ := one j (by omega)
         refine ⟨x, us, k1, k2, k3, fun i u hi => ?_⟩
         have := k4 i u hi
         rwa [addr_add, addr_add] at this
        refine ⟨[.sl xs], ?_, ?_⟩
        ·simp only [inL, inP]
         exact ⟨_, [], rfl, ⟨xs, rfl, by rw [h1]; omega, fun x hx' => hR x (h2 x hx')⟩, rfl⟩
        ·simp only [RFL, RF]
         exact ⟨[.slice (some ⟨b, o', none⟩) len cap], [], rfl, rfl, ⟨some ⟨b, o', none⟩, cap, by rw [h1], by rw [h1]; omega, .inr ⟨b, o', P.cellsOf e, rfl, hok b hblk, by simpa using h3⟩⟩, rfl⟩
     split at hs
     ·simp only [Option.some.injEq] at hs
      exact main true (fun x => ∃ l, x = .parts l ∧ inL _ l) hs.symm (fun x hx => hx) fun vs us h1 h2 => ⟨.parts vs, ⟨vs, rfl, h1⟩, by simp only [RF]; exact h2⟩
     ·simp only [Option.some.injEq] at hs
      refine main false (fun x => inL [_] [x]) hs.symm (fun x hx => hx) fun vs us h1 h2 => ?_
      obtain ⟨v, rfl, h3⟩ := inL_one h1
      exact ⟨v, h1, RFL_one h2⟩
     ·cases hs
    ·cases hs
   ·cases hs
  ·cases hs
end
end Go.Proofs.YthdnamhilcjnhaaGreatDoor
