/- Maps whose keys are whole numbers or structs of such, and whose elements are bools; max and min. -/
import Derived.Test.YthdnamhilcjnhaaGreatDoorRs11
import Derived.Maps.Own
import Derived.ChangeMaps5
import Derived.Laws.Small
namespace Go.Proofs.YthdnamhilcjnhaaGreatDoor
open Go Go.RowKit Go.Maps Go.ChangeMaps
set_option linter.unusedVariables false
set_option linter.unusedSimpArgs false
def keyNums : List V → List Int
 | [] => []
 | .int _ n :: vs => n :: keyNums vs
 | _ :: vs => 0 :: keyNums vs
theorem keyInts_cells {w : World} {ok : Nat → Prop} : ∀ (ks : List IntKind) (ps : List V) (cs : List Value), keyInts ks ps = true → RFL w ok ps cs → cs = zipI ks (keyNums ps) ∧ wfs ks (keyNums ps) = true
 | [], [], cs, _, h => by simp only [RFL] at h; subst h; exact ⟨rfl, rfl⟩
 | [], p :: ps, cs, hk, _ => by simp [keyInts] at hk
 | k :: ks, [], cs, hk, _ => by simp [keyInts] at hk
 | k :: ks, p :: ps, cs, hk, h => by
  cases p <;> simp only [keyInts, Bool.and_eq_true, decide_eq_true_eq, Bool.false_eq_true] at hk
  rename_i k' n
  obtain ⟨⟨rfl, h1⟩, h2⟩ := hk
  simp only [RFL] at h
  obtain ⟨a, b, rfl, _, h3, h4⟩ := h
  simp only [RF] at h3
  subst h3
  obtain ⟨h5, h6⟩ := keyInts_cells ks ps b h2 h4
  subst h5
  exact ⟨rfl, by simp only [keyNums, wfs, h1, h6, Bool.and_self]⟩
theorem keyIs_val {w : World} {ok : Nat → Prop} {kd : Bool × List IntKind} {v : V} {u : Value} (h : keyIs kd v = true) (hr : RF w ok v u.cells.toList) (ha : aggOk v u) : u = keyVal kd (keyNums (partsOf v)) ∧ wfs kd.2 (keyNums (partsOf v)) = true := by
 obtain ⟨g, ks⟩ := kd
 have one : notP v = true → (!g && keyInts ks [v]) = true → u.oneCell' = true → u = keyVal (g, ks) (keyNums [v]) ∧ wfs ks (keyNums [v]) = true := by
  intro hn h0 ho
  clear h
  simp only [Bool.and_eq_true, Bool.not_eq_true'] at h0
  obtain ⟨rfl, h⟩ := h0
  have : RFL w ok [v] u.cells.toList := by
   simp only [RFL]
   exact ⟨u.cells.toList, [], by simp, hn, hr, rfl⟩
  obtain ⟨h1, h2⟩ := keyInts_cells _ _ _ h this
  refine ⟨?_, h2⟩
  cases ks with
  | nil => simp [keyInts] at h
  | cons k ks =>
  cases v <;> simp only [keyInts, Bool.and_eq_true, decide_eq_true_eq, Bool.false_eq_true] at h
  rename_i k' n
  obtain ⟨⟨rfl, h3⟩, h4⟩ := h
  cases ks <;> simp [keyInts] at h4
  simp only [keyNums, zipI] at h1
  simp only [keyVal, keyNums, zipI]
  have h5 : u.cells.toList = [u] := by revert ho; cases u <;> intro ho <;> first | rfl | simp [Value.oneCell'] at ho
  rw [h5] at h1
  simpa using h1
 cases v <;> first
  | exact one rfl h ha
  | skip
 ·rename_i k n c
  cases ks <;> simp [keyIs, keyInts] at h
 ·rename_i ps
  simp only [keyIs, Bool.and_eq_true] at h
  obtain ⟨rfl, h⟩ := h
  obtain ⟨cs, rfl⟩ := ha
  simp only [RF] at hr
  have hr : RFL w ok ps cs.toList := hr
  obtain ⟨h1, h2⟩ := keyInts_cells _ _ _ h hr
  refine ⟨?_, h2⟩
  simp only [keyVal, partsOf]
  rw [← h1]
theorem keyInts_same : ∀ (ks : List IntKind) (ps qs : List V), keyInts ks ps = true → keyInts ks qs = true → (sameParts ps qs = true ↔ keyNums ps = keyNums qs)
 | [], [], [], _, _ => by simp [sameParts, keyNums]
 | [], p :: ps, qs, h, _ => by simp [keyInts] at h
 | [], [], q :: qs, _, h => by simp [keyInts] at h
 | k :: ks, [], qs, h, _ => by simp [keyInts] at h
 | k :: ks, p :: ps, [], _, h => by simp [keyInts] at h
 | k :: ks, p :: ps, q :: qs, h1, h2 => by
  cases p <;> simp only [keyInts, Bool.and_eq_true, decide_eq_true_eq, Bool.false_eq_true] at h1
  cases q <;> simp only [keyInts, Bool.and_eq_true, decide_eq_true_eq, Bool.false_eq_true] at h2
  obtain ⟨⟨rfl, _⟩, h3⟩ := h1
  obtain ⟨⟨rfl, _⟩, h4⟩ := h2
  simp only [sameParts, keyNums, decide_true, Bool.true_and, Bool.and_eq_true, decide_eq_true_eq, keyInts_same ks ps qs h3 h4, List.cons.injEq]
theorem keyIs_parts {kd : Bool × List IntKind} {v : V} (h : keyIs kd v = true) : keyInts kd.2 (partsOf v) = true := by
 cases v <;> simp only [keyIs, Bool.and_eq_true] at h <;> exact h.2
theorem sameKey_iff {kd : Bool × List IntKind} {x y : V} (hx : keyIs kd x = true) (hy : keyIs kd y = true) : sameKey x y = true ↔ keyNums (partsOf x) = keyNums (partsOf y) :=
 keyInts_same kd.2 _ _ (keyIs_parts hx) (keyIs_parts hy)
theorem zipI_inj : ∀ (ks : List IntKind) (ns ms : List Int), wfs ks ns = true → wfs ks ms = true → zipI ks ns = zipI ks ms → ns = ms
 | [], [], [], _, _, _ => rfl
 | [], n :: ns, ms, h, _, _ => by simp [wfs] at h
 | [], [], m :: ms, _, h, _ => by simp [wfs] at h
 | k :: ks, [], ms, h, _, _ => by simp [wfs] at h
 | k :: ks, n :: ns, [], _, h, _ => by simp [wfs] at h
 | k :: ks, n :: ns, m :: ms, h1, h2, h => by
  simp only [wfs, Bool.and_eq_true] at h1 h2
  simp only [zipI, List.cons.injEq, Value.int.injEq, true_and] at h
  rw [h.1, zipI_inj ks ns ms h1.2 h2.2 h.2]
theorem wfs_len : ∀ (ks : List IntKind) (ns : List Int), wfs ks ns = true → ns.length = ks.length
 | [], [], _ => rfl
 | [], n :: ns, h => by simp [wfs] at h
 | k :: ks, [], h => by simp [wfs] at h
 | k :: ks, n :: ns, h => by
  simp only [wfs, Bool.and_eq_true] at h
  simp [wfs_len ks ns h.2]
theorem keyVal_inj {kd : Bool × List IntKind} (hk : kd.1 = false → kd.2.length = 1) {ns ms : List Int} (h1 : wfs kd.2 ns = true) (h2 : wfs kd.2 ms = true) (h : keyVal kd ns = keyVal kd ms) : ns = ms := by
 obtain ⟨g, ks⟩ := kd
 cases g with
 | true =>
  simp only [keyVal, Value.agg.injEq] at h
  exact zipI_inj ks ns ms h1 h2 (by simpa using h)
 | false =>
  have := hk rfl
  match ks, this with
  | [k], _ =>
   have l1 := wfs_len _ _ h1
   have l2 := wfs_len _ _ h2
   match ns, ms, l1, l2 with
   | [n], [m], _, _ => simpa [keyVal, zipI] using h
theorem hasKey_iff {kd : Bool × List IntKind} {k : V} (hk : keyIs kd k = true) : ∀ (xs : List V), keysFine kd xs = true → (hasKey k xs = true ↔ ∃ x, x ∈ xs ∧ keyNums (partsOf k) = keyNums (partsOf x))
 | [], _ => by simp [hasKey]
 | x :: xs, h => by
  simp only [keysFine, Bool.and_eq_true] at h
  simp only [hasKey, Bool.or_eq_true, sameKey_iff hk h.1.1, hasKey_iff hk xs h.2, List.mem_cons]
  constructor
  ·rintro (h1 | ⟨y, h1, h2⟩)
   ·exact ⟨x, .inl rfl, h1⟩
   ·exact ⟨y, .inr h1, h2⟩
  ·rintro ⟨y, rfl | h1, h2⟩
   ·exact .inl h2
   ·exact .inr ⟨y, h1, h2⟩
theorem keysFine_mem {kd : Bool × List IntKind} : ∀ {xs : List V} {x : V}, keysFine kd xs = true → x ∈ xs → keyIs kd x = true
 | y :: ys, x, h, hx => by
  simp only [keysFine, Bool.and_eq_true] at h
  rcases List.mem_cons.1 hx with rfl | hx
  ·exact h.1.1
  ·exact keysFine_mem h.2 hx
theorem mapFind_none {kd : Bool × List IntKind} {k : V} (hk : keyIs kd k = true) : ∀ (xs : List V) (i : Nat), keysFine kd xs = true → (∀ x, x ∈ xs → keyNums (partsOf k) ≠ keyNums (partsOf x)) → mapFind k xs i = none
 | [], i, _, _ => rfl
 | x :: xs, i, h, hn => by
  simp only [keysFine, Bool.and_eq_true] at h
  have h1 : sameParts (partsOf k) (partsOf x) = false := by
   cases hs : sameParts (partsOf k) (partsOf x) with
   | false => rfl
   | true => exact absurd ((sameKey_iff hk h.1.1).1 hs) (hn x (by simp))
  simp only [mapFind, h1]
  exact mapFind_none hk xs (i + 1) h.2 fun y hy => hn y (by simp [hy])
theorem mapFind_at {kd : Bool × List IntKind} {k : V} (hk : keyIs kd k = true) : ∀ (xs : List V) (i j : Nat) (x : V), keysFine kd xs = true → xs[j]? = some x → keyNums (partsOf k) = keyNums (partsOf x) → mapFind k xs i = some (i + j)
 | [], i, j, x, _, hj, _ => by simp at hj
 | y :: ys, i, 0, x, h, hj, he => by
  simp only [keysFine, Bool.and_eq_true] at h
  simp only [List.getElem?_cons_zero, Option.some.injEq] at hj
  subst hj
  have h1 : sameParts (partsOf k) (partsOf y) = true := (sameKey_iff hk h.1.1).2 he
  simp only [mapFind, h1, Nat.add_zero]
 | y :: ys, i, j + 1, x, h, hj, he => by
  simp only [keysFine, Bool.and_eq_true, Bool.not_eq_true'] at h
  simp only [List.getElem?_cons_succ] at hj
  have hx := List.mem_of_getElem? hj
  have h1 : sameParts (partsOf k) (partsOf y) = false := by
   cases hs : sameParts (partsOf k) (partsOf y) with
   | false => rfl
   | true =>
    have h2 := (sameKey_iff hk h.1.1).1 hs
    have h3 := (hasKey_iff h.1.1 ys h.2).2 ⟨x, hx, h2.symm.trans he⟩
    rw [h.1.2] at h3; cases h3
  simp only [mapFind, h1]
  rw [mapFind_at hk ys (i + 1) j x h.2 hj he]
  congr 1; omega
theorem RFC_at {w : World} {ok : Nat → Prop} : ∀ (vs : List V) (us : List Value) (j : Nat) (u : Value), RFC w ok vs us → us[j]? = some u → ∃ v, vs[j]? = some v ∧ RF w ok v u.cells.toList ∧ aggOk v u
 | [], us, j, u, h, hj => by simp only [RFC] at h; subst h; simp at hj
 | v :: vs, us, j, u, h, hj => by
  simp only [RFC] at h
  obtain ⟨u0, l, rfl, h1, h2, h3⟩ := h
  cases j with
  | zero =>
   simp only [List.getElem?_cons_zero, Option.some.injEq] at hj
   subst hj
   exact ⟨v, rfl, h1, h2⟩
  | succ j =>
   simp only [List.getElem?_cons_succ] at hj ⊢
   exact RFC_at vs l j u h3 hj
theorem RFC_set {w : World} {ok : Nat → Prop} {x : V} {y : Value} (h1 : RF w ok x y.cells.toList) (h2 : aggOk x y) : ∀ (vs : List V) (us : List Value) (j : Nat), RFC w ok vs us → RFC w ok (setNth vs j x) (us.set j y)
 | [], us, j, h => by simp only [RFC] at h; subst h; simp [setNth, RFC]
 | v :: vs, us, j, h => by
  simp only [RFC] at h
  obtain ⟨u0, l, rfl, h3, h4, h5⟩ := h
  cases j with
  | zero => simp only [setNth, List.set_cons_zero, RFC]; exact ⟨y, l, rfl, h1, h2, h5⟩
  | succ j => simp only [setNth, List.set_cons_succ, RFC]; exact ⟨u0, _, rfl, h3, h4, RFC_set h1 h2 vs l j h5⟩
theorem RFC_snoc {w : World} {ok : Nat → Prop} {x : V} {y : Value} (h1 : RF w ok x y.cells.toList) (h2 : aggOk x y) : ∀ (vs : List V) (us : List Value), RFC w ok vs us → RFC w ok (vs ++ [x]) (us ++ [y])
 | [], us, h => by simp only [RFC] at h; subst h; simp only [List.nil_append, RFC]; exact ⟨y, [], rfl, h1, h2, rfl⟩
 | v :: vs, us, h => by
  simp only [RFC] at h
  obtain ⟨u0, l, rfl, h3, h4, h5⟩ := h
  simp only [List.cons_append, RFC]
  exact ⟨u0, _, rfl, h3, h4, RFC_snoc h1 h2 vs l h5⟩
theorem RFC_mem {w : World} {ok : Nat → Prop} {vs : List V} {us : List Value} (h : RFC w ok vs us) {u : Value} (hu : u ∈ us) : ∃ v, v ∈ vs ∧ RF w ok v u.cells.toList ∧ aggOk v u := by
 obtain ⟨j, hj⟩ := List.mem_iff_getElem?.1 hu
 obtain ⟨v, h1, h2⟩ := RFC_at _ _ _ _ h hj
 exact ⟨v, List.mem_of_getElem? h1, h2⟩
theorem nth_getE {α : Type} : ∀ (l : List α) (i : Nat), nth l i = l[i]?
 | [], i => by simp [nth]
 | x :: l, 0 => by simp [nth]
 | x :: l, i + 1 => by simp [nth, nth_getE l i]
section
variable {E : Env} {P : Program} {keep : Nat → Prop} {w0 : World} {σ : Sg} {w : World} {st : St} {a : Act} {o : Oper} {v : V} {es : List (Nat × Ent)} {call : Nat → List V → Option V} {ent : Nat → Ent}
theorem kd_one {kt : Nat} {kd : Bool × List IntKind} (h : E.kd kt = some kd) : kd.1 = false → kd.2.length = 1 := by
 unfold Env.kd at h
 split at h
 ·split at h
  ·simp only [Option.some.injEq] at h; subst h; intro _; rfl
  ·split at h
   ·simp only [Option.some.injEq] at h; subst h; intro h; cases h
   ·cases h
  ·cases h
 ·cases h
theorem key_operand (hf : FRel E st.ent σ w st a) {kd : Bool × List IntKind} (kt : Nat) (k : Operand) (h : keyIs kd (st.ev E kt k) = true) : RF w (okB st.ent σ w) (st.ev E kt k) (a.eval k).cells.toList ∧ aggOk (st.ev E kt k) (a.eval k) := by
 have hk := ev_RT (E := E) hf kt k
 generalize st.ev E kt k = v at *
 have hcap : capOk v = true := by
  cases v <;> first | rfl | (simp [keyIs, keyInts] at h; done) | (obtain ⟨g, ks⟩ := kd; cases ks <;> simp [keyIs, keyInts] at h; done)
 have hfor : forP v = true := by
  cases v with
  | parts ps =>
   have h1 := keyIs_parts h
   simp only [partsOf] at h1
   simp only [forP]
   have : ∀ (ks : List IntKind) (ps : List V), keyInts ks ps = true → allB forO ps = true := by
    intro ks ps
    induction ps generalizing ks with
    | nil => intro _; rfl
    | cons p ps ih =>
     intro h
     cases ks with
     | nil => simp [keyInts] at h
     | cons k ks =>
      cases p <;> simp only [keyInts, Bool.and_eq_true, Bool.false_eq_true] at h
      simp only [allB, forO]
      exact ih _ h.2
   exact this _ _ h1
  | int k n => rfl
  | _ => obtain ⟨g, ks⟩ := kd; cases ks <;> simp [keyIs, keyInts] at h
 exact RFc_of_RTc hfor (RTc_of_RT hcap hk)
theorem map_keys (hE : EnvOk E P) {kt : Nat} {kd : Bool × List IntKind} (hkd : E.kd kt = some kd) {ok : Nat → Prop} {ks : List V} {ms : Array MapEntry} (hks : keysFine kd ks = true) (hr : RFC w ok ks (ms.toList.map (·.key))) :
 ∀ e ∈ ms.toList, ∃ l, keyOf P kt e.key = some l := by
 intro e he
 obtain ⟨x, hx, h1, h2⟩ := RFC_mem hr (List.mem_map.2 ⟨e, he, rfl⟩)
 obtain ⟨h3, h4⟩ := keyIs_val (keysFine_mem hks hx) h1 h2
 rw [h3]
 exact (hE.key kt kd hkd).2 _ h4
theorem map_find (hE : EnvOk E P) {kt : Nat} {kd : Bool × List IntKind} (hkd : E.kd kt = some kd) {ok ok' : Nat → Prop} {ks : List V} {ms : Array MapEntry} (hks : keysFine kd ks = true) (hr : RFC w ok ks (ms.toList.map (·.key)))
 {k : V} {u : Value} (hk : keyIs kd k = true) (hu : RF w ok' k u.cells.toList) (ha : aggOk k u) : ∃ l, keyOf P kt u = some l ∧
  ((Instr.findKey kt u ms.toList).run P w = .ok none w ∧ (∀ e ∈ ms.toList, e.key ≠ u) ∧ mapFind k ks 0 = none ∨ ∃ j e, (Instr.findKey kt u ms.toList).run P w = .ok (some (j, e.val)) w ∧ ms[j]? = some e ∧ e.key = u ∧ mapFind k ks 0 = some j) := by
 obtain ⟨h3, h4⟩ := keyIs_val hk hu ha
 obtain ⟨K, hkey⟩ := hE.key kt kd hkd
 obtain ⟨l, hl⟩ := hkey _ h4
 rw [← h3] at hl
 refine ⟨l, hl, ?_⟩
 have e0 := h3
 rcases K.find w hl ms.toList (map_keys hE hkd hks hr) with ⟨h1, h2⟩ | ⟨j, e, h1, h2, h5⟩
 ·refine .inl ⟨h1, h2, mapFind_none hk _ _ hks fun x hx hn => ?_⟩
  obtain ⟨j, hj⟩ := List.mem_iff_getElem?.1 hx
  have hlen : ∀ (vs : List V) (us : List Value), RFC w ok vs us → us.length = vs.length := by
   intro vs
   induction vs with
   | nil => intro us h; simp only [RFC] at h; subst h; rfl
   | cons v vs ih => intro us h; simp only [RFC] at h; obtain ⟨u0, l, rfl, _, _, h⟩ := h; simp [ih l h]
  have hjl : j < ks.length := (List.getElem?_eq_some_iff.1 hj).1
  rw [← hlen _ _ hr] at hjl
  obtain ⟨x', hx', k1, k2⟩ := RFC_at _ _ j _ hr (List.getElem?_eq_getElem hjl)
  rw [hj] at hx'
  cases hx'
  obtain ⟨k3, k4⟩ := keyIs_val (keysFine_mem hks hx) k1 k2
  have hm : (ms.toList.map (·.key))[j] ∈ ms.toList.map (·.key) := List.getElem_mem hjl
  obtain ⟨e, he, hek⟩ := List.mem_map.1 hm
  exact h2 e he (by rw [hek, k3, e0, hn])
 ·refine .inr ⟨j, e, h1, by simpa using h2, h5, ?_⟩
  obtain ⟨x, hx, k1, k2⟩ := RFC_at _ _ j e.key hr (by rw [List.getElem?_map, h2]; rfl)
  obtain ⟨k3, k4⟩ := keyIs_val (keysFine_mem hks (List.mem_of_getElem? hx)) k1 k2
  have hn : keyNums (partsOf k) = keyNums (partsOf x) := keyVal_inj (kd_one hkd) h4 k4 (by rw [← e0, ← k3, h5])
  have := mapFind_at hk ks 0 j x hks hx hn
  rwa [Nat.zero_add] at this
theorem allBools_at : ∀ {vs : List V} {j : Nat} {x : V}, allBools vs = true → vs[j]? = some x → ∃ b, x = .bool b
 | y :: ys, 0, x, h, hj => by
  simp only [List.getElem?_cons_zero, Option.some.injEq] at hj
  subst hj
  cases y <;> simp only [allBools, Bool.false_eq_true] at h
  exact ⟨_, rfl⟩
 | y :: ys, j + 1, x, h, hj => by
  cases y <;> simp only [allBools, Bool.false_eq_true] at h
  simp only [List.getElem?_cons_succ] at hj
  exact allBools_at h hj
theorem lookup_run (hE : EnvOk E P) {t kt et : Nat} {ty ety : TyI} (ht : E.ty t = some ty) (hd : ty.d = .mp kt et) (hety : E.ty et = some ety) (hbd : ety.d = .bool) {kd : Bool × List IntKind} (hkd : E.kd kt = some kd)
 {ok ok' : Nat → Prop} {ks vs : List V} {ms : Array MapEntry} {clk b : Nat} (hb : w.heap[b]? = some (.map ms clk)) (hfine : mapFine kd ks vs = true) (hr : RFC w ok ks (ms.toList.map (·.key))) (hv : RFC w ok vs (ms.toList.map (·.val)))
 {k : V} {u : Value} (hk : keyIs kd k = true) (hu : RF w ok' k u.cells.toList) (ha : aggOk k u) : (Instr.lookup t (.map (some b)) u false).run P w = .ok (.bool (mapGetB k ks vs)) w := by
 simp only [mapFine, Bool.and_eq_true] at hfine
 obtain ⟨l, hl, hfind⟩ := map_find hE hkd hfine.1 hr hk hu ha
 obtain ⟨K, _⟩ := hE.key kt kd hkd
 obtain ⟨d, _, _, hun, htd, _⟩ := hE.ty t ty ht
 rw [hd] at htd
 cases d <;> simp only [tyD] at htd
 obtain ⟨rfl, rfl⟩ := htd
 obtain ⟨de, ie, ze, hue, hted, hie, _, _, hze, hzs, hzr, _, hz1, _⟩ := hE.ty _ ety hety
 rw [hbd] at hted
 cases de <;> simp only [tyD] at hted
 rcases hfind with ⟨h1, _, h3⟩ | ⟨j, e, h1, h2, _, h3⟩
 ·have hz : (zeroValue _).run P w = .ok (.bool false) w := (hE.zb _ ety hety hbd w)
  simp [Instr.lookup, run_underlying hun, MapKept.run_getObj_map hb, K.check w _ hl, h1, hz, Result.andThen, mapGetB, h3]
 ·obtain ⟨x, hx, k1, k2⟩ := RFC_at _ _ j e.val hv (by
   rw [List.getElem?_map]
   have : ms.toList[j]? = some e := by simpa using h2
   rw [this]; rfl)
  obtain ⟨b', rfl⟩ := allBools_at hfine.2 hx
  simp only [RF] at k1
  have hval : e.val = .bool b' := by
   have k2 : e.val.oneCell' = true := k2
   have : e.val.cells.toList = [e.val] := by revert k2; cases e.val <;> intro k2 <;> first | rfl | simp [Value.oneCell'] at k2
   rw [this] at k1
   simpa using k1
  simp [Instr.lookup, run_underlying hun, MapKept.run_getObj_map hb, K.check w _ hl, h1, Result.andThen, mapGetB, h3, nth_getE, hx, hval]
theorem op_lookup (hE : EnvOk E P) (hr : HR E keep w0 st.ent σ w) (hf : FRel E st.ent σ w st a) (t : TypeId) (m k : Operand) (c : Bool) (ho : o.op = .lookup t m k c) (h : (stepOp E call o st).eval = some (v, es)) :
 Done E keep w0 st.ent σ w ((execOp a.eval o).run P w) v es := by
 have hm := ev_RT (E := E) hf 0 m
 simp only [stepOp, ho] at h
 split at h
 ·rename_i ty ht
  split at h
  ·rename_i kt et hd
   split at h
   ·rename_i kd ety hkd hety
    split at h
    ·rename_i hbd
     split at h
     ·rename_i i hi
      rw [hi] at hm
      split at h
      ·rename_i ks vs he
       simp only [Tr.eval] at h
       split at h
       ·rename_i h1
        split at h
        ·rename_i h2
         simp only [Option.some.injEq, Prod.mk.injEq] at h
         obtain ⟨rfl, rfl⟩ := h
         obtain ⟨k1, k2⟩ := key_operand hf kt k h2
         have hm2 : RO1 E st.ent σ w (.mp i) [a.eval m] := hm.2
         simp only [RO1] at hm2
         obtain ⟨u0, e1, _, _, h4⟩ := hm2
         simp only [List.cons.injEq, and_true] at e1
         have hu0 := h4 ks vs he
         have hen := hr.ents i
         unfold EntR at hen
         rw [he] at hen
         obtain ⟨b, ms, clk, e2, _, e3, e4, e5⟩ := hen
         refine Done.pure hr (u := .bool (mapGetB (st.ev E kt k) ks vs)) ?_ (RT_mkbool _)
         have := lookup_run hE ht hd hety hbd hkd e3 h1 e4 e5 h2 k1 k2
         simp [execOp, ho, e1, hu0, e2, this]
        ·cases h
       ·cases h
      ·simp [Tr.eval] at h
     ·rename_i ks vs hi
      rw [hi] at hm
      simp only [Tr.eval] at h
      split at h
      ·rename_i h1
       split at h
       ·rename_i h2
        simp only [Option.some.injEq, Prod.mk.injEq] at h
        obtain ⟨rfl, rfl⟩ := h
        obtain ⟨k1, k2⟩ := key_operand hf kt k h2
        have hm2 : RO1 E st.ent σ w (.mapc ks vs) [a.eval m] := hm.2
        simp only [RO1, RF] at hm2
        obtain ⟨b, ms, clk, e2, _, e3, e4, e5⟩ := hm2
        simp only [List.cons.injEq, and_true] at e2
        refine Done.pure hr (u := .bool (mapGetB (st.ev E kt k) ks vs)) ?_ (RT_mkbool _)
        have := lookup_run hE ht hd hety hbd hkd e3 h1 e4 e5 h2 k1 k2
        simp [execOp, ho, e2, this]
       ·cases h
      ·cases h
     ·simp [Tr.eval] at h
    ·simp [Tr.eval] at h
   ·simp [Tr.eval] at h
  ·simp [Tr.eval] at h
 ·simp [Tr.eval] at h
theorem op_mapUpdate (hE : EnvOk E P) (hr : HR E keep w0 st.ent σ w) (hf : FRel E st.ent σ w st a) (t : TypeId) (m k x : Operand) (ho : o.op = .mapUpdate t m k x) (h : (stepOp E call o st).eval = some (v, es)) :
 Done E keep w0 st.ent σ w ((execOp a.eval o).run P w) v es := by
 have hm := ev_RT (E := E) hf 0 m
 have hx := ev_RT (E := E) hf 0 x
 simp only [stepOp, ho] at h
 split at h
 ·rename_i ty i ht hi
  rw [hi] at hm
  split at h
  ·rename_i kt et hd
   split at h
   ·rename_i ks vs kd b he hkd hb
    rw [hb] at hx
    have ex := RT_bool hx
    simp only [Tr.eval] at h
    split at h
    ·rename_i h1
     split at h
     ·rename_i h2
      simp only [Option.some.injEq, Prod.mk.injEq] at h
      obtain ⟨rfl, rfl⟩ := h
      obtain ⟨k1, k2⟩ := key_operand hf kt k h2
      have hm2 : RO1 E st.ent σ w (.mp i) [a.eval m] := hm.2
      simp only [RO1] at hm2
      obtain ⟨u0, e1, _, _, h4⟩ := hm2
      simp only [List.cons.injEq, and_true] at e1
      have hu0 := h4 ks vs he
      have hen := hr.ents i
      unfold EntR at hen
      rw [he] at hen
      obtain ⟨g, ms, clk, e2, e6, e3, e4, e5⟩ := hen
      simp only [mapFine, Bool.and_eq_true] at h1
      obtain ⟨l, hl, hfind⟩ := map_find hE hkd h1.1 e4 h2 k1 k2
      obtain ⟨K, _⟩ := hE.key kt kd hkd
      obtain ⟨d, _, _, hun, htd, _⟩ := hE.ty t ty ht
      rw [hd] at htd
      cases d <;> simp only [tyD] at htd
      rw [htd.1, htd.2] at hun
      have bx : ∀ ok : Nat → Prop, RF w ok (.bool b) (Value.bool b).cells.toList ∧ aggOk (.bool b) (.bool b) := fun ok => ⟨by simp [RF, Value.cells], rfl⟩
      have main : ∀ (ms' : Array MapEntry) (clk' : Nat), (Instr.mapUpdate t (.map (some g)) (a.eval k) (.bool b)).run P w = .ok () (setBlock w g (.map ms' clk')) →
       RFC w (okB st.ent σ w) (mapPutK (st.ev E kt k) ks) (ms'.toList.map (·.key)) → RFC w (okB st.ent σ w) (mapPutV (st.ev E kt k) (.bool b) ks vs) (ms'.toList.map (·.val)) →
       Done E keep w0 st.ent σ w ((execOp a.eval o).run P w) .dead [(i, .map (mapPutK (st.ev E kt k) ks) (mapPutV (st.ev E kt k) (.bool b) ks vs))] := by
       intro ms' clk' hrun hk' hv'
       refine Done.chg hr (nx := .skip) (u := undef) (w' := setBlock w g (.map ms' clk')) ?_ (.inr ⟨rfl, rfl⟩)
        (Chg.write hr (id := i) (g := g) (by rw [he]; rfl) (by rw [e2]; rfl) (by simp) rfl rfl rfl (by simp [setBlock]) (fun j hj => heap_setBlock_other e3 _ hj) (by simp) (by simp) (fun _ _ _ => ⟨ks, vs, he⟩)) ?_ (fun _ => trivial)
       ·simp [execOp, ho, e1, hu0, e2, ex, hrun, Result.andThen]
       ·intro hx id e hfi
        obtain ⟨rfl, rfl⟩ := find_one hfi
        unfold EntR
        rw [updE_some hfi]
        exact ⟨g, ms', clk', e2, e6, heap_setBlock_same e3 _, RFC_move hx.ok _ _ hk', RFC_move hx.ok _ _ hv'⟩
      rcases hfind with ⟨h5, h6, h7⟩ | ⟨j, e, h5, h6, h7, h8⟩
      ·refine main (ms.push ⟨a.eval k, .bool b, clk⟩) (clk + 1) ?_ ?_ ?_
       ·simp [Instr.mapUpdate, run_underlying hun, MapKept.run_getObj_map e3, K.check w false hl, h5, MapKept.run_setObj_map _ e3, Result.andThen, setBlock]
       ·simp only [mapPutK, h7, Array.toList_push, List.map_append, List.map_singleton]
        exact RFC_snoc k1 k2 _ _ e4
       ·simp only [mapPutV, h7, Array.toList_push, List.map_append, List.map_singleton]
        exact RFC_snoc (bx (okB st.ent σ w)).1 (bx (okB st.ent σ w)).2 _ _ e5
      ·have hj : ms.toList[j]? = some e := by simpa using h6
       have hlist : (ms.modify j (fun e' => { e' with key := a.eval k, val := .bool b })).toList = ms.toList.set j { e with key := a.eval k, val := .bool b } := by rw [Array.toList_modify, modify_eq_set _ _ _ _ hj]
       refine main (ms.modify j (fun e' => { e' with key := a.eval k, val := .bool b })) clk ?_ ?_ ?_
       ·simp [Instr.mapUpdate, run_underlying hun, MapKept.run_getObj_map e3, K.check w false hl, h5, h6, h7, K.stays w hl, MapKept.run_setObj_map _ e3, Result.andThen, setBlock]
       ·simp only [mapPutK, h8, hlist]
        have : (ms.toList.set j { e with key := a.eval k, val := .bool b }).map (·.key) = ms.toList.map (·.key) := by
         rw [List.map_set]
         show (ms.toList.map (·.key)).set j (a.eval k) = _
         have h9 : (ms.toList.map (·.key))[j]? = some (a.eval k) := by rw [List.getElem?_map, hj]; simp [h7]
         apply List.ext_getElem?
         intro n
         rw [List.getElem?_set]
         split
         ·subst n
          split
          ·exact h9.symm
          ·rename_i hlt
           rw [List.getElem?_eq_none (by omega)]
         ·rfl
        rw [this]
        exact e4
       ·simp only [mapPutV, h8, hlist, List.map_set]
        exact RFC_set (bx (okB st.ent σ w)).1 (bx (okB st.ent σ w)).2 _ _ _ e5
     ·cases h
    ·cases h
   ·simp [Tr.eval] at h
  ·simp [Tr.eval] at h
 ·simp [Tr.eval] at h
theorem op_max (hE : EnvOk E P) (hr : HR E keep w0 st.ent σ w) (hf : FRel E st.ent σ w st a) (c : Call) (hc : c.callee = .builtin .max) (ho : o.op = .call c) (h : (stepOp E call o st).eval = some (v, es)) :
 Done E keep w0 st.ent σ w ((execOp a.eval o).run P w) v es := by
 simp only [stepOp, ho, hc] at h
 split at h
 ·rename_i x y hxy
  have hx := ev_RT (E := E) hf 0 x
  have hy := ev_RT (E := E) hf 0 y
  split at h
  ·rename_i k m k' n h1 h2
   rw [h1] at hx
   rw [h2] at hy
   have ex := RT_int hx
   have ey := RT_int hy
   split at h
   ·rename_i hk
    have hk : k = k' := of_decide_eq_true hk
    subst hk
    simp only [Tr.eval, Option.some.injEq, Prod.mk.injEq] at h
    obtain ⟨rfl, rfl⟩ := h
    refine Done.pure hr (u := .int k (maxI m n)) ?_ (RT_mkint _ _)
    have hargs : c.args = #[x, y] := by apply Array.ext'; simpa using hxy
    simp [execOp, ho, hc, resolve, hargs, ex, ey, invoke, builtin, run_max_int2, maxI]
   ·simp [Tr.eval] at h
  ·simp [Tr.eval] at h
 ·simp [Tr.eval] at h
theorem op_min (hE : EnvOk E P) (hr : HR E keep w0 st.ent σ w) (hf : FRel E st.ent σ w st a) (c : Call) (hc : c.callee = .builtin .min) (ho : o.op = .call c) (h : (stepOp E call o st).eval = some (v, es)) :
 Done E keep w0 st.ent σ w ((execOp a.eval o).run P w) v es := by
 simp only [stepOp, ho, hc] at h
 split at h
 ·rename_i x y hxy
  have hx := ev_RT (E := E) hf 0 x
  have hy := ev_RT (E := E) hf 0 y
  split at h
  ·rename_i k m k' n h1 h2
   rw [h1] at hx
   rw [h2] at hy
   have ex := RT_int hx
   have ey := RT_int hy
   split at h
   ·rename_i hk
    have hk : k = k' := of_decide_eq_true hk
    subst hk
    simp only [Tr.eval, Option.some.injEq, Prod.mk.injEq] at h
    obtain ⟨rfl, rfl⟩ := h
    refine Done.pure hr (u := .int k (minI m n)) ?_ (RT_mkint _ _)
    have hargs : c.args = #[x, y] := by apply Array.ext'; simpa using hxy
    simp [execOp, ho, hc, resolve, hargs, ex, ey, invoke, builtin, run_min_int2, minI]
   ·simp [Tr.eval] at h
  ·simp [Tr.eval] at h
 ·simp [Tr.eval] at h
end
end Go.Proofs.YthdnamhilcjnhaaGreatDoor
