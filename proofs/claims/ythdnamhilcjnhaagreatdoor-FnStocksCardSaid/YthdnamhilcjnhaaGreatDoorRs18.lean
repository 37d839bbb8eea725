/- The abstract interpreter is right of every function. -/
import Derived.Test.YthdnamhilcjnhaaGreatDoorRs17
import Derived.Test.YthdnamhilcjnhaaGreatDoorRt2
namespace Go.Proofs.YthdnamhilcjnhaaGreatDoor
open Go Go.RowKit
set_option linter.unusedVariables false
set_option linter.unusedSimpArgs false
section
variable {E : Env} {P : Program} {keep : Nat → Prop} {w0 : World} {σ : Sg} {w : World} {st : St} {a : Act} {o : Oper} {v : V} {es : List (Nat × Ent)} {call : Nat → List V → Option V} {ent : Nat → Ent}
def resF (tmps : Array Value) : ResultVar → Sem Value
 | .tmp t => pure (tmps.getD t undef)
 | .cell b t => do loadVar t (← asAddr (tmps.getD b undef))
theorem resVals_sound (hE : EnvOk E P) (hr : HR E keep w0 st.ent σ w) (hf : FRel E st.ent σ w st a) : ∀ (rs : List ResultVar) (vs : List V), resVals E st rs = some vs →
 ∃ us, (rs.mapM (resF a.tmps)).run P w = .ok us w ∧ RTS E st.ent σ w vs us
 | [], vs, h => by
  simp only [resVals, Option.some.injEq] at h
  subst h
  exact ⟨[], by simp, rfl⟩
 | .tmp t :: rs, vs, h => by
  simp only [resVals] at h
  split at h
  ·rename_i l hl
   simp only [Option.some.injEq] at h
   subst h
   obtain ⟨us, h1, h2⟩ := resVals_sound hE hr hf rs l hl
   refine ⟨a.tmps.getD t undef :: us, ?_, ?_⟩
   ·rw [List.mapM_cons]
    simp only [Sem.run_bind, Sem.run_pure, Result.andThen_ok, resF, h1]
   ·simp only [RTS]
    exact ⟨_, us, rfl, hf t, h2⟩
  ·cases h
 | .cell b t :: rs, vs, h => by
  simp only [resVals] at h
  split at h
  ·rename_i ty id pi rel ext l ht hb hl
   split at h
   ·rename_i ps hp
    split at h
    ·rename_i x hx
     simp only [Option.some.injEq] at h
     subst h
     obtain ⟨us, h1, h2⟩ := resVals_sound hE hr hf rs l hl
     have hbt := hf b
     rw [hb] at hbt
     obtain ⟨g, o', cs, hu, h3, h4, h5⟩ := leads_ptr hr hbt hp
     obtain ⟨u, h6, h7⟩ := load_sound (P := P) hE ht h3 h4 h5 hx
     refine ⟨u :: us, ?_, ?_⟩
     ·rw [List.mapM_cons]
      have ha : (asAddr (a.tmps.getD b undef)).run P w = .ok ⟨g, o' + startOf ps pi + rel, none⟩ w := by rw [hu]; rfl
      simp only [Sem.run_bind, Sem.run_pure, Result.andThen_ok, resF, ha, h6, h1]
     ·simp only [RTS]
      exact ⟨u, us, rfl, h7, h2⟩
    ·cases h
   ·cases h
  ·cases h
theorem results_run {fn : Func} {us : List Value} (h : (fn.results.toList.mapM (resF a.tmps)).run P w = .ok us w) :
 (results fn a.tmps).run P w = .ok (if h : us.length = 1 then us[0] else .tuple us.toArray) w := by
 have h0 : results fn a.tmps = (do
  let vs ← fn.results.mapM (resF a.tmps)
  pure (if h : vs.size = 1 then vs[0] else .tuple vs)) := rfl
 rw [h0, Array.mapM_eq_mapM_toList]
 simp [h]
theorem argFr_get : ∀ (args : List V) (i t : Nat), find (argFr args i) t = if i ≤ t ∧ t < i + args.length then args[t - i]? else none
 | [], i, t => by
  simp only [argFr, find, List.length_nil, Nat.add_zero]
  rw [if_neg (by omega)]
 | v :: args, i, t => by
  simp only [argFr, find, List.length_cons]
  cases hb : Nat.beq i t with
  | true =>
   have := Nat.eq_of_beq_eq_true hb
   subst this
   simp
  | false =>
   have hne : i ≠ t := fun h => by rw [h, show Nat.beq t t = true from Nat.beq_refl t] at hb; cases hb
   simp only
   rw [argFr_get args (i + 1) t]
   by_cases h : i + 1 ≤ t ∧ t < i + 1 + args.length
   ·rw [if_pos h, if_pos (by omega), show t - i = (t - (i + 1)) + 1 by omega, List.getElem?_cons_succ]
   ·rw [if_neg h, if_neg (by omega)]
theorem RFC_get {ok : Nat → Prop} : ∀ (vs : List V) (us : List Value) (i : Nat) (v : V), RFC w ok vs us → vs[i]? = some v → ∃ u, us[i]? = some u ∧ RF w ok v u.cells.toList ∧ aggOk v u
 | [], us, i, v, h, hv => by simp at hv
 | x :: vs, us, i, v, h, hv => by
  simp only [RFC] at h
  obtain ⟨u, l, rfl, h1, h2, h3⟩ := h
  cases i with
  | zero =>
   simp only [List.getElem?_cons_zero, Option.some.injEq] at hv
   subst hv
   exact ⟨u, rfl, h1, h2⟩
  | succ i =>
   rw [List.getElem?_cons_succ] at hv
   obtain ⟨u', h4, h5⟩ := RFC_get vs l i v h3 hv
   exact ⟨u', by rw [List.getElem?_cons_succ]; exact h4, h5⟩
theorem RFC_length {ok : Nat → Prop} : ∀ (vs : List V) (us : List Value), RFC w ok vs us → us.length = vs.length
 | [], us, h => by simp only [RFC] at h; subst h; rfl
 | x :: vs, us, h => by
  simp only [RFC] at h
  obtain ⟨u, l, rfl, _, _, h3⟩ := h
  simp [RFC_length vs l h3]
theorem out1_plain {y x : V} (h : out1 st y = some x) (hp : plainO x = true) : y = x := by
 unfold out1 at h
 split at h
 ·split at h
  ·simp only [Option.some.injEq] at h; subst h; simp [plainO] at hp
  ·cases h
 ·split at h
  ·simp only [Option.some.injEq] at h; subst h; simp [plainO] at hp
  ·cases h
 ·split at h
  ·simp only [Option.some.injEq] at h; exact h
  ·cases h
theorem outL_plain : ∀ {ps l : List V}, mapO (out1 st) ps = some l → allB plainO l = true → ps = l
 | [], l, h, _ => by simp only [mapO, Option.some.injEq] at h; exact h
 | p :: ps, l, h, hp => by
  obtain ⟨y, l', h1, h2, rfl⟩ := mapO_cons h
  obtain ⟨h3, h4⟩ := allB_cons hp
  rw [out1_plain h1 h3, outL_plain h2 h4]
theorem outP_plain {y x : V} (h : outP st y = some x) (hp : plainP.plainE x = true) : y = x := by
 unfold outP at h
 split at h
 ·split at h
  ·rename_i l hl
   simp only [Option.some.injEq] at h
   subst h
   rw [outL_plain hl hp]
  ·cases h
 ·split at h
  ·simp only [Option.some.injEq] at h; subst h; simp [plainP.plainE, plainO] at hp
  ·obtain ⟨id, pi, rel, ext, ps, rfl, _, _, rfl⟩ := cloOut_some h
   simp [plainP.plainE, plainO] at hp
 ·split at h
  ·split at h
   ·simp only [Option.some.injEq] at h; subst h; simp [plainP.plainE, plainO] at hp
   ·cases h
  ·cases h
 ·rename_i h1 h2 h3
  refine out1_plain h ?_
  cases x with
  | parts ps =>
   unfold out1 at h
   split at h
   ·split at h
    ·cases h
    ·cases h
   ·split at h
    ·cases h
    ·cases h
   ·split at h
    ·simp only [Option.some.injEq] at h; exact absurd h (h1 _)
    ·cases h
  | _ => exact hp
theorem mu_sound (hE : EnvOk E P) (hD : DrawSound E P) {k : Nat} (hcall : CallsOk P E (sem E k)) {f : Nat} {avs : List V} {r : V}
 (h : (match avs with
  | [a, .int q n] => match freshIn a, nth E.fl (f - muBase), find E.fi (f - muBase) with
   | some (o, e, xs), some fn, some F => match fn.body, Nat.beq fn.ntmps (nOf F.n), Nat.ble 2 (nOf F.n) && isZero (qOf F.n) with
    | some c, true, true => finM E fn o (ex E F k (sem E k) c 0 ⟨[(0, putRow (.row 1) a), (1, .int q n)], [(1, .row e xs)]⟩)
    | _, _, _ => none
   | _, _, _ => none
  | _ => none) = some r) : MuOk P E (f - muBase) avs r := by
 split at h
 ·rename_i a q n
  split at h
  ·rename_i o e xs fn F hfr hfn hF
   split at h
   ·rename_i c hb hnt hle
    have hnt : fn.ntmps = nOf F.n := Nat.eq_of_beq_eq_true hnt
    rw [Bool.and_eq_true] at hle
    have hq0 : qOf F.n = 0 := by
     have h2 := hle.2
     cases hq : qOf F.n with
     | zero => rfl
     | succ m => rw [hq] at h2; cases h2
    have hle : 2 ≤ nOf F.n := Nat.le_of_ble_eq_true hle.1
    have hP := hE.fl _ fn hfn
    refine ⟨⟨fn, hP, by rw [hb]; rfl⟩, a, q, n, o, e, xs, ?_⟩
    unfold finM at h
    split at h
    ·rename_i st hex
     split at h
     ·rename_i q' m o' M hres hrow
      split at h
      ·rename_i e' xs' hM ho'
       simp only [Option.some.injEq] at h
       subst h
       have ho' : o' = o := Nat.eq_of_beq_eq_true ho'
       subst ho'
       refine ⟨q', m, e', xs', rfl, hfr, rfl, fun w u v0 cells hu hv0 hown hrow0 => ?_⟩
       refine calls_of_wp hP hb ?_
       let σ0 : Sg := ⟨fun _ => v0, fun _ => False⟩
       have hent : ∀ id, (St.ent ⟨[(0, putRow (.row 1) a), (1, .int q n)], [(1, .row e xs)]⟩ id) = if id = 1 then .row e xs else .none := by
        intro id
        unfold St.ent
        simp only [find]
        by_cases h1 : id = 1
        ·subst h1; rfl
        ·rw [if_neg h1]
         cases hb1 : Nat.beq 1 id with
         | false => rfl
         | true => exact absurd (Nat.eq_of_beq_eq_true hb1).symm h1
       have hi : Inv E (fun b => b < w.heap.size ∧ blk v0 ≠ some b) w (fun _ => False) F.n (some u) ⟨[(0, putRow (.row 1) a), (1, .int q n)], [(1, .row e xs)]⟩ σ0 { tmps := #[u, .int q n] ++ Array.replicate (fn.ntmps - 2) undef, defers := [] } w := by
        refine ⟨⟨Kept.refl _ _, fun b h => h.1, ?_, fun _ _ _ _ h => h, fun _ h => h.elim, ?_⟩, ?_, ?_, rfl, rfl, ?_⟩
        ·intro id
         unfold EntR
         rw [hent]
         by_cases h1 : id = 1
         ·rw [if_pos h1]
          exact ⟨cells, hown, hrow0 _ _ _, fun b hb hk => hk.2 hb⟩
         ·rw [if_neg h1]; trivial
        ·intro i j b hij h1 h2
         rw [hent] at h1 h2
         by_cases hi1 : i = 1
         ·by_cases hj1 : j = 1
          ·exact absurd (hi1.trans hj1.symm) hij
          ·rw [if_neg hj1] at h2; simp [Ent.live] at h2
         ·rw [if_neg hi1] at h1; simp [Ent.live] at h1
        ·intro t
         unfold St.get
         simp only [find]
         match t with
         | 0 =>
          simp only [Nat.beq_eq_true_eq, Nat.beq]
          have : (#[u, Value.int q n] ++ Array.replicate (fn.ntmps - 2) undef).getD 0 undef = u := by
           rw [Array.getD_eq_getD_getElem?, Array.getElem?_append_left (by simp)]; rfl
          rw [this]
          exact hu _ _ (by rw [hent]; simp) rfl
         | 1 =>
          simp only [Nat.beq]
          have : (#[u, Value.int q n] ++ Array.replicate (fn.ntmps - 2) undef).getD 1 undef = .int q n := by
           rw [Array.getD_eq_getD_getElem?, Array.getElem?_append_left (by simp)]; rfl
          rw [this]
          exact RT_mkint _ _
         | t + 2 => simp only [Nat.beq]; trivial
        ·simp only [Array.size_append, Array.size_replicate]
         show 2 + (fn.ntmps - 2) = nOf F.n
         omega
        ·intro u' hu'
         simp only [Option.some.injEq] at hu'
         subst hu'
         rw [hq0, Array.getD_eq_getD_getElem?, Array.getElem?_append_left (by simp)]; rfl
       refine ex_sound hE hD hcall c 0 _ _ st hex σ0 _ w _ hi fun a' w' σ' hi' => ?_
       have hvs : ∃ vs, resVals E st fn.results.toList = some vs := by
        unfold resV at hres
        split at hres
        ·rename_i vs hvs; exact ⟨vs, hvs⟩
        ·cases hres
       obtain ⟨vs, hvs⟩ := hvs
       obtain ⟨us2, k1, k2⟩ := resVals_sound hE hi'.hr hi'.fr _ _ hvs
       have hone : vs = [.int q' m] := by
        unfold resV at hres
        rw [hvs] at hres
        simp only at hres
        split at hres
        ·rename_i x hn hm
         simp only [Option.some.injEq] at hres
         subst hres
         cases vs with
         | nil => simp [mapO] at hm
         | cons y l =>
          obtain ⟨y', l', h4, h5, h6⟩ := mapO_cons hm
          simp only [List.cons.injEq] at h6
          obtain ⟨rfl, rfl⟩ := h6
          have hl : l = [] := by
           cases l with
           | nil => rfl
           | cons z l => obtain ⟨_, _, _, _, h7⟩ := mapO_cons h5; cases h7
          subst hl
          have : y = .int q' m := outP_plain h4 rfl
          rw [this]
        ·simp only [Option.some.injEq] at hres; cases hres
        ·cases hres
       subst hone
       simp only [RTS] at k2
       obtain ⟨u1, l1, rfl, k3, rfl⟩ := k2
       have ku := RT_int k3
       subst ku
       refine ⟨hi'.defs, _, results_run k1, ?_⟩
       have hz := hi'.z0 u rfl
       rw [hq0] at hz
       have h0 := hi'.fr 0
       rw [hz] at h0
       have hval := (rowIn_RT (ent1 := fun j => if j = 1 then .row e' xs' else .none) (σ1 := ⟨fun _ => σ' M, σ'.no⟩) hM (by simp) rfl h0 hrow).2.1
       rw [hv0] at hval
       simp only [Option.some.injEq] at hval
       have hen := hi'.hr.ents M
       unfold EntR at hen
       rw [hM] at hen
       obtain ⟨cells', d1, d2, _⟩ := hen
       rw [← hval] at d1
       exact ⟨rfl, hi'.hr.kept, st.ent, σ', cells', d1, d2⟩
      ·cases h
     ·cases h
    ·cases h
   ·cases h
  ·cases h
 ·cases h
theorem puSet_get {α : Type} : ∀ (l : List α) (p : Nat) (y : α) (t : Nat), p < l.length → (setNth l p y)[t]? = if t = p then some y else l[t]?
 | [], p, y, t, h => by simp at h
 | x :: l, 0, y, t, h => by cases t <;> simp [setNth]
 | x :: l, p + 1, y, t, h => by
  simp only [setNth]
  cases t with
  | zero => simp
  | succ t =>
   rw [List.getElem?_cons_succ, puSet_get l p y t (by simpa using h), List.getElem?_cons_succ]
   by_cases ht : t = p
   ·subst ht; simp
   ·rw [if_neg ht, if_neg (by omega)]
theorem puSet_len {α : Type} : ∀ (l : List α) (p : Nat) (y : α), (setNth l p y).length = l.length
 | [], p, y => by cases p <;> rfl
 | x :: l, 0, y => rfl
 | x :: l, p + 1, y => by simp only [setNth, List.length_cons]; rw [puSet_len l p y]
theorem dropAt_get {α : Type} : ∀ (l : List α) (p t : Nat), t ≠ p → (dropAt l p)[if t < p then t else t - 1]? = l[t]?
 | [], p, t, h => by simp [dropAt]
 | x :: l, 0, t, h => by
  cases t with
  | zero => exact absurd rfl h
  | succ t => simp [dropAt]
 | x :: l, p + 1, t, h => by
  cases t with
  | zero => simp [dropAt]
  | succ t =>
   have h1 := dropAt_get l p t (by omega)
   by_cases ht : t < p
   ·rw [if_pos ht] at h1
    rw [if_pos (by omega)]
    simp only [dropAt, List.getElem?_cons_succ]; exact h1
   ·rw [if_neg ht] at h1
    rw [if_neg (by omega)]
    simp only [dropAt, Nat.add_sub_cancel]
    rw [List.getElem?_cons_succ, ← h1]
    obtain ⟨s, rfl⟩ : ∃ s, t = s + 1 := ⟨t - 1, by omega⟩
    simp
theorem resV_parts {rs : List ResultVar} {vs : List V} {r : V} (hvs : resVals E st rs = some vs) (hres : resV E st rs = some r) : nodupN (rowsOf vs) = true ∧ (match mapO (outP st) vs with | some [x] => r = x ∧ ∃ y, vs = [y] | some l => r = .tup l ∧ vs.length ≠ 1 | none => False) := by
 unfold resV at hres
 rw [hvs] at hres
 simp only at hres
 refine ⟨?_, ?_⟩
 ·split at hres
  ·assumption
  ·assumption
  ·cases hres
 ·split at hres
  ·rename_i x hn hm
   simp only [Option.some.injEq] at hres
   rw [hm]
   refine ⟨hres.symm, ?_⟩
   cases vs with
   | nil => simp [mapO] at hm
   | cons y l =>
    obtain ⟨y', l', _, h4, h5⟩ := mapO_cons hm
    cases l with
    | nil => exact ⟨y, rfl⟩
    | cons z l =>
     obtain ⟨_, _, _, _, h6⟩ := mapO_cons h4
     rw [h6] at h5
     simp at h5
  ·rename_i l hne hn hm
   simp only [Option.some.injEq] at hres
   rw [hm]
   have hlen : vs.length = l.length := by
    have : ∀ (vs l : List V), mapO (outP st) vs = some l → vs.length = l.length := by
     intro vs
     induction vs with
     | nil => intro l h; simp only [mapO, Option.some.injEq] at h; subst h; rfl
     | cons v vs ih =>
      intro l h
      obtain ⟨_, l', _, h2, rfl⟩ := mapO_cons h
      simp [ih l' h2]
    exact this vs l hm
   match l, hres, hlen, hne with
   | [], hres, hlen, _ => exact ⟨hres.symm, by rw [hlen]; simp⟩
   | [x], _, _, hne => exact absurd rfl (hne x)
   | x :: y :: l, hres, hlen, _ => exact ⟨hres.symm, by rw [hlen]; simp⟩
  ·cases hres
theorem pu_sound (hE : EnvOk E P) (hD : DrawSound E P) {k : Nat} (hcall : CallsOk P E (sem E k)) {f : Nat} {avs : List V} {r : V}
 (h : (match nth E.fl f, find E.fi f with
  | some fn, some F => match F.pu, F.mu with
   | some p, false => match nth avs p with
    | some (.ref ps 0 0 ext) => match fn.body, Nat.beq fn.ntmps (nOf F.n), Nat.ble avs.length (nOf F.n), Nat.beq (qOf F.n) p && Nat.blt f muBase with
     | some c, true, true, true => match allB forO ps with
      | true => finP E fn p ps (ex E F k (sem E k) c 0 ⟨argFr (setNth avs p (.ptr 1 0 0 ext)) 0, [(1, .box ps)]⟩)
      | false => none
     | _, _, _, _ => none
    | _ => none
   | _, _ => none
  | _, _ => none) = some r) : PuOk P E f avs r := by
 split at h
 ·rename_i fn F hfn hF
  split at h
  ·rename_i p hpu hmu
   split at h
   ·rename_i ps ext hnth
    split at h
    ·rename_i c hb hnt hle hq
     split at h
     ·rename_i hfo
      have hnt : fn.ntmps = nOf F.n := Nat.eq_of_beq_eq_true hnt
      have hle : avs.length ≤ nOf F.n := Nat.le_of_ble_eq_true hle
      rw [Bool.and_eq_true] at hq
      have hq0 : qOf F.n = p := Nat.eq_of_beq_eq_true hq.1
      have hP := hE.fl _ fn hfn
      have hplt := nth_lt _ _ _ hnth
      unfold finP at h
      split at h
      ·rename_i st hex
       split at h
       ·rename_i x id pi rel ext' hres hslot
        split at h
        ·rename_i ps' hM hz1 hz2
         split at h
         ·rename_i g1 g2
          simp only [Option.some.injEq] at h
          subst h
          refine ⟨⟨fn, hP, by rw [hb]; rfl⟩, p, ps, ext, x, ps', ?_, hnth, rfl, fun no w us b cs e hno hnb hus hheap hps hlen hoth hpok => ?_⟩
          ·unfold callKind
           rw [hF]
           simp only [hmu, hq.2, hpu]
          refine calls_of_wp hP hb ?_
          let σ0 : Sg := ⟨fun _ => .pointer (some ⟨b, 0, none⟩), fun b' => no b' ∧ b' ≠ b⟩
          have hent : ∀ id, (St.ent ⟨argFr (setNth avs p (.ptr 1 0 0 ext)) 0, [(1, .box ps)]⟩ id) = if id = 1 then .box ps else .none := by
           intro id
           unfold St.ent
           simp only [find]
           by_cases h1 : id = 1
           ·subst h1; rfl
           ·rw [if_neg h1]
            cases hb1 : Nat.beq 1 id with
            | false => rfl
            | true => exact absurd (Nat.eq_of_beq_eq_true hb1).symm h1
          have hmv : ∀ b', okN no w b' → okB (St.ent ⟨argFr (setNth avs p (.ptr 1 0 0 ext)) 0, [(1, .box ps)]⟩) σ0 w b' := by
           intro b' ⟨k1, k2⟩
           refine ⟨k1, fun id hl hbb => ?_, fun hh => k2 hh.1⟩
           have : b = b' := by
            have h5 : blk (Value.pointer (some ⟨b, 0, none⟩)) = some b' := hbb
            simpa [blk] using h5
           subst this
           exact k2 hnb
          have hbsz : b < w.heap.size := hno b hnb
          have hi : Inv E (fun b' => b' < w.heap.size ∧ b' ≠ b) w σ0.no F.n (some (.pointer (some ⟨b, 0, none⟩))) ⟨argFr (setNth avs p (.ptr 1 0 0 ext)) 0, [(1, .box ps)]⟩ σ0 { tmps := us.toArray ++ Array.replicate (fn.ntmps - us.toArray.size) undef, defers := [] } w := by
           refine ⟨⟨Kept.refl _ _, fun b' h => h.1, ?_, ?_, fun b' h => hno b' h.1, ?_⟩, ?_, ?_, rfl, rfl, ?_⟩
           ·intro id
            unfold EntR
            rw [hent]
            by_cases h1 : id = 1
            ·rw [if_pos h1]
             exact ⟨b, cs, e, rfl, fun hk => hk.2 rfl, hheap, ROL_of_RFL _ _ (RFL_move2 hmv hps)⟩
            ·rw [if_neg h1]; trivial
           ·intro id b' hl hbb hh
            have h5 : blk (Value.pointer (some ⟨b, 0, none⟩)) = some b' := hbb
            have : b = b' := by simpa [blk] using h5
            exact hh.2 this.symm
           ·intro i j b' hij h1 h2
            rw [hent] at h1 h2
            by_cases hi1 : i = 1
            ·by_cases hj1 : j = 1
             ·exact absurd (hi1.trans hj1.symm) hij
             ·rw [if_neg hj1] at h2; simp [Ent.live] at h2
            ·rw [if_neg hi1] at h1; simp [Ent.live] at h1
           ·intro t
            unfold St.get
            simp only
            rw [argFr_get, puSet_len]
            by_cases ht : t < avs.length
            ·rw [if_pos (by omega), Nat.sub_zero, puSet_get _ _ _ _ hplt]
             by_cases htp : t = p
             ·rw [if_pos htp]
              simp only
              have hu : (us.toArray ++ Array.replicate (fn.ntmps - us.toArray.size) undef).getD t undef = .pointer (some ⟨b, 0, none⟩) := by
               rw [Array.getD_eq_getD_getElem?, Array.getElem?_append_left (by simp; omega)]
               simp [htp, hus]
              rw [hu]
              refine ⟨rfl, ?_⟩
              show RO1 E _ σ0 w (.ptr 1 0 0 ext) _
              simp only [RO1]
              refine ⟨_, rfl, rfl, by rw [hent]; simp, fun qs hqs => ?_⟩
              rw [hent] at hqs
              simp only [if_true, Ent.box.injEq] at hqs
              subst hqs
              exact ⟨b, rfl, by cases ps <;> rfl, hpok⟩
             ·rw [if_neg htp, List.getElem?_eq_getElem ht]
              simp only
              have h5 := dropAt_get avs p t htp
              rw [List.getElem?_eq_getElem ht] at h5
              obtain ⟨u, h6, h7, h8⟩ := RFC_get _ _ _ _ hoth h5
              rw [dropAt_get us p t htp] at h6
              have hu : (us.toArray ++ Array.replicate (fn.ntmps - us.toArray.size) undef).getD t undef = u := by
               rw [Array.getD_eq_getD_getElem?, Array.getElem?_append_left (by simp; omega)]
               simp [h6]
              rw [hu]
              exact RT_resOne (RTc_of_RFc (RF_move (fun b' hb' => ⟨hmv b' hb', rfl⟩) _ _ h7) h8)
            ·rw [if_neg (by omega)]
             trivial
           ·simp only [Array.size_append, List.size_toArray, Array.size_replicate]
            omega
           ·intro u' hu'
            simp only [Option.some.injEq] at hu'
            subst hu'
            rw [hq0, Array.getD_eq_getD_getElem?, Array.getElem?_append_left (by simp; omega)]
            simp [hus]
          refine ex_sound hE hD hcall c 0 _ _ st hex σ0 _ w _ hi fun a' w' σ' hi' => ?_
          have hvs : ∃ vs, resVals E st fn.results.toList = some vs := by
           unfold resV at hres
           split at hres
           ·rename_i vs hvs; exact ⟨vs, hvs⟩
           ·cases hres
          obtain ⟨vs, hvs⟩ := hvs
          obtain ⟨us2, k1, k2⟩ := resVals_sound hE hi'.hr hi'.fr _ _ hvs
          refine ⟨hi'.defs, _, results_run k1, ?_⟩
          have hz := hi'.z0 _ rfl
          rw [hq0] at hz
          have h0 := hi'.fr p
          rw [hz, hslot] at h0
          have h0' : RO1 E st.ent σ' w' (.ptr id pi rel ext') [.pointer (some ⟨b, 0, none⟩)] := h0.2
          simp only [RO1] at h0'
          obtain ⟨u, hu1, _, _, hu4⟩ := h0'
          simp only [List.cons.injEq, and_true] at hu1
          subst hu1
          obtain ⟨b2, hb2, hu5, _⟩ := hu4 ps' hM
          have hp0 : pi = 0 := isZero_eq hz1
          have hp1 : rel = 0 := isZero_eq hz2
          subst hp0
          subst hp1
          have hbb : b = b2 := by
           have : startOf ps' 0 + 0 = 0 := by cases ps' <;> rfl
           rw [this] at hu5
           simpa using hu5
          subst hbb
          have hen := hi'.hr.ents id
          unfold EntR at hen
          rw [hM] at hen
          obtain ⟨b3, cs', e', d1, d2, d3, d4⟩ := hen
          rw [hb2] at d1
          simp only [Value.pointer.injEq, Option.some.injEq, Addr.mk.injEq, and_true] at d1
          subst d1
          obtain ⟨n1, n2⟩ := resV_parts hvs hres
          refine ⟨hi'.hr.kept, cs', e', d3, fun i hnd => ?_⟩
          obtain ⟨σ2, _, q2, q3, q4⟩ := res_soundK (rs := fn.results.toList) hi'.hr hi'.no k2 n1 n2 i hnd
          refine ⟨σ2, q2, fun j b' hl hbj => ?_, q4, RFL_move2 (fun b' hb' => ⟨⟨hb'.1, fun hh => ?_⟩, fun j hl => ?_⟩) (RFL_of_ROL ps' _ g1 d4)⟩
          ·obtain ⟨j0, e1, e2⟩ := q3 j hl
           have hrw : ∃ e2 xs, updE (recv x i).2 ent0 j = .row e2 xs := by
            cases hfd : find (recv x i).2 j with
            | none => rw [updE_none hfd] at hl; simp [ent0, Ent.live] at hl
            | some ee =>
             obtain ⟨e2, xs, rfl⟩ := recv_row hfd
             exact ⟨e2, xs, updE_some hfd⟩
           obtain ⟨e3, xs3, e4⟩ := hrw
           have hne : id ≠ j0 := by
            intro hh
            subst hh
            rw [e4, hM] at e1
            cases e1
           intro hh
           subst hh
           rw [e2] at hbj
           exact hi'.hr.dist id j0 b' hne (by rw [hM]; rfl) (by rw [← e1]; exact hl) (by rw [hb2]; rfl) hbj
          ·have hne : b' ≠ b := by
            intro h9
            subst h9
            exact hb'.2.1 id (by rw [hM]; rfl) (by rw [hb2]; rfl)
           have := hb'.2.2
           rw [hi'.no] at this
           exact this ⟨hh, hne⟩
          ·obtain ⟨j0, e1, e2⟩ := q3 j hl
           rw [e2]
           exact hb'.2.1 j0 (by rw [← e1]; exact hl)
         ·cases h
        ·cases h
       ·cases h
      ·cases h
     ·cases h
    ·cases h
   ·cases h
  ·cases h
 ·cases h
theorem mv_sound (hE : EnvOk E P) (hD : DrawSound E P) {k : Nat} (hcall : CallsOk P E (sem E k)) {f : Nat} {avs : List V} {r : V}
 (h : (match nth E.fl f, find E.fi f with
    | some fn, some F => match callKind E f with
     | some (.mv p) => match nth avs p with
      | some (.fresh e xs) => match fn.body, Nat.beq fn.ntmps (nOf F.n), Nat.ble avs.length (nOf F.n) with
       | some c, true, true => finV E fn (ex E F k (sem E k) c 0 ⟨argFr (setNth avs p (.row 1)) 0, [(1, .row e xs)]⟩)
       | _, _, _ => none
      | _ => none
     | _ => none
    | _, _ => none) = some r) : MvOk P E f avs r := by
 split at h
 ·rename_i fn F hfn hF
  split at h
  ·rename_i p hk
   split at h
   ·rename_i e xs hnth
    split at h
    ·rename_i c hb hnt hle
     have hnt : fn.ntmps = nOf F.n := Nat.eq_of_beq_eq_true hnt
     have hle : avs.length ≤ nOf F.n := Nat.le_of_ble_eq_true hle
     have hP := hE.fl _ fn hfn
     have hplt := nth_lt _ _ _ hnth
     unfold finV at h
     split at h
     ·rename_i st hex
      split at h
      ·rename_i M b hvs
       split at h
       ·rename_i e' ys hM
        simp only [Option.some.injEq] at h
        subst h
        refine ⟨⟨fn, hP, by rw [hb]; rfl⟩, p, e, xs, e', ys, b, hk, hnth, rfl, fun no w us v0 cells hno hnb hus hone hown hrow hlen hoth => ?_⟩
        refine calls_of_wp hP hb ?_
        let σ0 : Sg := ⟨fun _ => v0, fun b' => no b' ∧ blk v0 ≠ some b'⟩
        have hent : ∀ id, (St.ent ⟨argFr (setNth avs p (.row 1)) 0, [(1, .row e xs)]⟩ id) = if id = 1 then .row e xs else .none := by
         intro id
         unfold St.ent
         simp only [find]
         by_cases h1 : id = 1
         ·subst h1; rfl
         ·rw [if_neg h1]
          cases hb1 : Nat.beq 1 id with
          | false => rfl
          | true => exact absurd (Nat.eq_of_beq_eq_true hb1).symm h1
        have hmv : ∀ b', okN no w b' → okB (St.ent ⟨argFr (setNth avs p (.row 1)) 0, [(1, .row e xs)]⟩) σ0 w b' := by
         intro b' ⟨k1, k2⟩
         exact ⟨k1, fun id hl hbb => k2 (hnb b' hbb), fun hh => k2 hh.1⟩
        have hi : Inv E (fun b' => b' < w.heap.size ∧ blk v0 ≠ some b') w σ0.no F.n none ⟨argFr (setNth avs p (.row 1)) 0, [(1, .row e xs)]⟩ σ0 { tmps := us.toArray ++ Array.replicate (fn.ntmps - us.toArray.size) undef, defers := [] } w := by
         refine ⟨⟨Kept.refl _ _, fun b' h => h.1, ?_, ?_, fun b' h => hno b' h.1, ?_⟩, ?_, ?_, rfl, rfl, fun u h => by cases h⟩
         ·intro id
          unfold EntR
          rw [hent]
          by_cases h1 : id = 1
          ·rw [if_pos h1]
           exact ⟨cells, hown, hrow _ _ _, fun b' hb' hk => hk.2 hb'⟩
          ·rw [if_neg h1]; trivial
         ·intro id b' hl hbb hh
          exact hh.2 hbb
         ·intro i j b' hij h1 h2
          rw [hent] at h1 h2
          by_cases hi1 : i = 1
          ·by_cases hj1 : j = 1
           ·exact absurd (hi1.trans hj1.symm) hij
           ·rw [if_neg hj1] at h2; simp [Ent.live] at h2
          ·rw [if_neg hi1] at h1; simp [Ent.live] at h1
         ·intro t
          unfold St.get
          simp only
          rw [argFr_get, puSet_len]
          by_cases ht : t < avs.length
          ·rw [if_pos (by omega), Nat.sub_zero, puSet_get _ _ _ _ hplt]
           by_cases htp : t = p
           ·rw [if_pos htp]
            simp only
            have hu : (us.toArray ++ Array.replicate (fn.ntmps - us.toArray.size) undef).getD t undef = v0 := by
             rw [Array.getD_eq_getD_getElem?, Array.getElem?_append_left (by simp; omega)]
             simp [htp, hus]
            rw [hu]
            refine ⟨hone, ?_⟩
            show RO1 E _ σ0 w (.row 1) _
            simp only [RO1]
            exact ⟨_, rfl, hone, by rw [hent]; simp, fun _ _ _ => rfl⟩
           ·rw [if_neg htp, List.getElem?_eq_getElem ht]
            simp only
            have h5 := dropAt_get avs p t htp
            rw [List.getElem?_eq_getElem ht] at h5
            obtain ⟨u, h6, h7, h8⟩ := RFC_get _ _ _ _ hoth h5
            rw [dropAt_get us p t htp] at h6
            have hu : (us.toArray ++ Array.replicate (fn.ntmps - us.toArray.size) undef).getD t undef = u := by
             rw [Array.getD_eq_getD_getElem?, Array.getElem?_append_left (by simp; omega)]
             simp [h6]
            rw [hu]
            exact RT_resOne (RTc_of_RFc (RF_move (fun b' hb' => ⟨hmv b' hb', rfl⟩) _ _ h7) h8)
          ·rw [if_neg (by omega)]
           trivial
         ·simp only [Array.size_append, List.size_toArray, Array.size_replicate]
          omega
        refine ex_sound hE hD hcall c 0 _ _ st hex σ0 _ w _ hi fun a' w' σ' hi' => ?_
        obtain ⟨us2, k1, k2⟩ := resVals_sound hE hi'.hr hi'.fr _ _ hvs
        simp only [RTS] at k2
        obtain ⟨u1, l1, rfl, k3, u2, l2, rfl, k4, rfl⟩ := k2
        have ku := RT_bool k4
        subst ku
        have ho1 : u1.oneCell' = true := k3.1
        have k3' : RO1 E st.ent σ' w' (.row M) [u1] := k3.2
        simp only [RO1] at k3'
        obtain ⟨u', hu1, _, _, hu4⟩ := k3'
        simp only [List.cons.injEq, and_true] at hu1
        subst hu1
        have hu5 := hu4 e' ys hM
        have hen := hi'.hr.ents M
        unfold EntR at hen
        rw [hM] at hen
        obtain ⟨cells', d1, d2, d3⟩ := hen
        rw [← hu5] at d1 d3
        refine ⟨hi'.defs, _, results_run k1, u1, rfl, ho1, hi'.hr.kept, fun b' hb' => ?_, st.ent, σ', cells', d1, d2⟩
        have hk2 := d3 b' hb'
        by_cases hlt : b' < w.heap.size
        ·right
         by_cases hv : blk v0 = some b'
         ·exact hv
         ·exact absurd ⟨hlt, hv⟩ hk2
        ·exact .inl (Nat.le_of_not_lt hlt)
       ·cases h
      ·cases h
     ·cases h
    ·cases h
   ·cases h
  ·cases h
 ·cases h
theorem start_inv {no : Nat → Prop} {w : World} {us : List Value} {avs : List V} {fn : Func} {F : FnI} (hnt : fn.ntmps = nOf F.n) (hle : avs.length ≤ nOf F.n) (hno : ∀ b, no b → b < w.heap.size) (hus : RFC w (okN no w) avs us) (hlu : us.length = avs.length) :
 Inv E (fun b => b < w.heap.size) w no F.n none ⟨argFr avs 0, []⟩ ⟨fun _ => undef, no⟩ { tmps := us.toArray ++ Array.replicate (fn.ntmps - us.toArray.size) undef, defers := [] } w := by
 refine ⟨⟨Kept.refl _ _, fun b h => h, fun _ => trivial, ?_, hno, ?_⟩, ?_, ?_, rfl, rfl, fun u h => by cases h⟩
 ·intro id b hl _; simp [St.ent, find, Ent.live] at hl
 ·intro i j b _ hl; simp [St.ent, find, Ent.live] at hl
 ·intro t
  unfold St.get
  simp only
  rw [argFr_get]
  by_cases ht : t < avs.length
  ·rw [if_pos (by omega), Nat.sub_zero]
   obtain ⟨u, h1, h2, h3⟩ := RFC_get avs us t avs[t] hus (List.getElem?_eq_getElem ht)
   rw [List.getElem?_eq_getElem ht]
   simp only
   have hu : (us.toArray ++ Array.replicate (fn.ntmps - us.toArray.size) undef).getD t undef = u := by
    rw [Array.getD_eq_getD_getElem?, Array.getElem?_append_left (by simp; omega)]
    simp [h1]
   rw [hu]
   refine RT_resOne (RTc_of_RFc (RF_move ?_ _ _ h2) h3)
   intro b hb'
   refine ⟨⟨hb'.1, fun id hl => ?_, hb'.2⟩, rfl⟩
   simp [St.ent, find, Ent.live] at hl
  ·rw [if_neg (by omega)]
   trivial
 ·simp only [Array.size_append, List.size_toArray, Array.size_replicate]
  omega
theorem ru_sound (hE : EnvOk E P) (hD : DrawSound E P) {k : Nat} (hcall : CallsOk P E (sem E k)) {f : Nat} {avs : List V} {r : V}
 (h : (match nth E.fl f, find E.fi f with
    | some fn, some F => match callKind E f with
     | some (.ru p) => match nth avs p with
      | some (.fresh e xs) => match fn.body, Nat.beq fn.ntmps (nOf F.n), Nat.ble avs.length (nOf F.n), Nat.beq (qOf F.n) p with
       | some c, true, true, true => finR E fn F.ret p (ex E F k (sem E k) c 0 ⟨argFr (setNth avs p (.row 1)) 0, [(1, .row e xs)]⟩)
       | _, _, _, _ => none
      | _ => none
     | _ => none
    | _, _ => none) = some r) : RuOk P E f avs r := by
 split at h
 ·rename_i fn F hfn hF
  split at h
  ·rename_i p hk
   split at h
   ·rename_i e xs hnth
    split at h
    ·rename_i c hb hnt hle hq
     have hnt : fn.ntmps = nOf F.n := Nat.eq_of_beq_eq_true hnt
     have hle : avs.length ≤ nOf F.n := Nat.le_of_ble_eq_true hle
     have hq0 : qOf F.n = p := Nat.eq_of_beq_eq_true hq
     have hP := hE.fl _ fn hfn
     have hplt := nth_lt _ _ _ hnth
     have core : ∀ (e' : Nat) (ys : List V) (nm : St → St), (∀ {keep w0 no n z st σ a w}, Inv E keep w0 no n z st σ a w → ∃ σ', Inv E keep w0 no n z (nm st) σ' a w) → ∀ (st : St) (ee : Ex), (ee = .ret ∨ ee = .normal) → ex E F k (sem E k) c 0 ⟨argFr (setNth avs p (.row 1)) 0, [(1, .row e xs)]⟩ = some (ee, st) → finR1 E fn p (nm st) = some (.fresh e' ys) → RuOk P E f avs (.fresh e' ys) := by
      intro e' ys nm hnm st ee hee hex hfin
      unfold finR1 at hfin
      split at hfin
      ·rename_i M hvs hslot
       split at hfin
       ·rename_i e1 ys1 hM
        simp only [Option.some.injEq, V.fresh.injEq] at hfin
        obtain ⟨rfl, rfl⟩ := hfin
        refine ⟨⟨fn, hP, by rw [hb]; rfl⟩, p, e, xs, e1, ys1, hk, hnth, rfl, fun no w us v0 cells hno hnb hus hone hown hrow hlen hoth => ?_⟩
        refine calls_of_wp hP hb ?_
        let σ0 : Sg := ⟨fun _ => v0, fun b' => no b' ∧ blk v0 ≠ some b'⟩
        have hent : ∀ id, (St.ent ⟨argFr (setNth avs p (.row 1)) 0, [(1, .row e xs)]⟩ id) = if id = 1 then .row e xs else .none := by
         intro id
         unfold St.ent
         simp only [find]
         by_cases h1 : id = 1
         ·subst h1; rfl
         ·rw [if_neg h1]
          cases hb1 : Nat.beq 1 id with
          | false => rfl
          | true => exact absurd (Nat.eq_of_beq_eq_true hb1).symm h1
        have hmv : ∀ b', okN no w b' → okB (St.ent ⟨argFr (setNth avs p (.row 1)) 0, [(1, .row e xs)]⟩) σ0 w b' := by
         intro b' ⟨k1, k2⟩
         exact ⟨k1, fun id hl hbb => k2 (hnb b' hbb), fun hh => k2 hh.1⟩
        have hi : Inv E (fun b' => b' < w.heap.size ∧ blk v0 ≠ some b') w σ0.no F.n (some v0) ⟨argFr (setNth avs p (.row 1)) 0, [(1, .row e xs)]⟩ σ0 { tmps := us.toArray ++ Array.replicate (fn.ntmps - us.toArray.size) undef, defers := [] } w := by
         refine ⟨⟨Kept.refl _ _, fun b' h => h.1, ?_, ?_, fun b' h => hno b' h.1, ?_⟩, ?_, ?_, rfl, rfl, ?_⟩
         ·intro id
          unfold EntR
          rw [hent]
          by_cases h1 : id = 1
          ·rw [if_pos h1]
           exact ⟨cells, hown, hrow _ _ _, fun b' hb' hk => hk.2 hb'⟩
          ·rw [if_neg h1]; trivial
         ·intro id b' hl hbb hh
          exact hh.2 hbb
         ·intro i j b' hij h1 h2
          rw [hent] at h1 h2
          by_cases hi1 : i = 1
          ·by_cases hj1 : j = 1
           ·exact absurd (hi1.trans hj1.symm) hij
           ·rw [if_neg hj1] at h2; simp [Ent.live] at h2
          ·rw [if_neg hi1] at h1; simp [Ent.live] at h1
         ·intro t
          unfold St.get
          simp only
          rw [argFr_get, puSet_len]
          by_cases ht : t < avs.length
          ·rw [if_pos (by omega), Nat.sub_zero, puSet_get _ _ _ _ hplt]
           by_cases htp : t = p
           ·rw [if_pos htp]
            simp only
            have hu : (us.toArray ++ Array.replicate (fn.ntmps - us.toArray.size) undef).getD t undef = v0 := by
             rw [Array.getD_eq_getD_getElem?, Array.getElem?_append_left (by simp; omega)]
             simp [htp, hus]
            rw [hu]
            refine ⟨hone, ?_⟩
            show RO1 E _ σ0 w (.row 1) _
            simp only [RO1]
            exact ⟨_, rfl, hone, by rw [hent]; simp, fun _ _ _ => rfl⟩
           ·rw [if_neg htp, List.getElem?_eq_getElem ht]
            simp only
            have h5 := dropAt_get avs p t htp
            rw [List.getElem?_eq_getElem ht] at h5
            obtain ⟨u, h6, h7, h8⟩ := RFC_get _ _ _ _ hoth h5
            rw [dropAt_get us p t htp] at h6
            have hu : (us.toArray ++ Array.replicate (fn.ntmps - us.toArray.size) undef).getD t undef = u := by
             rw [Array.getD_eq_getD_getElem?, Array.getElem?_append_left (by simp; omega)]
             simp [h6]
            rw [hu]
            exact RT_resOne (RTc_of_RFc (RF_move (fun b' hb' => ⟨hmv b' hb', rfl⟩) _ _ h7) h8)
          ·rw [if_neg (by omega)]
           trivial
         ·simp only [Array.size_append, List.size_toArray, Array.size_replicate]
          omega
         ·intro u' hu'
          simp only [Option.some.injEq] at hu'
          subst hu'
          rw [hq0, Array.getD_eq_getD_getElem?, Array.getElem?_append_left (by simp; omega)]
          simp [hus]
        refine ex_sound hE hD hcall c 0 _ _ st hex σ0 _ w _ hi fun a' w' σ1 hi1 => ?_
        obtain ⟨σ', hi'⟩ := hnm hi1
        obtain ⟨us2, k1, k2⟩ := resVals_sound hE hi'.hr hi'.fr _ _ hvs
        have hz := hi'.z0 _ rfl
        rw [hq0] at hz
        have h0 := hi'.fr p
        rw [hz, hslot] at h0
        have h0' : RO1 E (nm st).ent σ' w' (.row M) [v0] := h0.2
        simp only [RO1] at h0'
        obtain ⟨u', hu1, _, _, hu4⟩ := h0'
        simp only [List.cons.injEq, and_true] at hu1
        subst hu1
        have hu5 := hu4 e1 ys1 hM
        have hen := hi'.hr.ents M
        unfold EntR at hen
        rw [hM] at hen
        obtain ⟨cells', d1, d2, d3⟩ := hen
        rw [← hu5] at d1
        rcases hee with rfl | rfl
        ·exact ⟨hi'.defs, _, results_run k1, hi'.hr.kept, (nm st).ent, σ', cells', d1, d2⟩
        ·exact ⟨hi'.defs, _, results_run k1, hi'.hr.kept, (nm st).ent, σ', cells', d1, d2⟩
       ·cases hfin
      ·cases hfin
     unfold finR at h
     split at h
     ·rename_i st hex
      have hc := h
      unfold finR1 at h
      split at h
      ·split at h
       ·simp only [Option.some.injEq] at h
        subst h
        exact core _ _ (fun st => st) (fun hi => ⟨_, hi⟩) st .ret (.inl rfl) hex hc
       ·cases h
      ·cases h
     ·rename_i st hex
      have hc := h
      unfold finR1 at h
      split at h
      ·split at h
       ·simp only [Option.some.injEq] at h
        subst h
        exact core _ _ (norm F.ret) (fun hi => norm_sound hi F.ret) st .normal (.inr rfl) hex hc
       ·cases h
      ·cases h
     ·cases h
    ·cases h
   ·cases h
  ·cases h
 ·cases h
theorem bx_sound (hE : EnvOk E P) (hD : DrawSound E P) {k : Nat} (hcall : CallsOk P E (sem E k)) {f : Nat} {avs : List V} {r : V}
 (h : (match nth E.fl f, find E.fi f with
  | some fn, some F => match callKind E f with
   | some .bx => match fn.body, Nat.beq fn.ntmps (nOf F.n), Nat.ble avs.length (nOf F.n) with
    | some c, true, true => finB E fn (ex E F k (sem E k) c 0 ⟨argFr avs 0, []⟩)
    | _, _, _ => none
   | _ => none
  | _, _ => none) = some r) : BxOk P E f avs r := by
 split at h
 ·rename_i fn F hfn hF
  split at h
  ·rename_i hk
   split at h
   ·rename_i c hb hnt hle
    have hnt : fn.ntmps = nOf F.n := Nat.eq_of_beq_eq_true hnt
    have hle : avs.length ≤ nOf F.n := Nat.le_of_ble_eq_true hle
    have hP := hE.fl _ fn hfn
    unfold finB at h
    split at h
    ·rename_i st hex
     split at h
     ·rename_i M pi rel ext hvs
      split at h
      ·rename_i ps hM hz1 hz2
       split at h
       ·rename_i hfo
        simp only [Option.some.injEq] at h
        subst h
        have hp0 : pi = 0 := isZero_eq hz1
        have hp1 : rel = 0 := isZero_eq hz2
        subst hp0
        subst hp1
        refine ⟨⟨fn, hP, by rw [hb]; rfl⟩, ps, ext, rfl, fun no w us hno hus => ?_⟩
        refine calls_of_wp hP hb ?_
        have hi := start_inv (E := E) hnt hle hno hus (RFC_length _ _ hus)
        refine ex_sound hE hD hcall c 0 _ _ st hex _ _ w _ hi fun a' w' σ' hi' => ?_
        obtain ⟨us2, k1, k2⟩ := resVals_sound hE hi'.hr hi'.fr _ _ hvs
        simp only [RTS] at k2
        obtain ⟨u1, l1, rfl, k3, rfl⟩ := k2
        have k3' : RO1 E st.ent σ' w' (.ptr M 0 0 ext) [u1] := k3.2
        simp only [RO1] at k3'
        obtain ⟨u', hu1, _, _, hu4⟩ := k3'
        simp only [List.cons.injEq, and_true] at hu1
        subst hu1
        obtain ⟨b, hb2, hu5, hpok⟩ := hu4 ps hM
        have hen := hi'.hr.ents M
        unfold EntR at hen
        rw [hM] at hen
        obtain ⟨b3, cs', e', d1, d2, d3, d4⟩ := hen
        rw [hb2] at d1
        simp only [Value.pointer.injEq, Option.some.injEq, Addr.mk.injEq, and_true] at d1
        subst d1
        refine ⟨hi'.defs, _, results_run k1, b, cs', e', ?_, hi'.hr.kept, Nat.le_of_not_lt d2, d3, ?_, hpok⟩
        ·rw [hu5]; cases ps <;> rfl
        ·refine RFL_move2 (fun b' hb' => ⟨⟨hb'.1, fun hh => ?_⟩, fun h9 => ?_⟩) (RFL_of_ROL ps _ hfo d4)
         ·have := hb'.2.2
          rw [hi'.no] at this
          exact this hh
         ·subst h9
          exact hb'.2.1 M (by rw [hM]; rfl) (by rw [hb2]; rfl)
       ·cases h
      ·cases h
     ·cases h
    ·cases h
   ·cases h
  ·cases h
 ·cases h
theorem fin_sound (hE : EnvOk E P) {no : Nat → Prop} {w : World} {fn : Func} {F : FnI} {r : V} {st : St} {vs : List V} (hvs : resVals E st fn.results.toList = some vs) (hres : resV E st fn.results.toList = some r) {σ : Sg} {a : Act} {w' : World} (hi : Inv E (fun b => b < w.heap.size) w no F.n none st σ a w') :
 a.defers = [] ∧ ∃ u, (results fn a.tmps).run P w' = .ok u w' ∧ ResR E no w w' r u := by
 obtain ⟨us2, h1, h2⟩ := resVals_sound hE hi.hr hi.fr _ _ hvs
 refine ⟨hi.defs, _, results_run h1, ?_⟩
 unfold resV at hres
 rw [hvs] at hres
 simp only at hres
 refine res_sound (rs := fn.results.toList) hi.hr hi.no h2 ?_ ?_
 ·split at hres
  ·assumption
  ·assumption
  ·cases hres
 ·split at hres
  ·rename_i x hn hm
   simp only [Option.some.injEq] at hres
   rw [hm]
   refine ⟨hres.symm, ?_⟩
   cases vs with
   | nil => simp [mapO] at hm
   | cons y l =>
    obtain ⟨y', l', _, h4, h5⟩ := mapO_cons hm
    cases l with
    | nil => exact ⟨y, rfl⟩
    | cons z l =>
     obtain ⟨_, _, _, _, h6⟩ := mapO_cons h4
     rw [h6] at h5
     simp at h5
  ·rename_i l hne hn hm
   simp only [Option.some.injEq] at hres
   rw [hm]
   have hlen : vs.length = l.length := by
    have : ∀ (vs l : List V), mapO (outP st) vs = some l → vs.length = l.length := by
     intro vs
     induction vs with
     | nil => intro l h; simp only [mapO, Option.some.injEq] at h; subst h; rfl
     | cons v vs ih =>
      intro l h
      obtain ⟨_, l', _, h2, rfl⟩ := mapO_cons h
      simp [ih l' h2]
    exact this vs l hm
   match l, hres, hlen, hne with
   | [], hres, hlen, _ => exact ⟨hres.symm, by rw [hlen]; simp⟩
   | [x], _, _, hne => exact absurd rfl (hne x)
   | x :: y :: l, hres, hlen, _ => exact ⟨hres.symm, by rw [hlen]; simp⟩
  ·cases hres
theorem seq_sound (hE : EnvOk E P) (hD : DrawSound E P) (hcall : CallsOk P E call) {no : Nat → Prop} {z : Option Value} {F : FnI} {k : Nat} {c d : Code} {st st' : St} {r : Ex} (h : ex E F k call (.seq c d) 0 st = some (r, st')) {Q : Exit → Act → World → Prop}
 (hi : Inv E keep w0 no F.n z st σ a w) (hQ : ∀ a' w' σ', Inv E keep w0 no F.n z st' σ' a' w' → Q (exitOf r) a' w') : c.wp P (Exit.then (d.wp P Q) Q) a w := by
 simp only [ex] at h
 split at h
 ·rename_i st1 h1
  exact ex_sound hE hD hcall c 0 st _ st1 h1 σ a w _ hi fun a' w' σ' hi' => ex_sound hE hD hcall d 0 st1 r st' h σ' a' w' Q hi' hQ
 ·rename_i hne
  refine ex_sound hE hD hcall c 0 st r st' h σ a w _ hi fun a' w' σ' hi' => ?_
  have := hQ a' w' σ' hi'
  cases r with
  | normal => exact absurd h (hne _)
  | exit id => exact this
  | ret => exact this
theorem clOut_some {xs : List V} {e e' : Nat} {ys zs : List V} {r : V} (h : clOut xs e ys e' zs = some r) : r = .fresh e ys ∧ (xs = [] → r = .fresh e' zs) := by
 unfold clOut at h
 split at h
 ·split at h
  ·rename_i hb
   simp only [Option.some.injEq] at h
   subst h
   have := Nat.eq_of_beq_eq_true hb
   subst this
   exact ⟨rfl, fun _ => rfl⟩
  ·cases h
 ·simp only [Option.some.injEq] at h
  subst h
  exact ⟨rfl, fun h => by cases h⟩
theorem clFin_some {fn : Func} {q : Option (Ex × St)} {e : Nat} {ys : List V} (h : clFin E fn q = some (e, ys)) : ∃ st, q = some (.ret, st) ∧ resV E st fn.results.toList = some (.fresh e ys) := by
 unfold clFin at h
 split at h
 ·rename_i st
  split at h
  ·rename_i e1 y1 hv
   simp only [Option.some.injEq, Prod.mk.injEq] at h
   obtain ⟨rfl, rfl⟩ := h
   exact ⟨st, rfl, hv⟩
  ·cases h
 ·cases h
theorem resV_vals {st : St} {rs : List ResultVar} {r : V} (h : resV E st rs = some r) : ∃ vs, resVals E st rs = some vs := by
 unfold resV at h
 split at h
 ·rename_i vs hvs; exact ⟨vs, hvs⟩
 ·cases h
theorem equalIn_nil (n : Nat) {t e : TypeId} {w : World} {A : Option Addr} {m cap : Nat} (h : (underlying t).run P w = .ok (.slice e) w) : (Op.equalIn (n + 1) t (.slice A m cap) (.slice none 0 0)).run P w = .ok A.isNone w := by
 cases A <;> simp [Op.equalIn, h]
theorem cl_sound (hE : EnvOk E P) (hD : DrawSound E P) (hcall : CallsOk P E call) {f k : Nat} {avs : List V} {r : V} {fn : Func} {F : FnI} (hP : P.funcs[f]? = some fn) (h : semCl E fn F k call avs = some r) : FunOk P E f avs r := by
 unfold semCl at h
 split at h
 ·rename_i r0 i1 os1 c B hb hnt hle
  split at h
  ·rename_i o1 o2 hos
   split at h
   ·rename_i t p t2 d ho2 hg2 hd2
    split at h
    ·rename_i ty hdk hty
     split at h
     ·rename_i e0 st1 htd h0
      split at h
      ·rename_i st2 tr h1
       split at h
       ·rename_i xs hxs
        split at h
        ·rename_i e ys e' zs hF hT
         have hnt : fn.ntmps = nOf F.n := Nat.eq_of_beq_eq_true hnt
         have hle : avs.length ≤ nOf F.n := Nat.le_of_ble_eq_true hle
         obtain ⟨c1, c2⟩ := clOut_some h
         obtain ⟨stF, hF1, hF2⟩ := clFin_some hF
         obtain ⟨stT, hT1, hT2⟩ := clFin_some hT
         refine ⟨⟨fn, hP, by rw [hb]; rfl⟩, fun no w us hno hus => ?_⟩
         refine calls_of_wp hP hb ?_
         have hi := start_inv (E := E) hnt hle hno hus (RFC_length _ _ hus)
         refine wp_seq ?_
         refine ex_sound hE hD hcall r0 0 _ _ st1 h0 _ _ w _ hi fun a1 w1 σ1 hi1 => ?_
         refine wp_seq (wp_seq (wp_region_list ?_))
         rw [hos]
         rw [runOps_cons] at h1
         split at h1
         ·rename_i st2' tr' h1'
          simp only [runOps, Option.some.injEq, Prod.mk.injEq] at h1
          obtain ⟨rfl, rfl⟩ := h1
          refine wpList_step fun K hK => step1_sound hE hcall hi1 h1' fun a2 w2 σ2 hi2 => hK _ _ ?_
          refine wpList_step fun K2 hK2 => ?_
          rw [guard_none hg2, if_pos rfl]
          have hx := hi2.fr p
          rw [hxs] at hx
          have hx2 : RO1 E st2'.ent σ2 w2 (.sl xs) [a2.tmps.getD p undef] := hx.2
          simp only [RO1, RF] at hx2
          obtain ⟨A, cap, hA1, hA2, hA3⟩ := hx2
          simp only [List.cons.injEq, and_true] at hA1
          obtain ⟨dd, hdd, htd2⟩ := ty_run hE hty w2
          rw [htd] at htd2
          have heq : (Op.equal t (.slice A xs.length cap) (.slice none 0 0)).run P w2 = .ok A.isNone w2 := by
           cases dd <;> simp only [tyD] at htd2
           exact equalIn_nil 9999 hdd
          have hrun : (execOp a2.eval o2).run P w2 = .ok (.value (.bool A.isNone)) w2 := by
           have e1 : a2.eval (.tmp p) = .slice A xs.length cap := hA1
           have e2 : a2.eval (.const (.slice none 0 0)) = .slice none 0 0 := rfl
           simp [execOp, ho2, e1, e2, eqGuard, binOp, heq]
          unfold Oper.wp
          refine (Done.pure hi2.hr (u := .bool A.isNone) (v := .bool A.isNone) hrun (RT_mkbool _)).goes fun u w' σ' g1 g2 g3 g4 => hK2 _ _ ?_
          have hi3 := hi2.put (d := o2.dst) (fun t ht => dst_lt hdk ht) g1 g2 g3 g4
          rw [hd2] at hi3 ⊢
          cases A with
          | none =>
           have hx0 : xs = [] := by
            rcases hA3 with h | ⟨_, _, _, h, _⟩
            ·exact h
            ·cases h
           refine seq_sound hE hD hcall hT1 hi3 fun a' w'' σ'' hi' => ?_
           obtain ⟨vs, hvs⟩ := resV_vals hT2
           rw [c2 hx0]
           exact fin_sound hE hvs hT2 hi'
          | some ad =>
           refine seq_sound hE hD hcall hF1 hi3 fun a' w'' σ'' hi' => ?_
           obtain ⟨vs, hvs⟩ := resV_vals hF2
           rw [c1]
           exact fin_sound hE hvs hF2 hi'
         ·cases h1
        ·cases h
       ·cases h
      ·cases h
     ·cases h
    ·cases h
   ·cases h
  ·cases h
 ·cases h
def wpL (Fe : Fence) (m : Nat) (P : Program) (N : Act → World → Prop) (Q : Exit → Act → World → Prop) : List Code → Act → World → Prop
 | [], a, w => N a w
 | c :: cs, a, w => c.wpIn Fe m P (Exit.then (wpL Fe m P N Q cs) Q) a w
theorem split_wp {Fe : Fence} {m : Nat} {Q : Exit → Act → World → Prop} : ∀ (c : Code) (p : List Code) (r : Rf), splitRf c = some (p, r) → ∀ (a : Act) (w : World),
 wpL Fe m P (fun a w => (Code.block r.blk (.rangeFunc r.g #[r.p0, r.p1] (.region r.ia r.asg false) (.block r.ib (.region r.ir r.bdy false)))).wpIn Fe m P (Exit.then (fun a w => (Code.region r.it r.tl false).wpIn Fe m P (Exit.then (fun a w => Q .ret a w) Q) a w) Q) a w) Q p a w → c.wpIn Fe m P Q a w := by
 intro c
 induction c with
 | seq x y ihx ihy =>
  intro p r h a w hp
  simp only [splitRf] at h
  split at h
  ·rename_i p' r' hy
   simp only [Option.some.injEq, Prod.mk.injEq] at h
   obtain ⟨rfl, rfl⟩ := h
   refine wpIn_seq (wpIn_mono hp fun e a w he => ?_)
   cases e with
   | normal => exact ihy _ _ hy a w he
   | _ => exact he
  ·split at h
   ·rename_i p' b g ps ia as ib ir bs it ts hnone
    split at h
    ·rename_i p0 p1 hps
     simp only [Option.some.injEq, Prod.mk.injEq] at h
     obtain ⟨rfl, rfl⟩ := h
     have eps : ps = #[p0, p1] := by
      apply Array.ext'
      simpa using hps
     subst eps
     refine wpIn_seq (wpIn_seq ?_)
     refine wpIn_mono hp fun e a w he => ?_
     cases e with
     | normal =>
      refine wpIn_mono he fun e a w he => ?_
      cases e with
      | normal =>
       refine wpIn_seq (wpIn_mono he fun e a w he => ?_)
       cases e with
       | normal => exact wpIn_ret he
       | _ => exact he
      | _ => exact he
     | _ => exact he
    ·cases h
   ·cases h
 | _ => intro p r h; simp [splitRf] at h
theorem exL_sound (hE : EnvOk E P) (hD : DrawSound E P) (hcall : CallsOk P E call) {no : Nat → Prop} {z : Option Value} {F : FnI} {k m : Nat} {N : Act → World → Prop} {Q : Exit → Act → World → Prop} : ∀ (cs : List Code) (st st' : St), exL E F k call cs st = some (.normal, st') →
 ∀ (σ : Sg) (a : Act) (w : World), Inv E keep w0 no F.n z st σ a w → (∀ a' w' σ', Inv E keep w0 no F.n z st' σ' a' w' → N a' w') → wpL Fence.wide m P N Q cs a w
 | [], st, st', h, σ, a, w, hi, hN => by
  simp only [exL, Option.some.injEq, Prod.mk.injEq, true_and] at h
  subst h
  exact hN _ _ _ hi
 | c :: cs, st, st', h, σ, a, w, hi, hN => by
  simp only [exL] at h
  split at h
  ·rename_i st1 h1
   exact wpIn_wide.2 (ex_sound hE hD hcall c 0 _ _ st1 h1 _ _ _ _ hi fun a1 w1 σ1 hi1 => exL_sound hE hD hcall cs st1 st' h σ1 a1 w1 hi1 hN)
  ·rename_i hne
   exact absurd h (hne _)
theorem pairs_list {k1 k2 : IntKind} : ∀ {xs : List V}, pairsOk k1 k2 xs = true → ∃ l, xs = prsV k1 k2 l
 | [], _ => ⟨[], rfl⟩
 | x :: xs, h => by
  simp only [pairsOk] at h
  split at h
  ·split at h
   ·rename_i a n b m
    simp only [Bool.and_eq_true, decide_eq_true_eq] at h
    obtain ⟨⟨rfl, rfl⟩, h⟩ := h
    obtain ⟨l, rfl⟩ := pairs_list h
    exact ⟨(n, m) :: l, rfl⟩
   ·cases h
  ·cases h
theorem rf_sound (hE : EnvOk E P) (hD : DrawSound E P) (hcall : CallsOk P E call) {f k : Nat} {avs : List V} {r : V} {fn : Func} {F : FnI} {c : Code} (hP : P.funcs[f]? = some fn) (hb : fn.body = some c) (hnt : fn.ntmps = nOf F.n) (hle : avs.length ≤ nOf F.n)
 (h : semRf E fn F k call avs c = some r) : FunOk P E f avs r := by
 unfold semRf at h
 split at h
 ·rename_i p rf hsp
  split at h
  ·rename_i st1 hok hex
   split at h
   ·rename_i st2 hrf
    split at h
    ·rename_i st3 tr3 htl
     refine ⟨⟨fn, hP, by rw [hb]; rfl⟩, fun no w us hno hus => ?_⟩
     have hlu := RFC_length _ _ hus
     have hi := start_inv (E := E) (fn := fn) (F := F) hnt hle hno hus hlu
     refine (callsIn_wide (n := 2)).1 (callsIn_of_wp_marks hP hb trivial ?_)
     refine split_wp _ _ _ hsp _ _ ?_
     refine exL_sound hE hD hcall p _ st1 hex _ _ _ hi fun a1 w1 σ1 hi1 => ?_
     unfold rfX at hrf
     split at hrf
     ·rename_i lv hlv
      split at hrf
      ·rename_i gf caps hev
       split at hrf
       ·rename_i ps ext
        split at hrf
        ·rename_i xs
         split at hrf
         ·rename_i G hG
          split at hrf
          ·rename_i ks hks
           split at hrf
           ·rename_i hpo
            split at hrf
            ·rename_i stE hgo
             simp only [Option.some.injEq, Prod.mk.injEq, true_and] at hrf
             subst hrf
             rw [Bool.and_eq_true] at hpo
             obtain ⟨lst, rfl⟩ := pairs_list hpo.2
             unfold rfOk at hok
             simp only [Bool.and_eq_true, Bool.not_eq_true'] at hok
             obtain ⟨⟨⟨⟨⟨⟨⟨c1, c2⟩, c3⟩, c4⟩, c5⟩, c6⟩, c7⟩, c8⟩ := hok
             have ne : ∀ {x y : Nat}, Nat.beq x y = false → x ≠ y := fun h e => by subst e; rw [Nat.beq_refl] at h; cases h
             obtain ⟨σ2, hi2⟩ := norm_sound hi1 lv.head
             have hs1 := hi1.hr.kept.size
             refine wpIn_block ?_
             refine rf_loop (m := 0) hE c1 c2 ⟨Nat.blt_eq.mp c4, ne c6⟩ ⟨Nat.blt_eq.mp c5, ne c7⟩ (hE.bw gf G ks hG hks) hpo.1 hev hgo hi2 (fun b hb => Nat.lt_of_lt_of_le hb hs1) (fun b hb => Nat.lt_of_lt_of_le (hno b hb) hs1) ?_
             intro σ3 W hk3 hi3 hD3
             obtain ⟨σ4, hi4⟩ := norm_sound hi3 lv.out
             show (Code.region rf.it rf.tl false).wpIn Fence.wide 2 P _ _ W
             refine wpIn_region_list ?_
             rw [hi1.defs]
             refine runOps_in (P := P) hE (Fe := Fence.wide) (fun _ => trivial) (m := 2) (ds := [{ target := .collected w1.heap.size, args := #[] }]) rf.tl.toList _ { tmps := a1.tmps, defers := [] } _ _ _ _ _ c3 hi4 htl ?_
             intro a5 W5 σ5 hi5 fr5
             show LeavesInM Fence.wide 2 P fn a5.tmps _ [{ target := .collected w1.heap.size, args := #[] }] .returning W5
             have hk5 := hi5.hr.kept
             have hs5 := hk5.size
             have hs3 := hk3.size
             have hD5 : W5.heap[w1.heap.size]? = some (.deferred (some [])) := (hk5.block _ (.inr rfl)).trans hD3
             refine ⟨by simp, .inl ⟨_, _, rfl, run_takeDeferred hD5, ?_⟩⟩
             obtain ⟨W6, hW6⟩ : ∃ W6, W5.putObj w1.heap.size (.deferred none) = W6 := ⟨_, rfl⟩
             have o6 : ∀ b, b ≠ w1.heap.size → W6.heap[b]? = W5.heap[b]? := fun b hb => by rw [← hW6]; exact World.putObj_heap_other hb
             have s6 : W6.heap.size = W5.heap.size := by rw [← hW6]; simp
             have q6 : W6.os = W5.os ∧ W6.tape = W5.tape ∧ W6.output = W5.output := by rw [← hW6]; exact ⟨rfl, rfl, rfl⟩
             rw [hW6]
             have hDlt : w1.heap.size < W5.heap.size := (Array.getElem?_eq_some_iff.1 hD5).1
             have hi6 := hi5.rebase (W' := W6) (no' := fun b => no b ∨ b = w1.heap.size ∨ b = w1.heap.size + 1) (keep' := fun b => b < w.heap.size) (by omega) (fun b hb hn => o6 b fun e => hn (.inr (.inl e))) (fun b hb => .inl hb)
              (fun b hb => by have := hi5.hr.nlt b (by rw [hi5.no]; exact hb); omega)
              (fun b hb => ⟨by omega, fun id hl hbk => (EntR_blk (hi5.hr.ents id) hl hbk).1 (.inl hb)⟩)
             have kept6 : Kept (fun b => b < w.heap.size) w W6 := by
              have k1 := hi1.hr.kept
              refine ⟨q6.1.trans (hk5.os.trans (hk3.os.trans k1.os)), q6.2.1.trans (hk5.tape.trans (hk3.tape.trans k1.tape)), q6.2.2.trans (hk5.output.trans (hk3.output.trans k1.output)), by omega, fun b hb => ?_⟩
              rw [o6 b (by omega), hk5.block b (.inl hb), hk3.block b hb, k1.block b hb]
             have hi7 := hi6.unbase (w0 := w) (keep := fun b => b < w.heap.size) (no := no) kept6 (fun b hb => ⟨hb, hb⟩) (fun b hb => ⟨.inl hb, hno b hb⟩)
             obtain ⟨σ8, hi8⟩ := norm_sound hi7 F.ret
             obtain ⟨vs, hvs⟩ := resV_vals h
             obtain ⟨_, u, e1, e2⟩ := fin_sound hE hvs h hi8
             exact ⟨u, e1, e2⟩
            ·cases hrf
           ·cases hrf
          ·cases hrf
         ·cases hrf
        ·cases hrf
       ·cases hrf
      ·cases hrf
     ·cases hrf
    ·cases h
   ·cases h
  ·cases h
 ·cases h
theorem sem_sound (hE : EnvOk E P) (hD : DrawSound E P) : ∀ k, CallsOk P E (sem E k)
 | 0 => by intro f avs r h; simp [sem] at h
 | k + 1 => by
  intro f avs r h
  simp only [sem] at h
  split at h
  case h_2 hbl =>
   refine ⟨fun h' => (by rw [hbl] at h'; cases h'), fun _ h2 h3 => ?_, fun _ h2 => ?_, fun _ h2 h3 h4 => ?_, fun _ h2 h3 h4 h5 => ?_, fun _ h2 h3 h4 h5 => ?_⟩
   ·rw [h2] at h
    simp only at h
    rw [h3] at h
    exact mu_sound hE hD (sem_sound hE hD k) h
   ·rw [h2] at h
    exact pu_sound hE hD (sem_sound hE hD k) h
   ·rw [h2] at h
    simp only at h
    rw [h3] at h
    simp only at h
    rw [h4] at h
    exact mv_sound hE hD (sem_sound hE hD k) h
   ·rw [h2] at h
    simp only at h
    rw [h3] at h
    simp only at h
    rw [h4] at h
    simp only at h
    rw [h5] at h
    exact bx_sound hE hD (sem_sound hE hD k) h
   ·rw [h2] at h
    simp only at h
    rw [h3] at h
    simp only at h
    rw [h4] at h
    simp only at h
    rw [h5] at h
    exact ru_sound hE hD (sem_sound hE hD k) h
  rename_i hbl
  refine ⟨fun _ => ?_, fun h' => (by rw [hbl] at h'; cases h'), fun h' => (by rw [hbl] at h'; cases h'), fun h' => (by rw [hbl] at h'; cases h'), fun h' => (by rw [hbl] at h'; cases h'), fun h' => (by rw [hbl] at h'; cases h')⟩
  split at h
  ·rename_i p hp
   exact hE.pr f p avs r hp h
  split at h
  ·rename_i fn F hfn hF
   split at h
   ·exact cl_sound hE hD (sem_sound hE hD k) (hE.fl f fn hfn) h
   split at h
   ·rename_i c hb hnt hle
    have hnt : fn.ntmps = nOf F.n := Nat.eq_of_beq_eq_true hnt
    have hle : avs.length ≤ nOf F.n := Nat.le_of_ble_eq_true hle
    have hP := hE.fl f fn hfn
    by_cases hrf : ∃ st, ex E F k (sem E k) c 0 ⟨argFr avs 0, []⟩ = some (.ret, st) ∨ ex E F k (sem E k) c 0 ⟨argFr avs 0, []⟩ = some (.normal, st)
    case neg =>
     split at h
     ·rename_i st hx; exact absurd ⟨st, .inl hx⟩ hrf
     ·rename_i st hx; exact absurd ⟨st, .inr hx⟩ hrf
     ·exact rf_sound hE hD (sem_sound hE hD k) hP hb hnt hle h
    refine ⟨⟨fn, hP, by rw [hb]; rfl⟩, fun no w us hno hus => ?_⟩
    refine calls_of_wp hP hb ?_
    have hlu := RFC_length _ _ hus
    let σ0 : Sg := ⟨fun _ => undef, no⟩
    have hi : Inv E (fun b => b < w.heap.size) w no F.n none ⟨argFr avs 0, []⟩ σ0 { tmps := us.toArray ++ Array.replicate (fn.ntmps - us.toArray.size) undef, defers := [] } w := by
     refine ⟨⟨Kept.refl _ _, fun b h => h, fun _ => trivial, ?_, hno, ?_⟩, ?_, ?_, rfl, rfl, fun u h => by cases h⟩
     ·intro id b hl _; simp [St.ent, find, Ent.live] at hl
     ·intro i j b _ hl; simp [St.ent, find, Ent.live] at hl
     ·intro t
      unfold St.get
      simp only
      rw [argFr_get]
      by_cases ht : t < avs.length
      ·rw [if_pos (by omega), Nat.sub_zero]
       obtain ⟨u, h1, h2, h3⟩ := RFC_get avs us t avs[t] hus (List.getElem?_eq_getElem ht)
       rw [List.getElem?_eq_getElem ht]
       simp only
       have hu : (us.toArray ++ Array.replicate (fn.ntmps - us.toArray.size) undef).getD t undef = u := by
        rw [Array.getD_eq_getD_getElem?, Array.getElem?_append_left (by simp; omega)]
        simp [h1]
       rw [hu]
       refine RT_resOne (RTc_of_RFc (RF_move ?_ _ _ h2) h3)
       intro b hb'
       refine ⟨⟨hb'.1, fun id hl => ?_, hb'.2⟩, rfl⟩
       simp [St.ent, find, Ent.live] at hl
      ·rw [if_neg (by omega)]
       trivial
     ·simp only [Array.size_append, List.size_toArray, Array.size_replicate]
      omega
    have fin : ∀ (st : St) (vs : List V), resVals E st fn.results.toList = some vs → resV E st fn.results.toList = some r → ∀ σ a w', Inv E (fun b => b < w.heap.size) w no F.n none st σ a w' →
     a.defers = [] ∧ ∃ u, (results fn a.tmps).run P w' = .ok u w' ∧ ResR E no w w' r u := by
     intro st vs hvs hres σ a w' hi
     obtain ⟨us2, h1, h2⟩ := resVals_sound hE hi.hr hi.fr _ _ hvs
     refine ⟨hi.defs, _, results_run h1, ?_⟩
     unfold resV at hres
     rw [hvs] at hres
     simp only at hres
     refine res_sound (rs := fn.results.toList) hi.hr hi.no h2 ?_ ?_
     ·split at hres
      ·assumption
      ·assumption
      ·cases hres
     ·split at hres
      ·rename_i x hn hm
       simp only [Option.some.injEq] at hres
       rw [hm]
       refine ⟨hres.symm, ?_⟩
       cases vs with
       | nil => simp [mapO] at hm
       | cons y l =>
        obtain ⟨y', l', _, h4, h5⟩ := mapO_cons hm
        cases l with
        | nil => exact ⟨y, rfl⟩
        | cons z l =>
         obtain ⟨_, _, _, _, h6⟩ := mapO_cons h4
         rw [h6] at h5
         simp at h5
      ·rename_i l hne hn hm
       simp only [Option.some.injEq] at hres
       rw [hm]
       have hlen : vs.length = l.length := by
        have : ∀ (vs l : List V), mapO (outP st) vs = some l → vs.length = l.length := by
         intro vs
         induction vs with
         | nil => intro l h; simp only [mapO, Option.some.injEq] at h; subst h; rfl
         | cons v vs ih =>
          intro l h
          obtain ⟨_, l', _, h2, rfl⟩ := mapO_cons h
          simp [ih l' h2]
        exact this vs l hm
       match l, hres, hlen, hne with
       | [], hres, hlen, _ => exact ⟨hres.symm, by rw [hlen]; simp⟩
       | [x], _, _, hne => exact absurd rfl (hne x)
       | x :: y :: l, hres, hlen, _ => exact ⟨hres.symm, by rw [hlen]; simp⟩
      ·cases hres
    have vals : ∀ st, resV E st fn.results.toList = some r → ∃ vs, resVals E st fn.results.toList = some vs := by
     intro st h
     unfold resV at h
     split at h
     ·rename_i vs hvs; exact ⟨vs, hvs⟩
     ·cases h
    split at h
    ·rename_i st hex
     obtain ⟨vs, hvs⟩ := vals _ h
     refine ex_sound hE hD (sem_sound hE hD k) c 0 _ _ st hex σ0 _ w _ hi fun a' w' σ' hi' => ?_
     exact fin st vs hvs h σ' a' w' hi'
    ·rename_i st hex
     obtain ⟨vs, hvs⟩ := vals _ h
     refine ex_sound hE hD (sem_sound hE hD k) c 0 _ _ st hex σ0 _ w _ hi fun a' w' σ' hi' => ?_
     obtain ⟨σ2, hi2⟩ := norm_sound hi' F.ret
     exact fin _ vs hvs h σ2 a' w' hi2
    ·rename_i hn1 hn2
     obtain ⟨st, hx | hx⟩ := hrf
     ·exact absurd hx (hn1 st)
     ·exact absurd hx (hn2 st)
   ·cases h
  ·cases h
end
end Go.Proofs.YthdnamhilcjnhaaGreatDoor
