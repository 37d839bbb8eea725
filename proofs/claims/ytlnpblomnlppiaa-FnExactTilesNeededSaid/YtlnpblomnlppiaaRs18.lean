/- The abstract interpreter is right of every function. -/
import Derived.Test.YtlnpblomnlppiaaRs17
namespace Go.Proofs.Ytlnpblomnlppiaa
open Go Go.RowKit
set_option linter.unusedVariables false
set_option linter.unusedSimpArgs false
section
variable {E : Env} {P : Program} {keep : Nat → Prop} {w0 : World} {σ : Sg} {w : World} {st : St} {a : Act} {o : Oper} {v : V} {es : List (Nat × Ent)} {call : Nat → List V → Option V} {ent : Nat → Ent}

def resF (tmps : Array Value) : ResultVar → Sem Value
  | .tmp t => pure (tmps.getD t undef)
  | .cell b t => do loadVar t (← asAddr (tmps.getD b undef))
theorem resVals_sound (hE : EnvOk E P) (hr : HR E keep w0 st.ent σ w) (hf : FRel E st.ent σ w st a) : ∀ (rs : List ResultVar) (vs : List V), resVals E st rs = some vs →
    ∃ us, (rs.mapM (resF a.tmps)).run P w = .ok us w ∧ RTS E st.ent σ w vs us
  | [], vs, h => by
    simp only [resVals, Option.some.injEq] at h
    subst h
    exact ⟨[], by simp, rfl⟩
  | .tmp t :: rs, vs, h => by
    simp only [resVals] at h
    split at h
    · rename_i l hl
      simp only [Option.some.injEq] at h
      subst h
      obtain ⟨us, h1, h2⟩ := resVals_sound hE hr hf rs l hl
      refine ⟨a.tmps.getD t undef :: us, ?_, ?_⟩
      · rw [List.mapM_cons]
        simp only [Sem.run_bind, Sem.run_pure, Result.andThen_ok, resF, h1]
      · simp only [RTS]
        exact ⟨_, us, rfl, hf t, h2⟩
    · cases h
  | .cell b t :: rs, vs, h => by
    simp only [resVals] at h
    split at h
    · rename_i ty id pi rel ext l ht hb hl
      split at h
      · rename_i ps hp
        split at h
        · rename_i x hx
          simp only [Option.some.injEq] at h
          subst h
          obtain ⟨us, h1, h2⟩ := resVals_sound hE hr hf rs l hl
          have hbt := hf b
          rw [hb] at hbt
          obtain ⟨g, o', cs, hu, h3, h4, h5⟩ := leads_ptr hr hbt hp
          obtain ⟨u, h6, h7⟩ := load_sound (P := P) hE ht h3 h4 h5 hx
          refine ⟨u :: us, ?_, ?_⟩
          · rw [List.mapM_cons]
            have ha : (asAddr (a.tmps.getD b undef)).run P w = .ok ⟨g, o' + startOf ps pi + rel, none⟩ w := by rw [hu]; rfl
            simp only [Sem.run_bind, Sem.run_pure, Result.andThen_ok, resF, ha, h6, h1]
          · simp only [RTS]
            exact ⟨u, us, rfl, h7, h2⟩
        · cases h
      · cases h
    · cases h
theorem results_run {fn : Func} {us : List Value} (h : (fn.results.toList.mapM (resF a.tmps)).run P w = .ok us w) :
    (results fn a.tmps).run P w = .ok (if h : us.length = 1 then us[0] else .tuple us.toArray) w := by
  have h0 : results fn a.tmps = (do
      let vs ← fn.results.mapM (resF a.tmps)
      pure (if h : vs.size = 1 then vs[0] else .tuple vs)) := rfl
  rw [h0, Array.mapM_eq_mapM_toList]
  simp [h]
theorem argFr_get : ∀ (args : List V) (i t : Nat), find (argFr args i) t = if i ≤ t ∧ t < i + args.length then args[t - i]? else none
  | [], i, t => by
    simp only [argFr, find, List.length_nil, Nat.add_zero]
    rw [if_neg (by omega)]
  | v :: args, i, t => by
    simp only [argFr, find, List.length_cons]
    cases hb : Nat.beq i t with
    | true =>
      have := Nat.eq_of_beq_eq_true hb
      subst this
      simp
    | false =>
      have hne : i ≠ t := fun h => by rw [h, show Nat.beq t t = true from Nat.beq_refl t] at hb; cases hb
      simp only
      rw [argFr_get args (i + 1) t]
      by_cases h : i + 1 ≤ t ∧ t < i + 1 + args.length
      · rw [if_pos h, if_pos (by omega), show t - i = (t - (i + 1)) + 1 by omega, List.getElem?_cons_succ]
      · rw [if_neg h, if_neg (by omega)]
theorem RFC_get {ok : Nat → Prop} : ∀ (vs : List V) (us : List Value) (i : Nat) (v : V), RFC w ok vs us → vs[i]? = some v → ∃ u, us[i]? = some u ∧ RF w ok v u.cells.toList ∧ aggOk v u
  | [], us, i, v, h, hv => by simp at hv
  | x :: vs, us, i, v, h, hv => by
    simp only [RFC] at h
    obtain ⟨u, l, rfl, h1, h2, h3⟩ := h
    cases i with
    | zero =>
      simp only [List.getElem?_cons_zero, Option.some.injEq] at hv
      subst hv
      exact ⟨u, rfl, h1, h2⟩
    | succ i =>
      rw [List.getElem?_cons_succ] at hv
      obtain ⟨u', h4, h5⟩ := RFC_get vs l i v h3 hv
      exact ⟨u', by rw [List.getElem?_cons_succ]; exact h4, h5⟩
theorem RFC_length {ok : Nat → Prop} : ∀ (vs : List V) (us : List Value), RFC w ok vs us → us.length = vs.length
  | [], us, h => by simp only [RFC] at h; subst h; rfl
  | x :: vs, us, h => by
    simp only [RFC] at h
    obtain ⟨u, l, rfl, _, _, h3⟩ := h
    simp [RFC_length vs l h3]
theorem mu_sound (hE : EnvOk E P) (hD : DrawSound E P) {k : Nat} (hcall : CallsOk P E (sem E k)) {f : Nat} {avs : List V} {r : V}
    (h : (match avs with
      | [a, .int q n] => match freshIn a, nth E.fl (f - muBase), find E.fi (f - muBase) with
        | some (o, e, xs), some fn, some F => match fn.body, Nat.beq fn.ntmps F.n, Nat.ble 2 F.n with
          | some c, true, true => finM E fn o (ex E F k (sem E k) c 0 ⟨[(0, putRow (.row 1) a), (1, .int q n)], [(1, .row e xs)]⟩)
          | _, _, _ => none
        | _, _, _ => none
      | _ => none) = some r) : MuOk P E (f - muBase) avs r := by
  split at h
  · rename_i a q n
    split at h
    · rename_i o e xs fn F hfr hfn hF
      split at h
      · rename_i c hb hnt hle
        have hnt : fn.ntmps = F.n := Nat.eq_of_beq_eq_true hnt
        have hle : 2 ≤ F.n := Nat.le_of_ble_eq_true hle
        have hP := hE.fl _ fn hfn
        refine ⟨⟨fn, hP, by rw [hb]; rfl⟩, a, q, n, o, e, xs, ?_⟩
        unfold finM at h
        split at h
        · rename_i st hex
          split at h
          · rename_i q' m o' M hres hrow
            split at h
            · rename_i e' xs' hM ho'
              simp only [Option.some.injEq] at h
              subst h
              have ho' : o' = o := Nat.eq_of_beq_eq_true ho'
              subst ho'
              refine ⟨q', m, e', xs', rfl, hfr, rfl, fun w u v0 cells hu hv0 hown hrow0 => ?_⟩
              refine calls_of_wp hP hb ?_
              let σ0 : Sg := ⟨fun _ => v0, fun _ => False⟩
              have hent : ∀ id, (St.ent ⟨[(0, putRow (.row 1) a), (1, .int q n)], [(1, .row e xs)]⟩ id) = if id = 1 then .row e xs else .none := by
                intro id
                unfold St.ent
                simp only [find]
                by_cases h1 : id = 1
                · subst h1; rfl
                · rw [if_neg h1]
                  cases hb1 : Nat.beq 1 id with
                  | false => rfl
                  | true => exact absurd (Nat.eq_of_beq_eq_true hb1).symm h1
              have hi : Inv E (fun b => b < w.heap.size ∧ blk v0 ≠ some b) w (fun _ => False) F.n (some u) ⟨[(0, putRow (.row 1) a), (1, .int q n)], [(1, .row e xs)]⟩ σ0 { tmps := #[u, .int q n] ++ Array.replicate (fn.ntmps - 2) undef, defers := [] } w := by
                refine ⟨⟨Kept.refl _ _, fun b h => h.1, ?_, fun _ _ _ _ h => h, fun _ h => h.elim, ?_⟩, ?_, ?_, rfl, rfl, ?_⟩
                · intro id
                  unfold EntR
                  rw [hent]
                  by_cases h1 : id = 1
                  · rw [if_pos h1]
                    exact ⟨cells, hown, hrow0 _ _ _, fun b hb hk => hk.2 hb⟩
                  · rw [if_neg h1]; trivial
                · intro i j b hij h1 h2
                  rw [hent] at h1 h2
                  by_cases hi1 : i = 1
                  · by_cases hj1 : j = 1
                    · exact absurd (hi1.trans hj1.symm) hij
                    · rw [if_neg hj1] at h2; simp [Ent.live] at h2
                  · rw [if_neg hi1] at h1; simp [Ent.live] at h1
                · intro t
                  unfold St.get
                  simp only [find]
                  match t with
                  | 0 =>
                    simp only [Nat.beq_eq_true_eq, Nat.beq]
                    have : (#[u, Value.int q n] ++ Array.replicate (fn.ntmps - 2) undef).getD 0 undef = u := by
                      rw [Array.getD_eq_getD_getElem?, Array.getElem?_append_left (by simp)]; rfl
                    rw [this]
                    exact hu _ _ (by rw [hent]; simp) rfl
                  | 1 =>
                    simp only [Nat.beq]
                    have : (#[u, Value.int q n] ++ Array.replicate (fn.ntmps - 2) undef).getD 1 undef = .int q n := by
                      rw [Array.getD_eq_getD_getElem?, Array.getElem?_append_left (by simp)]; rfl
                    rw [this]
                    exact RT_mkint _ _
                  | t + 2 => simp only [Nat.beq]; trivial
                · simp only [Array.size_append, Array.size_replicate]
                  show 2 + (fn.ntmps - 2) = F.n
                  omega
                · intro u' hu'
                  simp only [Option.some.injEq] at hu'
                  subst hu'
                  rw [Array.getD_eq_getD_getElem?, Array.getElem?_append_left (by simp)]; rfl
              refine ex_sound hE hD hcall c 0 _ _ st hex σ0 _ w _ hi fun a' w' σ' hi' => ?_
              have hvs : ∃ vs, resVals E st fn.results.toList = some vs := by
                unfold resV at hres
                split at hres
                · rename_i vs hvs; exact ⟨vs, hvs⟩
                · cases hres
              obtain ⟨vs, hvs⟩ := hvs
              obtain ⟨us2, k1, k2⟩ := resVals_sound hE hi'.hr hi'.fr _ _ hvs
              have hone : vs = [.int q' m] := by
                unfold resV at hres
                rw [hvs] at hres
                simp only at hres
                split at hres
                · rename_i x hn hm
                  simp only [Option.some.injEq] at hres
                  subst hres
                  cases vs with
                  | nil => simp [mapO] at hm
                  | cons y l =>
                    obtain ⟨y', l', h4, h5, h6⟩ := mapO_cons hm
                    simp only [List.cons.injEq] at h6
                    obtain ⟨rfl, rfl⟩ := h6
                    have hl : l = [] := by
                      cases l with
                      | nil => rfl
                      | cons z l => obtain ⟨_, _, _, _, h7⟩ := mapO_cons h5; cases h7
                    subst hl
                    have : y = .int q' m := by
                      unfold outP at h4
                      split at h4
                      · split at h4
                        · simp only [Option.some.injEq] at h4; cases h4
                        · cases h4
                      · split at h4
                        · simp only [Option.some.injEq] at h4; cases h4
                        · cases h4
                      · unfold out1 at h4
                        split at h4
                        · split at h4
                          · simp only [Option.some.injEq] at h4; cases h4
                          · cases h4
                        · split at h4
                          · simp only [Option.some.injEq] at h4; cases h4
                          · cases h4
                        · split at h4
                          · simp only [Option.some.injEq] at h4; exact h4
                          · cases h4
                    rw [this]
                · simp only [Option.some.injEq] at hres; cases hres
                · cases hres
              subst hone
              simp only [RTS] at k2
              obtain ⟨u1, l1, rfl, k3, rfl⟩ := k2
              have ku := RT_int k3
              subst ku
              refine ⟨hi'.defs, _, results_run k1, ?_⟩
              have hz := hi'.z0 u rfl
              have h0 := hi'.fr 0
              rw [hz] at h0
              have hval := (rowIn_RT (ent1 := fun j => if j = 1 then .row e' xs' else .none) (σ1 := ⟨fun _ => σ' M, σ'.no⟩) hM (by simp) rfl h0 hrow).2.1
              rw [hv0] at hval
              simp only [Option.some.injEq] at hval
              have hen := hi'.hr.ents M
              unfold EntR at hen
              rw [hM] at hen
              obtain ⟨cells', d1, d2, _⟩ := hen
              rw [← hval] at d1
              exact ⟨rfl, hi'.hr.kept, st.ent, σ', cells', d1, d2⟩
            · cases h
          · cases h
        · cases h
      · cases h
    · cases h
  · cases h
theorem sem_sound (hE : EnvOk E P) (hD : DrawSound E P) : ∀ k, CallsOk P E (sem E k)
  | 0 => by intro f avs r h; simp [sem] at h
  | k + 1 => by
    intro f avs r h
    simp only [sem] at h
    split at h
    case h_2 hbl => exact ⟨fun h' => (by rw [hbl] at h'; cases h'), fun _ => mu_sound hE hD (sem_sound hE hD k) h⟩
    rename_i hbl
    refine ⟨fun _ => ?_, fun h' => (by rw [hbl] at h'; cases h')⟩
    split at h
    · rename_i fn F hfn hF
      split at h
      · rename_i c hb hnt hle
        have hnt : fn.ntmps = F.n := Nat.eq_of_beq_eq_true hnt
        have hle : avs.length ≤ F.n := Nat.le_of_ble_eq_true hle
        have hP := hE.fl f fn hfn
        refine ⟨⟨fn, hP, by rw [hb]; rfl⟩, fun no w us hno hus => ?_⟩
        refine calls_of_wp hP hb ?_
        have hlu := RFC_length _ _ hus
        let σ0 : Sg := ⟨fun _ => undef, no⟩
        have hi : Inv E (fun b => b < w.heap.size) w no F.n none ⟨argFr avs 0, []⟩ σ0 { tmps := us.toArray ++ Array.replicate (fn.ntmps - us.toArray.size) undef, defers := [] } w := by
          refine ⟨⟨Kept.refl _ _, fun b h => h, fun _ => trivial, ?_, hno, ?_⟩, ?_, ?_, rfl, rfl, fun u h => by cases h⟩
          · intro id b hl _; simp [St.ent, find, Ent.live] at hl
          · intro i j b _ hl; simp [St.ent, find, Ent.live] at hl
          · intro t
            unfold St.get
            simp only
            rw [argFr_get]
            by_cases ht : t < avs.length
            · rw [if_pos (by omega), Nat.sub_zero]
              obtain ⟨u, h1, h2, h3⟩ := RFC_get avs us t avs[t] hus (List.getElem?_eq_getElem ht)
              rw [List.getElem?_eq_getElem ht]
              simp only
              have hu : (us.toArray ++ Array.replicate (fn.ntmps - us.toArray.size) undef).getD t undef = u := by
                rw [Array.getD_eq_getD_getElem?, Array.getElem?_append_left (by simp; omega)]
                simp [h1]
              rw [hu]
              refine RT_resOne (RTc_of_RFc (RF_move ?_ _ _ h2) h3)
              intro b hb'
              refine ⟨⟨hb'.1, fun id hl => ?_, hb'.2⟩, rfl⟩
              simp [St.ent, find, Ent.live] at hl
            · rw [if_neg (by omega)]
              trivial
          · simp only [Array.size_append, List.size_toArray, Array.size_replicate]
            omega
        have fin : ∀ (st : St) (vs : List V), resVals E st fn.results.toList = some vs → resV E st fn.results.toList = some r → ∀ σ a w', Inv E (fun b => b < w.heap.size) w no F.n none st σ a w' →
            a.defers = [] ∧ ∃ u, (results fn a.tmps).run P w' = .ok u w' ∧ ResR E no w w' r u := by
          intro st vs hvs hres σ a w' hi
          obtain ⟨us2, h1, h2⟩ := resVals_sound hE hi.hr hi.fr _ _ hvs
          refine ⟨hi.defs, _, results_run h1, ?_⟩
          unfold resV at hres
          rw [hvs] at hres
          simp only at hres
          refine res_sound (rs := fn.results.toList) hi.hr hi.no h2 ?_ ?_
          · split at hres
            · assumption
            · assumption
            · cases hres
          · split at hres
            · rename_i x hn hm
              simp only [Option.some.injEq] at hres
              rw [hm]
              refine ⟨hres.symm, ?_⟩
              cases vs with
              | nil => simp [mapO] at hm
              | cons y l =>
                obtain ⟨y', l', _, h4, h5⟩ := mapO_cons hm
                cases l with
                | nil => exact ⟨y, rfl⟩
                | cons z l =>
                  obtain ⟨_, _, _, _, h6⟩ := mapO_cons h4
                  rw [h6] at h5
                  simp at h5
            · rename_i l hne hn hm
              simp only [Option.some.injEq] at hres
              rw [hm]
              have hlen : vs.length = l.length := by
                have : ∀ (vs l : List V), mapO (outP st) vs = some l → vs.length = l.length := by
                  intro vs
                  induction vs with
                  | nil => intro l h; simp only [mapO, Option.some.injEq] at h; subst h; rfl
                  | cons v vs ih =>
                    intro l h
                    obtain ⟨_, l', _, h2, rfl⟩ := mapO_cons h
                    simp [ih l' h2]
                exact this vs l hm
              match l, hres, hlen, hne with
              | [], hres, hlen, _ => exact ⟨hres.symm, by rw [hlen]; simp⟩
              | [x], _, _, hne => exact absurd rfl (hne x)
              | x :: y :: l, hres, hlen, _ => exact ⟨hres.symm, by rw [hlen]; simp⟩
            · cases hres
        have vals : ∀ st, resV E st fn.results.toList = some r → ∃ vs, resVals E st fn.results.toList = some vs := by
          intro st h
          unfold resV at h
          split at h
          · rename_i vs hvs; exact ⟨vs, hvs⟩
          · cases h
        split at h
        · rename_i st hex
          obtain ⟨vs, hvs⟩ := vals _ h
          refine ex_sound hE hD (sem_sound hE hD k) c 0 _ _ st hex σ0 _ w _ hi fun a' w' σ' hi' => ?_
          exact fin st vs hvs h σ' a' w' hi'
        · rename_i st hex
          obtain ⟨vs, hvs⟩ := vals _ h
          refine ex_sound hE hD (sem_sound hE hD k) c 0 _ _ st hex σ0 _ w _ hi fun a' w' σ' hi' => ?_
          obtain ⟨σ2, hi2⟩ := norm_sound hi' F.ret
          exact fin _ vs hvs h σ2 a' w' hi2
        · cases h
      · cases h
    · cases h
end
end Go.Proofs.Ytlnpblomnlppiaa
