/- Regions in any order: the whole; the abstract interpreter is right of every function. -/
import Derived.Test.YthdnamhilcjnhaaGreatDoorRs20
namespace Go.Proofs.YthdnamhilcjnhaaGreatDoor
open Go Go.RowKit
set_option linter.unusedVariables false
set_option linter.unusedSimpArgs false
section
variable {E : Env} {P : Program} {keep : Nat → Prop} {w0 : World} {call : Nat → List V → Option V} {n : Nat} {z : Option Value} {os : Array Oper}
def isD (listed : Array Bool) : Nat → Bool := fun k => listed.getD k false
def Closed (os : Array Oper) (D : Nat → Bool) : Prop := ∀ k o, os.toList[k]? = some o → D k = true → ∀ e, e ∈ o.after.toList → isBound e = true → D e.on = true
theorem mask_sub {D : Nat → Bool} (hc : Closed os D) : ∀ (j : Nat) (o : Oper) (m i : Nat), os.toList[j]? = some o → (∀ e, e ∈ o.after.toList → isBound e = true → D e.on = true) → (masks os.toList [])[j]? = some m → bitOf m i = true → D i = true := by
 intro j
 induction j using Nat.strongRecOn with
 | _ j ih =>
  intro o m i ho hd hm hb
  have hs := (masks_spec os.toList []).2 j o ho
  simp only [List.length_nil, Nat.zero_add] at hs
  rw [hm] at hs
  simp only [Option.some.injEq] at hs
  rw [hs] at hb
  rcases edgeMask_bit _ _ hb with h | ⟨e, h1, h2, h3⟩
  ·rw [bitOf_test] at h; simp at h
  ·have hde := hd e h1 h2
   rcases h3 with h3 | ⟨m', h3, h4⟩
   ·rw [← h3]; exact hde
   ·rw [nth_eq, List.getElem?_take] at h3
    split at h3
    ·rename_i hlt
     have hlen := (masks_spec os.toList []).1
     obtain ⟨r, hr1, hr2⟩ := hlen
     have : e.on < os.toList.length := by
      have : j < os.toList.length := by
       rcases Nat.lt_or_ge j os.toList.length with h | h
       ·exact h
       ·rw [List.getElem?_eq_none h] at ho; cases ho
      omega
     exact ih e.on hlt os.toList[e.on] m' i (List.getElem?_eq_getElem this) (hc e.on _ (List.getElem?_eq_getElem this) hde) h3 h4
    ·cases h3
theorem ready_spec {listed : Array Bool} {i : Nat} (h : i ∈ Region.ready .any os listed) : ∃ o, os.toList[i]? = some o ∧ i < os.size ∧ listed.getD i true = false ∧ ∀ e, e ∈ o.after.toList → isBound e = true → isD listed e.on = true := by
 unfold Region.ready at h
 rw [List.mem_filter, List.mem_range] at h
 obtain ⟨h1, h2⟩ := h
 rw [Bool.and_eq_true] at h2
 obtain ⟨h2, h3⟩ := h2
 have ho : os[i]? = some os[i] := Array.getElem?_eq_getElem h1
 rw [ho] at h3
 simp only [Option.map_some, Option.getD_some] at h3
 refine ⟨os[i], by simp [h1], h1, by simpa using h2, fun e he hb => ?_⟩
 rw [Array.all_eq_true'] at h3
 have := h3 e (by simpa using he)
 rw [Bool.or_eq_true] at this
 rcases this with h | h
 ·rw [binds_any, hb] at h; simp at h
 ·exact h
theorem ready_nil {listed : Array Bool} (hs : listed.size = os.size) (hb : backOk os.toList 0 = true) (h : Region.ready .any os listed = []) : ∀ k, k < os.size → isD listed k = true := by
 intro k
 induction k using Nat.strongRecOn with
 | _ k ih =>
  intro hk
  cases hd : isD listed k with
  | true => rfl
  | false =>
   exfalso
   have : k ∈ Region.ready .any os listed := by
    unfold Region.ready
    rw [List.mem_filter, List.mem_range]
    refine ⟨hk, ?_⟩
    rw [Bool.and_eq_true]
    constructor
    ·unfold isD at hd
     rw [Array.getD_eq_getD_getElem?, Array.getElem?_eq_getElem (by omega)] at hd ⊢
     simpa using hd
    ·rw [Array.getElem?_eq_getElem hk]
     simp only [Option.map_some, Option.getD_some]
     rw [Array.all_eq_true']
     intro e he
     rw [Bool.or_eq_true]
     cases hbd : isBound e with
     | false => left; rw [binds_any, hbd]; rfl
     | true =>
      right
      have hlt := backOk_spec os.toList 0 hb k os[k] (by simp [hk]) e (by simpa using he) hbd
      exact ih e.on (by omega) (by omega)
   rw [h] at this
   cases this
theorem count_drop {listed : Array Bool} {i : Nat} (hi : listed.getD i true = false) : (listed.setIfInBounds i true).toList.count false + 1 = listed.toList.count false := by
 have hlt : i < listed.size := by
  rcases Nat.lt_or_ge i listed.size with h | h
  ·exact h
  ·rw [Array.getD_eq_getD_getElem?, Array.getElem?_eq_none h] at hi; simp at hi
 have hv : listed[i] = false := by
  rw [Array.getD_eq_getD_getElem?, Array.getElem?_eq_getElem hlt] at hi; simpa using hi
 have hl : i < listed.toList.length := by simpa using hlt
 rw [Array.toList_setIfInBounds, List.count_set hl]
 have hv' : listed.toList[i] = false := by simpa using hv
 rw [hv']
 have hpos : 0 < listed.toList.count false := List.count_pos_iff.2 (by rw [← hv']; exact List.getElem_mem hl)
 have e1 : (false == false) = true := rfl
 have e2 : (true == false) = false := rfl
 rw [e1, e2, if_pos rfl, if_neg (by simp)]
 omega
theorem isD_set {listed : Array Bool} {i : Nat} (hi : i < listed.size) : isD (listed.setIfInBounds i true) = addI (isD listed) i := by
 funext k
 unfold isD addI
 rw [Array.getD_eq_getD_getElem?, Array.getElem?_setIfInBounds]
 by_cases h : i = k
 ·subst h; simp [hi]
 ·rw [if_neg h, if_neg (Ne.symm h)]
  show _ = listed.getD k false
  rw [Array.getD_eq_getD_getElem?]
theorem draw_any (hE : EnvOk E P) {call : Nat → List V → Option V} (hcall : CallsOk P E call) {keep : Nat → Prop} {w0 : World} {no : Nat → Prop} {n : Nat} {z : Option Value} {os : Array Oper} {st st' : St} {tr : List Foot} {σ : Sg} {a : Act} {w : World} {Q : Exit → Act → World → Prop}
 (hi : Inv E keep w0 no n z st σ a w) (hrun : runOps E call n os os.toList st [] = some (st', tr)) (hok : drawOk os tr = true) (hQ : ∀ a' w' σ', Inv E keep w0 no n z st' σ' a' w' → Q .normal a' w') : wpAny P .any os Q os.size (Array.replicate os.size false) a { w with drawn := w.drawn + 1 } := by
 have hdrew : Inv E keep w0 no n z st σ a { w with drawn := w.drawn + 1 } := by
  have hx : Tx st.ent σ w st.ent σ { w with drawn := w.drawn + 1 } :=
   ⟨fun _ h => h, fun id ps _ h => ⟨ps, h, rfl, rfl⟩, fun id e xs _ h => ⟨xs, h, rfl, fun i x hx => ⟨x, hx, rfl⟩, rfl⟩, fun id ks vs _ h => ⟨⟨ks, vs, h⟩, rfl⟩, fun b h => ⟨h, rfl⟩⟩
  exact ⟨⟨hi.hr.kept.trans ⟨rfl, rfl, rfl, Nat.le_refl _, fun _ _ => rfl⟩, hi.hr.klt, fun id => EntR_move hx rfl rfl (fun _ _ _ => rfl) (hi.hr.ents id), hi.hr.nown, hi.hr.nlt, hi.hr.dist⟩, fun t => RT_move hx _ _ (hi.fr t), hi.size, hi.defs, hi.no, hi.z0⟩
 revert hdrew
 generalize ({ w with drawn := w.drawn + 1 } : World) = w1
 intro hdrew
 obtain ⟨L, hL, htr, hG, hfin⟩ := runOps_items os.toList st st st' [] tr (StEq.refl _) hrun
 rw [List.append_nil] at htr
 have hfs : tr.reverse = L.map (·.f) := by rw [htr, List.reverse_reverse]
 unfold drawOk at hok
 split at hok
 ·rename_i hback
  rw [hfs, ← hL] at hok
  have hlen : L.length = os.size := by have := congrArg List.length hL; simpa using this
  have hop : ∀ (k : Nat) (x : Item), L[k]? = some x → os.toList[k]? = some x.o := by
   intro k x hx
   rw [← hL, List.getElem?_map, hx]; rfl
  have hLk : ∀ k, k < os.size → ∃ x, L[k]? = some x := fun k hk => ⟨L[k], List.getElem?_eq_getElem (by omega)⟩
  have pair : ∀ (i j : Nat) (x y : Item), i < j → L[i]? = some x → L[j]? = some y → ∃ m, (masks os.toList [])[j]? = some m ∧ (bitOf m i = true ∨ free2 os x.o x.f y.o y.f = true) := by
   intro i j x y hij hx hy
   obtain ⟨⟨r, hr1, hr2⟩, _⟩ := masks_spec os.toList []
   have hjl : j < (masks os.toList []).length := by
    rw [hr1, List.nil_append, hr2, ← hL, List.length_map]
    rcases Nat.lt_or_ge j L.length with h | h
    ·exact h
    ·rw [List.getElem?_eq_none h] at hy; cases hy
   refine ⟨(masks os.toList [])[j], List.getElem?_eq_getElem hjl, ?_⟩
   have h1 := okAll_spec _ _ _ 0 hok j y.o y.f _ (by rw [List.getElem?_map, hy]; rfl) (by rw [List.getElem?_map, hy]; rfl) (by rw [hL]; exact List.getElem?_eq_getElem hjl)
   have := okBefore_spec _ _ 0 h1 i x.o x.f (by rw [List.getElem?_take, if_pos (by omega), List.getElem?_map, hx]; rfl) (by rw [List.getElem?_take, if_pos (by omega), List.getElem?_map, hx]; rfl)
   rwa [Nat.zero_add] at this
  have free : ∀ x y : Item, free2 os x.o x.f y.o y.f = true → (∀ d, x.o.dst = some d → d ∉ looks os y.o) ∧ (∀ d, x.o.dst = some d → y.o.dst ≠ some d) ∧ (∀ d, y.o.dst = some d → d ∉ looks os x.o) ∧
   (∀ i, i ∈ x.f.wr → i ∉ y.f.rd) ∧ (∀ i, i ∈ x.f.wr → i ∉ y.f.wr) ∧ (∀ i, i ∈ y.f.wr → i ∉ x.f.rd) := by
   intro x y h
   unfold free2 at h
   simp only [Bool.and_eq_true] at h
   obtain ⟨⟨⟨⟨⟨h1, h2⟩, h3⟩, h4⟩, h5⟩, h6⟩ := h
   refine ⟨fun d hd => apart_mem h1 d (by rw [hd]; simp [optL]), fun d hd hd' => ?_, fun d hd => apart_mem h3 d (by rw [hd]; simp [optL]), apart_mem h4, apart_mem h5, apart_mem h6⟩
   exact apart_mem h2 d (by rw [hd]; simp [optL]) (by rw [hd']; simp [optL])
  have main : ∀ fuel (listed : Array Bool) (a : Act) (w : World), listed.size = os.size → Closed os (isD listed) → (∃ σ, Inv E keep w0 no n z (foldS L 0 (isD listed) st) σ a w) → listed.toList.count false ≤ fuel → wpAny P .any os Q fuel listed a w := by
   intro fuel
   have fin : ∀ (listed : Array Bool) (a : Act) (w : World), listed.size = os.size → (∃ σ, Inv E keep w0 no n z (foldS L 0 (isD listed) st) σ a w) → Region.ready .any os listed = [] → Q .normal a w := by
    intro listed a w hs ⟨σ, hinv⟩ hr
    refine hQ a w σ (hinv.eq ?_)
    refine StEq.trans (foldS_eq L 0 (D' := fun _ => true) (StEq.refl _) fun k hk => ?_) ?_
    ·rw [Nat.zero_add]; exact ready_nil hs hback hr k (by omega)
    ·rw [foldS_all]; exact hfin.symm
   induction fuel with
   | zero =>
    intro listed a w hs hc hinv hcnt
    have hr : Region.ready .any os listed = [] := by
     cases hr : Region.ready .any os listed with
     | nil => rfl
     | cons i l =>
      obtain ⟨o, h1, h2, h3, h4⟩ := ready_spec (os := os) (listed := listed) (i := i) (by rw [hr]; simp)
      have := count_drop h3
      omega
    exact ⟨hr, fin listed a w hs hinv hr⟩
   | succ fuel ih =>
    intro listed a w hs hc hinv hcnt
    refine ⟨fin listed a w hs hinv, fun i hir => ?_⟩
    obtain ⟨o, ho, hlt, hun, hedge⟩ := ready_spec hir
    obtain ⟨x, hx⟩ := hLk i hlt
    have hxo : x.o = o := by have := hop i x hx; rw [ho] at this; exact (Option.some.inj this).symm
    subst hxo
    have hDi : isD listed i = false := by
     unfold isD
     rw [Array.getD_eq_getD_getElem?, Array.getElem?_eq_getElem (by omega)] at hun ⊢
     simpa using hun
    have hgood := RunG_get L st i x hG hx
    have hgw := hgood.wr
    obtain ⟨σ, hinv⟩ := hinv
    have wrOf : ∀ (k : Nat) (y : Item), L[k]? = some y → y.f.wr = y.es.map (·.1) := fun k y hy => (RunG_get L st k y hG hy).wr
    have hag : Agree (fun t => t ∈ looks os x.o) (fun i => i ∈ x.f.rd ∨ i ∈ x.f.wr) ((L.take i).foldl nxt st) (foldS L 0 (isD listed) st) := by
     rw [← foldS_take L 0 i st]
     refine foldS_agree L 0 st st ⟨fun _ _ => rfl, fun _ _ => rfl⟩ fun k y hy hne => ?_
     rw [Nat.zero_add] at hne
     simp only [Nat.zero_add] at hne
     rw [← wrOf k y hy]
     rcases Nat.lt_trichotomy k i with hki | hki | hki
     ·
      rw [show decide (k < i) = true by simp [hki]] at hne
      have hDk : isD listed k = false := by
       cases hq : isD listed k with
       | false => rfl
       | true => rw [hq] at hne; exact absurd rfl hne
      obtain ⟨m, hm1, hm2⟩ := pair k i y x hki hy hx
      rcases hm2 with hm2 | hm2
      ·have := mask_sub hc i x.o m k ho hedge hm1 hm2
       rw [hDk] at this; cases this
      ·obtain ⟨f1, f2, f3, f4, f5, f6⟩ := free y x hm2
       exact ⟨f1, fun j hj => by rintro (h | h); exact f4 j hj h; exact f5 j hj h⟩
     ·subst hki
      rw [hDi] at hne
      simp at hne
     ·rw [show decide (k < i) = false by simp; omega] at hne
      have hDk : isD listed k = true := by
       cases hq : isD listed k with
       | true => rfl
       | false => rw [hq] at hne; exact absurd rfl hne
      obtain ⟨m, hm1, hm2⟩ := pair i k x y hki hx hy
      rcases hm2 with hm2 | hm2
      ·have := mask_sub hc k y.o m i (hop k y hy) (hc k y.o (hop k y hy) hDk) hm1 hm2
       rw [hDi] at this; cases this
      ·obtain ⟨f1, f2, f3, f4, f5, f6⟩ := free x y hm2
       exact ⟨f3, fun j hj => by rintro (h | h); exact f6 j hj h; exact f5 j h hj⟩
    have hos : os[i]? = some x.o := by simpa using ho
    unfold wpOp
    rw [hos]
    simp only
    have key := exec_item (n := n) (all := os) (K := wpAny P .any os Q fuel (listed.setIfInBounds i true)) (Q := Q) hE hcall hgood hag hinv fun a' w' σ' hi' => ?_
    ·split
     ·rename_i hw; rw [if_pos hw] at key; exact .inl key
     ·rename_i hw; rw [if_neg hw] at key; exact key
    ·refine ih _ a' w' (by simp [hs]) ?_ ⟨σ', hi'.eq ?_⟩ (by have := count_drop hun; omega)
     ·rw [isD_set (by omega)]
      intro k o' hk hD e he hb
      unfold addI at hD ⊢
      split
      ·rfl
      ·split at hD
       ·rename_i hki
        subst hki
        rw [ho] at hk
        simp only [Option.some.injEq] at hk
        subst hk
        exact hedge e he hb
       ·exact hc k o' hk hD e he hb
     ·rw [isD_set (by omega)]
      have := foldS_add (D := isD listed) L 0 i st hx (by rw [Nat.zero_add]; exact hDi) fun k y hy hlt2 hDk => ?_
      ·rw [Nat.zero_add] at this
       exact this.symm
      ·rw [Nat.zero_add] at hDk
       obtain ⟨m, hm1, hm2⟩ := pair i k x y hlt2 hx hy
       rcases hm2 with hm2 | hm2
       ·have := mask_sub hc k y.o m i (hop k y hy) (hc k y.o (hop k y hy) hDk) hm1 hm2
        rw [hDi] at this; cases this
       ·obtain ⟨f1, f2, f3, f4, f5, f6⟩ := free x y hm2
        refine ⟨f2, fun j hj => ?_⟩
        rw [← hgw] at hj
        rw [← wrOf k y hy]
        exact f5 j hj
  refine main os.size _ a w1 (by simp) ?_ ⟨σ, hdrew.eq ?_⟩ (by simp)
  ·intro k o hk hD
   unfold isD at hD
   rw [Array.getD_eq_getD_getElem?] at hD
   exfalso
   by_cases h : k < os.size
   ·rw [Array.getElem?_eq_getElem (by simpa using h)] at hD
    simp at hD
   ·rw [Array.getElem?_eq_none (by simpa using h)] at hD
    simp at hD
  ·have hD0 : isD (Array.replicate os.size false) = fun k => decide (k < 0 + 0) := by
    funext k
    unfold isD
    rw [Array.getD_eq_getD_getElem?]
    by_cases h : k < os.size
    ·rw [Array.getElem?_eq_getElem (by simpa using h)]
     simp
    ·rw [Array.getElem?_eq_none (by simpa using h)]
     simp
   rw [hD0, foldS_take L 0 0 st]
   exact StEq.refl _
 ·cases hok
theorem draw_sound (hE : EnvOk E P) : DrawSound E P := by
 intro call hcall keep w0 no n z os id st st' tr σ a w Q hi hrun hok hQ
 exact wp_region_any hE.mixed (draw_any hE hcall hi hrun hok hQ)
theorem sem_ok (hE : EnvOk E P) (k : Nat) : CallsOk P E (sem E k) := sem_sound hE (draw_sound hE) k
end
end Go.Proofs.YthdnamhilcjnhaaGreatDoor
