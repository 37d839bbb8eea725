/- A range over an iterator: the loop. -/
import Derived.Test.YthdnamhilcjnhaaGreatDoorRt1
namespace Go.Proofs.YthdnamhilcjnhaaGreatDoor
open Go Go.RowKit
set_option linter.unusedVariables false
set_option linter.unusedSimpArgs false
section
variable {E : Env} {P : Program} {keep : Nat → Prop} {w0 : World} {σ : Sg} {w : World} {st : St} {a : Act} {call : Nat → List V → Option V}
def prsV (k1 k2 : IntKind) (l : List (Int × Int)) : List V := l.map fun p => V.parts [.int k1 p.1, .int k2 p.2]
theorem RE_pairs {ok : Nat → Prop} {k1 k2 : IntKind} : ∀ (l : List (Int × Int)) (b o sz : Nat), RE w ok (prsV k1 k2 l) b o sz → l ≠ [] → sz = 2 ∧ ∀ j, j < l.length → w.cell? ⟨b, o + 2 * j, none⟩ = some (.int k1 (l.getD j (0, 0)).1) ∧ w.cell? ⟨b, o + 2 * j + 1, none⟩ = some (.int k2 (l.getD j (0, 0)).2)
 | [], b, o, sz, _, h => absurd rfl h
 | p :: l, b, o, sz, h, _ => by
  have h : RE w ok (V.parts [.int k1 p.1, .int k2 p.2] :: prsV k1 k2 l) b o sz := h
  simp only [RE] at h
  obtain ⟨⟨us, h1, h2, h3⟩, h4⟩ := h
  have hus : us = [.int k1 p.1, .int k2 p.2] := by
   simp only [RF, RFL] at h2
   obtain ⟨a1, b1, rfl, _, rfl, a2, b2, rfl, _, rfl, rfl⟩ := h2
   rfl
  subst hus
  have hsz : sz = 2 := h1.symm
  subst hsz
  refine ⟨rfl, fun j hj => ?_⟩
  cases j with
  | zero => exact ⟨h3 0 _ rfl, h3 1 _ rfl⟩
  | succ j =>
   have hl : l ≠ [] := by intro e; subst e; simp at hj
   have := (RE_pairs l b (o + 2) 2 h4 hl).2 j (by simpa using hj)
   rw [show o + 2 + 2 * j = o + 2 * (j + 1) by omega] at this
   simpa using this
theorem pairs_of {ok : Nat → Prop} {k1 k2 : IntKind} {l : List (Int × Int)} {sv : Value} (h : RF w ok (.sl (prsV k1 k2 l)) [sv]) : PairsAt k1 k2 w sv l ∧ (l = [] ∨ ∃ b o cap, sv = .slice (some ⟨b, o, none⟩) l.length cap ∧ ok b) := by
 simp only [RF] at h
 obtain ⟨A, cap, h1, h2, h3⟩ := h
 have hl : (prsV k1 k2 l).length = l.length := by simp [prsV]
 rw [hl] at h1 h2
 obtain rfl := (List.cons.inj h1).1
 by_cases he : l = []
 ·exact ⟨⟨A, cap, rfl, h2, .inl he⟩, .inl he⟩
 ·rcases h3 with h3 | ⟨b, o, sz, rfl, h5, h6⟩
  ·exact absurd (by simpa [prsV] using h3) he
  ·exact ⟨⟨_, cap, rfl, h2, .inr ⟨b, o, rfl, (RE_pairs l b o sz h6 he).2⟩⟩, .inr ⟨b, o, cap, rfl, h5⟩⟩
theorem PairsAt.same {k1 k2 : IntKind} {l : List (Int × Int)} {sv : Value} {w' : World} (h : PairsAt k1 k2 w sv l) (hb : l = [] ∨ ∃ b o cap, sv = .slice (some ⟨b, o, none⟩) l.length cap ∧ w'.heap[b]? = w.heap[b]?) : PairsAt k1 k2 w' sv l := by
 obtain ⟨A, cap, rfl, h2, h3⟩ := h
 refine ⟨A, cap, rfl, h2, ?_⟩
 rcases h3 with h3 | ⟨b, o, rfl, h4⟩
 ·exact .inl h3
 ·rcases hb with hb | ⟨b', o', cap', e, hb⟩
  ·exact .inl hb
  ·simp only [Value.slice.injEq, Option.some.injEq, Addr.mk.injEq, true_and, and_true] at e
   obtain ⟨⟨rfl, rfl⟩, _⟩ := e
   refine .inr ⟨b, o, rfl, fun j hj => ?_⟩
   have := h4 j hj
   unfold World.cell? at this ⊢
   simp only at this ⊢
   rw [hb]
   exact this
theorem rnd_some {n : Nat} {lv : List (Nat × List Nat)} {r : Rf} {i : Nat} {x : V} {st st' : St} (h : rnd E call n lv r i x st = some st') :
 ∃ st2 tr2 st3 tr3, runOps E call n r.asg r.asg.toList ((st.put (some r.p0) (.int .i64 (i : Int)) []).put (some r.p1) x []) [] = some (st2, tr2) ∧ runOps E call n r.bdy r.bdy.toList st2 [] = some (st3, tr3) ∧ st' = norm lv ⟨clearL (wrOf r) st3.fr, st3.hp⟩ := by
 unfold rnd at h
 split at h
 ·rename_i st2 tr2 h1
  split at h
  ·rename_i st3 tr3 h2
   exact ⟨st2, tr2, st3, tr3, h1, h2, (Option.some.inj h).symm⟩
  ·cases h
 ·cases h
theorem rf_loop (hE : EnvOk E P) {no : Nat → Prop} {n : Nat} {lv : List (Nat × List Nat)} {r : Rf} {gf ext : Nat} {k1 k2 : IntKind} {lst : List (Int × Int)} {stE : St} {m : Nat} {Q : Exit → Act → World → Prop}
 (hc1 : calmL r.asg r.asg.toList = true) (hc2 : calmL r.bdy r.bdy.toList = true) (hp0 : r.p0 < nOf n ∧ qOf n ≠ r.p0) (hp1 : r.p1 < nOf n ∧ qOf n ≠ r.p1)
 (hbw : BwOk P gf k1 k2) (hgt : Nat.blt gf thBase = true) (hg : st.ev E 0 r.g = .clo gf [.ref [.sl (prsV k1 k2 lst)] 0 0 ext]) (hgo : rfGo E call n lv r (prsV k1 k2 lst).reverse st = some stE)
 (hi : Inv E keep w0 no n none st σ a w) (hkw : ∀ b, keep b → b < w.heap.size) (hnw : ∀ b, no b → b < w.heap.size)
 (hQ : ∀ (σ' : Sg) (W : World), Kept keep w W → Inv E (fun b => keep b ∨ b = w.heap.size) W (fun b => no b ∨ b = w.heap.size ∨ b = w.heap.size + 1) n none stE σ' { tmps := a.tmps, defers := [] } W → W.heap[w.heap.size]? = some (.deferred (some [])) →
  Q .normal { a with defers := { target := .collected w.heap.size, args := #[] } :: a.defers } W) :
 (Code.rangeFunc r.g #[r.p0, r.p1] (.region r.ia r.asg false) (.block r.ib (.region r.ir r.bdy false))).wpIn Fence.wide (m + 2) P Q a w := by
 have hx := ev_RT (E := E) hi.fr 0 r.g
 rw [hg] at hx
 have hx2 : RO1 E st.ent σ w (.clo gf [.ref [.sl (prsV k1 k2 lst)] 0 0 ext]) [a.eval r.g] := hx.2
 simp only [RO1, RTL] at hx2
 obtain ⟨cv, h1, u, l1, rfl, h2, rfl⟩ := hx2
 simp only [List.cons.injEq, and_true] at h1
 obtain ⟨hu1, hu2⟩ := h2
 simp only [RF, RFL] at hu2
 obtain ⟨Bs, Bo, us, hu3, hok, hus, hcell, _⟩ := hu2
 obtain ⟨sv0, rest, rfl, _, hsl, rfl⟩ := hus
 have hsv : ∃ sv, sv0 = [sv] := by
  have := hsl
  obtain ⟨A, cap, h, _⟩ := this
  exact ⟨_, h⟩
 obtain ⟨sv, rfl⟩ := hsv
 have hpa := pairs_of (w := w) (ok := okB st.ent σ w) (by simp only [RF]; exact hsl)
 have hsv1 : w.cell? ⟨Bs, Bo, none⟩ = some sv := hcell 0 sv rfl
 have hu4 : u = .pointer (some ⟨Bs, Bo, none⟩) := by
  have e0 : startOf [V.sl (prsV k1 k2 lst)] 0 = 0 := rfl
  rw [e0] at hu3
  simpa using hu3
 subst hu4
 have hev : a.eval r.g = .func (.func gf) #[] #[.pointer (some ⟨Bs, Bo, none⟩)] := by
  rw [h1]
  simp only [cloVal, hgt]
 have hlen : (prsV k1 k2 lst).length = lst.length := by simp [prsV]
 refine wpIn_rangeFunc fun fn _ => ?_
 obtain ⟨rec, hrec⟩ : ∃ rec : LoopState → Loop, rec = fun s => { state := s, pending := none, fn, tmps := a.tmps, params := #[r.p0, r.p1], assign := .region r.ia r.asg false, body := .block r.ib (.region r.ir r.bdy false), defers := w.heap.size } := ⟨_, rfl⟩
 obtain ⟨D, hD⟩ : ∃ D, w.heap.size = D := ⟨_, rfl⟩
 obtain ⟨W1, hW1⟩ : ∃ W1, (w.alloc (.deferred (some []))).alloc (.loop (rec .ready)) = W1 := ⟨_, rfl⟩
 have hs1 : W1.heap.size = D + 2 := by rw [← hW1]; simp [← hD]
 have hold : ∀ b, b < D → W1.heap[b]? = w.heap[b]? := by
  intro b hb
  rw [← hW1]
  have h1 := Below.heap_alloc (w.alloc (.deferred (some []))) (.loop (rec .ready)) b (by simp; omega)
  have h2 := Below.heap_alloc w (.deferred (some [])) b (by omega)
  exact h1.trans h2
 have hDh : W1.heap[D]? = some (.deferred (some [])) := by
  rw [← hW1, ← hD]
  exact (Below.heap_alloc _ _ _ (by simp)).trans (World.alloc_heap_new w _)
 have hlh : W1.heap[D + 1]? = some (.loop (rec .ready)) := by
  have := World.alloc_heap_new (w.alloc (.deferred (some []))) (.loop (rec .ready))
  rw [World.size_alloc, hD] at this
  rw [← hW1]; exact this
 have hkept1 : Kept keep w W1 := by
  rw [← hW1]
  exact ⟨rfl, rfl, rfl, by rw [World.size_alloc, World.size_alloc]; omega, fun b hb => by rw [hW1]; exact hold b (by rw [← hD]; exact hkw b hb)⟩
 obtain ⟨kR, hkR⟩ : ∃ kR : Nat → Prop, kR = fun b => keep b ∨ b = D ∨ okB st.ent σ w b := ⟨_, rfl⟩
 obtain ⟨kB, hkB⟩ : ∃ kB : Nat → Prop, kB = fun b => kR b ∨ b = D + 1 := ⟨_, rfl⟩
 obtain ⟨nR, hnR⟩ : ∃ nR : Nat → Prop, nR = fun b => no b ∨ b = D ∨ b = D + 1 := ⟨_, rfl⟩
 have hkRlt : ∀ b, kR b → b ≤ D := by
  intro b hb
  rw [hkR] at hb
  rcases hb with hb | hb | hb
  ·have := hkw b hb; omega
  ·omega
  ·have := hb.1; omega
 have hnRlt : ∀ b, nR b → b ≤ D + 1 := by
  intro b hb
  rw [hnR] at hb
  rcases hb with hb | hb | hb
  ·have := hnw b hb; omega
  ·omega
  ·omega
 have hi1 : Inv E kR W1 nR n none st ⟨σ.val, nR⟩ { tmps := a.tmps, defers := [] } W1 := by
  have hi0 : Inv E keep w0 no n none st σ { tmps := a.tmps, defers := [] } w := ⟨hi.hr, hi.fr, hi.size, rfl, hi.no, hi.z0⟩
  refine hi0.rebase (by omega) (fun b hb _ => hold b (by omega)) (fun b hb => ?_) (fun b hb => by have := hnRlt b hb; omega) (fun b hb => ⟨by have := hkRlt b hb; omega, fun id hl hbk => ?_⟩)
  ·rw [hnR] at hb
   rcases hb with hb | hb | hb
   ·exact .inl hb
   ·exact .inr (by omega)
   ·exact .inr (by omega)
  ·have h3 := EntR_blk (hi.hr.ents id) hl hbk
   rw [hkR] at hb
   rcases hb with hb | hb | hb
   ·exact h3.1 hb
   ·have := h3.2; omega
   ·exact hb.2.1 id hl hbk
 have turn : ∀ {st' : St} {σ' : Sg} {a' : Act} {k0 : Nat → Prop} {w1 W W' : World} (kN : Nat → Prop), Inv E k0 w1 nR n none st' σ' a' W → W.heap.size ≤ W'.heap.size → D + 1 < W'.heap.size → (∀ b, b ≠ D + 1 → W'.heap[b]? = W.heap[b]?) → (∀ b, kN b → k0 b ∨ b = D + 1) → Inv E kN W' nR n none st' ⟨σ'.val, nR⟩ a' W' := by
  intro st' σ' a' k0 w1 W W' kN h hs hs2 hsame hkk
  refine h.rebase hs (fun b hb hn => hsame b (fun e => hn (by rw [hnR]; exact .inr (.inr e)))) (fun b hb => .inl hb) (fun b hb => by have := hnRlt b hb; omega) (fun b hb => ⟨?_, fun id hl hbk => ?_⟩)
  ·rcases hkk b hb with h3 | h3
   ·have := h.hr.klt b h3
    have := h.hr.kept.size
    omega
   ·omega
  ·rcases hkk b hb with h3 | h3
   ·exact (EntR_blk (h.hr.ents id) hl hbk).1 h3
   ·have := h.hr.nown id b hl hbk
    rw [h.no, hnR] at this
    exact this (.inr (.inr h3))
 refine ⟨D + 1, [{ target := .collected D, args := #[] }], W1, { target := .fn (.func gf) #[.pointer (some ⟨Bs, Bo, none⟩)], args := #[.func (.yield (D + 1)) #[] #[]] }, W1, gf,
  #[.func (.yield (D + 1)) #[] #[]] ++ #[.pointer (some ⟨Bs, Bo, none⟩)], W1, ?_, ?_, fun _ _ => trivial, ?_, fun h => (by cases h), ?_⟩
 ·rw [← hW1, hrec, ← hD]; exact run_enterLoop_outer _ _ _ _ _
 ·simp only [resolve, hev]
  simp [go_sem]
 ·simp [invoke, go_sem, hbw.1]
 ·have call := hbw.2 m (D + 1) Bs Bo lst
   (fun k W => ∃ st' σ', rfGo E call n lv r ((prsV k1 k2 lst).reverse.drop k) st' = some stE ∧ Inv E kR W nR n none st' σ' { tmps := a.tmps, defers := [] } W ∧ W.heap[D + 1]? = some (.loop (rec .ready)) ∧ W.heap[D]? = some (.deferred (some [])) ∧
    Kept keep w W ∧ (∀ b, okB st.ent σ w b → W.heap[b]? = w.heap[b]?) ∧ D + 1 < W.heap.size) W1 ?_ ?_ ?_
  ·refine call.mono ?_
   rintro e W ⟨⟨v, rfl⟩, st', σ', e1, e2, e3, e4, e5, e6, e7⟩
   rw [List.drop_of_length_le (by simp [hlen])] at e1
   simp only [rfGo, Option.some.injEq] at e1
   subst e1
   have hend := run_endLoop (P := P) e3 (by rw [hrec]; simp)
   obtain ⟨W', hW'⟩ : ∃ W', W.putObj (D + 1) (.loop { rec .ready with state := .exhausted }) = W' := ⟨_, rfl⟩
   refine ⟨none, W', by rw [← hW']; rw [hrec] at hend ⊢; exact hend, ?_⟩
   have hne : ∀ b, b ≠ D + 1 → W'.heap[b]? = W.heap[b]? := fun b hb => by rw [← hW']; exact World.putObj_heap_other hb
   have hsz : W'.heap.size = W.heap.size := by rw [← hW']; simp
   have hos : W'.os = W.os ∧ W'.tape = W.tape ∧ W'.output = W.output := by rw [← hW']; exact ⟨rfl, rfl, rfl⟩
   have e2' := turn (W' := W') (fun b => keep b ∨ b = D) e2 (by omega) (by omega) hne (fun b hb => .inl (by rw [hkR]; rcases hb with hb | hb; exact .inl hb; exact .inr (.inl hb)))
   rw [hnR] at e2'
   subst hD
   exact hQ _ W' ⟨hos.1.trans e5.os, hos.2.1.trans e5.tape, hos.2.2.trans e5.output, by have := e5.size; omega, fun b hb => (hne b (by have := hkw b hb; omega)).trans (e5.block b hb)⟩ e2' ((hne _ (by omega)).trans e4)
  ·rintro k W ⟨st', σ', e1, e2, e3, e4, e5, e6, e7⟩
   refine ⟨sv, ?_, hpa.1.same ?_⟩
   ·unfold World.cell? at hsv1 ⊢
    simp only at hsv1 ⊢
    rw [e6 Bs hok]; exact hsv1
   ·rcases hpa.2 with h | ⟨b, o, cap, h, hb⟩
    ·exact .inl h
    ·exact .inr ⟨b, o, cap, h, e6 b hb⟩
  ·rintro k W hk ⟨st', σ', e1, e2, e3, e4, e5, e6, e7⟩
   have hidx : (prsV k1 k2 lst).reverse[k]? = some (V.parts [.int k1 (lst.getD (lst.length - 1 - k) (0, 0)).1, .int k2 (lst.getD (lst.length - 1 - k) (0, 0)).2]) := by
    rw [List.getElem?_reverse (by rw [hlen]; exact hk), hlen]
    simp only [prsV]
    rw [List.getElem?_map, List.getD_eq_getElem?_getD, List.getElem?_eq_getElem (by omega)]
    rfl
   have hdrop : (prsV k1 k2 lst).reverse.drop k = (V.parts [.int k1 (lst.getD (lst.length - 1 - k) (0, 0)).1, .int k2 (lst.getD (lst.length - 1 - k) (0, 0)).2]) :: (prsV k1 k2 lst).reverse.drop (k + 1) := by
    rw [List.drop_eq_getElem_cons (by simp [hlen]; exact hk)]
    rw [List.getElem?_eq_getElem (by simp [hlen]; exact hk)] at hidx
    rw [Option.some.inj hidx]
   rw [hdrop] at e1
   simp only [rfGo] at e1
   split at e1
   ·rename_i st4 hrnd
    obtain ⟨st2, tr2, st3, tr3, g1, g2, rfl⟩ := rnd_some hrnd
    have hix : ((prsV k1 k2 lst).reverse.drop (k + 1)).length = lst.length - 1 - k := by simp [hlen]; omega
    rw [hix] at g1
    have hy := run_yield (P := P) (args := #[.int .i64 ((lst.length - 1 - k : Nat) : Int), .agg #[.int k1 (lst.getD (lst.length - 1 - k) (0, 0)).1, .int k2 (lst.getD (lst.length - 1 - k) (0, 0)).2]]) e3 (by rw [hrec]; rfl)
    rw [hrec] at hy
    refine ⟨fn, _, _, _, hy, roundIn_of_wpIn trivial ?_⟩
    have ea : ({ tmps := (Array.zip #[r.p0, r.p1] #[Value.int .i64 ((lst.length - 1 - k : Nat) : Int), .agg #[.int k1 (lst.getD (lst.length - 1 - k) (0, 0)).1, .int k2 (lst.getD (lst.length - 1 - k) (0, 0)).2]]).foldl (fun t (p, v) => t.setIfInBounds p v) a.tmps, defers := [] } : Act) =
     { ((({ tmps := a.tmps, defers := [] } : Act).put (some r.p0) (.int .i64 ((lst.length - 1 - k : Nat) : Int))).put (some r.p1) (.agg #[.int k1 (lst.getD (lst.length - 1 - k) (0, 0)).1, .int k2 (lst.getD (lst.length - 1 - k) (0, 0)).2])) with defers := [] } := by
     simp [Act.put]
    have eb := turn kB e2 (Nat.le_refl _) e7 (fun b _ => rfl) (fun b hb => by rw [hkB] at hb; exact hb)
    have ec := eb.put (es := []) (d := some r.p0) (v := .int .i64 ((lst.length - 1 - k : Nat) : Int)) (u := .int .i64 ((lst.length - 1 - k : Nat) : Int)) (fun t ht => by cases ht; exact hp0) eb.hr (Tx.refl _ _ _) rfl ⟨rfl, by simp [RO1, RF]⟩
    have ed := ec.put (es := []) (d := some r.p1) (v := V.parts [.int k1 (lst.getD (lst.length - 1 - k) (0, 0)).1, .int k2 (lst.getD (lst.length - 1 - k) (0, 0)).2]) (u := .agg #[.int k1 (lst.getD (lst.length - 1 - k) (0, 0)).1, .int k2 (lst.getD (lst.length - 1 - k) (0, 0)).2]) (fun t ht => by cases ht; exact hp1) ec.hr (Tx.refl _ _ _) rfl
     (by refine ⟨_, rfl, ?_⟩
         simp only [ROL]
         exact ⟨[.int k1 _], [.int k2 _], rfl, by simp [RO1, RF], [.int k2 _], [], rfl, by simp [RO1, RF], rfl⟩)
    refine wpIn_region_list ?_
    have hasg := runOps_in (P := P) hE (Fe := Fence.wide.inRound (D + 1)) (fun _ => trivial) (m := m) (ds := []) (Q := Exit.then (fun a₁ w₁ => ∃ w₂, (Instr.beginRound (D + 1)).run P w₁ = .ok () w₂ ∧ (Code.block r.ib (.region r.ir r.bdy false)).wpIn (Fence.wide.inRound (D + 1)) m P (roundPost P (D + 1) fun e W' => e = .returned (.bool true) ∧
     ∃ st' σ', rfGo E call n lv r ((prsV k1 k2 lst).reverse.drop (k + 1)) st' = some stE ∧ Inv E kR W' nR n none st' σ' { tmps := a.tmps, defers := [] } W' ∧ W'.heap[D + 1]? = some (.loop (rec .ready)) ∧ W'.heap[D]? = some (.deferred (some [])) ∧
     Kept keep w W' ∧ (∀ b, okB st.ent σ w b → W'.heap[b]? = w.heap[b]?) ∧ D + 1 < W'.heap.size) a₁ w₂) (fun _ _ _ => False)) r.asg.toList _ _ _ _ _ _ _ hc1 ed g1 ?_
    ·rw [ea]; exact hasg
    ·intro a2 W2 σ2 i2 fr2
     have k2' := i2.hr.kept
     have r2 : W2.heap[D + 1]? = some (.loop (rec .ready)) := (k2'.block (D + 1) (by rw [hkB]; exact .inr rfl)).trans e3
     have s2 := k2'.size
     refine ⟨_, run_beginRound r2 (by rw [hrec]), ?_⟩
     obtain ⟨W3, hW3⟩ : ∃ W3, W2.putObj (D + 1) (.loop { rec .ready with state := .busy }) = W3 := ⟨_, rfl⟩
     have s3 : W3.heap.size = W2.heap.size := by rw [← hW3]; simp
     have o3 : ∀ b, b ≠ D + 1 → W3.heap[b]? = W2.heap[b]? := fun b hb => by rw [← hW3]; exact World.putObj_heap_other hb
     have r3 : W3.heap[D + 1]? = some (.loop { rec .ready with state := .busy }) := by rw [← hW3]; exact World.putObj_heap_same (by omega)
     have i3 := turn (W' := W3) kB i2 (by omega) (by omega) o3 (fun b hb => .inl hb)
     rw [hW3]
     refine wpIn_block (wpIn_region_list ?_)
     refine runOps_in (P := P) hE (Fe := Fence.wide.inRound (D + 1)) (fun _ => trivial) (m := m) (ds := []) r.bdy.toList _ _ _ _ _ _ _ hc2 i3 g2 ?_
     intro a4 W4 σ4 i4 fr4
     have k4 := i4.hr.kept
     have s4 := k4.size
     have r4 : W4.heap[D + 1]? = some (.loop { rec .ready with state := .busy }) := (k4.block (D + 1) (by rw [hkB]; exact .inr rfl)).trans r3
     have hend := run_endRound (P := P) none r4
     refine ⟨_, _, hend, rfl, ?_⟩
     obtain ⟨W5, hW5⟩ : ∃ W5, W4.putObj (D + 1) (.loop (rec .ready)) = W5 := ⟨_, rfl⟩
     have ew : W4.putObj (D + 1) (.loop { ({ rec .ready with state := .busy } : Loop) with state := (if (none : Option Code).isNone = true then LoopState.ready else LoopState.done), pending := none }) = W5 := by rw [← hW5, hrec]; rfl
     rw [ew]
     have s5 : W5.heap.size = W4.heap.size := by rw [← hW5]; simp
     have o5 : ∀ b, b ≠ D + 1 → W5.heap[b]? = W4.heap[b]? := fun b hb => by rw [← hW5]; exact World.putObj_heap_other hb
     have r5 : W5.heap[D + 1]? = some (.loop (rec .ready)) := by rw [← hW5]; exact World.putObj_heap_same (by omega)
     have i5 := turn (W' := W5) kR i4 (by omega) (by omega) o5 (fun b hb => .inl (by rw [hkB]; exact .inl hb))
     have fr5 : FrameL (wrOf r) { tmps := a.tmps, defers := [] } a4 := by
      intro t ht
      obtain ⟨t1, ht⟩ := natMem_cons ht
      obtain ⟨t2, ht⟩ := natMem_cons ht
      obtain ⟨t3, t4⟩ := natMem_app ht
      rw [fr4 t t4, fr2 t t3, getD_put_ne (by intro e; exact t2 (Option.some.inj e).symm), getD_put_ne (by intro e; exact t1 (Option.some.inj e).symm)]
     have i6 := i5.clear fr5 (e2.size.trans i5.size.symm)
     obtain ⟨σ6, i7⟩ := norm_sound i6 lv
     have same : ∀ b, kR b → W5.heap[b]? = W.heap[b]? := by
      intro b hb
      have hbn : b ≠ D + 1 := by have := hkRlt b hb; omega
      rw [o5 b hbn, k4.block b (by rw [hkB]; exact .inl hb), o3 b hbn, k2'.block b (by rw [hkB]; exact .inl hb)]
     refine ⟨_, σ6, e1, i7, r5, (same D (by rw [hkR]; exact .inr (.inl rfl))).trans e4, ?_, fun b hb => (same b (by rw [hkR]; exact .inr (.inr hb))).trans (e6 b hb), by omega⟩
     have p1 : W3.os = W2.os ∧ W3.tape = W2.tape ∧ W3.output = W2.output := by rw [← hW3]; exact ⟨rfl, rfl, rfl⟩
     have p2 : W5.os = W4.os ∧ W5.tape = W4.tape ∧ W5.output = W4.output := by rw [← hW5]; exact ⟨rfl, rfl, rfl⟩
     exact ⟨p2.1.trans (k4.os.trans (p1.1.trans (k2'.os.trans e5.os))), p2.2.1.trans (k4.tape.trans (p1.2.1.trans (k2'.tape.trans e5.tape))), p2.2.2.trans (k4.output.trans (p1.2.2.trans (k2'.output.trans e5.output))), by have := e5.size; omega,
      fun b hb => (same b (by rw [hkR]; exact .inl hb)).trans (e5.block b hb)⟩
   ·cases e1
  ·exact ⟨st, ⟨σ.val, nR⟩, by rw [List.drop_zero]; exact hgo, hi1, hlh, hDh, hkept1, fun b hb => hold b (by have := hb.1; omega), by omega⟩
end
end Go.Proofs.YthdnamhilcjnhaaGreatDoor
