/- Regions in any order. -/
import Derived.Test.YthdnamhilcjnhaaGreatDoorRs19
import Derived.Orders
namespace Go.Proofs.YthdnamhilcjnhaaGreatDoor
open Go Go.RowKit
set_option linter.unusedVariables false
set_option linter.unusedSimpArgs false
section
variable {E : Env} {P : Program} {keep : Nat → Prop} {w0 : World} {call : Nat → List V → Option V} {n : Nat} {z : Option Value} {all : Array Oper}
structure Item where
 o : Oper
 v : V
 es : List (Nat × Ent)
 f : Foot
def StEq (s s' : St) : Prop := (∀ t, s.get t = s'.get t) ∧ ∀ i, s.ent i = s'.ent i
theorem StEq.refl (s : St) : StEq s s := ⟨fun _ => rfl, fun _ => rfl⟩
theorem StEq.trans {a b c : St} (h : StEq a b) (h' : StEq b c) : StEq a c := ⟨fun t => (h.1 t).trans (h'.1 t), fun i => (h.2 i).trans (h'.2 i)⟩
theorem StEq.symm {a b : St} (h : StEq a b) : StEq b a := ⟨fun t => (h.1 t).symm, fun i => (h.2 i).symm⟩
theorem get_put' (s : St) (d : Option Nat) (v : V) (es : List (Nat × Ent)) (t : Nat) : (s.put d v es).get t = if d = some t then v else s.get t := by
 cases d with
 | none => rfl
 | some d =>
  rw [get_put]
  by_cases h : t = d
  ·subst h; simp
  ·rw [if_neg h, if_neg (by simpa using Ne.symm h)]
theorem ent_put' (s : St) (d : Option Nat) (v : V) (es : List (Nat × Ent)) (i : Nat) : (s.put d v es).ent i = match find es i with | some e => e | none => s.ent i := by
 rw [ent_put]; rfl
theorem StEq.put {s s' : St} (h : StEq s s') (d : Option Nat) (v : V) (es : List (Nat × Ent)) : StEq (s.put d v es) (s'.put d v es) := by
 refine ⟨fun t => ?_, fun i => ?_⟩
 ·rw [get_put', get_put', h.1 t]
 ·rw [ent_put', ent_put', h.2 i]
theorem StEq.self {s : St} {d : Nat} {v : V} (h : s.get d = v) : StEq (s.put (some d) v []) s := by
 refine ⟨fun t => ?_, fun i => ?_⟩
 ·rw [get_put']
  split
  ·rename_i h1; cases h1; exact h.symm
  ·rfl
 ·rw [ent_put']; rfl
def Took (E : Env) (call : Nat → List V → Option V) (x : Item) (s : St) : Prop := ∃ s1, StEq s1 s ∧ (stepOp E call x.o s1).eval = some (x.v, x.es) ∧ x.f = ⟨reads E x.o s1, x.es.map (·.1)⟩
def Good (E : Env) (call : Nat → List V → Option V) (n : Nat) (all : Array Oper) (x : Item) (s : St) : Prop :=
 dstOk n x.o = true ∧ ((guardOf all x.o = some none ∧ Took E call x s) ∨ ∃ d want, guardOf all x.o = some (some (d, want)) ∧
  ((s.get d = .bool want ∧ Took E call x s) ∨ ((s.get d = .bool (!want) ∨ s.get d = .und) ∧ x.v = .und ∧ x.es = [] ∧ x.f = ⟨[], []⟩)))
theorem Took.eq {x : Item} {s s' : St} (h : Took E call x s) (he : StEq s s') : Took E call x s' := by
 obtain ⟨s1, h1, h2, h3⟩ := h
 exact ⟨s1, h1.trans he, h2, h3⟩
theorem Good.eq {x : Item} {s s' : St} (h : Good E call n all x s) (he : StEq s s') : Good E call n all x s' := by
 obtain ⟨h1, h2⟩ := h
 refine ⟨h1, ?_⟩
 rcases h2 with ⟨h3, h4⟩ | ⟨d, want, h3, h4⟩
 ·exact .inl ⟨h3, h4.eq he⟩
 ·refine .inr ⟨d, want, h3, ?_⟩
  rw [← he.1 d]
  rcases h4 with ⟨h5, h6⟩ | h5
  ·exact .inl ⟨h5, h6.eq he⟩
  ·exact .inr h5
theorem Good.wr {x : Item} {s : St} (h : Good E call n all x s) : x.f.wr = x.es.map (·.1) := by
 obtain ⟨h1, h2⟩ := h
 rcases h2 with ⟨_, s1, _, _, h3⟩ | ⟨d, want, _, ⟨_, s1, _, _, h3⟩ | ⟨_, _, h4, h3⟩⟩
 ·rw [h3]
 ·rw [h3]
 ·rw [h3, h4]; rfl
def nxt (s : St) (x : Item) : St := s.put x.o.dst x.v x.es
def RunG (E : Env) (call : Nat → List V → Option V) (n : Nat) (all : Array Oper) : St → List Item → Prop
 | _, [] => True
 | s, x :: L => Good E call n all x s ∧ RunG E call n all (nxt s x) L
theorem step1_item {o : Oper} {s s0 s' : St} {tr tr' : List Foot} (he : StEq s s0) (h : Step1 E call n all o s tr = some (s', tr')) :
 ∃ x : Item, x.o = o ∧ tr' = x.f :: tr ∧ Good E call n all x s0 ∧ StEq s' (nxt s0 x) := by
 unfold Step1 at h
 split at h
 ·rename_i hd hg
  split at h
  ·rename_i v es hev
   simp only [Option.some.injEq, Prod.mk.injEq] at h
   obtain ⟨rfl, rfl⟩ := h
   exact ⟨⟨o, v, es, _⟩, rfl, rfl, ⟨hd, .inl ⟨hg, s, he, hev, rfl⟩⟩, he.put _ _ _⟩
  ·cases h
 ·rename_i d want hd hg
  split at h
  ·rename_i b hb
   split at h
   ·rename_i hbw
    have hbw : b = want := by simpa using hbw
    subst hbw
    have hself := StEq.self hb
    split at h
    ·rename_i v es hev
     simp only [Option.some.injEq, Prod.mk.injEq] at h
     obtain ⟨rfl, rfl⟩ := h
     exact ⟨⟨o, v, es, _⟩, rfl, rfl, ⟨hd, .inr ⟨d, b, hg, .inl ⟨by rw [← he.1 d]; exact hb, _, hself.trans he, hev, rfl⟩⟩⟩, (hself.trans he).put _ _ _⟩
    ·cases h
   ·rename_i hbw
    have hbw : b = !want := by cases b <;> cases want <;> simp at hbw ⊢
    subst hbw
    have hself := StEq.self hb
    simp only [Option.some.injEq, Prod.mk.injEq] at h
    obtain ⟨rfl, rfl⟩ := h
    exact ⟨⟨o, .und, [], ⟨[], []⟩⟩, rfl, rfl, ⟨hd, .inr ⟨d, want, hg, .inr ⟨.inl (by rw [← he.1 d]; exact hb), rfl, rfl, rfl⟩⟩⟩, (hself.trans he).put _ _ _⟩
  ·rename_i hb
   simp only [Option.some.injEq, Prod.mk.injEq] at h
   obtain ⟨rfl, rfl⟩ := h
   exact ⟨⟨o, .und, [], ⟨[], []⟩⟩, rfl, rfl, ⟨hd, .inr ⟨d, want, hg, .inr ⟨.inr (by rw [← he.1 d]; exact hb), rfl, rfl, rfl⟩⟩⟩, he.put _ _ _⟩
  ·cases h
 ·cases h
theorem runOps_items : ∀ (l : List Oper) (s s0 s' : St) (tr tr' : List Foot), StEq s s0 → runOps E call n all l s tr = some (s', tr') →
 ∃ L : List Item, L.map (·.o) = l ∧ tr' = (L.map (·.f)).reverse ++ tr ∧ RunG E call n all s0 L ∧ StEq s' (L.foldl nxt s0)
 | [], s, s0, s', tr, tr', he, h => by
  simp only [runOps, Option.some.injEq, Prod.mk.injEq] at h
  obtain ⟨rfl, rfl⟩ := h
  exact ⟨[], rfl, rfl, trivial, he⟩
 | o :: l, s, s0, s', tr, tr', he, h => by
  rw [runOps_cons] at h
  split at h
  ·rename_i s1 tr1 h1
   obtain ⟨x, rfl, rfl, h2, h3⟩ := step1_item he h1
   obtain ⟨L, rfl, rfl, h4, h5⟩ := runOps_items l s1 (nxt s0 x) s' _ _ h3 h
   exact ⟨x :: L, rfl, by simp, ⟨h2, h4⟩, h5⟩
  ·cases h
def foldS : List Item → Nat → (Nat → Bool) → St → St
 | [], _, _, s => s
 | x :: L, j, D, s => foldS L (j + 1) D (match D j with | true => nxt s x | false => s)
def Agree (T I : Nat → Prop) (s s' : St) : Prop := (∀ t, T t → s.get t = s'.get t) ∧ ∀ i, I i → s.ent i = s'.ent i
theorem Agree.both {T I : Nat → Prop} {s s' : St} (h : Agree T I s s') (x : Item) : Agree T I (nxt s x) (nxt s' x) := by
 refine ⟨fun t ht => ?_, fun i hi => ?_⟩
 ·unfold nxt; rw [get_put', get_put', h.1 t ht]
 ·unfold nxt; rw [ent_put', ent_put', h.2 i hi]
theorem find_none {α : Type} : ∀ {es : List (Nat × α)} {i : Nat}, i ∉ es.map (·.1) → find es i = none
 | [], i, _ => rfl
 | (j, x) :: es, i, h => by
  simp only [List.map_cons, List.mem_cons, not_or] at h
  rw [find_other h.1]
  exact find_none h.2
theorem nxt_agree {T I : Nat → Prop} {s : St} {x : Item} (h1 : ∀ d, x.o.dst = some d → ¬ T d) (h2 : ∀ i, i ∈ x.es.map (·.1) → ¬ I i) : Agree T I (nxt s x) s := by
 refine ⟨fun t ht => ?_, fun i hi => ?_⟩
 ·unfold nxt; rw [get_put', if_neg fun h => h1 t h ht]
 ·unfold nxt; rw [ent_put', find_none fun h => h2 i h hi]
theorem Agree.trans {T I : Nat → Prop} {a b c : St} (h : Agree T I a b) (h' : Agree T I b c) : Agree T I a c := ⟨fun t ht => (h.1 t ht).trans (h'.1 t ht), fun i hi => (h.2 i hi).trans (h'.2 i hi)⟩
theorem Agree.symm {T I : Nat → Prop} {a b : St} (h : Agree T I a b) : Agree T I b a := ⟨fun t ht => (h.1 t ht).symm, fun i hi => (h.2 i hi).symm⟩
theorem foldS_agree {T I : Nat → Prop} {D D' : Nat → Bool} : ∀ (L : List Item) (j : Nat) (s s' : St), Agree T I s s' → (∀ k x, L[k]? = some x → D (j + k) ≠ D' (j + k) → (∀ d, x.o.dst = some d → ¬ T d) ∧ ∀ i, i ∈ x.es.map (·.1) → ¬ I i) →
 Agree T I (foldS L j D s) (foldS L j D' s')
 | [], j, s, s', h, _ => h
 | x :: L, j, s, s', h, hd => by
  simp only [foldS]
  refine foldS_agree L (j + 1) _ _ ?_ fun k y hk hne => hd (k + 1) y (by simpa using hk) (by rwa [show j + (k + 1) = j + 1 + k by omega])
  have h0 := hd 0 x rfl
  simp only [Nat.add_zero] at h0
  cases hD : D j <;> cases hD' : D' j
  ·exact h
  ·obtain ⟨h1, h2⟩ := h0 (by rw [hD, hD']; simp)
   exact h.trans (nxt_agree h1 h2).symm
  ·obtain ⟨h1, h2⟩ := h0 (by rw [hD, hD']; simp)
   exact (nxt_agree h1 h2).trans h
  ·exact h.both x
theorem foldS_eq {D D' : Nat → Bool} (L : List Item) (j : Nat) {s s' : St} (h : StEq s s') (hd : ∀ k, k < L.length → D (j + k) = D' (j + k)) : StEq (foldS L j D s) (foldS L j D' s') := by
 have := foldS_agree (T := fun _ => True) (I := fun _ => True) (D := D) (D' := D') L j s s' ⟨fun t _ => h.1 t, fun i _ => h.2 i⟩ fun k x hk hne => absurd (hd k (by
  rcases Nat.lt_or_ge k L.length with h | h
  ·exact h
  ·rw [List.getElem?_eq_none h] at hk; cases hk)) hne
 exact ⟨fun t => this.1 t trivial, fun i => this.2 i trivial⟩
def Apart (x y : Item) : Prop := (∀ d, x.o.dst = some d → y.o.dst ≠ some d) ∧ ∀ i, i ∈ x.es.map (·.1) → i ∉ y.es.map (·.1)
theorem nxt_swap {x y : Item} (h : Apart x y) (s : St) : StEq (nxt (nxt s x) y) (nxt (nxt s y) x) := by
 refine ⟨fun t => ?_, fun i => ?_⟩
 ·unfold nxt
  simp only [get_put']
  by_cases h1 : x.o.dst = some t
  ·rw [if_pos h1, if_pos h1, if_neg (h.1 t h1)]
  ·rw [if_neg h1, if_neg h1]
 ·unfold nxt
  simp only [ent_put']
  by_cases h1 : i ∈ x.es.map (·.1)
  ·rw [find_none (h.2 i h1)]
  ·rw [find_none h1]
theorem foldS_swap {D : Nat → Bool} {x : Item} : ∀ (L : List Item) (j : Nat) (s : St), (∀ k y, L[k]? = some y → D (j + k) = true → Apart x y) → StEq (foldS L j D (nxt s x)) (nxt (foldS L j D s) x)
 | [], j, s, _ => StEq.refl _
 | y :: L, j, s, h => by
  simp only [foldS]
  have hL := fun s => foldS_swap (D := D) (x := x) L (j + 1) s fun k z hk hd => h (k + 1) z (by simpa using hk) (by rwa [show j + (k + 1) = j + 1 + k by omega])
  cases hD : D j with
  | false => exact hL s
  | true => exact (foldS_eq L (j + 1) (nxt_swap (h 0 y rfl (by simpa using hD)) s) fun _ _ => rfl).trans (hL (nxt s y))
def addI (D : Nat → Bool) (i : Nat) : Nat → Bool := fun k => if k = i then true else D k
theorem foldS_add {D : Nat → Bool} {x : Item} : ∀ (L : List Item) (j i : Nat) (s : St), L[i]? = some x → D (j + i) = false → (∀ k y, L[k]? = some y → i < k → D (j + k) = true → Apart x y) →
 StEq (foldS L j (addI D (j + i)) s) (nxt (foldS L j D s) x)
 | [], j, i, s, h, _, _ => by simp at h
 | y :: L, j, 0, s, h, hD, hap => by
  simp only [List.getElem?_cons_zero, Option.some.injEq] at h
  subst h
  rw [Nat.add_zero] at hD
  simp only [foldS, hD]
  have h1 : addI D (j + 0) j = true := by simp [addI]
  rw [h1]
  refine (foldS_eq L (j + 1) (StEq.refl _) fun k hk => ?_).trans (foldS_swap (D := D) L (j + 1) s fun k z hk hd => hap (k + 1) z (by simpa using hk) (by omega) (by rwa [show j + (k + 1) = j + 1 + k by omega]))
  unfold addI
  rw [if_neg (by omega)]
 | y :: L, j, i + 1, s, h, hD, hap => by
  rw [List.getElem?_cons_succ] at h
  simp only [foldS]
  have h1 : addI D (j + (i + 1)) j = D j := by unfold addI; rw [if_neg (by omega)]
  rw [h1, show j + (i + 1) = j + 1 + i by omega]
  exact foldS_add L (j + 1) i _ h (by rwa [show j + 1 + i = j + (i + 1) by omega]) fun k z hk hlt hd => hap (k + 1) z (by simpa using hk) (by omega) (by rwa [show j + (k + 1) = j + 1 + k by omega])
theorem foldS_take : ∀ (L : List Item) (j i : Nat) (s : St), foldS L j (fun k => decide (k < j + i)) s = (L.take i).foldl nxt s
 | [], j, i, s => by cases i <;> rfl
 | x :: L, j, 0, s => by
  simp only [foldS, Nat.add_zero, Nat.lt_irrefl, decide_false, List.take_zero, List.foldl_nil]
  have : ∀ (L : List Item) (m : Nat) (s : St), j ≤ m → foldS L m (fun k => decide (k < j)) s = s := by
   intro L
   induction L with
   | nil => intro m s _; rfl
   | cons y L ih =>
    intro m s hm
    simp only [foldS]
    rw [show decide (m < j) = false by simp; omega]
    exact ih (m + 1) s (by omega)
  exact this L (j + 1) s (by omega)
 | x :: L, j, i + 1, s => by
  simp only [foldS, List.take_succ_cons, List.foldl_cons]
  rw [show decide (j < j + (i + 1)) = true by simp]
  simp only
  rw [← foldS_take L (j + 1) i (nxt s x)]
  congr 1
  funext k
  rw [show j + 1 + i = j + (i + 1) by omega]
theorem RunG_get : ∀ (L : List Item) (s : St) (i : Nat) (x : Item), RunG E call n all s L → L[i]? = some x → Good E call n all x ((L.take i).foldl nxt s)
 | [], s, i, x, _, h => by simp at h
 | y :: L, s, 0, x, hr, h => by
  simp only [List.getElem?_cons_zero, Option.some.injEq] at h
  subst h
  exact hr.1
 | y :: L, s, i + 1, x, hr, h => by
  rw [List.getElem?_cons_succ] at h
  exact RunG_get L (nxt s y) i x hr.2 h
theorem foldS_all (L : List Item) (j : Nat) (s : St) : foldS L j (fun _ => true) s = L.foldl nxt s := by
 induction L generalizing j s with
 | nil => rfl
 | cons x L ih => simp only [foldS, List.foldl_cons]; exact ih _ _
theorem Inv.eq {no : Nat → Prop} {s s' : St} {σ : Sg} {a : Act} {w : World} (h : Inv E keep w0 no n z s σ a w) (he : StEq s s') : Inv E keep w0 no n z s' σ a w := by
 have hent : s.ent = s'.ent := funext he.2
 refine ⟨by rw [← hent]; exact h.hr, fun t => ?_, h.size, h.defs, h.no, h.z0⟩
 rw [← hent, ← he.1 t]
 exact h.fr t
theorem mem_tmps {t : Nat} : ∀ {l : List Operand}, .tmp t ∈ l → t ∈ tmpsOf l
 | x :: l, h => by
  rcases List.mem_cons.1 h with h1 | h1
  ·subst h1; simp [tmpsOf]
  ·have ih := mem_tmps h1
   cases x with
   | tmp i => simp only [tmpsOf]; exact List.mem_cons_of_mem _ ih
   | _ => simp only [tmpsOf]; exact ih
theorem guard_looks {o : Oper} {d : Nat} {want : Bool} (h : guardOf all o = some (some (d, want))) : d ∈ looks all o := by
 unfold guardOf at h
 unfold looks
 split at h
 ·cases h
 ·rename_i j want' hg
  split at h
  ·rename_i oj hj
   split at h
   ·rename_i d' hd
    simp only [Option.some.injEq, Prod.mk.injEq] at h
    obtain ⟨rfl, rfl⟩ := h
    rw [hg]
    simp only [hj, hd, optL, List.mem_append, List.mem_singleton]
    exact .inr trivial
   ·cases h
  ·cases h
theorem exec_item (hE : EnvOk E P) (hcall : CallsOk P E call) {no : Nat → Prop} {x : Item} {s s' : St} {σ : Sg} {a : Act} {w : World} (hg : Good E call n all x s) (ha : Agree (fun t => t ∈ looks all x.o) (fun i => i ∈ x.f.rd ∨ i ∈ x.f.wr) s s')
 (hi : Inv E keep w0 no n z s' σ a w) {K : Act → World → Prop} {Q : Exit → Act → World → Prop} (hK : ∀ a' w' σ', Inv E keep w0 no n z (nxt s' x) σ' a' w' → K a' w') :
 if Region.wanted x.o (yielded all a.tmps) then x.o.wp P a w K Q else K (a.put x.o.dst undef) w := by
 have took : Took E call x s → x.o.wp P a w K Q := by
  intro ⟨s1, h1, h2, h3⟩
  have hev : (stepOp E call x.o s').eval = some (x.v, x.es) := by
   refine stepOp_congr h2 (fun t ht => ?_) (fun i hi => ?_) (fun i hi => ?_)
   ·rw [h1.1 t]
    exact ha.1 t (by unfold looks; exact List.mem_append.2 (.inl (mem_tmps ht)))
   ·rw [h1.2 i]
    exact (ha.2 i (.inl (by rw [h3]; exact hi))).symm
   ·rw [h1.2 i]
    exact (ha.2 i (.inr (by rw [h3]; exact hi))).symm
  exact op_sound hE hcall hi.hr hi.fr hev fun u w' σ' k1 k2 k3 k4 => hK _ _ _ (hi.put (fun t ht => dst_lt hg.1 ht) k1 k2 k3 k4)
 obtain ⟨hd, hg | ⟨d, want, hgd, hg⟩⟩ := hg
 ·rw [guard_none hg.1, if_pos rfl]
  exact took hg.2
 ·have hsd : s'.get d = s.get d := (ha.1 d (guard_looks hgd)).symm
  have hg2 := guard_some hgd a.tmps
  have hfr := hi.fr d
  rw [hsd] at hfr
  have skip : x.v = .und → x.es = [] → K (a.put x.o.dst undef) w := by
   intro h1 h2
   have := hi.und (d := x.o.dst) fun t ht => dst_lt hd ht
   refine hK _ _ σ ?_
   unfold nxt
   rw [h1, h2]
   exact this
  rcases hg with ⟨h1, h2⟩ | ⟨h1, h2, h3, h4⟩
  ·rw [h1] at hfr
   rw [getD_bool (RT_bool hfr)] at hg2
   rw [if_pos (by rw [hg2]; simp)]
   exact took h2
  ·rcases h1 with h1 | h1
   ·rw [h1] at hfr
    rw [getD_bool (RT_bool hfr)] at hg2
    rw [if_neg (by rw [hg2]; cases want <;> simp)]
    exact skip h2 h3
   ·rw [h1] at hfr
    have hund : a.tmps.getD d undef = undef := hfr
    have : Region.wanted x.o (yielded all a.tmps) = false := by
     rw [hg2]
     rcases getD_undef hund with h | h <;> rw [h] <;> rfl
    rw [if_neg (by rw [this]; simp)]
    exact skip h2 h3
theorem natMem_false {x : Nat} {xs : List Nat} (h : natMem x xs = false) : x ∉ xs := fun hm => by rw [natMem_of hm] at h; cases h
theorem apart_mem : ∀ {xs ys : List Nat}, apartL xs ys = true → ∀ x, x ∈ xs → x ∉ ys
 | y :: xs, ys, h, x, hx => by
  unfold apartL at h
  split at h
  ·cases h
  ·rename_i hm
   rcases List.mem_cons.1 hx with rfl | hx
   ·exact natMem_false hm
   ·exact apart_mem h x hx
theorem bitOf_test (m i : Nat) : bitOf m i = m.testBit i := by
 rw [Nat.testBit_eq_decide_div_mod_eq]
 unfold bitOf
 show Nat.beq (m / 2 ^ i % 2) 1 = _
 cases h : Nat.beq (m / 2 ^ i % 2) 1 with
 | true => have := Nat.eq_of_beq_eq_true h; simp [this]
 | false =>
  have : m / 2 ^ i % 2 ≠ 1 := fun h' => by rw [h'] at h; cases h
  simp [this]
theorem edgeMask_bit {acc : List Nat} {i : Nat} : ∀ (es : List Edge) (m : Nat), bitOf (edgeMask acc es m) i = true → bitOf m i = true ∨ ∃ e, e ∈ es ∧ isBound e = true ∧ (e.on = i ∨ ∃ m', nth acc e.on = some m' ∧ bitOf m' i = true)
 | [], m, h => .inl h
 | e :: es, m, h => by
  simp only [edgeMask] at h
  split at h
  ·rcases edgeMask_bit es m h with h | ⟨e', h1, h2⟩
   ·exact .inl h
   ·exact .inr ⟨e', List.mem_cons_of_mem _ h1, h2⟩
  ·rename_i hb
   rcases edgeMask_bit es _ h with h | ⟨e', h1, h2⟩
   ·rw [bitOf_test] at h
    rw [show ∀ a b, Nat.lor a b = a ||| b from fun _ _ => rfl] at h
    rw [Nat.testBit_or, Bool.or_eq_true, show ∀ a b, Nat.lor a b = a ||| b from fun _ _ => rfl, Nat.testBit_or, Bool.or_eq_true] at h
    rcases h with (h | h) | h
    ·rw [← bitOf_test] at h; exact .inl h
    ·rw [show Nat.pow 2 e.on = 2 ^ e.on from rfl, Nat.testBit_two_pow] at h
     exact .inr ⟨e, by simp, hb, .inl (by simpa using h)⟩
    ·cases hn : nth acc e.on with
     | none => rw [hn] at h; simp at h
     | some m' =>
      rw [hn] at h
      rw [← bitOf_test] at h
      exact .inr ⟨e, by simp, hb, .inr ⟨m', hn, h⟩⟩
   ·exact .inr ⟨e', List.mem_cons_of_mem _ h1, h2⟩
theorem nth_eq {α : Type} : ∀ (l : List α) (i : Nat), nth l i = l[i]?
 | [], i => by cases i <;> rfl
 | x :: l, 0 => rfl
 | x :: l, i + 1 => by simp only [nth, List.getElem?_cons_succ]; exact nth_eq l i
theorem masks_spec : ∀ (os : List Oper) (acc : List Nat), (∃ r, masks os acc = acc ++ r ∧ r.length = os.length) ∧ ∀ k o, os[k]? = some o → (masks os acc)[acc.length + k]? = some (edgeMask ((masks os acc).take (acc.length + k)) o.after.toList 0)
 | [], acc => ⟨⟨[], by simp [masks], rfl⟩, fun k o h => by simp at h⟩
 | o :: os, acc => by
  obtain ⟨⟨r, h1, h2⟩, h3⟩ := masks_spec os (acc ++ [edgeMask acc o.after.toList 0])
  simp only [masks]
  refine ⟨⟨edgeMask acc o.after.toList 0 :: r, by rw [h1]; simp, by simp [h2]⟩, fun k o' hk => ?_⟩
  cases k with
  | zero =>
   simp only [List.getElem?_cons_zero, Option.some.injEq] at hk
   subst hk
   rw [h1, Nat.add_zero, List.append_assoc, List.take_left, List.getElem?_append_right (Nat.le_refl _)]
   simp
  | succ k =>
   rw [List.getElem?_cons_succ] at hk
   have := h3 k o' hk
   rw [List.length_append, List.length_singleton] at this
   rwa [show acc.length + (k + 1) = acc.length + 1 + k by omega]
theorem okBefore_spec {o : Oper} {f : Foot} {m : Nat} : ∀ (ps : List Oper) (gs : List Foot) (i : Nat), okBefore all o f m ps gs i = true → ∀ k p g, ps[k]? = some p → gs[k]? = some g → bitOf m (i + k) = true ∨ free2 all p g o f = true
 | [], gs, i, h, k, p, g, hp, hg => by simp at hp
 | p0 :: ps, [], i, h, k, p, g, hp, hg => by simp at hg
 | p0 :: ps, g0 :: gs, i, h, k, p, g, hp, hg => by
  have rest : okBefore all o f m ps gs (i + 1) = true := by
   simp only [okBefore] at h
   split at h
   ·exact h
   ·split at h
    ·exact h
    ·cases h
  cases k with
  | zero =>
   simp only [List.getElem?_cons_zero, Option.some.injEq] at hp hg
   subst hp; subst hg
   simp only [okBefore] at h
   split at h
   ·rename_i hb; exact .inl hb
   ·split at h
    ·rename_i hf; exact .inr hf
    ·cases h
  | succ k =>
   rw [List.getElem?_cons_succ] at hp hg
   have := okBefore_spec ps gs (i + 1) rest k p g hp hg
   rwa [show i + 1 + k = i + (k + 1) by omega] at this
theorem okAll_spec {ops : List Oper} {fs : List Foot} : ∀ (os : List Oper) (gs : List Foot) (ms : List Nat) (j : Nat), okAll all ops fs os gs ms j = true → ∀ k o f m, os[k]? = some o → gs[k]? = some f → ms[k]? = some m → okBefore all o f m (ops.take (j + k)) (fs.take (j + k)) 0 = true
 | o0 :: os, f0 :: gs, m0 :: ms, j, h, k, o, f, m, ho, hf, hm => by
  simp only [okAll] at h
  split at h
  ·rename_i hb
   cases k with
   | zero =>
    simp only [List.getElem?_cons_zero, Option.some.injEq] at ho hf hm
    subst ho; subst hf; subst hm
    exact hb
   | succ k =>
    rw [List.getElem?_cons_succ] at ho hf hm
    have := okAll_spec os gs ms (j + 1) h k o f m ho hf hm
    rwa [show j + 1 + k = j + (k + 1) by omega] at this
  ·cases h
 | [], _, _, j, h, k, o, f, m, ho, hf, hm => by simp at ho
 | o0 :: os, [], _, j, h, k, o, f, m, ho, hf, hm => by simp at hf
 | o0 :: os, f0 :: gs, [], j, h, k, o, f, m, ho, hf, hm => by simp at hm
theorem backE_spec {j : Nat} : ∀ (es : List Edge), backE j es = true → ∀ e, e ∈ es → isBound e = true → e.on < j
 | e0 :: es, h, e, he, hb => by
  simp only [backE] at h
  split at h
  ·cases h
  ·rename_i hx
   rcases List.mem_cons.1 he with rfl | he
   ·rcases Nat.lt_or_ge e.on j with h' | h'
    ·exact h'
    ·exact absurd (by
      rw [show Nat.blt e.on j = false from by
       cases hq : Nat.blt e.on j with
       | false => rfl
       | true => rw [Nat.blt_eq] at hq; omega]) (hx hb)
   ·exact backE_spec es h e he hb
theorem backOk_spec : ∀ (os : List Oper) (j : Nat), backOk os j = true → ∀ k o, os[k]? = some o → ∀ e, e ∈ o.after.toList → isBound e = true → e.on < j + k
 | o0 :: os, j, h, k, o, ho, e, he, hb => by
  simp only [backOk] at h
  split at h
  ·rename_i h1
   cases k with
   | zero =>
    simp only [List.getElem?_cons_zero, Option.some.injEq] at ho
    subst ho
    exact backE_spec _ h1 e he hb
   | succ k =>
    rw [List.getElem?_cons_succ] at ho
    have := backOk_spec os (j + 1) h k o ho e he hb
    omega
  ·cases h
 | [], j, h, k, o, ho, e, he, hb => by simp at ho
theorem binds_any (e : Edge) : Region.binds .any e = isBound e := by
 unfold Region.binds isBound
 cases e.ground <;> rfl
end
end Go.Proofs.YthdnamhilcjnhaaGreatDoor
