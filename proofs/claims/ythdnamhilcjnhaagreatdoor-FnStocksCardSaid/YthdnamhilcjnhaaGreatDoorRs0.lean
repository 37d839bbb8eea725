/- What the abstract values say of memory: the relations, and how they are carried from world to world. -/
import Derived.Test.YthdnamhilcjnhaaGreatDoorRv1
namespace Go.Proofs.YthdnamhilcjnhaaGreatDoor
open Go Go.RowKit
set_option linter.unusedVariables false
set_option linter.unusedSimpArgs false
def cellsAt (w : World) (b o : Nat) (us : List Value) : Prop := ∀ j u, us[j]? = some u → w.cell? ⟨b, o + j, none⟩ = some u
def startOf : List V → Nat → Nat
 | _, 0 => 0
 | [], _ + 1 => 0
 | p :: ps, n + 1 => vsize1 p + startOf ps n
def aggOk (v : V) (u : Value) : Prop := match v with
 | .parts _ => ∃ cs, u = .agg cs
 | .ints _ _ _ => ∃ cs, u = .agg cs
 | _ => u.oneCell' = true
def pOk (ps : List V) (pi rel ext : Nat) : Prop := (∃ p, nth ps pi = some p ∧ rel + ext ≤ vsize1 p) ∨ (rel = 0 ∧ ext ≤ psize (dropN ps pi))
def notP : V → Bool
 | .parts _ => false
 | _ => true
def cloVal (f : Nat) (cv : List Value) : Value := match cv with
 | [] => .func (.func f) #[] #[]
 | c :: l => match Nat.blt f thBase with
  | true => .func (.func f) #[] (c :: l).toArray
  | false => .func (.func (f - thBase)) (c :: l).toArray #[]
theorem cloVal_fun (f : Nat) (cv : List Value) : ∃ g fs cs, cloVal f cv = .func g fs cs := by
 unfold cloVal
 split
 ·exact ⟨_, _, _, rfl⟩
 ·split <;> exact ⟨_, _, _, rfl⟩
theorem cloVal_cells (f : Nat) (cv : List Value) : (cloVal f cv).cells.toList = [cloVal f cv] := by
 obtain ⟨g, fs, cs, h⟩ := cloVal_fun f cv
 rw [h]; rfl
theorem cloVal_one (f : Nat) (cv : List Value) : (cloVal f cv).oneCell' = true := by
 obtain ⟨g, fs, cs, h⟩ := cloVal_fun f cv
 rw [h]; rfl
theorem clo_call (g : Nat) {caps : List V} {cv : List Value} (hl : caps.length = cv.length) : ∃ fs cs : List Value, cloVal g cv = .func (.func (gOf g caps)) fs.toArray cs.toArray ∧ ∀ xs : List Value, ordL g xs cv = fs ++ xs ++ cs := by
 cases caps with
 | nil =>
  cases cv with
  | nil => exact ⟨[], [], rfl, fun xs => by unfold ordL; cases Nat.blt g thBase <;> simp⟩
  | cons c l => simp at hl
 | cons d m =>
  cases cv with
  | nil => simp at hl
  | cons c l =>
   simp only [cloVal, gOf, ordL]
   cases Nat.blt g thBase with
   | true => exact ⟨[], c :: l, rfl, fun xs => by simp⟩
   | false => exact ⟨c :: l, [], rfl, fun xs => by simp⟩
theorem mem_ordL {α : Type} {g : Nat} {xs ys : List α} {x : α} (h : x ∈ ordL g xs ys) : x ∈ xs ∨ x ∈ ys := by
 unfold ordL at h
 split at h
 ·exact List.mem_append.1 h
 ·exact (List.mem_append.1 h).symm
mutual
def RF (w : World) (ok : Nat → Prop) : V → List Value → Prop
 | .int k n, cs => cs = [.int k n]
 | .bool b, cs => cs = [.bool b]
 | .str s, cs => cs = [.string s]
 | .ints k n c, cs => cs = (List.range n).map fun j => .int k (c j)
 | .parts ps, cs => RFL w ok ps cs
 | .nils, cs => cs = [.slice none 0 0]
 | .nilp, cs => cs = [.pointer none]
 | .nilf, cs => cs = [.nilFunc]
 | .nilm, cs => cs = [.map none]
 | .sl xs, cs => ∃ A cap, cs = [.slice A xs.length cap] ∧ xs.length ≤ maxLen ∧ (xs = [] ∨ ∃ b o sz, A = some ⟨b, o, none⟩ ∧ ok b ∧ RE w ok xs b o sz)
 | .ref ps pi rel ext, cs => ∃ b o us, cs = [.pointer (some ⟨b, o + startOf ps pi + rel, none⟩)] ∧ ok b ∧ RFL w ok ps us ∧ cellsAt w b o us ∧ pOk ps pi rel ext
 | .clo f caps, cs => ∃ cv : List Value, cs = [cloVal f cv] ∧ RFC w ok caps cv
 | .mapc ks vs, cs => ∃ b es clk, cs = [.map (some b)] ∧ ok b ∧ w.heap[b]? = some (.map es clk) ∧ RFC w ok ks (es.toList.map (·.key)) ∧ RFC w ok vs (es.toList.map (·.val))
 | _, _ => False
def RFL (w : World) (ok : Nat → Prop) : List V → List Value → Prop
 | [], cs => cs = []
 | p :: ps, cs => ∃ a b, cs = a ++ b ∧ notP p = true ∧ RF w ok p a ∧ RFL w ok ps b
def RE (w : World) (ok : Nat → Prop) : List V → Nat → Nat → Nat → Prop
 | [], _, _, _ => True
 | x :: xs, b, o, sz => (∃ us, us.length = sz ∧ RF w ok x us ∧ cellsAt w b o us) ∧ RE w ok xs b (o + sz) sz
def RFC (w : World) (ok : Nat → Prop) : List V → List Value → Prop
 | [], us => us = []
 | v :: vs, us => ∃ u l, us = u :: l ∧ RF w ok v u.cells.toList ∧ aggOk v u ∧ RFC w ok vs l
end
def Moved (w w' : World) (ok ok' : Nat → Prop) : Prop := ∀ b, ok b → ok' b ∧ w'.heap[b]? = w.heap[b]?
theorem cellsAt_move {w w' : World} {b o : Nat} {us : List Value} (h : cellsAt w b o us) (hb : w'.heap[b]? = w.heap[b]?) : cellsAt w' b o us := by
 intro j u hj
 have := h j u hj
 unfold World.cell? at this ⊢
 rw [hb]
 exact this
mutual
theorem RF_move {w w' : World} {ok ok' : Nat → Prop} (hm : Moved w w' ok ok') : ∀ (v : V) (cs : List Value), RF w ok v cs → RF w' ok' v cs
 | .int k n, cs, h => by simpa [RF] using h
 | .bool b, cs, h => by simpa [RF] using h
 | .str s, cs, h => by simpa [RF] using h
 | .ints k n c, cs, h => by simpa [RF] using h
 | .parts ps, cs, h => by
  simp only [RF] at h ⊢
  exact RFL_move hm ps cs h
 | .nils, cs, h => by simpa [RF] using h
 | .nilp, cs, h => by simpa [RF] using h
 | .nilf, cs, h => by simpa [RF] using h
 | .nilm, cs, h => by simpa [RF] using h
 | .sl xs, cs, h => by
  simp only [RF] at h ⊢
  obtain ⟨A, cap, h1, h2, h3⟩ := h
  refine ⟨A, cap, h1, h2, ?_⟩
  rcases h3 with h3 | ⟨b, o, sz, h4, h5, h6⟩
  ·exact .inl h3
  ·exact .inr ⟨b, o, sz, h4, (hm b h5).1, RE_move hm xs b o sz (hm b h5).2 h6⟩
 | .ref ps pi rel ext, cs, h => by
  simp only [RF] at h ⊢
  obtain ⟨b, o, us, h1, h2, h3, h4, h5⟩ := h
  exact ⟨b, o, us, h1, (hm b h2).1, RFL_move hm ps us h3, cellsAt_move h4 (hm b h2).2, h5⟩
 | .clo f caps, cs, h => by
  simp only [RF] at h ⊢
  obtain ⟨cv, h1, h2⟩ := h
  exact ⟨cv, h1, RFC_move hm caps cv h2⟩
 | .mapc ks vs, cs, h => by
  simp only [RF] at h ⊢
  obtain ⟨b, es, clk, h1, h2, h3, h4, h5⟩ := h
  exact ⟨b, es, clk, h1, (hm b h2).1, by rw [(hm b h2).2]; exact h3, RFC_move hm ks _ h4, RFC_move hm vs _ h5⟩
 | .tup vs, cs, h => by simp [RF] at h
 | .fresh e xs, cs, h => by simp [RF] at h
 | .ptr .., cs, h => by simp [RF] at h
 | .elem .., cs, h => by simp [RF] at h
 | .arr .., cs, h => by simp [RF] at h
 | .row _, cs, h => by simp [RF] at h
 | .mp _, cs, h => by simp [RF] at h
 | .und, cs, h => by simp [RF] at h
 | .dead, cs, h => by simp [RF] at h
theorem RFL_move {w w' : World} {ok ok' : Nat → Prop} (hm : Moved w w' ok ok') : ∀ (ps : List V) (cs : List Value), RFL w ok ps cs → RFL w' ok' ps cs
 | [], cs, h => by simpa [RFL] using h
 | p :: ps, cs, h => by
  simp only [RFL] at h ⊢
  obtain ⟨a, b, h1, h0, h2, h3⟩ := h
  exact ⟨a, b, h1, h0, RF_move hm p a h2, RFL_move hm ps b h3⟩
theorem RE_move {w w' : World} {ok ok' : Nat → Prop} (hm : Moved w w' ok ok') : ∀ (xs : List V) (b o sz : Nat), w'.heap[b]? = w.heap[b]? → RE w ok xs b o sz → RE w' ok' xs b o sz
 | [], b, o, sz, _, h => by simp [RE]
 | x :: xs, b, o, sz, hb, h => by
  simp only [RE] at h ⊢
  obtain ⟨⟨us, h1, h2, h3⟩, h4⟩ := h
  exact ⟨⟨us, h1, RF_move hm x us h2, cellsAt_move h3 hb⟩, RE_move hm xs b (o + sz) sz hb h4⟩
theorem RFC_move {w w' : World} {ok ok' : Nat → Prop} (hm : Moved w w' ok ok') : ∀ (vs us : _), RFC w ok vs us → RFC w' ok' vs us
 | [], us, h => by simpa [RFC] using h
 | v :: vs, us, h => by
  simp only [RFC] at h ⊢
  obtain ⟨u, l, h1, h2, h3, h4⟩ := h
  exact ⟨u, l, h1, RF_move hm v _ h2, h3, RFC_move hm vs l h4⟩
end
def Ent.live : Ent → Bool
 | .none => false
 | .tomb => false
 | _ => true
def blk : Value → Option Nat
 | .pointer (some a) => some a.block
 | .slice (some a) _ _ => some a.block
 | .map r => r
 | _ => none
structure Sg where
 val : Nat → Value
 no : Nat → Prop
instance : CoeFun Sg (fun _ => Nat → Value) := ⟨Sg.val⟩
def okB (ent : Nat → Ent) (σ : Sg) (w : World) (b : Nat) : Prop := b < w.heap.size ∧ (∀ id, (ent id).live = true → blk (σ id) ≠ some b) ∧ ¬ σ.no b
section
variable (E : Env) (ent : Nat → Ent) (σ : Sg) (w : World)
mutual
def RO1 : V → List Value → Prop
 | .ptr id pi rel ext, cs => ∃ u, cs = [u] ∧ u.oneCell' = true ∧ ent id ≠ .none ∧ ∀ ps, ent id = .box ps → ∃ b, σ id = .pointer (some ⟨b, 0, none⟩) ∧ u = .pointer (some ⟨b, startOf ps pi + rel, none⟩) ∧ pOk ps pi rel ext
 | .elem id i pi rel ext, cs => ∃ u, cs = [u] ∧ u.oneCell' = true ∧ ent id ≠ .none ∧ ∀ e xs, ent id = .row e xs → i < xs.length ∧ ∃ b n c, σ id = .slice (some ⟨b, 0, none⟩) n c ∧ ∀ x, nth xs i = some x → u = .pointer (some ⟨b, i * E.sz e + startOf (partsOf x) pi + rel, none⟩) ∧ pOk (partsOf x) pi rel ext
 | .arr id pi rel n sz, cs => ∃ u, cs = [u] ∧ u.oneCell' = true ∧ ent id ≠ .none ∧ ∀ ps, ent id = .box ps → ∃ b cap, σ id = .pointer (some ⟨b, 0, none⟩) ∧ u = .slice (some ⟨b, startOf ps pi + rel, none⟩) n cap ∧ n ≤ maxLen ∧ ∃ k m c, nth ps pi = some (.ints k m c) ∧ rel + n * sz ≤ m
 | .row id, cs => ∃ u, cs = [u] ∧ u.oneCell' = true ∧ ent id ≠ .none ∧ ∀ e xs, ent id = .row e xs → u = σ id
 | .mp id, cs => ∃ u, cs = [u] ∧ u.oneCell' = true ∧ ent id ≠ .none ∧ ∀ ks vs, ent id = .map ks vs → u = σ id
 | .clo f caps, cs => ∃ cv : List Value, cs = [cloVal f cv] ∧ RTL caps cv
 | .parts _, _ => False
 | v, cs => RF w (okB ent σ w) v cs
def ROL : List V → List Value → Prop
 | [], cs => cs = []
 | p :: ps, cs => ∃ a b, cs = a ++ b ∧ RO1 p a ∧ ROL ps b
def RTL : List V → List Value → Prop
 | [], us => us = []
 | v :: vs, us => ∃ u l, us = u :: l ∧ (match v with
  | .parts ps => ∃ cs, u = .agg cs ∧ ROL ps cs.toList
  | .ints k n c => ∃ cs, u = .agg cs ∧ cs.toList = (List.range n).map fun j => Value.int k (c j)
  | v => u.oneCell' = true ∧ RO1 v [u]) ∧ RTL vs l
end
def RTc (v : V) (u : Value) : Prop := match v with
 | .parts ps => ∃ cs, u = .agg cs ∧ ROL E ent σ w ps cs.toList
 | .ints k n c => ∃ cs, u = .agg cs ∧ cs.toList = (List.range n).map fun j => .int k (c j)
 | v => u.oneCell' = true ∧ RO1 E ent σ w v [u]
theorem RTL_cons (v : V) (vs : List V) (us : List Value) : RTL E ent σ w (v :: vs) us ↔ ∃ u l, us = u :: l ∧ RTc E ent σ w v u ∧ RTL E ent σ w vs l := by
 cases v <;> (simp only [RTL, RTc])
def RT (v : V) (u : Value) : Prop := match v with
 | .dead => True
 | .und => u = undef
 | .tup vs => ∃ us, u = .tuple us ∧ RTL E ent σ w vs us.toList
 | v => RTc E ent σ w v u
def RRow (sz : Nat) : List V → List Value → Prop
 | [], cs => cs = []
 | x :: xs, cs => ∃ a b, cs = a ++ b ∧ a.length = sz ∧ RF w (okB ent σ w) x a ∧ RRow sz xs b
def EntR (keep : Nat → Prop) (id : Nat) : Prop := match ent id with
 | .none => True
 | .tomb => True
 | .box ps => ∃ b cs e, σ id = .pointer (some ⟨b, 0, none⟩) ∧ ¬ keep b ∧ w.heap[b]? = some (.cells cs e (0, 0)) ∧ ROL E ent σ w ps cs.toList
 | .row e xs => ∃ cells, w.ownsRow 0 e (E.sz e) (σ id) xs.length cells ∧ RRow ent σ w (E.sz e) xs cells ∧ ∀ b, blk (σ id) = some b → ¬ keep b
 | .map ks vs => ∃ b es clk, σ id = .map (some b) ∧ ¬ keep b ∧ w.heap[b]? = some (.map es clk) ∧ RFC w (okB ent σ w) ks (es.toList.map (·.key)) ∧ RFC w (okB ent σ w) vs (es.toList.map (·.val))
end
structure Kept (keep : Nat → Prop) (w w' : World) : Prop where
 os : w'.os = w.os
 tape : w'.tape = w.tape
 output : w'.output = w.output
 size : w.heap.size ≤ w'.heap.size
 block : ∀ k, keep k → w'.heap[k]? = w.heap[k]?
theorem Kept.refl (keep : Nat → Prop) (w : World) : Kept keep w w := ⟨rfl, rfl, rfl, Nat.le_refl _, fun _ _ => rfl⟩
theorem Kept.trans {keep : Nat → Prop} {a b c : World} (h : Kept keep a b) (k : Kept keep b c) : Kept keep a c :=
 ⟨k.os.trans h.os, k.tape.trans h.tape, k.output.trans h.output, Nat.le_trans h.size k.size, fun i hi => (k.block i hi).trans (h.block i hi)⟩
theorem Kept.mono {keep keep' : Nat → Prop} {a b : World} (h : Kept keep a b) (hk : ∀ k, keep' k → keep k) : Kept keep' a b :=
 ⟨h.os, h.tape, h.output, h.size, fun i hi => h.block i (hk i hi)⟩
structure HR (E : Env) (keep : Nat → Prop) (w0 : World) (ent : Nat → Ent) (σ : Sg) (w : World) : Prop where
 kept : Kept keep w0 w
 klt : ∀ b, keep b → b < w0.heap.size
 ents : ∀ id, EntR E ent σ w keep id
 nown : ∀ id b, (ent id).live = true → blk (σ id) = some b → ¬ σ.no b
 nlt : ∀ b, σ.no b → b < w0.heap.size
 dist : ∀ i j b, i ≠ j → (ent i).live = true → (ent j).live = true → blk (σ i) = some b → blk (σ j) ≠ some b
def shp : V → Nat × Bool
 | .ints _ n _ => (n, true)
 | _ => (1, false)
def shps (ps : List V) : List (Nat × Bool) := ps.map shp
theorem vsize1_shp (v : V) : vsize1 v = (shp v).1 := by cases v <;> rfl
theorem psize_shps : ∀ {ps qs : List V}, shps ps = shps qs → psize ps = psize qs
 | [], [], _ => rfl
 | [], _ :: _, h => by simp [shps] at h
 | _ :: _, [], h => by simp [shps] at h
 | p :: ps, q :: qs, h => by
  simp only [shps, List.map_cons, List.cons.injEq] at h
  simp only [psize]
  rw [vsize1_shp, vsize1_shp, h.1, psize_shps h.2]
theorem startOf_shps : ∀ {ps qs : List V} (n : Nat), shps ps = shps qs → startOf ps n = startOf qs n
 | [], [], n, _ => rfl
 | [], _ :: _, _, h => by simp [shps] at h
 | _ :: _, [], _, h => by simp [shps] at h
 | p :: ps, q :: qs, n, h => by
  simp only [shps, List.map_cons, List.cons.injEq] at h
  cases n with
  | zero => rfl
  | succ n =>
   simp only [startOf]
   rw [vsize1_shp, vsize1_shp, h.1, startOf_shps n h.2]
theorem nth_shps : ∀ {ps qs : List V} (n : Nat), shps ps = shps qs → (nth ps n).map shp = (nth qs n).map shp
 | [], [], n, _ => rfl
 | [], _ :: _, _, h => by simp [shps] at h
 | _ :: _, [], _, h => by simp [shps] at h
 | p :: ps, q :: qs, n, h => by
  simp only [shps, List.map_cons, List.cons.injEq] at h
  cases n with
  | zero => simp [nth, h.1]
  | succ n =>
   simp only [nth]
   exact nth_shps n h.2
theorem dropN_shps : ∀ {ps qs : List V} (n : Nat), shps ps = shps qs → shps (dropN ps n) = shps (dropN qs n)
 | [], [], n, _ => rfl
 | [], _ :: _, _, h => by simp [shps] at h
 | _ :: _, [], _, h => by simp [shps] at h
 | p :: ps, q :: qs, n, h => by
  cases n with
  | zero => exact h
  | succ n =>
   simp only [shps, List.map_cons, List.cons.injEq] at h
   simp only [dropN]
   exact dropN_shps n h.2
theorem pOk_shps {ps qs : List V} {pi rel ext : Nat} (h : shps ps = shps qs) (hp : pOk ps pi rel ext) : pOk qs pi rel ext := by
 rcases hp with ⟨p, h1, h2⟩ | ⟨h1, h2⟩
 ·left
  have := nth_shps pi h
  rw [h1] at this
  cases hq : nth qs pi with
  | none => simp [hq] at this
  | some q =>
   simp only [hq, Option.map_some, Option.some.injEq] at this
   exact ⟨q, rfl, by rw [vsize1_shp, ← this, ← vsize1_shp]; exact h2⟩
 ·right
  exact ⟨h1, by rw [← psize_shps (dropN_shps pi h)]; exact h2⟩
structure Tx (ent : Nat → Ent) (σ : Sg) (w : World) (ent' : Nat → Ent) (σ' : Sg) (w' : World) : Prop where
 dom : ∀ id, ent id ≠ .none → ent' id ≠ .none
 box : ∀ id ps', ent id ≠ .none → ent' id = .box ps' → ∃ ps, ent id = .box ps ∧ shps ps = shps ps' ∧ σ' id = σ id
 row : ∀ id e xs', ent id ≠ .none → ent' id = .row e xs' → ∃ xs, ent id = .row e xs ∧ xs'.length = xs.length ∧ (∀ i x', nth xs' i = some x' → ∃ x, nth xs i = some x ∧ shps (partsOf x) = shps (partsOf x')) ∧ σ' id = σ id
 map : ∀ id ks' vs', ent id ≠ .none → ent' id = .map ks' vs' → (∃ ks vs, ent id = .map ks vs) ∧ σ' id = σ id
 ok : Moved w w' (okB ent σ w) (okB ent' σ' w')
theorem Tx.refl (ent : Nat → Ent) (σ : Sg) (w : World) : Tx ent σ w ent σ w :=
 ⟨fun _ h => h, fun id ps _ h => ⟨ps, h, rfl, rfl⟩, fun id e xs _ h => ⟨xs, h, rfl, fun i x hx => ⟨x, hx, rfl⟩, rfl⟩, fun id ks vs _ h => ⟨⟨ks, vs, h⟩, rfl⟩, fun b h => ⟨h, rfl⟩⟩
section
variable {E : Env} {ent ent' : Nat → Ent} {σ σ' : Sg} {w w' : World}
mutual
theorem RO1_move (hx : Tx ent σ w ent' σ' w') : ∀ (v : V) (cs : List Value), RO1 E ent σ w v cs → RO1 E ent' σ' w' v cs
 | .ptr id pi rel ext, cs, h => by
  simp only [RO1] at h ⊢
  obtain ⟨u, h1, h2, h3, h4⟩ := h
  refine ⟨u, h1, h2, hx.dom id h3, fun ps' hp' => ?_⟩
  obtain ⟨ps, hp, hs, he⟩ := hx.box id ps' h3 hp'
  obtain ⟨b, hb, hu, hok⟩ := h4 ps hp
  exact ⟨b, by rw [he]; exact hb, by rw [← startOf_shps pi hs]; exact hu, pOk_shps hs hok⟩
 | .elem id i pi rel ext, cs, h => by
  simp only [RO1] at h ⊢
  obtain ⟨u, h1, h2, h3, h4⟩ := h
  refine ⟨u, h1, h2, hx.dom id h3, fun e xs' hp' => ?_⟩
  obtain ⟨xs, hp, hl, hs, he⟩ := hx.row id e xs' h3 hp'
  obtain ⟨hi, b, n, c, hb, hu⟩ := h4 e xs hp
  refine ⟨by omega, b, n, c, by rw [he]; exact hb, fun x' hx' => ?_⟩
  obtain ⟨x, hx1, hx2⟩ := hs i x' hx'
  obtain ⟨hu1, hu2⟩ := hu x hx1
  exact ⟨by rw [← startOf_shps pi hx2]; exact hu1, pOk_shps hx2 hu2⟩
 | .arr id pi rel n sz, cs, h => by
  simp only [RO1] at h ⊢
  obtain ⟨u, h1, h2, h3, h4⟩ := h
  refine ⟨u, h1, h2, hx.dom id h3, fun ps' hp' => ?_⟩
  obtain ⟨ps, hp, hs, he⟩ := hx.box id ps' h3 hp'
  obtain ⟨b, cap, hb, hu, hn, k, m, c, hk, hle⟩ := h4 ps hp
  refine ⟨b, cap, by rw [he]; exact hb, by rw [← startOf_shps pi hs]; exact hu, hn, ?_⟩
  have := nth_shps pi hs
  rw [hk] at this
  cases hq : nth ps' pi with
  | none => simp [hq] at this
  | some q =>
   simp only [hq, Option.map_some, Option.some.injEq, shp] at this
   cases q <;> simp at this
   rename_i k' m' c'
   exact ⟨k', m', c', rfl, by omega⟩
 | .row id, cs, h => by
  simp only [RO1] at h ⊢
  obtain ⟨u, h1, h2, h3, h4⟩ := h
  refine ⟨u, h1, h2, hx.dom id h3, fun e xs' hp' => ?_⟩
  obtain ⟨xs, hp, _, _, he⟩ := hx.row id e xs' h3 hp'
  rw [he]; exact h4 e xs hp
 | .mp id, cs, h => by
  simp only [RO1] at h ⊢
  obtain ⟨u, h1, h2, h3, h4⟩ := h
  refine ⟨u, h1, h2, hx.dom id h3, fun ks' vs' hp' => ?_⟩
  obtain ⟨⟨ks, vs, hp⟩, he⟩ := hx.map id ks' vs' h3 hp'
  rw [he]; exact h4 ks vs hp
 | .clo f caps, cs, h => by
  simp only [RO1] at h ⊢
  obtain ⟨cv, h1, h2⟩ := h
  exact ⟨cv, h1, RTL_move hx caps cv h2⟩
 | .parts ps, cs, h => by simp only [RO1] at h
 | .int .., cs, h => by simp only [RO1] at h ⊢; exact RF_move hx.ok _ _ h
 | .bool .., cs, h => by simp only [RO1] at h ⊢; exact RF_move hx.ok _ _ h
 | .str .., cs, h => by simp only [RO1] at h ⊢; exact RF_move hx.ok _ _ h
 | .ints .., cs, h => by simp only [RO1] at h ⊢; exact RF_move hx.ok _ _ h
 | .nils, cs, h => by simp only [RO1] at h ⊢; exact RF_move hx.ok _ _ h
 | .nilp, cs, h => by simp only [RO1] at h ⊢; exact RF_move hx.ok _ _ h
 | .nilf, cs, h => by simp only [RO1] at h ⊢; exact RF_move hx.ok _ _ h
 | .nilm, cs, h => by simp only [RO1] at h ⊢; exact RF_move hx.ok _ _ h
 | .sl .., cs, h => by simp only [RO1] at h ⊢; exact RF_move hx.ok _ _ h
 | .ref .., cs, h => by simp only [RO1] at h ⊢; exact RF_move hx.ok _ _ h
 | .mapc .., cs, h => by simp only [RO1] at h ⊢; exact RF_move hx.ok _ _ h
 | .tup .., cs, h => by simp only [RO1] at h ⊢; exact RF_move hx.ok _ _ h
 | .fresh .., cs, h => by simp only [RO1] at h ⊢; exact RF_move hx.ok _ _ h
 | .und, cs, h => by simp only [RO1] at h ⊢; exact RF_move hx.ok _ _ h
 | .dead, cs, h => by simp only [RO1] at h ⊢; exact RF_move hx.ok _ _ h
theorem ROL_move (hx : Tx ent σ w ent' σ' w') : ∀ (ps : List V) (cs : List Value), ROL E ent σ w ps cs → ROL E ent' σ' w' ps cs
 | [], cs, h => by simpa only [ROL] using h
 | p :: ps, cs, h => by
  simp only [ROL] at h ⊢
  obtain ⟨a, b, h1, h2, h3⟩ := h
  exact ⟨a, b, h1, RO1_move hx p a h2, ROL_move hx ps b h3⟩
theorem RTL_move (hx : Tx ent σ w ent' σ' w') : ∀ (vs : List V) (us : List Value), RTL E ent σ w vs us → RTL E ent' σ' w' vs us
 | [], us, h => by simpa only [RTL] using h
 | v :: vs, us, h => by
  rw [RTL_cons] at h ⊢
  obtain ⟨u, l, h1, h2, h3⟩ := h
  refine ⟨u, l, h1, ?_, RTL_move hx vs l h3⟩
  have key := fun cs => RO1_move hx v cs
  match v, h2, key with
  | .parts ps, h2, _ =>
   obtain ⟨cs, h4, h5⟩ := h2
   exact ⟨cs, h4, ROL_move hx ps _ h5⟩
  | .ints k n c, h2, _ => exact h2
  | .int .., h2, key => exact ⟨h2.1, key _ h2.2⟩
  | .bool .., h2, key => exact ⟨h2.1, key _ h2.2⟩
  | .str .., h2, key => exact ⟨h2.1, key _ h2.2⟩
  | .tup .., h2, key => exact ⟨h2.1, key _ h2.2⟩
  | .nils, h2, key => exact ⟨h2.1, key _ h2.2⟩
  | .nilp, h2, key => exact ⟨h2.1, key _ h2.2⟩
  | .nilf, h2, key => exact ⟨h2.1, key _ h2.2⟩
  | .nilm, h2, key => exact ⟨h2.1, key _ h2.2⟩
  | .sl .., h2, key => exact ⟨h2.1, key _ h2.2⟩
  | .fresh .., h2, key => exact ⟨h2.1, key _ h2.2⟩
  | .ref .., h2, key => exact ⟨h2.1, key _ h2.2⟩
  | .clo .., h2, key => exact ⟨h2.1, key _ h2.2⟩
  | .ptr .., h2, key => exact ⟨h2.1, key _ h2.2⟩
  | .elem .., h2, key => exact ⟨h2.1, key _ h2.2⟩
  | .arr .., h2, key => exact ⟨h2.1, key _ h2.2⟩
  | .row .., h2, key => exact ⟨h2.1, key _ h2.2⟩
  | .mp .., h2, key => exact ⟨h2.1, key _ h2.2⟩
  | .mapc .., h2, key => exact ⟨h2.1, key _ h2.2⟩
  | .und, h2, key => exact ⟨h2.1, key _ h2.2⟩
  | .dead, h2, key => exact ⟨h2.1, key _ h2.2⟩
end
theorem RTc_move (hx : Tx ent σ w ent' σ' w') (v : V) (u : Value) (h : RTc E ent σ w v u) : RTc E ent' σ' w' v u := by
 cases v with
 | parts ps =>
  obtain ⟨cs, h1, h2⟩ := h
  exact ⟨cs, h1, ROL_move hx ps _ h2⟩
 | ints k n c => exact h
 | _ => exact ⟨h.1, RO1_move hx _ _ h.2⟩
theorem RT_move (hx : Tx ent σ w ent' σ' w') (v : V) (u : Value) (h : RT E ent σ w v u) : RT E ent' σ' w' v u := by
 cases v with
 | dead => trivial
 | und => exact h
 | tup vs =>
  obtain ⟨us, h1, h2⟩ := h
  exact ⟨us, h1, RTL_move hx vs _ h2⟩
 | _ => (unfold RT at h ⊢; exact RTc_move hx _ _ h)
theorem RRow_move {sz : Nat} (hm : Moved w w' (okB ent σ w) (okB ent' σ' w')) : ∀ (xs : List V) (cs : List Value), RRow ent σ w sz xs cs → RRow ent' σ' w' sz xs cs
 | [], cs, h => h
 | x :: xs, cs, h => by
  obtain ⟨a, b, h1, h2, h3, h4⟩ := h
  exact ⟨a, b, h1, h2, RF_move hm x a h3, RRow_move hm xs b h4⟩
end
end Go.Proofs.YthdnamhilcjnhaaGreatDoor
