/- Appends. -/
import Derived.Test.YthdnamhilcjnhaaGreatDoorRs10
namespace Go.Proofs.YthdnamhilcjnhaaGreatDoor
open Go Go.RowKit
set_option linter.unusedVariables false
set_option linter.unusedSimpArgs false
section
variable {E : Env} {P : Program} {keep : Nat → Prop} {w0 : World} {σ : Sg} {w : World} {st : St} {a : Act} {o : Oper} {v : V} {es : List (Nat × Ent)} {call : Nat → List V → Option V} {ent : Nat → Ent}
theorem RFL_cells {ok : Nat → Prop} : ∀ (ps : List V) (cs : List Value), RFL w ok ps cs → ∀ c ∈ cs, c.oneCell' = true
 | [], cs, h => by simp only [RFL] at h; subst h; intro c hc; cases hc
 | p :: ps, cs, h => by
  simp only [RFL] at h
  obtain ⟨a1, b1, rfl, h0, h1, h2⟩ := h
  intro c hc
  rcases List.mem_append.1 hc with hc | hc
  ·exact RF_cells p a1 h0 h1 c hc
  ·exact RFL_cells ps b1 h2 c hc
theorem RF_all {ok : Nat → Prop} (x : V) (cs : List Value) (h : RF w ok x cs) : ∀ c ∈ cs, c.oneCell' = true := by
 cases x with
 | parts ps => simp only [RF] at h; exact RFL_cells ps cs h
 | _ => exact RF_cells _ cs rfl h
theorem RRow_cells {sz : Nat} : ∀ (xs : List V) (cs : List Value), RRow ent σ w sz xs cs → (∀ c ∈ cs, c.oneCell' = true) ∧ cs.length = xs.length * sz
 | [], cs, h => by simp only [RRow] at h; subst h; simp
 | x :: xs, cs, h => by
  simp only [RRow] at h
  obtain ⟨a1, b1, rfl, h1, h2, h3⟩ := h
  obtain ⟨h4, h5⟩ := RRow_cells xs b1 h3
  refine ⟨fun c hc => ?_, by rw [List.length_append, h1, h5, List.length_cons, Nat.succ_mul, Nat.add_comm]⟩
  rcases List.mem_append.1 hc with hc | hc
  ·exact RF_all x a1 h2 c hc
  ·exact h4 c hc
theorem RRow_append {sz : Nat} : ∀ (xs ys : List V) (as bs : List Value), RRow ent σ w sz xs as → RRow ent σ w sz ys bs → RRow ent σ w sz (xs ++ ys) (as ++ bs)
 | [], ys, as, bs, h, h' => by simp only [RRow] at h; subst h; simpa using h'
 | x :: xs, ys, as, bs, h, h' => by
  simp only [RRow] at h
  obtain ⟨a1, b1, rfl, h1, h2, h3⟩ := h
  simp only [List.cons_append, RRow]
  exact ⟨a1, b1 ++ bs, by simp, h1, h2, RRow_append xs ys b1 bs h3 h'⟩
theorem RE_row {sz : Nat} : ∀ (xs : List V) (b o sz' : Nat), RE w (okB ent σ w) xs b o sz' → sizesOk sz xs = true → ∃ cells : List Value, cellsAt w b o cells ∧ RRow ent σ w sz xs cells
 | [], b, o, sz', _, _ => ⟨[], by intro j u h; simp at h, rfl⟩
 | x :: xs, b, o, sz', h, hs => by
  simp only [RE] at h
  obtain ⟨⟨us, h1, h2, h3⟩, h4⟩ := h
  simp only [sizesOk] at hs
  split at hs
  ·rename_i hsz
   have hsz : psize (partsOf x) = sz := Nat.eq_of_beq_eq_true hsz
   have hl := RF_size x us h2
   have : sz' = sz := by omega
   subst this
   obtain ⟨cells, h5, h6⟩ := RE_row xs b (o + sz') sz' h4 hs
   refine ⟨us ++ cells, ?_, ?_⟩
   ·intro j u hj
    rw [List.getElem?_append] at hj
    split at hj
    ·exact h3 j u hj
    ·rename_i hlt
     have := h5 _ u hj
     rwa [Nat.add_assoc, show sz' + (j - us.length) = j by omega] at this
   ·simp only [RRow]
    exact ⟨us, cells, rfl, h1, h2, h6⟩
  ·cases hs
theorem rowE_sound (hr : HR E keep w0 st.ent σ w) {x : V} {u : Value} {e : Nat} {ys : List V} {look : Bool} (hx : RT E st.ent σ w x u) (h : rowE st e x = some (ys, look)) (hl : lookOk (E.sz e) look ys = true) :
 ∃ A cap, u = .slice A ys.length cap ∧ (ys = [] ∨ ∃ b o news, A = some ⟨b, o, none⟩ ∧ cellsAt w b o news ∧ RRow st.ent σ w (E.sz e) ys news) := by
 unfold rowE at h
 split at h
 ·simp only [Option.some.injEq, Prod.mk.injEq] at h
  obtain ⟨rfl, rfl⟩ := h
  have hx2 : RO1 E st.ent σ w (.sl _) [u] := hx.2
  simp only [RO1, RF] at hx2
  obtain ⟨A, cap, h1, h2, h3⟩ := hx2
  simp only [List.cons.injEq, and_true] at h1
  refine ⟨A, cap, h1, ?_⟩
  rcases h3 with h3 | ⟨b, o', sz, h4, h5, h6⟩
  ·exact .inl h3
  ·obtain ⟨cells, h7, h8⟩ := RE_row _ b o' sz h6 hl
   exact .inr ⟨b, o', cells, h4, h7, h8⟩
 ·simp only [Option.some.injEq, Prod.mk.injEq] at h
  obtain ⟨rfl, rfl⟩ := h
  have hx2 : RO1 E st.ent σ w .nils [u] := hx.2
  simp only [RO1, RF, List.cons.injEq, and_true] at hx2
  exact ⟨none, 0, hx2, .inl rfl⟩
 ·rename_i id
  split at h
  ·rename_i e' xs hp
   split at h
   ·rename_i hee
    have hee : e = e' := Nat.eq_of_beq_eq_true hee
    subst hee
    simp only [Option.some.injEq, Prod.mk.injEq] at h
    obtain ⟨rfl, rfl⟩ := h
    have hu := RT_row hr hx hp
    have he := hr.ents id
    unfold EntR at he
    rw [hp] at he
    obtain ⟨cells, h1, h2, h3⟩ := he
    rcases h1.2 with ⟨h4, h5⟩ | ⟨g, cap, cur, h4, h5, h6, h7, h8, h9, h10⟩
    ·exact ⟨none, 0, by rw [hu, h4, h5], .inl (List.eq_nil_of_length_eq_zero h5)⟩
    ·refine ⟨_, cap, by rw [hu, h4], .inr ⟨g, 0, cells, rfl, ?_, h2⟩⟩
     intro j u' hj
     have := h1.cells (g := g) (by rw [h4]; rfl) j u' hj
     rwa [addr_add] at this
   ·cases h
  ·cases h
 ·cases h
theorem append_run (hE : EnvOk E P) {t e : Nat} {ty ety : TyI} (ht : E.ty t = some ty) (hd : ty.d = .sl e) (hety : E.ty e = some ety) (hs : 0 < ety.size) (hb : 0 < ety.bytes) (rt : TypeId)
 {v : Value} {n : Nat} {cells : List Value} (hown : w.ownsRow 0 e (E.sz e) v n cells) {A : Option Addr} {m cap : Nat} {ys : List V} (hm : m = ys.length)
 (hy : ys = [] ∨ ∃ b o news, A = some ⟨b, o, none⟩ ∧ cellsAt w b o news ∧ RRow ent σ w (E.sz e) ys news) (hbytes : (n + m) * ety.bytes ≤ 140737488355328) :
 ∃ v' w' news, (Builtin.append_ #[t, t] rt #[v, .slice A m cap]).run P w = .ok v' w' ∧ w'.ownsRow 0 e (E.sz e) v' (n + m) (cells ++ news) ∧ w.grownBy w' v.ownBlock ∧
  (v'.ownBlock = v.ownBlock ∨ v'.ownBlock = some w.heap.size) ∧ RRow ent σ w (E.sz e) ys news := by
 obtain ⟨d, i0, z0, hd1, hd2, _⟩ := hE.ty t ty ht
 rw [hd] at hd2
 cases d <;> simp only [tyD] at hd2
 rw [hd2] at hd1
 obtain ⟨d, i, z, k1, k2, k3, k4, k5, k6, k7, _⟩ := hE.ty _ ety hety
 have hsz := sz_eq hety
 rw [hsz] at hown ⊢
 have h63 : n + m ≤ maxLen := by
  have : n + m ≤ (n + m) * ety.bytes := Nat.le_mul_of_pos_right _ hb
  simp only [maxLen]; omega
 have useA : ∀ (a : Addr) (news : List Value), A = some a → news.length = m * ety.size → (∀ j u, news[j]? = some u → w.cell? (a.add j) = some u) → RRow ent σ w ety.size ys news →
  ∃ v' w' news, (Builtin.append_ #[t, t] rt #[v, .slice A m cap]).run P w = .ok v' w' ∧ w'.ownsRow 0 e ety.size v' (n + m) (cells ++ news) ∧ w.grownBy w' v.ownBlock ∧
  (v'.ownBlock = v.ownBlock ∨ v'.ownBlock = some w.heap.size) ∧ RRow ent σ w ety.size ys news := by
  intro a news hA hl hn hrow
  subst hA
  obtain ⟨v', w', h1, h2, h3, _, h4⟩ := run_append_own_at (P := P) w 0 t rt e i z ety.size ety.bytes hd1 k3 k6 k4 k5 k7 hs v n cells hown a m cap news hl hn (RRow_cells _ _ hrow).1 h63 hbytes (Nat.zero_le _)
  exact ⟨v', w', news, h1, h2, h3, h4, hrow⟩
 rcases hy with hy | ⟨b, o', news, hA, hc, hrow⟩
 ·subst hy
  simp only [List.length_nil] at hm
  subst hm
  cases A with
  | some a => exact useA a [] rfl (by simp) (by intro j u h; simp at h) rfl
  | none =>
   refine ⟨v, w, [], ?_, by simpa using hown, ⟨rfl, rfl, rfl, Nat.le_refl _, fun _ _ _ => rfl⟩, .inl rfl, rfl⟩
   rcases hown.2 with ⟨rfl, rfl⟩ | ⟨g, cap, cur, rfl, _, _, hnc, _⟩
   ·simp [Builtin.append_, run_underlying hd1, sizeOf, typeInfo, k3, Builtin.lenOf, Builtin.firstCells]
   ·simp [Builtin.append_, run_underlying hd1, sizeOf, typeInfo, k3, Builtin.lenOf, Builtin.firstCells, hnc, storeCells]
 ·rw [hsz] at hrow
  refine useA _ news hA ?_ (fun j u hj => ?_) hrow
  ·rw [(RRow_cells _ _ hrow).2, hm]
  ·rw [addr_add]; exact hc j u hj
theorem own_slice {e sz n : Nat} {v : Value} {cells : List Value} (h : w.ownsRow 0 e sz v n cells) : v.oneCell' = true ∧ blk v = v.ownBlock := by
 rcases h.2 with ⟨rfl, _⟩ | ⟨g, cap, cur, rfl, _⟩
 ·exact ⟨rfl, rfl⟩
 ·exact ⟨rfl, rfl⟩
theorem run_append_make (t it ty e : TypeId) (i : TypeInfo) (z : Value) (k' : IntKind) (ht : P.underlying t = some (.slice e)) (hit : P.underlying it = some (.int k')) (hi : P.info? e = some i) (hz : i.zero = some z) (n : Int) (h0 : 0 < n) (hs : 0 < i.size) (hb : 0 < i.bytes) (h48 : n.toNat * i.bytes ≤ 140737488355328) :
 (Builtin.append_ #[t, it] ty #[.slice none 0 0, .int .i64 n]).run P w = .ok (.slice (some ⟨w.heap.size, 0, none⟩) n.toNat (grownCap w n.toNat 0 e)) (w.drew.alloc (.cells (Builtin.zeroCells z.cells n.toNat ++ Builtin.zeroCells z.cells (grownCap w n.toNat 0 e - n.toNat)) e)) := by
 have hle : n.toNat ≤ n.toNat * i.bytes := Nat.le_mul_of_pos_right _ hb
 have hw : IntKind.i64.wrap n = n := IntWalk.i64_in _ (by omega)
 have hneg : ¬ (n < 0) := by omega
 have hnn : ((n.toNat : Nat) : Int) = n := Int.toNat_of_nonneg (by omega)
 have hn : ¬ n.toNat = 0 := by omega
 have hbig : ¬ (281474976710656 < n * (i.bytes : Int)) := by
  rw [← hnn, ← Int.natCast_mul]; omega
 have h63 : ¬ (9223372036854775807 < ((n.toNat : Nat) : Int)) := by omega
 have h48' : ¬ (281474976710656 < Builtin.nextslicecap n.toNat 0 * i.bytes) := by rw [nextslicecap_zero (by omega)]; omega
 have hz0 : ¬ (n.toNat * i.size = 0) := by
  have := Nat.mul_pos (show 0 < n.toNat by omega) hs
  omega
 have hn2 : ¬ n ≤ 0 := by omega
 have hs0 : ¬ i.size = 0 := by omega
 have hmax : max n 0 = n := by omega
 have h63b : ¬ (9223372036854775807 < n) := by omega
 simp [Builtin.append_, run_underlying ht, run_underlying hit, sizeOf, typeInfo, zeroValue, hi, hz, asInt, asIntOf, hw, hneg, hbig, hn, hn2, hs0, hmax, h63b, h63, h48', Question.forced, run_firstCells_none, newRow, grownCap]
 intro h
 exact absurd h hz0
theorem op_appMk (hE : EnvOk E P) (hr : HR E keep w0 st.ent σ w) {t t' rt : Nat} {ty : TyI} (hty : E.ty t = some ty) {id : Nat} (hn : st.ent id = .none) {s x : V} {us ux : Value} (hs : RT E st.ent σ w s us) (hx : RT E st.ent σ w x ux) (h : (appMk E id ty t' s x).eval = some (v, es)) {r : Result Next}
 (hres : ∀ v' w', (Builtin.append_ #[t, t'] rt #[us, ux]).run P w = .ok v' w' → r = .ok (.value v') w') : Done E keep w0 st.ent σ w r v es := by
 unfold appMk at h
 split at h
 ·rename_i e k n hd
  split at h
  ·rename_i ity z ety hk hity hz hety
   have hk := of_decide_eq_true hk
   subst hk
   split at h
   ·rename_i k' hid hs0 hb0
    have hs0 : 0 < ety.size := by simpa [Nat.blt_eq] using hs0
    have hb0 : 0 < ety.bytes := by simpa [Nat.blt_eq] using hb0
    simp only [Tr.eval] at h
    split at h
    ·rename_i hck
     simp only [Bool.and_eq_true, decide_eq_true_eq] at hck
     simp only [Option.some.injEq, Prod.mk.injEq] at h
     obtain ⟨rfl, rfl⟩ := h
     have hus : us = .slice none 0 0 := by have := hs.2; simpa [RO1, RF] using this
     have hux := RT_int hx
     obtain ⟨i, zv, h3, h4, h5, h6, h7, h8⟩ := zeroV_RF hE hety hz w (okB st.ent σ w)
     obtain ⟨d, _, _, hd1, hd2, _⟩ := hE.ty t ty hty
     rw [hd] at hd2
     cases d <;> simp only [tyD] at hd2
     rw [hd2] at hd1
     obtain ⟨d', _, _, hi1, hi2, _⟩ := hE.ty t' ity hity
     rw [hid] at hi2
     cases d' <;> simp only [tyD] at hi2
     have hsz := sz_eq hety
     have hle : n.toNat ≤ n.toNat * ety.bytes := Nat.le_mul_of_pos_right _ hb0
     have hrun := run_append_make (P := P) (w := w) t t' rt _ i zv _ hd1 hi1 h3 h4 n hck.1 (by rw [h5]; exact hs0) (by rw [h6]; exact hb0) (by rw [h6]; exact hck.2)
     rw [← hus, ← hux] at hrun
     have hge := grownCap_ge w n.toNat 0 e
     have hcm := grownCap_le_maxLen w n.toNat 0 e (by simp only [maxLen]; omega)
     have hzc : (Builtin.zeroCells zv.cells n.toNat).toList = (madeCells zv.cells (n.toNat * zv.cells.size)).toList := rfl
     refine Done.row hr (u := .slice (some ⟨w.heap.size, 0, none⟩) n.toNat (grownCap w n.toNat 0 e)) (cells := (Builtin.zeroCells zv.cells n.toNat).toList) (hres _ _ hrun) hn ⟨rfl, rfl, rfl, by simp, fun k hk _ => heap_alloc_old w.drew _ hk⟩ ?_ rfl ?_ ?_
     ·intro b hb
      simp only [blk, Option.some.injEq] at hb
      omega
     ·rw [hsz, List.length_replicate]
      have hl : (Builtin.zeroCells zv.cells n.toNat).toList.length = n.toNat * ety.size := by rw [Array.length_toList, size_zeroCells, h7]
      refine ⟨hl, .inr ⟨w.heap.size, _, _, rfl, Nat.zero_le _, heap_alloc_new w.drew _, by simpa using hge, hcm, ?_, ?_⟩⟩
      ·simp only [Array.size_append, size_zeroCells, h7, ← Nat.add_mul]
       congr 1
       omega
      ·rw [Array.toList_append, ← hl]
       exact List.take_left
     ·rw [hsz, hzc, made_eq _ _ (by omega), ← h7]
      exact RRow_rep h8 (by simp) _
    ·cases h
   ·simp [Tr.eval] at h
  ·simp [Tr.eval] at h
 ·simp [Tr.eval] at h
theorem op_append (hE : EnvOk E P) (hr : HR E keep w0 st.ent σ w) (hf : FRel E st.ent σ w st a) (c : Call) (hc : c.callee = .builtin .append) (ho : o.op = .call c) (h : (stepOp E call o st).eval = some (v, es)) :
 Done E keep w0 st.ent σ w ((execOp a.eval o).run P w) v es := by
 simp only [stepOp, ho, hc] at h
 split at h
 ·rename_i s x t t' hargs htys
  have hargs := arr_two hargs
  have htys := arr_two htys
  have hs := ev_RT (E := E) hf 0 s
  have hx := ev_RT (E := E) hf 0 x
  split at h
  ·rename_i ty hty htt hn
   have htt : t = t' := Nat.eq_of_beq_eq_true htt
   subst htt
   split at h
   ·rename_i e hd
    split at h
    ·rename_i ety xs b1 ys look hety hxs hys
     split at h
     ·rename_i hs0 hb0
      have hs0 : 0 < ety.size := by simpa [Nat.blt_eq] using hs0
      have hb0 : 0 < ety.bytes := by simpa [Nat.blt_eq] using hb0
      have hsz := sz_eq hety
      unfold Tr.eval at h
      split at h
      ·rename_i hck
       have hck := of_decide_eq_true hck
       unfold Tr.eval at h
       split at h
       ·rename_i hlook
        obtain ⟨A, cap, hu, hy⟩ := rowE_sound hr hx hys (by rw [hsz]; exact hlook)
        have hres : ∀ v' w', (Builtin.append_ #[t, t] o.type #[a.eval s, a.eval x]).run P w = .ok v' w' → (execOp a.eval o).run P w = .ok (.value v') w' := by
         intro v' w' h1
         simp [execOp, ho, hc, resolve, invoke, builtin, hargs, htys, h1]
        split at h
        ·rename_i i hsv
         simp only [Tr.eval, Option.some.injEq, Prod.mk.injEq] at h
         obtain ⟨rfl, rfl⟩ := h
         rw [hsv] at hs hxs
         unfold rowE at hxs
         simp only at hxs
         split at hxs
         ·rename_i e' xs' hp
          split at hxs
          ·rename_i hee
           have hee : e = e' := Nat.eq_of_beq_eq_true hee
           subst hee
           simp only [Option.some.injEq, Prod.mk.injEq] at hxs
           obtain ⟨rfl, rfl⟩ := hxs
           have hsu := RT_row hr hs hp
           have he := hr.ents i
           unfold EntR at he
           rw [hp] at he
           obtain ⟨cells, k1, k2, k3⟩ := he
           obtain ⟨v', w', news, h1, h2, h3, h4, h5⟩ := append_run (ent := st.ent) (σ := σ) hE hty hd hety hs0 hb0 o.type k1 (A := A) (cap := cap) rfl hy hck
           rw [← hu, ← hsu] at h1
           obtain ⟨hv1, hv2⟩ := own_slice h2
           obtain ⟨hv3, hv4⟩ := own_slice k1
           have hne : i ≠ ownId o := by
            intro h6
            rw [h6] at hp
            rw [hp] at hn
            cases hn
           have hblk : ∀ b, blk v' = some b → w.heap.size ≤ b ∨ blk (σ i) = some b := by
            intro b hb
            rw [hv2] at hb
            rcases h4 with h4 | h4
            ·right; rw [hv4, ← h4]; exact hb
            ·left; rw [h4] at hb; simp only [Option.some.injEq] at hb; omega
           refine Done.chg hr (nx := .value v') (u := v') (w' := w') (σ' := σ.set (ownId o) v') (hres _ _ h1) (.inl rfl) ?_ ?_ ?_
           ·refine ⟨h3.os, h3.tape, h3.output, h3.size, rfl, ?_, ?_, ?_, ?_, ?_, ?_, ?_, ?_⟩
            ·intro j hj
             refine Sg.set_other σ _ fun h => ?_
             subst h
             rw [find_self] at hj; cases hj
            ·intro k hk hne2
             refine h3.block k hk fun h => ?_
             refine hne2 i .tomb ?_ (by rw [hp]; rfl) (by rw [hv4, ← h])
             rw [find_other hne, find_self]
            ·intro j e2 b hj hl hb
             by_cases hji : j = ownId o
             ·subst hji
              rw [Sg.set_self] at hb
              rcases hblk b hb with h | h
              ·exact .inl h
              ·exact .inr ⟨i, .tomb, by rw [find_other hne, find_self], by rw [hp]; rfl, h⟩
             ·rw [find_other hji] at hj
              obtain ⟨rfl, rfl⟩ := find_one hj
              simp [Ent.live] at hl
            ·intro j k e2 e3 b hjk hj hk hl hl'
             by_cases hji : j = ownId o
             ·rw [find_other (by omega)] at hk
              obtain ⟨rfl, rfl⟩ := find_one hk
              simp [Ent.live] at hl'
             ·rw [find_other hji] at hj
              obtain ⟨rfl, rfl⟩ := find_one hj
              simp [Ent.live] at hl
            ·intro j e2 hj
             by_cases hji : j = ownId o
             ·subst hji
              rw [find_self] at hj
              simp only [Option.some.injEq] at hj
              subst hj
              simp
             ·rw [find_other hji] at hj
              obtain ⟨rfl, rfl⟩ := find_one hj
              simp
            ·intro j ps' hj hnn
             by_cases hji : j = ownId o
             ·subst hji; exact absurd hn hnn
             ·rw [find_other hji] at hj
              obtain ⟨_, h⟩ := find_one hj
              cases h
            ·intro j e2 xs' hj hnn
             by_cases hji : j = ownId o
             ·subst hji; exact absurd hn hnn
             ·rw [find_other hji] at hj
              obtain ⟨_, h⟩ := find_one hj
              cases h
            ·intro j ks vs hj hnn
             by_cases hji : j = ownId o
             ·subst hji; exact absurd hn hnn
             ·rw [find_other hji] at hj
              obtain ⟨_, h⟩ := find_one hj
              cases h
           ·intro htx j e2 hj
            by_cases hji : j = ownId o
            ·subst hji
             rw [find_self] at hj
             simp only [Option.some.injEq] at hj
             subst hj
             unfold EntR
             rw [updE_some find_self]
             refine ⟨cells ++ news, by rw [Sg.set_self, List.length_append]; exact h2, RRow_move htx.ok _ _ (RRow_append _ _ _ _ k2 h5), fun b hb hk => ?_⟩
             rw [Sg.set_self] at hb
             rcases hblk b hb with h | h
             ·have := hr.klt b hk
              have := hr.kept.size
              omega
             ·exact k3 b h hk
            ·rw [find_other hji] at hj
             obtain ⟨rfl, rfl⟩ := find_one hj
             unfold EntR
             rw [updE_some (by rw [find_other hji, find_self])]
             trivial
           ·intro htx
            refine ⟨hv1, ?_⟩
            show RO1 E _ _ _ (.row _) _
            simp only [RO1]
            exact ⟨v', rfl, hv1, by rw [updE_some find_self]; simp, fun e' xs' _ => (Sg.set_self _ _ _).symm⟩
          ·cases hxs
         ·cases hxs
        ·rename_i hsv
         simp only [Tr.eval, Option.some.injEq, Prod.mk.injEq] at h
         obtain ⟨rfl, rfl⟩ := h
         rw [hsv] at hs hxs
         simp only [rowE, Option.some.injEq, Prod.mk.injEq] at hxs
         obtain ⟨rfl, rfl⟩ := hxs
         have hsu : a.eval s = .slice none 0 0 := by have := hs.2; simpa [RO1, RF] using this
         obtain ⟨v', w', news, h1, h2, h3, h4, h5⟩ := append_run (ent := st.ent) (σ := σ) hE hty hd hety hs0 hb0 o.type (World.ownsRow_nil w 0 e (E.sz e)) (A := A) (cap := cap) rfl hy hck
         rw [← hu, ← hsu] at h1
         obtain ⟨hv1, hv2⟩ := own_slice h2
         refine Done.row hr (hres _ _ h1) hn h3 ?_ hv1 (by simpa using h2) h5
         intro b hb
         rw [hv2] at hb
         rcases h4 with h4 | h4
         ·rw [h4] at hb; simp [Value.ownBlock] at hb
         ·rw [h4] at hb; simp only [Option.some.injEq] at hb; omega
        ·simp [Tr.eval] at h
       ·cases h
      ·cases h
     ·simp [Tr.eval] at h
    ·simp [Tr.eval] at h
   ·simp [Tr.eval] at h
  ·rename_i ty hty htt hn
   refine op_appMk (rt := o.type) hE hr hty hn hs hx h fun v' w' h1 => ?_
   simp [execOp, ho, hc, resolve, invoke, builtin, hargs, htys, h1]
  ·simp [Tr.eval] at h
 ·simp [Tr.eval] at h
theorem op_cap (hE : EnvOk E P) (hr : HR E keep w0 st.ent σ w) (hf : FRel E st.ent σ w st a) (c : Call) (hc : c.callee = .builtin .cap) (ho : o.op = .call c) (h : (stepOp E call o st).eval = some (v, es)) :
 Done E keep w0 st.ent σ w ((execOp a.eval o).run P w) v es := by
 simp only [stepOp, ho, hc] at h
 split at h
 ·rename_i x t hargs htys
  have hx := ev_RT (E := E) hf 0 x
  split at h
  ·rename_i ty hty
   split at h
   ·rename_i e hd hv
    rw [hv] at hx
    simp only [Tr.eval, Option.some.injEq, Prod.mk.injEq] at h
    obtain ⟨rfl, rfl⟩ := h
    have hxs : a.eval x = .slice none 0 0 := by have := hx.2; simpa [RO1, RF] using this
    have ha : c.args = #[x] := by apply Array.ext'; simpa using hargs
    have hta : c.argTypes = #[t] := by apply Array.ext'; simpa using htys
    obtain ⟨d, _, _, hd1, hd2, _⟩ := hE.ty t ty hty
    rw [hd] at hd2
    cases d <;> simp only [tyD] at hd2
    rw [hd2] at hd1
    refine Done.pure hr (u := .int .i64 0) ?_ (RT_mkint _ _)
    simp [execOp, ho, hc, resolve, invoke, builtin, ha, hta, hxs, Builtin.cap_, goInt, run_underlying hd1]
   ·simp [Tr.eval] at h
  ·simp [Tr.eval] at h
 ·simp [Tr.eval] at h
end
end Go.Proofs.YthdnamhilcjnhaaGreatDoor
