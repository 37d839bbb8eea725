/- Pieces: drawn, checked, compared, told as texts. -/
import Derived.Test.YthdnamhilcjnhaaGreatDoorMp
import Derived.Test.YthdnamhilcjnhaaGreatDoorMc
import Derived.Test.YthdnamhilcjnhaaGreatDoorMd
import Derived.Test.YthdnamhilcjnhaaGreatDoorMa
import Derived.Test.YthdnamhilcjnhaaGreatDoorMb
namespace Go.Proofs.YthdnamhilcjnhaaGreatDoor
open Go
set_option linter.unusedVariables false
set_option linter.unusedSimpArgs false
theorem allN_true (k d : Nat) : allN (fun _ => true) k d = true := (allN_iff _ _ _).2 fun _ _ _ => rfl
def bys (l : List Int) : List V := l.map fun x => V.int .u8 x
theorem bys_length (l : List Int) : (bys l).length = l.length := List.length_map ..
theorem bys_of : ∀ {xs : List V}, (∀ x, x ∈ xs → inL [.int .u8] [x]) → ∃ l, xs = bys l ∧ ∀ y, y ∈ l → 0 ≤ y ∧ y ≤ 255
 | [], _ => ⟨[], rfl, fun p hp => by cases hp⟩
 | x :: xs, h => by
  obtain ⟨l, rfl, e⟩ := bys_of (xs := xs) fun y hy => h y (List.mem_cons_of_mem _ hy)
  have hm := h x (List.mem_cons_self ..)
  simp only [inL, inP] at hm
  obtain ⟨v, r, e1, ⟨a, rfl, ha⟩, _⟩ := hm
  obtain ⟨rfl, _⟩ := List.cons.inj e1
  refine ⟨a :: l, rfl, fun p hp => ?_⟩
  rcases List.mem_cons.1 hp with rfl | hp
  ·exact wf_u8 ha
  ·exact e p hp
theorem idx_bys {l : List Int} {j : Nat} (h : j < l.length) : bnd (idx (bys l) (j : Int)) as_u8 = some l[j] := by
 rw [idx_nat, bys]; simp [h, bnd, as_u8]
def Bytes (l : List Int) : Prop := l.length ≤ 1000000 ∧ ∀ y, y ∈ l → 0 ≤ y ∧ y ≤ 255
theorem low8 (x : Int) : 0 ≤ IntKind.i64.wrap (IntKind.u64.wrap (BitVec.ofInt IntKind.u64.bits x &&& BitVec.ofInt IntKind.u64.bits (255)).toNat) ∧ IntKind.i64.wrap (IntKind.u64.wrap (BitVec.ofInt IntKind.u64.bits x &&& BitVec.ofInt IntKind.u64.bits (255)).toNat) ≤ 255 := by
 have h : (BitVec.ofInt IntKind.u64.bits x &&& BitVec.ofInt IntKind.u64.bits (255)).toNat ≤ 255 := by
  rw [BitVec.toNat_and]
  exact Nat.le_trans Nat.and_le_right (by decide)
 rw [wu64 _ (by omega), w64 _ (by omega)]
 omega
def PickP (l : List Int) (a n : Int) (v : Int × List V × Int × Int) : Prop := ∃ x a' z : Int, v = (x, bys l, a', z) ∧ 0 ≤ x ∧ x < n ∧ a ≤ a' ∧ a' ≤ a + 1
theorem next_ok {l : List Int} (hl : Bytes l) (a z : Int) (ha : 0 ≤ a ∧ a ≤ 1000000) : Tot (fun n => s_pspec_l00Src_next n (bys l) a z) (PickP l a 256) := by
 have hn := hl.1
 obtain ⟨j, rfl⟩ := Int.eq_ofNat_of_zero_le ha.1
 unfold s_pspec_l00Src_next
 rw [up64 j (by omega)]
 by_cases hlt : j < l.length
 ·have hb := hl.2 _ (List.getElem_mem hlt)
  refine tot_t (by simp [bys_length]; omega) (tot_ev (a := l[j]) (ev_of fun n => idx_bys hlt) (tot_cnd (fun c => tot_some ⟨_, _, _, rfl, ?_, ?_, by omega, by omega⟩) (fun c => tot_chk (by simp) (tot_some ⟨_, _, _, rfl, ?_, ?_, by omega, by omega⟩))))
  ·rw [w64 _ (by omega)]; omega
  ·rw [w64 _ (by omega)]; omega
  ·exact (low8 _).1
  ·have := (low8 ((IntKind.u64.wrap ((IntKind.u64.wrap ((IntKind.u64.wrap (z * 6364136223846793005)) + (IntKind.u64.wrap (IntKind.i64.wrap l[j])))) + (1442695040888963407))).fdiv (2 ^ (min (40 : Int).toNat IntKind.u64.bits)))).2
   omega
 ·refine tot_f (by simp [bys_length]; omega) (tot_cnd (fun c => tot_some ⟨_, _, _, rfl, by omega, by omega, by omega, by omega⟩) (fun c => tot_chk (by simp) (tot_some ⟨_, _, _, rfl, ?_, ?_, by omega, by omega⟩)))
  ·exact (low8 _).1
  ·have := (low8 ((IntKind.u64.wrap ((IntKind.u64.wrap ((IntKind.u64.wrap (z * 6364136223846793005)) + (IntKind.u64.wrap (0)))) + (1442695040888963407))).fdiv (2 ^ (min (40 : Int).toNat IntKind.u64.bits)))).2
   omega
theorem pick_ok {l : List Int} (hl : Bytes l) (a z n : Int) (ha : 0 ≤ a ∧ a ≤ 1000000) (hn : 1 ≤ n ∧ n ≤ 200) : Tot (fun k => s_pspec_l00Src_pick k (bys l) a z n) (PickP l a n) := by
 unfold s_pspec_l00Src_pick
 by_cases h1 : n ≤ 1
 ·exact tot_t (by simpa using h1) (tot_some ⟨0, a, z, rfl, by omega, by omega, by omega, by omega⟩)
 ·refine tot_f (by simpa using h1) (tot_bnd (next_ok hl a z ha) ?_)
  rintro v ⟨x, a', z', rfl, h2, h3, h4, h5⟩
  refine tot_f (by simp; omega) (tot_chk (by simp; omega) (tot_some ⟨_, _, _, rfl, ?_, ?_, h4, h5⟩))
  ·rw [Int.tmod_eq_emod_of_nonneg h2]; exact Int.emod_nonneg _ (by omega)
  ·rw [Int.tmod_eq_emod_of_nonneg h2]; exact Int.emod_lt_of_pos _ (by omega)
theorem one_ok {l : List Int} (hl : Bytes l) (a z n : Int) (ha : 0 ≤ a ∧ a ≤ 1000000) (hn : 1 ≤ n ∧ n ≤ 200) : Tot (fun k => s_pspec_l00Src_one k (bys l) a z n) (fun v => ∃ (b : Bool) (a' z' : Int), v = (b, bys l, a', z') ∧ a ≤ a' ∧ a' ≤ a + 1) := by
 unfold s_pspec_l00Src_one
 refine tot_bnd (pick_ok hl a z n ha hn) ?_
 rintro v ⟨x, a', z', rfl, h2, h3, h4, h5⟩
 exact tot_some ⟨_, _, _, rfl, h4, h5⟩
def okP (Q : List (Int × Int)) : Prop := ∀ p, p ∈ Q → 0 ≤ p.1 ∧ p.1 ≤ 2 ∧ 1 ≤ p.2 ∧ p.2 ≤ 7
theorem eqp (k k' : IntKind) (a b c d : Int) : eqParts [(V.int k a), (V.int k' b)] [(V.int k c), (V.int k' d)] = (decide (a = c) && decide (b = d)) := by simp [eqParts]
theorem SamePieces_ok (P : List (Int × Int)) (hl : P.length ≤ 1000) : Ev (fun n => s_spec_A2SamePieces n (pcs P) (pcs P)) true := by
 unfold s_spec_A2SamePieces
 refine ev_t (by simp) (ev_bnd (a := Sum.inl ()) ?_ ev_some)
 have := loop_all (l := fun n k => l_spec_A2SamePieces_b0 n (pcs P) (pcs P) (k : Nat)) (p := fun _ => true) (A := .inl ()) (B := .inr false) P.length (ev_f (by simp [prs_length]) ev_some) (by
  intro k hk _ a ih
  refine ev_t (by simp [prs_length]; omega) (ev_bnd (ev_of fun n => idx_pcs hk) (ev_bnd (ev_of fun n => idx_pcs hk) (ev_t (by rw [eqp]; simp) ?_)))
  rw [up64 k (by omega)]; exact ih) (by
  intro k hk h; cases h) P.length 0 (Nat.zero_add _)
 rwa [allN_true, sel_t] at this
theorem isPc_ok {a b : Int} (ha : 0 ≤ a ∧ a ≤ 2) (hb : 1 ≤ b ∧ b ≤ 7) (n : Nat) : s_impl_areAll_impl_Piece_1__isPiece n a b = some false := by
 unfold s_impl_areAll_impl_Piece_1__isPiece s_impl_isPiece s_impl_within_int8
 simp only [bnd_s, decide_eq_true ha.1, decide_eq_true ha.2, decide_eq_true hb.1, decide_eq_true hb.2, cnd_t, Bool.not_true]
theorem allPieces_ok {P : List (Int × Int)} (hP : okP P) (hl : P.length ≤ 1000) : Ev (fun n => s_impl_areAll_impl_Piece__isPiece n (pcs P)) true := by
 unfold s_impl_areAll_impl_Piece__isPiece s_cnPc s_ixPc
 rw [prs_length]
 have := loop_all (l := fun n k => l_ixPc_b0 n (pcs P) P.length (k : Nat)) (p := fun _ => true) (A := .inl ()) (B := .inr 0) P.length (ev_f (by simp) ev_some) (by
  intro k hk _ a ih
  have b := hP _ (pr_mem hk)
  refine ev_t (by simp; omega) (ev_bnd (ev_of fun n => idx_pcs hk) (ev_bnd (ev_of fun n => isPc_ok (a := kd P k) (b := wd P k) ⟨b.1, b.2.1⟩ ⟨b.2.2.1, b.2.2.2⟩ n) (ev_f rfl ?_)))
  rw [up64 k (by omega)]; exact ih) (by
  intro k hk h; cases h) P.length 0 (Nat.zero_add _)
 rw [allN_true, sel_t] at this
 exact ev_bnd (a := false) (ev_bnd (a := -1) (ev_bnd this ev_some) ev_some) ev_some
theorem code_ok {P : List (Int × Int)} (hP : okP P) (hl : P.length ≤ 30) : Ev (fun n => s_impl_piecesCode n [V.sl (pcs P)]) 0 := by
 unfold s_impl_piecesCode
 have i0 : ∀ n : Nat, bnd (idx [V.sl (pcs P)] 0) as_LPi8_i8Q = some (pcs P) := fun n => rfl
 refine ev_bnd (a := true) ?_ (ev_t rfl (ev_bnd (a := true) ?_ (ev_t rfl ev_some)))
 ·unfold s_impl_areAll_Simpl_Piece__piecesCode_1 s_cnPa s_ixPa
  refine ev_bnd (a := false) (ev_bnd (a := -1) (ev_bnd (a := Sum.inl ()) (ev_succ (ev_t (by simp) (ev_bnd (ev_of i0) (ev_bnd (a := false) ?_ (ev_f rfl ?_))))) ev_some) ev_some) ev_some
  ·unfold s_impl_areAll_Simpl_Piece_1__piecesCode_1 s_impl_piecesCode_1
   exact ev_bnd (ev_bnd (allPieces_ok hP (by omega)) ev_some) ev_some
  ·exact ev_succ (ev_f (by show decide (IntKind.i64.wrap (0 + 1) < ((1 : Nat) : Int)) = false; decide) ev_some)
 ·unfold s_impl_areAll_Simpl_Piece__piecesCode_2 s_cnPb s_ixPb
  refine ev_bnd (a := false) (ev_bnd (a := -1) (ev_bnd (a := Sum.inl ()) (ev_succ (ev_t (by simp) (ev_bnd (ev_of i0) (ev_bnd (a := false) ?_ (ev_f rfl ?_))))) ev_some) ev_some) ev_some
  ·unfold s_impl_areAll_Simpl_Piece_1__piecesCode_2 s_impl_piecesCode_2
   refine ev_bnd (a := true) (ev_cast ev_some ?_) ev_some
   rw [prs_length]; simp; omega
  ·exact ev_succ (ev_f (by show decide (IntKind.i64.wrap (0 + 1) < ((1 : Nat) : Int)) = false; decide) ev_some)
theorem pcs_snoc (Q : List (Int × Int)) (a b : Int) : pcs Q ++ [V.parts [V.int .i8 a, V.int .i8 b]] = pcs (Q ++ [(a, b)]) := by
 show _ = prs .i8 .i8 (Q ++ [(a, b)])
 rw [prs_app]; rfl
theorem okP_snoc {s : List (Int × Int)} {a b : Int} (h : okP s) (hb : 0 ≤ a ∧ a ≤ 2 ∧ 1 ≤ b ∧ b ≤ 7) : okP (s ++ [(a, b)]) := fun p hp => by
 rcases List.mem_append.1 hp with hp | hp
 ·exact h p hp
 ·rw [List.mem_singleton] at hp; subst hp; exact hb
theorem drawnP_ok {l : List Int} (hl : Bytes l) : ∀ (k : Nat) (a z : Int) (s : List (Int × Int)), k ≤ 9 → 0 ≤ a → a + 4 * k ≤ 1000 → s.length + k ≤ 9 → okP s →
 Tot (fun n => l_spec_A2Pieces_b0 n k (bys l) a z (pcs s)) (fun r => ∃ s' : List (Int × Int), r = pcs s' ∧ s'.length ≤ 9 ∧ okP s')
 | 0, a, z, s, hk, ha, hb, hn, ho => tot_succ (tot_f (by simp) (tot_some ⟨s, rfl, by omega, ho⟩))
 | k + 1, a, z, s, hk, ha, hb, hn, ho => by
  refine tot_succ (tot_t (by simp <;> omega) (tot_bnd (pick_ok hl a z 2 (by omega) (by omega)) ?_))
  rintro v ⟨x, a1, z1, rfl, h1, h2, h3, h4⟩
  refine tot_bnd (pick_ok hl a1 z1 7 (by omega) (by omega)) ?_
  rintro v ⟨y, a2, z2, rfl, g1, g2, g3, g4⟩
  refine tot_bnd (one_ok hl a2 z2 6 (by omega) (by omega)) ?_
  rintro v ⟨b, a3, z3, rfl, f1, f2⟩
  dsimp only
  rw [w64 (1 + y) (by omega), w8 (1 + y) (by omega), w8 x (by omega), show (((k + 1 : Nat) : Int)) - 1 = (k : Int) by omega, w64 (k : Int) (by omega)]
  refine tot_cnd (fun c => tot_chk (by simp [prs_length]; omega) ?_) (fun c => tot_chk (by simp [prs_length]; omega) ?_)
  ·rw [pcs_snoc]
   exact drawnP_ok hl k a3 z3 _ (by omega) (by omega) (by omega) (by simp; omega) (okP_snoc ho (by omega))
  ·rw [pcs_snoc]
   exact drawnP_ok hl k a3 z3 _ (by omega) (by omega) (by omega) (by simp; omega) (okP_snoc ho (by omega))
theorem A2Pieces_ok {l : List Int} (hl : Bytes l) : Tot (fun n => s_spec_A2Pieces n (bys l)) (fun r => ∃ s : List (Int × Int), r = pcs s ∧ s.length ≤ 9 ∧ okP s) := by
 unfold s_spec_A2Pieces s_spec_l00From
 refine tot_ev (a := (bys l, 0, 0)) ev_some ?_
 dsimp only
 refine tot_bnd (pick_ok hl 0 0 10 (by omega) (by omega)) ?_
 rintro v ⟨x, a1, z1, rfl, h1, h2, h3, h4⟩
 dsimp only
 obtain ⟨k, rfl⟩ := Int.eq_ofNat_of_zero_le h1
 refine tot_bnd (drawnP_ok hl k a1 z1 [] (by omega) (by omega) (by omega) (by simp; omega) (fun p hp => by cases hp)) ?_
 rintro r hr
 exact tot_some hr
def txS (p : Int × Int) : V := .str (handS p.1 ++ digS p.2)
theorem isP_of {p : Int × Int} (h : 0 ≤ p.1 ∧ p.1 ≤ 2 ∧ 1 ≤ p.2 ∧ p.2 ≤ 7) : isP p.1 p.2 = true := by
 unfold isP; simp; omega
theorem pieceText_ev {p : Int × Int} (h : 0 ≤ p.1 ∧ p.1 ≤ 2 ∧ 1 ≤ p.2 ∧ p.2 ≤ 7) (n : Nat) : s_impl_pieceText n p.1 p.2 = some (handS p.1 ++ digS p.2) := pieceText_eq p.1 p.2 (isP_of h)
theorem each_ok {P : List (Int × Int)} (hP : okP P) (hl : P.length ≤ 1000) : Ev (fun n => s_impl_each_impl_Piece_string__pieceText n (pcs P)) (P.map txS) := by
 unfold s_impl_each_impl_Piece_string__pieceText
 rw [prs_length]
 refine ev_bnd (a := P.map txS) ?_ ev_some
 have e : P.map txS = (List.range' 0 P.length).map fun k => txS (pr P k) := by
  apply List.ext_getElem?
  intro j
  by_cases hj : j < P.length
  ·rw [List.getElem?_map, pr_get hj]; simp [hj]
  ·rw [List.getElem?_eq_none (by simp; omega), List.getElem?_eq_none (by simp; omega)]
 rw [e]
 refine loop_map (l := fun n k acc => l_impl_each_impl_Piece_string__pieceText_b0 n (pcs P) P.length (k : Nat) acc) (R := id) P.length (fun acc => ev_f (by simp) ev_some) ?_
 intro k acc hk hl a h
 have b := hP _ (pr_mem hk)
 refine ev_t (by simp; omega) (ev_bnd (ev_of fun n => idx_pcs hk) (ev_bnd (ev_of fun n => pieceText_ev b n) ?_))
 exact ev_chk (by simp [hl]; omega) (by rw [up64 k (by omega)]; exact h)
end Go.Proofs.YthdnamhilcjnhaaGreatDoor
namespace Go.Proofs.YthdnamhilcjnhaaGreatDoor
open Go Go.RowKit
set_option linter.unusedVariables false
set_option linter.unusedSimpArgs false
theorem kept_below {w w' : World} (h : Kept (fun b => b < w.heap.size) w w') : Below w.heap.size w w' := ⟨h.os, h.tape, h.output, h.size, fun k hk => h.block k hk⟩
theorem pcode_calls {l : List (Int × Int)} (hok : okP l) (hl : l.length ≤ 30) {no : Nat → Prop} {w : World} {v : Value} (hno : ∀ b, no b → b < w.heap.size) (h : RFC w (okN no w) [.sl [.sl (pcs l)]] [v]) : Calls Tryz.prog 27 #[v] w fun e w' => e = .returned (.int .i64 0) ∧ Below w.heap.size w w' := by
 obtain ⟨n, hn⟩ := ev_run (code_ok hok hl)
 have h1 := w1_impl_piecesCode hn _ (Nat.le_refl _)
 have h2 := (sem_ok envOk_E1 _ _ _ _ h1).1 rfl
 refine (h2.2 no w [v] hno h).mono fun e w' he => ?_
 cases e with
 | panicked chain => exact he.elim
 | outgrown => exact he.elim
 | returned u =>
  obtain ⟨σ', _, hr, hrt⟩ := he 0 rfl
  have hu : u = .int .i64 0 := by have := hrt.2; simpa [RO1, RF, recv, recvP, recv1] using this
  exact ⟨by rw [hu], kept_below hr.kept⟩
def strsP (l : List (Int × Int)) : List ByteArray := l.map fun p => handS p.1 ++ digS p.2
theorem RRow_strs {ent : Nat → Ent} {σ : Sg} {w : World} : ∀ (l : List (Int × Int)) (cells : List Value), RRow ent σ w 1 (l.map txS) cells → cells = (strsP l).map Value.string
 | [], cells, h => h
 | p :: l, cells, h => by
  obtain ⟨a, b, rfl, _, h1, h2⟩ := h
  rw [RRow_strs l b h2]
  simp only [txS, RF] at h1
  rw [h1]
  rfl
theorem each_calls {l : List (Int × Int)} (hok : okP l) (hl : l.length ≤ 30) {no : Nat → Prop} {w : World} {v : Value} (hno : ∀ b, no b → b < w.heap.size) (h : RF w (okN no w) (.sl (pcs l)) [v]) (hv : v.oneCell' = true) :
 Calls Tryz.prog 29 #[v, .func (.func 26) #[] #[]] w fun e w' => ∃ u, e = .returned u ∧ w'.ownsRow 0 9 1 u l.length ((strsP l).map Value.string) ∧ Below w.heap.size w w' := by
 obtain ⟨n, hn⟩ := ev_run (each_ok hok (by omega))
 have h1 := w1_impl_each_impl_Piece_string__pieceText hn _ (Nat.le_refl _)
 have h2 := (sem_ok envOk_E1 _ _ _ _ h1).1 rfl
 have hc : RFC w (okN no w) [.sl (pcs l), .clo 26 []] [v, .func (.func 26) #[] #[]] := by
  simp only [RFC]
  refine ⟨v, _, rfl, by rw [one_cells hv]; exact h, hv, _, [], rfl, ?_, rfl, rfl⟩
  simp only [RF]
  exact ⟨[], rfl, by simp only [RFC]⟩
 refine (h2.2 no w _ hno hc).mono fun e w' he => ?_
 cases e with
 | panicked chain => exact he.elim
 | outgrown => exact he.elim
 | returned u =>
  obtain ⟨σ', _, hr, hrt⟩ := he 1 rfl
  have hr' : HR E1 (fun b => b < w.heap.size) w (updE [(1, .row 9 (l.map txS))] ent0) σ' w' := hr
  have hrt' : RT E1 (updE [(1, .row 9 (l.map txS))] ent0) σ' w' (.row 1) u := hrt
  have he1 : updE [(1, Ent.row 9 (l.map txS))] ent0 1 = .row 9 (l.map txS) := rfl
  have hu := RT_row hr' hrt' he1
  have hen := hr'.ents 1
  unfold EntR at hen
  rw [he1] at hen
  obtain ⟨cells, d1, d2, d3⟩ := hen
  have hz : E1.sz 9 = 1 := by kernel_rfl
  rw [hz] at d1 d2
  obtain rfl := RRow_strs _ _ d2
  rw [List.length_map, ← hu] at d1
  exact ⟨u, rfl, d1, kept_below hr'.kept⟩
theorem joinP_eq (l : List (Int × Int)) : (⟨(Lib.join ((strsP l).map (·.data.toList)) (⟨#[32]⟩ : ByteArray).data.toList).toArray⟩ : ByteArray) = joinP l := by
 unfold joinP strsP txtP
 rw [List.map_map]
 rfl
theorem txt_len {p : Int × Int} (h : 0 ≤ p.1 ∧ p.1 ≤ 2 ∧ 1 ≤ p.2 ∧ p.2 ≤ 7) : (txtP p).length ≤ 2 := by
 have key : ∀ i : Fin 3, ∀ j : Fin 7, (txtP ((i.val : Int), (j.val : Int) + 1)).length ≤ 2 := by decide +kernel
 have := key ⟨p.1.toNat, by omega⟩ ⟨(p.2 - 1).toNat, by omega⟩
 have e1 : ((p.1.toNat : Nat) : Int) = p.1 := by omega
 have e2 : (((p.2 - 1).toNat : Nat) : Int) + 1 = p.2 := by omega
 simp only [e1, e2] at this
 exact this
theorem lens_le : ∀ (l : List (Int × Int)), okP l → Lib.lens (l.map txtP) ≤ 2 * l.length
 | [], _ => by simp [Lib.lens]
 | p :: l, h => by
  have h1 := lens_le l fun q hq => h q (List.mem_cons_of_mem _ hq)
  have h2 := txt_len (h p (List.mem_cons_self ..))
  simp [Lib.lens] at h1 ⊢
  omega
theorem joinP_len {l : List (Int × Int)} (h : okP l) (hl : l.length ≤ 30) : (Lib.join (l.map txtP) [32]).length ≤ 1000 := by
 cases l with
 | nil => simp [Lib.join_nil]
 | cons p l =>
  have h1 := lens_le (p :: l) h
  rw [List.map_cons, Lib.join_length, ← List.map_cons, List.length_map]
  simp at hl h1 ⊢
  omega
theorem join_calls {l : List (Int × Int)} (hok : okP l) (hl : l.length ≤ 30) {w : World} {u : Value} (h : w.ownsRow 0 9 1 u l.length ((strsP l).map Value.string)) : Calls Tryz.prog 28 #[u, .string ⟨#[32]⟩] w fun e w' => e = .returned (.string (joinP l)) ∧ Below w.heap.size w w' := by
 have hlen := joinP_len hok hl
 rcases h.2 with ⟨rfl, h0⟩ | ⟨g, cap, cur, rfl, _, hg, hn, hm, hcs, htk⟩
 ·have : l = [] := List.eq_nil_of_length_eq_zero h0
  subst this
  refine (Tryz.strings_Join_none none 0 ⟨#[32]⟩ w).mono ?_
  rintro e w' ⟨rfl, rfl⟩
  exact ⟨rfl, Below.refl _ _⟩
 ·have hsl : (strsP l).length = l.length := List.length_map ..
  have := Tryz.strings_Join g 0 cap (strsP l) ⟨#[32]⟩ w (fun j x hj => by
   have hx : (cur.toList.take (l.length * 1))[j]? = some (.string x) := by rw [htk, List.getElem?_map, hj]; rfl
   rw [List.getElem?_take] at hx
   split at hx
   ·simp only [Nat.zero_add]
    unfold World.cell?
    simp only [hg]
    simpa using hx
   ·cases hx) (Array.getElem?_eq_some_iff.1 hg).1 (by rw [hsl]; omega) (by rw [hsl]; exact hn) (by
   have e : (strsP l).map (·.data.toList) = l.map txtP := by unfold strsP txtP; rw [List.map_map]; rfl
   rw [e]; show (Lib.join (l.map txtP) [32]).length ≤ _; omega)
  rw [hsl] at this
  refine this.mono ?_
  rintro e w' ⟨rfl, hb⟩
  exact ⟨by rw [joinP_eq], hb⟩
theorem psOf_eq : ∀ {xs : List V} {l : List (Int × Int)}, psOf xs = some l → xs = pcs l
 | [], l, h => by obtain rfl := Option.some.inj h; rfl
 | x :: xs, l, h => by
  unfold psOf at h
  split at h
  ·split at h
   ·split at h
    ·rename_i m hm
     obtain rfl := Option.some.inj h
     rw [psOf_eq hm]; rfl
    ·cases h
   ·cases h
  ·cases h
theorem psOf_pcs : ∀ (l : List (Int × Int)), psOf (pcs l) = some l
 | [] => rfl
 | p :: l => by
  show psOf (V.parts [V.int .i8 p.1, V.int .i8 p.2] :: pcs l) = _
  unfold psOf
  dsimp only
  rw [psOf_pcs l]
theorem fineP_iff (l : List (Int × Int)) : fineP l = true ↔ okP l ∧ l.length ≤ 30 := by
 unfold fineP
 rw [Bool.and_eq_true, decide_eq_true_eq, List.all_eq_true]
 constructor
 ·rintro ⟨h1, h2⟩
  refine ⟨fun p hp => ?_, h2⟩
  have := h1 p hp
  unfold isP at this
  simp at this
  omega
 ·rintro ⟨h1, h2⟩
  exact ⟨fun p hp => isP_of (h1 p hp), h2⟩
set_option maxRecDepth 100000 in
theorem ptext_in {l : List (Int × Int)} (hok : okP l) (hl : l.length ≤ 30) {no : Nat → Prop} {w : World} {u : Value} (hno : ∀ b, no b → b < w.heap.size) (hu : RF w (okN no w) (.sl (pcs l)) [u]) (hone : u.oneCell' = true) :
 Calls Tryz.prog 7 #[u] w fun e w' => e = .returned (.string (joinP l)) ∧ Below w.heap.size w w' := by
 have hmv : ∀ {w1 : World}, Below w.heap.size w w1 → RF w1 (okN no w1) (.sl (pcs l)) [u] := fun {w1} hb => RF_move (fun b h => ⟨⟨Nat.lt_of_lt_of_le h.1 hb.size, h.2⟩, hb.block b h.1⟩) _ _ hu
 obtain ⟨A, cap, rfl⟩ : ∃ A cap, u = .slice A l.length cap := by
  have h := hu
  simp only [RF] at h
  obtain ⟨A, cap, h1, _⟩ := h
  rw [prs_length] at h1
  exact ⟨A, cap, (List.cons.inj h1).1⟩
 have hb0 : Below w.heap.size w (w.alloc (.cells #[.slice A l.length cap] 24)) := (Below.refl _ _).alloc (Nat.le_refl _) _
 have hcode : RFC (w.alloc (.cells #[.slice A l.length cap] 24)) (okN no (w.alloc (.cells #[.slice A l.length cap] 24))) [.sl [.sl (pcs l)]] [.slice (some ⟨w.heap.size, 0, none⟩) 1 1] := by
  simp only [RFC]
  refine ⟨_, [], rfl, ?_, rfl, rfl⟩
  rw [one_cells rfl]
  rw [RF]
  refine ⟨_, 1, rfl, by simp [maxLen], .inr ⟨w.heap.size, 0, 1, rfl, ⟨by simp, fun h => by have := hno _ h; omega⟩, ?_⟩⟩
  rw [RE]
  refine ⟨⟨[.slice A l.length cap], rfl, hmv hb0, fun j x hj => ?_⟩, by rw [RE]; trivial⟩
  cases j with
  | zero =>
   simp at hj
   subst hj
   exact (Boxed.new w 24 (.slice A l.length cap)).cell
  | succ j => simp at hj
 go_enter Tryz.func7, Tryz.ntmps7
 go_wp2_with (first
  | (go_at_call 27; refine (pcode_calls hok hl (fun b h => Nat.lt_of_lt_of_le (hno b h) hb0.size) hcode).mono ?_; rintro e w1 ⟨rfl, hb1⟩)
  | (go_at_call 29; refine (each_calls hok hl (fun b h => Nat.lt_of_lt_of_le (hno b h) (Nat.le_trans hb0.size hb1.size)) (hmv (hb0.trans (hb1.mono hb0.size))) rfl).mono ?_; rintro e w2 ⟨v, rfl, hrow, hb2⟩)
  | (go_at_call 28; refine (join_calls hok hl hrow).mono ?_; rintro e w3 ⟨rfl, hb3⟩))
 go_ret
 have k1 := hb0.trans (hb1.mono hb0.size)
 have k2 := k1.trans (hb2.mono k1.size)
 exact ⟨rfl, k2.trans (hb3.mono k2.size)⟩
theorem prPText_ok (E : Env) {avs : List V} {r : V} (h : prPText avs = some r) : FunOk Tryz.prog E 7 avs r := by
 refine ⟨⟨_, Tryz.func7, by kernel_rfl⟩, fun no w us hno hus => ?_⟩
 unfold prPText at h
 split at h
 ·rename_i xs
  split at h
  ·rename_i z hz
   simp only [Option.some.injEq] at h
   subst h
   unfold ptQ at hz
   split at hz
   ·rename_i l hl
    obtain rfl := psOf_eq hl
    split at hz
    ·rename_i hf
     obtain rfl := Option.some.inj hz
     obtain ⟨hok, hlen⟩ := (fineP_iff l).1 hf
     simp only [RFC] at hus
     obtain ⟨u, l2, rfl, h1, h2, rfl⟩ := hus
     have hone : u.oneCell' = true := h2
     rw [one_cells hone] at h1
     refine (ptext_in hok hlen hno h1 hone).mono ?_
     rintro e w' ⟨rfl, hb⟩
     exact res_str hno hb
    ·cases hz
   ·cases hz
  ·cases h
 ·cases h
end Go.Proofs.YthdnamhilcjnhaaGreatDoor
namespace Go.Proofs.YthdnamhilcjnhaaGreatDoor
open Go Go.RowKit
set_option maxRecDepth 100000
set_option linter.unusedVariables false
noncomputable def E : Env := ⟨tt, fl, fi, [(5, prA2), (6, prRead), (7, prPText), (65, prFmt)]⟩
theorem prOk_E : ∀ (f : Nat) (p : List V → Option V) (avs : List V) (r : V), find E.pr f = some p → p avs = some r → FunOk Tryz.prog E f avs r := by
 intro f p avs r h hr
 unfold E at h
 try simp only [find] at h
 split at h
 ·rename_i hb
  obtain rfl := Nat.eq_of_beq_eq_true hb
  obtain rfl := Option.some.inj h
  exact prA2_ok E hr
 try simp only [find] at h
 split at h
 ·rename_i hb
  obtain rfl := Nat.eq_of_beq_eq_true hb
  obtain rfl := Option.some.inj h
  exact prRead_ok E hr
 try simp only [find] at h
 split at h
 ·rename_i hb
  obtain rfl := Nat.eq_of_beq_eq_true hb
  obtain rfl := Option.some.inj h
  exact prPText_ok E hr
 try simp only [find] at h
 split at h
 ·rename_i hb
  obtain rfl := Nat.eq_of_beq_eq_true hb
  obtain rfl := Option.some.inj h
  exact prFmt_ok E hr
 cases h
theorem ttOk_E : allTy E Tryz.prog E.tt := ⟨⟨by kernel_rfl, by kernel_rfl, by kernel_rfl⟩, ⟨by kernel_rfl, by kernel_rfl, by kernel_rfl⟩, ⟨by kernel_rfl, by kernel_rfl, by kernel_rfl⟩, ⟨by kernel_rfl, by kernel_rfl, by kernel_rfl⟩, ⟨by kernel_rfl, by kernel_rfl, by kernel_rfl⟩, ⟨by kernel_rfl, by kernel_rfl, by kernel_rfl⟩, ⟨by kernel_rfl, by kernel_rfl, by kernel_rfl⟩, ⟨by kernel_rfl, by kernel_rfl, by kernel_rfl⟩, ⟨by kernel_rfl, by kernel_rfl, by kernel_rfl⟩, ⟨by kernel_rfl, by kernel_rfl, by kernel_rfl⟩, ⟨by kernel_rfl, by kernel_rfl, by kernel_rfl⟩, ⟨by kernel_rfl, by kernel_rfl, by kernel_rfl⟩, ⟨by kernel_rfl, by kernel_rfl, by kernel_rfl⟩, ⟨by kernel_rfl, by kernel_rfl, by kernel_rfl⟩, ⟨by kernel_rfl, by kernel_rfl, by kernel_rfl⟩, ⟨by kernel_rfl, by kernel_rfl, by kernel_rfl⟩, ⟨by kernel_rfl, by kernel_rfl, by kernel_rfl⟩, ⟨by kernel_rfl, by kernel_rfl, by kernel_rfl⟩, ⟨by kernel_rfl, by kernel_rfl, by kernel_rfl⟩, ⟨by kernel_rfl, by kernel_rfl, by kernel_rfl⟩, ⟨by kernel_rfl, by kernel_rfl, by kernel_rfl⟩, ⟨by kernel_rfl, by kernel_rfl, by kernel_rfl⟩, ⟨by kernel_rfl, by kernel_rfl, by kernel_rfl⟩, ⟨by kernel_rfl, by kernel_rfl, by kernel_rfl⟩, ⟨by kernel_rfl, by kernel_rfl, by kernel_rfl⟩, ⟨by kernel_rfl, by kernel_rfl, by kernel_rfl⟩, ⟨by kernel_rfl, by kernel_rfl, by kernel_rfl⟩, ⟨by kernel_rfl, by kernel_rfl, by kernel_rfl⟩, ⟨by kernel_rfl, by kernel_rfl, by kernel_rfl⟩, ⟨by kernel_rfl, by kernel_rfl, by kernel_rfl⟩, ⟨by kernel_rfl, by kernel_rfl, by kernel_rfl⟩, ⟨by kernel_rfl, by kernel_rfl, by kernel_rfl⟩, ⟨by kernel_rfl, by kernel_rfl, by kernel_rfl⟩, ⟨by kernel_rfl, by kernel_rfl, by kernel_rfl⟩, ⟨by kernel_rfl, by kernel_rfl, by kernel_rfl⟩, ⟨by kernel_rfl, by kernel_rfl, by kernel_rfl⟩, ⟨by kernel_rfl, by kernel_rfl, by kernel_rfl⟩, ⟨by kernel_rfl, by kernel_rfl, by kernel_rfl⟩, ⟨by kernel_rfl, by kernel_rfl, by kernel_rfl⟩, ⟨by kernel_rfl, by kernel_rfl, by kernel_rfl⟩, ⟨by kernel_rfl, by kernel_rfl, by kernel_rfl⟩, trivial⟩
theorem envOk_E : EnvOk E Tryz.prog := env_okB envLaid ttOk_E flOk (Checked.mixed Tryz.checked) (by kernel_rfl) (fun g F ks hf hb => (noBw_ok (by kernel_rfl) hf hb).elim) prOk_E
theorem envOk : EnvOk E Tryz.prog := envOk_E
end Go.Proofs.YthdnamhilcjnhaaGreatDoor
