/- Pairs of pieces, as a list of numbers; what they are. -/
import Derived.Test.YthdnamhilcjnhaaGreatDoorMk
import Derived.Test.YthdnamhilcjnhaaGreatDoorMd
namespace Go.Proofs.YthdnamhilcjnhaaGreatDoor
open Go
set_option linter.unusedVariables false
set_option linter.unusedSimpArgs false
def gp (P : List (Int × Int)) (O : List Nat) : List Nat → (Nat → Bool) → List (Nat × Nat)
 | [], T => []
 | p :: l, T => if kd P p = 0 then (match firstN (fun j => cand P T p (O.getD j 0)) 0 O.length with
  | some j => (p, O.getD j 0) :: gp P O l (ptB T (O.getD j 0))
  | none => gp P O l T) else gp P O l T
def twos (D : List (Nat × Nat)) : List V := D.map fun pq => two pq.1 pq.2
theorem pairsG_ok {P : List (Int × Int)} {O : List Nat} (hO : ∀ j, j < O.length → O[j]? = some (O.getD j 0) ∧ O.getD j 0 < P.length) (hP : P.length ≤ 39) (hl : O.length ≤ P.length)   : ∀ (d k : Nat) (acc : List V) (T : Nat → Bool) (ks vs : List V), k + d = O.length → Mk P.length ks vs T → acc.length ≤ k →
 Ev (fun n => l_spec_l05Pairs_b0 n (pcs P) k acc (bl P.length T) (ints O)) (acc ++ twos (gp P O (O.drop k) T)) ∧ Ev (fun n => l_impl_pairs_b0 n (O.length : Int) k (pcs P) (ints O) acc ks vs) (acc ++ twos (gp P O (O.drop k) T))
 | 0, k, acc, T, ks, vs, hk, hM, ha => by
  have e : acc ++ twos (gp P O (O.drop k) T) = acc := by rw [List.drop_of_length_le (by omega)]; simp [gp, twos]
  rw [e]
  exact ⟨ev_succ (ev_f (by simp [ints_length]; omega) ev_some), ev_succ (ev_f (by simp; omega) ev_some)⟩
 | d + 1, k, acc, T, ks, vs, hk, hM, ha => by
  obtain ⟨h1, h2⟩ := hO k (by omega)
  have hdr : O.drop k = O.getD k 0 :: O.drop (k + 1) := by
   rw [List.drop_eq_getElem_cons (by omega), List.getD_eq_getElem?_getD, List.getElem?_eq_getElem (by omega)]; rfl
  rw [hdr]
  have hgp : gp P O (O.getD k 0 :: O.drop (k + 1)) T = if kd P (O.getD k 0) = 0 then (match firstN (fun j => cand P T (O.getD k 0) (O.getD j 0)) 0 O.length with | some j => (O.getD k 0, O.getD j 0) :: gp P O (O.drop (k + 1)) (ptB T (O.getD j 0)) | none => gp P O (O.drop (k + 1)) T) else gp P O (O.drop (k + 1)) T := rfl
  rw [hgp]
  have pre : ∀ R, Ev (fun n => cnd (decide (kd P (O.getD k 0) = 0))
   (bnd (l_spec_l05Pairs_b2 n (pcs P) k (O.getD k 0 : Nat) 0 acc (bl P.length T) (ints O)) fun (u21_0, u21_1, u21_2, u21_3, u21_4) =>
    l_spec_l05Pairs_b0 n u21_0 (IntKind.i64.wrap ((u21_1) + (1))) u21_2 u21_3 u21_4)
   (l_spec_l05Pairs_b0 n (pcs P) (k + 1 : Nat) acc (bl P.length T) (ints O))) R → Ev (fun n => l_spec_l05Pairs_b0 n (pcs P) k acc (bl P.length T) (ints O)) R := by
   intro R h
   refine ev_succ (ev_t (by simp [ints_length]; omega) (ev_chk (inB_k _ _ (by rw [ints_length]; omega)) (ev_bnd (ev_of fun n => nth_ints h1) (ev_bnd (ev_of fun n => idx_pcs h2) ?_))))
   dsimp only
   rw [up64 k (by omega)]
   exact h
  have pre2 : ∀ R, Ev (fun n => cnd (decide (kd P (O.getD k 0) = 0))
            (bnd (s_ixPr n (ints O) (pcs P) ks vs (O.getD k 0 : Nat)) fun y7_0 =>
             cnd (decide ((0) ≤ (y7_0)))
              (chk (inB (y7_0) (ints O).length)
               (bnd (bnd (nth (ints O) ((y7_0).toNat)) as_i64) fun e10_0 =>
                chk (mapFine (false, [IntKind.i64]) ks vs)
                 (chk (keyIs (false, [IntKind.i64]) (V.int .i64 (e10_0)))
                  (bnd (bnd (nth (ints O) ((y7_0).toNat)) as_i64) fun e13_0 =>
                   chk (decide (((acc).length + ([(V.sl ([(V.int .i64 (O.getD k 0 : Nat)), (V.int .i64 (e13_0))]))]).length) * 24 ≤ 140737488355328))
                    (l_impl_pairs_b0 n (O.length : Int) (k + 1 : Nat) (pcs P) (ints O) (acc ++ ([(V.sl ([(V.int .i64 (O.getD k 0 : Nat)), (V.int .i64 (e13_0))]))])) (mapPutK (V.int .i64 (e10_0)) ks) (mapPutV (V.int .i64 (e10_0)) (V.bool true) ks vs))))))
              (l_impl_pairs_b0 n (O.length : Int) (k + 1 : Nat) (pcs P) (ints O) acc ks vs))
            (l_impl_pairs_b0 n (O.length : Int) (k + 1 : Nat) (pcs P) (ints O) acc ks vs)) R → Ev (fun n => l_impl_pairs_b0 n (O.length : Int) k (pcs P) (ints O) acc ks vs) R := by
   intro R h
   refine ev_succ (ev_t (by simp; omega) (ev_chk (inB_k _ _ (by rw [ints_length]; omega)) (ev_bnd (ev_of fun n => nth_ints h1) (ev_bnd (ev_of fun n => idx_pcs h2) ?_))))
   dsimp only
   rw [up64 k (by omega)]
   exact h
  by_cases c : kd P (O.getD k 0) = 0
  ·have e1 := sIn_ok hO hP hl (T := T) h2 (i := k) (acc := acc) (by omega)
   have e2 := iIn_ok hO hP hl hM h2
   cases hf : firstN (fun j => cand P T (O.getD k 0) (O.getD j 0)) 0 O.length with
   | none =>
    rw [hf] at e1 e2
    simp only [selO] at e1 e2
    obtain ⟨r2, r3⟩ := pairsG_ok hO hP hl d (k + 1) acc T ks vs (by omega) hM (by omega)
    rw [if_pos c]
    dsimp only
    refine ⟨pre _ (ev_t (by simpa using c) (ev_bnd e1 ?_)), pre2 _ (ev_t (by simpa using c) (ev_bnd e2 (ev_f (by decide) r3)))⟩
    dsimp only
    rw [up64 k (by omega)]; exact r2
   | some j =>
    rw [hf] at e1 e2
    simp only [selO] at e1 e2
    obtain ⟨_, hj, _, _⟩ := firstN_some hf
    obtain ⟨h3, h4⟩ := hO j (by omega)
    have hM' : Mk P.length (mapPutK (V.int .i64 ((O.getD j 0 : Nat) : Int)) ks) (mapPutV (V.int .i64 ((O.getD j 0 : Nat) : Int)) (V.bool true) ks vs) (ptB T (O.getD j 0)) := by
     have hk := mapPut_fine true hM.1 hM.2.1 (key_is (O.getD j 0) (by omega))
     refine ⟨hk.1, hk.2, fun i hi => ?_⟩
     rw [getB_put true hM.1 hM.2.1 (key_is (O.getD j 0) (by omega)) (key_is i (by omega)), hM.2.2 i hi]
     simp only [ptB]
     have : (kNums (V.int .i64 ((i : Nat) : Int)) = kNums (V.int .i64 ((O.getD j 0 : Nat) : Int))) ↔ i = O.getD j 0 := by
      show ([(i : Int)] = [((O.getD j 0 : Nat) : Int)]) ↔ _
      constructor
      ·intro h
       injection h with h
       exact Int.ofNat.inj h
      ·intro h; rw [h]
     simp only [this]
    obtain ⟨r2, r3⟩ := pairsG_ok hO hP hl d (k + 1) (acc ++ [two (O.getD k 0) (O.getD j 0)]) (ptB T (O.getD j 0)) _ _ (by omega) hM' (by simp; omega)
    have ea : (acc ++ [two (O.getD k 0) (O.getD j 0)]) ++ twos (gp P O (O.drop (k + 1)) (ptB T (O.getD j 0))) = acc ++ twos ((O.getD k 0, O.getD j 0) :: gp P O (O.drop (k + 1)) (ptB T (O.getD j 0))) := by simp [twos]
    rw [ea] at r2 r3
    rw [if_pos c]
    dsimp only
    refine ⟨pre _ (ev_t (by simpa using c) (ev_bnd e1 ?_)), pre2 _ (ev_t (by simpa using c) (ev_bnd e2 (ev_t (by simp) (ev_chk (inB_k _ _ (by rw [ints_length]; omega)) (ev_bnd (ev_of fun n => nth_ints h3) (ev_chk hM.1 (ev_chk (key_is _ (by omega)) (ev_bnd (ev_of fun n => nth_ints h3) (ev_chk ?_ r3)))))))))⟩
    ·dsimp only
     rw [up64 k (by omega)]; exact r2
    ·simp; omega
  ·obtain ⟨r2, r3⟩ := pairsG_ok hO hP hl d (k + 1) acc T ks vs (by omega) hM (by omega)
   rw [if_neg c]
   exact ⟨pre _ (ev_f (by simpa using c) r2), pre2 _ (ev_f (by simpa using c) r3)⟩
structure GoodD (P : List (Int × Int)) (D : List (Nat × Nat)) : Prop where
 a : ∀ pq, pq ∈ D → pq.1 < P.length ∧ kd P pq.1 = 0 ∧ pq.2 < P.length ∧ kd P pq.2 = 1 ∧ wd P pq.1 + wd P pq.2 ≤ 8
 n1 : (D.map (·.1)).Nodup
 n2 : (D.map (·.2)).Nodup
 mx : ∀ p q, p < P.length → q < P.length → kd P p = 0 → kd P q = 1 → p ∉ D.map (·.1) → q ∉ D.map (·.2) → ¬ wd P p + wd P q ≤ 8
theorem cand_iff {P : List (Int × Int)} {T : Nat → Bool} {p q : Nat} (h : -128 ≤ wd P p + wd P q ∧ wd P p + wd P q ≤ 127) : cand P T p q = true ↔ kd P q = 1 ∧ T q = false ∧ wd P p + wd P q ≤ 8 := by
 unfold cand
 rw [w8 _ h]
 simp
theorem gp_spec {P : List (Int × Int)} {O : List Nat} (hO : ∀ j, j < O.length → O.getD j 0 < P.length) (hw : ∀ x, x < P.length → 0 ≤ wd P x ∧ wd P x ≤ 8) : ∀ (l : List Nat) (T : Nat → Bool), (∀ x, x ∈ l → x < P.length) → l.Nodup →
 (∀ pq, pq ∈ gp P O l T → pq.1 ∈ l ∧ kd P pq.1 = 0 ∧ pq.2 < P.length ∧ kd P pq.2 = 1 ∧ wd P pq.1 + wd P pq.2 ≤ 8 ∧ T pq.2 = false) ∧ ((gp P O l T).map (·.1)).Nodup ∧ ((gp P O l T).map (·.2)).Nodup ∧
 ∀ p j, p ∈ l → j < O.length → kd P p = 0 → kd P (O.getD j 0) = 1 → T (O.getD j 0) = false → p ∉ (gp P O l T).map (·.1) → O.getD j 0 ∉ (gp P O l T).map (·.2) → ¬ wd P p + wd P (O.getD j 0) ≤ 8
 | [], T, _, _ => ⟨fun pq h => (by cases h), List.nodup_nil, List.nodup_nil, fun p j h => (by cases h)⟩
 | p :: l, T, hl, hn => by
  rw [List.nodup_cons] at hn
  have hp := hl p (List.mem_cons_self ..)
  have hl' : ∀ x, x ∈ l → x < P.length := fun x hx => hl x (List.mem_cons_of_mem _ hx)
  have bnd : ∀ j, j < O.length → -128 ≤ wd P p + wd P (O.getD j 0) ∧ wd P p + wd P (O.getD j 0) ≤ 127 := fun j hj => by
   have := hw p hp; have := hw _ (hO j hj); omega
  have hgp : gp P O (p :: l) T = if kd P p = 0 then (match firstN (fun j => cand P T p (O.getD j 0)) 0 O.length with
   | some j => (p, O.getD j 0) :: gp P O l (ptB T (O.getD j 0))
   | none => gp P O l T) else gp P O l T := rfl
  rw [hgp]
  by_cases c : kd P p = 0
  ·rw [if_pos c]
   cases hf : firstN (fun j => cand P T p (O.getD j 0)) 0 O.length with
   | none =>
    dsimp only
    obtain ⟨h1, h2, h3, h4⟩ := gp_spec hO hw l T hl' hn.2
    refine ⟨fun pq h => ⟨List.mem_cons_of_mem _ (h1 pq h).1, (h1 pq h).2⟩, h2, h3, fun p' j hp' hj k0 k1 ht g1 g2 => ?_⟩
    rcases List.mem_cons.1 hp' with rfl | hp'
    ·intro hle
     have := firstN_none hf j (Nat.zero_le _) (by omega)
     have h5 := (cand_iff (T := T) (bnd j hj)).2 ⟨k1, ht, hle⟩
     rw [h5] at this; cases this
    ·exact h4 p' j hp' hj k0 k1 ht g1 g2
   | some j =>
    dsimp only
    obtain ⟨_, hj, hc, _⟩ := firstN_some hf
    have hj' : j < O.length := by omega
    obtain ⟨c1, c2, c3⟩ := (cand_iff (bnd j hj')).1 hc
    obtain ⟨h1, h2, h3, h4⟩ := gp_spec hO hw l (ptB T (O.getD j 0)) hl' hn.2
    have nt : ∀ x, ptB T (O.getD j 0) x = false → x ≠ O.getD j 0 ∧ T x = false := fun x hx => by
     unfold ptB at hx
     by_cases he : x = O.getD j 0
     ·rw [if_pos he] at hx; cases hx
     ·rw [if_neg he] at hx; exact ⟨he, hx⟩
    refine ⟨fun pq h => ?_, ?_, ?_, fun p' j' hp' hj2 k0 k1 ht g1 g2 => ?_⟩
    ·rcases List.mem_cons.1 h with rfl | h
     ·exact ⟨List.mem_cons_self .., c, hO j hj', c1, c3, c2⟩
     ·obtain ⟨q1, q2, q3, q4, q5, q6⟩ := h1 pq h
      exact ⟨List.mem_cons_of_mem _ q1, q2, q3, q4, q5, (nt _ q6).2⟩
    ·rw [List.map_cons, List.nodup_cons]
     refine ⟨fun h => ?_, h2⟩
     obtain ⟨pq, hq, e⟩ := List.mem_map.1 h
     have := (h1 pq hq).1
     rw [e] at this
     exact hn.1 this
    ·rw [List.map_cons, List.nodup_cons]
     refine ⟨fun h => ?_, h3⟩
     obtain ⟨pq, hq, e⟩ := List.mem_map.1 h
     exact (nt _ (h1 pq hq).2.2.2.2.2).1 e
    ·rw [List.map_cons, List.mem_cons] at g1 g2
     rcases List.mem_cons.1 hp' with rfl | hp'
     ·exact absurd (.inl rfl) g1
     ·refine h4 p' j' hp' hj2 k0 k1 ?_ (fun h => g1 (.inr h)) (fun h => g2 (.inr h))
      unfold ptB
      rw [if_neg (fun h => g2 (.inl h))]
      exact ht
  ·rw [if_neg c]
   obtain ⟨h1, h2, h3, h4⟩ := gp_spec hO hw l T hl' hn.2
   refine ⟨fun pq h => ⟨List.mem_cons_of_mem _ (h1 pq h).1, (h1 pq h).2⟩, h2, h3, fun p' j hp' hj k0 k1 ht g1 g2 => ?_⟩
   rcases List.mem_cons.1 hp' with rfl | hp'
   ·exact absurd k0 c
   ·exact h4 p' j hp' hj k0 k1 ht g1 g2
theorem ord_nodup {P : List (Int × Int)} : ∀ {l : List Nat}, l.Pairwise (kl P) → l.Nodup
 | [], _ => List.nodup_nil
 | x :: l, h => by
  rw [List.pairwise_cons] at h
  rw [List.nodup_cons]
  exact ⟨fun hx => kl_irr (h.1 x hx), ord_nodup h.2⟩
theorem pairs_all {P : List (Int × Int)} (hP : P.length ≤ 39) (hw : ∀ x, x < P.length → 0 ≤ wd P x ∧ wd P x ≤ 8) :
 ∃ D, GoodD P D ∧ D.length ≤ P.length ∧ Ev (fun n => s_impl_pairs n (pcs P)) (twos D) ∧ Ev (fun n => s_spec_l05Pairs n (pcs P)) (twos D) := by
 obtain ⟨_, ⟨O, rfl, o1⟩, e1⟩ := order_ok (P := P) (by omega) hw
 obtain ⟨_, ⟨O', rfl, o2⟩, e2⟩ := byWidth_ok hP
 obtain rfl := ord_uniq o1 o2
 have hO : ∀ j, j < O.length → O[j]? = some (O.getD j 0) ∧ O.getD j 0 < P.length := by
  intro j hj
  have : O[j]? = some (O.getD j 0) := by rw [List.getD_eq_getElem?_getD, List.getElem?_eq_getElem hj]; rfl
  exact ⟨this, (o1.2 _).1 (List.mem_of_getElem? this)⟩
 have hl : O.length ≤ P.length := upO_len (w := 0) (k := 0) o1.1 fun x hx => (o1.2 x).1 hx
 obtain ⟨r2, r3⟩ := pairsG_ok hO hP hl O.length 0 [] (fun _ => false) [] [] (by omega) ⟨rfl, rfl, fun i _ => rfl⟩ (Nat.le_refl _)
 rw [List.drop_zero, List.nil_append] at r2 r3
 obtain ⟨g1, g2, g3, g4⟩ := gp_spec (fun j hj => (hO j hj).2) hw O (fun _ => false) (fun x hx => (o1.2 x).1 hx) (ord_nodup o1.1)
 have hlen : ∀ (l : List Nat) (T : Nat → Bool), (gp P O l T).length ≤ l.length := by
  intro l
  induction l with
  | nil => intro T; simp [gp]
  | cons p l ih =>
   intro T
   unfold gp
   split
   ·split
    ·rename_i j _
     have := ih (ptB T (O.getD j 0))
     rw [List.length_cons, List.length_cons]; omega
    ·have := ih T; rw [List.length_cons]; omega
   ·have := ih T; rw [List.length_cons]; omega
 refine ⟨gp P O O (fun _ => false), ⟨fun pq h => ?_, g2, g3, fun p q hp hq k0 k1 h1 h2 => ?_⟩, Nat.le_trans (hlen _ _) hl, ?_, ?_⟩
 ·obtain ⟨q1, q2, q3, q4, q5, _⟩ := g1 pq h
  exact ⟨(o1.2 _).1 q1, q2, q3, q4, q5⟩
 ·obtain ⟨j, hj, e⟩ := List.getElem_of_mem ((o1.2 q).2 hq)
  have e2 : O.getD j 0 = q := by rw [List.getD_eq_getElem?_getD, List.getElem?_eq_getElem hj, e]; rfl
  have := g4 p j ((o1.2 p).2 hp) hj k0 (by rw [e2]; exact k1) rfl h1 (by rw [e2]; exact h2)
  rwa [e2] at this
 ·unfold s_impl_pairs
  refine ev_bnd e2 ?_
  rw [ints_length]
  exact ev_bnd r3 ev_some
 ·unfold s_spec_l05Pairs
  rw [prs_length]
  refine ev_chk (by simp; omega) (ev_bnd e1 ?_)
  rw [Int.toNat_natCast, rep_bl]
  exact ev_bnd r2 ev_some
end Go.Proofs.YthdnamhilcjnhaaGreatDoor
namespace Go.Proofs.YthdnamhilcjnhaaGreatDoor
open Go
set_option linter.unusedVariables false
set_option linter.unusedSimpArgs false
theorem okP_at {P : List (Int × Int)} (h : okP P) {x : Nat} (hx : x < P.length) : 0 ≤ kd P x ∧ kd P x ≤ 2 ∧ 1 ≤ wd P x ∧ wd P x ≤ 7 := h _ (pr_mem hx)
theorem l00In_ok (x a b : Int) : Ev (fun n => s_spec_l00In n x a b) (decide (a ≤ x) && decide (x ≤ b)) := by
 unfold s_spec_l00In
 cases h : decide (a ≤ x) with
 | true => exact ev_t rfl (ev_cast ev_some (by simp))
 | false => exact ev_f rfl (ev_cast ev_some (by simp))
theorem l05Pieces_ok {P : List (Int × Int)} (hP : okP P) (hl : P.length ≤ 1000) : Ev (fun n => s_spec_l05Pieces n (pcs P)) true := by
 unfold s_spec_l05Pieces
 have key := loop_all (l := fun n j => l_spec_l05Pieces_b0 n (pcs P) (j : Nat)) (p := fun j => true) (A := .inl ()) (B := .inr false) P.length (ev_f (by simp [prs_length]) ev_some) (by
  intro j hj hp v ih
  have hb := okP_at hP hj
  refine ev_t (by simp [prs_length]; omega) (ev_bnd (ev_of fun n => idx_pcs hj) (ev_bnd (l00In_ok _ _ _) ?_))
  rw [w64 (kd P j) (by omega)]
  refine ev_t (by simp; omega) (ev_bnd (ev_of fun n => idx_pcs hj) (ev_bnd (l00In_ok _ _ _) ?_))
  rw [w64 (wd P j) (by omega), up64 j (by omega)]
  exact ev_t (by simp; omega) ih) (by
  intro j hj hp; cases hp) P.length 0 (by omega)
 rw [allN_true, sel_t] at key
 exact ev_bnd key ev_some
theorem l05Asked_ok {P : List (Int × Int)} (hP : okP P) (hl : P.length ≤ 30) : Ev (fun n => s_spec_l05Asked n (pcs P)) 0 := by
 unfold s_spec_l05Asked
 exact ev_bnd (l05Pieces_ok hP (by omega)) (ev_t rfl (ev_f (by simp [prs_length]; omega) ev_some))
theorem l05Two_ok {P S : List (Int × Int)} (hP : okP P) (hl : P.length ≤ 30) (hS : okP S) (hs : S.length ≤ 30) : Ev (fun n => s_spec_l05Two n (pcs P) (pcs S)) 0 := by
 unfold s_spec_l05Two
 exact ev_bnd (l05Pieces_ok hP (by omega)) (ev_t rfl (ev_bnd (l05Pieces_ok hS (by omega)) (ev_t rfl (ev_f (by simp [prs_length]; omega) (ev_f (by simp [prs_length]; omega) ev_some)))))
theorem code2_ok {P S : List (Int × Int)} (hP : okP P) (hl : P.length ≤ 30) (hS : okP S) (hs : S.length ≤ 30) : Ev (fun n => s_impl_piecesCode n [V.sl (pcs P), V.sl (pcs S)]) 0 := by
 unfold s_impl_piecesCode
 have i0 : ∀ n : Nat, bnd (idx [V.sl (pcs P), V.sl (pcs S)] 0) as_LPi8_i8Q = some (pcs P) := fun n => rfl
 have i1 : ∀ n : Nat, bnd (idx [V.sl (pcs P), V.sl (pcs S)] (IntKind.i64.wrap (0 + 1))) as_LPi8_i8Q = some (pcs S) := fun n => rfl
 refine ev_bnd (a := true) ?_ (ev_t rfl (ev_bnd (a := true) ?_ (ev_t rfl ev_some)))
 ·unfold s_impl_areAll_Simpl_Piece__piecesCode_1 s_cnPa s_ixPa
  have one : ∀ {Q : List (Int × Int)}, okP Q → Q.length ≤ 30 → Ev (fun n => s_impl_areAll_Simpl_Piece_1__piecesCode_1 n (pcs Q)) false := fun hq hl => by
   unfold s_impl_areAll_Simpl_Piece_1__piecesCode_1 s_impl_piecesCode_1
   exact ev_bnd (ev_bnd (allPieces_ok hq (by omega)) ev_some) ev_some
  refine ev_bnd (a := false) (ev_bnd (a := -1) (ev_bnd (a := Sum.inl ()) (ev_succ (ev_t (by simp) (ev_bnd (ev_of i0) (ev_bnd (one hP hl) (ev_f rfl (ev_succ (ev_t ?_ (ev_bnd (ev_of i1) (ev_bnd (one hS hs) (ev_f rfl (ev_succ (ev_f ?_ ev_some)))))))))))) ev_some) ev_some) ev_some
  ·show decide (IntKind.i64.wrap (0 + 1) < ((2 : Nat) : Int)) = true; decide
  ·show decide (IntKind.i64.wrap (IntKind.i64.wrap (0 + 1) + 1) < ((2 : Nat) : Int)) = false; decide
 ·unfold s_impl_areAll_Simpl_Piece__piecesCode_2 s_cnPb s_ixPb
  have one : ∀ {Q : List (Int × Int)}, Q.length ≤ 30 → Ev (fun n => s_impl_areAll_Simpl_Piece_1__piecesCode_2 n (pcs Q)) false := fun {Q} hl => by
   unfold s_impl_areAll_Simpl_Piece_1__piecesCode_2 s_impl_piecesCode_2
   refine ev_bnd (a := true) (ev_cast ev_some ?_) ev_some
   rw [prs_length]; simp; omega
  refine ev_bnd (a := false) (ev_bnd (a := -1) (ev_bnd (a := Sum.inl ()) (ev_succ (ev_t (by simp) (ev_bnd (ev_of i0) (ev_bnd (one hl) (ev_f rfl (ev_succ (ev_t ?_ (ev_bnd (ev_of i1) (ev_bnd (one hs) (ev_f rfl (ev_succ (ev_f ?_ ev_some)))))))))))) ev_some) ev_some) ev_some
  ·show decide (IntKind.i64.wrap (0 + 1) < ((2 : Nat) : Int)) = true; decide
  ·show decide (IntKind.i64.wrap (IntKind.i64.wrap (0 + 1) + 1) < ((2 : Nat) : Int)) = false; decide
theorem iPairPieces_ok {P : List (Int × Int)} (hP : okP P) (hl : P.length ≤ 30) {L : List V} (h : Ev (fun n => s_impl_pairs n (pcs P)) L) : Ev (fun n => s_impl_PairPieces n (pcs P)) (L, 0) := by
 unfold s_impl_PairPieces
 exact ev_bnd (code_ok hP hl) (ev_t rfl (ev_bnd h ev_some))
theorem sPairPieces_ok {P : List (Int × Int)} (hP : okP P) (hl : P.length ≤ 30) {L : List V} (h : Ev (fun n => s_spec_l05Pairs n (pcs P)) L) : Ev (fun n => s_spec_PairPieces n (pcs P)) (L, 0) := by
 unfold s_spec_PairPieces
 exact ev_bnd (l05Asked_ok hP hl) (ev_t rfl (ev_bnd h ev_some))
theorem twos_length (D : List (Nat × Nat)) : (twos D).length = D.length := List.length_map ..
theorem tilesI_ok {P : List (Int × Int)} (hl : P.length ≤ 1000) {D : List (Nat × Nat)} (hd : D.length ≤ P.length) (h : Ev (fun n => s_impl_pairs n (pcs P)) (twos D)) : Ev (fun n => s_impl_tilesFor n (pcs P)) ((P.length - D.length : Nat) : Int) := by
 unfold s_impl_tilesFor
 refine ev_bnd h (ev_cast ev_some ?_)
 rw [prs_length, twos_length]
 exact ws _ _ (by omega) hd
theorem tilesS_ok {P : List (Int × Int)} (hl : P.length ≤ 1000) {D : List (Nat × Nat)} (hd : D.length ≤ P.length) (h : Ev (fun n => s_spec_l05Pairs n (pcs P)) (twos D)) : Ev (fun n => s_spec_l05Tiles n (pcs P)) ((P.length - D.length : Nat) : Int) := by
 unfold s_spec_l05Tiles
 refine ev_bnd h (ev_cast ev_some ?_)
 rw [prs_length, twos_length]
 exact ws _ _ (by omega) hd
theorem TilesFor_ok {P : List (Int × Int)} (hP : okP P) (hl : P.length ≤ 30) {t : Int} (h : Ev (fun n => s_impl_tilesFor n (pcs P)) t) : Ev (fun n => s_impl_TilesFor n (pcs P)) (t, 0) := by
 unfold s_impl_TilesFor
 exact ev_bnd (code_ok hP hl) (ev_t rfl (ev_bnd h ev_some))
def nums (l : List Int) : List V := l.map fun x => V.int .i64 x
theorem nums_length (l : List Int) : (nums l).length = l.length := List.length_map ..
theorem idx_nums {l : List Int} {j : Nat} (h : j < l.length) : bnd (idx (nums l) (j : Int)) as_i64 = some l[j] := by
 rw [idx_nat, nums]; simp [h, bnd, as_i64]
theorem Same_ok (l : List Int) (hl : l.length ≤ 1000) : Ev (fun n => s_spec_l00Same n (nums l) (nums l)) true := by
 unfold s_spec_l00Same
 refine ev_t (by simp) (ev_bnd (a := Sum.inl ()) ?_ ev_some)
 have := loop_all (l := fun n k => l_spec_l00Same_b0 n (nums l) (nums l) (k : Nat)) (p := fun _ => true) (A := .inl ()) (B := .inr false) l.length (ev_f (by simp [nums_length]) ev_some) (by
  intro k hk _ a ih
  refine ev_t (by simp [nums_length]; omega) (ev_bnd (ev_of fun n => idx_nums hk) (ev_bnd (ev_of fun n => idx_nums hk) (ev_t (by simp) ?_)))
  rw [up64 k (by omega)]; exact ih) (by
  intro k hk h; cases h) l.length 0 (Nat.zero_add _)
 rwa [allN_true, sel_t] at this
theorem A2Same_ok (l : List Int) (hl : l.length ≤ 1000) : Ev (fun n => s_spec_A2Same n (nums l) (nums l)) true := ev_bnd (Same_ok l hl) ev_some
theorem nth_twos {D : List (Nat × Nat)} {k : Nat} {pq : Nat × Nat} (h : D[k]? = some pq) : bnd (nth (twos D) ((k : Int).toNat)) as_Li64 = some (nums [(pq.1 : Int), (pq.2 : Int)]) := by
 rw [Int.toNat_natCast, nth_get, twos, List.getElem?_map, h]; rfl
theorem idx_twos {D : List (Nat × Nat)} {k : Nat} {pq : Nat × Nat} (h : D[k]? = some pq) : bnd (idx (twos D) (k : Int)) as_Li64 = some (nums [(pq.1 : Int), (pq.2 : Int)]) := by
 rw [idx_nat, twos, List.getElem?_map, h]; rfl
theorem SameLists_ok (D : List (Nat × Nat)) (hl : D.length ≤ 1000) : Ev (fun n => s_spec_A2SameLists n (twos D) (twos D)) true := by
 unfold s_spec_A2SameLists
 refine ev_t (by simp) (ev_bnd (a := Sum.inl ()) ?_ ev_some)
 have := loop_all (l := fun n k => l_spec_A2SameLists_b0 n (twos D) (twos D) (k : Nat)) (p := fun _ => true) (A := .inl ()) (B := .inr false) D.length (ev_f (by simp [twos_length]) ev_some) (by
  intro k hk _ a ih
  have hd : D[k]? = some D[k] := List.getElem?_eq_getElem hk
  refine ev_t (by simp [twos_length]; omega) (ev_bnd (ev_of fun n => idx_twos hd) (ev_bnd (ev_of fun n => idx_twos hd) (ev_bnd (Same_ok _ (by simp)) (ev_t rfl ?_))))
  rw [up64 k (by omega)]; exact ih) (by
  intro k hk h; cases h) D.length 0 (Nat.zero_add _)
 rwa [allN_true, sel_t] at this
end Go.Proofs.YthdnamhilcjnhaaGreatDoor
namespace Go.Proofs.YthdnamhilcjnhaaGreatDoor
open Go
set_option linter.unusedVariables false
set_option linter.unusedSimpArgs false
def flatD (D : List (Nat × Nat)) : List Nat := D.flatMap fun pq => [pq.1, pq.2]
theorem flat_app (D D' : List (Nat × Nat)) : flatD (D ++ D') = flatD D ++ flatD D' := List.flatMap_append ..
theorem flat_len : ∀ (D : List (Nat × Nat)), (flatD D).length = 2 * D.length
 | [] => rfl
 | p :: D => by
  have := flat_len D
  show ([p.1, p.2] ++ flatD D).length = _
  rw [List.length_append, this, List.length_cons]; simp; omega
theorem take_snoc {D : List (Nat × Nat)} {k : Nat} {pq : Nat × Nat} (h : D[k]? = some pq) : D.take (k + 1) = D.take k ++ [pq] := by
 rw [List.take_add_one, h]; rfl
theorem flat_take {D : List (Nat × Nat)} {k : Nat} {pq : Nat × Nat} (h : D[k]? = some pq) : flatD (D.take (k + 1)) = flatD (D.take k) ++ [pq.1, pq.2] := by
 rw [take_snoc h, flat_app]; rfl
theorem plain_ints (l : List Nat) : plainV (V.fresh 0 (ints l)) = true := by
 show allB plainP.plainE (ints l) = true
 induction l with
 | nil => rfl
 | cons p l ih => exact ih
theorem growI_ok (n : Nat) (z : Nat) (h : z ≤ 1000) : s_slices_Grow_Sint64_int64 n (z : Int) = some [] := by
 unfold s_slices_Grow_Sint64_int64
 rw [show IntKind.i64.wrap ((0 : Int) - 0) = 0 by decide, w64 ((z : Int) - 0) (by omega)]
 have e1 : decide ((z : Int) < 0) = false := by simp
 rw [e1, cnd_f]
 cases c : decide ((0 : Int) < (z : Int) - 0) with
 | false => rfl
 | true =>
  rw [cnd_t, show decide (0 = 0) = true from rfl, chk_t]
  have e2 : decide (((z : Int) - 0).toNat * 8 ≤ 140737488355328) = true := by simp; omega
  rw [e2]
  simp [chk]
theorem concat_ok (D : List (Nat × Nat)) (hl : D.length ≤ 400) : Ev (fun n => s_slices_Concat_Sint64_int64 n (twos D)) (ints (flatD D)) := by
 unfold s_slices_Concat_Sint64_int64
 have c0 : ∀ (d k : Nat), k + d = D.length → Ev (fun n => l_slices_Concat_Sint64_int64_b0 n (twos D) ((2 * k : Nat) : Int) (twos D) (D.length : Int) (k : Int)) (twos D, ((2 * D.length : Nat) : Int)) := by
  intro d
  induction d with
  | zero => intro k hk; obtain rfl : k = D.length := by omega
            exact ev_succ (ev_f (by simp) ev_some)
  | succ d ih =>
   intro k hk
   have hd : D[k]? = some D[k] := List.getElem?_eq_getElem (by omega)
   have e : IntKind.i64.wrap (((2 * k : Nat) : Int) + ((nums [((D[k]'(by omega)).1 : Int), ((D[k]'(by omega)).2 : Int)]).length : Int)) = ((2 * (k + 1) : Nat) : Int) := by
    rw [nums_length, w64 _ (by simp; omega)]; simp; omega
   refine ev_succ (ev_t (by simp; omega) (ev_bnd (ev_of fun n => idx_twos hd) ?_))
   rw [e]
   refine ev_f (by simp; omega) ?_
   rw [up64 k (by omega)]
   exact ih (k + 1) (by omega)
 have c2 : ∀ (d k : Nat), k + d = D.length → Ev (fun n => l_slices_Concat_Sint64_int64_b2 n (twos D) (D.length : Int) (k : Int) (ints (flatD (D.take k)))) (ints (flatD D)) := by
  intro d
  induction d with
  | zero => intro k hk; obtain rfl : k = D.length := by omega
            rw [List.take_length]
            exact ev_succ (ev_f (by simp) ev_some)
  | succ d ih =>
   intro k hk
   have hd : D[k]? = some D[k] := List.getElem?_eq_getElem (by omega)
   have h1 := ih (k + 1) (by omega)
   rw [flat_take hd, ints_app] at h1
   have hlen : (flatD (D.take k)).length ≤ 2 * k := by rw [flat_len, List.length_take]; omega
   refine ev_succ (ev_t (by simp; omega) (ev_bnd (ev_of fun n => idx_twos hd) (ev_chk ?_ (ev_chk rfl ?_))))
   ·rw [nums_length, ints_length]; simp; omega
   ·rw [up64 k (by omega)]; exact h1
 have h0 := c0 D.length 0 (by omega)
 have h2 := c2 D.length 0 (by omega)
 rw [twos_length]
 refine ev_bnd h0 ?_
 dsimp only
 refine ev_bnd (ev_of fun n => growI_ok n _ (by omega)) (ev_chk rfl ?_)
 rw [twos_length]
 exact ev_bnd h2 ev_some
def usd (D : List (Nat × Nat)) (k : Nat) : Nat → Bool := fun x => decide (x ∈ flatD (D.take k))
theorem usd_succ {D : List (Nat × Nat)} {k : Nat} {pq : Nat × Nat} (h : D[k]? = some pq) : usd D (k + 1) = ptB (ptB (usd D k) pq.1) pq.2 := by
 funext x
 unfold usd ptB
 rw [flat_take h]
 by_cases h1 : x = pq.2
 ·subst h1; simp
 ·by_cases h2 : x = pq.1
  ·subst h2; simp
  ·simp [h1, h2]
theorem usd_all {D : List (Nat × Nat)} (x : Nat) : usd D D.length x = decide (x ∈ flatD D) := by unfold usd; rw [List.take_length]
theorem usd_zero (D : List (Nat × Nat)) : usd D 0 = fun _ => false := by funext x; simp [usd, flatD]
theorem contains_ok {l : List Nat} (hl : l.length ≤ 1000) (x : Nat) : Ev (fun n => s_slices_Contains_Sint64_int64 n (ints l) x) (decide (x ∈ l)) := by
 unfold s_slices_Contains_Sint64_int64 s_slices_Index_Sint64_int64
 rw [ints_length]
 have := loop_first (l := fun n j => l_slices_Index_Sint64_int64_b0 n (ints l) x (l.length : Int) (j : Nat)) (p := fun j => decide (x = l.getD j 0)) (A := .inl ()) (B := fun j => .inr (j : Int)) l.length
  (ev_f (by simp) ev_some) (by
   intro k hk hc a ih
   have hg : l[k]? = some (l.getD k 0) := by rw [List.getD_eq_getElem?_getD, List.getElem?_eq_getElem hk]; rfl
   refine ev_t (by simp; omega) (ev_bnd (a := ((l.getD k 0 : Nat) : Int)) (ev_of fun n => by rw [idx_ints hg]; rfl) (ev_f ?_ ?_))
   ·rw [decide_eq_false_iff_not] at hc ⊢; omega
   ·rw [up64 k (by omega)]; exact ih) (by
   intro k hk hc
   have hg : l[k]? = some (l.getD k 0) := by rw [List.getD_eq_getElem?_getD, List.getElem?_eq_getElem hk]; rfl
   refine ev_t (by simp; omega) (ev_bnd (a := ((l.getD k 0 : Nat) : Int)) (ev_of fun n => by rw [idx_ints hg]; rfl) (ev_t ?_ ev_some))
   rw [decide_eq_true_eq] at hc ⊢; omega) l.length 0 (Nat.zero_add _)
 cases hf : firstN (fun j => decide (x = l.getD j 0)) 0 l.length with
 | none =>
  rw [hf] at this
  refine ev_bnd (ev_bnd this ev_some) (ev_cast ev_some ?_)
  have hn : x ∉ l := fun hx => by
   obtain ⟨j, hj, e⟩ := List.getElem_of_mem hx
   have := firstN_none hf j (Nat.zero_le _) (by omega)
   rw [decide_eq_false_iff_not] at this
   apply this
   rw [List.getD_eq_getElem?_getD, List.getElem?_eq_getElem hj, e]; rfl
  simp [hn]
 | some j =>
  rw [hf] at this
  refine ev_bnd (ev_bnd this ev_some) (ev_cast ev_some ?_)
  obtain ⟨_, hj, hc, _⟩ := firstN_some hf
  rw [decide_eq_true_eq] at hc
  have hg : l[j]? = some (l.getD j 0) := by rw [List.getD_eq_getElem?_getD, List.getElem?_eq_getElem (by omega)]; rfl
  have hm : x ∈ l := by rw [hc]; exact List.mem_of_getElem? hg
  simp [hm]
def off1 (P : List (Int × Int)) (T : Nat → Bool) (j : Nat) : List (Int × Int) := if kd P j = 2 ∨ T j = true then [] else [(1 - kd P j, 8 - wd P j)]
def off (P : List (Int × Int)) (T : Nat → Bool) (k : Nat) : List (Int × Int) := (List.range k).flatMap (off1 P T)
theorem off_succ (P : List (Int × Int)) (T : Nat → Bool) (k : Nat) : off P T (k + 1) = off P T k ++ off1 P T k := by
 unfold off; rw [List.range_succ, List.flatMap_append]; simp
theorem off_len (P : List (Int × Int)) (T : Nat → Bool) : ∀ k, (off P T k).length ≤ k
 | 0 => by simp [off]
 | k + 1 => by
  have := off_len P T k
  rw [off_succ, List.length_append]
  have : (off1 P T k).length ≤ 1 := by unfold off1; split <;> simp
  omega
theorem iOff_ok {P : List (Int × Int)} (hP : okP P) (hl : P.length ≤ 30) {D : List (Nat × Nat)} (hd : D.length ≤ P.length) (h : Ev (fun n => s_impl_pairs n (pcs P)) (twos D)) : Ev (fun n => s_impl_OffcutsOf n (pcs P)) (pcs (off P (usd D D.length) P.length), 0) := by
 have hfl : (flatD D).length ≤ 1000 := by rw [flat_len]; omega
 have key : ∀ (d k : Nat), k + d = P.length → Ev (fun n => l_impl_OffcutsOf_b0 n (pcs P) (P.length : Int) (k : Int) (ints (flatD D)) (pcs (off P (usd D D.length) k))) (pcs (off P (usd D D.length) P.length)) := by
  intro d
  induction d with
  | zero => intro k hk; obtain rfl : k = P.length := by omega
            exact ev_succ (ev_f (by simp) ev_some)
  | succ d ih =>
   intro k hk
   have h1 := ih (k + 1) (by omega)
   have hb := okP_at hP (x := k) (by omega)
   have ho := off_len P (usd D D.length) k
   rw [off_succ] at h1
   refine ev_succ (ev_t (by simp; omega) (ev_bnd (ev_of fun n => idx_pcs (show k < P.length by omega)) ?_))
   dsimp only
   rw [up64 k (by omega)]
   by_cases c : kd P k = 2
   ·rw [show off1 P (usd D D.length) k = [] from if_pos (.inl c), List.append_nil] at h1
    exact ev_t (by simpa using c) h1
   ·refine ev_f (by simpa using c) (ev_bnd (contains_ok hfl k) ?_)
    by_cases c2 : k ∈ flatD D
    ·rw [show off1 P (usd D D.length) k = [] from if_pos (.inr (by rw [usd_all]; simpa using c2)), List.append_nil] at h1
     exact ev_t (by simpa using c2) h1
    ·rw [show off1 P (usd D D.length) k = [(1 - kd P k, 8 - wd P k)] from if_neg (by rw [usd_all]; simp [c, c2])] at h1
     refine ev_f (by simpa using c2) (ev_chk (by simp [prs_length]; omega) ?_)
     rw [w8 (1 - kd P k) (by omega), w8 (8 - wd P k) (by omega), pcs_snoc]
     exact h1
 unfold s_impl_OffcutsOf
 have h0 := key P.length 0 (by omega)
 refine ev_bnd (code_ok hP hl) (ev_t rfl (ev_bnd h (ev_bnd (concat_ok D (by omega)) (ev_chk (plain_ints _) ?_))))
 rw [prs_length]
 exact ev_bnd h0 ev_some
theorem idx_two0 (a b : Int) : bnd (idx (nums [a, b]) 0) as_i64 = some a := rfl
theorem idx_two1 (a b : Int) : bnd (idx (nums [a, b]) 1) as_i64 = some b := rfl
theorem sOff_ok {P : List (Int × Int)} (hP : okP P) (hl : P.length ≤ 30) {D : List (Nat × Nat)} (hd : D.length ≤ P.length) (hD : ∀ pq, pq ∈ D → pq.1 < P.length ∧ pq.2 < P.length) (h : Ev (fun n => s_spec_l05Pairs n (pcs P)) (twos D)) : Ev (fun n => s_spec_OffcutsOf n (pcs P)) (pcs (off P (usd D D.length) P.length), 0) := by
 have mk : ∀ (d k : Nat), k + d = D.length → Ev (fun n => l_spec_OffcutsOf_b0 n (pcs P) (k : Int) (bl P.length (usd D k)) (twos D)) (pcs P, bl P.length (usd D D.length)) := by
  intro d
  induction d with
  | zero => intro k hk; obtain rfl : k = D.length := by omega
            exact ev_succ (ev_f (by simp [twos_length]) ev_some)
  | succ d ih =>
   intro k hk
   have hk' : k < D.length := by omega
   have hg : D[k]? = some D[k] := List.getElem?_eq_getElem hk'
   obtain ⟨b1, b2⟩ := hD _ (List.getElem_mem hk')
   have h1 := ih (k + 1) (by omega)
   rw [usd_succ hg] at h1
   refine ev_succ (ev_t (by simp [twos_length]; omega) (ev_chk (inB_k _ _ (by rw [twos_length]; exact hk')) (ev_bnd (ev_of fun n => nth_twos hg) (ev_bnd (ev_of fun n => idx_two0 _ _) (ev_chk (inB_k _ _ (by rw [bl_length]; exact b1)) (ev_bnd (ev_of fun n => nth_bl b1) (ev_bnd (ev_of fun n => nth_twos hg) (ev_bnd (ev_of fun n => idx_two1 _ _) ?_))))))))
   rw [set_bl b1]
   refine ev_chk (inB_k _ _ (by rw [bl_length]; exact b2)) (ev_bnd (ev_of fun n => nth_bl b2) ?_)
   rw [set_bl b2, up64 k (by omega)]
   exact h1
 have key : ∀ (d k : Nat), k + d = P.length → Ev (fun n => l_spec_OffcutsOf_b2 n (pcs P) (k : Int) (bl P.length (usd D D.length)) (pcs (off P (usd D D.length) k))) (pcs (off P (usd D D.length) P.length)) := by
  intro d
  induction d with
  | zero => intro k hk; obtain rfl : k = P.length := by omega
            exact ev_succ (ev_f (by simp [prs_length]) ev_some)
  | succ d ih =>
   intro k hk
   have hk' : k < P.length := by omega
   have h1 := ih (k + 1) (by omega)
   have hb := okP_at hP hk'
   have ho := off_len P (usd D D.length) k
   rw [off_succ] at h1
   refine ev_succ (ev_t (by simp [prs_length]; omega) (ev_chk (inB_k _ _ (by rw [bl_length]; exact hk')) (ev_bnd (ev_of fun n => nth_bl hk') ?_)))
   rw [up64 k (by omega)]
   cases c2 : usd D D.length k with
   | true =>
    rw [show off1 P (usd D D.length) k = [] from if_pos (.inr c2), List.append_nil] at h1
    exact ev_t rfl h1
   | false =>
    refine ev_f rfl (ev_bnd (ev_of fun n => idx_pcs hk') ?_)
    dsimp only
    by_cases c : kd P k = 2
    ·rw [show off1 P (usd D D.length) k = [] from if_pos (.inl c), List.append_nil] at h1
     exact ev_t (by simpa using c) h1
    ·rw [show off1 P (usd D D.length) k = [(1 - kd P k, 8 - wd P k)] from if_neg (by rw [c2]; simp [c])] at h1
     refine ev_f (by simpa using c) (ev_bnd (ev_of fun n => idx_pcs hk') ?_)
     dsimp only
     by_cases c0 : kd P k = 0
     ·rw [c0, ← pcs_snoc] at h1
      refine ev_t (by simpa using c0) (ev_bnd (ev_of fun n => idx_pcs hk') (ev_chk (by simp [prs_length]; omega) ?_))
      rw [w8 (8 - wd P k) (by omega)]
      exact h1
     ·rw [show kd P k = 1 by omega, ← pcs_snoc] at h1
      refine ev_f (by simpa using c0) (ev_bnd (ev_of fun n => idx_pcs hk') (ev_chk (by simp [prs_length]; omega) ?_))
      rw [w8 (8 - wd P k) (by omega)]
      exact h1
 have h0 := mk D.length 0 (by omega)
 have h2 := key P.length 0 (by omega)
 rw [usd_zero] at h0
 unfold s_spec_OffcutsOf
 rw [prs_length]
 refine ev_bnd (l05Asked_ok hP hl) (ev_t rfl (ev_chk (by simp; omega) (ev_bnd h ?_)))
 rw [Int.toNat_natCast, rep_bl]
 exact ev_bnd h0 (ev_bnd h2 ev_some)
end Go.Proofs.YthdnamhilcjnhaaGreatDoor
namespace Go.Proofs.YthdnamhilcjnhaaGreatDoor
open Go
set_option linter.unusedVariables false
set_option linter.unusedSimpArgs false
def rowI (N : Nat) (g : Nat → Int) : List V := (List.range N).map fun i => V.int .i64 (g i)
def ptI (g : Nat → Int) (i : Nat) (x : Int) : Nat → Int := fun j => if j = i then x else g j
theorem rowI_length (N : Nat) (g : Nat → Int) : (rowI N g).length = N := by simp [rowI]
theorem rowI_nums (N : Nat) (g : Nat → Int) : rowI N g = nums ((List.range N).map g) := by simp [rowI, nums, List.map_map, Function.comp_def]
theorem nth_rowI {N : Nat} {g : Nat → Int} {i : Nat} (h : i < N) : bnd (nth (rowI N g) ((i : Int).toNat)) as_i64 = some (g i) := by
 rw [Int.toNat_natCast, nth_get, rowI]; simp [h, bnd, as_i64]
theorem set_rowI {N : Nat} {g : Nat → Int} {i : Nat} {x : Int} (h : i < N) : setNth (rowI N g) ((i : Int).toNat) (V.int .i64 x) = rowI N (ptI g i x) := by
 rw [Int.toNat_natCast]
 apply List.ext_getElem?
 intro j
 rw [setNth_get]
 unfold rowI
 by_cases hj : j < N
 ·by_cases e : j = i
  ·subst e; simp [ptI, hj]
  ·simp [ptI, hj, e]
 ·by_cases e : j = i
  ·omega
  ·simp [hj, e]
theorem rep_rowI (N : Nat) : List.replicate N (V.int .i64 0) = rowI N (fun _ => 0) := by
 apply List.ext_getElem?
 intro j
 unfold rowI
 by_cases hj : j < N <;> simp [hj, List.getElem?_replicate]
def fitB (S : List (Int × Int)) (T : Nat → Bool) (h w : Int) (j : Nat) : Bool := !T j && (decide (w ≤ wd S j) && (decide (h = 2) || decide (h = kd S j)))
def bst (S : List (Int × Int)) (T : Nat → Bool) (h w : Int) : Nat → Option Nat
 | 0 => none
 | j + 1 => if fitB S T h w j = true then (match bst S T h w j with
  | none => some j
  | some b => if wd S j < wd S b then some j else some b) else bst S T h w j
theorem bst_succ (S : List (Int × Int)) (T : Nat → Bool) (h w : Int) (j : Nat) : bst S T h w (j + 1) = if fitB S T h w j = true then (match bst S T h w j with
 | none => some j
 | some b => if wd S j < wd S b then some j else some b) else bst S T h w j := rfl
theorem bst_some {S : List (Int × Int)} {T : Nat → Bool} {h w : Int} : ∀ {j b : Nat}, bst S T h w j = some b → b < j ∧ fitB S T h w b = true
 | 0, b, e => by cases e
 | j + 1, b, e => by
  rw [bst_succ] at e
  by_cases c : fitB S T h w j = true
  ·rw [if_pos c] at e
   cases hb : bst S T h w j with
   | none => rw [hb] at e; obtain rfl := Option.some.inj e; exact ⟨by omega, c⟩
   | some b' =>
    rw [hb] at e
    dsimp only at e
    obtain ⟨h1, h2⟩ := bst_some hb
    split at e
    ·obtain rfl := Option.some.inj e; exact ⟨by omega, c⟩
    ·obtain rfl := Option.some.inj e; exact ⟨by omega, h2⟩
  ·rw [if_neg c] at e
   obtain ⟨h1, h2⟩ := bst_some e
   exact ⟨by omega, h2⟩
def obI : Option Nat → Int
 | none => -1
 | some b => (b : Int)
theorem isCut_ok (h w a b : Int) : Ev (fun n => s_impl_Piece_isCut n h w a b) (decide (w ≤ b) && (decide (h = 2) || decide (h = a))) := by
 unfold s_impl_Piece_isCut
 by_cases c : w ≤ b
 ·refine ev_t (by simpa using c) ?_
  by_cases c2 : h = 2
  ·exact ev_t (by simpa using c2) (ev_cast ev_some (by simp [c, c2]))
  ·exact ev_f (by simpa using c2) (ev_cast ev_some (by simp [c, c2]))
 ·exact ev_f (by simpa using c) (ev_cast ev_some (by simp [c]))
theorem iScan_ok {P S : List (Int × Int)} (hS : S.length ≤ 100) {T : Nat → Bool} {ks vs : List V} (hM : Mk S.length ks vs T) {p : Nat} (hp : p < P.length) (x4 x5 : Int) (R Ov : List V) : ∀ (d j : Nat), j + d = S.length →
 Ev (fun n => l_impl_cover_b2 n (pcs P) (pcs S) p (obI (bst S T (kd P p) (wd P p) j)) x4 x5 (pcs S) (S.length : Int) (j : Int) R ks vs Ov) (pcs P, pcs S, (p : Int), obI (bst S T (kd P p) (wd P p) S.length), x4, x5, R, ks, vs, Ov)
 | 0, j, hj => by
  obtain rfl : j = S.length := by omega
  exact ev_succ (ev_f (by simp) ev_some)
 | d + 1, j, hj => by
  have hj' : j < S.length := by omega
  have h1 := iScan_ok hS hM hp x4 x5 R Ov d (j + 1) (by omega)
  rw [bst_succ] at h1
  refine ev_succ (ev_t (by simp; omega) (ev_bnd (ev_of fun n => idx_pcs hj') (ev_chk hM.1 (ev_chk (key_is j (by omega)) ?_))))
  rw [hM.2.2 j hj', up64 j (by omega)]
  cases ct : T j with
  | true =>
   rw [if_neg (by unfold fitB; rw [ct]; simp)] at h1
   exact ev_t rfl h1
  | false =>
   refine ev_f rfl (ev_bnd (ev_of fun n => idx_pcs hp) (ev_bnd (isCut_ok _ _ _ _) ?_))
   have hf : fitB S T (kd P p) (wd P p) j = (decide (wd P p ≤ wd S j) && (decide (kd P p = 2) || decide (kd P p = kd S j))) := by unfold fitB; rw [ct]; rfl
   rw [← hf]
   cases cf : fitB S T (kd P p) (wd P p) j with
   | false =>
    rw [if_neg (by rw [cf]; simp)] at h1
    exact ev_f rfl h1
   | true =>
    rw [if_pos cf] at h1
    refine ev_t rfl ?_
    cases hb : bst S T (kd P p) (wd P p) j with
    | none =>
     rw [hb] at h1
     exact ev_t rfl h1
    | some b =>
     rw [hb] at h1
     dsimp only at h1
     obtain ⟨b1, _⟩ := bst_some hb
     refine ev_f (by show decide ((b : Int) = -1) = false; simp) (ev_bnd (ev_of fun n => idx_pcs (show b < S.length by omega)) ?_)
     dsimp only
     by_cases c : wd S j < wd S b
     ·rw [if_pos c] at h1
      exact ev_t (by simpa using c) h1
     ·rw [if_neg c] at h1
      exact ev_f (by simpa using c) h1
theorem sScan_ok {P S : List (Int × Int)} (hS : S.length ≤ 100) {T : Nat → Bool} (k : Int) (R Ov : List V) (h w : Int) : ∀ (d j : Nat), j + d = S.length →
 Ev (fun n => l_spec_l05Cover_b2 n (pcs P) (pcs S) k (obI (bst S T h w j)) (j : Int) R (bl S.length T) Ov h w) (pcs P, pcs S, k, obI (bst S T h w S.length), R, bl S.length T, Ov)
 | 0, j, hj => by
  obtain rfl : j = S.length := by omega
  exact ev_succ (ev_f (by simp [prs_length]) ev_some)
 | d + 1, j, hj => by
  have hj' : j < S.length := by omega
  have h1 := sScan_ok (P := P) (T := T) hS k R Ov h w d (j + 1) (by omega)
  rw [bst_succ] at h1
  have tail : decide (w ≤ wd S j) = true → (decide (h = 2) || decide (h = kd S j)) = true → Ev (fun n => cnd (T j)
   (l_spec_l05Cover_b2 n (pcs P) (pcs S) k (obI (bst S T h w j)) ((j + 1 : Nat) : Int) R (bl S.length T) Ov h w)
   (cnd (decide (obI (bst S T h w j) < 0))
    (l_spec_l05Cover_b2 n (pcs P) (pcs S) k j ((j + 1 : Nat) : Int) R (bl S.length T) Ov h w)
    (bnd (bnd (idx (pcs S) j) as_Pi8_i8Q) fun (e17_0, e17_1) =>
     bnd (bnd (idx (pcs S) (obI (bst S T h w j))) as_Pi8_i8Q) fun (e18_0, e18_1) =>
      cnd (decide ((e17_1) < (e18_1)))
       (l_spec_l05Cover_b2 n (pcs P) (pcs S) k j ((j + 1 : Nat) : Int) R (bl S.length T) Ov h w)
       (l_spec_l05Cover_b2 n (pcs P) (pcs S) k (obI (bst S T h w j)) ((j + 1 : Nat) : Int) R (bl S.length T) Ov h w)))) (pcs P, pcs S, k, obI (bst S T h w S.length), R, bl S.length T, Ov) := by
   intro c1 c2
   have hf : fitB S T h w j = !T j := by unfold fitB; rw [c1, c2]; simp
   cases ct : T j with
   | true =>
    rw [if_neg (by rw [hf, ct]; simp)] at h1
    exact ev_t rfl h1
   | false =>
    rw [if_pos (by rw [hf, ct]; rfl)] at h1
    refine ev_f rfl ?_
    cases hb : bst S T h w j with
    | none =>
     rw [hb] at h1
     exact ev_t rfl h1
    | some b =>
     rw [hb] at h1
     dsimp only at h1
     obtain ⟨b1, _⟩ := bst_some hb
     refine ev_f (by show decide ((b : Int) < 0) = false; simp) (ev_bnd (ev_of fun n => idx_pcs hj') (ev_bnd (ev_of fun n => idx_pcs (show b < S.length by omega)) ?_))
     dsimp only
     by_cases c : wd S j < wd S b
     ·rw [if_pos c] at h1
      exact ev_t (by simpa using c) h1
     ·rw [if_neg c] at h1
      exact ev_f (by simpa using c) h1
  refine ev_succ (ev_t (by simp [prs_length]; omega) (ev_bnd (ev_of fun n => idx_pcs hj') ?_))
  dsimp only
  rw [up64 j (by omega)]
  by_cases c1 : w ≤ wd S j
  ·refine ev_t (by simpa using c1) (ev_bnd (ev_of fun n => idx_pcs hj') ?_)
   dsimp only
   by_cases c2 : kd S j = h
   ·exact ev_t (by simpa using c2) (ev_chk (inB_k _ _ (by rw [bl_length]; exact hj')) (ev_bnd (ev_of fun n => nth_bl hj') (tail (by simpa using c1) (by simp [c2]))))
   ·refine ev_f (by simpa using c2) ?_
    by_cases c3 : h = 2
    ·exact ev_t (by simpa using c3) (ev_chk (inB_k _ _ (by rw [bl_length]; exact hj')) (ev_bnd (ev_of fun n => nth_bl hj') (tail (by simpa using c1) (by simp [c3]))))
    ·rw [if_neg (by unfold fitB; simp [c3, Ne.symm c2])] at h1
     exact ev_f (by simpa using c3) h1
  ·rw [if_neg (by unfold fitB; simp [c1])] at h1
   exact ev_f (by simpa using c1) h1
def covS (P S : List (Int × Int)) : List Nat → (Nat → Int) → (Nat → Bool) → (Nat → Int)
 | [], g, T => g
 | p :: l, g, T => match bst S T (kd P p) (wd P p) S.length with
  | none => covS P S l (ptI g p (-1)) T
  | some b => covS P S l (ptI g p b) (ptB T b)
theorem Mk_put {N : Nat} {ks vs : List V} {T : Nat → Bool} (hM : Mk N ks vs T) (hN : N ≤ 100) {b : Nat} (hb : b < N) : Mk N (mapPutK (V.int .i64 ((b : Nat) : Int)) ks) (mapPutV (V.int .i64 ((b : Nat) : Int)) (V.bool true) ks vs) (ptB T b) := by
 have hk := mapPut_fine true hM.1 hM.2.1 (key_is b (by omega))
 refine ⟨hk.1, hk.2, fun i hi => ?_⟩
 rw [getB_put true hM.1 hM.2.1 (key_is b (by omega)) (key_is i (by omega)), hM.2.2 i hi]
 simp only [ptB]
 have : (kNums (V.int .i64 ((i : Nat) : Int)) = kNums (V.int .i64 ((b : Nat) : Int))) ↔ i = b := by
  show ([(i : Int)] = [((b : Nat) : Int)]) ↔ _
  constructor
  ·intro h
   injection h with h
   exact Int.ofNat.inj h
  ·intro h; rw [h]
 simp only [this]
theorem coverL_ok {P S : List (Int × Int)} {O : List Nat} (hO : ∀ j, j < O.length → O[j]? = some (O.getD j 0) ∧ O.getD j 0 < P.length) (hP : P.length ≤ 39) (hl : O.length ≤ P.length) (hS : S.length ≤ 100) : ∀ (d k : Nat) (g : Nat → Int) (T : Nat → Bool) (ks vs : List V), k + d = O.length → Mk S.length ks vs T →
 Ev (fun n => l_spec_l05Cover_b0 n (pcs P) (pcs S) (k : Int) (rowI P.length g) (bl S.length T) (ints O)) (rowI P.length (covS P S (O.drop k) g T)) ∧
 Ev (fun n => l_impl_cover_b0 n (pcs P) (pcs S) (O.length : Int) (k : Int) (rowI P.length g) ks vs (ints O)) (rowI P.length (covS P S (O.drop k) g T))
 | 0, k, g, T, ks, vs, hk, hM => by
  rw [List.drop_of_length_le (by omega)]
  exact ⟨ev_succ (ev_f (by simp [ints_length]; omega) ev_some), ev_succ (ev_f (by simp; omega) ev_some)⟩
 | d + 1, k, g, T, ks, vs, hk, hM => by
  have hk' : k < O.length := by omega
  obtain ⟨h1, h2⟩ := hO k hk'
  have hdr : O.drop k = O.getD k 0 :: O.drop (k + 1) := by
   rw [List.drop_eq_getElem_cons (by omega), List.getD_eq_getElem?_getD, List.getElem?_eq_getElem (by omega)]; rfl
  rw [hdr]
  generalize hp : O.getD k 0 = p at h1 h2
  have hc : covS P S (p :: O.drop (k + 1)) g T = match bst S T (kd P p) (wd P p) S.length with
   | none => covS P S (O.drop (k + 1)) (ptI g p (-1)) T
   | some b => covS P S (O.drop (k + 1)) (ptI g p b) (ptB T b) := rfl
  rw [hc]
  have s1 := sScan_ok (P := P) (T := T) hS (k : Int) (rowI P.length g) (ints O) (kd P p) (wd P p) S.length 0 (by omega)
  have s2 := iScan_ok hS hM h2 (O.length : Int) (k : Int) (rowI P.length g) (ints O) S.length 0 (by omega)
  rw [show obI (bst S T (kd P p) (wd P p) 0) = -1 from rfl] at s1 s2
  have pre : ∀ R, Ev (fun n => cnd (decide ((0) ≤ obI (bst S T (kd P p) (wd P p) S.length)))
                      (chk (inB (obI (bst S T (kd P p) (wd P p) S.length)) (bl S.length T).length)
                       (bnd (bnd (nth (bl S.length T) ((obI (bst S T (kd P p) (wd P p) S.length)).toNat)) as_b) fun e36_0 =>
                        l_spec_l05Cover_b0 n (pcs P) (pcs S) ((k + 1 : Nat) : Int) (rowI P.length (ptI g p (obI (bst S T (kd P p) (wd P p) S.length)))) (setNth (bl S.length T) ((obI (bst S T (kd P p) (wd P p) S.length)).toNat) (V.bool true)) (ints O)))
                      (l_spec_l05Cover_b0 n (pcs P) (pcs S) ((k + 1 : Nat) : Int) (rowI P.length (ptI g p (obI (bst S T (kd P p) (wd P p) S.length)))) (bl S.length T) (ints O))) R →
   Ev (fun n => l_spec_l05Cover_b0 n (pcs P) (pcs S) (k : Int) (rowI P.length g) (bl S.length T) (ints O)) R := by
   intro R h
   refine ev_succ (ev_t (by simp [ints_length]; omega) (ev_chk (inB_k _ _ (by rw [ints_length]; exact hk')) (ev_bnd (ev_of fun n => nth_ints h1) (ev_bnd (ev_of fun n => idx_pcs h2) (ev_bnd s1 ?_)))))
   dsimp only
   refine ev_chk (inB_k _ _ (by rw [ints_length]; exact hk')) (ev_bnd (ev_of fun n => nth_ints h1) (ev_chk (inB_k _ _ (by rw [rowI_length]; exact h2)) (ev_bnd (ev_of fun n => nth_rowI h2) ?_)))
   rw [set_rowI h2, up64 k (by omega)]
   exact h
  have pre2 : ∀ R, Ev (fun n => cnd (decide (obI (bst S T (kd P p) (wd P p) S.length) = (-1)))
            (l_impl_cover_b0 n (pcs P) (pcs S) (O.length : Int) ((k + 1 : Nat) : Int) (rowI P.length (ptI g p (obI (bst S T (kd P p) (wd P p) S.length)))) ks vs (ints O))
            (chk (mapFine (false, [IntKind.i64]) ks vs)
             (chk (keyIs (false, [IntKind.i64]) (V.int .i64 (obI (bst S T (kd P p) (wd P p) S.length))))
                   (l_impl_cover_b0 n (pcs P) (pcs S) (O.length : Int) ((k + 1 : Nat) : Int) (rowI P.length (ptI g p (obI (bst S T (kd P p) (wd P p) S.length)))) (mapPutK (V.int .i64 (obI (bst S T (kd P p) (wd P p) S.length))) ks) (mapPutV (V.int .i64 (obI (bst S T (kd P p) (wd P p) S.length))) (V.bool true) ks vs) (ints O))))) R →
   Ev (fun n => l_impl_cover_b0 n (pcs P) (pcs S) (O.length : Int) (k : Int) (rowI P.length g) ks vs (ints O)) R := by
   intro R h
   refine ev_succ (ev_t (by simp; omega) (ev_chk (inB_k _ _ (by rw [ints_length]; exact hk')) (ev_bnd (ev_of fun n => nth_ints h1) ?_)))
   rw [show ((pcs S).length : Int) = (S.length : Int) by rw [prs_length]]
   refine ev_bnd s2 ?_
   dsimp only
   rw [set_rowI h2, up64 k (by omega)]
   have hin : inB (p : Int) (rowI P.length g).length = true := inB_k _ _ (by rw [rowI_length]; exact h2)
   have hnth : ∀ n : Nat, bnd (nth (rowI P.length g) ((p : Int).toNat)) as_i64 = some (g p) := fun n => nth_rowI h2
   obtain ⟨M, hMM⟩ := h
   refine ⟨M, fun n hn => ?_⟩
   have h3 := hMM n hn
   rw [hin, hnth n]
   exact h3
  cases hb : bst S T (kd P p) (wd P p) S.length with
  | none =>
   rw [hb] at pre pre2
   obtain ⟨r1, r2⟩ := coverL_ok hO hP hl hS d (k + 1) (ptI g p (-1)) T ks vs (by omega) hM
   exact ⟨pre _ (ev_f rfl r1), pre2 _ (ev_t rfl r2)⟩
  | some b =>
   rw [hb] at pre pre2
   obtain ⟨b1, _⟩ := bst_some hb
   obtain ⟨r1, r2⟩ := coverL_ok hO hP hl hS d (k + 1) (ptI g p b) (ptB T b) _ _ (by omega) (Mk_put hM hS b1)
   refine ⟨pre _ (ev_t (by show decide (0 ≤ (b : Int)) = true; simp) (ev_chk (inB_k _ _ (by rw [bl_length]; exact b1)) (ev_bnd (ev_of fun n => nth_bl b1) ?_))), pre2 _ (ev_f (by show decide ((b : Int) = -1) = false; simp) (ev_chk hM.1 (ev_chk (key_is b (by omega)) r2)))⟩
   show Ev (fun n => l_spec_l05Cover_b0 n (pcs P) (pcs S) ((k + 1 : Nat) : Int) (rowI P.length (ptI g p b)) (setNth (bl S.length T) ((b : Int).toNat) (V.bool true)) (ints O)) _
   rw [set_bl b1]
   exact r1
structure GoodC (P S : List (Int × Int)) (g : Nat → Int) : Prop where
 a : ∀ i, i < P.length → g i = -1 ∨ ∃ b : Nat, g i = (b : Int) ∧ b < S.length ∧ wd P i ≤ wd S b ∧ (kd P i = 2 ∨ kd P i = kd S b)
 d : ∀ i j, i < P.length → j < P.length → i ≠ j → g i = g j → g i = -1
theorem cov_spec {P S : List (Int × Int)} : ∀ (l : List Nat) (g : Nat → Int) (T : Nat → Bool), l.Nodup →
 (∀ x, x ∉ l → covS P S l g T x = g x) ∧ (∀ x, x ∈ l → covS P S l g T x = -1 ∨ ∃ b : Nat, covS P S l g T x = (b : Int) ∧ b < S.length ∧ T b = false ∧ wd P x ≤ wd S b ∧ (kd P x = 2 ∨ kd P x = kd S b)) ∧
 ∀ x y, x ∈ l → y ∈ l → x ≠ y → covS P S l g T x = covS P S l g T y → covS P S l g T x = -1
 | [], g, T, _ => ⟨fun x _ => rfl, fun x h => (by cases h), fun x y h => (by cases h)⟩
 | p :: l, g, T, hn => by
  rw [List.nodup_cons] at hn
  have hc : covS P S (p :: l) g T = match bst S T (kd P p) (wd P p) S.length with
   | none => covS P S l (ptI g p (-1)) T
   | some b => covS P S l (ptI g p b) (ptB T b) := rfl
  cases hb : bst S T (kd P p) (wd P p) S.length with
  | none =>
   rw [hb] at hc
   dsimp only at hc
   rw [hc]
   obtain ⟨h1, h2, h3⟩ := cov_spec (P := P) (S := S) l (ptI g p (-1)) T hn.2
   have hp : covS P S l (ptI g p (-1)) T p = -1 := by rw [h1 p hn.1]; simp [ptI]
   refine ⟨fun x hx => ?_, fun x hx => ?_, fun x y hx hy hxy e => ?_⟩
   ·rw [List.mem_cons, not_or] at hx
    rw [h1 x hx.2]; simp [ptI, hx.1]
   ·rcases List.mem_cons.1 hx with rfl | hx
    ·exact .inl hp
    ·exact h2 x hx
   ·rcases List.mem_cons.1 hx with rfl | hx
    ·exact hp
    ·rcases List.mem_cons.1 hy with rfl | hy
     ·rw [e]; exact hp
     ·exact h3 x y hx hy hxy e
  | some b =>
   rw [hb] at hc
   dsimp only at hc
   rw [hc]
   obtain ⟨b1, b2⟩ := bst_some hb
   unfold fitB at b2
   simp only [Bool.and_eq_true, Bool.not_eq_true', decide_eq_true_eq, Bool.or_eq_true] at b2
   obtain ⟨h1, h2, h3⟩ := cov_spec (P := P) (S := S) l (ptI g p b) (ptB T b) hn.2
   have hp : covS P S l (ptI g p b) (ptB T b) p = b := by rw [h1 p hn.1]; simp [ptI]
   have nt : ∀ x, ptB T b x = false → x ≠ b ∧ T x = false := fun x hx => by
    unfold ptB at hx
    by_cases he : x = b
    ·rw [if_pos he] at hx; cases hx
    ·rw [if_neg he] at hx; exact ⟨he, hx⟩
   have ne : ∀ y, y ∈ l → covS P S l (ptI g p b) (ptB T b) y ≠ (b : Int) := fun y hy e => by
    rcases h2 y hy with e1 | ⟨c, e1, _, e2, _⟩
    ·omega
    ·have := (nt c e2).1
     omega
   refine ⟨fun x hx => ?_, fun x hx => ?_, fun x y hx hy hxy e => ?_⟩
   ·rw [List.mem_cons, not_or] at hx
    rw [h1 x hx.2]; simp [ptI, hx.1]
   ·rcases List.mem_cons.1 hx with rfl | hx
    ·exact .inr ⟨b, hp, b1, b2.1, b2.2⟩
    ·rcases h2 x hx with e1 | ⟨c, e1, c1, e2, c3⟩
     ·exact .inl e1
     ·exact .inr ⟨c, e1, c1, (nt c e2).2, c3⟩
   ·rcases List.mem_cons.1 hx with rfl | hx2
    ·rcases List.mem_cons.1 hy with rfl | hy
     ·exact absurd rfl hxy
     ·rw [hp] at e; exact absurd e.symm (ne y hy)
    ·rcases List.mem_cons.1 hy with rfl | hy
     ·rw [hp] at e; exact absurd e (ne x hx2)
     ·exact h3 x y hx2 hy hxy e
theorem cover_all {P S : List (Int × Int)} (hP : P.length ≤ 39) (hw : ∀ x, x < P.length → 0 ≤ wd P x ∧ wd P x ≤ 8) (hS : S.length ≤ 100) :
 ∃ g, GoodC P S g ∧ Ev (fun n => s_impl_cover n (pcs P) (pcs S)) (rowI P.length g) ∧ Ev (fun n => s_spec_l05Cover n (pcs P) (pcs S)) (rowI P.length g) := by
 obtain ⟨_, ⟨O, rfl, o1⟩, e1⟩ := order_ok (P := P) (by omega) hw
 obtain ⟨_, ⟨O', rfl, o2⟩, e2⟩ := byWidth_ok hP
 obtain rfl := ord_uniq o1 o2
 have hO : ∀ j, j < O.length → O[j]? = some (O.getD j 0) ∧ O.getD j 0 < P.length := by
  intro j hj
  have : O[j]? = some (O.getD j 0) := by rw [List.getD_eq_getElem?_getD, List.getElem?_eq_getElem hj]; rfl
  exact ⟨this, (o1.2 _).1 (List.mem_of_getElem? this)⟩
 have hl : O.length ≤ P.length := upO_len (w := 0) (k := 0) o1.1 fun x hx => (o1.2 x).1 hx
 obtain ⟨r2, r3⟩ := coverL_ok hO hP hl hS O.length 0 (fun _ => 0) (fun _ => false) [] [] (by omega) ⟨rfl, rfl, fun i _ => rfl⟩
 rw [List.drop_zero] at r2 r3
 obtain ⟨_, g2, g3⟩ := cov_spec (P := P) (S := S) O (fun _ => 0) (fun _ => false) (ord_nodup o1.1)
 refine ⟨_, ⟨fun i hi => ?_, fun i j hi hj hij e => g3 i j ((o1.2 i).2 hi) ((o1.2 j).2 hj) hij e⟩, ?_, ?_⟩
 ·rcases g2 i ((o1.2 i).2 hi) with e | ⟨b, e, b1, _, b2⟩
  ·exact .inl e
  ·exact .inr ⟨b, e, b1, b2⟩
 ·unfold s_impl_cover
  rw [prs_length]
  refine ev_chk (by simp; omega) (ev_bnd e2 ?_)
  rw [Int.toNat_natCast, rep_rowI, ints_length]
  exact ev_bnd r3 ev_some
 ·unfold s_spec_l05Cover
  rw [prs_length, prs_length]
  refine ev_chk (by simp; omega) (ev_chk (by simp; omega) (ev_bnd e1 ?_))
  rw [Int.toNat_natCast, Int.toNat_natCast, rep_rowI, rep_bl]
  exact ev_bnd r2 ev_some
end Go.Proofs.YthdnamhilcjnhaaGreatDoor
namespace Go.Proofs.YthdnamhilcjnhaaGreatDoor
open Go
set_option linter.unusedVariables false
set_option linter.unusedSimpArgs false
def unc1 (P : List (Int × Int)) (g : Nat → Int) (j : Nat) : List (Int × Int) := if g j = -1 then [(kd P j, wd P j)] else []
def unc (P : List (Int × Int)) (g : Nat → Int) (k : Nat) : List (Int × Int) := (List.range k).flatMap (unc1 P g)
theorem unc_succ (P : List (Int × Int)) (g : Nat → Int) (k : Nat) : unc P g (k + 1) = unc P g k ++ unc1 P g k := by
 unfold unc; rw [List.range_succ, List.flatMap_append]; simp
theorem unc_len (P : List (Int × Int)) (g : Nat → Int) : ∀ k, (unc P g k).length ≤ k
 | 0 => by simp [unc]
 | k + 1 => by
  have := unc_len P g k
  rw [unc_succ, List.length_append]
  have : (unc1 P g k).length ≤ 1 := by unfold unc1; split <;> simp
  omega
theorem unc_ok {P : List (Int × Int)} (hP : okP P) (g : Nat → Int) : ∀ k, k ≤ P.length → okP (unc P g k)
 | 0, _ => fun p hp => by simp [unc] at hp
 | k + 1, h => fun p hp => by
  rw [unc_succ, List.mem_append] at hp
  rcases hp with hp | hp
  ·exact unc_ok hP g k (by omega) p hp
  ·unfold unc1 at hp
   split at hp
   ·rw [List.mem_singleton] at hp; subst hp; exact okP_at hP (show k < P.length by omega)
   ·cases hp
theorem iUnc_ok {P : List (Int × Int)} (hP : okP P) (hl : P.length ≤ 30) (g : Nat → Int) : ∀ (d k : Nat), k + d = P.length → Ev (fun n => l_impl_NewTilesFor_b0 n (pcs P) (P.length : Int) (k : Int) (pcs (unc P g k)) (rowI P.length g)) (pcs (unc P g P.length))
 | 0, k, hk => by
  obtain rfl : k = P.length := by omega
  exact ev_succ (ev_f (by simp) ev_some)
 | d + 1, k, hk => by
  have hk' : k < P.length := by omega
  have h1 := iUnc_ok hP hl g d (k + 1) (by omega)
  have hu := unc_len P g k
  rw [unc_succ] at h1
  refine ev_succ (ev_t (by simp; omega) (ev_chk (inB_k _ _ (by rw [rowI_length]; exact hk')) (ev_bnd (ev_of fun n => nth_rowI hk') ?_)))
  rw [up64 k (by omega)]
  by_cases c : g k = -1
  ·rw [show unc1 P g k = [(kd P k, wd P k)] from if_pos c, ← pcs_snoc] at h1
   exact ev_t (by simpa using c) (ev_bnd (ev_of fun n => idx_pcs hk') (ev_chk (by simp [prs_length]; omega) h1))
  ·rw [show unc1 P g k = [] from if_neg c, List.append_nil] at h1
   exact ev_f (by simpa using c) h1
theorem sUnc_ok {P : List (Int × Int)} (hP : okP P) (hl : P.length ≤ 30) {g : Nat → Int} (hg : ∀ i, i < P.length → g i = -1 ∨ 0 ≤ g i) : ∀ (d k : Nat), k + d = P.length → Ev (fun n => l_spec_NewTilesFor_b0 n (pcs P) (k : Int) (pcs (unc P g k)) (rowI P.length g)) (pcs (unc P g P.length))
 | 0, k, hk => by
  obtain rfl : k = P.length := by omega
  exact ev_succ (ev_f (by simp [prs_length]) ev_some)
 | d + 1, k, hk => by
  have hk' : k < P.length := by omega
  have h1 := sUnc_ok hP hl hg d (k + 1) (by omega)
  have hu := unc_len P g k
  have hgk := hg k hk'
  rw [unc_succ] at h1
  refine ev_succ (ev_t (by simp [prs_length]; omega) (ev_chk (inB_k _ _ (by rw [rowI_length]; exact hk')) (ev_bnd (ev_of fun n => nth_rowI hk') ?_)))
  rw [up64 k (by omega)]
  by_cases c : g k = -1
  ·rw [show unc1 P g k = [(kd P k, wd P k)] from if_pos c, ← pcs_snoc] at h1
   exact ev_t (by simp; omega) (ev_bnd (ev_of fun n => idx_pcs hk') (ev_chk (by simp [prs_length]; omega) h1))
  ·rw [show unc1 P g k = [] from if_neg c, List.append_nil] at h1
   exact ev_f (by simp; omega) h1
theorem GoodC.nn {P S : List (Int × Int)} {g : Nat → Int} (h : GoodC P S g) (i : Nat) (hi : i < P.length) : g i = -1 ∨ 0 ≤ g i := by
 rcases h.a i hi with e | ⟨b, e, _⟩
 ·exact .inl e
 ·right; omega
theorem okP_w {P : List (Int × Int)} (h : okP P) : ∀ x, x < P.length → 0 ≤ wd P x ∧ wd P x ≤ 8 := fun x hx => by
 have := okP_at h hx; omega
theorem iNew_ok {P S : List (Int × Int)} {g : Nat → Int} (hP : okP P) (hl : P.length ≤ 30) (hS : okP S) (hs : S.length ≤ 30) (e1 : Ev (fun n => s_impl_cover n (pcs P) (pcs S)) (rowI P.length g)) {t : Int}
 (h : Ev (fun n => s_impl_tilesFor n (pcs (unc P g P.length))) t) : Ev (fun n => s_impl_NewTilesFor n (pcs P) (pcs S)) (t, 0) := by
 have h0 := iUnc_ok hP hl g P.length 0 (by omega)
 unfold s_impl_NewTilesFor
 refine ev_bnd (code2_ok hP hl hS hs) (ev_t rfl (ev_bnd e1 ?_))
 rw [rowI_length]
 exact ev_bnd h0 (ev_bnd h ev_some)
theorem sNew_ok {P S : List (Int × Int)} {g : Nat → Int} (hP : okP P) (hl : P.length ≤ 30) (hS : okP S) (hs : S.length ≤ 30) (hg : GoodC P S g) (e1 : Ev (fun n => s_spec_l05Cover n (pcs P) (pcs S)) (rowI P.length g)) {t : Int}
 (h : Ev (fun n => s_spec_l05Tiles n (pcs (unc P g P.length))) t) : Ev (fun n => s_spec_NewTilesFor n (pcs P) (pcs S)) (t, 0) := by
 have h0 := sUnc_ok hP hl hg.nn P.length 0 (by omega)
 unfold s_spec_NewTilesFor
 exact ev_bnd (l05Two_ok hP hl hS hs) (ev_t rfl (ev_bnd e1 (ev_bnd h0 (ev_bnd h ev_some))))
theorem unc_full {P : List (Int × Int)} {g : Nat → Int} (h : ∀ i, i < P.length → g i = -1) : unc P g P.length = P := by
 have key : ∀ k, k ≤ P.length → unc P g k = P.take k := by
  intro k
  induction k with
  | zero => intro _; simp [unc]
  | succ k ih =>
   intro hk
   have hg : P[k]? = some (pr P k) := pr_get (by omega)
   rw [unc_succ, ih (by omega), List.take_add_one, hg, show unc1 P g k = [(kd P k, wd P k)] from if_pos (h k (by omega))]
   rfl
 rw [key _ (Nat.le_refl _), List.take_length]
theorem new_nil {P : List (Int × Int)} (hP : okP P) (hl : P.length ≤ 30) {t : Int} (h : Ev (fun n => s_impl_tilesFor n (pcs P)) t) : Ev (fun n => s_impl_NewTilesFor n (pcs P) []) (t, 0) := by
 obtain ⟨g, g1, e1, _⟩ := cover_all (P := P) (S := []) (by omega) (okP_w hP) (by simp)
 have hg : ∀ i, i < P.length → g i = -1 := fun i hi => by
  rcases g1.a i hi with e | ⟨b, _, hb, _⟩
  ·exact e
  ·simp at hb
 exact iNew_ok (S := []) hP hl (fun p hp => by cases hp) (by simp) e1 (by rw [unc_full hg]; exact h)
theorem iCover_ok {P S : List (Int × Int)} {g : Nat → Int} (hP : okP P) (hl : P.length ≤ 30) (hS : okP S) (hs : S.length ≤ 30) (e1 : Ev (fun n => s_impl_cover n (pcs P) (pcs S)) (rowI P.length g)) : Ev (fun n => s_impl_CoverFrom n (pcs P) (pcs S)) (rowI P.length g, 0) := by
 unfold s_impl_CoverFrom
 exact ev_bnd (code2_ok hP hl hS hs) (ev_t rfl (ev_bnd e1 ev_some))
theorem sCover_ok {P S : List (Int × Int)} {g : Nat → Int} (hP : okP P) (hl : P.length ≤ 30) (hS : okP S) (hs : S.length ≤ 30) (e1 : Ev (fun n => s_spec_l05Cover n (pcs P) (pcs S)) (rowI P.length g)) : Ev (fun n => s_spec_CoverFrom n (pcs P) (pcs S)) (rowI P.length g, 0) := by
 unfold s_spec_CoverFrom
 exact ev_bnd (l05Two_ok hP hl hS hs) (ev_t rfl (ev_bnd e1 ev_some))
theorem sumR_add (f g : Nat → Int) : ∀ N, sumR f 0 N + sumR g 0 N = sumR (fun j => f j + g j) 0 N
 | 0 => rfl
 | N + 1 => by
  have := sumR_add f g N
  rw [sumR_succ, sumR_succ, sumR_succ]; omega
theorem sumR_one : ∀ N, sumR (fun _ => 1) 0 N = N
 | 0 => rfl
 | N + 1 => by rw [sumR_succ, sumR_one N]; omega
theorem sumR_null : ∀ N, sumR (fun _ => 0) 0 N = 0
 | 0 => rfl
 | N + 1 => by rw [sumR_succ, sumR_null N]; rfl
theorem sumR_at {x : Nat} : ∀ {N : Nat}, x < N → sumR (fun j => if j = x then 1 else 0) 0 N = 1
 | N + 1, h => by
  rw [sumR_succ]
  by_cases e : x = N
  ·subst e
   rw [if_pos rfl, sumR_congr (g' := fun _ => 0) fun j hj => if_neg (by omega), sumR_null]; rfl
  ·rw [if_neg (by omega), sumR_at (by omega)]; rfl
theorem sumR_mem {N : Nat} : ∀ {L : List Nat}, L.Nodup → (∀ x, x ∈ L → x < N) → sumR (fun j => if j ∈ L then 1 else 0) 0 N = L.length
 | [], _, _ => by
  rw [sumR_congr (g' := fun _ => 0) fun j hj => if_neg (by simp), sumR_null]; rfl
 | x :: L, hn, hl => by
  rw [List.nodup_cons] at hn
  have h1 := sumR_mem hn.2 fun y hy => hl y (List.mem_cons_of_mem _ hy)
  have h2 := sumR_at (hl x (List.mem_cons_self ..))
  have h3 := sumR_add (fun j => if j = x then 1 else 0) (fun j => if j ∈ L then 1 else 0) N
  rw [List.length_cons, sumR_congr (g' := fun j => (if j = x then 1 else 0) + (if j ∈ L then 1 else 0)) fun j hj => ?_, ← h3, h1, h2]
  ·omega
  ·by_cases e : j = x
   ·subst e; simp [hn.1]
   ·simp [e]
def usL (D : List (Nat × Nat)) : List Nat := D.map (·.1) ++ D.map (·.2)
theorem mem_flat {D : List (Nat × Nat)} {x : Nat} : x ∈ flatD D ↔ x ∈ D.map (·.1) ∨ x ∈ D.map (·.2) := by
 induction D with
 | nil => simp [flatD]
 | cons p D ih =>
  have : flatD (p :: D) = p.1 :: p.2 :: flatD D := rfl
  rw [this, List.mem_cons, List.mem_cons, ih, List.map_cons, List.map_cons, List.mem_cons, List.mem_cons]
  constructor
  ·rintro (h | h | h | h)
   ·exact .inl (.inl h)
   ·exact .inr (.inl h)
   ·exact .inl (.inr h)
   ·exact .inr (.inr h)
  ·rintro ((h | h) | (h | h))
   ·exact .inl h
   ·exact .inr (.inr (.inl h))
   ·exact .inr (.inl h)
   ·exact .inr (.inr (.inr h))
theorem mem_usL {D : List (Nat × Nat)} {x : Nat} : x ∈ usL D ↔ x ∈ flatD D := by rw [mem_flat, usL, List.mem_append]
theorem GoodD.at1 {P : List (Int × Int)} {D : List (Nat × Nat)} (h : GoodD P D) {x : Nat} (hx : x ∈ D.map (·.1)) : x < P.length ∧ kd P x = 0 := by
 obtain ⟨pq, hq, rfl⟩ := List.mem_map.1 hx
 exact ⟨(h.a pq hq).1, (h.a pq hq).2.1⟩
theorem GoodD.at2 {P : List (Int × Int)} {D : List (Nat × Nat)} (h : GoodD P D) {x : Nat} (hx : x ∈ D.map (·.2)) : x < P.length ∧ kd P x = 1 := by
 obtain ⟨pq, hq, rfl⟩ := List.mem_map.1 hx
 exact ⟨(h.a pq hq).2.2.1, (h.a pq hq).2.2.2.1⟩
theorem GoodD.nd {P : List (Int × Int)} {D : List (Nat × Nat)} (h : GoodD P D) : (usL D).Nodup := by
 unfold usL
 rw [List.nodup_append]
 refine ⟨h.n1, h.n2, fun a ha b hb e => ?_⟩
 subst e
 have := (h.at1 ha).2
 have := (h.at2 hb).2
 omega
theorem GoodD.lt {P : List (Int × Int)} {D : List (Nat × Nat)} (h : GoodD P D) {x : Nat} (hx : x ∈ flatD D) : x < P.length ∧ kd P x ≠ 2 := by
 rcases mem_flat.1 hx with hx | hx
 ·have := h.at1 hx; omega
 ·have := h.at2 hx; omega
theorem usL_len (D : List (Nat × Nat)) : (usL D).length = 2 * D.length := by simp [usL]; omega
theorem GoodD.half {P : List (Int × Int)} {D : List (Nat × Nat)} (h : GoodD P D) : 2 * D.length ≤ P.length := by
 have := List.Nodup.length_le_of_subset h.nd (l₂ := List.range P.length) (fun x hx => by simpa using (h.lt (mem_usL.1 hx)).1)
 rw [usL_len] at this
 simpa using this
theorem GoodD.cnt {P : List (Int × Int)} {D : List (Nat × Nat)} (h : GoodD P D) : sumR (fun j => if j ∈ flatD D then 1 else 0) 0 P.length = 2 * D.length := by
 have := sumR_mem h.nd fun x hx => (h.lt (mem_usL.1 hx)).1
 rw [usL_len] at this
 rw [sumR_congr (g' := fun j => if j ∈ usL D then 1 else 0) fun j hj => ?_, this]
 ·omega
 ·by_cases e : j ∈ flatD D
  ·rw [if_pos e, if_pos (mem_usL.2 e)]
  ·rw [if_neg e, if_neg (fun h => e (mem_usL.1 h))]
theorem off_cnt (P : List (Int × Int)) (T : Nat → Bool) : ∀ k, ((off P T k).length : Int) = sumR (fun j => if kd P j = 2 ∨ T j = true then 0 else 1) 0 k
 | 0 => by simp [off, sumR]
 | k + 1 => by
  rw [sumR_succ, ← off_cnt P T k, off_succ, List.length_append]
  unfold off1
  split <;> simp
theorem unc_cnt (P : List (Int × Int)) (g : Nat → Int) : ∀ k, ((unc P g k).length : Int) = sumR (fun j => if g j = -1 then 1 else 0) 0 k
 | 0 => by simp [unc, sumR]
 | k + 1 => by
  rw [sumR_succ, ← unc_cnt P g k, unc_succ, List.length_append]
  unfold unc1
  split <;> simp
def swd (L : List (Int × Int)) : Int := (L.map (·.2)).sum
theorem off_swd (P : List (Int × Int)) (T : Nat → Bool) : ∀ k, swd (off P T k) = sumR (fun j => if kd P j = 2 ∨ T j = true then 0 else 8 - wd P j) 0 k
 | 0 => by simp [off, sumR, swd]
 | k + 1 => by
  have ih := off_swd P T k
  rw [sumR_succ, ← ih, off_succ]
  unfold swd
  rw [List.map_append, List.sum_append]
  unfold off1
  split <;> simp
end Go.Proofs.YthdnamhilcjnhaaGreatDoor
namespace Go.Proofs.YthdnamhilcjnhaaGreatDoor
open Go
set_option linter.unusedVariables false
set_option linter.unusedSimpArgs false
theorem words_none : ∀ {l : List UInt8}, (∀ x, x ∈ l → x ≠ 32) → wordsOf l = [l]
 | [], _ => rfl
 | b :: l, h => by
  have hb : (b == 32) = false := by simpa using h b (List.mem_cons_self ..)
  unfold wordsOf
  rw [hb, words_none fun x hx => h x (List.mem_cons_of_mem _ hx)]
theorem words_at : ∀ {u v : List UInt8}, (∀ x, x ∈ u → x ≠ 32) → wordsOf (u ++ 32 :: v) = u :: wordsOf v
 | [], v, _ => by
  show wordsOf (32 :: v) = _
  conv => lhs; unfold wordsOf
  rfl
 | b :: u, v, h => by
  have hb : (b == 32) = false := by simpa using h b (List.mem_cons_self ..)
  show wordsOf (b :: (u ++ 32 :: v)) = _
  conv => lhs; unfold wordsOf
  rw [hb, words_at fun x hx => h x (List.mem_cons_of_mem _ hx)]
theorem words_join : ∀ (r : List (List UInt8)) (x : List UInt8), (∀ b, b ∈ x → b ≠ 32) → (∀ y, y ∈ r → ∀ b, b ∈ y → b ≠ 32) → wordsOf (x ++ Lib.joinTail [32] r) = x :: r
 | [], x, hx, _ => by
  rw [show Lib.joinTail [32] ([] : List (List UInt8)) = [] from rfl, List.append_nil]
  exact words_none hx
 | y :: r, x, hx, hr => by
  have ih := words_join r y (hr y (List.mem_cons_self ..)) fun z hz => hr z (List.mem_cons_of_mem _ hz)
  have e : Lib.joinTail [32] (y :: r) = 32 :: (y ++ Lib.joinTail [32] r) := rfl
  rw [e, words_at hx, ih]
theorem txt_all : ∀ i : Fin 3, ∀ j : Fin 7, (txtP ((i.val : Int), (j.val : Int) + 1)).length = 2 ∧ wordP (txtP ((i.val : Int), (j.val : Int) + 1)) = some ((i.val : Int), (j.val : Int) + 1) ∧ (txtP ((i.val : Int), (j.val : Int) + 1)).all (fun b => b != 32) = true := by decide +kernel
theorem txt_ok {p : Int × Int} (h : 0 ≤ p.1 ∧ p.1 ≤ 2 ∧ 1 ≤ p.2 ∧ p.2 ≤ 7) : (txtP p).length = 2 ∧ wordP (txtP p) = some p ∧ ∀ b, b ∈ txtP p → b ≠ 32 := by
 have := txt_all ⟨p.1.toNat, by omega⟩ ⟨(p.2 - 1).toNat, by omega⟩
 have e1 : ((p.1.toNat : Nat) : Int) = p.1 := by omega
 have e2 : (((p.2 - 1).toNat : Nat) : Int) + 1 = p.2 := by omega
 simp only [e1, e2] at this
 refine ⟨this.1, this.2.1, fun b hb => ?_⟩
 have := List.all_eq_true.1 this.2.2 b hb
 simpa using this
theorem go_ok : ∀ (l acc : List (Int × Int)), okP l → acc.length + l.length ≤ 30 → rpGo (l.map txtP) acc = (acc ++ l, 0)
 | [], acc, _, _ => by rw [List.append_nil]; rfl
 | p :: l, acc, h, hl => by
  rw [List.length_cons] at hl
  rw [List.map_cons, rpGo_go (by omega) (txt_ok (h p (List.mem_cons_self ..))).2.1, go_ok l _ (fun q hq => h q (List.mem_cons_of_mem _ hq)) (by simp; omega)]
  simp
theorem joinP_size (l : List (Int × Int)) : (joinP l).size = (Lib.join (l.map txtP) [32]).length := by
 show (Lib.join (l.map txtP) [32]).toArray.size = _
 simp
theorem rp_join {l : List (Int × Int)} (h : okP l) (hl : l.length ≤ 30) : rpQ (joinP l) = (l, 0) := by
 cases l with
 | nil => rfl
 | cons p l =>
  have hp := txt_ok (h p (List.mem_cons_self ..))
  have e : Lib.join ((p :: l).map txtP) [32] = txtP p ++ Lib.joinTail [32] (l.map txtP) := Lib.join_cons ..
  have hs : (joinP (p :: l)).size ≠ 0 := by
   rw [joinP_size, e, List.length_append, hp.1]; omega
  have hw : wordsOf (joinP (p :: l)).data.toList = (p :: l).map txtP := by
   show wordsOf (Lib.join ((p :: l).map txtP) [32]) = _
   rw [e]
   exact words_join _ _ hp.2.2 fun y hy => by
    obtain ⟨q, hq, rfl⟩ := List.mem_map.1 hy
    exact (txt_ok (h q (List.mem_cons_of_mem _ hq))).2.2
  unfold rpQ
  rw [show decide ((joinP (p :: l)).size = 0) = false by simpa using hs, hw]
  dsimp only
  rw [go_ok _ _ h (by simpa using hl)]
  rfl
theorem textJoin_ok {l : List (Int × Int)} (h : okP l) (hl : l.length ≤ 30) : Ev (fun n => s_impl_PiecesText n (pcs l)) (joinP l) := by
 refine ev_of fun n => ?_
 unfold s_impl_PiecesText ptQ
 rw [psOf_pcs]
 dsimp only
 rw [(fineP_iff l).2 ⟨h, hl⟩]
theorem readJoin_ok {l : List (Int × Int)} (h : okP l) (hl : l.length ≤ 30) : Ev (fun n => s_impl_ReadPieces n (joinP l)) (pcs l, 0) := by
 unfold s_impl_ReadPieces
 refine ev_chk ?_ (ev_cast ev_some ?_)
 ·have := joinP_len h hl
  rw [← joinP_size] at this
  simp; omega
 ·unfold prRows prCode
  rw [rp_join h hl]
  rfl
end Go.Proofs.YthdnamhilcjnhaaGreatDoor
namespace Go.Proofs.YthdnamhilcjnhaaGreatDoor
open Go
set_option linter.unusedVariables false
set_option linter.unusedSimpArgs false
theorem lawB0_ok {P : List (Int × Int)} (hl : P.length ≤ 30) (hP : okP P) {D : List (Nat × Nat)} (h : GoodD P D) (hd : D.length ≤ P.length) (A1 A8 A9 : List V) (A2 A3 A4 A5 : Int) : ∀ (d k : Nat), k + d = D.length →
 Ev (fun n => l_laws_FnStocks_b0 n (pcs P) A1 A2 A3 A4 A5 (k : Int) (twos D) A8 A9 (bl P.length (usd D k))) (.inl (pcs P, A1, A2, A3, A4, A5, twos D, A8, A9, bl P.length (usd D D.length)))
 | 0, k, hk => by
  obtain rfl : k = D.length := by omega
  exact ev_succ (ev_f (by simp [twos_length]) ev_some)
 | d + 1, k, hk => by
  have hk' : k < D.length := by omega
  have h1 := lawB0_ok hl hP h hd A1 A8 A9 A2 A3 A4 A5 d (k + 1) (by omega)
  have hg : D[k]? = some D[k] := List.getElem?_eq_getElem hk'
  rw [usd_succ hg] at h1
  obtain ⟨b1, c1, b2, c2, c3⟩ := h.a _ (List.getElem_mem hk')
  have hn1 : ((D.take (k + 1)).map (·.1)).Nodup := List.Nodup.sublist ((List.take_sublist ..).map _) h.n1
  have hn2 : ((D.take (k + 1)).map (·.2)).Nodup := List.Nodup.sublist ((List.take_sublist ..).map _) h.n2
  rw [take_snoc hg, List.map_append, List.nodup_append] at hn1 hn2
  have sub : ∀ x, x ∈ D.take k → x ∈ D := fun x hx => List.mem_of_mem_take hx
  have u1 : usd D k (D[k]'hk').1 = false := by
   unfold usd
   rw [decide_eq_false_iff_not]
   intro hx
   rcases mem_flat.1 hx with hx | hx
   ·exact hn1.2.2 _ hx _ (List.mem_singleton.2 rfl) rfl
   ·obtain ⟨pq, hq, e⟩ := List.mem_map.1 hx
    have := (h.a pq (sub _ hq)).2.2.2.1
    rw [e] at this; omega
  have u2 : usd D k (D[k]'hk').2 = false := by
   unfold usd
   rw [decide_eq_false_iff_not]
   intro hx
   rcases mem_flat.1 hx with hx | hx
   ·obtain ⟨pq, hq, e⟩ := List.mem_map.1 hx
    have := (h.a pq (sub _ hq)).2.1
    rw [e] at this; omega
   ·exact hn2.2.2 _ hx _ (List.mem_singleton.2 rfl) rfl
  have w1 := okP_at hP b1
  have w2 := okP_at hP b2
  have g0 : ∀ n : Nat, bnd (nth (twos D) ((k : Int).toNat)) as_Li64 = some (nums [((D[k]'hk').1 : Int), ((D[k]'hk').2 : Int)]) := fun n => nth_twos hg
  refine ev_succ (ev_t (by simp [twos_length]; omega) (ev_chk (inB_k _ _ (by rw [twos_length]; exact hk')) (ev_bnd (ev_of g0) (ev_t rfl (ev_bnd (ev_of g0) (ev_bnd (ev_of fun n => idx_two0 _ _) (ev_bnd (ev_of fun n => idx_pcs b1) (ev_bnd (ev_of g0) (ev_bnd (ev_of fun n => idx_two1 _ _) (ev_bnd (ev_of fun n => idx_pcs b2) ?_))))))))))
  dsimp only
  rw [w8 _ (by omega)]
  refine ev_t (by simpa using c1) (ev_t (by simpa using c2) (ev_f (by simp; omega) (ev_bnd (ev_of g0) (ev_bnd (ev_of fun n => idx_two0 _ _) (ev_chk (inB_k _ _ (by rw [bl_length]; exact b1)) (ev_bnd (ev_of fun n => nth_bl b1) (ev_f u1 (ev_bnd (ev_of g0) (ev_bnd (ev_of fun n => idx_two1 _ _) (ev_chk (inB_k _ _ (by rw [bl_length]; exact b2)) (ev_bnd (ev_of fun n => nth_bl b2) (ev_f u2 (ev_bnd (ev_of g0) (ev_bnd (ev_of fun n => idx_two0 _ _) (ev_chk (inB_k _ _ (by rw [bl_length]; exact b1)) (ev_bnd (ev_of fun n => nth_bl b1) (ev_bnd (ev_of g0) (ev_bnd (ev_of fun n => idx_two1 _ _) ?_))))))))))))))))))
  rw [set_bl b1]
  refine ev_chk (inB_k _ _ (by rw [bl_length]; exact b2)) (ev_bnd (ev_of fun n => nth_bl b2) ?_)
  rw [set_bl b2, up64 k (by omega)]
  exact h1
theorem lawB4_ok {P : List (Int × Int)} (hl : P.length ≤ 30) (hP : okP P) {D : List (Nat × Nat)} (h : GoodD P D) {k : Nat} (hk : k < P.length) (hu : usd D D.length k = false) (A1 A7 A8 A9 : List V) (A2 A3 A4 A5 : Int) : ∀ (d j : Nat), j + d = P.length →
 Ev (fun n => l_laws_FnStocks_b4 n (pcs P) A1 A2 A3 A4 A5 (k : Int) (j : Int) A7 A8 A9 (bl P.length (usd D D.length))) (.inl (pcs P, A1, A2, A3, A4, A5, (k : Int), A7, A8, A9, bl P.length (usd D D.length)))
 | 0, j, hj => by
  obtain rfl : j = P.length := by omega
  exact ev_succ (ev_f (by simp [prs_length]) ev_some)
 | d + 1, j, hj => by
  have hj' : j < P.length := by omega
  have h1 := lawB4_ok hl hP h hk hu A1 A7 A8 A9 A2 A3 A4 A5 d (j + 1) (by omega)
  have w1 := okP_at hP hk
  have w2 := okP_at hP hj'
  refine ev_succ (ev_t (by simp [prs_length]; omega) (ev_chk (inB_k _ _ (by rw [bl_length]; exact hj')) (ev_bnd (ev_of fun n => nth_bl hj') ?_)))
  rw [up64 j (by omega)]
  cases uj : usd D D.length j with
  | true => exact ev_t rfl h1
  | false =>
   refine ev_f rfl (ev_bnd (ev_of fun n => idx_pcs hk) ?_)
   dsimp only
   by_cases c0 : kd P k = 0
   ·refine ev_t (by simpa using c0) (ev_bnd (ev_of fun n => idx_pcs hj') ?_)
    dsimp only
    by_cases c1 : kd P j = 1
    ·refine ev_t (by simpa using c1) (ev_bnd (ev_of fun n => idx_pcs hk) (ev_bnd (ev_of fun n => idx_pcs hj') (ev_f ?_ h1)))
     rw [usd_all, decide_eq_false_iff_not, mem_flat, not_or] at hu uj
     have := h.mx k j hk hj' c0 c1 hu.1 uj.2
     rw [w8 _ (by omega)]
     simpa using this
    ·exact ev_f (by simpa using c1) h1
   ·exact ev_f (by simpa using c0) h1
def midF (P : List (Int × Int)) (j : Nat) : Int := if kd P j = 2 then 1 else 0
def widF (P : List (Int × Int)) (U : Nat → Bool) (j : Nat) : Int := if kd P j = 2 ∨ U j = true then 0 else wd P j
theorem mid_b {P : List (Int × Int)} (k : Nat) : 0 ≤ sumR (midF P) 0 k ∧ sumR (midF P) 0 k ≤ k := by
 have := sumR_nn (g := midF P) (B := 1) (N := k) fun j _ => by unfold midF; split <;> omega
 omega
theorem wid_b {P : List (Int × Int)} (hP : okP P) (U : Nat → Bool) {k : Nat} (hk : k ≤ P.length) : 0 ≤ sumR (widF P U) 0 k ∧ sumR (widF P U) 0 k ≤ 8 * k := by
 exact sumR_nn (g := widF P U) (B := 8) (N := k) fun j hj => by
  have := okP_at hP (show j < P.length by omega)
  unfold widF; split <;> omega
theorem lawB2_ok {P : List (Int × Int)} (hl : P.length ≤ 30) (hP : okP P) {D : List (Nat × Nat)} (h : GoodD P D) (A1 A7 A8 A9 : List V) (A2 A3 : Int) : ∀ (d k : Nat), k + d = P.length →
 Ev (fun n => l_laws_FnStocks_b2 n (pcs P) A1 A2 A3 (sumR (widF P (usd D D.length)) 0 k) (sumR (midF P) 0 k) (k : Int) A7 A8 A9 (bl P.length (usd D D.length))) (.inl (pcs P, A1, A2, A3, sumR (widF P (usd D D.length)) 0 P.length, sumR (midF P) 0 P.length, A7, A8, A9))
 | 0, k, hk => by
  obtain rfl : k = P.length := by omega
  exact ev_succ (ev_f (by simp [prs_length]) ev_some)
 | d + 1, k, hk => by
  have hk' : k < P.length := by omega
  have h1 := lawB2_ok hl hP h A1 A7 A8 A9 A2 A3 d (k + 1) (by omega)
  have w1 := okP_at hP hk'
  have m1 := mid_b (P := P) k
  have v1 := wid_b hP (usd D D.length) (k := k) (by omega)
  rw [sumR_succ, sumR_succ] at h1
  refine ev_succ (ev_t (by simp [prs_length]; omega) (ev_bnd (ev_of fun n => idx_pcs hk') ?_))
  dsimp only
  rw [up64 k (by omega)]
  by_cases c2 : kd P k = 2
  ·rw [show midF P k = 1 from if_pos c2, show widF P (usd D D.length) k = 0 from if_pos (.inl c2), Int.add_zero] at h1
   rw [w64 (sumR (midF P) 0 k + 1) (by omega)]
   exact ev_t (by simpa using c2) h1
  ·rw [show midF P k = 0 from if_neg c2, Int.add_zero] at h1
   refine ev_f (by simpa using c2) (ev_chk (inB_k _ _ (by rw [bl_length]; exact hk')) (ev_bnd (ev_of fun n => nth_bl hk') ?_))
   cases hu : usd D D.length k with
   | true =>
    rw [show widF P (usd D D.length) k = 0 from if_pos (.inr hu), Int.add_zero] at h1
    exact ev_t rfl h1
   | false =>
    rw [show widF P (usd D D.length) k = wd P k from if_neg (by rw [hu]; simp [c2])] at h1
    refine ev_f rfl (ev_bnd (ev_of fun n => idx_pcs hk') ?_)
    dsimp only
    rw [w64 (wd P k) (by omega), w64 (sumR (widF P (usd D D.length)) 0 k + wd P k) (by omega)]
    refine ev_bnd (lawB4_ok hl hP h hk' hu A1 A7 A8 A9 A2 A3 _ _ P.length 0 (by omega)) ?_
    dsimp only
    rw [up64 k (by omega)]
    exact h1
theorem lawB6_ok {Q : List (Int × Int)} (hl : Q.length ≤ 30) (hQ : ∀ j, j < Q.length → 0 ≤ wd Q j ∧ wd Q j ≤ 8) (A0 A1 A7 : List V) (A2 A3 : Int) {w0 : Int} (hw : 0 ≤ w0 ∧ w0 ≤ 1000) : ∀ (d k : Nat), k + d = Q.length →
 Ev (fun n => l_laws_FnStocks_b6 n A0 A1 A2 A3 (w0 + sumR (wd Q) 0 k) (k : Int) (pcs Q) A7) (A0, A1, A2, A3, w0 + sumR (wd Q) 0 Q.length, pcs Q, A7)
 | 0, k, hk => by
  obtain rfl : k = Q.length := by omega
  exact ev_succ (ev_f (by simp [prs_length]) ev_some)
 | d + 1, k, hk => by
  have hk' : k < Q.length := by omega
  have h1 := lawB6_ok hl hQ A0 A1 A7 A2 A3 hw d (k + 1) (by omega)
  have b := hQ k hk'
  have s := sumR_nn (g := wd Q) (B := 8) (N := k) fun j hj => hQ j (by omega)
  rw [sumR_succ] at h1
  have g0 : ∀ n : Nat, bnd (nth (pcs Q) ((k : Int).toNat)) as_Pi8_i8Q = some (kd Q k, wd Q k) := fun n => by
   have := idx_pcs hk'
   rw [idx_nat] at this
   rw [Int.toNat_natCast, nth_get]
   exact this
  refine ev_succ (ev_t (by simp [prs_length]; omega) (ev_chk (inB_k _ _ (by rw [prs_length]; exact hk')) (ev_bnd (ev_of g0) (ev_bnd (ev_of g0) ?_))))
  dsimp only
  rw [w64 (wd Q k) (by omega), w64 (w0 + sumR (wd Q) 0 k + wd Q k) (by omega), up64 k (by omega), Int.add_assoc]
  exact h1
theorem lawB10_ok {P S : List (Int × Int)} (hl : P.length ≤ 30) {g : Nat → Int} (h : GoodC P S g) {i : Nat} (hi : i < P.length) (hn : g i ≠ -1) (A0 A1 : List V) (A2 A3 A4 : Int) : ∀ (d j : Nat), j + d = i →
 Ev (fun n => l_laws_FnStocks_b10 n A0 A1 A2 A3 A4 (i : Int) (j : Int) (rowI P.length g)) (.inl (A0, A1, A2, A3, A4, (i : Int), rowI P.length g))
 | 0, j, hj => by
  obtain rfl : j = i := by omega
  exact ev_succ (ev_f (by simp) ev_some)
 | d + 1, j, hj => by
  have h1 := lawB10_ok hl h hi hn A0 A1 A2 A3 A4 d (j + 1) (by omega)
  have hj' : j < P.length := by omega
  refine ev_succ (ev_t (by simp; omega) (ev_chk (inB_k _ _ (by rw [rowI_length]; exact hj')) (ev_bnd (ev_of fun n => nth_rowI hj') (ev_chk (inB_k _ _ (by rw [rowI_length]; exact hi)) (ev_bnd (ev_of fun n => nth_rowI hi) (ev_f ?_ ?_))))))
  ·rw [decide_eq_false_iff_not]
   intro e
   exact hn (h.d i j hi hj' (by omega) e.symm)
  ·rw [up64 j (by omega)]; exact h1
def opF (g : Nat → Int) (j : Nat) : Int := if g j = -1 then 1 else 0
theorem op_b (g : Nat → Int) (k : Nat) : 0 ≤ sumR (opF g) 0 k ∧ sumR (opF g) 0 k ≤ k := by
 have := sumR_nn (g := opF g) (B := 1) (N := k) fun j _ => by unfold opF; split <;> omega
 omega
theorem lawB8_ok {P S : List (Int × Int)} (hl : P.length ≤ 30) (hP : okP P) {g : Nat → Int} (h : GoodC P S g) (A2 A3 : Int) : ∀ (d i : Nat), i + d = P.length →
 Ev (fun n => l_laws_FnStocks_b8 n (pcs P) (pcs S) A2 A3 (sumR (opF g) 0 i) (i : Int) (rowI P.length g)) (.inl (pcs P, A2, A3, sumR (opF g) 0 P.length))
 | 0, i, hi => by
  obtain rfl : i = P.length := by omega
  exact ev_succ (ev_f (by simp [rowI_length]) ev_some)
 | d + 1, i, hi => by
  have hi' : i < P.length := by omega
  have h1 := lawB8_ok hl hP h A2 A3 d (i + 1) (by omega)
  have o1 := op_b g i
  rw [sumR_succ] at h1
  refine ev_succ (ev_t (by simp [rowI_length]; omega) (ev_chk (inB_k _ _ (by rw [rowI_length]; exact hi')) (ev_bnd (ev_of fun n => nth_rowI hi') ?_)))
  rcases h.a i hi' with e | ⟨b, e, b1, b2, b3⟩
  ·rw [show opF g i = 1 from if_pos e] at h1
   rw [e, up64 i (by omega), w64 (sumR (opF g) 0 i + 1) (by omega)]
   exact ev_t rfl h1
  ·have hn : g i ≠ -1 := by omega
   rw [show opF g i = 0 from if_neg hn, Int.add_zero] at h1
   have gb : ∀ n : Nat, bnd (nth (rowI P.length g) ((i : Int).toNat)) as_i64 = some (b : Int) := fun n => by rw [nth_rowI hi', e]
   rw [e]
   refine ev_f (by simp) (ev_bnd (ev_of gb) (ev_f (by simp [prs_length]; omega) (ev_bnd (ev_of gb) (ev_bnd (ev_of fun n => idx_pcs b1) (ev_bnd (ev_of fun n => idx_pcs hi') (ev_f (by simp; omega) (ev_bnd (ev_of gb) (ev_bnd (ev_of fun n => idx_pcs b1) (ev_bnd (ev_of fun n => idx_pcs hi') ?_)))))))))
   dsimp only
   have k10 := lawB10_ok hl h hi' hn (pcs P) (pcs S) A2 A3 (sumR (opF g) 0 i) i 0 (by omega)
   by_cases c : kd S b = kd P i
   ·refine ev_t (by simpa using c) (ev_bnd k10 ?_)
    dsimp only
    rw [up64 i (by omega)]; exact h1
   ·refine ev_f (by simpa using c) (ev_bnd (ev_of fun n => idx_pcs hi') ?_)
    dsimp only
    refine ev_t ?_ (ev_bnd k10 ?_)
    ·rw [decide_eq_true_eq]
     rcases b3 with b3 | b3
     ·exact b3
     ·exact absurd b3.symm c
    ·dsimp only
     rw [up64 i (by omega)]; exact h1
end Go.Proofs.YthdnamhilcjnhaaGreatDoor
namespace Go.Proofs.YthdnamhilcjnhaaGreatDoor
open Go
set_option linter.unusedVariables false
set_option linter.unusedSimpArgs false
theorem sumR_mul (c : Int) (f : Nat → Int) : ∀ N, sumR (fun j => c * f j) 0 N = c * sumR f 0 N
 | 0 => by simp [sumR]
 | N + 1 => by rw [sumR_succ, sumR_succ, sumR_mul c f N, Int.mul_add]
theorem swd_sum (Q : List (Int × Int)) : sumR (wd Q) 0 Q.length = swd Q := by
 unfold sumR swd
 congr 1
 apply List.ext_getElem?
 intro j
 by_cases hj : j < Q.length
 ·rw [List.getElem?_map, List.getElem?_map, pr_get hj]; simp [hj, wd]
 ·rw [List.getElem?_eq_none (by simp; omega), List.getElem?_eq_none (by simp; omega)]
theorem off_ok {P : List (Int × Int)} (hP : okP P) (T : Nat → Bool) : ∀ k, k ≤ P.length → okP (off P T k)
 | 0, _ => fun p hp => by simp [off] at hp
 | k + 1, h => fun p hp => by
  rw [off_succ, List.mem_append] at hp
  rcases hp with hp | hp
  ·exact off_ok hP T k (by omega) p hp
  ·have b := okP_at hP (show k < P.length by omega)
   unfold off1 at hp
   split at hp
   ·cases hp
   ·rename_i hc
    rw [List.mem_singleton] at hp; subst hp
    have : kd P k ≠ 2 := fun e => hc (.inl e)
    dsimp only
    omega
theorem all_cnt {P : List (Int × Int)} {D : List (Nat × Nat)} (h : GoodD P D) : sumR (midF P) 0 P.length + 2 * D.length + ((off P (usd D D.length) P.length).length : Int) = P.length := by
 rw [← h.cnt, off_cnt, sumR_add, sumR_add, ← sumR_one P.length]
 refine sumR_congr fun j hj => ?_
 unfold midF
 have hu : usd D D.length j = true ↔ j ∈ flatD D := by rw [usd_all]; simp
 by_cases c : j ∈ flatD D
 ·have := (h.lt c).2
  rw [if_neg this, if_pos c, if_pos (.inr (hu.2 c))]; rfl
 ·by_cases c2 : kd P j = 2
  ·rw [if_pos c2, if_neg c, if_pos (.inl c2)]; rfl
  ·rw [if_neg c2, if_neg c, if_neg (by rintro (h | h); exact c2 h; exact c (hu.1 h))]; rfl
theorem all_wid (P : List (Int × Int)) (U : Nat → Bool) (k : Nat) : sumR (widF P U) 0 k + swd (off P U k) = 8 * ((off P U k).length : Int) := by
 rw [off_cnt, off_swd, sumR_add, ← sumR_mul]
 refine sumR_congr fun j hj => ?_
 unfold widF
 by_cases c : kd P j = 2 ∨ U j = true
 ·rw [if_pos c, if_pos c, if_pos c]; rfl
 ·rw [if_neg c, if_neg c, if_neg c]; omega
theorem sameRow_ok {N : Nat} (g : Nat → Int) (h : N ≤ 1000) : Ev (fun n => s_spec_A2Same n (rowI N g) (rowI N g)) true := by
 rw [rowI_nums]
 exact A2Same_ok _ (by simp; omega)
theorem law_FnStocks {xs ys : List V} (hx : xs.length ≤ maxLen ∧ ∀ x, x ∈ xs → inL [.int .u8] [x]) (hy : ys.length ≤ maxLen ∧ ∀ x, x ∈ ys → inL [.int .u8] [x]) : Ev (fun n => s_laws_FnStocks n xs ys) true := by
 obtain ⟨l, rfl, hl⟩ := bys_of hx.2
 obtain ⟨m, rfl, hm⟩ := bys_of hy.2
 unfold s_laws_FnStocks
 have lon : Ev (fun n => s_laws_a2Long n (bys l) (bys m)) (decide ((3000 : Int) < (l.length : Int)) || decide ((3000 : Int) < (m.length : Int))) := by
  unfold s_laws_a2Long
  rw [bys_length, bys_length]
  exact ev_of fun n => cnd_or _ _
 refine ev_bnd lon ?_
 cases c : (decide ((3000 : Int) < (l.length : Int)) || decide ((3000 : Int) < (m.length : Int))) with
 | true => exact ev_t rfl ev_some
 | false =>
  rw [Bool.or_eq_false_iff, decide_eq_false_iff_not, decide_eq_false_iff_not] at c
  obtain ⟨_, ⟨P, rfl, hPl, hP⟩, eP⟩ := A2Pieces_ok (l := l) ⟨by omega, hl⟩
  obtain ⟨_, ⟨S, rfl, hSl, hS⟩, eS⟩ := A2Pieces_ok (l := m) ⟨by omega, hm⟩
  obtain ⟨D, hD, hdl, p1, p2⟩ := pairs_all (P := P) (by omega) (okP_w hP)
  obtain ⟨g, hg, c1, c2⟩ := cover_all (P := P) (S := S) (by omega) (okP_w hP) (by omega)
  have hu := unc_len P g P.length
  have huk := unc_ok hP g P.length (Nat.le_refl _)
  obtain ⟨D', hD', hdl', q1, q2⟩ := pairs_all (P := unc P g P.length) (by omega) (okP_w huk)
  have hDlt : ∀ pq, pq ∈ D → pq.1 < P.length ∧ pq.2 < P.length := fun pq h => ⟨(hD.a pq h).1, (hD.a pq h).2.2.1⟩
  have ti := tilesI_ok (P := P) (by omega) hdl p1
  have half := hD'.half
  have ofl := off_len P (usd D D.length) P.length
  have ofk := off_ok hP (usd D D.length) P.length (Nat.le_refl _)
  have cnt := all_cnt hD
  have wid := all_wid P (usd D D.length) P.length
  have mb := mid_b (P := P) P.length
  have wb := wid_b hP (usd D D.length) (k := P.length) (Nat.le_refl _)
  have un := unc_cnt P g P.length
  refine ev_f rfl (ev_bnd (a := pcs P) (ev_of fun n => a2Q_of eP) (ev_bnd (a := pcs S) (ev_of fun n => a2Q_of eS) ?_))
  refine ev_bnd (textJoin_ok hP (by omega)) (ev_bnd (readJoin_ok hP (by omega)) (ev_bnd (iPairPieces_ok hP (by omega) p1) (ev_bnd (sPairPieces_ok hP (by omega) p2) (ev_bnd (TilesFor_ok hP (by omega) ti) (ev_bnd (iOff_ok hP (by omega) hdl p1) (ev_bnd (sOff_ok hP (by omega) hdl hDlt p2) (ev_bnd (iCover_ok hP (by omega) hS (by omega) c1) (ev_bnd (sCover_ok hP (by omega) hS (by omega) c2) (ev_bnd (iNew_ok hP (by omega) hS (by omega) c1 (tilesI_ok (by omega) hdl' q1)) (ev_bnd (sNew_ok hP (by omega) hS (by omega) hg c2 (tilesS_ok (by omega) hdl' q2)) ?_))))))))))
  dsimp only
  refine ev_t rfl (ev_t (by simp) (ev_bnd (SamePieces_ok P (by omega)) (ev_t rfl (ev_t rfl (ev_t rfl (ev_bnd (SameLists_ok D (by omega)) (ev_t rfl (ev_t rfl (ev_t ?_ (ev_t rfl (ev_t rfl (ev_bnd (SamePieces_ok _ (by omega)) (ev_t rfl (ev_t rfl (ev_t rfl (ev_bnd (sameRow_ok g (by omega)) (ev_t rfl (ev_t ?_ (ev_t rfl (ev_t rfl (ev_t ?_ (ev_chk ?_ ?_))))))))))))))))))))))
  ·rw [prs_length, twos_length, decide_eq_true_eq]
   exact (ws _ _ (by omega) hdl).symm
  ·rw [rowI_length, prs_length]; simp
  ·simp
  ·simp [prs_length]; omega
  rw [show List.replicate (((pcs P).length : Int)).toNat (V.bool false) = bl P.length (usd D 0) by rw [prs_length, Int.toNat_natCast, rep_bl, usd_zero]]
  refine ev_bnd (lawB0_ok (by omega) hP hD hdl (pcs S) _ _ _ _ _ _ D.length 0 (by omega)) ?_
  dsimp only
  have b2 := lawB2_ok (by omega) hP hD (pcs S) (twos D) (pcs (off P (usd D D.length) P.length)) (rowI P.length g) ((P.length - D.length : Nat) : Int) (((unc P g P.length).length - D'.length : Nat) : Int) P.length 0 (by omega)
  rw [sumR_zero, sumR_zero] at b2
  refine ev_bnd b2 ?_
  dsimp only
  have b6 := lawB6_ok (Q := off P (usd D D.length) P.length) (by omega) (okP_w ofk) (pcs P) (pcs S) (rowI P.length g) ((P.length - D.length : Nat) : Int) (((unc P g P.length).length - D'.length : Nat) : Int) (w0 := sumR (widF P (usd D D.length)) 0 P.length) (by omega) (off P (usd D D.length) P.length).length 0 (by omega)
  rw [sumR_zero, Int.add_zero, swd_sum, wid] at b6
  refine ev_t ?_ (ev_bnd b6 ?_)
  ·rw [prs_length, prs_length, twos_length, w64 ((P.length : Int) - _) (by omega), w64 (2 * (D.length : Int)) (by omega), w64 _ (by omega), decide_eq_true_eq]
   omega
  dsimp only
  have b8 := lawB8_ok (by omega) hP hg ((P.length - D.length : Nat) : Int) (((unc P g P.length).length - D'.length : Nat) : Int) P.length 0 (by omega)
  rw [sumR_zero, show sumR (opF g) 0 P.length = ((unc P g P.length).length : Int) from un.symm] at b8
  refine ev_t ?_ (ev_bnd b8 ?_)
  ·rw [prs_length, w64 _ (by omega)]; simp
  dsimp only
  refine ev_bnd (new_nil hP (by omega) ti) (ev_t ?_ (ev_t ?_ (ev_t rfl (ev_cast ev_some ?_))))
  ·simp
  ·rw [w64 _ (by omega)]; simp; omega
  ·simp
end Go.Proofs.YthdnamhilcjnhaaGreatDoor
