/- The pairs of cut pieces: both sides choose the same. -/
import Derived.Test.YtbejaalnnnogoaaPg8
namespace Go.Proofs.Ytbejaalnnnogoaa
open Go
set_option linter.unusedVariables false
set_option linter.unusedSimpArgs false

def kd (P : List (Int × Int)) (x : Nat) : Int := (pr P x).1
theorem idx_pcs {P : List (Int × Int)} {x : Nat} (h : x < P.length) : bnd (idx (pcs P) (x : Int)) as_Pi8_i8Q = some (kd P x, wd P x) := by
  rw [idx_prs _ _ _ _ h]; rfl
/-- may q be laid beside p -/
def cand (P : List (Int × Int)) (T : Nat → Bool) (p q : Nat) : Bool := decide (kd P q = 1) && (!T q && decide (IntKind.i8.wrap (wd P p + wd P q) ≤ 8))
abbrev two (p q : Nat) : V := V.sl [V.int .i64 (p : Int), V.int .i64 (q : Int)]
theorem sIn_ok {P : List (Int × Int)} {O : List Nat} (hO : ∀ j, j < O.length → O[j]? = some (O.getD j 0) ∧ O.getD j 0 < P.length) (hP : P.length ≤ 39) (hl : O.length ≤ P.length) {T : Nat → Bool} {p : Nat} (hp : p < P.length) {i : Int} {acc : List V} (ha : acc.length ≤ 1000) :
    Ev (fun n => l_spec_l05Pairs_b2 n (pcs P) i p 0 acc (bl P.length T) (ints O)) (selO (firstN (fun j => cand P T p (O.getD j 0)) 0 O.length) (pcs P, i, acc, bl P.length T, ints O)
      (fun j => (pcs P, i, acc ++ [two p (O.getD j 0)], bl P.length (ptB T (O.getD j 0)), ints O))) := by
  refine loop_first (l := fun n j => l_spec_l05Pairs_b2 n (pcs P) i p (j : Nat) acc (bl P.length T) (ints O)) O.length ?_ ?_ ?_ O.length 0 (Nat.zero_add _)
  · exact ev_f (by simp [ints_length]) ev_some
  · intro k hk hc a hev
    obtain ⟨h1, h2⟩ := hO k hk
    refine ev_t (by simp [ints_length]; omega) (ev_chk (inB_k _ _ (by rw [ints_length]; exact hk)) (ev_bnd (ev_of fun n => nth_ints h1) (ev_bnd (ev_of fun n => idx_pcs h2) ?_)))
    dsimp only
    rw [up64 k (by omega)]
    refine ev_cnd (fun c => ?_) (fun c => hev)
    refine ev_chk (inB_k _ _ (by rw [bl_length]; exact h2)) (ev_bnd (ev_of fun n => nth_bl h2) ?_)
    refine ev_cnd (fun c2 => hev) (fun c2 => ev_bnd (ev_of fun n => idx_pcs hp) (ev_bnd (ev_of fun n => idx_pcs h2) ?_))
    refine ev_f ?_ hev
    unfold cand at hc
    rw [c, c2] at hc
    simpa using hc
  · intro k hk hc
    obtain ⟨h1, h2⟩ := hO k hk
    unfold cand at hc
    simp only [Bool.and_eq_true, Bool.not_eq_true'] at hc
    obtain ⟨c1, c2, c3⟩ := hc
    refine ev_t (by simp [ints_length]; omega) (ev_chk (inB_k _ _ (by rw [ints_length]; exact hk)) (ev_bnd (ev_of fun n => nth_ints h1) (ev_bnd (ev_of fun n => idx_pcs h2) ?_)))
    refine ev_t c1 (ev_chk (inB_k _ _ (by rw [bl_length]; exact h2)) (ev_bnd (ev_of fun n => nth_bl h2) (ev_f c2 (ev_bnd (ev_of fun n => idx_pcs hp) (ev_bnd (ev_of fun n => idx_pcs h2) (ev_t c3 (ev_bnd (ev_of fun n => nth_bl h2) (ev_chk ?_ ?_))))))))
    · simp; omega
    · rw [set_bl h2]; exact ev_some
theorem iIn_ok {P : List (Int × Int)} {O : List Nat} (hO : ∀ j, j < O.length → O[j]? = some (O.getD j 0) ∧ O.getD j 0 < P.length) (hP : P.length ≤ 39) (hl : O.length ≤ P.length) {T : Nat → Bool} {ks vs : List V} (hM : Mk P.length ks vs T) {p : Nat} (hp : p < P.length) :
    Ev (fun n => s_slices_IndexFunc_Sint_int__pairs_1 n (ints O) (pcs P) ks vs p) (selO (firstN (fun j => cand P T p (O.getD j 0)) 0 O.length) (-1) (fun j => (j : Int))) := by
  unfold s_slices_IndexFunc_Sint_int__pairs_1
  have h1' : ∀ q, q < P.length → Ev (fun n => s_impl_pairs_1 n q (pcs P) ks vs p) (cand P T p q) := by
    intro q hq
    unfold s_impl_pairs_1 cand
    refine ev_bnd (ev_of fun n => idx_pcs hq) ?_
    dsimp only
    refine ev_cnd (fun c => ?_) (fun c => ?_)
    · refine ev_chk hM.1 (ev_chk (key_is q (by omega)) ?_)
      rw [hM.2.2 q hq]
      rw [c]
      refine ev_cnd (fun c2 => ?_) (fun c2 => ?_)
      · rw [c2]; exact ev_some
      · rw [c2]
        exact ev_bnd (ev_of fun n => idx_pcs hp) (ev_bnd (ev_of fun n => idx_pcs hq) ev_some)
    · rw [c]; exact ev_some
  rw [ints_length]
  have := loop_first (l := fun n j => l_slices_IndexFunc_Sint_int__pairs_1_b0 n (ints O) (pcs P) ks vs p (O.length : Int) (j : Nat)) (p := fun j => cand P T p (O.getD j 0)) (A := .inl ()) (B := fun j => .inr (j : Int)) O.length
    (ev_f (by simp) ev_some) (by
      intro k hk hc a hev
      obtain ⟨h1, h2⟩ := hO k hk
      refine ev_t (by simp; omega) (ev_bnd (a := ((O.getD k 0 : Nat) : Int)) (ev_of fun n => by rw [idx_ints h1]; rfl) (ev_bnd (h1' _ h2) (ev_f hc ?_)))
      rw [up64 k (by omega)]; exact hev) (by
      intro k hk hc
      obtain ⟨h1, h2⟩ := hO k hk
      exact ev_t (by simp; omega) (ev_bnd (a := ((O.getD k 0 : Nat) : Int)) (ev_of fun n => by rw [idx_ints h1]; rfl) (ev_bnd (h1' _ h2) (ev_t hc ev_some)))) O.length 0 (Nat.zero_add _)
  refine ev_bnd this ?_
  cases firstN (fun j => cand P T p (O.getD j 0)) 0 O.length with
  | none => exact ev_some
  | some j => exact ev_some
theorem pairsL_ok {P : List (Int × Int)} {O : List Nat} (hO : ∀ j, j < O.length → O[j]? = some (O.getD j 0) ∧ O.getD j 0 < P.length) (hP : P.length ≤ 39) (hl : O.length ≤ P.length) : ∀ (d k : Nat) (acc : List V) (T : Nat → Bool) (ks vs : List V), k + d = O.length → Mk P.length ks vs T → acc.length ≤ k →
    ∃ R, R.length ≤ P.length ∧ Ev (fun n => l_spec_l05Pairs_b0 n (pcs P) k acc (bl P.length T) (ints O)) R ∧ Ev (fun n => l_impl_pairs_b0 n (O.length : Int) k (pcs P) (ints O) acc ks vs) R
  | 0, k, acc, T, ks, vs, hk, hM, ha => ⟨acc, by omega, ev_succ (ev_f (by simp [ints_length]; omega) ev_some), ev_succ (ev_f (by simp; omega) ev_some)⟩
  | d + 1, k, acc, T, ks, vs, hk, hM, ha => by
    obtain ⟨h1, h2⟩ := hO k (by omega)
    have pre : ∀ R, Ev (fun n => cnd (decide (kd P (O.getD k 0) = 0))
              (bnd (l_spec_l05Pairs_b2 n (pcs P) k (O.getD k 0 : Nat) 0 acc (bl P.length T) (ints O)) fun (u21_0, u21_1, u21_2, u21_3, u21_4) =>
                l_spec_l05Pairs_b0 n u21_0 (IntKind.i64.wrap ((u21_1) + (1))) u21_2 u21_3 u21_4)
              (l_spec_l05Pairs_b0 n (pcs P) (k + 1 : Nat) acc (bl P.length T) (ints O))) R → Ev (fun n => l_spec_l05Pairs_b0 n (pcs P) k acc (bl P.length T) (ints O)) R := by
      intro R h
      refine ev_succ (ev_t (by simp [ints_length]; omega) (ev_chk (inB_k _ _ (by rw [ints_length]; omega)) (ev_bnd (ev_of fun n => nth_ints h1) (ev_bnd (ev_of fun n => idx_pcs h2) ?_))))
      dsimp only
      rw [up64 k (by omega)]
      exact h
    have pre2 : ∀ R, Ev (fun n => cnd (decide (kd P (O.getD k 0) = 0))
              (bnd (s_slices_IndexFunc_Sint_int__pairs_1 n (ints O) (pcs P) ks vs (O.getD k 0 : Nat)) fun y7_0 =>
                cnd (decide ((0) ≤ (y7_0)))
                  (chk (inB (y7_0) (ints O).length)
                    (bnd (bnd (nth (ints O) ((y7_0).toNat)) as_i64) fun e10_0 =>
                      chk (mapFine (false, [IntKind.i64]) ks vs)
                        (chk (keyIs (false, [IntKind.i64]) (V.int .i64 (e10_0)))
                          (bnd (bnd (nth (ints O) ((y7_0).toNat)) as_i64) fun e13_0 =>
                            chk (decide (((acc).length + ([(V.sl ([(V.int .i64 (O.getD k 0 : Nat)), (V.int .i64 (e13_0))]))]).length) * 24 ≤ 140737488355328))
                              (l_impl_pairs_b0 n (O.length : Int) (k + 1 : Nat) (pcs P) (ints O) (acc ++ ([(V.sl ([(V.int .i64 (O.getD k 0 : Nat)), (V.int .i64 (e13_0))]))])) (mapPutK (V.int .i64 (e10_0)) ks) (mapPutV (V.int .i64 (e10_0)) (V.bool true) ks vs))))))
                  (l_impl_pairs_b0 n (O.length : Int) (k + 1 : Nat) (pcs P) (ints O) acc ks vs))
              (l_impl_pairs_b0 n (O.length : Int) (k + 1 : Nat) (pcs P) (ints O) acc ks vs)) R → Ev (fun n => l_impl_pairs_b0 n (O.length : Int) k (pcs P) (ints O) acc ks vs) R := by
      intro R h
      refine ev_succ (ev_t (by simp; omega) (ev_chk (inB_k _ _ (by rw [ints_length]; omega)) (ev_bnd (ev_of fun n => nth_ints h1) (ev_bnd (ev_of fun n => idx_pcs h2) ?_))))
      dsimp only
      rw [up64 k (by omega)]
      exact h
    by_cases c : kd P (O.getD k 0) = 0
    · have e1 := sIn_ok hO hP hl (T := T) h2 (i := k) (acc := acc) (by omega)
      have e2 := iIn_ok hO hP hl hM h2
      cases hf : firstN (fun j => cand P T (O.getD k 0) (O.getD j 0)) 0 O.length with
      | none =>
        rw [hf] at e1 e2
        simp only [selO] at e1 e2
        obtain ⟨R, r1, r2, r3⟩ := pairsL_ok hO hP hl d (k + 1) acc T ks vs (by omega) hM (by omega)
        refine ⟨R, r1, pre R (ev_t (by simpa using c) (ev_bnd e1 ?_)), pre2 R (ev_t (by simpa using c) (ev_bnd e2 (ev_f (by decide) r3)))⟩
        dsimp only
        rw [up64 k (by omega)]; exact r2
      | some j =>
        rw [hf] at e1 e2
        simp only [selO] at e1 e2
        obtain ⟨_, hj, _, _⟩ := firstN_some hf
        obtain ⟨h3, h4⟩ := hO j (by omega)
        have hM' : Mk P.length (mapPutK (V.int .i64 ((O.getD j 0 : Nat) : Int)) ks) (mapPutV (V.int .i64 ((O.getD j 0 : Nat) : Int)) (V.bool true) ks vs) (ptB T (O.getD j 0)) := by
          have hk := mapPut_fine true hM.1 hM.2.1 (key_is (O.getD j 0) (by omega))
          refine ⟨hk.1, hk.2, fun i hi => ?_⟩
          rw [getB_put true hM.1 hM.2.1 (key_is (O.getD j 0) (by omega)) (key_is i (by omega)), hM.2.2 i hi]
          simp only [ptB]
          have : (kNums (V.int .i64 ((i : Nat) : Int)) = kNums (V.int .i64 ((O.getD j 0 : Nat) : Int))) ↔ i = O.getD j 0 := by
            show ([(i : Int)] = [((O.getD j 0 : Nat) : Int)]) ↔ _
            constructor
            · intro h
              injection h with h
              exact Int.ofNat.inj h
            · intro h; rw [h]
          simp only [this]
        obtain ⟨R, r1, r2, r3⟩ := pairsL_ok hO hP hl d (k + 1) (acc ++ [two (O.getD k 0) (O.getD j 0)]) (ptB T (O.getD j 0)) _ _ (by omega) hM' (by simp; omega)
        refine ⟨R, r1, pre R (ev_t (by simpa using c) (ev_bnd e1 ?_)), pre2 R (ev_t (by simpa using c) (ev_bnd e2 (ev_t (by simp) (ev_chk (inB_k _ _ (by rw [ints_length]; omega)) (ev_bnd (ev_of fun n => nth_ints h3) (ev_chk hM.1 (ev_chk (key_is _ (by omega)) (ev_bnd (ev_of fun n => nth_ints h3) (ev_chk ?_ r3)))))))))⟩
        · dsimp only
          rw [up64 k (by omega)]; exact r2
        · simp; omega
    · obtain ⟨R, r1, r2, r3⟩ := pairsL_ok hO hP hl d (k + 1) acc T ks vs (by omega) hM (by omega)
      exact ⟨R, r1, pre R (ev_f (by simpa using c) r2), pre2 R (ev_f (by simpa using c) r3)⟩
theorem tiles_ok {P : List (Int × Int)} (hP : P.length ≤ 39) (hw : ∀ x, x < P.length → 0 ≤ wd P x ∧ wd P x ≤ 8) :
    ∃ t : Nat, t ≤ P.length ∧ Ev (fun n => s_spec_l05Tiles n (pcs P)) (t : Int) ∧ Ev (fun n => s_impl_tilesFor n (pcs P)) (t : Int) := by
  obtain ⟨_, ⟨O, rfl, o1⟩, e1⟩ := order_ok (P := P) (by omega) hw
  obtain ⟨_, ⟨O', rfl, o2⟩, e2⟩ := byWidth_ok hP
  obtain rfl := ord_uniq o1 o2
  have hO : ∀ j, j < O.length → O[j]? = some (O.getD j 0) ∧ O.getD j 0 < P.length := by
    intro j hj
    have : O[j]? = some (O.getD j 0) := by rw [List.getD_eq_getElem?_getD, List.getElem?_eq_getElem hj]; rfl
    exact ⟨this, (o1.2 _).1 (List.mem_of_getElem? this)⟩
  have hl : O.length ≤ P.length := upO_len (w := 0) (k := 0) o1.1 fun x hx => (o1.2 x).1 hx
  obtain ⟨R, r1, r2, r3⟩ := pairsL_ok hO hP hl O.length 0 [] (fun _ => false) [] [] (by omega) ⟨rfl, rfl, fun i _ => rfl⟩ (Nat.le_refl _)
  refine ⟨P.length - R.length, by omega, ?_, ?_⟩
  · unfold s_spec_l05Tiles s_spec_l05Pairs
    rw [prs_length]
    refine ev_bnd (a := R) (ev_chk ?_ (ev_bnd e1 ?_)) (ev_cast ev_some ?_)
    · simp; omega
    · rw [Int.toNat_natCast, rep_bl]
      exact ev_bnd r2 ev_some
    · exact ws _ _ (by omega) r1
  · unfold s_impl_tilesFor s_impl_pairs
    rw [prs_length]
    refine ev_bnd (a := R) (ev_bnd e2 ?_) (ev_cast ev_some ?_)
    · rw [ints_length]
      exact ev_bnd r3 ev_some
    · exact ws _ _ (by omega) r1
end Go.Proofs.Ytbejaalnnnogoaa
