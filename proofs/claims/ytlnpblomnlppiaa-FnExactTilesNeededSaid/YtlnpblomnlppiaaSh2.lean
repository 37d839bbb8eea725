/- What functions of the program answer, in plain Lean: printed by gen.py out of the program. -/
import Derived.Test.YtlnpblomnlppiaaSh1
namespace Go.Proofs.Ytlnpblomnlppiaa
open Go
set_option linter.unusedVariables false
set_option linter.unusedSimpArgs false
def as_Pi8_i8Q : V → Option (Int × Int)
  | (V.parts [(V.int .i8 (e0)), (V.int .i8 (e1))]) => some (e0, e1)
  | _ => none
theorem as_Pi8_i8Q_some {x : Option V} {e0 : Int} {e1 : Int} (h : bnd x as_Pi8_i8Q = some (e0, e1)) : x = some (V.parts [(V.int .i8 (e0)), (V.int .i8 (e1))]) := by
  obtain ⟨v, rfl, k⟩ := bnd_some h
  unfold as_Pi8_i8Q at k
  split at k
  · simp only [Option.some.injEq, Prod.mk.injEq] at k
    obtain ⟨rfl, rfl⟩ := k
    rfl
  · cases k
def s_spec_l04Cell (n : Nat) (a0 : Int) (a1 : Int) (a2 : Int) (a3 : Nat → Int) (a4 : Int) : Option (Bool) :=
  bnd (s_spec_l01Cells n a0 a1 a2 a3) fun y1_0 =>
    bnd (s_spec_l00In n a4 0 (IntKind.i64.wrap ((y1_0) - (1)))) fun y2_0 =>
      some ((y2_0))
def s_spec_l04Reach (n : Nat) (a0 : Int) : Option (Bool) :=
  bnd (s_spec_l00In n a0 0 8) fun y1_0 =>
    some ((y1_0))
def l_spec_l01All_b2 : Nat → (Int) → (Int) → (Int) → (Nat → Int) → (Int) → (Int) → (List V) →  Option (Int × Int × Int × (Nat → Int) × Int × List V)
  | 0, _, _, _, _, _, _, _ => none
  | n + 1, a0, a1, a2, a3, a4, a5, a6 =>
    cnd (decide ((a5) < (a0)))
      (chk (decide (((a6).length + ([(V.parts [(V.int .i8 (a4)), (V.int .i8 (a5))])]).length) * 2 ≤ 140737488355328))
        (l_spec_l01All_b2 n a0 a1 a2 a3 a4 (IntKind.i8.wrap ((a5) + (1))) (a6 ++ ([(V.parts [(V.int .i8 (a4)), (V.int .i8 (a5))])]))))
      (some ((a0, a1, a2, a3, a4, a6)))
def l_spec_l01All_b0 : Nat → (Int) → (Int) → (Int) → (Nat → Int) → (Int) → (List V) →  Option (List V)
  | 0, _, _, _, _, _, _ => none
  | n + 1, a0, a1, a2, a3, a4, a5 =>
    cnd (decide ((a4) < (a1)))
      (bnd (l_spec_l01All_b2 n a0 a1 a2 a3 a4 0 a5) fun (u4_0, u4_1, u4_2, u4_3, u4_4, u4_5) =>
        l_spec_l01All_b0 n u4_0 u4_1 u4_2 u4_3 (IntKind.i8.wrap ((u4_4) + (1))) u4_5)
      (some (a5))
def s_spec_l01All (n : Nat) (a0 : Int) (a1 : Int) (a2 : Int) (a3 : Nat → Int) : Option (List V) :=
  bnd (l_spec_l01All_b0 n a0 a1 a2 a3 0 ([])) fun u6_0 =>
    some (u6_0)
def s_spec_l01First (n : Nat) (a0 : Int) (a1 : Int) (a2 : Int) (a3 : Nat → Int) (a4 : Int) (a5 : Int) : Option (Int) :=
  bnd (s_spec_l01By n a0 a1 a2 a3 (IntKind.i64.wrap (a4))) fun y1_0 =>
    some (IntKind.i64.wrap ((IntKind.i64.wrap ((2) * (IntKind.i64.wrap (a5)))) + (y1_0)))
def s_spec_l04Can (n : Nat) (a0 : Int) (a1 : Int) (a2 : Int) (a3 : Nat → Int) (a4 : Int) (a5 : Int) (a6 : Int) (a7 : Int) : Option (Bool) :=
  bnd (s_spec_l01First n a0 a1 a2 a3 a6 a7) fun y1_0 =>
    bnd (s_spec_l00In n a4 (IntKind.i64.wrap ((y1_0) - (a5))) (IntKind.i64.wrap ((IntKind.i64.wrap ((y1_0) + (1))) + (a5)))) fun y2_0 =>
      some ((y2_0))
def l_spec_ReachFrom_b0 : Nat → (Int) → (Int) → (Int) → (Int) → (Int) → (Int) → (Nat → Int) → (List V) → (List V) →  Option (List V)
  | 0, _, _, _, _, _, _, _, _, _ => none
  | n + 1, a0, a1, a2, a3, a4, a5, a6, a7, a8 =>
    cnd (decide ((a2) < (((a8).length : Int))))
      (chk (inB (a2) (a8).length)
        (bnd (bnd (nth (a8) ((a2).toNat)) as_Pi8_i8Q) fun (e10_0, e10_1) =>
          bnd (s_spec_l04Can n a3 a4 a5 a6 a0 a1 e10_0 e10_1) fun y11_0 =>
            cnd (y11_0)
              (bnd (bnd (nth (a8) ((a2).toNat)) as_Pi8_i8Q) fun (e13_0, e13_1) =>
                chk (decide (((a7).length + ([(V.parts [(V.int .i8 (e13_0)), (V.int .i8 (e13_1))])]).length) * 2 ≤ 140737488355328))
                  (l_spec_ReachFrom_b0 n a0 a1 (IntKind.i64.wrap ((a2) + (1))) a3 a4 a5 a6 (a7 ++ ([(V.parts [(V.int .i8 (e13_0)), (V.int .i8 (e13_1))])])) a8))
              (l_spec_ReachFrom_b0 n a0 a1 (IntKind.i64.wrap ((a2) + (1))) a3 a4 a5 a6 a7 a8)))
      (some (a7))
def s_spec_ReachFrom (n : Nat) (a0 : Int) (a1 : Int) (a2 : Int) (a3 : Nat → Int) (a4 : Int) (a5 : Int) : Option (List V × Int) :=
  bnd (s_spec_l04Cell n a0 a1 a2 a3 a4) fun y1_0 =>
    cnd (y1_0)
      (bnd (s_spec_l04Reach n a5) fun y3_0 =>
        bnd (s_spec_l01Told n a0 a1 a2 a3 ((y3_0))) fun y4_0 =>
          cnd (decide ((y4_0) = (0)))
            (bnd (s_spec_l01All n a0 a1 a2 a3) fun y6_0 =>
              chk (plainV (V.fresh 0 (y6_0)))
                (bnd (l_spec_ReachFrom_b0 n a4 a5 0 a0 a1 a2 a3 ([]) y6_0) fun u15_0 =>
                  some ((u15_0, 0))))
            (some (([], y4_0))))
      (bnd (s_spec_l01Told n a0 a1 a2 a3 false) fun y17_0 =>
        cnd (decide ((y17_0) = (0)))
          (bnd (s_spec_l01All n a0 a1 a2 a3) fun y19_0 =>
            chk (plainV (V.fresh 0 (y19_0)))
              (bnd (l_spec_ReachFrom_b0 n a4 a5 0 a0 a1 a2 a3 ([]) y19_0) fun u21_0 =>
                some ((u21_0, 0))))
          (some (([], y17_0))))
def s_impl_Roof_isCellNumber (n : Nat) (a0 : Int) (a1 : Int) (a2 : Int) (a3 : Nat → Int) (a4 : Int) : Option (Bool) :=
  bnd (s_impl_Roof_cells n a0 a1 a2 a3) fun y1_0 =>
    bnd (s_impl_within_int64 n a4 0 (IntKind.i64.wrap ((y1_0) - (1)))) fun y2_0 =>
      some ((y2_0))
def s_impl_isReach (n : Nat) (a0 : Int) : Option (Bool) :=
  bnd (s_impl_within_int64 n a0 0 8) fun y1_0 =>
    some ((y1_0))
def s_impl_Roof_cellsOf (n : Nat) (a0 : Int) (a1 : Int) (a2 : Int) (a3 : Nat → Int) (a4 : Int) (a5 : Int) : Option (List V) :=
  bnd (s_impl_Roof_shift n a0 a1 a2 a3 (IntKind.i64.wrap (a4))) fun y1_0 =>
    some ([(V.int .i64 (IntKind.i64.wrap ((IntKind.i64.wrap ((2) * (IntKind.i64.wrap (a5)))) + (y1_0)))), (V.int .i64 (IntKind.i64.wrap ((IntKind.i64.wrap ((IntKind.i64.wrap ((2) * (IntKind.i64.wrap (a5)))) + (y1_0))) + (1))))])
def s_impl_Roof_reaches_1 (n : Nat) (a0 : Int) (a1 : Int) (a2 : Int) : Option (Bool) :=
  bnd (s_impl_within_int64 n a0 (IntKind.i64.wrap ((a1) - (a2))) (IntKind.i64.wrap ((a1) + (a2)))) fun y1_0 =>
    some ((y1_0))
def l_slices_IndexFunc_Sint_int__Roof_reaches_1_b0 : Nat → (List V) → (Int) → (Int) → (Int) → (Int) →  Option (Sum (Unit) (Int))
  | 0, _, _, _, _, _ => none
  | n + 1, a0, a1, a2, a3, a4 =>
    cnd (decide ((a4) < (a3)))
      (bnd (bnd (idx (a0) (a4)) as_i64) fun e2_0 =>
        bnd (s_impl_Roof_reaches_1 n e2_0 a1 a2) fun y3_0 =>
          cnd (y3_0)
            (some (.inr (a4)))
            (l_slices_IndexFunc_Sint_int__Roof_reaches_1_b0 n a0 a1 a2 a3 (IntKind.i64.wrap ((a4) + (1)))))
      (some (.inl (())))
def s_slices_IndexFunc_Sint_int__Roof_reaches_1 (n : Nat) (a0 : List V) (a1 : Int) (a2 : Int) : Option (Int) :=
  bnd (l_slices_IndexFunc_Sint_int__Roof_reaches_1_b0 n a0 a1 a2 (((a0).length : Int)) 0) fun w => match w with
    | .inl _ =>
      some (-1)
    | .inr u6_0 =>
      some (u6_0)
def s_slices_ContainsFunc_Sint_int__Roof_reaches_1 (n : Nat) (a0 : List V) (a1 : Int) (a2 : Int) : Option (Bool) :=
  bnd (s_slices_IndexFunc_Sint_int__Roof_reaches_1 n a0 a1 a2) fun y1_0 =>
    some ((decide ((0) ≤ (y1_0))))
def s_impl_Roof_reaches (n : Nat) (a0 : Int) (a1 : Int) (a2 : Int) (a3 : Nat → Int) (a4 : Int) (a5 : Int) (a6 : Int) (a7 : Int) : Option (Bool) :=
  bnd (s_impl_Roof_cellsOf n a0 a1 a2 a3 a6 a7) fun y1_0 =>
    bnd (s_slices_ContainsFunc_Sint_int__Roof_reaches_1 n y1_0 a4 a5) fun y2_0 =>
      some ((y2_0))
def s_impl_ReachFrom_1 (n : Nat) (a0 : Int) (a1 : Int) (a2 : Int) (a3 : Int) (a4 : Int) (a5 : Nat → Int) (a6 : Int) (a7 : Int) : Option (Bool) :=
  bnd (s_impl_Roof_reaches n a2 a3 a4 a5 a6 a7 a0 a1) fun y1_0 =>
    some ((y1_0))
def l_impl_Roof_places__ReachFrom_1_b2 : Nat → (Int) → (Int) → (Int) → (Nat → Int) → (Int) → (Int) → (Int) → (Int) → (Int) → (Int) → (Int) → (Int) → (Int) → (Int) → (Nat → Int) → (List V) →  Option (Int × Int × Int × (Nat → Int) × Int × Int × Int × Int × Int × Int × Int × (Nat → Int) × List V)
  | 0, _, _, _, _, _, _, _, _, _, _, _, _, _, _, _, _ => none
  | n + 1, a0, a1, a2, a3, a4, a5, a6, a7, a8, a9, a10, a11, a12, a13, a14, a15 =>
    cnd (decide ((a10) < (a9)))
      (bnd (s_impl_ReachFrom_1 n a6 a10 a0 a1 a2 a3 a4 a5) fun y3_0 =>
        cnd (y3_0)
          (chk (decide (((a15).length + ([(V.parts [(V.int .i8 (a6)), (V.int .i8 (a10))])]).length) * 2 ≤ 140737488355328))
            (l_impl_Roof_places__ReachFrom_1_b2 n a0 a1 a2 a3 a4 a5 a6 a7 a8 a9 (IntKind.i8.wrap ((a10) + (1))) a11 a12 a13 a14 (a15 ++ ([(V.parts [(V.int .i8 (a6)), (V.int .i8 (a10))])]))))
          (l_impl_Roof_places__ReachFrom_1_b2 n a0 a1 a2 a3 a4 a5 a6 a7 a8 a9 (IntKind.i8.wrap ((a10) + (1))) a11 a12 a13 a14 a15))
      (some ((a0, a1, a2, a3, a4, a5, a7, a8, a11, a12, a13, a14, a15)))
def l_impl_Roof_places__ReachFrom_1_b0 : Nat → (Int) → (Int) → (Int) → (Nat → Int) → (Int) → (Int) → (Int) → (Int) → (Int) → (Int) → (Int) → (Nat → Int) → (List V) →  Option (List V)
  | 0, _, _, _, _, _, _, _, _, _, _, _, _, _ => none
  | n + 1, a0, a1, a2, a3, a4, a5, a6, a7, a8, a9, a10, a11, a12 =>
    cnd (decide ((a7) < (a6)))
      (bnd (l_impl_Roof_places__ReachFrom_1_b2 n a0 a1 a2 a3 a4 a5 a7 a6 a7 a8 0 a8 a9 a10 a11 a12) fun (u6_0, u6_1, u6_2, u6_3, u6_4, u6_5, u6_6, u6_7, u6_8, u6_9, u6_10, u6_11, u6_12) =>
        l_impl_Roof_places__ReachFrom_1_b0 n u6_0 u6_1 u6_2 u6_3 u6_4 u6_5 u6_6 (IntKind.i8.wrap ((u6_7) + (1))) u6_8 u6_9 u6_10 u6_11 u6_12)
      (some (a12))
def s_impl_Roof_places__ReachFrom_1 (n : Nat) (a0 : Int) (a1 : Int) (a2 : Int) (a3 : Nat → Int) (a4 : Int) (a5 : Int) (a6 : Int) (a7 : Nat → Int) (a8 : Int) (a9 : Int) : Option (List V) :=
  bnd (l_impl_Roof_places__ReachFrom_1_b0 n a4 a5 a6 a7 a8 a9 a1 0 a0 a1 a2 a3 (([] : List V))) fun u8_0 =>
    some (u8_0)
def s_impl_ReachFrom (n : Nat) (a0 : Int) (a1 : Int) (a2 : Int) (a3 : Nat → Int) (a4 : Int) (a5 : Int) : Option (List V × Int) :=
  bnd (s_impl_Roof_isCellNumber n a0 a1 a2 a3 a4) fun y1_0 =>
    cnd (y1_0)
      (bnd (s_impl_isReach n a5) fun y3_0 =>
        bnd (s_impl_roofCode n a0 a1 a2 a3 ((y3_0))) fun y4_0 =>
          cnd (decide ((y4_0) = (0)))
            (bnd (s_impl_Roof_places__ReachFrom_1 n a0 a1 a2 a3 a0 a1 a2 a3 a4 a5) fun y6_0 =>
              chk (plainV (V.fresh 0 (y6_0)))
                (some ((y6_0, 0))))
            (some ((([] : List V), y4_0))))
      (bnd (s_impl_roofCode n a0 a1 a2 a3 false) fun y8_0 =>
        cnd (decide ((y8_0) = (0)))
          (bnd (s_impl_Roof_places__ReachFrom_1 n a0 a1 a2 a3 a0 a1 a2 a3 a4 a5) fun y10_0 =>
            chk (plainV (V.fresh 0 (y10_0)))
              (some ((y10_0, 0))))
          (some ((([] : List V), y8_0))))
def s_laws_eqPlace (n : Nat) (a0 : Int) (a1 : Int) (a2 : Int) (a3 : Int) : Option (Bool) :=
  cnd (decide ((a0) = (a2)))
    (cnd (decide ((a1) = (a3)))
      (some (true))
      (some (false)))
    (some (false))
def l_laws_eqPlaceS_b0 : Nat → (List V) → (List V) → (Int) →  Option (Sum (Unit) (Bool))
  | 0, _, _, _ => none
  | n + 1, a0, a1, a2 =>
    cnd (decide ((a2) < (((a0).length : Int))))
      (bnd (bnd (idx (a0) (a2)) as_Pi8_i8Q) fun (e3_0, e3_1) =>
        bnd (bnd (idx (a1) (a2)) as_Pi8_i8Q) fun (e4_0, e4_1) =>
          bnd (s_laws_eqPlace n e3_0 e3_1 e4_0 e4_1) fun y5_0 =>
            cnd (y5_0)
              (l_laws_eqPlaceS_b0 n a0 a1 (IntKind.i64.wrap ((a2) + (1))))
              (some (.inr (false))))
      (some (.inl (())))
def s_laws_eqPlaceS (n : Nat) (a0 : List V) (a1 : List V) : Option (Bool) :=
  cnd (decide ((((a0).length : Int)) = (((a1).length : Int))))
    (bnd (l_laws_eqPlaceS_b0 n a0 a1 0) fun w => match w with
      | .inl _ =>
        some (true)
      | .inr u8_0 =>
        some ((u8_0)))
    (some (false))
def l_laws_markPlaceS_b0 : Nat → (Int) → (Int) → (List V) →  Option (Int × List V)
  | 0, _, _, _ => none
  | n + 1, a0, a1, a2 =>
    cnd (decide ((a1) < (((a2).length : Int))))
      (chk (inB (a1) (a2).length)
        (bnd (bnd (nth (a2) ((a1).toNat)) as_Pi8_i8Q) fun (e3_0, e3_1) =>
          bnd (bnd (nth (a2) ((a1).toNat)) as_Pi8_i8Q) fun (e4_0, e4_1) =>
            chk (inB (a1) (setNth (a2) ((a1).toNat) (V.parts [(V.int .i8 (IntKind.i8.wrap (a0))), (V.int .i8 (e4_1))])).length)
              (bnd (bnd (nth (setNth (a2) ((a1).toNat) (V.parts [(V.int .i8 (IntKind.i8.wrap (a0))), (V.int .i8 (e4_1))])) ((a1).toNat)) as_Pi8_i8Q) fun (e6_0, e6_1) =>
                bnd (bnd (nth (setNth (a2) ((a1).toNat) (V.parts [(V.int .i8 (IntKind.i8.wrap (a0))), (V.int .i8 (e4_1))])) ((a1).toNat)) as_Pi8_i8Q) fun (e7_0, e7_1) =>
                  l_laws_markPlaceS_b0 n (IntKind.i64.wrap ((IntKind.i64.wrap ((a0) + (1))) + (1))) (IntKind.i64.wrap ((a1) + (1))) (setNth (setNth (a2) ((a1).toNat) (V.parts [(V.int .i8 (IntKind.i8.wrap (a0))), (V.int .i8 (e4_1))])) ((a1).toNat) (V.parts [(V.int .i8 (e7_0)), (V.int .i8 (IntKind.i8.wrap (IntKind.i64.wrap ((a0) + (1)))))])))))
      (some ((a0, a2)))
def s_laws_markPlaceS (n : Nat) (a0 : List V) (a1 : Int) : Option (Int × List V) :=
  bnd (l_laws_markPlaceS_b0 n a1 0 a0) fun (u8_0, u8_1) =>
    some ((u8_0, u8_1))
def l_laws_heldPlaceS_b0 : Nat → (List V) → (Int) → (Int) →  Option (Sum (Int) (Int))
  | 0, _, _, _ => none
  | n + 1, a0, a1, a2 =>
    cnd (decide ((a2) < (((a0).length : Int))))
      (bnd (bnd (idx (a0) (a2)) as_Pi8_i8Q) fun (e2_0, e2_1) =>
        cnd (decide ((e2_0) = (IntKind.i8.wrap (a1))))
          (bnd (bnd (idx (a0) (a2)) as_Pi8_i8Q) fun (e4_0, e4_1) =>
            cnd (decide ((e4_1) = (IntKind.i8.wrap (IntKind.i64.wrap ((a1) + (1))))))
              (l_laws_heldPlaceS_b0 n a0 (IntKind.i64.wrap ((IntKind.i64.wrap ((a1) + (1))) + (1))) (IntKind.i64.wrap ((a2) + (1))))
              (some (.inr (-1))))
          (some (.inr (-1))))
      (some (.inl (a1)))
def s_laws_heldPlaceS (n : Nat) (a0 : List V) (a1 : Int) : Option (Int) :=
  bnd (l_laws_heldPlaceS_b0 n a0 a1 0) fun w => match w with
    | .inl u6_0 =>
      some (u6_0)
    | .inr u7_0 =>
      some (u7_0)
def s_laws_FnExactReachFrom (n : Nat) (a0 : Int) (a1 : Int) (a2 : Int) (a3 : Nat → Int) (a4 : Int) (a5 : Int) : Option (Bool) :=
  bnd (s_laws_toRoof n a0 a1 a2 a3) fun (y1_0, y1_1, y1_2, y1_3) =>
    bnd (s_spec_ReachFrom n y1_0 y1_1 y1_2 y1_3 a4 a5) fun (y2_0, y2_1) =>
      bnd (s_laws_toRoof n a0 a1 a2 a3) fun (y3_0, y3_1, y3_2, y3_3) =>
        bnd (s_impl_ReachFrom n y3_0 y3_1 y3_2 y3_3 a4 a5) fun (y4_0, y4_1) =>
          bnd (s_laws_eqPlaceS n y4_0 y2_0) fun y5_0 =>
            cnd (y5_0)
              (cnd (decide ((y4_1) = (y2_1)))
                (bnd (s_laws_markPlaceS n y4_0 1) fun (y8_0, y8_1) =>
                  chk (likeRows (y4_0) (y8_1))
                    (bnd (s_laws_heldPlaceS n y8_1 1) fun y10_0 =>
                      cnd (decide ((y10_0) < (0)))
                        (some (false))
                        (cnd (decide ((y10_0) = (y8_0)))
                          (bnd (s_laws_toRoof n a0 a1 a2 a3) fun (y13_0, y13_1, y13_2, y13_3) =>
                            bnd (s_impl_ReachFrom n y13_0 y13_1 y13_2 y13_3 a4 a5) fun (y14_0, y14_1) =>
                              bnd (s_laws_eqPlaceS n y14_0 y2_0) fun y15_0 =>
                                cnd (y15_0)
                                  (cnd (decide ((y14_1) = (y2_1)))
                                    (bnd (s_laws_heldPlaceS n y8_1 1) fun y18_0 =>
                                      cnd (decide ((y18_0) < (0)))
                                        (some (false))
                                        (cnd (decide ((y18_0) = (y8_0)))
                                          (some (true))
                                          (some (false))))
                                    (some (false)))
                                  (some (false)))
                          (some (false)))))
                (some (false)))
              (some (false))
def l_laws_toInt64S_b0 : Nat → (List V) → (Int) → (List V) →  Option (List V)
  | 0, _, _, _ => none
  | n + 1, a0, a1, a2 =>
    cnd (decide ((a1) < (((a0).length : Int))))
      (bnd (bnd (idx (a0) (a1)) as_i64) fun e3_0 =>
        chk (inB (a1) (a2).length)
          (bnd (bnd (nth (a2) ((a1).toNat)) as_i64) fun e5_0 =>
            l_laws_toInt64S_b0 n a0 (IntKind.i64.wrap ((a1) + (1))) (setNth (a2) ((a1).toNat) (V.int .i64 (e3_0)))))
      (some (a2))
def s_laws_toInt64S (n : Nat) (a0 : List V) : Option (List V) :=
  chk (decide (((a0).length : Int) = ((a0).length : Int)) && decide (0 ≤ ((a0).length : Int)) && decide ((((a0).length : Int)).toNat * 8 ≤ 140737488355328))
    (bnd (l_laws_toInt64S_b0 n a0 0 (List.replicate (((a0).length : Int)).toNat (V.int .i64 (0)))) fun u6_0 =>
      some (u6_0))
def l_spec_l04Asked_b0 : Nat → (Int) → (Int) → (Int) → (Nat → Int) → (List V) → (List V) → (Bool) → (Int) →  Option (Int × Int × Int × (Nat → Int) × List V × List V × Bool)
  | 0, _, _, _, _, _, _, _, _ => none
  | n + 1, a0, a1, a2, a3, a4, a5, a6, a7 =>
    cnd (decide ((a7) < (((a4).length : Int))))
      (cnd (a6)
        (bnd (bnd (idx (a4) (a7)) as_i64) fun e3_0 =>
          bnd (s_spec_l04Cell n a0 a1 a2 a3 e3_0) fun y4_0 =>
            l_spec_l04Asked_b0 n a0 a1 a2 a3 a4 a5 ((y4_0)) (IntKind.i64.wrap ((a7) + (1))))
        (l_spec_l04Asked_b0 n a0 a1 a2 a3 a4 a5 false (IntKind.i64.wrap ((a7) + (1)))))
      (some ((a0, a1, a2, a3, a4, a5, (a6))))
def l_spec_l04Asked_b2 : Nat → (Int) → (Int) → (Int) → (Nat → Int) → (List V) → (List V) → (Bool) → (Int) →  Option (Int × Int × Int × (Nat → Int) × List V × List V × Bool)
  | 0, _, _, _, _, _, _, _, _ => none
  | n + 1, a0, a1, a2, a3, a4, a5, a6, a7 =>
    cnd (decide ((a7) < (((a5).length : Int))))
      (cnd (a6)
        (bnd (bnd (idx (a5) (a7)) as_Pi8_i8Q) fun (e9_0, e9_1) =>
          bnd (s_spec_l01Is n a0 a1 a2 a3 e9_0 e9_1) fun y10_0 =>
            l_spec_l04Asked_b2 n a0 a1 a2 a3 a4 a5 ((y10_0)) (IntKind.i64.wrap ((a7) + (1))))
        (l_spec_l04Asked_b2 n a0 a1 a2 a3 a4 a5 false (IntKind.i64.wrap ((a7) + (1)))))
      (some ((a0, a1, a2, a3, a4, a5, (a6))))
def s_spec_l04Asked (n : Nat) (a0 : Int) (a1 : Int) (a2 : Int) (a3 : Nat → Int) (a4 : List V) (a5 : List V) (a6 : Bool) : Option (Int) :=
  bnd (l_spec_l04Asked_b0 n a0 a1 a2 a3 a4 a5 ((a6)) 0) fun (u5_0, u5_1, u5_2, u5_3, u5_4, u5_5, u5_6) =>
    bnd (l_spec_l04Asked_b2 n u5_0 u5_1 u5_2 u5_3 u5_4 u5_5 ((u5_6)) 0) fun (u11_0, u11_1, u11_2, u11_3, u11_4, u11_5, u11_6) =>
      bnd (s_spec_l01Told n u11_0 u11_1 u11_2 u11_3 ((u11_6))) fun y13_0 =>
        cnd (decide ((y13_0) = (0)))
          (cnd (decide ((8) < (((u11_4).length : Int))))
            (some (3))
            (cnd (decide ((8) < (((u11_5).length : Int))))
              (some (3))
              (some (y13_0))))
          (some (y13_0))
def s_spec_l00Max (n : Nat) (a0 : Int) (a1 : Int) : Option (Int) :=
  cnd (decide ((a1) < (a0)))
    (some (a0))
    (some (a1))
def s_spec_l04Far (n : Nat) (a0 : Int) (a1 : Int) : Option (Int) :=
  bnd (s_spec_l00Max n (IntKind.i64.wrap ((a0) - (a1))) (IntKind.i64.wrap ((a1) - (a0)))) fun y1_0 =>
    some (y1_0)
def l_spec_WalkFor_b0 : Nat → (List V) → (Int) → (Int) → (Int) →  Option (Int)
  | 0, _, _, _, _ => none
  | n + 1, a0, a1, a2, a3 =>
    cnd (decide ((a3) < (((a0).length : Int))))
      (bnd (bnd (idx (a0) (a3)) as_i64) fun e5_0 =>
        bnd (s_spec_l04Far n a1 e5_0) fun y6_0 =>
          bnd (bnd (idx (a0) (a3)) as_i64) fun e7_0 =>
            l_spec_WalkFor_b0 n a0 e7_0 (IntKind.i64.wrap ((a2) + (y6_0))) (IntKind.i64.wrap ((a3) + (1))))
      (some (a2))
def s_spec_WalkFor (n : Nat) (a0 : Int) (a1 : Int) (a2 : Int) (a3 : Nat → Int) (a4 : List V) (a5 : Int) : Option (Int × Int) :=
  bnd (s_spec_l04Cell n a0 a1 a2 a3 a5) fun y1_0 =>
    bnd (s_spec_l04Asked n a0 a1 a2 a3 a4 ([]) ((y1_0))) fun y2_0 =>
      cnd (decide ((y2_0) = (0)))
        (bnd (l_spec_WalkFor_b0 n a4 a5 0 0) fun u8_0 =>
          some ((u8_0, 0)))
        (some ((0, y2_0)))
def s_impl_areAll_int64_1__Roof_isCellNumber (n : Nat) (a0 : Int) (a1 : Int) (a2 : Int) (a3 : Int) (a4 : Nat → Int) : Option (Bool) :=
  bnd (s_impl_Roof_isCellNumber n a1 a2 a3 a4 a0) fun y1_0 =>
    some ((!(y1_0)))
def l_slices_IndexFunc_Sint64_int64__areAll_int64_1__Roof_isCellNumber_b0 : Nat → (List V) → (Int) → (Int) → (Int) → (Nat → Int) → (Int) → (Int) →  Option (Sum (Unit) (Int))
  | 0, _, _, _, _, _, _, _ => none
  | n + 1, a0, a1, a2, a3, a4, a5, a6 =>
    cnd (decide ((a6) < (a5)))
      (bnd (bnd (idx (a0) (a6)) as_i64) fun e2_0 =>
        bnd (s_impl_areAll_int64_1__Roof_isCellNumber n e2_0 a1 a2 a3 a4) fun y3_0 =>
          cnd (y3_0)
            (some (.inr (a6)))
            (l_slices_IndexFunc_Sint64_int64__areAll_int64_1__Roof_isCellNumber_b0 n a0 a1 a2 a3 a4 a5 (IntKind.i64.wrap ((a6) + (1)))))
      (some (.inl (())))
def s_slices_IndexFunc_Sint64_int64__areAll_int64_1__Roof_isCellNumber (n : Nat) (a0 : List V) (a1 : Int) (a2 : Int) (a3 : Int) (a4 : Nat → Int) : Option (Int) :=
  bnd (l_slices_IndexFunc_Sint64_int64__areAll_int64_1__Roof_isCellNumber_b0 n a0 a1 a2 a3 a4 (((a0).length : Int)) 0) fun w => match w with
    | .inl _ =>
      some (-1)
    | .inr u6_0 =>
      some (u6_0)
def s_slices_ContainsFunc_Sint64_int64__areAll_int64_1__Roof_isCellNumber (n : Nat) (a0 : List V) (a1 : Int) (a2 : Int) (a3 : Int) (a4 : Nat → Int) : Option (Bool) :=
  bnd (s_slices_IndexFunc_Sint64_int64__areAll_int64_1__Roof_isCellNumber n a0 a1 a2 a3 a4) fun y1_0 =>
    some ((decide ((0) ≤ (y1_0))))
def s_impl_areAll_int64__Roof_isCellNumber (n : Nat) (a0 : List V) (a1 : Int) (a2 : Int) (a3 : Int) (a4 : Nat → Int) : Option (Bool) :=
  bnd (s_slices_ContainsFunc_Sint64_int64__areAll_int64_1__Roof_isCellNumber n a0 a1 a2 a3 a4) fun y1_0 =>
    some ((!(y1_0)))
def s_impl_jobCode_1 (n : Nat) (a0 : Int) : Option (Bool) :=
  some ((decide ((a0) ≤ (8))))
def s_impl_areAll_int_1__jobCode_1 (n : Nat) (a0 : Int) : Option (Bool) :=
  bnd (s_impl_jobCode_1 n a0) fun y1_0 =>
    some ((!(y1_0)))
def l_slices_IndexFunc_Sint_int__areAll_int_1__jobCode_1_b0 : Nat → (List V) → (Int) → (Int) →  Option (Sum (Unit) (Int))
  | 0, _, _, _ => none
  | n + 1, a0, a1, a2 =>
    cnd (decide ((a2) < (a1)))
      (bnd (bnd (idx (a0) (a2)) as_i64) fun e2_0 =>
        bnd (s_impl_areAll_int_1__jobCode_1 n e2_0) fun y3_0 =>
          cnd (y3_0)
            (some (.inr (a2)))
            (l_slices_IndexFunc_Sint_int__areAll_int_1__jobCode_1_b0 n a0 a1 (IntKind.i64.wrap ((a2) + (1)))))
      (some (.inl (())))
def s_slices_IndexFunc_Sint_int__areAll_int_1__jobCode_1 (n : Nat) (a0 : List V) : Option (Int) :=
  bnd (l_slices_IndexFunc_Sint_int__areAll_int_1__jobCode_1_b0 n a0 (((a0).length : Int)) 0) fun w => match w with
    | .inl _ =>
      some (-1)
    | .inr u6_0 =>
      some (u6_0)
def s_slices_ContainsFunc_Sint_int__areAll_int_1__jobCode_1 (n : Nat) (a0 : List V) : Option (Bool) :=
  bnd (s_slices_IndexFunc_Sint_int__areAll_int_1__jobCode_1 n a0) fun y1_0 =>
    some ((decide ((0) ≤ (y1_0))))
def s_impl_areAll_int__jobCode_1 (n : Nat) (a0 : List V) : Option (Bool) :=
  bnd (s_slices_ContainsFunc_Sint_int__areAll_int_1__jobCode_1 n a0) fun y1_0 =>
    some ((!(y1_0)))
def s_impl_jobCode (n : Nat) (a0 : Int) (a1 : Int) (a2 : Int) (a3 : Nat → Int) (a4 : Bool) (a5 : List V) : Option (Int) :=
  bnd (s_impl_roofCode n a0 a1 a2 a3 ((a4))) fun y1_0 =>
    cnd (decide ((y1_0) = (0)))
      (bnd (s_impl_areAll_int__jobCode_1 n a5) fun y3_0 =>
        cnd (y3_0)
          (some (y1_0))
          (some (3)))
      (some (y1_0))
def s_impl_walkCode (n : Nat) (a0 : Int) (a1 : Int) (a2 : Int) (a3 : Nat → Int) (a4 : List V) (a5 : Int) : Option (Int) :=
  bnd (s_impl_areAll_int64__Roof_isCellNumber n a4 a0 a1 a2 a3) fun y1_0 =>
    cnd (y1_0)
      (bnd (s_impl_Roof_isCellNumber n a0 a1 a2 a3 a5) fun y3_0 =>
        bnd (s_impl_jobCode n a0 a1 a2 a3 ((y3_0)) ([(V.int .i64 (((a4).length : Int)))])) fun y4_0 =>
          some (y4_0))
      (bnd (s_impl_jobCode n a0 a1 a2 a3 false ([(V.int .i64 (((a4).length : Int)))])) fun y5_0 =>
        some (y5_0))
def l_impl_walk_b0 : Nat → (Int) → (Int) → (List V) → (Int) → (Int) →  Option (Int)
  | 0, _, _, _, _, _ => none
  | n + 1, a0, a1, a2, a3, a4 =>
    cnd (decide ((a4) < (a3)))
      (bnd (bnd (idx (a2) (a4)) as_i64) fun e2_0 =>
        l_impl_walk_b0 n e2_0 (IntKind.i64.wrap ((a1) + (maxI (IntKind.i64.wrap ((e2_0) - (a0))) (IntKind.i64.wrap ((a0) - (e2_0)))))) a2 a3 (IntKind.i64.wrap ((a4) + (1))))
      (some (a1))
def s_impl_walk (n : Nat) (a0 : List V) (a1 : Int) : Option (Int) :=
  bnd (l_impl_walk_b0 n a1 0 a0 (((a0).length : Int)) 0) fun u3_0 =>
    some (u3_0)
def s_impl_WalkFor (n : Nat) (a0 : Int) (a1 : Int) (a2 : Int) (a3 : Nat → Int) (a4 : List V) (a5 : Int) : Option (Int × Int) :=
  bnd (s_impl_walkCode n a0 a1 a2 a3 a4 a5) fun y1_0 =>
    cnd (decide ((y1_0) = (0)))
      (bnd (s_impl_walk n a4 a5) fun y3_0 =>
        some ((y3_0, 0)))
      (some ((0, y1_0)))
def s_laws_FnExactWalkFor (n : Nat) (a0 : Int) (a1 : Int) (a2 : Int) (a3 : Nat → Int) (a4 : List V) (a5 : Int) : Option (Bool) :=
  cnd (decide ((1048576) < (((a4).length : Int))))
    (some (true))
    (bnd (s_laws_toRoof n a0 a1 a2 a3) fun (y2_0, y2_1, y2_2, y2_3) =>
      bnd (s_laws_toInt64S n a4) fun y3_0 =>
        bnd (s_spec_WalkFor n y2_0 y2_1 y2_2 y2_3 y3_0 a5) fun (y4_0, y4_1) =>
          bnd (s_laws_toInt64S n a4) fun y5_0 =>
            bnd (s_laws_toRoof n a0 a1 a2 a3) fun (y6_0, y6_1, y6_2, y6_3) =>
              bnd (s_impl_WalkFor n y6_0 y6_1 y6_2 y6_3 y5_0 a5) fun (y7_0, y7_1) =>
                cnd (decide ((y7_0) = (y4_0)))
                  (cnd (decide ((y7_1) = (y4_1)))
                    (bnd (s_laws_toInt64S n a4) fun y10_0 =>
                      bnd (s_laws_eqInt64S n y5_0 y10_0) fun y11_0 =>
                        cnd (y11_0)
                          (some (true))
                          (some (false)))
                    (some (false)))
                  (some (false)))
def s_laws_szPlaceS (n : Nat) (a0 : List V) (a1 : Int) : Option (Int) :=
  cnd (decide ((IntKind.i64.wrap ((a1) - (((a0).length : Int)))) < (0)))
    (some (-1))
    (some (IntKind.i64.wrap ((a1) - (((a0).length : Int)))))
def l_laws_toPlaceS_b0 : Nat → (List V) → (Int) → (List V) →  Option (List V)
  | 0, _, _, _ => none
  | n + 1, a0, a1, a2 =>
    cnd (decide ((a1) < (((a0).length : Int))))
      (bnd (bnd (idx (a0) (a1)) as_Pi8_i8Q) fun (e3_0, e3_1) =>
        bnd (s_laws_toPlace n e3_0 e3_1) fun (y4_0, y4_1) =>
          chk (inB (a1) (a2).length)
            (bnd (bnd (nth (a2) ((a1).toNat)) as_Pi8_i8Q) fun (e6_0, e6_1) =>
              l_laws_toPlaceS_b0 n a0 (IntKind.i64.wrap ((a1) + (1))) (setNth (a2) ((a1).toNat) (V.parts [(V.int .i8 (y4_0)), (V.int .i8 (y4_1))]))))
      (some (a2))
def s_laws_toPlaceS (n : Nat) (a0 : List V) : Option (List V) :=
  chk (decide (((a0).length : Int) = ((a0).length : Int)) && decide (0 ≤ ((a0).length : Int)) && decide ((((a0).length : Int)).toNat * 2 ≤ 140737488355328))
    (bnd (l_laws_toPlaceS_b0 n a0 0 (List.replicate (((a0).length : Int)).toNat (V.parts [(V.int .i8 (0)), (V.int .i8 (0))]))) fun u7_0 =>
      some (u7_0))
def l_spec_l04First_b0 : Nat → (Int) → (Int) → (Int) → (Nat → Int) → (List V) → (Int) → (Int) → (Int) → (Int) →  Option (Sum (Unit) (Int))
  | 0, _, _, _, _, _, _, _, _, _ => none
  | n + 1, a0, a1, a2, a3, a4, a5, a6, a7, a8 =>
    cnd (decide ((a6) < (((a4).length : Int))))
      (bnd (bnd (idx (a4) (a6)) as_i64) fun e2_0 =>
        bnd (s_spec_l04Can n a0 a1 a2 a3 e2_0 a5 a7 a8) fun y3_0 =>
          cnd (y3_0)
            (some (.inr (a6)))
            (l_spec_l04First_b0 n a0 a1 a2 a3 a4 a5 (IntKind.i64.wrap ((a6) + (1))) a7 a8))
      (some (.inl (())))
def s_spec_l04First (n : Nat) (a0 : Int) (a1 : Int) (a2 : Int) (a3 : Nat → Int) (a4 : List V) (a5 : Int) (a6 : Int) (a7 : Int) : Option (Int) :=
  bnd (l_spec_l04First_b0 n a0 a1 a2 a3 a4 a5 0 a6 a7) fun w => match w with
    | .inl _ =>
      some (-1)
    | .inr u6_0 =>
      some (u6_0)
def l_spec_l04All_b0 : Nat → (Int) → (Int) → (Int) → (Nat → Int) → (List V) → (Int) → (List V) → (Int) →  Option (Sum (Unit) (Bool))
  | 0, _, _, _, _, _, _, _, _ => none
  | n + 1, a0, a1, a2, a3, a4, a5, a6, a7 =>
    cnd (decide ((a7) < (((a6).length : Int))))
      (bnd (bnd (idx (a6) (a7)) as_Pi8_i8Q) fun (e2_0, e2_1) =>
        bnd (s_spec_l04First n a0 a1 a2 a3 a4 a5 e2_0 e2_1) fun y3_0 =>
          cnd (decide ((y3_0) < (0)))
            (some (.inr (false)))
            (l_spec_l04All_b0 n a0 a1 a2 a3 a4 a5 a6 (IntKind.i64.wrap ((a7) + (1)))))
      (some (.inl (())))
def s_spec_l04All (n : Nat) (a0 : Int) (a1 : Int) (a2 : Int) (a3 : Nat → Int) (a4 : List V) (a5 : Int) (a6 : List V) : Option (Bool) :=
  bnd (l_spec_l04All_b0 n a0 a1 a2 a3 a4 a5 a6 0) fun w => match w with
    | .inl _ =>
      some (true)
    | .inr u6_0 =>
      some ((u6_0))
def s_spec_CanReach (n : Nat) (a0 : Int) (a1 : Int) (a2 : Int) (a3 : Nat → Int) (a4 : List V) (a5 : Int) (a6 : List V) : Option (Bool × Int) :=
  bnd (s_spec_l04Reach n a5) fun y1_0 =>
    bnd (s_spec_l04Asked n a0 a1 a2 a3 a4 a6 ((y1_0))) fun y2_0 =>
      cnd (decide ((y2_0) = (0)))
        (bnd (s_spec_l04All n a0 a1 a2 a3 a4 a5 a6) fun y4_0 =>
          some (((y4_0), 0)))
        (some ((false, y2_0)))
def s_impl_areAll_impl_Place_1__Roof_has (n : Nat) (a0 : Int) (a1 : Int) (a2 : Int) (a3 : Int) (a4 : Int) (a5 : Nat → Int) : Option (Bool) :=
  bnd (s_impl_Roof_has n a2 a3 a4 a5 a0 a1) fun y1_0 =>
    some ((!(y1_0)))
def l_slices_IndexFunc_Simpl_Place_impl_Place__areAll_Place_1__Roof_has_b0 : Nat → (List V) → (Int) → (Int) → (Int) → (Nat → Int) → (Int) → (Int) →  Option (Sum (Unit) (Int))
  | 0, _, _, _, _, _, _, _ => none
  | n + 1, a0, a1, a2, a3, a4, a5, a6 =>
    cnd (decide ((a6) < (a5)))
      (bnd (bnd (idx (a0) (a6)) as_Pi8_i8Q) fun (e2_0, e2_1) =>
        bnd (s_impl_areAll_impl_Place_1__Roof_has n e2_0 e2_1 a1 a2 a3 a4) fun y3_0 =>
          cnd (y3_0)
            (some (.inr (a6)))
            (l_slices_IndexFunc_Simpl_Place_impl_Place__areAll_Place_1__Roof_has_b0 n a0 a1 a2 a3 a4 a5 (IntKind.i64.wrap ((a6) + (1)))))
      (some (.inl (())))
def s_slices_IndexFunc_Simpl_Place_impl_Place__areAll_Place_1__Roof_has (n : Nat) (a0 : List V) (a1 : Int) (a2 : Int) (a3 : Int) (a4 : Nat → Int) : Option (Int) :=
  bnd (l_slices_IndexFunc_Simpl_Place_impl_Place__areAll_Place_1__Roof_has_b0 n a0 a1 a2 a3 a4 (((a0).length : Int)) 0) fun w => match w with
    | .inl _ =>
      some (-1)
    | .inr u6_0 =>
      some (u6_0)
def s_slices_ContainsFunc_Simpl_Place_impl_Place__areAll_Place_1__Roof_has (n : Nat) (a0 : List V) (a1 : Int) (a2 : Int) (a3 : Int) (a4 : Nat → Int) : Option (Bool) :=
  bnd (s_slices_IndexFunc_Simpl_Place_impl_Place__areAll_Place_1__Roof_has n a0 a1 a2 a3 a4) fun y1_0 =>
    some ((decide ((0) ≤ (y1_0))))
def s_impl_areAll_impl_Place__Roof_has (n : Nat) (a0 : List V) (a1 : Int) (a2 : Int) (a3 : Int) (a4 : Nat → Int) : Option (Bool) :=
  bnd (s_slices_ContainsFunc_Simpl_Place_impl_Place__areAll_Place_1__Roof_has n a0 a1 a2 a3 a4) fun y1_0 =>
    some ((!(y1_0)))
def s_impl_ladderCode (n : Nat) (a0 : Int) (a1 : Int) (a2 : Int) (a3 : Nat → Int) (a4 : List V) (a5 : Int) (a6 : List V) : Option (Int) :=
  bnd (s_impl_areAll_int64__Roof_isCellNumber n a4 a0 a1 a2 a3) fun y1_0 =>
    cnd (y1_0)
      (bnd (s_impl_isReach n a5) fun y3_0 =>
        cnd (y3_0)
          (bnd (s_impl_areAll_impl_Place__Roof_has n a6 a0 a1 a2 a3) fun y5_0 =>
            bnd (s_impl_jobCode n a0 a1 a2 a3 ((y5_0)) ([(V.int .i64 (((a4).length : Int))), (V.int .i64 (((a6).length : Int)))])) fun y6_0 =>
              some (y6_0))
          (bnd (s_impl_jobCode n a0 a1 a2 a3 false ([(V.int .i64 (((a4).length : Int))), (V.int .i64 (((a6).length : Int)))])) fun y7_0 =>
            some (y7_0)))
      (bnd (s_impl_jobCode n a0 a1 a2 a3 false ([(V.int .i64 (((a4).length : Int))), (V.int .i64 (((a6).length : Int)))])) fun y8_0 =>
        some (y8_0))
def l_impl_Roof_ladderOf_b0 : Nat → (List V) → (Int) → (List V) → (Int) → (Int) → (Int) → (Int) → (Int) → (Nat → Int) → (Int) → (Int) →  Option (Sum (List V) (Int))
  | 0, _, _, _, _, _, _, _, _, _, _, _ => none
  | n + 1, a0, a1, a2, a3, a4, a5, a6, a7, a8, a9, a10 =>
    cnd (decide ((a4) < (a3)))
      (bnd (bnd (idx (a2) (a4)) as_i64) fun e2_0 =>
        bnd (s_impl_Roof_reaches n a5 a6 a7 a8 e2_0 a1 a9 a10) fun y3_0 =>
          cnd (y3_0)
            (some (.inr (a4)))
            (l_impl_Roof_ladderOf_b0 n a0 a1 a2 a3 (IntKind.i64.wrap ((a4) + (1))) a5 a6 a7 a8 a9 a10))
      (some (.inl (a0)))
def s_impl_Roof_ladderOf (n : Nat) (a0 : Int) (a1 : Int) (a2 : Int) (a3 : Nat → Int) (a4 : List V) (a5 : Int) (a6 : Int) (a7 : Int) : Option (Int) :=
  bnd (l_impl_Roof_ladderOf_b0 n a4 a5 a4 (((a4).length : Int)) 0 a0 a1 a2 a3 a6 a7) fun w => match w with
    | .inl u5_0 =>
      some (((u5_0).length : Int))
    | .inr u6_0 =>
      some (u6_0)
def s_impl_Roof_areReached_1 (n : Nat) (a0 : Int) (a1 : Int) (a2 : Int) (a3 : Int) (a4 : Int) (a5 : Nat → Int) (a6 : List V) (a7 : Int) : Option (Bool) :=
  bnd (s_impl_Roof_ladderOf n a2 a3 a4 a5 a6 a7 a0 a1) fun y1_0 =>
    some ((decide ((y1_0) < (((a6).length : Int)))))
def s_impl_areAll_impl_Place_1__Roof_areReached_1 (n : Nat) (a0 : Int) (a1 : Int) (a2 : Int) (a3 : Int) (a4 : Int) (a5 : Nat → Int) (a6 : List V) (a7 : Int) : Option (Bool) :=
  bnd (s_impl_Roof_areReached_1 n a0 a1 a2 a3 a4 a5 a6 a7) fun y1_0 =>
    some ((!(y1_0)))
def l_slices_IndexFunc_Simpl_Place_impl_Place__areAll_Place_1__Roof_areReached_1_b0 : Nat → (List V) → (Int) → (Int) → (Int) → (Nat → Int) → (List V) → (Int) → (Int) → (Int) →  Option (Sum (Unit) (Int))
  | 0, _, _, _, _, _, _, _, _, _ => none
  | n + 1, a0, a1, a2, a3, a4, a5, a6, a7, a8 =>
    cnd (decide ((a8) < (a7)))
      (bnd (bnd (idx (a0) (a8)) as_Pi8_i8Q) fun (e2_0, e2_1) =>
        bnd (s_impl_areAll_impl_Place_1__Roof_areReached_1 n e2_0 e2_1 a1 a2 a3 a4 a5 a6) fun y3_0 =>
          cnd (y3_0)
            (some (.inr (a8)))
            (l_slices_IndexFunc_Simpl_Place_impl_Place__areAll_Place_1__Roof_areReached_1_b0 n a0 a1 a2 a3 a4 a5 a6 a7 (IntKind.i64.wrap ((a8) + (1)))))
      (some (.inl (())))
def s_slices_IndexFunc_Simpl_Place_impl_Place__areAll_Place_1__Roof_areReached_1 (n : Nat) (a0 : List V) (a1 : Int) (a2 : Int) (a3 : Int) (a4 : Nat → Int) (a5 : List V) (a6 : Int) : Option (Int) :=
  bnd (l_slices_IndexFunc_Simpl_Place_impl_Place__areAll_Place_1__Roof_areReached_1_b0 n a0 a1 a2 a3 a4 a5 a6 (((a0).length : Int)) 0) fun w => match w with
    | .inl _ =>
      some (-1)
    | .inr u6_0 =>
      some (u6_0)
def s_slices_ContainsFunc_Simpl_Place_impl_Place__areAll_Place_1__Roof_areReached_1 (n : Nat) (a0 : List V) (a1 : Int) (a2 : Int) (a3 : Int) (a4 : Nat → Int) (a5 : List V) (a6 : Int) : Option (Bool) :=
  bnd (s_slices_IndexFunc_Simpl_Place_impl_Place__areAll_Place_1__Roof_areReached_1 n a0 a1 a2 a3 a4 a5 a6) fun y1_0 =>
    some ((decide ((0) ≤ (y1_0))))
def s_impl_areAll_impl_Place__Roof_areReached_1 (n : Nat) (a0 : List V) (a1 : Int) (a2 : Int) (a3 : Int) (a4 : Nat → Int) (a5 : List V) (a6 : Int) : Option (Bool) :=
  bnd (s_slices_ContainsFunc_Simpl_Place_impl_Place__areAll_Place_1__Roof_areReached_1 n a0 a1 a2 a3 a4 a5 a6) fun y1_0 =>
    some ((!(y1_0)))
def s_impl_Roof_areReached (n : Nat) (a0 : Int) (a1 : Int) (a2 : Int) (a3 : Nat → Int) (a4 : List V) (a5 : Int) (a6 : List V) : Option (Bool) :=
  bnd (s_impl_areAll_impl_Place__Roof_areReached_1 n a6 a0 a1 a2 a3 a4 a5) fun y1_0 =>
    some ((y1_0))
def s_impl_CanReach (n : Nat) (a0 : Int) (a1 : Int) (a2 : Int) (a3 : Nat → Int) (a4 : List V) (a5 : Int) (a6 : List V) : Option (Bool × Int) :=
  bnd (s_impl_ladderCode n a0 a1 a2 a3 a4 a5 a6) fun y1_0 =>
    cnd (decide ((y1_0) = (0)))
      (bnd (s_impl_Roof_areReached n a0 a1 a2 a3 a4 a5 a6) fun y3_0 =>
        some (((y3_0), 0)))
      (some ((false, y1_0)))
def s_laws_FnExactCanReach (n : Nat) (a0 : Int) (a1 : Int) (a2 : Int) (a3 : Nat → Int) (a4 : List V) (a5 : Int) (a6 : List V) : Option (Bool) :=
  cnd (decide ((1048576) < (((a4).length : Int))))
    (some (true))
    (bnd (s_laws_szPlaceS n a6 1048576) fun y2_0 =>
      cnd (decide ((y2_0) < (0)))
        (some (true))
        (bnd (s_laws_toRoof n a0 a1 a2 a3) fun (y4_0, y4_1, y4_2, y4_3) =>
          bnd (s_laws_toInt64S n a4) fun y5_0 =>
            bnd (s_laws_toPlaceS n a6) fun y6_0 =>
              bnd (s_spec_CanReach n y4_0 y4_1 y4_2 y4_3 y5_0 a5 y6_0) fun (y7_0, y7_1) =>
                bnd (s_laws_toInt64S n a4) fun y8_0 =>
                  bnd (s_laws_toPlaceS n a6) fun y9_0 =>
                    bnd (s_laws_toRoof n a0 a1 a2 a3) fun (y10_0, y10_1, y10_2, y10_3) =>
                      bnd (s_impl_CanReach n y10_0 y10_1 y10_2 y10_3 y8_0 a5 y9_0) fun (y11_0, y11_1) =>
                        cnd ((y11_0) == (y7_0))
                          (cnd (decide ((y11_1) = (y7_1)))
                            (bnd (s_laws_toInt64S n a4) fun y14_0 =>
                              bnd (s_laws_eqInt64S n y8_0 y14_0) fun y15_0 =>
                                cnd (y15_0)
                                  (bnd (s_laws_toPlaceS n a6) fun y17_0 =>
                                    bnd (s_laws_eqPlaceS n y9_0 y17_0) fun y18_0 =>
                                      cnd (y18_0)
                                        (some (true))
                                        (some (false)))
                                  (some (false)))
                            (some (false)))
                          (some (false))))
def l_spec_LadderFor_b0 : Nat → (List V) → (Int) → (List V) → (Int) → (Int) → (Int) → (Int) → (Nat → Int) → (List V) →  Option (Sum (List V) (Int × List V))
  | 0, _, _, _, _, _, _, _, _, _ => none
  | n + 1, a0, a1, a2, a3, a4, a5, a6, a7, a8 =>
    cnd (decide ((a3) < (((a2).length : Int))))
      (bnd (bnd (idx (a2) (a3)) as_Pi8_i8Q) fun (e5_0, e5_1) =>
        bnd (s_spec_l04First n a4 a5 a6 a7 a0 a1 e5_0 e5_1) fun y6_0 =>
          cnd (decide ((y6_0) < (0)))
            (some (.inr ((6, []))))
            (chk (decide (((a8).length + ([(V.int .i64 (y6_0))]).length) * 8 ≤ 140737488355328))
              (l_spec_LadderFor_b0 n a0 a1 a2 (IntKind.i64.wrap ((a3) + (1))) a4 a5 a6 a7 (a8 ++ ([(V.int .i64 (y6_0))])))))
      (some (.inl (a8)))
def s_spec_LadderFor (n : Nat) (a0 : Int) (a1 : Int) (a2 : Int) (a3 : Nat → Int) (a4 : List V) (a5 : Int) (a6 : List V) : Option (List V × Int) :=
  bnd (s_spec_l04Reach n a5) fun y1_0 =>
    bnd (s_spec_l04Asked n a0 a1 a2 a3 a4 a6 ((y1_0))) fun y2_0 =>
      cnd (decide ((y2_0) = (0)))
        (bnd (l_spec_LadderFor_b0 n a4 a5 a6 0 a0 a1 a2 a3 ([])) fun w => match w with
          | .inl u9_0 =>
            some ((u9_0, 0))
          | .inr (u10_0, u10_1) =>
            some ((u10_1, u10_0)))
        (some (([], y2_0)))
def s_impl_LadderFor_1 (n : Nat) (a0 : Int) (a1 : Int) (a2 : Int) (a3 : Int) (a4 : Int) (a5 : Nat → Int) (a6 : List V) (a7 : Int) : Option (Int) :=
  bnd (s_impl_Roof_ladderOf n a2 a3 a4 a5 a6 a7 a0 a1) fun y1_0 =>
    some (y1_0)
def l_impl_each_impl_Place_int64__LadderFor_1_b0 : Nat → (Int) → (Int) → (Int) → (Nat → Int) → (List V) → (Int) → (List V) → (Int) → (Int) → (List V) →  Option (List V)
  | 0, _, _, _, _, _, _, _, _, _, _ => none
  | n + 1, a0, a1, a2, a3, a4, a5, a6, a7, a8, a9 =>
    cnd (decide ((a8) < (a7)))
      (bnd (bnd (idx (a6) (a8)) as_Pi8_i8Q) fun (e2_0, e2_1) =>
        bnd (s_impl_LadderFor_1 n e2_0 e2_1 a0 a1 a2 a3 a4 a5) fun y3_0 =>
          chk (decide (((a9).length + ([(V.int .i64 (y3_0))]).length) * 8 ≤ 140737488355328))
            (l_impl_each_impl_Place_int64__LadderFor_1_b0 n a0 a1 a2 a3 a4 a5 a6 a7 (IntKind.i64.wrap ((a8) + (1))) (a9 ++ ([(V.int .i64 (y3_0))]))))
      (some (a9))
def s_impl_each_impl_Place_int64__LadderFor_1 (n : Nat) (a0 : List V) (a1 : Int) (a2 : Int) (a3 : Int) (a4 : Nat → Int) (a5 : List V) (a6 : Int) : Option (List V) :=
  bnd (l_impl_each_impl_Place_int64__LadderFor_1_b0 n a1 a2 a3 a4 a5 a6 a0 (((a0).length : Int)) 0 (([] : List V))) fun u5_0 =>
    some (u5_0)
def s_impl_LadderFor (n : Nat) (a0 : Int) (a1 : Int) (a2 : Int) (a3 : Nat → Int) (a4 : List V) (a5 : Int) (a6 : List V) : Option (List V × Int) :=
  bnd (s_impl_ladderCode n a0 a1 a2 a3 a4 a5 a6) fun y1_0 =>
    cnd (decide ((y1_0) = (0)))
      (bnd (s_impl_Roof_areReached n a0 a1 a2 a3 a4 a5 a6) fun y3_0 =>
        cnd (y3_0)
          (bnd (s_impl_each_impl_Place_int64__LadderFor_1 n a6 a0 a1 a2 a3 a4 a5) fun y5_0 =>
            chk (plainV (V.fresh 0 (y5_0)))
              (some ((y5_0, 0))))
          (some ((([] : List V), 6))))
      (some ((([] : List V), y1_0)))
def s_laws_FnExactLadderFor (n : Nat) (a0 : Int) (a1 : Int) (a2 : Int) (a3 : Nat → Int) (a4 : List V) (a5 : Int) (a6 : List V) : Option (Bool) :=
  cnd (decide ((1048576) < (((a4).length : Int))))
    (some (true))
    (bnd (s_laws_szPlaceS n a6 1048576) fun y2_0 =>
      cnd (decide ((y2_0) < (0)))
        (some (true))
        (bnd (s_laws_toRoof n a0 a1 a2 a3) fun (y4_0, y4_1, y4_2, y4_3) =>
          bnd (s_laws_toInt64S n a4) fun y5_0 =>
            bnd (s_laws_toPlaceS n a6) fun y6_0 =>
              bnd (s_spec_LadderFor n y4_0 y4_1 y4_2 y4_3 y5_0 a5 y6_0) fun (y7_0, y7_1) =>
                chk (plainV (V.tup [(V.fresh 0 (y7_0)), (V.int .i64 (y7_1))]))
                  (bnd (s_laws_toInt64S n a4) fun y9_0 =>
                    bnd (s_laws_toPlaceS n a6) fun y10_0 =>
                      bnd (s_laws_toRoof n a0 a1 a2 a3) fun (y11_0, y11_1, y11_2, y11_3) =>
                        bnd (s_impl_LadderFor n y11_0 y11_1 y11_2 y11_3 y9_0 a5 y10_0) fun (y12_0, y12_1) =>
                          chk (plainV (V.tup [(V.fresh 0 (y12_0)), (V.int .i64 (y12_1))]))
                            (bnd (s_laws_eqInt64S n y12_0 y7_0) fun y14_0 =>
                              cnd (y14_0)
                                (cnd (decide ((y12_1) = (y7_1)))
                                  (bnd (s_laws_toInt64S n a4) fun y17_0 =>
                                    bnd (s_laws_eqInt64S n y9_0 y17_0) fun y18_0 =>
                                      cnd (y18_0)
                                        (bnd (s_laws_toPlaceS n a6) fun y20_0 =>
                                          bnd (s_laws_eqPlaceS n y10_0 y20_0) fun y21_0 =>
                                            cnd (y21_0)
                                              (bnd (s_laws_markInt64S n y9_0 1) fun (y23_0, y23_1) =>
                                                chk (likeRows (y9_0) (y23_1))
                                                  (bnd (s_laws_markPlaceS n y10_0 y23_0) fun (y25_0, y25_1) =>
                                                    chk (likeRows (y10_0) (y25_1))
                                                      (cnd (decide ((y25_0) < (0)))
                                                        (some (false))
                                                        (bnd (s_laws_eqInt64S n y12_0 y7_0) fun y28_0 =>
                                                          cnd (y28_0)
                                                            (bnd (s_laws_markInt64S n y12_0 1) fun (y30_0, y30_1) =>
                                                              chk (likeRows (y12_0) (y30_1))
                                                                (bnd (s_laws_heldInt64S n y30_1 1) fun y32_0 =>
                                                                  cnd (decide ((y32_0) < (0)))
                                                                    (some (false))
                                                                    (cnd (decide ((y32_0) = (y30_0)))
                                                                      (bnd (s_laws_toRoof n a0 a1 a2 a3) fun (y35_0, y35_1, y35_2, y35_3) =>
                                                                        bnd (s_laws_toInt64S n a4) fun y36_0 =>
                                                                          bnd (s_laws_toPlaceS n a6) fun y37_0 =>
                                                                            bnd (s_impl_LadderFor n y35_0 y35_1 y35_2 y35_3 y36_0 a5 y37_0) fun (y38_0, y38_1) =>
                                                                              chk (plainV (V.tup [(V.fresh 0 (y38_0)), (V.int .i64 (y38_1))]))
                                                                                (bnd (s_laws_eqInt64S n y38_0 y7_0) fun y40_0 =>
                                                                                  cnd (y40_0)
                                                                                    (cnd (decide ((y38_1) = (y7_1)))
                                                                                      (bnd (s_laws_heldInt64S n y30_1 1) fun y43_0 =>
                                                                                        cnd (decide ((y43_0) < (0)))
                                                                                          (some (false))
                                                                                          (cnd (decide ((y43_0) = (y30_0)))
                                                                                            (some (true))
                                                                                            (some (false))))
                                                                                      (some (false)))
                                                                                    (some (false))))
                                                                      (some (false)))))
                                                            (some (false))))))
                                              (some (false)))
                                        (some (false)))
                                  (some (false)))
                                (some (false))))))
end Go.Proofs.Ytlnpblomnlppiaa
