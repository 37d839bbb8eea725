/- What functions of the program answer, in plain Lean: printed by gen.py out of the program. -/
import Derived.Test.YtdhcfdiggcgmhaaSh2
namespace Go.Proofs.Ytdhcfdiggcgmhaa
open Go
set_option linter.unusedVariables false
set_option linter.unusedSimpArgs false
def s_spec_l04Cell (n : Nat) (a0 : Int) (a1 : Int) (a2 : Int) (a3 : Nat → Int) (a4 : Int) : Option (Bool) :=
  bnd (s_spec_l01Cells n a0 a1 a2 a3) fun y1_0 =>
    bnd (s_spec_l00In n a4 0 (IntKind.i64.wrap ((y1_0) - (1)))) fun y2_0 =>
      some ((y2_0))
def s_spec_l04Reach (n : Nat) (a0 : Int) : Option (Bool) :=
  bnd (s_spec_l00In n a0 0 8) fun y1_0 =>
    some ((y1_0))
def s_spec_l04Can (n : Nat) (a0 : Int) (a1 : Int) (a2 : Int) (a3 : Nat → Int) (a4 : Int) (a5 : Int) (a6 : Int) (a7 : Int) : Option (Bool) :=
  bnd (s_spec_l01First n a0 a1 a2 a3 a6 a7) fun y1_0 =>
    bnd (s_spec_l00In n a4 (IntKind.i64.wrap ((y1_0) - (a5))) (IntKind.i64.wrap ((IntKind.i64.wrap ((y1_0) + (1))) + (a5)))) fun y2_0 =>
      some ((y2_0))
def l_spec_ReachFrom_b0 : Nat → (Int) → (Int) → (Int) → (Int) → (Int) → (Int) → (Nat → Int) → (List V) → (List V) →  Option (List V)
  | 0, _, _, _, _, _, _, _, _, _ => none
  | n + 1, a0, a1, a2, a3, a4, a5, a6, a7, a8 =>
    cnd (decide ((a2) < (((a8).length : Int))))
      (chk (inB (a2) (a8).length)
        (bnd (bnd (nth (a8) ((a2).toNat)) as_Pi8_i8Q) fun (e10_0, e10_1) =>
          bnd (s_spec_l04Can n a3 a4 a5 a6 a0 a1 e10_0 e10_1) fun y11_0 =>
            cnd (y11_0)
              (bnd (bnd (nth (a8) ((a2).toNat)) as_Pi8_i8Q) fun (e13_0, e13_1) =>
                chk (decide (((a7).length + ([(V.parts [(V.int .i8 (e13_0)), (V.int .i8 (e13_1))])]).length) * 2 ≤ 140737488355328))
                  (l_spec_ReachFrom_b0 n a0 a1 (IntKind.i64.wrap ((a2) + (1))) a3 a4 a5 a6 (a7 ++ ([(V.parts [(V.int .i8 (e13_0)), (V.int .i8 (e13_1))])])) a8))
              (l_spec_ReachFrom_b0 n a0 a1 (IntKind.i64.wrap ((a2) + (1))) a3 a4 a5 a6 a7 a8)))
      (some (a7))
def s_spec_ReachFrom (n : Nat) (a0 : Int) (a1 : Int) (a2 : Int) (a3 : Nat → Int) (a4 : Int) (a5 : Int) : Option (List V × Int) :=
  bnd (s_spec_l04Cell n a0 a1 a2 a3 a4) fun y1_0 =>
    cnd (y1_0)
      (bnd (s_spec_l04Reach n a5) fun y3_0 =>
        bnd (s_spec_l01Told n a0 a1 a2 a3 ((y3_0))) fun y4_0 =>
          cnd (decide ((y4_0) = (0)))
            (bnd (s_spec_l01All n a0 a1 a2 a3) fun y6_0 =>
              chk (plainV (V.fresh 0 (y6_0)))
                (bnd (l_spec_ReachFrom_b0 n a4 a5 0 a0 a1 a2 a3 ([]) y6_0) fun u15_0 =>
                  some ((u15_0, 0))))
            (some (([], y4_0))))
      (bnd (s_spec_l01Told n a0 a1 a2 a3 false) fun y17_0 =>
        cnd (decide ((y17_0) = (0)))
          (bnd (s_spec_l01All n a0 a1 a2 a3) fun y19_0 =>
            chk (plainV (V.fresh 0 (y19_0)))
              (bnd (l_spec_ReachFrom_b0 n a4 a5 0 a0 a1 a2 a3 ([]) y19_0) fun u21_0 =>
                some ((u21_0, 0))))
          (some (([], y17_0))))
def s_impl_Roof_isCellNumber (n : Nat) (a0 : Int) (a1 : Int) (a2 : Int) (a3 : Nat → Int) (a4 : Int) : Option (Bool) :=
  bnd (s_impl_Roof_cells n a0 a1 a2 a3) fun y1_0 =>
    bnd (s_impl_within_int64 n a4 0 (IntKind.i64.wrap ((y1_0) - (1)))) fun y2_0 =>
      some ((y2_0))
def s_impl_isReach (n : Nat) (a0 : Int) : Option (Bool) :=
  bnd (s_impl_within_int64 n a0 0 8) fun y1_0 =>
    some ((y1_0))
def s_impl_Roof_cellsOf (n : Nat) (a0 : Int) (a1 : Int) (a2 : Int) (a3 : Nat → Int) (a4 : Int) (a5 : Int) : Option (List V) :=
  bnd (s_impl_Roof_shift n a0 a1 a2 a3 (IntKind.i64.wrap (a4))) fun y1_0 =>
    some ([(V.int .i64 (IntKind.i64.wrap ((IntKind.i64.wrap ((2) * (IntKind.i64.wrap (a5)))) + (y1_0)))), (V.int .i64 (IntKind.i64.wrap ((IntKind.i64.wrap ((IntKind.i64.wrap ((2) * (IntKind.i64.wrap (a5)))) + (y1_0))) + (1))))])
def s_impl_Roof_reaches_1 (n : Nat) (a0 : Int) (a1 : Int) (a2 : Int) : Option (Bool) :=
  bnd (s_impl_within_int64 n a0 (IntKind.i64.wrap ((a1) - (a2))) (IntKind.i64.wrap ((a1) + (a2)))) fun y1_0 =>
    some ((y1_0))
def l_slices_IndexFunc_Sint_int__Roof_reaches_1_b0 : Nat → (List V) → (Int) → (Int) → (Int) → (Int) →  Option (Sum (Unit) (Int))
  | 0, _, _, _, _, _ => none
  | n + 1, a0, a1, a2, a3, a4 =>
    cnd (decide ((a4) < (a3)))
      (bnd (bnd (idx (a0) (a4)) as_i64) fun e2_0 =>
        bnd (s_impl_Roof_reaches_1 n e2_0 a1 a2) fun y3_0 =>
          cnd (y3_0)
            (some (.inr (a4)))
            (l_slices_IndexFunc_Sint_int__Roof_reaches_1_b0 n a0 a1 a2 a3 (IntKind.i64.wrap ((a4) + (1)))))
      (some (.inl (())))
def s_slices_IndexFunc_Sint_int__Roof_reaches_1 (n : Nat) (a0 : List V) (a1 : Int) (a2 : Int) : Option (Int) :=
  bnd (l_slices_IndexFunc_Sint_int__Roof_reaches_1_b0 n a0 a1 a2 (((a0).length : Int)) 0) fun w => match w with
    | .inl _ =>
      some (-1)
    | .inr u6_0 =>
      some (u6_0)
def s_slices_ContainsFunc_Sint_int__Roof_reaches_1 (n : Nat) (a0 : List V) (a1 : Int) (a2 : Int) : Option (Bool) :=
  bnd (s_slices_IndexFunc_Sint_int__Roof_reaches_1 n a0 a1 a2) fun y1_0 =>
    some ((decide ((0) ≤ (y1_0))))
def s_impl_Roof_reaches (n : Nat) (a0 : Int) (a1 : Int) (a2 : Int) (a3 : Nat → Int) (a4 : Int) (a5 : Int) (a6 : Int) (a7 : Int) : Option (Bool) :=
  bnd (s_impl_Roof_cellsOf n a0 a1 a2 a3 a6 a7) fun y1_0 =>
    bnd (s_slices_ContainsFunc_Sint_int__Roof_reaches_1 n y1_0 a4 a5) fun y2_0 =>
      some ((y2_0))
def s_impl_ReachFrom_1 (n : Nat) (a0 : Int) (a1 : Int) (a2 : Int) (a3 : Int) (a4 : Int) (a5 : Nat → Int) (a6 : Int) (a7 : Int) : Option (Bool) :=
  bnd (s_impl_Roof_reaches n a2 a3 a4 a5 a6 a7 a0 a1) fun y1_0 =>
    some ((y1_0))
def l_impl_Roof_places__ReachFrom_1_b2 : Nat → (Int) → (Int) → (Int) → (Nat → Int) → (Int) → (Int) → (Int) → (Int) → (Int) → (Int) → (Int) → (Int) → (Int) → (Int) → (Nat → Int) → (List V) →  Option (Int × Int × Int × (Nat → Int) × Int × Int × Int × Int × Int × Int × Int × (Nat → Int) × List V)
  | 0, _, _, _, _, _, _, _, _, _, _, _, _, _, _, _, _ => none
  | n + 1, a0, a1, a2, a3, a4, a5, a6, a7, a8, a9, a10, a11, a12, a13, a14, a15 =>
    cnd (decide ((a10) < (a9)))
      (bnd (s_impl_ReachFrom_1 n a6 a10 a0 a1 a2 a3 a4 a5) fun y3_0 =>
        cnd (y3_0)
          (chk (decide (((a15).length + ([(V.parts [(V.int .i8 (a6)), (V.int .i8 (a10))])]).length) * 2 ≤ 140737488355328))
            (l_impl_Roof_places__ReachFrom_1_b2 n a0 a1 a2 a3 a4 a5 a6 a7 a8 a9 (IntKind.i8.wrap ((a10) + (1))) a11 a12 a13 a14 (a15 ++ ([(V.parts [(V.int .i8 (a6)), (V.int .i8 (a10))])]))))
          (l_impl_Roof_places__ReachFrom_1_b2 n a0 a1 a2 a3 a4 a5 a6 a7 a8 a9 (IntKind.i8.wrap ((a10) + (1))) a11 a12 a13 a14 a15))
      (some ((a0, a1, a2, a3, a4, a5, a7, a8, a11, a12, a13, a14, a15)))
def l_impl_Roof_places__ReachFrom_1_b0 : Nat → (Int) → (Int) → (Int) → (Nat → Int) → (Int) → (Int) → (Int) → (Int) → (Int) → (Int) → (Int) → (Nat → Int) → (List V) →  Option (List V)
  | 0, _, _, _, _, _, _, _, _, _, _, _, _, _ => none
  | n + 1, a0, a1, a2, a3, a4, a5, a6, a7, a8, a9, a10, a11, a12 =>
    cnd (decide ((a7) < (a6)))
      (bnd (l_impl_Roof_places__ReachFrom_1_b2 n a0 a1 a2 a3 a4 a5 a7 a6 a7 a8 0 a8 a9 a10 a11 a12) fun (u6_0, u6_1, u6_2, u6_3, u6_4, u6_5, u6_6, u6_7, u6_8, u6_9, u6_10, u6_11, u6_12) =>
        l_impl_Roof_places__ReachFrom_1_b0 n u6_0 u6_1 u6_2 u6_3 u6_4 u6_5 u6_6 (IntKind.i8.wrap ((u6_7) + (1))) u6_8 u6_9 u6_10 u6_11 u6_12)
      (some (a12))
def s_impl_Roof_places__ReachFrom_1 (n : Nat) (a0 : Int) (a1 : Int) (a2 : Int) (a3 : Nat → Int) (a4 : Int) (a5 : Int) (a6 : Int) (a7 : Nat → Int) (a8 : Int) (a9 : Int) : Option (List V) :=
  bnd (l_impl_Roof_places__ReachFrom_1_b0 n a4 a5 a6 a7 a8 a9 a1 0 a0 a1 a2 a3 (([] : List V))) fun u8_0 =>
    some (u8_0)
def s_impl_ReachFrom (n : Nat) (a0 : Int) (a1 : Int) (a2 : Int) (a3 : Nat → Int) (a4 : Int) (a5 : Int) : Option (List V × Int) :=
  bnd (s_impl_Roof_isCellNumber n a0 a1 a2 a3 a4) fun y1_0 =>
    cnd (y1_0)
      (bnd (s_impl_isReach n a5) fun y3_0 =>
        bnd (s_impl_roofCode n a0 a1 a2 a3 ((y3_0))) fun y4_0 =>
          cnd (decide ((y4_0) = (0)))
            (bnd (s_impl_Roof_places__ReachFrom_1 n a0 a1 a2 a3 a0 a1 a2 a3 a4 a5) fun y6_0 =>
              chk (plainV (V.fresh 0 (y6_0)))
                (some ((y6_0, 0))))
            (some ((([] : List V), y4_0))))
      (bnd (s_impl_roofCode n a0 a1 a2 a3 false) fun y8_0 =>
        cnd (decide ((y8_0) = (0)))
          (bnd (s_impl_Roof_places__ReachFrom_1 n a0 a1 a2 a3 a0 a1 a2 a3 a4 a5) fun y10_0 =>
            chk (plainV (V.fresh 0 (y10_0)))
              (some ((y10_0, 0))))
          (some ((([] : List V), y8_0))))
def s_laws_FnExactReachFrom (n : Nat) (a0 : Int) (a1 : Int) (a2 : Int) (a3 : Nat → Int) (a4 : Int) (a5 : Int) : Option (Bool) :=
  bnd (s_laws_toRoof n a0 a1 a2 a3) fun (y1_0, y1_1, y1_2, y1_3) =>
    bnd (s_spec_ReachFrom n y1_0 y1_1 y1_2 y1_3 a4 a5) fun (y2_0, y2_1) =>
      bnd (s_laws_toRoof n a0 a1 a2 a3) fun (y3_0, y3_1, y3_2, y3_3) =>
        bnd (s_impl_ReachFrom n y3_0 y3_1 y3_2 y3_3 a4 a5) fun (y4_0, y4_1) =>
          bnd (s_laws_eqPlaceS n y4_0 y2_0) fun y5_0 =>
            cnd (y5_0)
              (cnd (decide ((y4_1) = (y2_1)))
                (bnd (s_laws_markPlaceS n y4_0 1) fun (y8_0, y8_1) =>
                  chk (likeRows (y4_0) (y8_1))
                    (bnd (s_laws_heldPlaceS n y8_1 1) fun y10_0 =>
                      cnd (decide ((y10_0) < (0)))
                        (some (false))
                        (cnd (decide ((y10_0) = (y8_0)))
                          (bnd (s_laws_toRoof n a0 a1 a2 a3) fun (y13_0, y13_1, y13_2, y13_3) =>
                            bnd (s_impl_ReachFrom n y13_0 y13_1 y13_2 y13_3 a4 a5) fun (y14_0, y14_1) =>
                              bnd (s_laws_eqPlaceS n y14_0 y2_0) fun y15_0 =>
                                cnd (y15_0)
                                  (cnd (decide ((y14_1) = (y2_1)))
                                    (bnd (s_laws_heldPlaceS n y8_1 1) fun y18_0 =>
                                      cnd (decide ((y18_0) < (0)))
                                        (some (false))
                                        (cnd (decide ((y18_0) = (y8_0)))
                                          (some (true))
                                          (some (false))))
                                    (some (false)))
                                  (some (false)))
                          (some (false)))))
                (some (false)))
              (some (false))
def l_laws_toInt64S_b0 : Nat → (List V) → (Int) → (List V) →  Option (List V)
  | 0, _, _, _ => none
  | n + 1, a0, a1, a2 =>
    cnd (decide ((a1) < (((a0).length : Int))))
      (bnd (bnd (idx (a0) (a1)) as_i64) fun e3_0 =>
        chk (inB (a1) (a2).length)
          (bnd (bnd (nth (a2) ((a1).toNat)) as_i64) fun e5_0 =>
            l_laws_toInt64S_b0 n a0 (IntKind.i64.wrap ((a1) + (1))) (setNth (a2) ((a1).toNat) (V.int .i64 (e3_0)))))
      (some (a2))
def s_laws_toInt64S (n : Nat) (a0 : List V) : Option (List V) :=
  chk (decide (((a0).length : Int) = ((a0).length : Int)) && decide (0 ≤ ((a0).length : Int)) && decide ((((a0).length : Int)).toNat * 8 ≤ 140737488355328))
    (bnd (l_laws_toInt64S_b0 n a0 0 (List.replicate (((a0).length : Int)).toNat (V.int .i64 (0)))) fun u6_0 =>
      some (u6_0))
def l_spec_l04Asked_b0 : Nat → (Int) → (Int) → (Int) → (Nat → Int) → (List V) → (List V) → (Bool) → (Int) →  Option (Int × Int × Int × (Nat → Int) × List V × List V × Bool)
  | 0, _, _, _, _, _, _, _, _ => none
  | n + 1, a0, a1, a2, a3, a4, a5, a6, a7 =>
    cnd (decide ((a7) < (((a4).length : Int))))
      (cnd (a6)
        (bnd (bnd (idx (a4) (a7)) as_i64) fun e3_0 =>
          bnd (s_spec_l04Cell n a0 a1 a2 a3 e3_0) fun y4_0 =>
            l_spec_l04Asked_b0 n a0 a1 a2 a3 a4 a5 ((y4_0)) (IntKind.i64.wrap ((a7) + (1))))
        (l_spec_l04Asked_b0 n a0 a1 a2 a3 a4 a5 false (IntKind.i64.wrap ((a7) + (1)))))
      (some ((a0, a1, a2, a3, a4, a5, (a6))))
def l_spec_l04Asked_b2 : Nat → (Int) → (Int) → (Int) → (Nat → Int) → (List V) → (List V) → (Bool) → (Int) →  Option (Int × Int × Int × (Nat → Int) × List V × List V × Bool)
  | 0, _, _, _, _, _, _, _, _ => none
  | n + 1, a0, a1, a2, a3, a4, a5, a6, a7 =>
    cnd (decide ((a7) < (((a5).length : Int))))
      (cnd (a6)
        (bnd (bnd (idx (a5) (a7)) as_Pi8_i8Q) fun (e9_0, e9_1) =>
          bnd (s_spec_l01Is n a0 a1 a2 a3 e9_0 e9_1) fun y10_0 =>
            l_spec_l04Asked_b2 n a0 a1 a2 a3 a4 a5 ((y10_0)) (IntKind.i64.wrap ((a7) + (1))))
        (l_spec_l04Asked_b2 n a0 a1 a2 a3 a4 a5 false (IntKind.i64.wrap ((a7) + (1)))))
      (some ((a0, a1, a2, a3, a4, a5, (a6))))
def s_spec_l04Asked (n : Nat) (a0 : Int) (a1 : Int) (a2 : Int) (a3 : Nat → Int) (a4 : List V) (a5 : List V) (a6 : Bool) : Option (Int) :=
  bnd (l_spec_l04Asked_b0 n a0 a1 a2 a3 a4 a5 ((a6)) 0) fun (u5_0, u5_1, u5_2, u5_3, u5_4, u5_5, u5_6) =>
    bnd (l_spec_l04Asked_b2 n u5_0 u5_1 u5_2 u5_3 u5_4 u5_5 ((u5_6)) 0) fun (u11_0, u11_1, u11_2, u11_3, u11_4, u11_5, u11_6) =>
      bnd (s_spec_l01Told n u11_0 u11_1 u11_2 u11_3 ((u11_6))) fun y13_0 =>
        cnd (decide ((y13_0) = (0)))
          (cnd (decide ((8) < (((u11_4).length : Int))))
            (some (3))
            (cnd (decide ((8) < (((u11_5).length : Int))))
              (some (3))
              (some (y13_0))))
          (some (y13_0))
def s_spec_l00Max (n : Nat) (a0 : Int) (a1 : Int) : Option (Int) :=
  cnd (decide ((a1) < (a0)))
    (some (a0))
    (some (a1))
def s_spec_l04Far (n : Nat) (a0 : Int) (a1 : Int) : Option (Int) :=
  bnd (s_spec_l00Max n (IntKind.i64.wrap ((a0) - (a1))) (IntKind.i64.wrap ((a1) - (a0)))) fun y1_0 =>
    some (y1_0)
def l_spec_WalkFor_b0 : Nat → (List V) → (Int) → (Int) → (Int) →  Option (Int)
  | 0, _, _, _, _ => none
  | n + 1, a0, a1, a2, a3 =>
    cnd (decide ((a3) < (((a0).length : Int))))
      (bnd (bnd (idx (a0) (a3)) as_i64) fun e5_0 =>
        bnd (s_spec_l04Far n a1 e5_0) fun y6_0 =>
          bnd (bnd (idx (a0) (a3)) as_i64) fun e7_0 =>
            l_spec_WalkFor_b0 n a0 e7_0 (IntKind.i64.wrap ((a2) + (y6_0))) (IntKind.i64.wrap ((a3) + (1))))
      (some (a2))
def s_spec_WalkFor (n : Nat) (a0 : Int) (a1 : Int) (a2 : Int) (a3 : Nat → Int) (a4 : List V) (a5 : Int) : Option (Int × Int) :=
  bnd (s_spec_l04Cell n a0 a1 a2 a3 a5) fun y1_0 =>
    bnd (s_spec_l04Asked n a0 a1 a2 a3 a4 ([]) ((y1_0))) fun y2_0 =>
      cnd (decide ((y2_0) = (0)))
        (bnd (l_spec_WalkFor_b0 n a4 a5 0 0) fun u8_0 =>
          some ((u8_0, 0)))
        (some ((0, y2_0)))
def s_impl_areAll_int64_1__Roof_isCellNumber (n : Nat) (a0 : Int) (a1 : Int) (a2 : Int) (a3 : Int) (a4 : Nat → Int) : Option (Bool) :=
  bnd (s_impl_Roof_isCellNumber n a1 a2 a3 a4 a0) fun y1_0 =>
    some ((!(y1_0)))
def l_slices_IndexFunc_Sint64_int64__areAll_int64_1__Roof_isCellNumber_b0 : Nat → (List V) → (Int) → (Int) → (Int) → (Nat → Int) → (Int) → (Int) →  Option (Sum (Unit) (Int))
  | 0, _, _, _, _, _, _, _ => none
  | n + 1, a0, a1, a2, a3, a4, a5, a6 =>
    cnd (decide ((a6) < (a5)))
      (bnd (bnd (idx (a0) (a6)) as_i64) fun e2_0 =>
        bnd (s_impl_areAll_int64_1__Roof_isCellNumber n e2_0 a1 a2 a3 a4) fun y3_0 =>
          cnd (y3_0)
            (some (.inr (a6)))
            (l_slices_IndexFunc_Sint64_int64__areAll_int64_1__Roof_isCellNumber_b0 n a0 a1 a2 a3 a4 a5 (IntKind.i64.wrap ((a6) + (1)))))
      (some (.inl (())))
def s_slices_IndexFunc_Sint64_int64__areAll_int64_1__Roof_isCellNumber (n : Nat) (a0 : List V) (a1 : Int) (a2 : Int) (a3 : Int) (a4 : Nat → Int) : Option (Int) :=
  bnd (l_slices_IndexFunc_Sint64_int64__areAll_int64_1__Roof_isCellNumber_b0 n a0 a1 a2 a3 a4 (((a0).length : Int)) 0) fun w => match w with
    | .inl _ =>
      some (-1)
    | .inr u6_0 =>
      some (u6_0)
def s_slices_ContainsFunc_Sint64_int64__areAll_int64_1__Roof_isCellNumber (n : Nat) (a0 : List V) (a1 : Int) (a2 : Int) (a3 : Int) (a4 : Nat → Int) : Option (Bool) :=
  bnd (s_slices_IndexFunc_Sint64_int64__areAll_int64_1__Roof_isCellNumber n a0 a1 a2 a3 a4) fun y1_0 =>
    some ((decide ((0) ≤ (y1_0))))
def s_impl_areAll_int64__Roof_isCellNumber (n : Nat) (a0 : List V) (a1 : Int) (a2 : Int) (a3 : Int) (a4 : Nat → Int) : Option (Bool) :=
  bnd (s_slices_ContainsFunc_Sint64_int64__areAll_int64_1__Roof_isCellNumber n a0 a1 a2 a3 a4) fun y1_0 =>
    some ((!(y1_0)))
def s_impl_jobCode_1 (n : Nat) (a0 : Int) : Option (Bool) :=
  some ((decide ((a0) ≤ (8))))
def s_impl_areAll_int_1__jobCode_1 (n : Nat) (a0 : Int) : Option (Bool) :=
  bnd (s_impl_jobCode_1 n a0) fun y1_0 =>
    some ((!(y1_0)))
def l_slices_IndexFunc_Sint_int__areAll_int_1__jobCode_1_b0 : Nat → (List V) → (Int) → (Int) →  Option (Sum (Unit) (Int))
  | 0, _, _, _ => none
  | n + 1, a0, a1, a2 =>
    cnd (decide ((a2) < (a1)))
      (bnd (bnd (idx (a0) (a2)) as_i64) fun e2_0 =>
        bnd (s_impl_areAll_int_1__jobCode_1 n e2_0) fun y3_0 =>
          cnd (y3_0)
            (some (.inr (a2)))
            (l_slices_IndexFunc_Sint_int__areAll_int_1__jobCode_1_b0 n a0 a1 (IntKind.i64.wrap ((a2) + (1)))))
      (some (.inl (())))
def s_slices_IndexFunc_Sint_int__areAll_int_1__jobCode_1 (n : Nat) (a0 : List V) : Option (Int) :=
  bnd (l_slices_IndexFunc_Sint_int__areAll_int_1__jobCode_1_b0 n a0 (((a0).length : Int)) 0) fun w => match w with
    | .inl _ =>
      some (-1)
    | .inr u6_0 =>
      some (u6_0)
def s_slices_ContainsFunc_Sint_int__areAll_int_1__jobCode_1 (n : Nat) (a0 : List V) : Option (Bool) :=
  bnd (s_slices_IndexFunc_Sint_int__areAll_int_1__jobCode_1 n a0) fun y1_0 =>
    some ((decide ((0) ≤ (y1_0))))
def s_impl_areAll_int__jobCode_1 (n : Nat) (a0 : List V) : Option (Bool) :=
  bnd (s_slices_ContainsFunc_Sint_int__areAll_int_1__jobCode_1 n a0) fun y1_0 =>
    some ((!(y1_0)))
def s_impl_jobCode (n : Nat) (a0 : Int) (a1 : Int) (a2 : Int) (a3 : Nat → Int) (a4 : Bool) (a5 : List V) : Option (Int) :=
  bnd (s_impl_roofCode n a0 a1 a2 a3 ((a4))) fun y1_0 =>
    cnd (decide ((y1_0) = (0)))
      (bnd (s_impl_areAll_int__jobCode_1 n a5) fun y3_0 =>
        cnd (y3_0)
          (some (y1_0))
          (some (3)))
      (some (y1_0))
def s_impl_walkCode (n : Nat) (a0 : Int) (a1 : Int) (a2 : Int) (a3 : Nat → Int) (a4 : List V) (a5 : Int) : Option (Int) :=
  bnd (s_impl_areAll_int64__Roof_isCellNumber n a4 a0 a1 a2 a3) fun y1_0 =>
    cnd (y1_0)
      (bnd (s_impl_Roof_isCellNumber n a0 a1 a2 a3 a5) fun y3_0 =>
        bnd (s_impl_jobCode n a0 a1 a2 a3 ((y3_0)) ([(V.int .i64 (((a4).length : Int)))])) fun y4_0 =>
          some (y4_0))
      (bnd (s_impl_jobCode n a0 a1 a2 a3 false ([(V.int .i64 (((a4).length : Int)))])) fun y5_0 =>
        some (y5_0))
def l_impl_walk_b0 : Nat → (Int) → (Int) → (List V) → (Int) → (Int) →  Option (Int)
  | 0, _, _, _, _, _ => none
  | n + 1, a0, a1, a2, a3, a4 =>
    cnd (decide ((a4) < (a3)))
      (bnd (bnd (idx (a2) (a4)) as_i64) fun e2_0 =>
        l_impl_walk_b0 n e2_0 (IntKind.i64.wrap ((a1) + (maxI (IntKind.i64.wrap ((e2_0) - (a0))) (IntKind.i64.wrap ((a0) - (e2_0)))))) a2 a3 (IntKind.i64.wrap ((a4) + (1))))
      (some (a1))
def s_impl_walk (n : Nat) (a0 : List V) (a1 : Int) : Option (Int) :=
  bnd (l_impl_walk_b0 n a1 0 a0 (((a0).length : Int)) 0) fun u3_0 =>
    some (u3_0)
def s_impl_WalkFor (n : Nat) (a0 : Int) (a1 : Int) (a2 : Int) (a3 : Nat → Int) (a4 : List V) (a5 : Int) : Option (Int × Int) :=
  bnd (s_impl_walkCode n a0 a1 a2 a3 a4 a5) fun y1_0 =>
    cnd (decide ((y1_0) = (0)))
      (bnd (s_impl_walk n a4 a5) fun y3_0 =>
        some ((y3_0, 0)))
      (some ((0, y1_0)))
def s_laws_FnExactWalkFor (n : Nat) (a0 : Int) (a1 : Int) (a2 : Int) (a3 : Nat → Int) (a4 : List V) (a5 : Int) : Option (Bool) :=
  cnd (decide ((1048576) < (((a4).length : Int))))
    (some (true))
    (bnd (s_laws_toRoof n a0 a1 a2 a3) fun (y2_0, y2_1, y2_2, y2_3) =>
      bnd (s_laws_toInt64S n a4) fun y3_0 =>
        bnd (s_spec_WalkFor n y2_0 y2_1 y2_2 y2_3 y3_0 a5) fun (y4_0, y4_1) =>
          bnd (s_laws_toInt64S n a4) fun y5_0 =>
            bnd (s_laws_toRoof n a0 a1 a2 a3) fun (y6_0, y6_1, y6_2, y6_3) =>
              bnd (s_impl_WalkFor n y6_0 y6_1 y6_2 y6_3 y5_0 a5) fun (y7_0, y7_1) =>
                cnd (decide ((y7_0) = (y4_0)))
                  (cnd (decide ((y7_1) = (y4_1)))
                    (bnd (s_laws_toInt64S n a4) fun y10_0 =>
                      bnd (s_laws_eqInt64S n y5_0 y10_0) fun y11_0 =>
                        cnd (y11_0)
                          (some (true))
                          (some (false)))
                    (some (false)))
                  (some (false)))
def l_spec_l04First_b0 : Nat → (Int) → (Int) → (Int) → (Nat → Int) → (List V) → (Int) → (Int) → (Int) → (Int) →  Option (Sum (Unit) (Int))
  | 0, _, _, _, _, _, _, _, _, _ => none
  | n + 1, a0, a1, a2, a3, a4, a5, a6, a7, a8 =>
    cnd (decide ((a6) < (((a4).length : Int))))
      (bnd (bnd (idx (a4) (a6)) as_i64) fun e2_0 =>
        bnd (s_spec_l04Can n a0 a1 a2 a3 e2_0 a5 a7 a8) fun y3_0 =>
          cnd (y3_0)
            (some (.inr (a6)))
            (l_spec_l04First_b0 n a0 a1 a2 a3 a4 a5 (IntKind.i64.wrap ((a6) + (1))) a7 a8))
      (some (.inl (())))
def s_spec_l04First (n : Nat) (a0 : Int) (a1 : Int) (a2 : Int) (a3 : Nat → Int) (a4 : List V) (a5 : Int) (a6 : Int) (a7 : Int) : Option (Int) :=
  bnd (l_spec_l04First_b0 n a0 a1 a2 a3 a4 a5 0 a6 a7) fun w => match w with
    | .inl _ =>
      some (-1)
    | .inr u6_0 =>
      some (u6_0)
def l_spec_l04All_b0 : Nat → (Int) → (Int) → (Int) → (Nat → Int) → (List V) → (Int) → (List V) → (Int) →  Option (Sum (Unit) (Bool))
  | 0, _, _, _, _, _, _, _, _ => none
  | n + 1, a0, a1, a2, a3, a4, a5, a6, a7 =>
    cnd (decide ((a7) < (((a6).length : Int))))
      (bnd (bnd (idx (a6) (a7)) as_Pi8_i8Q) fun (e2_0, e2_1) =>
        bnd (s_spec_l04First n a0 a1 a2 a3 a4 a5 e2_0 e2_1) fun y3_0 =>
          cnd (decide ((y3_0) < (0)))
            (some (.inr (false)))
            (l_spec_l04All_b0 n a0 a1 a2 a3 a4 a5 a6 (IntKind.i64.wrap ((a7) + (1)))))
      (some (.inl (())))
def s_spec_l04All (n : Nat) (a0 : Int) (a1 : Int) (a2 : Int) (a3 : Nat → Int) (a4 : List V) (a5 : Int) (a6 : List V) : Option (Bool) :=
  bnd (l_spec_l04All_b0 n a0 a1 a2 a3 a4 a5 a6 0) fun w => match w with
    | .inl _ =>
      some (true)
    | .inr u6_0 =>
      some ((u6_0))
def s_spec_CanReach (n : Nat) (a0 : Int) (a1 : Int) (a2 : Int) (a3 : Nat → Int) (a4 : List V) (a5 : Int) (a6 : List V) : Option (Bool × Int) :=
  bnd (s_spec_l04Reach n a5) fun y1_0 =>
    bnd (s_spec_l04Asked n a0 a1 a2 a3 a4 a6 ((y1_0))) fun y2_0 =>
      cnd (decide ((y2_0) = (0)))
        (bnd (s_spec_l04All n a0 a1 a2 a3 a4 a5 a6) fun y4_0 =>
          some (((y4_0), 0)))
        (some ((false, y2_0)))
def s_impl_ladderCode (n : Nat) (a0 : Int) (a1 : Int) (a2 : Int) (a3 : Nat → Int) (a4 : List V) (a5 : Int) (a6 : List V) : Option (Int) :=
  bnd (s_impl_areAll_int64__Roof_isCellNumber n a4 a0 a1 a2 a3) fun y1_0 =>
    cnd (y1_0)
      (bnd (s_impl_isReach n a5) fun y3_0 =>
        cnd (y3_0)
          (bnd (s_impl_areAll_impl_Place__Roof_has n a6 a0 a1 a2 a3) fun y5_0 =>
            bnd (s_impl_jobCode n a0 a1 a2 a3 ((y5_0)) ([(V.int .i64 (((a4).length : Int))), (V.int .i64 (((a6).length : Int)))])) fun y6_0 =>
              some (y6_0))
          (bnd (s_impl_jobCode n a0 a1 a2 a3 false ([(V.int .i64 (((a4).length : Int))), (V.int .i64 (((a6).length : Int)))])) fun y7_0 =>
            some (y7_0)))
      (bnd (s_impl_jobCode n a0 a1 a2 a3 false ([(V.int .i64 (((a4).length : Int))), (V.int .i64 (((a6).length : Int)))])) fun y8_0 =>
        some (y8_0))
def l_impl_Roof_ladderOf_b0 : Nat → (List V) → (Int) → (List V) → (Int) → (Int) → (Int) → (Int) → (Int) → (Nat → Int) → (Int) → (Int) →  Option (Sum (List V) (Int))
  | 0, _, _, _, _, _, _, _, _, _, _, _ => none
  | n + 1, a0, a1, a2, a3, a4, a5, a6, a7, a8, a9, a10 =>
    cnd (decide ((a4) < (a3)))
      (bnd (bnd (idx (a2) (a4)) as_i64) fun e2_0 =>
        bnd (s_impl_Roof_reaches n a5 a6 a7 a8 e2_0 a1 a9 a10) fun y3_0 =>
          cnd (y3_0)
            (some (.inr (a4)))
            (l_impl_Roof_ladderOf_b0 n a0 a1 a2 a3 (IntKind.i64.wrap ((a4) + (1))) a5 a6 a7 a8 a9 a10))
      (some (.inl (a0)))
def s_impl_Roof_ladderOf (n : Nat) (a0 : Int) (a1 : Int) (a2 : Int) (a3 : Nat → Int) (a4 : List V) (a5 : Int) (a6 : Int) (a7 : Int) : Option (Int) :=
  bnd (l_impl_Roof_ladderOf_b0 n a4 a5 a4 (((a4).length : Int)) 0 a0 a1 a2 a3 a6 a7) fun w => match w with
    | .inl u5_0 =>
      some (((u5_0).length : Int))
    | .inr u6_0 =>
      some (u6_0)
def s_impl_Roof_areReached_1 (n : Nat) (a0 : Int) (a1 : Int) (a2 : Int) (a3 : Int) (a4 : Int) (a5 : Nat → Int) (a6 : List V) (a7 : Int) : Option (Bool) :=
  bnd (s_impl_Roof_ladderOf n a2 a3 a4 a5 a6 a7 a0 a1) fun y1_0 =>
    some ((decide ((y1_0) < (((a6).length : Int)))))
def s_impl_areAll_impl_Place_1__Roof_areReached_1 (n : Nat) (a0 : Int) (a1 : Int) (a2 : Int) (a3 : Int) (a4 : Int) (a5 : Nat → Int) (a6 : List V) (a7 : Int) : Option (Bool) :=
  bnd (s_impl_Roof_areReached_1 n a0 a1 a2 a3 a4 a5 a6 a7) fun y1_0 =>
    some ((!(y1_0)))
def l_slices_IndexFunc_Simpl_Place_impl_Place__areAll_Place_1__Roof_areReached_1_b0 : Nat → (List V) → (Int) → (Int) → (Int) → (Nat → Int) → (List V) → (Int) → (Int) → (Int) →  Option (Sum (Unit) (Int))
  | 0, _, _, _, _, _, _, _, _, _ => none
  | n + 1, a0, a1, a2, a3, a4, a5, a6, a7, a8 =>
    cnd (decide ((a8) < (a7)))
      (bnd (bnd (idx (a0) (a8)) as_Pi8_i8Q) fun (e2_0, e2_1) =>
        bnd (s_impl_areAll_impl_Place_1__Roof_areReached_1 n e2_0 e2_1 a1 a2 a3 a4 a5 a6) fun y3_0 =>
          cnd (y3_0)
            (some (.inr (a8)))
            (l_slices_IndexFunc_Simpl_Place_impl_Place__areAll_Place_1__Roof_areReached_1_b0 n a0 a1 a2 a3 a4 a5 a6 a7 (IntKind.i64.wrap ((a8) + (1)))))
      (some (.inl (())))
def s_slices_IndexFunc_Simpl_Place_impl_Place__areAll_Place_1__Roof_areReached_1 (n : Nat) (a0 : List V) (a1 : Int) (a2 : Int) (a3 : Int) (a4 : Nat → Int) (a5 : List V) (a6 : Int) : Option (Int) :=
  bnd (l_slices_IndexFunc_Simpl_Place_impl_Place__areAll_Place_1__Roof_areReached_1_b0 n a0 a1 a2 a3 a4 a5 a6 (((a0).length : Int)) 0) fun w => match w with
    | .inl _ =>
      some (-1)
    | .inr u6_0 =>
      some (u6_0)
def s_slices_ContainsFunc_Simpl_Place_impl_Place__areAll_Place_1__Roof_areReached_1 (n : Nat) (a0 : List V) (a1 : Int) (a2 : Int) (a3 : Int) (a4 : Nat → Int) (a5 : List V) (a6 : Int) : Option (Bool) :=
  bnd (s_slices_IndexFunc_Simpl_Place_impl_Place__areAll_Place_1__Roof_areReached_1 n a0 a1 a2 a3 a4 a5 a6) fun y1_0 =>
    some ((decide ((0) ≤ (y1_0))))
def s_impl_areAll_impl_Place__Roof_areReached_1 (n : Nat) (a0 : List V) (a1 : Int) (a2 : Int) (a3 : Int) (a4 : Nat → Int) (a5 : List V) (a6 : Int) : Option (Bool) :=
  bnd (s_slices_ContainsFunc_Simpl_Place_impl_Place__areAll_Place_1__Roof_areReached_1 n a0 a1 a2 a3 a4 a5 a6) fun y1_0 =>
    some ((!(y1_0)))
def s_impl_Roof_areReached (n : Nat) (a0 : Int) (a1 : Int) (a2 : Int) (a3 : Nat → Int) (a4 : List V) (a5 : Int) (a6 : List V) : Option (Bool) :=
  bnd (s_impl_areAll_impl_Place__Roof_areReached_1 n a6 a0 a1 a2 a3 a4 a5) fun y1_0 =>
    some ((y1_0))
def s_impl_CanReach (n : Nat) (a0 : Int) (a1 : Int) (a2 : Int) (a3 : Nat → Int) (a4 : List V) (a5 : Int) (a6 : List V) : Option (Bool × Int) :=
  bnd (s_impl_ladderCode n a0 a1 a2 a3 a4 a5 a6) fun y1_0 =>
    cnd (decide ((y1_0) = (0)))
      (bnd (s_impl_Roof_areReached n a0 a1 a2 a3 a4 a5 a6) fun y3_0 =>
        some (((y3_0), 0)))
      (some ((false, y1_0)))
def s_laws_FnExactCanReach (n : Nat) (a0 : Int) (a1 : Int) (a2 : Int) (a3 : Nat → Int) (a4 : List V) (a5 : Int) (a6 : List V) : Option (Bool) :=
  cnd (decide ((1048576) < (((a4).length : Int))))
    (some (true))
    (bnd (s_laws_szPlaceS n a6 1048576) fun y2_0 =>
      cnd (decide ((y2_0) < (0)))
        (some (true))
        (bnd (s_laws_toRoof n a0 a1 a2 a3) fun (y4_0, y4_1, y4_2, y4_3) =>
          bnd (s_laws_toInt64S n a4) fun y5_0 =>
            bnd (s_laws_toPlaceS n a6) fun y6_0 =>
              bnd (s_spec_CanReach n y4_0 y4_1 y4_2 y4_3 y5_0 a5 y6_0) fun (y7_0, y7_1) =>
                bnd (s_laws_toInt64S n a4) fun y8_0 =>
                  bnd (s_laws_toPlaceS n a6) fun y9_0 =>
                    bnd (s_laws_toRoof n a0 a1 a2 a3) fun (y10_0, y10_1, y10_2, y10_3) =>
                      bnd (s_impl_CanReach n y10_0 y10_1 y10_2 y10_3 y8_0 a5 y9_0) fun (y11_0, y11_1) =>
                        cnd ((y11_0) == (y7_0))
                          (cnd (decide ((y11_1) = (y7_1)))
                            (bnd (s_laws_toInt64S n a4) fun y14_0 =>
                              bnd (s_laws_eqInt64S n y8_0 y14_0) fun y15_0 =>
                                cnd (y15_0)
                                  (bnd (s_laws_toPlaceS n a6) fun y17_0 =>
                                    bnd (s_laws_eqPlaceS n y9_0 y17_0) fun y18_0 =>
                                      cnd (y18_0)
                                        (some (true))
                                        (some (false)))
                                  (some (false)))
                            (some (false)))
                          (some (false))))
def l_spec_LadderFor_b0 : Nat → (List V) → (Int) → (List V) → (Int) → (Int) → (Int) → (Int) → (Nat → Int) → (List V) →  Option (Sum (List V) (Int × List V))
  | 0, _, _, _, _, _, _, _, _, _ => none
  | n + 1, a0, a1, a2, a3, a4, a5, a6, a7, a8 =>
    cnd (decide ((a3) < (((a2).length : Int))))
      (bnd (bnd (idx (a2) (a3)) as_Pi8_i8Q) fun (e5_0, e5_1) =>
        bnd (s_spec_l04First n a4 a5 a6 a7 a0 a1 e5_0 e5_1) fun y6_0 =>
          cnd (decide ((y6_0) < (0)))
            (some (.inr ((6, []))))
            (chk (decide (((a8).length + ([(V.int .i64 (y6_0))]).length) * 8 ≤ 140737488355328))
              (l_spec_LadderFor_b0 n a0 a1 a2 (IntKind.i64.wrap ((a3) + (1))) a4 a5 a6 a7 (a8 ++ ([(V.int .i64 (y6_0))])))))
      (some (.inl (a8)))
def s_spec_LadderFor (n : Nat) (a0 : Int) (a1 : Int) (a2 : Int) (a3 : Nat → Int) (a4 : List V) (a5 : Int) (a6 : List V) : Option (List V × Int) :=
  bnd (s_spec_l04Reach n a5) fun y1_0 =>
    bnd (s_spec_l04Asked n a0 a1 a2 a3 a4 a6 ((y1_0))) fun y2_0 =>
      cnd (decide ((y2_0) = (0)))
        (bnd (l_spec_LadderFor_b0 n a4 a5 a6 0 a0 a1 a2 a3 ([])) fun w => match w with
          | .inl u9_0 =>
            some ((u9_0, 0))
          | .inr (u10_0, u10_1) =>
            some ((u10_1, u10_0)))
        (some (([], y2_0)))
def s_impl_LadderFor_1 (n : Nat) (a0 : Int) (a1 : Int) (a2 : Int) (a3 : Int) (a4 : Int) (a5 : Nat → Int) (a6 : List V) (a7 : Int) : Option (Int) :=
  bnd (s_impl_Roof_ladderOf n a2 a3 a4 a5 a6 a7 a0 a1) fun y1_0 =>
    some (y1_0)
def l_impl_each_impl_Place_int64__LadderFor_1_b0 : Nat → (Int) → (Int) → (Int) → (Nat → Int) → (List V) → (Int) → (List V) → (Int) → (Int) → (List V) →  Option (List V)
  | 0, _, _, _, _, _, _, _, _, _, _ => none
  | n + 1, a0, a1, a2, a3, a4, a5, a6, a7, a8, a9 =>
    cnd (decide ((a8) < (a7)))
      (bnd (bnd (idx (a6) (a8)) as_Pi8_i8Q) fun (e2_0, e2_1) =>
        bnd (s_impl_LadderFor_1 n e2_0 e2_1 a0 a1 a2 a3 a4 a5) fun y3_0 =>
          chk (decide (((a9).length + ([(V.int .i64 (y3_0))]).length) * 8 ≤ 140737488355328))
            (l_impl_each_impl_Place_int64__LadderFor_1_b0 n a0 a1 a2 a3 a4 a5 a6 a7 (IntKind.i64.wrap ((a8) + (1))) (a9 ++ ([(V.int .i64 (y3_0))]))))
      (some (a9))
def s_impl_each_impl_Place_int64__LadderFor_1 (n : Nat) (a0 : List V) (a1 : Int) (a2 : Int) (a3 : Int) (a4 : Nat → Int) (a5 : List V) (a6 : Int) : Option (List V) :=
  bnd (l_impl_each_impl_Place_int64__LadderFor_1_b0 n a1 a2 a3 a4 a5 a6 a0 (((a0).length : Int)) 0 (([] : List V))) fun u5_0 =>
    some (u5_0)
def s_impl_LadderFor (n : Nat) (a0 : Int) (a1 : Int) (a2 : Int) (a3 : Nat → Int) (a4 : List V) (a5 : Int) (a6 : List V) : Option (List V × Int) :=
  bnd (s_impl_ladderCode n a0 a1 a2 a3 a4 a5 a6) fun y1_0 =>
    cnd (decide ((y1_0) = (0)))
      (bnd (s_impl_Roof_areReached n a0 a1 a2 a3 a4 a5 a6) fun y3_0 =>
        cnd (y3_0)
          (bnd (s_impl_each_impl_Place_int64__LadderFor_1 n a6 a0 a1 a2 a3 a4 a5) fun y5_0 =>
            chk (plainV (V.fresh 0 (y5_0)))
              (some ((y5_0, 0))))
          (some ((([] : List V), 6))))
      (some ((([] : List V), y1_0)))
def s_laws_FnExactLadderFor (n : Nat) (a0 : Int) (a1 : Int) (a2 : Int) (a3 : Nat → Int) (a4 : List V) (a5 : Int) (a6 : List V) : Option (Bool) :=
  cnd (decide ((1048576) < (((a4).length : Int))))
    (some (true))
    (bnd (s_laws_szPlaceS n a6 1048576) fun y2_0 =>
      cnd (decide ((y2_0) < (0)))
        (some (true))
        (bnd (s_laws_toRoof n a0 a1 a2 a3) fun (y4_0, y4_1, y4_2, y4_3) =>
          bnd (s_laws_toInt64S n a4) fun y5_0 =>
            bnd (s_laws_toPlaceS n a6) fun y6_0 =>
              bnd (s_spec_LadderFor n y4_0 y4_1 y4_2 y4_3 y5_0 a5 y6_0) fun (y7_0, y7_1) =>
                chk (plainV (V.tup [(V.fresh 0 (y7_0)), (V.int .i64 (y7_1))]))
                  (bnd (s_laws_toInt64S n a4) fun y9_0 =>
                    bnd (s_laws_toPlaceS n a6) fun y10_0 =>
                      bnd (s_laws_toRoof n a0 a1 a2 a3) fun (y11_0, y11_1, y11_2, y11_3) =>
                        bnd (s_impl_LadderFor n y11_0 y11_1 y11_2 y11_3 y9_0 a5 y10_0) fun (y12_0, y12_1) =>
                          chk (plainV (V.tup [(V.fresh 0 (y12_0)), (V.int .i64 (y12_1))]))
                            (bnd (s_laws_eqInt64S n y12_0 y7_0) fun y14_0 =>
                              cnd (y14_0)
                                (cnd (decide ((y12_1) = (y7_1)))
                                  (bnd (s_laws_toInt64S n a4) fun y17_0 =>
                                    bnd (s_laws_eqInt64S n y9_0 y17_0) fun y18_0 =>
                                      cnd (y18_0)
                                        (bnd (s_laws_toPlaceS n a6) fun y20_0 =>
                                          bnd (s_laws_eqPlaceS n y10_0 y20_0) fun y21_0 =>
                                            cnd (y21_0)
                                              (bnd (s_laws_markInt64S n y9_0 1) fun (y23_0, y23_1) =>
                                                chk (likeRows (y9_0) (y23_1))
                                                  (bnd (s_laws_markPlaceS n y10_0 y23_0) fun (y25_0, y25_1) =>
                                                    chk (likeRows (y10_0) (y25_1))
                                                      (cnd (decide ((y25_0) < (0)))
                                                        (some (false))
                                                        (bnd (s_laws_eqInt64S n y12_0 y7_0) fun y28_0 =>
                                                          cnd (y28_0)
                                                            (bnd (s_laws_markInt64S n y12_0 1) fun (y30_0, y30_1) =>
                                                              chk (likeRows (y12_0) (y30_1))
                                                                (bnd (s_laws_heldInt64S n y30_1 1) fun y32_0 =>
                                                                  cnd (decide ((y32_0) < (0)))
                                                                    (some (false))
                                                                    (cnd (decide ((y32_0) = (y30_0)))
                                                                      (bnd (s_laws_toRoof n a0 a1 a2 a3) fun (y35_0, y35_1, y35_2, y35_3) =>
                                                                        bnd (s_laws_toInt64S n a4) fun y36_0 =>
                                                                          bnd (s_laws_toPlaceS n a6) fun y37_0 =>
                                                                            bnd (s_impl_LadderFor n y35_0 y35_1 y35_2 y35_3 y36_0 a5 y37_0) fun (y38_0, y38_1) =>
                                                                              chk (plainV (V.tup [(V.fresh 0 (y38_0)), (V.int .i64 (y38_1))]))
                                                                                (bnd (s_laws_eqInt64S n y38_0 y7_0) fun y40_0 =>
                                                                                  cnd (y40_0)
                                                                                    (cnd (decide ((y38_1) = (y7_1)))
                                                                                      (bnd (s_laws_heldInt64S n y30_1 1) fun y43_0 =>
                                                                                        cnd (decide ((y43_0) < (0)))
                                                                                          (some (false))
                                                                                          (cnd (decide ((y43_0) = (y30_0)))
                                                                                            (some (true))
                                                                                            (some (false))))
                                                                                      (some (false)))
                                                                                    (some (false))))
                                                                      (some (false)))))
                                                            (some (false))))))
                                              (some (false)))
                                        (some (false)))
                                  (some (false)))
                                (some (false))))))
def l_spec_TilesNeeded_b0 : Nat → (List V) → (Int) → (Int) → (Int) → (Int) → (Int) → (Int) → (Nat → Int) → (List V) →  Option (Int)
  | 0, _, _, _, _, _, _, _, _, _ => none
  | n + 1, a0, a1, a2, a3, a4, a5, a6, a7, a8 =>
    cnd (decide ((a3) < (((a8).length : Int))))
      (chk (inB (a3) (a8).length)
        (bnd (bnd (nth (a8) ((a3).toNat)) as_Pi8_i8Q) fun (e8_0, e8_1) =>
          bnd (s_spec_l01At n a4 a5 a6 a7 e8_0 e8_1) fun y9_0 =>
            cnd (decide ((y9_0) = (2)))
              (l_spec_TilesNeeded_b0 n a0 a1 a2 (IntKind.i64.wrap ((a3) + (1))) a4 a5 a6 a7 a8)
              (bnd (bnd (nth (a8) ((a3).toNat)) as_Pi8_i8Q) fun (e11_0, e11_1) =>
                bnd (s_spec_l04First n a4 a5 a6 a7 a0 a1 e11_0 e11_1) fun y12_0 =>
                  cnd (decide ((0) ≤ (y12_0)))
                    (l_spec_TilesNeeded_b0 n a0 a1 (IntKind.i64.wrap ((a2) + (1))) (IntKind.i64.wrap ((a3) + (1))) a4 a5 a6 a7 a8)
                    (l_spec_TilesNeeded_b0 n a0 a1 a2 (IntKind.i64.wrap ((a3) + (1))) a4 a5 a6 a7 a8))))
      (some (a2))
def s_spec_TilesNeeded (n : Nat) (a0 : Int) (a1 : Int) (a2 : Int) (a3 : Nat → Int) (a4 : List V) (a5 : Int) : Option (Int × Int) :=
  bnd (s_spec_l04Reach n a5) fun y1_0 =>
    bnd (s_spec_l04Asked n a0 a1 a2 a3 a4 ([]) ((y1_0))) fun y2_0 =>
      cnd (decide ((y2_0) = (0)))
        (bnd (s_spec_l03Wrong n a0 a1 a2 a3) fun y4_0 =>
          chk (plainV (V.fresh 0 (y4_0)))
            (bnd (l_spec_TilesNeeded_b0 n a4 a5 0 0 a0 a1 a2 a3 y4_0) fun u14_0 =>
              some ((u14_0, 0))))
        (some ((0, y2_0)))
def s_impl_TilesNeeded_1 (n : Nat) (a0 : Int) : Option (Bool) :=
  cnd (decide ((a0) = (1)))
    (some (true))
    (some ((decide ((a0) = (3)))))
def s_impl_Roof_reachable_1__TilesNeeded_1 (n : Nat) (a0 : Int) (a1 : Int) (a2 : Int) (a3 : Int) (a4 : Int) (a5 : Nat → Int) (a6 : List V) (a7 : Int) : Option (Bool) :=
  bnd (s_impl_Roof_kind n a2 a3 a4 a5 a0 a1) fun y1_0 =>
    bnd (s_impl_TilesNeeded_1 n y1_0) fun y2_0 =>
      cnd (y2_0)
        (bnd (s_impl_Roof_ladderOf n a2 a3 a4 a5 a6 a7 a0 a1) fun y4_0 =>
          some ((decide ((y4_0) < (((a6).length : Int))))))
        (some (false))
def l_impl_Roof_places__Roof_reachable_1__TilesNeeded_1_b2 : Nat → (Int) → (Int) → (Int) → (Nat → Int) → (List V) → (Int) → (Int) → (Int) → (Int) → (Int) → (Int) → (Int) → (Int) → (Int) → (Nat → Int) → (List V) →  Option (Int × Int × Int × (Nat → Int) × List V × Int × Int × Int × Int × Int × Int × (Nat → Int) × List V)
  | 0, _, _, _, _, _, _, _, _, _, _, _, _, _, _, _, _ => none
  | n + 1, a0, a1, a2, a3, a4, a5, a6, a7, a8, a9, a10, a11, a12, a13, a14, a15 =>
    cnd (decide ((a10) < (a9)))
      (bnd (s_impl_Roof_reachable_1__TilesNeeded_1 n a6 a10 a0 a1 a2 a3 a4 a5) fun y3_0 =>
        cnd (y3_0)
          (chk (decide (((a15).length + ([(V.parts [(V.int .i8 (a6)), (V.int .i8 (a10))])]).length) * 2 ≤ 140737488355328))
            (l_impl_Roof_places__Roof_reachable_1__TilesNeeded_1_b2 n a0 a1 a2 a3 a4 a5 a6 a7 a8 a9 (IntKind.i8.wrap ((a10) + (1))) a11 a12 a13 a14 (a15 ++ ([(V.parts [(V.int .i8 (a6)), (V.int .i8 (a10))])]))))
          (l_impl_Roof_places__Roof_reachable_1__TilesNeeded_1_b2 n a0 a1 a2 a3 a4 a5 a6 a7 a8 a9 (IntKind.i8.wrap ((a10) + (1))) a11 a12 a13 a14 a15))
      (some ((a0, a1, a2, a3, a4, a5, a7, a8, a11, a12, a13, a14, a15)))
def l_impl_Roof_places__Roof_reachable_1__TilesNeeded_1_b0 : Nat → (Int) → (Int) → (Int) → (Nat → Int) → (List V) → (Int) → (Int) → (Int) → (Int) → (Int) → (Int) → (Nat → Int) → (List V) →  Option (List V)
  | 0, _, _, _, _, _, _, _, _, _, _, _, _, _ => none
  | n + 1, a0, a1, a2, a3, a4, a5, a6, a7, a8, a9, a10, a11, a12 =>
    cnd (decide ((a7) < (a6)))
      (bnd (l_impl_Roof_places__Roof_reachable_1__TilesNeeded_1_b2 n a0 a1 a2 a3 a4 a5 a7 a6 a7 a8 0 a8 a9 a10 a11 a12) fun (u6_0, u6_1, u6_2, u6_3, u6_4, u6_5, u6_6, u6_7, u6_8, u6_9, u6_10, u6_11, u6_12) =>
        l_impl_Roof_places__Roof_reachable_1__TilesNeeded_1_b0 n u6_0 u6_1 u6_2 u6_3 u6_4 u6_5 u6_6 (IntKind.i8.wrap ((u6_7) + (1))) u6_8 u6_9 u6_10 u6_11 u6_12)
      (some (a12))
def s_impl_Roof_places__Roof_reachable_1__TilesNeeded_1 (n : Nat) (a0 : Int) (a1 : Int) (a2 : Int) (a3 : Nat → Int) (a4 : Int) (a5 : Int) (a6 : Int) (a7 : Nat → Int) (a8 : List V) (a9 : Int) : Option (List V) :=
  bnd (l_impl_Roof_places__Roof_reachable_1__TilesNeeded_1_b0 n a4 a5 a6 a7 a8 a9 a1 0 a0 a1 a2 a3 (([] : List V))) fun u8_0 =>
    some (u8_0)
def s_impl_Roof_reachable__TilesNeeded_1 (n : Nat) (a0 : Int) (a1 : Int) (a2 : Int) (a3 : Nat → Int) (a4 : List V) (a5 : Int) : Option (List V) :=
  bnd (s_impl_Roof_places__Roof_reachable_1__TilesNeeded_1 n a0 a1 a2 a3 a0 a1 a2 a3 a4 a5) fun y1_0 =>
    chk (plainV (V.fresh 0 (y1_0)))
      (some (y1_0))
def s_impl_TilesNeeded (n : Nat) (a0 : Int) (a1 : Int) (a2 : Int) (a3 : Nat → Int) (a4 : List V) (a5 : Int) : Option (Int × Int) :=
  bnd (s_impl_ladderCode n a0 a1 a2 a3 a4 a5 (([] : List V))) fun y1_0 =>
    cnd (decide ((y1_0) = (0)))
      (bnd (s_impl_Roof_reachable__TilesNeeded_1 n a0 a1 a2 a3 a4 a5) fun y3_0 =>
        some ((((y3_0).length : Int), 0)))
      (some ((0, y1_0)))
def s_laws_FnExactTilesNeeded (n : Nat) (a0 : Int) (a1 : Int) (a2 : Int) (a3 : Nat → Int) (a4 : List V) (a5 : Int) : Option (Bool) :=
  cnd (decide ((1048576) < (((a4).length : Int))))
    (some (true))
    (bnd (s_laws_toRoof n a0 a1 a2 a3) fun (y2_0, y2_1, y2_2, y2_3) =>
      bnd (s_laws_toInt64S n a4) fun y3_0 =>
        bnd (s_spec_TilesNeeded n y2_0 y2_1 y2_2 y2_3 y3_0 a5) fun (y4_0, y4_1) =>
          bnd (s_laws_toInt64S n a4) fun y5_0 =>
            bnd (s_laws_toRoof n a0 a1 a2 a3) fun (y6_0, y6_1, y6_2, y6_3) =>
              bnd (s_impl_TilesNeeded n y6_0 y6_1 y6_2 y6_3 y5_0 a5) fun (y7_0, y7_1) =>
                cnd (decide ((y7_0) = (y4_0)))
                  (cnd (decide ((y7_1) = (y4_1)))
                    (bnd (s_laws_toInt64S n a4) fun y10_0 =>
                      bnd (s_laws_eqInt64S n y5_0 y10_0) fun y11_0 =>
                        cnd (y11_0)
                          (some (true))
                          (some (false)))
                    (some (false)))
                  (some (false)))
def l_spec_l01Tiles_b0 : Nat → (Int) → (Int) → (Int) → (Nat → Int) → (Int) → (Int) → (List V) → (List V) →  Option (List V)
  | 0, _, _, _, _, _, _, _, _ => none
  | n + 1, a0, a1, a2, a3, a4, a5, a6, a7 =>
    cnd (decide ((a5) < (((a7).length : Int))))
      (chk (inB (a5) (a7).length)
        (bnd (bnd (nth (a7) ((a5).toNat)) as_Pi8_i8Q) fun (e4_0, e4_1) =>
          bnd (s_spec_l01At n a0 a1 a2 a3 e4_0 e4_1) fun y5_0 =>
            cnd (decide ((y5_0) = (a4)))
              (bnd (bnd (nth (a7) ((a5).toNat)) as_Pi8_i8Q) fun (e7_0, e7_1) =>
                chk (decide (((a6).length + ([(V.parts [(V.int .i8 (e7_0)), (V.int .i8 (e7_1))])]).length) * 2 ≤ 140737488355328))
                  (l_spec_l01Tiles_b0 n a0 a1 a2 a3 a4 (IntKind.i64.wrap ((a5) + (1))) (a6 ++ ([(V.parts [(V.int .i8 (e7_0)), (V.int .i8 (e7_1))])])) a7))
              (l_spec_l01Tiles_b0 n a0 a1 a2 a3 a4 (IntKind.i64.wrap ((a5) + (1))) a6 a7)))
      (some (a6))
def s_spec_l01Tiles (n : Nat) (a0 : Int) (a1 : Int) (a2 : Int) (a3 : Nat → Int) (a4 : Int) : Option (List V) :=
  bnd (s_spec_l01All n a0 a1 a2 a3) fun y1_0 =>
    bnd (l_spec_l01Tiles_b0 n a0 a1 a2 a3 a4 0 ([]) y1_0) fun u9_0 =>
      some (u9_0)
def l_spec_PushBack_b0 : Nat → (List V) → (Int) → (Int) → (Int) → (Int) → (Int) → (Nat → Int) → (Int) → (Int) → (Int) → (Nat → Int) → (List V) → (List V) → (Int) → (Int) → (Int) → (Nat → Int) →  Option (Int × Int × Int × (Nat → Int) × List V × Int × Int × Int × (Nat → Int))
  | 0, _, _, _, _, _, _, _, _, _, _, _, _, _, _, _, _, _ => none
  | n + 1, a0, a1, a2, a3, a4, a5, a6, a7, a8, a9, a10, a11, a12, a13, a14, a15, a16 =>
    cnd (decide ((a2) < (((a12).length : Int))))
      (chk (inB (a2) (a12).length)
        (bnd (bnd (nth (a12) ((a2).toNat)) as_Pi8_i8Q) fun (e8_0, e8_1) =>
          bnd (s_spec_l04First n a3 a4 a5 a6 a0 a1 e8_0 e8_1) fun y9_0 =>
            cnd (decide ((0) ≤ (y9_0)))
              (bnd (bnd (nth (a12) ((a2).toNat)) as_Pi8_i8Q) fun (e11_0, e11_1) =>
                bnd (bnd (nth (a12) ((a2).toNat)) as_Pi8_i8Q) fun (e12_0, e12_1) =>
                  bnd (bnd (nth (a12) ((a2).toNat)) as_Pi8_i8Q) fun (e13_0, e13_1) =>
                    bnd (bnd (nth (a12) ((a2).toNat)) as_Pi8_i8Q) fun (e14_0, e14_1) =>
                      chk (inB (e12_0) 8)
                        (chk (inB (e14_1) 8)
                          (bnd (bnd (nth (a12) ((a2).toNat)) as_Pi8_i8Q) fun (e17_0, e17_1) =>
                            chk (decide (((a11).length + ([(V.parts [(V.int .i8 (e17_0)), (V.int .i8 (e17_1))])]).length) * 2 ≤ 140737488355328))
                              (l_spec_PushBack_b0 n a0 a1 (IntKind.i64.wrap ((a2) + (1))) a3 a4 a5 a6 a7 a8 a9 a10 (a11 ++ ([(V.parts [(V.int .i8 (e17_0)), (V.int .i8 (e17_1))])])) a12 a13 a14 a15 (updC (a16) (0 + (e12_0).toNat * 8 + (e14_1).toNat * 1) (0))))))
              (l_spec_PushBack_b0 n a0 a1 (IntKind.i64.wrap ((a2) + (1))) a3 a4 a5 a6 a7 a8 a9 a10 a11 a12 a13 a14 a15 a16)))
      (some ((a7, a8, a9, a10, a11, a13, a14, a15, a16)))
def s_spec_PushBack (n : Nat) (a0 : Int) (a1 : Int) (a2 : Int) (a3 : Nat → Int) (a4 : List V) (a5 : Int) : Option (Int × Int × Int × (Nat → Int) × List V × Int) :=
  bnd (s_spec_l04Reach n a5) fun y1_0 =>
    bnd (s_spec_l04Asked n a0 a1 a2 a3 a4 ([]) ((y1_0))) fun y2_0 =>
      cnd (decide ((y2_0) = (0)))
        (bnd (s_spec_l01Tiles n a0 a1 a2 a3 2) fun y4_0 =>
          chk (plainV (V.fresh 0 (y4_0)))
            (bnd (l_spec_PushBack_b0 n a4 a5 0 a0 a1 a2 a3 0 0 0 (fun _ => 0) ([]) y4_0 a0 a1 a2 a3) fun (u19_0, u19_1, u19_2, u19_3, u19_4, u19_5, u19_6, u19_7, u19_8) =>
              some ((u19_5, u19_6, u19_7, u19_8, u19_4, 0))))
        (some ((0, 0, 0, fun _ => 0, [], y2_0)))
def s_impl_PushBack_1 (n : Nat) (a0 : Int) : Option (Bool) :=
  some ((decide ((a0) = (2))))
def s_impl_Roof_reachable_1__PushBack_1 (n : Nat) (a0 : Int) (a1 : Int) (a2 : Int) (a3 : Int) (a4 : Int) (a5 : Nat → Int) (a6 : List V) (a7 : Int) : Option (Bool) :=
  bnd (s_impl_Roof_kind n a2 a3 a4 a5 a0 a1) fun y1_0 =>
    bnd (s_impl_PushBack_1 n y1_0) fun y2_0 =>
      cnd (y2_0)
        (bnd (s_impl_Roof_ladderOf n a2 a3 a4 a5 a6 a7 a0 a1) fun y4_0 =>
          some ((decide ((y4_0) < (((a6).length : Int))))))
        (some (false))
def l_impl_Roof_places__Roof_reachable_1__PushBack_1_b2 : Nat → (Int) → (Int) → (Int) → (Nat → Int) → (List V) → (Int) → (Int) → (Int) → (Int) → (Int) → (Int) → (Int) → (Int) → (Int) → (Nat → Int) → (List V) →  Option (Int × Int × Int × (Nat → Int) × List V × Int × Int × Int × Int × Int × Int × (Nat → Int) × List V)
  | 0, _, _, _, _, _, _, _, _, _, _, _, _, _, _, _, _ => none
  | n + 1, a0, a1, a2, a3, a4, a5, a6, a7, a8, a9, a10, a11, a12, a13, a14, a15 =>
    cnd (decide ((a10) < (a9)))
      (bnd (s_impl_Roof_reachable_1__PushBack_1 n a6 a10 a0 a1 a2 a3 a4 a5) fun y3_0 =>
        cnd (y3_0)
          (chk (decide (((a15).length + ([(V.parts [(V.int .i8 (a6)), (V.int .i8 (a10))])]).length) * 2 ≤ 140737488355328))
            (l_impl_Roof_places__Roof_reachable_1__PushBack_1_b2 n a0 a1 a2 a3 a4 a5 a6 a7 a8 a9 (IntKind.i8.wrap ((a10) + (1))) a11 a12 a13 a14 (a15 ++ ([(V.parts [(V.int .i8 (a6)), (V.int .i8 (a10))])]))))
          (l_impl_Roof_places__Roof_reachable_1__PushBack_1_b2 n a0 a1 a2 a3 a4 a5 a6 a7 a8 a9 (IntKind.i8.wrap ((a10) + (1))) a11 a12 a13 a14 a15))
      (some ((a0, a1, a2, a3, a4, a5, a7, a8, a11, a12, a13, a14, a15)))
def l_impl_Roof_places__Roof_reachable_1__PushBack_1_b0 : Nat → (Int) → (Int) → (Int) → (Nat → Int) → (List V) → (Int) → (Int) → (Int) → (Int) → (Int) → (Int) → (Nat → Int) → (List V) →  Option (List V)
  | 0, _, _, _, _, _, _, _, _, _, _, _, _, _ => none
  | n + 1, a0, a1, a2, a3, a4, a5, a6, a7, a8, a9, a10, a11, a12 =>
    cnd (decide ((a7) < (a6)))
      (bnd (l_impl_Roof_places__Roof_reachable_1__PushBack_1_b2 n a0 a1 a2 a3 a4 a5 a7 a6 a7 a8 0 a8 a9 a10 a11 a12) fun (u6_0, u6_1, u6_2, u6_3, u6_4, u6_5, u6_6, u6_7, u6_8, u6_9, u6_10, u6_11, u6_12) =>
        l_impl_Roof_places__Roof_reachable_1__PushBack_1_b0 n u6_0 u6_1 u6_2 u6_3 u6_4 u6_5 u6_6 (IntKind.i8.wrap ((u6_7) + (1))) u6_8 u6_9 u6_10 u6_11 u6_12)
      (some (a12))
def s_impl_Roof_places__Roof_reachable_1__PushBack_1 (n : Nat) (a0 : Int) (a1 : Int) (a2 : Int) (a3 : Nat → Int) (a4 : Int) (a5 : Int) (a6 : Int) (a7 : Nat → Int) (a8 : List V) (a9 : Int) : Option (List V) :=
  bnd (l_impl_Roof_places__Roof_reachable_1__PushBack_1_b0 n a4 a5 a6 a7 a8 a9 a1 0 a0 a1 a2 a3 (([] : List V))) fun u8_0 =>
    some (u8_0)
def s_impl_Roof_reachable__PushBack_1 (n : Nat) (a0 : Int) (a1 : Int) (a2 : Int) (a3 : Nat → Int) (a4 : List V) (a5 : Int) : Option (List V) :=
  bnd (s_impl_Roof_places__Roof_reachable_1__PushBack_1 n a0 a1 a2 a3 a0 a1 a2 a3 a4 a5) fun y1_0 =>
    chk (plainV (V.fresh 0 (y1_0)))
      (some (y1_0))
def s_impl_PushBack (n : Nat) (a0 : Int) (a1 : Int) (a2 : Int) (a3 : Nat → Int) (a4 : List V) (a5 : Int) : Option (Int × Int × Int × (Nat → Int) × List V × Int) :=
  bnd (s_impl_ladderCode n a0 a1 a2 a3 a4 a5 (([] : List V))) fun y1_0 =>
    cnd (decide ((y1_0) = (0)))
      (bnd (s_impl_Roof_reachable__PushBack_1 n a0 a1 a2 a3 a4 a5) fun y3_0 =>
        bnd (s_impl_Roof_mended n a0 a1 a2 a3 y3_0) fun (y4_0, y4_1, y4_2, y4_3) =>
          some ((y4_0, y4_1, y4_2, y4_3, y3_0, 0)))
      (some ((0, 0, 0, fun _ => 0, ([] : List V), y1_0)))
def l_laws_eqByteA8_b0 : Nat → (Int) → (Nat → Int) → (Nat → Int) →  Option (Sum (Unit) (Bool))
  | 0, _, _, _ => none
  | n + 1, a0, a1, a2 =>
    cnd (decide ((a0) < (8)))
      (chk (inB (a0) 8)
        (cnd (decide (((a1) (0 + (a0).toNat * 1)) = ((a2) (0 + (a0).toNat * 1))))
          (l_laws_eqByteA8_b0 n (IntKind.i64.wrap ((a0) + (1))) a1 a2)
          (some (.inr (false)))))
      (some (.inl (())))
def s_laws_eqByteA8 (n : Nat) (a0 : Nat → Int) (a1 : Nat → Int) : Option (Bool) :=
  bnd (l_laws_eqByteA8_b0 n 0 a0 a1) fun w => match w with
    | .inl _ =>
      some (true)
    | .inr u5_0 =>
      some ((u5_0))
def l_laws_eqByteA8A8_b0 : Nat → (Int) → (Nat → Int) → (Nat → Int) →  Option (Sum (Unit) (Bool))
  | 0, _, _, _ => none
  | n + 1, a0, a1, a2 =>
    cnd (decide ((a0) < (8)))
      (chk (inB (a0) 8)
        (bnd (s_laws_eqByteA8 n ((shiftC (a1) (0 + (a0).toNat * 8))) ((shiftC (a2) (0 + (a0).toNat * 8)))) fun y3_0 =>
          cnd (y3_0)
            (l_laws_eqByteA8A8_b0 n (IntKind.i64.wrap ((a0) + (1))) a1 a2)
            (some (.inr (false)))))
      (some (.inl (())))
def s_laws_eqByteA8A8 (n : Nat) (a0 : Nat → Int) (a1 : Nat → Int) : Option (Bool) :=
  bnd (l_laws_eqByteA8A8_b0 n 0 a0 a1) fun w => match w with
    | .inl _ =>
      some (true)
    | .inr u6_0 =>
      some ((u6_0))
def s_laws_eqRoof (n : Nat) (a0 : Int) (a1 : Int) (a2 : Int) (a3 : Nat → Int) (a4 : Int) (a5 : Int) (a6 : Int) (a7 : Nat → Int) : Option (Bool) :=
  cnd (decide ((a0) = (a4)))
    (cnd (decide ((a1) = (a5)))
      (cnd (decide ((a2) = (a6)))
        (bnd (s_laws_eqByteA8A8 n a3 a7) fun y4_0 =>
          cnd (y4_0)
            (some (true))
            (some (false)))
        (some (false)))
      (some (false)))
    (some (false))
def s_laws_FnExactPushBack (n : Nat) (a0 : Int) (a1 : Int) (a2 : Int) (a3 : Nat → Int) (a4 : List V) (a5 : Int) : Option (Bool) :=
  cnd (decide ((1048576) < (((a4).length : Int))))
    (some (true))
    (bnd (s_laws_toRoof n a0 a1 a2 a3) fun (y2_0, y2_1, y2_2, y2_3) =>
      bnd (s_laws_toInt64S n a4) fun y3_0 =>
        bnd (s_spec_PushBack n y2_0 y2_1 y2_2 y2_3 y3_0 a5) fun (y4_0, y4_1, y4_2, y4_3, y4_4, y4_5) =>
          chk (plainV (V.tup [(V.parts [(V.int .i8 (y4_0)), (V.int .i8 (y4_1)), (V.int .u8 (y4_2)), (V.ints .u8 64 (y4_3))]), (V.fresh 0 (y4_4)), (V.int .i64 (y4_5))]))
            (bnd (s_laws_toInt64S n a4) fun y6_0 =>
              bnd (s_laws_toRoof n a0 a1 a2 a3) fun (y7_0, y7_1, y7_2, y7_3) =>
                bnd (s_impl_PushBack n y7_0 y7_1 y7_2 y7_3 y6_0 a5) fun (y8_0, y8_1, y8_2, y8_3, y8_4, y8_5) =>
                  chk (plainV (V.tup [(V.parts [(V.int .i8 (y8_0)), (V.int .i8 (y8_1)), (V.int .u8 (y8_2)), (V.ints .u8 64 (y8_3))]), (V.fresh 0 (y8_4)), (V.int .i64 (y8_5))]))
                    (bnd (s_laws_eqRoof n y8_0 y8_1 y8_2 y8_3 y4_0 y4_1 y4_2 y4_3) fun y10_0 =>
                      cnd (y10_0)
                        (bnd (s_laws_eqPlaceS n y8_4 y4_4) fun y12_0 =>
                          cnd (y12_0)
                            (cnd (decide ((y8_5) = (y4_5)))
                              (bnd (s_laws_toInt64S n a4) fun y15_0 =>
                                bnd (s_laws_eqInt64S n y6_0 y15_0) fun y16_0 =>
                                  cnd (y16_0)
                                    (bnd (s_laws_markInt64S n y6_0 1) fun (y18_0, y18_1) =>
                                      chk (likeRows (y6_0) (y18_1))
                                        (cnd (decide ((y18_0) < (0)))
                                          (some (false))
                                          (bnd (s_laws_eqRoof n y8_0 y8_1 y8_2 y8_3 y4_0 y4_1 y4_2 y4_3) fun y21_0 =>
                                            cnd (y21_0)
                                              (bnd (s_laws_eqPlaceS n y8_4 y4_4) fun y23_0 =>
                                                cnd (y23_0)
                                                  (bnd (s_laws_markPlaceS n y8_4 1) fun (y25_0, y25_1) =>
                                                    chk (likeRows (y8_4) (y25_1))
                                                      (bnd (s_laws_heldPlaceS n y25_1 1) fun y27_0 =>
                                                        cnd (decide ((y27_0) < (0)))
                                                          (some (false))
                                                          (cnd (decide ((y27_0) = (y25_0)))
                                                            (bnd (s_laws_toRoof n a0 a1 a2 a3) fun (y30_0, y30_1, y30_2, y30_3) =>
                                                              bnd (s_laws_toInt64S n a4) fun y31_0 =>
                                                                bnd (s_impl_PushBack n y30_0 y30_1 y30_2 y30_3 y31_0 a5) fun (y32_0, y32_1, y32_2, y32_3, y32_4, y32_5) =>
                                                                  chk (plainV (V.tup [(V.parts [(V.int .i8 (y32_0)), (V.int .i8 (y32_1)), (V.int .u8 (y32_2)), (V.ints .u8 64 (y32_3))]), (V.fresh 0 (y32_4)), (V.int .i64 (y32_5))]))
                                                                    (bnd (s_laws_eqRoof n y32_0 y32_1 y32_2 y32_3 y4_0 y4_1 y4_2 y4_3) fun y34_0 =>
                                                                      cnd (y34_0)
                                                                        (bnd (s_laws_eqPlaceS n y32_4 y4_4) fun y36_0 =>
                                                                          cnd (y36_0)
                                                                            (cnd (decide ((y32_5) = (y4_5)))
                                                                              (bnd (s_laws_heldPlaceS n y25_1 1) fun y39_0 =>
                                                                                cnd (decide ((y39_0) < (0)))
                                                                                  (some (false))
                                                                                  (cnd (decide ((y39_0) = (y25_0)))
                                                                                    (some (true))
                                                                                    (some (false))))
                                                                              (some (false)))
                                                                            (some (false)))
                                                                        (some (false))))
                                                            (some (false)))))
                                                  (some (false)))
                                              (some (false)))))
                                    (some (false)))
                              (some (false)))
                            (some (false)))
                        (some (false)))))
end Go.Proofs.Ytdhcfdiggcgmhaa
