/- What functions of the program answer, in plain Lean: printed by gen.py out of the program. -/
import Derived.Test.YtdhcfdiggcgmhaaSh6
namespace Go.Proofs.Ytdhcfdiggcgmhaa
open Go
set_option linter.unusedVariables false
set_option linter.unusedSimpArgs false
def l_spec_l04Ladders_b0 (self : (Int) → (Int) → (Int) → (Nat → Int) → (Int) → (List V) → (List V) → (Int) → (Int) → Option (List V × Bool)) : Nat → (Int) → (Int) → (Int) → (Nat → Int) → (Int) → (List V) → (Int) → (Int) → (List V) →  Option (Sum (Unit) (Bool × List V))
  | 0, _, _, _, _, _, _, _, _, _ => none
  | n + 1, a0, a1, a2, a3, a4, a5, a6, a7, a8 =>
    bnd (s_spec_l01Cells n a0 a1 a2 a3) fun y3_0 =>
      cnd (decide ((a7) < (y3_0)))
        (chk (decide (((([] : List V)).length + (a8).length) * 8 ≤ 140737488355328))
          (chk (decide ((((([] : List V)) ++ a8).length + ([(V.int .i64 (a7))]).length) * 8 ≤ 140737488355328))
            (chk (plainV (V.fresh 0 (((([] : List V)) ++ a8) ++ ([(V.int .i64 (a7))]))))
              (bnd (self a0 a1 a2 a3 a4 a5 (((([] : List V)) ++ a8) ++ ([(V.int .i64 (a7))])) (IntKind.i64.wrap ((a7) + (1))) (IntKind.i64.wrap ((a6) - (1)))) fun (y7_0, y7_1) =>
                chk (plainV (V.fresh 0 y7_0))
                  (cnd (y7_1)
                    (some (.inr ((true, y7_0))))
                    (l_spec_l04Ladders_b0 self n a0 a1 a2 a3 a4 a5 a6 (IntKind.i64.wrap ((a7) + (1))) a8))))))
        (some (.inl (())))
def s_spec_l04Ladders : Nat → (Int) → (Int) → (Int) → (Nat → Int) → (Int) → (List V) → (List V) → (Int) → (Int) →  Option (List V × Bool)
  | 0, _, _, _, _, _, _, _, _, _ => none
  | n + 1, a0, a1, a2, a3, a4, a5, a6, a7, a8 =>
    cnd (decide ((a8) = (0)))
      (bnd (s_spec_l04All n a0 a1 a2 a3 a6 a4 a5) fun y2_0 =>
        some ((a6, (y2_0))))
      (bnd (l_spec_l04Ladders_b0 (fun x0 x1 x2 x3 x4 x5 x6 x7 x8 => s_spec_l04Ladders n x0 x1 x2 x3 x4 x5 x6 x7 x8) n a0 a1 a2 a3 a4 a5 a8 a7 a6) fun w => match w with
        | .inl _ =>
          some (([], false))
        | .inr (u12_0, u12_1) =>
          some ((u12_1, (u12_0))))
def l_spec_FewestLadders_b0 : Nat → (Int) → (List V) → (Int) → (Int) → (Int) → (Int) → (Nat → Int) →  Option (Int × List V)
  | 0, _, _, _, _, _, _, _ => none
  | n + 1, a0, a1, a2, a3, a4, a5, a6 =>
    bnd (s_spec_l04Ladders n a3 a4 a5 a6 a0 a1 ([]) 0 a2) fun (y4_0, y4_1) =>
      chk (plainV (V.fresh 0 y4_0))
        (cnd (y4_1)
          (some ((0, y4_0)))
          (l_spec_FewestLadders_b0 n a0 a1 (IntKind.i64.wrap ((a2) + (1))) a3 a4 a5 a6))
def s_spec_FewestLadders (n : Nat) (a0 : Int) (a1 : Int) (a2 : Int) (a3 : Nat → Int) (a4 : Int) (a5 : List V) : Option (List V × Int) :=
  bnd (s_spec_l04Reach n a4) fun y1_0 =>
    bnd (s_spec_l04Asked n a0 a1 a2 a3 ([]) a5 ((y1_0))) fun y2_0 =>
      cnd (decide ((y2_0) = (0)))
        (bnd (l_spec_FewestLadders_b0 n a4 a5 0 a0 a1 a2 a3) fun (u7_0, u7_1) =>
          some ((u7_1, u7_0)))
        (some (([], y2_0)))
def s_slices_Clone_Sint64_int64 (n : Nat) (a0 : List V) : Option (List V) :=
  chk (decide ((([] : List V).length + a0.length) * 8 ≤ 140737488355328))
    (chk (sizesOk 1 a0)
      (some a0))
def l_impl_Roof_ladders_b0 (self : (Int) → (Int) → (Int) → (Nat → Int) → (List V) → (Int) → (Int) → (List V) → Option (List V × Bool)) : Nat → (Int) → (Int) → (List V) → (Int) → (List V) → (Int) → (Int) → (Int) → (Nat → Int) →  Option (Sum (Unit) (Bool × List V))
  | 0, _, _, _, _, _, _, _, _, _ => none
  | n + 1, a0, a1, a2, a3, a4, a5, a6, a7, a8 =>
    bnd (s_impl_Roof_cells n a5 a6 a7 a8) fun y6_0 =>
      cnd (decide ((a3) < (y6_0)))
        (bnd (s_slices_Clone_Sint64_int64 n a4) fun y8_0 =>
          chk (plainV (V.fresh 0 (y8_0)))
            (chk (decide (((y8_0).length + ([(V.int .i64 (a3))]).length) * 8 ≤ 140737488355328))
              (chk (plainV (V.fresh 0 (y8_0 ++ ([(V.int .i64 (a3))]))))
                (bnd (self a5 a6 a7 a8 (y8_0 ++ ([(V.int .i64 (a3))])) (IntKind.i64.wrap ((a0) - (1))) a1 a2) fun (y11_0, y11_1) =>
                  chk (plainV (V.fresh 0 y11_0))
                    (cnd (y11_1)
                      (some (.inr ((true, y11_0))))
                      (l_impl_Roof_ladders_b0 self n a0 a1 a2 (IntKind.i64.wrap ((a3) + (1))) a4 a5 a6 a7 a8))))))
        (some (.inl (())))
def s_impl_Roof_ladders : Nat → (Int) → (Int) → (Int) → (Nat → Int) → (List V) → (Int) → (Int) → (List V) →  Option (List V × Bool)
  | 0, _, _, _, _, _, _, _, _ => none
  | n + 1, a0, a1, a2, a3, a4, a5, a6, a7 =>
    cnd (decide ((a5) = (0)))
      (bnd (s_impl_Roof_areReached n a0 a1 a2 a3 a4 a6 a7) fun y2_0 =>
        some ((a4, (y2_0))))
      (cnd (decide ((0) < (((a4).length : Int))))
        (chk (inB (IntKind.i64.wrap ((((a4).length : Int)) - (1))) (a4).length)
          (bnd (bnd (nth (a4) ((IntKind.i64.wrap ((((a4).length : Int)) - (1))).toNat)) as_i64) fun e5_0 =>
            bnd (l_impl_Roof_ladders_b0 (fun x0 x1 x2 x3 x4 x5 x6 x7 => s_impl_Roof_ladders n x0 x1 x2 x3 x4 x5 x6 x7) n a5 a6 a7 (IntKind.i64.wrap ((e5_0) + (1))) a4 a0 a1 a2 a3) fun w => match w with
              | .inl _ =>
                some ((([] : List V), false))
              | .inr (u16_0, u16_1) =>
                some ((u16_1, (u16_0)))))
        (bnd (l_impl_Roof_ladders_b0 (fun x0 x1 x2 x3 x4 x5 x6 x7 => s_impl_Roof_ladders n x0 x1 x2 x3 x4 x5 x6 x7) n a5 a6 a7 0 a4 a0 a1 a2 a3) fun w => match w with
          | .inl _ =>
            some ((([] : List V), false))
          | .inr (u19_0, u19_1) =>
            some ((u19_1, (u19_0)))))
def l_impl_FewestLadders_b0 : Nat → (Int) → (List V) → (Int) → (Int) → (Int) → (Int) → (Nat → Int) →  Option (Int × List V)
  | 0, _, _, _, _, _, _, _ => none
  | n + 1, a0, a1, a2, a3, a4, a5, a6 =>
    bnd (s_impl_Roof_ladders n a3 a4 a5 a6 (([] : List V)) a2 a0 a1) fun (y3_0, y3_1) =>
      chk (plainV (V.fresh 0 y3_0))
        (cnd (y3_1)
          (some ((0, y3_0)))
          (l_impl_FewestLadders_b0 n a0 a1 (IntKind.i64.wrap ((a2) + (1))) a3 a4 a5 a6))
def s_impl_FewestLadders (n : Nat) (a0 : Int) (a1 : Int) (a2 : Int) (a3 : Nat → Int) (a4 : Int) (a5 : List V) : Option (List V × Int) :=
  bnd (s_impl_ladderCode n a0 a1 a2 a3 (([] : List V)) a4 a5) fun y1_0 =>
    cnd (decide ((y1_0) = (0)))
      (bnd (l_impl_FewestLadders_b0 n a4 a5 0 a0 a1 a2 a3) fun (u6_0, u6_1) =>
        some ((u6_1, u6_0)))
      (some ((([] : List V), y1_0)))
def s_laws_FnExactFewestLadders (n : Nat) (a0 : Int) (a1 : Int) (a2 : Int) (a3 : Nat → Int) (a4 : Int) (a5 : List V) : Option (Bool) :=
  bnd (s_laws_szPlaceS n a5 1048576) fun y1_0 =>
    cnd (decide ((y1_0) < (0)))
      (some (true))
      (bnd (s_laws_toRoof n a0 a1 a2 a3) fun (y3_0, y3_1, y3_2, y3_3) =>
        bnd (s_laws_toPlaceS n a5) fun y4_0 =>
          bnd (s_spec_FewestLadders n y3_0 y3_1 y3_2 y3_3 a4 y4_0) fun (y5_0, y5_1) =>
            chk (plainV (V.tup [(V.fresh 0 (y5_0)), (V.int .i64 (y5_1))]))
              (bnd (s_laws_toPlaceS n a5) fun y7_0 =>
                bnd (s_laws_toRoof n a0 a1 a2 a3) fun (y8_0, y8_1, y8_2, y8_3) =>
                  bnd (s_impl_FewestLadders n y8_0 y8_1 y8_2 y8_3 a4 y7_0) fun (y9_0, y9_1) =>
                    chk (plainV (V.tup [(V.fresh 0 (y9_0)), (V.int .i64 (y9_1))]))
                      (bnd (s_laws_eqInt64S n y9_0 y5_0) fun y11_0 =>
                        cnd (y11_0)
                          (cnd (decide ((y9_1) = (y5_1)))
                            (bnd (s_laws_toPlaceS n a5) fun y14_0 =>
                              bnd (s_laws_eqPlaceS n y7_0 y14_0) fun y15_0 =>
                                cnd (y15_0)
                                  (bnd (s_laws_markPlaceS n y7_0 1) fun (y17_0, y17_1) =>
                                    chk (likeRows (y7_0) (y17_1))
                                      (cnd (decide ((y17_0) < (0)))
                                        (some (false))
                                        (bnd (s_laws_eqInt64S n y9_0 y5_0) fun y20_0 =>
                                          cnd (y20_0)
                                            (bnd (s_laws_markInt64S n y9_0 1) fun (y22_0, y22_1) =>
                                              chk (likeRows (y9_0) (y22_1))
                                                (bnd (s_laws_heldInt64S n y22_1 1) fun y24_0 =>
                                                  cnd (decide ((y24_0) < (0)))
                                                    (some (false))
                                                    (cnd (decide ((y24_0) = (y22_0)))
                                                      (bnd (s_laws_toRoof n a0 a1 a2 a3) fun (y27_0, y27_1, y27_2, y27_3) =>
                                                        bnd (s_laws_toPlaceS n a5) fun y28_0 =>
                                                          bnd (s_impl_FewestLadders n y27_0 y27_1 y27_2 y27_3 a4 y28_0) fun (y29_0, y29_1) =>
                                                            chk (plainV (V.tup [(V.fresh 0 (y29_0)), (V.int .i64 (y29_1))]))
                                                              (bnd (s_laws_eqInt64S n y29_0 y5_0) fun y31_0 =>
                                                                cnd (y31_0)
                                                                  (cnd (decide ((y29_1) = (y5_1)))
                                                                    (bnd (s_laws_heldInt64S n y22_1 1) fun y34_0 =>
                                                                      cnd (decide ((y34_0) < (0)))
                                                                        (some (false))
                                                                        (cnd (decide ((y34_0) = (y22_0)))
                                                                          (some (true))
                                                                          (some (false))))
                                                                    (some (false)))
                                                                  (some (false))))
                                                      (some (false)))))
                                            (some (false)))))
                                  (some (false)))
                            (some (false)))
                          (some (false)))))
end Go.Proofs.Ytdhcfdiggcgmhaa
