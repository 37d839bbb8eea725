/- What functions of the program answer, in plain Lean: printed by gen.py out of the program. -/
import Derived.Test.YtlnpblomnlppiaaSh2
namespace Go.Proofs.Ytlnpblomnlppiaa
open Go
set_option linter.unusedVariables false
set_option linter.unusedSimpArgs false
def s_spec_l01At (n : Nat) (a0 : Int) (a1 : Int) (a2 : Int) (a3 : Nat → Int) (a4 : Int) (a5 : Int) : Option (Int) :=
  chk (inB (a4) 8)
    (chk (inB (a5) 8)
      (some (IntKind.i64.wrap ((a3) (0 + (a4).toNat * 8 + (a5).toNat * 1)))))
def l_spec_l03Wrong_b0 : Nat → (Int) → (Int) → (Int) → (Nat → Int) → (Int) → (List V) → (List V) →  Option (List V)
  | 0, _, _, _, _, _, _, _ => none
  | n + 1, a0, a1, a2, a3, a4, a5, a6 =>
    cnd (decide ((a4) < (((a6).length : Int))))
      (chk (inB (a4) (a6).length)
        (bnd (bnd (nth (a6) ((a4).toNat)) as_Pi8_i8Q) fun (e4_0, e4_1) =>
          bnd (s_spec_l01At n a0 a1 a2 a3 e4_0 e4_1) fun y5_0 =>
            cnd (decide ((y5_0) = (0)))
              (l_spec_l03Wrong_b0 n a0 a1 a2 a3 (IntKind.i64.wrap ((a4) + (1))) a5 a6)
              (bnd (bnd (nth (a6) ((a4).toNat)) as_Pi8_i8Q) fun (e7_0, e7_1) =>
                chk (decide (((a5).length + ([(V.parts [(V.int .i8 (e7_0)), (V.int .i8 (e7_1))])]).length) * 2 ≤ 140737488355328))
                  (l_spec_l03Wrong_b0 n a0 a1 a2 a3 (IntKind.i64.wrap ((a4) + (1))) (a5 ++ ([(V.parts [(V.int .i8 (e7_0)), (V.int .i8 (e7_1))])])) a6))))
      (some (a5))
def s_spec_l03Wrong (n : Nat) (a0 : Int) (a1 : Int) (a2 : Int) (a3 : Nat → Int) : Option (List V) :=
  bnd (s_spec_l01All n a0 a1 a2 a3) fun y1_0 =>
    bnd (l_spec_l03Wrong_b0 n a0 a1 a2 a3 0 ([]) y1_0) fun u9_0 =>
      some (u9_0)
def l_spec_TilesNeeded_b0 : Nat → (List V) → (Int) → (Int) → (Int) → (Int) → (Int) → (Int) → (Nat → Int) → (List V) →  Option (Int)
  | 0, _, _, _, _, _, _, _, _, _ => none
  | n + 1, a0, a1, a2, a3, a4, a5, a6, a7, a8 =>
    cnd (decide ((a3) < (((a8).length : Int))))
      (chk (inB (a3) (a8).length)
        (bnd (bnd (nth (a8) ((a3).toNat)) as_Pi8_i8Q) fun (e8_0, e8_1) =>
          bnd (s_spec_l01At n a4 a5 a6 a7 e8_0 e8_1) fun y9_0 =>
            cnd (decide ((y9_0) = (2)))
              (l_spec_TilesNeeded_b0 n a0 a1 a2 (IntKind.i64.wrap ((a3) + (1))) a4 a5 a6 a7 a8)
              (bnd (bnd (nth (a8) ((a3).toNat)) as_Pi8_i8Q) fun (e11_0, e11_1) =>
                bnd (s_spec_l04First n a4 a5 a6 a7 a0 a1 e11_0 e11_1) fun y12_0 =>
                  cnd (decide ((0) ≤ (y12_0)))
                    (l_spec_TilesNeeded_b0 n a0 a1 (IntKind.i64.wrap ((a2) + (1))) (IntKind.i64.wrap ((a3) + (1))) a4 a5 a6 a7 a8)
                    (l_spec_TilesNeeded_b0 n a0 a1 a2 (IntKind.i64.wrap ((a3) + (1))) a4 a5 a6 a7 a8))))
      (some (a2))
def s_spec_TilesNeeded (n : Nat) (a0 : Int) (a1 : Int) (a2 : Int) (a3 : Nat → Int) (a4 : List V) (a5 : Int) : Option (Int × Int) :=
  bnd (s_spec_l04Reach n a5) fun y1_0 =>
    bnd (s_spec_l04Asked n a0 a1 a2 a3 a4 ([]) ((y1_0))) fun y2_0 =>
      cnd (decide ((y2_0) = (0)))
        (bnd (s_spec_l03Wrong n a0 a1 a2 a3) fun y4_0 =>
          chk (plainV (V.fresh 0 (y4_0)))
            (bnd (l_spec_TilesNeeded_b0 n a4 a5 0 0 a0 a1 a2 a3 y4_0) fun u14_0 =>
              some ((u14_0, 0))))
        (some ((0, y2_0)))
def s_impl_Roof_kind (n : Nat) (a0 : Int) (a1 : Int) (a2 : Int) (a3 : Nat → Int) (a4 : Int) (a5 : Int) : Option (Int) :=
  chk (inB (a4) 8)
    (chk (inB (a5) 8)
      (some ((a3) (0 + (a4).toNat * 8 + (a5).toNat * 1))))
def s_impl_TilesNeeded_1 (n : Nat) (a0 : Int) : Option (Bool) :=
  cnd (decide ((a0) = (1)))
    (some (true))
    (some ((decide ((a0) = (3)))))
def s_impl_Roof_reachable_1__TilesNeeded_1 (n : Nat) (a0 : Int) (a1 : Int) (a2 : Int) (a3 : Int) (a4 : Int) (a5 : Nat → Int) (a6 : List V) (a7 : Int) : Option (Bool) :=
  bnd (s_impl_Roof_kind n a2 a3 a4 a5 a0 a1) fun y1_0 =>
    bnd (s_impl_TilesNeeded_1 n y1_0) fun y2_0 =>
      cnd (y2_0)
        (bnd (s_impl_Roof_ladderOf n a2 a3 a4 a5 a6 a7 a0 a1) fun y4_0 =>
          some ((decide ((y4_0) < (((a6).length : Int))))))
        (some (false))
def l_impl_Roof_places__Roof_reachable_1__TilesNeeded_1_b2 : Nat → (Int) → (Int) → (Int) → (Nat → Int) → (List V) → (Int) → (Int) → (Int) → (Int) → (Int) → (Int) → (Int) → (Int) → (Int) → (Nat → Int) → (List V) →  Option (Int × Int × Int × (Nat → Int) × List V × Int × Int × Int × Int × Int × Int × (Nat → Int) × List V)
  | 0, _, _, _, _, _, _, _, _, _, _, _, _, _, _, _, _ => none
  | n + 1, a0, a1, a2, a3, a4, a5, a6, a7, a8, a9, a10, a11, a12, a13, a14, a15 =>
    cnd (decide ((a10) < (a9)))
      (bnd (s_impl_Roof_reachable_1__TilesNeeded_1 n a6 a10 a0 a1 a2 a3 a4 a5) fun y3_0 =>
        cnd (y3_0)
          (chk (decide (((a15).length + ([(V.parts [(V.int .i8 (a6)), (V.int .i8 (a10))])]).length) * 2 ≤ 140737488355328))
            (l_impl_Roof_places__Roof_reachable_1__TilesNeeded_1_b2 n a0 a1 a2 a3 a4 a5 a6 a7 a8 a9 (IntKind.i8.wrap ((a10) + (1))) a11 a12 a13 a14 (a15 ++ ([(V.parts [(V.int .i8 (a6)), (V.int .i8 (a10))])]))))
          (l_impl_Roof_places__Roof_reachable_1__TilesNeeded_1_b2 n a0 a1 a2 a3 a4 a5 a6 a7 a8 a9 (IntKind.i8.wrap ((a10) + (1))) a11 a12 a13 a14 a15))
      (some ((a0, a1, a2, a3, a4, a5, a7, a8, a11, a12, a13, a14, a15)))
def l_impl_Roof_places__Roof_reachable_1__TilesNeeded_1_b0 : Nat → (Int) → (Int) → (Int) → (Nat → Int) → (List V) → (Int) → (Int) → (Int) → (Int) → (Int) → (Int) → (Nat → Int) → (List V) →  Option (List V)
  | 0, _, _, _, _, _, _, _, _, _, _, _, _, _ => none
  | n + 1, a0, a1, a2, a3, a4, a5, a6, a7, a8, a9, a10, a11, a12 =>
    cnd (decide ((a7) < (a6)))
      (bnd (l_impl_Roof_places__Roof_reachable_1__TilesNeeded_1_b2 n a0 a1 a2 a3 a4 a5 a7 a6 a7 a8 0 a8 a9 a10 a11 a12) fun (u6_0, u6_1, u6_2, u6_3, u6_4, u6_5, u6_6, u6_7, u6_8, u6_9, u6_10, u6_11, u6_12) =>
        l_impl_Roof_places__Roof_reachable_1__TilesNeeded_1_b0 n u6_0 u6_1 u6_2 u6_3 u6_4 u6_5 u6_6 (IntKind.i8.wrap ((u6_7) + (1))) u6_8 u6_9 u6_10 u6_11 u6_12)
      (some (a12))
def s_impl_Roof_places__Roof_reachable_1__TilesNeeded_1 (n : Nat) (a0 : Int) (a1 : Int) (a2 : Int) (a3 : Nat → Int) (a4 : Int) (a5 : Int) (a6 : Int) (a7 : Nat → Int) (a8 : List V) (a9 : Int) : Option (List V) :=
  bnd (l_impl_Roof_places__Roof_reachable_1__TilesNeeded_1_b0 n a4 a5 a6 a7 a8 a9 a1 0 a0 a1 a2 a3 (([] : List V))) fun u8_0 =>
    some (u8_0)
def s_impl_Roof_reachable__TilesNeeded_1 (n : Nat) (a0 : Int) (a1 : Int) (a2 : Int) (a3 : Nat → Int) (a4 : List V) (a5 : Int) : Option (List V) :=
  bnd (s_impl_Roof_places__Roof_reachable_1__TilesNeeded_1 n a0 a1 a2 a3 a0 a1 a2 a3 a4 a5) fun y1_0 =>
    chk (plainV (V.fresh 0 (y1_0)))
      (some (y1_0))
def s_impl_TilesNeeded (n : Nat) (a0 : Int) (a1 : Int) (a2 : Int) (a3 : Nat → Int) (a4 : List V) (a5 : Int) : Option (Int × Int) :=
  bnd (s_impl_ladderCode n a0 a1 a2 a3 a4 a5 (([] : List V))) fun y1_0 =>
    cnd (decide ((y1_0) = (0)))
      (bnd (s_impl_Roof_reachable__TilesNeeded_1 n a0 a1 a2 a3 a4 a5) fun y3_0 =>
        some ((((y3_0).length : Int), 0)))
      (some ((0, y1_0)))
def s_laws_FnExactTilesNeeded (n : Nat) (a0 : Int) (a1 : Int) (a2 : Int) (a3 : Nat → Int) (a4 : List V) (a5 : Int) : Option (Bool) :=
  cnd (decide ((1048576) < (((a4).length : Int))))
    (some (true))
    (bnd (s_laws_toRoof n a0 a1 a2 a3) fun (y2_0, y2_1, y2_2, y2_3) =>
      bnd (s_laws_toInt64S n a4) fun y3_0 =>
        bnd (s_spec_TilesNeeded n y2_0 y2_1 y2_2 y2_3 y3_0 a5) fun (y4_0, y4_1) =>
          bnd (s_laws_toInt64S n a4) fun y5_0 =>
            bnd (s_laws_toRoof n a0 a1 a2 a3) fun (y6_0, y6_1, y6_2, y6_3) =>
              bnd (s_impl_TilesNeeded n y6_0 y6_1 y6_2 y6_3 y5_0 a5) fun (y7_0, y7_1) =>
                cnd (decide ((y7_0) = (y4_0)))
                  (cnd (decide ((y7_1) = (y4_1)))
                    (bnd (s_laws_toInt64S n a4) fun y10_0 =>
                      bnd (s_laws_eqInt64S n y5_0 y10_0) fun y11_0 =>
                        cnd (y11_0)
                          (some (true))
                          (some (false)))
                    (some (false)))
                  (some (false)))
def l_spec_l01Tiles_b0 : Nat → (Int) → (Int) → (Int) → (Nat → Int) → (Int) → (Int) → (List V) → (List V) →  Option (List V)
  | 0, _, _, _, _, _, _, _, _ => none
  | n + 1, a0, a1, a2, a3, a4, a5, a6, a7 =>
    cnd (decide ((a5) < (((a7).length : Int))))
      (chk (inB (a5) (a7).length)
        (bnd (bnd (nth (a7) ((a5).toNat)) as_Pi8_i8Q) fun (e4_0, e4_1) =>
          bnd (s_spec_l01At n a0 a1 a2 a3 e4_0 e4_1) fun y5_0 =>
            cnd (decide ((y5_0) = (a4)))
              (bnd (bnd (nth (a7) ((a5).toNat)) as_Pi8_i8Q) fun (e7_0, e7_1) =>
                chk (decide (((a6).length + ([(V.parts [(V.int .i8 (e7_0)), (V.int .i8 (e7_1))])]).length) * 2 ≤ 140737488355328))
                  (l_spec_l01Tiles_b0 n a0 a1 a2 a3 a4 (IntKind.i64.wrap ((a5) + (1))) (a6 ++ ([(V.parts [(V.int .i8 (e7_0)), (V.int .i8 (e7_1))])])) a7))
              (l_spec_l01Tiles_b0 n a0 a1 a2 a3 a4 (IntKind.i64.wrap ((a5) + (1))) a6 a7)))
      (some (a6))
def s_spec_l01Tiles (n : Nat) (a0 : Int) (a1 : Int) (a2 : Int) (a3 : Nat → Int) (a4 : Int) : Option (List V) :=
  bnd (s_spec_l01All n a0 a1 a2 a3) fun y1_0 =>
    bnd (l_spec_l01Tiles_b0 n a0 a1 a2 a3 a4 0 ([]) y1_0) fun u9_0 =>
      some (u9_0)
def l_spec_PushBack_b0 : Nat → (List V) → (Int) → (Int) → (Int) → (Int) → (Int) → (Nat → Int) → (Int) → (Int) → (Int) → (Nat → Int) → (List V) → (List V) → (Int) → (Int) → (Int) → (Nat → Int) →  Option (Int × Int × Int × (Nat → Int) × List V × Int × Int × Int × (Nat → Int))
  | 0, _, _, _, _, _, _, _, _, _, _, _, _, _, _, _, _, _ => none
  | n + 1, a0, a1, a2, a3, a4, a5, a6, a7, a8, a9, a10, a11, a12, a13, a14, a15, a16 =>
    cnd (decide ((a2) < (((a12).length : Int))))
      (chk (inB (a2) (a12).length)
        (bnd (bnd (nth (a12) ((a2).toNat)) as_Pi8_i8Q) fun (e8_0, e8_1) =>
          bnd (s_spec_l04First n a3 a4 a5 a6 a0 a1 e8_0 e8_1) fun y9_0 =>
            cnd (decide ((0) ≤ (y9_0)))
              (bnd (bnd (nth (a12) ((a2).toNat)) as_Pi8_i8Q) fun (e11_0, e11_1) =>
                bnd (bnd (nth (a12) ((a2).toNat)) as_Pi8_i8Q) fun (e12_0, e12_1) =>
                  bnd (bnd (nth (a12) ((a2).toNat)) as_Pi8_i8Q) fun (e13_0, e13_1) =>
                    bnd (bnd (nth (a12) ((a2).toNat)) as_Pi8_i8Q) fun (e14_0, e14_1) =>
                      chk (inB (e12_0) 8)
                        (chk (inB (e14_1) 8)
                          (bnd (bnd (nth (a12) ((a2).toNat)) as_Pi8_i8Q) fun (e17_0, e17_1) =>
                            chk (decide (((a11).length + ([(V.parts [(V.int .i8 (e17_0)), (V.int .i8 (e17_1))])]).length) * 2 ≤ 140737488355328))
                              (l_spec_PushBack_b0 n a0 a1 (IntKind.i64.wrap ((a2) + (1))) a3 a4 a5 a6 a7 a8 a9 a10 (a11 ++ ([(V.parts [(V.int .i8 (e17_0)), (V.int .i8 (e17_1))])])) a12 a13 a14 a15 (updC (a16) (0 + (e12_0).toNat * 8 + (e14_1).toNat * 1) (0))))))
              (l_spec_PushBack_b0 n a0 a1 (IntKind.i64.wrap ((a2) + (1))) a3 a4 a5 a6 a7 a8 a9 a10 a11 a12 a13 a14 a15 a16)))
      (some ((a7, a8, a9, a10, a11, a13, a14, a15, a16)))
def s_spec_PushBack (n : Nat) (a0 : Int) (a1 : Int) (a2 : Int) (a3 : Nat → Int) (a4 : List V) (a5 : Int) : Option (Int × Int × Int × (Nat → Int) × List V × Int) :=
  bnd (s_spec_l04Reach n a5) fun y1_0 =>
    bnd (s_spec_l04Asked n a0 a1 a2 a3 a4 ([]) ((y1_0))) fun y2_0 =>
      cnd (decide ((y2_0) = (0)))
        (bnd (s_spec_l01Tiles n a0 a1 a2 a3 2) fun y4_0 =>
          chk (plainV (V.fresh 0 (y4_0)))
            (bnd (l_spec_PushBack_b0 n a4 a5 0 a0 a1 a2 a3 0 0 0 (fun _ => 0) ([]) y4_0 a0 a1 a2 a3) fun (u19_0, u19_1, u19_2, u19_3, u19_4, u19_5, u19_6, u19_7, u19_8) =>
              some ((u19_5, u19_6, u19_7, u19_8, u19_4, 0))))
        (some ((0, 0, 0, fun _ => 0, [], y2_0)))
def s_impl_PushBack_1 (n : Nat) (a0 : Int) : Option (Bool) :=
  some ((decide ((a0) = (2))))
def s_impl_Roof_reachable_1__PushBack_1 (n : Nat) (a0 : Int) (a1 : Int) (a2 : Int) (a3 : Int) (a4 : Int) (a5 : Nat → Int) (a6 : List V) (a7 : Int) : Option (Bool) :=
  bnd (s_impl_Roof_kind n a2 a3 a4 a5 a0 a1) fun y1_0 =>
    bnd (s_impl_PushBack_1 n y1_0) fun y2_0 =>
      cnd (y2_0)
        (bnd (s_impl_Roof_ladderOf n a2 a3 a4 a5 a6 a7 a0 a1) fun y4_0 =>
          some ((decide ((y4_0) < (((a6).length : Int))))))
        (some (false))
def l_impl_Roof_places__Roof_reachable_1__PushBack_1_b2 : Nat → (Int) → (Int) → (Int) → (Nat → Int) → (List V) → (Int) → (Int) → (Int) → (Int) → (Int) → (Int) → (Int) → (Int) → (Int) → (Nat → Int) → (List V) →  Option (Int × Int × Int × (Nat → Int) × List V × Int × Int × Int × Int × Int × Int × (Nat → Int) × List V)
  | 0, _, _, _, _, _, _, _, _, _, _, _, _, _, _, _, _ => none
  | n + 1, a0, a1, a2, a3, a4, a5, a6, a7, a8, a9, a10, a11, a12, a13, a14, a15 =>
    cnd (decide ((a10) < (a9)))
      (bnd (s_impl_Roof_reachable_1__PushBack_1 n a6 a10 a0 a1 a2 a3 a4 a5) fun y3_0 =>
        cnd (y3_0)
          (chk (decide (((a15).length + ([(V.parts [(V.int .i8 (a6)), (V.int .i8 (a10))])]).length) * 2 ≤ 140737488355328))
            (l_impl_Roof_places__Roof_reachable_1__PushBack_1_b2 n a0 a1 a2 a3 a4 a5 a6 a7 a8 a9 (IntKind.i8.wrap ((a10) + (1))) a11 a12 a13 a14 (a15 ++ ([(V.parts [(V.int .i8 (a6)), (V.int .i8 (a10))])]))))
          (l_impl_Roof_places__Roof_reachable_1__PushBack_1_b2 n a0 a1 a2 a3 a4 a5 a6 a7 a8 a9 (IntKind.i8.wrap ((a10) + (1))) a11 a12 a13 a14 a15))
      (some ((a0, a1, a2, a3, a4, a5, a7, a8, a11, a12, a13, a14, a15)))
def l_impl_Roof_places__Roof_reachable_1__PushBack_1_b0 : Nat → (Int) → (Int) → (Int) → (Nat → Int) → (List V) → (Int) → (Int) → (Int) → (Int) → (Int) → (Int) → (Nat → Int) → (List V) →  Option (List V)
  | 0, _, _, _, _, _, _, _, _, _, _, _, _, _ => none
  | n + 1, a0, a1, a2, a3, a4, a5, a6, a7, a8, a9, a10, a11, a12 =>
    cnd (decide ((a7) < (a6)))
      (bnd (l_impl_Roof_places__Roof_reachable_1__PushBack_1_b2 n a0 a1 a2 a3 a4 a5 a7 a6 a7 a8 0 a8 a9 a10 a11 a12) fun (u6_0, u6_1, u6_2, u6_3, u6_4, u6_5, u6_6, u6_7, u6_8, u6_9, u6_10, u6_11, u6_12) =>
        l_impl_Roof_places__Roof_reachable_1__PushBack_1_b0 n u6_0 u6_1 u6_2 u6_3 u6_4 u6_5 u6_6 (IntKind.i8.wrap ((u6_7) + (1))) u6_8 u6_9 u6_10 u6_11 u6_12)
      (some (a12))
def s_impl_Roof_places__Roof_reachable_1__PushBack_1 (n : Nat) (a0 : Int) (a1 : Int) (a2 : Int) (a3 : Nat → Int) (a4 : Int) (a5 : Int) (a6 : Int) (a7 : Nat → Int) (a8 : List V) (a9 : Int) : Option (List V) :=
  bnd (l_impl_Roof_places__Roof_reachable_1__PushBack_1_b0 n a4 a5 a6 a7 a8 a9 a1 0 a0 a1 a2 a3 (([] : List V))) fun u8_0 =>
    some (u8_0)
def s_impl_Roof_reachable__PushBack_1 (n : Nat) (a0 : Int) (a1 : Int) (a2 : Int) (a3 : Nat → Int) (a4 : List V) (a5 : Int) : Option (List V) :=
  bnd (s_impl_Roof_places__Roof_reachable_1__PushBack_1 n a0 a1 a2 a3 a0 a1 a2 a3 a4 a5) fun y1_0 =>
    chk (plainV (V.fresh 0 (y1_0)))
      (some (y1_0))
def l_impl_Roof_mended_b0 : Nat → (List V) → (Int) → (Int) → (Int) → (Int) → (Int) → (Nat → Int) → (Int) → (Int) → (Int) → (Nat → Int) →  Option (Int × Int × Int × (Nat → Int) × Int × Int × Int × (Nat → Int))
  | 0, _, _, _, _, _, _, _, _, _, _, _ => none
  | n + 1, a0, a1, a2, a3, a4, a5, a6, a7, a8, a9, a10 =>
    cnd (decide ((a2) < (a1)))
      (bnd (bnd (idx (a0) (a2)) as_Pi8_i8Q) fun (e2_0, e2_1) =>
        bnd (s_impl_Roof_with n a3 a4 a5 a6 e2_0 e2_1 0) fun (y3_0, y3_1, y3_2, y3_3) =>
          l_impl_Roof_mended_b0 n a0 a1 (IntKind.i64.wrap ((a2) + (1))) y3_0 y3_1 y3_2 y3_3 a7 a8 a9 a10)
      (some ((a3, a4, a5, a6, a7, a8, a9, a10)))
def s_impl_Roof_mended (n : Nat) (a0 : Int) (a1 : Int) (a2 : Int) (a3 : Nat → Int) (a4 : List V) : Option (Int × Int × Int × (Nat → Int)) :=
  bnd (l_impl_Roof_mended_b0 n a4 (((a4).length : Int)) 0 a0 a1 a2 a3 0 0 0 (fun _ => 0)) fun (u4_0, u4_1, u4_2, u4_3, u4_4, u4_5, u4_6, u4_7) =>
    some ((u4_0, u4_1, u4_2, u4_3))
def s_impl_PushBack (n : Nat) (a0 : Int) (a1 : Int) (a2 : Int) (a3 : Nat → Int) (a4 : List V) (a5 : Int) : Option (Int × Int × Int × (Nat → Int) × List V × Int) :=
  bnd (s_impl_ladderCode n a0 a1 a2 a3 a4 a5 (([] : List V))) fun y1_0 =>
    cnd (decide ((y1_0) = (0)))
      (bnd (s_impl_Roof_reachable__PushBack_1 n a0 a1 a2 a3 a4 a5) fun y3_0 =>
        bnd (s_impl_Roof_mended n a0 a1 a2 a3 y3_0) fun (y4_0, y4_1, y4_2, y4_3) =>
          some ((y4_0, y4_1, y4_2, y4_3, y3_0, 0)))
      (some ((0, 0, 0, fun _ => 0, ([] : List V), y1_0)))
def l_laws_eqByteA8_b0 : Nat → (Int) → (Nat → Int) → (Nat → Int) →  Option (Sum (Unit) (Bool))
  | 0, _, _, _ => none
  | n + 1, a0, a1, a2 =>
    cnd (decide ((a0) < (8)))
      (chk (inB (a0) 8)
        (cnd (decide (((a1) (0 + (a0).toNat * 1)) = ((a2) (0 + (a0).toNat * 1))))
          (l_laws_eqByteA8_b0 n (IntKind.i64.wrap ((a0) + (1))) a1 a2)
          (some (.inr (false)))))
      (some (.inl (())))
def s_laws_eqByteA8 (n : Nat) (a0 : Nat → Int) (a1 : Nat → Int) : Option (Bool) :=
  bnd (l_laws_eqByteA8_b0 n 0 a0 a1) fun w => match w with
    | .inl _ =>
      some (true)
    | .inr u5_0 =>
      some ((u5_0))
def l_laws_eqByteA8A8_b0 : Nat → (Int) → (Nat → Int) → (Nat → Int) →  Option (Sum (Unit) (Bool))
  | 0, _, _, _ => none
  | n + 1, a0, a1, a2 =>
    cnd (decide ((a0) < (8)))
      (chk (inB (a0) 8)
        (bnd (s_laws_eqByteA8 n ((shiftC (a1) (0 + (a0).toNat * 8))) ((shiftC (a2) (0 + (a0).toNat * 8)))) fun y3_0 =>
          cnd (y3_0)
            (l_laws_eqByteA8A8_b0 n (IntKind.i64.wrap ((a0) + (1))) a1 a2)
            (some (.inr (false)))))
      (some (.inl (())))
def s_laws_eqByteA8A8 (n : Nat) (a0 : Nat → Int) (a1 : Nat → Int) : Option (Bool) :=
  bnd (l_laws_eqByteA8A8_b0 n 0 a0 a1) fun w => match w with
    | .inl _ =>
      some (true)
    | .inr u6_0 =>
      some ((u6_0))
def s_laws_eqRoof (n : Nat) (a0 : Int) (a1 : Int) (a2 : Int) (a3 : Nat → Int) (a4 : Int) (a5 : Int) (a6 : Int) (a7 : Nat → Int) : Option (Bool) :=
  cnd (decide ((a0) = (a4)))
    (cnd (decide ((a1) = (a5)))
      (cnd (decide ((a2) = (a6)))
        (bnd (s_laws_eqByteA8A8 n a3 a7) fun y4_0 =>
          cnd (y4_0)
            (some (true))
            (some (false)))
        (some (false)))
      (some (false)))
    (some (false))
def s_laws_FnExactPushBack (n : Nat) (a0 : Int) (a1 : Int) (a2 : Int) (a3 : Nat → Int) (a4 : List V) (a5 : Int) : Option (Bool) :=
  cnd (decide ((1048576) < (((a4).length : Int))))
    (some (true))
    (bnd (s_laws_toRoof n a0 a1 a2 a3) fun (y2_0, y2_1, y2_2, y2_3) =>
      bnd (s_laws_toInt64S n a4) fun y3_0 =>
        bnd (s_spec_PushBack n y2_0 y2_1 y2_2 y2_3 y3_0 a5) fun (y4_0, y4_1, y4_2, y4_3, y4_4, y4_5) =>
          chk (plainV (V.tup [(V.parts [(V.int .i8 (y4_0)), (V.int .i8 (y4_1)), (V.int .u8 (y4_2)), (V.ints .u8 64 (y4_3))]), (V.fresh 0 (y4_4)), (V.int .i64 (y4_5))]))
            (bnd (s_laws_toInt64S n a4) fun y6_0 =>
              bnd (s_laws_toRoof n a0 a1 a2 a3) fun (y7_0, y7_1, y7_2, y7_3) =>
                bnd (s_impl_PushBack n y7_0 y7_1 y7_2 y7_3 y6_0 a5) fun (y8_0, y8_1, y8_2, y8_3, y8_4, y8_5) =>
                  chk (plainV (V.tup [(V.parts [(V.int .i8 (y8_0)), (V.int .i8 (y8_1)), (V.int .u8 (y8_2)), (V.ints .u8 64 (y8_3))]), (V.fresh 0 (y8_4)), (V.int .i64 (y8_5))]))
                    (bnd (s_laws_eqRoof n y8_0 y8_1 y8_2 y8_3 y4_0 y4_1 y4_2 y4_3) fun y10_0 =>
                      cnd (y10_0)
                        (bnd (s_laws_eqPlaceS n y8_4 y4_4) fun y12_0 =>
                          cnd (y12_0)
                            (cnd (decide ((y8_5) = (y4_5)))
                              (bnd (s_laws_toInt64S n a4) fun y15_0 =>
                                bnd (s_laws_eqInt64S n y6_0 y15_0) fun y16_0 =>
                                  cnd (y16_0)
                                    (bnd (s_laws_markInt64S n y6_0 1) fun (y18_0, y18_1) =>
                                      chk (likeRows (y6_0) (y18_1))
                                        (cnd (decide ((y18_0) < (0)))
                                          (some (false))
                                          (bnd (s_laws_eqRoof n y8_0 y8_1 y8_2 y8_3 y4_0 y4_1 y4_2 y4_3) fun y21_0 =>
                                            cnd (y21_0)
                                              (bnd (s_laws_eqPlaceS n y8_4 y4_4) fun y23_0 =>
                                                cnd (y23_0)
                                                  (bnd (s_laws_markPlaceS n y8_4 1) fun (y25_0, y25_1) =>
                                                    chk (likeRows (y8_4) (y25_1))
                                                      (bnd (s_laws_heldPlaceS n y25_1 1) fun y27_0 =>
                                                        cnd (decide ((y27_0) < (0)))
                                                          (some (false))
                                                          (cnd (decide ((y27_0) = (y25_0)))
                                                            (bnd (s_laws_toRoof n a0 a1 a2 a3) fun (y30_0, y30_1, y30_2, y30_3) =>
                                                              bnd (s_laws_toInt64S n a4) fun y31_0 =>
                                                                bnd (s_impl_PushBack n y30_0 y30_1 y30_2 y30_3 y31_0 a5) fun (y32_0, y32_1, y32_2, y32_3, y32_4, y32_5) =>
                                                                  chk (plainV (V.tup [(V.parts [(V.int .i8 (y32_0)), (V.int .i8 (y32_1)), (V.int .u8 (y32_2)), (V.ints .u8 64 (y32_3))]), (V.fresh 0 (y32_4)), (V.int .i64 (y32_5))]))
                                                                    (bnd (s_laws_eqRoof n y32_0 y32_1 y32_2 y32_3 y4_0 y4_1 y4_2 y4_3) fun y34_0 =>
                                                                      cnd (y34_0)
                                                                        (bnd (s_laws_eqPlaceS n y32_4 y4_4) fun y36_0 =>
                                                                          cnd (y36_0)
                                                                            (cnd (decide ((y32_5) = (y4_5)))
                                                                              (bnd (s_laws_heldPlaceS n y25_1 1) fun y39_0 =>
                                                                                cnd (decide ((y39_0) < (0)))
                                                                                  (some (false))
                                                                                  (cnd (decide ((y39_0) = (y25_0)))
                                                                                    (some (true))
                                                                                    (some (false))))
                                                                              (some (false)))
                                                                            (some (false)))
                                                                        (some (false))))
                                                            (some (false)))))
                                                  (some (false)))
                                              (some (false)))))
                                    (some (false)))
                              (some (false)))
                            (some (false)))
                        (some (false)))))
end Go.Proofs.Ytlnpblomnlppiaa
