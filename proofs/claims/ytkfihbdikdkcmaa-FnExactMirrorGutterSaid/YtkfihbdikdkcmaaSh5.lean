/- What functions of the program answer, in plain Lean: printed by gen.py out of the program. -/
import Derived.Test.YtkfihbdikdkcmaaSh3
namespace Go.Proofs.Ytkfihbdikdkcmaa
open Go
set_option linter.unusedVariables false
set_option linter.unusedSimpArgs false
def s_spec_l00Min (n : Nat) (a0 : Int) (a1 : Int) : Option (Int) :=
  cnd (decide ((a0) < (a1)))
    (some (a0))
    (some (a1))
def l_spec_l06Minute_b0 : Nat → (Int) → (Int) → (Nat → Int) → (Int) → (List V) → (List V) → (Int) → (Nat → Int) →  Option (Int × Int × (Nat → Int) × Int × List V × (Nat → Int))
  | 0, _, _, _, _, _, _, _, _ => none
  | n + 1, a0, a1, a2, a3, a4, a5, a6, a7 =>
    cnd (decide ((a6) < (((a5).length : Int))))
      (chk (inB (a6) 17)
        (bnd (bnd (idx (a5) (a6)) as_i64) fun e3_0 =>
          l_spec_l06Minute_b0 n a0 a1 a2 a3 a4 a5 (IntKind.i64.wrap ((a6) + (1))) (updC (a7) (0 + (a6).toNat * 1) (IntKind.i32.wrap (((a7) (0 + (a6).toNat * 1)) + (IntKind.i32.wrap (e3_0)))))))
      (some ((a0, a1, a2, a3, a4, a7)))
def l_spec_l06Minute_b2 : Nat → (Int) → (Int) → (Nat → Int) → (Int) → (List V) → (Int) → (Int) → (Nat → Int) →  Option (Int × Int × (Nat → Int) × Int × List V × Int × (Nat → Int))
  | 0, _, _, _, _, _, _, _, _ => none
  | n + 1, a0, a1, a2, a3, a4, a5, a6, a7 =>
    cnd (decide ((a6) < (((a4).length : Int))))
      (bnd (bnd (idx (a4) (a6)) as_Pi8_i16Q) fun (e7_0, e7_1) =>
        chk (inB (e7_0) 17)
          (bnd (s_spec_l00Min n (IntKind.i64.wrap ((a7) (0 + (e7_0).toNat * 1))) (IntKind.i64.wrap (e7_1))) fun y9_0 =>
            l_spec_l06Minute_b2 n a0 a1 a2 a3 a4 (IntKind.i64.wrap ((a5) + (y9_0))) (IntKind.i64.wrap ((a6) + (1))) (updC (a7) (0 + (e7_0).toNat * 1) (IntKind.i32.wrap (((a7) (0 + (e7_0).toNat * 1)) - (IntKind.i32.wrap (y9_0)))))))
      (some ((a0, a1, a2, a3, a4, a5, a7)))
def l_spec_l06Minute_b4 : Nat → (Int) → (Int) → (Nat → Int) → (Int) → (List V) → (Int) → (Int) → (Nat → Int) → (Nat → Int) →  Option (Int × Int × (Nat → Int) × Int × List V × Int × (Nat → Int) × (Nat → Int))
  | 0, _, _, _, _, _, _, _, _, _ => none
  | n + 1, a0, a1, a2, a3, a4, a5, a6, a7, a8 =>
    cnd (decide ((a6) < (IntKind.i64.wrap (a0))))
      (bnd (s_spec_l06To n a0 a1 a2 a3 a4 a6) fun y13_0 =>
        cnd (decide ((y13_0) < (0)))
          (chk (inB (a6) 17)
            (l_spec_l06Minute_b4 n a0 a1 a2 a3 a4 a5 (IntKind.i64.wrap ((a6) + (1))) a7 (updC (a8) (0 + (a6).toNat * 1) (IntKind.i32.wrap (((a8) (0 + (a6).toNat * 1)) + ((a7) (0 + (a6).toNat * 1)))))))
          (chk (inB (y13_0) 17)
            (chk (inB (a6) 17)
              (l_spec_l06Minute_b4 n a0 a1 a2 a3 a4 a5 (IntKind.i64.wrap ((a6) + (1))) a7 (updC (a8) (0 + (y13_0).toNat * 1) (IntKind.i32.wrap (((a8) (0 + (y13_0).toNat * 1)) + ((a7) (0 + (a6).toNat * 1)))))))))
      (some ((a0, a1, a2, a3, a4, a5, a7, a8)))
def l_spec_l06Minute_b6 : Nat → (Int) → (Int) → (Nat → Int) → (Int) → (List V) → (Int) → (Int) → (Int) → (Nat → Int) → (Nat → Int) →  Option (Int × Int × (Nat → Int) × (Nat → Int))
  | 0, _, _, _, _, _, _, _, _, _, _ => none
  | n + 1, a0, a1, a2, a3, a4, a5, a6, a7, a8, a9 =>
    cnd (decide ((a7) < (IntKind.i64.wrap (a0))))
      (chk (inB (a7) 17)
        (cnd (decide ((0) < (IntKind.i64.wrap ((IntKind.i64.wrap ((a9) (0 + (a7).toNat * 1))) - (IntKind.i64.wrap (a1))))))
          (l_spec_l06Minute_b6 n a0 a1 a2 a3 a4 a5 (IntKind.i64.wrap ((a6) + (IntKind.i64.wrap ((IntKind.i64.wrap ((a9) (0 + (a7).toNat * 1))) - (IntKind.i64.wrap (a1)))))) (IntKind.i64.wrap ((a7) + (1))) a8 (updC (a9) (0 + (a7).toNat * 1) (IntKind.i32.wrap (a1))))
          (l_spec_l06Minute_b6 n a0 a1 a2 a3 a4 a5 a6 (IntKind.i64.wrap ((a7) + (1))) a8 a9)))
      (some ((a5, a6, a8, a9)))
def s_spec_l06Minute (n : Nat) (a0 : Int) (a1 : Int) (a2 : Nat → Int) (a3 : Int) (a4 : List V) (a5 : Nat → Int) (a6 : List V) : Option (Int × Int × (Nat → Int)) :=
  bnd (l_spec_l06Minute_b0 n a0 a1 a2 a3 a4 a6 0 a5) fun (u4_0, u4_1, u4_2, u4_3, u4_4, u4_5) =>
    bnd (l_spec_l06Minute_b2 n u4_0 u4_1 u4_2 u4_3 u4_4 0 0 u4_5) fun (u10_0, u10_1, u10_2, u10_3, u10_4, u10_5, u10_6) =>
      bnd (l_spec_l06Minute_b4 n u10_0 u10_1 u10_2 u10_3 u10_4 u10_5 0 u10_6 (fun _ => 0)) fun (u18_0, u18_1, u18_2, u18_3, u18_4, u18_5, u18_6, u18_7) =>
        bnd (l_spec_l06Minute_b6 n u18_0 u18_1 u18_2 u18_3 u18_4 u18_5 0 0 u18_6 u18_7) fun (u23_0, u23_1, u23_2, u23_3) =>
          some ((u23_0, u23_1, u23_3))
def l_spec_DrainTime_b0 : Nat → (Int) → (Int) → (Int) → (Nat → Int) → (Int) → (List V) → (Nat → Int) →  Option (Sum (Unit) (Int × Int))
  | 0, _, _, _, _, _, _, _ => none
  | n + 1, a0, a1, a2, a3, a4, a5, a6 =>
    cnd (decide ((a0) ≤ (200)))
      (cnd (allEq 17 (a6) (fun _ => 0))
        (some (.inr ((a0, 0))))
        (bnd (s_spec_l06Minute n a1 a2 a3 a4 a5 a6 ([])) fun (y5_0, y5_1, y5_2) =>
          l_spec_DrainTime_b0 n (IntKind.i64.wrap ((a0) + (1))) a1 a2 a3 a4 a5 y5_2))
      (some (.inl (())))
def s_spec_DrainTime (n : Nat) (a0 : Int) (a1 : Int) (a2 : Nat → Int) (a3 : Int) (a4 : List V) (a5 : Nat → Int) : Option (Int × Int) :=
  bnd (s_spec_l06Water n a0 a1 a2 a3 a4 a5) fun y1_0 =>
    cnd (y1_0)
      (bnd (l_spec_DrainTime_b0 n 0 a0 a1 a2 a3 a4 a5) fun w => match w with
        | .inl _ =>
          some ((0, 6))
        | .inr (u7_0, u7_1) =>
          some ((u7_0, u7_1)))
      (some ((0, 1)))
def s_impl_waterCode (n : Nat) (a0 : Int) (a1 : Int) (a2 : Nat → Int) (a3 : Int) (a4 : List V) (a5 : Nat → Int) (a6 : Bool) : Option (Int) :=
  bnd (s_impl_ValidWater n a0 a1 a2 a3 a4 a5) fun y1_0 =>
    cnd (y1_0)
      (cnd (a6)
        (some (0))
        (some (2)))
      (some (1))
def l_impl_Gutter_minute_b0 : Nat → (List V) → (Int) → (Int) → (Int) → (Int) → (Nat → Int) → (Int) → (List V) → (Nat → Int) → (Nat → Int) →  Option (Int × Int × (Nat → Int) × Int × List V × (Nat → Int) × (Nat → Int))
  | 0, _, _, _, _, _, _, _, _, _, _ => none
  | n + 1, a0, a1, a2, a3, a4, a5, a6, a7, a8, a9 =>
    cnd (decide ((a2) < (a1)))
      (bnd (bnd (idx (a0) (a2)) as_i64) fun e2_0 =>
        chk (inB (a2) 17)
          (l_impl_Gutter_minute_b0 n a0 a1 (IntKind.i64.wrap ((a2) + (1))) a3 a4 a5 a6 a7 (updC (a8) (0 + (a2).toNat * 1) (IntKind.i32.wrap (((a8) (0 + (a2).toNat * 1)) + (IntKind.i32.wrap (e2_0))))) a9))
      (some ((a3, a4, a5, a6, a7, a8, a9)))
def l_impl_Gutter_minute_b2 : Nat → (Int) → (Int) → (List V) → (Int) → (Int) → (Int) → (Int) → (Nat → Int) → (Int) → (List V) → (Nat → Int) → (Nat → Int) →  Option (Int × Int × Int × Int × (Nat → Int) × Int × List V × (Nat → Int) × (Nat → Int))
  | 0, _, _, _, _, _, _, _, _, _, _, _, _ => none
  | n + 1, a0, a1, a2, a3, a4, a5, a6, a7, a8, a9, a10, a11 =>
    cnd (decide ((a4) < (a3)))
      (bnd (bnd (idx (a2) (a4)) as_Pi8_i16Q) fun (e7_0, e7_1) =>
        chk (inB (e7_0) 17)
          (l_impl_Gutter_minute_b2 n (IntKind.i64.wrap ((a0) + (IntKind.i64.wrap (minI ((a10) (0 + (e7_0).toNat * 1)) (IntKind.i32.wrap (e7_1)))))) a1 a2 a3 (IntKind.i64.wrap ((a4) + (1))) a5 a6 a7 a8 a9 (updC (a10) (0 + (e7_0).toNat * 1) (IntKind.i32.wrap (((a10) (0 + (e7_0).toNat * 1)) - (minI ((a10) (0 + (e7_0).toNat * 1)) (IntKind.i32.wrap (e7_1)))))) a11))
      (some ((a0, a1, a5, a6, a7, a8, a9, a10, a11)))
def l_impl_Gutter_minute_b4 : Nat → (Int) → (Int) → (Int) → (Int) → (Int) → (Int) → (Nat → Int) → (Int) → (List V) → (Nat → Int) → (Nat → Int) → (Nat → Int) → (List V) →  Option (Int × Int × Int × Int × (Nat → Int) × Int × List V × (Nat → Int) × (Nat → Int))
  | 0, _, _, _, _, _, _, _, _, _, _, _, _, _ => none
  | n + 1, a0, a1, a2, a3, a4, a5, a6, a7, a8, a9, a10, a11, a12 =>
    cnd (decide ((a3) < (a2)))
      (chk (inB (a3) (a12).length)
        (bnd (bnd (nth (a12) ((a3).toNat)) as_i64) fun e14_0 =>
          bnd (s_impl_Gutter_flowsTo n a4 a5 a6 a7 a8 e14_0) fun y15_0 =>
            cnd (decide ((y15_0) = (-1)))
              (chk (inB (e14_0) 17)
                (l_impl_Gutter_minute_b4 n a0 a1 a2 (IntKind.i64.wrap ((a3) + (1))) a4 a5 a6 a7 a8 a9 a10 (updC (a11) (0 + (e14_0).toNat * 1) (IntKind.i32.wrap (((a11) (0 + (e14_0).toNat * 1)) + ((a9) (0 + (e14_0).toNat * 1))))) a12))
              (chk (inB (y15_0) 17)
                (chk (inB (e14_0) 17)
                  (l_impl_Gutter_minute_b4 n a0 a1 a2 (IntKind.i64.wrap ((a3) + (1))) a4 a5 a6 a7 a8 a9 a10 (updC (a11) (0 + (y15_0).toNat * 1) (IntKind.i32.wrap (((a11) (0 + (y15_0).toNat * 1)) + ((a9) (0 + (e14_0).toNat * 1))))) a12)))))
      (some ((a0, a1, a4, a5, a6, a7, a8, a10, a11)))
def l_impl_Gutter_minute_b6 : Nat → (Int) → (Int) → (Nat → Int) → (Int) → (Int) → (Int) → (Nat → Int) → (Int) → (List V) → (Nat → Int) → (Nat → Int) →  Option (Int × Int × (Nat → Int) × (Nat → Int))
  | 0, _, _, _, _, _, _, _, _, _, _, _ => none
  | n + 1, a0, a1, a2, a3, a4, a5, a6, a7, a8, a9, a10 =>
    cnd (decide ((a3) < (17)))
      (chk (inB (a3) 17)
        (cnd (decide ((0) < (IntKind.i32.wrap (((a2) ((a3).toNat * 1)) - (IntKind.i32.wrap (a5))))))
          (l_impl_Gutter_minute_b6 n a0 (IntKind.i64.wrap ((a1) + (IntKind.i64.wrap (IntKind.i32.wrap (((a2) ((a3).toNat * 1)) - (IntKind.i32.wrap (a5))))))) a2 (IntKind.i64.wrap ((a3) + (1))) a4 a5 a6 a7 a8 a9 (updC (a10) (0 + (a3).toNat * 1) (IntKind.i32.wrap (a5))))
          (l_impl_Gutter_minute_b6 n a0 a1 a2 (IntKind.i64.wrap ((a3) + (1))) a4 a5 a6 a7 a8 a9 a10)))
      (some ((a0, a1, a9, a10)))
def s_impl_Gutter_minute (n : Nat) (a0 : Int) (a1 : Int) (a2 : Nat → Int) (a3 : Int) (a4 : List V) (a5 : Nat → Int) (a6 : List V) : Option ((Nat → Int) × Int × Int) :=
  bnd (l_impl_Gutter_minute_b0 n a6 (((a6).length : Int)) 0 a0 a1 a2 a3 a4 a5 (fun _ => 0)) fun (u4_0, u4_1, u4_2, u4_3, u4_4, u4_5, u4_6) =>
    bnd (l_impl_Gutter_minute_b2 n 0 0 u4_4 (((u4_4).length : Int)) 0 u4_0 u4_1 u4_2 u4_3 u4_4 u4_5 u4_6) fun (u9_0, u9_1, u9_2, u9_3, u9_4, u9_5, u9_6, u9_7, u9_8) =>
      bnd (s_impl_Gutter_cells n u9_2 u9_3 u9_4 u9_5 u9_6) fun y11_0 =>
        bnd (l_impl_Gutter_minute_b4 n u9_0 u9_1 (((y11_0).length : Int)) 0 u9_2 u9_3 u9_4 u9_5 u9_6 u9_7 u9_8 (fun _ => 0) y11_0) fun (u20_0, u20_1, u20_2, u20_3, u20_4, u20_5, u20_6, u20_7, u20_8) =>
          bnd (l_impl_Gutter_minute_b6 n u20_0 u20_1 u20_8 0 u20_2 u20_3 u20_4 u20_5 u20_6 u20_7 u20_8) fun (u25_0, u25_1, u25_2, u25_3) =>
            some ((u25_3, u25_0, u25_1))
def l_impl_DrainTime_b0 : Nat → (Int) → (Int) → (Int) → (Nat → Int) → (Int) → (List V) → (Nat → Int) →  Option (Sum (Unit) (Int × Int))
  | 0, _, _, _, _, _, _, _ => none
  | n + 1, a0, a1, a2, a3, a4, a5, a6 =>
    cnd (decide ((a0) < (201)))
      (cnd (allEq 17 (a6) (fun _ => 0))
        (some (.inr ((a0, 0))))
        (bnd (s_impl_Gutter_minute n a1 a2 a3 a4 a5 a6 (([] : List V))) fun (y5_0, y5_1, y5_2) =>
          l_impl_DrainTime_b0 n (IntKind.i64.wrap ((a0) + (1))) a1 a2 a3 a4 a5 y5_0))
      (some (.inl (())))
def s_impl_DrainTime (n : Nat) (a0 : Int) (a1 : Int) (a2 : Nat → Int) (a3 : Int) (a4 : List V) (a5 : Nat → Int) : Option (Int × Int) :=
  bnd (s_impl_waterCode n a0 a1 a2 a3 a4 a5 true) fun y1_0 =>
    cnd (decide ((y1_0) = (0)))
      (bnd (l_impl_DrainTime_b0 n 0 a0 a1 a2 a3 a4 a5) fun w => match w with
        | .inl _ =>
          some ((0, 6))
        | .inr (u7_0, u7_1) =>
          some ((u7_0, u7_1)))
      (some ((0, y1_0)))
def s_laws_FnExactDrainTime (n : Nat) (a0 : Int) (a1 : Int) (a2 : Nat → Int) (a3 : Int) (a4 : List V) (a5 : Nat → Int) : Option (Bool) :=
  bnd (s_laws_szGutter n a0 a1 a2 a3 a4 1048576) fun y1_0 =>
    cnd (decide ((y1_0) < (0)))
      (some (true))
      (bnd (s_laws_toGutter n a0 a1 a2 a3 a4) fun (y3_0, y3_1, y3_2, y3_3, y3_4) =>
        bnd (s_laws_toWater n a5) fun y4_0 =>
          bnd (s_spec_DrainTime n y3_0 y3_1 y3_2 y3_3 y3_4 y4_0) fun (y5_0, y5_1) =>
            bnd (s_laws_toGutter n a0 a1 a2 a3 a4) fun (y6_0, y6_1, y6_2, y6_3, y6_4) =>
              bnd (s_laws_toWater n a5) fun y7_0 =>
                bnd (s_impl_DrainTime n y6_0 y6_1 y6_2 y6_3 y6_4 y7_0) fun (y8_0, y8_1) =>
                  cnd (decide ((y8_0) = (y5_0)))
                    (cnd (decide ((y8_1) = (y5_1)))
                      (bnd (s_laws_toGutter n a0 a1 a2 a3 a4) fun (y11_0, y11_1, y11_2, y11_3, y11_4) =>
                        bnd (s_laws_eqGutter n y6_0 y6_1 y6_2 y6_3 y6_4 y11_0 y11_1 y11_2 y11_3 y11_4) fun y12_0 =>
                          cnd (y12_0)
                            (some (true))
                            (some (false)))
                      (some (false)))
                    (some (false)))
def l_laws_toInt64S_b0 : Nat → (List V) → (Int) → (List V) →  Option (List V)
  | 0, _, _, _ => none
  | n + 1, a0, a1, a2 =>
    cnd (decide ((a1) < (((a0).length : Int))))
      (bnd (bnd (idx (a0) (a1)) as_i64) fun e3_0 =>
        chk (inB (a1) (a2).length)
          (bnd (bnd (nth (a2) ((a1).toNat)) as_i64) fun e5_0 =>
            l_laws_toInt64S_b0 n a0 (IntKind.i64.wrap ((a1) + (1))) (setNth (a2) ((a1).toNat) (V.int .i64 (e3_0)))))
      (some (a2))
def s_laws_toInt64S (n : Nat) (a0 : List V) : Option (List V) :=
  chk (decide (((a0).length : Int) = ((a0).length : Int)) && decide (0 ≤ ((a0).length : Int)) && decide ((((a0).length : Int)).toNat * 8 ≤ 140737488355328))
    (bnd (l_laws_toInt64S_b0 n a0 0 (List.replicate (((a0).length : Int)).toNat (V.int .i64 (0)))) fun u6_0 =>
      some (u6_0))
def l_spec_l06Rain_b0 : Nat → (Int) → (Int) → (Nat → Int) → (Int) → (List V) → (List V) → (Int) →  Option (Sum (Int × Int × (Nat → Int) × Int × List V × List V) (Bool))
  | 0, _, _, _, _, _, _, _ => none
  | n + 1, a0, a1, a2, a3, a4, a5, a6 =>
    cnd (decide ((a6) < (((a5).length : Int))))
      (bnd (bnd (idx (a5) (a6)) as_i64) fun e2_0 =>
        bnd (s_spec_l06Deep n e2_0) fun y3_0 =>
          cnd (y3_0)
            (l_spec_l06Rain_b0 n a0 a1 a2 a3 a4 a5 (IntKind.i64.wrap ((a6) + (1))))
            (some (.inr (false))))
      (some (.inl ((a0, a1, a2, a3, a4, a5))))
def s_spec_l06Rain (n : Nat) (a0 : Int) (a1 : Int) (a2 : Nat → Int) (a3 : Int) (a4 : List V) (a5 : List V) : Option (Bool) :=
  bnd (l_spec_l06Rain_b0 n a0 a1 a2 a3 a4 a5 0) fun w => match w with
    | .inl (u5_0, u5_1, u5_2, u5_3, u5_4, u5_5) =>
      some ((decide ((((u5_5).length : Int)) = (IntKind.i64.wrap (u5_0)))))
    | .inr u6_0 =>
      some ((u6_0))
def l_spec_l06Over_b0 : Nat → (Int) → (Int) → (Nat → Int) → (Int) → (List V) → (List V) → (Int) → (Nat → Int) →  Option (Sum (Unit) (Int))
  | 0, _, _, _, _, _, _, _, _ => none
  | n + 1, a0, a1, a2, a3, a4, a5, a6, a7 =>
    cnd (decide ((a6) < (200)))
      (bnd (s_spec_l06Minute n a0 a1 a2 a3 a4 a7 a5) fun (y2_0, y2_1, y2_2) =>
        cnd (decide ((0) < (y2_1)))
          (some (.inr (a6)))
          (l_spec_l06Over_b0 n a0 a1 a2 a3 a4 a5 (IntKind.i64.wrap ((a6) + (1))) y2_2))
      (some (.inl (())))
def s_spec_l06Over (n : Nat) (a0 : Int) (a1 : Int) (a2 : Nat → Int) (a3 : Int) (a4 : List V) (a5 : List V) : Option (Int) :=
  bnd (l_spec_l06Over_b0 n a0 a1 a2 a3 a4 a5 0 (fun _ => 0)) fun w => match w with
    | .inl _ =>
      some (-1)
    | .inr u5_0 =>
      some (u5_0)
def s_spec_FirstOver (n : Nat) (a0 : Int) (a1 : Int) (a2 : Nat → Int) (a3 : Int) (a4 : List V) (a5 : List V) : Option (Int × Int) :=
  bnd (s_spec_l06Rain n a0 a1 a2 a3 a4 a5) fun y1_0 =>
    bnd (s_spec_l06Asked n a0 a1 a2 a3 a4 ((y1_0))) fun y2_0 =>
      cnd (decide ((y2_0) = (0)))
        (bnd (s_spec_l06Over n a0 a1 a2 a3 a4 a5) fun y4_0 =>
          cnd (decide ((y4_0) < (0)))
            (some ((0, 6)))
            (some ((y4_0, 0))))
        (some ((0, y2_0)))
def s_impl_isDeep_int64 (n : Nat) (a0 : Int) : Option (Bool) :=
  bnd (s_impl_within_int64 n a0 0 1000) fun y1_0 =>
    some ((y1_0))
def s_impl_areAll_int64_1__isDeep_int64 (n : Nat) (a0 : Int) : Option (Bool) :=
  bnd (s_impl_isDeep_int64 n a0) fun y1_0 =>
    some ((!(y1_0)))
def l_slices_IndexFunc_Sint64_int64__areAll_int64_1__isDeep_int64_b0 : Nat → (List V) → (Int) → (Int) →  Option (Sum (Unit) (Int))
  | 0, _, _, _ => none
  | n + 1, a0, a1, a2 =>
    cnd (decide ((a2) < (a1)))
      (bnd (bnd (idx (a0) (a2)) as_i64) fun e2_0 =>
        bnd (s_impl_areAll_int64_1__isDeep_int64 n e2_0) fun y3_0 =>
          cnd (y3_0)
            (some (.inr (a2)))
            (l_slices_IndexFunc_Sint64_int64__areAll_int64_1__isDeep_int64_b0 n a0 a1 (IntKind.i64.wrap ((a2) + (1)))))
      (some (.inl (())))
def s_slices_IndexFunc_Sint64_int64__areAll_int64_1__isDeep_int64 (n : Nat) (a0 : List V) : Option (Int) :=
  bnd (l_slices_IndexFunc_Sint64_int64__areAll_int64_1__isDeep_int64_b0 n a0 (((a0).length : Int)) 0) fun w => match w with
    | .inl _ =>
      some (-1)
    | .inr u6_0 =>
      some (u6_0)
def s_slices_ContainsFunc_Sint64_int64__areAll_int64_1__isDeep_int64 (n : Nat) (a0 : List V) : Option (Bool) :=
  bnd (s_slices_IndexFunc_Sint64_int64__areAll_int64_1__isDeep_int64 n a0) fun y1_0 =>
    some ((decide ((0) ≤ (y1_0))))
def s_impl_areAll_int64__isDeep_int64 (n : Nat) (a0 : List V) : Option (Bool) :=
  bnd (s_slices_ContainsFunc_Sint64_int64__areAll_int64_1__isDeep_int64 n a0) fun y1_0 =>
    some ((!(y1_0)))
def s_impl_Gutter_isRain (n : Nat) (a0 : Int) (a1 : Int) (a2 : Nat → Int) (a3 : Int) (a4 : List V) (a5 : List V) : Option (Bool) :=
  cnd (decide ((((a5).length : Int)) = (IntKind.i64.wrap (a0))))
    (bnd (s_impl_areAll_int64__isDeep_int64 n a5) fun y2_0 =>
      some ((y2_0)))
    (some (false))
def l_impl_Gutter_firstOver_b0 : Nat → (List V) → (Int) → (Int) → (Int) → (Nat → Int) → (Int) → (List V) → (Nat → Int) →  Option (Sum (Unit) (Int))
  | 0, _, _, _, _, _, _, _, _ => none
  | n + 1, a0, a1, a2, a3, a4, a5, a6, a7 =>
    cnd (decide ((a1) < (200)))
      (bnd (s_impl_Gutter_minute n a2 a3 a4 a5 a6 a7 a0) fun (y2_0, y2_1, y2_2) =>
        cnd (decide ((0) < (y2_2)))
          (some (.inr (a1)))
          (l_impl_Gutter_firstOver_b0 n a0 (IntKind.i64.wrap ((a1) + (1))) a2 a3 a4 a5 a6 y2_0))
      (some (.inl (())))
def s_impl_Gutter_firstOver (n : Nat) (a0 : Int) (a1 : Int) (a2 : Nat → Int) (a3 : Int) (a4 : List V) (a5 : List V) : Option (Int) :=
  bnd (l_impl_Gutter_firstOver_b0 n a5 0 a0 a1 a2 a3 a4 (fun _ => 0)) fun w => match w with
    | .inl _ =>
      some (200)
    | .inr u5_0 =>
      some (u5_0)
def s_impl_FirstOver (n : Nat) (a0 : Int) (a1 : Int) (a2 : Nat → Int) (a3 : Int) (a4 : List V) (a5 : List V) : Option (Int × Int) :=
  bnd (s_impl_Gutter_isRain n a0 a1 a2 a3 a4 a5) fun y1_0 =>
    bnd (s_impl_gutterCode n a0 a1 a2 a3 a4 ((y1_0))) fun y2_0 =>
      cnd (decide ((y2_0) = (0)))
        (bnd (s_impl_Gutter_firstOver n a0 a1 a2 a3 a4 a5) fun y4_0 =>
          cnd (decide ((y4_0) = (200)))
            (some ((0, 6)))
            (some ((y4_0, 0))))
        (some ((0, y2_0)))
def s_laws_FnExactFirstOver (n : Nat) (a0 : Int) (a1 : Int) (a2 : Nat → Int) (a3 : Int) (a4 : List V) (a5 : List V) : Option (Bool) :=
  cnd (decide ((1048576) < (((a5).length : Int))))
    (some (true))
    (bnd (s_laws_szGutter n a0 a1 a2 a3 a4 1048576) fun y2_0 =>
      cnd (decide ((y2_0) < (0)))
        (some (true))
        (bnd (s_laws_toGutter n a0 a1 a2 a3 a4) fun (y4_0, y4_1, y4_2, y4_3, y4_4) =>
          bnd (s_laws_toInt64S n a5) fun y5_0 =>
            bnd (s_spec_FirstOver n y4_0 y4_1 y4_2 y4_3 y4_4 y5_0) fun (y6_0, y6_1) =>
              bnd (s_laws_toGutter n a0 a1 a2 a3 a4) fun (y7_0, y7_1, y7_2, y7_3, y7_4) =>
                bnd (s_laws_toInt64S n a5) fun y8_0 =>
                  bnd (s_impl_FirstOver n y7_0 y7_1 y7_2 y7_3 y7_4 y8_0) fun (y9_0, y9_1) =>
                    cnd (decide ((y9_0) = (y6_0)))
                      (cnd (decide ((y9_1) = (y6_1)))
                        (bnd (s_laws_toGutter n a0 a1 a2 a3 a4) fun (y12_0, y12_1, y12_2, y12_3, y12_4) =>
                          bnd (s_laws_eqGutter n y7_0 y7_1 y7_2 y7_3 y7_4 y12_0 y12_1 y12_2 y12_3 y12_4) fun y13_0 =>
                            cnd (y13_0)
                              (bnd (s_laws_toInt64S n a5) fun y15_0 =>
                                bnd (s_laws_eqInt64S n y8_0 y15_0) fun y16_0 =>
                                  cnd (y16_0)
                                    (some (true))
                                    (some (false)))
                              (some (false)))
                        (some (false)))
                      (some (false))))
end Go.Proofs.Ytkfihbdikdkcmaa
