/- What functions of the program answer, in plain Lean: printed by gen.py out of the program. -/
import Derived.Test.YtdhcfdiggcgmhaaSh1
namespace Go.Proofs.Ytdhcfdiggcgmhaa
open Go
set_option linter.unusedVariables false
set_option linter.unusedSimpArgs false
def as_Pi8_i8Q : V → Option (Int × Int)
  | (V.parts [(V.int .i8 (e0)), (V.int .i8 (e1))]) => some (e0, e1)
  | _ => none
theorem as_Pi8_i8Q_some {x : Option V} {e0 : Int} {e1 : Int} (h : bnd x as_Pi8_i8Q = some (e0, e1)) : x = some (V.parts [(V.int .i8 (e0)), (V.int .i8 (e1))]) := by
  obtain ⟨v, rfl, k⟩ := bnd_some h
  unfold as_Pi8_i8Q at k
  split at k
  · simp only [Option.some.injEq, Prod.mk.injEq] at k
    obtain ⟨rfl, rfl⟩ := k
    rfl
  · cases k
def l_spec_l01All_b2 : Nat → (Int) → (Int) → (Int) → (Nat → Int) → (Int) → (Int) → (List V) →  Option (Int × Int × Int × (Nat → Int) × Int × List V)
  | 0, _, _, _, _, _, _, _ => none
  | n + 1, a0, a1, a2, a3, a4, a5, a6 =>
    cnd (decide ((a5) < (a0)))
      (chk (decide (((a6).length + ([(V.parts [(V.int .i8 (a4)), (V.int .i8 (a5))])]).length) * 2 ≤ 140737488355328))
        (l_spec_l01All_b2 n a0 a1 a2 a3 a4 (IntKind.i8.wrap ((a5) + (1))) (a6 ++ ([(V.parts [(V.int .i8 (a4)), (V.int .i8 (a5))])]))))
      (some ((a0, a1, a2, a3, a4, a6)))
def l_spec_l01All_b0 : Nat → (Int) → (Int) → (Int) → (Nat → Int) → (Int) → (List V) →  Option (List V)
  | 0, _, _, _, _, _, _ => none
  | n + 1, a0, a1, a2, a3, a4, a5 =>
    cnd (decide ((a4) < (a1)))
      (bnd (l_spec_l01All_b2 n a0 a1 a2 a3 a4 0 a5) fun (u4_0, u4_1, u4_2, u4_3, u4_4, u4_5) =>
        l_spec_l01All_b0 n u4_0 u4_1 u4_2 u4_3 (IntKind.i8.wrap ((u4_4) + (1))) u4_5)
      (some (a5))
def s_spec_l01All (n : Nat) (a0 : Int) (a1 : Int) (a2 : Int) (a3 : Nat → Int) : Option (List V) :=
  bnd (l_spec_l01All_b0 n a0 a1 a2 a3 0 ([])) fun u6_0 =>
    some (u6_0)
def s_spec_l01First (n : Nat) (a0 : Int) (a1 : Int) (a2 : Int) (a3 : Nat → Int) (a4 : Int) (a5 : Int) : Option (Int) :=
  bnd (s_spec_l01By n a0 a1 a2 a3 (IntKind.i64.wrap (a4))) fun y1_0 =>
    some (IntKind.i64.wrap ((IntKind.i64.wrap ((2) * (IntKind.i64.wrap (a5)))) + (y1_0)))
def l_spec_l02Wet_b0 : Nat → (Int) → (Int) → (Int) → (Nat → Int) → (Bool) → (Int) → (Nat → Int) → (List V) → (List V) →  Option (List V)
  | 0, _, _, _, _, _, _, _, _, _ => none
  | n + 1, a0, a1, a2, a3, a4, a5, a6, a7, a8 =>
    cnd (decide ((a5) < (((a8).length : Int))))
      (chk (inB (a5) (a8).length)
        (bnd (bnd (nth (a8) ((a5).toNat)) as_Pi8_i8Q) fun (e5_0, e5_1) =>
          bnd (s_spec_l01First n a0 a1 a2 a3 e5_0 e5_1) fun y6_0 =>
            bnd (bnd (nth (a8) ((a5).toNat)) as_Pi8_i8Q) fun (e7_0, e7_1) =>
              bnd (bnd (nth (a8) ((a5).toNat)) as_Pi8_i8Q) fun (e8_0, e8_1) =>
                chk (inB (e8_0) 8)
                  (chk (inB (y6_0) 17)
                    (cnd (decide ((0) < ((a6) (0 + (e8_0).toNat * 17 + (y6_0).toNat * 1))))
                      (cnd (true == (a4))
                        (bnd (bnd (nth (a8) ((a5).toNat)) as_Pi8_i8Q) fun (e13_0, e13_1) =>
                          chk (decide (((a7).length + ([(V.parts [(V.int .i8 (e13_0)), (V.int .i8 (e13_1))])]).length) * 2 ≤ 140737488355328))
                            (l_spec_l02Wet_b0 n a0 a1 a2 a3 ((a4)) (IntKind.i64.wrap ((a5) + (1))) a6 (a7 ++ ([(V.parts [(V.int .i8 (e13_0)), (V.int .i8 (e13_1))])])) a8))
                        (l_spec_l02Wet_b0 n a0 a1 a2 a3 ((a4)) (IntKind.i64.wrap ((a5) + (1))) a6 a7 a8))
                      (bnd (bnd (nth (a8) ((a5).toNat)) as_Pi8_i8Q) fun (e15_0, e15_1) =>
                        bnd (bnd (nth (a8) ((a5).toNat)) as_Pi8_i8Q) fun (e16_0, e16_1) =>
                          chk (inB (e16_0) 8)
                            (chk (inB (IntKind.i64.wrap ((y6_0) + (1))) 17)
                              (cnd ((decide ((0) < ((a6) (0 + (e16_0).toNat * 17 + (IntKind.i64.wrap ((y6_0) + (1))).toNat * 1)))) == (a4))
                                (bnd (bnd (nth (a8) ((a5).toNat)) as_Pi8_i8Q) fun (e20_0, e20_1) =>
                                  chk (decide (((a7).length + ([(V.parts [(V.int .i8 (e20_0)), (V.int .i8 (e20_1))])]).length) * 2 ≤ 140737488355328))
                                    (l_spec_l02Wet_b0 n a0 a1 a2 a3 ((a4)) (IntKind.i64.wrap ((a5) + (1))) a6 (a7 ++ ([(V.parts [(V.int .i8 (e20_0)), (V.int .i8 (e20_1))])])) a8))
                                (l_spec_l02Wet_b0 n a0 a1 a2 a3 ((a4)) (IntKind.i64.wrap ((a5) + (1))) a6 a7 a8))))))))
      (some (a7))
def s_spec_l02Wet (n : Nat) (a0 : Int) (a1 : Int) (a2 : Int) (a3 : Nat → Int) (a4 : Nat → Int) (a5 : Bool) : Option (List V) :=
  bnd (s_spec_l02Run n a0 a1 a2 a3 a4) fun (y1_0, y1_1, y1_2) =>
    bnd (s_spec_l01All n a0 a1 a2 a3) fun y2_0 =>
      bnd (l_spec_l02Wet_b0 n a0 a1 a2 a3 ((a5)) 0 y1_1 ([]) y2_0) fun u22_0 =>
        some (u22_0)
def s_spec_WetTiles (n : Nat) (a0 : Int) (a1 : Int) (a2 : Int) (a3 : Nat → Int) (a4 : Nat → Int) : Option (List V × Int) :=
  bnd (s_spec_l02Ok n a0 a1 a2 a3 a4) fun y1_0 =>
    cnd (y1_0)
      (bnd (s_spec_l02Wet n a0 a1 a2 a3 a4 true) fun y3_0 =>
        chk (plainV (V.fresh 0 (y3_0)))
          (some ((y3_0, 0))))
      (some (([], 1)))
def s_impl_WetTiles_1 (n : Nat) (a0 : Int) (a1 : Int) (a2 : List V) (a3 : List V) : Option (Bool) :=
  chk (mapFine (true, [IntKind.i8, IntKind.i8]) (a2) (a3))
    (chk (keyIs (true, [IntKind.i8, IntKind.i8]) (V.parts [(V.int .i8 (a0)), (V.int .i8 (a1))]))
      (some ((mapGetB (V.parts [(V.int .i8 (a0)), (V.int .i8 (a1))]) (a2) (a3)))))
def l_impl_Roof_places__WetTiles_1_b2 : Nat → (List V) → (List V) → (Int) → (Int) → (Int) → (Int) → (Int) → (Int) → (Int) → (Int) → (Nat → Int) → (List V) →  Option (List V × List V × Int × Int × Int × Int × Int × (Nat → Int) × List V)
  | 0, _, _, _, _, _, _, _, _, _, _, _, _ => none
  | n + 1, a0, a1, a2, a3, a4, a5, a6, a7, a8, a9, a10, a11 =>
    cnd (decide ((a6) < (a5)))
      (bnd (s_impl_WetTiles_1 n a2 a6 a0 a1) fun y3_0 =>
        cnd (y3_0)
          (chk (decide (((a11).length + ([(V.parts [(V.int .i8 (a2)), (V.int .i8 (a6))])]).length) * 2 ≤ 140737488355328))
            (l_impl_Roof_places__WetTiles_1_b2 n a0 a1 a2 a3 a4 a5 (IntKind.i8.wrap ((a6) + (1))) a7 a8 a9 a10 (a11 ++ ([(V.parts [(V.int .i8 (a2)), (V.int .i8 (a6))])]))))
          (l_impl_Roof_places__WetTiles_1_b2 n a0 a1 a2 a3 a4 a5 (IntKind.i8.wrap ((a6) + (1))) a7 a8 a9 a10 a11))
      (some ((a0, a1, a3, a4, a7, a8, a9, a10, a11)))
def l_impl_Roof_places__WetTiles_1_b0 : Nat → (List V) → (List V) → (Int) → (Int) → (Int) → (Int) → (Int) → (Nat → Int) → (List V) →  Option (List V)
  | 0, _, _, _, _, _, _, _, _, _ => none
  | n + 1, a0, a1, a2, a3, a4, a5, a6, a7, a8 =>
    cnd (decide ((a3) < (a2)))
      (bnd (l_impl_Roof_places__WetTiles_1_b2 n a0 a1 a3 a2 a3 a4 0 a4 a5 a6 a7 a8) fun (u6_0, u6_1, u6_2, u6_3, u6_4, u6_5, u6_6, u6_7, u6_8) =>
        l_impl_Roof_places__WetTiles_1_b0 n u6_0 u6_1 u6_2 (IntKind.i8.wrap ((u6_3) + (1))) u6_4 u6_5 u6_6 u6_7 u6_8)
      (some (a8))
def s_impl_Roof_places__WetTiles_1 (n : Nat) (a0 : Int) (a1 : Int) (a2 : Int) (a3 : Nat → Int) (a4 : List V) (a5 : List V) : Option (List V) :=
  bnd (l_impl_Roof_places__WetTiles_1_b0 n a4 a5 a1 0 a0 a1 a2 a3 (([] : List V))) fun u8_0 =>
    some (u8_0)
def s_impl_WetTiles (n : Nat) (a0 : Int) (a1 : Int) (a2 : Int) (a3 : Nat → Int) (a4 : Nat → Int) : Option (List V × Int) :=
  bnd (s_impl_ValidRain n a0 a1 a2 a3 a4) fun y1_0 =>
    cnd (y1_0)
      (bnd (s_impl_Roof_run n a0 a1 a2 a3 a4) fun (y3_0, y3_1, y3_2, y3_3) =>
        bnd (s_impl_Roof_places__WetTiles_1 n a0 a1 a2 a3 y3_2 y3_3) fun y4_0 =>
          chk (plainV (V.fresh 0 (y4_0)))
            (some ((y4_0, 0))))
      (some ((([] : List V), 1)))
def s_laws_eqPlace (n : Nat) (a0 : Int) (a1 : Int) (a2 : Int) (a3 : Int) : Option (Bool) :=
  cnd (decide ((a0) = (a2)))
    (cnd (decide ((a1) = (a3)))
      (some (true))
      (some (false)))
    (some (false))
def l_laws_eqPlaceS_b0 : Nat → (List V) → (List V) → (Int) →  Option (Sum (Unit) (Bool))
  | 0, _, _, _ => none
  | n + 1, a0, a1, a2 =>
    cnd (decide ((a2) < (((a0).length : Int))))
      (bnd (bnd (idx (a0) (a2)) as_Pi8_i8Q) fun (e3_0, e3_1) =>
        bnd (bnd (idx (a1) (a2)) as_Pi8_i8Q) fun (e4_0, e4_1) =>
          bnd (s_laws_eqPlace n e3_0 e3_1 e4_0 e4_1) fun y5_0 =>
            cnd (y5_0)
              (l_laws_eqPlaceS_b0 n a0 a1 (IntKind.i64.wrap ((a2) + (1))))
              (some (.inr (false))))
      (some (.inl (())))
def s_laws_eqPlaceS (n : Nat) (a0 : List V) (a1 : List V) : Option (Bool) :=
  cnd (decide ((((a0).length : Int)) = (((a1).length : Int))))
    (bnd (l_laws_eqPlaceS_b0 n a0 a1 0) fun w => match w with
      | .inl _ =>
        some (true)
      | .inr u8_0 =>
        some ((u8_0)))
    (some (false))
def l_laws_markPlaceS_b0 : Nat → (Int) → (Int) → (List V) →  Option (Int × List V)
  | 0, _, _, _ => none
  | n + 1, a0, a1, a2 =>
    cnd (decide ((a1) < (((a2).length : Int))))
      (chk (inB (a1) (a2).length)
        (bnd (bnd (nth (a2) ((a1).toNat)) as_Pi8_i8Q) fun (e3_0, e3_1) =>
          bnd (bnd (nth (a2) ((a1).toNat)) as_Pi8_i8Q) fun (e4_0, e4_1) =>
            chk (inB (a1) (setNth (a2) ((a1).toNat) (V.parts [(V.int .i8 (IntKind.i8.wrap (a0))), (V.int .i8 (e4_1))])).length)
              (bnd (bnd (nth (setNth (a2) ((a1).toNat) (V.parts [(V.int .i8 (IntKind.i8.wrap (a0))), (V.int .i8 (e4_1))])) ((a1).toNat)) as_Pi8_i8Q) fun (e6_0, e6_1) =>
                bnd (bnd (nth (setNth (a2) ((a1).toNat) (V.parts [(V.int .i8 (IntKind.i8.wrap (a0))), (V.int .i8 (e4_1))])) ((a1).toNat)) as_Pi8_i8Q) fun (e7_0, e7_1) =>
                  l_laws_markPlaceS_b0 n (IntKind.i64.wrap ((IntKind.i64.wrap ((a0) + (1))) + (1))) (IntKind.i64.wrap ((a1) + (1))) (setNth (setNth (a2) ((a1).toNat) (V.parts [(V.int .i8 (IntKind.i8.wrap (a0))), (V.int .i8 (e4_1))])) ((a1).toNat) (V.parts [(V.int .i8 (e7_0)), (V.int .i8 (IntKind.i8.wrap (IntKind.i64.wrap ((a0) + (1)))))])))))
      (some ((a0, a2)))
def s_laws_markPlaceS (n : Nat) (a0 : List V) (a1 : Int) : Option (Int × List V) :=
  bnd (l_laws_markPlaceS_b0 n a1 0 a0) fun (u8_0, u8_1) =>
    some ((u8_0, u8_1))
def l_laws_heldPlaceS_b0 : Nat → (List V) → (Int) → (Int) →  Option (Sum (Int) (Int))
  | 0, _, _, _ => none
  | n + 1, a0, a1, a2 =>
    cnd (decide ((a2) < (((a0).length : Int))))
      (bnd (bnd (idx (a0) (a2)) as_Pi8_i8Q) fun (e2_0, e2_1) =>
        cnd (decide ((e2_0) = (IntKind.i8.wrap (a1))))
          (bnd (bnd (idx (a0) (a2)) as_Pi8_i8Q) fun (e4_0, e4_1) =>
            cnd (decide ((e4_1) = (IntKind.i8.wrap (IntKind.i64.wrap ((a1) + (1))))))
              (l_laws_heldPlaceS_b0 n a0 (IntKind.i64.wrap ((IntKind.i64.wrap ((a1) + (1))) + (1))) (IntKind.i64.wrap ((a2) + (1))))
              (some (.inr (-1))))
          (some (.inr (-1))))
      (some (.inl (a1)))
def s_laws_heldPlaceS (n : Nat) (a0 : List V) (a1 : Int) : Option (Int) :=
  bnd (l_laws_heldPlaceS_b0 n a0 a1 0) fun w => match w with
    | .inl u6_0 =>
      some (u6_0)
    | .inr u7_0 =>
      some (u7_0)
def s_laws_FnExactWetTiles (n : Nat) (a0 : Int) (a1 : Int) (a2 : Int) (a3 : Nat → Int) (a4 : Nat → Int) : Option (Bool) :=
  bnd (s_laws_toRoof n a0 a1 a2 a3) fun (y1_0, y1_1, y1_2, y1_3) =>
    bnd (s_laws_toRain n a4) fun y2_0 =>
      bnd (s_spec_WetTiles n y1_0 y1_1 y1_2 y1_3 y2_0) fun (y3_0, y3_1) =>
        bnd (s_laws_toRoof n a0 a1 a2 a3) fun (y4_0, y4_1, y4_2, y4_3) =>
          bnd (s_laws_toRain n a4) fun y5_0 =>
            bnd (s_impl_WetTiles n y4_0 y4_1 y4_2 y4_3 y5_0) fun (y6_0, y6_1) =>
              bnd (s_laws_eqPlaceS n y6_0 y3_0) fun y7_0 =>
                cnd (y7_0)
                  (cnd (decide ((y6_1) = (y3_1)))
                    (bnd (s_laws_markPlaceS n y6_0 1) fun (y10_0, y10_1) =>
                      chk (likeRows (y6_0) (y10_1))
                        (bnd (s_laws_heldPlaceS n y10_1 1) fun y12_0 =>
                          cnd (decide ((y12_0) < (0)))
                            (some (false))
                            (cnd (decide ((y12_0) = (y10_0)))
                              (bnd (s_laws_toRoof n a0 a1 a2 a3) fun (y15_0, y15_1, y15_2, y15_3) =>
                                bnd (s_laws_toRain n a4) fun y16_0 =>
                                  bnd (s_impl_WetTiles n y15_0 y15_1 y15_2 y15_3 y16_0) fun (y17_0, y17_1) =>
                                    bnd (s_laws_eqPlaceS n y17_0 y3_0) fun y18_0 =>
                                      cnd (y18_0)
                                        (cnd (decide ((y17_1) = (y3_1)))
                                          (bnd (s_laws_heldPlaceS n y10_1 1) fun y21_0 =>
                                            cnd (decide ((y21_0) < (0)))
                                              (some (false))
                                              (cnd (decide ((y21_0) = (y10_0)))
                                                (some (true))
                                                (some (false))))
                                          (some (false)))
                                        (some (false)))
                              (some (false)))))
                    (some (false)))
                  (some (false))
def s_spec_DryTiles (n : Nat) (a0 : Int) (a1 : Int) (a2 : Int) (a3 : Nat → Int) (a4 : Nat → Int) : Option (List V × Int) :=
  bnd (s_spec_l02Ok n a0 a1 a2 a3 a4) fun y1_0 =>
    cnd (y1_0)
      (bnd (s_spec_l02Wet n a0 a1 a2 a3 a4 false) fun y3_0 =>
        chk (plainV (V.fresh 0 (y3_0)))
          (some ((y3_0, 0))))
      (some (([], 1)))
def s_impl_DryTiles_1 (n : Nat) (a0 : Int) (a1 : Int) (a2 : List V) (a3 : List V) : Option (Bool) :=
  chk (mapFine (true, [IntKind.i8, IntKind.i8]) (a2) (a3))
    (chk (keyIs (true, [IntKind.i8, IntKind.i8]) (V.parts [(V.int .i8 (a0)), (V.int .i8 (a1))]))
      (some ((!(mapGetB (V.parts [(V.int .i8 (a0)), (V.int .i8 (a1))]) (a2) (a3))))))
def l_impl_Roof_places__DryTiles_1_b2 : Nat → (List V) → (List V) → (Int) → (Int) → (Int) → (Int) → (Int) → (Int) → (Int) → (Int) → (Nat → Int) → (List V) →  Option (List V × List V × Int × Int × Int × Int × Int × (Nat → Int) × List V)
  | 0, _, _, _, _, _, _, _, _, _, _, _, _ => none
  | n + 1, a0, a1, a2, a3, a4, a5, a6, a7, a8, a9, a10, a11 =>
    cnd (decide ((a6) < (a5)))
      (bnd (s_impl_DryTiles_1 n a2 a6 a0 a1) fun y3_0 =>
        cnd (y3_0)
          (chk (decide (((a11).length + ([(V.parts [(V.int .i8 (a2)), (V.int .i8 (a6))])]).length) * 2 ≤ 140737488355328))
            (l_impl_Roof_places__DryTiles_1_b2 n a0 a1 a2 a3 a4 a5 (IntKind.i8.wrap ((a6) + (1))) a7 a8 a9 a10 (a11 ++ ([(V.parts [(V.int .i8 (a2)), (V.int .i8 (a6))])]))))
          (l_impl_Roof_places__DryTiles_1_b2 n a0 a1 a2 a3 a4 a5 (IntKind.i8.wrap ((a6) + (1))) a7 a8 a9 a10 a11))
      (some ((a0, a1, a3, a4, a7, a8, a9, a10, a11)))
def l_impl_Roof_places__DryTiles_1_b0 : Nat → (List V) → (List V) → (Int) → (Int) → (Int) → (Int) → (Int) → (Nat → Int) → (List V) →  Option (List V)
  | 0, _, _, _, _, _, _, _, _, _ => none
  | n + 1, a0, a1, a2, a3, a4, a5, a6, a7, a8 =>
    cnd (decide ((a3) < (a2)))
      (bnd (l_impl_Roof_places__DryTiles_1_b2 n a0 a1 a3 a2 a3 a4 0 a4 a5 a6 a7 a8) fun (u6_0, u6_1, u6_2, u6_3, u6_4, u6_5, u6_6, u6_7, u6_8) =>
        l_impl_Roof_places__DryTiles_1_b0 n u6_0 u6_1 u6_2 (IntKind.i8.wrap ((u6_3) + (1))) u6_4 u6_5 u6_6 u6_7 u6_8)
      (some (a8))
def s_impl_Roof_places__DryTiles_1 (n : Nat) (a0 : Int) (a1 : Int) (a2 : Int) (a3 : Nat → Int) (a4 : List V) (a5 : List V) : Option (List V) :=
  bnd (l_impl_Roof_places__DryTiles_1_b0 n a4 a5 a1 0 a0 a1 a2 a3 (([] : List V))) fun u8_0 =>
    some (u8_0)
def s_impl_DryTiles (n : Nat) (a0 : Int) (a1 : Int) (a2 : Int) (a3 : Nat → Int) (a4 : Nat → Int) : Option (List V × Int) :=
  bnd (s_impl_ValidRain n a0 a1 a2 a3 a4) fun y1_0 =>
    cnd (y1_0)
      (bnd (s_impl_Roof_run n a0 a1 a2 a3 a4) fun (y3_0, y3_1, y3_2, y3_3) =>
        bnd (s_impl_Roof_places__DryTiles_1 n a0 a1 a2 a3 y3_2 y3_3) fun y4_0 =>
          chk (plainV (V.fresh 0 (y4_0)))
            (some ((y4_0, 0))))
      (some ((([] : List V), 1)))
def s_laws_FnExactDryTiles (n : Nat) (a0 : Int) (a1 : Int) (a2 : Int) (a3 : Nat → Int) (a4 : Nat → Int) : Option (Bool) :=
  bnd (s_laws_toRoof n a0 a1 a2 a3) fun (y1_0, y1_1, y1_2, y1_3) =>
    bnd (s_laws_toRain n a4) fun y2_0 =>
      bnd (s_spec_DryTiles n y1_0 y1_1 y1_2 y1_3 y2_0) fun (y3_0, y3_1) =>
        bnd (s_laws_toRoof n a0 a1 a2 a3) fun (y4_0, y4_1, y4_2, y4_3) =>
          bnd (s_laws_toRain n a4) fun y5_0 =>
            bnd (s_impl_DryTiles n y4_0 y4_1 y4_2 y4_3 y5_0) fun (y6_0, y6_1) =>
              bnd (s_laws_eqPlaceS n y6_0 y3_0) fun y7_0 =>
                cnd (y7_0)
                  (cnd (decide ((y6_1) = (y3_1)))
                    (bnd (s_laws_markPlaceS n y6_0 1) fun (y10_0, y10_1) =>
                      chk (likeRows (y6_0) (y10_1))
                        (bnd (s_laws_heldPlaceS n y10_1 1) fun y12_0 =>
                          cnd (decide ((y12_0) < (0)))
                            (some (false))
                            (cnd (decide ((y12_0) = (y10_0)))
                              (bnd (s_laws_toRoof n a0 a1 a2 a3) fun (y15_0, y15_1, y15_2, y15_3) =>
                                bnd (s_laws_toRain n a4) fun y16_0 =>
                                  bnd (s_impl_DryTiles n y15_0 y15_1 y15_2 y15_3 y16_0) fun (y17_0, y17_1) =>
                                    bnd (s_laws_eqPlaceS n y17_0 y3_0) fun y18_0 =>
                                      cnd (y18_0)
                                        (cnd (decide ((y17_1) = (y3_1)))
                                          (bnd (s_laws_heldPlaceS n y10_1 1) fun y21_0 =>
                                            cnd (decide ((y21_0) < (0)))
                                              (some (false))
                                              (cnd (decide ((y21_0) = (y10_0)))
                                                (some (true))
                                                (some (false))))
                                          (some (false)))
                                        (some (false)))
                              (some (false)))))
                    (some (false)))
                  (some (false))
def l_spec_FillTimes_b0 : Nat → (Int) → (Int) → (List V) → (List V) →  Option (List V)
  | 0, _, _, _, _ => none
  | n + 1, a0, a1, a2, a3 =>
    cnd (decide ((a1) < (((a3).length : Int))))
      (chk (inB (a1) (a3).length)
        (bnd (bnd (nth (a3) ((a1).toNat)) as_i64) fun e7_0 =>
          cnd (decide ((0) < (e7_0)))
            (bnd (bnd (nth (a3) ((a1).toNat)) as_i64) fun e9_0 =>
              bnd (bnd (nth (a3) ((a1).toNat)) as_i64) fun e10_0 =>
                chk (!decide ((e10_0) = 0))
                  (chk (decide (((a2).length + ([(V.int .i64 (IntKind.i64.wrap ((IntKind.i64.wrap ((IntKind.i64.wrap ((a0) + (e9_0))) - (1))).tdiv (e10_0))))]).length) * 8 ≤ 140737488355328))
                    (l_spec_FillTimes_b0 n a0 (IntKind.i64.wrap ((a1) + (1))) (a2 ++ ([(V.int .i64 (IntKind.i64.wrap ((IntKind.i64.wrap ((IntKind.i64.wrap ((a0) + (e9_0))) - (1))).tdiv (e10_0))))])) a3)))
            (chk (decide (((a2).length + ([(V.int .i64 (0))]).length) * 8 ≤ 140737488355328))
              (l_spec_FillTimes_b0 n a0 (IntKind.i64.wrap ((a1) + (1))) (a2 ++ ([(V.int .i64 (0))])) a3))))
      (some (a2))
def s_spec_FillTimes (n : Nat) (a0 : Int) (a1 : Int) (a2 : Int) (a3 : Nat → Int) (a4 : Nat → Int) (a5 : Int) : Option (List V × Int) :=
  bnd (s_spec_l02Pails n a0 a1 a2 a3 a4 a5) fun y1_0 =>
    cnd (decide ((y1_0) = (0)))
      (bnd (s_spec_l02Across n a0 a1 a2 a3 a4) fun y3_0 =>
        chk (plainV (V.fresh 0 (y3_0)))
          (bnd (l_spec_FillTimes_b0 n a5 0 ([]) y3_0) fun u14_0 =>
            some ((u14_0, 0))))
      (some (([], y1_0)))
def s_impl_FillTimes_1 (n : Nat) (a0 : Int) (a1 : Int) : Option (Int) :=
  cnd (decide ((a0) = (0)))
    (some (0))
    (bnd (s_impl_up_int64 n a1 a0) fun y2_0 =>
      some (y2_0))
def l_impl_each_int64_int64__FillTimes_1_b0 : Nat → (Int) → (List V) → (Int) → (Int) → (List V) →  Option (List V)
  | 0, _, _, _, _, _ => none
  | n + 1, a0, a1, a2, a3, a4 =>
    cnd (decide ((a3) < (a2)))
      (bnd (bnd (idx (a1) (a3)) as_i64) fun e2_0 =>
        bnd (s_impl_FillTimes_1 n e2_0 a0) fun y3_0 =>
          chk (decide (((a4).length + ([(V.int .i64 (y3_0))]).length) * 8 ≤ 140737488355328))
            (l_impl_each_int64_int64__FillTimes_1_b0 n a0 a1 a2 (IntKind.i64.wrap ((a3) + (1))) (a4 ++ ([(V.int .i64 (y3_0))]))))
      (some (a4))
def s_impl_each_int64_int64__FillTimes_1 (n : Nat) (a0 : List V) (a1 : Int) : Option (List V) :=
  bnd (l_impl_each_int64_int64__FillTimes_1_b0 n a1 a0 (((a0).length : Int)) 0 (([] : List V))) fun u5_0 =>
    some (u5_0)
def s_impl_FillTimes (n : Nat) (a0 : Int) (a1 : Int) (a2 : Int) (a3 : Nat → Int) (a4 : Nat → Int) (a5 : Int) : Option (List V × Int) :=
  bnd (s_impl_isPail n a5) fun y1_0 =>
    bnd (s_impl_rainCode n a0 a1 a2 a3 a4 ((y1_0))) fun y2_0 =>
      cnd (decide ((y2_0) = (0)))
        (bnd (s_impl_Roof_run n a0 a1 a2 a3 a4) fun (y4_0, y4_1, y4_2, y4_3) =>
          bnd (s_impl_Roof_columns n a0 a1 a2 a3 y4_0) fun y5_0 =>
            bnd (s_impl_each_int64_int64__FillTimes_1 n y5_0 a5) fun y6_0 =>
              chk (plainV (V.fresh 0 (y6_0)))
                (some ((y6_0, 0))))
        (some ((([] : List V), y2_0)))
def s_laws_FnExactFillTimes (n : Nat) (a0 : Int) (a1 : Int) (a2 : Int) (a3 : Nat → Int) (a4 : Nat → Int) (a5 : Int) : Option (Bool) :=
  bnd (s_laws_toRoof n a0 a1 a2 a3) fun (y1_0, y1_1, y1_2, y1_3) =>
    bnd (s_laws_toRain n a4) fun y2_0 =>
      bnd (s_spec_FillTimes n y1_0 y1_1 y1_2 y1_3 y2_0 a5) fun (y3_0, y3_1) =>
        bnd (s_laws_toRoof n a0 a1 a2 a3) fun (y4_0, y4_1, y4_2, y4_3) =>
          bnd (s_laws_toRain n a4) fun y5_0 =>
            bnd (s_impl_FillTimes n y4_0 y4_1 y4_2 y4_3 y5_0 a5) fun (y6_0, y6_1) =>
              bnd (s_laws_eqInt64S n y6_0 y3_0) fun y7_0 =>
                cnd (y7_0)
                  (cnd (decide ((y6_1) = (y3_1)))
                    (bnd (s_laws_markInt64S n y6_0 1) fun (y10_0, y10_1) =>
                      chk (likeRows (y6_0) (y10_1))
                        (bnd (s_laws_heldInt64S n y10_1 1) fun y12_0 =>
                          cnd (decide ((y12_0) < (0)))
                            (some (false))
                            (cnd (decide ((y12_0) = (y10_0)))
                              (bnd (s_laws_toRoof n a0 a1 a2 a3) fun (y15_0, y15_1, y15_2, y15_3) =>
                                bnd (s_laws_toRain n a4) fun y16_0 =>
                                  bnd (s_impl_FillTimes n y15_0 y15_1 y15_2 y15_3 y16_0 a5) fun (y17_0, y17_1) =>
                                    bnd (s_laws_eqInt64S n y17_0 y3_0) fun y18_0 =>
                                      cnd (y18_0)
                                        (cnd (decide ((y17_1) = (y3_1)))
                                          (bnd (s_laws_heldInt64S n y10_1 1) fun y21_0 =>
                                            cnd (decide ((y21_0) < (0)))
                                              (some (false))
                                              (cnd (decide ((y21_0) = (y10_0)))
                                                (some (true))
                                                (some (false))))
                                          (some (false)))
                                        (some (false)))
                              (some (false)))))
                    (some (false)))
                  (some (false))
def l_spec_LeastRain_b0 : Nat → (Int) → (Int) → (Int) → (Int) → (Int) → (Nat → Int) →  Option (Sum (Unit) (Int × Int))
  | 0, _, _, _, _, _, _ => none
  | n + 1, a0, a1, a2, a3, a4, a5 =>
    cnd (decide ((a1) ≤ (1000)))
      (bnd (s_spec_l02Even n a2 a3 a4 a5 a1) fun y4_0 =>
        bnd (s_spec_l02Sum n a2 a3 a4 a5 y4_0) fun y5_0 =>
          cnd (decide ((a0) < (y5_0)))
            (some (.inr ((a1, 0))))
            (l_spec_LeastRain_b0 n a0 (IntKind.i64.wrap ((a1) + (1))) a2 a3 a4 a5))
      (some (.inl (())))
def s_spec_LeastRain (n : Nat) (a0 : Int) (a1 : Int) (a2 : Int) (a3 : Nat → Int) (a4 : Int) : Option (Int × Int) :=
  bnd (s_spec_l01Told n a0 a1 a2 a3 ((decide ((0) ≤ (a4))))) fun y1_0 =>
    cnd (decide ((y1_0) = (0)))
      (bnd (l_spec_LeastRain_b0 n a4 0 a0 a1 a2 a3) fun w => match w with
        | .inl _ =>
          some ((0, 6))
        | .inr (u8_0, u8_1) =>
          some ((u8_0, u8_1)))
      (some ((0, y1_0)))
def l_impl_LeastRain_b0 : Nat → (Int) → (Int) → (Int) → (Int) → (Int) → (Nat → Int) →  Option (Sum (Unit) (Int × Int))
  | 0, _, _, _, _, _, _ => none
  | n + 1, a0, a1, a2, a3, a4, a5 =>
    cnd (decide ((a1) < (1001)))
      (bnd (s_impl_even n a2 a3 a4 a5 a1) fun y4_0 =>
        bnd (s_impl_Roof_dripSum n a2 a3 a4 a5 y4_0) fun y5_0 =>
          cnd (decide ((a0) < (y5_0)))
            (some (.inr ((a1, 0))))
            (l_impl_LeastRain_b0 n a0 (IntKind.i64.wrap ((a1) + (1))) a2 a3 a4 a5))
      (some (.inl (())))
def s_impl_LeastRain (n : Nat) (a0 : Int) (a1 : Int) (a2 : Int) (a3 : Nat → Int) (a4 : Int) : Option (Int × Int) :=
  bnd (s_impl_roofCode n a0 a1 a2 a3 ((decide ((0) ≤ (a4))))) fun y1_0 =>
    cnd (decide ((y1_0) = (0)))
      (bnd (l_impl_LeastRain_b0 n a4 0 a0 a1 a2 a3) fun w => match w with
        | .inl _ =>
          some ((0, 6))
        | .inr (u8_0, u8_1) =>
          some ((u8_0, u8_1)))
      (some ((0, y1_0)))
def s_laws_FnExactLeastRain (n : Nat) (a0 : Int) (a1 : Int) (a2 : Int) (a3 : Nat → Int) (a4 : Int) : Option (Bool) :=
  bnd (s_laws_toRoof n a0 a1 a2 a3) fun (y1_0, y1_1, y1_2, y1_3) =>
    bnd (s_spec_LeastRain n y1_0 y1_1 y1_2 y1_3 a4) fun (y2_0, y2_1) =>
      bnd (s_laws_toRoof n a0 a1 a2 a3) fun (y3_0, y3_1, y3_2, y3_3) =>
        bnd (s_impl_LeastRain n y3_0 y3_1 y3_2 y3_3 a4) fun (y4_0, y4_1) =>
          cnd (decide ((y4_0) = (y2_0)))
            (cnd (decide ((y4_1) = (y2_1)))
              (some (true))
              (some (false)))
            (some (false))
def s_spec_l01At (n : Nat) (a0 : Int) (a1 : Int) (a2 : Int) (a3 : Nat → Int) (a4 : Int) (a5 : Int) : Option (Int) :=
  chk (inB (a4) 8)
    (chk (inB (a5) 8)
      (some (IntKind.i64.wrap ((a3) (0 + (a4).toNat * 8 + (a5).toNat * 1)))))
def l_spec_l02Best_b0 : Nat → (Int) → (Int) → (Int) → (Nat → Int) → (Nat → Int) → (Int) → (Bool) → (Int) → (Int) → (Int) → (Int) → (Int) → (List V) →  Option (Int × Bool × Int × Int × Int × Int)
  | 0, _, _, _, _, _, _, _, _, _, _, _, _, _ => none
  | n + 1, a0, a1, a2, a3, a4, a5, a6, a7, a8, a9, a10, a11, a12 =>
    cnd (decide ((a7) < (((a12).length : Int))))
      (chk (inB (a7) (a12).length)
        (bnd (bnd (nth (a12) ((a7).toNat)) as_Pi8_i8Q) fun (e4_0, e4_1) =>
          bnd (s_spec_l01At n a0 a1 a2 a3 e4_0 e4_1) fun y5_0 =>
            cnd (decide ((y5_0) = (0)))
              (l_spec_l02Best_b0 n a0 a1 a2 a3 a4 a5 ((a6)) (IntKind.i64.wrap ((a7) + (1))) a8 a9 a10 a11 a12)
              (bnd (bnd (nth (a12) ((a7).toNat)) as_Pi8_i8Q) fun (e7_0, e7_1) =>
                bnd (s_spec_l02Save n a0 a1 a2 a3 a4 e7_0 e7_1) fun y8_0 =>
                  cnd (a6)
                    (cnd (decide ((a5) < (y8_0)))
                      (bnd (bnd (nth (a12) ((a7).toNat)) as_Pi8_i8Q) fun (e11_0, e11_1) =>
                        l_spec_l02Best_b0 n a0 a1 a2 a3 a4 y8_0 true (IntKind.i64.wrap ((a7) + (1))) a8 a9 e11_0 e11_1 a12)
                      (l_spec_l02Best_b0 n a0 a1 a2 a3 a4 a5 ((a6)) (IntKind.i64.wrap ((a7) + (1))) a8 a9 a10 a11 a12))
                    (bnd (bnd (nth (a12) ((a7).toNat)) as_Pi8_i8Q) fun (e12_0, e12_1) =>
                      l_spec_l02Best_b0 n a0 a1 a2 a3 a4 y8_0 true (IntKind.i64.wrap ((a7) + (1))) a8 a9 e12_0 e12_1 a12))))
      (some ((a5, (a6), a8, a9, a10, a11)))
def s_spec_l02Best (n : Nat) (a0 : Int) (a1 : Int) (a2 : Int) (a3 : Nat → Int) (a4 : Nat → Int) : Option (Int × Int × Int × Bool) :=
  bnd (s_spec_l01All n a0 a1 a2 a3) fun y1_0 =>
    bnd (l_spec_l02Best_b0 n a0 a1 a2 a3 a4 0 false 0 0 0 0 0 y1_0) fun (u13_0, u13_1, u13_2, u13_3, u13_4, u13_5) =>
      some ((u13_4, u13_5, u13_0, (u13_1)))
def s_spec_BestSave (n : Nat) (a0 : Int) (a1 : Int) (a2 : Int) (a3 : Nat → Int) (a4 : Nat → Int) : Option (Int × Int × Int × Int) :=
  bnd (s_spec_l02Ok n a0 a1 a2 a3 a4) fun y1_0 =>
    cnd (y1_0)
      (bnd (s_spec_l02Best n a0 a1 a2 a3 a4) fun (y3_0, y3_1, y3_2, y3_3) =>
        cnd (y3_3)
          (some ((y3_0, y3_1, y3_2, 0)))
          (some ((0, 0, 0, 6))))
      (some ((0, 0, 0, 1)))
def s_impl_Roof_kind (n : Nat) (a0 : Int) (a1 : Int) (a2 : Int) (a3 : Nat → Int) (a4 : Int) (a5 : Int) : Option (Int) :=
  chk (inB (a4) 8)
    (chk (inB (a5) 8)
      (some ((a3) (0 + (a4).toNat * 8 + (a5).toNat * 1))))
def s_impl_Roof_isWrong (n : Nat) (a0 : Int) (a1 : Int) (a2 : Int) (a3 : Nat → Int) (a4 : Int) (a5 : Int) : Option (Bool) :=
  bnd (s_impl_Roof_kind n a0 a1 a2 a3 a4 a5) fun y1_0 =>
    some ((!(decide ((y1_0) = (0)))))
def l_impl_Roof_places__Roof_isWrong_b2 : Nat → (Int) → (Int) → (Int) → (Nat → Int) → (Int) → (Int) → (Int) → (Int) → (Int) → (Int) → (Int) → (Int) → (Nat → Int) → (List V) →  Option (Int × Int × Int × (Nat → Int) × Int × Int × Int × Int × Int × (Nat → Int) × List V)
  | 0, _, _, _, _, _, _, _, _, _, _, _, _, _, _ => none
  | n + 1, a0, a1, a2, a3, a4, a5, a6, a7, a8, a9, a10, a11, a12, a13 =>
    cnd (decide ((a8) < (a7)))
      (bnd (s_impl_Roof_isWrong n a0 a1 a2 a3 a4 a8) fun y3_0 =>
        cnd (y3_0)
          (chk (decide (((a13).length + ([(V.parts [(V.int .i8 (a4)), (V.int .i8 (a8))])]).length) * 2 ≤ 140737488355328))
            (l_impl_Roof_places__Roof_isWrong_b2 n a0 a1 a2 a3 a4 a5 a6 a7 (IntKind.i8.wrap ((a8) + (1))) a9 a10 a11 a12 (a13 ++ ([(V.parts [(V.int .i8 (a4)), (V.int .i8 (a8))])]))))
          (l_impl_Roof_places__Roof_isWrong_b2 n a0 a1 a2 a3 a4 a5 a6 a7 (IntKind.i8.wrap ((a8) + (1))) a9 a10 a11 a12 a13))
      (some ((a0, a1, a2, a3, a5, a6, a9, a10, a11, a12, a13)))
def l_impl_Roof_places__Roof_isWrong_b0 : Nat → (Int) → (Int) → (Int) → (Nat → Int) → (Int) → (Int) → (Int) → (Int) → (Int) → (Nat → Int) → (List V) →  Option (List V)
  | 0, _, _, _, _, _, _, _, _, _, _, _ => none
  | n + 1, a0, a1, a2, a3, a4, a5, a6, a7, a8, a9, a10 =>
    cnd (decide ((a5) < (a4)))
      (bnd (l_impl_Roof_places__Roof_isWrong_b2 n a0 a1 a2 a3 a5 a4 a5 a6 0 a6 a7 a8 a9 a10) fun (u6_0, u6_1, u6_2, u6_3, u6_4, u6_5, u6_6, u6_7, u6_8, u6_9, u6_10) =>
        l_impl_Roof_places__Roof_isWrong_b0 n u6_0 u6_1 u6_2 u6_3 u6_4 (IntKind.i8.wrap ((u6_5) + (1))) u6_6 u6_7 u6_8 u6_9 u6_10)
      (some (a10))
def s_impl_Roof_places__Roof_isWrong (n : Nat) (a0 : Int) (a1 : Int) (a2 : Int) (a3 : Nat → Int) (a4 : Int) (a5 : Int) (a6 : Int) (a7 : Nat → Int) : Option (List V) :=
  bnd (l_impl_Roof_places__Roof_isWrong_b0 n a4 a5 a6 a7 a1 0 a0 a1 a2 a3 (([] : List V))) fun u8_0 =>
    some (u8_0)
def s_impl_Roof_wrong (n : Nat) (a0 : Int) (a1 : Int) (a2 : Int) (a3 : Nat → Int) : Option (List V) :=
  bnd (s_impl_Roof_places__Roof_isWrong n a0 a1 a2 a3 a0 a1 a2 a3) fun y1_0 =>
    some (y1_0)
def s_cmp_isNaN_int64 (n : Nat) (a0 : Int) : Option (Bool) :=
  some ((!(decide ((a0) = (a0)))))
def s_cmp_Compare_int64 (n : Nat) (a0 : Int) (a1 : Int) : Option (Int) :=
  bnd (s_cmp_isNaN_int64 n a0) fun y1_0 =>
    bnd (s_cmp_isNaN_int64 n a1) fun y2_0 =>
      cnd (y1_0)
        (cnd (y2_0)
          (some (0))
          (some (-1)))
        (cnd (y2_0)
          (some (1))
          (cnd (decide ((a0) < (a1)))
            (some (-1))
            (cnd (decide ((a1) < (a0)))
              (some (1))
              (some (0)))))
def s_impl_Roof_bestSave_1 (n : Nat) (a0 : Int) (a1 : Int) (a2 : Int) (a3 : Int) (a4 : Int) (a5 : Int) (a6 : Int) (a7 : Nat → Int) (a8 : Nat → Int) : Option (Int) :=
  bnd (s_impl_Roof_save n a4 a5 a6 a7 a8 a0 a1) fun y1_0 =>
    bnd (s_impl_Roof_save n a4 a5 a6 a7 a8 a2 a3) fun y2_0 =>
      bnd (s_cmp_Compare_int64 n y1_0 y2_0) fun y3_0 =>
        some (y3_0)
def l_slices_MaxFunc_Simpl_Place_impl_Place__Roof_bestSave_1_b0 : Nat → (List V) → (Int) → (Int) → (Int) → (Nat → Int) → (Nat → Int) → (Int) → (Int) → (Int) → (Int) → (Int) →  Option (Int × Int × Int × Int)
  | 0, _, _, _, _, _, _, _, _, _, _, _ => none
  | n + 1, a0, a1, a2, a3, a4, a5, a6, a7, a8, a9, a10 =>
    cnd (decide ((a6) < (((a0).length : Int))))
      (bnd (bnd (idx (a0) (a6)) as_Pi8_i8Q) fun (e4_0, e4_1) =>
        bnd (s_impl_Roof_bestSave_1 n e4_0 e4_1 a9 a10 a1 a2 a3 a4 a5) fun y5_0 =>
          cnd (decide ((0) < (y5_0)))
            (bnd (bnd (idx (a0) (a6)) as_Pi8_i8Q) fun (e7_0, e7_1) =>
              l_slices_MaxFunc_Simpl_Place_impl_Place__Roof_bestSave_1_b0 n a0 a1 a2 a3 a4 a5 (IntKind.i64.wrap ((a6) + (1))) a7 a8 e7_0 e7_1)
            (l_slices_MaxFunc_Simpl_Place_impl_Place__Roof_bestSave_1_b0 n a0 a1 a2 a3 a4 a5 (IntKind.i64.wrap ((a6) + (1))) a7 a8 a9 a10))
      (some ((a7, a8, a9, a10)))
def s_slices_MaxFunc_Simpl_Place_impl_Place__Roof_bestSave_1 (n : Nat) (a0 : List V) (a1 : Int) (a2 : Int) (a3 : Int) (a4 : Nat → Int) (a5 : Nat → Int) : Option (Int × Int) :=
  cnd (decide ((((a0).length : Int)) < (1)))
    (none)
    (bnd (bnd (idx (a0) (0)) as_Pi8_i8Q) fun (e2_0, e2_1) =>
      bnd (l_slices_MaxFunc_Simpl_Place_impl_Place__Roof_bestSave_1_b0 n a0 a1 a2 a3 a4 a5 1 0 0 e2_0 e2_1) fun (u8_0, u8_1, u8_2, u8_3) =>
        some ((u8_2, u8_3)))
def s_impl_Roof_bestSave (n : Nat) (a0 : Int) (a1 : Int) (a2 : Int) (a3 : Nat → Int) (a4 : Nat → Int) : Option (Int × Int) :=
  bnd (s_impl_Roof_wrong n a0 a1 a2 a3) fun y1_0 =>
    bnd (s_slices_MaxFunc_Simpl_Place_impl_Place__Roof_bestSave_1 n y1_0 a0 a1 a2 a3 a4) fun (y2_0, y2_1) =>
      some ((y2_0, y2_1))
def s_impl_BestSave (n : Nat) (a0 : Int) (a1 : Int) (a2 : Int) (a3 : Nat → Int) (a4 : Nat → Int) : Option (Int × Int × Int × Int) :=
  bnd (s_impl_ValidRain n a0 a1 a2 a3 a4) fun y1_0 =>
    cnd (y1_0)
      (bnd (s_impl_Roof_wrong n a0 a1 a2 a3) fun y3_0 =>
        cnd (decide ((((y3_0).length : Int)) = (0)))
          (some ((0, 0, 0, 6)))
          (bnd (s_impl_Roof_bestSave n a0 a1 a2 a3 a4) fun (y5_0, y5_1) =>
            bnd (s_impl_Roof_save n a0 a1 a2 a3 a4 y5_0 y5_1) fun y6_0 =>
              some ((y5_0, y5_1, y6_0, 0))))
      (some ((0, 0, 0, 1)))
def s_laws_FnExactBestSave (n : Nat) (a0 : Int) (a1 : Int) (a2 : Int) (a3 : Nat → Int) (a4 : Nat → Int) : Option (Bool) :=
  bnd (s_laws_toRoof n a0 a1 a2 a3) fun (y1_0, y1_1, y1_2, y1_3) =>
    bnd (s_laws_toRain n a4) fun y2_0 =>
      bnd (s_spec_BestSave n y1_0 y1_1 y1_2 y1_3 y2_0) fun (y3_0, y3_1, y3_2, y3_3) =>
        bnd (s_laws_toRoof n a0 a1 a2 a3) fun (y4_0, y4_1, y4_2, y4_3) =>
          bnd (s_laws_toRain n a4) fun y5_0 =>
            bnd (s_impl_BestSave n y4_0 y4_1 y4_2 y4_3 y5_0) fun (y6_0, y6_1, y6_2, y6_3) =>
              bnd (s_laws_eqPlace n y6_0 y6_1 y3_0 y3_1) fun y7_0 =>
                cnd (y7_0)
                  (cnd (decide ((y6_2) = (y3_2)))
                    (cnd (decide ((y6_3) = (y3_3)))
                      (some (true))
                      (some (false)))
                    (some (false)))
                  (some (false))
def l_laws_toInt32A17_b0 : Nat → (Int) → (Nat → Int) → (Nat → Int) → (Nat → Int) →  Option ((Nat → Int) × (Nat → Int))
  | 0, _, _, _, _ => none
  | n + 1, a0, a1, a2, a3 =>
    cnd (decide ((a0) < (17)))
      (chk (inB (a0) 17)
        (l_laws_toInt32A17_b0 n (IntKind.i64.wrap ((a0) + (1))) a1 a2 (updC (a3) (0 + (a0).toNat * 1) ((a1) (0 + (a0).toNat * 1)))))
      (some ((a2, a3)))
def s_laws_toInt32A17 (n : Nat) (a0 : Nat → Int) : Option ((Nat → Int)) :=
  bnd (l_laws_toInt32A17_b0 n 0 a0 (fun _ => 0) (fun _ => 0)) fun (u3_0, u3_1) =>
    some (u3_1)
def l_laws_toDrips_b0 : Nat → (Int) → (Nat → Int) → (Nat → Int) → (Nat → Int) →  Option ((Nat → Int) × (Nat → Int))
  | 0, _, _, _, _ => none
  | n + 1, a0, a1, a2, a3 =>
    cnd (decide ((a0) < (8)))
      (chk (inB (a0) 8)
        (bnd (s_laws_toInt32A17 n ((shiftC (a1) (0 + (a0).toNat * 17)))) fun y3_0 =>
          l_laws_toDrips_b0 n (IntKind.i64.wrap ((a0) + (1))) a1 a2 (updR (a3) (0 + (a0).toNat * 17) 17 (y3_0))))
      (some ((a2, a3)))
def s_laws_toDrips (n : Nat) (a0 : Nat → Int) : Option ((Nat → Int)) :=
  bnd (l_laws_toDrips_b0 n 0 a0 (fun _ => 0) (fun _ => 0)) fun (u4_0, u4_1) =>
    some (u4_1)
def s_spec_l03Inside (n : Nat) (a0 : Int) (a1 : Int) (a2 : Int) (a3 : Nat → Int) (a4 : Int) (a5 : Int) : Option (Bool) :=
  cnd (decide ((a4) < (IntKind.i64.wrap (a1))))
    (bnd (s_spec_l01Cells n a0 a1 a2 a3) fun y2_0 =>
      some ((decide ((a5) < (y2_0)))))
    (some (false))
def l_spec_l03Comes_b2 : Nat → (Int) → (Int) → (Int) → (Nat → Int) → (Nat → Int) → (Nat → Int) → (Int) → (Int) → (Int) → (Nat → Int) → (Nat → Int) →  Option (Sum (Int × Int × Int × (Nat → Int) × (Nat → Int) × (Nat → Int) × Int × (Nat → Int) × (Nat → Int)) (Bool × (Nat → Int)))
  | 0, _, _, _, _, _, _, _, _, _, _, _ => none
  | n + 1, a0, a1, a2, a3, a4, a5, a6, a7, a8, a9, a10 =>
    cnd (decide ((a8) < (8)))
      (chk (inB (a8) 8)
        (chk (inB (a6) 17)
          (cnd (decide ((IntKind.i64.wrap ((a5) (0 + (a8).toNat * 17 + (a6).toNat * 1))) < (0)))
            (some (.inr ((false, a10))))
            (cnd (decide ((a7) < (IntKind.i64.wrap ((a5) (0 + (a8).toNat * 17 + (a6).toNat * 1)))))
              (some (.inr ((false, a10))))
              (cnd (decide ((0) < (IntKind.i64.wrap ((a5) (0 + (a8).toNat * 17 + (a6).toNat * 1)))))
                (bnd (s_spec_l03Inside n a0 a1 a2 a3 a8 a6) fun y9_0 =>
                  cnd (y9_0)
                    (bnd (s_spec_l03Inside n a0 a1 a2 a3 a8 a6) fun y11_0 =>
                      cnd (y11_0)
                        (l_spec_l03Comes_b2 n a0 a1 a2 a3 a4 a5 a6 (IntKind.i64.wrap ((a7) - (IntKind.i64.wrap ((a5) (0 + (a8).toNat * 17 + (a6).toNat * 1))))) (IntKind.i64.wrap ((a8) + (1))) a9 (updC (a10) (0 + (a8).toNat * 17 + (a6).toNat * 1) (IntKind.i32.wrap (a7))))
                        (l_spec_l03Comes_b2 n a0 a1 a2 a3 a4 a5 a6 (IntKind.i64.wrap ((a7) - (IntKind.i64.wrap ((a5) (0 + (a8).toNat * 17 + (a6).toNat * 1))))) (IntKind.i64.wrap ((a8) + (1))) a9 a10))
                    (some (.inr ((false, a10)))))
                (bnd (s_spec_l03Inside n a0 a1 a2 a3 a8 a6) fun y13_0 =>
                  cnd (y13_0)
                    (l_spec_l03Comes_b2 n a0 a1 a2 a3 a4 a5 a6 (IntKind.i64.wrap ((a7) - (IntKind.i64.wrap ((a5) (0 + (a8).toNat * 17 + (a6).toNat * 1))))) (IntKind.i64.wrap ((a8) + (1))) a9 (updC (a10) (0 + (a8).toNat * 17 + (a6).toNat * 1) (IntKind.i32.wrap (a7))))
                    (l_spec_l03Comes_b2 n a0 a1 a2 a3 a4 a5 a6 (IntKind.i64.wrap ((a7) - (IntKind.i64.wrap ((a5) (0 + (a8).toNat * 17 + (a6).toNat * 1))))) (IntKind.i64.wrap ((a8) + (1))) a9 a10)))))))
      (some (.inl ((a0, a1, a2, a3, a4, a5, a6, a9, a10))))
def l_spec_l03Comes_b0 : Nat → (Int) → (Int) → (Int) → (Nat → Int) → (Nat → Int) → (Nat → Int) → (Int) → (Nat → Int) → (Nat → Int) →  Option (Sum ((Nat → Int) × (Nat → Int)) (Bool × (Nat → Int)))
  | 0, _, _, _, _, _, _, _, _, _ => none
  | n + 1, a0, a1, a2, a3, a4, a5, a6, a7, a8 =>
    cnd (decide ((a6) < (17)))
      (chk (inB (a6) 17)
        (bnd (l_spec_l03Comes_b2 n a0 a1 a2 a3 a4 a5 a6 (IntKind.i64.wrap ((a4) (0 + (a6).toNat * 1))) 0 a7 a8) fun w => match w with
          | .inl (u15_0, u15_1, u15_2, u15_3, u15_4, u15_5, u15_6, u15_7, u15_8) =>
            l_spec_l03Comes_b0 n u15_0 u15_1 u15_2 u15_3 u15_4 u15_5 (IntKind.i64.wrap ((u15_6) + (1))) u15_7 u15_8
          | .inr (u16_0, u16_1) =>
            some (.inr (((u16_0), u16_1)))))
      (some (.inl ((a7, a8))))
def s_spec_l03Comes (n : Nat) (a0 : Int) (a1 : Int) (a2 : Int) (a3 : Nat → Int) (a4 : Nat → Int) (a5 : Nat → Int) : Option ((Nat → Int) × Bool) :=
  bnd (l_spec_l03Comes_b0 n a0 a1 a2 a3 a4 a5 0 (fun _ => 0) (fun _ => 0)) fun w => match w with
    | .inl (u18_0, u18_1) =>
      some ((u18_1, true))
    | .inr (u19_0, u19_1) =>
      some ((u19_1, (u19_0)))
def s_spec_l03Asked (n : Nat) (a0 : Int) (a1 : Int) (a2 : Int) (a3 : Nat → Int) (a4 : Nat → Int) (a5 : Nat → Int) (a6 : Bool) : Option ((Nat → Int) × Int) :=
  bnd (s_spec_l02Ok n a0 a1 a2 a3 a4) fun y1_0 =>
    cnd (y1_0)
      (cnd (a6)
        (bnd (s_spec_l03Comes n a0 a1 a2 a3 a4 a5) fun (y4_0, y4_1) =>
          cnd (y4_1)
            (some ((y4_0, 0)))
            (some ((fun _ => 0, 4))))
        (some ((fun _ => 0, 2))))
      (some ((fun _ => 0, 1)))
def s_spec_ComesTo (n : Nat) (a0 : Int) (a1 : Int) (a2 : Int) (a3 : Nat → Int) (a4 : Nat → Int) (a5 : Nat → Int) : Option ((Nat → Int) × Int) :=
  bnd (s_spec_l03Asked n a0 a1 a2 a3 a4 a5 true) fun (y1_0, y1_1) =>
    cnd (decide ((y1_1) = (0)))
      (some ((y1_0, 0)))
      (some ((fun _ => 0, y1_1)))
def s_impl_Roof_isCell (n : Nat) (a0 : Int) (a1 : Int) (a2 : Int) (a3 : Nat → Int) (a4 : Int) (a5 : Int) : Option (Bool) :=
  cnd (decide ((a4) < (IntKind.i64.wrap (a1))))
    (bnd (s_impl_Roof_cells n a0 a1 a2 a3) fun y2_0 =>
      some ((decide ((a5) < (y2_0)))))
    (some (false))
def s_impl_Roof_isSound_1 (n : Nat) (a0 : Int) : Option (Bool) :=
  some ((decide ((0) ≤ (a0))))
def l_impl_Roof_areDrips__Roof_isSound_1_b2 : Nat → (Int) → (Nat → Int) → (Int) → (Nat → Int) → (Int) → (Int) → (Int) → (Int) → (Nat → Int) →  Option (Sum ((Nat → Int) × Int × Int × Int × Int × (Nat → Int)) (Bool))
  | 0, _, _, _, _, _, _, _, _, _ => none
  | n + 1, a0, a1, a2, a3, a4, a5, a6, a7, a8 =>
    cnd (decide ((a4) < (17)))
      (chk (inB (a4) 17)
        (bnd (s_impl_Roof_isCell n a5 a6 a7 a8 a0 a4) fun y5_0 =>
          cnd (y5_0)
            (bnd (s_impl_Roof_isSound_1 n ((a3) ((a4).toNat * 1))) fun y7_0 =>
              cnd (y7_0)
                (l_impl_Roof_areDrips__Roof_isSound_1_b2 n a0 a1 a2 a3 (IntKind.i64.wrap ((a4) + (1))) a5 a6 a7 a8)
                (some (.inr (false))))
            (cnd (decide (((a3) ((a4).toNat * 1)) = (0)))
              (bnd (s_impl_Roof_isSound_1 n ((a3) ((a4).toNat * 1))) fun y10_0 =>
                cnd (y10_0)
                  (l_impl_Roof_areDrips__Roof_isSound_1_b2 n a0 a1 a2 a3 (IntKind.i64.wrap ((a4) + (1))) a5 a6 a7 a8)
                  (some (.inr (false))))
              (some (.inr (false))))))
      (some (.inl ((a1, a2, a5, a6, a7, a8))))
def l_impl_Roof_areDrips__Roof_isSound_1_b0 : Nat → (Nat → Int) → (Int) → (Int) → (Int) → (Int) → (Nat → Int) →  Option (Sum (Unit) (Bool))
  | 0, _, _, _, _, _, _ => none
  | n + 1, a0, a1, a2, a3, a4, a5 =>
    cnd (decide ((a1) < (8)))
      (chk (inB (a1) 8)
        (bnd (l_impl_Roof_areDrips__Roof_isSound_1_b2 n a1 a0 a1 (fun j => (a0) (j + (a1).toNat * 17)) 0 a2 a3 a4 a5) fun w => match w with
          | .inl (u12_0, u12_1, u12_2, u12_3, u12_4, u12_5) =>
            l_impl_Roof_areDrips__Roof_isSound_1_b0 n u12_0 (IntKind.i64.wrap ((u12_1) + (1))) u12_2 u12_3 u12_4 u12_5
          | .inr u13_0 =>
            some (.inr ((u13_0)))))
      (some (.inl (())))
def s_impl_Roof_areDrips__Roof_isSound_1 (n : Nat) (a0 : Int) (a1 : Int) (a2 : Int) (a3 : Nat → Int) (a4 : Nat → Int) : Option (Bool) :=
  bnd (l_impl_Roof_areDrips__Roof_isSound_1_b0 n a4 0 a0 a1 a2 a3) fun w => match w with
    | .inl _ =>
      some (true)
    | .inr u16_0 =>
      some ((u16_0))
def l_impl_Roof_isSound_b0 : Nat → (Int) → (Int) → (Nat → Int) → (List V) →  Option (Sum (Unit) (Bool))
  | 0, _, _, _, _ => none
  | n + 1, a0, a1, a2, a3 =>
    cnd (decide ((a1) < (a0)))
      (chk (inB (a1) (a3).length)
        (bnd (bnd (nth (a3) ((a1).toNat)) as_i64) fun e6_0 =>
          chk (inB (a1) 17)
            (cnd (decide ((IntKind.i64.wrap ((a2) (0 + (a1).toNat * 1))) < (e6_0)))
              (some (.inr (false)))
              (l_impl_Roof_isSound_b0 n a0 (IntKind.i64.wrap ((a1) + (1))) a2 a3))))
      (some (.inl (())))
def s_impl_Roof_isSound (n : Nat) (a0 : Int) (a1 : Int) (a2 : Int) (a3 : Nat → Int) (a4 : Nat → Int) (a5 : Nat → Int) : Option (Bool) :=
  bnd (s_impl_Roof_areDrips__Roof_isSound_1 n a0 a1 a2 a3 a5) fun y1_0 =>
    cnd (y1_0)
      (bnd (s_impl_Roof_columns n a0 a1 a2 a3 a5) fun y3_0 =>
        bnd (l_impl_Roof_isSound_b0 n (((y3_0).length : Int)) 0 a4 y3_0) fun w => match w with
          | .inl _ =>
            some (true)
          | .inr u10_0 =>
            some ((u10_0)))
      (some (false))
def s_impl_seenCode (n : Nat) (a0 : Int) (a1 : Int) (a2 : Int) (a3 : Nat → Int) (a4 : Nat → Int) (a5 : Nat → Int) (a6 : Bool) : Option (Int) :=
  bnd (s_impl_rainCode n a0 a1 a2 a3 a4 ((a6))) fun y1_0 =>
    cnd (decide ((y1_0) = (0)))
      (bnd (s_impl_Roof_isSound n a0 a1 a2 a3 a4 a5) fun y3_0 =>
        cnd (y3_0)
          (some (y1_0))
          (some (4)))
      (some (y1_0))
def l_impl_Roof_comes_b2 : Nat → (Int) → (Int) → (Int) → (Int) → (Int) → (Int) → (Int) → (Int) → (Int) → (Nat → Int) → (Nat → Int) → (Nat → Int) → (Nat → Int) → (Nat → Int) →  Option (Int × Int × Int × Int × Int × (Nat → Int) × (Nat → Int) × (Nat → Int) × (Nat → Int) × (Nat → Int))
  | 0, _, _, _, _, _, _, _, _, _, _, _, _, _, _ => none
  | n + 1, a0, a1, a2, a3, a4, a5, a6, a7, a8, a9, a10, a11, a12, a13 =>
    cnd (decide ((a5) < (a4)))
      (chk (inB (a5) 8)
        (chk (inB (a0) 17)
          (l_impl_Roof_comes_b2 n a0 (IntKind.i32.wrap ((a1) - ((a11) (0 + (a5).toNat * 17 + (a0).toNat * 1)))) a2 a3 a4 (IntKind.i64.wrap ((a5) + (1))) a6 a7 a8 a9 a10 a11 a12 (updC (a13) (0 + (a5).toNat * 17 + (a0).toNat * 1) (a1)))))
      (some ((a2, a3, a6, a7, a8, a9, a10, a11, a12, a13)))
def l_impl_Roof_comes_b0 : Nat → (Int) → (Int) → (Int) → (Int) → (Int) → (Nat → Int) → (Nat → Int) → (Nat → Int) → (Nat → Int) → (Nat → Int) →  Option ((Nat → Int) × (Nat → Int))
  | 0, _, _, _, _, _, _, _, _, _, _ => none
  | n + 1, a0, a1, a2, a3, a4, a5, a6, a7, a8, a9 =>
    cnd (decide ((a1) < (a0)))
      (chk (inB (a1) 17)
        (bnd (l_impl_Roof_comes_b2 n a1 (IntKind.i32.wrap ((a6) (0 + (a1).toNat * 1))) a0 a1 (IntKind.i64.wrap (a3)) 0 a2 a3 a4 a5 a6 a7 a8 a9) fun (u7_0, u7_1, u7_2, u7_3, u7_4, u7_5, u7_6, u7_7, u7_8, u7_9) =>
          l_impl_Roof_comes_b0 n u7_0 (IntKind.i64.wrap ((u7_1) + (1))) u7_2 u7_3 u7_4 u7_5 u7_6 u7_7 u7_8 u7_9))
      (some ((a8, a9)))
def s_impl_Roof_comes (n : Nat) (a0 : Int) (a1 : Int) (a2 : Int) (a3 : Nat → Int) (a4 : Nat → Int) (a5 : Nat → Int) : Option ((Nat → Int)) :=
  bnd (s_impl_Roof_cells n a0 a1 a2 a3) fun y1_0 =>
    bnd (l_impl_Roof_comes_b0 n y1_0 0 a0 a1 a2 a3 a4 a5 (fun _ => 0) (fun _ => 0)) fun (u9_0, u9_1) =>
      some (u9_1)
def s_impl_ComesTo (n : Nat) (a0 : Int) (a1 : Int) (a2 : Int) (a3 : Nat → Int) (a4 : Nat → Int) (a5 : Nat → Int) : Option ((Nat → Int) × Int) :=
  bnd (s_impl_seenCode n a0 a1 a2 a3 a4 a5 true) fun y1_0 =>
    cnd (decide ((y1_0) = (0)))
      (bnd (s_impl_Roof_comes n a0 a1 a2 a3 a4 a5) fun y3_0 =>
        some ((y3_0, 0)))
      (some ((fun _ => 0, y1_0)))
def s_laws_FnExactComesTo (n : Nat) (a0 : Int) (a1 : Int) (a2 : Int) (a3 : Nat → Int) (a4 : Nat → Int) (a5 : Nat → Int) : Option (Bool) :=
  bnd (s_laws_toRoof n a0 a1 a2 a3) fun (y1_0, y1_1, y1_2, y1_3) =>
    bnd (s_laws_toRain n a4) fun y2_0 =>
      bnd (s_laws_toDrips n a5) fun y3_0 =>
        bnd (s_spec_ComesTo n y1_0 y1_1 y1_2 y1_3 y2_0 y3_0) fun (y4_0, y4_1) =>
          bnd (s_laws_toRoof n a0 a1 a2 a3) fun (y5_0, y5_1, y5_2, y5_3) =>
            bnd (s_laws_toRain n a4) fun y6_0 =>
              bnd (s_laws_toDrips n a5) fun y7_0 =>
                bnd (s_impl_ComesTo n y5_0 y5_1 y5_2 y5_3 y6_0 y7_0) fun (y8_0, y8_1) =>
                  bnd (s_laws_eqDrips n y8_0 y4_0) fun y9_0 =>
                    cnd (y9_0)
                      (cnd (decide ((y8_1) = (y4_1)))
                        (some (true))
                        (some (false)))
                      (some (false))
def s_spec_l03Drop (n : Nat) (a0 : Int) (a1 : Int) : Option (Int) :=
  cnd (decide ((a0) = (1)))
    (some (IntKind.i64.wrap ((IntKind.i64.wrap ((a1) + (1))).tdiv (2))))
    (cnd (decide ((a0) = (2)))
      (some (IntKind.i64.wrap ((IntKind.i64.wrap ((a1) + (2))).tdiv (3))))
      (cnd (decide ((a0) = (3)))
        (some (a1))
        (some (0))))
def l_spec_l03Kinds_b2 : Nat → (Nat → Int) → (Nat → Int) → (Int) → (Int) → (Int) → (Bool) → (Int) → (Int) → (Int) →  Option ((Nat → Int) × (Nat → Int) × Int × Int × Int × Bool × Int × Int)
  | 0, _, _, _, _, _, _, _, _, _ => none
  | n + 1, a0, a1, a2, a3, a4, a5, a6, a7, a8 =>
    cnd (decide ((a6) ≤ (IntKind.i64.wrap ((a3) + (1)))))
      (chk (inB (a7) 8)
        (chk (inB (a6) 17)
          (cnd (a5)
            (bnd (s_spec_l03Drop n a4 (IntKind.i64.wrap ((a0) (0 + (a7).toNat * 17 + (a6).toNat * 1)))) fun y7_0 =>
              cnd (decide ((IntKind.i64.wrap ((a1) (0 + (a7).toNat * 17 + (a6).toNat * 1))) = (y7_0)))
                (l_spec_l03Kinds_b2 n a0 a1 a2 a3 a4 true (IntKind.i64.wrap ((a6) + (1))) a7 a8)
                (cnd (decide ((a4) = (3)))
                  (l_spec_l03Kinds_b2 n a0 a1 a2 a3 a4 ((decide ((IntKind.i64.wrap ((a1) (0 + (a7).toNat * 17 + (a6).toNat * 1))) = (0)))) (IntKind.i64.wrap ((a6) + (1))) a7 a8)
                  (l_spec_l03Kinds_b2 n a0 a1 a2 a3 a4 false (IntKind.i64.wrap ((a6) + (1))) a7 a8)))
            (l_spec_l03Kinds_b2 n a0 a1 a2 a3 a4 false (IntKind.i64.wrap ((a6) + (1))) a7 a8))))
      (some ((a0, a1, a2, a3, a4, (a5), a7, a8)))
def l_spec_l03Kinds_b0 : Nat → (Nat → Int) → (Nat → Int) → (Int) → (Int) → (Int) → (Int) → (Int) →  Option (Int)
  | 0, _, _, _, _, _, _, _ => none
  | n + 1, a0, a1, a2, a3, a4, a5, a6 =>
    cnd (decide ((a4) ≤ (3)))
      (bnd (l_spec_l03Kinds_b2 n a0 a1 a2 a3 a4 true a3 a5 a6) fun (u10_0, u10_1, u10_2, u10_3, u10_4, u10_5, u10_6, u10_7) =>
        cnd (u10_5)
          (chk (decide (0 ≤ IntKind.u64.wrap (u10_4)))
            (l_spec_l03Kinds_b0 n u10_0 u10_1 (IntKind.u8.wrap (BitVec.ofInt IntKind.u8.bits (u10_2) ||| BitVec.ofInt IntKind.u8.bits (IntKind.u8.wrap ((1) * 2 ^ (min (IntKind.u64.wrap (u10_4)).toNat IntKind.u8.bits)))).toNat) u10_3 (IntKind.i64.wrap ((u10_4) + (1))) u10_6 u10_7))
          (l_spec_l03Kinds_b0 n u10_0 u10_1 u10_2 u10_3 (IntKind.i64.wrap ((u10_4) + (1))) u10_6 u10_7))
      (some (a2))
def s_spec_l03Kinds (n : Nat) (a0 : Int) (a1 : Int) (a2 : Int) (a3 : Nat → Int) (a4 : Nat → Int) (a5 : Nat → Int) (a6 : Int) (a7 : Int) : Option (Int) :=
  bnd (s_spec_l01First n a0 a1 a2 a3 a6 a7) fun y1_0 =>
    bnd (l_spec_l03Kinds_b0 n a4 a5 0 y1_0 0 a6 a7) fun u14_0 =>
      some (u14_0)
def s_spec_KindsFor (n : Nat) (a0 : Int) (a1 : Int) (a2 : Int) (a3 : Nat → Int) (a4 : Nat → Int) (a5 : Nat → Int) (a6 : Int) (a7 : Int) : Option (Int × Int) :=
  bnd (s_spec_l02Ok n a0 a1 a2 a3 a4) fun y1_0 =>
    cnd (y1_0)
      (bnd (s_spec_l01Is n a0 a1 a2 a3 a6 a7) fun y3_0 =>
        bnd (s_spec_l03Asked n a0 a1 a2 a3 a4 a5 ((y3_0))) fun (y4_0, y4_1) =>
          cnd (decide ((y4_1) = (0)))
            (bnd (s_spec_l03Kinds n a0 a1 a2 a3 y4_0 a5 a6 a7) fun y6_0 =>
              some ((y6_0, 0)))
            (some ((0, y4_1))))
      (some ((0, 1)))
def s_spec_l03Explains (n : Nat) (a0 : Int) (a1 : Int) (a2 : Int) (a3 : Nat → Int) (a4 : Nat → Int) (a5 : Nat → Int) : Option (Bool) :=
  bnd (s_spec_l02Run n a0 a1 a2 a3 a4) fun (y1_0, y1_1, y1_2) =>
    some ((allEq 136 (y1_0) (a5)))
def s_spec_Explains (n : Nat) (a0 : Int) (a1 : Int) (a2 : Int) (a3 : Nat → Int) (a4 : Nat → Int) (a5 : Nat → Int) : Option (Bool × Int) :=
  bnd (s_spec_l03Asked n a0 a1 a2 a3 a4 a5 true) fun (y1_0, y1_1) =>
    cnd (decide ((y1_1) = (0)))
      (bnd (s_spec_l03Explains n a0 a1 a2 a3 a4 a5) fun y3_0 =>
        some (((y3_0), 0)))
      (some ((false, y1_1)))
def s_impl_Explains (n : Nat) (a0 : Int) (a1 : Int) (a2 : Int) (a3 : Nat → Int) (a4 : Nat → Int) (a5 : Nat → Int) : Option (Bool × Int) :=
  bnd (s_impl_seenCode n a0 a1 a2 a3 a4 a5 true) fun y1_0 =>
    cnd (decide ((y1_0) = (0)))
      (bnd (s_impl_Roof_run n a0 a1 a2 a3 a4) fun (y3_0, y3_1, y3_2, y3_3) =>
        some (((allEq 136 (y3_0) (a5)), 0)))
      (some ((false, y1_0)))
def s_laws_FnExactExplains (n : Nat) (a0 : Int) (a1 : Int) (a2 : Int) (a3 : Nat → Int) (a4 : Nat → Int) (a5 : Nat → Int) : Option (Bool) :=
  bnd (s_laws_toRoof n a0 a1 a2 a3) fun (y1_0, y1_1, y1_2, y1_3) =>
    bnd (s_laws_toRain n a4) fun y2_0 =>
      bnd (s_laws_toDrips n a5) fun y3_0 =>
        bnd (s_spec_Explains n y1_0 y1_1 y1_2 y1_3 y2_0 y3_0) fun (y4_0, y4_1) =>
          bnd (s_laws_toRoof n a0 a1 a2 a3) fun (y5_0, y5_1, y5_2, y5_3) =>
            bnd (s_laws_toRain n a4) fun y6_0 =>
              bnd (s_laws_toDrips n a5) fun y7_0 =>
                bnd (s_impl_Explains n y5_0 y5_1 y5_2 y5_3 y6_0 y7_0) fun (y8_0, y8_1) =>
                  cnd ((y8_0) == (y4_0))
                    (cnd (decide ((y8_1) = (y4_1)))
                      (some (true))
                      (some (false)))
                    (some (false))
def s_laws_szPlaceS (n : Nat) (a0 : List V) (a1 : Int) : Option (Int) :=
  cnd (decide ((IntKind.i64.wrap ((a1) - (((a0).length : Int)))) < (0)))
    (some (-1))
    (some (IntKind.i64.wrap ((a1) - (((a0).length : Int)))))
def l_laws_toPlaceS_b0 : Nat → (List V) → (Int) → (List V) →  Option (List V)
  | 0, _, _, _ => none
  | n + 1, a0, a1, a2 =>
    cnd (decide ((a1) < (((a0).length : Int))))
      (bnd (bnd (idx (a0) (a1)) as_Pi8_i8Q) fun (e3_0, e3_1) =>
        bnd (s_laws_toPlace n e3_0 e3_1) fun (y4_0, y4_1) =>
          chk (inB (a1) (a2).length)
            (bnd (bnd (nth (a2) ((a1).toNat)) as_Pi8_i8Q) fun (e6_0, e6_1) =>
              l_laws_toPlaceS_b0 n a0 (IntKind.i64.wrap ((a1) + (1))) (setNth (a2) ((a1).toNat) (V.parts [(V.int .i8 (y4_0)), (V.int .i8 (y4_1))]))))
      (some (a2))
def s_laws_toPlaceS (n : Nat) (a0 : List V) : Option (List V) :=
  chk (decide (((a0).length : Int) = ((a0).length : Int)) && decide (0 ≤ ((a0).length : Int)) && decide ((((a0).length : Int)).toNat * 2 ≤ 140737488355328))
    (bnd (l_laws_toPlaceS_b0 n a0 0 (List.replicate (((a0).length : Int)).toNat (V.parts [(V.int .i8 (0)), (V.int .i8 (0))]))) fun u7_0 =>
      some (u7_0))
def l_spec_l03Places_b0 : Nat → (Int) → (Int) → (Int) → (Nat → Int) → (List V) → (Bool) → (Int) →  Option (Bool)
  | 0, _, _, _, _, _, _, _ => none
  | n + 1, a0, a1, a2, a3, a4, a5, a6 =>
    cnd (decide ((a6) < (((a4).length : Int))))
      (cnd (a5)
        (bnd (bnd (idx (a4) (a6)) as_Pi8_i8Q) fun (e5_0, e5_1) =>
          bnd (s_spec_l01Is n a0 a1 a2 a3 e5_0 e5_1) fun y6_0 =>
            l_spec_l03Places_b0 n a0 a1 a2 a3 a4 ((y6_0)) (IntKind.i64.wrap ((a6) + (1))))
        (l_spec_l03Places_b0 n a0 a1 a2 a3 a4 false (IntKind.i64.wrap ((a6) + (1)))))
      (some ((a5)))
def s_spec_l03Places (n : Nat) (a0 : Int) (a1 : Int) (a2 : Int) (a3 : Nat → Int) (a4 : Nat → Int) (a5 : List V) (a6 : Bool) : Option (Int) :=
  bnd (s_spec_l02Ok n a0 a1 a2 a3 a4) fun y1_0 =>
    cnd (y1_0)
      (bnd (l_spec_l03Places_b0 n a0 a1 a2 a3 a5 ((a6)) 0) fun u7_0 =>
        cnd (u7_0)
          (some (0))
          (some (2)))
      (some (1))
def l_spec_l03After_b0 : Nat → (Nat → Int) → (List V) → (Int) → (Int) → (Int) → (Int) → (Nat → Int) →  Option ((Nat → Int) × Int × Int × Int × (Nat → Int))
  | 0, _, _, _, _, _, _, _ => none
  | n + 1, a0, a1, a2, a3, a4, a5, a6 =>
    cnd (decide ((a2) < (((a1).length : Int))))
      (bnd (bnd (idx (a1) (a2)) as_Pi8_i8Q) fun (e2_0, e2_1) =>
        bnd (bnd (idx (a1) (a2)) as_Pi8_i8Q) fun (e3_0, e3_1) =>
          chk (inB (e2_0) 8)
            (chk (inB (e3_1) 8)
              (l_spec_l03After_b0 n a0 a1 (IntKind.i64.wrap ((a2) + (1))) a3 a4 a5 (updC (a6) (0 + (e2_0).toNat * 8 + (e3_1).toNat * 1) (0)))))
      (some ((a0, a3, a4, a5, a6)))
def s_spec_l03After (n : Nat) (a0 : Int) (a1 : Int) (a2 : Int) (a3 : Nat → Int) (a4 : Nat → Int) (a5 : List V) : Option (Int) :=
  bnd (l_spec_l03After_b0 n a4 a5 0 a0 a1 a2 a3) fun (u6_0, u6_1, u6_2, u6_3, u6_4) =>
    bnd (s_spec_l02Sum n u6_1 u6_2 u6_3 u6_4 u6_0) fun y8_0 =>
      some (y8_0)
def s_spec_DripAfter (n : Nat) (a0 : Int) (a1 : Int) (a2 : Int) (a3 : Nat → Int) (a4 : Nat → Int) (a5 : List V) : Option (Int × Int) :=
  bnd (s_spec_l03Places n a0 a1 a2 a3 a4 a5 true) fun y1_0 =>
    cnd (decide ((y1_0) = (0)))
      (bnd (s_spec_l03After n a0 a1 a2 a3 a4 a5) fun y3_0 =>
        some ((y3_0, 0)))
      (some ((0, y1_0)))
def s_impl_areAll_impl_Place_1__Roof_has (n : Nat) (a0 : Int) (a1 : Int) (a2 : Int) (a3 : Int) (a4 : Int) (a5 : Nat → Int) : Option (Bool) :=
  bnd (s_impl_Roof_has n a2 a3 a4 a5 a0 a1) fun y1_0 =>
    some ((!(y1_0)))
def l_slices_IndexFunc_Simpl_Place_impl_Place__areAll_Place_1__Roof_has_b0 : Nat → (List V) → (Int) → (Int) → (Int) → (Nat → Int) → (Int) → (Int) →  Option (Sum (Unit) (Int))
  | 0, _, _, _, _, _, _, _ => none
  | n + 1, a0, a1, a2, a3, a4, a5, a6 =>
    cnd (decide ((a6) < (a5)))
      (bnd (bnd (idx (a0) (a6)) as_Pi8_i8Q) fun (e2_0, e2_1) =>
        bnd (s_impl_areAll_impl_Place_1__Roof_has n e2_0 e2_1 a1 a2 a3 a4) fun y3_0 =>
          cnd (y3_0)
            (some (.inr (a6)))
            (l_slices_IndexFunc_Simpl_Place_impl_Place__areAll_Place_1__Roof_has_b0 n a0 a1 a2 a3 a4 a5 (IntKind.i64.wrap ((a6) + (1)))))
      (some (.inl (())))
def s_slices_IndexFunc_Simpl_Place_impl_Place__areAll_Place_1__Roof_has (n : Nat) (a0 : List V) (a1 : Int) (a2 : Int) (a3 : Int) (a4 : Nat → Int) : Option (Int) :=
  bnd (l_slices_IndexFunc_Simpl_Place_impl_Place__areAll_Place_1__Roof_has_b0 n a0 a1 a2 a3 a4 (((a0).length : Int)) 0) fun w => match w with
    | .inl _ =>
      some (-1)
    | .inr u6_0 =>
      some (u6_0)
def s_slices_ContainsFunc_Simpl_Place_impl_Place__areAll_Place_1__Roof_has (n : Nat) (a0 : List V) (a1 : Int) (a2 : Int) (a3 : Int) (a4 : Nat → Int) : Option (Bool) :=
  bnd (s_slices_IndexFunc_Simpl_Place_impl_Place__areAll_Place_1__Roof_has n a0 a1 a2 a3 a4) fun y1_0 =>
    some ((decide ((0) ≤ (y1_0))))
def s_impl_areAll_impl_Place__Roof_has (n : Nat) (a0 : List V) (a1 : Int) (a2 : Int) (a3 : Int) (a4 : Nat → Int) : Option (Bool) :=
  bnd (s_slices_ContainsFunc_Simpl_Place_impl_Place__areAll_Place_1__Roof_has n a0 a1 a2 a3 a4) fun y1_0 =>
    some ((!(y1_0)))
def l_impl_Roof_mended_b0 : Nat → (List V) → (Int) → (Int) → (Int) → (Int) → (Int) → (Nat → Int) → (Int) → (Int) → (Int) → (Nat → Int) →  Option (Int × Int × Int × (Nat → Int) × Int × Int × Int × (Nat → Int))
  | 0, _, _, _, _, _, _, _, _, _, _, _ => none
  | n + 1, a0, a1, a2, a3, a4, a5, a6, a7, a8, a9, a10 =>
    cnd (decide ((a2) < (a1)))
      (bnd (bnd (idx (a0) (a2)) as_Pi8_i8Q) fun (e2_0, e2_1) =>
        bnd (s_impl_Roof_with n a3 a4 a5 a6 e2_0 e2_1 0) fun (y3_0, y3_1, y3_2, y3_3) =>
          l_impl_Roof_mended_b0 n a0 a1 (IntKind.i64.wrap ((a2) + (1))) y3_0 y3_1 y3_2 y3_3 a7 a8 a9 a10)
      (some ((a3, a4, a5, a6, a7, a8, a9, a10)))
def s_impl_Roof_mended (n : Nat) (a0 : Int) (a1 : Int) (a2 : Int) (a3 : Nat → Int) (a4 : List V) : Option (Int × Int × Int × (Nat → Int)) :=
  bnd (l_impl_Roof_mended_b0 n a4 (((a4).length : Int)) 0 a0 a1 a2 a3 0 0 0 (fun _ => 0)) fun (u4_0, u4_1, u4_2, u4_3, u4_4, u4_5, u4_6, u4_7) =>
    some ((u4_0, u4_1, u4_2, u4_3))
def s_impl_Roof_after (n : Nat) (a0 : Int) (a1 : Int) (a2 : Int) (a3 : Nat → Int) (a4 : Nat → Int) (a5 : List V) : Option (Int) :=
  bnd (s_impl_Roof_mended n a0 a1 a2 a3 a5) fun (y1_0, y1_1, y1_2, y1_3) =>
    bnd (s_impl_Roof_dripSum n y1_0 y1_1 y1_2 y1_3 a4) fun y2_0 =>
      some (y2_0)
def s_impl_DripAfter (n : Nat) (a0 : Int) (a1 : Int) (a2 : Int) (a3 : Nat → Int) (a4 : Nat → Int) (a5 : List V) : Option (Int × Int) :=
  bnd (s_impl_areAll_impl_Place__Roof_has n a5 a0 a1 a2 a3) fun y1_0 =>
    bnd (s_impl_rainCode n a0 a1 a2 a3 a4 ((y1_0))) fun y2_0 =>
      cnd (decide ((y2_0) = (0)))
        (bnd (s_impl_Roof_after n a0 a1 a2 a3 a4 a5) fun y4_0 =>
          some ((y4_0, 0)))
        (some ((0, y2_0)))
def s_laws_FnExactDripAfter (n : Nat) (a0 : Int) (a1 : Int) (a2 : Int) (a3 : Nat → Int) (a4 : Nat → Int) (a5 : List V) : Option (Bool) :=
  bnd (s_laws_szPlaceS n a5 1048576) fun y1_0 =>
    cnd (decide ((y1_0) < (0)))
      (some (true))
      (bnd (s_laws_toRoof n a0 a1 a2 a3) fun (y3_0, y3_1, y3_2, y3_3) =>
        bnd (s_laws_toRain n a4) fun y4_0 =>
          bnd (s_laws_toPlaceS n a5) fun y5_0 =>
            bnd (s_spec_DripAfter n y3_0 y3_1 y3_2 y3_3 y4_0 y5_0) fun (y6_0, y6_1) =>
              bnd (s_laws_toPlaceS n a5) fun y7_0 =>
                bnd (s_laws_toRoof n a0 a1 a2 a3) fun (y8_0, y8_1, y8_2, y8_3) =>
                  bnd (s_laws_toRain n a4) fun y9_0 =>
                    bnd (s_impl_DripAfter n y8_0 y8_1 y8_2 y8_3 y9_0 y7_0) fun (y10_0, y10_1) =>
                      cnd (decide ((y10_0) = (y6_0)))
                        (cnd (decide ((y10_1) = (y6_1)))
                          (bnd (s_laws_toPlaceS n a5) fun y13_0 =>
                            bnd (s_laws_eqPlaceS n y7_0 y13_0) fun y14_0 =>
                              cnd (y14_0)
                                (some (true))
                                (some (false)))
                          (some (false)))
                        (some (false)))
def l_spec_l03Wrong_b0 : Nat → (Int) → (Int) → (Int) → (Nat → Int) → (Int) → (List V) → (List V) →  Option (List V)
  | 0, _, _, _, _, _, _, _ => none
  | n + 1, a0, a1, a2, a3, a4, a5, a6 =>
    cnd (decide ((a4) < (((a6).length : Int))))
      (chk (inB (a4) (a6).length)
        (bnd (bnd (nth (a6) ((a4).toNat)) as_Pi8_i8Q) fun (e4_0, e4_1) =>
          bnd (s_spec_l01At n a0 a1 a2 a3 e4_0 e4_1) fun y5_0 =>
            cnd (decide ((y5_0) = (0)))
              (l_spec_l03Wrong_b0 n a0 a1 a2 a3 (IntKind.i64.wrap ((a4) + (1))) a5 a6)
              (bnd (bnd (nth (a6) ((a4).toNat)) as_Pi8_i8Q) fun (e7_0, e7_1) =>
                chk (decide (((a5).length + ([(V.parts [(V.int .i8 (e7_0)), (V.int .i8 (e7_1))])]).length) * 2 ≤ 140737488355328))
                  (l_spec_l03Wrong_b0 n a0 a1 a2 a3 (IntKind.i64.wrap ((a4) + (1))) (a5 ++ ([(V.parts [(V.int .i8 (e7_0)), (V.int .i8 (e7_1))])])) a6))))
      (some (a5))
def s_spec_l03Wrong (n : Nat) (a0 : Int) (a1 : Int) (a2 : Int) (a3 : Nat → Int) : Option (List V) :=
  bnd (s_spec_l01All n a0 a1 a2 a3) fun y1_0 =>
    bnd (l_spec_l03Wrong_b0 n a0 a1 a2 a3 0 ([]) y1_0) fun u9_0 =>
      some (u9_0)
def s_spec_CheckRepairs (n : Nat) (a0 : Int) (a1 : Int) (a2 : Int) (a3 : Nat → Int) (a4 : Nat → Int) (a5 : List V) (a6 : Int) : Option (Bool × Int) :=
  bnd (s_spec_l03Places n a0 a1 a2 a3 a4 a5 ((decide ((0) ≤ (a6))))) fun y1_0 =>
    cnd (decide ((y1_0) = (0)))
      (bnd (s_spec_l03Wrong n a0 a1 a2 a3) fun y3_0 =>
        chk (plainV (V.fresh 0 (y3_0)))
          (cnd (decide ((10) < (((y3_0).length : Int))))
            (cnd (decide ((3) = (0)))
              (bnd (s_spec_l03After n a0 a1 a2 a3 a4 a5) fun y7_0 =>
                some (((decide ((y7_0) ≤ (a6))), 0)))
              (some ((false, 3))))
            (bnd (s_spec_l03After n a0 a1 a2 a3 a4 a5) fun y8_0 =>
              some (((decide ((y8_0) ≤ (a6))), 0)))))
      (some ((false, y1_0)))
def s_impl_repairCode (n : Nat) (a0 : Int) (a1 : Int) (a2 : Int) (a3 : Nat → Int) (a4 : Nat → Int) (a5 : Bool) : Option (Int) :=
  bnd (s_impl_rainCode n a0 a1 a2 a3 a4 ((a5))) fun y1_0 =>
    cnd (decide ((y1_0) = (0)))
      (bnd (s_impl_Roof_wrong n a0 a1 a2 a3) fun y3_0 =>
        cnd (decide ((10) < (((y3_0).length : Int))))
          (some (3))
          (some (y1_0)))
      (some (y1_0))
def s_impl_CheckRepairs (n : Nat) (a0 : Int) (a1 : Int) (a2 : Int) (a3 : Nat → Int) (a4 : Nat → Int) (a5 : List V) (a6 : Int) : Option (Bool × Int) :=
  bnd (s_impl_areAll_impl_Place__Roof_has n a5 a0 a1 a2 a3) fun y1_0 =>
    cnd (y1_0)
      (bnd (s_impl_repairCode n a0 a1 a2 a3 a4 ((decide ((0) ≤ (a6))))) fun y3_0 =>
        cnd (decide ((y3_0) = (0)))
          (bnd (s_impl_Roof_after n a0 a1 a2 a3 a4 a5) fun y5_0 =>
            some (((decide ((y5_0) ≤ (a6))), 0)))
          (some ((false, y3_0))))
      (bnd (s_impl_repairCode n a0 a1 a2 a3 a4 false) fun y6_0 =>
        cnd (decide ((y6_0) = (0)))
          (bnd (s_impl_Roof_after n a0 a1 a2 a3 a4 a5) fun y8_0 =>
            some (((decide ((y8_0) ≤ (a6))), 0)))
          (some ((false, y6_0))))
def s_laws_FnExactCheckRepairs (n : Nat) (a0 : Int) (a1 : Int) (a2 : Int) (a3 : Nat → Int) (a4 : Nat → Int) (a5 : List V) (a6 : Int) : Option (Bool) :=
  bnd (s_laws_szPlaceS n a5 1048576) fun y1_0 =>
    cnd (decide ((y1_0) < (0)))
      (some (true))
      (bnd (s_laws_toRoof n a0 a1 a2 a3) fun (y3_0, y3_1, y3_2, y3_3) =>
        bnd (s_laws_toRain n a4) fun y4_0 =>
          bnd (s_laws_toPlaceS n a5) fun y5_0 =>
            bnd (s_spec_CheckRepairs n y3_0 y3_1 y3_2 y3_3 y4_0 y5_0 a6) fun (y6_0, y6_1) =>
              bnd (s_laws_toPlaceS n a5) fun y7_0 =>
                bnd (s_laws_toRoof n a0 a1 a2 a3) fun (y8_0, y8_1, y8_2, y8_3) =>
                  bnd (s_laws_toRain n a4) fun y9_0 =>
                    bnd (s_impl_CheckRepairs n y8_0 y8_1 y8_2 y8_3 y9_0 y7_0 a6) fun (y10_0, y10_1) =>
                      cnd ((y10_0) == (y6_0))
                        (cnd (decide ((y10_1) = (y6_1)))
                          (bnd (s_laws_toPlaceS n a5) fun y13_0 =>
                            bnd (s_laws_eqPlaceS n y7_0 y13_0) fun y14_0 =>
                              cnd (y14_0)
                                (some (true))
                                (some (false)))
                          (some (false)))
                        (some (false)))
end Go.Proofs.Ytdhcfdiggcgmhaa
