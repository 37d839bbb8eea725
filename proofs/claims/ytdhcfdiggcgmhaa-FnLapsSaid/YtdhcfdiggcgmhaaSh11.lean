/- What functions of the program answer, in plain Lean: printed by gen.py out of the program. -/
import Derived.Test.YtdhcfdiggcgmhaaSh2
import Derived.Test.YtdhcfdiggcgmhaaSh6
namespace Go.Proofs.Ytdhcfdiggcgmhaa
open Go
set_option linter.unusedVariables false
set_option linter.unusedSimpArgs false
def as_u8 : V → Option (Int)
  | (V.int .u8 (e0)) => some e0
  | _ => none
theorem as_u8_some {x : Option V} {e0 : Int} (h : bnd x as_u8 = some e0) : x = some (V.int .u8 (e0)) := by
  obtain ⟨v, rfl, k⟩ := bnd_some h
  unfold as_u8 at k
  split at k
  · simp only [Option.some.injEq, Prod.mk.injEq] at k
    obtain rfl := k
    rfl
  · cases k
def s_laws_a2Long (n : Nat) (a0 : List V) (a1 : List V) : Option (Bool) :=
  cnd (decide ((3000) < (((a0).length : Int))))
    (some (true))
    (some ((decide ((3000) < (((a1).length : Int))))))
def s_spec_l00From (n : Nat) (a0 : List V) : Option (List V × Int × Int) :=
  some ((a0, 0, 0))
def s_pspec_l00Src_next (n : Nat) (a0 : List V) (a1 : Int) (a2 : Int) : Option (Int × List V × Int × Int) :=
  cnd (decide ((a1) < (((a0).length : Int))))
    (bnd (bnd (idx (a0) (a1)) as_u8) fun e2_0 =>
      cnd (decide ((IntKind.i64.wrap ((a1) + (1))) ≤ (((a0).length : Int))))
        (some ((IntKind.i64.wrap (e2_0), a0, IntKind.i64.wrap ((a1) + (1)), IntKind.u64.wrap ((IntKind.u64.wrap ((IntKind.u64.wrap ((a2) * (6364136223846793005))) + (IntKind.u64.wrap (IntKind.i64.wrap (e2_0))))) + (1442695040888963407)))))
        (chk (decide (0 ≤ 40))
          (some ((IntKind.i64.wrap (IntKind.u64.wrap (BitVec.ofInt IntKind.u64.bits ((IntKind.u64.wrap ((IntKind.u64.wrap ((IntKind.u64.wrap ((a2) * (6364136223846793005))) + (IntKind.u64.wrap (IntKind.i64.wrap (e2_0))))) + (1442695040888963407))).fdiv (2 ^ (min ((40 : Int)).toNat IntKind.u64.bits))) &&& BitVec.ofInt IntKind.u64.bits (255)).toNat), a0, IntKind.i64.wrap ((a1) + (1)), IntKind.u64.wrap ((IntKind.u64.wrap ((IntKind.u64.wrap ((a2) * (6364136223846793005))) + (IntKind.u64.wrap (IntKind.i64.wrap (e2_0))))) + (1442695040888963407)))))))
    (cnd (decide ((IntKind.i64.wrap ((a1) + (1))) ≤ (((a0).length : Int))))
      (some ((0, a0, IntKind.i64.wrap ((a1) + (1)), IntKind.u64.wrap ((IntKind.u64.wrap ((IntKind.u64.wrap ((a2) * (6364136223846793005))) + (IntKind.u64.wrap (0)))) + (1442695040888963407)))))
      (chk (decide (0 ≤ 40))
        (some ((IntKind.i64.wrap (IntKind.u64.wrap (BitVec.ofInt IntKind.u64.bits ((IntKind.u64.wrap ((IntKind.u64.wrap ((IntKind.u64.wrap ((a2) * (6364136223846793005))) + (IntKind.u64.wrap (0)))) + (1442695040888963407))).fdiv (2 ^ (min ((40 : Int)).toNat IntKind.u64.bits))) &&& BitVec.ofInt IntKind.u64.bits (255)).toNat), a0, IntKind.i64.wrap ((a1) + (1)), IntKind.u64.wrap ((IntKind.u64.wrap ((IntKind.u64.wrap ((a2) * (6364136223846793005))) + (IntKind.u64.wrap (0)))) + (1442695040888963407)))))))
def s_pspec_l00Src_pick (n : Nat) (a0 : List V) (a1 : Int) (a2 : Int) (a3 : Int) : Option (Int × List V × Int × Int) :=
  cnd (decide ((a3) ≤ (1)))
    (some ((0, a0, a1, a2)))
    (bnd (s_pspec_l00Src_next n a0 a1 a2) fun (y2_0, y2_1, y2_2, y2_3) =>
      cnd (decide ((200) < (a3)))
        (bnd (s_pspec_l00Src_next n y2_1 y2_2 y2_3) fun (y4_0, y4_1, y4_2, y4_3) =>
          chk (!decide ((a3) = 0))
            (some (((IntKind.i64.wrap ((IntKind.i64.wrap ((y2_0) * (256))) + (y4_0))).tmod (a3), y4_1, y4_2, y4_3))))
        (chk (!decide ((a3) = 0))
          (some (((y2_0).tmod (a3), y2_1, y2_2, y2_3)))))
def s_pspec_l00Src_one (n : Nat) (a0 : List V) (a1 : Int) (a2 : Int) (a3 : Int) : Option (Bool × List V × Int × Int) :=
  bnd (s_pspec_l00Src_pick n a0 a1 a2 a3) fun (y1_0, y1_1, y1_2, y1_3) =>
    some (((decide ((y1_0) = (0))), y1_1, y1_2, y1_3))
def l_spec_l01Drawn_b0 : Nat → (Int) → (Int) → (List V) → (Int) → (Int) → (Int) → (Int) → (Int) → (Nat → Int) → (Int) → (Int) → (Int) → (Nat → Int) → (List V) →  Option (List V × Int × Int × Int × Int × Int × (Nat → Int) × Int × Int × Int × (Nat → Int))
  | 0, _, _, _, _, _, _, _, _, _, _, _, _, _, _ => none
  | n + 1, a0, a1, a2, a3, a4, a5, a6, a7, a8, a9, a10, a11, a12, a13 =>
    cnd (decide ((a1) < (((a13).length : Int))))
      (bnd (s_pspec_l00Src_one n a2 a3 a4 a0) fun (y8_0, y8_1, y8_2, y8_3) =>
        cnd (y8_0)
          (chk (inB (a1) (a13).length)
            (bnd (bnd (nth (a13) ((a1).toNat)) as_Pi8_i8Q) fun (e11_0, e11_1) =>
              bnd (bnd (nth (a13) ((a1).toNat)) as_Pi8_i8Q) fun (e12_0, e12_1) =>
                bnd (bnd (nth (a13) ((a1).toNat)) as_Pi8_i8Q) fun (e13_0, e13_1) =>
                  bnd (bnd (nth (a13) ((a1).toNat)) as_Pi8_i8Q) fun (e14_0, e14_1) =>
                    bnd (s_pspec_l00Src_pick n y8_1 y8_2 y8_3 4) fun (y15_0, y15_1, y15_2, y15_3) =>
                      chk (inB (e12_0) 8)
                        (chk (inB (e14_1) 8)
                          (l_spec_l01Drawn_b0 n a0 (IntKind.i64.wrap ((a1) + (1))) y15_1 y15_2 y15_3 a5 a6 a7 a8 a9 a10 a11 (updC (a12) (0 + (e12_0).toNat * 8 + (e14_1).toNat * 1) (IntKind.u8.wrap (y15_0))) a13))))
          (l_spec_l01Drawn_b0 n a0 (IntKind.i64.wrap ((a1) + (1))) y8_1 y8_2 y8_3 a5 a6 a7 a8 a9 a10 a11 a12 a13))
      (some ((a2, a3, a4, a5, a6, a7, a8, a9, a10, a11, a12)))
def s_spec_l01Drawn (n : Nat) (a0 : List V) (a1 : Int) (a2 : Int) : Option (Int × Int × Int × (Nat → Int) × List V × Int × Int) :=
  bnd (s_pspec_l00Src_pick n a0 a1 a2 5) fun (y1_0, y1_1, y1_2, y1_3) =>
    bnd (s_pspec_l00Src_pick n y1_1 y1_2 y1_3 5) fun (y2_0, y2_1, y2_2, y2_3) =>
      bnd (s_pspec_l00Src_pick n y2_1 y2_2 y2_3 2) fun (y3_0, y3_1, y3_2, y3_3) =>
        bnd (s_pspec_l00Src_pick n y3_1 y3_2 y3_3 5) fun (y4_0, y4_1, y4_2, y4_3) =>
          bnd (s_spec_l01All n (IntKind.i8.wrap (IntKind.i64.wrap ((1) + (y1_0)))) (IntKind.i8.wrap (IntKind.i64.wrap ((1) + (y2_0)))) (IntKind.u8.wrap (y3_0)) (fun _ => 0)) fun y5_0 =>
            chk (plainV (V.fresh 0 (y5_0)))
              (bnd (l_spec_l01Drawn_b0 n (IntKind.i64.wrap ((2) + (y4_0))) 0 y4_1 y4_2 y4_3 0 0 0 (fun _ => 0) (IntKind.i8.wrap (IntKind.i64.wrap ((1) + (y1_0)))) (IntKind.i8.wrap (IntKind.i64.wrap ((1) + (y2_0)))) (IntKind.u8.wrap (y3_0)) (fun _ => 0) y5_0) fun (u18_0, u18_1, u18_2, u18_3, u18_4, u18_5, u18_6, u18_7, u18_8, u18_9, u18_10) =>
                some ((u18_7, u18_8, u18_9, u18_10, u18_0, u18_1, u18_2)))
def s_spec_A2Roof (n : Nat) (a0 : List V) : Option (Int × Int × Int × (Nat → Int)) :=
  bnd (s_spec_l00From n a0) fun (y1_0, y1_1, y1_2) =>
    bnd (s_spec_l01Drawn n y1_0 y1_1 y1_2) fun (y2_0, y2_1, y2_2, y2_3, y2_4, y2_5, y2_6) =>
      some ((y2_0, y2_1, y2_2, y2_3))
def s_spec_A2Places (n : Nat) (a0 : Int) (a1 : Int) (a2 : Int) (a3 : Nat → Int) : Option (List V) :=
  bnd (s_spec_l01All n a0 a1 a2 a3) fun y1_0 =>
    chk (plainV (V.fresh 0 (y1_0)))
      (some (y1_0))
def l_slices_Index_Simpl_Place_impl_Place_b0 : Nat → (List V) → (Int) → (Int) → (Int) → (Int) →  Option (Sum (Unit) (Int))
  | 0, _, _, _, _, _ => none
  | n + 1, a0, a1, a2, a3, a4 =>
    cnd (decide ((a2) < (a1)))
      (bnd (bnd (idx (a0) (a2)) as_Pi8_i8Q) fun (e2_0, e2_1) =>
        cnd (eqParts [(V.int .i8 (a3)), (V.int .i8 (a4))] [(V.int .i8 (e2_0)), (V.int .i8 (e2_1))])
          (some (.inr (a2)))
          (l_slices_Index_Simpl_Place_impl_Place_b0 n a0 a1 (IntKind.i64.wrap ((a2) + (1))) a3 a4))
      (some (.inl (())))
def s_slices_Index_Simpl_Place_impl_Place (n : Nat) (a0 : List V) (a1 : Int) (a2 : Int) : Option (Int) :=
  bnd (l_slices_Index_Simpl_Place_impl_Place_b0 n a0 (((a0).length : Int)) 0 a1 a2) fun w => match w with
    | .inl _ =>
      some (-1)
    | .inr u5_0 =>
      some (u5_0)
def s_slices_Contains_Simpl_Place_impl_Place (n : Nat) (a0 : List V) (a1 : Int) (a2 : Int) : Option (Bool) :=
  bnd (s_slices_Index_Simpl_Place_impl_Place n a0 a1 a2) fun y1_0 =>
    some ((decide ((0) ≤ (y1_0))))
def l_impl_Roof_lapped_b0 : Nat → (Int) → (Int) → (Int) → (Int) → (Int) → (Int) → (Nat → Int) → (List V) → (List V) →  Option (List V)
  | 0, _, _, _, _, _, _, _, _, _ => none
  | n + 1, a0, a1, a2, a3, a4, a5, a6, a7, a8 =>
    cnd (decide ((a2) < (a1)))
      (chk (inB (a2) (a8).length)
        (bnd (bnd (nth (a8) ((a2).toNat)) as_i64) fun e6_0 =>
          bnd (s_impl_Roof_tileAt n a3 a4 a5 a6 a0 e6_0) fun y7_0 =>
            cnd (decide ((y7_0) = (-1)))
              (l_impl_Roof_lapped_b0 n a0 a1 (IntKind.i64.wrap ((a2) + (1))) a3 a4 a5 a6 a7 a8)
              (bnd (s_slices_Contains_Simpl_Place_impl_Place n a7 (IntKind.i8.wrap (a0)) (IntKind.i8.wrap (y7_0))) fun y9_0 =>
                cnd (y9_0)
                  (l_impl_Roof_lapped_b0 n a0 a1 (IntKind.i64.wrap ((a2) + (1))) a3 a4 a5 a6 a7 a8)
                  (chk (decide (((a7).length + ([(V.parts [(V.int .i8 (IntKind.i8.wrap (a0))), (V.int .i8 (IntKind.i8.wrap (y7_0)))])]).length) * 2 ≤ 140737488355328))
                    (l_impl_Roof_lapped_b0 n a0 a1 (IntKind.i64.wrap ((a2) + (1))) a3 a4 a5 a6 (a7 ++ ([(V.parts [(V.int .i8 (IntKind.i8.wrap (a0))), (V.int .i8 (IntKind.i8.wrap (y7_0)))])])) a8)))))
      (some (a7))
def s_impl_Roof_lapped (n : Nat) (a0 : Int) (a1 : Int) (a2 : Int) (a3 : Nat → Int) (a4 : Int) (a5 : Int) (a6 : Int) : Option (List V) :=
  bnd (s_impl_Roof_isCourse n a0 a1 a2 a3 a6) fun y1_0 =>
    cnd (y1_0)
      (bnd (s_impl_Roof_cellsOf n a0 a1 a2 a3 a4 a5) fun y3_0 =>
        bnd (l_impl_Roof_lapped_b0 n a6 (((y3_0).length : Int)) 0 a0 a1 a2 a3 (([] : List V)) y3_0) fun u12_0 =>
          some (u12_0))
      (some (([] : List V)))
def s_impl_AboveOf (n : Nat) (a0 : Int) (a1 : Int) (a2 : Int) (a3 : Nat → Int) (a4 : Int) (a5 : Int) : Option (List V × Int) :=
  bnd (s_impl_Roof_has n a0 a1 a2 a3 a4 a5) fun y1_0 =>
    bnd (s_impl_roofCode n a0 a1 a2 a3 ((y1_0))) fun y2_0 =>
      cnd (decide ((y2_0) = (0)))
        (bnd (s_impl_Roof_lapped n a0 a1 a2 a3 a4 a5 (IntKind.i64.wrap ((IntKind.i64.wrap (a4)) - (1)))) fun y4_0 =>
          some ((y4_0, 0)))
        (some ((([] : List V), y2_0)))
def s_spec_l01Asked (n : Nat) (a0 : Int) (a1 : Int) (a2 : Int) (a3 : Nat → Int) (a4 : Int) (a5 : Int) (a6 : Bool) : Option (Int) :=
  bnd (s_spec_l01Ok n a0 a1 a2 a3) fun y1_0 =>
    cnd (y1_0)
      (bnd (s_spec_l01Is n a0 a1 a2 a3 a4 a5) fun y3_0 =>
        cnd (y3_0)
          (cnd (a6)
            (some (0))
            (some (2)))
          (some (2)))
      (some (1))
def l_spec_l01Laps_b0 : Nat → (Int) → (Int) → (Int) → (Nat → Int) → (Int) → (Int) → (Int) → (List V) →  Option (List V)
  | 0, _, _, _, _, _, _, _, _ => none
  | n + 1, a0, a1, a2, a3, a4, a5, a6, a7 =>
    cnd (decide ((a6) ≤ (IntKind.i64.wrap ((a5) + (1)))))
      (bnd (s_spec_l01Tile n a0 a1 a2 a3 (IntKind.i64.wrap (a4)) a6) fun y5_0 =>
        cnd (decide ((0) ≤ (y5_0)))
          (cnd (decide ((((a7).length : Int)) = (0)))
            (chk (decide (((a7).length + ([(V.parts [(V.int .i8 (a4)), (V.int .i8 (IntKind.i8.wrap (y5_0)))])]).length) * 2 ≤ 140737488355328))
              (l_spec_l01Laps_b0 n a0 a1 a2 a3 a4 a5 (IntKind.i64.wrap ((a6) + (1))) (a7 ++ ([(V.parts [(V.int .i8 (a4)), (V.int .i8 (IntKind.i8.wrap (y5_0)))])]))))
            (chk (inB (0) (a7).length)
              (bnd (bnd (nth (a7) (((0 : Int)).toNat)) as_Pi8_i8Q) fun (e10_0, e10_1) =>
                bnd (bnd (nth (a7) (((0 : Int)).toNat)) as_Pi8_i8Q) fun (e11_0, e11_1) =>
                  cnd (decide ((IntKind.i64.wrap (e11_1)) = (y5_0)))
                    (l_spec_l01Laps_b0 n a0 a1 a2 a3 a4 a5 (IntKind.i64.wrap ((a6) + (1))) a7)
                    (chk (decide (((a7).length + ([(V.parts [(V.int .i8 (a4)), (V.int .i8 (IntKind.i8.wrap (y5_0)))])]).length) * 2 ≤ 140737488355328))
                      (l_spec_l01Laps_b0 n a0 a1 a2 a3 a4 a5 (IntKind.i64.wrap ((a6) + (1))) (a7 ++ ([(V.parts [(V.int .i8 (a4)), (V.int .i8 (IntKind.i8.wrap (y5_0)))])])))))))
          (l_spec_l01Laps_b0 n a0 a1 a2 a3 a4 a5 (IntKind.i64.wrap ((a6) + (1))) a7))
      (some (a7))
def s_spec_l01Laps (n : Nat) (a0 : Int) (a1 : Int) (a2 : Int) (a3 : Nat → Int) (a4 : Int) (a5 : Int) (a6 : Int) : Option (List V) :=
  bnd (s_spec_l01Course n a0 a1 a2 a3 (IntKind.i64.wrap (IntKind.i8.wrap ((a4) + (a6))))) fun y1_0 =>
    cnd (y1_0)
      (bnd (s_spec_l01First n a0 a1 a2 a3 a4 a5) fun y3_0 =>
        bnd (l_spec_l01Laps_b0 n a0 a1 a2 a3 (IntKind.i8.wrap ((a4) + (a6))) y3_0 y3_0 ([])) fun u14_0 =>
          some (u14_0))
      (some ([]))
def s_spec_AboveOf (n : Nat) (a0 : Int) (a1 : Int) (a2 : Int) (a3 : Nat → Int) (a4 : Int) (a5 : Int) : Option (List V × Int) :=
  bnd (s_spec_l01Asked n a0 a1 a2 a3 a4 a5 true) fun y1_0 =>
    cnd (decide ((y1_0) = (0)))
      (bnd (s_spec_l01Laps n a0 a1 a2 a3 a4 a5 (-1)) fun y3_0 =>
        chk (plainV (V.fresh 0 (y3_0)))
          (some ((y3_0, 0))))
      (some (([], y1_0)))
def s_impl_BelowOf (n : Nat) (a0 : Int) (a1 : Int) (a2 : Int) (a3 : Nat → Int) (a4 : Int) (a5 : Int) : Option (List V × Int) :=
  bnd (s_impl_Roof_has n a0 a1 a2 a3 a4 a5) fun y1_0 =>
    bnd (s_impl_roofCode n a0 a1 a2 a3 ((y1_0))) fun y2_0 =>
      cnd (decide ((y2_0) = (0)))
        (bnd (s_impl_Roof_lapped n a0 a1 a2 a3 a4 a5 (IntKind.i64.wrap ((IntKind.i64.wrap (a4)) + (1)))) fun y4_0 =>
          some ((y4_0, 0)))
        (some ((([] : List V), y2_0)))
def s_spec_BelowOf (n : Nat) (a0 : Int) (a1 : Int) (a2 : Int) (a3 : Nat → Int) (a4 : Int) (a5 : Int) : Option (List V × Int) :=
  bnd (s_spec_l01Asked n a0 a1 a2 a3 a4 a5 true) fun y1_0 =>
    cnd (decide ((y1_0) = (0)))
      (bnd (s_spec_l01Laps n a0 a1 a2 a3 a4 a5 1) fun y3_0 =>
        chk (plainV (V.fresh 0 (y3_0)))
          (some ((y3_0, 0))))
      (some (([], y1_0)))
def s_impl_wide (n : Nat) (a0 : Int) : Option (Int) :=
  some (a0)
def l_impl_each_int_int64__wide_b0 : Nat → (List V) → (Int) → (Int) → (List V) →  Option (List V)
  | 0, _, _, _, _ => none
  | n + 1, a0, a1, a2, a3 =>
    cnd (decide ((a2) < (a1)))
      (bnd (bnd (idx (a0) (a2)) as_i64) fun e2_0 =>
        bnd (s_impl_wide n e2_0) fun y3_0 =>
          chk (decide (((a3).length + ([(V.int .i64 (y3_0))]).length) * 8 ≤ 140737488355328))
            (l_impl_each_int_int64__wide_b0 n a0 a1 (IntKind.i64.wrap ((a2) + (1))) (a3 ++ ([(V.int .i64 (y3_0))]))))
      (some (a3))
def s_impl_each_int_int64__wide (n : Nat) (a0 : List V) : Option (List V) :=
  bnd (l_impl_each_int_int64__wide_b0 n a0 (((a0).length : Int)) 0 (([] : List V))) fun u5_0 =>
    some (u5_0)
def s_impl_CellsOf (n : Nat) (a0 : Int) (a1 : Int) (a2 : Int) (a3 : Nat → Int) (a4 : Int) (a5 : Int) : Option (List V × Int) :=
  bnd (s_impl_Roof_has n a0 a1 a2 a3 a4 a5) fun y1_0 =>
    bnd (s_impl_roofCode n a0 a1 a2 a3 ((y1_0))) fun y2_0 =>
      cnd (decide ((y2_0) = (0)))
        (bnd (s_impl_Roof_cellsOf n a0 a1 a2 a3 a4 a5) fun y4_0 =>
          bnd (s_impl_each_int_int64__wide n y4_0) fun y5_0 =>
            chk (plainV (V.fresh 0 (y5_0)))
              (some ((y5_0, 0))))
        (some ((([] : List V), y2_0)))
def s_spec_CellsOf (n : Nat) (a0 : Int) (a1 : Int) (a2 : Int) (a3 : Nat → Int) (a4 : Int) (a5 : Int) : Option (List V × Int) :=
  bnd (s_spec_l01Asked n a0 a1 a2 a3 a4 a5 true) fun y1_0 =>
    cnd (decide ((y1_0) = (0)))
      (bnd (s_spec_l01First n a0 a1 a2 a3 a4 a5) fun y3_0 =>
        some (([(V.int .i64 (y3_0)), (V.int .i64 (IntKind.i64.wrap ((y3_0) + (1))))], 0)))
      (some (([], y1_0)))
def l_spec_SamePlaces_b0 : Nat → (List V) → (List V) → (Int) →  Option (Sum (Unit) (Bool))
  | 0, _, _, _ => none
  | n + 1, a0, a1, a2 =>
    cnd (decide ((a2) < (((a0).length : Int))))
      (bnd (bnd (idx (a0) (a2)) as_Pi8_i8Q) fun (e3_0, e3_1) =>
        bnd (bnd (idx (a1) (a2)) as_Pi8_i8Q) fun (e4_0, e4_1) =>
          cnd (eqParts [(V.int .i8 (e3_0)), (V.int .i8 (e3_1))] [(V.int .i8 (e4_0)), (V.int .i8 (e4_1))])
            (l_spec_SamePlaces_b0 n a0 a1 (IntKind.i64.wrap ((a2) + (1))))
            (some (.inr (false))))
      (some (.inl (())))
def s_spec_SamePlaces (n : Nat) (a0 : List V) (a1 : List V) : Option (Bool) :=
  cnd (decide ((((a0).length : Int)) = (((a1).length : Int))))
    (bnd (l_spec_SamePlaces_b0 n a0 a1 0) fun w => match w with
      | .inl _ =>
        some (true)
      | .inr u7_0 =>
        some ((u7_0)))
    (some (false))
def l_spec_l00Same_b0 : Nat → (List V) → (List V) → (Int) →  Option (Sum (Unit) (Bool))
  | 0, _, _, _ => none
  | n + 1, a0, a1, a2 =>
    cnd (decide ((a2) < (((a0).length : Int))))
      (bnd (bnd (idx (a0) (a2)) as_i64) fun e3_0 =>
        bnd (bnd (idx (a1) (a2)) as_i64) fun e4_0 =>
          cnd (decide ((e3_0) = (e4_0)))
            (l_spec_l00Same_b0 n a0 a1 (IntKind.i64.wrap ((a2) + (1))))
            (some (.inr (false))))
      (some (.inl (())))
def s_spec_l00Same (n : Nat) (a0 : List V) (a1 : List V) : Option (Bool) :=
  cnd (decide ((((a0).length : Int)) = (((a1).length : Int))))
    (bnd (l_spec_l00Same_b0 n a0 a1 0) fun w => match w with
      | .inl _ =>
        some (true)
      | .inr u7_0 =>
        some ((u7_0)))
    (some (false))
def s_spec_A2Same (n : Nat) (a0 : List V) (a1 : List V) : Option (Bool) :=
  bnd (s_spec_l00Same n a0 a1) fun y1_0 =>
    some ((y1_0))
def l_spec_l01Has_b0 : Nat → (List V) → (Int) → (Int) → (Int) →  Option (Sum (Unit) (Bool))
  | 0, _, _, _, _ => none
  | n + 1, a0, a1, a2, a3 =>
    cnd (decide ((a1) < (((a0).length : Int))))
      (bnd (bnd (idx (a0) (a1)) as_Pi8_i8Q) fun (e2_0, e2_1) =>
        cnd (eqParts [(V.int .i8 (e2_0)), (V.int .i8 (e2_1))] [(V.int .i8 (a2)), (V.int .i8 (a3))])
          (some (.inr (true)))
          (l_spec_l01Has_b0 n a0 (IntKind.i64.wrap ((a1) + (1))) a2 a3))
      (some (.inl (())))
def s_spec_l01Has (n : Nat) (a0 : List V) (a1 : Int) (a2 : Int) : Option (Bool) :=
  bnd (l_spec_l01Has_b0 n a0 0 a1 a2) fun w => match w with
    | .inl _ =>
      some (false)
    | .inr u5_0 =>
      some ((u5_0))
def s_spec_A2HasPlace (n : Nat) (a0 : List V) (a1 : Int) (a2 : Int) : Option (Bool) :=
  bnd (s_spec_l01Has n a0 a1 a2) fun y1_0 =>
    some ((y1_0))
def s_impl_IsShifted (n : Nat) (a0 : Int) (a1 : Int) (a2 : Int) (a3 : Nat → Int) (a4 : Int) : Option (Bool × Int) :=
  bnd (s_impl_Roof_isCourse n a0 a1 a2 a3 a4) fun y1_0 =>
    bnd (s_impl_roofCode n a0 a1 a2 a3 ((y1_0))) fun y2_0 =>
      cnd (decide ((y2_0) = (0)))
        (bnd (s_impl_Roof_shift n a0 a1 a2 a3 a4) fun y4_0 =>
          some (((decide ((y4_0) = (1))), 0)))
        (some ((false, y2_0)))
def s_spec_A2Place (n : Nat) (a0 : List V) (a1 : Int) (a2 : Int) (a3 : Int) (a4 : Nat → Int) : Option (Int × Int) :=
  bnd (s_spec_l00From n a0) fun (y1_0, y1_1, y1_2) =>
    bnd (s_pspec_l00Src_pick n y1_0 y1_1 y1_2 (IntKind.i64.wrap (a2))) fun (y2_0, y2_1, y2_2, y2_3) =>
      bnd (s_pspec_l00Src_pick n y2_1 y2_2 y2_3 (IntKind.i64.wrap (a1))) fun (y3_0, y3_1, y3_2, y3_3) =>
        some ((IntKind.i8.wrap (y2_0), IntKind.i8.wrap (y3_0)))
def s_laws_a2At (n : Nat) (a0 : List V) (a1 : Int) (a2 : Int) : Option (Int) :=
  cnd (decide ((((a0).length : Int)) ≤ (a1)))
    (some (0))
    (cnd (decide ((a2) < (1)))
      (some (0))
      (bnd (bnd (idx (a0) (a1)) as_u8) fun e3_0 =>
        chk (!decide ((a2) = 0))
          (some ((IntKind.i64.wrap (e3_0)).tmod (a2)))))
def s_impl_isKind (n : Nat) (a0 : Int) : Option (Bool) :=
  bnd (s_impl_within_int64 n a0 0 3) fun y1_0 =>
    some ((y1_0))
def s_impl_SetTile (n : Nat) (a0 : Int) (a1 : Int) (a2 : Int) (a3 : Nat → Int) (a4 : Int) (a5 : Int) (a6 : Int) : Option (Int × Int × Int × (Nat → Int) × Int) :=
  bnd (s_impl_Roof_has n a0 a1 a2 a3 a4 a5) fun y1_0 =>
    cnd (y1_0)
      (bnd (s_impl_isKind n a6) fun y3_0 =>
        bnd (s_impl_roofCode n a0 a1 a2 a3 ((y3_0))) fun y4_0 =>
          cnd (decide ((y4_0) = (0)))
            (bnd (s_impl_Roof_with n a0 a1 a2 a3 a4 a5 (IntKind.u8.wrap (a6))) fun (y6_0, y6_1, y6_2, y6_3) =>
              some ((y6_0, y6_1, y6_2, y6_3, 0)))
            (some ((0, 0, 0, fun _ => 0, y4_0))))
      (bnd (s_impl_roofCode n a0 a1 a2 a3 false) fun y7_0 =>
        cnd (decide ((y7_0) = (0)))
          (bnd (s_impl_Roof_with n a0 a1 a2 a3 a4 a5 (IntKind.u8.wrap (a6))) fun (y9_0, y9_1, y9_2, y9_3) =>
            some ((y9_0, y9_1, y9_2, y9_3, 0)))
          (some ((0, 0, 0, fun _ => 0, y7_0))))
def s_spec_SetTile (n : Nat) (a0 : Int) (a1 : Int) (a2 : Int) (a3 : Nat → Int) (a4 : Int) (a5 : Int) (a6 : Int) : Option (Int × Int × Int × (Nat → Int) × Int) :=
  bnd (s_spec_l01Kind n a6) fun y1_0 =>
    bnd (s_spec_l01Asked n a0 a1 a2 a3 a4 a5 ((y1_0))) fun y2_0 =>
      cnd (decide ((y2_0) = (0)))
        (chk (inB (a4) 8)
          (chk (inB (a5) 8)
            (some ((a0, a1, a2, updC (a3) (0 + (a4).toNat * 8 + (a5).toNat * 1) (IntKind.u8.wrap (a6)), 0)))))
        (some ((0, 0, 0, fun _ => 0, y2_0)))
def s_impl_Roof_isAlike (n : Nat) (a0 : Int) (a1 : Int) (a2 : Int) (a3 : Nat → Int) (a4 : Int) (a5 : Int) (a6 : Int) (a7 : Nat → Int) : Option (Bool) :=
  cnd (decide ((a0) = (a4)))
    (cnd (decide ((a1) = (a5)))
      (some ((decide ((a2) = (a6)))))
      (some (false)))
    (some (false))
def s_impl_DifferIn_1 (n : Nat) (a0 : Int) (a1 : Int) (a2 : Int) (a3 : Int) (a4 : Int) (a5 : Nat → Int) (a6 : Int) (a7 : Int) (a8 : Int) (a9 : Nat → Int) : Option (Bool) :=
  bnd (s_impl_Roof_kind n a2 a3 a4 a5 a0 a1) fun y1_0 =>
    bnd (s_impl_Roof_kind n a6 a7 a8 a9 a0 a1) fun y2_0 =>
      some ((!(decide ((y1_0) = (y2_0)))))
def l_impl_Roof_places__DifferIn_1_b2 : Nat → (Int) → (Int) → (Int) → (Nat → Int) → (Int) → (Int) → (Int) → (Nat → Int) → (Int) → (Int) → (Int) → (Int) → (Int) → (Int) → (Int) → (Int) → (Nat → Int) → (List V) →  Option (Int × Int × Int × (Nat → Int) × Int × Int × Int × (Nat → Int) × Int × Int × Int × Int × Int × (Nat → Int) × List V)
  | 0, _, _, _, _, _, _, _, _, _, _, _, _, _, _, _, _, _, _ => none
  | n + 1, a0, a1, a2, a3, a4, a5, a6, a7, a8, a9, a10, a11, a12, a13, a14, a15, a16, a17 =>
    cnd (decide ((a12) < (a11)))
      (bnd (s_impl_DifferIn_1 n a8 a12 a0 a1 a2 a3 a4 a5 a6 a7) fun y3_0 =>
        cnd (y3_0)
          (chk (decide (((a17).length + ([(V.parts [(V.int .i8 (a8)), (V.int .i8 (a12))])]).length) * 2 ≤ 140737488355328))
            (l_impl_Roof_places__DifferIn_1_b2 n a0 a1 a2 a3 a4 a5 a6 a7 a8 a9 a10 a11 (IntKind.i8.wrap ((a12) + (1))) a13 a14 a15 a16 (a17 ++ ([(V.parts [(V.int .i8 (a8)), (V.int .i8 (a12))])]))))
          (l_impl_Roof_places__DifferIn_1_b2 n a0 a1 a2 a3 a4 a5 a6 a7 a8 a9 a10 a11 (IntKind.i8.wrap ((a12) + (1))) a13 a14 a15 a16 a17))
      (some ((a0, a1, a2, a3, a4, a5, a6, a7, a9, a10, a13, a14, a15, a16, a17)))
def l_impl_Roof_places__DifferIn_1_b0 : Nat → (Int) → (Int) → (Int) → (Nat → Int) → (Int) → (Int) → (Int) → (Nat → Int) → (Int) → (Int) → (Int) → (Int) → (Int) → (Nat → Int) → (List V) →  Option (List V)
  | 0, _, _, _, _, _, _, _, _, _, _, _, _, _, _, _ => none
  | n + 1, a0, a1, a2, a3, a4, a5, a6, a7, a8, a9, a10, a11, a12, a13, a14 =>
    cnd (decide ((a9) < (a8)))
      (bnd (l_impl_Roof_places__DifferIn_1_b2 n a0 a1 a2 a3 a4 a5 a6 a7 a9 a8 a9 a10 0 a10 a11 a12 a13 a14) fun (u6_0, u6_1, u6_2, u6_3, u6_4, u6_5, u6_6, u6_7, u6_8, u6_9, u6_10, u6_11, u6_12, u6_13, u6_14) =>
        l_impl_Roof_places__DifferIn_1_b0 n u6_0 u6_1 u6_2 u6_3 u6_4 u6_5 u6_6 u6_7 u6_8 (IntKind.i8.wrap ((u6_9) + (1))) u6_10 u6_11 u6_12 u6_13 u6_14)
      (some (a14))
def s_impl_Roof_places__DifferIn_1 (n : Nat) (a0 : Int) (a1 : Int) (a2 : Int) (a3 : Nat → Int) (a4 : Int) (a5 : Int) (a6 : Int) (a7 : Nat → Int) (a8 : Int) (a9 : Int) (a10 : Int) (a11 : Nat → Int) : Option (List V) :=
  bnd (l_impl_Roof_places__DifferIn_1_b0 n a4 a5 a6 a7 a8 a9 a10 a11 a1 0 a0 a1 a2 a3 (([] : List V))) fun u8_0 =>
    some (u8_0)
def s_impl_DifferIn (n : Nat) (a0 : Int) (a1 : Int) (a2 : Int) (a3 : Nat → Int) (a4 : Int) (a5 : Int) (a6 : Int) (a7 : Nat → Int) : Option (List V × Int) :=
  bnd (s_impl_ValidRoof n a0 a1 a2 a3) fun y1_0 =>
    cnd (y1_0)
      (bnd (s_impl_ValidRoof n a4 a5 a6 a7) fun y3_0 =>
        cnd (y3_0)
          (bnd (s_impl_Roof_isAlike n a0 a1 a2 a3 a4 a5 a6 a7) fun y5_0 =>
            cnd (y5_0)
              (bnd (s_impl_Roof_places__DifferIn_1 n a0 a1 a2 a3 a0 a1 a2 a3 a4 a5 a6 a7) fun y7_0 =>
                chk (plainV (V.fresh 0 (y7_0)))
                  (some ((y7_0, 0))))
              (some ((([] : List V), 4))))
          (some ((([] : List V), 1))))
      (some ((([] : List V), 1)))
def s_spec_KindAt (n : Nat) (a0 : Int) (a1 : Int) (a2 : Int) (a3 : Nat → Int) (a4 : Int) (a5 : Int) : Option (Int × Int) :=
  bnd (s_spec_l01Asked n a0 a1 a2 a3 a4 a5 true) fun y1_0 =>
    cnd (decide ((y1_0) = (0)))
      (bnd (s_spec_l01At n a0 a1 a2 a3 a4 a5) fun y3_0 =>
        some ((y3_0, 0)))
      (some ((0, y1_0)))
def l_laws_FnLaps_b2 : Nat → (List V) → (Int) → (Int) → (Int) → (Int) → (Int) → (Int) → (Nat → Int) → (List V) → (List V) → (List V) →  Option (Sum (List V × Int × Int × Int × Int × Int × (Nat → Int) × List V × List V) (Bool))
  | 0, _, _, _, _, _, _, _, _, _, _, _ => none
  | n + 1, a0, a1, a2, a3, a4, a5, a6, a7, a8, a9, a10 =>
    cnd (decide ((a3) < (2)))
      (chk (inB (a2) (a8).length)
        (bnd (bnd (nth (a8) ((a2).toNat)) as_Pi8_i8Q) fun (e47_0, e47_1) =>
          bnd (bnd (nth (a8) ((a2).toNat)) as_Pi8_i8Q) fun (e48_0, e48_1) =>
            chk (inB (a3) (a10).length)
              (bnd (bnd (nth (a10) ((a3).toNat)) as_i64) fun e50_0 =>
                bnd (s_impl_TileAt n a4 a5 a6 a7 (IntKind.i64.wrap (e48_0)) e50_0) fun (y51_0, y51_1) =>
                  cnd (decide ((y51_1) = (0)))
                    (bnd (bnd (nth (a8) ((a2).toNat)) as_Pi8_i8Q) fun (e53_0, e53_1) =>
                      bnd (bnd (nth (a8) ((a2).toNat)) as_Pi8_i8Q) fun (e54_0, e54_1) =>
                        cnd (decide ((y51_0) = (IntKind.i64.wrap (e54_1))))
                          (l_laws_FnLaps_b2 n a0 (IntKind.i64.wrap ((a1) + (1))) a2 (IntKind.i64.wrap ((a3) + (1))) a4 a5 a6 a7 a8 a9 a10)
                          (some (.inr (false))))
                    (some (.inr (false))))))
      (some (.inl ((a0, a1, a2, a4, a5, a6, a7, a8, a9))))
def l_laws_FnLaps_b4 : Nat → (List V) → (Int) → (Int) → (Int) → (Int) → (Int) → (Int) → (Nat → Int) → (List V) → (List V) →  Option (Sum (List V × Int × Int × Int × Int × Int × (Nat → Int) × List V) (Bool))
  | 0, _, _, _, _, _, _, _, _, _, _ => none
  | n + 1, a0, a1, a2, a3, a4, a5, a6, a7, a8, a9 =>
    cnd (decide ((a3) < (((a9).length : Int))))
      (chk (inB (a3) (a9).length)
        (bnd (bnd (nth (a9) ((a3).toNat)) as_Pi8_i8Q) fun (e60_0, e60_1) =>
          bnd (s_spec_AboveOf n a4 a5 a6 a7 e60_0 e60_1) fun (y61_0, y61_1) =>
            cnd (decide ((y61_1) = (0)))
              (chk (inB (a2) (a8).length)
                (bnd (bnd (nth (a8) ((a2).toNat)) as_Pi8_i8Q) fun (e64_0, e64_1) =>
                  bnd (s_spec_A2HasPlace n y61_0 e64_0 e64_1) fun y65_0 =>
                    cnd (y65_0)
                      (bnd (bnd (nth (a9) ((a3).toNat)) as_Pi8_i8Q) fun (e67_0, e67_1) =>
                        bnd (bnd (nth (a9) ((a3).toNat)) as_Pi8_i8Q) fun (e68_0, e68_1) =>
                          bnd (bnd (nth (a8) ((a2).toNat)) as_Pi8_i8Q) fun (e69_0, e69_1) =>
                            bnd (bnd (nth (a8) ((a2).toNat)) as_Pi8_i8Q) fun (e70_0, e70_1) =>
                              cnd (decide ((e68_0) = (IntKind.i8.wrap ((e70_0) + (1)))))
                                (l_laws_FnLaps_b4 n a0 a1 a2 (IntKind.i64.wrap ((a3) + (1))) a4 a5 a6 a7 a8 a9)
                                (some (.inr (false))))
                      (some (.inr (false)))))
              (some (.inr (false)))))
      (some (.inl ((a0, a1, a2, a4, a5, a6, a7, a8))))
def l_laws_FnLaps_b0 : Nat → (List V) → (Int) → (Int) → (Int) → (Int) → (Int) → (Nat → Int) → (List V) →  Option (Sum (List V × Int × Int × Int × Int × (Nat → Int)) (Bool))
  | 0, _, _, _, _, _, _, _, _ => none
  | n + 1, a0, a1, a2, a3, a4, a5, a6, a7 =>
    cnd (decide ((a2) < (((a7).length : Int))))
      (chk (inB (a2) (a7).length)
        (bnd (bnd (nth (a7) ((a2).toNat)) as_Pi8_i8Q) fun (e7_0, e7_1) =>
          bnd (s_impl_AboveOf n a3 a4 a5 a6 e7_0 e7_1) fun (y8_0, y8_1) =>
            bnd (bnd (nth (a7) ((a2).toNat)) as_Pi8_i8Q) fun (e9_0, e9_1) =>
              bnd (s_spec_AboveOf n a3 a4 a5 a6 e9_0 e9_1) fun (y10_0, y10_1) =>
                bnd (bnd (nth (a7) ((a2).toNat)) as_Pi8_i8Q) fun (e11_0, e11_1) =>
                  bnd (s_impl_BelowOf n a3 a4 a5 a6 e11_0 e11_1) fun (y12_0, y12_1) =>
                    bnd (bnd (nth (a7) ((a2).toNat)) as_Pi8_i8Q) fun (e13_0, e13_1) =>
                      bnd (s_spec_BelowOf n a3 a4 a5 a6 e13_0 e13_1) fun (y14_0, y14_1) =>
                        bnd (bnd (nth (a7) ((a2).toNat)) as_Pi8_i8Q) fun (e15_0, e15_1) =>
                          bnd (s_impl_CellsOf n a3 a4 a5 a6 e15_0 e15_1) fun (y16_0, y16_1) =>
                            bnd (bnd (nth (a7) ((a2).toNat)) as_Pi8_i8Q) fun (e17_0, e17_1) =>
                              bnd (s_spec_CellsOf n a3 a4 a5 a6 e17_0 e17_1) fun (y18_0, y18_1) =>
                                cnd (decide ((y8_1) = (y10_1)))
                                  (cnd (decide ((y8_1) = (0)))
                                    (bnd (s_spec_SamePlaces n y8_0 y10_0) fun y21_0 =>
                                      cnd (y21_0)
                                        (cnd (decide ((y12_1) = (y14_1)))
                                          (cnd (decide ((y12_1) = (0)))
                                            (bnd (s_spec_SamePlaces n y12_0 y14_0) fun y25_0 =>
                                              cnd (y25_0)
                                                (cnd (decide ((y16_1) = (y18_1)))
                                                  (cnd (decide ((y16_1) = (0)))
                                                    (bnd (s_spec_A2Same n y16_0 y18_0) fun y29_0 =>
                                                      cnd (y29_0)
                                                        (cnd (decide ((((y18_0).length : Int)) = (2)))
                                                          (chk (inB (1) (y18_0).length)
                                                            (bnd (bnd (nth (y18_0) (((1 : Int)).toNat)) as_i64) fun e33_0 =>
                                                              chk (inB (0) (y18_0).length)
                                                                (bnd (bnd (nth (y18_0) (((0 : Int)).toNat)) as_i64) fun e35_0 =>
                                                                  cnd (decide ((e33_0) = (IntKind.i64.wrap ((e35_0) + (1)))))
                                                                    (bnd (bnd (nth (a7) ((a2).toNat)) as_Pi8_i8Q) fun (e37_0, e37_1) =>
                                                                      bnd (bnd (nth (a7) ((a2).toNat)) as_Pi8_i8Q) fun (e38_0, e38_1) =>
                                                                        cnd ((decide ((((y10_0).length : Int)) = (0))) == (decide ((e38_0) = (0))))
                                                                          (bnd (bnd (nth (a7) ((a2).toNat)) as_Pi8_i8Q) fun (e40_0, e40_1) =>
                                                                            bnd (bnd (nth (a7) ((a2).toNat)) as_Pi8_i8Q) fun (e41_0, e41_1) =>
                                                                              cnd ((decide ((((y14_0).length : Int)) = (0))) == (decide ((e41_0) = (IntKind.i8.wrap ((a4) - (1))))))
                                                                                (cnd (decide ((2) < (((y10_0).length : Int))))
                                                                                  (some (.inr (false)))
                                                                                  (cnd (decide ((2) < (((y14_0).length : Int))))
                                                                                    (some (.inr (false)))
                                                                                    (bnd (l_laws_FnLaps_b2 n a0 a1 a2 0 a3 a4 a5 a6 a7 y14_0 y18_0) fun w => match w with
                                                                                      | .inl (u56_0, u56_1, u56_2, u56_3, u56_4, u56_5, u56_6, u56_7, u56_8) =>
                                                                                        bnd (l_laws_FnLaps_b4 n u56_0 u56_1 u56_2 0 u56_3 u56_4 u56_5 u56_6 u56_7 u56_8) fun w => match w with
                                                                                          | .inl (u72_0, u72_1, u72_2, u72_3, u72_4, u72_5, u72_6, u72_7) =>
                                                                                            l_laws_FnLaps_b0 n u72_0 u72_1 (IntKind.i64.wrap ((u72_2) + (1))) u72_3 u72_4 u72_5 u72_6 u72_7
                                                                                          | .inr u73_0 =>
                                                                                            some (.inr ((u73_0)))
                                                                                      | .inr u74_0 =>
                                                                                        some (.inr ((u74_0))))))
                                                                                (some (.inr (false))))
                                                                          (some (.inr (false))))
                                                                    (some (.inr (false))))))
                                                          (some (.inr (false))))
                                                        (some (.inr (false))))
                                                    (some (.inr (false))))
                                                  (some (.inr (false))))
                                                (some (.inr (false))))
                                            (some (.inr (false))))
                                          (some (.inr (false))))
                                        (some (.inr (false))))
                                    (some (.inr (false))))
                                  (some (.inr (false)))))
      (some (.inl ((a0, a1, a3, a4, a5, a6))))
def l_laws_FnLaps_b8 : Nat → (List V) → (Int) → (Int) → (Int) → (Bool) → (Int) → (Int) → (Int) → (Int) → (Nat → Int) →  Option (Sum (List V × Int × Int × Int × Int × Int × Int × (Nat → Int)) (Bool))
  | 0, _, _, _, _, _, _, _, _, _, _ => none
  | n + 1, a0, a1, a2, a3, a4, a5, a6, a7, a8, a9 =>
    cnd (decide ((a5) < (IntKind.i64.wrap ((IntKind.i64.wrap ((2) * (IntKind.i64.wrap (a6)))) + (1)))))
      (bnd (s_impl_TileAt n a6 a7 a8 a9 a3 a5) fun (y83_0, y83_1) =>
        bnd (s_spec_TileAt n a6 a7 a8 a9 a3 a5) fun (y84_0, y84_1) =>
          cnd (decide ((y83_1) = (y84_1)))
            (cnd (decide ((y83_1) = (0)))
              (cnd (decide ((y83_0) = (y84_0)))
                (cnd (decide ((y84_0) < (0)))
                  (cnd ((a4) == (decide ((a5) = (0))))
                    (l_laws_FnLaps_b8 n a0 a1 (IntKind.i64.wrap ((a2) + (1))) a3 ((a4)) (IntKind.i64.wrap ((a5) + (1))) a6 a7 a8 a9)
                    (some (.inr (false))))
                  (l_laws_FnLaps_b8 n a0 a1 a2 a3 ((a4)) (IntKind.i64.wrap ((a5) + (1))) a6 a7 a8 a9))
                (some (.inr (false))))
              (some (.inr (false))))
            (some (.inr (false))))
      (some (.inl ((a0, a1, a2, a3, a6, a7, a8, a9))))
def l_laws_FnLaps_b6 : Nat → (List V) → (Int) → (Int) → (Int) → (Int) → (Int) → (Int) → (Nat → Int) →  Option (Sum (List V × Int × Int × Int × Int × Int × (Nat → Int)) (Bool))
  | 0, _, _, _, _, _, _, _, _ => none
  | n + 1, a0, a1, a2, a3, a4, a5, a6, a7 =>
    cnd (decide ((a3) < (IntKind.i64.wrap (a5))))
      (bnd (s_impl_IsShifted n a4 a5 a6 a7 a3) fun (y79_0, y79_1) =>
        cnd (decide ((y79_1) = (0)))
          (cnd ((y79_0) == (decide (((IntKind.i64.wrap ((a3) + (IntKind.i64.wrap (a6)))).tmod (2)) = (1))))
            (bnd (l_laws_FnLaps_b8 n a0 a1 a2 a3 ((y79_0)) 0 a4 a5 a6 a7) fun w => match w with
              | .inl (u90_0, u90_1, u90_2, u90_3, u90_4, u90_5, u90_6, u90_7) =>
                l_laws_FnLaps_b6 n u90_0 u90_1 u90_2 (IntKind.i64.wrap ((u90_3) + (1))) u90_4 u90_5 u90_6 u90_7
              | .inr u91_0 =>
                some (.inr ((u91_0))))
            (some (.inr (false))))
          (some (.inr (false))))
      (some (.inl ((a0, a1, a2, a4, a5, a6, a7))))
def s_laws_FnLaps (n : Nat) (a0 : List V) (a1 : List V) : Option (Bool) :=
  bnd (s_laws_a2Long n a0 a1) fun y1_0 =>
    cnd (y1_0)
      (some (true))
      (bnd (s_spec_A2Roof n a0) fun (y3_0, y3_1, y3_2, y3_3) =>
        bnd (s_spec_A2Places n y3_0 y3_1 y3_2 y3_3) fun y4_0 =>
          bnd (l_laws_FnLaps_b0 n a1 0 0 y3_0 y3_1 y3_2 y3_3 y4_0) fun w => match w with
            | .inl (u76_0, u76_1, u76_2, u76_3, u76_4, u76_5) =>
              bnd (l_laws_FnLaps_b6 n u76_0 u76_1 0 0 u76_2 u76_3 u76_4 u76_5) fun w => match w with
                | .inl (u93_0, u93_1, u93_2, u93_3, u93_4, u93_5, u93_6) =>
                  cnd (decide ((IntKind.i64.wrap ((u93_1) + (u93_2))) = (IntKind.i64.wrap ((IntKind.i64.wrap (u93_4)) * (IntKind.i64.wrap ((IntKind.i64.wrap ((2) * (IntKind.i64.wrap (u93_3)))) + (1)))))))
                    (cnd (decide ((u93_2) = (IntKind.i64.wrap (u93_4))))
                      (bnd (s_spec_A2Place n u93_0 u93_3 u93_4 u93_5 u93_6) fun (y97_0, y97_1) =>
                        bnd (s_laws_a2At n u93_0 2 4) fun y98_0 =>
                          bnd (s_impl_SetTile n u93_3 u93_4 u93_5 u93_6 y97_0 y97_1 y98_0) fun (y99_0, y99_1, y99_2, y99_3, y99_4) =>
                            bnd (s_spec_SetTile n u93_3 u93_4 u93_5 u93_6 y97_0 y97_1 y98_0) fun (y100_0, y100_1, y100_2, y100_3, y100_4) =>
                              cnd (decide ((y99_4) = (y100_4)))
                                (cnd (decide ((y99_4) = (0)))
                                  (cnd (eqParts [(V.int .i8 (y99_0)), (V.int .i8 (y99_1)), (V.int .u8 (y99_2)), (V.ints .u8 64 (y99_3))] [(V.int .i8 (y100_0)), (V.int .i8 (y100_1)), (V.int .u8 (y100_2)), (V.ints .u8 64 (y100_3))])
                                    (bnd (s_impl_DifferIn n u93_3 u93_4 u93_5 u93_6 y100_0 y100_1 y100_2 y100_3) fun (y104_0, y104_1) =>
                                      bnd (s_spec_KindAt n u93_3 u93_4 u93_5 u93_6 y97_0 y97_1) fun (y105_0, y105_1) =>
                                        cnd (decide ((y104_1) = (0)))
                                          (cnd (decide ((y105_1) = (0)))
                                            (cnd ((decide ((((y104_0).length : Int)) = (1))) == (!(decide ((y105_0) = (y98_0)))))
                                              (cnd (decide ((1) < (((y104_0).length : Int))))
                                                (some (false))
                                                (cnd (decide ((((y104_0).length : Int)) = (0)))
                                                  (some (true))
                                                  (chk (inB (0) (y104_0).length)
                                                    (bnd (bnd (nth (y104_0) (((0 : Int)).toNat)) as_Pi8_i8Q) fun (e112_0, e112_1) =>
                                                      some ((eqParts [(V.int .i8 (e112_0)), (V.int .i8 (e112_1))] [(V.int .i8 (y97_0)), (V.int .i8 (y97_1))]))))))
                                              (some (false)))
                                            (some (false)))
                                          (some (false)))
                                    (some (false)))
                                  (some (false)))
                                (some (false)))
                      (some (false)))
                    (some (false))
                | .inr u112_0 =>
                  some ((u112_0))
            | .inr u113_0 =>
              some ((u113_0)))
end Go.Proofs.Ytdhcfdiggcgmhaa
