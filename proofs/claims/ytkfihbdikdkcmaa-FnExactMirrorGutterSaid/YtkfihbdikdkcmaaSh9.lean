/- What functions of the program answer, in plain Lean: printed by gen.py out of the program. -/
import Derived.Test.YtkfihbdikdkcmaaSh5
namespace Go.Proofs.Ytkfihbdikdkcmaa
open Go
set_option linter.unusedVariables false
set_option linter.unusedSimpArgs false
def as_i8 : V → Option (Int)
  | (V.int .i8 (e0)) => some e0
  | _ => none
theorem as_i8_some {x : Option V} {e0 : Int} (h : bnd x as_i8 = some e0) : x = some (V.int .i8 (e0)) := by
  obtain ⟨v, rfl, k⟩ := bnd_some h
  unfold as_i8 at k
  split at k
  · simp only [Option.some.injEq, Prod.mk.injEq] at k
    obtain rfl := k
    rfl
  · cases k
def s_spec_l00Max (n : Nat) (a0 : Int) (a1 : Int) : Option (Int) :=
  cnd (decide ((a1) < (a0)))
    (some (a0))
    (some (a1))
def s_spec_l04Far (n : Nat) (a0 : Int) (a1 : Int) : Option (Int) :=
  bnd (s_spec_l00Max n (IntKind.i64.wrap ((a0) - (a1))) (IntKind.i64.wrap ((a1) - (a0)))) fun y1_0 =>
    some (y1_0)
def l_spec_SlopeTo_b2 : Nat → (Int) → (List V) → (Int) → (Int) → (Int) → (Int) → (Int) → (Nat → Int) → (Int) → (Int) → (Int) → (Nat → Int) → (Int) → (List V) → (List V) →  Option (Int × List V × Int × Int × Int × Int × (Nat → Int) × Int × Int × Int × (Nat → Int) × Int × List V × List V)
  | 0, _, _, _, _, _, _, _, _, _, _, _, _, _, _, _ => none
  | n + 1, a0, a1, a2, a3, a4, a5, a6, a7, a8, a9, a10, a11, a12, a13, a14 =>
    cnd (decide ((a4) < (((a1).length : Int))))
      (bnd (bnd (idx (a1) (a4)) as_Pi8_i16Q) fun (e12_0, e12_1) =>
        bnd (s_spec_l04Far n a2 (IntKind.i64.wrap (e12_0))) fun y13_0 =>
          bnd (s_spec_l00Min n a3 y13_0) fun y14_0 =>
            l_spec_SlopeTo_b2 n a0 a1 a2 y14_0 (IntKind.i64.wrap ((a4) + (1))) a5 a6 a7 a8 a9 a10 a11 a12 a13 a14)
      (some ((a0, a1, a2, a3, a5, a6, a7, a8, a9, a10, a11, a12, a13, a14)))
def l_spec_SlopeTo_b0 : Nat → (Int) → (List V) → (Int) → (Int) → (Int) → (Nat → Int) → (Int) → (Int) → (Int) → (Nat → Int) → (Int) → (List V) → (List V) →  Option (Int × Int × (Nat → Int) × Int × Int × Int × (Nat → Int) × Int × List V × List V)
  | 0, _, _, _, _, _, _, _, _, _, _, _, _, _ => none
  | n + 1, a0, a1, a2, a3, a4, a5, a6, a7, a8, a9, a10, a11, a12 =>
    cnd (decide ((a2) < (a0)))
      (bnd (l_spec_SlopeTo_b2 n a0 a1 a2 9 0 a3 a4 a5 a6 a7 a8 a9 a10 a11 a12) fun (u15_0, u15_1, u15_2, u15_3, u15_4, u15_5, u15_6, u15_7, u15_8, u15_9, u15_10, u15_11, u15_12, u15_13) =>
        chk (inB (u15_2) 17)
          (l_spec_SlopeTo_b0 n u15_0 u15_1 (IntKind.i64.wrap ((u15_2) + (1))) u15_4 u15_5 u15_6 u15_7 u15_8 u15_9 (updC (u15_10) (0 + (u15_2).toNat * 1) (IntKind.i8.wrap (u15_3))) u15_11 u15_12 u15_13))
      (some ((a3, a4, a5, a6, a7, a8, a9, a10, a11, a12)))
def s_spec_SlopeTo (n : Nat) (a0 : Int) (a1 : Int) (a2 : List V) : Option (Int × Int × (Nat → Int) × Int × List V × Int) :=
  bnd (s_spec_l00In n a0 1 17) fun y1_0 =>
    cnd (y1_0)
      (bnd (s_spec_l06Deep n a1) fun y3_0 =>
        cnd (y3_0)
          (chk (decide (((([] : List V)).length + (a2).length) * 4 ≤ 140737488355328))
            (chk (sizesOk 2 (a2))
              (bnd (s_spec_l06Ok n (IntKind.i8.wrap (a0)) (IntKind.i16.wrap (a1)) (fun _ => 0) 0 ((([] : List V)) ++ a2)) fun y7_0 =>
                cnd (y7_0)
                  (cnd (decide ((((a2).length : Int)) = (0)))
                    (some ((0, 0, fun _ => 0, 0, ([] : List V), 6)))
                    (bnd (l_spec_SlopeTo_b0 n a0 a2 0 0 0 (fun _ => 0) 0 (IntKind.i8.wrap (a0)) (IntKind.i16.wrap (a1)) (fun _ => 0) 0 (([] : List V)) ((([] : List V)) ++ a2)) fun (u18_0, u18_1, u18_2, u18_3, u18_4, u18_5, u18_6, u18_7, u18_8, u18_9) =>
                      some ((u18_4, u18_5, u18_6, u18_7, u18_9, 0))))
                  (some ((0, 0, fun _ => 0, 0, ([] : List V), 2))))))
          (some ((0, 0, fun _ => 0, 0, ([] : List V), 2))))
      (some ((0, 0, fun _ => 0, 0, ([] : List V), 2)))
def s_slices_Clone_Simpl_Pipe_impl_Pipe (n : Nat) (a0 : List V) : Option (List V) :=
  chk (decide ((([] : List V).length + a0.length) * 4 ≤ 140737488355328))
    (chk (sizesOk 2 a0)
      (some a0))
def s_impl_SlopeTo_1 (n : Nat) (a0 : Int) (a1 : Int) (a2 : Int) : Option (Int) :=
  some (maxI (IntKind.i8.wrap ((a0) - (a2))) (IntKind.i8.wrap ((a2) - (a0))))
def l_impl_each_impl_Pipe_int8__SlopeTo_1_b0 : Nat → (Int) → (List V) → (Int) → (Int) → (List V) →  Option (List V)
  | 0, _, _, _, _, _ => none
  | n + 1, a0, a1, a2, a3, a4 =>
    cnd (decide ((a3) < (a2)))
      (bnd (bnd (idx (a1) (a3)) as_Pi8_i16Q) fun (e2_0, e2_1) =>
        bnd (s_impl_SlopeTo_1 n e2_0 e2_1 a0) fun y3_0 =>
          chk (decide (((a4).length + ([(V.int .i8 (y3_0))]).length) * 1 ≤ 140737488355328))
            (l_impl_each_impl_Pipe_int8__SlopeTo_1_b0 n a0 a1 a2 (IntKind.i64.wrap ((a3) + (1))) (a4 ++ ([(V.int .i8 (y3_0))]))))
      (some (a4))
def s_impl_each_impl_Pipe_int8__SlopeTo_1 (n : Nat) (a0 : List V) (a1 : Int) : Option (List V) :=
  bnd (l_impl_each_impl_Pipe_int8__SlopeTo_1_b0 n a1 a0 (((a0).length : Int)) 0 (([] : List V))) fun u5_0 =>
    some (u5_0)
def l_slices_Min_Sint8_int8_b0 : Nat → (List V) → (Int) → (Int) →  Option (Int)
  | 0, _, _, _ => none
  | n + 1, a0, a1, a2 =>
    cnd (decide ((a2) < (((a0).length : Int))))
      (bnd (bnd (idx (a0) (a2)) as_i8) fun e4_0 =>
        l_slices_Min_Sint8_int8_b0 n a0 (minI (a1) (e4_0)) (IntKind.i64.wrap ((a2) + (1))))
      (some (a1))
def s_slices_Min_Sint8_int8 (n : Nat) (a0 : List V) : Option (Int) :=
  cnd (decide ((((a0).length : Int)) < (1)))
    (none)
    (bnd (bnd (idx (a0) (0)) as_i8) fun e2_0 =>
      bnd (l_slices_Min_Sint8_int8_b0 n a0 e2_0 1) fun u5_0 =>
        some (u5_0))
def l_impl_SlopeTo_b1 : Nat → (List V) → (Int) → (Int) → (Int) → (Int) → (Nat → Int) → (Int) → (Int) → (Int) → (Nat → Int) → (Int) → (List V) → (List V) →  Option (Int × Int × (Nat → Int) × Int × Int × Int × (Nat → Int) × Int × List V × List V)
  | 0, _, _, _, _, _, _, _, _, _, _, _, _, _ => none
  | n + 1, a0, a1, a2, a3, a4, a5, a6, a7, a8, a9, a10, a11, a12 =>
    cnd (decide ((a2) < (a1)))
      (bnd (s_impl_each_impl_Pipe_int8__SlopeTo_1 n a0 a2) fun y10_0 =>
        chk (plainV (V.fresh 0 (y10_0)))
          (chk (decide (((y10_0).length + ([(V.int .i8 (9))]).length) * 1 ≤ 140737488355328))
            (bnd (s_slices_Min_Sint8_int8 n (y10_0 ++ ([(V.int .i8 (9))]))) fun y13_0 =>
              chk (inB (a2) 17)
                (l_impl_SlopeTo_b1 n a0 a1 (IntKind.i8.wrap ((a2) + (1))) a3 a4 a5 a6 a7 a8 (updC (a9) (0 + (a2).toNat * 1) (y13_0)) a10 a11 a12))))
      (some ((a3, a4, a5, a6, a7, a8, a9, a10, a11, a12)))
def s_impl_SlopeTo (n : Nat) (a0 : Int) (a1 : Int) (a2 : List V) : Option (Int × Int × (Nat → Int) × Int × List V × Int) :=
  bnd (s_impl_within_int64 n a0 1 17) fun y1_0 =>
    cnd (y1_0)
      (bnd (s_impl_isDeep_int64 n a1) fun y3_0 =>
        cnd (y3_0)
          (bnd (s_slices_Clone_Simpl_Pipe_impl_Pipe n a2) fun y5_0 =>
            bnd (s_impl_ValidGutter n (IntKind.i8.wrap (a0)) (IntKind.i16.wrap (a1)) (fun _ => 0) 0 y5_0) fun y6_0 =>
              cnd (y6_0)
                (cnd (decide ((((a2).length : Int)) = (0)))
                  (some ((0, 0, fun _ => 0, 0, ([] : List V), 6)))
                  (bnd (l_impl_SlopeTo_b1 n a2 (IntKind.i8.wrap (a0)) 0 0 0 (fun _ => 0) 0 (IntKind.i8.wrap (a0)) (IntKind.i16.wrap (a1)) (fun _ => 0) 0 (([] : List V)) y5_0) fun (u15_0, u15_1, u15_2, u15_3, u15_4, u15_5, u15_6, u15_7, u15_8, u15_9) =>
                    some ((u15_4, u15_5, u15_6, u15_7, u15_9, 0))))
                (some ((0, 0, fun _ => 0, 0, ([] : List V), 2))))
          (some ((0, 0, fun _ => 0, 0, ([] : List V), 2))))
      (some ((0, 0, fun _ => 0, 0, ([] : List V), 2)))
def l_laws_heldPipeS_b0 : Nat → (List V) → (Int) → (Int) →  Option (Sum (Int) (Int))
  | 0, _, _, _ => none
  | n + 1, a0, a1, a2 =>
    cnd (decide ((a2) < (((a0).length : Int))))
      (bnd (bnd (idx (a0) (a2)) as_Pi8_i16Q) fun (e2_0, e2_1) =>
        cnd (decide ((e2_0) = (IntKind.i8.wrap (a1))))
          (bnd (bnd (idx (a0) (a2)) as_Pi8_i16Q) fun (e4_0, e4_1) =>
            cnd (decide ((e4_1) = (IntKind.i16.wrap (IntKind.i64.wrap ((a1) + (1))))))
              (l_laws_heldPipeS_b0 n a0 (IntKind.i64.wrap ((IntKind.i64.wrap ((a1) + (1))) + (1))) (IntKind.i64.wrap ((a2) + (1))))
              (some (.inr (-1))))
          (some (.inr (-1))))
      (some (.inl (a1)))
def s_laws_heldPipeS (n : Nat) (a0 : List V) (a1 : Int) : Option (Int) :=
  bnd (l_laws_heldPipeS_b0 n a0 a1 0) fun w => match w with
    | .inl u6_0 =>
      some (u6_0)
    | .inr u7_0 =>
      some (u7_0)
def s_laws_heldGutter (n : Nat) (a0 : Int) (a1 : Int) (a2 : Nat → Int) (a3 : Int) (a4 : List V) (a5 : Int) : Option (Int) :=
  bnd (s_laws_heldPipeS n a4 a5) fun y1_0 =>
    cnd (decide ((y1_0) < (0)))
      (some (-1))
      (some (y1_0))
def s_laws_FnExactSlopeTo (n : Nat) (a0 : Int) (a1 : Int) (a2 : List V) : Option (Bool) :=
  bnd (s_laws_szPipeS n a2 1048576) fun y1_0 =>
    cnd (decide ((y1_0) < (0)))
      (some (true))
      (bnd (s_laws_toPipeS n a2) fun y3_0 =>
        bnd (s_spec_SlopeTo n a0 a1 y3_0) fun (y4_0, y4_1, y4_2, y4_3, y4_4, y4_5) =>
          chk (plainV (V.tup [(V.parts [(V.int .i8 (y4_0)), (V.int .i16 (y4_1)), (V.ints .i8 17 (y4_2)), (V.int .u32 (y4_3)), (V.fresh 0 (y4_4))]), (V.int .i64 (y4_5))]))
            (bnd (s_laws_toPipeS n a2) fun y6_0 =>
              bnd (s_impl_SlopeTo n a0 a1 y6_0) fun (y7_0, y7_1, y7_2, y7_3, y7_4, y7_5) =>
                chk (plainV (V.tup [(V.parts [(V.int .i8 (y7_0)), (V.int .i16 (y7_1)), (V.ints .i8 17 (y7_2)), (V.int .u32 (y7_3)), (V.fresh 0 (y7_4))]), (V.int .i64 (y7_5))]))
                  (bnd (s_laws_eqGutter n y7_0 y7_1 y7_2 y7_3 y7_4 y4_0 y4_1 y4_2 y4_3 y4_4) fun y9_0 =>
                    cnd (y9_0)
                      (cnd (decide ((y7_5) = (y4_5)))
                        (bnd (s_laws_toPipeS n a2) fun y12_0 =>
                          bnd (s_laws_eqPipeS n y6_0 y12_0) fun y13_0 =>
                            cnd (y13_0)
                              (bnd (s_laws_markPipeS n y6_0 1) fun (y15_0, y15_1) =>
                                chk (likeRows (y6_0) (y15_1))
                                  (cnd (decide ((y15_0) < (0)))
                                    (some (false))
                                    (bnd (s_laws_eqGutter n y7_0 y7_1 y7_2 y7_3 y7_4 y4_0 y4_1 y4_2 y4_3 y4_4) fun y18_0 =>
                                      cnd (y18_0)
                                        (bnd (s_laws_markGutter n y7_0 y7_1 y7_2 y7_3 y7_4 1) fun (y20_0, y20_1) =>
                                          chk (likeRows (y7_4) (y20_1))
                                            (bnd (s_laws_heldGutter n y7_0 y7_1 y7_2 y7_3 y20_1 1) fun y22_0 =>
                                              cnd (decide ((y22_0) < (0)))
                                                (some (false))
                                                (cnd (decide ((y22_0) = (y20_0)))
                                                  (bnd (s_laws_toPipeS n a2) fun y25_0 =>
                                                    bnd (s_impl_SlopeTo n a0 a1 y25_0) fun (y26_0, y26_1, y26_2, y26_3, y26_4, y26_5) =>
                                                      chk (plainV (V.tup [(V.parts [(V.int .i8 (y26_0)), (V.int .i16 (y26_1)), (V.ints .i8 17 (y26_2)), (V.int .u32 (y26_3)), (V.fresh 0 (y26_4))]), (V.int .i64 (y26_5))]))
                                                        (bnd (s_laws_eqGutter n y26_0 y26_1 y26_2 y26_3 y26_4 y4_0 y4_1 y4_2 y4_3 y4_4) fun y28_0 =>
                                                          cnd (y28_0)
                                                            (cnd (decide ((y26_5) = (y4_5)))
                                                              (bnd (s_laws_heldGutter n y7_0 y7_1 y7_2 y7_3 y20_1 1) fun y31_0 =>
                                                                cnd (decide ((y31_0) < (0)))
                                                                  (some (false))
                                                                  (cnd (decide ((y31_0) = (y20_0)))
                                                                    (some (true))
                                                                    (some (false))))
                                                              (some (false)))
                                                            (some (false))))
                                                  (some (false)))))
                                        (some (false)))))
                              (some (false)))
                        (some (false)))
                      (some (false)))))
def s_spec_l06Own (n : Nat) (a0 : Int) (a1 : Int) (a2 : Nat → Int) (a3 : Int) (a4 : List V) : Option (Int × Int × (Nat → Int) × Int × List V) :=
  chk (decide (((([] : List V)).length + (a4).length) * 4 ≤ 140737488355328))
    (chk (sizesOk 2 (a4))
      (some ((a0, a1, a2, a3, (([] : List V)) ++ a4))))
def s_spec_CleanLeaf (n : Nat) (a0 : Int) (a1 : Int) (a2 : Nat → Int) (a3 : Int) (a4 : List V) (a5 : Int) : Option (Int × Int × (Nat → Int) × Int × List V × Int) :=
  bnd (s_spec_l06Cell n a0 a1 a2 a3 a4 a5) fun y1_0 =>
    bnd (s_spec_l06Asked n a0 a1 a2 a3 a4 ((y1_0))) fun y2_0 =>
      cnd (decide ((y2_0) = (0)))
        (bnd (s_spec_l06Leaf n a0 a1 a2 a3 a4 a5) fun y4_0 =>
          cnd (y4_0)
            (bnd (s_spec_l06Own n a0 a1 a2 a3 a4) fun (y6_0, y6_1, y6_2, y6_3, y6_4) =>
              chk (plainV (V.parts [(V.int .i8 (y6_0)), (V.int .i16 (y6_1)), (V.ints .i8 17 (y6_2)), (V.int .u32 (y6_3)), (V.fresh 0 (y6_4))]))
                (chk (decide (0 ≤ IntKind.u64.wrap (a5)))
                  (some ((y6_0, y6_1, y6_2, IntKind.u32.wrap (BitVec.ofInt IntKind.u32.bits (y6_3) &&& ~~~ BitVec.ofInt IntKind.u32.bits (IntKind.u32.wrap ((1) * 2 ^ (min (IntKind.u64.wrap (a5)).toNat IntKind.u32.bits)))).toNat, y6_4, 0)))))
            (some ((0, 0, fun _ => 0, 0, ([] : List V), 4))))
        (some ((0, 0, fun _ => 0, 0, ([] : List V), y2_0)))
def s_impl_Gutter_own (n : Nat) (a0 : Int) (a1 : Int) (a2 : Nat → Int) (a3 : Int) (a4 : List V) : Option (Int × Int × (Nat → Int) × Int × List V) :=
  bnd (s_slices_Clone_Simpl_Pipe_impl_Pipe n a4) fun y1_0 =>
    some ((a0, a1, a2, a3, y1_0))
def s_impl_Gutter_cleaned (n : Nat) (a0 : Int) (a1 : Int) (a2 : Nat → Int) (a3 : Int) (a4 : List V) (a5 : Int) : Option (Int × Int × (Nat → Int) × Int × List V) :=
  bnd (s_impl_Gutter_own n a0 a1 a2 a3 a4) fun (y1_0, y1_1, y1_2, y1_3, y1_4) =>
    chk (decide (0 ≤ a5))
      (some ((y1_0, y1_1, y1_2, IntKind.u32.wrap (BitVec.ofInt IntKind.u32.bits (y1_3) &&& ~~~ BitVec.ofInt IntKind.u32.bits (IntKind.u32.wrap ((1) * 2 ^ (min (a5).toNat IntKind.u32.bits)))).toNat, y1_4)))
def s_impl_CleanLeaf (n : Nat) (a0 : Int) (a1 : Int) (a2 : Nat → Int) (a3 : Int) (a4 : List V) (a5 : Int) : Option (Int × Int × (Nat → Int) × Int × List V × Int) :=
  bnd (s_impl_Gutter_isIn n a0 a1 a2 a3 a4 a5) fun y1_0 =>
    bnd (s_impl_gutterCode n a0 a1 a2 a3 a4 ((y1_0))) fun y2_0 =>
      cnd (decide ((y2_0) = (0)))
        (bnd (s_impl_Gutter_hasLeaves n a0 a1 a2 a3 a4 a5) fun y4_0 =>
          cnd (y4_0)
            (bnd (s_impl_Gutter_cleaned n a0 a1 a2 a3 a4 a5) fun (y6_0, y6_1, y6_2, y6_3, y6_4) =>
              some ((y6_0, y6_1, y6_2, y6_3, y6_4, 0)))
            (some ((0, 0, fun _ => 0, 0, ([] : List V), 4))))
        (some ((0, 0, fun _ => 0, 0, ([] : List V), y2_0)))
def s_laws_FnExactCleanLeaf (n : Nat) (a0 : Int) (a1 : Int) (a2 : Nat → Int) (a3 : Int) (a4 : List V) (a5 : Int) : Option (Bool) :=
  bnd (s_laws_szGutter n a0 a1 a2 a3 a4 1048576) fun y1_0 =>
    cnd (decide ((y1_0) < (0)))
      (some (true))
      (bnd (s_laws_toGutter n a0 a1 a2 a3 a4) fun (y3_0, y3_1, y3_2, y3_3, y3_4) =>
        bnd (s_spec_CleanLeaf n y3_0 y3_1 y3_2 y3_3 y3_4 a5) fun (y4_0, y4_1, y4_2, y4_3, y4_4, y4_5) =>
          chk (plainV (V.tup [(V.parts [(V.int .i8 (y4_0)), (V.int .i16 (y4_1)), (V.ints .i8 17 (y4_2)), (V.int .u32 (y4_3)), (V.fresh 0 (y4_4))]), (V.int .i64 (y4_5))]))
            (bnd (s_laws_toGutter n a0 a1 a2 a3 a4) fun (y6_0, y6_1, y6_2, y6_3, y6_4) =>
              bnd (s_impl_CleanLeaf n y6_0 y6_1 y6_2 y6_3 y6_4 a5) fun (y7_0, y7_1, y7_2, y7_3, y7_4, y7_5) =>
                chk (plainV (V.tup [(V.parts [(V.int .i8 (y7_0)), (V.int .i16 (y7_1)), (V.ints .i8 17 (y7_2)), (V.int .u32 (y7_3)), (V.fresh 0 (y7_4))]), (V.int .i64 (y7_5))]))
                  (bnd (s_laws_eqGutter n y7_0 y7_1 y7_2 y7_3 y7_4 y4_0 y4_1 y4_2 y4_3 y4_4) fun y9_0 =>
                    cnd (y9_0)
                      (cnd (decide ((y7_5) = (y4_5)))
                        (bnd (s_laws_toGutter n a0 a1 a2 a3 a4) fun (y12_0, y12_1, y12_2, y12_3, y12_4) =>
                          bnd (s_laws_eqGutter n y6_0 y6_1 y6_2 y6_3 y6_4 y12_0 y12_1 y12_2 y12_3 y12_4) fun y13_0 =>
                            cnd (y13_0)
                              (bnd (s_laws_markGutter n y6_0 y6_1 y6_2 y6_3 y6_4 1) fun (y15_0, y15_1) =>
                                chk (likeRows (y6_4) (y15_1))
                                  (cnd (decide ((y15_0) < (0)))
                                    (some (false))
                                    (bnd (s_laws_eqGutter n y7_0 y7_1 y7_2 y7_3 y7_4 y4_0 y4_1 y4_2 y4_3 y4_4) fun y18_0 =>
                                      cnd (y18_0)
                                        (bnd (s_laws_markGutter n y7_0 y7_1 y7_2 y7_3 y7_4 1) fun (y20_0, y20_1) =>
                                          chk (likeRows (y7_4) (y20_1))
                                            (bnd (s_laws_heldGutter n y7_0 y7_1 y7_2 y7_3 y20_1 1) fun y22_0 =>
                                              cnd (decide ((y22_0) < (0)))
                                                (some (false))
                                                (cnd (decide ((y22_0) = (y20_0)))
                                                  (bnd (s_laws_toGutter n a0 a1 a2 a3 a4) fun (y25_0, y25_1, y25_2, y25_3, y25_4) =>
                                                    bnd (s_impl_CleanLeaf n y25_0 y25_1 y25_2 y25_3 y25_4 a5) fun (y26_0, y26_1, y26_2, y26_3, y26_4, y26_5) =>
                                                      chk (plainV (V.tup [(V.parts [(V.int .i8 (y26_0)), (V.int .i16 (y26_1)), (V.ints .i8 17 (y26_2)), (V.int .u32 (y26_3)), (V.fresh 0 (y26_4))]), (V.int .i64 (y26_5))]))
                                                        (bnd (s_laws_eqGutter n y26_0 y26_1 y26_2 y26_3 y26_4 y4_0 y4_1 y4_2 y4_3 y4_4) fun y28_0 =>
                                                          cnd (y28_0)
                                                            (cnd (decide ((y26_5) = (y4_5)))
                                                              (bnd (s_laws_heldGutter n y7_0 y7_1 y7_2 y7_3 y20_1 1) fun y31_0 =>
                                                                cnd (decide ((y31_0) < (0)))
                                                                  (some (false))
                                                                  (cnd (decide ((y31_0) = (y20_0)))
                                                                    (some (true))
                                                                    (some (false))))
                                                              (some (false)))
                                                            (some (false))))
                                                  (some (false)))))
                                        (some (false)))))
                              (some (false)))
                        (some (false)))
                      (some (false)))))
def l_spec_LeastTakes_b0 : Nat → (List V) → (Int) → (Int) → (Int) → (Int) → (Nat → Int) → (Int) → (List V) →  Option (Sum (Unit) (Int × Int))
  | 0, _, _, _, _, _, _, _, _ => none
  | n + 1, a0, a1, a2, a3, a4, a5, a6, a7 =>
    cnd (decide ((a2) ≤ (1000)))
      (chk (inB (a1) (a7).length)
        (bnd (bnd (nth (a7) ((a1).toNat)) as_Pi8_i16Q) fun (e10_0, e10_1) =>
          bnd (bnd (nth (a7) ((a1).toNat)) as_Pi8_i16Q) fun (e11_0, e11_1) =>
            bnd (s_spec_l06Over n a3 a4 a5 a6 (setNth (a7) ((a1).toNat) (V.parts [(V.int .i8 (e11_0)), (V.int .i16 (IntKind.i16.wrap (a2)))])) a0) fun y12_0 =>
              cnd (decide ((y12_0) < (0)))
                (some (.inr ((a2, 0))))
                (l_spec_LeastTakes_b0 n a0 a1 (IntKind.i64.wrap ((a2) + (1))) a3 a4 a5 a6 (setNth (a7) ((a1).toNat) (V.parts [(V.int .i8 (e11_0)), (V.int .i16 (IntKind.i16.wrap (a2)))])))))
      (some (.inl (())))
def s_spec_LeastTakes (n : Nat) (a0 : Int) (a1 : Int) (a2 : Nat → Int) (a3 : Int) (a4 : List V) (a5 : List V) (a6 : Int) : Option (Int × Int) :=
  bnd (s_spec_l06Rain n a0 a1 a2 a3 a4 a5) fun y1_0 =>
    cnd (y1_0)
      (bnd (s_spec_l00In n a6 0 (IntKind.i64.wrap ((((a4).length : Int)) - (1)))) fun y3_0 =>
        bnd (s_spec_l06Asked n a0 a1 a2 a3 a4 ((y3_0))) fun y4_0 =>
          cnd (decide ((y4_0) = (0)))
            (bnd (s_spec_l06Own n a0 a1 a2 a3 a4) fun (y6_0, y6_1, y6_2, y6_3, y6_4) =>
              chk (plainV (V.parts [(V.int .i8 (y6_0)), (V.int .i16 (y6_1)), (V.ints .i8 17 (y6_2)), (V.int .u32 (y6_3)), (V.fresh 0 (y6_4))]))
                (bnd (l_spec_LeastTakes_b0 n a5 a6 0 y6_0 y6_1 y6_2 y6_3 y6_4) fun w => match w with
                  | .inl _ =>
                    some ((0, 6))
                  | .inr (u15_0, u15_1) =>
                    some ((u15_0, u15_1))))
            (some ((0, y4_0))))
      (bnd (s_spec_l06Asked n a0 a1 a2 a3 a4 false) fun y17_0 =>
        cnd (decide ((y17_0) = (0)))
          (bnd (s_spec_l06Own n a0 a1 a2 a3 a4) fun (y19_0, y19_1, y19_2, y19_3, y19_4) =>
            chk (plainV (V.parts [(V.int .i8 (y19_0)), (V.int .i16 (y19_1)), (V.ints .i8 17 (y19_2)), (V.int .u32 (y19_3)), (V.fresh 0 (y19_4))]))
              (bnd (l_spec_LeastTakes_b0 n a5 a6 0 y19_0 y19_1 y19_2 y19_3 y19_4) fun w => match w with
                | .inl _ =>
                  some ((0, 6))
                | .inr (u22_0, u22_1) =>
                  some ((u22_0, u22_1))))
          (some ((0, y17_0))))
def l_impl_LeastTakes_b0 : Nat → (List V) → (Int) → (Int) → (Int) → (Int) → (Nat → Int) → (Int) → (List V) →  Option (Sum (Unit) (Int × Int))
  | 0, _, _, _, _, _, _, _, _ => none
  | n + 1, a0, a1, a2, a3, a4, a5, a6, a7 =>
    cnd (decide ((a2) < (1001)))
      (chk (inB (a1) (a7).length)
        (bnd (bnd (nth (a7) ((a1).toNat)) as_Pi8_i16Q) fun (e9_0, e9_1) =>
          bnd (bnd (nth (a7) ((a1).toNat)) as_Pi8_i16Q) fun (e10_0, e10_1) =>
            bnd (s_impl_Gutter_firstOver n a3 a4 a5 a6 (setNth (a7) ((a1).toNat) (V.parts [(V.int .i8 (e10_0)), (V.int .i16 (a2))])) a0) fun y11_0 =>
              cnd (decide ((y11_0) = (200)))
                (some (.inr ((IntKind.i64.wrap (a2), 0))))
                (l_impl_LeastTakes_b0 n a0 a1 (IntKind.i16.wrap ((a2) + (1))) a3 a4 a5 a6 (setNth (a7) ((a1).toNat) (V.parts [(V.int .i8 (e10_0)), (V.int .i16 (a2))])))))
      (some (.inl (())))
def s_impl_LeastTakes (n : Nat) (a0 : Int) (a1 : Int) (a2 : Nat → Int) (a3 : Int) (a4 : List V) (a5 : List V) (a6 : Int) : Option (Int × Int) :=
  bnd (s_impl_Gutter_isRain n a0 a1 a2 a3 a4 a5) fun y1_0 =>
    cnd (y1_0)
      (bnd (s_impl_within_int64 n a6 0 (IntKind.i64.wrap ((((a4).length : Int)) - (1)))) fun y3_0 =>
        bnd (s_impl_gutterCode n a0 a1 a2 a3 a4 ((y3_0))) fun y4_0 =>
          cnd (decide ((y4_0) = (0)))
            (bnd (s_impl_Gutter_own n a0 a1 a2 a3 a4) fun (y6_0, y6_1, y6_2, y6_3, y6_4) =>
              bnd (l_impl_LeastTakes_b0 n a5 a6 0 y6_0 y6_1 y6_2 y6_3 y6_4) fun w => match w with
                | .inl _ =>
                  some ((0, 6))
                | .inr (u14_0, u14_1) =>
                  some ((u14_0, u14_1)))
            (some ((0, y4_0))))
      (bnd (s_impl_gutterCode n a0 a1 a2 a3 a4 false) fun y16_0 =>
        cnd (decide ((y16_0) = (0)))
          (bnd (s_impl_Gutter_own n a0 a1 a2 a3 a4) fun (y18_0, y18_1, y18_2, y18_3, y18_4) =>
            bnd (l_impl_LeastTakes_b0 n a5 a6 0 y18_0 y18_1 y18_2 y18_3 y18_4) fun w => match w with
              | .inl _ =>
                some ((0, 6))
              | .inr (u20_0, u20_1) =>
                some ((u20_0, u20_1)))
          (some ((0, y16_0))))
def s_laws_FnExactLeastTakes (n : Nat) (a0 : Int) (a1 : Int) (a2 : Nat → Int) (a3 : Int) (a4 : List V) (a5 : List V) (a6 : Int) : Option (Bool) :=
  cnd (decide ((1048576) < (((a5).length : Int))))
    (some (true))
    (bnd (s_laws_szGutter n a0 a1 a2 a3 a4 1048576) fun y2_0 =>
      cnd (decide ((y2_0) < (0)))
        (some (true))
        (bnd (s_laws_toGutter n a0 a1 a2 a3 a4) fun (y4_0, y4_1, y4_2, y4_3, y4_4) =>
          bnd (s_laws_toInt64S n a5) fun y5_0 =>
            bnd (s_spec_LeastTakes n y4_0 y4_1 y4_2 y4_3 y4_4 y5_0 a6) fun (y6_0, y6_1) =>
              bnd (s_laws_toGutter n a0 a1 a2 a3 a4) fun (y7_0, y7_1, y7_2, y7_3, y7_4) =>
                bnd (s_laws_toInt64S n a5) fun y8_0 =>
                  bnd (s_impl_LeastTakes n y7_0 y7_1 y7_2 y7_3 y7_4 y8_0 a6) fun (y9_0, y9_1) =>
                    cnd (decide ((y9_0) = (y6_0)))
                      (cnd (decide ((y9_1) = (y6_1)))
                        (bnd (s_laws_toGutter n a0 a1 a2 a3 a4) fun (y12_0, y12_1, y12_2, y12_3, y12_4) =>
                          bnd (s_laws_eqGutter n y7_0 y7_1 y7_2 y7_3 y7_4 y12_0 y12_1 y12_2 y12_3 y12_4) fun y13_0 =>
                            cnd (y13_0)
                              (bnd (s_laws_toInt64S n a5) fun y15_0 =>
                                bnd (s_laws_eqInt64S n y8_0 y15_0) fun y16_0 =>
                                  cnd (y16_0)
                                    (some (true))
                                    (some (false)))
                              (some (false)))
                        (some (false)))
                      (some (false))))
end Go.Proofs.Ytkfihbdikdkcmaa
