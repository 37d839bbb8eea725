/- What functions of the program answer, in plain Lean: printed by gen.py out of the program. -/
import Derived.Test.YtkfihbdikdkcmaaSh9
namespace Go.Proofs.Ytkfihbdikdkcmaa
open Go
set_option linter.unusedVariables false
set_option linter.unusedSimpArgs false
def l_spec_MirrorGutter_b0 : Nat → (Int) → (Int) → (Int) → (Int) → (Nat → Int) → (Int) → (List V) → (Int) → (Int) → (Nat → Int) → (Int) → (Int) → (Int) → (Nat → Int) → (Int) → (List V) → (List V) →  Option (Int × Int × (Nat → Int) × Int × List V × Int × Int × (Nat → Int) × Int × Int × Int × (Nat → Int) × Int × List V × List V)
  | 0, _, _, _, _, _, _, _, _, _, _, _, _, _, _, _, _, _ => none
  | n + 1, a0, a1, a2, a3, a4, a5, a6, a7, a8, a9, a10, a11, a12, a13, a14, a15, a16 =>
    cnd (decide ((a1) ≤ (a0)))
      (chk (inB (a1) 17)
        (chk (inB (IntKind.i64.wrap ((a0) - (a1))) 17)
          (bnd (s_spec_l06Leaf n a2 a3 a4 a5 a6 a1) fun y6_0 =>
            cnd (y6_0)
              (chk (decide (0 ≤ IntKind.u64.wrap (IntKind.i64.wrap ((a0) - (a1)))))
                (l_spec_MirrorGutter_b0 n a0 (IntKind.i64.wrap ((a1) + (1))) a2 a3 a4 a5 a6 a7 a8 a9 a10 a11 a12 (updC (a13) (0 + (IntKind.i64.wrap ((a0) - (a1))).toNat * 1) ((a4) (0 + (a1).toNat * 1))) (IntKind.u32.wrap (BitVec.ofInt IntKind.u32.bits (a14) ||| BitVec.ofInt IntKind.u32.bits (IntKind.u32.wrap ((1) * 2 ^ (min (IntKind.u64.wrap (IntKind.i64.wrap ((a0) - (a1)))).toNat IntKind.u32.bits)))).toNat) a15 a16))
              (l_spec_MirrorGutter_b0 n a0 (IntKind.i64.wrap ((a1) + (1))) a2 a3 a4 a5 a6 a7 a8 a9 a10 a11 a12 (updC (a13) (0 + (IntKind.i64.wrap ((a0) - (a1))).toNat * 1) ((a4) (0 + (a1).toNat * 1))) a14 a15 a16))))
      (some ((a2, a3, a4, a5, a6, a7, a8, a9, a10, a11, a12, a13, a14, a15, a16)))
def l_spec_MirrorGutter_b2 : Nat → (Int) → (Int) → (Int) → (Nat → Int) → (Int) → (List V) → (Int) → (Int) → (Nat → Int) → (Int) → (Int) → (Int) → (Nat → Int) → (Int) → (List V) → (List V) →  Option (Int × Int × (Nat → Int) × Int × Int × Int × (Nat → Int) × Int × List V × List V)
  | 0, _, _, _, _, _, _, _, _, _, _, _, _, _, _, _, _ => none
  | n + 1, a0, a1, a2, a3, a4, a5, a6, a7, a8, a9, a10, a11, a12, a13, a14, a15 =>
    cnd (decide ((0) ≤ (a0)))
      (bnd (bnd (idx (a5) (a0)) as_Pi8_i16Q) fun (e12_0, e12_1) =>
        bnd (bnd (idx (a5) (a0)) as_Pi8_i16Q) fun (e13_0, e13_1) =>
          chk (decide (((a15).length + ([(V.parts [(V.int .i8 (IntKind.i8.wrap ((IntKind.i8.wrap ((a1) - (1))) - (e12_0)))), (V.int .i16 (e13_1))])]).length) * 4 ≤ 140737488355328))
            (l_spec_MirrorGutter_b2 n (IntKind.i64.wrap ((a0) - (1))) a1 a2 a3 a4 a5 a6 a7 a8 a9 a10 a11 a12 a13 a14 (a15 ++ ([(V.parts [(V.int .i8 (IntKind.i8.wrap ((IntKind.i8.wrap ((a1) - (1))) - (e12_0)))), (V.int .i16 (e13_1))])]))))
      (some ((a6, a7, a8, a9, a10, a11, a12, a13, a14, a15)))
def s_spec_MirrorGutter (n : Nat) (a0 : Int) (a1 : Int) (a2 : Nat → Int) (a3 : Int) (a4 : List V) : Option (Int × Int × (Nat → Int) × Int × List V × Int) :=
  bnd (s_spec_l06Ok n a0 a1 a2 a3 a4) fun y1_0 =>
    cnd (y1_0)
      (bnd (l_spec_MirrorGutter_b0 n (IntKind.i64.wrap ((IntKind.i64.wrap (a0)) - (1))) 0 a0 a1 a2 a3 a4 0 0 (fun _ => 0) 0 a0 a1 (fun _ => 0) 0 (([] : List V)) (([] : List V))) fun (u9_0, u9_1, u9_2, u9_3, u9_4, u9_5, u9_6, u9_7, u9_8, u9_9, u9_10, u9_11, u9_12, u9_13, u9_14) =>
        bnd (l_spec_MirrorGutter_b2 n (IntKind.i64.wrap ((((u9_4).length : Int)) - (1))) u9_0 u9_1 u9_2 u9_3 u9_4 u9_5 u9_6 u9_7 u9_8 u9_9 u9_10 u9_11 u9_12 u9_13 u9_14) fun (u15_0, u15_1, u15_2, u15_3, u15_4, u15_5, u15_6, u15_7, u15_8, u15_9) =>
          some ((u15_4, u15_5, u15_6, u15_7, u15_9, 0)))
      (some ((0, 0, fun _ => 0, 0, ([] : List V), 1)))
def s_slices_Backward_Simpl_Pipe_impl_Pipe (n : Nat) (a0 : List V) : Option (List V) :=
  some (a0)
def l_impl_MirrorGutter_b0 : Nat → (Int) → (Int) → (Int) → (Int) → (Nat → Int) → (Int) → (List V) → (Int) → (Int) → (Nat → Int) → (Int) → (Int) → (Int) → (Nat → Int) → (Int) → (List V) → (List V) → (List V) →  Option (Int × Int × (Nat → Int) × Int × List V × Int × Int × (Nat → Int) × Int × Int × Int × (Nat → Int) × Int × List V × List V)
  | 0, _, _, _, _, _, _, _, _, _, _, _, _, _, _, _, _, _, _ => none
  | n + 1, a0, a1, a2, a3, a4, a5, a6, a7, a8, a9, a10, a11, a12, a13, a14, a15, a16, a17 =>
    cnd (decide ((a1) < (a0)))
      (chk (inB (a1) (a15).length)
        (bnd (bnd (nth (a15) ((a1).toNat)) as_i64) fun e6_0 =>
          chk (inB (e6_0) 17)
            (chk (inB (IntKind.i64.wrap ((IntKind.i64.wrap ((IntKind.i64.wrap (a2)) - (1))) - (e6_0))) 17)
              (bnd (s_impl_Gutter_hasLeaves n a2 a3 a4 a5 a6 e6_0) fun y9_0 =>
                cnd (y9_0)
                  (chk (decide (0 ≤ IntKind.i64.wrap ((IntKind.i64.wrap ((IntKind.i64.wrap (a2)) - (1))) - (e6_0))))
                    (l_impl_MirrorGutter_b0 n a0 (IntKind.i64.wrap ((a1) + (1))) a2 a3 a4 a5 a6 a7 a8 a9 a10 a11 a12 (updC (a13) (0 + (IntKind.i64.wrap ((IntKind.i64.wrap ((IntKind.i64.wrap (a2)) - (1))) - (e6_0))).toNat * 1) ((a4) (0 + (e6_0).toNat * 1))) (IntKind.u32.wrap (BitVec.ofInt IntKind.u32.bits (a14) ||| BitVec.ofInt IntKind.u32.bits (IntKind.u32.wrap ((1) * 2 ^ (min (IntKind.i64.wrap ((IntKind.i64.wrap ((IntKind.i64.wrap (a2)) - (1))) - (e6_0))).toNat IntKind.u32.bits)))).toNat) a15 a16 a17))
                  (l_impl_MirrorGutter_b0 n a0 (IntKind.i64.wrap ((a1) + (1))) a2 a3 a4 a5 a6 a7 a8 a9 a10 a11 a12 (updC (a13) (0 + (IntKind.i64.wrap ((IntKind.i64.wrap ((IntKind.i64.wrap (a2)) - (1))) - (e6_0))).toNat * 1) ((a4) (0 + (e6_0).toNat * 1))) a14 a15 a16 a17)))))
      (some ((a2, a3, a4, a5, a6, a7, a8, a9, a10, a11, a12, a13, a14, a16, a17)))
def l_impl_MirrorGutter_rf : List V → (List V) → (Int) → (Int) → (Nat → Int) → (Int) → (List V) → (Int) → (Int) → (Nat → Int) → (Int) → (Int) → (Int) → (Nat → Int) → (Int) → (List V) → (List V) → Option (List V × Int × Int × (Nat → Int) × Int × List V × Int × Int × (Nat → Int) × Int × Int × Int × (Nat → Int) × Int × List V × List V)
  | [], a0, a1, a2, a3, a4, a5, a6, a7, a8, a9, a10, a11, a12, a13, a14, a15 => some ((a0, a1, a2, a3, a4, a5, a6, a7, a8, a9, a10, a11, a12, a13, a14, a15))
  | y :: ys, a0, a1, a2, a3, a4, a5, a6, a7, a8, a9, a10, a11, a12, a13, a14, a15 =>
    bnd (bnd (some y) as_Pi8_i16Q) fun (x0, x1) =>
      chk (decide (((a15).length + ([(V.parts [(V.int .i8 (IntKind.i8.wrap ((IntKind.i8.wrap ((a1) - (1))) - (x0)))), (V.int .i16 (x1))])]).length) * 4 ≤ 140737488355328))
        (l_impl_MirrorGutter_rf ys a0 a1 a2 a3 a4 a5 a6 a7 a8 a9 a10 a11 a12 a13 a14 (a15 ++ ([(V.parts [(V.int .i8 (IntKind.i8.wrap ((IntKind.i8.wrap ((a1) - (1))) - (x0)))), (V.int .i16 (x1))])])))
def s_impl_MirrorGutter (n : Nat) (a0 : Int) (a1 : Int) (a2 : Nat → Int) (a3 : Int) (a4 : List V) : Option (Int × Int × (Nat → Int) × Int × List V × Int) :=
  bnd (s_impl_ValidGutter n a0 a1 a2 a3 a4) fun y1_0 =>
    cnd (y1_0)
      (bnd (s_impl_Gutter_cells n a0 a1 a2 a3 a4) fun y3_0 =>
        bnd (l_impl_MirrorGutter_b0 n (((y3_0).length : Int)) 0 a0 a1 a2 a3 a4 0 0 (fun _ => 0) 0 a0 a1 (fun _ => 0) 0 y3_0 (([] : List V)) (([] : List V))) fun (u12_0, u12_1, u12_2, u12_3, u12_4, u12_5, u12_6, u12_7, u12_8, u12_9, u12_10, u12_11, u12_12, u12_13, u12_14) =>
          bnd (s_slices_Backward_Simpl_Pipe_impl_Pipe n u12_4) fun y14_0 =>
            bnd (l_impl_MirrorGutter_rf (y14_0).reverse y14_0 u12_0 u12_1 u12_2 u12_3 u12_4 u12_5 u12_6 u12_7 u12_8 u12_9 u12_10 u12_11 u12_12 u12_13 u12_14) fun (u15_0, u15_1, u15_2, u15_3, u15_4, u15_5, u15_6, u15_7, u15_8, u15_9, u15_10, u15_11, u15_12, u15_13, u15_14, u15_15) =>
              some ((u15_10, u15_11, u15_12, u15_13, u15_15, 0)))
      (some ((0, 0, fun _ => 0, 0, ([] : List V), 1)))
def s_laws_FnExactMirrorGutter (n : Nat) (a0 : Int) (a1 : Int) (a2 : Nat → Int) (a3 : Int) (a4 : List V) : Option (Bool) :=
  bnd (s_laws_szGutter n a0 a1 a2 a3 a4 1048576) fun y1_0 =>
    cnd (decide ((y1_0) < (0)))
      (some (true))
      (bnd (s_laws_toGutter n a0 a1 a2 a3 a4) fun (y3_0, y3_1, y3_2, y3_3, y3_4) =>
        bnd (s_spec_MirrorGutter n y3_0 y3_1 y3_2 y3_3 y3_4) fun (y4_0, y4_1, y4_2, y4_3, y4_4, y4_5) =>
          chk (plainV (V.tup [(V.parts [(V.int .i8 (y4_0)), (V.int .i16 (y4_1)), (V.ints .i8 17 (y4_2)), (V.int .u32 (y4_3)), (V.fresh 0 (y4_4))]), (V.int .i64 (y4_5))]))
            (bnd (s_laws_toGutter n a0 a1 a2 a3 a4) fun (y6_0, y6_1, y6_2, y6_3, y6_4) =>
              bnd (s_impl_MirrorGutter n y6_0 y6_1 y6_2 y6_3 y6_4) fun (y7_0, y7_1, y7_2, y7_3, y7_4, y7_5) =>
                chk (plainV (V.tup [(V.parts [(V.int .i8 (y7_0)), (V.int .i16 (y7_1)), (V.ints .i8 17 (y7_2)), (V.int .u32 (y7_3)), (V.fresh 0 (y7_4))]), (V.int .i64 (y7_5))]))
                  (bnd (s_laws_eqGutter n y7_0 y7_1 y7_2 y7_3 y7_4 y4_0 y4_1 y4_2 y4_3 y4_4) fun y9_0 =>
                    cnd (y9_0)
                      (cnd (decide ((y7_5) = (y4_5)))
                        (bnd (s_laws_toGutter n a0 a1 a2 a3 a4) fun (y12_0, y12_1, y12_2, y12_3, y12_4) =>
                          bnd (s_laws_eqGutter n y6_0 y6_1 y6_2 y6_3 y6_4 y12_0 y12_1 y12_2 y12_3 y12_4) fun y13_0 =>
                            cnd (y13_0)
                              (bnd (s_laws_markGutter n y6_0 y6_1 y6_2 y6_3 y6_4 1) fun (y15_0, y15_1) =>
                                chk (likeRows (y6_4) (y15_1))
                                  (cnd (decide ((y15_0) < (0)))
                                    (some (false))
                                    (bnd (s_laws_eqGutter n y7_0 y7_1 y7_2 y7_3 y7_4 y4_0 y4_1 y4_2 y4_3 y4_4) fun y18_0 =>
                                      cnd (y18_0)
                                        (bnd (s_laws_markGutter n y7_0 y7_1 y7_2 y7_3 y7_4 1) fun (y20_0, y20_1) =>
                                          chk (likeRows (y7_4) (y20_1))
                                            (bnd (s_laws_heldGutter n y7_0 y7_1 y7_2 y7_3 y20_1 1) fun y22_0 =>
                                              cnd (decide ((y22_0) < (0)))
                                                (some (false))
                                                (cnd (decide ((y22_0) = (y20_0)))
                                                  (bnd (s_laws_toGutter n a0 a1 a2 a3 a4) fun (y25_0, y25_1, y25_2, y25_3, y25_4) =>
                                                    bnd (s_impl_MirrorGutter n y25_0 y25_1 y25_2 y25_3 y25_4) fun (y26_0, y26_1, y26_2, y26_3, y26_4, y26_5) =>
                                                      chk (plainV (V.tup [(V.parts [(V.int .i8 (y26_0)), (V.int .i16 (y26_1)), (V.ints .i8 17 (y26_2)), (V.int .u32 (y26_3)), (V.fresh 0 (y26_4))]), (V.int .i64 (y26_5))]))
                                                        (bnd (s_laws_eqGutter n y26_0 y26_1 y26_2 y26_3 y26_4 y4_0 y4_1 y4_2 y4_3 y4_4) fun y28_0 =>
                                                          cnd (y28_0)
                                                            (cnd (decide ((y26_5) = (y4_5)))
                                                              (bnd (s_laws_heldGutter n y7_0 y7_1 y7_2 y7_3 y20_1 1) fun y31_0 =>
                                                                cnd (decide ((y31_0) < (0)))
                                                                  (some (false))
                                                                  (cnd (decide ((y31_0) = (y20_0)))
                                                                    (some (true))
                                                                    (some (false))))
                                                              (some (false)))
                                                            (some (false))))
                                                  (some (false)))))
                                        (some (false)))))
                              (some (false)))
                        (some (false)))
                      (some (false)))))
end Go.Proofs.Ytkfihbdikdkcmaa
