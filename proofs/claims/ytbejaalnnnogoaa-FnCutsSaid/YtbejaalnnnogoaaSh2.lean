/- What functions of the program answer, in plain Lean: printed by gen.py out of the program. -/
import Derived.Test.YtbejaalnnnogoaaSh1
namespace Go.Proofs.Ytbejaalnnnogoaa
open Go
set_option linter.unusedVariables false
set_option linter.unusedSimpArgs false
def as_u8 : V → Option (Int)
 | (V.int .u8 (e0)) => some e0
 | _ => none
theorem as_u8_some {x : Option V} {e0 : Int} (h : bnd x as_u8 = some e0) : x = some (V.int .u8 (e0)) := by
  obtain ⟨v, rfl, k⟩ := bnd_some h
  unfold as_u8 at k
  split at k
  · simp only [Option.some.injEq, Prod.mk.injEq] at k
    obtain rfl := k
    rfl
  · cases k
def s_laws_a2Long (n : Nat) (a0 : List V) (a1 : List V) : Option (Bool) :=
 cnd (decide ((3000) < (((a0).length : Int))))
  (some (true))
  (some ((decide ((3000) < (((a1).length : Int))))))
def s_spec_l00From (n : Nat) (a0 : List V) : Option (List V × Int × Int) :=
 some ((a0, 0, 0))
def s_pspec_l00Src_next (n : Nat) (a0 : List V) (a1 : Int) (a2 : Int) : Option (Int × List V × Int × Int) :=
 cnd (decide ((a1) < (((a0).length : Int))))
  (bnd (bnd (idx (a0) (a1)) as_u8) fun e2_0 =>
   cnd (decide ((IntKind.i64.wrap ((a1) + (1))) ≤ (((a0).length : Int))))
    (some ((IntKind.i64.wrap (e2_0), a0, IntKind.i64.wrap ((a1) + (1)), IntKind.u64.wrap ((IntKind.u64.wrap ((IntKind.u64.wrap ((a2) * (6364136223846793005))) + (IntKind.u64.wrap (IntKind.i64.wrap (e2_0))))) + (1442695040888963407)))))
    (chk (decide (0 ≤ 40))
     (some ((IntKind.i64.wrap (IntKind.u64.wrap (BitVec.ofInt IntKind.u64.bits ((IntKind.u64.wrap ((IntKind.u64.wrap ((IntKind.u64.wrap ((a2) * (6364136223846793005))) + (IntKind.u64.wrap (IntKind.i64.wrap (e2_0))))) + (1442695040888963407))).fdiv (2 ^ (min ((40 : Int)).toNat IntKind.u64.bits))) &&& BitVec.ofInt IntKind.u64.bits (255)).toNat), a0, IntKind.i64.wrap ((a1) + (1)), IntKind.u64.wrap ((IntKind.u64.wrap ((IntKind.u64.wrap ((a2) * (6364136223846793005))) + (IntKind.u64.wrap (IntKind.i64.wrap (e2_0))))) + (1442695040888963407)))))))
  (cnd (decide ((IntKind.i64.wrap ((a1) + (1))) ≤ (((a0).length : Int))))
   (some ((0, a0, IntKind.i64.wrap ((a1) + (1)), IntKind.u64.wrap ((IntKind.u64.wrap ((IntKind.u64.wrap ((a2) * (6364136223846793005))) + (IntKind.u64.wrap (0)))) + (1442695040888963407)))))
   (chk (decide (0 ≤ 40))
    (some ((IntKind.i64.wrap (IntKind.u64.wrap (BitVec.ofInt IntKind.u64.bits ((IntKind.u64.wrap ((IntKind.u64.wrap ((IntKind.u64.wrap ((a2) * (6364136223846793005))) + (IntKind.u64.wrap (0)))) + (1442695040888963407))).fdiv (2 ^ (min ((40 : Int)).toNat IntKind.u64.bits))) &&& BitVec.ofInt IntKind.u64.bits (255)).toNat), a0, IntKind.i64.wrap ((a1) + (1)), IntKind.u64.wrap ((IntKind.u64.wrap ((IntKind.u64.wrap ((a2) * (6364136223846793005))) + (IntKind.u64.wrap (0)))) + (1442695040888963407)))))))
def s_pspec_l00Src_pick (n : Nat) (a0 : List V) (a1 : Int) (a2 : Int) (a3 : Int) : Option (Int × List V × Int × Int) :=
 cnd (decide ((a3) ≤ (1)))
  (some ((0, a0, a1, a2)))
  (bnd (s_pspec_l00Src_next n a0 a1 a2) fun (y2_0, y2_1, y2_2, y2_3) =>
   cnd (decide ((200) < (a3)))
    (bnd (s_pspec_l00Src_next n y2_1 y2_2 y2_3) fun (y4_0, y4_1, y4_2, y4_3) =>
     chk (!decide ((a3) = 0))
      (some (((IntKind.i64.wrap ((IntKind.i64.wrap ((y2_0) * (256))) + (y4_0))).tmod (a3), y4_1, y4_2, y4_3))))
    (chk (!decide ((a3) = 0))
     (some (((y2_0).tmod (a3), y2_1, y2_2, y2_3)))))
def s_pspec_l00Src_one (n : Nat) (a0 : List V) (a1 : Int) (a2 : Int) (a3 : Int) : Option (Bool × List V × Int × Int) :=
 bnd (s_pspec_l00Src_pick n a0 a1 a2 a3) fun (y1_0, y1_1, y1_2, y1_3) =>
  some (((decide ((y1_0) = (0))), y1_1, y1_2, y1_3))
def l_spec_l05Drawn_b0 : Nat → (Int) → (List V) → (Int) → (Int) → (Int) → (Int) → (List V) → (List V) →  Option (List V × Int × Int × Int × Int × List V × List V)
 | 0, _, _, _, _, _, _, _, _ => none
 | n + 1, a0, a1, a2, a3, a4, a5, a6, a7 =>
  cnd (decide ((0) < (a0)))
   (bnd (s_pspec_l00Src_pick n a1 a2 a3 60) fun (y4_0, y4_1, y4_2, y4_3) =>
    bnd (s_pspec_l00Src_pick n y4_1 y4_2 y4_3 50) fun (y5_0, y5_1, y5_2, y5_3) =>
     bnd (s_pspec_l00Src_one n y5_1 y5_2 y5_3 5) fun (y6_0, y6_1, y6_2, y6_3) =>
      cnd (y6_0)
       (bnd (s_pspec_l00Src_pick n y6_1 y6_2 y6_3 7) fun (y8_0, y8_1, y8_2, y8_3) =>
        chk (decide (((a7).length + ([(V.parts [(V.int .i16 (IntKind.i16.wrap (y4_0))), (V.int .i16 (IntKind.i16.wrap (IntKind.i64.wrap ((y4_0) + (IntKind.i64.wrap ((1) + (y8_0)))))))])]).length) * 4 ≤ 140737488355328))
         (l_spec_l05Drawn_b0 n (IntKind.i64.wrap ((a0) - (1))) y8_1 y8_2 y8_3 a4 a5 a6 (a7 ++ ([(V.parts [(V.int .i16 (IntKind.i16.wrap (y4_0))), (V.int .i16 (IntKind.i16.wrap (IntKind.i64.wrap ((y4_0) + (IntKind.i64.wrap ((1) + (y8_0)))))))])]))))
       (chk (decide (((a7).length + ([(V.parts [(V.int .i16 (IntKind.i16.wrap (y4_0))), (V.int .i16 (IntKind.i16.wrap (IntKind.i64.wrap ((y4_0) + (IntKind.i64.wrap ((1) + (y5_0)))))))])]).length) * 4 ≤ 140737488355328))
        (l_spec_l05Drawn_b0 n (IntKind.i64.wrap ((a0) - (1))) y6_1 y6_2 y6_3 a4 a5 a6 (a7 ++ ([(V.parts [(V.int .i16 (IntKind.i16.wrap (y4_0))), (V.int .i16 (IntKind.i16.wrap (IntKind.i64.wrap ((y4_0) + (IntKind.i64.wrap ((1) + (y5_0)))))))])])))))
   (some ((a1, a2, a3, a4, a5, a6, a7)))
def s_spec_l05Drawn (n : Nat) (a0 : List V) (a1 : Int) (a2 : Int) : Option (Int × List V × List V × Int × Int) :=
 bnd (s_pspec_l00Src_pick n a0 a1 a2 2) fun (y1_0, y1_1, y1_2, y1_3) =>
  bnd (s_pspec_l00Src_pick n y1_1 y1_2 y1_3 6) fun (y2_0, y2_1, y2_2, y2_3) =>
   bnd (l_spec_l05Drawn_b0 n (IntKind.i64.wrap ((1) + (y2_0))) y2_1 y2_2 y2_3 0 (IntKind.u8.wrap (y1_0)) (([] : List V)) (([] : List V))) fun (u11_0, u11_1, u11_2, u11_3, u11_4, u11_5, u11_6) =>
    some ((u11_4, u11_6, u11_0, u11_1, u11_2))
def s_spec_A2Shape (n : Nat) (a0 : List V) : Option (Int × List V) :=
 bnd (s_spec_l00From n a0) fun (y1_0, y1_1, y1_2) =>
  bnd (s_spec_l05Drawn n y1_0 y1_1 y1_2) fun (y2_0, y2_1, y2_2, y2_3, y2_4) =>
   chk (plainV (V.parts [(V.int .u8 (y2_0)), (V.fresh 0 (y2_1))]))
    (some ((y2_0, y2_1)))
def s_impl_AllPieces (n : Nat) (a0 : Int) (a1 : List V) : Option (List V × Int) :=
 bnd (s_impl_ValidShape n a0 a1) fun y1_0 =>
  cnd (y1_0)
   (bnd (s_impl_Shape_pieces n a0 a1) fun y3_0 =>
    some ((y3_0, 0)))
   (some ((([] : List V), 1)))
def s_spec_AllPieces (n : Nat) (a0 : Int) (a1 : List V) : Option (List V × Int) :=
 bnd (s_spec_l05Ok n a0 a1) fun y1_0 =>
  cnd (y1_0)
   (bnd (s_spec_l05All n a0 a1) fun y3_0 =>
    chk (plainV (V.fresh 0 (y3_0)))
     (some ((y3_0, 0))))
   (some (([], 1)))
def s_impl_WholeIn (n : Nat) (a0 : Int) (a1 : List V) : Option (Int × Int) :=
 bnd (s_impl_ValidShape n a0 a1) fun y1_0 =>
  cnd (y1_0)
   (bnd (s_impl_Shape_whole n a0 a1) fun y3_0 =>
    some ((y3_0, 0)))
   (some ((0, 1)))
def s_impl_UnitsOf (n : Nat) (a0 : Int) (a1 : List V) : Option (Int × Int) :=
 bnd (s_impl_ValidShape n a0 a1) fun y1_0 =>
  cnd (y1_0)
   (bnd (s_impl_Shape_units n a0 a1) fun y3_0 =>
    some ((y3_0, 0)))
   (some ((0, 1)))
def s_impl_within_int8 (n : Nat) (a0 : Int) (a1 : Int) (a2 : Int) : Option (Bool) :=
 cnd (decide ((a1) ≤ (a0)))
  (some ((decide ((a0) ≤ (a2)))))
  (some (false))
def s_impl_isPiece (n : Nat) (a0 : Int) (a1 : Int) : Option (Bool) :=
 bnd (s_impl_within_int8 n a0 0 2) fun y1_0 =>
  cnd (y1_0)
   (bnd (s_impl_within_int8 n a1 1 7) fun y3_0 =>
    some ((y3_0)))
   (some (false))
def s_impl_areAll_impl_Piece_1__isPiece (n : Nat) (a0 : Int) (a1 : Int) : Option (Bool) :=
 bnd (s_impl_isPiece n a0 a1) fun y1_0 =>
  some ((!(y1_0)))
def l_ixPc_b0 : Nat → (List V) → (Int) → (Int) →  Option (Sum (Unit) (Int))
 | 0, _, _, _ => none
 | n + 1, a0, a1, a2 =>
  cnd (decide ((a2) < (a1)))
   (bnd (bnd (idx (a0) (a2)) as_Pi8_i8Q) fun (e2_0, e2_1) =>
    bnd (s_impl_areAll_impl_Piece_1__isPiece n e2_0 e2_1) fun y3_0 =>
     cnd (y3_0)
      (some (.inr (a2)))
      (l_ixPc_b0 n a0 a1 (IntKind.i64.wrap ((a2) + (1)))))
   (some (.inl (())))
def s_ixPc (n : Nat) (a0 : List V) : Option (Int) :=
 bnd (l_ixPc_b0 n a0 (((a0).length : Int)) 0) fun w => match w with
  | .inl _ =>
   some (-1)
  | .inr u6_0 =>
   some (u6_0)
def s_cnPc (n : Nat) (a0 : List V) : Option (Bool) :=
 bnd (s_ixPc n a0) fun y1_0 =>
  some ((decide ((0) ≤ (y1_0))))
def s_impl_areAll_impl_Piece__isPiece (n : Nat) (a0 : List V) : Option (Bool) :=
 bnd (s_cnPc n a0) fun y1_0 =>
  some ((!(y1_0)))
def s_impl_piecesCode_1 (n : Nat) (a0 : List V) : Option (Bool) :=
 bnd (s_impl_areAll_impl_Piece__isPiece n a0) fun y1_0 =>
  some ((y1_0))
def s_impl_areAll_Simpl_Piece_1__piecesCode_1 (n : Nat) (a0 : List V) : Option (Bool) :=
 bnd (s_impl_piecesCode_1 n a0) fun y1_0 =>
  some ((!(y1_0)))
def l_ixPa_b0 : Nat → (List V) → (Int) → (Int) →  Option (Sum (Unit) (Int))
 | 0, _, _, _ => none
 | n + 1, a0, a1, a2 =>
  cnd (decide ((a2) < (a1)))
   (bnd (bnd (idx (a0) (a2)) as_LPi8_i8Q) fun e2_0 =>
    bnd (s_impl_areAll_Simpl_Piece_1__piecesCode_1 n e2_0) fun y3_0 =>
     cnd (y3_0)
      (some (.inr (a2)))
      (l_ixPa_b0 n a0 a1 (IntKind.i64.wrap ((a2) + (1)))))
   (some (.inl (())))
def s_ixPa (n : Nat) (a0 : List V) : Option (Int) :=
 bnd (l_ixPa_b0 n a0 (((a0).length : Int)) 0) fun w => match w with
  | .inl _ =>
   some (-1)
  | .inr u6_0 =>
   some (u6_0)
def s_cnPa (n : Nat) (a0 : List V) : Option (Bool) :=
 bnd (s_ixPa n a0) fun y1_0 =>
  some ((decide ((0) ≤ (y1_0))))
def s_impl_areAll_Simpl_Piece__piecesCode_1 (n : Nat) (a0 : List V) : Option (Bool) :=
 bnd (s_cnPa n a0) fun y1_0 =>
  some ((!(y1_0)))
def s_impl_piecesCode_2 (n : Nat) (a0 : List V) : Option (Bool) :=
 some ((decide ((((a0).length : Int)) ≤ (30))))
def s_impl_areAll_Simpl_Piece_1__piecesCode_2 (n : Nat) (a0 : List V) : Option (Bool) :=
 bnd (s_impl_piecesCode_2 n a0) fun y1_0 =>
  some ((!(y1_0)))
def l_ixPb_b0 : Nat → (List V) → (Int) → (Int) →  Option (Sum (Unit) (Int))
 | 0, _, _, _ => none
 | n + 1, a0, a1, a2 =>
  cnd (decide ((a2) < (a1)))
   (bnd (bnd (idx (a0) (a2)) as_LPi8_i8Q) fun e2_0 =>
    bnd (s_impl_areAll_Simpl_Piece_1__piecesCode_2 n e2_0) fun y3_0 =>
     cnd (y3_0)
      (some (.inr (a2)))
      (l_ixPb_b0 n a0 a1 (IntKind.i64.wrap ((a2) + (1)))))
   (some (.inl (())))
def s_ixPb (n : Nat) (a0 : List V) : Option (Int) :=
 bnd (l_ixPb_b0 n a0 (((a0).length : Int)) 0) fun w => match w with
  | .inl _ =>
   some (-1)
  | .inr u6_0 =>
   some (u6_0)
def s_cnPb (n : Nat) (a0 : List V) : Option (Bool) :=
 bnd (s_ixPb n a0) fun y1_0 =>
  some ((decide ((0) ≤ (y1_0))))
def s_impl_areAll_Simpl_Piece__piecesCode_2 (n : Nat) (a0 : List V) : Option (Bool) :=
 bnd (s_cnPb n a0) fun y1_0 =>
  some ((!(y1_0)))
def s_impl_piecesCode (n : Nat) (a0 : List V) : Option (Int) :=
 bnd (s_impl_areAll_Simpl_Piece__piecesCode_1 n a0) fun y1_0 =>
  cnd (y1_0)
   (bnd (s_impl_areAll_Simpl_Piece__piecesCode_2 n a0) fun y3_0 =>
    cnd (y3_0)
     (some (0))
     (some (3)))
   (some (1))
def s_impl_TilesFor (n : Nat) (a0 : List V) : Option (Int × Int) :=
 bnd (s_impl_piecesCode n ([(V.sl (a0))])) fun y1_0 =>
  cnd (decide ((y1_0) = (0)))
   (bnd (s_impl_tilesFor n a0) fun y3_0 =>
    some ((y3_0, 0)))
   (some ((0, y1_0)))
def s_impl_MirrorShape_1 (n : Nat) (a0 : Int) (a1 : Int) : Option (Int × Int) :=
 some ((IntKind.i16.wrap ((200) - (a1)), IntKind.i16.wrap ((200) - (a0))))
def l_eaMi_b0 : Nat → (List V) → (Int) → (Int) → (List V) →  Option (List V)
 | 0, _, _, _, _ => none
 | n + 1, a0, a1, a2, a3 =>
  cnd (decide ((a2) < (a1)))
   (bnd (bnd (idx (a0) (a2)) as_Pi16_i16Q) fun (e2_0, e2_1) =>
    bnd (s_impl_MirrorShape_1 n e2_0 e2_1) fun (y3_0, y3_1) =>
     chk (decide (((a3).length + ([(V.parts [(V.int .i16 (y3_0)), (V.int .i16 (y3_1))])]).length) * 4 ≤ 140737488355328))
      (l_eaMi_b0 n a0 a1 (IntKind.i64.wrap ((a2) + (1))) (a3 ++ ([(V.parts [(V.int .i16 (y3_0)), (V.int .i16 (y3_1))])]))))
   (some (a3))
def s_eaMi (n : Nat) (a0 : List V) : Option (List V) :=
 bnd (l_eaMi_b0 n a0 (((a0).length : Int)) 0 (([] : List V))) fun u5_0 =>
  some (u5_0)
def s_impl_MirrorShape (n : Nat) (a0 : Int) (a1 : List V) : Option (Int × List V × Int) :=
 bnd (s_impl_ValidShape n a0 a1) fun y1_0 =>
  cnd (y1_0)
   (bnd (s_eaMi n a1) fun y3_0 =>
    some ((a0, y3_0, 0)))
   (some ((0, ([] : List V), 1)))
def l_spec_MirrorShape_b0 : Nat → (Int) → (Int) → (List V) → (Int) → (Int) → (List V) → (List V) →  Option (Int × Int × List V × List V)
 | 0, _, _, _, _, _, _, _ => none
 | n + 1, a0, a1, a2, a3, a4, a5, a6 =>
  cnd (decide ((a0) < (((a2).length : Int))))
   (bnd (bnd (idx (a2) (a0)) as_Pi16_i16Q) fun (e4_0, e4_1) =>
    bnd (bnd (idx (a2) (a0)) as_Pi16_i16Q) fun (e5_0, e5_1) =>
     chk (decide (((a6).length + ([(V.parts [(V.int .i16 (IntKind.i16.wrap ((200) - (e4_1)))), (V.int .i16 (IntKind.i16.wrap ((200) - (e5_0))))])]).length) * 4 ≤ 140737488355328))
      (l_spec_MirrorShape_b0 n (IntKind.i64.wrap ((a0) + (1))) a1 a2 a3 a4 a5 (a6 ++ ([(V.parts [(V.int .i16 (IntKind.i16.wrap ((200) - (e4_1)))), (V.int .i16 (IntKind.i16.wrap ((200) - (e5_0))))])]))))
   (some ((a3, a4, a5, a6)))
def s_spec_MirrorShape (n : Nat) (a0 : Int) (a1 : List V) : Option (Int × List V × Int) :=
 bnd (s_spec_l05Ok n a0 a1) fun y1_0 =>
  cnd (y1_0)
   (bnd (l_spec_MirrorShape_b0 n 0 a0 a1 0 a0 (([] : List V)) (([] : List V))) fun (u7_0, u7_1, u7_2, u7_3) =>
    some ((u7_1, u7_3, 0)))
   (some ((0, ([] : List V), 1)))
def l_spec_A2SamePieces_b0 : Nat → (List V) → (List V) → (Int) →  Option (Sum (Unit) (Bool))
 | 0, _, _, _ => none
 | n + 1, a0, a1, a2 =>
  cnd (decide ((a2) < (((a0).length : Int))))
   (bnd (bnd (idx (a0) (a2)) as_Pi8_i8Q) fun (e3_0, e3_1) =>
    bnd (bnd (idx (a1) (a2)) as_Pi8_i8Q) fun (e4_0, e4_1) =>
     cnd (eqParts [(V.int .i8 (e3_0)), (V.int .i8 (e3_1))] [(V.int .i8 (e4_0)), (V.int .i8 (e4_1))])
      (l_spec_A2SamePieces_b0 n a0 a1 (IntKind.i64.wrap ((a2) + (1))))
      (some (.inr (false))))
   (some (.inl (())))
def s_spec_A2SamePieces (n : Nat) (a0 : List V) (a1 : List V) : Option (Bool) :=
 cnd (decide ((((a0).length : Int)) = (((a1).length : Int))))
  (bnd (l_spec_A2SamePieces_b0 n a0 a1 0) fun w => match w with
   | .inl _ =>
    some (true)
   | .inr u7_0 =>
    some ((u7_0)))
  (some (false))
def l_spec_SameShape_b0 : Nat → (Int) → (Int) → (List V) → (Int) → (List V) →  Option (Sum (Unit) (Bool))
 | 0, _, _, _, _, _ => none
 | n + 1, a0, a1, a2, a3, a4 =>
  cnd (decide ((a0) < (((a2).length : Int))))
   (bnd (bnd (idx (a2) (a0)) as_Pi16_i16Q) fun (e4_0, e4_1) =>
    bnd (bnd (idx (a4) (a0)) as_Pi16_i16Q) fun (e5_0, e5_1) =>
     cnd (eqParts [(V.int .i16 (e4_0)), (V.int .i16 (e4_1))] [(V.int .i16 (e5_0)), (V.int .i16 (e5_1))])
      (l_spec_SameShape_b0 n (IntKind.i64.wrap ((a0) + (1))) a1 a2 a3 a4)
      (some (.inr (false))))
   (some (.inl (())))
def s_spec_SameShape (n : Nat) (a0 : Int) (a1 : List V) (a2 : Int) (a3 : List V) : Option (Bool) :=
 cnd (decide ((a0) = (a2)))
  (cnd (decide ((((a1).length : Int)) = (((a3).length : Int))))
   (bnd (l_spec_SameShape_b0 n 0 a0 a1 a2 a3) fun w => match w with
    | .inl _ =>
     some (true)
    | .inr u8_0 =>
     some ((u8_0)))
   (some (false)))
  (some (false))
def s_impl_within_int64 (n : Nat) (a0 : Int) (a1 : Int) (a2 : Int) : Option (Bool) :=
 cnd (decide ((a1) ≤ (a0)))
  (some ((decide ((a0) ≤ (a2)))))
  (some (false))
def s_impl_PiecesIn (n : Nat) (a0 : Int) (a1 : List V) (a2 : Int) : Option (List V × Int) :=
 bnd (s_impl_ValidShape n a0 a1) fun y1_0 =>
  cnd (y1_0)
   (bnd (s_impl_within_int64 n a2 0 (IntKind.i64.wrap ((((a1).length : Int)) - (1)))) fun y3_0 =>
    cnd (y3_0)
     (bnd (s_impl_Shape_laid n a0 a1 a2) fun (y5_0, y5_1) =>
      some ((y5_1, 0)))
     (some ((([] : List V), 2))))
   (some ((([] : List V), 1)))
def s_spec_PiecesIn (n : Nat) (a0 : Int) (a1 : List V) (a2 : Int) : Option (List V × Int) :=
 bnd (s_spec_l05Ok n a0 a1) fun y1_0 =>
  cnd (y1_0)
   (bnd (s_spec_l00In n a2 0 (IntKind.i64.wrap ((((a1).length : Int)) - (1)))) fun y3_0 =>
    cnd (y3_0)
     (bnd (s_spec_l05Course n a0 a1 a2) fun (y5_0, y5_1) =>
      chk (plainV (V.tup [(V.int .i64 (y5_0)), (V.fresh 0 (y5_1))]))
       (some ((y5_1, 0))))
     (some (([], 2))))
   (some (([], 1)))
def s_impl_SlideShape (n : Nat) (a0 : Int) (a1 : List V) (a2 : Int) : Option (Int × List V × Int) :=
 bnd (s_impl_ValidShape n a0 a1) fun y1_0 =>
  cnd (y1_0)
   (bnd (s_impl_within_int64 n a2 (-200) 200) fun y3_0 =>
    cnd (y3_0)
     (bnd (s_impl_Shape_slid n a0 a1 (IntKind.i16.wrap (a2))) fun (y5_0, y5_1) =>
      bnd (s_impl_ValidShape n y5_0 y5_1) fun y6_0 =>
       cnd (y6_0)
        (some ((y5_0, y5_1, 0)))
        (some ((0, ([] : List V), 4))))
     (some ((0, ([] : List V), 2))))
   (some ((0, ([] : List V), 1)))
def s_spec_SlideShape (n : Nat) (a0 : Int) (a1 : List V) (a2 : Int) : Option (Int × List V × Int) :=
 bnd (s_spec_l05Ok n a0 a1) fun y1_0 =>
  cnd (y1_0)
   (bnd (s_spec_l00In n a2 (-200) 200) fun y3_0 =>
    cnd (y3_0)
     (bnd (s_spec_l05Slide n a0 a1 a2) fun (y5_0, y5_1, y5_2) =>
      chk (plainV (V.tup [(V.parts [(V.int .u8 (y5_0)), (V.fresh 0 (y5_1))]), (V.bool (y5_2))]))
       (cnd (y5_2)
        (some ((y5_0, y5_1, 0)))
        (some ((0, ([] : List V), 4)))))
     (some ((0, ([] : List V), 2))))
   (some ((0, ([] : List V), 1)))
def l_laws_FnCuts_b2 : Nat → (Int) → (Int) → (Int) → (Int) → (Int) → (Int) → (Int) → (List V) → (Int) → (List V) → (List V) → (List V) →  Option (Sum (Int × Int × Int × Int × Int × Int × List V × Int × List V × List V) (Bool))
 | 0, _, _, _, _, _, _, _, _, _, _, _, _ => none
 | n + 1, a0, a1, a2, a3, a4, a5, a6, a7, a8, a9, a10, a11 =>
  cnd (decide ((a5) < (((a9).length : Int))))
   (cnd (decide ((((a7).length : Int)) ≤ (a3)))
    (some (.inr (false)))
    (chk (inB (a3) (a7).length)
     (bnd (bnd (nth (a7) ((a3).toNat)) as_Pi8_i8Q) fun (e57_0, e57_1) =>
      chk (inB (a5) (a9).length)
       (bnd (bnd (nth (a9) ((a5).toNat)) as_Pi8_i8Q) fun (e59_0, e59_1) =>
        cnd (eqParts [(V.int .i8 (e57_0)), (V.int .i8 (e57_1))] [(V.int .i8 (e59_0)), (V.int .i8 (e59_1))])
         (bnd (bnd (nth (a9) ((a5).toNat)) as_Pi8_i8Q) fun (e61_0, e61_1) =>
          bnd (bnd (nth (a9) ((a5).toNat)) as_Pi8_i8Q) fun (e62_0, e62_1) =>
           cnd (decide ((e62_1) < (1)))
            (some (.inr (false)))
            (bnd (bnd (nth (a9) ((a5).toNat)) as_Pi8_i8Q) fun (e64_0, e64_1) =>
             bnd (bnd (nth (a9) ((a5).toNat)) as_Pi8_i8Q) fun (e65_0, e65_1) =>
              cnd (decide ((7) < (e65_1)))
               (some (.inr (false)))
               (bnd (bnd (nth (a9) ((a5).toNat)) as_Pi8_i8Q) fun (e67_0, e67_1) =>
                bnd (bnd (nth (a9) ((a5).toNat)) as_Pi8_i8Q) fun (e68_0, e68_1) =>
                 l_laws_FnCuts_b2 n a0 a1 (IntKind.i64.wrap ((a2) + (IntKind.i64.wrap (e68_1)))) (IntKind.i64.wrap ((a3) + (1))) a4 (IntKind.i64.wrap ((a5) + (1))) a6 a7 a8 a9 a10 a11)))
         (some (.inr (false)))))))
   (some (.inl ((a0, a1, a2, a3, a4, a6, a7, a8, a10, a11))))
def l_laws_FnCuts_b0 : Nat → (Int) → (Int) → (Int) → (Int) → (Int) → (Int) → (List V) → (Int) → (List V) → (List V) →  Option (Sum (Int × Int × Int × Int × Int × List V × Int × List V × List V) (Bool))
 | 0, _, _, _, _, _, _, _, _, _, _ => none
 | n + 1, a0, a1, a2, a3, a4, a5, a6, a7, a8, a9 =>
  cnd (decide ((a4) < (((a8).length : Int))))
   (bnd (s_impl_PiecesIn n a5 a8 a4) fun (y45_0, y45_1) =>
    chk (plainV (V.tup [(V.fresh 0 (y45_0)), (V.int .i64 (y45_1))]))
     (bnd (s_spec_PiecesIn n a5 a8 a4) fun (y47_0, y47_1) =>
      chk (plainV (V.tup [(V.fresh 0 (y47_0)), (V.int .i64 (y47_1))]))
       (cnd (decide ((y45_1) = (y47_1)))
        (cnd (decide ((y45_1) = (0)))
         (bnd (s_spec_A2SamePieces n y45_0 y47_0) fun y51_0 =>
          cnd (y51_0)
           (cnd (decide ((2) < (((y47_0).length : Int))))
            (some (.inr (false)))
            (bnd (l_laws_FnCuts_b2 n a0 a1 a2 a3 a4 0 a5 a6 a7 y47_0 a8 a9) fun w => match w with
             | .inl (u69_0, u69_1, u69_2, u69_3, u69_4, u69_5, u69_6, u69_7, u69_8, u69_9) =>
              l_laws_FnCuts_b0 n u69_0 u69_1 u69_2 u69_3 (IntKind.i64.wrap ((u69_4) + (1))) u69_5 u69_6 u69_7 u69_8 u69_9
             | .inr u70_0 =>
              some (.inr ((u70_0)))))
           (some (.inr (false))))
         (some (.inr (false))))
        (some (.inr (false))))))
   (some (.inl ((a0, a1, a2, a3, a5, a6, a7, a8, a9))))
def l_laws_FnCuts_b4 : Nat → (Int) → (Int) → (Int) → (Int) → (List V) →  Option (Sum (Unit) (Bool))
 | 0, _, _, _, _, _ => none
 | n + 1, a0, a1, a2, a3, a4 =>
  cnd (decide ((a2) < (8)))
   (bnd (s_impl_SlideShape n a3 a4 a2) fun (y90_0, y90_1, y90_2) =>
    chk (plainV (V.tup [(V.parts [(V.int .u8 (y90_0)), (V.fresh 0 (y90_1))]), (V.int .i64 (y90_2))]))
     (bnd (s_spec_SlideShape n a3 a4 a2) fun (y92_0, y92_1, y92_2) =>
      chk (plainV (V.tup [(V.parts [(V.int .u8 (y92_0)), (V.fresh 0 (y92_1))]), (V.int .i64 (y92_2))]))
       (cnd (decide ((y90_2) = (y92_2)))
        (bnd (s_spec_SameShape n y90_0 y90_1 y92_0 y92_1) fun y95_0 =>
         cnd (y95_0)
          (cnd (decide ((y90_2) = (0)))
           (bnd (s_impl_LeastTiles n y92_0 y92_1) fun (y98_0, y98_1) =>
            bnd (s_impl_SlideShape n y92_0 y92_1 (IntKind.i64.wrap (0 - (a2)))) fun (y99_0, y99_1, y99_2) =>
             chk (plainV (V.tup [(V.parts [(V.int .u8 (y99_0)), (V.fresh 0 (y99_1))]), (V.int .i64 (y99_2))]))
              (cnd (decide ((y98_1) = (0)))
               (cnd (decide ((y98_0) < (a1)))
                (some (.inr (false)))
                (cnd (decide ((y98_0) = (a1)))
                 (cnd (decide ((a2) < (a0)))
                  (some (.inr (false)))
                  (cnd (decide ((a2) = (a0)))
                   (cnd (decide ((y99_2) = (0)))
                    (bnd (s_spec_SameShape n y99_0 y99_1 a3 a4) fun y107_0 =>
                     cnd (y107_0)
                      (cnd (decide ((((y99_1).length : Int)) = (((a4).length : Int))))
                       (l_laws_FnCuts_b4 n a0 a1 (IntKind.i64.wrap ((a2) + (1))) a3 a4)
                       (some (.inr (false))))
                      (some (.inr (false))))
                    (some (.inr (false))))
                   (cnd (decide ((y99_2) = (0)))
                    (bnd (s_spec_SameShape n y99_0 y99_1 a3 a4) fun y111_0 =>
                     cnd (y111_0)
                      (cnd (decide ((((y99_1).length : Int)) = (((a4).length : Int))))
                       (l_laws_FnCuts_b4 n a0 a1 (IntKind.i64.wrap ((a2) + (1))) a3 a4)
                       (some (.inr (false))))
                      (some (.inr (false))))
                    (some (.inr (false))))))
                 (cnd (decide ((a2) = (a0)))
                  (some (.inr (false)))
                  (cnd (decide ((y99_2) = (0)))
                   (bnd (s_spec_SameShape n y99_0 y99_1 a3 a4) fun y116_0 =>
                    cnd (y116_0)
                     (cnd (decide ((((y99_1).length : Int)) = (((a4).length : Int))))
                      (l_laws_FnCuts_b4 n a0 a1 (IntKind.i64.wrap ((a2) + (1))) a3 a4)
                      (some (.inr (false))))
                     (some (.inr (false))))
                   (some (.inr (false)))))))
               (some (.inr (false)))))
           (cnd (decide ((y90_2) = (4)))
            (l_laws_FnCuts_b4 n a0 a1 (IntKind.i64.wrap ((a2) + (1))) a3 a4)
            (some (.inr (false)))))
          (some (.inr (false))))
        (some (.inr (false))))))
   (some (.inl (())))
def s_laws_FnCuts (n : Nat) (a0 : List V) (a1 : List V) : Option (Bool) :=
 bnd (s_laws_a2Long n a0 a1) fun y1_0 =>
  cnd (y1_0)
   (some (true))
   (bnd (s_spec_A2Shape n a0) fun (y3_0, y3_1) =>
    bnd (s_impl_AllPieces n y3_0 y3_1) fun (y4_0, y4_1) =>
     chk (plainV (V.tup [(V.fresh 0 (y4_0)), (V.int .i64 (y4_1))]))
      (bnd (s_spec_AllPieces n y3_0 y3_1) fun (y6_0, y6_1) =>
       chk (plainV (V.tup [(V.fresh 0 (y6_0)), (V.int .i64 (y6_1))]))
        (bnd (s_impl_WholeIn n y3_0 y3_1) fun (y8_0, y8_1) =>
         bnd (s_impl_UnitsOf n y3_0 y3_1) fun (y9_0, y9_1) =>
          bnd (s_impl_LeastTiles n y3_0 y3_1) fun (y10_0, y10_1) =>
           bnd (s_spec_LeastTiles n y3_0 y3_1) fun (y11_0, y11_1) =>
            bnd (s_impl_WasteOf n y3_0 y3_1) fun (y12_0, y12_1) =>
             bnd (s_impl_TilesFor n y6_0) fun (y13_0, y13_1) =>
              bnd (s_impl_MirrorShape n y3_0 y3_1) fun (y14_0, y14_1, y14_2) =>
               chk (plainV (V.tup [(V.parts [(V.int .u8 (y14_0)), (V.fresh 0 (y14_1))]), (V.int .i64 (y14_2))]))
                (bnd (s_spec_MirrorShape n y3_0 y3_1) fun (y16_0, y16_1, y16_2) =>
                 chk (plainV (V.tup [(V.parts [(V.int .u8 (y16_0)), (V.fresh 0 (y16_1))]), (V.int .i64 (y16_2))]))
                  (bnd (s_impl_LeastTiles n y16_0 y16_1) fun (y18_0, y18_1) =>
                   cnd (decide ((y4_1) = (y6_1)))
                    (cnd (decide ((y4_1) = (0)))
                     (bnd (s_spec_A2SamePieces n y4_0 y6_0) fun y21_0 =>
                      cnd (y21_0)
                       (cnd (decide ((y8_1) = (0)))
                        (cnd (decide ((y9_1) = (0)))
                         (cnd (decide ((y10_1) = (y11_1)))
                          (cnd (decide ((y10_1) = (0)))
                           (cnd (decide ((y10_0) = (y11_0)))
                            (cnd (decide ((y12_1) = (0)))
                             (cnd (decide ((y13_1) = (0)))
                              (cnd (decide ((y14_2) = (y16_2)))
                               (cnd (decide ((y14_2) = (0)))
                                (bnd (s_spec_SameShape n y14_0 y14_1 y16_0 y16_1) fun y32_0 =>
                                 cnd (y32_0)
                                  (bnd (s_impl_ValidShape n y16_0 y16_1) fun y34_0 =>
                                   cnd (y34_0)
                                    (bnd (s_impl_ValidShape n y3_0 y3_1) fun y36_0 =>
                                     cnd (y36_0)
                                      (cnd (decide ((y18_1) = (0)))
                                       (cnd (decide ((y18_0) = (y11_0)))
                                        (cnd (decide ((y11_0) = (IntKind.i64.wrap ((y8_0) + (y13_0)))))
                                         (cnd (decide ((y12_0) = (IntKind.i64.wrap ((IntKind.i64.wrap ((8) * (y11_0))) - (y9_0)))))
                                          (cnd (decide ((y12_0) < (0)))
                                           (some (false))
                                           (cnd (decide ((y11_0) < (1)))
                                            (some (false))
                                            (bnd (l_laws_FnCuts_b0 n y9_0 y11_0 (IntKind.i64.wrap ((8) * (y8_0))) 0 0 y3_0 y6_0 y16_0 y3_1 y16_1) fun w => match w with
                                             | .inl (u72_0, u72_1, u72_2, u72_3, u72_4, u72_5, u72_6, u72_7, u72_8) =>
                                              bnd (s_impl_MirrorShape n u72_6 u72_8) fun (y74_0, y74_1, y74_2) =>
                                               chk (plainV (V.tup [(V.parts [(V.int .u8 (y74_0)), (V.fresh 0 (y74_1))]), (V.int .i64 (y74_2))]))
                                                (cnd (decide ((u72_2) = (u72_0)))
                                                 (cnd (decide ((u72_3) = (((u72_5).length : Int))))
                                                  (cnd (decide ((y74_2) = (0)))
                                                   (bnd (s_spec_SameShape n y74_0 y74_1 u72_4 u72_7) fun y79_0 =>
                                                    cnd (y79_0)
                                                     (cnd (decide ((((y74_1).length : Int)) = (((u72_7).length : Int))))
                                                      (bnd (s_impl_BestSlide n u72_4 u72_7) fun (y82_0, y82_1, y82_2) =>
                                                       bnd (s_spec_BestSlide n u72_4 u72_7) fun (y83_0, y83_1, y83_2) =>
                                                        cnd (decide ((y82_2) = (y83_2)))
                                                         (cnd (decide ((y82_2) = (0)))
                                                          (cnd (decide ((y82_0) = (y83_0)))
                                                           (cnd (decide ((y82_1) = (y83_1)))
                                                            (cnd (decide ((u72_1) < (y83_1)))
                                                             (some (false))
                                                             (bnd (l_laws_FnCuts_b4 n y83_0 y83_1 0 u72_4 u72_7) fun w => match w with
                                                              | .inl _ =>
                                                               some (true)
                                                              | .inr u121_0 =>
                                                               some ((u121_0))))
                                                            (some (false)))
                                                           (some (false)))
                                                          (some (false)))
                                                         (some (false)))
                                                      (some (false)))
                                                     (some (false)))
                                                   (some (false)))
                                                  (some (false)))
                                                 (some (false)))
                                             | .inr u122_0 =>
                                              some ((u122_0)))))
                                          (some (false)))
                                         (some (false)))
                                        (some (false)))
                                       (some (false)))
                                      (some (false)))
                                    (some (false)))
                                  (some (false)))
                                (some (false)))
                               (some (false)))
                              (some (false)))
                             (some (false)))
                            (some (false)))
                           (some (false)))
                          (some (false)))
                         (some (false)))
                        (some (false)))
                       (some (false)))
                     (some (false)))
                    (some (false)))))))
end Go.Proofs.Ytbejaalnnnogoaa
