/- What functions of the program answer, in plain Lean: printed by gen.py out of the program. -/
import Derived.Test.YtbejaalnnnogoaaRg1
namespace Go.Proofs.Ytbejaalnnnogoaa
open Go
set_option linter.unusedVariables false
set_option linter.unusedSimpArgs false
def as_LPi8_i8Q : V → Option (List V)
 | (V.sl (e0)) => some e0
 | _ => none
theorem as_LPi8_i8Q_some {x : Option V} {e0 : List V} (h : bnd x as_LPi8_i8Q = some e0) : x = some (V.sl (e0)) := by
  obtain ⟨v, rfl, k⟩ := bnd_some h
  unfold as_LPi8_i8Q at k
  split at k
  · simp only [Option.some.injEq, Prod.mk.injEq] at k
    obtain rfl := k
    rfl
  · cases k
def as_Pi16_i16Q : V → Option (Int × Int)
 | (V.parts [(V.int .i16 (e0)), (V.int .i16 (e1))]) => some (e0, e1)
 | _ => none
theorem as_Pi16_i16Q_some {x : Option V} {e0 : Int} {e1 : Int} (h : bnd x as_Pi16_i16Q = some (e0, e1)) : x = some (V.parts [(V.int .i16 (e0)), (V.int .i16 (e1))]) := by
  obtain ⟨v, rfl, k⟩ := bnd_some h
  unfold as_Pi16_i16Q at k
  split at k
  · simp only [Option.some.injEq, Prod.mk.injEq] at k
    obtain ⟨rfl, rfl⟩ := k
    rfl
  · cases k
def as_Pi8_i8Q : V → Option (Int × Int)
 | (V.parts [(V.int .i8 (e0)), (V.int .i8 (e1))]) => some (e0, e1)
 | _ => none
theorem as_Pi8_i8Q_some {x : Option V} {e0 : Int} {e1 : Int} (h : bnd x as_Pi8_i8Q = some (e0, e1)) : x = some (V.parts [(V.int .i8 (e0)), (V.int .i8 (e1))]) := by
  obtain ⟨v, rfl, k⟩ := bnd_some h
  unfold as_Pi8_i8Q at k
  split at k
  · simp only [Option.some.injEq, Prod.mk.injEq] at k
    obtain ⟨rfl, rfl⟩ := k
    rfl
  · cases k
def as_b : V → Option (Bool)
 | (V.bool (e0)) => some e0
 | _ => none
theorem as_b_some {x : Option V} {e0 : Bool} (h : bnd x as_b = some e0) : x = some (V.bool (e0)) := by
  obtain ⟨v, rfl, k⟩ := bnd_some h
  unfold as_b at k
  split at k
  · simp only [Option.some.injEq, Prod.mk.injEq] at k
    obtain rfl := k
    rfl
  · cases k
def as_i64 : V → Option (Int)
 | (V.int .i64 (e0)) => some e0
 | _ => none
theorem as_i64_some {x : Option V} {e0 : Int} (h : bnd x as_i64 = some e0) : x = some (V.int .i64 (e0)) := by
  obtain ⟨v, rfl, k⟩ := bnd_some h
  unfold as_i64 at k
  split at k
  · simp only [Option.some.injEq, Prod.mk.injEq] at k
    obtain rfl := k
    rfl
  · cases k
def s_laws_szSpanS (n : Nat) (a0 : List V) (a1 : Int) : Option (Int) :=
 cnd (decide ((IntKind.i64.wrap ((a1) - (((a0).length : Int)))) < (0)))
  (some (-1))
  (some (IntKind.i64.wrap ((a1) - (((a0).length : Int)))))
def s_laws_szShape (n : Nat) (a0 : Int) (a1 : List V) (a2 : Int) : Option (Int) :=
 bnd (s_laws_szSpanS n a1 a2) fun y1_0 =>
  cnd (decide ((y1_0) < (0)))
   (some (-1))
   (some (y1_0))
def s_laws_toSpan (n : Nat) (a0 : Int) (a1 : Int) : Option (Int × Int) :=
 some ((a0, a1))
def l_laws_toSpanS_b0 : Nat → (List V) → (Int) → (List V) →  Option (List V)
 | 0, _, _, _ => none
 | n + 1, a0, a1, a2 =>
  cnd (decide ((a1) < (((a0).length : Int))))
   (bnd (bnd (idx (a0) (a1)) as_Pi16_i16Q) fun (e3_0, e3_1) =>
    bnd (s_laws_toSpan n e3_0 e3_1) fun (y4_0, y4_1) =>
     chk (inB (a1) (a2).length)
      (bnd (bnd (nth (a2) ((a1).toNat)) as_Pi16_i16Q) fun (e6_0, e6_1) =>
       l_laws_toSpanS_b0 n a0 (IntKind.i64.wrap ((a1) + (1))) (setNth (a2) ((a1).toNat) (V.parts [(V.int .i16 (y4_0)), (V.int .i16 (y4_1))]))))
   (some (a2))
def s_laws_toSpanS (n : Nat) (a0 : List V) : Option (List V) :=
 chk (decide (((a0).length : Int) = ((a0).length : Int)) && decide (0 ≤ ((a0).length : Int)) && decide ((((a0).length : Int)).toNat * 4 ≤ 140737488355328))
  (bnd (l_laws_toSpanS_b0 n a0 0 (List.replicate (((a0).length : Int)).toNat (V.parts [(V.int .i16 (0)), (V.int .i16 (0))]))) fun u7_0 =>
   some (u7_0))
def s_laws_toShape (n : Nat) (a0 : Int) (a1 : List V) : Option (Int × List V) :=
 bnd (s_laws_toSpanS n a1) fun y1_0 =>
  some ((a0, y1_0))
def s_spec_l00In (n : Nat) (a0 : Int) (a1 : Int) (a2 : Int) : Option (Bool) :=
 cnd (decide ((a1) ≤ (a0)))
  (some ((decide ((a0) ≤ (a2)))))
  (some (false))
def l_spec_l05Ok_b0 : Nat → (Int) → (List V) → (Int) →  Option (Sum (Int × List V) (Bool))
 | 0, _, _, _ => none
 | n + 1, a0, a1, a2 =>
  cnd (decide ((a2) < (((a1).length : Int))))
   (bnd (bnd (idx (a1) (a2)) as_Pi16_i16Q) fun (e2_0, e2_1) =>
    cnd (decide ((e2_0) < (0)))
     (some (.inr (false)))
     (cnd (decide ((e2_1) ≤ (e2_0)))
      (some (.inr (false)))
      (cnd (decide ((200) < (e2_1)))
       (some (.inr (false)))
       (l_spec_l05Ok_b0 n a0 a1 (IntKind.i64.wrap ((a2) + (1)))))))
   (some (.inl ((a0, a1))))
def s_spec_l05Ok (n : Nat) (a0 : Int) (a1 : List V) : Option (Bool) :=
 bnd (l_spec_l05Ok_b0 n a0 a1 0) fun w => match w with
  | .inl (u6_0, u6_1) =>
   bnd (s_spec_l00In n (((u6_1).length : Int)) 1 12) fun y8_0 =>
    cnd (y8_0)
     (some ((decide ((u6_0) ≤ (1)))))
     (some (false))
  | .inr u9_0 =>
   some ((u9_0))
def s_spec_l00Max (n : Nat) (a0 : Int) (a1 : Int) : Option (Int) :=
 cnd (decide ((a1) < (a0)))
  (some (a0))
  (some (a1))
def s_spec_l00Min (n : Nat) (a0 : Int) (a1 : Int) : Option (Int) :=
 cnd (decide ((a0) < (a1)))
  (some (a0))
  (some (a1))
def l_spec_l05Course_b0 : Nat → (Int) → (Int) → (Int) → (Int) → (List V) →  Option (Int × List V)
 | 0, _, _, _, _, _ => none
 | n + 1, a0, a1, a2, a3, a4 =>
  cnd (decide ((a3) < (a1)))
   (bnd (s_spec_l00Max n a3 a0) fun y4_0 =>
    bnd (s_spec_l00Min n (IntKind.i64.wrap ((a3) + (8))) a1) fun y5_0 =>
     cnd (decide ((y5_0) ≤ (y4_0)))
      (l_spec_l05Course_b0 n a0 a1 a2 (IntKind.i64.wrap ((a3) + (8))) a4)
      (cnd (decide ((y4_0) = (a3)))
       (cnd (decide ((y5_0) = (IntKind.i64.wrap ((a3) + (8)))))
        (l_spec_l05Course_b0 n a0 a1 (IntKind.i64.wrap ((a2) + (1))) (IntKind.i64.wrap ((a3) + (8))) a4)
        (cnd (decide ((a3) < (y4_0)))
         (cnd (decide ((y5_0) < (IntKind.i64.wrap ((a3) + (8)))))
          (chk (decide (((a4).length + ([(V.parts [(V.int .i8 (2)), (V.int .i8 (IntKind.i8.wrap (IntKind.i64.wrap ((y5_0) - (y4_0)))))])]).length) * 2 ≤ 140737488355328))
           (l_spec_l05Course_b0 n a0 a1 a2 (IntKind.i64.wrap ((a3) + (8))) (a4 ++ ([(V.parts [(V.int .i8 (2)), (V.int .i8 (IntKind.i8.wrap (IntKind.i64.wrap ((y5_0) - (y4_0)))))])]))))
          (chk (decide (((a4).length + ([(V.parts [(V.int .i8 (1)), (V.int .i8 (IntKind.i8.wrap (IntKind.i64.wrap ((y5_0) - (y4_0)))))])]).length) * 2 ≤ 140737488355328))
           (l_spec_l05Course_b0 n a0 a1 a2 (IntKind.i64.wrap ((a3) + (8))) (a4 ++ ([(V.parts [(V.int .i8 (1)), (V.int .i8 (IntKind.i8.wrap (IntKind.i64.wrap ((y5_0) - (y4_0)))))])])))))
         (chk (decide (((a4).length + ([(V.parts [(V.int .i8 (0)), (V.int .i8 (IntKind.i8.wrap (IntKind.i64.wrap ((y5_0) - (y4_0)))))])]).length) * 2 ≤ 140737488355328))
          (l_spec_l05Course_b0 n a0 a1 a2 (IntKind.i64.wrap ((a3) + (8))) (a4 ++ ([(V.parts [(V.int .i8 (0)), (V.int .i8 (IntKind.i8.wrap (IntKind.i64.wrap ((y5_0) - (y4_0)))))])]))))))
       (cnd (decide ((a3) < (y4_0)))
        (cnd (decide ((y5_0) < (IntKind.i64.wrap ((a3) + (8)))))
         (chk (decide (((a4).length + ([(V.parts [(V.int .i8 (2)), (V.int .i8 (IntKind.i8.wrap (IntKind.i64.wrap ((y5_0) - (y4_0)))))])]).length) * 2 ≤ 140737488355328))
          (l_spec_l05Course_b0 n a0 a1 a2 (IntKind.i64.wrap ((a3) + (8))) (a4 ++ ([(V.parts [(V.int .i8 (2)), (V.int .i8 (IntKind.i8.wrap (IntKind.i64.wrap ((y5_0) - (y4_0)))))])]))))
         (chk (decide (((a4).length + ([(V.parts [(V.int .i8 (1)), (V.int .i8 (IntKind.i8.wrap (IntKind.i64.wrap ((y5_0) - (y4_0)))))])]).length) * 2 ≤ 140737488355328))
          (l_spec_l05Course_b0 n a0 a1 a2 (IntKind.i64.wrap ((a3) + (8))) (a4 ++ ([(V.parts [(V.int .i8 (1)), (V.int .i8 (IntKind.i8.wrap (IntKind.i64.wrap ((y5_0) - (y4_0)))))])])))))
        (chk (decide (((a4).length + ([(V.parts [(V.int .i8 (0)), (V.int .i8 (IntKind.i8.wrap (IntKind.i64.wrap ((y5_0) - (y4_0)))))])]).length) * 2 ≤ 140737488355328))
         (l_spec_l05Course_b0 n a0 a1 a2 (IntKind.i64.wrap ((a3) + (8))) (a4 ++ ([(V.parts [(V.int .i8 (0)), (V.int .i8 (IntKind.i8.wrap (IntKind.i64.wrap ((y5_0) - (y4_0)))))])])))))))
   (some ((a2, a4)))
def s_spec_l05Course (n : Nat) (a0 : Int) (a1 : List V) (a2 : Int) : Option (Int × List V) :=
 bnd (bnd (idx (a1) (a2)) as_Pi16_i16Q) fun (e1_0, e1_1) =>
  bnd (bnd (idx (a1) (a2)) as_Pi16_i16Q) fun (e2_0, e2_1) =>
   bnd (l_spec_l05Course_b0 n (IntKind.i64.wrap (e1_0)) (IntKind.i64.wrap (e2_1)) 0 (IntKind.i64.wrap ((IntKind.i64.wrap ((4) * ((IntKind.i64.wrap ((a2) + (IntKind.i64.wrap (a0)))).tmod (2)))) - (8))) ([])) fun (u19_0, u19_1) =>
    some ((u19_0, u19_1))
def l_spec_l05All_b0 : Nat → (Int) → (List V) → (Int) → (List V) →  Option (List V)
 | 0, _, _, _, _ => none
 | n + 1, a0, a1, a2, a3 =>
  cnd (decide ((a2) < (((a1).length : Int))))
   (bnd (s_spec_l05Course n a0 a1 a2) fun (y2_0, y2_1) =>
    chk (decide (((a3).length + (y2_1).length) * 2 ≤ 140737488355328))
     (l_spec_l05All_b0 n a0 a1 (IntKind.i64.wrap ((a2) + (1))) (a3 ++ y2_1)))
   (some (a3))
def s_spec_l05All (n : Nat) (a0 : Int) (a1 : List V) : Option (List V) :=
 bnd (l_spec_l05All_b0 n a0 a1 0 ([])) fun u4_0 =>
  some (u4_0)
def l_spec_l05Order_b2 : Nat → (List V) → (Int) → (Int) → (List V) →  Option (List V × Int × List V)
 | 0, _, _, _, _ => none
 | n + 1, a0, a1, a2, a3 =>
  cnd (decide ((a2) < (((a0).length : Int))))
   (bnd (bnd (idx (a0) (a2)) as_Pi8_i8Q) fun (e3_0, e3_1) =>
    cnd (decide ((e3_1) = (a1)))
     (chk (decide (((a3).length + ([(V.int .i64 (a2))]).length) * 8 ≤ 140737488355328))
      (l_spec_l05Order_b2 n a0 a1 (IntKind.i64.wrap ((a2) + (1))) (a3 ++ ([(V.int .i64 (a2))]))))
     (l_spec_l05Order_b2 n a0 a1 (IntKind.i64.wrap ((a2) + (1))) a3))
   (some ((a0, a1, a3)))
def l_spec_l05Order_b0 : Nat → (List V) → (Int) → (List V) →  Option (List V)
 | 0, _, _, _ => none
 | n + 1, a0, a1, a2 =>
  cnd (decide ((0) ≤ (a1)))
   (bnd (l_spec_l05Order_b2 n a0 a1 0 a2) fun (u6_0, u6_1, u6_2) =>
    l_spec_l05Order_b0 n u6_0 (IntKind.i8.wrap ((u6_1) - (1))) u6_2)
   (some (a2))
def s_spec_l05Order (n : Nat) (a0 : List V) : Option (List V) :=
 bnd (l_spec_l05Order_b0 n a0 8 ([])) fun u8_0 =>
  some (u8_0)
def l_spec_l05Pairs_b2 : Nat → (List V) → (Int) → (Int) → (Int) → (List V) → (List V) → (List V) →  Option (List V × Int × List V × List V × List V)
 | 0, _, _, _, _, _, _, _ => none
 | n + 1, a0, a1, a2, a3, a4, a5, a6 =>
  cnd (decide ((a3) < (((a6).length : Int))))
   (chk (inB (a3) (a6).length)
    (bnd (bnd (nth (a6) ((a3).toNat)) as_i64) fun e10_0 =>
     bnd (bnd (idx (a0) (e10_0)) as_Pi8_i8Q) fun (e11_0, e11_1) =>
      cnd (decide ((e11_0) = (1)))
       (chk (inB (e10_0) (a5).length)
        (bnd (bnd (nth (a5) ((e10_0).toNat)) as_b) fun e14_0 =>
         cnd (e14_0)
          (l_spec_l05Pairs_b2 n a0 a1 a2 (IntKind.i64.wrap ((a3) + (1))) a4 a5 a6)
          (bnd (bnd (idx (a0) (a2)) as_Pi8_i8Q) fun (e16_0, e16_1) =>
           bnd (bnd (idx (a0) (e10_0)) as_Pi8_i8Q) fun (e17_0, e17_1) =>
            cnd (decide ((IntKind.i8.wrap ((e16_1) + (e17_1))) ≤ (8)))
             (bnd (bnd (nth (a5) ((e10_0).toNat)) as_b) fun e19_0 =>
              chk (decide (((a4).length + ([(V.sl ([(V.int .i64 (a2)), (V.int .i64 (e10_0))]))]).length) * 24 ≤ 140737488355328))
               (some ((a0, a1, a4 ++ ([(V.sl ([(V.int .i64 (a2)), (V.int .i64 (e10_0))]))]), setNth (a5) ((e10_0).toNat) (V.bool true), a6))))
             (l_spec_l05Pairs_b2 n a0 a1 a2 (IntKind.i64.wrap ((a3) + (1))) a4 a5 a6))))
       (l_spec_l05Pairs_b2 n a0 a1 a2 (IntKind.i64.wrap ((a3) + (1))) a4 a5 a6)))
   (some ((a0, a1, a4, a5, a6)))
def l_spec_l05Pairs_b0 : Nat → (List V) → (Int) → (List V) → (List V) → (List V) →  Option (List V)
 | 0, _, _, _, _, _ => none
 | n + 1, a0, a1, a2, a3, a4 =>
  cnd (decide ((a1) < (((a4).length : Int))))
   (chk (inB (a1) (a4).length)
    (bnd (bnd (nth (a4) ((a1).toNat)) as_i64) fun e5_0 =>
     bnd (bnd (idx (a0) (e5_0)) as_Pi8_i8Q) fun (e6_0, e6_1) =>
      cnd (decide ((e6_0) = (0)))
       (bnd (l_spec_l05Pairs_b2 n a0 a1 e5_0 0 a2 a3 a4) fun (u21_0, u21_1, u21_2, u21_3, u21_4) =>
        l_spec_l05Pairs_b0 n u21_0 (IntKind.i64.wrap ((u21_1) + (1))) u21_2 u21_3 u21_4)
       (l_spec_l05Pairs_b0 n a0 (IntKind.i64.wrap ((a1) + (1))) a2 a3 a4)))
   (some (a2))
def s_spec_l05Pairs (n : Nat) (a0 : List V) : Option (List V) :=
 chk (decide (((a0).length : Int) = ((a0).length : Int)) && decide (0 ≤ ((a0).length : Int)) && decide ((((a0).length : Int)).toNat * 1 ≤ 140737488355328))
  (bnd (s_spec_l05Order n a0) fun y2_0 =>
   bnd (l_spec_l05Pairs_b0 n a0 0 ([]) (List.replicate (((a0).length : Int)).toNat (V.bool false)) y2_0) fun u23_0 =>
    some (u23_0))
def s_spec_l05Tiles (n : Nat) (a0 : List V) : Option (Int) :=
 bnd (s_spec_l05Pairs n a0) fun y1_0 =>
  some (IntKind.i64.wrap ((((a0).length : Int)) - (((y1_0).length : Int))))
def l_spec_l05Least_b0 : Nat → (Int) → (List V) → (Int) → (Int) →  Option (Int)
 | 0, _, _, _, _ => none
 | n + 1, a0, a1, a2, a3 =>
  cnd (decide ((a3) < (((a1).length : Int))))
   (bnd (s_spec_l05Course n a0 a1 a3) fun (y4_0, y4_1) =>
    l_spec_l05Least_b0 n a0 a1 (IntKind.i64.wrap ((a2) + (y4_0))) (IntKind.i64.wrap ((a3) + (1))))
   (some (a2))
def s_spec_l05Least (n : Nat) (a0 : Int) (a1 : List V) : Option (Int) :=
 bnd (s_spec_l05All n a0 a1) fun y1_0 =>
  bnd (s_spec_l05Tiles n y1_0) fun y2_0 =>
   bnd (l_spec_l05Least_b0 n a0 a1 y2_0 0) fun u5_0 =>
    some (u5_0)
def s_spec_LeastTiles (n : Nat) (a0 : Int) (a1 : List V) : Option (Int × Int) :=
 bnd (s_spec_l05Ok n a0 a1) fun y1_0 =>
  cnd (y1_0)
   (bnd (s_spec_l05Least n a0 a1) fun y3_0 =>
    some ((y3_0, 0)))
   (some ((0, 1)))
def s_impl_within_int (n : Nat) (a0 : Int) (a1 : Int) (a2 : Int) : Option (Bool) :=
 cnd (decide ((a1) ≤ (a0)))
  (some ((decide ((a0) ≤ (a2)))))
  (some (false))
def s_impl_ValidShape_1 (n : Nat) (a0 : Int) (a1 : Int) : Option (Bool) :=
 cnd (decide ((0) ≤ (a0)))
  (cnd (decide ((a0) < (a1)))
   (some ((decide ((a1) ≤ (200)))))
   (some (false)))
  (some (false))
def s_aaSp (n : Nat) (a0 : Int) (a1 : Int) : Option (Bool) :=
 bnd (s_impl_ValidShape_1 n a0 a1) fun y1_0 =>
  some ((!(y1_0)))
def l_ixSp_b0 : Nat → (List V) → (Int) → (Int) →  Option (Sum (Unit) (Int))
 | 0, _, _, _ => none
 | n + 1, a0, a1, a2 =>
  cnd (decide ((a2) < (a1)))
   (bnd (bnd (idx (a0) (a2)) as_Pi16_i16Q) fun (e2_0, e2_1) =>
    bnd (s_aaSp n e2_0 e2_1) fun y3_0 =>
     cnd (y3_0)
      (some (.inr (a2)))
      (l_ixSp_b0 n a0 a1 (IntKind.i64.wrap ((a2) + (1)))))
   (some (.inl (())))
def s_ixSp (n : Nat) (a0 : List V) : Option (Int) :=
 bnd (l_ixSp_b0 n a0 (((a0).length : Int)) 0) fun w => match w with
  | .inl _ =>
   some (-1)
  | .inr u6_0 =>
   some (u6_0)
def s_cnSp (n : Nat) (a0 : List V) : Option (Bool) :=
 bnd (s_ixSp n a0) fun y1_0 =>
  some ((decide ((0) ≤ (y1_0))))
def s_impl_areAll_impl_Span__ValidShape_1 (n : Nat) (a0 : List V) : Option (Bool) :=
 bnd (s_cnSp n a0) fun y1_0 =>
  some ((!(y1_0)))
def s_impl_ValidShape (n : Nat) (a0 : Int) (a1 : List V) : Option (Bool) :=
 cnd (decide ((a0) ≤ (1)))
  (bnd (s_impl_within_int n (((a1).length : Int)) 1 12) fun y2_0 =>
   cnd (y2_0)
    (bnd (s_impl_areAll_impl_Span__ValidShape_1 n a1) fun y4_0 =>
     some ((y4_0)))
    (some (false)))
  (some (false))
def l_impl_upTo_b0 : Nat → (Int) → (Int) → (List V) →  Option (List V)
 | 0, _, _, _ => none
 | n + 1, a0, a1, a2 =>
  cnd (decide ((a1) < (a0)))
   (chk (decide (((a2).length + ([(V.int .i64 (a1))]).length) * 8 ≤ 140737488355328))
    (l_impl_upTo_b0 n a0 (IntKind.i64.wrap ((a1) + (1))) (a2 ++ ([(V.int .i64 (a1))]))))
   (some (a2))
def s_impl_upTo (n : Nat) (a0 : Int) : Option (List V) :=
 bnd (l_impl_upTo_b0 n a0 0 (([] : List V))) fun u3_0 =>
  some (u3_0)
def l_impl_Shape_laid_b0 : Nat → (Int) → (Int) → (Int) → (Int) → (List V) →  Option (Int × List V)
 | 0, _, _, _, _, _ => none
 | n + 1, a0, a1, a2, a3, a4 =>
  cnd (decide ((a1) < (a3)))
   (cnd (decide ((IntKind.i16.wrap ((a1) + (8))) ≤ (a2)))
    (l_impl_Shape_laid_b0 n a0 (IntKind.i16.wrap ((a1) + (8))) a2 a3 a4)
    (cnd (decide ((a2) ≤ (a1)))
     (cnd (decide ((IntKind.i16.wrap ((a1) + (8))) ≤ (a3)))
      (l_impl_Shape_laid_b0 n (IntKind.i64.wrap ((a0) + (1))) (IntKind.i16.wrap ((a1) + (8))) a2 a3 a4)
      (cnd (decide ((a1) < (a2)))
       (cnd (decide ((a3) < (IntKind.i16.wrap ((a1) + (8)))))
        (chk (decide (((a4).length + ([(V.parts [(V.int .i8 (2)), (V.int .i8 (IntKind.i8.wrap (IntKind.i16.wrap ((a3) - (a2)))))])]).length) * 2 ≤ 140737488355328))
         (l_impl_Shape_laid_b0 n a0 (IntKind.i16.wrap ((a1) + (8))) a2 a3 (a4 ++ ([(V.parts [(V.int .i8 (2)), (V.int .i8 (IntKind.i8.wrap (IntKind.i16.wrap ((a3) - (a2)))))])]))))
        (chk (decide (((a4).length + ([(V.parts [(V.int .i8 (1)), (V.int .i8 (IntKind.i8.wrap (IntKind.i16.wrap ((IntKind.i16.wrap ((a1) + (8))) - (a2)))))])]).length) * 2 ≤ 140737488355328))
         (l_impl_Shape_laid_b0 n a0 (IntKind.i16.wrap ((a1) + (8))) a2 a3 (a4 ++ ([(V.parts [(V.int .i8 (1)), (V.int .i8 (IntKind.i8.wrap (IntKind.i16.wrap ((IntKind.i16.wrap ((a1) + (8))) - (a2)))))])])))))
       (chk (decide (((a4).length + ([(V.parts [(V.int .i8 (0)), (V.int .i8 (IntKind.i8.wrap (IntKind.i16.wrap ((a3) - (a1)))))])]).length) * 2 ≤ 140737488355328))
        (l_impl_Shape_laid_b0 n a0 (IntKind.i16.wrap ((a1) + (8))) a2 a3 (a4 ++ ([(V.parts [(V.int .i8 (0)), (V.int .i8 (IntKind.i8.wrap (IntKind.i16.wrap ((a3) - (a1)))))])]))))))
     (cnd (decide ((a1) < (a2)))
      (cnd (decide ((a3) < (IntKind.i16.wrap ((a1) + (8)))))
       (chk (decide (((a4).length + ([(V.parts [(V.int .i8 (2)), (V.int .i8 (IntKind.i8.wrap (IntKind.i16.wrap ((a3) - (a2)))))])]).length) * 2 ≤ 140737488355328))
        (l_impl_Shape_laid_b0 n a0 (IntKind.i16.wrap ((a1) + (8))) a2 a3 (a4 ++ ([(V.parts [(V.int .i8 (2)), (V.int .i8 (IntKind.i8.wrap (IntKind.i16.wrap ((a3) - (a2)))))])]))))
       (chk (decide (((a4).length + ([(V.parts [(V.int .i8 (1)), (V.int .i8 (IntKind.i8.wrap (IntKind.i16.wrap ((IntKind.i16.wrap ((a1) + (8))) - (a2)))))])]).length) * 2 ≤ 140737488355328))
        (l_impl_Shape_laid_b0 n a0 (IntKind.i16.wrap ((a1) + (8))) a2 a3 (a4 ++ ([(V.parts [(V.int .i8 (1)), (V.int .i8 (IntKind.i8.wrap (IntKind.i16.wrap ((IntKind.i16.wrap ((a1) + (8))) - (a2)))))])])))))
      (chk (decide (((a4).length + ([(V.parts [(V.int .i8 (0)), (V.int .i8 (IntKind.i8.wrap (IntKind.i16.wrap ((a3) - (a1)))))])]).length) * 2 ≤ 140737488355328))
       (l_impl_Shape_laid_b0 n a0 (IntKind.i16.wrap ((a1) + (8))) a2 a3 (a4 ++ ([(V.parts [(V.int .i8 (0)), (V.int .i8 (IntKind.i8.wrap (IntKind.i16.wrap ((a3) - (a1)))))])])))))))
   (some ((a0, a4)))
def s_impl_Shape_laid (n : Nat) (a0 : Int) (a1 : List V) (a2 : Int) : Option (Int × List V) :=
 bnd (bnd (idx (a1) (a2)) as_Pi16_i16Q) fun (e1_0, e1_1) =>
  bnd (l_impl_Shape_laid_b0 n 0 (IntKind.i16.wrap ((IntKind.i16.wrap (IntKind.i64.wrap (((IntKind.i64.wrap ((a2) + (IntKind.i64.wrap (a0)))).tmod (2)) * (4)))) - (8))) e1_0 e1_1 (([] : List V))) fun (u16_0, u16_1) =>
   some ((u16_0, u16_1))
def s_impl_Shape_whole_1 (n : Nat) (a0 : Int) (a1 : Int) (a2 : List V) : Option (Int) :=
 bnd (s_impl_Shape_laid n a1 a2 a0) fun (y1_0, y1_1) =>
  some (y1_0)
def l_eaWh_b0 : Nat → (Int) → (List V) → (List V) → (Int) → (Int) → (List V) →  Option (List V)
 | 0, _, _, _, _, _, _ => none
 | n + 1, a0, a1, a2, a3, a4, a5 =>
  cnd (decide ((a4) < (a3)))
   (bnd (bnd (idx (a2) (a4)) as_i64) fun e2_0 =>
    bnd (s_impl_Shape_whole_1 n e2_0 a0 a1) fun y3_0 =>
     chk (decide (((a5).length + ([(V.int .i64 (y3_0))]).length) * 8 ≤ 140737488355328))
      (l_eaWh_b0 n a0 a1 a2 a3 (IntKind.i64.wrap ((a4) + (1))) (a5 ++ ([(V.int .i64 (y3_0))]))))
   (some (a5))
def s_eaWh (n : Nat) (a0 : List V) (a1 : Int) (a2 : List V) : Option (List V) :=
 bnd (l_eaWh_b0 n a1 a2 a0 (((a0).length : Int)) 0 (([] : List V))) fun u5_0 =>
  some (u5_0)
def l_impl_sum_int64_b0 : Nat → (Int) → (List V) → (Int) → (Int) →  Option (Int)
 | 0, _, _, _, _ => none
 | n + 1, a0, a1, a2, a3 =>
  cnd (decide ((a3) < (a2)))
   (bnd (bnd (idx (a1) (a3)) as_i64) fun e2_0 =>
    l_impl_sum_int64_b0 n (IntKind.i64.wrap ((a0) + (e2_0))) a1 a2 (IntKind.i64.wrap ((a3) + (1))))
   (some (a0))
def s_impl_sum_int64 (n : Nat) (a0 : List V) : Option (Int) :=
 bnd (l_impl_sum_int64_b0 n 0 a0 (((a0).length : Int)) 0) fun u3_0 =>
  some (u3_0)
def s_impl_Shape_whole (n : Nat) (a0 : Int) (a1 : List V) : Option (Int) :=
 bnd (s_impl_upTo n (((a1).length : Int))) fun y1_0 =>
  bnd (s_eaWh n y1_0 a0 a1) fun y2_0 =>
   chk (plainV (V.fresh 0 (y2_0)))
    (bnd (s_impl_sum_int64 n y2_0) fun y4_0 =>
     some (y4_0))
def s_impl_Shape_pieces_1 (n : Nat) (a0 : Int) (a1 : Int) (a2 : List V) : Option (List V) :=
 bnd (s_impl_Shape_laid n a1 a2 a0) fun (y1_0, y1_1) =>
  some (y1_1)
def l_eaPi_b0 : Nat → (Int) → (List V) → (List V) → (Int) → (Int) → (List V) →  Option (List V)
 | 0, _, _, _, _, _, _ => none
 | n + 1, a0, a1, a2, a3, a4, a5 =>
  cnd (decide ((a4) < (a3)))
   (bnd (bnd (idx (a2) (a4)) as_i64) fun e2_0 =>
    bnd (s_impl_Shape_pieces_1 n e2_0 a0 a1) fun y3_0 =>
     chk (decide (((a5).length + ([(V.sl (y3_0))]).length) * 24 ≤ 140737488355328))
      (l_eaPi_b0 n a0 a1 a2 a3 (IntKind.i64.wrap ((a4) + (1))) (a5 ++ ([(V.sl (y3_0))]))))
   (some (a5))
def s_eaPi (n : Nat) (a0 : List V) (a1 : Int) (a2 : List V) : Option (List V) :=
 bnd (l_eaPi_b0 n a1 a2 a0 (((a0).length : Int)) 0 (([] : List V))) fun u5_0 =>
  some (u5_0)
def s_growP (n : Nat) (a0 : Int) : Option (List V) :=
 cnd (decide ((a0) < (0)))
  (none)
  (cnd (decide ((0) < (IntKind.i64.wrap ((a0) - (IntKind.i64.wrap ((0) - (0)))))))
   (chk (decide (0 = 0))
    (chk (decide (0 < IntKind.i64.wrap ((a0) - (IntKind.i64.wrap ((0) - (0))))) && decide ((IntKind.i64.wrap ((a0) - (IntKind.i64.wrap ((0) - (0))))).toNat * 2 ≤ 140737488355328))
     (chk (decide (0 ≤ 0) && decide (0 ≤ ((List.replicate (IntKind.i64.wrap ((a0) - (IntKind.i64.wrap ((0) - (0))))).toNat (V.parts [(V.int .i8 (0)), (V.int .i8 (0))])).length : Int)))
      (some (List.take ((0 : Int)).toNat (List.replicate (IntKind.i64.wrap ((a0) - (IntKind.i64.wrap ((0) - (0))))).toNat (V.parts [(V.int .i8 (0)), (V.int .i8 (0))])))))))
   (some (([] : List V))))
def l_catP_b0 : Nat → (List V) → (Int) → (List V) → (Int) → (Int) →  Option (List V × Int)
 | 0, _, _, _, _, _ => none
 | n + 1, a0, a1, a2, a3, a4 =>
  cnd (decide ((a4) < (a3)))
   (bnd (bnd (idx (a2) (a4)) as_LPi8_i8Q) fun e2_0 =>
    cnd (decide ((IntKind.i64.wrap ((a1) + (((e2_0).length : Int)))) < (0)))
     (none)
     (l_catP_b0 n a0 (IntKind.i64.wrap ((a1) + (((e2_0).length : Int)))) a2 a3 (IntKind.i64.wrap ((a4) + (1)))))
   (some ((a0, a1)))
def l_catP_b2 : Nat → (List V) → (Int) → (Int) → (List V) →  Option (List V)
 | 0, _, _, _, _ => none
 | n + 1, a0, a1, a2, a3 =>
  cnd (decide ((a2) < (a1)))
   (bnd (bnd (idx (a0) (a2)) as_LPi8_i8Q) fun e9_0 =>
    chk (decide (((a3).length + (e9_0).length) * 2 ≤ 140737488355328))
     (chk (sizesOk 2 (e9_0))
      (l_catP_b2 n a0 a1 (IntKind.i64.wrap ((a2) + (1))) (a3 ++ e9_0))))
   (some (a3))
def s_catP (n : Nat) (a0 : List V) : Option (List V) :=
 bnd (l_catP_b0 n a0 0 a0 (((a0).length : Int)) 0) fun (u4_0, u4_1) =>
  bnd (s_growP n u4_1) fun y6_0 =>
   chk (plainV (V.fresh 0 y6_0))
    (bnd (l_catP_b2 n u4_0 (((u4_0).length : Int)) 0 y6_0) fun u12_0 =>
     some (u12_0))
def s_impl_Shape_pieces (n : Nat) (a0 : Int) (a1 : List V) : Option (List V) :=
 bnd (s_impl_upTo n (((a1).length : Int))) fun y1_0 =>
  bnd (s_eaPi n y1_0 a0 a1) fun y2_0 =>
   bnd (s_catP n y2_0) fun y3_0 =>
    chk (plainV (V.fresh 0 (y3_0)))
     (some (y3_0))
def s_cmp_isNaN_int8 (n : Nat) (a0 : Int) : Option (Bool) :=
 some ((!(decide ((a0) = (a0)))))
def s_cmp_Compare_int8 (n : Nat) (a0 : Int) (a1 : Int) : Option (Int) :=
 bnd (s_cmp_isNaN_int8 n a0) fun y1_0 =>
  bnd (s_cmp_isNaN_int8 n a1) fun y2_0 =>
   cnd (y1_0)
    (cnd (y2_0)
     (some (0))
     (some (-1)))
    (cnd (y2_0)
     (some (1))
     (cnd (decide ((a0) < (a1)))
      (some (-1))
      (cnd (decide ((a1) < (a0)))
       (some (1))
       (some (0)))))
def s_impl_byWidth_1 (n : Nat) (a0 : Int) (a1 : Int) (a2 : List V) : Option (Int) :=
 bnd (bnd (idx (a2) (a1)) as_Pi8_i8Q) fun (e1_0, e1_1) =>
  bnd (bnd (idx (a2) (a0)) as_Pi8_i8Q) fun (e2_0, e2_1) =>
   bnd (s_cmp_Compare_int8 n e1_1 e2_1) fun y3_0 =>
    some (y3_0)
def l_insC_b2 : Nat → (Int) → (Int) → (List V) → (Int) → (Int) → (List V) →  Option (Int × Int × List V × Int × List V)
 | 0, _, _, _, _, _, _ => none
 | n + 1, a0, a1, a2, a3, a4, a5 =>
  cnd (decide ((a0) < (a4)))
   (chk (inB (a4) (a5).length)
    (bnd (bnd (nth (a5) ((a4).toNat)) as_i64) fun e4_0 =>
     chk (inB (IntKind.i64.wrap ((a4) - (1))) (a5).length)
      (bnd (bnd (nth (a5) ((IntKind.i64.wrap ((a4) - (1))).toNat)) as_i64) fun e6_0 =>
       bnd (s_impl_byWidth_1 n e4_0 e6_0 a2) fun y7_0 =>
        cnd (decide ((y7_0) < (0)))
         (bnd (bnd (nth (a5) ((IntKind.i64.wrap ((a4) - (1))).toNat)) as_i64) fun e9_0 =>
          bnd (bnd (nth (a5) ((a4).toNat)) as_i64) fun e10_0 =>
           bnd (bnd (nth (a5) ((a4).toNat)) as_i64) fun e11_0 =>
            chk (inB (IntKind.i64.wrap ((a4) - (1))) (setNth (a5) ((a4).toNat) (V.int .i64 (e9_0))).length)
             (bnd (bnd (nth (setNth (a5) ((a4).toNat) (V.int .i64 (e9_0))) ((IntKind.i64.wrap ((a4) - (1))).toNat)) as_i64) fun e13_0 =>
              l_insC_b2 n a0 a1 a2 a3 (IntKind.i64.wrap ((a4) - (1))) (setNth (setNth (a5) ((a4).toNat) (V.int .i64 (e9_0))) ((IntKind.i64.wrap ((a4) - (1))).toNat) (V.int .i64 (e10_0)))))
         (some ((a0, a1, a2, a3, a5))))))
   (some ((a0, a1, a2, a3, a5)))
def l_insC_b0 : Nat → (Int) → (Int) → (List V) → (Int) → (List V) →  Option (List V)
 | 0, _, _, _, _, _ => none
 | n + 1, a0, a1, a2, a3, a4 =>
  cnd (decide ((a3) < (a1)))
   (bnd (l_insC_b2 n a0 a1 a2 a3 a3 a4) fun (u14_0, u14_1, u14_2, u14_3, u14_4) =>
    l_insC_b0 n u14_0 u14_1 u14_2 (IntKind.i64.wrap ((u14_3) + (1))) u14_4)
   (some (a4))
def s_insC (n : Nat) (a0 : List V) (a1 : Int) (a2 : Int) (a3 : List V) : Option (List V) :=
 bnd (l_insC_b0 n a1 a2 a3 (IntKind.i64.wrap ((a1) + (1))) a0) fun u16_0 =>
  some (u16_0)
def l_swpC_b0 : Nat → (Int) → (Int) → (Int) → (Int) → (List V) →  Option (List V)
 | 0, _, _, _, _, _ => none
 | n + 1, a0, a1, a2, a3, a4 =>
  cnd (decide ((a3) < (a2)))
   (chk (inB (IntKind.i64.wrap ((a1) + (a3))) (a4).length)
    (bnd (bnd (nth (a4) ((IntKind.i64.wrap ((a1) + (a3))).toNat)) as_i64) fun e3_0 =>
     chk (inB (IntKind.i64.wrap ((a0) + (a3))) (a4).length)
      (bnd (bnd (nth (a4) ((IntKind.i64.wrap ((a0) + (a3))).toNat)) as_i64) fun e5_0 =>
       bnd (bnd (nth (a4) ((IntKind.i64.wrap ((a0) + (a3))).toNat)) as_i64) fun e6_0 =>
        chk (inB (IntKind.i64.wrap ((a1) + (a3))) (setNth (a4) ((IntKind.i64.wrap ((a0) + (a3))).toNat) (V.int .i64 (e3_0))).length)
         (bnd (bnd (nth (setNth (a4) ((IntKind.i64.wrap ((a0) + (a3))).toNat) (V.int .i64 (e3_0))) ((IntKind.i64.wrap ((a1) + (a3))).toNat)) as_i64) fun e8_0 =>
          l_swpC_b0 n a0 a1 a2 (IntKind.i64.wrap ((a3) + (1))) (setNth (setNth (a4) ((IntKind.i64.wrap ((a0) + (a3))).toNat) (V.int .i64 (e3_0))) ((IntKind.i64.wrap ((a1) + (a3))).toNat) (V.int .i64 (e5_0)))))))
   (some (a4))
def s_swpC (n : Nat) (a0 : List V) (a1 : Int) (a2 : Int) (a3 : Int) (a4 : List V) : Option (List V) :=
 bnd (l_swpC_b0 n a1 a2 a3 0 a0) fun u9_0 =>
  some (u9_0)
def l_rotC_b0 : Nat → (Int) → (List V) → (Int) → (Int) → (List V) →  Option (Int × List V × Int × List V)
 | 0, _, _, _, _, _ => none
 | n + 1, a0, a1, a2, a3, a4 =>
  cnd (decide ((a2) = (a3)))
   (some ((a0, a1, a2, a4)))
   (cnd (decide ((a3) < (a2)))
    (bnd (s_swpC n a4 (IntKind.i64.wrap ((a0) - (a2))) a0 a3 a1) fun y3_0 =>
     chk (likeRows (a4) (y3_0))
      (l_rotC_b0 n a0 a1 (IntKind.i64.wrap ((a2) - (a3))) a3 y3_0))
    (bnd (s_swpC n a4 (IntKind.i64.wrap ((a0) - (a2))) (IntKind.i64.wrap ((IntKind.i64.wrap ((a0) + (a3))) - (a2))) a2 a1) fun y5_0 =>
     chk (likeRows (a4) (y5_0))
      (l_rotC_b0 n a0 a1 a2 (IntKind.i64.wrap ((a3) - (a2))) y5_0)))
def s_rotC (n : Nat) (a0 : List V) (a1 : Int) (a2 : Int) (a3 : Int) (a4 : List V) : Option (List V) :=
 bnd (l_rotC_b0 n a2 a4 (IntKind.i64.wrap ((a2) - (a1))) (IntKind.i64.wrap ((a3) - (a2))) a0) fun (u7_0, u7_1, u7_2, u7_3) =>
  bnd (s_swpC n u7_3 (IntKind.i64.wrap ((u7_0) - (u7_2))) u7_0 u7_2 u7_1) fun y9_0 =>
   chk (likeRows (u7_3) (y9_0))
    (some (y9_0))
def l_symM_b0 (self : (List V) → (Int) → (Int) → (Int) → (List V) → Option (List V)) : Nat → (Int) → (List V) → (Int) → (Int) → (List V) →  Option (Int × Int × List V)
 | 0, _, _, _, _, _ => none
 | n + 1, a0, a1, a2, a3, a4 =>
  cnd (decide ((a2) < (a3)))
   (chk (decide (0 ≤ 1))
    (chk (inB (IntKind.i64.wrap ((IntKind.u64.wrap (IntKind.i64.wrap ((a2) + (a3)))).fdiv (2 ^ (min ((1 : Int)).toNat IntKind.u64.bits)))) (a4).length)
     (bnd (bnd (nth (a4) ((IntKind.i64.wrap ((IntKind.u64.wrap (IntKind.i64.wrap ((a2) + (a3)))).fdiv (2 ^ (min ((1 : Int)).toNat IntKind.u64.bits)))).toNat)) as_i64) fun e5_0 =>
      chk (inB (a0) (a4).length)
       (bnd (bnd (nth (a4) ((a0).toNat)) as_i64) fun e7_0 =>
        bnd (s_impl_byWidth_1 n e5_0 e7_0 a1) fun y8_0 =>
         cnd (decide ((y8_0) < (0)))
          (l_symM_b0 self n a0 a1 (IntKind.i64.wrap ((IntKind.i64.wrap ((IntKind.u64.wrap (IntKind.i64.wrap ((a2) + (a3)))).fdiv (2 ^ (min ((1 : Int)).toNat IntKind.u64.bits)))) + (1))) a3 a4)
          (l_symM_b0 self n a0 a1 a2 (IntKind.i64.wrap ((IntKind.u64.wrap (IntKind.i64.wrap ((a2) + (a3)))).fdiv (2 ^ (min ((1 : Int)).toNat IntKind.u64.bits)))) a4)))))
   (some ((a0, a2, a4)))
def l_symM_b2 (self : (List V) → (Int) → (Int) → (Int) → (List V) → Option (List V)) : Nat → (Int) → (Int) → (List V) →  Option (List V)
 | 0, _, _, _ => none
 | n + 1, a0, a1, a2 =>
  cnd (decide ((a1) < (IntKind.i64.wrap ((a0) - (1)))))
   (chk (inB (IntKind.i64.wrap ((a1) + (1))) (a2).length)
    (bnd (bnd (nth (a2) ((IntKind.i64.wrap ((a1) + (1))).toNat)) as_i64) fun e14_0 =>
     chk (inB (a1) (a2).length)
      (bnd (bnd (nth (a2) ((a1).toNat)) as_i64) fun e16_0 =>
       bnd (bnd (nth (a2) ((a1).toNat)) as_i64) fun e17_0 =>
        chk (inB (IntKind.i64.wrap ((a1) + (1))) (setNth (a2) ((a1).toNat) (V.int .i64 (e14_0))).length)
         (bnd (bnd (nth (setNth (a2) ((a1).toNat) (V.int .i64 (e14_0))) ((IntKind.i64.wrap ((a1) + (1))).toNat)) as_i64) fun e19_0 =>
          l_symM_b2 self n a0 (IntKind.i64.wrap ((a1) + (1))) (setNth (setNth (a2) ((a1).toNat) (V.int .i64 (e14_0))) ((IntKind.i64.wrap ((a1) + (1))).toNat) (V.int .i64 (e16_0)))))))
   (some (a2))
def l_symM_b4 (self : (List V) → (Int) → (Int) → (Int) → (List V) → Option (List V)) : Nat → (Int) → (List V) → (Int) → (Int) → (List V) →  Option (Int × Int × List V)
 | 0, _, _, _, _, _ => none
 | n + 1, a0, a1, a2, a3, a4 =>
  cnd (decide ((a2) < (a3)))
   (chk (decide (0 ≤ 1))
    (chk (inB (a0) (a4).length)
     (bnd (bnd (nth (a4) ((a0).toNat)) as_i64) fun e26_0 =>
      chk (inB (IntKind.i64.wrap ((IntKind.u64.wrap (IntKind.i64.wrap ((a2) + (a3)))).fdiv (2 ^ (min ((1 : Int)).toNat IntKind.u64.bits)))) (a4).length)
       (bnd (bnd (nth (a4) ((IntKind.i64.wrap ((IntKind.u64.wrap (IntKind.i64.wrap ((a2) + (a3)))).fdiv (2 ^ (min ((1 : Int)).toNat IntKind.u64.bits)))).toNat)) as_i64) fun e28_0 =>
        bnd (s_impl_byWidth_1 n e26_0 e28_0 a1) fun y29_0 =>
         cnd (decide ((y29_0) < (0)))
          (l_symM_b4 self n a0 a1 a2 (IntKind.i64.wrap ((IntKind.u64.wrap (IntKind.i64.wrap ((a2) + (a3)))).fdiv (2 ^ (min ((1 : Int)).toNat IntKind.u64.bits)))) a4)
          (l_symM_b4 self n a0 a1 (IntKind.i64.wrap ((IntKind.i64.wrap ((IntKind.u64.wrap (IntKind.i64.wrap ((a2) + (a3)))).fdiv (2 ^ (min ((1 : Int)).toNat IntKind.u64.bits)))) + (1))) a3 a4)))))
   (some ((a0, a2, a4)))
def l_symM_b6 (self : (List V) → (Int) → (Int) → (Int) → (List V) → Option (List V)) : Nat → (Int) → (Int) → (List V) →  Option (List V)
 | 0, _, _, _ => none
 | n + 1, a0, a1, a2 =>
  cnd (decide ((a0) < (a1)))
   (chk (inB (IntKind.i64.wrap ((a1) - (1))) (a2).length)
    (bnd (bnd (nth (a2) ((IntKind.i64.wrap ((a1) - (1))).toNat)) as_i64) fun e35_0 =>
     chk (inB (a1) (a2).length)
      (bnd (bnd (nth (a2) ((a1).toNat)) as_i64) fun e37_0 =>
       bnd (bnd (nth (a2) ((a1).toNat)) as_i64) fun e38_0 =>
        chk (inB (IntKind.i64.wrap ((a1) - (1))) (setNth (a2) ((a1).toNat) (V.int .i64 (e35_0))).length)
         (bnd (bnd (nth (setNth (a2) ((a1).toNat) (V.int .i64 (e35_0))) ((IntKind.i64.wrap ((a1) - (1))).toNat)) as_i64) fun e40_0 =>
          l_symM_b6 self n a0 (IntKind.i64.wrap ((a1) - (1))) (setNth (setNth (a2) ((a1).toNat) (V.int .i64 (e35_0))) ((IntKind.i64.wrap ((a1) - (1))).toNat) (V.int .i64 (e37_0)))))))
   (some (a2))
def l_symM_b8 (self : (List V) → (Int) → (Int) → (Int) → (List V) → Option (List V)) : Nat → (Int) → (Int) → (Int) → (List V) → (Int) → (Int) → (Int) → (Int) → (Int) → (List V) →  Option (Int × Int × Int × List V × Int × Int × Int × List V)
 | 0, _, _, _, _, _, _, _, _, _, _ => none
 | n + 1, a0, a1, a2, a3, a4, a5, a6, a7, a8, a9 =>
  cnd (decide ((a6) < (a7)))
   (chk (decide (0 ≤ 1))
    (chk (inB (IntKind.i64.wrap ((a8) - (IntKind.i64.wrap ((IntKind.u64.wrap (IntKind.i64.wrap ((a6) + (a7)))).fdiv (2 ^ (min ((1 : Int)).toNat IntKind.u64.bits)))))) (a9).length)
     (bnd (bnd (nth (a9) ((IntKind.i64.wrap ((a8) - (IntKind.i64.wrap ((IntKind.u64.wrap (IntKind.i64.wrap ((a6) + (a7)))).fdiv (2 ^ (min ((1 : Int)).toNat IntKind.u64.bits)))))).toNat)) as_i64) fun e48_0 =>
      chk (inB (IntKind.i64.wrap ((IntKind.u64.wrap (IntKind.i64.wrap ((a6) + (a7)))).fdiv (2 ^ (min ((1 : Int)).toNat IntKind.u64.bits)))) (a9).length)
       (bnd (bnd (nth (a9) ((IntKind.i64.wrap ((IntKind.u64.wrap (IntKind.i64.wrap ((a6) + (a7)))).fdiv (2 ^ (min ((1 : Int)).toNat IntKind.u64.bits)))).toNat)) as_i64) fun e50_0 =>
        bnd (s_impl_byWidth_1 n e48_0 e50_0 a3) fun y51_0 =>
         cnd (decide ((y51_0) < (0)))
          (l_symM_b8 self n a0 a1 a2 a3 a4 a5 a6 (IntKind.i64.wrap ((IntKind.u64.wrap (IntKind.i64.wrap ((a6) + (a7)))).fdiv (2 ^ (min ((1 : Int)).toNat IntKind.u64.bits)))) a8 a9)
          (l_symM_b8 self n a0 a1 a2 a3 a4 a5 (IntKind.i64.wrap ((IntKind.i64.wrap ((IntKind.u64.wrap (IntKind.i64.wrap ((a6) + (a7)))).fdiv (2 ^ (min ((1 : Int)).toNat IntKind.u64.bits)))) + (1))) a7 a8 a9)))))
   (some ((a0, a1, a2, a3, a4, a5, a6, a9)))
def s_symM : Nat → (List V) → (Int) → (Int) → (Int) → (List V) →  Option (List V)
 | 0, _, _, _, _, _ => none
 | n + 1, a0, a1, a2, a3, a4 =>
  cnd (decide ((IntKind.i64.wrap ((a2) - (a1))) = (1)))
   (bnd (l_symM_b0 (fun x0 x1 x2 x3 x4 => s_symM n x0 x1 x2 x3 x4) n a1 a4 a2 a3 a0) fun (u10_0, u10_1, u10_2) =>
    bnd (l_symM_b2 (fun x0 x1 x2 x3 x4 => s_symM n x0 x1 x2 x3 x4) n u10_1 u10_0 u10_2) fun u20_0 =>
     some (u20_0))
   (cnd (decide ((IntKind.i64.wrap ((a3) - (a2))) = (1)))
    (bnd (l_symM_b4 (fun x0 x1 x2 x3 x4 => s_symM n x0 x1 x2 x3 x4) n a2 a4 a1 a2 a0) fun (u31_0, u31_1, u31_2) =>
     bnd (l_symM_b6 (fun x0 x1 x2 x3 x4 => s_symM n x0 x1 x2 x3 x4) n u31_1 u31_0 u31_2) fun u41_0 =>
      some (u41_0))
    (chk (decide (0 ≤ 1))
     (cnd (decide ((IntKind.i64.wrap ((IntKind.u64.wrap (IntKind.i64.wrap ((a1) + (a3)))).fdiv (2 ^ (min ((1 : Int)).toNat IntKind.u64.bits)))) < (a2)))
      (bnd (l_symM_b8 (fun x0 x1 x2 x3 x4 => s_symM n x0 x1 x2 x3 x4) n a1 a2 a3 a4 (IntKind.i64.wrap ((IntKind.u64.wrap (IntKind.i64.wrap ((a1) + (a3)))).fdiv (2 ^ (min ((1 : Int)).toNat IntKind.u64.bits)))) (IntKind.i64.wrap ((IntKind.i64.wrap ((IntKind.u64.wrap (IntKind.i64.wrap ((a1) + (a3)))).fdiv (2 ^ (min ((1 : Int)).toNat IntKind.u64.bits)))) + (a2))) (IntKind.i64.wrap ((IntKind.i64.wrap ((IntKind.i64.wrap ((IntKind.u64.wrap (IntKind.i64.wrap ((a1) + (a3)))).fdiv (2 ^ (min ((1 : Int)).toNat IntKind.u64.bits)))) + (a2))) - (a3))) (IntKind.i64.wrap ((IntKind.u64.wrap (IntKind.i64.wrap ((a1) + (a3)))).fdiv (2 ^ (min ((1 : Int)).toNat IntKind.u64.bits)))) (IntKind.i64.wrap ((IntKind.i64.wrap ((IntKind.i64.wrap ((IntKind.u64.wrap (IntKind.i64.wrap ((a1) + (a3)))).fdiv (2 ^ (min ((1 : Int)).toNat IntKind.u64.bits)))) + (a2))) - (1))) a0) fun (u53_0, u53_1, u53_2, u53_3, u53_4, u53_5, u53_6, u53_7) =>
       cnd (decide ((u53_6) < (u53_1)))
        (cnd (decide ((u53_1) < (IntKind.i64.wrap ((u53_5) - (u53_6)))))
         (bnd (s_rotC n u53_7 u53_6 u53_1 (IntKind.i64.wrap ((u53_5) - (u53_6))) u53_3) fun y57_0 =>
          chk (likeRows (u53_7) (y57_0))
           (cnd (decide ((u53_0) < (u53_6)))
            (cnd (decide ((u53_6) < (u53_4)))
             (bnd (s_symM n y57_0 u53_0 u53_6 u53_4 u53_3) fun y61_0 =>
              chk (likeRows (y57_0) (y61_0))
               (cnd (decide ((u53_4) < (IntKind.i64.wrap ((u53_5) - (u53_6)))))
                (cnd (decide ((IntKind.i64.wrap ((u53_5) - (u53_6))) < (u53_2)))
                 (bnd (s_symM n y61_0 u53_4 (IntKind.i64.wrap ((u53_5) - (u53_6))) u53_2 u53_3) fun y65_0 =>
                  chk (likeRows (y61_0) (y65_0))
                   (some (y65_0)))
                 (some (y61_0)))
                (some (y61_0))))
             (cnd (decide ((u53_4) < (IntKind.i64.wrap ((u53_5) - (u53_6)))))
              (cnd (decide ((IntKind.i64.wrap ((u53_5) - (u53_6))) < (u53_2)))
               (bnd (s_symM n y57_0 u53_4 (IntKind.i64.wrap ((u53_5) - (u53_6))) u53_2 u53_3) fun y69_0 =>
                chk (likeRows (y57_0) (y69_0))
                 (some (y69_0)))
               (some (y57_0)))
              (some (y57_0))))
            (cnd (decide ((u53_4) < (IntKind.i64.wrap ((u53_5) - (u53_6)))))
             (cnd (decide ((IntKind.i64.wrap ((u53_5) - (u53_6))) < (u53_2)))
              (bnd (s_symM n y57_0 u53_4 (IntKind.i64.wrap ((u53_5) - (u53_6))) u53_2 u53_3) fun y73_0 =>
               chk (likeRows (y57_0) (y73_0))
                (some (y73_0)))
              (some (y57_0)))
             (some (y57_0)))))
         (cnd (decide ((u53_0) < (u53_6)))
          (cnd (decide ((u53_6) < (u53_4)))
           (bnd (s_symM n u53_7 u53_0 u53_6 u53_4 u53_3) fun y77_0 =>
            chk (likeRows (u53_7) (y77_0))
             (cnd (decide ((u53_4) < (IntKind.i64.wrap ((u53_5) - (u53_6)))))
              (cnd (decide ((IntKind.i64.wrap ((u53_5) - (u53_6))) < (u53_2)))
               (bnd (s_symM n y77_0 u53_4 (IntKind.i64.wrap ((u53_5) - (u53_6))) u53_2 u53_3) fun y81_0 =>
                chk (likeRows (y77_0) (y81_0))
                 (some (y81_0)))
               (some (y77_0)))
              (some (y77_0))))
           (cnd (decide ((u53_4) < (IntKind.i64.wrap ((u53_5) - (u53_6)))))
            (cnd (decide ((IntKind.i64.wrap ((u53_5) - (u53_6))) < (u53_2)))
             (bnd (s_symM n u53_7 u53_4 (IntKind.i64.wrap ((u53_5) - (u53_6))) u53_2 u53_3) fun y85_0 =>
              chk (likeRows (u53_7) (y85_0))
               (some (y85_0)))
             (some (u53_7)))
            (some (u53_7))))
          (cnd (decide ((u53_4) < (IntKind.i64.wrap ((u53_5) - (u53_6)))))
           (cnd (decide ((IntKind.i64.wrap ((u53_5) - (u53_6))) < (u53_2)))
            (bnd (s_symM n u53_7 u53_4 (IntKind.i64.wrap ((u53_5) - (u53_6))) u53_2 u53_3) fun y89_0 =>
             chk (likeRows (u53_7) (y89_0))
              (some (y89_0)))
            (some (u53_7)))
           (some (u53_7)))))
        (cnd (decide ((u53_0) < (u53_6)))
         (cnd (decide ((u53_6) < (u53_4)))
          (bnd (s_symM n u53_7 u53_0 u53_6 u53_4 u53_3) fun y93_0 =>
           chk (likeRows (u53_7) (y93_0))
            (cnd (decide ((u53_4) < (IntKind.i64.wrap ((u53_5) - (u53_6)))))
             (cnd (decide ((IntKind.i64.wrap ((u53_5) - (u53_6))) < (u53_2)))
              (bnd (s_symM n y93_0 u53_4 (IntKind.i64.wrap ((u53_5) - (u53_6))) u53_2 u53_3) fun y97_0 =>
               chk (likeRows (y93_0) (y97_0))
                (some (y97_0)))
              (some (y93_0)))
             (some (y93_0))))
          (cnd (decide ((u53_4) < (IntKind.i64.wrap ((u53_5) - (u53_6)))))
           (cnd (decide ((IntKind.i64.wrap ((u53_5) - (u53_6))) < (u53_2)))
            (bnd (s_symM n u53_7 u53_4 (IntKind.i64.wrap ((u53_5) - (u53_6))) u53_2 u53_3) fun y101_0 =>
             chk (likeRows (u53_7) (y101_0))
              (some (y101_0)))
            (some (u53_7)))
           (some (u53_7))))
         (cnd (decide ((u53_4) < (IntKind.i64.wrap ((u53_5) - (u53_6)))))
          (cnd (decide ((IntKind.i64.wrap ((u53_5) - (u53_6))) < (u53_2)))
           (bnd (s_symM n u53_7 u53_4 (IntKind.i64.wrap ((u53_5) - (u53_6))) u53_2 u53_3) fun y105_0 =>
            chk (likeRows (u53_7) (y105_0))
             (some (y105_0)))
           (some (u53_7)))
          (some (u53_7)))))
      (bnd (l_symM_b8 (fun x0 x1 x2 x3 x4 => s_symM n x0 x1 x2 x3 x4) n a1 a2 a3 a4 (IntKind.i64.wrap ((IntKind.u64.wrap (IntKind.i64.wrap ((a1) + (a3)))).fdiv (2 ^ (min ((1 : Int)).toNat IntKind.u64.bits)))) (IntKind.i64.wrap ((IntKind.i64.wrap ((IntKind.u64.wrap (IntKind.i64.wrap ((a1) + (a3)))).fdiv (2 ^ (min ((1 : Int)).toNat IntKind.u64.bits)))) + (a2))) a1 a2 (IntKind.i64.wrap ((IntKind.i64.wrap ((IntKind.i64.wrap ((IntKind.u64.wrap (IntKind.i64.wrap ((a1) + (a3)))).fdiv (2 ^ (min ((1 : Int)).toNat IntKind.u64.bits)))) + (a2))) - (1))) a0) fun (u107_0, u107_1, u107_2, u107_3, u107_4, u107_5, u107_6, u107_7) =>
       cnd (decide ((u107_6) < (u107_1)))
        (cnd (decide ((u107_1) < (IntKind.i64.wrap ((u107_5) - (u107_6)))))
         (bnd (s_rotC n u107_7 u107_6 u107_1 (IntKind.i64.wrap ((u107_5) - (u107_6))) u107_3) fun y111_0 =>
          chk (likeRows (u107_7) (y111_0))
           (cnd (decide ((u107_0) < (u107_6)))
            (cnd (decide ((u107_6) < (u107_4)))
             (bnd (s_symM n y111_0 u107_0 u107_6 u107_4 u107_3) fun y115_0 =>
              chk (likeRows (y111_0) (y115_0))
               (cnd (decide ((u107_4) < (IntKind.i64.wrap ((u107_5) - (u107_6)))))
                (cnd (decide ((IntKind.i64.wrap ((u107_5) - (u107_6))) < (u107_2)))
                 (bnd (s_symM n y115_0 u107_4 (IntKind.i64.wrap ((u107_5) - (u107_6))) u107_2 u107_3) fun y119_0 =>
                  chk (likeRows (y115_0) (y119_0))
                   (some (y119_0)))
                 (some (y115_0)))
                (some (y115_0))))
             (cnd (decide ((u107_4) < (IntKind.i64.wrap ((u107_5) - (u107_6)))))
              (cnd (decide ((IntKind.i64.wrap ((u107_5) - (u107_6))) < (u107_2)))
               (bnd (s_symM n y111_0 u107_4 (IntKind.i64.wrap ((u107_5) - (u107_6))) u107_2 u107_3) fun y123_0 =>
                chk (likeRows (y111_0) (y123_0))
                 (some (y123_0)))
               (some (y111_0)))
              (some (y111_0))))
            (cnd (decide ((u107_4) < (IntKind.i64.wrap ((u107_5) - (u107_6)))))
             (cnd (decide ((IntKind.i64.wrap ((u107_5) - (u107_6))) < (u107_2)))
              (bnd (s_symM n y111_0 u107_4 (IntKind.i64.wrap ((u107_5) - (u107_6))) u107_2 u107_3) fun y127_0 =>
               chk (likeRows (y111_0) (y127_0))
                (some (y127_0)))
              (some (y111_0)))
             (some (y111_0)))))
         (cnd (decide ((u107_0) < (u107_6)))
          (cnd (decide ((u107_6) < (u107_4)))
           (bnd (s_symM n u107_7 u107_0 u107_6 u107_4 u107_3) fun y131_0 =>
            chk (likeRows (u107_7) (y131_0))
             (cnd (decide ((u107_4) < (IntKind.i64.wrap ((u107_5) - (u107_6)))))
              (cnd (decide ((IntKind.i64.wrap ((u107_5) - (u107_6))) < (u107_2)))
               (bnd (s_symM n y131_0 u107_4 (IntKind.i64.wrap ((u107_5) - (u107_6))) u107_2 u107_3) fun y135_0 =>
                chk (likeRows (y131_0) (y135_0))
                 (some (y135_0)))
               (some (y131_0)))
              (some (y131_0))))
           (cnd (decide ((u107_4) < (IntKind.i64.wrap ((u107_5) - (u107_6)))))
            (cnd (decide ((IntKind.i64.wrap ((u107_5) - (u107_6))) < (u107_2)))
             (bnd (s_symM n u107_7 u107_4 (IntKind.i64.wrap ((u107_5) - (u107_6))) u107_2 u107_3) fun y139_0 =>
              chk (likeRows (u107_7) (y139_0))
               (some (y139_0)))
             (some (u107_7)))
            (some (u107_7))))
          (cnd (decide ((u107_4) < (IntKind.i64.wrap ((u107_5) - (u107_6)))))
           (cnd (decide ((IntKind.i64.wrap ((u107_5) - (u107_6))) < (u107_2)))
            (bnd (s_symM n u107_7 u107_4 (IntKind.i64.wrap ((u107_5) - (u107_6))) u107_2 u107_3) fun y143_0 =>
             chk (likeRows (u107_7) (y143_0))
              (some (y143_0)))
            (some (u107_7)))
           (some (u107_7)))))
        (cnd (decide ((u107_0) < (u107_6)))
         (cnd (decide ((u107_6) < (u107_4)))
          (bnd (s_symM n u107_7 u107_0 u107_6 u107_4 u107_3) fun y147_0 =>
           chk (likeRows (u107_7) (y147_0))
            (cnd (decide ((u107_4) < (IntKind.i64.wrap ((u107_5) - (u107_6)))))
             (cnd (decide ((IntKind.i64.wrap ((u107_5) - (u107_6))) < (u107_2)))
              (bnd (s_symM n y147_0 u107_4 (IntKind.i64.wrap ((u107_5) - (u107_6))) u107_2 u107_3) fun y151_0 =>
               chk (likeRows (y147_0) (y151_0))
                (some (y151_0)))
              (some (y147_0)))
             (some (y147_0))))
          (cnd (decide ((u107_4) < (IntKind.i64.wrap ((u107_5) - (u107_6)))))
           (cnd (decide ((IntKind.i64.wrap ((u107_5) - (u107_6))) < (u107_2)))
            (bnd (s_symM n u107_7 u107_4 (IntKind.i64.wrap ((u107_5) - (u107_6))) u107_2 u107_3) fun y155_0 =>
             chk (likeRows (u107_7) (y155_0))
              (some (y155_0)))
            (some (u107_7)))
           (some (u107_7))))
         (cnd (decide ((u107_4) < (IntKind.i64.wrap ((u107_5) - (u107_6)))))
          (cnd (decide ((IntKind.i64.wrap ((u107_5) - (u107_6))) < (u107_2)))
           (bnd (s_symM n u107_7 u107_4 (IntKind.i64.wrap ((u107_5) - (u107_6))) u107_2 u107_3) fun y159_0 =>
            chk (likeRows (u107_7) (y159_0))
             (some (y159_0)))
           (some (u107_7)))
          (some (u107_7))))))))
def l_stabC_b0 : Nat → (Int) → (List V) → (Int) → (Int) → (Int) → (List V) →  Option (Int × List V × Int × Int × List V)
 | 0, _, _, _, _, _, _ => none
 | n + 1, a0, a1, a2, a3, a4, a5 =>
  cnd (decide ((a4) ≤ (a0)))
   (bnd (s_insC n a5 a3 a4 a1) fun y2_0 =>
    chk (likeRows (a5) (y2_0))
     (l_stabC_b0 n a0 a1 a2 a4 (IntKind.i64.wrap ((a4) + (a2))) y2_0))
   (some ((a0, a1, a2, a3, a5)))
def l_stabC_b4 : Nat → (Int) → (List V) → (Int) → (Int) → (Int) → (List V) →  Option (Int × List V × Int × Int × List V)
 | 0, _, _, _, _, _, _ => none
 | n + 1, a0, a1, a2, a3, a4, a5 =>
  cnd (decide ((a4) ≤ (a0)))
   (bnd (s_symM n a5 a3 (IntKind.i64.wrap ((a3) + (a2))) a4 a1) fun y10_0 =>
    chk (likeRows (a5) (y10_0))
     (l_stabC_b4 n a0 a1 a2 a4 (IntKind.i64.wrap ((a4) + (IntKind.i64.wrap ((2) * (a2))))) y10_0))
   (some ((a0, a1, a2, a3, a5)))
def l_stabC_b2 : Nat → (Int) → (List V) → (Int) → (List V) →  Option (List V)
 | 0, _, _, _, _ => none
 | n + 1, a0, a1, a2, a3 =>
  cnd (decide ((a2) < (a0)))
   (bnd (l_stabC_b4 n a0 a1 a2 0 (IntKind.i64.wrap ((2) * (a2))) a3) fun (u12_0, u12_1, u12_2, u12_3, u12_4) =>
    cnd (decide ((IntKind.i64.wrap ((u12_3) + (u12_2))) < (u12_0)))
     (bnd (s_symM n u12_4 u12_3 (IntKind.i64.wrap ((u12_3) + (u12_2))) u12_0 u12_1) fun y15_0 =>
      chk (likeRows (u12_4) (y15_0))
       (l_stabC_b2 n u12_0 u12_1 (IntKind.i64.wrap ((u12_2) * (2))) y15_0))
     (l_stabC_b2 n u12_0 u12_1 (IntKind.i64.wrap ((u12_2) * (2))) u12_4))
   (some (a3))
def s_stabC (n : Nat) (a0 : List V) (a1 : Int) (a2 : List V) : Option (List V) :=
 bnd (l_stabC_b0 n a1 a2 20 0 20 a0) fun (u4_0, u4_1, u4_2, u4_3, u4_4) =>
  bnd (s_insC n u4_4 u4_3 u4_0 u4_1) fun y6_0 =>
   chk (likeRows (u4_4) (y6_0))
    (bnd (l_stabC_b2 n u4_0 u4_1 u4_2 y6_0) fun u17_0 =>
     some (u17_0))
def s_sortS (n : Nat) (a0 : List V) (a1 : List V) : Option (List V) :=
 bnd (s_stabC n a0 (((a0).length : Int)) a1) fun y1_0 =>
  chk (likeRows (a0) (y1_0))
   (some (y1_0))
def s_impl_byWidth (n : Nat) (a0 : List V) : Option (List V) :=
 bnd (s_impl_upTo n (((a0).length : Int))) fun y1_0 =>
  bnd (s_sortS n y1_0 a0) fun y2_0 =>
   chk (likeRows (y1_0) (y2_0))
    (some (y2_0))
def s_impl_pairs_1 (n : Nat) (a0 : Int) (a1 : List V) (a2 : List V) (a3 : List V) (a4 : Int) : Option (Bool) :=
 bnd (bnd (idx (a1) (a0)) as_Pi8_i8Q) fun (e1_0, e1_1) =>
  cnd (decide ((e1_0) = (1)))
   (chk (mapFine (false, [IntKind.i64]) (a2) (a3))
    (chk (keyIs (false, [IntKind.i64]) (V.int .i64 (a0)))
     (cnd (mapGetB (V.int .i64 (a0)) (a2) (a3))
      (some (false))
      (bnd (bnd (idx (a1) (a4)) as_Pi8_i8Q) fun (e6_0, e6_1) =>
       bnd (bnd (idx (a1) (a0)) as_Pi8_i8Q) fun (e7_0, e7_1) =>
        some ((decide ((IntKind.i8.wrap ((e6_1) + (e7_1))) ≤ (8))))))))
   (some (false))
def l_ixPr_b0 : Nat → (List V) → (List V) → (List V) → (List V) → (Int) → (Int) → (Int) →  Option (Sum (Unit) (Int))
 | 0, _, _, _, _, _, _, _ => none
 | n + 1, a0, a1, a2, a3, a4, a5, a6 =>
  cnd (decide ((a6) < (a5)))
   (bnd (bnd (idx (a0) (a6)) as_i64) fun e2_0 =>
    bnd (s_impl_pairs_1 n e2_0 a1 a2 a3 a4) fun y3_0 =>
     cnd (y3_0)
      (some (.inr (a6)))
      (l_ixPr_b0 n a0 a1 a2 a3 a4 a5 (IntKind.i64.wrap ((a6) + (1)))))
   (some (.inl (())))
def s_ixPr (n : Nat) (a0 : List V) (a1 : List V) (a2 : List V) (a3 : List V) (a4 : Int) : Option (Int) :=
 bnd (l_ixPr_b0 n a0 a1 a2 a3 a4 (((a0).length : Int)) 0) fun w => match w with
  | .inl _ =>
   some (-1)
  | .inr u6_0 =>
   some (u6_0)
def l_impl_pairs_b0 : Nat → (Int) → (Int) → (List V) → (List V) → (List V) → (List V) → (List V) →  Option (List V)
 | 0, _, _, _, _, _, _, _ => none
 | n + 1, a0, a1, a2, a3, a4, a5, a6 =>
  cnd (decide ((a1) < (a0)))
   (chk (inB (a1) (a3).length)
    (bnd (bnd (nth (a3) ((a1).toNat)) as_i64) fun e4_0 =>
     bnd (bnd (idx (a2) (e4_0)) as_Pi8_i8Q) fun (e5_0, e5_1) =>
      cnd (decide ((e5_0) = (0)))
       (bnd (s_ixPr n a3 a2 a5 a6 e4_0) fun y7_0 =>
        cnd (decide ((0) ≤ (y7_0)))
         (chk (inB (y7_0) (a3).length)
          (bnd (bnd (nth (a3) ((y7_0).toNat)) as_i64) fun e10_0 =>
           chk (mapFine (false, [IntKind.i64]) (a5) (a6))
            (chk (keyIs (false, [IntKind.i64]) (V.int .i64 (e10_0)))
             (bnd (bnd (nth (a3) ((y7_0).toNat)) as_i64) fun e13_0 =>
              chk (decide (((a4).length + ([(V.sl ([(V.int .i64 (e4_0)), (V.int .i64 (e13_0))]))]).length) * 24 ≤ 140737488355328))
               (l_impl_pairs_b0 n a0 (IntKind.i64.wrap ((a1) + (1))) a2 a3 (a4 ++ ([(V.sl ([(V.int .i64 (e4_0)), (V.int .i64 (e13_0))]))])) (mapPutK (V.int .i64 (e10_0)) (a5)) (mapPutV (V.int .i64 (e10_0)) (V.bool true) (a5) (a6)))))))
         (l_impl_pairs_b0 n a0 (IntKind.i64.wrap ((a1) + (1))) a2 a3 a4 a5 a6))
       (l_impl_pairs_b0 n a0 (IntKind.i64.wrap ((a1) + (1))) a2 a3 a4 a5 a6)))
   (some (a4))
def s_impl_pairs (n : Nat) (a0 : List V) : Option (List V) :=
 bnd (s_impl_byWidth n a0) fun y1_0 =>
  bnd (l_impl_pairs_b0 n (((y1_0).length : Int)) 0 a0 y1_0 (([] : List V)) (([] : List V)) (([] : List V))) fun u15_0 =>
   some (u15_0)
def s_impl_tilesFor (n : Nat) (a0 : List V) : Option (Int) :=
 bnd (s_impl_pairs n a0) fun y1_0 =>
  some (IntKind.i64.wrap ((((a0).length : Int)) - (((y1_0).length : Int))))
def s_impl_Shape_least (n : Nat) (a0 : Int) (a1 : List V) : Option (Int) :=
 bnd (s_impl_Shape_whole n a0 a1) fun y1_0 =>
  bnd (s_impl_Shape_pieces n a0 a1) fun y2_0 =>
   bnd (s_impl_tilesFor n y2_0) fun y3_0 =>
    some (IntKind.i64.wrap ((y1_0) + (y3_0)))
def s_impl_LeastTiles (n : Nat) (a0 : Int) (a1 : List V) : Option (Int × Int) :=
 bnd (s_impl_ValidShape n a0 a1) fun y1_0 =>
  cnd (y1_0)
   (bnd (s_impl_Shape_least n a0 a1) fun y3_0 =>
    some ((y3_0, 0)))
   (some ((0, 1)))
def s_laws_eqSpan (n : Nat) (a0 : Int) (a1 : Int) (a2 : Int) (a3 : Int) : Option (Bool) :=
 cnd (decide ((a0) = (a2)))
  (cnd (decide ((a1) = (a3)))
   (some (true))
   (some (false)))
  (some (false))
def l_laws_eqSpanS_b0 : Nat → (List V) → (List V) → (Int) →  Option (Sum (Unit) (Bool))
 | 0, _, _, _ => none
 | n + 1, a0, a1, a2 =>
  cnd (decide ((a2) < (((a0).length : Int))))
   (bnd (bnd (idx (a0) (a2)) as_Pi16_i16Q) fun (e3_0, e3_1) =>
    bnd (bnd (idx (a1) (a2)) as_Pi16_i16Q) fun (e4_0, e4_1) =>
     bnd (s_laws_eqSpan n e3_0 e3_1 e4_0 e4_1) fun y5_0 =>
      cnd (y5_0)
       (l_laws_eqSpanS_b0 n a0 a1 (IntKind.i64.wrap ((a2) + (1))))
       (some (.inr (false))))
   (some (.inl (())))
def s_laws_eqSpanS (n : Nat) (a0 : List V) (a1 : List V) : Option (Bool) :=
 cnd (decide ((((a0).length : Int)) = (((a1).length : Int))))
  (bnd (l_laws_eqSpanS_b0 n a0 a1 0) fun w => match w with
   | .inl _ =>
    some (true)
   | .inr u8_0 =>
    some ((u8_0)))
  (some (false))
def s_laws_eqShape (n : Nat) (a0 : Int) (a1 : List V) (a2 : Int) (a3 : List V) : Option (Bool) :=
 cnd (decide ((a0) = (a2)))
  (bnd (s_laws_eqSpanS n a1 a3) fun y2_0 =>
   cnd (y2_0)
    (some (true))
    (some (false)))
  (some (false))
def s_laws_FnExactLeastTiles (n : Nat) (a0 : Int) (a1 : List V) : Option (Bool) :=
 bnd (s_laws_szShape n a0 a1 1048576) fun y1_0 =>
  cnd (decide ((y1_0) < (0)))
   (some (true))
   (bnd (s_laws_toShape n a0 a1) fun (y3_0, y3_1) =>
    bnd (s_spec_LeastTiles n y3_0 y3_1) fun (y4_0, y4_1) =>
     bnd (s_laws_toShape n a0 a1) fun (y5_0, y5_1) =>
      bnd (s_impl_LeastTiles n y5_0 y5_1) fun (y6_0, y6_1) =>
       cnd (decide ((y6_0) = (y4_0)))
        (cnd (decide ((y6_1) = (y4_1)))
         (bnd (s_laws_toShape n a0 a1) fun (y9_0, y9_1) =>
          bnd (s_laws_eqShape n y5_0 y5_1 y9_0 y9_1) fun y10_0 =>
           cnd (y10_0)
            (some (true))
            (some (false)))
         (some (false)))
        (some (false)))
def l_spec_l05Units_b0 : Nat → (Int) → (List V) → (Int) → (Int) →  Option (Int)
 | 0, _, _, _, _ => none
 | n + 1, a0, a1, a2, a3 =>
  cnd (decide ((a3) < (((a1).length : Int))))
   (bnd (bnd (idx (a1) (a3)) as_Pi16_i16Q) fun (e2_0, e2_1) =>
    bnd (bnd (idx (a1) (a3)) as_Pi16_i16Q) fun (e3_0, e3_1) =>
     l_spec_l05Units_b0 n a0 a1 (IntKind.i64.wrap ((a2) + (IntKind.i64.wrap ((IntKind.i64.wrap (e2_1)) - (IntKind.i64.wrap (e3_0)))))) (IntKind.i64.wrap ((a3) + (1))))
   (some (a2))
def s_spec_l05Units (n : Nat) (a0 : Int) (a1 : List V) : Option (Int) :=
 bnd (l_spec_l05Units_b0 n a0 a1 0 0) fun u4_0 =>
  some (u4_0)
def s_spec_WasteOf (n : Nat) (a0 : Int) (a1 : List V) : Option (Int × Int) :=
 bnd (s_spec_l05Ok n a0 a1) fun y1_0 =>
  cnd (y1_0)
   (bnd (s_spec_l05Least n a0 a1) fun y3_0 =>
    bnd (s_spec_l05Units n a0 a1) fun y4_0 =>
     some ((IntKind.i64.wrap ((IntKind.i64.wrap ((8) * (y3_0))) - (y4_0)), 0)))
   (some ((0, 1)))
def s_impl_Shape_units_1 (n : Nat) (a0 : Int) (a1 : Int) : Option (Int) :=
 some (IntKind.i64.wrap (IntKind.i16.wrap ((a1) - (a0))))
def l_eaUn_b0 : Nat → (List V) → (Int) → (Int) → (List V) →  Option (List V)
 | 0, _, _, _, _ => none
 | n + 1, a0, a1, a2, a3 =>
  cnd (decide ((a2) < (a1)))
   (bnd (bnd (idx (a0) (a2)) as_Pi16_i16Q) fun (e2_0, e2_1) =>
    bnd (s_impl_Shape_units_1 n e2_0 e2_1) fun y3_0 =>
     chk (decide (((a3).length + ([(V.int .i64 (y3_0))]).length) * 8 ≤ 140737488355328))
      (l_eaUn_b0 n a0 a1 (IntKind.i64.wrap ((a2) + (1))) (a3 ++ ([(V.int .i64 (y3_0))]))))
   (some (a3))
def s_eaUn (n : Nat) (a0 : List V) : Option (List V) :=
 bnd (l_eaUn_b0 n a0 (((a0).length : Int)) 0 (([] : List V))) fun u5_0 =>
  some (u5_0)
def s_impl_Shape_units (n : Nat) (a0 : Int) (a1 : List V) : Option (Int) :=
 bnd (s_eaUn n a1) fun y1_0 =>
  bnd (s_impl_sum_int64 n y1_0) fun y2_0 =>
   some (y2_0)
def s_impl_WasteOf (n : Nat) (a0 : Int) (a1 : List V) : Option (Int × Int) :=
 bnd (s_impl_ValidShape n a0 a1) fun y1_0 =>
  cnd (y1_0)
   (bnd (s_impl_Shape_least n a0 a1) fun y3_0 =>
    bnd (s_impl_Shape_units n a0 a1) fun y4_0 =>
     some ((IntKind.i64.wrap ((IntKind.i64.wrap ((8) * (y3_0))) - (y4_0)), 0)))
   (some ((0, 1)))
def s_laws_FnExactWasteOf (n : Nat) (a0 : Int) (a1 : List V) : Option (Bool) :=
 bnd (s_laws_szShape n a0 a1 1048576) fun y1_0 =>
  cnd (decide ((y1_0) < (0)))
   (some (true))
   (bnd (s_laws_toShape n a0 a1) fun (y3_0, y3_1) =>
    bnd (s_spec_WasteOf n y3_0 y3_1) fun (y4_0, y4_1) =>
     bnd (s_laws_toShape n a0 a1) fun (y5_0, y5_1) =>
      bnd (s_impl_WasteOf n y5_0 y5_1) fun (y6_0, y6_1) =>
       cnd (decide ((y6_0) = (y4_0)))
        (cnd (decide ((y6_1) = (y4_1)))
         (bnd (s_laws_toShape n a0 a1) fun (y9_0, y9_1) =>
          bnd (s_laws_eqShape n y5_0 y5_1 y9_0 y9_1) fun y10_0 =>
           cnd (y10_0)
            (some (true))
            (some (false)))
         (some (false)))
        (some (false)))
def l_spec_l05Slide_b0 : Nat → (Int) → (List V) → (Int) → (Int) → (Int) → (Int) → (List V) → (List V) →  Option (Sum (Int × Int × List V × List V) (Bool × Int × List V))
 | 0, _, _, _, _, _, _, _, _ => none
 | n + 1, a0, a1, a2, a3, a4, a5, a6, a7 =>
  cnd (decide ((a3) < (((a1).length : Int))))
   (bnd (bnd (idx (a1) (a3)) as_Pi16_i16Q) fun (e2_0, e2_1) =>
    bnd (bnd (idx (a1) (a3)) as_Pi16_i16Q) fun (e3_0, e3_1) =>
     cnd (decide ((IntKind.i64.wrap ((IntKind.i64.wrap (e2_0)) + (a2))) < (0)))
      (some (.inr ((false, 0, ([] : List V)))))
      (cnd (decide ((200) < (IntKind.i64.wrap ((IntKind.i64.wrap (e3_1)) + (a2)))))
       (some (.inr ((false, 0, ([] : List V)))))
       (chk (decide (((a7).length + ([(V.parts [(V.int .i16 (IntKind.i16.wrap (IntKind.i64.wrap ((IntKind.i64.wrap (e2_0)) + (a2))))), (V.int .i16 (IntKind.i16.wrap (IntKind.i64.wrap ((IntKind.i64.wrap (e3_1)) + (a2)))))])]).length) * 4 ≤ 140737488355328))
        (l_spec_l05Slide_b0 n a0 a1 a2 (IntKind.i64.wrap ((a3) + (1))) a4 a5 a6 (a7 ++ ([(V.parts [(V.int .i16 (IntKind.i16.wrap (IntKind.i64.wrap ((IntKind.i64.wrap (e2_0)) + (a2))))), (V.int .i16 (IntKind.i16.wrap (IntKind.i64.wrap ((IntKind.i64.wrap (e3_1)) + (a2)))))])]))))))
   (some (.inl ((a4, a5, a6, a7))))
def s_spec_l05Slide (n : Nat) (a0 : Int) (a1 : List V) (a2 : Int) : Option (Int × List V × Bool) :=
 bnd (l_spec_l05Slide_b0 n a0 a1 a2 0 0 a0 (([] : List V)) (([] : List V))) fun w => match w with
  | .inl (u7_0, u7_1, u7_2, u7_3) =>
   some ((u7_1, u7_3, true))
  | .inr (u8_0, u8_1, u8_2) =>
   some ((u8_1, u8_2, (u8_0)))
def l_spec_BestSlide_b0 : Nat → (Int) → (Int) → (Int) → (Int) → (List V) →  Option (Int × Int)
 | 0, _, _, _, _, _ => none
 | n + 1, a0, a1, a2, a3, a4 =>
  cnd (decide ((a2) < (8)))
   (bnd (s_spec_l05Slide n a3 a4 a2) fun (y4_0, y4_1, y4_2) =>
    chk (plainV (V.tup [(V.parts [(V.int .u8 (y4_0)), (V.fresh 0 (y4_1))]), (V.bool (y4_2))]))
     (cnd (y4_2)
      (bnd (s_spec_l05Least n y4_0 y4_1) fun y7_0 =>
       cnd (decide ((a1) < (0)))
        (l_spec_BestSlide_b0 n a2 y7_0 (IntKind.i64.wrap ((a2) + (1))) a3 a4)
        (cnd (decide ((y7_0) < (a1)))
         (l_spec_BestSlide_b0 n a2 y7_0 (IntKind.i64.wrap ((a2) + (1))) a3 a4)
         (l_spec_BestSlide_b0 n a0 a1 (IntKind.i64.wrap ((a2) + (1))) a3 a4)))
      (l_spec_BestSlide_b0 n a0 a1 (IntKind.i64.wrap ((a2) + (1))) a3 a4)))
   (some ((a0, a1)))
def s_spec_BestSlide (n : Nat) (a0 : Int) (a1 : List V) : Option (Int × Int × Int) :=
 bnd (s_spec_l05Ok n a0 a1) fun y1_0 =>
  cnd (y1_0)
   (bnd (l_spec_BestSlide_b0 n 0 (-1) 0 a0 a1) fun (u10_0, u10_1) =>
    some ((u10_0, u10_1, 0)))
   (some ((0, 0, 1)))
def s_impl_Shape_slid_1 (n : Nat) (a0 : Int) (a1 : Int) (a2 : Int) : Option (Int × Int) :=
 some ((IntKind.i16.wrap ((a0) + (a2)), IntKind.i16.wrap ((a1) + (a2))))
def l_eaSl_b0 : Nat → (Int) → (List V) → (Int) → (Int) → (List V) →  Option (List V)
 | 0, _, _, _, _, _ => none
 | n + 1, a0, a1, a2, a3, a4 =>
  cnd (decide ((a3) < (a2)))
   (bnd (bnd (idx (a1) (a3)) as_Pi16_i16Q) fun (e2_0, e2_1) =>
    bnd (s_impl_Shape_slid_1 n e2_0 e2_1 a0) fun (y3_0, y3_1) =>
     chk (decide (((a4).length + ([(V.parts [(V.int .i16 (y3_0)), (V.int .i16 (y3_1))])]).length) * 4 ≤ 140737488355328))
      (l_eaSl_b0 n a0 a1 a2 (IntKind.i64.wrap ((a3) + (1))) (a4 ++ ([(V.parts [(V.int .i16 (y3_0)), (V.int .i16 (y3_1))])]))))
   (some (a4))
def s_eaSl (n : Nat) (a0 : List V) (a1 : Int) : Option (List V) :=
 bnd (l_eaSl_b0 n a1 a0 (((a0).length : Int)) 0 (([] : List V))) fun u5_0 =>
  some (u5_0)
def s_impl_Shape_slid (n : Nat) (a0 : Int) (a1 : List V) (a2 : Int) : Option (Int × List V) :=
 bnd (s_eaSl n a1 a2) fun y1_0 =>
  chk (plainV (V.fresh 0 (y1_0)))
   (some ((a0, y1_0)))
def l_impl_BestSlide_b0 : Nat → (Int) → (Int) → (Int) → (Int) → (List V) →  Option (Int × Int)
 | 0, _, _, _, _, _ => none
 | n + 1, a0, a1, a2, a3, a4 =>
  cnd (decide ((a2) < (8)))
   (bnd (s_impl_Shape_slid n a3 a4 a2) fun (y5_0, y5_1) =>
    bnd (s_impl_ValidShape n y5_0 y5_1) fun y6_0 =>
     cnd (y6_0)
      (bnd (s_impl_Shape_least n y5_0 y5_1) fun y8_0 =>
       cnd (decide ((y8_0) < (a1)))
        (bnd (s_impl_Shape_least n y5_0 y5_1) fun y10_0 =>
         l_impl_BestSlide_b0 n (IntKind.i64.wrap (a2)) y10_0 (IntKind.i16.wrap ((a2) + (1))) a3 a4)
        (l_impl_BestSlide_b0 n a0 a1 (IntKind.i16.wrap ((a2) + (1))) a3 a4))
      (l_impl_BestSlide_b0 n a0 a1 (IntKind.i16.wrap ((a2) + (1))) a3 a4))
   (some ((a0, a1)))
def s_impl_BestSlide (n : Nat) (a0 : Int) (a1 : List V) : Option (Int × Int × Int) :=
 bnd (s_impl_ValidShape n a0 a1) fun y1_0 =>
  cnd (y1_0)
   (bnd (s_impl_Shape_least n a0 a1) fun y3_0 =>
    bnd (l_impl_BestSlide_b0 n 0 y3_0 1 a0 a1) fun (u11_0, u11_1) =>
     some ((u11_0, u11_1, 0)))
   (some ((0, 0, 1)))
def s_laws_FnExactBestSlide (n : Nat) (a0 : Int) (a1 : List V) : Option (Bool) :=
 bnd (s_laws_szShape n a0 a1 1048576) fun y1_0 =>
  cnd (decide ((y1_0) < (0)))
   (some (true))
   (bnd (s_laws_toShape n a0 a1) fun (y3_0, y3_1) =>
    bnd (s_spec_BestSlide n y3_0 y3_1) fun (y4_0, y4_1, y4_2) =>
     bnd (s_laws_toShape n a0 a1) fun (y5_0, y5_1) =>
      bnd (s_impl_BestSlide n y5_0 y5_1) fun (y6_0, y6_1, y6_2) =>
       cnd (decide ((y6_0) = (y4_0)))
        (cnd (decide ((y6_1) = (y4_1)))
         (cnd (decide ((y6_2) = (y4_2)))
          (bnd (s_laws_toShape n a0 a1) fun (y10_0, y10_1) =>
           bnd (s_laws_eqShape n y5_0 y5_1 y10_0 y10_1) fun y11_0 =>
            cnd (y11_0)
             (some (true))
             (some (false)))
          (some (false)))
         (some (false)))
        (some (false)))
end Go.Proofs.Ytbejaalnnnogoaa
