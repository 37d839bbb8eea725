/- What functions of the program answer, in plain Lean: printed by gen.py out of the program. -/
import Derived.Test.YtkfihbdikdkcmaaSh1
namespace Go.Proofs.Ytkfihbdikdkcmaa
open Go
set_option linter.unusedVariables false
set_option linter.unusedSimpArgs false
def as_Pi8_i16Q : V → Option (Int × Int)
  | (V.parts [(V.int .i8 (e0)), (V.int .i16 (e1))]) => some (e0, e1)
  | _ => none
theorem as_Pi8_i16Q_some {x : Option V} {e0 : Int} {e1 : Int} (h : bnd x as_Pi8_i16Q = some (e0, e1)) : x = some (V.parts [(V.int .i8 (e0)), (V.int .i16 (e1))]) := by
  obtain ⟨v, rfl, k⟩ := bnd_some h
  unfold as_Pi8_i16Q at k
  split at k
  · simp only [Option.some.injEq, Prod.mk.injEq] at k
    obtain ⟨rfl, rfl⟩ := k
    rfl
  · cases k
def s_laws_szPipeS (n : Nat) (a0 : List V) (a1 : Int) : Option (Int) :=
  cnd (decide ((IntKind.i64.wrap ((a1) - (((a0).length : Int)))) < (0)))
    (some (-1))
    (some (IntKind.i64.wrap ((a1) - (((a0).length : Int)))))
def s_laws_szGutter (n : Nat) (a0 : Int) (a1 : Int) (a2 : Nat → Int) (a3 : Int) (a4 : List V) (a5 : Int) : Option (Int) :=
  bnd (s_laws_szPipeS n a4 a5) fun y1_0 =>
    cnd (decide ((y1_0) < (0)))
      (some (-1))
      (some (y1_0))
def l_laws_toInt8A17_b0 : Nat → (Int) → (Nat → Int) → (Nat → Int) → (Nat → Int) →  Option ((Nat → Int) × (Nat → Int))
  | 0, _, _, _, _ => none
  | n + 1, a0, a1, a2, a3 =>
    cnd (decide ((a0) < (17)))
      (chk (inB (a0) 17)
        (l_laws_toInt8A17_b0 n (IntKind.i64.wrap ((a0) + (1))) a1 a2 (updC (a3) (0 + (a0).toNat * 1) ((a1) (0 + (a0).toNat * 1)))))
      (some ((a2, a3)))
def s_laws_toInt8A17 (n : Nat) (a0 : Nat → Int) : Option ((Nat → Int)) :=
  bnd (l_laws_toInt8A17_b0 n 0 a0 (fun _ => 0) (fun _ => 0)) fun (u3_0, u3_1) =>
    some (u3_1)
def s_laws_toPipe (n : Nat) (a0 : Int) (a1 : Int) : Option (Int × Int) :=
  some ((a0, a1))
def l_laws_toPipeS_b0 : Nat → (List V) → (Int) → (List V) →  Option (List V)
  | 0, _, _, _ => none
  | n + 1, a0, a1, a2 =>
    cnd (decide ((a1) < (((a0).length : Int))))
      (bnd (bnd (idx (a0) (a1)) as_Pi8_i16Q) fun (e3_0, e3_1) =>
        bnd (s_laws_toPipe n e3_0 e3_1) fun (y4_0, y4_1) =>
          chk (inB (a1) (a2).length)
            (bnd (bnd (nth (a2) ((a1).toNat)) as_Pi8_i16Q) fun (e6_0, e6_1) =>
              l_laws_toPipeS_b0 n a0 (IntKind.i64.wrap ((a1) + (1))) (setNth (a2) ((a1).toNat) (V.parts [(V.int .i8 (y4_0)), (V.int .i16 (y4_1))]))))
      (some (a2))
def s_laws_toPipeS (n : Nat) (a0 : List V) : Option (List V) :=
  chk (decide (((a0).length : Int) = ((a0).length : Int)) && decide (0 ≤ ((a0).length : Int)) && decide ((((a0).length : Int)).toNat * 4 ≤ 140737488355328))
    (bnd (l_laws_toPipeS_b0 n a0 0 (List.replicate (((a0).length : Int)).toNat (V.parts [(V.int .i8 (0)), (V.int .i16 (0))]))) fun u7_0 =>
      some (u7_0))
def s_laws_toGutter (n : Nat) (a0 : Int) (a1 : Int) (a2 : Nat → Int) (a3 : Int) (a4 : List V) : Option (Int × Int × (Nat → Int) × Int × List V) :=
  bnd (s_laws_toInt8A17 n a2) fun y1_0 =>
    bnd (s_laws_toPipeS n a4) fun y2_0 =>
      some ((a0, a1, y1_0, a3, y2_0))
def l_spec_SameGutter_b0 : Nat → (Int) → (Int) → (Int) → (Nat → Int) → (Int) → (List V) → (Int) → (Int) → (Nat → Int) → (Int) → (List V) →  Option (Sum (Unit) (Bool))
  | 0, _, _, _, _, _, _, _, _, _, _, _ => none
  | n + 1, a0, a1, a2, a3, a4, a5, a6, a7, a8, a9, a10 =>
    cnd (decide ((a0) < (((a5).length : Int))))
      (bnd (bnd (idx (a5) (a0)) as_Pi8_i16Q) fun (e7_0, e7_1) =>
        bnd (bnd (idx (a10) (a0)) as_Pi8_i16Q) fun (e8_0, e8_1) =>
          cnd (eqParts [(V.int .i8 (e7_0)), (V.int .i16 (e7_1))] [(V.int .i8 (e8_0)), (V.int .i16 (e8_1))])
            (l_spec_SameGutter_b0 n (IntKind.i64.wrap ((a0) + (1))) a1 a2 a3 a4 a5 a6 a7 a8 a9 a10)
            (some (.inr (false))))
      (some (.inl (())))
def s_spec_SameGutter (n : Nat) (a0 : Int) (a1 : Int) (a2 : Nat → Int) (a3 : Int) (a4 : List V) (a5 : Int) (a6 : Int) (a7 : Nat → Int) (a8 : Int) (a9 : List V) : Option (Bool) :=
  cnd (decide ((a0) = (a5)))
    (cnd (decide ((a1) = (a6)))
      (cnd (allEq 17 (a2) (a7))
        (cnd (decide ((a3) = (a8)))
          (cnd (decide ((((a4).length : Int)) = (((a9).length : Int))))
            (bnd (l_spec_SameGutter_b0 n 0 a0 a1 a2 a3 a4 a5 a6 a7 a8 a9) fun w => match w with
              | .inl _ =>
                some (true)
              | .inr u11_0 =>
                some ((u11_0)))
            (some (false)))
          (some (false)))
        (some (false)))
      (some (false)))
    (some (false))
def l_slices_Equal_Simpl_Pipe_impl_Pipe_b0 : Nat → (List V) → (List V) → (Int) → (Int) →  Option (Sum (Unit) (Bool))
  | 0, _, _, _, _ => none
  | n + 1, a0, a1, a2, a3 =>
    cnd (decide ((a3) < (a2)))
      (bnd (bnd (idx (a0) (a3)) as_Pi8_i16Q) fun (e3_0, e3_1) =>
        bnd (bnd (idx (a1) (a3)) as_Pi8_i16Q) fun (e4_0, e4_1) =>
          cnd (eqParts [(V.int .i8 (e3_0)), (V.int .i16 (e3_1))] [(V.int .i8 (e4_0)), (V.int .i16 (e4_1))])
            (l_slices_Equal_Simpl_Pipe_impl_Pipe_b0 n a0 a1 a2 (IntKind.i64.wrap ((a3) + (1))))
            (some (.inr (false))))
      (some (.inl (())))
def s_slices_Equal_Simpl_Pipe_impl_Pipe (n : Nat) (a0 : List V) (a1 : List V) : Option (Bool) :=
  cnd (decide ((((a0).length : Int)) = (((a1).length : Int))))
    (bnd (l_slices_Equal_Simpl_Pipe_impl_Pipe_b0 n a0 a1 (((a0).length : Int)) 0) fun w => match w with
      | .inl _ =>
        some (true)
      | .inr u7_0 =>
        some ((u7_0)))
    (some (false))
def s_impl_SameGutter (n : Nat) (a0 : Int) (a1 : Int) (a2 : Nat → Int) (a3 : Int) (a4 : List V) (a5 : Int) (a6 : Int) (a7 : Nat → Int) (a8 : Int) (a9 : List V) : Option (Bool) :=
  cnd (decide ((a0) = (a5)))
    (cnd (decide ((a1) = (a6)))
      (cnd (allEq 17 (a2) (a7))
        (cnd (decide ((a3) = (a8)))
          (bnd (s_slices_Equal_Simpl_Pipe_impl_Pipe n a4 a9) fun y5_0 =>
            some ((y5_0)))
          (some (false)))
        (some (false)))
      (some (false)))
    (some (false))
def l_laws_eqInt8A17_b0 : Nat → (Int) → (Nat → Int) → (Nat → Int) →  Option (Sum (Unit) (Bool))
  | 0, _, _, _ => none
  | n + 1, a0, a1, a2 =>
    cnd (decide ((a0) < (17)))
      (chk (inB (a0) 17)
        (cnd (decide (((a1) (0 + (a0).toNat * 1)) = ((a2) (0 + (a0).toNat * 1))))
          (l_laws_eqInt8A17_b0 n (IntKind.i64.wrap ((a0) + (1))) a1 a2)
          (some (.inr (false)))))
      (some (.inl (())))
def s_laws_eqInt8A17 (n : Nat) (a0 : Nat → Int) (a1 : Nat → Int) : Option (Bool) :=
  bnd (l_laws_eqInt8A17_b0 n 0 a0 a1) fun w => match w with
    | .inl _ =>
      some (true)
    | .inr u5_0 =>
      some ((u5_0))
def s_laws_eqPipe (n : Nat) (a0 : Int) (a1 : Int) (a2 : Int) (a3 : Int) : Option (Bool) :=
  cnd (decide ((a0) = (a2)))
    (cnd (decide ((a1) = (a3)))
      (some (true))
      (some (false)))
    (some (false))
def l_laws_eqPipeS_b0 : Nat → (List V) → (List V) → (Int) →  Option (Sum (Unit) (Bool))
  | 0, _, _, _ => none
  | n + 1, a0, a1, a2 =>
    cnd (decide ((a2) < (((a0).length : Int))))
      (bnd (bnd (idx (a0) (a2)) as_Pi8_i16Q) fun (e3_0, e3_1) =>
        bnd (bnd (idx (a1) (a2)) as_Pi8_i16Q) fun (e4_0, e4_1) =>
          bnd (s_laws_eqPipe n e3_0 e3_1 e4_0 e4_1) fun y5_0 =>
            cnd (y5_0)
              (l_laws_eqPipeS_b0 n a0 a1 (IntKind.i64.wrap ((a2) + (1))))
              (some (.inr (false))))
      (some (.inl (())))
def s_laws_eqPipeS (n : Nat) (a0 : List V) (a1 : List V) : Option (Bool) :=
  cnd (decide ((((a0).length : Int)) = (((a1).length : Int))))
    (bnd (l_laws_eqPipeS_b0 n a0 a1 0) fun w => match w with
      | .inl _ =>
        some (true)
      | .inr u8_0 =>
        some ((u8_0)))
    (some (false))
def s_laws_eqGutter (n : Nat) (a0 : Int) (a1 : Int) (a2 : Nat → Int) (a3 : Int) (a4 : List V) (a5 : Int) (a6 : Int) (a7 : Nat → Int) (a8 : Int) (a9 : List V) : Option (Bool) :=
  cnd (decide ((a0) = (a5)))
    (cnd (decide ((a1) = (a6)))
      (bnd (s_laws_eqInt8A17 n a2 a7) fun y3_0 =>
        cnd (y3_0)
          (cnd (decide ((a3) = (a8)))
            (bnd (s_laws_eqPipeS n a4 a9) fun y6_0 =>
              cnd (y6_0)
                (some (true))
                (some (false)))
            (some (false)))
          (some (false)))
      (some (false)))
    (some (false))
def s_laws_FnExactSameGutter (n : Nat) (a0 : Int) (a1 : Int) (a2 : Nat → Int) (a3 : Int) (a4 : List V) (a5 : Int) (a6 : Int) (a7 : Nat → Int) (a8 : Int) (a9 : List V) : Option (Bool) :=
  bnd (s_laws_szGutter n a0 a1 a2 a3 a4 1048576) fun y1_0 =>
    cnd (decide ((y1_0) < (0)))
      (some (true))
      (bnd (s_laws_szGutter n a5 a6 a7 a8 a9 y1_0) fun y3_0 =>
        cnd (decide ((y3_0) < (0)))
          (some (true))
          (bnd (s_laws_toGutter n a0 a1 a2 a3 a4) fun (y5_0, y5_1, y5_2, y5_3, y5_4) =>
            bnd (s_laws_toGutter n a5 a6 a7 a8 a9) fun (y6_0, y6_1, y6_2, y6_3, y6_4) =>
              bnd (s_spec_SameGutter n y5_0 y5_1 y5_2 y5_3 y5_4 y6_0 y6_1 y6_2 y6_3 y6_4) fun y7_0 =>
                bnd (s_laws_toGutter n a0 a1 a2 a3 a4) fun (y8_0, y8_1, y8_2, y8_3, y8_4) =>
                  bnd (s_laws_toGutter n a5 a6 a7 a8 a9) fun (y9_0, y9_1, y9_2, y9_3, y9_4) =>
                    bnd (s_impl_SameGutter n y8_0 y8_1 y8_2 y8_3 y8_4 y9_0 y9_1 y9_2 y9_3 y9_4) fun y10_0 =>
                      cnd ((y10_0) == (y7_0))
                        (bnd (s_laws_toGutter n a0 a1 a2 a3 a4) fun (y12_0, y12_1, y12_2, y12_3, y12_4) =>
                          bnd (s_laws_eqGutter n y8_0 y8_1 y8_2 y8_3 y8_4 y12_0 y12_1 y12_2 y12_3 y12_4) fun y13_0 =>
                            cnd (y13_0)
                              (bnd (s_laws_toGutter n a5 a6 a7 a8 a9) fun (y15_0, y15_1, y15_2, y15_3, y15_4) =>
                                bnd (s_laws_eqGutter n y9_0 y9_1 y9_2 y9_3 y9_4 y15_0 y15_1 y15_2 y15_3 y15_4) fun y16_0 =>
                                  cnd (y16_0)
                                    (some (true))
                                    (some (false)))
                              (some (false)))
                        (some (false))))
def s_spec_l06Deep (n : Nat) (a0 : Int) : Option (Bool) :=
  bnd (s_spec_l00In n a0 0 1000) fun y1_0 =>
    some ((y1_0))
def l_spec_l06Ok_b0 : Nat → (Int) → (Int) → (Nat → Int) → (Int) → (List V) → (Int) →  Option (Sum (Int × Int × (Nat → Int) × Int × List V) (Bool))
  | 0, _, _, _, _, _, _ => none
  | n + 1, a0, a1, a2, a3, a4, a5 =>
    cnd (decide ((a5) < (17)))
      (chk (inB (a5) 17)
        (bnd (s_spec_l00In n (IntKind.i64.wrap ((a2) (0 + (a5).toNat * 1))) 0 9) fun y10_0 =>
          cnd (y10_0)
            (cnd (decide ((a0) ≤ (a5)))
              (cnd (decide (((a2) (0 + (a5).toNat * 1)) = (0)))
                (l_spec_l06Ok_b0 n a0 a1 a2 a3 a4 (IntKind.i8.wrap ((a5) + (1))))
                (some (.inr (false))))
              (l_spec_l06Ok_b0 n a0 a1 a2 a3 a4 (IntKind.i8.wrap ((a5) + (1)))))
            (some (.inr (false)))))
      (some (.inl ((a0, a1, a2, a3, a4))))
def l_spec_l06Ok_b2 : Nat → (Int) → (Int) → (Nat → Int) → (Int) → (List V) → (Int) →  Option (Sum (Unit) (Bool))
  | 0, _, _, _, _, _, _ => none
  | n + 1, a0, a1, a2, a3, a4, a5 =>
    cnd (decide ((a5) < (((a4).length : Int))))
      (bnd (bnd (idx (a4) (a5)) as_Pi8_i16Q) fun (e17_0, e17_1) =>
        cnd (decide ((e17_0) < (0)))
          (some (.inr (false)))
          (cnd (decide ((a0) ≤ (e17_0)))
            (some (.inr (false)))
            (bnd (s_spec_l06Deep n (IntKind.i64.wrap (e17_1))) fun y20_0 =>
              cnd (y20_0)
                (cnd (decide ((0) < (a5)))
                  (bnd (bnd (idx (a4) (IntKind.i64.wrap ((a5) - (1)))) as_Pi8_i16Q) fun (e23_0, e23_1) =>
                    cnd (decide ((e17_0) ≤ (e23_0)))
                      (some (.inr (false)))
                      (l_spec_l06Ok_b2 n a0 a1 a2 a3 a4 (IntKind.i64.wrap ((a5) + (1)))))
                  (l_spec_l06Ok_b2 n a0 a1 a2 a3 a4 (IntKind.i64.wrap ((a5) + (1)))))
                (some (.inr (false))))))
      (some (.inl (())))
def s_spec_l06Ok (n : Nat) (a0 : Int) (a1 : Int) (a2 : Nat → Int) (a3 : Int) (a4 : List V) : Option (Bool) :=
  bnd (s_spec_l00In n (IntKind.i64.wrap (a0)) 1 17) fun y1_0 =>
    cnd (y1_0)
      (bnd (s_spec_l06Deep n (IntKind.i64.wrap (a1))) fun y3_0 =>
        cnd (y3_0)
          (chk (decide (0 ≤ IntKind.u64.wrap (a0)))
            (cnd (decide (((a3).fdiv (2 ^ (min (IntKind.u64.wrap (a0)).toNat IntKind.u32.bits))) = (0)))
              (cnd (decide ((4) < (((a4).length : Int))))
                (some (false))
                (bnd (l_spec_l06Ok_b0 n a0 a1 a2 a3 a4 0) fun w => match w with
                  | .inl (u14_0, u14_1, u14_2, u14_3, u14_4) =>
                    bnd (l_spec_l06Ok_b2 n u14_0 u14_1 u14_2 u14_3 u14_4 0) fun w => match w with
                      | .inl _ =>
                        some (true)
                      | .inr u26_0 =>
                        some ((u26_0))
                  | .inr u27_0 =>
                    some ((u27_0))))
              (some (false))))
          (some (false)))
      (some (false))
def s_spec_ValidGutter (n : Nat) (a0 : Int) (a1 : Int) (a2 : Nat → Int) (a3 : Int) (a4 : List V) : Option (Bool) :=
  bnd (s_spec_l06Ok n a0 a1 a2 a3 a4) fun y1_0 =>
    some ((y1_0))
def s_impl_isDeep_int16 (n : Nat) (a0 : Int) : Option (Bool) :=
  bnd (s_impl_within_int64 n (IntKind.i64.wrap (a0)) 0 1000) fun y1_0 =>
    some ((y1_0))
def l_impl_ValidGutter_b0 : Nat → (Nat → Int) → (Int) → (Int) → (Int) → (Nat → Int) → (Int) → (List V) →  Option (Sum (Int × Int × (Nat → Int) × Int × List V) (Bool))
  | 0, _, _, _, _, _, _, _ => none
  | n + 1, a0, a1, a2, a3, a4, a5, a6 =>
    cnd (decide ((a1) < (17)))
      (chk (inB (a1) 17)
        (bnd (s_impl_within_int8 n ((a0) ((a1).toNat * 1)) 0 9) fun y10_0 =>
          cnd (y10_0)
            (cnd (decide (((a0) ((a1).toNat * 1)) = (0)))
              (l_impl_ValidGutter_b0 n a0 (IntKind.i64.wrap ((a1) + (1))) a2 a3 a4 a5 a6)
              (cnd (decide ((IntKind.i64.wrap (a2)) ≤ (a1)))
                (some (.inr (false)))
                (l_impl_ValidGutter_b0 n a0 (IntKind.i64.wrap ((a1) + (1))) a2 a3 a4 a5 a6)))
            (some (.inr (false)))))
      (some (.inl ((a2, a3, a4, a5, a6))))
def l_impl_ValidGutter_b2 : Nat → (List V) → (Int) → (Int) → (Int) → (Int) → (Nat → Int) → (Int) → (List V) →  Option (Sum (Unit) (Bool))
  | 0, _, _, _, _, _, _, _, _ => none
  | n + 1, a0, a1, a2, a3, a4, a5, a6, a7 =>
    cnd (decide ((a2) < (a1)))
      (bnd (bnd (idx (a0) (a2)) as_Pi8_i16Q) fun (e17_0, e17_1) =>
        bnd (s_impl_within_int8 n e17_0 0 (IntKind.i8.wrap ((a3) - (1)))) fun y18_0 =>
          cnd (y18_0)
            (bnd (s_impl_isDeep_int16 n e17_1) fun y20_0 =>
              cnd (y20_0)
                (cnd (decide ((0) < (a2)))
                  (bnd (bnd (idx (a7) (IntKind.i64.wrap ((a2) - (1)))) as_Pi8_i16Q) fun (e23_0, e23_1) =>
                    cnd (decide ((e17_0) ≤ (e23_0)))
                      (some (.inr (false)))
                      (l_impl_ValidGutter_b2 n a0 a1 (IntKind.i64.wrap ((a2) + (1))) a3 a4 a5 a6 a7))
                  (l_impl_ValidGutter_b2 n a0 a1 (IntKind.i64.wrap ((a2) + (1))) a3 a4 a5 a6 a7))
                (some (.inr (false))))
            (some (.inr (false))))
      (some (.inl (())))
def s_impl_ValidGutter (n : Nat) (a0 : Int) (a1 : Int) (a2 : Nat → Int) (a3 : Int) (a4 : List V) : Option (Bool) :=
  bnd (s_impl_within_int8 n a0 1 17) fun y1_0 =>
    cnd (y1_0)
      (bnd (s_impl_isDeep_int16 n a1) fun y3_0 =>
        cnd (y3_0)
          (chk (decide (0 ≤ a0))
            (cnd (decide (((a3).fdiv (2 ^ (min (a0).toNat IntKind.u32.bits))) = (0)))
              (cnd (decide ((4) < (((a4).length : Int))))
                (some (false))
                (bnd (l_impl_ValidGutter_b0 n a2 0 a0 a1 a2 a3 a4) fun w => match w with
                  | .inl (u14_0, u14_1, u14_2, u14_3, u14_4) =>
                    bnd (l_impl_ValidGutter_b2 n u14_4 (((u14_4).length : Int)) 0 u14_0 u14_1 u14_2 u14_3 u14_4) fun w => match w with
                      | .inl _ =>
                        some (true)
                      | .inr u26_0 =>
                        some ((u26_0))
                  | .inr u27_0 =>
                    some ((u27_0))))
              (some (false))))
          (some (false)))
      (some (false))
def s_laws_FnExactValidGutter (n : Nat) (a0 : Int) (a1 : Int) (a2 : Nat → Int) (a3 : Int) (a4 : List V) : Option (Bool) :=
  bnd (s_laws_szGutter n a0 a1 a2 a3 a4 1048576) fun y1_0 =>
    cnd (decide ((y1_0) < (0)))
      (some (true))
      (bnd (s_laws_toGutter n a0 a1 a2 a3 a4) fun (y3_0, y3_1, y3_2, y3_3, y3_4) =>
        bnd (s_spec_ValidGutter n y3_0 y3_1 y3_2 y3_3 y3_4) fun y4_0 =>
          bnd (s_laws_toGutter n a0 a1 a2 a3 a4) fun (y5_0, y5_1, y5_2, y5_3, y5_4) =>
            bnd (s_impl_ValidGutter n y5_0 y5_1 y5_2 y5_3 y5_4) fun y6_0 =>
              cnd ((y6_0) == (y4_0))
                (bnd (s_laws_toGutter n a0 a1 a2 a3 a4) fun (y8_0, y8_1, y8_2, y8_3, y8_4) =>
                  bnd (s_laws_eqGutter n y5_0 y5_1 y5_2 y5_3 y5_4 y8_0 y8_1 y8_2 y8_3 y8_4) fun y9_0 =>
                    cnd (y9_0)
                      (some (true))
                      (some (false)))
                (some (false)))
def l_laws_toWater_b0 : Nat → (Int) → (Nat → Int) → (Nat → Int) → (Nat → Int) →  Option ((Nat → Int) × (Nat → Int))
  | 0, _, _, _, _ => none
  | n + 1, a0, a1, a2, a3 =>
    cnd (decide ((a0) < (17)))
      (chk (inB (a0) 17)
        (l_laws_toWater_b0 n (IntKind.i64.wrap ((a0) + (1))) a1 a2 (updC (a3) (0 + (a0).toNat * 1) ((a1) (0 + (a0).toNat * 1)))))
      (some ((a2, a3)))
def s_laws_toWater (n : Nat) (a0 : Nat → Int) : Option ((Nat → Int)) :=
  bnd (l_laws_toWater_b0 n 0 a0 (fun _ => 0) (fun _ => 0)) fun (u3_0, u3_1) =>
    some (u3_1)
def l_spec_l06Water_b0 : Nat → (Int) → (Int) → (Nat → Int) → (Int) → (List V) → (Nat → Int) → (Int) →  Option (Sum (Unit) (Bool))
  | 0, _, _, _, _, _, _, _ => none
  | n + 1, a0, a1, a2, a3, a4, a5, a6 =>
    cnd (decide ((a6) < (17)))
      (chk (inB (a6) 17)
        (bnd (s_spec_l00In n (IntKind.i64.wrap ((a5) (0 + (a6).toNat * 1))) 0 (IntKind.i64.wrap (a1))) fun y5_0 =>
          cnd (y5_0)
            (cnd (decide ((a0) ≤ (a6)))
              (cnd (decide (((a5) (0 + (a6).toNat * 1)) = (0)))
                (l_spec_l06Water_b0 n a0 a1 a2 a3 a4 a5 (IntKind.i8.wrap ((a6) + (1))))
                (some (.inr (false))))
              (l_spec_l06Water_b0 n a0 a1 a2 a3 a4 a5 (IntKind.i8.wrap ((a6) + (1)))))
            (some (.inr (false)))))
      (some (.inl (())))
def s_spec_l06Water (n : Nat) (a0 : Int) (a1 : Int) (a2 : Nat → Int) (a3 : Int) (a4 : List V) (a5 : Nat → Int) : Option (Bool) :=
  bnd (s_spec_l06Ok n a0 a1 a2 a3 a4) fun y1_0 =>
    cnd (y1_0)
      (bnd (l_spec_l06Water_b0 n a0 a1 a2 a3 a4 a5 0) fun w => match w with
        | .inl _ =>
          some (true)
        | .inr u10_0 =>
          some ((u10_0)))
      (some (false))
def s_spec_ValidWater (n : Nat) (a0 : Int) (a1 : Int) (a2 : Nat → Int) (a3 : Int) (a4 : List V) (a5 : Nat → Int) : Option (Bool) :=
  bnd (s_spec_l06Water n a0 a1 a2 a3 a4 a5) fun y1_0 =>
    some ((y1_0))
def s_impl_within_int32 (n : Nat) (a0 : Int) (a1 : Int) (a2 : Int) : Option (Bool) :=
  cnd (decide ((a1) ≤ (a0)))
    (some ((decide ((a0) ≤ (a2)))))
    (some (false))
def l_impl_ValidWater_b0 : Nat → (Nat → Int) → (Int) → (Int) → (Int) → (Nat → Int) → (Int) → (List V) →  Option (Sum (Unit) (Bool))
  | 0, _, _, _, _, _, _, _ => none
  | n + 1, a0, a1, a2, a3, a4, a5, a6 =>
    cnd (decide ((a1) < (17)))
      (chk (inB (a1) 17)
        (bnd (s_impl_within_int32 n ((a0) ((a1).toNat * 1)) 0 (IntKind.i32.wrap (a3))) fun y5_0 =>
          cnd (y5_0)
            (cnd (decide (((a0) ((a1).toNat * 1)) = (0)))
              (l_impl_ValidWater_b0 n a0 (IntKind.i64.wrap ((a1) + (1))) a2 a3 a4 a5 a6)
              (cnd (decide ((IntKind.i64.wrap (a2)) ≤ (a1)))
                (some (.inr (false)))
                (l_impl_ValidWater_b0 n a0 (IntKind.i64.wrap ((a1) + (1))) a2 a3 a4 a5 a6)))
            (some (.inr (false)))))
      (some (.inl (())))
def s_impl_ValidWater (n : Nat) (a0 : Int) (a1 : Int) (a2 : Nat → Int) (a3 : Int) (a4 : List V) (a5 : Nat → Int) : Option (Bool) :=
  bnd (s_impl_ValidGutter n a0 a1 a2 a3 a4) fun y1_0 =>
    cnd (y1_0)
      (bnd (l_impl_ValidWater_b0 n a5 0 a0 a1 a2 a3 a4) fun w => match w with
        | .inl _ =>
          some (true)
        | .inr u10_0 =>
          some ((u10_0)))
      (some (false))
def s_laws_FnExactValidWater (n : Nat) (a0 : Int) (a1 : Int) (a2 : Nat → Int) (a3 : Int) (a4 : List V) (a5 : Nat → Int) : Option (Bool) :=
  bnd (s_laws_szGutter n a0 a1 a2 a3 a4 1048576) fun y1_0 =>
    cnd (decide ((y1_0) < (0)))
      (some (true))
      (bnd (s_laws_toGutter n a0 a1 a2 a3 a4) fun (y3_0, y3_1, y3_2, y3_3, y3_4) =>
        bnd (s_laws_toWater n a5) fun y4_0 =>
          bnd (s_spec_ValidWater n y3_0 y3_1 y3_2 y3_3 y3_4 y4_0) fun y5_0 =>
            bnd (s_laws_toGutter n a0 a1 a2 a3 a4) fun (y6_0, y6_1, y6_2, y6_3, y6_4) =>
              bnd (s_laws_toWater n a5) fun y7_0 =>
                bnd (s_impl_ValidWater n y6_0 y6_1 y6_2 y6_3 y6_4 y7_0) fun y8_0 =>
                  cnd ((y8_0) == (y5_0))
                    (bnd (s_laws_toGutter n a0 a1 a2 a3 a4) fun (y10_0, y10_1, y10_2, y10_3, y10_4) =>
                      bnd (s_laws_eqGutter n y6_0 y6_1 y6_2 y6_3 y6_4 y10_0 y10_1 y10_2 y10_3 y10_4) fun y11_0 =>
                        cnd (y11_0)
                          (some (true))
                          (some (false)))
                    (some (false)))
def s_spec_l06Cell (n : Nat) (a0 : Int) (a1 : Int) (a2 : Nat → Int) (a3 : Int) (a4 : List V) (a5 : Int) : Option (Bool) :=
  bnd (s_spec_l00In n a5 0 (IntKind.i64.wrap ((IntKind.i64.wrap (a0)) - (1)))) fun y1_0 =>
    some ((y1_0))
def s_spec_l06Asked (n : Nat) (a0 : Int) (a1 : Int) (a2 : Nat → Int) (a3 : Int) (a4 : List V) (a5 : Bool) : Option (Int) :=
  bnd (s_spec_l06Ok n a0 a1 a2 a3 a4) fun y1_0 =>
    cnd (y1_0)
      (cnd (a5)
        (some (0))
        (some (2)))
      (some (1))
def s_spec_l06Leaf (n : Nat) (a0 : Int) (a1 : Int) (a2 : Nat → Int) (a3 : Int) (a4 : List V) (a5 : Int) : Option (Bool) :=
  chk (decide (0 ≤ IntKind.u64.wrap (a5)))
    (some ((decide ((IntKind.u32.wrap (BitVec.ofInt IntKind.u32.bits ((a3).fdiv (2 ^ (min (IntKind.u64.wrap (a5)).toNat IntKind.u32.bits))) &&& BitVec.ofInt IntKind.u32.bits (1)).toNat) = (1)))))
def l_spec_l06Pipe_b0 : Nat → (Int) → (Int) → (Nat → Int) → (Int) → (List V) → (Int) → (Int) →  Option (Sum (Unit) (Bool))
  | 0, _, _, _, _, _, _, _ => none
  | n + 1, a0, a1, a2, a3, a4, a5, a6 =>
    cnd (decide ((a6) < (((a4).length : Int))))
      (bnd (bnd (idx (a4) (a6)) as_Pi8_i16Q) fun (e2_0, e2_1) =>
        cnd (decide ((IntKind.i64.wrap (e2_0)) = (a5)))
          (some (.inr (true)))
          (l_spec_l06Pipe_b0 n a0 a1 a2 a3 a4 a5 (IntKind.i64.wrap ((a6) + (1)))))
      (some (.inl (())))
def s_spec_l06Pipe (n : Nat) (a0 : Int) (a1 : Int) (a2 : Nat → Int) (a3 : Int) (a4 : List V) (a5 : Int) : Option (Bool) :=
  bnd (l_spec_l06Pipe_b0 n a0 a1 a2 a3 a4 a5 0) fun w => match w with
    | .inl _ =>
      some (false)
    | .inr u5_0 =>
      some ((u5_0))
def s_spec_l06To (n : Nat) (a0 : Int) (a1 : Int) (a2 : Nat → Int) (a3 : Int) (a4 : List V) (a5 : Int) : Option (Int) :=
  bnd (s_spec_l06Leaf n a0 a1 a2 a3 a4 a5) fun y1_0 =>
    cnd (y1_0)
      (some (-1))
      (bnd (s_spec_l06Pipe n a0 a1 a2 a3 a4 a5) fun y3_0 =>
        cnd (y3_0)
          (some (-1))
          (chk (inB (a5) 17)
            (cnd (decide ((0) < (a5)))
              (chk (inB (IntKind.i64.wrap ((a5) - (1))) 17)
                (cnd (decide (((a2) (0 + (IntKind.i64.wrap ((a5) - (1))).toNat * 1)) < ((a2) (0 + (a5).toNat * 1))))
                  (cnd (decide ((IntKind.i64.wrap ((a5) + (1))) < (IntKind.i64.wrap (a0))))
                    (chk (inB (IntKind.i64.wrap ((a5) + (1))) 17)
                      (cnd (decide (((a2) (0 + (IntKind.i64.wrap ((a5) + (1))).toNat * 1)) < ((a2) (0 + (IntKind.i64.wrap ((a5) - (1))).toNat * 1))))
                        (some (IntKind.i64.wrap ((a5) + (1))))
                        (some (IntKind.i64.wrap ((a5) - (1))))))
                    (some (IntKind.i64.wrap ((a5) - (1)))))
                  (cnd (decide ((IntKind.i64.wrap ((a5) + (1))) < (IntKind.i64.wrap (a0))))
                    (chk (inB (IntKind.i64.wrap ((a5) + (1))) 17)
                      (cnd (decide (((a2) (0 + (IntKind.i64.wrap ((a5) + (1))).toNat * 1)) < ((a2) (0 + (a5).toNat * 1))))
                        (some (IntKind.i64.wrap ((a5) + (1))))
                        (some (-1))))
                    (some (-1)))))
              (cnd (decide ((IntKind.i64.wrap ((a5) + (1))) < (IntKind.i64.wrap (a0))))
                (chk (inB (IntKind.i64.wrap ((a5) + (1))) 17)
                  (cnd (decide (((a2) (0 + (IntKind.i64.wrap ((a5) + (1))).toNat * 1)) < ((a2) (0 + (a5).toNat * 1))))
                    (some (IntKind.i64.wrap ((a5) + (1))))
                    (some (-1))))
                (some (-1))))))
def l_spec_l06End_b0 : Nat → (Int) → (Int) → (Nat → Int) → (Int) → (List V) → (Int) → (Int) →  Option (Int)
  | 0, _, _, _, _, _, _, _ => none
  | n + 1, a0, a1, a2, a3, a4, a5, a6 =>
    cnd (decide ((0) ≤ (a6)))
      (bnd (s_spec_l06To n a0 a1 a2 a3 a4 a6) fun y3_0 =>
        l_spec_l06End_b0 n a0 a1 a2 a3 a4 a6 y3_0)
      (some (a5))
def s_spec_l06End (n : Nat) (a0 : Int) (a1 : Int) (a2 : Nat → Int) (a3 : Int) (a4 : List V) (a5 : Int) : Option (Int) :=
  bnd (s_spec_l06To n a0 a1 a2 a3 a4 a5) fun y1_0 =>
    bnd (l_spec_l06End_b0 n a0 a1 a2 a3 a4 a5 y1_0) fun u4_0 =>
      some (u4_0)
def s_spec_EndOf (n : Nat) (a0 : Int) (a1 : Int) (a2 : Nat → Int) (a3 : Int) (a4 : List V) (a5 : Int) : Option (Int × Int) :=
  bnd (s_spec_l06Cell n a0 a1 a2 a3 a4 a5) fun y1_0 =>
    bnd (s_spec_l06Asked n a0 a1 a2 a3 a4 ((y1_0))) fun y2_0 =>
      cnd (decide ((y2_0) = (0)))
        (bnd (s_spec_l06End n a0 a1 a2 a3 a4 a5) fun y4_0 =>
          some ((y4_0, 0)))
        (some ((0, y2_0)))
def s_impl_Gutter_isIn (n : Nat) (a0 : Int) (a1 : Int) (a2 : Nat → Int) (a3 : Int) (a4 : List V) (a5 : Int) : Option (Bool) :=
  bnd (s_impl_within_int64 n a5 0 (IntKind.i64.wrap ((IntKind.i64.wrap (a0)) - (1)))) fun y1_0 =>
    some ((y1_0))
def s_impl_gutterCode (n : Nat) (a0 : Int) (a1 : Int) (a2 : Nat → Int) (a3 : Int) (a4 : List V) (a5 : Bool) : Option (Int) :=
  bnd (s_impl_ValidGutter n a0 a1 a2 a3 a4) fun y1_0 =>
    cnd (y1_0)
      (cnd (a5)
        (some (0))
        (some (2)))
      (some (1))
def s_impl_Gutter_hasLeaves (n : Nat) (a0 : Int) (a1 : Int) (a2 : Nat → Int) (a3 : Int) (a4 : List V) (a5 : Int) : Option (Bool) :=
  chk (decide (0 ≤ a5))
    (some ((decide ((IntKind.u32.wrap (BitVec.ofInt IntKind.u32.bits ((a3).fdiv (2 ^ (min (a5).toNat IntKind.u32.bits))) &&& BitVec.ofInt IntKind.u32.bits (1)).toNat) = (1)))))
def s_impl_Gutter_hasPipe_1 (n : Nat) (a0 : Int) (a1 : Int) (a2 : Int) : Option (Bool) :=
  some ((decide ((IntKind.i64.wrap (a0)) = (a2))))
def l_slices_IndexFunc_Simpl_Pipe_impl_Pipe__Gutter_hasPipe_1_b0 : Nat → (List V) → (Int) → (Int) → (Int) →  Option (Sum (Unit) (Int))
  | 0, _, _, _, _ => none
  | n + 1, a0, a1, a2, a3 =>
    cnd (decide ((a3) < (a2)))
      (bnd (bnd (idx (a0) (a3)) as_Pi8_i16Q) fun (e2_0, e2_1) =>
        bnd (s_impl_Gutter_hasPipe_1 n e2_0 e2_1 a1) fun y3_0 =>
          cnd (y3_0)
            (some (.inr (a3)))
            (l_slices_IndexFunc_Simpl_Pipe_impl_Pipe__Gutter_hasPipe_1_b0 n a0 a1 a2 (IntKind.i64.wrap ((a3) + (1)))))
      (some (.inl (())))
def s_slices_IndexFunc_Simpl_Pipe_impl_Pipe__Gutter_hasPipe_1 (n : Nat) (a0 : List V) (a1 : Int) : Option (Int) :=
  bnd (l_slices_IndexFunc_Simpl_Pipe_impl_Pipe__Gutter_hasPipe_1_b0 n a0 a1 (((a0).length : Int)) 0) fun w => match w with
    | .inl _ =>
      some (-1)
    | .inr u6_0 =>
      some (u6_0)
def s_slices_ContainsFunc_Simpl_Pipe_impl_Pipe__Gutter_hasPipe_1 (n : Nat) (a0 : List V) (a1 : Int) : Option (Bool) :=
  bnd (s_slices_IndexFunc_Simpl_Pipe_impl_Pipe__Gutter_hasPipe_1 n a0 a1) fun y1_0 =>
    some ((decide ((0) ≤ (y1_0))))
def s_impl_Gutter_hasPipe (n : Nat) (a0 : Int) (a1 : Int) (a2 : Nat → Int) (a3 : Int) (a4 : List V) (a5 : Int) : Option (Bool) :=
  bnd (s_slices_ContainsFunc_Simpl_Pipe_impl_Pipe__Gutter_hasPipe_1 n a4 a5) fun y1_0 =>
    some ((y1_0))
def l_impl_Gutter_flowsTo_b0 : Nat → (Int) → (Int) → (Int) → (Int) → (Int) → (Int) → (Nat → Int) → (Int) → (List V) → (List V) →  Option (Int)
  | 0, _, _, _, _, _, _, _, _, _, _ => none
  | n + 1, a0, a1, a2, a3, a4, a5, a6, a7, a8, a9 =>
    cnd (decide ((a3) < (a2)))
      (chk (inB (a3) (a9).length)
        (bnd (bnd (nth (a9) ((a3).toNat)) as_i64) fun e7_0 =>
          bnd (s_impl_within_int n e7_0 0 (IntKind.i64.wrap ((IntKind.i64.wrap (a4)) - (1)))) fun y8_0 =>
            cnd (y8_0)
              (chk (inB (e7_0) 17)
                (chk (inB (a0) 17)
                  (cnd (decide (((a6) (0 + (e7_0).toNat * 1)) < ((a6) (0 + (a0).toNat * 1))))
                    (cnd (decide ((a1) = (-1)))
                      (l_impl_Gutter_flowsTo_b0 n a0 e7_0 a2 (IntKind.i64.wrap ((a3) + (1))) a4 a5 a6 a7 a8 a9)
                      (chk (inB (a1) 17)
                        (cnd (decide (((a6) (0 + (e7_0).toNat * 1)) < ((a6) (0 + (a1).toNat * 1))))
                          (l_impl_Gutter_flowsTo_b0 n a0 e7_0 a2 (IntKind.i64.wrap ((a3) + (1))) a4 a5 a6 a7 a8 a9)
                          (l_impl_Gutter_flowsTo_b0 n a0 a1 a2 (IntKind.i64.wrap ((a3) + (1))) a4 a5 a6 a7 a8 a9))))
                    (l_impl_Gutter_flowsTo_b0 n a0 a1 a2 (IntKind.i64.wrap ((a3) + (1))) a4 a5 a6 a7 a8 a9))))
              (l_impl_Gutter_flowsTo_b0 n a0 a1 a2 (IntKind.i64.wrap ((a3) + (1))) a4 a5 a6 a7 a8 a9)))
      (some (a1))
def s_impl_Gutter_flowsTo (n : Nat) (a0 : Int) (a1 : Int) (a2 : Nat → Int) (a3 : Int) (a4 : List V) (a5 : Int) : Option (Int) :=
  bnd (s_impl_Gutter_hasLeaves n a0 a1 a2 a3 a4 a5) fun y1_0 =>
    cnd (y1_0)
      (some (-1))
      (bnd (s_impl_Gutter_hasPipe n a0 a1 a2 a3 a4 a5) fun y3_0 =>
        cnd (y3_0)
          (some (-1))
          (bnd (l_impl_Gutter_flowsTo_b0 n a5 (-1) ((([(V.int .i64 (IntKind.i64.wrap ((a5) - (1)))), (V.int .i64 (IntKind.i64.wrap ((a5) + (1))))]).length : Int)) 0 a0 a1 a2 a3 a4 ([(V.int .i64 (IntKind.i64.wrap ((a5) - (1)))), (V.int .i64 (IntKind.i64.wrap ((a5) + (1))))])) fun u16_0 =>
            some (u16_0)))
def l_impl_Gutter_end_b0 : Nat → (Int) → (Int) → (Int) → (Int) → (Nat → Int) → (Int) → (List V) →  Option (Int)
  | 0, _, _, _, _, _, _, _ => none
  | n + 1, a0, a1, a2, a3, a4, a5, a6 =>
    cnd (decide ((a1) = (-1)))
      (some (a0))
      (bnd (s_impl_Gutter_flowsTo n a2 a3 a4 a5 a6 a1) fun y3_0 =>
        l_impl_Gutter_end_b0 n a1 y3_0 a2 a3 a4 a5 a6)
def s_impl_Gutter_end (n : Nat) (a0 : Int) (a1 : Int) (a2 : Nat → Int) (a3 : Int) (a4 : List V) (a5 : Int) : Option (Int) :=
  bnd (s_impl_Gutter_flowsTo n a0 a1 a2 a3 a4 a5) fun y1_0 =>
    bnd (l_impl_Gutter_end_b0 n a5 y1_0 a0 a1 a2 a3 a4) fun u4_0 =>
      some (u4_0)
def s_impl_EndOf (n : Nat) (a0 : Int) (a1 : Int) (a2 : Nat → Int) (a3 : Int) (a4 : List V) (a5 : Int) : Option (Int × Int) :=
  bnd (s_impl_Gutter_isIn n a0 a1 a2 a3 a4 a5) fun y1_0 =>
    bnd (s_impl_gutterCode n a0 a1 a2 a3 a4 ((y1_0))) fun y2_0 =>
      cnd (decide ((y2_0) = (0)))
        (bnd (s_impl_Gutter_end n a0 a1 a2 a3 a4 a5) fun y4_0 =>
          some ((y4_0, 0)))
        (some ((0, y2_0)))
def s_laws_FnExactEndOf (n : Nat) (a0 : Int) (a1 : Int) (a2 : Nat → Int) (a3 : Int) (a4 : List V) (a5 : Int) : Option (Bool) :=
  bnd (s_laws_szGutter n a0 a1 a2 a3 a4 1048576) fun y1_0 =>
    cnd (decide ((y1_0) < (0)))
      (some (true))
      (bnd (s_laws_toGutter n a0 a1 a2 a3 a4) fun (y3_0, y3_1, y3_2, y3_3, y3_4) =>
        bnd (s_spec_EndOf n y3_0 y3_1 y3_2 y3_3 y3_4 a5) fun (y4_0, y4_1) =>
          bnd (s_laws_toGutter n a0 a1 a2 a3 a4) fun (y5_0, y5_1, y5_2, y5_3, y5_4) =>
            bnd (s_impl_EndOf n y5_0 y5_1 y5_2 y5_3 y5_4 a5) fun (y6_0, y6_1) =>
              cnd (decide ((y6_0) = (y4_0)))
                (cnd (decide ((y6_1) = (y4_1)))
                  (bnd (s_laws_toGutter n a0 a1 a2 a3 a4) fun (y9_0, y9_1, y9_2, y9_3, y9_4) =>
                    bnd (s_laws_eqGutter n y5_0 y5_1 y5_2 y5_3 y5_4 y9_0 y9_1 y9_2 y9_3 y9_4) fun y10_0 =>
                      cnd (y10_0)
                        (some (true))
                        (some (false)))
                  (some (false)))
                (some (false)))
def l_spec_FlowsTo_b0 : Nat → (Int) → (Int) → (Int) → (Nat → Int) → (Int) → (List V) → (List V) →  Option (List V)
  | 0, _, _, _, _, _, _, _ => none
  | n + 1, a0, a1, a2, a3, a4, a5, a6 =>
    cnd (decide ((a0) < (IntKind.i64.wrap (a1))))
      (bnd (s_spec_l06To n a1 a2 a3 a4 a5 a0) fun y4_0 =>
        chk (decide (((a6).length + ([(V.int .i64 (y4_0))]).length) * 8 ≤ 140737488355328))
          (l_spec_FlowsTo_b0 n (IntKind.i64.wrap ((a0) + (1))) a1 a2 a3 a4 a5 (a6 ++ ([(V.int .i64 (y4_0))]))))
      (some (a6))
def s_spec_FlowsTo (n : Nat) (a0 : Int) (a1 : Int) (a2 : Nat → Int) (a3 : Int) (a4 : List V) : Option (List V × Int) :=
  bnd (s_spec_l06Ok n a0 a1 a2 a3 a4) fun y1_0 =>
    cnd (y1_0)
      (bnd (l_spec_FlowsTo_b0 n 0 a0 a1 a2 a3 a4 ([])) fun u6_0 =>
        some ((u6_0, 0)))
      (some (([], 1)))
def s_impl_Gutter_cells (n : Nat) (a0 : Int) (a1 : Int) (a2 : Nat → Int) (a3 : Int) (a4 : List V) : Option (List V) :=
  bnd (s_impl_upTo n (IntKind.i64.wrap (a0))) fun y1_0 =>
    some (y1_0)
def s_impl_FlowsTo_1 (n : Nat) (a0 : Int) (a1 : Int) (a2 : Int) (a3 : Nat → Int) (a4 : Int) (a5 : List V) : Option (Int) :=
  bnd (s_impl_Gutter_flowsTo n a1 a2 a3 a4 a5 a0) fun y1_0 =>
    some (y1_0)
def l_impl_each_int_int64__FlowsTo_1_b0 : Nat → (Int) → (Int) → (Nat → Int) → (Int) → (List V) → (List V) → (Int) → (Int) → (List V) →  Option (List V)
  | 0, _, _, _, _, _, _, _, _, _ => none
  | n + 1, a0, a1, a2, a3, a4, a5, a6, a7, a8 =>
    cnd (decide ((a7) < (a6)))
      (bnd (bnd (idx (a5) (a7)) as_i64) fun e2_0 =>
        bnd (s_impl_FlowsTo_1 n e2_0 a0 a1 a2 a3 a4) fun y3_0 =>
          chk (decide (((a8).length + ([(V.int .i64 (y3_0))]).length) * 8 ≤ 140737488355328))
            (l_impl_each_int_int64__FlowsTo_1_b0 n a0 a1 a2 a3 a4 a5 a6 (IntKind.i64.wrap ((a7) + (1))) (a8 ++ ([(V.int .i64 (y3_0))]))))
      (some (a8))
def s_impl_each_int_int64__FlowsTo_1 (n : Nat) (a0 : List V) (a1 : Int) (a2 : Int) (a3 : Nat → Int) (a4 : Int) (a5 : List V) : Option (List V) :=
  bnd (l_impl_each_int_int64__FlowsTo_1_b0 n a1 a2 a3 a4 a5 a0 (((a0).length : Int)) 0 (([] : List V))) fun u5_0 =>
    some (u5_0)
def s_impl_FlowsTo (n : Nat) (a0 : Int) (a1 : Int) (a2 : Nat → Int) (a3 : Int) (a4 : List V) : Option (List V × Int) :=
  bnd (s_impl_ValidGutter n a0 a1 a2 a3 a4) fun y1_0 =>
    cnd (y1_0)
      (bnd (s_impl_Gutter_cells n a0 a1 a2 a3 a4) fun y3_0 =>
        bnd (s_impl_each_int_int64__FlowsTo_1 n y3_0 a0 a1 a2 a3 a4) fun y4_0 =>
          chk (plainV (V.fresh 0 (y4_0)))
            (some ((y4_0, 0))))
      (some ((([] : List V), 1)))
def l_laws_markPipeS_b0 : Nat → (Int) → (Int) → (List V) →  Option (Int × List V)
  | 0, _, _, _ => none
  | n + 1, a0, a1, a2 =>
    cnd (decide ((a1) < (((a2).length : Int))))
      (chk (inB (a1) (a2).length)
        (bnd (bnd (nth (a2) ((a1).toNat)) as_Pi8_i16Q) fun (e3_0, e3_1) =>
          bnd (bnd (nth (a2) ((a1).toNat)) as_Pi8_i16Q) fun (e4_0, e4_1) =>
            chk (inB (a1) (setNth (a2) ((a1).toNat) (V.parts [(V.int .i8 (IntKind.i8.wrap (a0))), (V.int .i16 (e4_1))])).length)
              (bnd (bnd (nth (setNth (a2) ((a1).toNat) (V.parts [(V.int .i8 (IntKind.i8.wrap (a0))), (V.int .i16 (e4_1))])) ((a1).toNat)) as_Pi8_i16Q) fun (e6_0, e6_1) =>
                bnd (bnd (nth (setNth (a2) ((a1).toNat) (V.parts [(V.int .i8 (IntKind.i8.wrap (a0))), (V.int .i16 (e4_1))])) ((a1).toNat)) as_Pi8_i16Q) fun (e7_0, e7_1) =>
                  l_laws_markPipeS_b0 n (IntKind.i64.wrap ((IntKind.i64.wrap ((a0) + (1))) + (1))) (IntKind.i64.wrap ((a1) + (1))) (setNth (setNth (a2) ((a1).toNat) (V.parts [(V.int .i8 (IntKind.i8.wrap (a0))), (V.int .i16 (e4_1))])) ((a1).toNat) (V.parts [(V.int .i8 (e7_0)), (V.int .i16 (IntKind.i16.wrap (IntKind.i64.wrap ((a0) + (1)))))])))))
      (some ((a0, a2)))
def s_laws_markPipeS (n : Nat) (a0 : List V) (a1 : Int) : Option (Int × List V) :=
  bnd (l_laws_markPipeS_b0 n a1 0 a0) fun (u8_0, u8_1) =>
    some ((u8_0, u8_1))
def s_laws_markGutter (n : Nat) (a0 : Int) (a1 : Int) (a2 : Nat → Int) (a3 : Int) (a4 : List V) (a5 : Int) : Option (Int × List V) :=
  bnd (s_laws_markPipeS n a4 a5) fun (y1_0, y1_1) =>
    chk (likeRows (a4) (y1_1))
      (some ((y1_0, y1_1)))
def s_laws_FnExactFlowsTo (n : Nat) (a0 : Int) (a1 : Int) (a2 : Nat → Int) (a3 : Int) (a4 : List V) : Option (Bool) :=
  bnd (s_laws_szGutter n a0 a1 a2 a3 a4 1048576) fun y1_0 =>
    cnd (decide ((y1_0) < (0)))
      (some (true))
      (bnd (s_laws_toGutter n a0 a1 a2 a3 a4) fun (y3_0, y3_1, y3_2, y3_3, y3_4) =>
        bnd (s_spec_FlowsTo n y3_0 y3_1 y3_2 y3_3 y3_4) fun (y4_0, y4_1) =>
          chk (plainV (V.tup [(V.fresh 0 (y4_0)), (V.int .i64 (y4_1))]))
            (bnd (s_laws_toGutter n a0 a1 a2 a3 a4) fun (y6_0, y6_1, y6_2, y6_3, y6_4) =>
              bnd (s_impl_FlowsTo n y6_0 y6_1 y6_2 y6_3 y6_4) fun (y7_0, y7_1) =>
                chk (plainV (V.tup [(V.fresh 0 (y7_0)), (V.int .i64 (y7_1))]))
                  (bnd (s_laws_eqInt64S n y7_0 y4_0) fun y9_0 =>
                    cnd (y9_0)
                      (cnd (decide ((y7_1) = (y4_1)))
                        (bnd (s_laws_toGutter n a0 a1 a2 a3 a4) fun (y12_0, y12_1, y12_2, y12_3, y12_4) =>
                          bnd (s_laws_eqGutter n y6_0 y6_1 y6_2 y6_3 y6_4 y12_0 y12_1 y12_2 y12_3 y12_4) fun y13_0 =>
                            cnd (y13_0)
                              (bnd (s_laws_markGutter n y6_0 y6_1 y6_2 y6_3 y6_4 1) fun (y15_0, y15_1) =>
                                chk (likeRows (y6_4) (y15_1))
                                  (cnd (decide ((y15_0) < (0)))
                                    (some (false))
                                    (bnd (s_laws_eqInt64S n y7_0 y4_0) fun y18_0 =>
                                      cnd (y18_0)
                                        (bnd (s_laws_markInt64S n y7_0 1) fun (y20_0, y20_1) =>
                                          chk (likeRows (y7_0) (y20_1))
                                            (bnd (s_laws_heldInt64S n y20_1 1) fun y22_0 =>
                                              cnd (decide ((y22_0) < (0)))
                                                (some (false))
                                                (cnd (decide ((y22_0) = (y20_0)))
                                                  (bnd (s_laws_toGutter n a0 a1 a2 a3 a4) fun (y25_0, y25_1, y25_2, y25_3, y25_4) =>
                                                    bnd (s_impl_FlowsTo n y25_0 y25_1 y25_2 y25_3 y25_4) fun (y26_0, y26_1) =>
                                                      chk (plainV (V.tup [(V.fresh 0 (y26_0)), (V.int .i64 (y26_1))]))
                                                        (bnd (s_laws_eqInt64S n y26_0 y4_0) fun y28_0 =>
                                                          cnd (y28_0)
                                                            (cnd (decide ((y26_1) = (y4_1)))
                                                              (bnd (s_laws_heldInt64S n y20_1 1) fun y31_0 =>
                                                                cnd (decide ((y31_0) < (0)))
                                                                  (some (false))
                                                                  (cnd (decide ((y31_0) = (y20_0)))
                                                                    (some (true))
                                                                    (some (false))))
                                                              (some (false)))
                                                            (some (false))))
                                                  (some (false)))))
                                        (some (false)))))
                              (some (false)))
                        (some (false)))
                      (some (false)))))
def l_spec_FewestPipes_b0 : Nat → (Int) → (Int) → (Int) → (Nat → Int) → (Int) → (List V) → (List V) → (Int) → (Int) → (Nat → Int) → (Int) → (List V) →  Option (List V)
  | 0, _, _, _, _, _, _, _, _, _, _, _, _ => none
  | n + 1, a0, a1, a2, a3, a4, a5, a6, a7, a8, a9, a10, a11 =>
    cnd (decide ((a0) < (IntKind.i64.wrap (a1))))
      (bnd (s_spec_l06To n a7 a8 a9 a10 a11 a0) fun y4_0 =>
        cnd (decide ((y4_0) < (0)))
          (chk (decide (((a6).length + ([(V.int .i64 (a0))]).length) * 8 ≤ 140737488355328))
            (l_spec_FewestPipes_b0 n (IntKind.i64.wrap ((a0) + (1))) a1 a2 a3 a4 a5 (a6 ++ ([(V.int .i64 (a0))])) a7 a8 a9 a10 a11))
          (l_spec_FewestPipes_b0 n (IntKind.i64.wrap ((a0) + (1))) a1 a2 a3 a4 a5 a6 a7 a8 a9 a10 a11))
      (some (a6))
def s_spec_FewestPipes (n : Nat) (a0 : Int) (a1 : Int) (a2 : Nat → Int) (a3 : Int) (a4 : List V) : Option (List V × Int) :=
  bnd (s_spec_l06Ok n a0 a1 a2 a3 a4) fun y1_0 =>
    cnd (y1_0)
      (bnd (l_spec_FewestPipes_b0 n 0 a0 a1 a2 a3 a4 ([]) a0 a1 a2 a3 ([])) fun u7_0 =>
        some ((u7_0, 0)))
      (some (([], 1)))
def s_impl_FewestPipes_1 (n : Nat) (a0 : Int) (a1 : Int) (a2 : Int) (a3 : Nat → Int) (a4 : Int) (a5 : List V) : Option (Bool) :=
  bnd (s_impl_Gutter_flowsTo n a1 a2 a3 a4 a5 a0) fun y1_0 =>
    some ((decide ((y1_0) = (-1))))
def l_impl_Gutter_which__FewestPipes_1_b0 : Nat → (Int) → (Int) → (Nat → Int) → (Int) → (List V) → (Int) → (Int) → (List V) → (List V) →  Option (List V)
  | 0, _, _, _, _, _, _, _, _, _ => none
  | n + 1, a0, a1, a2, a3, a4, a5, a6, a7, a8 =>
    cnd (decide ((a6) < (a5)))
      (chk (inB (a6) (a8).length)
        (bnd (bnd (nth (a8) ((a6).toNat)) as_i64) fun e4_0 =>
          bnd (s_impl_FewestPipes_1 n e4_0 a0 a1 a2 a3 a4) fun y5_0 =>
            cnd (y5_0)
              (chk (decide (((a7).length + ([(V.int .i64 (e4_0))]).length) * 8 ≤ 140737488355328))
                (l_impl_Gutter_which__FewestPipes_1_b0 n a0 a1 a2 a3 a4 a5 (IntKind.i64.wrap ((a6) + (1))) (a7 ++ ([(V.int .i64 (e4_0))])) a8))
              (l_impl_Gutter_which__FewestPipes_1_b0 n a0 a1 a2 a3 a4 a5 (IntKind.i64.wrap ((a6) + (1))) a7 a8)))
      (some (a7))
def s_impl_Gutter_which__FewestPipes_1 (n : Nat) (a0 : Int) (a1 : Int) (a2 : Nat → Int) (a3 : Int) (a4 : List V) (a5 : Int) (a6 : Int) (a7 : Nat → Int) (a8 : Int) (a9 : List V) : Option (List V) :=
  bnd (s_impl_Gutter_cells n a0 a1 a2 a3 a4) fun y1_0 =>
    bnd (l_impl_Gutter_which__FewestPipes_1_b0 n a5 a6 a7 a8 a9 (((y1_0).length : Int)) 0 (([] : List V)) y1_0) fun u8_0 =>
      some (u8_0)
def s_impl_FewestPipes (n : Nat) (a0 : Int) (a1 : Int) (a2 : Nat → Int) (a3 : Int) (a4 : List V) : Option (List V × Int) :=
  bnd (s_impl_ValidGutter n a0 a1 a2 a3 a4) fun y1_0 =>
    cnd (y1_0)
      (bnd (s_impl_Gutter_which__FewestPipes_1 n a0 a1 a2 a3 (([] : List V)) a0 a1 a2 a3 (([] : List V))) fun y3_0 =>
        chk (plainV (V.fresh 0 (y3_0)))
          (some ((y3_0, 0))))
      (some ((([] : List V), 1)))
def s_laws_FnExactFewestPipes (n : Nat) (a0 : Int) (a1 : Int) (a2 : Nat → Int) (a3 : Int) (a4 : List V) : Option (Bool) :=
  bnd (s_laws_szGutter n a0 a1 a2 a3 a4 1048576) fun y1_0 =>
    cnd (decide ((y1_0) < (0)))
      (some (true))
      (bnd (s_laws_toGutter n a0 a1 a2 a3 a4) fun (y3_0, y3_1, y3_2, y3_3, y3_4) =>
        bnd (s_spec_FewestPipes n y3_0 y3_1 y3_2 y3_3 y3_4) fun (y4_0, y4_1) =>
          chk (plainV (V.tup [(V.fresh 0 (y4_0)), (V.int .i64 (y4_1))]))
            (bnd (s_laws_toGutter n a0 a1 a2 a3 a4) fun (y6_0, y6_1, y6_2, y6_3, y6_4) =>
              bnd (s_impl_FewestPipes n y6_0 y6_1 y6_2 y6_3 y6_4) fun (y7_0, y7_1) =>
                chk (plainV (V.tup [(V.fresh 0 (y7_0)), (V.int .i64 (y7_1))]))
                  (bnd (s_laws_eqInt64S n y7_0 y4_0) fun y9_0 =>
                    cnd (y9_0)
                      (cnd (decide ((y7_1) = (y4_1)))
                        (bnd (s_laws_toGutter n a0 a1 a2 a3 a4) fun (y12_0, y12_1, y12_2, y12_3, y12_4) =>
                          bnd (s_laws_eqGutter n y6_0 y6_1 y6_2 y6_3 y6_4 y12_0 y12_1 y12_2 y12_3 y12_4) fun y13_0 =>
                            cnd (y13_0)
                              (bnd (s_laws_markGutter n y6_0 y6_1 y6_2 y6_3 y6_4 1) fun (y15_0, y15_1) =>
                                chk (likeRows (y6_4) (y15_1))
                                  (cnd (decide ((y15_0) < (0)))
                                    (some (false))
                                    (bnd (s_laws_eqInt64S n y7_0 y4_0) fun y18_0 =>
                                      cnd (y18_0)
                                        (bnd (s_laws_markInt64S n y7_0 1) fun (y20_0, y20_1) =>
                                          chk (likeRows (y7_0) (y20_1))
                                            (bnd (s_laws_heldInt64S n y20_1 1) fun y22_0 =>
                                              cnd (decide ((y22_0) < (0)))
                                                (some (false))
                                                (cnd (decide ((y22_0) = (y20_0)))
                                                  (bnd (s_laws_toGutter n a0 a1 a2 a3 a4) fun (y25_0, y25_1, y25_2, y25_3, y25_4) =>
                                                    bnd (s_impl_FewestPipes n y25_0 y25_1 y25_2 y25_3 y25_4) fun (y26_0, y26_1) =>
                                                      chk (plainV (V.tup [(V.fresh 0 (y26_0)), (V.int .i64 (y26_1))]))
                                                        (bnd (s_laws_eqInt64S n y26_0 y4_0) fun y28_0 =>
                                                          cnd (y28_0)
                                                            (cnd (decide ((y26_1) = (y4_1)))
                                                              (bnd (s_laws_heldInt64S n y20_1 1) fun y31_0 =>
                                                                cnd (decide ((y31_0) < (0)))
                                                                  (some (false))
                                                                  (cnd (decide ((y31_0) = (y20_0)))
                                                                    (some (true))
                                                                    (some (false))))
                                                              (some (false)))
                                                            (some (false))))
                                                  (some (false)))))
                                        (some (false)))))
                              (some (false)))
                        (some (false)))
                      (some (false)))))
def l_spec_Undrained_b0 : Nat → (Int) → (Int) → (Int) → (Nat → Int) → (Int) → (List V) → (List V) →  Option (List V)
  | 0, _, _, _, _, _, _, _ => none
  | n + 1, a0, a1, a2, a3, a4, a5, a6 =>
    cnd (decide ((a0) < (IntKind.i64.wrap (a1))))
      (bnd (s_spec_l06End n a1 a2 a3 a4 a5 a0) fun y4_0 =>
        bnd (s_spec_l06Pipe n a1 a2 a3 a4 a5 y4_0) fun y5_0 =>
          cnd (y5_0)
            (l_spec_Undrained_b0 n (IntKind.i64.wrap ((a0) + (1))) a1 a2 a3 a4 a5 a6)
            (chk (decide (((a6).length + ([(V.int .i64 (a0))]).length) * 8 ≤ 140737488355328))
              (l_spec_Undrained_b0 n (IntKind.i64.wrap ((a0) + (1))) a1 a2 a3 a4 a5 (a6 ++ ([(V.int .i64 (a0))])))))
      (some (a6))
def s_spec_Undrained (n : Nat) (a0 : Int) (a1 : Int) (a2 : Nat → Int) (a3 : Int) (a4 : List V) : Option (List V × Int) :=
  bnd (s_spec_l06Ok n a0 a1 a2 a3 a4) fun y1_0 =>
    cnd (y1_0)
      (bnd (l_spec_Undrained_b0 n 0 a0 a1 a2 a3 a4 ([])) fun u8_0 =>
        some ((u8_0, 0)))
      (some (([], 1)))
def s_impl_Undrained_1 (n : Nat) (a0 : Int) (a1 : Int) (a2 : Int) (a3 : Nat → Int) (a4 : Int) (a5 : List V) : Option (Bool) :=
  bnd (s_impl_Gutter_end n a1 a2 a3 a4 a5 a0) fun y1_0 =>
    bnd (s_impl_Gutter_hasPipe n a1 a2 a3 a4 a5 y1_0) fun y2_0 =>
      some ((!(y2_0)))
def l_impl_Gutter_which__Undrained_1_b0 : Nat → (Int) → (Int) → (Nat → Int) → (Int) → (List V) → (Int) → (Int) → (List V) → (List V) →  Option (List V)
  | 0, _, _, _, _, _, _, _, _, _ => none
  | n + 1, a0, a1, a2, a3, a4, a5, a6, a7, a8 =>
    cnd (decide ((a6) < (a5)))
      (chk (inB (a6) (a8).length)
        (bnd (bnd (nth (a8) ((a6).toNat)) as_i64) fun e4_0 =>
          bnd (s_impl_Undrained_1 n e4_0 a0 a1 a2 a3 a4) fun y5_0 =>
            cnd (y5_0)
              (chk (decide (((a7).length + ([(V.int .i64 (e4_0))]).length) * 8 ≤ 140737488355328))
                (l_impl_Gutter_which__Undrained_1_b0 n a0 a1 a2 a3 a4 a5 (IntKind.i64.wrap ((a6) + (1))) (a7 ++ ([(V.int .i64 (e4_0))])) a8))
              (l_impl_Gutter_which__Undrained_1_b0 n a0 a1 a2 a3 a4 a5 (IntKind.i64.wrap ((a6) + (1))) a7 a8)))
      (some (a7))
def s_impl_Gutter_which__Undrained_1 (n : Nat) (a0 : Int) (a1 : Int) (a2 : Nat → Int) (a3 : Int) (a4 : List V) (a5 : Int) (a6 : Int) (a7 : Nat → Int) (a8 : Int) (a9 : List V) : Option (List V) :=
  bnd (s_impl_Gutter_cells n a0 a1 a2 a3 a4) fun y1_0 =>
    bnd (l_impl_Gutter_which__Undrained_1_b0 n a5 a6 a7 a8 a9 (((y1_0).length : Int)) 0 (([] : List V)) y1_0) fun u8_0 =>
      some (u8_0)
def s_impl_Undrained (n : Nat) (a0 : Int) (a1 : Int) (a2 : Nat → Int) (a3 : Int) (a4 : List V) : Option (List V × Int) :=
  bnd (s_impl_ValidGutter n a0 a1 a2 a3 a4) fun y1_0 =>
    cnd (y1_0)
      (bnd (s_impl_Gutter_which__Undrained_1 n a0 a1 a2 a3 a4 a0 a1 a2 a3 a4) fun y3_0 =>
        chk (plainV (V.fresh 0 (y3_0)))
          (some ((y3_0, 0))))
      (some ((([] : List V), 1)))
def s_laws_FnExactUndrained (n : Nat) (a0 : Int) (a1 : Int) (a2 : Nat → Int) (a3 : Int) (a4 : List V) : Option (Bool) :=
  bnd (s_laws_szGutter n a0 a1 a2 a3 a4 1048576) fun y1_0 =>
    cnd (decide ((y1_0) < (0)))
      (some (true))
      (bnd (s_laws_toGutter n a0 a1 a2 a3 a4) fun (y3_0, y3_1, y3_2, y3_3, y3_4) =>
        bnd (s_spec_Undrained n y3_0 y3_1 y3_2 y3_3 y3_4) fun (y4_0, y4_1) =>
          chk (plainV (V.tup [(V.fresh 0 (y4_0)), (V.int .i64 (y4_1))]))
            (bnd (s_laws_toGutter n a0 a1 a2 a3 a4) fun (y6_0, y6_1, y6_2, y6_3, y6_4) =>
              bnd (s_impl_Undrained n y6_0 y6_1 y6_2 y6_3 y6_4) fun (y7_0, y7_1) =>
                chk (plainV (V.tup [(V.fresh 0 (y7_0)), (V.int .i64 (y7_1))]))
                  (bnd (s_laws_eqInt64S n y7_0 y4_0) fun y9_0 =>
                    cnd (y9_0)
                      (cnd (decide ((y7_1) = (y4_1)))
                        (bnd (s_laws_toGutter n a0 a1 a2 a3 a4) fun (y12_0, y12_1, y12_2, y12_3, y12_4) =>
                          bnd (s_laws_eqGutter n y6_0 y6_1 y6_2 y6_3 y6_4 y12_0 y12_1 y12_2 y12_3 y12_4) fun y13_0 =>
                            cnd (y13_0)
                              (bnd (s_laws_markGutter n y6_0 y6_1 y6_2 y6_3 y6_4 1) fun (y15_0, y15_1) =>
                                chk (likeRows (y6_4) (y15_1))
                                  (cnd (decide ((y15_0) < (0)))
                                    (some (false))
                                    (bnd (s_laws_eqInt64S n y7_0 y4_0) fun y18_0 =>
                                      cnd (y18_0)
                                        (bnd (s_laws_markInt64S n y7_0 1) fun (y20_0, y20_1) =>
                                          chk (likeRows (y7_0) (y20_1))
                                            (bnd (s_laws_heldInt64S n y20_1 1) fun y22_0 =>
                                              cnd (decide ((y22_0) < (0)))
                                                (some (false))
                                                (cnd (decide ((y22_0) = (y20_0)))
                                                  (bnd (s_laws_toGutter n a0 a1 a2 a3 a4) fun (y25_0, y25_1, y25_2, y25_3, y25_4) =>
                                                    bnd (s_impl_Undrained n y25_0 y25_1 y25_2 y25_3 y25_4) fun (y26_0, y26_1) =>
                                                      chk (plainV (V.tup [(V.fresh 0 (y26_0)), (V.int .i64 (y26_1))]))
                                                        (bnd (s_laws_eqInt64S n y26_0 y4_0) fun y28_0 =>
                                                          cnd (y28_0)
                                                            (cnd (decide ((y26_1) = (y4_1)))
                                                              (bnd (s_laws_heldInt64S n y20_1 1) fun y31_0 =>
                                                                cnd (decide ((y31_0) < (0)))
                                                                  (some (false))
                                                                  (cnd (decide ((y31_0) = (y20_0)))
                                                                    (some (true))
                                                                    (some (false))))
                                                              (some (false)))
                                                            (some (false))))
                                                  (some (false)))))
                                        (some (false)))))
                              (some (false)))
                        (some (false)))
                      (some (false)))))
def l_spec_BasinOf_b0 : Nat → (Int) → (Int) → (Int) → (Int) → (Nat → Int) → (Int) → (List V) → (List V) →  Option (List V)
  | 0, _, _, _, _, _, _, _, _ => none
  | n + 1, a0, a1, a2, a3, a4, a5, a6, a7 =>
    cnd (decide ((a1) < (IntKind.i64.wrap (a2))))
      (bnd (s_spec_l06End n a2 a3 a4 a5 a6 a1) fun y5_0 =>
        cnd (decide ((y5_0) = (a0)))
          (chk (decide (((a7).length + ([(V.int .i64 (a1))]).length) * 8 ≤ 140737488355328))
            (l_spec_BasinOf_b0 n a0 (IntKind.i64.wrap ((a1) + (1))) a2 a3 a4 a5 a6 (a7 ++ ([(V.int .i64 (a1))]))))
          (l_spec_BasinOf_b0 n a0 (IntKind.i64.wrap ((a1) + (1))) a2 a3 a4 a5 a6 a7))
      (some (a7))
def s_spec_BasinOf (n : Nat) (a0 : Int) (a1 : Int) (a2 : Nat → Int) (a3 : Int) (a4 : List V) (a5 : Int) : Option (List V × Int) :=
  bnd (s_spec_l06Cell n a0 a1 a2 a3 a4 a5) fun y1_0 =>
    bnd (s_spec_l06Asked n a0 a1 a2 a3 a4 ((y1_0))) fun y2_0 =>
      cnd (decide ((y2_0) = (0)))
        (bnd (l_spec_BasinOf_b0 n a5 0 a0 a1 a2 a3 a4 ([])) fun u8_0 =>
          some ((u8_0, 0)))
        (some (([], y2_0)))
def s_impl_BasinOf_1 (n : Nat) (a0 : Int) (a1 : Int) (a2 : Int) (a3 : Nat → Int) (a4 : Int) (a5 : List V) (a6 : Int) : Option (Bool) :=
  bnd (s_impl_Gutter_end n a1 a2 a3 a4 a5 a0) fun y1_0 =>
    some ((decide ((y1_0) = (a6))))
def l_impl_Gutter_which__BasinOf_1_b0 : Nat → (Int) → (Int) → (Nat → Int) → (Int) → (List V) → (Int) → (Int) → (Int) → (List V) → (List V) →  Option (List V)
  | 0, _, _, _, _, _, _, _, _, _, _ => none
  | n + 1, a0, a1, a2, a3, a4, a5, a6, a7, a8, a9 =>
    cnd (decide ((a7) < (a6)))
      (chk (inB (a7) (a9).length)
        (bnd (bnd (nth (a9) ((a7).toNat)) as_i64) fun e4_0 =>
          bnd (s_impl_BasinOf_1 n e4_0 a0 a1 a2 a3 a4 a5) fun y5_0 =>
            cnd (y5_0)
              (chk (decide (((a8).length + ([(V.int .i64 (e4_0))]).length) * 8 ≤ 140737488355328))
                (l_impl_Gutter_which__BasinOf_1_b0 n a0 a1 a2 a3 a4 a5 a6 (IntKind.i64.wrap ((a7) + (1))) (a8 ++ ([(V.int .i64 (e4_0))])) a9))
              (l_impl_Gutter_which__BasinOf_1_b0 n a0 a1 a2 a3 a4 a5 a6 (IntKind.i64.wrap ((a7) + (1))) a8 a9)))
      (some (a8))
def s_impl_Gutter_which__BasinOf_1 (n : Nat) (a0 : Int) (a1 : Int) (a2 : Nat → Int) (a3 : Int) (a4 : List V) (a5 : Int) (a6 : Int) (a7 : Nat → Int) (a8 : Int) (a9 : List V) (a10 : Int) : Option (List V) :=
  bnd (s_impl_Gutter_cells n a0 a1 a2 a3 a4) fun y1_0 =>
    bnd (l_impl_Gutter_which__BasinOf_1_b0 n a5 a6 a7 a8 a9 a10 (((y1_0).length : Int)) 0 (([] : List V)) y1_0) fun u8_0 =>
      some (u8_0)
def s_impl_BasinOf (n : Nat) (a0 : Int) (a1 : Int) (a2 : Nat → Int) (a3 : Int) (a4 : List V) (a5 : Int) : Option (List V × Int) :=
  bnd (s_impl_Gutter_isIn n a0 a1 a2 a3 a4 a5) fun y1_0 =>
    bnd (s_impl_gutterCode n a0 a1 a2 a3 a4 ((y1_0))) fun y2_0 =>
      cnd (decide ((y2_0) = (0)))
        (bnd (s_impl_Gutter_which__BasinOf_1 n a0 a1 a2 a3 a4 a0 a1 a2 a3 a4 a5) fun y4_0 =>
          chk (plainV (V.fresh 0 (y4_0)))
            (some ((y4_0, 0))))
        (some ((([] : List V), y2_0)))
def s_laws_FnExactBasinOf (n : Nat) (a0 : Int) (a1 : Int) (a2 : Nat → Int) (a3 : Int) (a4 : List V) (a5 : Int) : Option (Bool) :=
  bnd (s_laws_szGutter n a0 a1 a2 a3 a4 1048576) fun y1_0 =>
    cnd (decide ((y1_0) < (0)))
      (some (true))
      (bnd (s_laws_toGutter n a0 a1 a2 a3 a4) fun (y3_0, y3_1, y3_2, y3_3, y3_4) =>
        bnd (s_spec_BasinOf n y3_0 y3_1 y3_2 y3_3 y3_4 a5) fun (y4_0, y4_1) =>
          chk (plainV (V.tup [(V.fresh 0 (y4_0)), (V.int .i64 (y4_1))]))
            (bnd (s_laws_toGutter n a0 a1 a2 a3 a4) fun (y6_0, y6_1, y6_2, y6_3, y6_4) =>
              bnd (s_impl_BasinOf n y6_0 y6_1 y6_2 y6_3 y6_4 a5) fun (y7_0, y7_1) =>
                chk (plainV (V.tup [(V.fresh 0 (y7_0)), (V.int .i64 (y7_1))]))
                  (bnd (s_laws_eqInt64S n y7_0 y4_0) fun y9_0 =>
                    cnd (y9_0)
                      (cnd (decide ((y7_1) = (y4_1)))
                        (bnd (s_laws_toGutter n a0 a1 a2 a3 a4) fun (y12_0, y12_1, y12_2, y12_3, y12_4) =>
                          bnd (s_laws_eqGutter n y6_0 y6_1 y6_2 y6_3 y6_4 y12_0 y12_1 y12_2 y12_3 y12_4) fun y13_0 =>
                            cnd (y13_0)
                              (bnd (s_laws_markGutter n y6_0 y6_1 y6_2 y6_3 y6_4 1) fun (y15_0, y15_1) =>
                                chk (likeRows (y6_4) (y15_1))
                                  (cnd (decide ((y15_0) < (0)))
                                    (some (false))
                                    (bnd (s_laws_eqInt64S n y7_0 y4_0) fun y18_0 =>
                                      cnd (y18_0)
                                        (bnd (s_laws_markInt64S n y7_0 1) fun (y20_0, y20_1) =>
                                          chk (likeRows (y7_0) (y20_1))
                                            (bnd (s_laws_heldInt64S n y20_1 1) fun y22_0 =>
                                              cnd (decide ((y22_0) < (0)))
                                                (some (false))
                                                (cnd (decide ((y22_0) = (y20_0)))
                                                  (bnd (s_laws_toGutter n a0 a1 a2 a3 a4) fun (y25_0, y25_1, y25_2, y25_3, y25_4) =>
                                                    bnd (s_impl_BasinOf n y25_0 y25_1 y25_2 y25_3 y25_4 a5) fun (y26_0, y26_1) =>
                                                      chk (plainV (V.tup [(V.fresh 0 (y26_0)), (V.int .i64 (y26_1))]))
                                                        (bnd (s_laws_eqInt64S n y26_0 y4_0) fun y28_0 =>
                                                          cnd (y28_0)
                                                            (cnd (decide ((y26_1) = (y4_1)))
                                                              (bnd (s_laws_heldInt64S n y20_1 1) fun y31_0 =>
                                                                cnd (decide ((y31_0) < (0)))
                                                                  (some (false))
                                                                  (cnd (decide ((y31_0) = (y20_0)))
                                                                    (some (true))
                                                                    (some (false))))
                                                              (some (false)))
                                                            (some (false))))
                                                  (some (false)))))
                                        (some (false)))))
                              (some (false)))
                        (some (false)))
                      (some (false)))))
end Go.Proofs.Ytkfihbdikdkcmaa
