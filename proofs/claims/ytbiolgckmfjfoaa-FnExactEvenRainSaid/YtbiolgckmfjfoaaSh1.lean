/- What functions of the program answer, in plain Lean: printed by gen.py out of the program. -/
import Derived.Test.YtbiolgckmfjfoaaRg1
namespace Go.Proofs.Ytbiolgckmfjfoaa
open Go
set_option linter.unusedVariables false
set_option linter.unusedSimpArgs false
def l_laws_toByteA8_b0 : Nat → (Int) → (Nat → Int) → (Nat → Int) → (Nat → Int) →  Option ((Nat → Int) × (Nat → Int))
  | 0, _, _, _, _ => none
  | n + 1, a0, a1, a2, a3 =>
    cnd (decide ((a0) < (8)))
      (chk (inB (a0) 8)
        (l_laws_toByteA8_b0 n (IntKind.i64.wrap ((a0) + (1))) (updC (a1) (0 + (a0).toNat * 1) ((a3) (0 + (a0).toNat * 1))) a2 a3))
      (some ((a1, a2)))
def s_laws_toByteA8 (n : Nat) (a0 : Nat → Int) : Option ((Nat → Int)) :=
  bnd (l_laws_toByteA8_b0 n 0 (fun _ => 0) (fun _ => 0) a0) fun (u3_0, u3_1) =>
    some (u3_0)
def l_laws_toByteA8A8_b0 : Nat → (Int) → (Nat → Int) → (Nat → Int) → (Nat → Int) →  Option ((Nat → Int) × (Nat → Int))
  | 0, _, _, _, _ => none
  | n + 1, a0, a1, a2, a3 =>
    cnd (decide ((a0) < (8)))
      (chk (inB (a0) 8)
        (bnd (s_laws_toByteA8 n ((shiftC (a3) (0 + (a0).toNat * 8)))) fun y3_0 =>
          l_laws_toByteA8A8_b0 n (IntKind.i64.wrap ((a0) + (1))) (updR (a1) (0 + (a0).toNat * 8) 8 (y3_0)) a2 a3))
      (some ((a1, a2)))
def s_laws_toByteA8A8 (n : Nat) (a0 : Nat → Int) : Option ((Nat → Int)) :=
  bnd (l_laws_toByteA8A8_b0 n 0 (fun _ => 0) (fun _ => 0) a0) fun (u4_0, u4_1) =>
    some (u4_0)
def s_laws_toRoof (n : Nat) (a0 : Int) (a1 : Int) (a2 : Int) (a3 : Nat → Int) : Option (Int × Int × Int × (Nat → Int)) :=
  bnd (s_laws_toByteA8A8 n a3) fun y1_0 =>
    some ((a0, a1, a2, y1_0))
def l_laws_toRain_b0 : Nat → (Int) → (Nat → Int) → (Nat → Int) → (Nat → Int) →  Option ((Nat → Int) × (Nat → Int))
  | 0, _, _, _, _ => none
  | n + 1, a0, a1, a2, a3 =>
    cnd (decide ((a0) < (17)))
      (chk (inB (a0) 17)
        (l_laws_toRain_b0 n (IntKind.i64.wrap ((a0) + (1))) (updC (a1) (0 + (a0).toNat * 1) ((a3) (0 + (a0).toNat * 1))) a2 a3))
      (some ((a1, a2)))
def s_laws_toRain (n : Nat) (a0 : Nat → Int) : Option ((Nat → Int)) :=
  bnd (l_laws_toRain_b0 n 0 (fun _ => 0) (fun _ => 0) a0) fun (u3_0, u3_1) =>
    some (u3_0)
def s_spec_l00In (n : Nat) (a0 : Int) (a1 : Int) (a2 : Int) : Option (Bool) :=
  cnd (decide ((a1) ≤ (a0)))
    (some ((decide ((a0) ≤ (a2)))))
    (some (false))
def s_spec_l01Kind (n : Nat) (a0 : Int) : Option (Bool) :=
  bnd (s_spec_l00In n a0 0 3) fun y1_0 =>
    some ((y1_0))
def s_spec_l01Is (n : Nat) (a0 : Int) (a1 : Int) (a2 : Int) (a3 : Nat → Int) (a4 : Int) (a5 : Int) : Option (Bool) :=
  bnd (s_spec_l00In n (IntKind.i64.wrap (a4)) 0 (IntKind.i64.wrap ((IntKind.i64.wrap (a1)) - (1)))) fun y1_0 =>
    cnd (y1_0)
      (bnd (s_spec_l00In n (IntKind.i64.wrap (a5)) 0 (IntKind.i64.wrap ((IntKind.i64.wrap (a0)) - (1)))) fun y3_0 =>
        some ((y3_0)))
      (some (false))
def l_spec_l01Ok_b2 : Nat → (Int) → (Int) → (Int) → (Nat → Int) → (Int) → (Int) →  Option (Sum (Int × Int × Int × (Nat → Int) × Int) (Bool))
  | 0, _, _, _, _, _, _ => none
  | n + 1, a0, a1, a2, a3, a4, a5 =>
    cnd (decide ((a5) < (8)))
      (chk (inB (a4) 8)
        (chk (inB (a5) 8)
          (bnd (s_spec_l01Kind n (IntKind.i64.wrap ((a3) (0 + (a4).toNat * 8 + (a5).toNat * 1)))) fun y10_0 =>
            cnd (y10_0)
              (bnd (s_spec_l01Is n a0 a1 a2 a3 a4 a5) fun y12_0 =>
                cnd (y12_0)
                  (l_spec_l01Ok_b2 n a0 a1 a2 a3 a4 (IntKind.i8.wrap ((a5) + (1))))
                  (cnd (decide (((a3) (0 + (a4).toNat * 8 + (a5).toNat * 1)) = (0)))
                    (l_spec_l01Ok_b2 n a0 a1 a2 a3 a4 (IntKind.i8.wrap ((a5) + (1))))
                    (some (.inr (false)))))
              (some (.inr (false))))))
      (some (.inl ((a0, a1, a2, a3, a4))))
def l_spec_l01Ok_b0 : Nat → (Int) → (Int) → (Int) → (Nat → Int) → (Int) →  Option (Sum (Unit) (Bool))
  | 0, _, _, _, _, _ => none
  | n + 1, a0, a1, a2, a3, a4 =>
    cnd (decide ((a4) < (8)))
      (bnd (l_spec_l01Ok_b2 n a0 a1 a2 a3 a4 0) fun w => match w with
        | .inl (u15_0, u15_1, u15_2, u15_3, u15_4) =>
          l_spec_l01Ok_b0 n u15_0 u15_1 u15_2 u15_3 (IntKind.i8.wrap ((u15_4) + (1)))
        | .inr u16_0 =>
          some (.inr ((u16_0))))
      (some (.inl (())))
def s_spec_l01Ok (n : Nat) (a0 : Int) (a1 : Int) (a2 : Int) (a3 : Nat → Int) : Option (Bool) :=
  bnd (s_spec_l00In n (IntKind.i64.wrap (a0)) 1 8) fun y1_0 =>
    cnd (y1_0)
      (bnd (s_spec_l00In n (IntKind.i64.wrap (a1)) 1 8) fun y3_0 =>
        cnd (y3_0)
          (cnd (decide ((1) < (a2)))
            (some (false))
            (bnd (l_spec_l01Ok_b0 n a0 a1 a2 a3 0) fun w => match w with
              | .inl _ =>
                some (true)
              | .inr u19_0 =>
                some ((u19_0))))
          (some (false)))
      (some (false))
def s_spec_l02Amount (n : Nat) (a0 : Int) : Option (Bool) :=
  bnd (s_spec_l00In n a0 0 1000) fun y1_0 =>
    some ((y1_0))
def s_spec_l01Cells (n : Nat) (a0 : Int) (a1 : Int) (a2 : Int) (a3 : Nat → Int) : Option (Int) :=
  some (IntKind.i64.wrap ((IntKind.i64.wrap ((2) * (IntKind.i64.wrap (a0)))) + (1)))
def l_spec_l02Ok_b0 : Nat → (Int) → (Int) → (Int) → (Nat → Int) → (Nat → Int) → (Int) →  Option (Sum (Unit) (Bool))
  | 0, _, _, _, _, _, _ => none
  | n + 1, a0, a1, a2, a3, a4, a5 =>
    cnd (decide ((a5) < (17)))
      (chk (inB (a5) 17)
        (bnd (s_spec_l02Amount n (IntKind.i64.wrap ((a4) (0 + (a5).toNat * 1)))) fun y5_0 =>
          cnd (y5_0)
            (bnd (s_spec_l01Cells n a0 a1 a2 a3) fun y7_0 =>
              cnd (decide ((y7_0) ≤ (a5)))
                (cnd (decide (((a4) (0 + (a5).toNat * 1)) = (0)))
                  (l_spec_l02Ok_b0 n a0 a1 a2 a3 a4 (IntKind.i64.wrap ((a5) + (1))))
                  (some (.inr (false))))
                (l_spec_l02Ok_b0 n a0 a1 a2 a3 a4 (IntKind.i64.wrap ((a5) + (1)))))
            (some (.inr (false)))))
      (some (.inl (())))
def s_spec_l02Ok (n : Nat) (a0 : Int) (a1 : Int) (a2 : Int) (a3 : Nat → Int) (a4 : Nat → Int) : Option (Bool) :=
  bnd (s_spec_l01Ok n a0 a1 a2 a3) fun y1_0 =>
    cnd (y1_0)
      (bnd (l_spec_l02Ok_b0 n a0 a1 a2 a3 a4 0) fun w => match w with
        | .inl _ =>
          some (true)
        | .inr u11_0 =>
          some ((u11_0)))
      (some (false))
def s_spec_ValidRain (n : Nat) (a0 : Int) (a1 : Int) (a2 : Int) (a3 : Nat → Int) (a4 : Nat → Int) : Option (Bool) :=
  bnd (s_spec_l02Ok n a0 a1 a2 a3 a4) fun y1_0 =>
    some ((y1_0))
def s_impl_within_int8 (n : Nat) (a0 : Int) (a1 : Int) (a2 : Int) : Option (Bool) :=
  cnd (decide ((a1) ≤ (a0)))
    (some ((decide ((a0) ≤ (a2)))))
    (some (false))
def l_impl_ValidRoof_b2 : Nat → (Int) → (Nat → Int) → (Int) → (Nat → Int) → (Int) → (Int) → (Int) → (Int) → (Nat → Int) →  Option (Sum ((Nat → Int) × Int × Int × Int × Int × (Nat → Int)) (Bool))
  | 0, _, _, _, _, _, _, _, _, _ => none
  | n + 1, a0, a1, a2, a3, a4, a5, a6, a7, a8 =>
    cnd (decide ((a4) < (8)))
      (chk (inB (a4) 8)
        (cnd (decide ((3) < ((a3) ((a4).toNat * 1))))
          (some (.inr (false)))
          (cnd (decide (((a3) ((a4).toNat * 1)) = (0)))
            (l_impl_ValidRoof_b2 n a0 a1 a2 a3 (IntKind.i64.wrap ((a4) + (1))) a5 a6 a7 a8)
            (cnd (decide ((IntKind.i64.wrap (a6)) ≤ (a0)))
              (some (.inr (false)))
              (cnd (decide ((IntKind.i64.wrap (a5)) ≤ (a4)))
                (some (.inr (false)))
                (l_impl_ValidRoof_b2 n a0 a1 a2 a3 (IntKind.i64.wrap ((a4) + (1))) a5 a6 a7 a8))))))
      (some (.inl ((a1, a2, a5, a6, a7, a8))))
def l_impl_ValidRoof_b0 : Nat → (Nat → Int) → (Int) → (Int) → (Int) → (Int) → (Nat → Int) →  Option (Sum (Unit) (Bool))
  | 0, _, _, _, _, _, _ => none
  | n + 1, a0, a1, a2, a3, a4, a5 =>
    cnd (decide ((a1) < (8)))
      (chk (inB (a1) 8)
        (bnd (l_impl_ValidRoof_b2 n a1 a0 a1 (fun j => (a0) (j + (a1).toNat * 8)) 0 a2 a3 a4 a5) fun w => match w with
          | .inl (u14_0, u14_1, u14_2, u14_3, u14_4, u14_5) =>
            l_impl_ValidRoof_b0 n u14_0 (IntKind.i64.wrap ((u14_1) + (1))) u14_2 u14_3 u14_4 u14_5
          | .inr u15_0 =>
            some (.inr ((u15_0)))))
      (some (.inl (())))
def s_impl_ValidRoof (n : Nat) (a0 : Int) (a1 : Int) (a2 : Int) (a3 : Nat → Int) : Option (Bool) :=
  bnd (s_impl_within_int8 n a0 1 8) fun y1_0 =>
    cnd (y1_0)
      (bnd (s_impl_within_int8 n a1 1 8) fun y3_0 =>
        cnd (y3_0)
          (cnd (decide ((1) < (a2)))
            (some (false))
            (bnd (l_impl_ValidRoof_b0 n a3 0 a0 a1 a2 a3) fun w => match w with
              | .inl _ =>
                some (true)
              | .inr u18_0 =>
                some ((u18_0))))
          (some (false)))
      (some (false))
def s_impl_within_int64 (n : Nat) (a0 : Int) (a1 : Int) (a2 : Int) : Option (Bool) :=
  cnd (decide ((a1) ≤ (a0)))
    (some ((decide ((a0) ≤ (a2)))))
    (some (false))
def s_impl_isAmount_int16 (n : Nat) (a0 : Int) : Option (Bool) :=
  bnd (s_impl_within_int64 n (IntKind.i64.wrap (a0)) 0 1000) fun y1_0 =>
    some ((y1_0))
def s_impl_Roof_cells (n : Nat) (a0 : Int) (a1 : Int) (a2 : Int) (a3 : Nat → Int) : Option (Int) :=
  some (IntKind.i64.wrap ((IntKind.i64.wrap ((2) * (IntKind.i64.wrap (a0)))) + (1)))
def l_impl_ValidRain_b0 : Nat → (Nat → Int) → (Int) → (Int) → (Int) → (Int) → (Nat → Int) →  Option (Sum (Unit) (Bool))
  | 0, _, _, _, _, _, _ => none
  | n + 1, a0, a1, a2, a3, a4, a5 =>
    cnd (decide ((a1) < (17)))
      (chk (inB (a1) 17)
        (bnd (s_impl_isAmount_int16 n ((a0) ((a1).toNat * 1))) fun y5_0 =>
          cnd (y5_0)
            (cnd (decide (((a0) ((a1).toNat * 1)) = (0)))
              (l_impl_ValidRain_b0 n a0 (IntKind.i64.wrap ((a1) + (1))) a2 a3 a4 a5)
              (bnd (s_impl_Roof_cells n a2 a3 a4 a5) fun y8_0 =>
                cnd (decide ((y8_0) ≤ (a1)))
                  (some (.inr (false)))
                  (l_impl_ValidRain_b0 n a0 (IntKind.i64.wrap ((a1) + (1))) a2 a3 a4 a5)))
            (some (.inr (false)))))
      (some (.inl (())))
def s_impl_ValidRain (n : Nat) (a0 : Int) (a1 : Int) (a2 : Int) (a3 : Nat → Int) (a4 : Nat → Int) : Option (Bool) :=
  bnd (s_impl_ValidRoof n a0 a1 a2 a3) fun y1_0 =>
    cnd (y1_0)
      (bnd (l_impl_ValidRain_b0 n a4 0 a0 a1 a2 a3) fun w => match w with
        | .inl _ =>
          some (true)
        | .inr u11_0 =>
          some ((u11_0)))
      (some (false))
def s_laws_FnExactValidRain (n : Nat) (a0 : Int) (a1 : Int) (a2 : Int) (a3 : Nat → Int) (a4 : Nat → Int) : Option (Bool) :=
  bnd (s_laws_toRoof n a0 a1 a2 a3) fun (y1_0, y1_1, y1_2, y1_3) =>
    bnd (s_laws_toRain n a4) fun y2_0 =>
      bnd (s_spec_ValidRain n y1_0 y1_1 y1_2 y1_3 y2_0) fun y3_0 =>
        bnd (s_laws_toRoof n a0 a1 a2 a3) fun (y4_0, y4_1, y4_2, y4_3) =>
          bnd (s_laws_toRain n a4) fun y5_0 =>
            bnd (s_impl_ValidRain n y4_0 y4_1 y4_2 y4_3 y5_0) fun y6_0 =>
              cnd ((y6_0) == (y3_0))
                (some (true))
                (some (false))
def s_spec_l01Course (n : Nat) (a0 : Int) (a1 : Int) (a2 : Int) (a3 : Nat → Int) (a4 : Int) : Option (Bool) :=
  bnd (s_spec_l00In n a4 0 (IntKind.i64.wrap ((IntKind.i64.wrap (a1)) - (1)))) fun y1_0 =>
    some ((y1_0))
def s_spec_l01Told (n : Nat) (a0 : Int) (a1 : Int) (a2 : Int) (a3 : Nat → Int) (a4 : Bool) : Option (Int) :=
  bnd (s_spec_l01Ok n a0 a1 a2 a3) fun y1_0 =>
    cnd (y1_0)
      (cnd (a4)
        (some (0))
        (some (2)))
      (some (1))
def s_spec_l01By (n : Nat) (a0 : Int) (a1 : Int) (a2 : Int) (a3 : Nat → Int) (a4 : Int) : Option (Int) :=
  some ((IntKind.i64.wrap ((a4) + (IntKind.i64.wrap (a2)))).tmod (2))
def s_spec_l01Tile (n : Nat) (a0 : Int) (a1 : Int) (a2 : Int) (a3 : Nat → Int) (a4 : Int) (a5 : Int) : Option (Int) :=
  bnd (s_spec_l01By n a0 a1 a2 a3 a4) fun y1_0 =>
    cnd (decide ((IntKind.i64.wrap ((a5) - (y1_0))) < (0)))
      (some (-1))
      (cnd (decide ((IntKind.i64.wrap (a0)) ≤ (IntKind.i64.wrap ((IntKind.i64.wrap ((a5) - (y1_0))).tdiv (2)))))
        (some (-1))
        (some (IntKind.i64.wrap ((IntKind.i64.wrap ((a5) - (y1_0))).tdiv (2)))))
def s_spec_TileAt (n : Nat) (a0 : Int) (a1 : Int) (a2 : Int) (a3 : Nat → Int) (a4 : Int) (a5 : Int) : Option (Int × Int) :=
  bnd (s_spec_l01Course n a0 a1 a2 a3 a4) fun y1_0 =>
    bnd (s_spec_l01Told n a0 a1 a2 a3 ((y1_0))) fun y2_0 =>
      cnd (decide ((y2_0) = (0)))
        (bnd (s_spec_l01Cells n a0 a1 a2 a3) fun y4_0 =>
          bnd (s_spec_l00In n a5 0 (IntKind.i64.wrap ((y4_0) - (1)))) fun y5_0 =>
            cnd (y5_0)
              (bnd (s_spec_l01Tile n a0 a1 a2 a3 a4 a5) fun y7_0 =>
                some ((y7_0, 0)))
              (some ((0, 2))))
        (some ((0, y2_0)))
def s_impl_Roof_isCourse (n : Nat) (a0 : Int) (a1 : Int) (a2 : Int) (a3 : Nat → Int) (a4 : Int) : Option (Bool) :=
  bnd (s_impl_within_int64 n a4 0 (IntKind.i64.wrap ((IntKind.i64.wrap (a1)) - (1)))) fun y1_0 =>
    some ((y1_0))
def s_impl_roofCode (n : Nat) (a0 : Int) (a1 : Int) (a2 : Int) (a3 : Nat → Int) (a4 : Bool) : Option (Int) :=
  bnd (s_impl_ValidRoof n a0 a1 a2 a3) fun y1_0 =>
    cnd (y1_0)
      (cnd (a4)
        (some (0))
        (some (2)))
      (some (1))
def s_impl_Roof_shift (n : Nat) (a0 : Int) (a1 : Int) (a2 : Int) (a3 : Nat → Int) (a4 : Int) : Option (Int) :=
  some ((IntKind.i64.wrap ((a4) + (IntKind.i64.wrap (a2)))).tmod (2))
def s_impl_within_int (n : Nat) (a0 : Int) (a1 : Int) (a2 : Int) : Option (Bool) :=
  cnd (decide ((a1) ≤ (a0)))
    (some ((decide ((a0) ≤ (a2)))))
    (some (false))
def s_impl_Roof_tileAt (n : Nat) (a0 : Int) (a1 : Int) (a2 : Int) (a3 : Nat → Int) (a4 : Int) (a5 : Int) : Option (Int) :=
  bnd (s_impl_Roof_shift n a0 a1 a2 a3 a4) fun y1_0 =>
    bnd (s_impl_within_int n (IntKind.i64.wrap ((a5) - (y1_0))) 0 (IntKind.i64.wrap ((IntKind.i64.wrap ((2) * (IntKind.i64.wrap (a0)))) - (1)))) fun y2_0 =>
      cnd (y2_0)
        (some (IntKind.i64.wrap ((IntKind.i64.wrap ((a5) - (y1_0))).tdiv (2))))
        (some (-1))
def s_impl_TileAt (n : Nat) (a0 : Int) (a1 : Int) (a2 : Int) (a3 : Nat → Int) (a4 : Int) (a5 : Int) : Option (Int × Int) :=
  bnd (s_impl_Roof_isCourse n a0 a1 a2 a3 a4) fun y1_0 =>
    cnd (y1_0)
      (bnd (s_impl_Roof_cells n a0 a1 a2 a3) fun y3_0 =>
        bnd (s_impl_within_int64 n a5 0 (IntKind.i64.wrap ((y3_0) - (1)))) fun y4_0 =>
          bnd (s_impl_roofCode n a0 a1 a2 a3 ((y4_0))) fun y5_0 =>
            cnd (decide ((y5_0) = (0)))
              (bnd (s_impl_Roof_tileAt n a0 a1 a2 a3 a4 a5) fun y7_0 =>
                some ((y7_0, 0)))
              (some ((0, y5_0))))
      (bnd (s_impl_roofCode n a0 a1 a2 a3 false) fun y8_0 =>
        cnd (decide ((y8_0) = (0)))
          (bnd (s_impl_Roof_tileAt n a0 a1 a2 a3 a4 a5) fun y10_0 =>
            some ((y10_0, 0)))
          (some ((0, y8_0))))
def s_laws_FnExactTileAt (n : Nat) (a0 : Int) (a1 : Int) (a2 : Int) (a3 : Nat → Int) (a4 : Int) (a5 : Int) : Option (Bool) :=
  bnd (s_laws_toRoof n a0 a1 a2 a3) fun (y1_0, y1_1, y1_2, y1_3) =>
    bnd (s_spec_TileAt n y1_0 y1_1 y1_2 y1_3 a4 a5) fun (y2_0, y2_1) =>
      bnd (s_laws_toRoof n a0 a1 a2 a3) fun (y3_0, y3_1, y3_2, y3_3) =>
        bnd (s_impl_TileAt n y3_0 y3_1 y3_2 y3_3 a4 a5) fun (y4_0, y4_1) =>
          cnd (decide ((y4_0) = (y2_0)))
            (cnd (decide ((y4_1) = (y2_1)))
              (some (true))
              (some (false)))
            (some (false))
def as_i16 : V → Option (Int)
  | (V.int .i16 (e0)) => some e0
  | _ => none
theorem as_i16_some {x : Option V} {e0 : Int} (h : bnd x as_i16 = some e0) : x = some (V.int .i16 (e0)) := by
  obtain ⟨v, rfl, k⟩ := bnd_some h
  unfold as_i16 at k
  split at k
  · simp only [Option.some.injEq, Prod.mk.injEq] at k
    obtain rfl := k
    rfl
  · cases k
def l_spec_RainSum_b0 : Nat → (Int) → (Int) → (Nat → Int) →  Option (Int)
  | 0, _, _, _ => none
  | n + 1, a0, a1, a2 =>
    cnd (decide ((a1) < (17)))
      (chk (inB (a1) 17)
        (l_spec_RainSum_b0 n (IntKind.i64.wrap ((a0) + (IntKind.i64.wrap ((a2) (0 + (a1).toNat * 1))))) (IntKind.i64.wrap ((a1) + (1))) a2))
      (some (a0))
def s_spec_RainSum (n : Nat) (a0 : Int) (a1 : Int) (a2 : Int) (a3 : Nat → Int) (a4 : Nat → Int) : Option (Int × Int) :=
  bnd (s_spec_l02Ok n a0 a1 a2 a3 a4) fun y1_0 =>
    cnd (y1_0)
      (bnd (l_spec_RainSum_b0 n 0 0 a4) fun u5_0 =>
        some ((u5_0, 0)))
      (some ((0, 1)))
def l_impl_sum_int16_b0 : Nat → (Int) → (List V) → (Int) → (Int) →  Option (Int)
  | 0, _, _, _, _ => none
  | n + 1, a0, a1, a2, a3 =>
    cnd (decide ((a3) < (a2)))
      (bnd (bnd (idx (a1) (a3)) as_i16) fun e2_0 =>
        l_impl_sum_int16_b0 n (IntKind.i64.wrap ((a0) + (IntKind.i64.wrap (e2_0)))) a1 a2 (IntKind.i64.wrap ((a3) + (1))))
      (some (a0))
def s_impl_sum_int16 (n : Nat) (a0 : List V) : Option (Int) :=
  bnd (l_impl_sum_int16_b0 n 0 a0 ((a0).length) 0) fun u3_0 =>
    some (u3_0)
def s_impl_RainSum (n : Nat) (a0 : Int) (a1 : Int) (a2 : Int) (a3 : Nat → Int) (a4 : Nat → Int) : Option (Int × Int) :=
  bnd (s_impl_ValidRain n a0 a1 a2 a3 a4) fun y1_0 =>
    cnd (y1_0)
      (bnd (s_impl_sum_int16 n (elems (a4) .i16 (0) 1 (17))) fun y3_0 =>
        some ((y3_0, 0)))
      (some ((0, 1)))
def s_laws_FnExactRainSum (n : Nat) (a0 : Int) (a1 : Int) (a2 : Int) (a3 : Nat → Int) (a4 : Nat → Int) : Option (Bool) :=
  bnd (s_laws_toRoof n a0 a1 a2 a3) fun (y1_0, y1_1, y1_2, y1_3) =>
    bnd (s_laws_toRain n a4) fun y2_0 =>
      bnd (s_spec_RainSum n y1_0 y1_1 y1_2 y1_3 y2_0) fun (y3_0, y3_1) =>
        bnd (s_laws_toRoof n a0 a1 a2 a3) fun (y4_0, y4_1, y4_2, y4_3) =>
          bnd (s_laws_toRain n a4) fun y5_0 =>
            bnd (s_impl_RainSum n y4_0 y4_1 y4_2 y4_3 y5_0) fun (y6_0, y6_1) =>
              cnd (decide ((y6_0) = (y3_0)))
                (cnd (decide ((y6_1) = (y3_1)))
                  (some (true))
                  (some (false)))
                (some (false))
def l_spec_l02Even_b0 : Nat → (Int) → (Int) → (Int) → (Nat → Int) → (Int) → (Int) → (Nat → Int) → (Nat → Int) →  Option ((Nat → Int) × (Nat → Int))
  | 0, _, _, _, _, _, _, _, _ => none
  | n + 1, a0, a1, a2, a3, a4, a5, a6, a7 =>
    bnd (s_spec_l01Cells n a0 a1 a2 a3) fun y1_0 =>
      cnd (decide ((a5) < (y1_0)))
        (chk (inB (a5) 17)
          (l_spec_l02Even_b0 n a0 a1 a2 a3 a4 (IntKind.i64.wrap ((a5) + (1))) (updC (a6) (0 + (a5).toNat * 1) (IntKind.i16.wrap (a4))) a7))
        (some ((a6, a7)))
def s_spec_l02Even (n : Nat) (a0 : Int) (a1 : Int) (a2 : Int) (a3 : Nat → Int) (a4 : Int) : Option ((Nat → Int)) :=
  bnd (l_spec_l02Even_b0 n a0 a1 a2 a3 a4 0 (fun _ => 0) (fun _ => 0)) fun (u4_0, u4_1) =>
    some (u4_0)
def s_spec_EvenRain (n : Nat) (a0 : Int) (a1 : Int) (a2 : Int) (a3 : Nat → Int) (a4 : Int) : Option ((Nat → Int) × Int) :=
  bnd (s_spec_l02Amount n a4) fun y1_0 =>
    bnd (s_spec_l01Told n a0 a1 a2 a3 ((y1_0))) fun y2_0 =>
      cnd (decide ((y2_0) = (0)))
        (bnd (s_spec_l02Even n a0 a1 a2 a3 a4) fun y4_0 =>
          some ((y4_0, 0)))
        (some ((fun _ => 0, y2_0)))
def s_impl_isAmount_int64 (n : Nat) (a0 : Int) : Option (Bool) :=
  bnd (s_impl_within_int64 n a0 0 1000) fun y1_0 =>
    some ((y1_0))
def l_impl_even_b0 : Nat → (Int) → (Int) → (Int) → (Nat → Int) → (Nat → Int) →  Option ((Nat → Int) × (Nat → Int))
  | 0, _, _, _, _, _ => none
  | n + 1, a0, a1, a2, a3, a4 =>
    cnd (decide ((a2) < (a1)))
      (chk (inB (a2) 17)
        (l_impl_even_b0 n a0 a1 (IntKind.i64.wrap ((a2) + (1))) (updC (a3) (0 + (a2).toNat * 1) (IntKind.i16.wrap (a0))) a4))
      (some ((a3, a4)))
def s_impl_even (n : Nat) (a0 : Int) (a1 : Int) (a2 : Int) (a3 : Nat → Int) (a4 : Int) : Option ((Nat → Int)) :=
  bnd (s_impl_Roof_cells n a0 a1 a2 a3) fun y1_0 =>
    bnd (l_impl_even_b0 n a4 y1_0 0 (fun _ => 0) (fun _ => 0)) fun (u4_0, u4_1) =>
      some (u4_0)
def s_impl_EvenRain (n : Nat) (a0 : Int) (a1 : Int) (a2 : Int) (a3 : Nat → Int) (a4 : Int) : Option ((Nat → Int) × Int) :=
  bnd (s_impl_isAmount_int64 n a4) fun y1_0 =>
    bnd (s_impl_roofCode n a0 a1 a2 a3 ((y1_0))) fun y2_0 =>
      cnd (decide ((y2_0) = (0)))
        (bnd (s_impl_even n a0 a1 a2 a3 a4) fun y4_0 =>
          some ((y4_0, 0)))
        (some ((fun _ => 0, y2_0)))
def l_laws_eqRain_b0 : Nat → (Int) → (Nat → Int) → (Nat → Int) →  Option (Sum (Unit) (Bool))
  | 0, _, _, _ => none
  | n + 1, a0, a1, a2 =>
    cnd (decide ((a0) < (17)))
      (chk (inB (a0) 17)
        (cnd (decide (((a2) (0 + (a0).toNat * 1)) = ((a1) (0 + (a0).toNat * 1))))
          (l_laws_eqRain_b0 n (IntKind.i64.wrap ((a0) + (1))) a1 a2)
          (some (.inr (false)))))
      (some (.inl (())))
def s_laws_eqRain (n : Nat) (a0 : Nat → Int) (a1 : Nat → Int) : Option (Bool) :=
  bnd (l_laws_eqRain_b0 n 0 a1 a0) fun w => match w with
    | .inl _ =>
      some (true)
    | .inr u5_0 =>
      some ((u5_0))
def s_laws_FnExactEvenRain (n : Nat) (a0 : Int) (a1 : Int) (a2 : Int) (a3 : Nat → Int) (a4 : Int) : Option (Bool) :=
  bnd (s_laws_toRoof n a0 a1 a2 a3) fun (y1_0, y1_1, y1_2, y1_3) =>
    bnd (s_spec_EvenRain n y1_0 y1_1 y1_2 y1_3 a4) fun (y2_0, y2_1) =>
      bnd (s_laws_toRoof n a0 a1 a2 a3) fun (y3_0, y3_1, y3_2, y3_3) =>
        bnd (s_impl_EvenRain n y3_0 y3_1 y3_2 y3_3 a4) fun (y4_0, y4_1) =>
          bnd (s_laws_eqRain n y4_0 y2_0) fun y5_0 =>
            cnd (y5_0)
              (cnd (decide ((y4_1) = (y2_1)))
                (some (true))
                (some (false)))
              (some (false))
end Go.Proofs.Ytbiolgckmfjfoaa
