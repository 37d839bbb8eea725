/- What functions of the program answer, in plain Lean: printed by gen.py out of the program. -/
import Derived.Test.YtkfihbdikdkcmaaRg1
namespace Go.Proofs.Ytkfihbdikdkcmaa
open Go
set_option linter.unusedVariables false
set_option linter.unusedSimpArgs false
def l_laws_toByteA8_b0 : Nat → (Int) → (Nat → Int) → (Nat → Int) → (Nat → Int) →  Option ((Nat → Int) × (Nat → Int))
  | 0, _, _, _, _ => none
  | n + 1, a0, a1, a2, a3 =>
    cnd (decide ((a0) < (8)))
      (chk (inB (a0) 8)
        (l_laws_toByteA8_b0 n (IntKind.i64.wrap ((a0) + (1))) a1 a2 (updC (a3) (0 + (a0).toNat * 1) ((a1) (0 + (a0).toNat * 1)))))
      (some ((a2, a3)))
def s_laws_toByteA8 (n : Nat) (a0 : Nat → Int) : Option ((Nat → Int)) :=
  bnd (l_laws_toByteA8_b0 n 0 a0 (fun _ => 0) (fun _ => 0)) fun (u3_0, u3_1) =>
    some (u3_1)
def l_laws_toByteA8A8_b0 : Nat → (Int) → (Nat → Int) → (Nat → Int) → (Nat → Int) →  Option ((Nat → Int) × (Nat → Int))
  | 0, _, _, _, _ => none
  | n + 1, a0, a1, a2, a3 =>
    cnd (decide ((a0) < (8)))
      (chk (inB (a0) 8)
        (bnd (s_laws_toByteA8 n ((shiftC (a1) (0 + (a0).toNat * 8)))) fun y3_0 =>
          l_laws_toByteA8A8_b0 n (IntKind.i64.wrap ((a0) + (1))) a1 a2 (updR (a3) (0 + (a0).toNat * 8) 8 (y3_0))))
      (some ((a2, a3)))
def s_laws_toByteA8A8 (n : Nat) (a0 : Nat → Int) : Option ((Nat → Int)) :=
  bnd (l_laws_toByteA8A8_b0 n 0 a0 (fun _ => 0) (fun _ => 0)) fun (u4_0, u4_1) =>
    some (u4_1)
def s_laws_toRoof (n : Nat) (a0 : Int) (a1 : Int) (a2 : Int) (a3 : Nat → Int) : Option (Int × Int × Int × (Nat → Int)) :=
  bnd (s_laws_toByteA8A8 n a3) fun y1_0 =>
    some ((a0, a1, a2, y1_0))
def l_laws_toRain_b0 : Nat → (Int) → (Nat → Int) → (Nat → Int) → (Nat → Int) →  Option ((Nat → Int) × (Nat → Int))
  | 0, _, _, _, _ => none
  | n + 1, a0, a1, a2, a3 =>
    cnd (decide ((a0) < (17)))
      (chk (inB (a0) 17)
        (l_laws_toRain_b0 n (IntKind.i64.wrap ((a0) + (1))) a1 a2 (updC (a3) (0 + (a0).toNat * 1) ((a1) (0 + (a0).toNat * 1)))))
      (some ((a2, a3)))
def s_laws_toRain (n : Nat) (a0 : Nat → Int) : Option ((Nat → Int)) :=
  bnd (l_laws_toRain_b0 n 0 a0 (fun _ => 0) (fun _ => 0)) fun (u3_0, u3_1) =>
    some (u3_1)
def s_spec_l00In (n : Nat) (a0 : Int) (a1 : Int) (a2 : Int) : Option (Bool) :=
  cnd (decide ((a1) ≤ (a0)))
    (some ((decide ((a0) ≤ (a2)))))
    (some (false))
def s_spec_l01Kind (n : Nat) (a0 : Int) : Option (Bool) :=
  bnd (s_spec_l00In n a0 0 3) fun y1_0 =>
    some ((y1_0))
def s_spec_l01Is (n : Nat) (a0 : Int) (a1 : Int) (a2 : Int) (a3 : Nat → Int) (a4 : Int) (a5 : Int) : Option (Bool) :=
  bnd (s_spec_l00In n (IntKind.i64.wrap (a4)) 0 (IntKind.i64.wrap ((IntKind.i64.wrap (a1)) - (1)))) fun y1_0 =>
    cnd (y1_0)
      (bnd (s_spec_l00In n (IntKind.i64.wrap (a5)) 0 (IntKind.i64.wrap ((IntKind.i64.wrap (a0)) - (1)))) fun y3_0 =>
        some ((y3_0)))
      (some (false))
def l_spec_l01Ok_b2 : Nat → (Int) → (Int) → (Int) → (Nat → Int) → (Int) → (Int) →  Option (Sum (Int × Int × Int × (Nat → Int) × Int) (Bool))
  | 0, _, _, _, _, _, _ => none
  | n + 1, a0, a1, a2, a3, a4, a5 =>
    cnd (decide ((a5) < (8)))
      (chk (inB (a4) 8)
        (chk (inB (a5) 8)
          (bnd (s_spec_l01Kind n (IntKind.i64.wrap ((a3) (0 + (a4).toNat * 8 + (a5).toNat * 1)))) fun y10_0 =>
            cnd (y10_0)
              (bnd (s_spec_l01Is n a0 a1 a2 a3 a4 a5) fun y12_0 =>
                cnd (y12_0)
                  (l_spec_l01Ok_b2 n a0 a1 a2 a3 a4 (IntKind.i8.wrap ((a5) + (1))))
                  (cnd (decide (((a3) (0 + (a4).toNat * 8 + (a5).toNat * 1)) = (0)))
                    (l_spec_l01Ok_b2 n a0 a1 a2 a3 a4 (IntKind.i8.wrap ((a5) + (1))))
                    (some (.inr (false)))))
              (some (.inr (false))))))
      (some (.inl ((a0, a1, a2, a3, a4))))
def l_spec_l01Ok_b0 : Nat → (Int) → (Int) → (Int) → (Nat → Int) → (Int) →  Option (Sum (Unit) (Bool))
  | 0, _, _, _, _, _ => none
  | n + 1, a0, a1, a2, a3, a4 =>
    cnd (decide ((a4) < (8)))
      (bnd (l_spec_l01Ok_b2 n a0 a1 a2 a3 a4 0) fun w => match w with
        | .inl (u15_0, u15_1, u15_2, u15_3, u15_4) =>
          l_spec_l01Ok_b0 n u15_0 u15_1 u15_2 u15_3 (IntKind.i8.wrap ((u15_4) + (1)))
        | .inr u16_0 =>
          some (.inr ((u16_0))))
      (some (.inl (())))
def s_spec_l01Ok (n : Nat) (a0 : Int) (a1 : Int) (a2 : Int) (a3 : Nat → Int) : Option (Bool) :=
  bnd (s_spec_l00In n (IntKind.i64.wrap (a0)) 1 8) fun y1_0 =>
    cnd (y1_0)
      (bnd (s_spec_l00In n (IntKind.i64.wrap (a1)) 1 8) fun y3_0 =>
        cnd (y3_0)
          (cnd (decide ((1) < (a2)))
            (some (false))
            (bnd (l_spec_l01Ok_b0 n a0 a1 a2 a3 0) fun w => match w with
              | .inl _ =>
                some (true)
              | .inr u19_0 =>
                some ((u19_0))))
          (some (false)))
      (some (false))
def s_spec_l02Amount (n : Nat) (a0 : Int) : Option (Bool) :=
  bnd (s_spec_l00In n a0 0 1000) fun y1_0 =>
    some ((y1_0))
def s_spec_l01Cells (n : Nat) (a0 : Int) (a1 : Int) (a2 : Int) (a3 : Nat → Int) : Option (Int) :=
  some (IntKind.i64.wrap ((IntKind.i64.wrap ((2) * (IntKind.i64.wrap (a0)))) + (1)))
def l_spec_l02Ok_b0 : Nat → (Int) → (Int) → (Int) → (Nat → Int) → (Nat → Int) → (Int) →  Option (Sum (Unit) (Bool))
  | 0, _, _, _, _, _, _ => none
  | n + 1, a0, a1, a2, a3, a4, a5 =>
    cnd (decide ((a5) < (17)))
      (chk (inB (a5) 17)
        (bnd (s_spec_l02Amount n (IntKind.i64.wrap ((a4) (0 + (a5).toNat * 1)))) fun y5_0 =>
          cnd (y5_0)
            (bnd (s_spec_l01Cells n a0 a1 a2 a3) fun y7_0 =>
              cnd (decide ((y7_0) ≤ (a5)))
                (cnd (decide (((a4) (0 + (a5).toNat * 1)) = (0)))
                  (l_spec_l02Ok_b0 n a0 a1 a2 a3 a4 (IntKind.i64.wrap ((a5) + (1))))
                  (some (.inr (false))))
                (l_spec_l02Ok_b0 n a0 a1 a2 a3 a4 (IntKind.i64.wrap ((a5) + (1)))))
            (some (.inr (false)))))
      (some (.inl (())))
def s_spec_l02Ok (n : Nat) (a0 : Int) (a1 : Int) (a2 : Int) (a3 : Nat → Int) (a4 : Nat → Int) : Option (Bool) :=
  bnd (s_spec_l01Ok n a0 a1 a2 a3) fun y1_0 =>
    cnd (y1_0)
      (bnd (l_spec_l02Ok_b0 n a0 a1 a2 a3 a4 0) fun w => match w with
        | .inl _ =>
          some (true)
        | .inr u11_0 =>
          some ((u11_0)))
      (some (false))
def s_spec_ValidRain (n : Nat) (a0 : Int) (a1 : Int) (a2 : Int) (a3 : Nat → Int) (a4 : Nat → Int) : Option (Bool) :=
  bnd (s_spec_l02Ok n a0 a1 a2 a3 a4) fun y1_0 =>
    some ((y1_0))
def s_impl_within_int8 (n : Nat) (a0 : Int) (a1 : Int) (a2 : Int) : Option (Bool) :=
  cnd (decide ((a1) ≤ (a0)))
    (some ((decide ((a0) ≤ (a2)))))
    (some (false))
def l_impl_ValidRoof_b2 : Nat → (Int) → (Nat → Int) → (Int) → (Nat → Int) → (Int) → (Int) → (Int) → (Int) → (Nat → Int) →  Option (Sum ((Nat → Int) × Int × Int × Int × Int × (Nat → Int)) (Bool))
  | 0, _, _, _, _, _, _, _, _, _ => none
  | n + 1, a0, a1, a2, a3, a4, a5, a6, a7, a8 =>
    cnd (decide ((a4) < (8)))
      (chk (inB (a4) 8)
        (cnd (decide ((3) < ((a3) ((a4).toNat * 1))))
          (some (.inr (false)))
          (cnd (decide (((a3) ((a4).toNat * 1)) = (0)))
            (l_impl_ValidRoof_b2 n a0 a1 a2 a3 (IntKind.i64.wrap ((a4) + (1))) a5 a6 a7 a8)
            (cnd (decide ((IntKind.i64.wrap (a6)) ≤ (a0)))
              (some (.inr (false)))
              (cnd (decide ((IntKind.i64.wrap (a5)) ≤ (a4)))
                (some (.inr (false)))
                (l_impl_ValidRoof_b2 n a0 a1 a2 a3 (IntKind.i64.wrap ((a4) + (1))) a5 a6 a7 a8))))))
      (some (.inl ((a1, a2, a5, a6, a7, a8))))
def l_impl_ValidRoof_b0 : Nat → (Nat → Int) → (Int) → (Int) → (Int) → (Int) → (Nat → Int) →  Option (Sum (Unit) (Bool))
  | 0, _, _, _, _, _, _ => none
  | n + 1, a0, a1, a2, a3, a4, a5 =>
    cnd (decide ((a1) < (8)))
      (chk (inB (a1) 8)
        (bnd (l_impl_ValidRoof_b2 n a1 a0 a1 (fun j => (a0) (j + (a1).toNat * 8)) 0 a2 a3 a4 a5) fun w => match w with
          | .inl (u14_0, u14_1, u14_2, u14_3, u14_4, u14_5) =>
            l_impl_ValidRoof_b0 n u14_0 (IntKind.i64.wrap ((u14_1) + (1))) u14_2 u14_3 u14_4 u14_5
          | .inr u15_0 =>
            some (.inr ((u15_0)))))
      (some (.inl (())))
def s_impl_ValidRoof (n : Nat) (a0 : Int) (a1 : Int) (a2 : Int) (a3 : Nat → Int) : Option (Bool) :=
  bnd (s_impl_within_int8 n a0 1 8) fun y1_0 =>
    cnd (y1_0)
      (bnd (s_impl_within_int8 n a1 1 8) fun y3_0 =>
        cnd (y3_0)
          (cnd (decide ((1) < (a2)))
            (some (false))
            (bnd (l_impl_ValidRoof_b0 n a3 0 a0 a1 a2 a3) fun w => match w with
              | .inl _ =>
                some (true)
              | .inr u18_0 =>
                some ((u18_0))))
          (some (false)))
      (some (false))
def s_impl_within_int64 (n : Nat) (a0 : Int) (a1 : Int) (a2 : Int) : Option (Bool) :=
  cnd (decide ((a1) ≤ (a0)))
    (some ((decide ((a0) ≤ (a2)))))
    (some (false))
def s_impl_isAmount_int16 (n : Nat) (a0 : Int) : Option (Bool) :=
  bnd (s_impl_within_int64 n (IntKind.i64.wrap (a0)) 0 1000) fun y1_0 =>
    some ((y1_0))
def s_impl_Roof_cells (n : Nat) (a0 : Int) (a1 : Int) (a2 : Int) (a3 : Nat → Int) : Option (Int) :=
  some (IntKind.i64.wrap ((IntKind.i64.wrap ((2) * (IntKind.i64.wrap (a0)))) + (1)))
def l_impl_ValidRain_b0 : Nat → (Nat → Int) → (Int) → (Int) → (Int) → (Int) → (Nat → Int) →  Option (Sum (Unit) (Bool))
  | 0, _, _, _, _, _, _ => none
  | n + 1, a0, a1, a2, a3, a4, a5 =>
    cnd (decide ((a1) < (17)))
      (chk (inB (a1) 17)
        (bnd (s_impl_isAmount_int16 n ((a0) ((a1).toNat * 1))) fun y5_0 =>
          cnd (y5_0)
            (cnd (decide (((a0) ((a1).toNat * 1)) = (0)))
              (l_impl_ValidRain_b0 n a0 (IntKind.i64.wrap ((a1) + (1))) a2 a3 a4 a5)
              (bnd (s_impl_Roof_cells n a2 a3 a4 a5) fun y8_0 =>
                cnd (decide ((y8_0) ≤ (a1)))
                  (some (.inr (false)))
                  (l_impl_ValidRain_b0 n a0 (IntKind.i64.wrap ((a1) + (1))) a2 a3 a4 a5)))
            (some (.inr (false)))))
      (some (.inl (())))
def s_impl_ValidRain (n : Nat) (a0 : Int) (a1 : Int) (a2 : Int) (a3 : Nat → Int) (a4 : Nat → Int) : Option (Bool) :=
  bnd (s_impl_ValidRoof n a0 a1 a2 a3) fun y1_0 =>
    cnd (y1_0)
      (bnd (l_impl_ValidRain_b0 n a4 0 a0 a1 a2 a3) fun w => match w with
        | .inl _ =>
          some (true)
        | .inr u11_0 =>
          some ((u11_0)))
      (some (false))
def s_laws_FnExactValidRain (n : Nat) (a0 : Int) (a1 : Int) (a2 : Int) (a3 : Nat → Int) (a4 : Nat → Int) : Option (Bool) :=
  bnd (s_laws_toRoof n a0 a1 a2 a3) fun (y1_0, y1_1, y1_2, y1_3) =>
    bnd (s_laws_toRain n a4) fun y2_0 =>
      bnd (s_spec_ValidRain n y1_0 y1_1 y1_2 y1_3 y2_0) fun y3_0 =>
        bnd (s_laws_toRoof n a0 a1 a2 a3) fun (y4_0, y4_1, y4_2, y4_3) =>
          bnd (s_laws_toRain n a4) fun y5_0 =>
            bnd (s_impl_ValidRain n y4_0 y4_1 y4_2 y4_3 y5_0) fun y6_0 =>
              cnd ((y6_0) == (y3_0))
                (some (true))
                (some (false))
def s_spec_l01Course (n : Nat) (a0 : Int) (a1 : Int) (a2 : Int) (a3 : Nat → Int) (a4 : Int) : Option (Bool) :=
  bnd (s_spec_l00In n a4 0 (IntKind.i64.wrap ((IntKind.i64.wrap (a1)) - (1)))) fun y1_0 =>
    some ((y1_0))
def s_spec_l01Told (n : Nat) (a0 : Int) (a1 : Int) (a2 : Int) (a3 : Nat → Int) (a4 : Bool) : Option (Int) :=
  bnd (s_spec_l01Ok n a0 a1 a2 a3) fun y1_0 =>
    cnd (y1_0)
      (cnd (a4)
        (some (0))
        (some (2)))
      (some (1))
def s_spec_l01By (n : Nat) (a0 : Int) (a1 : Int) (a2 : Int) (a3 : Nat → Int) (a4 : Int) : Option (Int) :=
  some ((IntKind.i64.wrap ((a4) + (IntKind.i64.wrap (a2)))).tmod (2))
def s_spec_l01Tile (n : Nat) (a0 : Int) (a1 : Int) (a2 : Int) (a3 : Nat → Int) (a4 : Int) (a5 : Int) : Option (Int) :=
  bnd (s_spec_l01By n a0 a1 a2 a3 a4) fun y1_0 =>
    cnd (decide ((IntKind.i64.wrap ((a5) - (y1_0))) < (0)))
      (some (-1))
      (cnd (decide ((IntKind.i64.wrap (a0)) ≤ (IntKind.i64.wrap ((IntKind.i64.wrap ((a5) - (y1_0))).tdiv (2)))))
        (some (-1))
        (some (IntKind.i64.wrap ((IntKind.i64.wrap ((a5) - (y1_0))).tdiv (2)))))
def s_spec_TileAt (n : Nat) (a0 : Int) (a1 : Int) (a2 : Int) (a3 : Nat → Int) (a4 : Int) (a5 : Int) : Option (Int × Int) :=
  bnd (s_spec_l01Course n a0 a1 a2 a3 a4) fun y1_0 =>
    bnd (s_spec_l01Told n a0 a1 a2 a3 ((y1_0))) fun y2_0 =>
      cnd (decide ((y2_0) = (0)))
        (bnd (s_spec_l01Cells n a0 a1 a2 a3) fun y4_0 =>
          bnd (s_spec_l00In n a5 0 (IntKind.i64.wrap ((y4_0) - (1)))) fun y5_0 =>
            cnd (y5_0)
              (bnd (s_spec_l01Tile n a0 a1 a2 a3 a4 a5) fun y7_0 =>
                some ((y7_0, 0)))
              (some ((0, 2))))
        (some ((0, y2_0)))
def s_impl_Roof_isCourse (n : Nat) (a0 : Int) (a1 : Int) (a2 : Int) (a3 : Nat → Int) (a4 : Int) : Option (Bool) :=
  bnd (s_impl_within_int64 n a4 0 (IntKind.i64.wrap ((IntKind.i64.wrap (a1)) - (1)))) fun y1_0 =>
    some ((y1_0))
def s_impl_roofCode (n : Nat) (a0 : Int) (a1 : Int) (a2 : Int) (a3 : Nat → Int) (a4 : Bool) : Option (Int) :=
  bnd (s_impl_ValidRoof n a0 a1 a2 a3) fun y1_0 =>
    cnd (y1_0)
      (cnd (a4)
        (some (0))
        (some (2)))
      (some (1))
def s_impl_Roof_shift (n : Nat) (a0 : Int) (a1 : Int) (a2 : Int) (a3 : Nat → Int) (a4 : Int) : Option (Int) :=
  some ((IntKind.i64.wrap ((a4) + (IntKind.i64.wrap (a2)))).tmod (2))
def s_impl_within_int (n : Nat) (a0 : Int) (a1 : Int) (a2 : Int) : Option (Bool) :=
  cnd (decide ((a1) ≤ (a0)))
    (some ((decide ((a0) ≤ (a2)))))
    (some (false))
def s_impl_Roof_tileAt (n : Nat) (a0 : Int) (a1 : Int) (a2 : Int) (a3 : Nat → Int) (a4 : Int) (a5 : Int) : Option (Int) :=
  bnd (s_impl_Roof_shift n a0 a1 a2 a3 a4) fun y1_0 =>
    bnd (s_impl_within_int n (IntKind.i64.wrap ((a5) - (y1_0))) 0 (IntKind.i64.wrap ((IntKind.i64.wrap ((2) * (IntKind.i64.wrap (a0)))) - (1)))) fun y2_0 =>
      cnd (y2_0)
        (some (IntKind.i64.wrap ((IntKind.i64.wrap ((a5) - (y1_0))).tdiv (2))))
        (some (-1))
def s_impl_TileAt (n : Nat) (a0 : Int) (a1 : Int) (a2 : Int) (a3 : Nat → Int) (a4 : Int) (a5 : Int) : Option (Int × Int) :=
  bnd (s_impl_Roof_isCourse n a0 a1 a2 a3 a4) fun y1_0 =>
    cnd (y1_0)
      (bnd (s_impl_Roof_cells n a0 a1 a2 a3) fun y3_0 =>
        bnd (s_impl_within_int64 n a5 0 (IntKind.i64.wrap ((y3_0) - (1)))) fun y4_0 =>
          bnd (s_impl_roofCode n a0 a1 a2 a3 ((y4_0))) fun y5_0 =>
            cnd (decide ((y5_0) = (0)))
              (bnd (s_impl_Roof_tileAt n a0 a1 a2 a3 a4 a5) fun y7_0 =>
                some ((y7_0, 0)))
              (some ((0, y5_0))))
      (bnd (s_impl_roofCode n a0 a1 a2 a3 false) fun y8_0 =>
        cnd (decide ((y8_0) = (0)))
          (bnd (s_impl_Roof_tileAt n a0 a1 a2 a3 a4 a5) fun y10_0 =>
            some ((y10_0, 0)))
          (some ((0, y8_0))))
def s_laws_FnExactTileAt (n : Nat) (a0 : Int) (a1 : Int) (a2 : Int) (a3 : Nat → Int) (a4 : Int) (a5 : Int) : Option (Bool) :=
  bnd (s_laws_toRoof n a0 a1 a2 a3) fun (y1_0, y1_1, y1_2, y1_3) =>
    bnd (s_spec_TileAt n y1_0 y1_1 y1_2 y1_3 a4 a5) fun (y2_0, y2_1) =>
      bnd (s_laws_toRoof n a0 a1 a2 a3) fun (y3_0, y3_1, y3_2, y3_3) =>
        bnd (s_impl_TileAt n y3_0 y3_1 y3_2 y3_3 a4 a5) fun (y4_0, y4_1) =>
          cnd (decide ((y4_0) = (y2_0)))
            (cnd (decide ((y4_1) = (y2_1)))
              (some (true))
              (some (false)))
            (some (false))
def as_i16 : V → Option (Int)
  | (V.int .i16 (e0)) => some e0
  | _ => none
theorem as_i16_some {x : Option V} {e0 : Int} (h : bnd x as_i16 = some e0) : x = some (V.int .i16 (e0)) := by
  obtain ⟨v, rfl, k⟩ := bnd_some h
  unfold as_i16 at k
  split at k
  · simp only [Option.some.injEq, Prod.mk.injEq] at k
    obtain rfl := k
    rfl
  · cases k
def l_spec_RainSum_b0 : Nat → (Int) → (Int) → (Nat → Int) →  Option (Int)
  | 0, _, _, _ => none
  | n + 1, a0, a1, a2 =>
    cnd (decide ((a1) < (17)))
      (chk (inB (a1) 17)
        (l_spec_RainSum_b0 n (IntKind.i64.wrap ((a0) + (IntKind.i64.wrap ((a2) (0 + (a1).toNat * 1))))) (IntKind.i64.wrap ((a1) + (1))) a2))
      (some (a0))
def s_spec_RainSum (n : Nat) (a0 : Int) (a1 : Int) (a2 : Int) (a3 : Nat → Int) (a4 : Nat → Int) : Option (Int × Int) :=
  bnd (s_spec_l02Ok n a0 a1 a2 a3 a4) fun y1_0 =>
    cnd (y1_0)
      (bnd (l_spec_RainSum_b0 n 0 0 a4) fun u5_0 =>
        some ((u5_0, 0)))
      (some ((0, 1)))
def l_impl_sum_int16_b0 : Nat → (Int) → (List V) → (Int) → (Int) →  Option (Int)
  | 0, _, _, _, _ => none
  | n + 1, a0, a1, a2, a3 =>
    cnd (decide ((a3) < (a2)))
      (bnd (bnd (idx (a1) (a3)) as_i16) fun e2_0 =>
        l_impl_sum_int16_b0 n (IntKind.i64.wrap ((a0) + (IntKind.i64.wrap (e2_0)))) a1 a2 (IntKind.i64.wrap ((a3) + (1))))
      (some (a0))
def s_impl_sum_int16 (n : Nat) (a0 : List V) : Option (Int) :=
  bnd (l_impl_sum_int16_b0 n 0 a0 (((a0).length : Int)) 0) fun u3_0 =>
    some (u3_0)
def s_impl_RainSum (n : Nat) (a0 : Int) (a1 : Int) (a2 : Int) (a3 : Nat → Int) (a4 : Nat → Int) : Option (Int × Int) :=
  bnd (s_impl_ValidRain n a0 a1 a2 a3 a4) fun y1_0 =>
    cnd (y1_0)
      (bnd (s_impl_sum_int16 n (elems (a4) .i16 (0) 1 (17))) fun y3_0 =>
        some ((y3_0, 0)))
      (some ((0, 1)))
def s_laws_FnExactRainSum (n : Nat) (a0 : Int) (a1 : Int) (a2 : Int) (a3 : Nat → Int) (a4 : Nat → Int) : Option (Bool) :=
  bnd (s_laws_toRoof n a0 a1 a2 a3) fun (y1_0, y1_1, y1_2, y1_3) =>
    bnd (s_laws_toRain n a4) fun y2_0 =>
      bnd (s_spec_RainSum n y1_0 y1_1 y1_2 y1_3 y2_0) fun (y3_0, y3_1) =>
        bnd (s_laws_toRoof n a0 a1 a2 a3) fun (y4_0, y4_1, y4_2, y4_3) =>
          bnd (s_laws_toRain n a4) fun y5_0 =>
            bnd (s_impl_RainSum n y4_0 y4_1 y4_2 y4_3 y5_0) fun (y6_0, y6_1) =>
              cnd (decide ((y6_0) = (y3_0)))
                (cnd (decide ((y6_1) = (y3_1)))
                  (some (true))
                  (some (false)))
                (some (false))
def l_spec_l02Even_b0 : Nat → (Int) → (Int) → (Int) → (Nat → Int) → (Int) → (Int) → (Nat → Int) → (Nat → Int) →  Option ((Nat → Int) × (Nat → Int))
  | 0, _, _, _, _, _, _, _, _ => none
  | n + 1, a0, a1, a2, a3, a4, a5, a6, a7 =>
    bnd (s_spec_l01Cells n a0 a1 a2 a3) fun y1_0 =>
      cnd (decide ((a5) < (y1_0)))
        (chk (inB (a5) 17)
          (l_spec_l02Even_b0 n a0 a1 a2 a3 a4 (IntKind.i64.wrap ((a5) + (1))) a6 (updC (a7) (0 + (a5).toNat * 1) (IntKind.i16.wrap (a4)))))
        (some ((a6, a7)))
def s_spec_l02Even (n : Nat) (a0 : Int) (a1 : Int) (a2 : Int) (a3 : Nat → Int) (a4 : Int) : Option ((Nat → Int)) :=
  bnd (l_spec_l02Even_b0 n a0 a1 a2 a3 a4 0 (fun _ => 0) (fun _ => 0)) fun (u4_0, u4_1) =>
    some (u4_1)
def s_spec_EvenRain (n : Nat) (a0 : Int) (a1 : Int) (a2 : Int) (a3 : Nat → Int) (a4 : Int) : Option ((Nat → Int) × Int) :=
  bnd (s_spec_l02Amount n a4) fun y1_0 =>
    bnd (s_spec_l01Told n a0 a1 a2 a3 ((y1_0))) fun y2_0 =>
      cnd (decide ((y2_0) = (0)))
        (bnd (s_spec_l02Even n a0 a1 a2 a3 a4) fun y4_0 =>
          some ((y4_0, 0)))
        (some ((fun _ => 0, y2_0)))
def s_impl_isAmount_int64 (n : Nat) (a0 : Int) : Option (Bool) :=
  bnd (s_impl_within_int64 n a0 0 1000) fun y1_0 =>
    some ((y1_0))
def l_impl_even_b0 : Nat → (Int) → (Int) → (Int) → (Nat → Int) → (Nat → Int) →  Option ((Nat → Int) × (Nat → Int))
  | 0, _, _, _, _, _ => none
  | n + 1, a0, a1, a2, a3, a4 =>
    cnd (decide ((a2) < (a1)))
      (chk (inB (a2) 17)
        (l_impl_even_b0 n a0 a1 (IntKind.i64.wrap ((a2) + (1))) a3 (updC (a4) (0 + (a2).toNat * 1) (IntKind.i16.wrap (a0)))))
      (some ((a3, a4)))
def s_impl_even (n : Nat) (a0 : Int) (a1 : Int) (a2 : Int) (a3 : Nat → Int) (a4 : Int) : Option ((Nat → Int)) :=
  bnd (s_impl_Roof_cells n a0 a1 a2 a3) fun y1_0 =>
    bnd (l_impl_even_b0 n a4 y1_0 0 (fun _ => 0) (fun _ => 0)) fun (u4_0, u4_1) =>
      some (u4_1)
def s_impl_EvenRain (n : Nat) (a0 : Int) (a1 : Int) (a2 : Int) (a3 : Nat → Int) (a4 : Int) : Option ((Nat → Int) × Int) :=
  bnd (s_impl_isAmount_int64 n a4) fun y1_0 =>
    bnd (s_impl_roofCode n a0 a1 a2 a3 ((y1_0))) fun y2_0 =>
      cnd (decide ((y2_0) = (0)))
        (bnd (s_impl_even n a0 a1 a2 a3 a4) fun y4_0 =>
          some ((y4_0, 0)))
        (some ((fun _ => 0, y2_0)))
def l_laws_eqRain_b0 : Nat → (Int) → (Nat → Int) → (Nat → Int) →  Option (Sum (Unit) (Bool))
  | 0, _, _, _ => none
  | n + 1, a0, a1, a2 =>
    cnd (decide ((a0) < (17)))
      (chk (inB (a0) 17)
        (cnd (decide (((a1) (0 + (a0).toNat * 1)) = ((a2) (0 + (a0).toNat * 1))))
          (l_laws_eqRain_b0 n (IntKind.i64.wrap ((a0) + (1))) a1 a2)
          (some (.inr (false)))))
      (some (.inl (())))
def s_laws_eqRain (n : Nat) (a0 : Nat → Int) (a1 : Nat → Int) : Option (Bool) :=
  bnd (l_laws_eqRain_b0 n 0 a0 a1) fun w => match w with
    | .inl _ =>
      some (true)
    | .inr u5_0 =>
      some ((u5_0))
def s_laws_FnExactEvenRain (n : Nat) (a0 : Int) (a1 : Int) (a2 : Int) (a3 : Nat → Int) (a4 : Int) : Option (Bool) :=
  bnd (s_laws_toRoof n a0 a1 a2 a3) fun (y1_0, y1_1, y1_2, y1_3) =>
    bnd (s_spec_EvenRain n y1_0 y1_1 y1_2 y1_3 a4) fun (y2_0, y2_1) =>
      bnd (s_laws_toRoof n a0 a1 a2 a3) fun (y3_0, y3_1, y3_2, y3_3) =>
        bnd (s_impl_EvenRain n y3_0 y3_1 y3_2 y3_3 a4) fun (y4_0, y4_1) =>
          bnd (s_laws_eqRain n y4_0 y2_0) fun y5_0 =>
            cnd (y5_0)
              (cnd (decide ((y4_1) = (y2_1)))
                (some (true))
                (some (false)))
              (some (false))
def s_spec_l02Over (n : Nat) (a0 : Int) (a1 : Int) (a2 : Int) (a3 : Nat → Int) (a4 : Int) (a5 : Int) : Option (Int) :=
  bnd (s_spec_l01Tile n a0 a1 a2 a3 a4 a5) fun y1_0 =>
    cnd (decide ((y1_0) < (0)))
      (some (0))
      (chk (inB (a4) 8)
        (chk (inB (y1_0) 8)
          (some (IntKind.i64.wrap ((a3) (0 + (a4).toNat * 8 + (y1_0).toNat * 1))))))
def s_spec_l02Drip (n : Nat) (a0 : Int) (a1 : Int) (a2 : Int) (a3 : Nat → Int) (a4 : Int) (a5 : Int) (a6 : Int) : Option (Int) :=
  bnd (s_spec_l02Over n a0 a1 a2 a3 a4 a5) fun y1_0 =>
    cnd (decide ((y1_0) = (1)))
      (some (IntKind.i64.wrap ((IntKind.i64.wrap ((a6) + (1))).tdiv (2))))
      (cnd (decide ((y1_0) = (2)))
        (some (IntKind.i64.wrap ((IntKind.i64.wrap ((a6) + (2))).tdiv (3))))
        (cnd (decide ((y1_0) = (3)))
          (cnd (decide ((0) < (a4)))
            (bnd (s_spec_l02Over n a0 a1 a2 a3 (IntKind.i64.wrap ((a4) - (1))) a5) fun y6_0 =>
              cnd (decide ((y6_0) = (2)))
                (some (0))
                (some (a6)))
            (some (a6)))
          (some (0))))
def l_spec_l02Run_b2 : Nat → (Int) → (Int) → (Int) → (Nat → Int) → (Nat → Int) → (Int) → (Int) → (Int) → (Nat → Int) → (Nat → Int) → (Nat → Int) → (Nat → Int) → (List V) →  Option (Int × Int × Int × (Nat → Int) × (Nat → Int) × Int × Int × (Nat → Int) × (Nat → Int) × (Nat → Int) × (Nat → Int) × List V)
  | 0, _, _, _, _, _, _, _, _, _, _, _, _, _ => none
  | n + 1, a0, a1, a2, a3, a4, a5, a6, a7, a8, a9, a10, a11, a12 =>
    cnd (decide ((a7) < (IntKind.i64.wrap (a1))))
      (chk (inB (a7) 8)
        (chk (inB (a5) 17)
          (bnd (s_spec_l02Drip n a0 a1 a2 a3 a7 a5 a6) fun y7_0 =>
            l_spec_l02Run_b2 n a0 a1 a2 a3 a4 a5 (IntKind.i64.wrap ((a6) - (y7_0))) (IntKind.i64.wrap ((a7) + (1))) a8 a9 (updC (a10) (0 + (a7).toNat * 17 + (a5).toNat * 1) (IntKind.i32.wrap (y7_0))) (updC (a11) (0 + (a7).toNat * 17 + (a5).toNat * 1) (IntKind.i32.wrap (a6))) a12)))
      (some ((a0, a1, a2, a3, a4, a5, a6, a8, a9, a10, a11, a12)))
def l_spec_l02Run_b0 : Nat → (Int) → (Int) → (Int) → (Nat → Int) → (Nat → Int) → (Int) → (Nat → Int) → (Nat → Int) → (Nat → Int) → (Nat → Int) → (List V) →  Option ((Nat → Int) × (Nat → Int) × (Nat → Int) × (Nat → Int) × List V)
  | 0, _, _, _, _, _, _, _, _, _, _, _ => none
  | n + 1, a0, a1, a2, a3, a4, a5, a6, a7, a8, a9, a10 =>
    bnd (s_spec_l01Cells n a0 a1 a2 a3) fun y1_0 =>
      cnd (decide ((a5) < (y1_0)))
        (chk (inB (a5) 17)
          (bnd (l_spec_l02Run_b2 n a0 a1 a2 a3 a4 a5 (IntKind.i64.wrap ((a4) (0 + (a5).toNat * 1))) 0 a6 a7 a8 a9 a10) fun (u8_0, u8_1, u8_2, u8_3, u8_4, u8_5, u8_6, u8_7, u8_8, u8_9, u8_10, u8_11) =>
            chk (decide (((u8_11).length + ([(V.int .i64 (u8_6))]).length) * 8 ≤ 140737488355328))
              (l_spec_l02Run_b0 n u8_0 u8_1 u8_2 u8_3 u8_4 (IntKind.i64.wrap ((u8_5) + (1))) u8_7 u8_8 u8_9 u8_10 (u8_11 ++ ([(V.int .i64 (u8_6))])))))
        (some ((a6, a7, a8, a9, a10)))
def s_spec_l02Run (n : Nat) (a0 : Int) (a1 : Int) (a2 : Int) (a3 : Nat → Int) (a4 : Nat → Int) : Option ((Nat → Int) × (Nat → Int) × List V) :=
  bnd (l_spec_l02Run_b0 n a0 a1 a2 a3 a4 0 (fun _ => 0) (fun _ => 0) (fun _ => 0) (fun _ => 0) ([])) fun (u11_0, u11_1, u11_2, u11_3, u11_4) =>
    some ((u11_2, u11_3, u11_4))
def l_spec_FirstDrip_b2 : Nat → (Int) → (Int) → (Nat → Int) →  Option (Sum (Int × (Nat → Int)) (Int × Int × Int))
  | 0, _, _, _ => none
  | n + 1, a0, a1, a2 =>
    cnd (decide ((a1) < (17)))
      (chk (inB (a0) 8)
        (chk (inB (a1) 17)
          (cnd (decide ((0) < ((a2) (0 + (a0).toNat * 17 + (a1).toNat * 1))))
            (some (.inr ((a0, a1, 0))))
            (l_spec_FirstDrip_b2 n a0 (IntKind.i64.wrap ((a1) + (1))) a2))))
      (some (.inl ((a0, a2))))
def l_spec_FirstDrip_b0 : Nat → (Int) → (Nat → Int) →  Option (Sum (Unit) (Int × Int × Int))
  | 0, _, _ => none
  | n + 1, a0, a1 =>
    cnd (decide ((a0) < (8)))
      (bnd (l_spec_FirstDrip_b2 n a0 0 a1) fun w => match w with
        | .inl (u10_0, u10_1) =>
          l_spec_FirstDrip_b0 n (IntKind.i64.wrap ((u10_0) + (1))) u10_1
        | .inr (u11_0, u11_1, u11_2) =>
          some (.inr ((u11_0, u11_1, u11_2))))
      (some (.inl (())))
def s_spec_FirstDrip (n : Nat) (a0 : Int) (a1 : Int) (a2 : Int) (a3 : Nat → Int) (a4 : Nat → Int) : Option (Int × Int × Int) :=
  bnd (s_spec_l02Ok n a0 a1 a2 a3 a4) fun y1_0 =>
    cnd (y1_0)
      (bnd (s_spec_l02Run n a0 a1 a2 a3 a4) fun (y3_0, y3_1, y3_2) =>
        chk (plainV (V.tup [(V.ints .i32 136 (y3_0)), (V.ints .i32 136 (y3_1)), (V.fresh 0 (y3_2))]))
          (bnd (l_spec_FirstDrip_b0 n 0 y3_0) fun w => match w with
            | .inl _ =>
              some ((0, 0, 6))
            | .inr (u14_0, u14_1, u14_2) =>
              some ((u14_0, u14_1, u14_2))))
      (some ((0, 0, 1)))
def s_impl_Roof_covering (n : Nat) (a0 : Int) (a1 : Int) (a2 : Int) (a3 : Nat → Int) (a4 : Int) (a5 : Int) : Option (Int) :=
  cnd (decide ((a4) < (0)))
    (some (0))
    (bnd (s_impl_Roof_tileAt n a0 a1 a2 a3 a4 a5) fun y2_0 =>
      cnd (decide ((y2_0) = (-1)))
        (some (0))
        (chk (inB (a4) 8)
          (chk (inB (y2_0) 8)
            (some ((a3) (0 + (a4).toNat * 8 + (y2_0).toNat * 1))))))
def s_impl_up_int32 (n : Nat) (a0 : Int) (a1 : Int) : Option (Int) :=
  chk (!decide ((a1) = 0))
    (some (IntKind.i32.wrap ((IntKind.i32.wrap ((IntKind.i32.wrap ((a0) + (a1))) - (1))).tdiv (a1))))
def s_impl_dripOf (n : Nat) (a0 : Int) (a1 : Int) (a2 : Int) : Option (Int) :=
  cnd (decide ((a0) = (1)))
    (bnd (s_impl_up_int32 n a2 2) fun y2_0 =>
      some (y2_0))
    (cnd (decide ((a0) = (2)))
      (bnd (s_impl_up_int32 n a2 3) fun y4_0 =>
        some (y4_0))
      (cnd (decide ((a0) = (3)))
        (cnd (decide ((a1) = (2)))
          (some (0))
          (some (a2)))
        (some (0))))
def l_impl_Roof_run_b2 : Nat → (Int) → (Int) → (Int) → (Int) → (Int) → (Int) → (Int) → (Int) → (Int) → (Nat → Int) → (Nat → Int) → (Nat → Int) → (Nat → Int) → (List V) → (List V) → (List V) → (List V) →  Option (Int × Int × Int × Int × Int × Int × (Nat → Int) × (Nat → Int) × (Nat → Int) × (Nat → Int) × List V × List V × List V × List V)
  | 0, _, _, _, _, _, _, _, _, _, _, _, _, _, _, _, _, _ => none
  | n + 1, a0, a1, a2, a3, a4, a5, a6, a7, a8, a9, a10, a11, a12, a13, a14, a15, a16 =>
    cnd (decide ((a5) < (a4)))
      (bnd (s_impl_Roof_tileAt n a6 a7 a8 a9 a5 a0) fun y5_0 =>
        cnd (decide ((y5_0) = (-1)))
          (bnd (s_impl_Roof_covering n a6 a7 a8 a9 a5 a0) fun y7_0 =>
            bnd (s_impl_Roof_covering n a6 a7 a8 a9 (IntKind.i64.wrap ((a5) - (1))) a0) fun y8_0 =>
              bnd (s_impl_dripOf n y7_0 y8_0 a1) fun y9_0 =>
                chk (inB (a5) 8)
                  (chk (inB (a0) 17)
                    (l_impl_Roof_run_b2 n a0 (IntKind.i32.wrap ((a1) - (y9_0))) a2 a3 a4 (IntKind.i64.wrap ((a5) + (1))) a6 a7 a8 a9 a10 a11 (updC (a12) (0 + (a5).toNat * 17 + (a0).toNat * 1) (y9_0)) a13 a14 a15 a16)))
          (cnd (decide ((0) < (a1)))
            (chk (mapFine (true, [IntKind.i8, IntKind.i8]) (a15) (a16))
              (chk (keyIs (true, [IntKind.i8, IntKind.i8]) (V.parts [(V.int .i8 (IntKind.i8.wrap (a5))), (V.int .i8 (IntKind.i8.wrap (y5_0)))]))
                (bnd (s_impl_Roof_covering n a6 a7 a8 a9 a5 a0) fun y15_0 =>
                  bnd (s_impl_Roof_covering n a6 a7 a8 a9 (IntKind.i64.wrap ((a5) - (1))) a0) fun y16_0 =>
                    bnd (s_impl_dripOf n y15_0 y16_0 a1) fun y17_0 =>
                      chk (inB (a5) 8)
                        (chk (inB (a0) 17)
                          (l_impl_Roof_run_b2 n a0 (IntKind.i32.wrap ((a1) - (y17_0))) a2 a3 a4 (IntKind.i64.wrap ((a5) + (1))) a6 a7 a8 a9 a10 a11 (updC (a12) (0 + (a5).toNat * 17 + (a0).toNat * 1) (y17_0)) a13 a14 (mapPutK (V.parts [(V.int .i8 (IntKind.i8.wrap (a5))), (V.int .i8 (IntKind.i8.wrap (y5_0)))]) (a15)) (mapPutV (V.parts [(V.int .i8 (IntKind.i8.wrap (a5))), (V.int .i8 (IntKind.i8.wrap (y5_0)))]) (V.bool true) (a15) (a16)))))))
            (bnd (s_impl_Roof_covering n a6 a7 a8 a9 a5 a0) fun y20_0 =>
              bnd (s_impl_Roof_covering n a6 a7 a8 a9 (IntKind.i64.wrap ((a5) - (1))) a0) fun y21_0 =>
                bnd (s_impl_dripOf n y20_0 y21_0 a1) fun y22_0 =>
                  chk (inB (a5) 8)
                    (chk (inB (a0) 17)
                      (l_impl_Roof_run_b2 n a0 (IntKind.i32.wrap ((a1) - (y22_0))) a2 a3 a4 (IntKind.i64.wrap ((a5) + (1))) a6 a7 a8 a9 a10 a11 (updC (a12) (0 + (a5).toNat * 17 + (a0).toNat * 1) (y22_0)) a13 a14 a15 a16)))))
      (some ((a1, a2, a3, a6, a7, a8, a9, a10, a11, a12, a13, a14, a15, a16)))
def l_impl_Roof_run_b0 : Nat → (Int) → (Int) → (Int) → (Int) → (Int) → (Nat → Int) → (Nat → Int) → (Nat → Int) → (Nat → Int) → (List V) → (List V) → (List V) → (List V) →  Option ((Nat → Int) × (Nat → Int) × List V × List V × List V × List V)
  | 0, _, _, _, _, _, _, _, _, _, _, _, _, _ => none
  | n + 1, a0, a1, a2, a3, a4, a5, a6, a7, a8, a9, a10, a11, a12 =>
    cnd (decide ((a1) < (a0)))
      (chk (inB (a1) 17)
        (bnd (l_impl_Roof_run_b2 n a1 (IntKind.i32.wrap ((a6) (0 + (a1).toNat * 1))) a0 a1 (IntKind.i64.wrap (a3)) 0 a2 a3 a4 a5 a6 a7 a8 a9 a10 a11 a12) fun (u25_0, u25_1, u25_2, u25_3, u25_4, u25_5, u25_6, u25_7, u25_8, u25_9, u25_10, u25_11, u25_12, u25_13) =>
          chk (decide (((u25_11).length + ([(V.int .i64 (IntKind.i64.wrap (u25_0)))]).length) * 8 ≤ 140737488355328))
            (l_impl_Roof_run_b0 n u25_1 (IntKind.i64.wrap ((u25_2) + (1))) u25_3 u25_4 u25_5 u25_6 u25_7 u25_8 u25_9 u25_10 (u25_11 ++ ([(V.int .i64 (IntKind.i64.wrap (u25_0)))])) u25_12 u25_13)))
      (some ((a7, a8, a9, a10, a11, a12)))
def s_impl_Roof_run (n : Nat) (a0 : Int) (a1 : Int) (a2 : Int) (a3 : Nat → Int) (a4 : Nat → Int) : Option ((Nat → Int) × List V × List V × List V) :=
  bnd (s_impl_Roof_cells n a0 a1 a2 a3) fun y1_0 =>
    bnd (l_impl_Roof_run_b0 n y1_0 0 a0 a1 a2 a3 a4 (fun _ => 0) (fun _ => 0) ([]) ([]) ([]) ([])) fun (u28_0, u28_1, u28_2, u28_3, u28_4, u28_5) =>
      some ((u28_1, u28_3, u28_4, u28_5))
def l_impl_FirstDrip_b2 : Nat → (Int) → (Nat → Int) → (Int) → (Nat → Int) → (Int) →  Option (Sum ((Nat → Int) × Int) (Int × Int × Int))
  | 0, _, _, _, _, _ => none
  | n + 1, a0, a1, a2, a3, a4 =>
    cnd (decide ((a4) < (17)))
      (chk (inB (a4) 17)
        (cnd (decide ((0) < ((a3) ((a4).toNat * 1))))
          (some (.inr ((a0, a4, 0))))
          (l_impl_FirstDrip_b2 n a0 a1 a2 a3 (IntKind.i64.wrap ((a4) + (1))))))
      (some (.inl ((a1, a2))))
def l_impl_FirstDrip_b0 : Nat → (Nat → Int) → (Int) →  Option (Sum (Unit) (Int × Int × Int))
  | 0, _, _ => none
  | n + 1, a0, a1 =>
    cnd (decide ((a1) < (8)))
      (chk (inB (a1) 8)
        (bnd (l_impl_FirstDrip_b2 n a1 a0 a1 (fun j => (a0) (j + (a1).toNat * 17)) 0) fun w => match w with
          | .inl (u9_0, u9_1) =>
            l_impl_FirstDrip_b0 n u9_0 (IntKind.i64.wrap ((u9_1) + (1)))
          | .inr (u10_0, u10_1, u10_2) =>
            some (.inr ((u10_0, u10_1, u10_2)))))
      (some (.inl (())))
def s_impl_FirstDrip (n : Nat) (a0 : Int) (a1 : Int) (a2 : Int) (a3 : Nat → Int) (a4 : Nat → Int) : Option (Int × Int × Int) :=
  bnd (s_impl_ValidRain n a0 a1 a2 a3 a4) fun y1_0 =>
    cnd (y1_0)
      (bnd (s_impl_Roof_run n a0 a1 a2 a3 a4) fun (y3_0, y3_1, y3_2, y3_3) =>
        bnd (l_impl_FirstDrip_b0 n y3_0 0) fun w => match w with
          | .inl _ =>
            some ((0, 0, 6))
          | .inr (u13_0, u13_1, u13_2) =>
            some ((u13_0, u13_1, u13_2)))
      (some ((0, 0, 1)))
def s_laws_FnExactFirstDrip (n : Nat) (a0 : Int) (a1 : Int) (a2 : Int) (a3 : Nat → Int) (a4 : Nat → Int) : Option (Bool) :=
  bnd (s_laws_toRoof n a0 a1 a2 a3) fun (y1_0, y1_1, y1_2, y1_3) =>
    bnd (s_laws_toRain n a4) fun y2_0 =>
      bnd (s_spec_FirstDrip n y1_0 y1_1 y1_2 y1_3 y2_0) fun (y3_0, y3_1, y3_2) =>
        bnd (s_laws_toRoof n a0 a1 a2 a3) fun (y4_0, y4_1, y4_2, y4_3) =>
          bnd (s_laws_toRain n a4) fun y5_0 =>
            bnd (s_impl_FirstDrip n y4_0 y4_1 y4_2 y4_3 y5_0) fun (y6_0, y6_1, y6_2) =>
              cnd (decide ((y6_0) = (y3_0)))
                (cnd (decide ((y6_1) = (y3_1)))
                  (cnd (decide ((y6_2) = (y3_2)))
                    (some (true))
                    (some (false)))
                  (some (false)))
                (some (false))
def as_a17i32 : V → Option ((Nat → Int))
  | (V.ints .i32 17 (e0)) => some e0
  | _ => none
theorem as_a17i32_some {x : Option V} {e0 : Nat → Int} (h : bnd x as_a17i32 = some e0) : x = some (V.ints .i32 17 (e0)) := by
  obtain ⟨v, rfl, k⟩ := bnd_some h
  unfold as_a17i32 at k
  split at k
  · simp only [Option.some.injEq, Prod.mk.injEq] at k
    obtain rfl := k
    rfl
  · cases k
def as_i32 : V → Option (Int)
  | (V.int .i32 (e0)) => some e0
  | _ => none
theorem as_i32_some {x : Option V} {e0 : Int} (h : bnd x as_i32 = some e0) : x = some (V.int .i32 (e0)) := by
  obtain ⟨v, rfl, k⟩ := bnd_some h
  unfold as_i32 at k
  split at k
  · simp only [Option.some.injEq, Prod.mk.injEq] at k
    obtain rfl := k
    rfl
  · cases k
def as_i64 : V → Option (Int)
  | (V.int .i64 (e0)) => some e0
  | _ => none
theorem as_i64_some {x : Option V} {e0 : Int} (h : bnd x as_i64 = some e0) : x = some (V.int .i64 (e0)) := by
  obtain ⟨v, rfl, k⟩ := bnd_some h
  unfold as_i64 at k
  split at k
  · simp only [Option.some.injEq, Prod.mk.injEq] at k
    obtain rfl := k
    rfl
  · cases k
def l_spec_l02Sum_b2 : Nat → (Int) → (Int) → (Int) → (Nat → Int) →  Option (Int × Int × (Nat → Int))
  | 0, _, _, _, _ => none
  | n + 1, a0, a1, a2, a3 =>
    cnd (decide ((a2) < (17)))
      (chk (inB (a1) 8)
        (chk (inB (a2) 17)
          (l_spec_l02Sum_b2 n (IntKind.i64.wrap ((a0) + (IntKind.i64.wrap ((a3) (0 + (a1).toNat * 17 + (a2).toNat * 1))))) a1 (IntKind.i64.wrap ((a2) + (1))) a3)))
      (some ((a0, a1, a3)))
def l_spec_l02Sum_b0 : Nat → (Int) → (Int) → (Nat → Int) →  Option (Int)
  | 0, _, _, _ => none
  | n + 1, a0, a1, a2 =>
    cnd (decide ((a1) < (8)))
      (bnd (l_spec_l02Sum_b2 n a0 a1 0 a2) fun (u6_0, u6_1, u6_2) =>
        l_spec_l02Sum_b0 n u6_0 (IntKind.i64.wrap ((u6_1) + (1))) u6_2)
      (some (a0))
def s_spec_l02Sum (n : Nat) (a0 : Int) (a1 : Int) (a2 : Int) (a3 : Nat → Int) (a4 : Nat → Int) : Option (Int) :=
  bnd (s_spec_l02Run n a0 a1 a2 a3 a4) fun (y1_0, y1_1, y1_2) =>
    bnd (l_spec_l02Sum_b0 n 0 0 y1_0) fun u8_0 =>
      some (u8_0)
def s_spec_DripSum (n : Nat) (a0 : Int) (a1 : Int) (a2 : Int) (a3 : Nat → Int) (a4 : Nat → Int) : Option (Int × Int) :=
  bnd (s_spec_l02Ok n a0 a1 a2 a3 a4) fun y1_0 =>
    cnd (y1_0)
      (bnd (s_spec_l02Sum n a0 a1 a2 a3 a4) fun y3_0 =>
        some ((y3_0, 0)))
      (some ((0, 1)))
def l_impl_sum_int32_b0 : Nat → (Int) → (List V) → (Int) → (Int) →  Option (Int)
  | 0, _, _, _, _ => none
  | n + 1, a0, a1, a2, a3 =>
    cnd (decide ((a3) < (a2)))
      (bnd (bnd (idx (a1) (a3)) as_i32) fun e2_0 =>
        l_impl_sum_int32_b0 n (IntKind.i64.wrap ((a0) + (IntKind.i64.wrap (e2_0)))) a1 a2 (IntKind.i64.wrap ((a3) + (1))))
      (some (a0))
def s_impl_sum_int32 (n : Nat) (a0 : List V) : Option (Int) :=
  bnd (l_impl_sum_int32_b0 n 0 a0 (((a0).length : Int)) 0) fun u3_0 =>
    some (u3_0)
def s_impl_Roof_courses_1 (n : Nat) (a0 : Nat → Int) : Option (Int) :=
  bnd (s_impl_sum_int32 n (elems (a0) .i32 (0) 1 (17))) fun y1_0 =>
    some (y1_0)
def l_impl_each_A17int32_int64__Roof_courses_1_b0 : Nat → (List V) → (Int) → (Int) → (List V) →  Option (List V)
  | 0, _, _, _, _ => none
  | n + 1, a0, a1, a2, a3 =>
    cnd (decide ((a2) < (a1)))
      (bnd (bnd (idx (a0) (a2)) as_a17i32) fun e2_0 =>
        bnd (s_impl_Roof_courses_1 n e2_0) fun y3_0 =>
          chk (decide (((a3).length + ([(V.int .i64 (y3_0))]).length) * 8 ≤ 140737488355328))
            (l_impl_each_A17int32_int64__Roof_courses_1_b0 n a0 a1 (IntKind.i64.wrap ((a2) + (1))) (a3 ++ ([(V.int .i64 (y3_0))]))))
      (some (a3))
def s_impl_each_A17int32_int64__Roof_courses_1 (n : Nat) (a0 : List V) : Option (List V) :=
  bnd (l_impl_each_A17int32_int64__Roof_courses_1_b0 n a0 (((a0).length : Int)) 0 ([])) fun u5_0 =>
    some (u5_0)
def s_impl_Roof_courses (n : Nat) (a0 : Int) (a1 : Int) (a2 : Int) (a3 : Nat → Int) (a4 : Nat → Int) : Option (List V) :=
  chk (decide (0 ≤ a1) && decide (a1 ≤ 8))
    (bnd (s_impl_each_A17int32_int64__Roof_courses_1 n (elems (a4) .i32 (0) 17 ((a1).toNat))) fun y2_0 =>
      chk (plainV (V.fresh 0 (y2_0)))
        (some (y2_0)))
def l_impl_sum_int64_b0 : Nat → (Int) → (List V) → (Int) → (Int) →  Option (Int)
  | 0, _, _, _, _ => none
  | n + 1, a0, a1, a2, a3 =>
    cnd (decide ((a3) < (a2)))
      (bnd (bnd (idx (a1) (a3)) as_i64) fun e2_0 =>
        l_impl_sum_int64_b0 n (IntKind.i64.wrap ((a0) + (e2_0))) a1 a2 (IntKind.i64.wrap ((a3) + (1))))
      (some (a0))
def s_impl_sum_int64 (n : Nat) (a0 : List V) : Option (Int) :=
  bnd (l_impl_sum_int64_b0 n 0 a0 (((a0).length : Int)) 0) fun u3_0 =>
    some (u3_0)
def s_impl_Roof_dripSum (n : Nat) (a0 : Int) (a1 : Int) (a2 : Int) (a3 : Nat → Int) (a4 : Nat → Int) : Option (Int) :=
  bnd (s_impl_Roof_run n a0 a1 a2 a3 a4) fun (y1_0, y1_1, y1_2, y1_3) =>
    bnd (s_impl_Roof_courses n a0 a1 a2 a3 y1_0) fun y2_0 =>
      bnd (s_impl_sum_int64 n y2_0) fun y3_0 =>
        some (y3_0)
def s_impl_DripSum (n : Nat) (a0 : Int) (a1 : Int) (a2 : Int) (a3 : Nat → Int) (a4 : Nat → Int) : Option (Int × Int) :=
  bnd (s_impl_ValidRain n a0 a1 a2 a3 a4) fun y1_0 =>
    cnd (y1_0)
      (bnd (s_impl_Roof_dripSum n a0 a1 a2 a3 a4) fun y3_0 =>
        some ((y3_0, 0)))
      (some ((0, 1)))
def s_laws_FnExactDripSum (n : Nat) (a0 : Int) (a1 : Int) (a2 : Int) (a3 : Nat → Int) (a4 : Nat → Int) : Option (Bool) :=
  bnd (s_laws_toRoof n a0 a1 a2 a3) fun (y1_0, y1_1, y1_2, y1_3) =>
    bnd (s_laws_toRain n a4) fun y2_0 =>
      bnd (s_spec_DripSum n y1_0 y1_1 y1_2 y1_3 y2_0) fun (y3_0, y3_1) =>
        bnd (s_laws_toRoof n a0 a1 a2 a3) fun (y4_0, y4_1, y4_2, y4_3) =>
          bnd (s_laws_toRain n a4) fun y5_0 =>
            bnd (s_impl_DripSum n y4_0 y4_1 y4_2 y4_3 y5_0) fun (y6_0, y6_1) =>
              cnd (decide ((y6_0) = (y3_0)))
                (cnd (decide ((y6_1) = (y3_1)))
                  (some (true))
                  (some (false)))
                (some (false))
def s_spec_RunDown (n : Nat) (a0 : Int) (a1 : Int) (a2 : Int) (a3 : Nat → Int) (a4 : Nat → Int) : Option ((Nat → Int) × List V × Int) :=
  bnd (s_spec_l02Ok n a0 a1 a2 a3 a4) fun y1_0 =>
    cnd (y1_0)
      (bnd (s_spec_l02Run n a0 a1 a2 a3 a4) fun (y3_0, y3_1, y3_2) =>
        chk (plainV (V.tup [(V.ints .i32 136 (y3_0)), (V.ints .i32 136 (y3_1)), (V.fresh 0 (y3_2))]))
          (some ((y3_0, y3_2, 0))))
      (some ((fun _ => 0, [], 1)))
def s_impl_RunDown (n : Nat) (a0 : Int) (a1 : Int) (a2 : Int) (a3 : Nat → Int) (a4 : Nat → Int) : Option ((Nat → Int) × List V × Int) :=
  bnd (s_impl_ValidRain n a0 a1 a2 a3 a4) fun y1_0 =>
    cnd (y1_0)
      (bnd (s_impl_Roof_run n a0 a1 a2 a3 a4) fun (y3_0, y3_1, y3_2, y3_3) =>
        some ((y3_0, y3_1, 0)))
      (some ((fun _ => 0, [], 1)))
def l_laws_eqInt32A17_b0 : Nat → (Int) → (Nat → Int) → (Nat → Int) →  Option (Sum (Unit) (Bool))
  | 0, _, _, _ => none
  | n + 1, a0, a1, a2 =>
    cnd (decide ((a0) < (17)))
      (chk (inB (a0) 17)
        (cnd (decide (((a1) (0 + (a0).toNat * 1)) = ((a2) (0 + (a0).toNat * 1))))
          (l_laws_eqInt32A17_b0 n (IntKind.i64.wrap ((a0) + (1))) a1 a2)
          (some (.inr (false)))))
      (some (.inl (())))
def s_laws_eqInt32A17 (n : Nat) (a0 : Nat → Int) (a1 : Nat → Int) : Option (Bool) :=
  bnd (l_laws_eqInt32A17_b0 n 0 a0 a1) fun w => match w with
    | .inl _ =>
      some (true)
    | .inr u5_0 =>
      some ((u5_0))
def l_laws_eqDrips_b0 : Nat → (Int) → (Nat → Int) → (Nat → Int) →  Option (Sum (Unit) (Bool))
  | 0, _, _, _ => none
  | n + 1, a0, a1, a2 =>
    cnd (decide ((a0) < (8)))
      (chk (inB (a0) 8)
        (bnd (s_laws_eqInt32A17 n ((shiftC (a1) (0 + (a0).toNat * 17))) ((shiftC (a2) (0 + (a0).toNat * 17)))) fun y3_0 =>
          cnd (y3_0)
            (l_laws_eqDrips_b0 n (IntKind.i64.wrap ((a0) + (1))) a1 a2)
            (some (.inr (false)))))
      (some (.inl (())))
def s_laws_eqDrips (n : Nat) (a0 : Nat → Int) (a1 : Nat → Int) : Option (Bool) :=
  bnd (l_laws_eqDrips_b0 n 0 a0 a1) fun w => match w with
    | .inl _ =>
      some (true)
    | .inr u6_0 =>
      some ((u6_0))
def l_laws_eqInt64S_b0 : Nat → (List V) → (List V) → (Int) →  Option (Sum (Unit) (Bool))
  | 0, _, _, _ => none
  | n + 1, a0, a1, a2 =>
    cnd (decide ((a2) < (((a0).length : Int))))
      (bnd (bnd (idx (a0) (a2)) as_i64) fun e3_0 =>
        bnd (bnd (idx (a1) (a2)) as_i64) fun e4_0 =>
          cnd (decide ((e3_0) = (e4_0)))
            (l_laws_eqInt64S_b0 n a0 a1 (IntKind.i64.wrap ((a2) + (1))))
            (some (.inr (false))))
      (some (.inl (())))
def s_laws_eqInt64S (n : Nat) (a0 : List V) (a1 : List V) : Option (Bool) :=
  cnd (decide ((((a0).length : Int)) = (((a1).length : Int))))
    (bnd (l_laws_eqInt64S_b0 n a0 a1 0) fun w => match w with
      | .inl _ =>
        some (true)
      | .inr u7_0 =>
        some ((u7_0)))
    (some (false))
def l_laws_markInt64S_b0 : Nat → (Int) → (Int) → (List V) →  Option (Int × List V)
  | 0, _, _, _ => none
  | n + 1, a0, a1, a2 =>
    cnd (decide ((a1) < (((a2).length : Int))))
      (chk (inB (a1) (a2).length)
        (bnd (bnd (nth (a2) ((a1).toNat)) as_i64) fun e3_0 =>
          l_laws_markInt64S_b0 n (IntKind.i64.wrap ((a0) + (1))) (IntKind.i64.wrap ((a1) + (1))) (setNth (a2) ((a1).toNat) (V.int .i64 (a0)))))
      (some ((a0, a2)))
def s_laws_markInt64S (n : Nat) (a0 : List V) (a1 : Int) : Option (Int × List V) :=
  bnd (l_laws_markInt64S_b0 n a1 0 a0) fun (u4_0, u4_1) =>
    some ((u4_0, u4_1))
def l_laws_heldInt64S_b0 : Nat → (List V) → (Int) → (Int) →  Option (Sum (Int) (Int))
  | 0, _, _, _ => none
  | n + 1, a0, a1, a2 =>
    cnd (decide ((a2) < (((a0).length : Int))))
      (bnd (bnd (idx (a0) (a2)) as_i64) fun e2_0 =>
        cnd (decide ((e2_0) = (a1)))
          (l_laws_heldInt64S_b0 n a0 (IntKind.i64.wrap ((a1) + (1))) (IntKind.i64.wrap ((a2) + (1))))
          (some (.inr (-1))))
      (some (.inl (a1)))
def s_laws_heldInt64S (n : Nat) (a0 : List V) (a1 : Int) : Option (Int) :=
  bnd (l_laws_heldInt64S_b0 n a0 a1 0) fun w => match w with
    | .inl u4_0 =>
      some (u4_0)
    | .inr u5_0 =>
      some (u5_0)
def s_laws_FnExactRunDown (n : Nat) (a0 : Int) (a1 : Int) (a2 : Int) (a3 : Nat → Int) (a4 : Nat → Int) : Option (Bool) :=
  bnd (s_laws_toRoof n a0 a1 a2 a3) fun (y1_0, y1_1, y1_2, y1_3) =>
    bnd (s_laws_toRain n a4) fun y2_0 =>
      bnd (s_spec_RunDown n y1_0 y1_1 y1_2 y1_3 y2_0) fun (y3_0, y3_1, y3_2) =>
        bnd (s_laws_toRoof n a0 a1 a2 a3) fun (y4_0, y4_1, y4_2, y4_3) =>
          bnd (s_laws_toRain n a4) fun y5_0 =>
            bnd (s_impl_RunDown n y4_0 y4_1 y4_2 y4_3 y5_0) fun (y6_0, y6_1, y6_2) =>
              bnd (s_laws_eqDrips n y6_0 y3_0) fun y7_0 =>
                cnd (y7_0)
                  (bnd (s_laws_eqInt64S n y6_1 y3_1) fun y9_0 =>
                    cnd (y9_0)
                      (cnd (decide ((y6_2) = (y3_2)))
                        (bnd (s_laws_markInt64S n y6_1 1) fun (y12_0, y12_1) =>
                          chk (likeRows (y6_1) (y12_1))
                            (bnd (s_laws_heldInt64S n y12_1 1) fun y14_0 =>
                              cnd (decide ((y14_0) < (0)))
                                (some (false))
                                (cnd (decide ((y14_0) = (y12_0)))
                                  (bnd (s_laws_toRoof n a0 a1 a2 a3) fun (y17_0, y17_1, y17_2, y17_3) =>
                                    bnd (s_laws_toRain n a4) fun y18_0 =>
                                      bnd (s_impl_RunDown n y17_0 y17_1 y17_2 y17_3 y18_0) fun (y19_0, y19_1, y19_2) =>
                                        bnd (s_laws_eqDrips n y19_0 y3_0) fun y20_0 =>
                                          cnd (y20_0)
                                            (bnd (s_laws_eqInt64S n y19_1 y3_1) fun y22_0 =>
                                              cnd (y22_0)
                                                (cnd (decide ((y19_2) = (y3_2)))
                                                  (bnd (s_laws_heldInt64S n y12_1 1) fun y25_0 =>
                                                    cnd (decide ((y25_0) < (0)))
                                                      (some (false))
                                                      (cnd (decide ((y25_0) = (y12_0)))
                                                        (some (true))
                                                        (some (false))))
                                                  (some (false)))
                                                (some (false)))
                                            (some (false)))
                                  (some (false)))))
                        (some (false)))
                      (some (false)))
                  (some (false))
def l_spec_CourseDrips_b2 : Nat → (Int) → (Int) → (Int) → (Int) → (Int) → (Int) → (Nat → Int) → (Nat → Int) → (List V) →  Option (Int × Int × Int × Int × Int × (Nat → Int) × (Nat → Int) × List V)
  | 0, _, _, _, _, _, _, _, _, _ => none
  | n + 1, a0, a1, a2, a3, a4, a5, a6, a7, a8 =>
    cnd (decide ((a2) < (17)))
      (chk (inB (a0) 8)
        (chk (inB (a2) 17)
          (l_spec_CourseDrips_b2 n a0 (IntKind.i64.wrap ((a1) + (IntKind.i64.wrap ((a7) (0 + (a0).toNat * 17 + (a2).toNat * 1))))) (IntKind.i64.wrap ((a2) + (1))) a3 a4 a5 a6 a7 a8)))
      (some ((a0, a1, a3, a4, a5, a6, a7, a8)))
def l_spec_CourseDrips_b0 : Nat → (Int) → (Int) → (Int) → (Int) → (Nat → Int) → (Nat → Int) → (List V) →  Option (List V)
  | 0, _, _, _, _, _, _, _ => none
  | n + 1, a0, a1, a2, a3, a4, a5, a6 =>
    cnd (decide ((a0) < (IntKind.i64.wrap (a2))))
      (bnd (l_spec_CourseDrips_b2 n a0 0 0 a1 a2 a3 a4 a5 a6) fun (u9_0, u9_1, u9_2, u9_3, u9_4, u9_5, u9_6, u9_7) =>
        chk (decide (((u9_7).length + ([(V.int .i64 (u9_1))]).length) * 8 ≤ 140737488355328))
          (l_spec_CourseDrips_b0 n (IntKind.i64.wrap ((u9_0) + (1))) u9_2 u9_3 u9_4 u9_5 u9_6 (u9_7 ++ ([(V.int .i64 (u9_1))]))))
      (some (a6))
def s_spec_CourseDrips (n : Nat) (a0 : Int) (a1 : Int) (a2 : Int) (a3 : Nat → Int) (a4 : Nat → Int) : Option (List V × Int) :=
  bnd (s_spec_l02Ok n a0 a1 a2 a3 a4) fun y1_0 =>
    cnd (y1_0)
      (bnd (s_spec_l02Run n a0 a1 a2 a3 a4) fun (y3_0, y3_1, y3_2) =>
        chk (plainV (V.tup [(V.ints .i32 136 (y3_0)), (V.ints .i32 136 (y3_1)), (V.fresh 0 (y3_2))]))
          (bnd (l_spec_CourseDrips_b0 n 0 a0 a1 a2 a3 y3_0 ([])) fun u12_0 =>
            some ((u12_0, 0))))
      (some (([], 1)))
def s_impl_CourseDrips (n : Nat) (a0 : Int) (a1 : Int) (a2 : Int) (a3 : Nat → Int) (a4 : Nat → Int) : Option (List V × Int) :=
  bnd (s_impl_ValidRain n a0 a1 a2 a3 a4) fun y1_0 =>
    cnd (y1_0)
      (bnd (s_impl_Roof_run n a0 a1 a2 a3 a4) fun (y3_0, y3_1, y3_2, y3_3) =>
        bnd (s_impl_Roof_courses n a0 a1 a2 a3 y3_0) fun y4_0 =>
          some ((y4_0, 0)))
      (some (([], 1)))
def s_laws_FnExactCourseDrips (n : Nat) (a0 : Int) (a1 : Int) (a2 : Int) (a3 : Nat → Int) (a4 : Nat → Int) : Option (Bool) :=
  bnd (s_laws_toRoof n a0 a1 a2 a3) fun (y1_0, y1_1, y1_2, y1_3) =>
    bnd (s_laws_toRain n a4) fun y2_0 =>
      bnd (s_spec_CourseDrips n y1_0 y1_1 y1_2 y1_3 y2_0) fun (y3_0, y3_1) =>
        bnd (s_laws_toRoof n a0 a1 a2 a3) fun (y4_0, y4_1, y4_2, y4_3) =>
          bnd (s_laws_toRain n a4) fun y5_0 =>
            bnd (s_impl_CourseDrips n y4_0 y4_1 y4_2 y4_3 y5_0) fun (y6_0, y6_1) =>
              bnd (s_laws_eqInt64S n y6_0 y3_0) fun y7_0 =>
                cnd (y7_0)
                  (cnd (decide ((y6_1) = (y3_1)))
                    (bnd (s_laws_markInt64S n y6_0 1) fun (y10_0, y10_1) =>
                      chk (likeRows (y6_0) (y10_1))
                        (bnd (s_laws_heldInt64S n y10_1 1) fun y12_0 =>
                          cnd (decide ((y12_0) < (0)))
                            (some (false))
                            (cnd (decide ((y12_0) = (y10_0)))
                              (bnd (s_laws_toRoof n a0 a1 a2 a3) fun (y15_0, y15_1, y15_2, y15_3) =>
                                bnd (s_laws_toRain n a4) fun y16_0 =>
                                  bnd (s_impl_CourseDrips n y15_0 y15_1 y15_2 y15_3 y16_0) fun (y17_0, y17_1) =>
                                    bnd (s_laws_eqInt64S n y17_0 y3_0) fun y18_0 =>
                                      cnd (y18_0)
                                        (cnd (decide ((y17_1) = (y3_1)))
                                          (bnd (s_laws_heldInt64S n y10_1 1) fun y21_0 =>
                                            cnd (decide ((y21_0) < (0)))
                                              (some (false))
                                              (cnd (decide ((y21_0) = (y10_0)))
                                                (some (true))
                                                (some (false))))
                                          (some (false)))
                                        (some (false)))
                              (some (false)))))
                    (some (false)))
                  (some (false))
def l_spec_l02Across_b2 : Nat → (Int) → (Int) → (Int) → (Nat → Int) → (Int) → (Int) → (Int) → (Nat → Int) → (List V) →  Option (Int × Int × Int × (Nat → Int) × Int × Int × (Nat → Int) × List V)
  | 0, _, _, _, _, _, _, _, _, _ => none
  | n + 1, a0, a1, a2, a3, a4, a5, a6, a7, a8 =>
    cnd (decide ((a6) < (8)))
      (chk (inB (a6) 8)
        (chk (inB (a4) 17)
          (l_spec_l02Across_b2 n a0 a1 a2 a3 a4 (IntKind.i64.wrap ((a5) + (IntKind.i64.wrap ((a7) (0 + (a6).toNat * 17 + (a4).toNat * 1))))) (IntKind.i64.wrap ((a6) + (1))) a7 a8)))
      (some ((a0, a1, a2, a3, a4, a5, a7, a8)))
def l_spec_l02Across_b0 : Nat → (Int) → (Int) → (Int) → (Nat → Int) → (Int) → (Nat → Int) → (List V) →  Option (List V)
  | 0, _, _, _, _, _, _, _ => none
  | n + 1, a0, a1, a2, a3, a4, a5, a6 =>
    bnd (s_spec_l01Cells n a0 a1 a2 a3) fun y2_0 =>
      cnd (decide ((a4) < (y2_0)))
        (bnd (l_spec_l02Across_b2 n a0 a1 a2 a3 a4 0 0 a5 a6) fun (u7_0, u7_1, u7_2, u7_3, u7_4, u7_5, u7_6, u7_7) =>
          chk (decide (((u7_7).length + ([(V.int .i64 (u7_5))]).length) * 8 ≤ 140737488355328))
            (l_spec_l02Across_b0 n u7_0 u7_1 u7_2 u7_3 (IntKind.i64.wrap ((u7_4) + (1))) u7_6 (u7_7 ++ ([(V.int .i64 (u7_5))]))))
        (some (a6))
def s_spec_l02Across (n : Nat) (a0 : Int) (a1 : Int) (a2 : Int) (a3 : Nat → Int) (a4 : Nat → Int) : Option (List V) :=
  bnd (s_spec_l02Run n a0 a1 a2 a3 a4) fun (y1_0, y1_1, y1_2) =>
    bnd (l_spec_l02Across_b0 n a0 a1 a2 a3 0 y1_0 ([])) fun u10_0 =>
      some (u10_0)
def s_spec_CellDrips (n : Nat) (a0 : Int) (a1 : Int) (a2 : Int) (a3 : Nat → Int) (a4 : Nat → Int) : Option (List V × Int) :=
  bnd (s_spec_l02Ok n a0 a1 a2 a3 a4) fun y1_0 =>
    cnd (y1_0)
      (bnd (s_spec_l02Across n a0 a1 a2 a3 a4) fun y3_0 =>
        chk (plainV (V.fresh 0 (y3_0)))
          (some ((y3_0, 0))))
      (some (([], 1)))
def l_impl_upTo_b0 : Nat → (Int) → (Int) → (List V) →  Option (List V)
  | 0, _, _, _ => none
  | n + 1, a0, a1, a2 =>
    cnd (decide ((a1) < (a0)))
      (chk (decide (((a2).length + ([(V.int .i64 (a1))]).length) * 8 ≤ 140737488355328))
        (l_impl_upTo_b0 n a0 (IntKind.i64.wrap ((a1) + (1))) (a2 ++ ([(V.int .i64 (a1))]))))
      (some (a2))
def s_impl_upTo (n : Nat) (a0 : Int) : Option (List V) :=
  bnd (l_impl_upTo_b0 n a0 0 ([])) fun u3_0 =>
    some (u3_0)
def s_impl_Roof_columns_1_1 (n : Nat) (a0 : Nat → Int) (a1 : Int) : Option (Int) :=
  chk (inB (a1) 17)
    (some ((a0) (0 + (a1).toNat * 1)))
def l_impl_each_A17int32_int32__Roof_columns_1_1_b0 : Nat → (Int) → (List V) → (Int) → (Int) → (List V) →  Option (List V)
  | 0, _, _, _, _, _ => none
  | n + 1, a0, a1, a2, a3, a4 =>
    cnd (decide ((a3) < (a2)))
      (bnd (bnd (idx (a1) (a3)) as_a17i32) fun e2_0 =>
        bnd (s_impl_Roof_columns_1_1 n e2_0 a0) fun y3_0 =>
          chk (decide (((a4).length + ([(V.int .i32 (y3_0))]).length) * 4 ≤ 140737488355328))
            (l_impl_each_A17int32_int32__Roof_columns_1_1_b0 n a0 a1 a2 (IntKind.i64.wrap ((a3) + (1))) (a4 ++ ([(V.int .i32 (y3_0))]))))
      (some (a4))
def s_impl_each_A17int32_int32__Roof_columns_1_1 (n : Nat) (a0 : List V) (a1 : Int) : Option (List V) :=
  bnd (l_impl_each_A17int32_int32__Roof_columns_1_1_b0 n a1 a0 (((a0).length : Int)) 0 ([])) fun u5_0 =>
    some (u5_0)
def s_impl_Roof_columns_1 (n : Nat) (a0 : Int) (a1 : Nat → Int) : Option (Int) :=
  bnd (s_impl_each_A17int32_int32__Roof_columns_1_1 n (elems (a1) .i32 (0) 17 (8)) a0) fun y1_0 =>
    chk (plainV (V.fresh 0 (y1_0)))
      (bnd (s_impl_sum_int32 n y1_0) fun y3_0 =>
        some (y3_0))
def l_impl_each_int_int64__Roof_columns_1_b0 : Nat → (Nat → Int) → (List V) → (Int) → (Int) → (List V) →  Option (List V)
  | 0, _, _, _, _, _ => none
  | n + 1, a0, a1, a2, a3, a4 =>
    cnd (decide ((a3) < (a2)))
      (bnd (bnd (idx (a1) (a3)) as_i64) fun e2_0 =>
        bnd (s_impl_Roof_columns_1 n e2_0 a0) fun y3_0 =>
          chk (decide (((a4).length + ([(V.int .i64 (y3_0))]).length) * 8 ≤ 140737488355328))
            (l_impl_each_int_int64__Roof_columns_1_b0 n a0 a1 a2 (IntKind.i64.wrap ((a3) + (1))) (a4 ++ ([(V.int .i64 (y3_0))]))))
      (some (a4))
def s_impl_each_int_int64__Roof_columns_1 (n : Nat) (a0 : List V) (a1 : Nat → Int) : Option (List V) :=
  bnd (l_impl_each_int_int64__Roof_columns_1_b0 n a1 a0 (((a0).length : Int)) 0 ([])) fun u5_0 =>
    some (u5_0)
def s_impl_Roof_columns (n : Nat) (a0 : Int) (a1 : Int) (a2 : Int) (a3 : Nat → Int) (a4 : Nat → Int) : Option (List V) :=
  bnd (s_impl_Roof_cells n a0 a1 a2 a3) fun y1_0 =>
    bnd (s_impl_upTo n y1_0) fun y2_0 =>
      bnd (s_impl_each_int_int64__Roof_columns_1 n y2_0 a4) fun y3_0 =>
        chk (plainV (V.fresh 0 (y3_0)))
          (some (y3_0))
def s_impl_CellDrips (n : Nat) (a0 : Int) (a1 : Int) (a2 : Int) (a3 : Nat → Int) (a4 : Nat → Int) : Option (List V × Int) :=
  bnd (s_impl_ValidRain n a0 a1 a2 a3 a4) fun y1_0 =>
    cnd (y1_0)
      (bnd (s_impl_Roof_run n a0 a1 a2 a3 a4) fun (y3_0, y3_1, y3_2, y3_3) =>
        bnd (s_impl_Roof_columns n a0 a1 a2 a3 y3_0) fun y4_0 =>
          some ((y4_0, 0)))
      (some (([], 1)))
def s_laws_FnExactCellDrips (n : Nat) (a0 : Int) (a1 : Int) (a2 : Int) (a3 : Nat → Int) (a4 : Nat → Int) : Option (Bool) :=
  bnd (s_laws_toRoof n a0 a1 a2 a3) fun (y1_0, y1_1, y1_2, y1_3) =>
    bnd (s_laws_toRain n a4) fun y2_0 =>
      bnd (s_spec_CellDrips n y1_0 y1_1 y1_2 y1_3 y2_0) fun (y3_0, y3_1) =>
        bnd (s_laws_toRoof n a0 a1 a2 a3) fun (y4_0, y4_1, y4_2, y4_3) =>
          bnd (s_laws_toRain n a4) fun y5_0 =>
            bnd (s_impl_CellDrips n y4_0 y4_1 y4_2 y4_3 y5_0) fun (y6_0, y6_1) =>
              bnd (s_laws_eqInt64S n y6_0 y3_0) fun y7_0 =>
                cnd (y7_0)
                  (cnd (decide ((y6_1) = (y3_1)))
                    (bnd (s_laws_markInt64S n y6_0 1) fun (y10_0, y10_1) =>
                      chk (likeRows (y6_0) (y10_1))
                        (bnd (s_laws_heldInt64S n y10_1 1) fun y12_0 =>
                          cnd (decide ((y12_0) < (0)))
                            (some (false))
                            (cnd (decide ((y12_0) = (y10_0)))
                              (bnd (s_laws_toRoof n a0 a1 a2 a3) fun (y15_0, y15_1, y15_2, y15_3) =>
                                bnd (s_laws_toRain n a4) fun y16_0 =>
                                  bnd (s_impl_CellDrips n y15_0 y15_1 y15_2 y15_3 y16_0) fun (y17_0, y17_1) =>
                                    bnd (s_laws_eqInt64S n y17_0 y3_0) fun y18_0 =>
                                      cnd (y18_0)
                                        (cnd (decide ((y17_1) = (y3_1)))
                                          (bnd (s_laws_heldInt64S n y10_1 1) fun y21_0 =>
                                            cnd (decide ((y21_0) < (0)))
                                              (some (false))
                                              (cnd (decide ((y21_0) = (y10_0)))
                                                (some (true))
                                                (some (false))))
                                          (some (false)))
                                        (some (false)))
                              (some (false)))))
                    (some (false)))
                  (some (false))
def l_spec_WorstCell_b0 : Nat → (Int) → (Int) → (List V) →  Option (Int × List V)
  | 0, _, _, _ => none
  | n + 1, a0, a1, a2 =>
    cnd (decide ((a1) < (((a2).length : Int))))
      (chk (inB (a1) (a2).length)
        (bnd (bnd (nth (a2) ((a1).toNat)) as_i64) fun e7_0 =>
          chk (inB (a0) (a2).length)
            (bnd (bnd (nth (a2) ((a0).toNat)) as_i64) fun e9_0 =>
              cnd (decide ((e9_0) < (e7_0)))
                (l_spec_WorstCell_b0 n a1 (IntKind.i64.wrap ((a1) + (1))) a2)
                (l_spec_WorstCell_b0 n a0 (IntKind.i64.wrap ((a1) + (1))) a2))))
      (some ((a0, a2)))
def s_spec_WorstCell (n : Nat) (a0 : Int) (a1 : Int) (a2 : Int) (a3 : Nat → Int) (a4 : Nat → Int) : Option (Int × Int × Int) :=
  bnd (s_spec_l02Ok n a0 a1 a2 a3 a4) fun y1_0 =>
    cnd (y1_0)
      (bnd (s_spec_l02Across n a0 a1 a2 a3 a4) fun y3_0 =>
        chk (plainV (V.fresh 0 (y3_0)))
          (bnd (l_spec_WorstCell_b0 n 0 1 y3_0) fun (u11_0, u11_1) =>
            chk (inB (u11_0) (u11_1).length)
              (bnd (bnd (nth (u11_1) ((u11_0).toNat)) as_i64) fun e14_0 =>
                cnd (decide ((e14_0) = (0)))
                  (some ((0, 0, 6)))
                  (bnd (bnd (nth (u11_1) ((u11_0).toNat)) as_i64) fun e16_0 =>
                    some ((u11_0, e16_0, 0))))))
      (some ((0, 0, 1)))
def l_slices_Max_Sint64_int64_b0 : Nat → (List V) → (Int) → (Int) →  Option (Int)
  | 0, _, _, _ => none
  | n + 1, a0, a1, a2 =>
    cnd (decide ((a2) < (((a0).length : Int))))
      (bnd (bnd (idx (a0) (a2)) as_i64) fun e4_0 =>
        l_slices_Max_Sint64_int64_b0 n a0 (maxI (a1) (e4_0)) (IntKind.i64.wrap ((a2) + (1))))
      (some (a1))
def s_slices_Max_Sint64_int64 (n : Nat) (a0 : List V) : Option (Int) :=
  cnd (decide ((((a0).length : Int)) < (1)))
    (none)
    (bnd (bnd (idx (a0) (0)) as_i64) fun e2_0 =>
      bnd (l_slices_Max_Sint64_int64_b0 n a0 e2_0 1) fun u5_0 =>
        some (u5_0))
def l_slices_Index_Sint64_int64_b0 : Nat → (List V) → (Int) → (Int) → (Int) →  Option (Sum (Unit) (Int))
  | 0, _, _, _, _ => none
  | n + 1, a0, a1, a2, a3 =>
    cnd (decide ((a3) < (a2)))
      (bnd (bnd (idx (a0) (a3)) as_i64) fun e2_0 =>
        cnd (decide ((a1) = (e2_0)))
          (some (.inr (a3)))
          (l_slices_Index_Sint64_int64_b0 n a0 a1 a2 (IntKind.i64.wrap ((a3) + (1)))))
      (some (.inl (())))
def s_slices_Index_Sint64_int64 (n : Nat) (a0 : List V) (a1 : Int) : Option (Int) :=
  bnd (l_slices_Index_Sint64_int64_b0 n a0 a1 (((a0).length : Int)) 0) fun w => match w with
    | .inl _ =>
      some (-1)
    | .inr u5_0 =>
      some (u5_0)
def s_impl_WorstCell (n : Nat) (a0 : Int) (a1 : Int) (a2 : Int) (a3 : Nat → Int) (a4 : Nat → Int) : Option (Int × Int × Int) :=
  bnd (s_impl_ValidRain n a0 a1 a2 a3 a4) fun y1_0 =>
    cnd (y1_0)
      (bnd (s_impl_Roof_run n a0 a1 a2 a3 a4) fun (y3_0, y3_1, y3_2, y3_3) =>
        bnd (s_impl_Roof_columns n a0 a1 a2 a3 y3_0) fun y4_0 =>
          bnd (s_slices_Max_Sint64_int64 n y4_0) fun y5_0 =>
            cnd (decide ((y5_0) = (0)))
              (some ((0, 0, 6)))
              (bnd (s_slices_Index_Sint64_int64 n y4_0 y5_0) fun y7_0 =>
                some ((y7_0, y5_0, 0))))
      (some ((0, 0, 1)))
def s_laws_FnExactWorstCell (n : Nat) (a0 : Int) (a1 : Int) (a2 : Int) (a3 : Nat → Int) (a4 : Nat → Int) : Option (Bool) :=
  bnd (s_laws_toRoof n a0 a1 a2 a3) fun (y1_0, y1_1, y1_2, y1_3) =>
    bnd (s_laws_toRain n a4) fun y2_0 =>
      bnd (s_spec_WorstCell n y1_0 y1_1 y1_2 y1_3 y2_0) fun (y3_0, y3_1, y3_2) =>
        bnd (s_laws_toRoof n a0 a1 a2 a3) fun (y4_0, y4_1, y4_2, y4_3) =>
          bnd (s_laws_toRain n a4) fun y5_0 =>
            bnd (s_impl_WorstCell n y4_0 y4_1 y4_2 y4_3 y5_0) fun (y6_0, y6_1, y6_2) =>
              cnd (decide ((y6_0) = (y3_0)))
                (cnd (decide ((y6_1) = (y3_1)))
                  (cnd (decide ((y6_2) = (y3_2)))
                    (some (true))
                    (some (false)))
                  (some (false)))
                (some (false))
def s_spec_l02Pails (n : Nat) (a0 : Int) (a1 : Int) (a2 : Int) (a3 : Nat → Int) (a4 : Nat → Int) (a5 : Int) : Option (Int) :=
  bnd (s_spec_l02Ok n a0 a1 a2 a3 a4) fun y1_0 =>
    cnd (y1_0)
      (bnd (s_spec_l00In n a5 1 10000) fun y3_0 =>
        cnd (y3_0)
          (some (0))
          (some (2)))
      (some (1))
def l_spec_PailsFor_b0 : Nat → (Int) → (Int) → (Int) → (List V) →  Option (Int)
  | 0, _, _, _, _ => none
  | n + 1, a0, a1, a2, a3 =>
    cnd (decide ((a2) < (((a3).length : Int))))
      (chk (inB (a2) (a3).length)
        (bnd (bnd (nth (a3) ((a2).toNat)) as_i64) fun e7_0 =>
          chk (!decide ((a0) = 0))
            (l_spec_PailsFor_b0 n a0 (IntKind.i64.wrap ((a1) + (IntKind.i64.wrap ((IntKind.i64.wrap ((IntKind.i64.wrap ((e7_0) + (a0))) - (1))).tdiv (a0))))) (IntKind.i64.wrap ((a2) + (1))) a3)))
      (some (a1))
def s_spec_PailsFor (n : Nat) (a0 : Int) (a1 : Int) (a2 : Int) (a3 : Nat → Int) (a4 : Nat → Int) (a5 : Int) : Option (Int × Int) :=
  bnd (s_spec_l02Pails n a0 a1 a2 a3 a4 a5) fun y1_0 =>
    cnd (decide ((y1_0) = (0)))
      (bnd (s_spec_l02Across n a0 a1 a2 a3 a4) fun y3_0 =>
        chk (plainV (V.fresh 0 (y3_0)))
          (bnd (l_spec_PailsFor_b0 n a5 0 0 y3_0) fun u9_0 =>
            some ((u9_0, 0))))
      (some ((0, y1_0)))
def s_impl_isPail (n : Nat) (a0 : Int) : Option (Bool) :=
  bnd (s_impl_within_int64 n a0 1 10000) fun y1_0 =>
    some ((y1_0))
def s_impl_rainCode (n : Nat) (a0 : Int) (a1 : Int) (a2 : Int) (a3 : Nat → Int) (a4 : Nat → Int) (a5 : Bool) : Option (Int) :=
  bnd (s_impl_ValidRain n a0 a1 a2 a3 a4) fun y1_0 =>
    cnd (y1_0)
      (cnd (a5)
        (some (0))
        (some (2)))
      (some (1))
def s_impl_up_int64 (n : Nat) (a0 : Int) (a1 : Int) : Option (Int) :=
  chk (!decide ((a1) = 0))
    (some (IntKind.i64.wrap ((IntKind.i64.wrap ((IntKind.i64.wrap ((a0) + (a1))) - (1))).tdiv (a1))))
def s_impl_PailsFor_1 (n : Nat) (a0 : Int) (a1 : Int) : Option (Int) :=
  bnd (s_impl_up_int64 n a0 a1) fun y1_0 =>
    some (y1_0)
def l_impl_each_int64_int64__PailsFor_1_b0 : Nat → (Int) → (List V) → (Int) → (Int) → (List V) →  Option (List V)
  | 0, _, _, _, _, _ => none
  | n + 1, a0, a1, a2, a3, a4 =>
    cnd (decide ((a3) < (a2)))
      (bnd (bnd (idx (a1) (a3)) as_i64) fun e2_0 =>
        bnd (s_impl_PailsFor_1 n e2_0 a0) fun y3_0 =>
          chk (decide (((a4).length + ([(V.int .i64 (y3_0))]).length) * 8 ≤ 140737488355328))
            (l_impl_each_int64_int64__PailsFor_1_b0 n a0 a1 a2 (IntKind.i64.wrap ((a3) + (1))) (a4 ++ ([(V.int .i64 (y3_0))]))))
      (some (a4))
def s_impl_each_int64_int64__PailsFor_1 (n : Nat) (a0 : List V) (a1 : Int) : Option (List V) :=
  bnd (l_impl_each_int64_int64__PailsFor_1_b0 n a1 a0 (((a0).length : Int)) 0 ([])) fun u5_0 =>
    some (u5_0)
def s_impl_PailsFor (n : Nat) (a0 : Int) (a1 : Int) (a2 : Int) (a3 : Nat → Int) (a4 : Nat → Int) (a5 : Int) : Option (Int × Int) :=
  bnd (s_impl_isPail n a5) fun y1_0 =>
    bnd (s_impl_rainCode n a0 a1 a2 a3 a4 ((y1_0))) fun y2_0 =>
      cnd (decide ((y2_0) = (0)))
        (bnd (s_impl_Roof_run n a0 a1 a2 a3 a4) fun (y4_0, y4_1, y4_2, y4_3) =>
          bnd (s_impl_Roof_columns n a0 a1 a2 a3 y4_0) fun y5_0 =>
            bnd (s_impl_each_int64_int64__PailsFor_1 n y5_0 a5) fun y6_0 =>
              chk (plainV (V.fresh 0 (y6_0)))
                (bnd (s_impl_sum_int64 n y6_0) fun y8_0 =>
                  some ((y8_0, 0))))
        (some ((0, y2_0)))
def s_laws_FnExactPailsFor (n : Nat) (a0 : Int) (a1 : Int) (a2 : Int) (a3 : Nat → Int) (a4 : Nat → Int) (a5 : Int) : Option (Bool) :=
  bnd (s_laws_toRoof n a0 a1 a2 a3) fun (y1_0, y1_1, y1_2, y1_3) =>
    bnd (s_laws_toRain n a4) fun y2_0 =>
      bnd (s_spec_PailsFor n y1_0 y1_1 y1_2 y1_3 y2_0 a5) fun (y3_0, y3_1) =>
        bnd (s_laws_toRoof n a0 a1 a2 a3) fun (y4_0, y4_1, y4_2, y4_3) =>
          bnd (s_laws_toRain n a4) fun y5_0 =>
            bnd (s_impl_PailsFor n y4_0 y4_1 y4_2 y4_3 y5_0 a5) fun (y6_0, y6_1) =>
              cnd (decide ((y6_0) = (y3_0)))
                (cnd (decide ((y6_1) = (y3_1)))
                  (some (true))
                  (some (false)))
                (some (false))
def s_laws_toPlace (n : Nat) (a0 : Int) (a1 : Int) : Option (Int × Int) :=
  some ((a0, a1))
def s_spec_l02Save (n : Nat) (a0 : Int) (a1 : Int) (a2 : Int) (a3 : Nat → Int) (a4 : Nat → Int) (a5 : Int) (a6 : Int) : Option (Int) :=
  chk (inB (a5) 8)
    (chk (inB (a6) 8)
      (bnd (s_spec_l02Sum n a0 a1 a2 a3 a4) fun y3_0 =>
        bnd (s_spec_l02Sum n a0 a1 a2 (updC (a3) (0 + (a5).toNat * 8 + (a6).toNat * 1) (0)) a4) fun y4_0 =>
          some (IntKind.i64.wrap ((y3_0) - (y4_0)))))
def s_spec_SaveOf (n : Nat) (a0 : Int) (a1 : Int) (a2 : Int) (a3 : Nat → Int) (a4 : Nat → Int) (a5 : Int) (a6 : Int) : Option (Int × Int) :=
  bnd (s_spec_l02Ok n a0 a1 a2 a3 a4) fun y1_0 =>
    cnd (y1_0)
      (bnd (s_spec_l01Is n a0 a1 a2 a3 a5 a6) fun y3_0 =>
        cnd (y3_0)
          (bnd (s_spec_l02Save n a0 a1 a2 a3 a4 a5 a6) fun y5_0 =>
            some ((y5_0, 0)))
          (some ((0, 2))))
      (some ((0, 1)))
def s_impl_Roof_has (n : Nat) (a0 : Int) (a1 : Int) (a2 : Int) (a3 : Nat → Int) (a4 : Int) (a5 : Int) : Option (Bool) :=
  bnd (s_impl_within_int8 n a4 0 (IntKind.i8.wrap ((a1) - (1)))) fun y1_0 =>
    cnd (y1_0)
      (bnd (s_impl_within_int8 n a5 0 (IntKind.i8.wrap ((a0) - (1)))) fun y3_0 =>
        some ((y3_0)))
      (some (false))
def s_impl_Roof_with (n : Nat) (a0 : Int) (a1 : Int) (a2 : Int) (a3 : Nat → Int) (a4 : Int) (a5 : Int) (a6 : Int) : Option (Int × Int × Int × (Nat → Int)) :=
  chk (inB (a4) 8)
    (chk (inB (a5) 8)
      (some ((a0, a1, a2, updC (a3) (0 + (a4).toNat * 8 + (a5).toNat * 1) (a6)))))
def s_impl_Roof_save (n : Nat) (a0 : Int) (a1 : Int) (a2 : Int) (a3 : Nat → Int) (a4 : Nat → Int) (a5 : Int) (a6 : Int) : Option (Int) :=
  bnd (s_impl_Roof_dripSum n a0 a1 a2 a3 a4) fun y1_0 =>
    bnd (s_impl_Roof_with n a0 a1 a2 a3 a5 a6 0) fun (y2_0, y2_1, y2_2, y2_3) =>
      bnd (s_impl_Roof_dripSum n y2_0 y2_1 y2_2 y2_3 a4) fun y3_0 =>
        some (IntKind.i64.wrap ((y1_0) - (y3_0)))
def s_impl_SaveOf (n : Nat) (a0 : Int) (a1 : Int) (a2 : Int) (a3 : Nat → Int) (a4 : Nat → Int) (a5 : Int) (a6 : Int) : Option (Int × Int) :=
  bnd (s_impl_Roof_has n a0 a1 a2 a3 a5 a6) fun y1_0 =>
    bnd (s_impl_rainCode n a0 a1 a2 a3 a4 ((y1_0))) fun y2_0 =>
      cnd (decide ((y2_0) = (0)))
        (bnd (s_impl_Roof_save n a0 a1 a2 a3 a4 a5 a6) fun y4_0 =>
          some ((y4_0, 0)))
        (some ((0, y2_0)))
def s_laws_FnExactSaveOf (n : Nat) (a0 : Int) (a1 : Int) (a2 : Int) (a3 : Nat → Int) (a4 : Nat → Int) (a5 : Int) (a6 : Int) : Option (Bool) :=
  bnd (s_laws_toRoof n a0 a1 a2 a3) fun (y1_0, y1_1, y1_2, y1_3) =>
    bnd (s_laws_toRain n a4) fun y2_0 =>
      bnd (s_laws_toPlace n a5 a6) fun (y3_0, y3_1) =>
        bnd (s_spec_SaveOf n y1_0 y1_1 y1_2 y1_3 y2_0 y3_0 y3_1) fun (y4_0, y4_1) =>
          bnd (s_laws_toRoof n a0 a1 a2 a3) fun (y5_0, y5_1, y5_2, y5_3) =>
            bnd (s_laws_toRain n a4) fun y6_0 =>
              bnd (s_laws_toPlace n a5 a6) fun (y7_0, y7_1) =>
                bnd (s_impl_SaveOf n y5_0 y5_1 y5_2 y5_3 y6_0 y7_0 y7_1) fun (y8_0, y8_1) =>
                  cnd (decide ((y8_0) = (y4_0)))
                    (cnd (decide ((y8_1) = (y4_1)))
                      (some (true))
                      (some (false)))
                    (some (false))
end Go.Proofs.Ytkfihbdikdkcmaa
