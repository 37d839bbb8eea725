/- What functions of the program answer, in plain Lean: printed by gen.py out of the program. -/
import Derived.Test.YtdhcfdiggcgmhaaSh2
namespace Go.Proofs.Ytdhcfdiggcgmhaa
open Go
set_option linter.unusedVariables false
set_option linter.unusedSimpArgs false
def as_u8 : V → Option (Int)
  | (V.int .u8 (e0)) => some e0
  | _ => none
theorem as_u8_some {x : Option V} {e0 : Int} (h : bnd x as_u8 = some e0) : x = some (V.int .u8 (e0)) := by
  obtain ⟨v, rfl, k⟩ := bnd_some h
  unfold as_u8 at k
  split at k
  · simp only [Option.some.injEq, Prod.mk.injEq] at k
    obtain rfl := k
    rfl
  · cases k
def s_impl_seekerOf (n : Nat) (a0 : Int) (a1 : Int) (a2 : Int) (a3 : Nat → Int) (a4 : Nat → Int) (a5 : Nat → Int) : Option (Int × Int × Int × (Nat → Int) × (Nat → Int) × (Nat → Int)) :=
  bnd (s_impl_Roof_comes n a0 a1 a2 a3 a4 a5) fun y1_0 =>
    some ((a0, a1, a2, a3, y1_0, a5))
def s_impl_Roof_cellsOf (n : Nat) (a0 : Int) (a1 : Int) (a2 : Int) (a3 : Nat → Int) (a4 : Int) (a5 : Int) : Option (List V) :=
  bnd (s_impl_Roof_shift n a0 a1 a2 a3 (IntKind.i64.wrap (a4))) fun y1_0 =>
    some ([(V.int .i64 (IntKind.i64.wrap ((IntKind.i64.wrap ((2) * (IntKind.i64.wrap (a5)))) + (y1_0)))), (V.int .i64 (IntKind.i64.wrap ((IntKind.i64.wrap ((IntKind.i64.wrap ((2) * (IntKind.i64.wrap (a5)))) + (y1_0))) + (1))))])
def s_impl_KindsFor_1 (n : Nat) (a0 : Int) : Option (List V) :=
  some ([(V.int .u8 (0)), (V.int .u8 (2))])
def s_pimpl_seeker_kinds_1_1 (n : Nat) (a0 : Int) (a1 : Int) (a2 : Int) (a3 : Int) : Option (Bool) :=
  bnd (s_impl_dripOf n a1 a0 a2) fun y1_0 =>
    some ((decide ((y1_0) = (a3))))
def l_slices_IndexFunc_Suint8_uint8__pseeker_kinds_1_1_b0 : Nat → (List V) → (Int) → (Int) → (Int) → (Int) → (Int) →  Option (Sum (Unit) (Int))
  | 0, _, _, _, _, _, _ => none
  | n + 1, a0, a1, a2, a3, a4, a5 =>
    cnd (decide ((a5) < (a4)))
      (bnd (bnd (idx (a0) (a5)) as_u8) fun e2_0 =>
        bnd (s_pimpl_seeker_kinds_1_1 n e2_0 a1 a2 a3) fun y3_0 =>
          cnd (y3_0)
            (some (.inr (a5)))
            (l_slices_IndexFunc_Suint8_uint8__pseeker_kinds_1_1_b0 n a0 a1 a2 a3 a4 (IntKind.i64.wrap ((a5) + (1)))))
      (some (.inl (())))
def s_slices_IndexFunc_Suint8_uint8__pseeker_kinds_1_1 (n : Nat) (a0 : List V) (a1 : Int) (a2 : Int) (a3 : Int) : Option (Int) :=
  bnd (l_slices_IndexFunc_Suint8_uint8__pseeker_kinds_1_1_b0 n a0 a1 a2 a3 (((a0).length : Int)) 0) fun w => match w with
    | .inl _ =>
      some (-1)
    | .inr u6_0 =>
      some (u6_0)
def s_slices_ContainsFunc_Suint8_uint8__pseeker_kinds_1_1 (n : Nat) (a0 : List V) (a1 : Int) (a2 : Int) (a3 : Int) : Option (Bool) :=
  bnd (s_slices_IndexFunc_Suint8_uint8__pseeker_kinds_1_1 n a0 a1 a2 a3) fun y1_0 =>
    some ((decide ((0) ≤ (y1_0))))
def s_pimpl_seeker_kinds_1__KindsFor_1 (n : Nat) (a0 : Int) (a1 : Int) (a2 : Int) (a3 : Int) (a4 : Nat → Int) (a5 : Nat → Int) (a6 : Nat → Int) (a7 : Int) (a8 : Int) (a9 : Int) : Option (Bool) :=
  chk (inB (a7) 8)
    (chk (inB (a0) 17)
      (bnd (s_impl_KindsFor_1 n a0) fun y3_0 =>
        bnd (s_slices_ContainsFunc_Suint8_uint8__pseeker_kinds_1_1 n y3_0 a9 ((a5) (0 + (a7).toNat * 17 + (a0).toNat * 1)) ((a6) (0 + (a7).toNat * 17 + (a0).toNat * 1))) fun y4_0 =>
          some ((y4_0))))
def s_impl_areAll_int_1__pseeker_kinds_1__KindsFor_1 (n : Nat) (a0 : Int) (a1 : Int) (a2 : Int) (a3 : Int) (a4 : Nat → Int) (a5 : Nat → Int) (a6 : Nat → Int) (a7 : Int) (a8 : Int) (a9 : Int) : Option (Bool) :=
  bnd (s_pimpl_seeker_kinds_1__KindsFor_1 n a0 a1 a2 a3 a4 a5 a6 a7 a8 a9) fun y1_0 =>
    some ((!(y1_0)))
def l_slices_IndexFunc_Sint_int__areAll_int_1__pseeker_kinds_1__KindsFor_1_b0 : Nat → (List V) → (Int) → (Int) → (Int) → (Nat → Int) → (Nat → Int) → (Nat → Int) → (Int) → (Int) → (Int) → (Int) → (Int) →  Option (Sum (Unit) (Int))
  | 0, _, _, _, _, _, _, _, _, _, _, _, _ => none
  | n + 1, a0, a1, a2, a3, a4, a5, a6, a7, a8, a9, a10, a11 =>
    cnd (decide ((a11) < (a10)))
      (bnd (bnd (idx (a0) (a11)) as_i64) fun e2_0 =>
        bnd (s_impl_areAll_int_1__pseeker_kinds_1__KindsFor_1 n e2_0 a1 a2 a3 a4 a5 a6 a7 a8 a9) fun y3_0 =>
          cnd (y3_0)
            (some (.inr (a11)))
            (l_slices_IndexFunc_Sint_int__areAll_int_1__pseeker_kinds_1__KindsFor_1_b0 n a0 a1 a2 a3 a4 a5 a6 a7 a8 a9 a10 (IntKind.i64.wrap ((a11) + (1)))))
      (some (.inl (())))
def s_slices_IndexFunc_Sint_int__areAll_int_1__pseeker_kinds_1__KindsFor_1 (n : Nat) (a0 : List V) (a1 : Int) (a2 : Int) (a3 : Int) (a4 : Nat → Int) (a5 : Nat → Int) (a6 : Nat → Int) (a7 : Int) (a8 : Int) (a9 : Int) : Option (Int) :=
  bnd (l_slices_IndexFunc_Sint_int__areAll_int_1__pseeker_kinds_1__KindsFor_1_b0 n a0 a1 a2 a3 a4 a5 a6 a7 a8 a9 (((a0).length : Int)) 0) fun w => match w with
    | .inl _ =>
      some (-1)
    | .inr u6_0 =>
      some (u6_0)
def s_slices_ContainsFunc_Sint_int__areAll_int_1__pseeker_kinds_1__KindsFor_1 (n : Nat) (a0 : List V) (a1 : Int) (a2 : Int) (a3 : Int) (a4 : Nat → Int) (a5 : Nat → Int) (a6 : Nat → Int) (a7 : Int) (a8 : Int) (a9 : Int) : Option (Bool) :=
  bnd (s_slices_IndexFunc_Sint_int__areAll_int_1__pseeker_kinds_1__KindsFor_1 n a0 a1 a2 a3 a4 a5 a6 a7 a8 a9) fun y1_0 =>
    some ((decide ((0) ≤ (y1_0))))
def s_impl_areAll_int__pseeker_kinds_1__KindsFor_1 (n : Nat) (a0 : List V) (a1 : Int) (a2 : Int) (a3 : Int) (a4 : Nat → Int) (a5 : Nat → Int) (a6 : Nat → Int) (a7 : Int) (a8 : Int) (a9 : Int) : Option (Bool) :=
  bnd (s_slices_ContainsFunc_Sint_int__areAll_int_1__pseeker_kinds_1__KindsFor_1 n a0 a1 a2 a3 a4 a5 a6 a7 a8 a9) fun y1_0 =>
    some ((!(y1_0)))
def l_pimpl_seeker_kinds__KindsFor_1_b0 : Nat → (Int) → (Int) → (Int) → (Int) → (Int) → (Nat → Int) → (Nat → Int) → (Nat → Int) → (Int) → (Int) →  Option (Int)
  | 0, _, _, _, _, _, _, _, _, _, _ => none
  | n + 1, a0, a1, a2, a3, a4, a5, a6, a7, a8, a9 =>
    cnd (decide ((a1) < (4)))
      (bnd (s_impl_Roof_cellsOf n a2 a3 a4 a5 a8 a9) fun y2_0 =>
        bnd (s_impl_areAll_int__pseeker_kinds_1__KindsFor_1 n y2_0 a2 a3 a4 a5 a6 a7 a8 a9 a1) fun y3_0 =>
          cnd (y3_0)
            (chk (decide (0 ≤ a1))
              (l_pimpl_seeker_kinds__KindsFor_1_b0 n (IntKind.u8.wrap (BitVec.ofInt IntKind.u8.bits (a0) ||| BitVec.ofInt IntKind.u8.bits (IntKind.u8.wrap ((1) * 2 ^ (min (a1).toNat IntKind.u8.bits)))).toNat) (IntKind.u8.wrap ((a1) + (1))) a2 a3 a4 a5 a6 a7 a8 a9))
            (l_pimpl_seeker_kinds__KindsFor_1_b0 n a0 (IntKind.u8.wrap ((a1) + (1))) a2 a3 a4 a5 a6 a7 a8 a9))
      (some (a0))
def s_pimpl_seeker_kinds__KindsFor_1 (n : Nat) (a0 : Int) (a1 : Int) (a2 : Int) (a3 : Nat → Int) (a4 : Nat → Int) (a5 : Nat → Int) (a6 : Int) (a7 : Int) : Option (Int) :=
  bnd (l_pimpl_seeker_kinds__KindsFor_1_b0 n 0 0 a0 a1 a2 a3 a4 a5 a6 a7) fun u6_0 =>
    some (u6_0)
def s_impl_KindsFor (n : Nat) (a0 : Int) (a1 : Int) (a2 : Int) (a3 : Nat → Int) (a4 : Nat → Int) (a5 : Nat → Int) (a6 : Int) (a7 : Int) : Option (Int × Int) :=
  bnd (s_impl_Roof_has n a0 a1 a2 a3 a6 a7) fun y1_0 =>
    bnd (s_impl_seenCode n a0 a1 a2 a3 a4 a5 ((y1_0))) fun y2_0 =>
      cnd (decide ((y2_0) = (0)))
        (bnd (s_impl_seekerOf n a0 a1 a2 a3 a4 a5) fun (y4_0, y4_1, y4_2, y4_3, y4_4, y4_5) =>
          bnd (s_pimpl_seeker_kinds__KindsFor_1 n y4_0 y4_1 y4_2 y4_3 y4_4 y4_5 a6 a7) fun y5_0 =>
            some ((y5_0, 0)))
        (some ((0, y2_0)))
def s_laws_FnExactKindsFor (n : Nat) (a0 : Int) (a1 : Int) (a2 : Int) (a3 : Nat → Int) (a4 : Nat → Int) (a5 : Nat → Int) (a6 : Int) (a7 : Int) : Option (Bool) :=
  bnd (s_laws_toRoof n a0 a1 a2 a3) fun (y1_0, y1_1, y1_2, y1_3) =>
    bnd (s_laws_toRain n a4) fun y2_0 =>
      bnd (s_laws_toDrips n a5) fun y3_0 =>
        bnd (s_laws_toPlace n a6 a7) fun (y4_0, y4_1) =>
          bnd (s_spec_KindsFor n y1_0 y1_1 y1_2 y1_3 y2_0 y3_0 y4_0 y4_1) fun (y5_0, y5_1) =>
            bnd (s_laws_toRoof n a0 a1 a2 a3) fun (y6_0, y6_1, y6_2, y6_3) =>
              bnd (s_laws_toRain n a4) fun y7_0 =>
                bnd (s_laws_toDrips n a5) fun y8_0 =>
                  bnd (s_laws_toPlace n a6 a7) fun (y9_0, y9_1) =>
                    bnd (s_impl_KindsFor n y6_0 y6_1 y6_2 y6_3 y7_0 y8_0 y9_0 y9_1) fun (y10_0, y10_1) =>
                      cnd (decide ((y10_0) = (y5_0)))
                        (cnd (decide ((y10_1) = (y5_1)))
                          (some (true))
                          (some (false)))
                        (some (false))
end Go.Proofs.Ytdhcfdiggcgmhaa
