/- The program goes as the shallow texts tell: printed by gen.py. -/
import Derived.Test.YtdhcfdiggcgmhaaWkCheckRepairs
namespace Go.Proofs.Ytdhcfdiggcgmhaa
open Go
set_option linter.unusedVariables false
set_option linter.unusedSimpArgs false
set_option maxRecDepth 100000
set_option maxHeartbeats 4000000
theorem w_laws_FnExactCheckRepairs {n : Nat} {a0 : Int} {a1 : Int} {a2 : Int} {a3 : Nat → Int} {a4 : Nat → Int} {a5 : List V} {a6 : Int} {z0 : Bool} (h : s_laws_FnExactCheckRepairs n a0 a1 a2 a3 a4 a5 a6 = some z0) : ∀ k, n + 9 ≤ k → sem E k 12 [(V.parts [(V.int .i8 (a0)), (V.int .i8 (a1)), (V.int .u8 (a2)), (V.ints .u8 64 (a3))]), (V.ints .i16 17 (a4)), (V.sl (a5)), (V.int .i64 (a6))] = some (V.bool (z0)) := by
  intro k hk
  obtain ⟨k, rfl⟩ : ∃ q, k = q + 1 := ⟨k - 1, by omega⟩
  unfold s_laws_FnExactCheckRepairs at h
  obtain ⟨y1_0, q1, h⟩ := bnd_some h
  rcases cnd_some h with ⟨h2, h⟩ | ⟨h2, h⟩
  · replace h := Option.some.inj h
    obtain rfl := h
    refine pFun_by [.v (V.int .i64 (y1_0)), .b true] rfl (And.intro (w_laws_szPlaceS q1 k (by omega)) (And.intro h2 trivial)) ?_
    kernel_rfl
  · obtain ⟨⟨y3_0, y3_1, y3_2, y3_3⟩, q3, h⟩ := bnd_some h
    obtain ⟨y4_0, q4, h⟩ := bnd_some h
    obtain ⟨y5_0, q5, h⟩ := bnd_some h
    obtain ⟨⟨y6_0, y6_1⟩, q6, h⟩ := bnd_some h
    obtain ⟨y7_0, q7, h⟩ := bnd_some h
    obtain ⟨⟨y8_0, y8_1, y8_2, y8_3⟩, q8, h⟩ := bnd_some h
    obtain ⟨y9_0, q9, h⟩ := bnd_some h
    obtain ⟨⟨y10_0, y10_1⟩, q10, h⟩ := bnd_some h
    rcases cnd_some h with ⟨h11, h⟩ | ⟨h11, h⟩
    · rcases cnd_some h with ⟨h12, h⟩ | ⟨h12, h⟩
      · obtain ⟨y13_0, q13, h⟩ := bnd_some h
        obtain ⟨y14_0, q14, h⟩ := bnd_some h
        rcases cnd_some h with ⟨h15, h⟩ | ⟨h15, h⟩
        · replace h := Option.some.inj h
          obtain rfl := h
          refine pFun_by [.v (V.int .i64 (y1_0)), .b false, .v (V.parts [(V.int .i8 (y3_0)), (V.int .i8 (y3_1)), (V.int .u8 (y3_2)), (V.ints .u8 64 (y3_3))]), .v (V.ints .i16 17 (y4_0)), .v (V.fresh 79 (y5_0)), .v (V.tup [(V.bool (y6_0)), (V.int .i64 (y6_1))]), .v (V.fresh 79 (y7_0)), .v (V.parts [(V.int .i8 (y8_0)), (V.int .i8 (y8_1)), (V.int .u8 (y8_2)), (V.ints .u8 64 (y8_3))]), .v (V.ints .i16 17 (y9_0)), .v (V.tup [(V.bool (y10_0)), (V.int .i64 (y10_1))]), .b false, .b false, .v (V.fresh 79 (y13_0)), .v (V.bool (y14_0)), .b false] rfl (And.intro (w_laws_szPlaceS q1 k (by omega)) (And.intro h2 (And.intro (w_laws_toRoof q3 k (by omega)) (And.intro (w_laws_toRain q4 k (by omega)) (And.intro (w_laws_toPlaceS q5 k (by omega)) (And.intro (w_spec_CheckRepairs q6 k (by omega)) (And.intro (Eq.refl true) (And.intro (w_laws_toPlaceS q7 k (by omega)) (And.intro (w_laws_toRoof q8 k (by omega)) (And.intro (w_laws_toRain q9 k (by omega)) (And.intro (w_impl_CheckRepairs q10 k (by omega)) (And.intro (Eq.refl true) (And.intro (not_f h11) (And.intro (not_f h12) (And.intro (w_laws_toPlaceS q13 k (by omega)) (And.intro (w_laws_eqPlaceS q14 k (by omega)) (And.intro (Eq.refl true) (And.intro (not_f h15) trivial)))))))))))))))))) ?_
          kernel_rfl
        · replace h := Option.some.inj h
          obtain rfl := h
          refine pFun_by [.v (V.int .i64 (y1_0)), .b false, .v (V.parts [(V.int .i8 (y3_0)), (V.int .i8 (y3_1)), (V.int .u8 (y3_2)), (V.ints .u8 64 (y3_3))]), .v (V.ints .i16 17 (y4_0)), .v (V.fresh 79 (y5_0)), .v (V.tup [(V.bool (y6_0)), (V.int .i64 (y6_1))]), .v (V.fresh 79 (y7_0)), .v (V.parts [(V.int .i8 (y8_0)), (V.int .i8 (y8_1)), (V.int .u8 (y8_2)), (V.ints .u8 64 (y8_3))]), .v (V.ints .i16 17 (y9_0)), .v (V.tup [(V.bool (y10_0)), (V.int .i64 (y10_1))]), .b false, .b false, .v (V.fresh 79 (y13_0)), .v (V.bool (y14_0)), .b true] rfl (And.intro (w_laws_szPlaceS q1 k (by omega)) (And.intro h2 (And.intro (w_laws_toRoof q3 k (by omega)) (And.intro (w_laws_toRain q4 k (by omega)) (And.intro (w_laws_toPlaceS q5 k (by omega)) (And.intro (w_spec_CheckRepairs q6 k (by omega)) (And.intro (Eq.refl true) (And.intro (w_laws_toPlaceS q7 k (by omega)) (And.intro (w_laws_toRoof q8 k (by omega)) (And.intro (w_laws_toRain q9 k (by omega)) (And.intro (w_impl_CheckRepairs q10 k (by omega)) (And.intro (Eq.refl true) (And.intro (not_f h11) (And.intro (not_f h12) (And.intro (w_laws_toPlaceS q13 k (by omega)) (And.intro (w_laws_eqPlaceS q14 k (by omega)) (And.intro (Eq.refl true) (And.intro (not_t h15) trivial)))))))))))))))))) ?_
          kernel_rfl
      · replace h := Option.some.inj h
        obtain rfl := h
        refine pFun_by [.v (V.int .i64 (y1_0)), .b false, .v (V.parts [(V.int .i8 (y3_0)), (V.int .i8 (y3_1)), (V.int .u8 (y3_2)), (V.ints .u8 64 (y3_3))]), .v (V.ints .i16 17 (y4_0)), .v (V.fresh 79 (y5_0)), .v (V.tup [(V.bool (y6_0)), (V.int .i64 (y6_1))]), .v (V.fresh 79 (y7_0)), .v (V.parts [(V.int .i8 (y8_0)), (V.int .i8 (y8_1)), (V.int .u8 (y8_2)), (V.ints .u8 64 (y8_3))]), .v (V.ints .i16 17 (y9_0)), .v (V.tup [(V.bool (y10_0)), (V.int .i64 (y10_1))]), .b false, .b true] rfl (And.intro (w_laws_szPlaceS q1 k (by omega)) (And.intro h2 (And.intro (w_laws_toRoof q3 k (by omega)) (And.intro (w_laws_toRain q4 k (by omega)) (And.intro (w_laws_toPlaceS q5 k (by omega)) (And.intro (w_spec_CheckRepairs q6 k (by omega)) (And.intro (Eq.refl true) (And.intro (w_laws_toPlaceS q7 k (by omega)) (And.intro (w_laws_toRoof q8 k (by omega)) (And.intro (w_laws_toRain q9 k (by omega)) (And.intro (w_impl_CheckRepairs q10 k (by omega)) (And.intro (Eq.refl true) (And.intro (not_f h11) (And.intro (not_t h12) trivial)))))))))))))) ?_
        kernel_rfl
    · replace h := Option.some.inj h
      obtain rfl := h
      refine pFun_by [.v (V.int .i64 (y1_0)), .b false, .v (V.parts [(V.int .i8 (y3_0)), (V.int .i8 (y3_1)), (V.int .u8 (y3_2)), (V.ints .u8 64 (y3_3))]), .v (V.ints .i16 17 (y4_0)), .v (V.fresh 79 (y5_0)), .v (V.tup [(V.bool (y6_0)), (V.int .i64 (y6_1))]), .v (V.fresh 79 (y7_0)), .v (V.parts [(V.int .i8 (y8_0)), (V.int .i8 (y8_1)), (V.int .u8 (y8_2)), (V.ints .u8 64 (y8_3))]), .v (V.ints .i16 17 (y9_0)), .v (V.tup [(V.bool (y10_0)), (V.int .i64 (y10_1))]), .b true, .b true] rfl (And.intro (w_laws_szPlaceS q1 k (by omega)) (And.intro h2 (And.intro (w_laws_toRoof q3 k (by omega)) (And.intro (w_laws_toRain q4 k (by omega)) (And.intro (w_laws_toPlaceS q5 k (by omega)) (And.intro (w_spec_CheckRepairs q6 k (by omega)) (And.intro (Eq.refl true) (And.intro (w_laws_toPlaceS q7 k (by omega)) (And.intro (w_laws_toRoof q8 k (by omega)) (And.intro (w_laws_toRain q9 k (by omega)) (And.intro (w_impl_CheckRepairs q10 k (by omega)) (And.intro (Eq.refl true) (And.intro (not_t h11) (And.intro (Eq.refl true) trivial)))))))))))))) ?_
      kernel_rfl
end Go.Proofs.Ytdhcfdiggcgmhaa
