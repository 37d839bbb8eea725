/- The program goes as the shallow texts tell: printed by gen.py. -/
import Derived.Test.YtdhcfdiggcgmhaaWkLeastTakes
namespace Go.Proofs.Ytdhcfdiggcgmhaa
open Go
set_option linter.unusedVariables false
set_option linter.unusedSimpArgs false
set_option maxRecDepth 100000
set_option maxHeartbeats 4000000
theorem lw_laws_eqInt64S_b0 : ∀ (n : Nat) (a0 : List V) (a1 : List V) (a2 : Int) (r : Sum (Unit) (Bool)), l_laws_eqInt64S_b0 n a0 a1 a2 = some r → ∀ k m, n + 0 ≤ k → n ≤ m → LB E 33 0 k m ⟨[(0, (V.sl (a0))), (1, (V.sl (a1))), (5, (V.int .i64 (a2)))], []⟩ = some (match r with | .inl _ => (.normal, ⟨[], []⟩) | .inr o0 => (.ret, ⟨[(4, (V.bool (o0)))], []⟩)) := by
  intro n
  induction n with
  | zero => intro a0 a1 a2 r h; cases h
  | succ n ih =>
    intro a0 a1 a2 r h k m hk hm
    obtain ⟨m, rfl⟩ : ∃ q, m = q + 1 := ⟨m - 1, by omega⟩
    replace hk : n + 0 ≤ k := by omega
    unfold l_laws_eqInt64S_b0 at h
    rcases cnd_some h with ⟨h2, h⟩ | ⟨h2, h⟩
    · obtain ⟨e3_0, g3, h⟩ := bnd_some h
      replace g3 := as_i64_some g3
      obtain ⟨e4_0, g4, h⟩ := bnd_some h
      replace g4 := as_i64_some g4
      rcases cnd_some h with ⟨h5, h⟩ | ⟨h5, h⟩
      · refine pNext_by [.b true, .v (V.int .i64 (e3_0)), .v (V.int .i64 (e4_0)), .b false] (And.intro h2 (And.intro g3 (And.intro g4 (And.intro (not_f h5) trivial)))) (ih _ _ _ _ h k m hk (by omega)) ?_
        kernel_rfl
      · cases h
        refine pLast_by [.b true, .v (V.int .i64 (e3_0)), .v (V.int .i64 (e4_0)), .b true] (And.intro h2 (And.intro g3 (And.intro g4 (And.intro (not_t h5) trivial)))) ?_
        kernel_rfl
    · cases h
      refine pLast_by [.b false] (And.intro h2 trivial) ?_
      kernel_rfl
theorem w_laws_eqInt64S {n : Nat} {a0 : List V} {a1 : List V} {z0 : Bool} (h : s_laws_eqInt64S n a0 a1 = some z0) : ∀ k, n + 1 ≤ k → sem E k 33 [(V.sl (a0)), (V.sl (a1))] = some (V.bool (z0)) := by
  intro k hk
  obtain ⟨k, rfl⟩ : ∃ q, k = q + 1 := ⟨k - 1, by omega⟩
  unfold s_laws_eqInt64S at h
  rcases cnd_some h with ⟨h1, h⟩ | ⟨h1, h⟩
  · obtain ⟨w, l6, h⟩ := bnd_some h
    rcases w with ⟨⟩ | u7_0
    · replace h := Option.some.inj h
      obtain rfl := h
      refine pFun_by [.b false, .l .normal ⟨[], []⟩] rfl (And.intro (not_f h1) (And.intro (lw_laws_eqInt64S_b0 _ _ _ _ _ l6 k k (by omega) (by omega)) trivial)) ?_
      kernel_rfl
    · replace h := Option.some.inj h
      obtain rfl := h
      refine pFun_by [.b false, .l .ret ⟨[(4, (V.bool (u7_0)))], []⟩] rfl (And.intro (not_f h1) (And.intro (lw_laws_eqInt64S_b0 _ _ _ _ _ l6 k k (by omega) (by omega)) trivial)) ?_
      kernel_rfl
  · replace h := Option.some.inj h
    obtain rfl := h
    refine pFun_by [.b true] rfl (And.intro (not_t h1) trivial) ?_
    kernel_rfl
theorem w_laws_FnExactLeastTakes {n : Nat} {a0 : Int} {a1 : Int} {a2 : Nat → Int} {a3 : Int} {a4 : List V} {a5 : List V} {a6 : Int} {z0 : Bool} (h : s_laws_FnExactLeastTakes n a0 a1 a2 a3 a4 a5 a6 = some z0) : ∀ k, n + 9 ≤ k → sem E k 9 [(V.parts [(V.int .i8 (a0)), (V.int .i16 (a1)), (V.ints .i8 17 (a2)), (V.int .u32 (a3)), (V.sl (a4))]), (V.sl (a5)), (V.int .i64 (a6))] = some (V.bool (z0)) := by
  intro k hk
  obtain ⟨k, rfl⟩ : ∃ q, k = q + 1 := ⟨k - 1, by omega⟩
  unfold s_laws_FnExactLeastTakes at h
  rcases cnd_some h with ⟨h1, h⟩ | ⟨h1, h⟩
  · replace h := Option.some.inj h
    obtain rfl := h
    refine pFun_by [.b true] rfl (And.intro h1 trivial) ?_
    kernel_rfl
  · obtain ⟨y2_0, q2, h⟩ := bnd_some h
    rcases cnd_some h with ⟨h3, h⟩ | ⟨h3, h⟩
    · replace h := Option.some.inj h
      obtain rfl := h
      refine pFun_by [.b false, .v (V.int .i64 (y2_0)), .b true] rfl (And.intro h1 (And.intro (w_laws_szGutter q2 k (by omega)) (And.intro h3 trivial))) ?_
      kernel_rfl
    · obtain ⟨⟨y4_0, y4_1, y4_2, y4_3, y4_4⟩, q4, h⟩ := bnd_some h
      obtain ⟨y5_0, q5, h⟩ := bnd_some h
      obtain ⟨⟨y6_0, y6_1⟩, q6, h⟩ := bnd_some h
      obtain ⟨⟨y7_0, y7_1, y7_2, y7_3, y7_4⟩, q7, h⟩ := bnd_some h
      obtain ⟨y8_0, q8, h⟩ := bnd_some h
      obtain ⟨⟨y9_0, y9_1⟩, q9, h⟩ := bnd_some h
      rcases cnd_some h with ⟨h10, h⟩ | ⟨h10, h⟩
      · rcases cnd_some h with ⟨h11, h⟩ | ⟨h11, h⟩
        · obtain ⟨⟨y12_0, y12_1, y12_2, y12_3, y12_4⟩, q12, h⟩ := bnd_some h
          obtain ⟨y13_0, q13, h⟩ := bnd_some h
          rcases cnd_some h with ⟨h14, h⟩ | ⟨h14, h⟩
          · obtain ⟨y15_0, q15, h⟩ := bnd_some h
            obtain ⟨y16_0, q16, h⟩ := bnd_some h
            rcases cnd_some h with ⟨h17, h⟩ | ⟨h17, h⟩
            · replace h := Option.some.inj h
              obtain rfl := h
              refine pFun_by [.b false, .v (V.int .i64 (y2_0)), .b false, .v (V.parts [(V.int .i8 (y4_0)), (V.int .i16 (y4_1)), (V.ints .i8 17 (y4_2)), (V.int .u32 (y4_3)), (V.fresh 121 (y4_4))]), .v (V.fresh 2 (y5_0)), .v (V.tup [(V.int .i64 (y6_0)), (V.int .i64 (y6_1))]), .v (V.parts [(V.int .i8 (y7_0)), (V.int .i16 (y7_1)), (V.ints .i8 17 (y7_2)), (V.int .u32 (y7_3)), (V.fresh 121 (y7_4))]), .v (V.fresh 2 (y8_0)), .v (V.tup [(V.int .i64 (y9_0)), (V.int .i64 (y9_1))]), .b false, .b false, .v (V.parts [(V.int .i8 (y12_0)), (V.int .i16 (y12_1)), (V.ints .i8 17 (y12_2)), (V.int .u32 (y12_3)), (V.fresh 121 (y12_4))]), .v (V.bool (y13_0)), .b false, .v (V.fresh 2 (y15_0)), .v (V.bool (y16_0)), .b false] rfl (And.intro h1 (And.intro (w_laws_szGutter q2 k (by omega)) (And.intro h3 (And.intro (w_laws_toGutter q4 k (by omega)) (And.intro (w_laws_toInt64S q5 k (by omega)) (And.intro (w_spec_LeastTakes q6 k (by omega)) (And.intro (Eq.refl true) (And.intro (w_laws_toGutter q7 k (by omega)) (And.intro (w_laws_toInt64S q8 k (by omega)) (And.intro (w_impl_LeastTakes q9 k (by omega)) (And.intro (Eq.refl true) (And.intro (not_f h10) (And.intro (not_f h11) (And.intro (w_laws_toGutter q12 k (by omega)) (And.intro (w_laws_eqGutter q13 k (by omega)) (And.intro (Eq.refl true) (And.intro (not_f h14) (And.intro (w_laws_toInt64S q15 k (by omega)) (And.intro (w_laws_eqInt64S q16 k (by omega)) (And.intro (Eq.refl true) (And.intro (not_f h17) trivial))))))))))))))))))))) ?_
              kernel_rfl
            · replace h := Option.some.inj h
              obtain rfl := h
              refine pFun_by [.b false, .v (V.int .i64 (y2_0)), .b false, .v (V.parts [(V.int .i8 (y4_0)), (V.int .i16 (y4_1)), (V.ints .i8 17 (y4_2)), (V.int .u32 (y4_3)), (V.fresh 121 (y4_4))]), .v (V.fresh 2 (y5_0)), .v (V.tup [(V.int .i64 (y6_0)), (V.int .i64 (y6_1))]), .v (V.parts [(V.int .i8 (y7_0)), (V.int .i16 (y7_1)), (V.ints .i8 17 (y7_2)), (V.int .u32 (y7_3)), (V.fresh 121 (y7_4))]), .v (V.fresh 2 (y8_0)), .v (V.tup [(V.int .i64 (y9_0)), (V.int .i64 (y9_1))]), .b false, .b false, .v (V.parts [(V.int .i8 (y12_0)), (V.int .i16 (y12_1)), (V.ints .i8 17 (y12_2)), (V.int .u32 (y12_3)), (V.fresh 121 (y12_4))]), .v (V.bool (y13_0)), .b false, .v (V.fresh 2 (y15_0)), .v (V.bool (y16_0)), .b true] rfl (And.intro h1 (And.intro (w_laws_szGutter q2 k (by omega)) (And.intro h3 (And.intro (w_laws_toGutter q4 k (by omega)) (And.intro (w_laws_toInt64S q5 k (by omega)) (And.intro (w_spec_LeastTakes q6 k (by omega)) (And.intro (Eq.refl true) (And.intro (w_laws_toGutter q7 k (by omega)) (And.intro (w_laws_toInt64S q8 k (by omega)) (And.intro (w_impl_LeastTakes q9 k (by omega)) (And.intro (Eq.refl true) (And.intro (not_f h10) (And.intro (not_f h11) (And.intro (w_laws_toGutter q12 k (by omega)) (And.intro (w_laws_eqGutter q13 k (by omega)) (And.intro (Eq.refl true) (And.intro (not_f h14) (And.intro (w_laws_toInt64S q15 k (by omega)) (And.intro (w_laws_eqInt64S q16 k (by omega)) (And.intro (Eq.refl true) (And.intro (not_t h17) trivial))))))))))))))))))))) ?_
              kernel_rfl
          · replace h := Option.some.inj h
            obtain rfl := h
            refine pFun_by [.b false, .v (V.int .i64 (y2_0)), .b false, .v (V.parts [(V.int .i8 (y4_0)), (V.int .i16 (y4_1)), (V.ints .i8 17 (y4_2)), (V.int .u32 (y4_3)), (V.fresh 121 (y4_4))]), .v (V.fresh 2 (y5_0)), .v (V.tup [(V.int .i64 (y6_0)), (V.int .i64 (y6_1))]), .v (V.parts [(V.int .i8 (y7_0)), (V.int .i16 (y7_1)), (V.ints .i8 17 (y7_2)), (V.int .u32 (y7_3)), (V.fresh 121 (y7_4))]), .v (V.fresh 2 (y8_0)), .v (V.tup [(V.int .i64 (y9_0)), (V.int .i64 (y9_1))]), .b false, .b false, .v (V.parts [(V.int .i8 (y12_0)), (V.int .i16 (y12_1)), (V.ints .i8 17 (y12_2)), (V.int .u32 (y12_3)), (V.fresh 121 (y12_4))]), .v (V.bool (y13_0)), .b true] rfl (And.intro h1 (And.intro (w_laws_szGutter q2 k (by omega)) (And.intro h3 (And.intro (w_laws_toGutter q4 k (by omega)) (And.intro (w_laws_toInt64S q5 k (by omega)) (And.intro (w_spec_LeastTakes q6 k (by omega)) (And.intro (Eq.refl true) (And.intro (w_laws_toGutter q7 k (by omega)) (And.intro (w_laws_toInt64S q8 k (by omega)) (And.intro (w_impl_LeastTakes q9 k (by omega)) (And.intro (Eq.refl true) (And.intro (not_f h10) (And.intro (not_f h11) (And.intro (w_laws_toGutter q12 k (by omega)) (And.intro (w_laws_eqGutter q13 k (by omega)) (And.intro (Eq.refl true) (And.intro (not_t h14) trivial))))))))))))))))) ?_
            kernel_rfl
        · replace h := Option.some.inj h
          obtain rfl := h
          refine pFun_by [.b false, .v (V.int .i64 (y2_0)), .b false, .v (V.parts [(V.int .i8 (y4_0)), (V.int .i16 (y4_1)), (V.ints .i8 17 (y4_2)), (V.int .u32 (y4_3)), (V.fresh 121 (y4_4))]), .v (V.fresh 2 (y5_0)), .v (V.tup [(V.int .i64 (y6_0)), (V.int .i64 (y6_1))]), .v (V.parts [(V.int .i8 (y7_0)), (V.int .i16 (y7_1)), (V.ints .i8 17 (y7_2)), (V.int .u32 (y7_3)), (V.fresh 121 (y7_4))]), .v (V.fresh 2 (y8_0)), .v (V.tup [(V.int .i64 (y9_0)), (V.int .i64 (y9_1))]), .b false, .b true] rfl (And.intro h1 (And.intro (w_laws_szGutter q2 k (by omega)) (And.intro h3 (And.intro (w_laws_toGutter q4 k (by omega)) (And.intro (w_laws_toInt64S q5 k (by omega)) (And.intro (w_spec_LeastTakes q6 k (by omega)) (And.intro (Eq.refl true) (And.intro (w_laws_toGutter q7 k (by omega)) (And.intro (w_laws_toInt64S q8 k (by omega)) (And.intro (w_impl_LeastTakes q9 k (by omega)) (And.intro (Eq.refl true) (And.intro (not_f h10) (And.intro (not_t h11) trivial))))))))))))) ?_
          kernel_rfl
      · replace h := Option.some.inj h
        obtain rfl := h
        refine pFun_by [.b false, .v (V.int .i64 (y2_0)), .b false, .v (V.parts [(V.int .i8 (y4_0)), (V.int .i16 (y4_1)), (V.ints .i8 17 (y4_2)), (V.int .u32 (y4_3)), (V.fresh 121 (y4_4))]), .v (V.fresh 2 (y5_0)), .v (V.tup [(V.int .i64 (y6_0)), (V.int .i64 (y6_1))]), .v (V.parts [(V.int .i8 (y7_0)), (V.int .i16 (y7_1)), (V.ints .i8 17 (y7_2)), (V.int .u32 (y7_3)), (V.fresh 121 (y7_4))]), .v (V.fresh 2 (y8_0)), .v (V.tup [(V.int .i64 (y9_0)), (V.int .i64 (y9_1))]), .b true, .b true] rfl (And.intro h1 (And.intro (w_laws_szGutter q2 k (by omega)) (And.intro h3 (And.intro (w_laws_toGutter q4 k (by omega)) (And.intro (w_laws_toInt64S q5 k (by omega)) (And.intro (w_spec_LeastTakes q6 k (by omega)) (And.intro (Eq.refl true) (And.intro (w_laws_toGutter q7 k (by omega)) (And.intro (w_laws_toInt64S q8 k (by omega)) (And.intro (w_impl_LeastTakes q9 k (by omega)) (And.intro (Eq.refl true) (And.intro (not_t h10) (And.intro (Eq.refl true) trivial))))))))))))) ?_
        kernel_rfl
end Go.Proofs.Ytdhcfdiggcgmhaa
