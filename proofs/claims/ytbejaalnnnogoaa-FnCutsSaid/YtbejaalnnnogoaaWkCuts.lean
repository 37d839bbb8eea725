/- The program goes as the shallow texts tell: printed by gen.py. -/
import Derived.Test.YtbejaalnnnogoaaEnvA
import Derived.Test.YtbejaalnnnogoaaSh1
import Derived.Test.YtbejaalnnnogoaaSh2
namespace Go.Proofs.Ytbejaalnnnogoaa
open Go
set_option linter.unusedVariables false
set_option linter.unusedSimpArgs false
set_option maxRecDepth 100000
set_option maxHeartbeats 4000000
theorem w_laws_a2Long {n : Nat} {a0 : List V} {a1 : List V} {z0 : Bool} (h : s_laws_a2Long n a0 a1 = some z0) : ∀ k, n + 1 ≤ k → sem E k 7 [(V.sl (a0)), (V.sl (a1))] = some (V.bool (z0)) := by
  intro k hk
  obtain ⟨k, rfl⟩ : ∃ q, k = q + 1 := ⟨k - 1, by omega⟩
  unfold s_laws_a2Long at h
  rcases cnd_some h with ⟨h1, h⟩ | ⟨h1, h⟩
  · replace h := Option.some.inj h
    obtain rfl := h
    refine pFun_by [.b true] rfl (And.intro h1 trivial) ?_
    kernel_rfl
  · replace h := Option.some.inj h
    obtain rfl := h
    refine pFun_by [.b false] rfl (And.intro h1 trivial) ?_
    kernel_rfl
theorem w_spec_l00From {n : Nat} {a0 : List V} {z0 : List V} {z1 : Int} {z2 : Int} (h : s_spec_l00From n a0 = some (z0, z1, z2)) : ∀ k, n + 1 ≤ k → sem E k (bxBase + 33) [(V.sl (a0))] = some (V.ref [(V.sl (z0)), (V.int .i64 (z1)), (V.int .u64 (z2))] 0 (0) 3) := by
  intro k hk
  obtain ⟨k, rfl⟩ : ∃ q, k = q + 1 := ⟨k - 1, by omega⟩
  unfold s_spec_l00From at h
  simp only [Option.some.injEq, Prod.mk.injEq] at h
  obtain ⟨rfl, rfl, rfl⟩ := h
  refine pBx_by [] rfl rfl rfl rfl rfl trivial ?_
  kernel_rfl
theorem w_pspec_l00Src_next {n : Nat} {a0 : List V} {a1 : Int} {a2 : Int} {z0 : Int} {z1 : List V} {z2 : Int} {z3 : Int} (h : s_pspec_l00Src_next n a0 a1 a2 = some (z0, z1, z2, z3)) : ∀ k, n + 1 ≤ k → sem E k (puBase + 83) [(V.ref [(V.sl (a0)), (V.int .i64 (a1)), (V.int .u64 (a2))] 0 (0) 3)] = some (V.tup [(V.int .i64 (z0)), (V.parts [(V.sl (z1)), (V.int .i64 (z2)), (V.int .u64 (z3))])]) := by
  intro k hk
  obtain ⟨k, rfl⟩ : ∃ q, k = q + 1 := ⟨k - 1, by omega⟩
  unfold s_pspec_l00Src_next at h
  rcases cnd_some h with ⟨h1, h⟩ | ⟨h1, h⟩
  · obtain ⟨e2_0, g2, h⟩ := bnd_some h
    replace g2 := as_u8_some g2
    rcases cnd_some h with ⟨h3, h⟩ | ⟨h3, h⟩
    · simp only [Option.some.injEq, Prod.mk.injEq] at h
      obtain ⟨rfl, rfl, rfl, rfl⟩ := h
      refine pPu_by [.b true, .v (V.int .u8 (e2_0)), .b true] rfl rfl (And.intro h1 (And.intro g2 (And.intro h3 trivial))) ?_
      kernel_rfl
    · obtain ⟨c4, h⟩ := chk_some h
      simp only [Option.some.injEq, Prod.mk.injEq] at h
      obtain ⟨rfl, rfl, rfl, rfl⟩ := h
      refine pPu_by [.b true, .v (V.int .u8 (e2_0)), .b false] rfl rfl (And.intro h1 (And.intro g2 (And.intro h3 (And.intro c4 trivial)))) ?_
      kernel_rfl
  · rcases cnd_some h with ⟨h5, h⟩ | ⟨h5, h⟩
    · simp only [Option.some.injEq, Prod.mk.injEq] at h
      obtain ⟨rfl, rfl, rfl, rfl⟩ := h
      refine pPu_by [.b false, .b true] rfl rfl (And.intro h1 (And.intro h5 trivial)) ?_
      kernel_rfl
    · obtain ⟨c6, h⟩ := chk_some h
      simp only [Option.some.injEq, Prod.mk.injEq] at h
      obtain ⟨rfl, rfl, rfl, rfl⟩ := h
      refine pPu_by [.b false, .b false] rfl rfl (And.intro h1 (And.intro h5 (And.intro c6 trivial))) ?_
      kernel_rfl
theorem w_pspec_l00Src_pick {n : Nat} {a0 : List V} {a1 : Int} {a2 : Int} {a3 : Int} {z0 : Int} {z1 : List V} {z2 : Int} {z3 : Int} (h : s_pspec_l00Src_pick n a0 a1 a2 a3 = some (z0, z1, z2, z3)) : ∀ k, n + 2 ≤ k → sem E k (puBase + 58) [(V.ref [(V.sl (a0)), (V.int .i64 (a1)), (V.int .u64 (a2))] 0 (0) 3), (V.int .i64 (a3))] = some (V.tup [(V.int .i64 (z0)), (V.parts [(V.sl (z1)), (V.int .i64 (z2)), (V.int .u64 (z3))])]) := by
  intro k hk
  obtain ⟨k, rfl⟩ : ∃ q, k = q + 1 := ⟨k - 1, by omega⟩
  unfold s_pspec_l00Src_pick at h
  rcases cnd_some h with ⟨h1, h⟩ | ⟨h1, h⟩
  · simp only [Option.some.injEq, Prod.mk.injEq] at h
    obtain ⟨rfl, rfl, rfl, rfl⟩ := h
    refine pPu_by [.b true] rfl rfl (And.intro h1 trivial) ?_
    kernel_rfl
  · obtain ⟨⟨y2_0, y2_1, y2_2, y2_3⟩, q2, h⟩ := bnd_some h
    rcases cnd_some h with ⟨h3, h⟩ | ⟨h3, h⟩
    · obtain ⟨⟨y4_0, y4_1, y4_2, y4_3⟩, q4, h⟩ := bnd_some h
      obtain ⟨c5, h⟩ := chk_some h
      simp only [Option.some.injEq, Prod.mk.injEq] at h
      obtain ⟨rfl, rfl, rfl, rfl⟩ := h
      refine pPu_by [.b false, .v (V.tup [(V.int .i64 (y2_0)), (V.parts [(V.sl (y2_1)), (V.int .i64 (y2_2)), (V.int .u64 (y2_3))])]), .b true, .v (V.tup [(V.int .i64 (y4_0)), (V.parts [(V.sl (y4_1)), (V.int .i64 (y4_2)), (V.int .u64 (y4_3))])])] rfl rfl (And.intro h1 (And.intro (w_pspec_l00Src_next q2 k (by omega)) (And.intro h3 (And.intro (w_pspec_l00Src_next q4 k (by omega)) (And.intro c5 trivial))))) ?_
      kernel_rfl
    · obtain ⟨c6, h⟩ := chk_some h
      simp only [Option.some.injEq, Prod.mk.injEq] at h
      obtain ⟨rfl, rfl, rfl, rfl⟩ := h
      refine pPu_by [.b false, .v (V.tup [(V.int .i64 (y2_0)), (V.parts [(V.sl (y2_1)), (V.int .i64 (y2_2)), (V.int .u64 (y2_3))])]), .b false] rfl rfl (And.intro h1 (And.intro (w_pspec_l00Src_next q2 k (by omega)) (And.intro h3 (And.intro c6 trivial)))) ?_
      kernel_rfl
theorem w_pspec_l00Src_one {n : Nat} {a0 : List V} {a1 : Int} {a2 : Int} {a3 : Int} {z0 : Bool} {z1 : List V} {z2 : Int} {z3 : Int} (h : s_pspec_l00Src_one n a0 a1 a2 a3 = some (z0, z1, z2, z3)) : ∀ k, n + 3 ≤ k → sem E k (puBase + 59) [(V.ref [(V.sl (a0)), (V.int .i64 (a1)), (V.int .u64 (a2))] 0 (0) 3), (V.int .i64 (a3))] = some (V.tup [(V.bool (z0)), (V.parts [(V.sl (z1)), (V.int .i64 (z2)), (V.int .u64 (z3))])]) := by
  intro k hk
  obtain ⟨k, rfl⟩ : ∃ q, k = q + 1 := ⟨k - 1, by omega⟩
  unfold s_pspec_l00Src_one at h
  obtain ⟨⟨y1_0, y1_1, y1_2, y1_3⟩, q1, h⟩ := bnd_some h
  simp only [Option.some.injEq, Prod.mk.injEq] at h
  obtain ⟨rfl, rfl, rfl, rfl⟩ := h
  refine pPu_by [.v (V.tup [(V.int .i64 (y1_0)), (V.parts [(V.sl (y1_1)), (V.int .i64 (y1_2)), (V.int .u64 (y1_3))])])] rfl rfl (And.intro (w_pspec_l00Src_pick q1 k (by omega)) trivial) ?_
  kernel_rfl
theorem lw_spec_l05Drawn_b0 : ∀ (n : Nat) (a0 : Int) (a1 : List V) (a2 : Int) (a3 : Int) (a4 : Int) (a5 : Int) (a6 : List V) (a7 : List V) (r : List V × Int × Int × Int × Int × List V × List V), l_spec_l05Drawn_b0 n a0 a1 a2 a3 a4 a5 a6 a7 = some r → ∀ k m, n + 3 ≤ k → n ≤ m → LB E 32 0 k m ⟨[(0, (V.ptr 1 0 (0) 3)), (2, (V.ptr 5 0 (0) 2)), (3, (V.ptr 7 0 (0) 2)), (4, (V.int .i64 (a0)))], [(1, .box [(V.sl (a1)), (V.int .i64 (a2)), (V.int .u64 (a3))]), (5, .box [(V.int .u8 (a4)), (V.row 5007)]), (7, .box [(V.int .u8 (a5)), (V.row 7009)]), (5007, .row 66 (a6)), (7009, .row 66 (a7))]⟩ = some (match r with | (o0, o1, o2, o3, o4, o5, o6) => (.normal, ⟨[(0, (V.ptr 1 0 (0) 3)), (2, (V.ptr 5 0 (0) 2)), (3, (V.ptr 7 0 (0) 2))], [(1, .box [(V.sl (o0)), (V.int .i64 (o1)), (V.int .u64 (o2))]), (5, .box [(V.int .u8 (o3)), (V.row 5007)]), (7, .box [(V.int .u8 (o4)), (V.row 7009)]), (5007, .row 66 (o5)), (7009, .row 66 (o6))]⟩)) := by
  intro n
  induction n with
  | zero => intro a0 a1 a2 a3 a4 a5 a6 a7 r h; cases h
  | succ n ih =>
    intro a0 a1 a2 a3 a4 a5 a6 a7 r h k m hk hm
    obtain ⟨m, rfl⟩ : ∃ q, m = q + 1 := ⟨m - 1, by omega⟩
    replace hk : n + 3 ≤ k := by omega
    unfold l_spec_l05Drawn_b0 at h
    rcases cnd_some h with ⟨h3, h⟩ | ⟨h3, h⟩
    · obtain ⟨⟨y4_0, y4_1, y4_2, y4_3⟩, q4, h⟩ := bnd_some h
      obtain ⟨⟨y5_0, y5_1, y5_2, y5_3⟩, q5, h⟩ := bnd_some h
      obtain ⟨⟨y6_0, y6_1, y6_2, y6_3⟩, q6, h⟩ := bnd_some h
      rcases cnd_some h with ⟨h7, h⟩ | ⟨h7, h⟩
      · obtain ⟨⟨y8_0, y8_1, y8_2, y8_3⟩, q8, h⟩ := bnd_some h
        obtain ⟨c9, h⟩ := chk_some h
        refine pNext_by [.b true, .v (V.tup [(V.int .i64 (y4_0)), (V.parts [(V.sl (y4_1)), (V.int .i64 (y4_2)), (V.int .u64 (y4_3))])]), .v (V.tup [(V.int .i64 (y5_0)), (V.parts [(V.sl (y5_1)), (V.int .i64 (y5_2)), (V.int .u64 (y5_3))])]), .v (V.tup [(V.bool (y6_0)), (V.parts [(V.sl (y6_1)), (V.int .i64 (y6_2)), (V.int .u64 (y6_3))])]), .b true, .v (V.tup [(V.int .i64 (y8_0)), (V.parts [(V.sl (y8_1)), (V.int .i64 (y8_2)), (V.int .u64 (y8_3))])])] (And.intro h3 (And.intro (w_pspec_l00Src_pick q4 k (by omega)) (And.intro (w_pspec_l00Src_pick q5 k (by omega)) (And.intro (w_pspec_l00Src_one q6 k (by omega)) (And.intro h7 (And.intro (w_pspec_l00Src_pick q8 k (by omega)) (And.intro c9 (And.intro (Eq.refl true) trivial)))))))) (ih _ _ _ _ _ _ _ _ _ h k m hk (by omega)) ?_
        kernel_rfl
      · obtain ⟨c10, h⟩ := chk_some h
        refine pNext_by [.b true, .v (V.tup [(V.int .i64 (y4_0)), (V.parts [(V.sl (y4_1)), (V.int .i64 (y4_2)), (V.int .u64 (y4_3))])]), .v (V.tup [(V.int .i64 (y5_0)), (V.parts [(V.sl (y5_1)), (V.int .i64 (y5_2)), (V.int .u64 (y5_3))])]), .v (V.tup [(V.bool (y6_0)), (V.parts [(V.sl (y6_1)), (V.int .i64 (y6_2)), (V.int .u64 (y6_3))])]), .b false] (And.intro h3 (And.intro (w_pspec_l00Src_pick q4 k (by omega)) (And.intro (w_pspec_l00Src_pick q5 k (by omega)) (And.intro (w_pspec_l00Src_one q6 k (by omega)) (And.intro h7 (And.intro c10 (And.intro (Eq.refl true) trivial))))))) (ih _ _ _ _ _ _ _ _ _ h k m hk (by omega)) ?_
        kernel_rfl
    · cases h
      refine pLast_by [.b false] (And.intro h3 trivial) ?_
      kernel_rfl
theorem w_spec_l05Drawn {n : Nat} {a0 : List V} {a1 : Int} {a2 : Int} {z0 : Int} {z1 : List V} {z2 : List V} {z3 : Int} {z4 : Int} (h : s_spec_l05Drawn n a0 a1 a2 = some (z0, z1, z2, z3, z4)) : ∀ k, n + 4 ≤ k → sem E k (puBase + 32) [(V.ref [(V.sl (a0)), (V.int .i64 (a1)), (V.int .u64 (a2))] 0 (0) 3)] = some (V.tup [(V.parts [(V.int .u8 (z0)), (V.fresh 66 (z1))]), (V.parts [(V.sl (z2)), (V.int .i64 (z3)), (V.int .u64 (z4))])]) := by
  intro k hk
  obtain ⟨k, rfl⟩ : ∃ q, k = q + 1 := ⟨k - 1, by omega⟩
  unfold s_spec_l05Drawn at h
  obtain ⟨⟨y1_0, y1_1, y1_2, y1_3⟩, q1, h⟩ := bnd_some h
  obtain ⟨⟨y2_0, y2_1, y2_2, y2_3⟩, q2, h⟩ := bnd_some h
  obtain ⟨⟨u11_0, u11_1, u11_2, u11_3, u11_4, u11_5, u11_6⟩, l11, h⟩ := bnd_some h
  simp only [Option.some.injEq, Prod.mk.injEq] at h
  obtain ⟨rfl, rfl, rfl, rfl, rfl⟩ := h
  refine pPu_by [.v (V.tup [(V.int .i64 (y1_0)), (V.parts [(V.sl (y1_1)), (V.int .i64 (y1_2)), (V.int .u64 (y1_3))])]), .v (V.tup [(V.int .i64 (y2_0)), (V.parts [(V.sl (y2_1)), (V.int .i64 (y2_2)), (V.int .u64 (y2_3))])]), .l .normal ⟨[(0, (V.ptr 1 0 (0) 3)), (2, (V.ptr 5 0 (0) 2)), (3, (V.ptr 7 0 (0) 2))], [(1, .box [(V.sl (u11_0)), (V.int .i64 (u11_1)), (V.int .u64 (u11_2))]), (5, .box [(V.int .u8 (u11_3)), (V.row 5007)]), (7, .box [(V.int .u8 (u11_4)), (V.row 7009)]), (5007, .row 66 (u11_5)), (7009, .row 66 (u11_6))]⟩] rfl rfl (And.intro (w_pspec_l00Src_pick q1 k (by omega)) (And.intro (w_pspec_l00Src_pick q2 k (by omega)) (And.intro (lw_spec_l05Drawn_b0 _ _ _ _ _ _ _ _ _ _ l11 k k (by omega) (by omega)) trivial))) ?_
  kernel_rfl
theorem w_spec_A2Shape {n : Nat} {a0 : List V} {z0 : Int} {z1 : List V} (h : s_spec_A2Shape n a0 = some (z0, z1)) : ∀ k, n + 5 ≤ k → sem E k 8 [(V.sl (a0))] = some (V.parts [(V.int .u8 (z0)), (V.fresh 66 (z1))]) := by
  intro k hk
  obtain ⟨k, rfl⟩ : ∃ q, k = q + 1 := ⟨k - 1, by omega⟩
  unfold s_spec_A2Shape at h
  obtain ⟨⟨y1_0, y1_1, y1_2⟩, q1, h⟩ := bnd_some h
  obtain ⟨⟨y2_0, y2_1, y2_2, y2_3, y2_4⟩, q2, h⟩ := bnd_some h
  obtain ⟨c3, h⟩ := chk_some h
  simp only [Option.some.injEq, Prod.mk.injEq] at h
  obtain ⟨rfl, rfl⟩ := h
  refine pFun_by [.v (V.ref [(V.sl (y1_0)), (V.int .i64 (y1_1)), (V.int .u64 (y1_2))] 0 (0) 3), .v (V.tup [(V.parts [(V.int .u8 (y2_0)), (V.fresh 66 (y2_1))]), (V.parts [(V.sl (y2_2)), (V.int .i64 (y2_3)), (V.int .u64 (y2_4))])])] rfl (And.intro (w_spec_l00From q1 k (by omega)) (And.intro (w_spec_l05Drawn q2 k (by omega)) (And.intro c3 trivial))) ?_
  kernel_rfl
theorem w_impl_within_int {n : Nat} {a0 : Int} {a1 : Int} {a2 : Int} {z0 : Bool} (h : s_impl_within_int n a0 a1 a2 = some z0) : ∀ k, n + 1 ≤ k → sem E k 45 [(V.int .i64 (a0)), (V.int .i64 (a1)), (V.int .i64 (a2))] = some (V.bool (z0)) := by
  intro k hk
  obtain ⟨k, rfl⟩ : ∃ q, k = q + 1 := ⟨k - 1, by omega⟩
  unfold s_impl_within_int at h
  rcases cnd_some h with ⟨h1, h⟩ | ⟨h1, h⟩
  · replace h := Option.some.inj h
    obtain rfl := h
    refine pFun_by [.b true] rfl (And.intro h1 trivial) ?_
    kernel_rfl
  · replace h := Option.some.inj h
    obtain rfl := h
    refine pFun_by [.b false] rfl (And.intro h1 trivial) ?_
    kernel_rfl
theorem w_impl_ValidShape_1 {n : Nat} {a0 : Int} {a1 : Int} {z0 : Bool} (h : s_impl_ValidShape_1 n a0 a1 = some z0) : ∀ k, n + 1 ≤ k → sem E k 47 [(V.parts [(V.int .i16 (a0)), (V.int .i16 (a1))])] = some (V.bool (z0)) := by
  intro k hk
  obtain ⟨k, rfl⟩ : ∃ q, k = q + 1 := ⟨k - 1, by omega⟩
  unfold s_impl_ValidShape_1 at h
  rcases cnd_some h with ⟨h1, h⟩ | ⟨h1, h⟩
  · rcases cnd_some h with ⟨h2, h⟩ | ⟨h2, h⟩
    · replace h := Option.some.inj h
      obtain rfl := h
      refine pFun_by [.b true, .b true] rfl (And.intro h1 (And.intro h2 trivial)) ?_
      kernel_rfl
    · replace h := Option.some.inj h
      obtain rfl := h
      refine pFun_by [.b true, .b false] rfl (And.intro h1 (And.intro h2 trivial)) ?_
      kernel_rfl
  · replace h := Option.some.inj h
    obtain rfl := h
    refine pFun_by [.b false, .b false] rfl (And.intro h1 (And.intro (Eq.refl false) trivial)) ?_
    kernel_rfl
theorem w_aaSp {n : Nat} {a0 : Int} {a1 : Int} {z0 : Bool} (h : s_aaSp n a0 a1 = some z0) : ∀ k, n + 2 ≤ k → sem E k 77 [(V.parts [(V.int .i16 (a0)), (V.int .i16 (a1))]), (V.ref [(V.clo 47 [])] 0 (0) 1)] = some (V.bool (z0)) := by
  intro k hk
  obtain ⟨k, rfl⟩ : ∃ q, k = q + 1 := ⟨k - 1, by omega⟩
  unfold s_aaSp at h
  obtain ⟨y1_0, q1, h⟩ := bnd_some h
  replace h := Option.some.inj h
  obtain rfl := h
  refine pFun_by [.v (V.bool (y1_0))] rfl (And.intro (w_impl_ValidShape_1 q1 k (by omega)) trivial) ?_
  kernel_rfl
theorem lw_ixSp_b0 : ∀ (n : Nat) (a0 : List V) (a1 : Int) (a2 : Int) (r : Sum (Unit) (Int)), l_ixSp_b0 n a0 a1 a2 = some r → ∀ k m, n + 2 ≤ k → n ≤ m → LB E 94 0 k m ⟨[(0, (V.sl (a0))), (1, (V.clo 77 [(V.ref [(V.clo 47 [])] 0 (0) 1)])), (7, (V.int .i64 (a1))), (8, (V.int .i64 (a2)))], []⟩ = some (match r with | .inl _ => (.normal, ⟨[], []⟩) | .inr o0 => (.ret, ⟨[(4, (V.int .i64 (o0)))], []⟩)) := by
  intro n
  induction n with
  | zero => intro a0 a1 a2 r h; cases h
  | succ n ih =>
    intro a0 a1 a2 r h k m hk hm
    obtain ⟨m, rfl⟩ : ∃ q, m = q + 1 := ⟨m - 1, by omega⟩
    replace hk : n + 2 ≤ k := by omega
    unfold l_ixSp_b0 at h
    rcases cnd_some h with ⟨h1, h⟩ | ⟨h1, h⟩
    · obtain ⟨⟨e2_0, e2_1⟩, g2, h⟩ := bnd_some h
      replace g2 := as_Pi16_i16Q_some g2
      obtain ⟨y3_0, q3, h⟩ := bnd_some h
      rcases cnd_some h with ⟨h4, h⟩ | ⟨h4, h⟩
      · cases h
        refine pLast_by [.b true, .v (V.parts [(V.int .i16 (e2_0)), (V.int .i16 (e2_1))]), .v (V.bool (y3_0)), .b true] (And.intro h1 (And.intro g2 (And.intro (w_aaSp q3 k (by omega)) (And.intro h4 trivial)))) ?_
        kernel_rfl
      · refine pNext_by [.b true, .v (V.parts [(V.int .i16 (e2_0)), (V.int .i16 (e2_1))]), .v (V.bool (y3_0)), .b false] (And.intro h1 (And.intro g2 (And.intro (w_aaSp q3 k (by omega)) (And.intro h4 trivial)))) (ih _ _ _ _ h k m hk (by omega)) ?_
        kernel_rfl
    · cases h
      refine pLast_by [.b false] (And.intro h1 trivial) ?_
      kernel_rfl
theorem w_ixSp {n : Nat} {a0 : List V} {z0 : Int} (h : s_ixSp n a0 = some z0) : ∀ k, n + 3 ≤ k → sem E k 94 [(V.sl (a0)), (V.clo 77 [(V.ref [(V.clo 47 [])] 0 (0) 1)])] = some (V.int .i64 (z0)) := by
  intro k hk
  obtain ⟨k, rfl⟩ : ∃ q, k = q + 1 := ⟨k - 1, by omega⟩
  unfold s_ixSp at h
  obtain ⟨w, l5, h⟩ := bnd_some h
  rcases w with ⟨⟩ | u6_0
  · replace h := Option.some.inj h
    obtain rfl := h
    refine pFun_by [.l .normal ⟨[], []⟩] rfl (And.intro (lw_ixSp_b0 _ _ _ _ _ l5 k k (by omega) (by omega)) trivial) ?_
    kernel_rfl
  · replace h := Option.some.inj h
    obtain rfl := h
    refine pFun_by [.l .ret ⟨[(4, (V.int .i64 (u6_0)))], []⟩] rfl (And.intro (lw_ixSp_b0 _ _ _ _ _ l5 k k (by omega) (by omega)) trivial) ?_
    kernel_rfl
theorem w_cnSp {n : Nat} {a0 : List V} {z0 : Bool} (h : s_cnSp n a0 = some z0) : ∀ k, n + 4 ≤ k → sem E k 76 [(V.sl (a0)), (V.clo 77 [(V.ref [(V.clo 47 [])] 0 (0) 1)])] = some (V.bool (z0)) := by
  intro k hk
  obtain ⟨k, rfl⟩ : ∃ q, k = q + 1 := ⟨k - 1, by omega⟩
  unfold s_cnSp at h
  obtain ⟨y1_0, q1, h⟩ := bnd_some h
  replace h := Option.some.inj h
  obtain rfl := h
  refine pFun_by [.v (V.int .i64 (y1_0))] rfl (And.intro (w_ixSp q1 k (by omega)) trivial) ?_
  kernel_rfl
theorem w_impl_areAll_impl_Span__ValidShape_1 {n : Nat} {a0 : List V} {z0 : Bool} (h : s_impl_areAll_impl_Span__ValidShape_1 n a0 = some z0) : ∀ k, n + 5 ≤ k → sem E k 46 [(V.sl (a0)), (V.clo 47 [])] = some (V.bool (z0)) := by
  intro k hk
  obtain ⟨k, rfl⟩ : ∃ q, k = q + 1 := ⟨k - 1, by omega⟩
  unfold s_impl_areAll_impl_Span__ValidShape_1 at h
  obtain ⟨y1_0, q1, h⟩ := bnd_some h
  replace h := Option.some.inj h
  obtain rfl := h
  refine pFun_by [.v (V.bool (y1_0))] rfl (And.intro (w_cnSp q1 k (by omega)) (And.intro (Eq.refl true) trivial)) ?_
  kernel_rfl
theorem w_impl_ValidShape {n : Nat} {a0 : Int} {a1 : List V} {z0 : Bool} (h : s_impl_ValidShape n a0 a1 = some z0) : ∀ k, n + 6 ≤ k → sem E k 21 [(V.parts [(V.int .u8 (a0)), (V.sl (a1))])] = some (V.bool (z0)) := by
  intro k hk
  obtain ⟨k, rfl⟩ : ∃ q, k = q + 1 := ⟨k - 1, by omega⟩
  unfold s_impl_ValidShape at h
  rcases cnd_some h with ⟨h1, h⟩ | ⟨h1, h⟩
  · obtain ⟨y2_0, q2, h⟩ := bnd_some h
    rcases cnd_some h with ⟨h3, h⟩ | ⟨h3, h⟩
    · obtain ⟨y4_0, q4, h⟩ := bnd_some h
      replace h := Option.some.inj h
      obtain rfl := h
      refine pFun_by [.b true, .v (V.bool (y2_0)), .b true, .v (V.bool (y4_0))] rfl (And.intro h1 (And.intro (w_impl_within_int q2 k (by omega)) (And.intro h3 (And.intro (w_impl_areAll_impl_Span__ValidShape_1 q4 k (by omega)) trivial)))) ?_
      kernel_rfl
    · replace h := Option.some.inj h
      obtain rfl := h
      refine pFun_by [.b true, .v (V.bool (y2_0)), .b false] rfl (And.intro h1 (And.intro (w_impl_within_int q2 k (by omega)) (And.intro h3 trivial))) ?_
      kernel_rfl
  · replace h := Option.some.inj h
    obtain rfl := h
    refine pFun_by [.b false, .b false] rfl (And.intro h1 (And.intro (Eq.refl false) trivial)) ?_
    kernel_rfl
theorem lw_impl_upTo_b0 : ∀ (n : Nat) (a0 : Int) (a1 : Int) (a2 : List V) (r : List V), l_impl_upTo_b0 n a0 a1 a2 = some r → ∀ k m, n + 0 ≤ k → n ≤ m → LB E 62 0 k m ⟨[(3, (V.row 7)), (5, (V.int .i64 (a0))), (6, (V.int .i64 (a1)))], [(7, .row 3 (a2))]⟩ = some (match r with | o0 => (.normal, ⟨[(3, (V.row 7))], [(7, .row 3 (o0))]⟩)) := by
  intro n
  induction n with
  | zero => intro a0 a1 a2 r h; cases h
  | succ n ih =>
    intro a0 a1 a2 r h k m hk hm
    obtain ⟨m, rfl⟩ : ∃ q, m = q + 1 := ⟨m - 1, by omega⟩
    replace hk : n + 0 ≤ k := by omega
    unfold l_impl_upTo_b0 at h
    rcases cnd_some h with ⟨h1, h⟩ | ⟨h1, h⟩
    · obtain ⟨c2, h⟩ := chk_some h
      refine pNext_by [.b true] (And.intro h1 (And.intro c2 (And.intro (Eq.refl true) trivial))) (ih _ _ _ _ h k m hk (by omega)) ?_
      kernel_rfl
    · cases h
      refine pLast_by [.b false] (And.intro h1 trivial) ?_
      kernel_rfl
theorem w_impl_upTo {n : Nat} {a0 : Int} {z0 : List V} (h : s_impl_upTo n a0 = some z0) : ∀ k, n + 1 ≤ k → sem E k 62 [(V.int .i64 (a0))] = some (V.fresh 3 (z0)) := by
  intro k hk
  obtain ⟨k, rfl⟩ : ∃ q, k = q + 1 := ⟨k - 1, by omega⟩
  unfold s_impl_upTo at h
  obtain ⟨u3_0, l3, h⟩ := bnd_some h
  replace h := Option.some.inj h
  obtain rfl := h
  refine pFun_by [.l .normal ⟨[(3, (V.row 7))], [(7, .row 3 (u3_0))]⟩] rfl (And.intro (lw_impl_upTo_b0 _ _ _ _ _ l3 k k (by omega) (by omega)) trivial) ?_
  kernel_rfl
theorem lw_impl_Shape_laid_b0 : ∀ (n : Nat) (a0 : Int) (a1 : Int) (a2 : Int) (a3 : Int) (a4 : List V) (r : Int × List V), l_impl_Shape_laid_b0 n a0 a1 a2 a3 a4 = some r → ∀ k m, n + 0 ≤ k → n ≤ m → LB E 49 0 k m ⟨[(6, (V.ptr 13 0 (0) 2)), (8, (V.int .i64 (a0))), (9, (V.row 19)), (10, (V.int .i16 (a1)))], [(13, .box [(V.int .i16 (a2)), (V.int .i16 (a3))]), (19, .row 42 (a4))]⟩ = some (match r with | (o0, o1) => (.normal, ⟨[(8, (V.int .i64 (o0))), (9, (V.row 19))], [(19, .row 42 (o1))]⟩)) := by
  intro n
  induction n with
  | zero => intro a0 a1 a2 a3 a4 r h; cases h
  | succ n ih =>
    intro a0 a1 a2 a3 a4 r h k m hk hm
    obtain ⟨m, rfl⟩ : ∃ q, m = q + 1 := ⟨m - 1, by omega⟩
    replace hk : n + 0 ≤ k := by omega
    unfold l_impl_Shape_laid_b0 at h
    rcases cnd_some h with ⟨h2, h⟩ | ⟨h2, h⟩
    · rcases cnd_some h with ⟨h3, h⟩ | ⟨h3, h⟩
      · refine pNext_by [.b true, .b true] (And.intro h2 (And.intro h3 trivial)) (ih _ _ _ _ _ _ h k m hk (by omega)) ?_
        kernel_rfl
      · rcases cnd_some h with ⟨h4, h⟩ | ⟨h4, h⟩
        · rcases cnd_some h with ⟨h5, h⟩ | ⟨h5, h⟩
          · refine pNext_by [.b true, .b false, .b true, .b true] (And.intro h2 (And.intro h3 (And.intro h4 (And.intro h5 trivial)))) (ih _ _ _ _ _ _ h k m hk (by omega)) ?_
            kernel_rfl
          · rcases cnd_some h with ⟨h6, h⟩ | ⟨h6, h⟩
            · rcases cnd_some h with ⟨h7, h⟩ | ⟨h7, h⟩
              · obtain ⟨c8, h⟩ := chk_some h
                refine pNext_by [.b true, .b false, .b true, .b false, .b true, .b true] (And.intro h2 (And.intro h3 (And.intro h4 (And.intro h5 (And.intro h6 (And.intro h7 (And.intro c8 (And.intro (Eq.refl true) trivial)))))))) (ih _ _ _ _ _ _ h k m hk (by omega)) ?_
                kernel_rfl
              · obtain ⟨c9, h⟩ := chk_some h
                refine pNext_by [.b true, .b false, .b true, .b false, .b true, .b false, .b true] (And.intro h2 (And.intro h3 (And.intro h4 (And.intro h5 (And.intro h6 (And.intro h7 (And.intro h6 (And.intro c9 (And.intro (Eq.refl true) trivial))))))))) (ih _ _ _ _ _ _ h k m hk (by omega)) ?_
                kernel_rfl
            · obtain ⟨c10, h⟩ := chk_some h
              refine pNext_by [.b true, .b false, .b true, .b false, .b false, .b false, .b false] (And.intro h2 (And.intro h3 (And.intro h4 (And.intro h5 (And.intro h6 (And.intro (Eq.refl false) (And.intro h6 (And.intro c10 (And.intro (Eq.refl true) trivial))))))))) (ih _ _ _ _ _ _ h k m hk (by omega)) ?_
              kernel_rfl
        · rcases cnd_some h with ⟨h11, h⟩ | ⟨h11, h⟩
          · rcases cnd_some h with ⟨h12, h⟩ | ⟨h12, h⟩
            · obtain ⟨c13, h⟩ := chk_some h
              refine pNext_by [.b true, .b false, .b false, .b false, .b true, .b true] (And.intro h2 (And.intro h3 (And.intro h4 (And.intro (Eq.refl false) (And.intro h11 (And.intro h12 (And.intro c13 (And.intro (Eq.refl true) trivial)))))))) (ih _ _ _ _ _ _ h k m hk (by omega)) ?_
              kernel_rfl
            · obtain ⟨c14, h⟩ := chk_some h
              refine pNext_by [.b true, .b false, .b false, .b false, .b true, .b false, .b true] (And.intro h2 (And.intro h3 (And.intro h4 (And.intro (Eq.refl false) (And.intro h11 (And.intro h12 (And.intro h11 (And.intro c14 (And.intro (Eq.refl true) trivial))))))))) (ih _ _ _ _ _ _ h k m hk (by omega)) ?_
              kernel_rfl
          · obtain ⟨c15, h⟩ := chk_some h
            refine pNext_by [.b true, .b false, .b false, .b false, .b false, .b false, .b false] (And.intro h2 (And.intro h3 (And.intro h4 (And.intro (Eq.refl false) (And.intro h11 (And.intro (Eq.refl false) (And.intro h11 (And.intro c15 (And.intro (Eq.refl true) trivial))))))))) (ih _ _ _ _ _ _ h k m hk (by omega)) ?_
            kernel_rfl
    · cases h
      refine pLast_by [.b false] (And.intro h2 trivial) ?_
      kernel_rfl
theorem w_impl_Shape_laid {n : Nat} {a0 : Int} {a1 : List V} {a2 : Int} {z0 : Int} {z1 : List V} (h : s_impl_Shape_laid n a0 a1 a2 = some (z0, z1)) : ∀ k, n + 1 ≤ k → sem E k 49 [(V.parts [(V.int .u8 (a0)), (V.sl (a1))]), (V.int .i64 (a2))] = some (V.tup [(V.int .i64 (z0)), (V.fresh 42 (z1))]) := by
  intro k hk
  obtain ⟨k, rfl⟩ : ∃ q, k = q + 1 := ⟨k - 1, by omega⟩
  unfold s_impl_Shape_laid at h
  obtain ⟨⟨e1_0, e1_1⟩, g1, h⟩ := bnd_some h
  replace g1 := as_Pi16_i16Q_some g1
  obtain ⟨⟨u16_0, u16_1⟩, l16, h⟩ := bnd_some h
  simp only [Option.some.injEq, Prod.mk.injEq] at h
  obtain ⟨rfl, rfl⟩ := h
  refine pFun_by [.v (V.parts [(V.int .i16 (e1_0)), (V.int .i16 (e1_1))]), .l .normal ⟨[(8, (V.int .i64 (u16_0))), (9, (V.row 19))], [(19, .row 42 (u16_1))]⟩] rfl (And.intro g1 (And.intro (Eq.refl true) (And.intro (lw_impl_Shape_laid_b0 _ _ _ _ _ _ _ l16 k k (by omega) (by omega)) trivial))) ?_
  kernel_rfl
theorem w_impl_Shape_pieces_1 {n : Nat} {a0 : Int} {a1 : Int} {a2 : List V} {z0 : List V} (h : s_impl_Shape_pieces_1 n a0 a1 a2 = some z0) : ∀ k, n + 2 ≤ k → sem E k 63 [(V.int .i64 (a0)), (V.ref [(V.int .u8 (a1)), (V.sl (a2))] 0 (0) 2)] = some (V.fresh 42 (z0)) := by
  intro k hk
  obtain ⟨k, rfl⟩ : ∃ q, k = q + 1 := ⟨k - 1, by omega⟩
  unfold s_impl_Shape_pieces_1 at h
  obtain ⟨⟨y1_0, y1_1⟩, q1, h⟩ := bnd_some h
  replace h := Option.some.inj h
  obtain rfl := h
  refine pFun_by [.v (V.tup [(V.int .i64 (y1_0)), (V.fresh 42 (y1_1))])] rfl (And.intro (w_impl_Shape_laid q1 k (by omega)) trivial) ?_
  kernel_rfl
theorem lw_eaPi_b0 : ∀ (n : Nat) (a0 : Int) (a1 : List V) (a2 : List V) (a3 : Int) (a4 : Int) (a5 : List V) (r : List V), l_eaPi_b0 n a0 a1 a2 a3 a4 a5 = some r → ∀ k m, n + 2 ≤ k → n ≤ m → LB E 61 0 k m ⟨[(1, (V.clo 63 [(V.ref [(V.int .u8 (a0)), (V.sl (a1))] 0 (0) 2)])), (5, (V.row 11)), (8, (V.sl (a2))), (9, (V.int .i64 (a3))), (10, (V.int .i64 (a4)))], [(11, .row 28 (a5))]⟩ = some (match r with | o0 => (.normal, ⟨[(5, (V.row 11))], [(11, .row 28 (o0))]⟩)) := by
  intro n
  induction n with
  | zero => intro a0 a1 a2 a3 a4 a5 r h; cases h
  | succ n ih =>
    intro a0 a1 a2 a3 a4 a5 r h k m hk hm
    obtain ⟨m, rfl⟩ : ∃ q, m = q + 1 := ⟨m - 1, by omega⟩
    replace hk : n + 2 ≤ k := by omega
    unfold l_eaPi_b0 at h
    rcases cnd_some h with ⟨h1, h⟩ | ⟨h1, h⟩
    · obtain ⟨e2_0, g2, h⟩ := bnd_some h
      replace g2 := as_i64_some g2
      obtain ⟨y3_0, q3, h⟩ := bnd_some h
      obtain ⟨c4, h⟩ := chk_some h
      refine pNext_by [.b true, .v (V.int .i64 (e2_0)), .v (V.fresh 42 (y3_0))] (And.intro h1 (And.intro g2 (And.intro (w_impl_Shape_pieces_1 q3 k (by omega)) (And.intro c4 (And.intro (Eq.refl true) trivial))))) (ih _ _ _ _ _ _ _ h k m hk (by omega)) ?_
      kernel_rfl
    · cases h
      refine pLast_by [.b false] (And.intro h1 trivial) ?_
      kernel_rfl
theorem w_eaPi {n : Nat} {a0 : List V} {a1 : Int} {a2 : List V} {z0 : List V} (h : s_eaPi n a0 a1 a2 = some z0) : ∀ k, n + 3 ≤ k → sem E k 61 [(V.sl (a0)), (V.clo 63 [(V.ref [(V.int .u8 (a1)), (V.sl (a2))] 0 (0) 2)])] = some (V.fresh 28 (z0)) := by
  intro k hk
  obtain ⟨k, rfl⟩ : ∃ q, k = q + 1 := ⟨k - 1, by omega⟩
  unfold s_eaPi at h
  obtain ⟨u5_0, l5, h⟩ := bnd_some h
  replace h := Option.some.inj h
  obtain rfl := h
  refine pFun_by [.l .normal ⟨[(5, (V.row 11))], [(11, .row 28 (u5_0))]⟩] rfl (And.intro (lw_eaPi_b0 _ _ _ _ _ _ _ _ l5 k k (by omega) (by omega)) trivial) ?_
  kernel_rfl
theorem w_growP {n : Nat} {a0 : Int} {z0 : List V} (h : s_growP n a0 = some z0) : ∀ k, n + 1 ≤ k → sem E k 84 [V.nils, (V.int .i64 (a0))] = some (V.fresh 42 (z0)) := by
  intro k hk
  obtain ⟨k, rfl⟩ : ∃ q, k = q + 1 := ⟨k - 1, by omega⟩
  unfold s_growP at h
  rcases cnd_some h with ⟨h1, h⟩ | ⟨h1, h⟩
  · cases h
  · rcases cnd_some h with ⟨h2, h⟩ | ⟨h2, h⟩
    · obtain ⟨c3, h⟩ := chk_some h
      obtain ⟨c4, h⟩ := chk_some h
      obtain ⟨c5, h⟩ := chk_some h
      replace h := Option.some.inj h
      obtain rfl := h
      refine pFun_by [.b false, .b true] rfl (And.intro h1 (And.intro h2 (And.intro c3 (And.intro c4 (And.intro c5 trivial))))) ?_
      kernel_rfl
    · replace h := Option.some.inj h
      obtain rfl := h
      refine pFun_by [.b false, .b false] rfl (And.intro h1 (And.intro h2 trivial)) ?_
      kernel_rfl
theorem lw_catP_b0 : ∀ (n : Nat) (a0 : List V) (a1 : Int) (a2 : List V) (a3 : Int) (a4 : Int) (r : List V × Int), l_catP_b0 n a0 a1 a2 a3 a4 = some r → ∀ k m, n + 0 ≤ k → n ≤ m → LB E 60 0 k m ⟨[(0, (V.sl (a0))), (3, (V.int .i64 (a1))), (9, (V.sl (a2))), (10, (V.int .i64 (a3))), (11, (V.int .i64 (a4)))], []⟩ = some (match r with | (o0, o1) => (.normal, ⟨[(0, (V.sl (o0))), (3, (V.int .i64 (o1)))], []⟩)) := by
  intro n
  induction n with
  | zero => intro a0 a1 a2 a3 a4 r h; cases h
  | succ n ih =>
    intro a0 a1 a2 a3 a4 r h k m hk hm
    obtain ⟨m, rfl⟩ : ∃ q, m = q + 1 := ⟨m - 1, by omega⟩
    replace hk : n + 0 ≤ k := by omega
    unfold l_catP_b0 at h
    rcases cnd_some h with ⟨h1, h⟩ | ⟨h1, h⟩
    · obtain ⟨e2_0, g2, h⟩ := bnd_some h
      replace g2 := as_LPi8_i8Q_some g2
      rcases cnd_some h with ⟨h3, h⟩ | ⟨h3, h⟩
      · cases h
      · refine pNext_by [.b true, .v (V.sl (e2_0)), .b false] (And.intro h1 (And.intro g2 (And.intro h3 trivial))) (ih _ _ _ _ _ _ h k m hk (by omega)) ?_
        kernel_rfl
    · cases h
      refine pLast_by [.b false] (And.intro h1 trivial) ?_
      kernel_rfl
theorem lw_catP_b2 : ∀ (n : Nat) (a0 : List V) (a1 : Int) (a2 : Int) (a3 : List V) (r : List V), l_catP_b2 n a0 a1 a2 a3 = some r → ∀ k m, n + 0 ≤ k → n ≤ m → LB E 60 2 k m ⟨[(6, (V.row 13)), (25, (V.sl (a0))), (26, (V.int .i64 (a1))), (27, (V.int .i64 (a2)))], [(13, .row 42 (a3))]⟩ = some (match r with | o0 => (.normal, ⟨[(6, (V.row 13))], [(13, .row 42 (o0))]⟩)) := by
  intro n
  induction n with
  | zero => intro a0 a1 a2 a3 r h; cases h
  | succ n ih =>
    intro a0 a1 a2 a3 r h k m hk hm
    obtain ⟨m, rfl⟩ : ∃ q, m = q + 1 := ⟨m - 1, by omega⟩
    replace hk : n + 0 ≤ k := by omega
    unfold l_catP_b2 at h
    rcases cnd_some h with ⟨h8, h⟩ | ⟨h8, h⟩
    · obtain ⟨e9_0, g9, h⟩ := bnd_some h
      replace g9 := as_LPi8_i8Q_some g9
      obtain ⟨c10, h⟩ := chk_some h
      obtain ⟨c11, h⟩ := chk_some h
      refine pNext_by [.b true, .v (V.sl (e9_0))] (And.intro h8 (And.intro g9 (And.intro c10 (And.intro c11 trivial)))) (ih _ _ _ _ _ h k m hk (by omega)) ?_
      kernel_rfl
    · cases h
      refine pLast_by [.b false] (And.intro h8 trivial) ?_
      kernel_rfl
theorem w_catP {n : Nat} {a0 : List V} {z0 : List V} (h : s_catP n a0 = some z0) : ∀ k, n + 2 ≤ k → sem E k 60 [(V.sl (a0))] = some (V.fresh 42 (z0)) := by
  intro k hk
  obtain ⟨k, rfl⟩ : ∃ q, k = q + 1 := ⟨k - 1, by omega⟩
  unfold s_catP at h
  obtain ⟨⟨u4_0, u4_1⟩, l4, h⟩ := bnd_some h
  obtain ⟨y6_0, q6, h⟩ := bnd_some h
  obtain ⟨c7, h⟩ := chk_some h
  obtain ⟨u12_0, l12, h⟩ := bnd_some h
  replace h := Option.some.inj h
  obtain rfl := h
  refine pFun_by [.l .normal ⟨[(0, (V.sl (u4_0))), (3, (V.int .i64 (u4_1)))], []⟩, .v (V.fresh 42 (y6_0)), .l .normal ⟨[(6, (V.row 13))], [(13, .row 42 (u12_0))]⟩] rfl (And.intro (lw_catP_b0 _ _ _ _ _ _ _ l4 k k (by omega) (by omega)) (And.intro (w_growP q6 k (by omega)) (And.intro c7 (And.intro (lw_catP_b2 _ _ _ _ _ _ l12 k k (by omega) (by omega)) trivial)))) ?_
  kernel_rfl
theorem w_impl_Shape_pieces {n : Nat} {a0 : Int} {a1 : List V} {z0 : List V} (h : s_impl_Shape_pieces n a0 a1 = some z0) : ∀ k, n + 4 ≤ k → sem E k 34 [(V.parts [(V.int .u8 (a0)), (V.sl (a1))])] = some (V.fresh 42 (z0)) := by
  intro k hk
  obtain ⟨k, rfl⟩ : ∃ q, k = q + 1 := ⟨k - 1, by omega⟩
  unfold s_impl_Shape_pieces at h
  obtain ⟨y1_0, q1, h⟩ := bnd_some h
  obtain ⟨y2_0, q2, h⟩ := bnd_some h
  obtain ⟨y3_0, q3, h⟩ := bnd_some h
  obtain ⟨c4, h⟩ := chk_some h
  replace h := Option.some.inj h
  obtain rfl := h
  refine pFun_by [.v (V.fresh 3 (y1_0)), .v (V.fresh 28 (y2_0)), .v (V.fresh 42 (y3_0))] rfl (And.intro (w_impl_upTo q1 k (by omega)) (And.intro (w_eaPi q2 k (by omega)) (And.intro (w_catP q3 k (by omega)) (And.intro c4 trivial)))) ?_
  kernel_rfl
theorem w_impl_AllPieces {n : Nat} {a0 : Int} {a1 : List V} {z0 : List V} {z1 : Int} (h : s_impl_AllPieces n a0 a1 = some (z0, z1)) : ∀ k, n + 7 ≤ k → sem E k 9 [(V.parts [(V.int .u8 (a0)), (V.sl (a1))])] = some (V.tup [(V.fresh 42 (z0)), (V.int .i64 (z1))]) := by
  intro k hk
  obtain ⟨k, rfl⟩ : ∃ q, k = q + 1 := ⟨k - 1, by omega⟩
  unfold s_impl_AllPieces at h
  obtain ⟨y1_0, q1, h⟩ := bnd_some h
  rcases cnd_some h with ⟨h2, h⟩ | ⟨h2, h⟩
  · obtain ⟨y3_0, q3, h⟩ := bnd_some h
    simp only [Option.some.injEq, Prod.mk.injEq] at h
    obtain ⟨rfl, rfl⟩ := h
    refine pFun_by [.v (V.bool (y1_0)), .b false, .v (V.fresh 42 (y3_0))] rfl (And.intro (w_impl_ValidShape q1 k (by omega)) (And.intro (not_f h2) (And.intro (w_impl_Shape_pieces q3 k (by omega)) trivial))) ?_
    kernel_rfl
  · simp only [Option.some.injEq, Prod.mk.injEq] at h
    obtain ⟨rfl, rfl⟩ := h
    refine pFun_by [.v (V.bool (y1_0)), .b true] rfl (And.intro (w_impl_ValidShape q1 k (by omega)) (And.intro (not_t h2) trivial)) ?_
    kernel_rfl
theorem w_spec_l00In {n : Nat} {a0 : Int} {a1 : Int} {a2 : Int} {z0 : Bool} (h : s_spec_l00In n a0 a1 a2 = some z0) : ∀ k, n + 1 ≤ k → sem E k 50 [(V.int .i64 (a0)), (V.int .i64 (a1)), (V.int .i64 (a2))] = some (V.bool (z0)) := by
  intro k hk
  obtain ⟨k, rfl⟩ : ∃ q, k = q + 1 := ⟨k - 1, by omega⟩
  unfold s_spec_l00In at h
  rcases cnd_some h with ⟨h1, h⟩ | ⟨h1, h⟩
  · replace h := Option.some.inj h
    obtain rfl := h
    refine pFun_by [.b true] rfl (And.intro h1 trivial) ?_
    kernel_rfl
  · replace h := Option.some.inj h
    obtain rfl := h
    refine pFun_by [.b false] rfl (And.intro h1 trivial) ?_
    kernel_rfl
theorem lw_spec_l05Ok_b0 : ∀ (n : Nat) (a0 : Int) (a1 : List V) (a2 : Int) (r : Sum (Int × List V) (Bool)), l_spec_l05Ok_b0 n a0 a1 a2 = some r → ∀ k m, n + 0 ≤ k → n ≤ m → LB E 35 0 k m ⟨[(0, (V.ref [(V.int .u8 (a0)), (V.sl (a1))] 0 (0) 2)), (3, (V.int .i64 (a2)))], []⟩ = some (match r with | .inl (o0, o1) => (.normal, ⟨[(0, (V.ref [(V.int .u8 (o0)), (V.sl (o1))] 0 (0) 2))], []⟩) | .inr o0 => (.ret, ⟨[(2, (V.bool (o0)))], []⟩)) := by
  intro n
  induction n with
  | zero => intro a0 a1 a2 r h; cases h
  | succ n ih =>
    intro a0 a1 a2 r h k m hk hm
    obtain ⟨m, rfl⟩ : ∃ q, m = q + 1 := ⟨m - 1, by omega⟩
    replace hk : n + 0 ≤ k := by omega
    unfold l_spec_l05Ok_b0 at h
    rcases cnd_some h with ⟨h1, h⟩ | ⟨h1, h⟩
    · obtain ⟨⟨e2_0, e2_1⟩, g2, h⟩ := bnd_some h
      replace g2 := as_Pi16_i16Q_some g2
      rcases cnd_some h with ⟨h3, h⟩ | ⟨h3, h⟩
      · cases h
        refine pLast_by [.b true, .v (V.parts [(V.int .i16 (e2_0)), (V.int .i16 (e2_1))]), .b true, .b true, .b true] (And.intro h1 (And.intro g2 (And.intro h3 (And.intro (Eq.refl true) (And.intro (Eq.refl true) trivial))))) ?_
        kernel_rfl
      · rcases cnd_some h with ⟨h4, h⟩ | ⟨h4, h⟩
        · cases h
          refine pLast_by [.b true, .v (V.parts [(V.int .i16 (e2_0)), (V.int .i16 (e2_1))]), .b false, .b true, .b true] (And.intro h1 (And.intro g2 (And.intro h3 (And.intro h4 (And.intro (Eq.refl true) trivial))))) ?_
          kernel_rfl
        · rcases cnd_some h with ⟨h5, h⟩ | ⟨h5, h⟩
          · cases h
            refine pLast_by [.b true, .v (V.parts [(V.int .i16 (e2_0)), (V.int .i16 (e2_1))]), .b false, .b false, .b true] (And.intro h1 (And.intro g2 (And.intro h3 (And.intro h4 (And.intro h5 trivial))))) ?_
            kernel_rfl
          · refine pNext_by [.b true, .v (V.parts [(V.int .i16 (e2_0)), (V.int .i16 (e2_1))]), .b false, .b false, .b false] (And.intro h1 (And.intro g2 (And.intro h3 (And.intro h4 (And.intro h5 trivial))))) (ih _ _ _ _ h k m hk (by omega)) ?_
            kernel_rfl
    · cases h
      refine pLast_by [.b false] (And.intro h1 trivial) ?_
      kernel_rfl
theorem w_spec_l05Ok {n : Nat} {a0 : Int} {a1 : List V} {z0 : Bool} (h : s_spec_l05Ok n a0 a1 = some z0) : ∀ k, n + 2 ≤ k → sem E k 35 [(V.ref [(V.int .u8 (a0)), (V.sl (a1))] 0 (0) 2)] = some (V.bool (z0)) := by
  intro k hk
  obtain ⟨k, rfl⟩ : ∃ q, k = q + 1 := ⟨k - 1, by omega⟩
  unfold s_spec_l05Ok at h
  obtain ⟨w, l6, h⟩ := bnd_some h
  rcases w with ⟨u6_0, u6_1⟩ | u9_0
  · obtain ⟨y8_0, q8, h⟩ := bnd_some h
    rcases cnd_some h with ⟨h9, h⟩ | ⟨h9, h⟩
    · replace h := Option.some.inj h
      obtain rfl := h
      refine pFun_by [.l .normal ⟨[(0, (V.ref [(V.int .u8 (u6_0)), (V.sl (u6_1))] 0 (0) 2))], []⟩, .v (V.bool (y8_0)), .b true] rfl (And.intro (lw_spec_l05Ok_b0 _ _ _ _ _ l6 k k (by omega) (by omega)) (And.intro (w_spec_l00In q8 k (by omega)) (And.intro h9 trivial))) ?_
      kernel_rfl
    · replace h := Option.some.inj h
      obtain rfl := h
      refine pFun_by [.l .normal ⟨[(0, (V.ref [(V.int .u8 (u6_0)), (V.sl (u6_1))] 0 (0) 2))], []⟩, .v (V.bool (y8_0)), .b false] rfl (And.intro (lw_spec_l05Ok_b0 _ _ _ _ _ l6 k k (by omega) (by omega)) (And.intro (w_spec_l00In q8 k (by omega)) (And.intro h9 trivial))) ?_
      kernel_rfl
  · replace h := Option.some.inj h
    obtain rfl := h
    refine pFun_by [.l .ret ⟨[(2, (V.bool (u9_0)))], []⟩] rfl (And.intro (lw_spec_l05Ok_b0 _ _ _ _ _ l6 k k (by omega) (by omega)) trivial) ?_
    kernel_rfl
theorem w_spec_l00Max {n : Nat} {a0 : Int} {a1 : Int} {z0 : Int} (h : s_spec_l00Max n a0 a1 = some z0) : ∀ k, n + 1 ≤ k → sem E k 78 [(V.int .i64 (a0)), (V.int .i64 (a1))] = some (V.int .i64 (z0)) := by
  intro k hk
  obtain ⟨k, rfl⟩ : ∃ q, k = q + 1 := ⟨k - 1, by omega⟩
  unfold s_spec_l00Max at h
  rcases cnd_some h with ⟨h1, h⟩ | ⟨h1, h⟩
  · replace h := Option.some.inj h
    obtain rfl := h
    refine pFun_by [.b true] rfl (And.intro h1 trivial) ?_
    kernel_rfl
  · replace h := Option.some.inj h
    obtain rfl := h
    refine pFun_by [.b false] rfl (And.intro h1 trivial) ?_
    kernel_rfl
theorem w_spec_l00Min {n : Nat} {a0 : Int} {a1 : Int} {z0 : Int} (h : s_spec_l00Min n a0 a1 = some z0) : ∀ k, n + 1 ≤ k → sem E k 79 [(V.int .i64 (a0)), (V.int .i64 (a1))] = some (V.int .i64 (z0)) := by
  intro k hk
  obtain ⟨k, rfl⟩ : ∃ q, k = q + 1 := ⟨k - 1, by omega⟩
  unfold s_spec_l00Min at h
  rcases cnd_some h with ⟨h1, h⟩ | ⟨h1, h⟩
  · replace h := Option.some.inj h
    obtain rfl := h
    refine pFun_by [.b true] rfl (And.intro h1 trivial) ?_
    kernel_rfl
  · replace h := Option.some.inj h
    obtain rfl := h
    refine pFun_by [.b false] rfl (And.intro h1 trivial) ?_
    kernel_rfl
theorem lw_spec_l05Course_b0 : ∀ (n : Nat) (a0 : Int) (a1 : Int) (a2 : Int) (a3 : Int) (a4 : List V) (r : Int × List V), l_spec_l05Course_b0 n a0 a1 a2 a3 a4 = some r → ∀ k m, n + 1 ≤ k → n ≤ m → LB E 51 0 k m ⟨[(6, (V.int .i64 (a0))), (7, (V.int .i64 (a1))), (9, (V.int .i64 (a2))), (10, (V.row 21)), (11, (V.int .i64 (a3)))], [(21, .row 42 (a4))]⟩ = some (match r with | (o0, o1) => (.normal, ⟨[(9, (V.int .i64 (o0))), (10, (V.row 21))], [(21, .row 42 (o1))]⟩)) := by
  intro n
  induction n with
  | zero => intro a0 a1 a2 a3 a4 r h; cases h
  | succ n ih =>
    intro a0 a1 a2 a3 a4 r h k m hk hm
    obtain ⟨m, rfl⟩ : ∃ q, m = q + 1 := ⟨m - 1, by omega⟩
    replace hk : n + 1 ≤ k := by omega
    unfold l_spec_l05Course_b0 at h
    rcases cnd_some h with ⟨h3, h⟩ | ⟨h3, h⟩
    · obtain ⟨y4_0, q4, h⟩ := bnd_some h
      obtain ⟨y5_0, q5, h⟩ := bnd_some h
      rcases cnd_some h with ⟨h6, h⟩ | ⟨h6, h⟩
      · refine pNext_by [.b true, .v (V.int .i64 (y4_0)), .v (V.int .i64 (y5_0)), .b true] (And.intro h3 (And.intro (w_spec_l00Max q4 k (by omega)) (And.intro (w_spec_l00Min q5 k (by omega)) (And.intro h6 trivial)))) (ih _ _ _ _ _ _ h k m hk (by omega)) ?_
        kernel_rfl
      · rcases cnd_some h with ⟨h7, h⟩ | ⟨h7, h⟩
        · rcases cnd_some h with ⟨h8, h⟩ | ⟨h8, h⟩
          · refine pNext_by [.b true, .v (V.int .i64 (y4_0)), .v (V.int .i64 (y5_0)), .b false, .b true, .b true] (And.intro h3 (And.intro (w_spec_l00Max q4 k (by omega)) (And.intro (w_spec_l00Min q5 k (by omega)) (And.intro h6 (And.intro h7 (And.intro h8 trivial)))))) (ih _ _ _ _ _ _ h k m hk (by omega)) ?_
            kernel_rfl
          · rcases cnd_some h with ⟨h9, h⟩ | ⟨h9, h⟩
            · rcases cnd_some h with ⟨h10, h⟩ | ⟨h10, h⟩
              · obtain ⟨c11, h⟩ := chk_some h
                refine pNext_by [.b true, .v (V.int .i64 (y4_0)), .v (V.int .i64 (y5_0)), .b false, .b true, .b false, .b true, .b true] (And.intro h3 (And.intro (w_spec_l00Max q4 k (by omega)) (And.intro (w_spec_l00Min q5 k (by omega)) (And.intro h6 (And.intro h7 (And.intro h8 (And.intro h9 (And.intro h10 (And.intro c11 (And.intro (Eq.refl true) trivial)))))))))) (ih _ _ _ _ _ _ h k m hk (by omega)) ?_
                kernel_rfl
              · obtain ⟨c12, h⟩ := chk_some h
                refine pNext_by [.b true, .v (V.int .i64 (y4_0)), .v (V.int .i64 (y5_0)), .b false, .b true, .b false, .b true, .b false, .b true] (And.intro h3 (And.intro (w_spec_l00Max q4 k (by omega)) (And.intro (w_spec_l00Min q5 k (by omega)) (And.intro h6 (And.intro h7 (And.intro h8 (And.intro h9 (And.intro h10 (And.intro h9 (And.intro c12 (And.intro (Eq.refl true) trivial))))))))))) (ih _ _ _ _ _ _ h k m hk (by omega)) ?_
                kernel_rfl
            · obtain ⟨c13, h⟩ := chk_some h
              refine pNext_by [.b true, .v (V.int .i64 (y4_0)), .v (V.int .i64 (y5_0)), .b false, .b true, .b false, .b false, .b false, .b false] (And.intro h3 (And.intro (w_spec_l00Max q4 k (by omega)) (And.intro (w_spec_l00Min q5 k (by omega)) (And.intro h6 (And.intro h7 (And.intro h8 (And.intro h9 (And.intro (Eq.refl false) (And.intro h9 (And.intro c13 (And.intro (Eq.refl true) trivial))))))))))) (ih _ _ _ _ _ _ h k m hk (by omega)) ?_
              kernel_rfl
        · rcases cnd_some h with ⟨h14, h⟩ | ⟨h14, h⟩
          · rcases cnd_some h with ⟨h15, h⟩ | ⟨h15, h⟩
            · obtain ⟨c16, h⟩ := chk_some h
              refine pNext_by [.b true, .v (V.int .i64 (y4_0)), .v (V.int .i64 (y5_0)), .b false, .b false, .b false, .b true, .b true] (And.intro h3 (And.intro (w_spec_l00Max q4 k (by omega)) (And.intro (w_spec_l00Min q5 k (by omega)) (And.intro h6 (And.intro h7 (And.intro (Eq.refl false) (And.intro h14 (And.intro h15 (And.intro c16 (And.intro (Eq.refl true) trivial)))))))))) (ih _ _ _ _ _ _ h k m hk (by omega)) ?_
              kernel_rfl
            · obtain ⟨c17, h⟩ := chk_some h
              refine pNext_by [.b true, .v (V.int .i64 (y4_0)), .v (V.int .i64 (y5_0)), .b false, .b false, .b false, .b true, .b false, .b true] (And.intro h3 (And.intro (w_spec_l00Max q4 k (by omega)) (And.intro (w_spec_l00Min q5 k (by omega)) (And.intro h6 (And.intro h7 (And.intro (Eq.refl false) (And.intro h14 (And.intro h15 (And.intro h14 (And.intro c17 (And.intro (Eq.refl true) trivial))))))))))) (ih _ _ _ _ _ _ h k m hk (by omega)) ?_
              kernel_rfl
          · obtain ⟨c18, h⟩ := chk_some h
            refine pNext_by [.b true, .v (V.int .i64 (y4_0)), .v (V.int .i64 (y5_0)), .b false, .b false, .b false, .b false, .b false, .b false] (And.intro h3 (And.intro (w_spec_l00Max q4 k (by omega)) (And.intro (w_spec_l00Min q5 k (by omega)) (And.intro h6 (And.intro h7 (And.intro (Eq.refl false) (And.intro h14 (And.intro (Eq.refl false) (And.intro h14 (And.intro c18 (And.intro (Eq.refl true) trivial))))))))))) (ih _ _ _ _ _ _ h k m hk (by omega)) ?_
            kernel_rfl
    · cases h
      refine pLast_by [.b false] (And.intro h3 trivial) ?_
      kernel_rfl
theorem w_spec_l05Course {n : Nat} {a0 : Int} {a1 : List V} {a2 : Int} {z0 : Int} {z1 : List V} (h : s_spec_l05Course n a0 a1 a2 = some (z0, z1)) : ∀ k, n + 2 ≤ k → sem E k 51 [(V.ref [(V.int .u8 (a0)), (V.sl (a1))] 0 (0) 2), (V.int .i64 (a2))] = some (V.tup [(V.int .i64 (z0)), (V.fresh 42 (z1))]) := by
  intro k hk
  obtain ⟨k, rfl⟩ : ∃ q, k = q + 1 := ⟨k - 1, by omega⟩
  unfold s_spec_l05Course at h
  obtain ⟨⟨e1_0, e1_1⟩, g1, h⟩ := bnd_some h
  replace g1 := as_Pi16_i16Q_some g1
  obtain ⟨⟨e2_0, e2_1⟩, g2, h⟩ := bnd_some h
  replace g2 := as_Pi16_i16Q_some g2
  obtain ⟨⟨u19_0, u19_1⟩, l19, h⟩ := bnd_some h
  simp only [Option.some.injEq, Prod.mk.injEq] at h
  obtain ⟨rfl, rfl⟩ := h
  refine pFun_by [.v (V.parts [(V.int .i16 (e1_0)), (V.int .i16 (e1_1))]), .v (V.parts [(V.int .i16 (e2_0)), (V.int .i16 (e2_1))]), .l .normal ⟨[(9, (V.int .i64 (u19_0))), (10, (V.row 21))], [(21, .row 42 (u19_1))]⟩] rfl (And.intro g1 (And.intro g2 (And.intro (Eq.refl true) (And.intro (lw_spec_l05Course_b0 _ _ _ _ _ _ _ l19 k k (by omega) (by omega)) trivial)))) ?_
  kernel_rfl
theorem lw_spec_l05All_b0 : ∀ (n : Nat) (a0 : Int) (a1 : List V) (a2 : Int) (a3 : List V) (r : List V), l_spec_l05All_b0 n a0 a1 a2 a3 = some r → ∀ k m, n + 2 ≤ k → n ≤ m → LB E 36 0 k m ⟨[(0, (V.ref [(V.int .u8 (a0)), (V.sl (a1))] 0 (0) 2)), (3, (V.row 7)), (4, (V.int .i64 (a2)))], [(7, .row 42 (a3))]⟩ = some (match r with | o0 => (.normal, ⟨[(3, (V.row 7))], [(7, .row 42 (o0))]⟩)) := by
  intro n
  induction n with
  | zero => intro a0 a1 a2 a3 r h; cases h
  | succ n ih =>
    intro a0 a1 a2 a3 r h k m hk hm
    obtain ⟨m, rfl⟩ : ∃ q, m = q + 1 := ⟨m - 1, by omega⟩
    replace hk : n + 2 ≤ k := by omega
    unfold l_spec_l05All_b0 at h
    rcases cnd_some h with ⟨h1, h⟩ | ⟨h1, h⟩
    · obtain ⟨⟨y2_0, y2_1⟩, q2, h⟩ := bnd_some h
      obtain ⟨c3, h⟩ := chk_some h
      refine pNext_by [.b true, .v (V.tup [(V.int .i64 (y2_0)), (V.fresh 42 (y2_1))])] (And.intro h1 (And.intro (w_spec_l05Course q2 k (by omega)) (And.intro c3 (And.intro (Eq.refl true) trivial)))) (ih _ _ _ _ _ h k m hk (by omega)) ?_
      kernel_rfl
    · cases h
      refine pLast_by [.b false] (And.intro h1 trivial) ?_
      kernel_rfl
theorem w_spec_l05All {n : Nat} {a0 : Int} {a1 : List V} {z0 : List V} (h : s_spec_l05All n a0 a1 = some z0) : ∀ k, n + 3 ≤ k → sem E k 36 [(V.ref [(V.int .u8 (a0)), (V.sl (a1))] 0 (0) 2)] = some (V.fresh 42 (z0)) := by
  intro k hk
  obtain ⟨k, rfl⟩ : ∃ q, k = q + 1 := ⟨k - 1, by omega⟩
  unfold s_spec_l05All at h
  obtain ⟨u4_0, l4, h⟩ := bnd_some h
  replace h := Option.some.inj h
  obtain rfl := h
  refine pFun_by [.l .normal ⟨[(3, (V.row 7))], [(7, .row 42 (u4_0))]⟩] rfl (And.intro (lw_spec_l05All_b0 _ _ _ _ _ _ l4 k k (by omega) (by omega)) trivial) ?_
  kernel_rfl
theorem w_spec_AllPieces {n : Nat} {a0 : Int} {a1 : List V} {z0 : List V} {z1 : Int} (h : s_spec_AllPieces n a0 a1 = some (z0, z1)) : ∀ k, n + 4 ≤ k → sem E k 10 [(V.parts [(V.int .u8 (a0)), (V.sl (a1))])] = some (V.tup [(V.fresh 42 (z0)), (V.int .i64 (z1))]) := by
  intro k hk
  obtain ⟨k, rfl⟩ : ∃ q, k = q + 1 := ⟨k - 1, by omega⟩
  unfold s_spec_AllPieces at h
  obtain ⟨y1_0, q1, h⟩ := bnd_some h
  rcases cnd_some h with ⟨h2, h⟩ | ⟨h2, h⟩
  · obtain ⟨y3_0, q3, h⟩ := bnd_some h
    obtain ⟨c4, h⟩ := chk_some h
    simp only [Option.some.injEq, Prod.mk.injEq] at h
    obtain ⟨rfl, rfl⟩ := h
    refine pFun_by [.v (V.bool (y1_0)), .b false, .v (V.fresh 42 (y3_0))] rfl (And.intro (w_spec_l05Ok q1 k (by omega)) (And.intro (Eq.refl true) (And.intro (not_f h2) (And.intro (w_spec_l05All q3 k (by omega)) (And.intro c4 trivial))))) ?_
    kernel_rfl
  · simp only [Option.some.injEq, Prod.mk.injEq] at h
    obtain ⟨rfl, rfl⟩ := h
    refine pFun_by [.v (V.bool (y1_0)), .b true] rfl (And.intro (w_spec_l05Ok q1 k (by omega)) (And.intro (Eq.refl true) (And.intro (not_t h2) trivial))) ?_
    kernel_rfl
theorem w_impl_Shape_whole_1 {n : Nat} {a0 : Int} {a1 : Int} {a2 : List V} {z0 : Int} (h : s_impl_Shape_whole_1 n a0 a1 a2 = some z0) : ∀ k, n + 2 ≤ k → sem E k 66 [(V.int .i64 (a0)), (V.ref [(V.int .u8 (a1)), (V.sl (a2))] 0 (0) 2)] = some (V.int .i64 (z0)) := by
  intro k hk
  obtain ⟨k, rfl⟩ : ∃ q, k = q + 1 := ⟨k - 1, by omega⟩
  unfold s_impl_Shape_whole_1 at h
  obtain ⟨⟨y1_0, y1_1⟩, q1, h⟩ := bnd_some h
  replace h := Option.some.inj h
  obtain rfl := h
  refine pFun_by [.v (V.tup [(V.int .i64 (y1_0)), (V.fresh 42 (y1_1))])] rfl (And.intro (w_impl_Shape_laid q1 k (by omega)) trivial) ?_
  kernel_rfl
theorem lw_eaWh_b0 : ∀ (n : Nat) (a0 : Int) (a1 : List V) (a2 : List V) (a3 : Int) (a4 : Int) (a5 : List V) (r : List V), l_eaWh_b0 n a0 a1 a2 a3 a4 a5 = some r → ∀ k m, n + 2 ≤ k → n ≤ m → LB E 65 0 k m ⟨[(1, (V.clo 66 [(V.ref [(V.int .u8 (a0)), (V.sl (a1))] 0 (0) 2)])), (5, (V.row 11)), (8, (V.sl (a2))), (9, (V.int .i64 (a3))), (10, (V.int .i64 (a4)))], [(11, .row 2 (a5))]⟩ = some (match r with | o0 => (.normal, ⟨[(5, (V.row 11))], [(11, .row 2 (o0))]⟩)) := by
  intro n
  induction n with
  | zero => intro a0 a1 a2 a3 a4 a5 r h; cases h
  | succ n ih =>
    intro a0 a1 a2 a3 a4 a5 r h k m hk hm
    obtain ⟨m, rfl⟩ : ∃ q, m = q + 1 := ⟨m - 1, by omega⟩
    replace hk : n + 2 ≤ k := by omega
    unfold l_eaWh_b0 at h
    rcases cnd_some h with ⟨h1, h⟩ | ⟨h1, h⟩
    · obtain ⟨e2_0, g2, h⟩ := bnd_some h
      replace g2 := as_i64_some g2
      obtain ⟨y3_0, q3, h⟩ := bnd_some h
      obtain ⟨c4, h⟩ := chk_some h
      refine pNext_by [.b true, .v (V.int .i64 (e2_0)), .v (V.int .i64 (y3_0))] (And.intro h1 (And.intro g2 (And.intro (w_impl_Shape_whole_1 q3 k (by omega)) (And.intro c4 (And.intro (Eq.refl true) trivial))))) (ih _ _ _ _ _ _ _ h k m hk (by omega)) ?_
      kernel_rfl
    · cases h
      refine pLast_by [.b false] (And.intro h1 trivial) ?_
      kernel_rfl
theorem w_eaWh {n : Nat} {a0 : List V} {a1 : Int} {a2 : List V} {z0 : List V} (h : s_eaWh n a0 a1 a2 = some z0) : ∀ k, n + 3 ≤ k → sem E k 65 [(V.sl (a0)), (V.clo 66 [(V.ref [(V.int .u8 (a1)), (V.sl (a2))] 0 (0) 2)])] = some (V.fresh 2 (z0)) := by
  intro k hk
  obtain ⟨k, rfl⟩ : ∃ q, k = q + 1 := ⟨k - 1, by omega⟩
  unfold s_eaWh at h
  obtain ⟨u5_0, l5, h⟩ := bnd_some h
  replace h := Option.some.inj h
  obtain rfl := h
  refine pFun_by [.l .normal ⟨[(5, (V.row 11))], [(11, .row 2 (u5_0))]⟩] rfl (And.intro (lw_eaWh_b0 _ _ _ _ _ _ _ _ l5 k k (by omega) (by omega)) trivial) ?_
  kernel_rfl
theorem lw_impl_sum_int64_b0 : ∀ (n : Nat) (a0 : Int) (a1 : List V) (a2 : Int) (a3 : Int) (r : Int), l_impl_sum_int64_b0 n a0 a1 a2 a3 = some r → ∀ k m, n + 0 ≤ k → n ≤ m → LB E 64 0 k m ⟨[(3, (V.int .i64 (a0))), (6, (V.sl (a1))), (7, (V.int .i64 (a2))), (8, (V.int .i64 (a3)))], []⟩ = some (match r with | o0 => (.normal, ⟨[(3, (V.int .i64 (o0)))], []⟩)) := by
  intro n
  induction n with
  | zero => intro a0 a1 a2 a3 r h; cases h
  | succ n ih =>
    intro a0 a1 a2 a3 r h k m hk hm
    obtain ⟨m, rfl⟩ : ∃ q, m = q + 1 := ⟨m - 1, by omega⟩
    replace hk : n + 0 ≤ k := by omega
    unfold l_impl_sum_int64_b0 at h
    rcases cnd_some h with ⟨h1, h⟩ | ⟨h1, h⟩
    · obtain ⟨e2_0, g2, h⟩ := bnd_some h
      replace g2 := as_i64_some g2
      refine pNext_by [.b true, .v (V.int .i64 (e2_0))] (And.intro h1 (And.intro g2 trivial)) (ih _ _ _ _ _ h k m hk (by omega)) ?_
      kernel_rfl
    · cases h
      refine pLast_by [.b false] (And.intro h1 trivial) ?_
      kernel_rfl
theorem w_impl_sum_int64 {n : Nat} {a0 : List V} {z0 : Int} (h : s_impl_sum_int64 n a0 = some z0) : ∀ k, n + 1 ≤ k → sem E k 64 [(V.sl (a0))] = some (V.int .i64 (z0)) := by
  intro k hk
  obtain ⟨k, rfl⟩ : ∃ q, k = q + 1 := ⟨k - 1, by omega⟩
  unfold s_impl_sum_int64 at h
  obtain ⟨u3_0, l3, h⟩ := bnd_some h
  replace h := Option.some.inj h
  obtain rfl := h
  refine pFun_by [.l .normal ⟨[(3, (V.int .i64 (u3_0)))], []⟩] rfl (And.intro (lw_impl_sum_int64_b0 _ _ _ _ _ _ l3 k k (by omega) (by omega)) trivial) ?_
  kernel_rfl
theorem w_impl_Shape_whole {n : Nat} {a0 : Int} {a1 : List V} {z0 : Int} (h : s_impl_Shape_whole n a0 a1 = some z0) : ∀ k, n + 4 ≤ k → sem E k 37 [(V.parts [(V.int .u8 (a0)), (V.sl (a1))])] = some (V.int .i64 (z0)) := by
  intro k hk
  obtain ⟨k, rfl⟩ : ∃ q, k = q + 1 := ⟨k - 1, by omega⟩
  unfold s_impl_Shape_whole at h
  obtain ⟨y1_0, q1, h⟩ := bnd_some h
  obtain ⟨y2_0, q2, h⟩ := bnd_some h
  obtain ⟨c3, h⟩ := chk_some h
  obtain ⟨y4_0, q4, h⟩ := bnd_some h
  replace h := Option.some.inj h
  obtain rfl := h
  refine pFun_by [.v (V.fresh 3 (y1_0)), .v (V.fresh 2 (y2_0)), .v (V.int .i64 (y4_0))] rfl (And.intro (w_impl_upTo q1 k (by omega)) (And.intro (w_eaWh q2 k (by omega)) (And.intro c3 (And.intro (w_impl_sum_int64 q4 k (by omega)) (And.intro (Eq.refl true) trivial))))) ?_
  kernel_rfl
theorem w_impl_WholeIn {n : Nat} {a0 : Int} {a1 : List V} {z0 : Int} {z1 : Int} (h : s_impl_WholeIn n a0 a1 = some (z0, z1)) : ∀ k, n + 7 ≤ k → sem E k 11 [(V.parts [(V.int .u8 (a0)), (V.sl (a1))])] = some (V.tup [(V.int .i64 (z0)), (V.int .i64 (z1))]) := by
  intro k hk
  obtain ⟨k, rfl⟩ : ∃ q, k = q + 1 := ⟨k - 1, by omega⟩
  unfold s_impl_WholeIn at h
  obtain ⟨y1_0, q1, h⟩ := bnd_some h
  rcases cnd_some h with ⟨h2, h⟩ | ⟨h2, h⟩
  · obtain ⟨y3_0, q3, h⟩ := bnd_some h
    simp only [Option.some.injEq, Prod.mk.injEq] at h
    obtain ⟨rfl, rfl⟩ := h
    refine pFun_by [.v (V.bool (y1_0)), .b false, .v (V.int .i64 (y3_0))] rfl (And.intro (w_impl_ValidShape q1 k (by omega)) (And.intro (not_f h2) (And.intro (w_impl_Shape_whole q3 k (by omega)) trivial))) ?_
    kernel_rfl
  · simp only [Option.some.injEq, Prod.mk.injEq] at h
    obtain ⟨rfl, rfl⟩ := h
    refine pFun_by [.v (V.bool (y1_0)), .b true] rfl (And.intro (w_impl_ValidShape q1 k (by omega)) (And.intro (not_t h2) trivial)) ?_
    kernel_rfl
theorem w_impl_Shape_units_1 {n : Nat} {a0 : Int} {a1 : Int} {z0 : Int} (h : s_impl_Shape_units_1 n a0 a1 = some z0) : ∀ k, n + 1 ≤ k → sem E k 68 [(V.parts [(V.int .i16 (a0)), (V.int .i16 (a1))])] = some (V.int .i64 (z0)) := by
  intro k hk
  obtain ⟨k, rfl⟩ : ∃ q, k = q + 1 := ⟨k - 1, by omega⟩
  unfold s_impl_Shape_units_1 at h
  replace h := Option.some.inj h
  obtain rfl := h
  refine pFun_by [] rfl trivial ?_
  kernel_rfl
theorem lw_eaUn_b0 : ∀ (n : Nat) (a0 : List V) (a1 : Int) (a2 : Int) (a3 : List V) (r : List V), l_eaUn_b0 n a0 a1 a2 a3 = some r → ∀ k m, n + 1 ≤ k → n ≤ m → LB E 67 0 k m ⟨[(1, (V.clo 68 [])), (5, (V.row 11)), (8, (V.sl (a0))), (9, (V.int .i64 (a1))), (10, (V.int .i64 (a2)))], [(11, .row 2 (a3))]⟩ = some (match r with | o0 => (.normal, ⟨[(5, (V.row 11))], [(11, .row 2 (o0))]⟩)) := by
  intro n
  induction n with
  | zero => intro a0 a1 a2 a3 r h; cases h
  | succ n ih =>
    intro a0 a1 a2 a3 r h k m hk hm
    obtain ⟨m, rfl⟩ : ∃ q, m = q + 1 := ⟨m - 1, by omega⟩
    replace hk : n + 1 ≤ k := by omega
    unfold l_eaUn_b0 at h
    rcases cnd_some h with ⟨h1, h⟩ | ⟨h1, h⟩
    · obtain ⟨⟨e2_0, e2_1⟩, g2, h⟩ := bnd_some h
      replace g2 := as_Pi16_i16Q_some g2
      obtain ⟨y3_0, q3, h⟩ := bnd_some h
      obtain ⟨c4, h⟩ := chk_some h
      refine pNext_by [.b true, .v (V.parts [(V.int .i16 (e2_0)), (V.int .i16 (e2_1))]), .v (V.int .i64 (y3_0))] (And.intro h1 (And.intro g2 (And.intro (w_impl_Shape_units_1 q3 k (by omega)) (And.intro c4 (And.intro (Eq.refl true) trivial))))) (ih _ _ _ _ _ h k m hk (by omega)) ?_
      kernel_rfl
    · cases h
      refine pLast_by [.b false] (And.intro h1 trivial) ?_
      kernel_rfl
theorem w_eaUn {n : Nat} {a0 : List V} {z0 : List V} (h : s_eaUn n a0 = some z0) : ∀ k, n + 2 ≤ k → sem E k 67 [(V.sl (a0)), (V.clo 68 [])] = some (V.fresh 2 (z0)) := by
  intro k hk
  obtain ⟨k, rfl⟩ : ∃ q, k = q + 1 := ⟨k - 1, by omega⟩
  unfold s_eaUn at h
  obtain ⟨u5_0, l5, h⟩ := bnd_some h
  replace h := Option.some.inj h
  obtain rfl := h
  refine pFun_by [.l .normal ⟨[(5, (V.row 11))], [(11, .row 2 (u5_0))]⟩] rfl (And.intro (lw_eaUn_b0 _ _ _ _ _ _ l5 k k (by omega) (by omega)) trivial) ?_
  kernel_rfl
theorem w_impl_Shape_units {n : Nat} {a0 : Int} {a1 : List V} {z0 : Int} (h : s_impl_Shape_units n a0 a1 = some z0) : ∀ k, n + 3 ≤ k → sem E k 38 [(V.parts [(V.int .u8 (a0)), (V.sl (a1))])] = some (V.int .i64 (z0)) := by
  intro k hk
  obtain ⟨k, rfl⟩ : ∃ q, k = q + 1 := ⟨k - 1, by omega⟩
  unfold s_impl_Shape_units at h
  obtain ⟨y1_0, q1, h⟩ := bnd_some h
  obtain ⟨y2_0, q2, h⟩ := bnd_some h
  replace h := Option.some.inj h
  obtain rfl := h
  refine pFun_by [.v (V.fresh 2 (y1_0)), .v (V.int .i64 (y2_0))] rfl (And.intro (w_eaUn q1 k (by omega)) (And.intro (w_impl_sum_int64 q2 k (by omega)) (And.intro (Eq.refl true) trivial))) ?_
  kernel_rfl
theorem w_impl_UnitsOf {n : Nat} {a0 : Int} {a1 : List V} {z0 : Int} {z1 : Int} (h : s_impl_UnitsOf n a0 a1 = some (z0, z1)) : ∀ k, n + 7 ≤ k → sem E k 12 [(V.parts [(V.int .u8 (a0)), (V.sl (a1))])] = some (V.tup [(V.int .i64 (z0)), (V.int .i64 (z1))]) := by
  intro k hk
  obtain ⟨k, rfl⟩ : ∃ q, k = q + 1 := ⟨k - 1, by omega⟩
  unfold s_impl_UnitsOf at h
  obtain ⟨y1_0, q1, h⟩ := bnd_some h
  rcases cnd_some h with ⟨h2, h⟩ | ⟨h2, h⟩
  · obtain ⟨y3_0, q3, h⟩ := bnd_some h
    simp only [Option.some.injEq, Prod.mk.injEq] at h
    obtain ⟨rfl, rfl⟩ := h
    refine pFun_by [.v (V.bool (y1_0)), .b false, .v (V.int .i64 (y3_0))] rfl (And.intro (w_impl_ValidShape q1 k (by omega)) (And.intro (not_f h2) (And.intro (w_impl_Shape_units q3 k (by omega)) trivial))) ?_
    kernel_rfl
  · simp only [Option.some.injEq, Prod.mk.injEq] at h
    obtain ⟨rfl, rfl⟩ := h
    refine pFun_by [.v (V.bool (y1_0)), .b true] rfl (And.intro (w_impl_ValidShape q1 k (by omega)) (And.intro (not_t h2) trivial)) ?_
    kernel_rfl
theorem w_cmp_isNaN_int8 {n : Nat} {a0 : Int} {z0 : Bool} (h : s_cmp_isNaN_int8 n a0 = some z0) : ∀ k, n + 1 ≤ k → sem E k 102 [(V.int .i8 (a0))] = some (V.bool (z0)) := by
  intro k hk
  obtain ⟨k, rfl⟩ : ∃ q, k = q + 1 := ⟨k - 1, by omega⟩
  unfold s_cmp_isNaN_int8 at h
  replace h := Option.some.inj h
  obtain rfl := h
  refine pFun_by [] rfl trivial ?_
  kernel_rfl
theorem w_cmp_Compare_int8 {n : Nat} {a0 : Int} {a1 : Int} {z0 : Int} (h : s_cmp_Compare_int8 n a0 a1 = some z0) : ∀ k, n + 2 ≤ k → sem E k 100 [(V.int .i8 (a0)), (V.int .i8 (a1))] = some (V.int .i64 (z0)) := by
  intro k hk
  obtain ⟨k, rfl⟩ : ∃ q, k = q + 1 := ⟨k - 1, by omega⟩
  unfold s_cmp_Compare_int8 at h
  obtain ⟨y1_0, q1, h⟩ := bnd_some h
  obtain ⟨y2_0, q2, h⟩ := bnd_some h
  rcases cnd_some h with ⟨h3, h⟩ | ⟨h3, h⟩
  · rcases cnd_some h with ⟨h4, h⟩ | ⟨h4, h⟩
    · replace h := Option.some.inj h
      obtain rfl := h
      refine pFun_by [.v (V.bool (y1_0)), .v (V.bool (y2_0)), .b true, .b true] rfl (And.intro (w_cmp_isNaN_int8 q1 k (by omega)) (And.intro (w_cmp_isNaN_int8 q2 k (by omega)) (And.intro h3 (And.intro h4 trivial)))) ?_
      kernel_rfl
    · replace h := Option.some.inj h
      obtain rfl := h
      refine pFun_by [.v (V.bool (y1_0)), .v (V.bool (y2_0)), .b true, .b false] rfl (And.intro (w_cmp_isNaN_int8 q1 k (by omega)) (And.intro (w_cmp_isNaN_int8 q2 k (by omega)) (And.intro h3 (And.intro h4 trivial)))) ?_
      kernel_rfl
  · rcases cnd_some h with ⟨h5, h⟩ | ⟨h5, h⟩
    · replace h := Option.some.inj h
      obtain rfl := h
      refine pFun_by [.v (V.bool (y1_0)), .v (V.bool (y2_0)), .b false, .b true] rfl (And.intro (w_cmp_isNaN_int8 q1 k (by omega)) (And.intro (w_cmp_isNaN_int8 q2 k (by omega)) (And.intro h3 (And.intro h5 trivial)))) ?_
      kernel_rfl
    · rcases cnd_some h with ⟨h6, h⟩ | ⟨h6, h⟩
      · replace h := Option.some.inj h
        obtain rfl := h
        refine pFun_by [.v (V.bool (y1_0)), .v (V.bool (y2_0)), .b false, .b false, .b true] rfl (And.intro (w_cmp_isNaN_int8 q1 k (by omega)) (And.intro (w_cmp_isNaN_int8 q2 k (by omega)) (And.intro h3 (And.intro h5 (And.intro h6 trivial))))) ?_
        kernel_rfl
      · rcases cnd_some h with ⟨h7, h⟩ | ⟨h7, h⟩
        · replace h := Option.some.inj h
          obtain rfl := h
          refine pFun_by [.v (V.bool (y1_0)), .v (V.bool (y2_0)), .b false, .b false, .b false, .b true] rfl (And.intro (w_cmp_isNaN_int8 q1 k (by omega)) (And.intro (w_cmp_isNaN_int8 q2 k (by omega)) (And.intro h3 (And.intro h5 (And.intro h6 (And.intro h7 trivial)))))) ?_
          kernel_rfl
        · replace h := Option.some.inj h
          obtain rfl := h
          refine pFun_by [.v (V.bool (y1_0)), .v (V.bool (y2_0)), .b false, .b false, .b false, .b false] rfl (And.intro (w_cmp_isNaN_int8 q1 k (by omega)) (And.intro (w_cmp_isNaN_int8 q2 k (by omega)) (And.intro h3 (And.intro h5 (And.intro h6 (And.intro h7 trivial)))))) ?_
          kernel_rfl
theorem w_impl_byWidth_1 {n : Nat} {a0 : Int} {a1 : Int} {a2 : List V} {z0 : Int} (h : s_impl_byWidth_1 n a0 a1 a2 = some z0) : ∀ k, n + 3 ≤ k → sem E k 99 [(V.int .i64 (a0)), (V.int .i64 (a1)), (V.ref [(V.sl (a2))] 0 (0) 1)] = some (V.int .i64 (z0)) := by
  intro k hk
  obtain ⟨k, rfl⟩ : ∃ q, k = q + 1 := ⟨k - 1, by omega⟩
  unfold s_impl_byWidth_1 at h
  obtain ⟨⟨e1_0, e1_1⟩, g1, h⟩ := bnd_some h
  replace g1 := as_Pi8_i8Q_some g1
  obtain ⟨⟨e2_0, e2_1⟩, g2, h⟩ := bnd_some h
  replace g2 := as_Pi8_i8Q_some g2
  obtain ⟨y3_0, q3, h⟩ := bnd_some h
  replace h := Option.some.inj h
  obtain rfl := h
  refine pFun_by [.v (V.parts [(V.int .i8 (e1_0)), (V.int .i8 (e1_1))]), .v (V.parts [(V.int .i8 (e2_0)), (V.int .i8 (e2_1))]), .v (V.int .i64 (y3_0))] rfl (And.intro g1 (And.intro g2 (And.intro (w_cmp_Compare_int8 q3 k (by omega)) trivial))) ?_
  kernel_rfl
theorem lw_insC_b2 : ∀ (n : Nat) (a0 : Int) (a1 : Int) (a2 : List V) (a3 : Int) (a4 : Int) (a5 : List V) (r : Int × Int × List V × Int × List V), l_insC_b2 n a0 a1 a2 a3 a4 a5 = some r → ∀ k m, n + 3 ≤ k → n ≤ m → LB E 103 2 k m ⟨[(0, (V.row 1)), (1, (V.int .i64 (a0))), (2, (V.int .i64 (a1))), (3, (V.clo 99 [(V.ref [(V.sl (a2))] 0 (0) 1)])), (8, (V.int .i64 (a3))), (9, (V.int .i64 (a4)))], [(1, .row 3 (a5))]⟩ = some (match r with | (o0, o1, o2, o3, o4) => (.normal, ⟨[(0, (V.row 1)), (1, (V.int .i64 (o0))), (2, (V.int .i64 (o1))), (3, (V.clo 99 [(V.ref [(V.sl (o2))] 0 (0) 1)])), (8, (V.int .i64 (o3)))], [(1, .row 3 (o4))]⟩)) := by
  intro n
  induction n with
  | zero => intro a0 a1 a2 a3 a4 a5 r h; cases h
  | succ n ih =>
    intro a0 a1 a2 a3 a4 a5 r h k m hk hm
    obtain ⟨m, rfl⟩ : ∃ q, m = q + 1 := ⟨m - 1, by omega⟩
    replace hk : n + 3 ≤ k := by omega
    unfold l_insC_b2 at h
    rcases cnd_some h with ⟨h2, h⟩ | ⟨h2, h⟩
    · obtain ⟨c3, h⟩ := chk_some h
      obtain ⟨e4_0, g4, h⟩ := bnd_some h
      replace g4 := as_i64_some g4
      obtain ⟨c5, h⟩ := chk_some h
      obtain ⟨e6_0, g6, h⟩ := bnd_some h
      replace g6 := as_i64_some g6
      obtain ⟨y7_0, q7, h⟩ := bnd_some h
      rcases cnd_some h with ⟨h8, h⟩ | ⟨h8, h⟩
      · obtain ⟨e9_0, g9, h⟩ := bnd_some h
        replace g9 := as_i64_some g9
        obtain ⟨e10_0, g10, h⟩ := bnd_some h
        replace g10 := as_i64_some g10
        obtain ⟨e11_0, g11, h⟩ := bnd_some h
        replace g11 := as_i64_some g11
        obtain ⟨c12, h⟩ := chk_some h
        obtain ⟨e13_0, g13, h⟩ := bnd_some h
        replace g13 := as_i64_some g13
        refine pNext_by [.b true, .v (V.int .i64 (e4_0)), .v (V.int .i64 (e6_0)), .v (V.int .i64 (y7_0)), .b true, .v (V.int .i64 (e9_0)), .v (V.int .i64 (e10_0)), .v (V.int .i64 (e11_0)), .v (V.int .i64 (e13_0))] (And.intro h2 (And.intro c3 (And.intro g4 (And.intro c5 (And.intro g6 (And.intro (w_impl_byWidth_1 q7 k (by omega)) (And.intro h8 (And.intro c5 (And.intro g9 (And.intro c3 (And.intro g10 (And.intro c3 (And.intro g11 (And.intro c12 (And.intro g13 trivial))))))))))))))) (ih _ _ _ _ _ _ _ h k m hk (by omega)) ?_
        kernel_rfl
      · cases h
        refine pLast_by [.b true, .v (V.int .i64 (e4_0)), .v (V.int .i64 (e6_0)), .v (V.int .i64 (y7_0)), .b false] (And.intro h2 (And.intro c3 (And.intro g4 (And.intro c5 (And.intro g6 (And.intro (w_impl_byWidth_1 q7 k (by omega)) (And.intro h8 trivial))))))) ?_
        kernel_rfl
    · cases h
      refine pLast_by [.b false, .b false] (And.intro h2 (And.intro (Eq.refl false) trivial)) ?_
      kernel_rfl
theorem lw_insC_b0 : ∀ (n : Nat) (a0 : Int) (a1 : Int) (a2 : List V) (a3 : Int) (a4 : List V) (r : List V), l_insC_b0 n a0 a1 a2 a3 a4 = some r → ∀ k m, n + 3 ≤ k → n ≤ m → LB E 103 0 k m ⟨[(0, (V.row 1)), (1, (V.int .i64 (a0))), (2, (V.int .i64 (a1))), (3, (V.clo 99 [(V.ref [(V.sl (a2))] 0 (0) 1)])), (8, (V.int .i64 (a3)))], [(1, .row 3 (a4))]⟩ = some (match r with | o0 => (.normal, ⟨[(0, (V.row 1))], [(1, .row 3 (o0))]⟩)) := by
  intro n
  induction n with
  | zero => intro a0 a1 a2 a3 a4 r h; cases h
  | succ n ih =>
    intro a0 a1 a2 a3 a4 r h k m hk hm
    obtain ⟨m, rfl⟩ : ∃ q, m = q + 1 := ⟨m - 1, by omega⟩
    replace hk : n + 3 ≤ k := by omega
    unfold l_insC_b0 at h
    rcases cnd_some h with ⟨h1, h⟩ | ⟨h1, h⟩
    · obtain ⟨⟨u14_0, u14_1, u14_2, u14_3, u14_4⟩, l14, h⟩ := bnd_some h
      refine pNext_by [.b true, .l .normal ⟨[(0, (V.row 1)), (1, (V.int .i64 (u14_0))), (2, (V.int .i64 (u14_1))), (3, (V.clo 99 [(V.ref [(V.sl (u14_2))] 0 (0) 1)])), (8, (V.int .i64 (u14_3)))], [(1, .row 3 (u14_4))]⟩] (And.intro h1 (And.intro (lw_insC_b2 _ _ _ _ _ _ _ _ l14 k k (by omega) (by omega)) trivial)) (ih _ _ _ _ _ _ h k m hk (by omega)) ?_
      kernel_rfl
    · cases h
      refine pLast_by [.b false] (And.intro h1 trivial) ?_
      kernel_rfl
theorem w_insC {n : Nat} {a0 : List V} {a1 : Int} {a2 : Int} {a3 : List V} {z0 : List V} (h : s_insC n a0 a1 a2 a3 = some z0) : ∀ k, n + 4 ≤ k → sem E k (ruBase + 103) [(V.fresh 3 (a0)), (V.int .i64 (a1)), (V.int .i64 (a2)), (V.clo 99 [(V.ref [(V.sl (a3))] 0 (0) 1)])] = some (V.fresh 3 (z0)) := by
  intro k hk
  obtain ⟨k, rfl⟩ : ∃ q, k = q + 1 := ⟨k - 1, by omega⟩
  unfold s_insC at h
  obtain ⟨u16_0, l16, h⟩ := bnd_some h
  replace h := Option.some.inj h
  obtain rfl := h
  refine pRu_by [.l .normal ⟨[(0, (V.row 1))], [(1, .row 3 (u16_0))]⟩] rfl rfl rfl rfl rfl (And.intro (lw_insC_b0 _ _ _ _ _ _ _ l16 k k (by omega) (by omega)) trivial) ?_
  kernel_rfl
theorem lw_swpC_b0 : ∀ (n : Nat) (a0 : Int) (a1 : Int) (a2 : Int) (a3 : Int) (a4 : List V) (r : List V), l_swpC_b0 n a0 a1 a2 a3 a4 = some r → ∀ k m, n + 0 ≤ k → n ≤ m → LB E 106 0 k m ⟨[(0, (V.row 1)), (1, (V.int .i64 (a0))), (2, (V.int .i64 (a1))), (3, (V.int .i64 (a2))), (10, (V.int .i64 (a3)))], [(1, .row 3 (a4))]⟩ = some (match r with | o0 => (.normal, ⟨[(0, (V.row 1))], [(1, .row 3 (o0))]⟩)) := by
  intro n
  induction n with
  | zero => intro a0 a1 a2 a3 a4 r h; cases h
  | succ n ih =>
    intro a0 a1 a2 a3 a4 r h k m hk hm
    obtain ⟨m, rfl⟩ : ∃ q, m = q + 1 := ⟨m - 1, by omega⟩
    replace hk : n + 0 ≤ k := by omega
    unfold l_swpC_b0 at h
    rcases cnd_some h with ⟨h1, h⟩ | ⟨h1, h⟩
    · obtain ⟨c2, h⟩ := chk_some h
      obtain ⟨e3_0, g3, h⟩ := bnd_some h
      replace g3 := as_i64_some g3
      obtain ⟨c4, h⟩ := chk_some h
      obtain ⟨e5_0, g5, h⟩ := bnd_some h
      replace g5 := as_i64_some g5
      obtain ⟨e6_0, g6, h⟩ := bnd_some h
      replace g6 := as_i64_some g6
      obtain ⟨c7, h⟩ := chk_some h
      obtain ⟨e8_0, g8, h⟩ := bnd_some h
      replace g8 := as_i64_some g8
      refine pNext_by [.b true, .v (V.int .i64 (e3_0)), .v (V.int .i64 (e5_0)), .v (V.int .i64 (e6_0)), .v (V.int .i64 (e8_0))] (And.intro h1 (And.intro c2 (And.intro g3 (And.intro c4 (And.intro g5 (And.intro c4 (And.intro g6 (And.intro c7 (And.intro g8 trivial))))))))) (ih _ _ _ _ _ _ h k m hk (by omega)) ?_
      kernel_rfl
    · cases h
      refine pLast_by [.b false] (And.intro h1 trivial) ?_
      kernel_rfl
theorem w_swpC {n : Nat} {a0 : List V} {a1 : Int} {a2 : Int} {a3 : Int} {a4 : List V} {z0 : List V} (h : s_swpC n a0 a1 a2 a3 a4 = some z0) : ∀ k, n + 1 ≤ k → sem E k (ruBase + 106) [(V.fresh 3 (a0)), (V.int .i64 (a1)), (V.int .i64 (a2)), (V.int .i64 (a3)), (V.clo 99 [(V.ref [(V.sl (a4))] 0 (0) 1)])] = some (V.fresh 3 (z0)) := by
  intro k hk
  obtain ⟨k, rfl⟩ : ∃ q, k = q + 1 := ⟨k - 1, by omega⟩
  unfold s_swpC at h
  obtain ⟨u9_0, l9, h⟩ := bnd_some h
  replace h := Option.some.inj h
  obtain rfl := h
  refine pRu_by [.l .normal ⟨[(0, (V.row 1))], [(1, .row 3 (u9_0))]⟩] rfl rfl rfl rfl rfl (And.intro (lw_swpC_b0 _ _ _ _ _ _ _ l9 k k (by omega) (by omega)) trivial) ?_
  kernel_rfl
theorem lw_rotC_b0 : ∀ (n : Nat) (a0 : Int) (a1 : List V) (a2 : Int) (a3 : Int) (a4 : List V) (r : Int × List V × Int × List V), l_rotC_b0 n a0 a1 a2 a3 a4 = some r → ∀ k m, n + 1 ≤ k → n ≤ m → LB E 105 0 k m ⟨[(0, (V.row 1)), (2, (V.int .i64 (a0))), (4, (V.clo 99 [(V.ref [(V.sl (a1))] 0 (0) 1)])), (10, (V.int .i64 (a2))), (11, (V.int .i64 (a3)))], [(1, .row 3 (a4))]⟩ = some (match r with | (o0, o1, o2, o3) => (.normal, ⟨[(0, (V.row 1)), (2, (V.int .i64 (o0))), (4, (V.clo 99 [(V.ref [(V.sl (o1))] 0 (0) 1)])), (10, (V.int .i64 (o2)))], [(1, .row 3 (o3))]⟩)) := by
  intro n
  induction n with
  | zero => intro a0 a1 a2 a3 a4 r h; cases h
  | succ n ih =>
    intro a0 a1 a2 a3 a4 r h k m hk hm
    obtain ⟨m, rfl⟩ : ∃ q, m = q + 1 := ⟨m - 1, by omega⟩
    replace hk : n + 1 ≤ k := by omega
    unfold l_rotC_b0 at h
    rcases cnd_some h with ⟨h1, h⟩ | ⟨h1, h⟩
    · cases h
      refine pLast_by [.b false] (And.intro (not_f h1) trivial) ?_
      kernel_rfl
    · rcases cnd_some h with ⟨h2, h⟩ | ⟨h2, h⟩
      · obtain ⟨y3_0, q3, h⟩ := bnd_some h
        obtain ⟨c4, h⟩ := chk_some h
        refine pNext_by [.b true, .b true, .v (V.fresh 3 (y3_0))] (And.intro (not_t h1) (And.intro h2 (And.intro (w_swpC q3 k (by omega)) (And.intro c4 trivial)))) (ih _ _ _ _ _ _ h k m hk (by omega)) ?_
        kernel_rfl
      · obtain ⟨y5_0, q5, h⟩ := bnd_some h
        obtain ⟨c6, h⟩ := chk_some h
        refine pNext_by [.b true, .b false, .v (V.fresh 3 (y5_0))] (And.intro (not_t h1) (And.intro h2 (And.intro (w_swpC q5 k (by omega)) (And.intro c6 trivial)))) (ih _ _ _ _ _ _ h k m hk (by omega)) ?_
        kernel_rfl
theorem w_rotC {n : Nat} {a0 : List V} {a1 : Int} {a2 : Int} {a3 : Int} {a4 : List V} {z0 : List V} (h : s_rotC n a0 a1 a2 a3 a4 = some z0) : ∀ k, n + 2 ≤ k → sem E k (ruBase + 105) [(V.fresh 3 (a0)), (V.int .i64 (a1)), (V.int .i64 (a2)), (V.int .i64 (a3)), (V.clo 99 [(V.ref [(V.sl (a4))] 0 (0) 1)])] = some (V.fresh 3 (z0)) := by
  intro k hk
  obtain ⟨k, rfl⟩ : ∃ q, k = q + 1 := ⟨k - 1, by omega⟩
  unfold s_rotC at h
  obtain ⟨⟨u7_0, u7_1, u7_2, u7_3⟩, l7, h⟩ := bnd_some h
  obtain ⟨y9_0, q9, h⟩ := bnd_some h
  obtain ⟨c10, h⟩ := chk_some h
  replace h := Option.some.inj h
  obtain rfl := h
  refine pRu_by [.l .normal ⟨[(0, (V.row 1)), (2, (V.int .i64 (u7_0))), (4, (V.clo 99 [(V.ref [(V.sl (u7_1))] 0 (0) 1)])), (10, (V.int .i64 (u7_2)))], [(1, .row 3 (u7_3))]⟩, .v (V.fresh 3 (y9_0))] rfl rfl rfl rfl rfl (And.intro (lw_rotC_b0 _ _ _ _ _ _ _ l7 k k (by omega) (by omega)) (And.intro (w_swpC q9 k (by omega)) (And.intro c10 trivial))) ?_
  kernel_rfl
end Go.Proofs.Ytbejaalnnnogoaa
