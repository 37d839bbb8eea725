/- The program goes as the shallow texts tell: printed by gen.py. -/
import Derived.Test.YtdhcfdiggcgmhaaEnvA
import Derived.Test.YtdhcfdiggcgmhaaSh1
import Derived.Test.YtdhcfdiggcgmhaaSh2
import Derived.Test.YtdhcfdiggcgmhaaSh6
import Derived.Test.YtdhcfdiggcgmhaaSh11
namespace Go.Proofs.Ytdhcfdiggcgmhaa
open Go
set_option linter.unusedVariables false
set_option linter.unusedSimpArgs false
set_option maxRecDepth 100000
set_option maxHeartbeats 4000000
theorem w_laws_a2Long {n : Nat} {a0 : List V} {a1 : List V} {z0 : Bool} (h : s_laws_a2Long n a0 a1 = some z0) : ∀ k, n + 1 ≤ k → sem E k 64 [(V.sl (a0)), (V.sl (a1))] = some (V.bool (z0)) := by
  intro k hk
  obtain ⟨k, rfl⟩ : ∃ q, k = q + 1 := ⟨k - 1, by omega⟩
  unfold s_laws_a2Long at h
  rcases cnd_some h with ⟨h1, h⟩ | ⟨h1, h⟩
  · replace h := Option.some.inj h
    obtain rfl := h
    refine pFun_by [.b true] rfl (And.intro h1 trivial) ?_
    kernel_rfl
  · replace h := Option.some.inj h
    obtain rfl := h
    refine pFun_by [.b false] rfl (And.intro h1 trivial) ?_
    kernel_rfl
theorem w_spec_l00From {n : Nat} {a0 : List V} {z0 : List V} {z1 : Int} {z2 : Int} (h : s_spec_l00From n a0 = some (z0, z1, z2)) : ∀ k, n + 1 ≤ k → sem E k (bxBase + 156) [(V.sl (a0))] = some (V.ref [(V.sl (z0)), (V.int .i64 (z1)), (V.int .u64 (z2))] 0 (0) 3) := by
  intro k hk
  obtain ⟨k, rfl⟩ : ∃ q, k = q + 1 := ⟨k - 1, by omega⟩
  unfold s_spec_l00From at h
  simp only [Option.some.injEq, Prod.mk.injEq] at h
  obtain ⟨rfl, rfl, rfl⟩ := h
  refine pBx_by [] rfl rfl rfl rfl trivial ?_
  kernel_rfl
theorem w_pspec_l00Src_next {n : Nat} {a0 : List V} {a1 : Int} {a2 : Int} {z0 : Int} {z1 : List V} {z2 : Int} {z3 : Int} (h : s_pspec_l00Src_next n a0 a1 a2 = some (z0, z1, z2, z3)) : ∀ k, n + 1 ≤ k → sem E k (puBase + 228) [(V.ref [(V.sl (a0)), (V.int .i64 (a1)), (V.int .u64 (a2))] 0 (0) 3)] = some (V.tup [(V.int .i64 (z0)), (V.parts [(V.sl (z1)), (V.int .i64 (z2)), (V.int .u64 (z3))])]) := by
  intro k hk
  obtain ⟨k, rfl⟩ : ∃ q, k = q + 1 := ⟨k - 1, by omega⟩
  unfold s_pspec_l00Src_next at h
  rcases cnd_some h with ⟨h1, h⟩ | ⟨h1, h⟩
  · obtain ⟨e2_0, g2, h⟩ := bnd_some h
    replace g2 := as_u8_some g2
    rcases cnd_some h with ⟨h3, h⟩ | ⟨h3, h⟩
    · simp only [Option.some.injEq, Prod.mk.injEq] at h
      obtain ⟨rfl, rfl, rfl, rfl⟩ := h
      refine pPu_by [.b true, .v (V.int .u8 (e2_0)), .b true] rfl rfl (And.intro h1 (And.intro g2 (And.intro h3 trivial))) ?_
      kernel_rfl
    · obtain ⟨c4, h⟩ := chk_some h
      simp only [Option.some.injEq, Prod.mk.injEq] at h
      obtain ⟨rfl, rfl, rfl, rfl⟩ := h
      refine pPu_by [.b true, .v (V.int .u8 (e2_0)), .b false] rfl rfl (And.intro h1 (And.intro g2 (And.intro h3 (And.intro c4 trivial)))) ?_
      kernel_rfl
  · rcases cnd_some h with ⟨h5, h⟩ | ⟨h5, h⟩
    · simp only [Option.some.injEq, Prod.mk.injEq] at h
      obtain ⟨rfl, rfl, rfl, rfl⟩ := h
      refine pPu_by [.b false, .b true] rfl rfl (And.intro h1 (And.intro h5 trivial)) ?_
      kernel_rfl
    · obtain ⟨c6, h⟩ := chk_some h
      simp only [Option.some.injEq, Prod.mk.injEq] at h
      obtain ⟨rfl, rfl, rfl, rfl⟩ := h
      refine pPu_by [.b false, .b false] rfl rfl (And.intro h1 (And.intro h5 (And.intro c6 trivial))) ?_
      kernel_rfl
theorem w_pspec_l00Src_pick {n : Nat} {a0 : List V} {a1 : Int} {a2 : Int} {a3 : Int} {z0 : Int} {z1 : List V} {z2 : Int} {z3 : Int} (h : s_pspec_l00Src_pick n a0 a1 a2 a3 = some (z0, z1, z2, z3)) : ∀ k, n + 2 ≤ k → sem E k (puBase + 176) [(V.ref [(V.sl (a0)), (V.int .i64 (a1)), (V.int .u64 (a2))] 0 (0) 3), (V.int .i64 (a3))] = some (V.tup [(V.int .i64 (z0)), (V.parts [(V.sl (z1)), (V.int .i64 (z2)), (V.int .u64 (z3))])]) := by
  intro k hk
  obtain ⟨k, rfl⟩ : ∃ q, k = q + 1 := ⟨k - 1, by omega⟩
  unfold s_pspec_l00Src_pick at h
  rcases cnd_some h with ⟨h1, h⟩ | ⟨h1, h⟩
  · simp only [Option.some.injEq, Prod.mk.injEq] at h
    obtain ⟨rfl, rfl, rfl, rfl⟩ := h
    refine pPu_by [.b true] rfl rfl (And.intro h1 trivial) ?_
    kernel_rfl
  · obtain ⟨⟨y2_0, y2_1, y2_2, y2_3⟩, q2, h⟩ := bnd_some h
    rcases cnd_some h with ⟨h3, h⟩ | ⟨h3, h⟩
    · obtain ⟨⟨y4_0, y4_1, y4_2, y4_3⟩, q4, h⟩ := bnd_some h
      obtain ⟨c5, h⟩ := chk_some h
      simp only [Option.some.injEq, Prod.mk.injEq] at h
      obtain ⟨rfl, rfl, rfl, rfl⟩ := h
      refine pPu_by [.b false, .v (V.tup [(V.int .i64 (y2_0)), (V.parts [(V.sl (y2_1)), (V.int .i64 (y2_2)), (V.int .u64 (y2_3))])]), .b true, .v (V.tup [(V.int .i64 (y4_0)), (V.parts [(V.sl (y4_1)), (V.int .i64 (y4_2)), (V.int .u64 (y4_3))])])] rfl rfl (And.intro h1 (And.intro (w_pspec_l00Src_next q2 k (by omega)) (And.intro h3 (And.intro (w_pspec_l00Src_next q4 k (by omega)) (And.intro c5 trivial))))) ?_
      kernel_rfl
    · obtain ⟨c6, h⟩ := chk_some h
      simp only [Option.some.injEq, Prod.mk.injEq] at h
      obtain ⟨rfl, rfl, rfl, rfl⟩ := h
      refine pPu_by [.b false, .v (V.tup [(V.int .i64 (y2_0)), (V.parts [(V.sl (y2_1)), (V.int .i64 (y2_2)), (V.int .u64 (y2_3))])]), .b false] rfl rfl (And.intro h1 (And.intro (w_pspec_l00Src_next q2 k (by omega)) (And.intro h3 (And.intro c6 trivial)))) ?_
      kernel_rfl
theorem lw_spec_l01All_b2 : ∀ (n : Nat) (a0 : Int) (a1 : Int) (a2 : Int) (a3 : Nat → Int) (a4 : Int) (a5 : Int) (a6 : List V) (r : Int × Int × Int × (Nat → Int) × Int × List V), l_spec_l01All_b2 n a0 a1 a2 a3 a4 a5 a6 = some r → ∀ k m, n + 0 ≤ k → n ≤ m → LB E 157 2 k m ⟨[(0, (V.ref [(V.int .i8 (a0)), (V.int .i8 (a1)), (V.int .u8 (a2)), (V.ints .u8 64 (a3))] 0 (0) 67)), (3, (V.row 7)), (4, (V.int .i8 (a4))), (5, (V.int .i8 (a5)))], [(7, .row 79 (a6))]⟩ = some (match r with | (o0, o1, o2, o3, o4, o5) => (.normal, ⟨[(0, (V.ref [(V.int .i8 (o0)), (V.int .i8 (o1)), (V.int .u8 (o2)), (V.ints .u8 64 (o3))] 0 (0) 67)), (3, (V.row 7)), (4, (V.int .i8 (o4)))], [(7, .row 79 (o5))]⟩)) := by
  intro n
  induction n with
  | zero => intro a0 a1 a2 a3 a4 a5 a6 r h; cases h
  | succ n ih =>
    intro a0 a1 a2 a3 a4 a5 a6 r h k m hk hm
    obtain ⟨m, rfl⟩ : ∃ q, m = q + 1 := ⟨m - 1, by omega⟩
    replace hk : n + 0 ≤ k := by omega
    unfold l_spec_l01All_b2 at h
    rcases cnd_some h with ⟨h2, h⟩ | ⟨h2, h⟩
    · obtain ⟨c3, h⟩ := chk_some h
      refine pNext_by [.b true] (And.intro h2 (And.intro c3 (And.intro (Eq.refl true) trivial))) (ih _ _ _ _ _ _ _ _ h k m hk (by omega)) ?_
      kernel_rfl
    · cases h
      refine pLast_by [.b false] (And.intro h2 trivial) ?_
      kernel_rfl
theorem lw_spec_l01All_b0 : ∀ (n : Nat) (a0 : Int) (a1 : Int) (a2 : Int) (a3 : Nat → Int) (a4 : Int) (a5 : List V) (r : List V), l_spec_l01All_b0 n a0 a1 a2 a3 a4 a5 = some r → ∀ k m, n + 0 ≤ k → n ≤ m → LB E 157 0 k m ⟨[(0, (V.ref [(V.int .i8 (a0)), (V.int .i8 (a1)), (V.int .u8 (a2)), (V.ints .u8 64 (a3))] 0 (0) 67)), (3, (V.row 7)), (4, (V.int .i8 (a4)))], [(7, .row 79 (a5))]⟩ = some (match r with | o0 => (.normal, ⟨[(3, (V.row 7))], [(7, .row 79 (o0))]⟩)) := by
  intro n
  induction n with
  | zero => intro a0 a1 a2 a3 a4 a5 r h; cases h
  | succ n ih =>
    intro a0 a1 a2 a3 a4 a5 r h k m hk hm
    obtain ⟨m, rfl⟩ : ∃ q, m = q + 1 := ⟨m - 1, by omega⟩
    replace hk : n + 0 ≤ k := by omega
    unfold l_spec_l01All_b0 at h
    rcases cnd_some h with ⟨h1, h⟩ | ⟨h1, h⟩
    · obtain ⟨⟨u4_0, u4_1, u4_2, u4_3, u4_4, u4_5⟩, l4, h⟩ := bnd_some h
      refine pNext_by [.b true, .l .normal ⟨[(0, (V.ref [(V.int .i8 (u4_0)), (V.int .i8 (u4_1)), (V.int .u8 (u4_2)), (V.ints .u8 64 (u4_3))] 0 (0) 67)), (3, (V.row 7)), (4, (V.int .i8 (u4_4)))], [(7, .row 79 (u4_5))]⟩] (And.intro h1 (And.intro (lw_spec_l01All_b2 _ _ _ _ _ _ _ _ _ l4 k k (by omega) (by omega)) trivial)) (ih _ _ _ _ _ _ _ h k m hk (by omega)) ?_
      kernel_rfl
    · cases h
      refine pLast_by [.b false] (And.intro h1 trivial) ?_
      kernel_rfl
theorem w_spec_l01All {n : Nat} {a0 : Int} {a1 : Int} {a2 : Int} {a3 : Nat → Int} {z0 : List V} (h : s_spec_l01All n a0 a1 a2 a3 = some z0) : ∀ k, n + 1 ≤ k → sem E k 157 [(V.ref [(V.int .i8 (a0)), (V.int .i8 (a1)), (V.int .u8 (a2)), (V.ints .u8 64 (a3))] 0 (0) 67)] = some (V.fresh 79 (z0)) := by
  intro k hk
  obtain ⟨k, rfl⟩ : ∃ q, k = q + 1 := ⟨k - 1, by omega⟩
  unfold s_spec_l01All at h
  obtain ⟨u6_0, l6, h⟩ := bnd_some h
  replace h := Option.some.inj h
  obtain rfl := h
  refine pFun_by [.l .normal ⟨[(3, (V.row 7))], [(7, .row 79 (u6_0))]⟩] rfl (And.intro (lw_spec_l01All_b0 _ _ _ _ _ _ _ _ l6 k k (by omega) (by omega)) trivial) ?_
  kernel_rfl
theorem w_pspec_l00Src_one {n : Nat} {a0 : List V} {a1 : Int} {a2 : Int} {a3 : Int} {z0 : Bool} {z1 : List V} {z2 : Int} {z3 : Int} (h : s_pspec_l00Src_one n a0 a1 a2 a3 = some (z0, z1, z2, z3)) : ∀ k, n + 3 ≤ k → sem E k (puBase + 225) [(V.ref [(V.sl (a0)), (V.int .i64 (a1)), (V.int .u64 (a2))] 0 (0) 3), (V.int .i64 (a3))] = some (V.tup [(V.bool (z0)), (V.parts [(V.sl (z1)), (V.int .i64 (z2)), (V.int .u64 (z3))])]) := by
  intro k hk
  obtain ⟨k, rfl⟩ : ∃ q, k = q + 1 := ⟨k - 1, by omega⟩
  unfold s_pspec_l00Src_one at h
  obtain ⟨⟨y1_0, y1_1, y1_2, y1_3⟩, q1, h⟩ := bnd_some h
  simp only [Option.some.injEq, Prod.mk.injEq] at h
  obtain ⟨rfl, rfl, rfl, rfl⟩ := h
  refine pPu_by [.v (V.tup [(V.int .i64 (y1_0)), (V.parts [(V.sl (y1_1)), (V.int .i64 (y1_2)), (V.int .u64 (y1_3))])])] rfl rfl (And.intro (w_pspec_l00Src_pick q1 k (by omega)) trivial) ?_
  kernel_rfl
theorem lw_spec_l01Drawn_b0 : ∀ (n : Nat) (a0 : Int) (a1 : Int) (a2 : List V) (a3 : Int) (a4 : Int) (a5 : Int) (a6 : Int) (a7 : Int) (a8 : Nat → Int) (a9 : Int) (a10 : Int) (a11 : Int) (a12 : Nat → Int) (a13 : List V) (r : List V × Int × Int × Int × Int × Int × (Nat → Int) × Int × Int × Int × (Nat → Int)), l_spec_l01Drawn_b0 n a0 a1 a2 a3 a4 a5 a6 a7 a8 a9 a10 a11 a12 a13 = some r → ∀ k m, n + 3 ≤ k → n ≤ m → LB E 155 0 k m ⟨[(0, (V.ptr 1 0 (0) 3)), (2, (V.ptr 5 0 (0) 67)), (3, (V.ptr 7 0 (0) 67)), (4, (V.int .i64 (a0))), (5, (V.row 11)), (6, (V.int .i64 (a1)))], [(1, .box [(V.sl (a2)), (V.int .i64 (a3)), (V.int .u64 (a4))]), (5, .box [(V.int .i8 (a5)), (V.int .i8 (a6)), (V.int .u8 (a7)), (V.ints .u8 64 (a8))]), (7, .box [(V.int .i8 (a9)), (V.int .i8 (a10)), (V.int .u8 (a11)), (V.ints .u8 64 (a12))]), (11, .row 79 (a13))]⟩ = some (match r with | (o0, o1, o2, o3, o4, o5, o6, o7, o8, o9, o10) => (.normal, ⟨[(0, (V.ptr 1 0 (0) 3)), (2, (V.ptr 5 0 (0) 67)), (3, (V.ptr 7 0 (0) 67))], [(1, .box [(V.sl (o0)), (V.int .i64 (o1)), (V.int .u64 (o2))]), (5, .box [(V.int .i8 (o3)), (V.int .i8 (o4)), (V.int .u8 (o5)), (V.ints .u8 64 (o6))]), (7, .box [(V.int .i8 (o7)), (V.int .i8 (o8)), (V.int .u8 (o9)), (V.ints .u8 64 (o10))])]⟩)) := by
  intro n
  induction n with
  | zero => intro a0 a1 a2 a3 a4 a5 a6 a7 a8 a9 a10 a11 a12 a13 r h; cases h
  | succ n ih =>
    intro a0 a1 a2 a3 a4 a5 a6 a7 a8 a9 a10 a11 a12 a13 r h k m hk hm
    obtain ⟨m, rfl⟩ : ∃ q, m = q + 1 := ⟨m - 1, by omega⟩
    replace hk : n + 3 ≤ k := by omega
    unfold l_spec_l01Drawn_b0 at h
    rcases cnd_some h with ⟨h7, h⟩ | ⟨h7, h⟩
    · obtain ⟨⟨y8_0, y8_1, y8_2, y8_3⟩, q8, h⟩ := bnd_some h
      rcases cnd_some h with ⟨h9, h⟩ | ⟨h9, h⟩
      · obtain ⟨c10, h⟩ := chk_some h
        obtain ⟨⟨e11_0, e11_1⟩, g11, h⟩ := bnd_some h
        replace g11 := as_Pi8_i8Q_some g11
        obtain ⟨⟨e12_0, e12_1⟩, g12, h⟩ := bnd_some h
        replace g12 := as_Pi8_i8Q_some g12
        obtain ⟨⟨e13_0, e13_1⟩, g13, h⟩ := bnd_some h
        replace g13 := as_Pi8_i8Q_some g13
        obtain ⟨⟨e14_0, e14_1⟩, g14, h⟩ := bnd_some h
        replace g14 := as_Pi8_i8Q_some g14
        obtain ⟨⟨y15_0, y15_1, y15_2, y15_3⟩, q15, h⟩ := bnd_some h
        obtain ⟨c16, h⟩ := chk_some h
        obtain ⟨c17, h⟩ := chk_some h
        refine pNext_by [.b true, .v (V.tup [(V.bool (y8_0)), (V.parts [(V.sl (y8_1)), (V.int .i64 (y8_2)), (V.int .u64 (y8_3))])]), .b true, .v (V.parts [(V.int .i8 (e11_0)), (V.int .i8 (e11_1))]), .v (V.parts [(V.int .i8 (e12_0)), (V.int .i8 (e12_1))]), .v (V.parts [(V.int .i8 (e13_0)), (V.int .i8 (e13_1))]), .v (V.parts [(V.int .i8 (e14_0)), (V.int .i8 (e14_1))]), .v (V.tup [(V.int .i64 (y15_0)), (V.parts [(V.sl (y15_1)), (V.int .i64 (y15_2)), (V.int .u64 (y15_3))])])] (And.intro h7 (And.intro (w_pspec_l00Src_one q8 k (by omega)) (And.intro h9 (And.intro c10 (And.intro g11 (And.intro g12 (And.intro c10 (And.intro g13 (And.intro g14 (And.intro (w_pspec_l00Src_pick q15 k (by omega)) (And.intro c16 (And.intro c17 trivial)))))))))))) (ih _ _ _ _ _ _ _ _ _ _ _ _ _ _ _ h k m hk (by omega)) ?_
        kernel_rfl
      · refine pNext_by [.b true, .v (V.tup [(V.bool (y8_0)), (V.parts [(V.sl (y8_1)), (V.int .i64 (y8_2)), (V.int .u64 (y8_3))])]), .b false] (And.intro h7 (And.intro (w_pspec_l00Src_one q8 k (by omega)) (And.intro h9 trivial))) (ih _ _ _ _ _ _ _ _ _ _ _ _ _ _ _ h k m hk (by omega)) ?_
        kernel_rfl
    · cases h
      refine pLast_by [.b false] (And.intro h7 trivial) ?_
      kernel_rfl
theorem w_spec_l01Drawn {n : Nat} {a0 : List V} {a1 : Int} {a2 : Int} {z0 : Int} {z1 : Int} {z2 : Int} {z3 : Nat → Int} {z4 : List V} {z5 : Int} {z6 : Int} (h : s_spec_l01Drawn n a0 a1 a2 = some (z0, z1, z2, z3, z4, z5, z6)) : ∀ k, n + 4 ≤ k → sem E k (puBase + 155) [(V.ref [(V.sl (a0)), (V.int .i64 (a1)), (V.int .u64 (a2))] 0 (0) 3)] = some (V.tup [(V.parts [(V.int .i8 (z0)), (V.int .i8 (z1)), (V.int .u8 (z2)), (V.ints .u8 64 (z3))]), (V.parts [(V.sl (z4)), (V.int .i64 (z5)), (V.int .u64 (z6))])]) := by
  intro k hk
  obtain ⟨k, rfl⟩ : ∃ q, k = q + 1 := ⟨k - 1, by omega⟩
  unfold s_spec_l01Drawn at h
  obtain ⟨⟨y1_0, y1_1, y1_2, y1_3⟩, q1, h⟩ := bnd_some h
  obtain ⟨⟨y2_0, y2_1, y2_2, y2_3⟩, q2, h⟩ := bnd_some h
  obtain ⟨⟨y3_0, y3_1, y3_2, y3_3⟩, q3, h⟩ := bnd_some h
  obtain ⟨⟨y4_0, y4_1, y4_2, y4_3⟩, q4, h⟩ := bnd_some h
  obtain ⟨y5_0, q5, h⟩ := bnd_some h
  obtain ⟨c6, h⟩ := chk_some h
  obtain ⟨⟨u18_0, u18_1, u18_2, u18_3, u18_4, u18_5, u18_6, u18_7, u18_8, u18_9, u18_10⟩, l18, h⟩ := bnd_some h
  simp only [Option.some.injEq, Prod.mk.injEq] at h
  obtain ⟨rfl, rfl, rfl, rfl, rfl, rfl, rfl⟩ := h
  refine pPu_by [.v (V.tup [(V.int .i64 (y1_0)), (V.parts [(V.sl (y1_1)), (V.int .i64 (y1_2)), (V.int .u64 (y1_3))])]), .v (V.tup [(V.int .i64 (y2_0)), (V.parts [(V.sl (y2_1)), (V.int .i64 (y2_2)), (V.int .u64 (y2_3))])]), .v (V.tup [(V.int .i64 (y3_0)), (V.parts [(V.sl (y3_1)), (V.int .i64 (y3_2)), (V.int .u64 (y3_3))])]), .v (V.tup [(V.int .i64 (y4_0)), (V.parts [(V.sl (y4_1)), (V.int .i64 (y4_2)), (V.int .u64 (y4_3))])]), .v (V.fresh 79 (y5_0)), .l .normal ⟨[(0, (V.ptr 1 0 (0) 3)), (2, (V.ptr 5 0 (0) 67)), (3, (V.ptr 7 0 (0) 67))], [(1, .box [(V.sl (u18_0)), (V.int .i64 (u18_1)), (V.int .u64 (u18_2))]), (5, .box [(V.int .i8 (u18_3)), (V.int .i8 (u18_4)), (V.int .u8 (u18_5)), (V.ints .u8 64 (u18_6))]), (7, .box [(V.int .i8 (u18_7)), (V.int .i8 (u18_8)), (V.int .u8 (u18_9)), (V.ints .u8 64 (u18_10))])]⟩] rfl rfl (And.intro (w_pspec_l00Src_pick q1 k (by omega)) (And.intro (w_pspec_l00Src_pick q2 k (by omega)) (And.intro (w_pspec_l00Src_pick q3 k (by omega)) (And.intro (w_pspec_l00Src_pick q4 k (by omega)) (And.intro (w_spec_l01All q5 k (by omega)) (And.intro c6 (And.intro (lw_spec_l01Drawn_b0 _ _ _ _ _ _ _ _ _ _ _ _ _ _ _ _ l18 k k (by omega) (by omega)) trivial))))))) ?_
  kernel_rfl
theorem w_spec_A2Roof {n : Nat} {a0 : List V} {z0 : Int} {z1 : Int} {z2 : Int} {z3 : Nat → Int} (h : s_spec_A2Roof n a0 = some (z0, z1, z2, z3)) : ∀ k, n + 5 ≤ k → sem E k 65 [(V.sl (a0))] = some (V.parts [(V.int .i8 (z0)), (V.int .i8 (z1)), (V.int .u8 (z2)), (V.ints .u8 64 (z3))]) := by
  intro k hk
  obtain ⟨k, rfl⟩ : ∃ q, k = q + 1 := ⟨k - 1, by omega⟩
  unfold s_spec_A2Roof at h
  obtain ⟨⟨y1_0, y1_1, y1_2⟩, q1, h⟩ := bnd_some h
  obtain ⟨⟨y2_0, y2_1, y2_2, y2_3, y2_4, y2_5, y2_6⟩, q2, h⟩ := bnd_some h
  simp only [Option.some.injEq, Prod.mk.injEq] at h
  obtain ⟨rfl, rfl, rfl, rfl⟩ := h
  refine pFun_by [.v (V.ref [(V.sl (y1_0)), (V.int .i64 (y1_1)), (V.int .u64 (y1_2))] 0 (0) 3), .v (V.tup [(V.parts [(V.int .i8 (y2_0)), (V.int .i8 (y2_1)), (V.int .u8 (y2_2)), (V.ints .u8 64 (y2_3))]), (V.parts [(V.sl (y2_4)), (V.int .i64 (y2_5)), (V.int .u64 (y2_6))])])] rfl (And.intro (w_spec_l00From q1 k (by omega)) (And.intro (w_spec_l01Drawn q2 k (by omega)) trivial)) ?_
  kernel_rfl
theorem w_spec_A2Places {n : Nat} {a0 : Int} {a1 : Int} {a2 : Int} {a3 : Nat → Int} {z0 : List V} (h : s_spec_A2Places n a0 a1 a2 a3 = some z0) : ∀ k, n + 2 ≤ k → sem E k 66 [(V.parts [(V.int .i8 (a0)), (V.int .i8 (a1)), (V.int .u8 (a2)), (V.ints .u8 64 (a3))])] = some (V.fresh 79 (z0)) := by
  intro k hk
  obtain ⟨k, rfl⟩ : ∃ q, k = q + 1 := ⟨k - 1, by omega⟩
  unfold s_spec_A2Places at h
  obtain ⟨y1_0, q1, h⟩ := bnd_some h
  obtain ⟨c2, h⟩ := chk_some h
  replace h := Option.some.inj h
  obtain rfl := h
  refine pFun_by [.v (V.fresh 79 (y1_0))] rfl (And.intro (w_spec_l01All q1 k (by omega)) (And.intro c2 trivial)) ?_
  kernel_rfl
theorem w_impl_within_int8 {n : Nat} {a0 : Int} {a1 : Int} {a2 : Int} {z0 : Bool} (h : s_impl_within_int8 n a0 a1 a2 = some z0) : ∀ k, n + 1 ≤ k → sem E k 187 [(V.int .i8 (a0)), (V.int .i8 (a1)), (V.int .i8 (a2))] = some (V.bool (z0)) := by
  intro k hk
  obtain ⟨k, rfl⟩ : ∃ q, k = q + 1 := ⟨k - 1, by omega⟩
  unfold s_impl_within_int8 at h
  rcases cnd_some h with ⟨h1, h⟩ | ⟨h1, h⟩
  · replace h := Option.some.inj h
    obtain rfl := h
    refine pFun_by [.b true] rfl (And.intro h1 trivial) ?_
    kernel_rfl
  · replace h := Option.some.inj h
    obtain rfl := h
    refine pFun_by [.b false] rfl (And.intro h1 trivial) ?_
    kernel_rfl
theorem w_impl_Roof_has {n : Nat} {a0 : Int} {a1 : Int} {a2 : Int} {a3 : Nat → Int} {a4 : Int} {a5 : Int} {z0 : Bool} (h : s_impl_Roof_has n a0 a1 a2 a3 a4 a5 = some z0) : ∀ k, n + 2 ≤ k → sem E k 132 [(V.parts [(V.int .i8 (a0)), (V.int .i8 (a1)), (V.int .u8 (a2)), (V.ints .u8 64 (a3))]), (V.parts [(V.int .i8 (a4)), (V.int .i8 (a5))])] = some (V.bool (z0)) := by
  intro k hk
  obtain ⟨k, rfl⟩ : ∃ q, k = q + 1 := ⟨k - 1, by omega⟩
  unfold s_impl_Roof_has at h
  obtain ⟨y1_0, q1, h⟩ := bnd_some h
  rcases cnd_some h with ⟨h2, h⟩ | ⟨h2, h⟩
  · obtain ⟨y3_0, q3, h⟩ := bnd_some h
    replace h := Option.some.inj h
    obtain rfl := h
    refine pFun_by [.v (V.bool (y1_0)), .b true, .v (V.bool (y3_0))] rfl (And.intro (w_impl_within_int8 q1 k (by omega)) (And.intro h2 (And.intro (w_impl_within_int8 q3 k (by omega)) trivial))) ?_
    kernel_rfl
  · replace h := Option.some.inj h
    obtain rfl := h
    refine pFun_by [.v (V.bool (y1_0)), .b false] rfl (And.intro (w_impl_within_int8 q1 k (by omega)) (And.intro h2 trivial)) ?_
    kernel_rfl
theorem lw_impl_ValidRoof_b2 : ∀ (n : Nat) (a0 : Int) (a1 : Nat → Int) (a2 : Int) (a3 : Nat → Int) (a4 : Int) (a5 : Int) (a6 : Int) (a7 : Int) (a8 : Nat → Int) (r : Sum ((Nat → Int) × Int × Int × Int × Int × (Nat → Int)) (Bool)), l_impl_ValidRoof_b2 n a0 a1 a2 a3 a4 a5 a6 a7 a8 = some r → ∀ k m, n + 0 ≤ k → n ≤ m → LB E 180 2 k m ⟨[(1, (V.ptr 3 0 (0) 67)), (3, (V.int .i64 (a0))), (23, (V.ints .u8 64 (a1))), (24, (V.int .i64 (a2))), (28, (V.ints .u8 8 (a3))), (29, (V.int .i64 (a4)))], [(3, .box [(V.int .i8 (a5)), (V.int .i8 (a6)), (V.int .u8 (a7)), (V.ints .u8 64 (a8))])]⟩ = some (match r with | .inl (o0, o1, o2, o3, o4, o5) => (.normal, ⟨[(1, (V.ptr 3 0 (0) 67)), (23, (V.ints .u8 64 (o0))), (24, (V.int .i64 (o1)))], [(3, .box [(V.int .i8 (o2)), (V.int .i8 (o3)), (V.int .u8 (o4)), (V.ints .u8 64 (o5))])]⟩) | .inr o0 => (.ret, ⟨[(2, (V.bool (o0)))], []⟩)) := by
  intro n
  induction n with
  | zero => intro a0 a1 a2 a3 a4 a5 a6 a7 a8 r h; cases h
  | succ n ih =>
    intro a0 a1 a2 a3 a4 a5 a6 a7 a8 r h k m hk hm
    obtain ⟨m, rfl⟩ : ∃ q, m = q + 1 := ⟨m - 1, by omega⟩
    replace hk : n + 0 ≤ k := by omega
    unfold l_impl_ValidRoof_b2 at h
    rcases cnd_some h with ⟨h8, h⟩ | ⟨h8, h⟩
    · obtain ⟨c9, h⟩ := chk_some h
      rcases cnd_some h with ⟨h10, h⟩ | ⟨h10, h⟩
      · cases h
        refine pLast_by [.b true, .b true, .b true] (And.intro h8 (And.intro c9 (And.intro h10 (And.intro (Eq.refl true) trivial)))) ?_
        kernel_rfl
      · rcases cnd_some h with ⟨h11, h⟩ | ⟨h11, h⟩
        · refine pNext_by [.b true, .b false, .b false, .b false] (And.intro h8 (And.intro c9 (And.intro h10 (And.intro (not_f h11) (And.intro (Eq.refl false) trivial))))) (ih _ _ _ _ _ _ _ _ _ _ h k m hk (by omega)) ?_
          kernel_rfl
        · rcases cnd_some h with ⟨h12, h⟩ | ⟨h12, h⟩
          · cases h
            refine pLast_by [.b true, .b false, .b true, .b true, .b true] (And.intro h8 (And.intro c9 (And.intro h10 (And.intro (not_t h11) (And.intro h12 (And.intro (Eq.refl true) trivial)))))) ?_
            kernel_rfl
          · rcases cnd_some h with ⟨h13, h⟩ | ⟨h13, h⟩
            · cases h
              refine pLast_by [.b true, .b false, .b true, .b false, .b true] (And.intro h8 (And.intro c9 (And.intro h10 (And.intro (not_t h11) (And.intro h12 (And.intro h13 trivial)))))) ?_
              kernel_rfl
            · refine pNext_by [.b true, .b false, .b true, .b false, .b false] (And.intro h8 (And.intro c9 (And.intro h10 (And.intro (not_t h11) (And.intro h12 (And.intro h13 trivial)))))) (ih _ _ _ _ _ _ _ _ _ _ h k m hk (by omega)) ?_
              kernel_rfl
    · cases h
      refine pLast_by [.b false] (And.intro h8 trivial) ?_
      kernel_rfl
theorem lw_impl_ValidRoof_b0 : ∀ (n : Nat) (a0 : Nat → Int) (a1 : Int) (a2 : Int) (a3 : Int) (a4 : Int) (a5 : Nat → Int) (r : Sum (Unit) (Bool)), l_impl_ValidRoof_b0 n a0 a1 a2 a3 a4 a5 = some r → ∀ k m, n + 0 ≤ k → n ≤ m → LB E 180 0 k m ⟨[(1, (V.ptr 3 0 (0) 67)), (23, (V.ints .u8 64 (a0))), (24, (V.int .i64 (a1)))], [(3, .box [(V.int .i8 (a2)), (V.int .i8 (a3)), (V.int .u8 (a4)), (V.ints .u8 64 (a5))])]⟩ = some (match r with | .inl _ => (.normal, ⟨[], []⟩) | .inr o0 => (.ret, ⟨[(2, (V.bool (o0)))], []⟩)) := by
  intro n
  induction n with
  | zero => intro a0 a1 a2 a3 a4 a5 r h; cases h
  | succ n ih =>
    intro a0 a1 a2 a3 a4 a5 r h k m hk hm
    obtain ⟨m, rfl⟩ : ∃ q, m = q + 1 := ⟨m - 1, by omega⟩
    replace hk : n + 0 ≤ k := by omega
    unfold l_impl_ValidRoof_b0 at h
    rcases cnd_some h with ⟨h6, h⟩ | ⟨h6, h⟩
    · obtain ⟨c7, h⟩ := chk_some h
      obtain ⟨w, l14, h⟩ := bnd_some h
      rcases w with ⟨u14_0, u14_1, u14_2, u14_3, u14_4, u14_5⟩ | u15_0
      · refine pNext_by [.b true, .l .normal ⟨[(1, (V.ptr 3 0 (0) 67)), (23, (V.ints .u8 64 (u14_0))), (24, (V.int .i64 (u14_1)))], [(3, .box [(V.int .i8 (u14_2)), (V.int .i8 (u14_3)), (V.int .u8 (u14_4)), (V.ints .u8 64 (u14_5))])]⟩] (And.intro h6 (And.intro c7 (And.intro (lw_impl_ValidRoof_b2 _ _ _ _ _ _ _ _ _ _ _ l14 k k (by omega) (by omega)) trivial))) (ih _ _ _ _ _ _ _ h k m hk (by omega)) ?_
        kernel_rfl
      · cases h
        refine pLast_by [.b true, .l .ret ⟨[(2, (V.bool (u15_0)))], []⟩] (And.intro h6 (And.intro c7 (And.intro (lw_impl_ValidRoof_b2 _ _ _ _ _ _ _ _ _ _ _ l14 k k (by omega) (by omega)) trivial))) ?_
        kernel_rfl
    · cases h
      refine pLast_by [.b false] (And.intro h6 trivial) ?_
      kernel_rfl
theorem w_impl_ValidRoof {n : Nat} {a0 : Int} {a1 : Int} {a2 : Int} {a3 : Nat → Int} {z0 : Bool} (h : s_impl_ValidRoof n a0 a1 a2 a3 = some z0) : ∀ k, n + 2 ≤ k → sem E k 180 [(V.parts [(V.int .i8 (a0)), (V.int .i8 (a1)), (V.int .u8 (a2)), (V.ints .u8 64 (a3))])] = some (V.bool (z0)) := by
  intro k hk
  obtain ⟨k, rfl⟩ : ∃ q, k = q + 1 := ⟨k - 1, by omega⟩
  unfold s_impl_ValidRoof at h
  obtain ⟨y1_0, q1, h⟩ := bnd_some h
  rcases cnd_some h with ⟨h2, h⟩ | ⟨h2, h⟩
  · obtain ⟨y3_0, q3, h⟩ := bnd_some h
    rcases cnd_some h with ⟨h4, h⟩ | ⟨h4, h⟩
    · rcases cnd_some h with ⟨h5, h⟩ | ⟨h5, h⟩
      · replace h := Option.some.inj h
        obtain rfl := h
        refine pFun_by [.v (V.bool (y1_0)), .b false, .v (V.bool (y3_0)), .b false, .b true] rfl (And.intro (w_impl_within_int8 q1 k (by omega)) (And.intro (not_f h2) (And.intro (w_impl_within_int8 q3 k (by omega)) (And.intro (not_f h4) (And.intro h5 trivial))))) ?_
        kernel_rfl
      · obtain ⟨w, l17, h⟩ := bnd_some h
        rcases w with ⟨⟩ | u18_0
        · replace h := Option.some.inj h
          obtain rfl := h
          refine pFun_by [.v (V.bool (y1_0)), .b false, .v (V.bool (y3_0)), .b false, .b false, .l .normal ⟨[], []⟩] rfl (And.intro (w_impl_within_int8 q1 k (by omega)) (And.intro (not_f h2) (And.intro (w_impl_within_int8 q3 k (by omega)) (And.intro (not_f h4) (And.intro h5 (And.intro (lw_impl_ValidRoof_b0 _ _ _ _ _ _ _ _ l17 k k (by omega) (by omega)) trivial)))))) ?_
          kernel_rfl
        · replace h := Option.some.inj h
          obtain rfl := h
          refine pFun_by [.v (V.bool (y1_0)), .b false, .v (V.bool (y3_0)), .b false, .b false, .l .ret ⟨[(2, (V.bool (u18_0)))], []⟩] rfl (And.intro (w_impl_within_int8 q1 k (by omega)) (And.intro (not_f h2) (And.intro (w_impl_within_int8 q3 k (by omega)) (And.intro (not_f h4) (And.intro h5 (And.intro (lw_impl_ValidRoof_b0 _ _ _ _ _ _ _ _ l17 k k (by omega) (by omega)) trivial)))))) ?_
          kernel_rfl
    · replace h := Option.some.inj h
      obtain rfl := h
      refine pFun_by [.v (V.bool (y1_0)), .b false, .v (V.bool (y3_0)), .b true, .b true] rfl (And.intro (w_impl_within_int8 q1 k (by omega)) (And.intro (not_f h2) (And.intro (w_impl_within_int8 q3 k (by omega)) (And.intro (not_t h4) (And.intro (Eq.refl true) trivial))))) ?_
      kernel_rfl
  · replace h := Option.some.inj h
    obtain rfl := h
    refine pFun_by [.v (V.bool (y1_0)), .b true, .b true, .b true] rfl (And.intro (w_impl_within_int8 q1 k (by omega)) (And.intro (not_t h2) (And.intro (Eq.refl true) (And.intro (Eq.refl true) trivial)))) ?_
    kernel_rfl
theorem w_impl_roofCode {n : Nat} {a0 : Int} {a1 : Int} {a2 : Int} {a3 : Nat → Int} {a4 : Bool} {z0 : Int} (h : s_impl_roofCode n a0 a1 a2 a3 a4 = some z0) : ∀ k, n + 3 ≤ k → sem E k 158 [(V.parts [(V.int .i8 (a0)), (V.int .i8 (a1)), (V.int .u8 (a2)), (V.ints .u8 64 (a3))]), (V.bool (a4))] = some (V.int .i64 (z0)) := by
  intro k hk
  obtain ⟨k, rfl⟩ : ∃ q, k = q + 1 := ⟨k - 1, by omega⟩
  unfold s_impl_roofCode at h
  obtain ⟨y1_0, q1, h⟩ := bnd_some h
  rcases cnd_some h with ⟨h2, h⟩ | ⟨h2, h⟩
  · rcases cnd_some h with ⟨h3, h⟩ | ⟨h3, h⟩
    · replace h := Option.some.inj h
      obtain rfl := h
      refine pFun_by [.v (V.bool (y1_0)), .b false, .b false] rfl (And.intro (w_impl_ValidRoof q1 k (by omega)) (And.intro (not_f h2) (And.intro (not_f h3) trivial))) ?_
      kernel_rfl
    · replace h := Option.some.inj h
      obtain rfl := h
      refine pFun_by [.v (V.bool (y1_0)), .b false, .b true] rfl (And.intro (w_impl_ValidRoof q1 k (by omega)) (And.intro (not_f h2) (And.intro (not_t h3) trivial))) ?_
      kernel_rfl
  · replace h := Option.some.inj h
    obtain rfl := h
    refine pFun_by [.v (V.bool (y1_0)), .b true] rfl (And.intro (w_impl_ValidRoof q1 k (by omega)) (And.intro (not_t h2) trivial)) ?_
    kernel_rfl
theorem w_impl_within_int64 {n : Nat} {a0 : Int} {a1 : Int} {a2 : Int} {z0 : Bool} (h : s_impl_within_int64 n a0 a1 a2 = some z0) : ∀ k, n + 1 ≤ k → sem E k 91 [(V.int .i64 (a0)), (V.int .i64 (a1)), (V.int .i64 (a2))] = some (V.bool (z0)) := by
  intro k hk
  obtain ⟨k, rfl⟩ : ∃ q, k = q + 1 := ⟨k - 1, by omega⟩
  unfold s_impl_within_int64 at h
  rcases cnd_some h with ⟨h1, h⟩ | ⟨h1, h⟩
  · replace h := Option.some.inj h
    obtain rfl := h
    refine pFun_by [.b true] rfl (And.intro h1 trivial) ?_
    kernel_rfl
  · replace h := Option.some.inj h
    obtain rfl := h
    refine pFun_by [.b false] rfl (And.intro h1 trivial) ?_
    kernel_rfl
theorem w_impl_Roof_isCourse {n : Nat} {a0 : Int} {a1 : Int} {a2 : Int} {a3 : Nat → Int} {a4 : Int} {z0 : Bool} (h : s_impl_Roof_isCourse n a0 a1 a2 a3 a4 = some z0) : ∀ k, n + 2 ≤ k → sem E k 167 [(V.parts [(V.int .i8 (a0)), (V.int .i8 (a1)), (V.int .u8 (a2)), (V.ints .u8 64 (a3))]), (V.int .i64 (a4))] = some (V.bool (z0)) := by
  intro k hk
  obtain ⟨k, rfl⟩ : ∃ q, k = q + 1 := ⟨k - 1, by omega⟩
  unfold s_impl_Roof_isCourse at h
  obtain ⟨y1_0, q1, h⟩ := bnd_some h
  replace h := Option.some.inj h
  obtain rfl := h
  refine pFun_by [.v (V.bool (y1_0))] rfl (And.intro (w_impl_within_int64 q1 k (by omega)) trivial) ?_
  kernel_rfl
theorem w_impl_Roof_shift {n : Nat} {a0 : Int} {a1 : Int} {a2 : Int} {a3 : Nat → Int} {a4 : Int} {z0 : Int} (h : s_impl_Roof_shift n a0 a1 a2 a3 a4 = some z0) : ∀ k, n + 1 ≤ k → sem E k 171 [(V.parts [(V.int .i8 (a0)), (V.int .i8 (a1)), (V.int .u8 (a2)), (V.ints .u8 64 (a3))]), (V.int .i64 (a4))] = some (V.int .i64 (z0)) := by
  intro k hk
  obtain ⟨k, rfl⟩ : ∃ q, k = q + 1 := ⟨k - 1, by omega⟩
  unfold s_impl_Roof_shift at h
  replace h := Option.some.inj h
  obtain rfl := h
  refine pFun_by [] rfl (And.intro (Eq.refl true) trivial) ?_
  kernel_rfl
theorem w_impl_Roof_cellsOf {n : Nat} {a0 : Int} {a1 : Int} {a2 : Int} {a3 : Nat → Int} {a4 : Int} {a5 : Int} {z0 : List V} (h : s_impl_Roof_cellsOf n a0 a1 a2 a3 a4 a5 = some z0) : ∀ k, n + 2 ≤ k → sem E k 163 [(V.parts [(V.int .i8 (a0)), (V.int .i8 (a1)), (V.int .u8 (a2)), (V.ints .u8 64 (a3))]), (V.parts [(V.int .i8 (a4)), (V.int .i8 (a5))])] = some (V.fresh 3 (z0)) := by
  intro k hk
  obtain ⟨k, rfl⟩ : ∃ q, k = q + 1 := ⟨k - 1, by omega⟩
  unfold s_impl_Roof_cellsOf at h
  obtain ⟨y1_0, q1, h⟩ := bnd_some h
  replace h := Option.some.inj h
  obtain rfl := h
  refine pFun_by [.v (V.int .i64 (y1_0))] rfl (And.intro (w_impl_Roof_shift q1 k (by omega)) trivial) ?_
  kernel_rfl
theorem w_impl_within_int {n : Nat} {a0 : Int} {a1 : Int} {a2 : Int} {z0 : Bool} (h : s_impl_within_int n a0 a1 a2 = some z0) : ∀ k, n + 1 ≤ k → sem E k 193 [(V.int .i64 (a0)), (V.int .i64 (a1)), (V.int .i64 (a2))] = some (V.bool (z0)) := by
  intro k hk
  obtain ⟨k, rfl⟩ : ∃ q, k = q + 1 := ⟨k - 1, by omega⟩
  unfold s_impl_within_int at h
  rcases cnd_some h with ⟨h1, h⟩ | ⟨h1, h⟩
  · replace h := Option.some.inj h
    obtain rfl := h
    refine pFun_by [.b true] rfl (And.intro h1 trivial) ?_
    kernel_rfl
  · replace h := Option.some.inj h
    obtain rfl := h
    refine pFun_by [.b false] rfl (And.intro h1 trivial) ?_
    kernel_rfl
theorem w_impl_Roof_tileAt {n : Nat} {a0 : Int} {a1 : Int} {a2 : Int} {a3 : Nat → Int} {a4 : Int} {a5 : Int} {z0 : Int} (h : s_impl_Roof_tileAt n a0 a1 a2 a3 a4 a5 = some z0) : ∀ k, n + 2 ≤ k → sem E k 169 [(V.parts [(V.int .i8 (a0)), (V.int .i8 (a1)), (V.int .u8 (a2)), (V.ints .u8 64 (a3))]), (V.int .i64 (a4)), (V.int .i64 (a5))] = some (V.int .i64 (z0)) := by
  intro k hk
  obtain ⟨k, rfl⟩ : ∃ q, k = q + 1 := ⟨k - 1, by omega⟩
  unfold s_impl_Roof_tileAt at h
  obtain ⟨y1_0, q1, h⟩ := bnd_some h
  obtain ⟨y2_0, q2, h⟩ := bnd_some h
  rcases cnd_some h with ⟨h3, h⟩ | ⟨h3, h⟩
  · replace h := Option.some.inj h
    obtain rfl := h
    refine pFun_by [.v (V.int .i64 (y1_0)), .v (V.bool (y2_0)), .b false] rfl (And.intro (w_impl_Roof_shift q1 k (by omega)) (And.intro (w_impl_within_int q2 k (by omega)) (And.intro (not_f h3) (And.intro (Eq.refl true) trivial)))) ?_
    kernel_rfl
  · replace h := Option.some.inj h
    obtain rfl := h
    refine pFun_by [.v (V.int .i64 (y1_0)), .v (V.bool (y2_0)), .b true] rfl (And.intro (w_impl_Roof_shift q1 k (by omega)) (And.intro (w_impl_within_int q2 k (by omega)) (And.intro (not_t h3) trivial))) ?_
    kernel_rfl
theorem lw_slices_Index_Simpl_Place_impl_Place_b0 : ∀ (n : Nat) (a0 : List V) (a1 : Int) (a2 : Int) (a3 : Int) (a4 : Int) (r : Sum (Unit) (Int)), l_slices_Index_Simpl_Place_impl_Place_b0 n a0 a1 a2 a3 a4 = some r → ∀ k m, n + 0 ≤ k → n ≤ m → LB E 252 0 k m ⟨[(0, (V.sl (a0))), (3, (V.ptr 7 0 (0) 2)), (7, (V.int .i64 (a1))), (8, (V.int .i64 (a2)))], [(7, .box [(V.int .i8 (a3)), (V.int .i8 (a4))])]⟩ = some (match r with | .inl _ => (.normal, ⟨[], []⟩) | .inr o0 => (.ret, ⟨[(4, (V.int .i64 (o0)))], []⟩)) := by
  intro n
  induction n with
  | zero => intro a0 a1 a2 a3 a4 r h; cases h
  | succ n ih =>
    intro a0 a1 a2 a3 a4 r h k m hk hm
    obtain ⟨m, rfl⟩ : ∃ q, m = q + 1 := ⟨m - 1, by omega⟩
    replace hk : n + 0 ≤ k := by omega
    unfold l_slices_Index_Simpl_Place_impl_Place_b0 at h
    rcases cnd_some h with ⟨h1, h⟩ | ⟨h1, h⟩
    · obtain ⟨⟨e2_0, e2_1⟩, g2, h⟩ := bnd_some h
      replace g2 := as_Pi8_i8Q_some g2
      rcases cnd_some h with ⟨h3, h⟩ | ⟨h3, h⟩
      · cases h
        refine pLast_by [.b true, .v (V.parts [(V.int .i8 (e2_0)), (V.int .i8 (e2_1))]), .b true] (And.intro h1 (And.intro g2 (And.intro h3 trivial))) ?_
        kernel_rfl
      · refine pNext_by [.b true, .v (V.parts [(V.int .i8 (e2_0)), (V.int .i8 (e2_1))]), .b false] (And.intro h1 (And.intro g2 (And.intro h3 trivial))) (ih _ _ _ _ _ _ h k m hk (by omega)) ?_
        kernel_rfl
    · cases h
      refine pLast_by [.b false] (And.intro h1 trivial) ?_
      kernel_rfl
theorem w_slices_Index_Simpl_Place_impl_Place {n : Nat} {a0 : List V} {a1 : Int} {a2 : Int} {z0 : Int} (h : s_slices_Index_Simpl_Place_impl_Place n a0 a1 a2 = some z0) : ∀ k, n + 1 ≤ k → sem E k 252 [(V.sl (a0)), (V.parts [(V.int .i8 (a1)), (V.int .i8 (a2))])] = some (V.int .i64 (z0)) := by
  intro k hk
  obtain ⟨k, rfl⟩ : ∃ q, k = q + 1 := ⟨k - 1, by omega⟩
  unfold s_slices_Index_Simpl_Place_impl_Place at h
  obtain ⟨w, l4, h⟩ := bnd_some h
  rcases w with ⟨⟩ | u5_0
  · replace h := Option.some.inj h
    obtain rfl := h
    refine pFun_by [.l .normal ⟨[], []⟩] rfl (And.intro (lw_slices_Index_Simpl_Place_impl_Place_b0 _ _ _ _ _ _ _ l4 k k (by omega) (by omega)) trivial) ?_
    kernel_rfl
  · replace h := Option.some.inj h
    obtain rfl := h
    refine pFun_by [.l .ret ⟨[(4, (V.int .i64 (u5_0)))], []⟩] rfl (And.intro (lw_slices_Index_Simpl_Place_impl_Place_b0 _ _ _ _ _ _ _ l4 k k (by omega) (by omega)) trivial) ?_
    kernel_rfl
theorem w_slices_Contains_Simpl_Place_impl_Place {n : Nat} {a0 : List V} {a1 : Int} {a2 : Int} {z0 : Bool} (h : s_slices_Contains_Simpl_Place_impl_Place n a0 a1 a2 = some z0) : ∀ k, n + 2 ≤ k → sem E k 226 [(V.sl (a0)), (V.parts [(V.int .i8 (a1)), (V.int .i8 (a2))])] = some (V.bool (z0)) := by
  intro k hk
  obtain ⟨k, rfl⟩ : ∃ q, k = q + 1 := ⟨k - 1, by omega⟩
  unfold s_slices_Contains_Simpl_Place_impl_Place at h
  obtain ⟨y1_0, q1, h⟩ := bnd_some h
  replace h := Option.some.inj h
  obtain rfl := h
  refine pFun_by [.v (V.int .i64 (y1_0))] rfl (And.intro (w_slices_Index_Simpl_Place_impl_Place q1 k (by omega)) trivial) ?_
  kernel_rfl
theorem lw_impl_Roof_lapped_b0 : ∀ (n : Nat) (a0 : Int) (a1 : Int) (a2 : Int) (a3 : Int) (a4 : Int) (a5 : Int) (a6 : Nat → Int) (a7 : List V) (a8 : List V) (r : List V), l_impl_Roof_lapped_b0 n a0 a1 a2 a3 a4 a5 a6 a7 a8 = some r → ∀ k m, n + 2 ≤ k → n ≤ m → LB E 159 0 k m ⟨[(2, (V.int .i64 (a0))), (3, (V.ptr 7 0 (0) 67)), (7, (V.row 15)), (18, (V.row 37)), (19, (V.int .i64 (a1))), (20, (V.int .i64 (a2)))], [(7, .box [(V.int .i8 (a3)), (V.int .i8 (a4)), (V.int .u8 (a5)), (V.ints .u8 64 (a6))]), (15, .row 79 (a7)), (37, .row 3 (a8))]⟩ = some (match r with | o0 => (.normal, ⟨[(7, (V.row 15))], [(15, .row 79 (o0))]⟩)) := by
  intro n
  induction n with
  | zero => intro a0 a1 a2 a3 a4 a5 a6 a7 a8 r h; cases h
  | succ n ih =>
    intro a0 a1 a2 a3 a4 a5 a6 a7 a8 r h k m hk hm
    obtain ⟨m, rfl⟩ : ∃ q, m = q + 1 := ⟨m - 1, by omega⟩
    replace hk : n + 2 ≤ k := by omega
    unfold l_impl_Roof_lapped_b0 at h
    rcases cnd_some h with ⟨h4, h⟩ | ⟨h4, h⟩
    · obtain ⟨c5, h⟩ := chk_some h
      obtain ⟨e6_0, g6, h⟩ := bnd_some h
      replace g6 := as_i64_some g6
      obtain ⟨y7_0, q7, h⟩ := bnd_some h
      rcases cnd_some h with ⟨h8, h⟩ | ⟨h8, h⟩
      · refine pNext_by [.b true, .v (V.int .i64 (e6_0)), .v (V.int .i64 (y7_0)), .b false, .b false] (And.intro h4 (And.intro c5 (And.intro g6 (And.intro (w_impl_Roof_tileAt q7 k (by omega)) (And.intro (not_f h8) (And.intro (Eq.refl false) trivial)))))) (ih _ _ _ _ _ _ _ _ _ _ h k m hk (by omega)) ?_
        kernel_rfl
      · obtain ⟨y9_0, q9, h⟩ := bnd_some h
        rcases cnd_some h with ⟨h10, h⟩ | ⟨h10, h⟩
        · refine pNext_by [.b true, .v (V.int .i64 (e6_0)), .v (V.int .i64 (y7_0)), .b true, .v (V.bool (y9_0)), .b false] (And.intro h4 (And.intro c5 (And.intro g6 (And.intro (w_impl_Roof_tileAt q7 k (by omega)) (And.intro (not_t h8) (And.intro (w_slices_Contains_Simpl_Place_impl_Place q9 k (by omega)) (And.intro (Eq.refl true) (And.intro (not_f h10) trivial)))))))) (ih _ _ _ _ _ _ _ _ _ _ h k m hk (by omega)) ?_
          kernel_rfl
        · obtain ⟨c11, h⟩ := chk_some h
          refine pNext_by [.b true, .v (V.int .i64 (e6_0)), .v (V.int .i64 (y7_0)), .b true, .v (V.bool (y9_0)), .b true] (And.intro h4 (And.intro c5 (And.intro g6 (And.intro (w_impl_Roof_tileAt q7 k (by omega)) (And.intro (not_t h8) (And.intro (w_slices_Contains_Simpl_Place_impl_Place q9 k (by omega)) (And.intro (Eq.refl true) (And.intro (not_t h10) (And.intro c11 (And.intro (Eq.refl true) trivial)))))))))) (ih _ _ _ _ _ _ _ _ _ _ h k m hk (by omega)) ?_
          kernel_rfl
    · cases h
      refine pLast_by [.b false] (And.intro h4 trivial) ?_
      kernel_rfl
theorem w_impl_Roof_lapped {n : Nat} {a0 : Int} {a1 : Int} {a2 : Int} {a3 : Nat → Int} {a4 : Int} {a5 : Int} {a6 : Int} {z0 : List V} (h : s_impl_Roof_lapped n a0 a1 a2 a3 a4 a5 a6 = some z0) : ∀ k, n + 3 ≤ k → sem E k 159 [(V.parts [(V.int .i8 (a0)), (V.int .i8 (a1)), (V.int .u8 (a2)), (V.ints .u8 64 (a3))]), (V.parts [(V.int .i8 (a4)), (V.int .i8 (a5))]), (V.int .i64 (a6))] = some (V.fresh 79 (z0)) := by
  intro k hk
  obtain ⟨k, rfl⟩ : ∃ q, k = q + 1 := ⟨k - 1, by omega⟩
  unfold s_impl_Roof_lapped at h
  obtain ⟨y1_0, q1, h⟩ := bnd_some h
  rcases cnd_some h with ⟨h2, h⟩ | ⟨h2, h⟩
  · obtain ⟨y3_0, q3, h⟩ := bnd_some h
    obtain ⟨u12_0, l12, h⟩ := bnd_some h
    replace h := Option.some.inj h
    obtain rfl := h
    refine pFun_by [.v (V.bool (y1_0)), .b false, .v (V.fresh 3 (y3_0)), .l .normal ⟨[(7, (V.row 15))], [(15, .row 79 (u12_0))]⟩] rfl (And.intro (w_impl_Roof_isCourse q1 k (by omega)) (And.intro (not_f h2) (And.intro (w_impl_Roof_cellsOf q3 k (by omega)) (And.intro (lw_impl_Roof_lapped_b0 _ _ _ _ _ _ _ _ _ _ _ l12 k k (by omega) (by omega)) trivial)))) ?_
    kernel_rfl
  · replace h := Option.some.inj h
    obtain rfl := h
    refine pFun_by [.v (V.bool (y1_0)), .b true] rfl (And.intro (w_impl_Roof_isCourse q1 k (by omega)) (And.intro (not_t h2) trivial)) ?_
    kernel_rfl
theorem w_impl_AboveOf {n : Nat} {a0 : Int} {a1 : Int} {a2 : Int} {a3 : Nat → Int} {a4 : Int} {a5 : Int} {z0 : List V} {z1 : Int} (h : s_impl_AboveOf n a0 a1 a2 a3 a4 a5 = some (z0, z1)) : ∀ k, n + 4 ≤ k → sem E k 67 [(V.parts [(V.int .i8 (a0)), (V.int .i8 (a1)), (V.int .u8 (a2)), (V.ints .u8 64 (a3))]), (V.parts [(V.int .i8 (a4)), (V.int .i8 (a5))])] = some (V.tup [(V.fresh 79 (z0)), (V.int .i64 (z1))]) := by
  intro k hk
  obtain ⟨k, rfl⟩ : ∃ q, k = q + 1 := ⟨k - 1, by omega⟩
  unfold s_impl_AboveOf at h
  obtain ⟨y1_0, q1, h⟩ := bnd_some h
  obtain ⟨y2_0, q2, h⟩ := bnd_some h
  rcases cnd_some h with ⟨h3, h⟩ | ⟨h3, h⟩
  · obtain ⟨y4_0, q4, h⟩ := bnd_some h
    simp only [Option.some.injEq, Prod.mk.injEq] at h
    obtain ⟨rfl, rfl⟩ := h
    refine pFun_by [.v (V.bool (y1_0)), .v (V.int .i64 (y2_0)), .b false, .v (V.fresh 79 (y4_0))] rfl (And.intro (w_impl_Roof_has q1 k (by omega)) (And.intro (w_impl_roofCode q2 k (by omega)) (And.intro (not_f h3) (And.intro (w_impl_Roof_lapped q4 k (by omega)) trivial)))) ?_
    kernel_rfl
  · simp only [Option.some.injEq, Prod.mk.injEq] at h
    obtain ⟨rfl, rfl⟩ := h
    refine pFun_by [.v (V.bool (y1_0)), .v (V.int .i64 (y2_0)), .b true] rfl (And.intro (w_impl_Roof_has q1 k (by omega)) (And.intro (w_impl_roofCode q2 k (by omega)) (And.intro (not_t h3) trivial))) ?_
    kernel_rfl
theorem w_spec_l00In {n : Nat} {a0 : Int} {a1 : Int} {a2 : Int} {z0 : Bool} (h : s_spec_l00In n a0 a1 a2 = some z0) : ∀ k, n + 1 ≤ k → sem E k 85 [(V.int .i64 (a0)), (V.int .i64 (a1)), (V.int .i64 (a2))] = some (V.bool (z0)) := by
  intro k hk
  obtain ⟨k, rfl⟩ : ∃ q, k = q + 1 := ⟨k - 1, by omega⟩
  unfold s_spec_l00In at h
  rcases cnd_some h with ⟨h1, h⟩ | ⟨h1, h⟩
  · replace h := Option.some.inj h
    obtain rfl := h
    refine pFun_by [.b true] rfl (And.intro h1 trivial) ?_
    kernel_rfl
  · replace h := Option.some.inj h
    obtain rfl := h
    refine pFun_by [.b false] rfl (And.intro h1 trivial) ?_
    kernel_rfl
theorem w_spec_l01Kind {n : Nat} {a0 : Int} {z0 : Bool} (h : s_spec_l01Kind n a0 = some z0) : ∀ k, n + 2 ≤ k → sem E k 179 [(V.int .i64 (a0))] = some (V.bool (z0)) := by
  intro k hk
  obtain ⟨k, rfl⟩ : ∃ q, k = q + 1 := ⟨k - 1, by omega⟩
  unfold s_spec_l01Kind at h
  obtain ⟨y1_0, q1, h⟩ := bnd_some h
  replace h := Option.some.inj h
  obtain rfl := h
  refine pFun_by [.v (V.bool (y1_0))] rfl (And.intro (w_spec_l00In q1 k (by omega)) trivial) ?_
  kernel_rfl
theorem w_spec_l01Is {n : Nat} {a0 : Int} {a1 : Int} {a2 : Int} {a3 : Nat → Int} {a4 : Int} {a5 : Int} {z0 : Bool} (h : s_spec_l01Is n a0 a1 a2 a3 a4 a5 = some z0) : ∀ k, n + 2 ≤ k → sem E k 127 [(V.ref [(V.int .i8 (a0)), (V.int .i8 (a1)), (V.int .u8 (a2)), (V.ints .u8 64 (a3))] 0 (0) 67), (V.parts [(V.int .i8 (a4)), (V.int .i8 (a5))])] = some (V.bool (z0)) := by
  intro k hk
  obtain ⟨k, rfl⟩ : ∃ q, k = q + 1 := ⟨k - 1, by omega⟩
  unfold s_spec_l01Is at h
  obtain ⟨y1_0, q1, h⟩ := bnd_some h
  rcases cnd_some h with ⟨h2, h⟩ | ⟨h2, h⟩
  · obtain ⟨y3_0, q3, h⟩ := bnd_some h
    replace h := Option.some.inj h
    obtain rfl := h
    refine pFun_by [.v (V.bool (y1_0)), .b true, .v (V.bool (y3_0))] rfl (And.intro (w_spec_l00In q1 k (by omega)) (And.intro h2 (And.intro (w_spec_l00In q3 k (by omega)) trivial))) ?_
    kernel_rfl
  · replace h := Option.some.inj h
    obtain rfl := h
    refine pFun_by [.v (V.bool (y1_0)), .b false] rfl (And.intro (w_spec_l00In q1 k (by omega)) (And.intro h2 trivial)) ?_
    kernel_rfl
theorem lw_spec_l01Ok_b2 : ∀ (n : Nat) (a0 : Int) (a1 : Int) (a2 : Int) (a3 : Nat → Int) (a4 : Int) (a5 : Int) (r : Sum (Int × Int × Int × (Nat → Int) × Int) (Bool)), l_spec_l01Ok_b2 n a0 a1 a2 a3 a4 a5 = some r → ∀ k m, n + 2 ≤ k → n ≤ m → LB E 196 2 k m ⟨[(0, (V.ref [(V.int .i8 (a0)), (V.int .i8 (a1)), (V.int .u8 (a2)), (V.ints .u8 64 (a3))] 0 (0) 67)), (3, (V.int .i8 (a4))), (4, (V.int .i8 (a5)))], []⟩ = some (match r with | .inl (o0, o1, o2, o3, o4) => (.normal, ⟨[(0, (V.ref [(V.int .i8 (o0)), (V.int .i8 (o1)), (V.int .u8 (o2)), (V.ints .u8 64 (o3))] 0 (0) 67)), (3, (V.int .i8 (o4)))], []⟩) | .inr o0 => (.ret, ⟨[(2, (V.bool (o0)))], []⟩)) := by
  intro n
  induction n with
  | zero => intro a0 a1 a2 a3 a4 a5 r h; cases h
  | succ n ih =>
    intro a0 a1 a2 a3 a4 a5 r h k m hk hm
    obtain ⟨m, rfl⟩ : ∃ q, m = q + 1 := ⟨m - 1, by omega⟩
    replace hk : n + 2 ≤ k := by omega
    unfold l_spec_l01Ok_b2 at h
    rcases cnd_some h with ⟨h7, h⟩ | ⟨h7, h⟩
    · obtain ⟨c8, h⟩ := chk_some h
      obtain ⟨c9, h⟩ := chk_some h
      obtain ⟨y10_0, q10, h⟩ := bnd_some h
      rcases cnd_some h with ⟨h11, h⟩ | ⟨h11, h⟩
      · obtain ⟨y12_0, q12, h⟩ := bnd_some h
        rcases cnd_some h with ⟨h13, h⟩ | ⟨h13, h⟩
        · refine pNext_by [.b true, .v (V.bool (y10_0)), .b false, .v (V.bool (y12_0)), .b false, .b false] (And.intro h7 (And.intro c8 (And.intro c9 (And.intro (w_spec_l01Kind q10 k (by omega)) (And.intro (not_f h11) (And.intro (w_spec_l01Is q12 k (by omega)) (And.intro (not_f h13) (And.intro (Eq.refl false) trivial)))))))) (ih _ _ _ _ _ _ _ h k m hk (by omega)) ?_
          kernel_rfl
        · rcases cnd_some h with ⟨h14, h⟩ | ⟨h14, h⟩
          · refine pNext_by [.b true, .v (V.bool (y10_0)), .b false, .v (V.bool (y12_0)), .b true, .b false] (And.intro h7 (And.intro c8 (And.intro c9 (And.intro (w_spec_l01Kind q10 k (by omega)) (And.intro (not_f h11) (And.intro (w_spec_l01Is q12 k (by omega)) (And.intro (not_t h13) (And.intro c8 (And.intro c9 (And.intro (not_f h14) trivial)))))))))) (ih _ _ _ _ _ _ _ h k m hk (by omega)) ?_
            kernel_rfl
          · cases h
            refine pLast_by [.b true, .v (V.bool (y10_0)), .b false, .v (V.bool (y12_0)), .b true, .b true] (And.intro h7 (And.intro c8 (And.intro c9 (And.intro (w_spec_l01Kind q10 k (by omega)) (And.intro (not_f h11) (And.intro (w_spec_l01Is q12 k (by omega)) (And.intro (not_t h13) (And.intro c8 (And.intro c9 (And.intro (not_t h14) trivial)))))))))) ?_
            kernel_rfl
      · cases h
        refine pLast_by [.b true, .v (V.bool (y10_0)), .b true, .b true] (And.intro h7 (And.intro c8 (And.intro c9 (And.intro (w_spec_l01Kind q10 k (by omega)) (And.intro (not_t h11) (And.intro (Eq.refl true) trivial)))))) ?_
        kernel_rfl
    · cases h
      refine pLast_by [.b false] (And.intro h7 trivial) ?_
      kernel_rfl
theorem lw_spec_l01Ok_b0 : ∀ (n : Nat) (a0 : Int) (a1 : Int) (a2 : Int) (a3 : Nat → Int) (a4 : Int) (r : Sum (Unit) (Bool)), l_spec_l01Ok_b0 n a0 a1 a2 a3 a4 = some r → ∀ k m, n + 2 ≤ k → n ≤ m → LB E 196 0 k m ⟨[(0, (V.ref [(V.int .i8 (a0)), (V.int .i8 (a1)), (V.int .u8 (a2)), (V.ints .u8 64 (a3))] 0 (0) 67)), (3, (V.int .i8 (a4)))], []⟩ = some (match r with | .inl _ => (.normal, ⟨[], []⟩) | .inr o0 => (.ret, ⟨[(2, (V.bool (o0)))], []⟩)) := by
  intro n
  induction n with
  | zero => intro a0 a1 a2 a3 a4 r h; cases h
  | succ n ih =>
    intro a0 a1 a2 a3 a4 r h k m hk hm
    obtain ⟨m, rfl⟩ : ∃ q, m = q + 1 := ⟨m - 1, by omega⟩
    replace hk : n + 2 ≤ k := by omega
    unfold l_spec_l01Ok_b0 at h
    rcases cnd_some h with ⟨h6, h⟩ | ⟨h6, h⟩
    · obtain ⟨w, l15, h⟩ := bnd_some h
      rcases w with ⟨u15_0, u15_1, u15_2, u15_3, u15_4⟩ | u16_0
      · refine pNext_by [.b true, .l .normal ⟨[(0, (V.ref [(V.int .i8 (u15_0)), (V.int .i8 (u15_1)), (V.int .u8 (u15_2)), (V.ints .u8 64 (u15_3))] 0 (0) 67)), (3, (V.int .i8 (u15_4)))], []⟩] (And.intro h6 (And.intro (lw_spec_l01Ok_b2 _ _ _ _ _ _ _ _ l15 k k (by omega) (by omega)) trivial)) (ih _ _ _ _ _ _ h k m hk (by omega)) ?_
        kernel_rfl
      · cases h
        refine pLast_by [.b true, .l .ret ⟨[(2, (V.bool (u16_0)))], []⟩] (And.intro h6 (And.intro (lw_spec_l01Ok_b2 _ _ _ _ _ _ _ _ l15 k k (by omega) (by omega)) trivial)) ?_
        kernel_rfl
    · cases h
      refine pLast_by [.b false] (And.intro h6 trivial) ?_
      kernel_rfl
theorem w_spec_l01Ok {n : Nat} {a0 : Int} {a1 : Int} {a2 : Int} {a3 : Nat → Int} {z0 : Bool} (h : s_spec_l01Ok n a0 a1 a2 a3 = some z0) : ∀ k, n + 3 ≤ k → sem E k 196 [(V.ref [(V.int .i8 (a0)), (V.int .i8 (a1)), (V.int .u8 (a2)), (V.ints .u8 64 (a3))] 0 (0) 67)] = some (V.bool (z0)) := by
  intro k hk
  obtain ⟨k, rfl⟩ : ∃ q, k = q + 1 := ⟨k - 1, by omega⟩
  unfold s_spec_l01Ok at h
  obtain ⟨y1_0, q1, h⟩ := bnd_some h
  rcases cnd_some h with ⟨h2, h⟩ | ⟨h2, h⟩
  · obtain ⟨y3_0, q3, h⟩ := bnd_some h
    rcases cnd_some h with ⟨h4, h⟩ | ⟨h4, h⟩
    · rcases cnd_some h with ⟨h5, h⟩ | ⟨h5, h⟩
      · replace h := Option.some.inj h
        obtain rfl := h
        refine pFun_by [.v (V.bool (y1_0)), .b false, .v (V.bool (y3_0)), .b false, .b true] rfl (And.intro (w_spec_l00In q1 k (by omega)) (And.intro (not_f h2) (And.intro (w_spec_l00In q3 k (by omega)) (And.intro (not_f h4) (And.intro h5 trivial))))) ?_
        kernel_rfl
      · obtain ⟨w, l18, h⟩ := bnd_some h
        rcases w with ⟨⟩ | u19_0
        · replace h := Option.some.inj h
          obtain rfl := h
          refine pFun_by [.v (V.bool (y1_0)), .b false, .v (V.bool (y3_0)), .b false, .b false, .l .normal ⟨[], []⟩] rfl (And.intro (w_spec_l00In q1 k (by omega)) (And.intro (not_f h2) (And.intro (w_spec_l00In q3 k (by omega)) (And.intro (not_f h4) (And.intro h5 (And.intro (lw_spec_l01Ok_b0 _ _ _ _ _ _ _ l18 k k (by omega) (by omega)) trivial)))))) ?_
          kernel_rfl
        · replace h := Option.some.inj h
          obtain rfl := h
          refine pFun_by [.v (V.bool (y1_0)), .b false, .v (V.bool (y3_0)), .b false, .b false, .l .ret ⟨[(2, (V.bool (u19_0)))], []⟩] rfl (And.intro (w_spec_l00In q1 k (by omega)) (And.intro (not_f h2) (And.intro (w_spec_l00In q3 k (by omega)) (And.intro (not_f h4) (And.intro h5 (And.intro (lw_spec_l01Ok_b0 _ _ _ _ _ _ _ l18 k k (by omega) (by omega)) trivial)))))) ?_
          kernel_rfl
    · replace h := Option.some.inj h
      obtain rfl := h
      refine pFun_by [.v (V.bool (y1_0)), .b false, .v (V.bool (y3_0)), .b true, .b true] rfl (And.intro (w_spec_l00In q1 k (by omega)) (And.intro (not_f h2) (And.intro (w_spec_l00In q3 k (by omega)) (And.intro (not_t h4) (And.intro (Eq.refl true) trivial))))) ?_
      kernel_rfl
  · replace h := Option.some.inj h
    obtain rfl := h
    refine pFun_by [.v (V.bool (y1_0)), .b true, .b true, .b true] rfl (And.intro (w_spec_l00In q1 k (by omega)) (And.intro (not_t h2) (And.intro (Eq.refl true) (And.intro (Eq.refl true) trivial)))) ?_
    kernel_rfl
theorem w_spec_l01Asked {n : Nat} {a0 : Int} {a1 : Int} {a2 : Int} {a3 : Nat → Int} {a4 : Int} {a5 : Int} {a6 : Bool} {z0 : Int} (h : s_spec_l01Asked n a0 a1 a2 a3 a4 a5 a6 = some z0) : ∀ k, n + 4 ≤ k → sem E k 160 [(V.ref [(V.int .i8 (a0)), (V.int .i8 (a1)), (V.int .u8 (a2)), (V.ints .u8 64 (a3))] 0 (0) 67), (V.parts [(V.int .i8 (a4)), (V.int .i8 (a5))]), (V.bool (a6))] = some (V.int .i64 (z0)) := by
  intro k hk
  obtain ⟨k, rfl⟩ : ∃ q, k = q + 1 := ⟨k - 1, by omega⟩
  unfold s_spec_l01Asked at h
  obtain ⟨y1_0, q1, h⟩ := bnd_some h
  rcases cnd_some h with ⟨h2, h⟩ | ⟨h2, h⟩
  · obtain ⟨y3_0, q3, h⟩ := bnd_some h
    rcases cnd_some h with ⟨h4, h⟩ | ⟨h4, h⟩
    · rcases cnd_some h with ⟨h5, h⟩ | ⟨h5, h⟩
      · replace h := Option.some.inj h
        obtain rfl := h
        refine pFun_by [.v (V.bool (y1_0)), .b false, .v (V.bool (y3_0)), .b false, .b false] rfl (And.intro (w_spec_l01Ok q1 k (by omega)) (And.intro (not_f h2) (And.intro (w_spec_l01Is q3 k (by omega)) (And.intro (not_f h4) (And.intro (not_f h5) trivial))))) ?_
        kernel_rfl
      · replace h := Option.some.inj h
        obtain rfl := h
        refine pFun_by [.v (V.bool (y1_0)), .b false, .v (V.bool (y3_0)), .b false, .b true] rfl (And.intro (w_spec_l01Ok q1 k (by omega)) (And.intro (not_f h2) (And.intro (w_spec_l01Is q3 k (by omega)) (And.intro (not_f h4) (And.intro (not_t h5) trivial))))) ?_
        kernel_rfl
    · replace h := Option.some.inj h
      obtain rfl := h
      refine pFun_by [.v (V.bool (y1_0)), .b false, .v (V.bool (y3_0)), .b true, .b true] rfl (And.intro (w_spec_l01Ok q1 k (by omega)) (And.intro (not_f h2) (And.intro (w_spec_l01Is q3 k (by omega)) (And.intro (not_t h4) (And.intro (Eq.refl true) trivial))))) ?_
      kernel_rfl
  · replace h := Option.some.inj h
    obtain rfl := h
    refine pFun_by [.v (V.bool (y1_0)), .b true] rfl (And.intro (w_spec_l01Ok q1 k (by omega)) (And.intro (not_t h2) trivial)) ?_
    kernel_rfl
theorem w_spec_l01Course {n : Nat} {a0 : Int} {a1 : Int} {a2 : Int} {a3 : Nat → Int} {a4 : Int} {z0 : Bool} (h : s_spec_l01Course n a0 a1 a2 a3 a4 = some z0) : ∀ k, n + 2 ≤ k → sem E k 173 [(V.ref [(V.int .i8 (a0)), (V.int .i8 (a1)), (V.int .u8 (a2)), (V.ints .u8 64 (a3))] 0 (0) 67), (V.int .i64 (a4))] = some (V.bool (z0)) := by
  intro k hk
  obtain ⟨k, rfl⟩ : ∃ q, k = q + 1 := ⟨k - 1, by omega⟩
  unfold s_spec_l01Course at h
  obtain ⟨y1_0, q1, h⟩ := bnd_some h
  replace h := Option.some.inj h
  obtain rfl := h
  refine pFun_by [.v (V.bool (y1_0))] rfl (And.intro (w_spec_l00In q1 k (by omega)) trivial) ?_
  kernel_rfl
theorem w_spec_l01By {n : Nat} {a0 : Int} {a1 : Int} {a2 : Int} {a3 : Nat → Int} {a4 : Int} {z0 : Int} (h : s_spec_l01By n a0 a1 a2 a3 a4 = some z0) : ∀ k, n + 1 ≤ k → sem E k 227 [(V.ref [(V.int .i8 (a0)), (V.int .i8 (a1)), (V.int .u8 (a2)), (V.ints .u8 64 (a3))] 0 (0) 67), (V.int .i64 (a4))] = some (V.int .i64 (z0)) := by
  intro k hk
  obtain ⟨k, rfl⟩ : ∃ q, k = q + 1 := ⟨k - 1, by omega⟩
  unfold s_spec_l01By at h
  replace h := Option.some.inj h
  obtain rfl := h
  refine pFun_by [] rfl (And.intro (Eq.refl true) trivial) ?_
  kernel_rfl
theorem w_spec_l01First {n : Nat} {a0 : Int} {a1 : Int} {a2 : Int} {a3 : Nat → Int} {a4 : Int} {a5 : Int} {z0 : Int} (h : s_spec_l01First n a0 a1 a2 a3 a4 a5 = some z0) : ∀ k, n + 2 ≤ k → sem E k 165 [(V.ref [(V.int .i8 (a0)), (V.int .i8 (a1)), (V.int .u8 (a2)), (V.ints .u8 64 (a3))] 0 (0) 67), (V.parts [(V.int .i8 (a4)), (V.int .i8 (a5))])] = some (V.int .i64 (z0)) := by
  intro k hk
  obtain ⟨k, rfl⟩ : ∃ q, k = q + 1 := ⟨k - 1, by omega⟩
  unfold s_spec_l01First at h
  obtain ⟨y1_0, q1, h⟩ := bnd_some h
  replace h := Option.some.inj h
  obtain rfl := h
  refine pFun_by [.v (V.int .i64 (y1_0))] rfl (And.intro (w_spec_l01By q1 k (by omega)) trivial) ?_
  kernel_rfl
theorem w_spec_l01Tile {n : Nat} {a0 : Int} {a1 : Int} {a2 : Int} {a3 : Nat → Int} {a4 : Int} {a5 : Int} {z0 : Int} (h : s_spec_l01Tile n a0 a1 a2 a3 a4 a5 = some z0) : ∀ k, n + 2 ≤ k → sem E k 175 [(V.ref [(V.int .i8 (a0)), (V.int .i8 (a1)), (V.int .u8 (a2)), (V.ints .u8 64 (a3))] 0 (0) 67), (V.int .i64 (a4)), (V.int .i64 (a5))] = some (V.int .i64 (z0)) := by
  intro k hk
  obtain ⟨k, rfl⟩ : ∃ q, k = q + 1 := ⟨k - 1, by omega⟩
  unfold s_spec_l01Tile at h
  obtain ⟨y1_0, q1, h⟩ := bnd_some h
  rcases cnd_some h with ⟨h2, h⟩ | ⟨h2, h⟩
  · replace h := Option.some.inj h
    obtain rfl := h
    refine pFun_by [.v (V.int .i64 (y1_0)), .b true, .b true] rfl (And.intro (w_spec_l01By q1 k (by omega)) (And.intro h2 (And.intro (Eq.refl true) trivial))) ?_
    kernel_rfl
  · rcases cnd_some h with ⟨h3, h⟩ | ⟨h3, h⟩
    · replace h := Option.some.inj h
      obtain rfl := h
      refine pFun_by [.v (V.int .i64 (y1_0)), .b false, .b true] rfl (And.intro (w_spec_l01By q1 k (by omega)) (And.intro h2 (And.intro (Eq.refl true) (And.intro h3 trivial)))) ?_
      kernel_rfl
    · replace h := Option.some.inj h
      obtain rfl := h
      refine pFun_by [.v (V.int .i64 (y1_0)), .b false, .b false] rfl (And.intro (w_spec_l01By q1 k (by omega)) (And.intro h2 (And.intro (Eq.refl true) (And.intro h3 (And.intro (Eq.refl true) trivial))))) ?_
      kernel_rfl
theorem lw_spec_l01Laps_b0 : ∀ (n : Nat) (a0 : Int) (a1 : Int) (a2 : Int) (a3 : Nat → Int) (a4 : Int) (a5 : Int) (a6 : Int) (a7 : List V) (r : List V), l_spec_l01Laps_b0 n a0 a1 a2 a3 a4 a5 a6 a7 = some r → ∀ k m, n + 2 ≤ k → n ≤ m → LB E 161 0 k m ⟨[(0, (V.ref [(V.int .i8 (a0)), (V.int .i8 (a1)), (V.int .u8 (a2)), (V.ints .u8 64 (a3))] 0 (0) 67)), (7, (V.row 15)), (8, (V.int .i8 (a4))), (9, (V.int .i64 (a5))), (10, (V.int .i64 (a6)))], [(15, .row 79 (a7))]⟩ = some (match r with | o0 => (.normal, ⟨[(7, (V.row 15))], [(15, .row 79 (o0))]⟩)) := by
  intro n
  induction n with
  | zero => intro a0 a1 a2 a3 a4 a5 a6 a7 r h; cases h
  | succ n ih =>
    intro a0 a1 a2 a3 a4 a5 a6 a7 r h k m hk hm
    obtain ⟨m, rfl⟩ : ∃ q, m = q + 1 := ⟨m - 1, by omega⟩
    replace hk : n + 2 ≤ k := by omega
    unfold l_spec_l01Laps_b0 at h
    rcases cnd_some h with ⟨h4, h⟩ | ⟨h4, h⟩
    · obtain ⟨y5_0, q5, h⟩ := bnd_some h
      rcases cnd_some h with ⟨h6, h⟩ | ⟨h6, h⟩
      · rcases cnd_some h with ⟨h7, h⟩ | ⟨h7, h⟩
        · obtain ⟨c8, h⟩ := chk_some h
          refine pNext_by [.b true, .v (V.int .i64 (y5_0)), .b true, .b true, .b true] (And.intro h4 (And.intro (w_spec_l01Tile q5 k (by omega)) (And.intro h6 (And.intro h7 (And.intro (Eq.refl true) (And.intro c8 (And.intro (Eq.refl true) trivial))))))) (ih _ _ _ _ _ _ _ _ _ h k m hk (by omega)) ?_
          kernel_rfl
        · obtain ⟨c9, h⟩ := chk_some h
          obtain ⟨⟨e10_0, e10_1⟩, g10, h⟩ := bnd_some h
          replace g10 := as_Pi8_i8Q_some g10
          obtain ⟨⟨e11_0, e11_1⟩, g11, h⟩ := bnd_some h
          replace g11 := as_Pi8_i8Q_some g11
          rcases cnd_some h with ⟨h12, h⟩ | ⟨h12, h⟩
          · refine pNext_by [.b true, .v (V.int .i64 (y5_0)), .b true, .b false, .v (V.parts [(V.int .i8 (e10_0)), (V.int .i8 (e10_1))]), .v (V.parts [(V.int .i8 (e11_0)), (V.int .i8 (e11_1))]), .b false] (And.intro h4 (And.intro (w_spec_l01Tile q5 k (by omega)) (And.intro h6 (And.intro h7 (And.intro c9 (And.intro g10 (And.intro g11 (And.intro (not_f h12) trivial)))))))) (ih _ _ _ _ _ _ _ _ _ h k m hk (by omega)) ?_
            kernel_rfl
          · obtain ⟨c13, h⟩ := chk_some h
            refine pNext_by [.b true, .v (V.int .i64 (y5_0)), .b true, .b false, .v (V.parts [(V.int .i8 (e10_0)), (V.int .i8 (e10_1))]), .v (V.parts [(V.int .i8 (e11_0)), (V.int .i8 (e11_1))]), .b true] (And.intro h4 (And.intro (w_spec_l01Tile q5 k (by omega)) (And.intro h6 (And.intro h7 (And.intro c9 (And.intro g10 (And.intro g11 (And.intro (not_t h12) (And.intro c13 (And.intro (Eq.refl true) trivial)))))))))) (ih _ _ _ _ _ _ _ _ _ h k m hk (by omega)) ?_
            kernel_rfl
      · refine pNext_by [.b true, .v (V.int .i64 (y5_0)), .b false, .b false] (And.intro h4 (And.intro (w_spec_l01Tile q5 k (by omega)) (And.intro h6 (And.intro (Eq.refl false) trivial)))) (ih _ _ _ _ _ _ _ _ _ h k m hk (by omega)) ?_
        kernel_rfl
    · cases h
      refine pLast_by [.b false] (And.intro h4 trivial) ?_
      kernel_rfl
theorem w_spec_l01Laps {n : Nat} {a0 : Int} {a1 : Int} {a2 : Int} {a3 : Nat → Int} {a4 : Int} {a5 : Int} {a6 : Int} {z0 : List V} (h : s_spec_l01Laps n a0 a1 a2 a3 a4 a5 a6 = some z0) : ∀ k, n + 3 ≤ k → sem E k 161 [(V.ref [(V.int .i8 (a0)), (V.int .i8 (a1)), (V.int .u8 (a2)), (V.ints .u8 64 (a3))] 0 (0) 67), (V.parts [(V.int .i8 (a4)), (V.int .i8 (a5))]), (V.int .i8 (a6))] = some (V.fresh 79 (z0)) := by
  intro k hk
  obtain ⟨k, rfl⟩ : ∃ q, k = q + 1 := ⟨k - 1, by omega⟩
  unfold s_spec_l01Laps at h
  obtain ⟨y1_0, q1, h⟩ := bnd_some h
  rcases cnd_some h with ⟨h2, h⟩ | ⟨h2, h⟩
  · obtain ⟨y3_0, q3, h⟩ := bnd_some h
    obtain ⟨u14_0, l14, h⟩ := bnd_some h
    replace h := Option.some.inj h
    obtain rfl := h
    refine pFun_by [.v (V.bool (y1_0)), .b false, .v (V.int .i64 (y3_0)), .l .normal ⟨[(7, (V.row 15))], [(15, .row 79 (u14_0))]⟩] rfl (And.intro (w_spec_l01Course q1 k (by omega)) (And.intro (not_f h2) (And.intro (w_spec_l01First q3 k (by omega)) (And.intro (lw_spec_l01Laps_b0 _ _ _ _ _ _ _ _ _ _ l14 k k (by omega) (by omega)) trivial)))) ?_
    kernel_rfl
  · replace h := Option.some.inj h
    obtain rfl := h
    refine pFun_by [.v (V.bool (y1_0)), .b true] rfl (And.intro (w_spec_l01Course q1 k (by omega)) (And.intro (not_t h2) trivial)) ?_
    kernel_rfl
theorem w_spec_AboveOf {n : Nat} {a0 : Int} {a1 : Int} {a2 : Int} {a3 : Nat → Int} {a4 : Int} {a5 : Int} {z0 : List V} {z1 : Int} (h : s_spec_AboveOf n a0 a1 a2 a3 a4 a5 = some (z0, z1)) : ∀ k, n + 5 ≤ k → sem E k 68 [(V.parts [(V.int .i8 (a0)), (V.int .i8 (a1)), (V.int .u8 (a2)), (V.ints .u8 64 (a3))]), (V.parts [(V.int .i8 (a4)), (V.int .i8 (a5))])] = some (V.tup [(V.fresh 79 (z0)), (V.int .i64 (z1))]) := by
  intro k hk
  obtain ⟨k, rfl⟩ : ∃ q, k = q + 1 := ⟨k - 1, by omega⟩
  unfold s_spec_AboveOf at h
  obtain ⟨y1_0, q1, h⟩ := bnd_some h
  rcases cnd_some h with ⟨h2, h⟩ | ⟨h2, h⟩
  · obtain ⟨y3_0, q3, h⟩ := bnd_some h
    obtain ⟨c4, h⟩ := chk_some h
    simp only [Option.some.injEq, Prod.mk.injEq] at h
    obtain ⟨rfl, rfl⟩ := h
    refine pFun_by [.v (V.int .i64 (y1_0)), .b false, .v (V.fresh 79 (y3_0))] rfl (And.intro (w_spec_l01Asked q1 k (by omega)) (And.intro (Eq.refl true) (And.intro (not_f h2) (And.intro (w_spec_l01Laps q3 k (by omega)) (And.intro c4 trivial))))) ?_
    kernel_rfl
  · simp only [Option.some.injEq, Prod.mk.injEq] at h
    obtain ⟨rfl, rfl⟩ := h
    refine pFun_by [.v (V.int .i64 (y1_0)), .b true] rfl (And.intro (w_spec_l01Asked q1 k (by omega)) (And.intro (Eq.refl true) (And.intro (not_t h2) trivial))) ?_
    kernel_rfl
theorem w_impl_BelowOf {n : Nat} {a0 : Int} {a1 : Int} {a2 : Int} {a3 : Nat → Int} {a4 : Int} {a5 : Int} {z0 : List V} {z1 : Int} (h : s_impl_BelowOf n a0 a1 a2 a3 a4 a5 = some (z0, z1)) : ∀ k, n + 4 ≤ k → sem E k 69 [(V.parts [(V.int .i8 (a0)), (V.int .i8 (a1)), (V.int .u8 (a2)), (V.ints .u8 64 (a3))]), (V.parts [(V.int .i8 (a4)), (V.int .i8 (a5))])] = some (V.tup [(V.fresh 79 (z0)), (V.int .i64 (z1))]) := by
  intro k hk
  obtain ⟨k, rfl⟩ : ∃ q, k = q + 1 := ⟨k - 1, by omega⟩
  unfold s_impl_BelowOf at h
  obtain ⟨y1_0, q1, h⟩ := bnd_some h
  obtain ⟨y2_0, q2, h⟩ := bnd_some h
  rcases cnd_some h with ⟨h3, h⟩ | ⟨h3, h⟩
  · obtain ⟨y4_0, q4, h⟩ := bnd_some h
    simp only [Option.some.injEq, Prod.mk.injEq] at h
    obtain ⟨rfl, rfl⟩ := h
    refine pFun_by [.v (V.bool (y1_0)), .v (V.int .i64 (y2_0)), .b false, .v (V.fresh 79 (y4_0))] rfl (And.intro (w_impl_Roof_has q1 k (by omega)) (And.intro (w_impl_roofCode q2 k (by omega)) (And.intro (not_f h3) (And.intro (w_impl_Roof_lapped q4 k (by omega)) trivial)))) ?_
    kernel_rfl
  · simp only [Option.some.injEq, Prod.mk.injEq] at h
    obtain ⟨rfl, rfl⟩ := h
    refine pFun_by [.v (V.bool (y1_0)), .v (V.int .i64 (y2_0)), .b true] rfl (And.intro (w_impl_Roof_has q1 k (by omega)) (And.intro (w_impl_roofCode q2 k (by omega)) (And.intro (not_t h3) trivial))) ?_
    kernel_rfl
theorem w_spec_BelowOf {n : Nat} {a0 : Int} {a1 : Int} {a2 : Int} {a3 : Nat → Int} {a4 : Int} {a5 : Int} {z0 : List V} {z1 : Int} (h : s_spec_BelowOf n a0 a1 a2 a3 a4 a5 = some (z0, z1)) : ∀ k, n + 5 ≤ k → sem E k 70 [(V.parts [(V.int .i8 (a0)), (V.int .i8 (a1)), (V.int .u8 (a2)), (V.ints .u8 64 (a3))]), (V.parts [(V.int .i8 (a4)), (V.int .i8 (a5))])] = some (V.tup [(V.fresh 79 (z0)), (V.int .i64 (z1))]) := by
  intro k hk
  obtain ⟨k, rfl⟩ : ∃ q, k = q + 1 := ⟨k - 1, by omega⟩
  unfold s_spec_BelowOf at h
  obtain ⟨y1_0, q1, h⟩ := bnd_some h
  rcases cnd_some h with ⟨h2, h⟩ | ⟨h2, h⟩
  · obtain ⟨y3_0, q3, h⟩ := bnd_some h
    obtain ⟨c4, h⟩ := chk_some h
    simp only [Option.some.injEq, Prod.mk.injEq] at h
    obtain ⟨rfl, rfl⟩ := h
    refine pFun_by [.v (V.int .i64 (y1_0)), .b false, .v (V.fresh 79 (y3_0))] rfl (And.intro (w_spec_l01Asked q1 k (by omega)) (And.intro (Eq.refl true) (And.intro (not_f h2) (And.intro (w_spec_l01Laps q3 k (by omega)) (And.intro c4 trivial))))) ?_
    kernel_rfl
  · simp only [Option.some.injEq, Prod.mk.injEq] at h
    obtain ⟨rfl, rfl⟩ := h
    refine pFun_by [.v (V.int .i64 (y1_0)), .b true] rfl (And.intro (w_spec_l01Asked q1 k (by omega)) (And.intro (Eq.refl true) (And.intro (not_t h2) trivial))) ?_
    kernel_rfl
theorem w_impl_wide {n : Nat} {a0 : Int} {z0 : Int} (h : s_impl_wide n a0 = some z0) : ∀ k, n + 1 ≤ k → sem E k 164 [(V.int .i64 (a0))] = some (V.int .i64 (z0)) := by
  intro k hk
  obtain ⟨k, rfl⟩ : ∃ q, k = q + 1 := ⟨k - 1, by omega⟩
  unfold s_impl_wide at h
  replace h := Option.some.inj h
  obtain rfl := h
  refine pFun_by [] rfl trivial ?_
  kernel_rfl
theorem lw_impl_each_int_int64__wide_b0 : ∀ (n : Nat) (a0 : List V) (a1 : Int) (a2 : Int) (a3 : List V) (r : List V), l_impl_each_int_int64__wide_b0 n a0 a1 a2 a3 = some r → ∀ k m, n + 1 ≤ k → n ≤ m → LB E 162 0 k m ⟨[(1, (V.clo 164 [])), (5, (V.row 11)), (8, (V.sl (a0))), (9, (V.int .i64 (a1))), (10, (V.int .i64 (a2)))], [(11, .row 2 (a3))]⟩ = some (match r with | o0 => (.normal, ⟨[(5, (V.row 11))], [(11, .row 2 (o0))]⟩)) := by
  intro n
  induction n with
  | zero => intro a0 a1 a2 a3 r h; cases h
  | succ n ih =>
    intro a0 a1 a2 a3 r h k m hk hm
    obtain ⟨m, rfl⟩ : ∃ q, m = q + 1 := ⟨m - 1, by omega⟩
    replace hk : n + 1 ≤ k := by omega
    unfold l_impl_each_int_int64__wide_b0 at h
    rcases cnd_some h with ⟨h1, h⟩ | ⟨h1, h⟩
    · obtain ⟨e2_0, g2, h⟩ := bnd_some h
      replace g2 := as_i64_some g2
      obtain ⟨y3_0, q3, h⟩ := bnd_some h
      obtain ⟨c4, h⟩ := chk_some h
      refine pNext_by [.b true, .v (V.int .i64 (e2_0)), .v (V.int .i64 (y3_0))] (And.intro h1 (And.intro g2 (And.intro (w_impl_wide q3 k (by omega)) (And.intro c4 (And.intro (Eq.refl true) trivial))))) (ih _ _ _ _ _ h k m hk (by omega)) ?_
      kernel_rfl
    · cases h
      refine pLast_by [.b false] (And.intro h1 trivial) ?_
      kernel_rfl
theorem w_impl_each_int_int64__wide {n : Nat} {a0 : List V} {z0 : List V} (h : s_impl_each_int_int64__wide n a0 = some z0) : ∀ k, n + 2 ≤ k → sem E k 162 [(V.sl (a0)), (V.clo 164 [])] = some (V.fresh 2 (z0)) := by
  intro k hk
  obtain ⟨k, rfl⟩ : ∃ q, k = q + 1 := ⟨k - 1, by omega⟩
  unfold s_impl_each_int_int64__wide at h
  obtain ⟨u5_0, l5, h⟩ := bnd_some h
  replace h := Option.some.inj h
  obtain rfl := h
  refine pFun_by [.l .normal ⟨[(5, (V.row 11))], [(11, .row 2 (u5_0))]⟩] rfl (And.intro (lw_impl_each_int_int64__wide_b0 _ _ _ _ _ _ l5 k k (by omega) (by omega)) trivial) ?_
  kernel_rfl
theorem w_impl_CellsOf {n : Nat} {a0 : Int} {a1 : Int} {a2 : Int} {a3 : Nat → Int} {a4 : Int} {a5 : Int} {z0 : List V} {z1 : Int} (h : s_impl_CellsOf n a0 a1 a2 a3 a4 a5 = some (z0, z1)) : ∀ k, n + 4 ≤ k → sem E k 71 [(V.parts [(V.int .i8 (a0)), (V.int .i8 (a1)), (V.int .u8 (a2)), (V.ints .u8 64 (a3))]), (V.parts [(V.int .i8 (a4)), (V.int .i8 (a5))])] = some (V.tup [(V.fresh 2 (z0)), (V.int .i64 (z1))]) := by
  intro k hk
  obtain ⟨k, rfl⟩ : ∃ q, k = q + 1 := ⟨k - 1, by omega⟩
  unfold s_impl_CellsOf at h
  obtain ⟨y1_0, q1, h⟩ := bnd_some h
  obtain ⟨y2_0, q2, h⟩ := bnd_some h
  rcases cnd_some h with ⟨h3, h⟩ | ⟨h3, h⟩
  · obtain ⟨y4_0, q4, h⟩ := bnd_some h
    obtain ⟨y5_0, q5, h⟩ := bnd_some h
    obtain ⟨c6, h⟩ := chk_some h
    simp only [Option.some.injEq, Prod.mk.injEq] at h
    obtain ⟨rfl, rfl⟩ := h
    refine pFun_by [.v (V.bool (y1_0)), .v (V.int .i64 (y2_0)), .b false, .v (V.fresh 3 (y4_0)), .v (V.fresh 2 (y5_0))] rfl (And.intro (w_impl_Roof_has q1 k (by omega)) (And.intro (w_impl_roofCode q2 k (by omega)) (And.intro (not_f h3) (And.intro (w_impl_Roof_cellsOf q4 k (by omega)) (And.intro (w_impl_each_int_int64__wide q5 k (by omega)) (And.intro c6 trivial)))))) ?_
    kernel_rfl
  · simp only [Option.some.injEq, Prod.mk.injEq] at h
    obtain ⟨rfl, rfl⟩ := h
    refine pFun_by [.v (V.bool (y1_0)), .v (V.int .i64 (y2_0)), .b true] rfl (And.intro (w_impl_Roof_has q1 k (by omega)) (And.intro (w_impl_roofCode q2 k (by omega)) (And.intro (not_t h3) trivial))) ?_
    kernel_rfl
theorem w_spec_CellsOf {n : Nat} {a0 : Int} {a1 : Int} {a2 : Int} {a3 : Nat → Int} {a4 : Int} {a5 : Int} {z0 : List V} {z1 : Int} (h : s_spec_CellsOf n a0 a1 a2 a3 a4 a5 = some (z0, z1)) : ∀ k, n + 5 ≤ k → sem E k 72 [(V.parts [(V.int .i8 (a0)), (V.int .i8 (a1)), (V.int .u8 (a2)), (V.ints .u8 64 (a3))]), (V.parts [(V.int .i8 (a4)), (V.int .i8 (a5))])] = some (V.tup [(V.fresh 2 (z0)), (V.int .i64 (z1))]) := by
  intro k hk
  obtain ⟨k, rfl⟩ : ∃ q, k = q + 1 := ⟨k - 1, by omega⟩
  unfold s_spec_CellsOf at h
  obtain ⟨y1_0, q1, h⟩ := bnd_some h
  rcases cnd_some h with ⟨h2, h⟩ | ⟨h2, h⟩
  · obtain ⟨y3_0, q3, h⟩ := bnd_some h
    simp only [Option.some.injEq, Prod.mk.injEq] at h
    obtain ⟨rfl, rfl⟩ := h
    refine pFun_by [.v (V.int .i64 (y1_0)), .b false, .v (V.int .i64 (y3_0))] rfl (And.intro (w_spec_l01Asked q1 k (by omega)) (And.intro (Eq.refl true) (And.intro (not_f h2) (And.intro (w_spec_l01First q3 k (by omega)) (And.intro (Eq.refl true) trivial))))) ?_
    kernel_rfl
  · simp only [Option.some.injEq, Prod.mk.injEq] at h
    obtain ⟨rfl, rfl⟩ := h
    refine pFun_by [.v (V.int .i64 (y1_0)), .b true] rfl (And.intro (w_spec_l01Asked q1 k (by omega)) (And.intro (Eq.refl true) (And.intro (not_t h2) trivial))) ?_
    kernel_rfl
theorem lw_spec_SamePlaces_b0 : ∀ (n : Nat) (a0 : List V) (a1 : List V) (a2 : Int) (r : Sum (Unit) (Bool)), l_spec_SamePlaces_b0 n a0 a1 a2 = some r → ∀ k m, n + 0 ≤ k → n ≤ m → LB E 73 0 k m ⟨[(0, (V.sl (a0))), (1, (V.sl (a1))), (5, (V.int .i64 (a2)))], []⟩ = some (match r with | .inl _ => (.normal, ⟨[], []⟩) | .inr o0 => (.ret, ⟨[(4, (V.bool (o0)))], []⟩)) := by
  intro n
  induction n with
  | zero => intro a0 a1 a2 r h; cases h
  | succ n ih =>
    intro a0 a1 a2 r h k m hk hm
    obtain ⟨m, rfl⟩ : ∃ q, m = q + 1 := ⟨m - 1, by omega⟩
    replace hk : n + 0 ≤ k := by omega
    unfold l_spec_SamePlaces_b0 at h
    rcases cnd_some h with ⟨h2, h⟩ | ⟨h2, h⟩
    · obtain ⟨⟨e3_0, e3_1⟩, g3, h⟩ := bnd_some h
      replace g3 := as_Pi8_i8Q_some g3
      obtain ⟨⟨e4_0, e4_1⟩, g4, h⟩ := bnd_some h
      replace g4 := as_Pi8_i8Q_some g4
      rcases cnd_some h with ⟨h5, h⟩ | ⟨h5, h⟩
      · refine pNext_by [.b true, .v (V.parts [(V.int .i8 (e3_0)), (V.int .i8 (e3_1))]), .v (V.parts [(V.int .i8 (e4_0)), (V.int .i8 (e4_1))]), .b false] (And.intro h2 (And.intro g3 (And.intro g4 (And.intro (not_f h5) trivial)))) (ih _ _ _ _ h k m hk (by omega)) ?_
        kernel_rfl
      · cases h
        refine pLast_by [.b true, .v (V.parts [(V.int .i8 (e3_0)), (V.int .i8 (e3_1))]), .v (V.parts [(V.int .i8 (e4_0)), (V.int .i8 (e4_1))]), .b true] (And.intro h2 (And.intro g3 (And.intro g4 (And.intro (not_t h5) trivial)))) ?_
        kernel_rfl
    · cases h
      refine pLast_by [.b false] (And.intro h2 trivial) ?_
      kernel_rfl
theorem w_spec_SamePlaces {n : Nat} {a0 : List V} {a1 : List V} {z0 : Bool} (h : s_spec_SamePlaces n a0 a1 = some z0) : ∀ k, n + 1 ≤ k → sem E k 73 [(V.sl (a0)), (V.sl (a1))] = some (V.bool (z0)) := by
  intro k hk
  obtain ⟨k, rfl⟩ : ∃ q, k = q + 1 := ⟨k - 1, by omega⟩
  unfold s_spec_SamePlaces at h
  rcases cnd_some h with ⟨h1, h⟩ | ⟨h1, h⟩
  · obtain ⟨w, l6, h⟩ := bnd_some h
    rcases w with ⟨⟩ | u7_0
    · replace h := Option.some.inj h
      obtain rfl := h
      refine pFun_by [.b false, .l .normal ⟨[], []⟩] rfl (And.intro (not_f h1) (And.intro (lw_spec_SamePlaces_b0 _ _ _ _ _ l6 k k (by omega) (by omega)) trivial)) ?_
      kernel_rfl
    · replace h := Option.some.inj h
      obtain rfl := h
      refine pFun_by [.b false, .l .ret ⟨[(4, (V.bool (u7_0)))], []⟩] rfl (And.intro (not_f h1) (And.intro (lw_spec_SamePlaces_b0 _ _ _ _ _ l6 k k (by omega) (by omega)) trivial)) ?_
      kernel_rfl
  · replace h := Option.some.inj h
    obtain rfl := h
    refine pFun_by [.b true] rfl (And.intro (not_t h1) trivial) ?_
    kernel_rfl
theorem lw_spec_l00Same_b0 : ∀ (n : Nat) (a0 : List V) (a1 : List V) (a2 : Int) (r : Sum (Unit) (Bool)), l_spec_l00Same_b0 n a0 a1 a2 = some r → ∀ k m, n + 0 ≤ k → n ≤ m → LB E 166 0 k m ⟨[(0, (V.sl (a0))), (1, (V.sl (a1))), (5, (V.int .i64 (a2)))], []⟩ = some (match r with | .inl _ => (.normal, ⟨[], []⟩) | .inr o0 => (.ret, ⟨[(4, (V.bool (o0)))], []⟩)) := by
  intro n
  induction n with
  | zero => intro a0 a1 a2 r h; cases h
  | succ n ih =>
    intro a0 a1 a2 r h k m hk hm
    obtain ⟨m, rfl⟩ : ∃ q, m = q + 1 := ⟨m - 1, by omega⟩
    replace hk : n + 0 ≤ k := by omega
    unfold l_spec_l00Same_b0 at h
    rcases cnd_some h with ⟨h2, h⟩ | ⟨h2, h⟩
    · obtain ⟨e3_0, g3, h⟩ := bnd_some h
      replace g3 := as_i64_some g3
      obtain ⟨e4_0, g4, h⟩ := bnd_some h
      replace g4 := as_i64_some g4
      rcases cnd_some h with ⟨h5, h⟩ | ⟨h5, h⟩
      · refine pNext_by [.b true, .v (V.int .i64 (e3_0)), .v (V.int .i64 (e4_0)), .b false] (And.intro h2 (And.intro g3 (And.intro g4 (And.intro (not_f h5) trivial)))) (ih _ _ _ _ h k m hk (by omega)) ?_
        kernel_rfl
      · cases h
        refine pLast_by [.b true, .v (V.int .i64 (e3_0)), .v (V.int .i64 (e4_0)), .b true] (And.intro h2 (And.intro g3 (And.intro g4 (And.intro (not_t h5) trivial)))) ?_
        kernel_rfl
    · cases h
      refine pLast_by [.b false] (And.intro h2 trivial) ?_
      kernel_rfl
theorem w_spec_l00Same {n : Nat} {a0 : List V} {a1 : List V} {z0 : Bool} (h : s_spec_l00Same n a0 a1 = some z0) : ∀ k, n + 1 ≤ k → sem E k 166 [(V.sl (a0)), (V.sl (a1))] = some (V.bool (z0)) := by
  intro k hk
  obtain ⟨k, rfl⟩ : ∃ q, k = q + 1 := ⟨k - 1, by omega⟩
  unfold s_spec_l00Same at h
  rcases cnd_some h with ⟨h1, h⟩ | ⟨h1, h⟩
  · obtain ⟨w, l6, h⟩ := bnd_some h
    rcases w with ⟨⟩ | u7_0
    · replace h := Option.some.inj h
      obtain rfl := h
      refine pFun_by [.b false, .l .normal ⟨[], []⟩] rfl (And.intro (not_f h1) (And.intro (lw_spec_l00Same_b0 _ _ _ _ _ l6 k k (by omega) (by omega)) trivial)) ?_
      kernel_rfl
    · replace h := Option.some.inj h
      obtain rfl := h
      refine pFun_by [.b false, .l .ret ⟨[(4, (V.bool (u7_0)))], []⟩] rfl (And.intro (not_f h1) (And.intro (lw_spec_l00Same_b0 _ _ _ _ _ l6 k k (by omega) (by omega)) trivial)) ?_
      kernel_rfl
  · replace h := Option.some.inj h
    obtain rfl := h
    refine pFun_by [.b true] rfl (And.intro (not_t h1) trivial) ?_
    kernel_rfl
theorem w_spec_A2Same {n : Nat} {a0 : List V} {a1 : List V} {z0 : Bool} (h : s_spec_A2Same n a0 a1 = some z0) : ∀ k, n + 2 ≤ k → sem E k 74 [(V.sl (a0)), (V.sl (a1))] = some (V.bool (z0)) := by
  intro k hk
  obtain ⟨k, rfl⟩ : ∃ q, k = q + 1 := ⟨k - 1, by omega⟩
  unfold s_spec_A2Same at h
  obtain ⟨y1_0, q1, h⟩ := bnd_some h
  replace h := Option.some.inj h
  obtain rfl := h
  refine pFun_by [.v (V.bool (y1_0))] rfl (And.intro (w_spec_l00Same q1 k (by omega)) trivial) ?_
  kernel_rfl
theorem w_impl_Roof_cells {n : Nat} {a0 : Int} {a1 : Int} {a2 : Int} {a3 : Nat → Int} {z0 : Int} (h : s_impl_Roof_cells n a0 a1 a2 a3 = some z0) : ∀ k, n + 1 ≤ k → sem E k 168 [(V.parts [(V.int .i8 (a0)), (V.int .i8 (a1)), (V.int .u8 (a2)), (V.ints .u8 64 (a3))])] = some (V.int .i64 (z0)) := by
  intro k hk
  obtain ⟨k, rfl⟩ : ∃ q, k = q + 1 := ⟨k - 1, by omega⟩
  unfold s_impl_Roof_cells at h
  replace h := Option.some.inj h
  obtain rfl := h
  refine pFun_by [] rfl trivial ?_
  kernel_rfl
theorem w_impl_TileAt {n : Nat} {a0 : Int} {a1 : Int} {a2 : Int} {a3 : Nat → Int} {a4 : Int} {a5 : Int} {z0 : Int} {z1 : Int} (h : s_impl_TileAt n a0 a1 a2 a3 a4 a5 = some (z0, z1)) : ∀ k, n + 4 ≤ k → sem E k 75 [(V.parts [(V.int .i8 (a0)), (V.int .i8 (a1)), (V.int .u8 (a2)), (V.ints .u8 64 (a3))]), (V.int .i64 (a4)), (V.int .i64 (a5))] = some (V.tup [(V.int .i64 (z0)), (V.int .i64 (z1))]) := by
  intro k hk
  obtain ⟨k, rfl⟩ : ∃ q, k = q + 1 := ⟨k - 1, by omega⟩
  unfold s_impl_TileAt at h
  obtain ⟨y1_0, q1, h⟩ := bnd_some h
  rcases cnd_some h with ⟨h2, h⟩ | ⟨h2, h⟩
  · obtain ⟨y3_0, q3, h⟩ := bnd_some h
    obtain ⟨y4_0, q4, h⟩ := bnd_some h
    obtain ⟨y5_0, q5, h⟩ := bnd_some h
    rcases cnd_some h with ⟨h6, h⟩ | ⟨h6, h⟩
    · obtain ⟨y7_0, q7, h⟩ := bnd_some h
      simp only [Option.some.injEq, Prod.mk.injEq] at h
      obtain ⟨rfl, rfl⟩ := h
      refine pFun_by [.v (V.bool (y1_0)), .b true, .v (V.int .i64 (y3_0)), .v (V.bool (y4_0)), .v (V.int .i64 (y5_0)), .b false, .v (V.int .i64 (y7_0))] rfl (And.intro (w_impl_Roof_isCourse q1 k (by omega)) (And.intro h2 (And.intro (w_impl_Roof_cells q3 k (by omega)) (And.intro (w_impl_within_int64 q4 k (by omega)) (And.intro (w_impl_roofCode q5 k (by omega)) (And.intro (not_f h6) (And.intro (w_impl_Roof_tileAt q7 k (by omega)) trivial))))))) ?_
      kernel_rfl
    · simp only [Option.some.injEq, Prod.mk.injEq] at h
      obtain ⟨rfl, rfl⟩ := h
      refine pFun_by [.v (V.bool (y1_0)), .b true, .v (V.int .i64 (y3_0)), .v (V.bool (y4_0)), .v (V.int .i64 (y5_0)), .b true] rfl (And.intro (w_impl_Roof_isCourse q1 k (by omega)) (And.intro h2 (And.intro (w_impl_Roof_cells q3 k (by omega)) (And.intro (w_impl_within_int64 q4 k (by omega)) (And.intro (w_impl_roofCode q5 k (by omega)) (And.intro (not_t h6) trivial)))))) ?_
      kernel_rfl
  · obtain ⟨y8_0, q8, h⟩ := bnd_some h
    rcases cnd_some h with ⟨h9, h⟩ | ⟨h9, h⟩
    · obtain ⟨y10_0, q10, h⟩ := bnd_some h
      simp only [Option.some.injEq, Prod.mk.injEq] at h
      obtain ⟨rfl, rfl⟩ := h
      refine pFun_by [.v (V.bool (y1_0)), .b false, .v (V.int .i64 (y8_0)), .b false, .v (V.int .i64 (y10_0))] rfl (And.intro (w_impl_Roof_isCourse q1 k (by omega)) (And.intro h2 (And.intro (w_impl_roofCode q8 k (by omega)) (And.intro (not_f h9) (And.intro (w_impl_Roof_tileAt q10 k (by omega)) trivial))))) ?_
      kernel_rfl
    · simp only [Option.some.injEq, Prod.mk.injEq] at h
      obtain ⟨rfl, rfl⟩ := h
      refine pFun_by [.v (V.bool (y1_0)), .b false, .v (V.int .i64 (y8_0)), .b true] rfl (And.intro (w_impl_Roof_isCourse q1 k (by omega)) (And.intro h2 (And.intro (w_impl_roofCode q8 k (by omega)) (And.intro (not_t h9) trivial)))) ?_
      kernel_rfl
theorem lw_spec_l01Has_b0 : ∀ (n : Nat) (a0 : List V) (a1 : Int) (a2 : Int) (a3 : Int) (r : Sum (Unit) (Bool)), l_spec_l01Has_b0 n a0 a1 a2 a3 = some r → ∀ k m, n + 0 ≤ k → n ≤ m → LB E 170 0 k m ⟨[(0, (V.sl (a0))), (3, (V.ptr 7 0 (0) 2)), (5, (V.int .i64 (a1)))], [(7, .box [(V.int .i8 (a2)), (V.int .i8 (a3))])]⟩ = some (match r with | .inl _ => (.normal, ⟨[], []⟩) | .inr o0 => (.ret, ⟨[(4, (V.bool (o0)))], []⟩)) := by
  intro n
  induction n with
  | zero => intro a0 a1 a2 a3 r h; cases h
  | succ n ih =>
    intro a0 a1 a2 a3 r h k m hk hm
    obtain ⟨m, rfl⟩ : ∃ q, m = q + 1 := ⟨m - 1, by omega⟩
    replace hk : n + 0 ≤ k := by omega
    unfold l_spec_l01Has_b0 at h
    rcases cnd_some h with ⟨h1, h⟩ | ⟨h1, h⟩
    · obtain ⟨⟨e2_0, e2_1⟩, g2, h⟩ := bnd_some h
      replace g2 := as_Pi8_i8Q_some g2
      rcases cnd_some h with ⟨h3, h⟩ | ⟨h3, h⟩
      · cases h
        refine pLast_by [.b true, .v (V.parts [(V.int .i8 (e2_0)), (V.int .i8 (e2_1))]), .b true] (And.intro h1 (And.intro g2 (And.intro h3 trivial))) ?_
        kernel_rfl
      · refine pNext_by [.b true, .v (V.parts [(V.int .i8 (e2_0)), (V.int .i8 (e2_1))]), .b false] (And.intro h1 (And.intro g2 (And.intro h3 trivial))) (ih _ _ _ _ _ h k m hk (by omega)) ?_
        kernel_rfl
    · cases h
      refine pLast_by [.b false] (And.intro h1 trivial) ?_
      kernel_rfl
theorem w_spec_l01Has {n : Nat} {a0 : List V} {a1 : Int} {a2 : Int} {z0 : Bool} (h : s_spec_l01Has n a0 a1 a2 = some z0) : ∀ k, n + 1 ≤ k → sem E k 170 [(V.sl (a0)), (V.parts [(V.int .i8 (a1)), (V.int .i8 (a2))])] = some (V.bool (z0)) := by
  intro k hk
  obtain ⟨k, rfl⟩ : ∃ q, k = q + 1 := ⟨k - 1, by omega⟩
  unfold s_spec_l01Has at h
  obtain ⟨w, l4, h⟩ := bnd_some h
  rcases w with ⟨⟩ | u5_0
  · replace h := Option.some.inj h
    obtain rfl := h
    refine pFun_by [.l .normal ⟨[], []⟩] rfl (And.intro (lw_spec_l01Has_b0 _ _ _ _ _ _ l4 k k (by omega) (by omega)) trivial) ?_
    kernel_rfl
  · replace h := Option.some.inj h
    obtain rfl := h
    refine pFun_by [.l .ret ⟨[(4, (V.bool (u5_0)))], []⟩] rfl (And.intro (lw_spec_l01Has_b0 _ _ _ _ _ _ l4 k k (by omega) (by omega)) trivial) ?_
    kernel_rfl
theorem w_spec_A2HasPlace {n : Nat} {a0 : List V} {a1 : Int} {a2 : Int} {z0 : Bool} (h : s_spec_A2HasPlace n a0 a1 a2 = some z0) : ∀ k, n + 2 ≤ k → sem E k 76 [(V.sl (a0)), (V.parts [(V.int .i8 (a1)), (V.int .i8 (a2))])] = some (V.bool (z0)) := by
  intro k hk
  obtain ⟨k, rfl⟩ : ∃ q, k = q + 1 := ⟨k - 1, by omega⟩
  unfold s_spec_A2HasPlace at h
  obtain ⟨y1_0, q1, h⟩ := bnd_some h
  replace h := Option.some.inj h
  obtain rfl := h
  refine pFun_by [.v (V.bool (y1_0))] rfl (And.intro (w_spec_l01Has q1 k (by omega)) trivial) ?_
  kernel_rfl
theorem w_impl_IsShifted {n : Nat} {a0 : Int} {a1 : Int} {a2 : Int} {a3 : Nat → Int} {a4 : Int} {z0 : Bool} {z1 : Int} (h : s_impl_IsShifted n a0 a1 a2 a3 a4 = some (z0, z1)) : ∀ k, n + 4 ≤ k → sem E k 77 [(V.parts [(V.int .i8 (a0)), (V.int .i8 (a1)), (V.int .u8 (a2)), (V.ints .u8 64 (a3))]), (V.int .i64 (a4))] = some (V.tup [(V.bool (z0)), (V.int .i64 (z1))]) := by
  intro k hk
  obtain ⟨k, rfl⟩ : ∃ q, k = q + 1 := ⟨k - 1, by omega⟩
  unfold s_impl_IsShifted at h
  obtain ⟨y1_0, q1, h⟩ := bnd_some h
  obtain ⟨y2_0, q2, h⟩ := bnd_some h
  rcases cnd_some h with ⟨h3, h⟩ | ⟨h3, h⟩
  · obtain ⟨y4_0, q4, h⟩ := bnd_some h
    simp only [Option.some.injEq, Prod.mk.injEq] at h
    obtain ⟨rfl, rfl⟩ := h
    refine pFun_by [.v (V.bool (y1_0)), .v (V.int .i64 (y2_0)), .b false, .v (V.int .i64 (y4_0))] rfl (And.intro (w_impl_Roof_isCourse q1 k (by omega)) (And.intro (w_impl_roofCode q2 k (by omega)) (And.intro (not_f h3) (And.intro (w_impl_Roof_shift q4 k (by omega)) trivial)))) ?_
    kernel_rfl
  · simp only [Option.some.injEq, Prod.mk.injEq] at h
    obtain ⟨rfl, rfl⟩ := h
    refine pFun_by [.v (V.bool (y1_0)), .v (V.int .i64 (y2_0)), .b true] rfl (And.intro (w_impl_Roof_isCourse q1 k (by omega)) (And.intro (w_impl_roofCode q2 k (by omega)) (And.intro (not_t h3) trivial))) ?_
    kernel_rfl
theorem w_spec_l01Told {n : Nat} {a0 : Int} {a1 : Int} {a2 : Int} {a3 : Nat → Int} {a4 : Bool} {z0 : Int} (h : s_spec_l01Told n a0 a1 a2 a3 a4 = some z0) : ∀ k, n + 4 ≤ k → sem E k 172 [(V.ref [(V.int .i8 (a0)), (V.int .i8 (a1)), (V.int .u8 (a2)), (V.ints .u8 64 (a3))] 0 (0) 67), (V.bool (a4))] = some (V.int .i64 (z0)) := by
  intro k hk
  obtain ⟨k, rfl⟩ : ∃ q, k = q + 1 := ⟨k - 1, by omega⟩
  unfold s_spec_l01Told at h
  obtain ⟨y1_0, q1, h⟩ := bnd_some h
  rcases cnd_some h with ⟨h2, h⟩ | ⟨h2, h⟩
  · rcases cnd_some h with ⟨h3, h⟩ | ⟨h3, h⟩
    · replace h := Option.some.inj h
      obtain rfl := h
      refine pFun_by [.v (V.bool (y1_0)), .b false, .b false] rfl (And.intro (w_spec_l01Ok q1 k (by omega)) (And.intro (not_f h2) (And.intro (not_f h3) trivial))) ?_
      kernel_rfl
    · replace h := Option.some.inj h
      obtain rfl := h
      refine pFun_by [.v (V.bool (y1_0)), .b false, .b true] rfl (And.intro (w_spec_l01Ok q1 k (by omega)) (And.intro (not_f h2) (And.intro (not_t h3) trivial))) ?_
      kernel_rfl
  · replace h := Option.some.inj h
    obtain rfl := h
    refine pFun_by [.v (V.bool (y1_0)), .b true] rfl (And.intro (w_spec_l01Ok q1 k (by omega)) (And.intro (not_t h2) trivial)) ?_
    kernel_rfl
theorem w_spec_l01Cells {n : Nat} {a0 : Int} {a1 : Int} {a2 : Int} {a3 : Nat → Int} {z0 : Int} (h : s_spec_l01Cells n a0 a1 a2 a3 = some z0) : ∀ k, n + 1 ≤ k → sem E k 174 [(V.ref [(V.int .i8 (a0)), (V.int .i8 (a1)), (V.int .u8 (a2)), (V.ints .u8 64 (a3))] 0 (0) 67)] = some (V.int .i64 (z0)) := by
  intro k hk
  obtain ⟨k, rfl⟩ : ∃ q, k = q + 1 := ⟨k - 1, by omega⟩
  unfold s_spec_l01Cells at h
  replace h := Option.some.inj h
  obtain rfl := h
  refine pFun_by [] rfl trivial ?_
  kernel_rfl
theorem w_spec_TileAt {n : Nat} {a0 : Int} {a1 : Int} {a2 : Int} {a3 : Nat → Int} {a4 : Int} {a5 : Int} {z0 : Int} {z1 : Int} (h : s_spec_TileAt n a0 a1 a2 a3 a4 a5 = some (z0, z1)) : ∀ k, n + 5 ≤ k → sem E k 78 [(V.parts [(V.int .i8 (a0)), (V.int .i8 (a1)), (V.int .u8 (a2)), (V.ints .u8 64 (a3))]), (V.int .i64 (a4)), (V.int .i64 (a5))] = some (V.tup [(V.int .i64 (z0)), (V.int .i64 (z1))]) := by
  intro k hk
  obtain ⟨k, rfl⟩ : ∃ q, k = q + 1 := ⟨k - 1, by omega⟩
  unfold s_spec_TileAt at h
  obtain ⟨y1_0, q1, h⟩ := bnd_some h
  obtain ⟨y2_0, q2, h⟩ := bnd_some h
  rcases cnd_some h with ⟨h3, h⟩ | ⟨h3, h⟩
  · obtain ⟨y4_0, q4, h⟩ := bnd_some h
    obtain ⟨y5_0, q5, h⟩ := bnd_some h
    rcases cnd_some h with ⟨h6, h⟩ | ⟨h6, h⟩
    · obtain ⟨y7_0, q7, h⟩ := bnd_some h
      simp only [Option.some.injEq, Prod.mk.injEq] at h
      obtain ⟨rfl, rfl⟩ := h
      refine pFun_by [.v (V.bool (y1_0)), .v (V.int .i64 (y2_0)), .b false, .v (V.int .i64 (y4_0)), .v (V.bool (y5_0)), .b false, .v (V.int .i64 (y7_0))] rfl (And.intro (w_spec_l01Course q1 k (by omega)) (And.intro (Eq.refl true) (And.intro (w_spec_l01Told q2 k (by omega)) (And.intro (Eq.refl true) (And.intro (not_f h3) (And.intro (w_spec_l01Cells q4 k (by omega)) (And.intro (Eq.refl true) (And.intro (w_spec_l00In q5 k (by omega)) (And.intro (not_f h6) (And.intro (w_spec_l01Tile q7 k (by omega)) (And.intro (Eq.refl true) trivial))))))))))) ?_
      kernel_rfl
    · simp only [Option.some.injEq, Prod.mk.injEq] at h
      obtain ⟨rfl, rfl⟩ := h
      refine pFun_by [.v (V.bool (y1_0)), .v (V.int .i64 (y2_0)), .b false, .v (V.int .i64 (y4_0)), .v (V.bool (y5_0)), .b true] rfl (And.intro (w_spec_l01Course q1 k (by omega)) (And.intro (Eq.refl true) (And.intro (w_spec_l01Told q2 k (by omega)) (And.intro (Eq.refl true) (And.intro (not_f h3) (And.intro (w_spec_l01Cells q4 k (by omega)) (And.intro (Eq.refl true) (And.intro (w_spec_l00In q5 k (by omega)) (And.intro (not_t h6) trivial))))))))) ?_
      kernel_rfl
  · simp only [Option.some.injEq, Prod.mk.injEq] at h
    obtain ⟨rfl, rfl⟩ := h
    refine pFun_by [.v (V.bool (y1_0)), .v (V.int .i64 (y2_0)), .b true] rfl (And.intro (w_spec_l01Course q1 k (by omega)) (And.intro (Eq.refl true) (And.intro (w_spec_l01Told q2 k (by omega)) (And.intro (Eq.refl true) (And.intro (not_t h3) trivial))))) ?_
    kernel_rfl
theorem w_spec_A2Place {n : Nat} {a0 : List V} {a1 : Int} {a2 : Int} {a3 : Int} {a4 : Nat → Int} {z0 : Int} {z1 : Int} (h : s_spec_A2Place n a0 a1 a2 a3 a4 = some (z0, z1)) : ∀ k, n + 3 ≤ k → sem E k 79 [(V.sl (a0)), (V.parts [(V.int .i8 (a1)), (V.int .i8 (a2)), (V.int .u8 (a3)), (V.ints .u8 64 (a4))])] = some (V.parts [(V.int .i8 (z0)), (V.int .i8 (z1))]) := by
  intro k hk
  obtain ⟨k, rfl⟩ : ∃ q, k = q + 1 := ⟨k - 1, by omega⟩
  unfold s_spec_A2Place at h
  obtain ⟨⟨y1_0, y1_1, y1_2⟩, q1, h⟩ := bnd_some h
  obtain ⟨⟨y2_0, y2_1, y2_2, y2_3⟩, q2, h⟩ := bnd_some h
  obtain ⟨⟨y3_0, y3_1, y3_2, y3_3⟩, q3, h⟩ := bnd_some h
  simp only [Option.some.injEq, Prod.mk.injEq] at h
  obtain ⟨rfl, rfl⟩ := h
  refine pFun_by [.v (V.ref [(V.sl (y1_0)), (V.int .i64 (y1_1)), (V.int .u64 (y1_2))] 0 (0) 3), .v (V.tup [(V.int .i64 (y2_0)), (V.parts [(V.sl (y2_1)), (V.int .i64 (y2_2)), (V.int .u64 (y2_3))])]), .v (V.tup [(V.int .i64 (y3_0)), (V.parts [(V.sl (y3_1)), (V.int .i64 (y3_2)), (V.int .u64 (y3_3))])])] rfl (And.intro (w_spec_l00From q1 k (by omega)) (And.intro (w_pspec_l00Src_pick q2 k (by omega)) (And.intro (w_pspec_l00Src_pick q3 k (by omega)) trivial))) ?_
  kernel_rfl
theorem w_laws_a2At {n : Nat} {a0 : List V} {a1 : Int} {a2 : Int} {z0 : Int} (h : s_laws_a2At n a0 a1 a2 = some z0) : ∀ k, n + 1 ≤ k → sem E k 80 [(V.sl (a0)), (V.int .i64 (a1)), (V.int .i64 (a2))] = some (V.int .i64 (z0)) := by
  intro k hk
  obtain ⟨k, rfl⟩ : ∃ q, k = q + 1 := ⟨k - 1, by omega⟩
  unfold s_laws_a2At at h
  rcases cnd_some h with ⟨h1, h⟩ | ⟨h1, h⟩
  · replace h := Option.some.inj h
    obtain rfl := h
    refine pFun_by [.b true, .b true] rfl (And.intro h1 (And.intro (Eq.refl true) trivial)) ?_
    kernel_rfl
  · rcases cnd_some h with ⟨h2, h⟩ | ⟨h2, h⟩
    · replace h := Option.some.inj h
      obtain rfl := h
      refine pFun_by [.b false, .b true] rfl (And.intro h1 (And.intro h2 trivial)) ?_
      kernel_rfl
    · obtain ⟨e3_0, g3, h⟩ := bnd_some h
      replace g3 := as_u8_some g3
      obtain ⟨c4, h⟩ := chk_some h
      replace h := Option.some.inj h
      obtain rfl := h
      refine pFun_by [.b false, .b false, .v (V.int .u8 (e3_0))] rfl (And.intro h1 (And.intro h2 (And.intro g3 (And.intro c4 trivial)))) ?_
      kernel_rfl
theorem w_impl_isKind {n : Nat} {a0 : Int} {z0 : Bool} (h : s_impl_isKind n a0 = some z0) : ∀ k, n + 2 ≤ k → sem E k 177 [(V.int .i64 (a0))] = some (V.bool (z0)) := by
  intro k hk
  obtain ⟨k, rfl⟩ : ∃ q, k = q + 1 := ⟨k - 1, by omega⟩
  unfold s_impl_isKind at h
  obtain ⟨y1_0, q1, h⟩ := bnd_some h
  replace h := Option.some.inj h
  obtain rfl := h
  refine pFun_by [.v (V.bool (y1_0))] rfl (And.intro (w_impl_within_int64 q1 k (by omega)) trivial) ?_
  kernel_rfl
theorem w_impl_Roof_with {n : Nat} {a0 : Int} {a1 : Int} {a2 : Int} {a3 : Nat → Int} {a4 : Int} {a5 : Int} {a6 : Int} {z0 : Int} {z1 : Int} {z2 : Int} {z3 : Nat → Int} (h : s_impl_Roof_with n a0 a1 a2 a3 a4 a5 a6 = some (z0, z1, z2, z3)) : ∀ k, n + 1 ≤ k → sem E k 178 [(V.parts [(V.int .i8 (a0)), (V.int .i8 (a1)), (V.int .u8 (a2)), (V.ints .u8 64 (a3))]), (V.parts [(V.int .i8 (a4)), (V.int .i8 (a5))]), (V.int .u8 (a6))] = some (V.parts [(V.int .i8 (z0)), (V.int .i8 (z1)), (V.int .u8 (z2)), (V.ints .u8 64 (z3))]) := by
  intro k hk
  obtain ⟨k, rfl⟩ : ∃ q, k = q + 1 := ⟨k - 1, by omega⟩
  unfold s_impl_Roof_with at h
  obtain ⟨c1, h⟩ := chk_some h
  obtain ⟨c2, h⟩ := chk_some h
  simp only [Option.some.injEq, Prod.mk.injEq] at h
  obtain ⟨rfl, rfl, rfl, rfl⟩ := h
  refine pFun_by [] rfl (And.intro c1 (And.intro c2 trivial)) ?_
  kernel_rfl
theorem w_impl_SetTile {n : Nat} {a0 : Int} {a1 : Int} {a2 : Int} {a3 : Nat → Int} {a4 : Int} {a5 : Int} {a6 : Int} {z0 : Int} {z1 : Int} {z2 : Int} {z3 : Nat → Int} {z4 : Int} (h : s_impl_SetTile n a0 a1 a2 a3 a4 a5 a6 = some (z0, z1, z2, z3, z4)) : ∀ k, n + 4 ≤ k → sem E k 81 [(V.parts [(V.int .i8 (a0)), (V.int .i8 (a1)), (V.int .u8 (a2)), (V.ints .u8 64 (a3))]), (V.parts [(V.int .i8 (a4)), (V.int .i8 (a5))]), (V.int .i64 (a6))] = some (V.tup [(V.parts [(V.int .i8 (z0)), (V.int .i8 (z1)), (V.int .u8 (z2)), (V.ints .u8 64 (z3))]), (V.int .i64 (z4))]) := by
  intro k hk
  obtain ⟨k, rfl⟩ : ∃ q, k = q + 1 := ⟨k - 1, by omega⟩
  unfold s_impl_SetTile at h
  obtain ⟨y1_0, q1, h⟩ := bnd_some h
  rcases cnd_some h with ⟨h2, h⟩ | ⟨h2, h⟩
  · obtain ⟨y3_0, q3, h⟩ := bnd_some h
    obtain ⟨y4_0, q4, h⟩ := bnd_some h
    rcases cnd_some h with ⟨h5, h⟩ | ⟨h5, h⟩
    · obtain ⟨⟨y6_0, y6_1, y6_2, y6_3⟩, q6, h⟩ := bnd_some h
      simp only [Option.some.injEq, Prod.mk.injEq] at h
      obtain ⟨rfl, rfl, rfl, rfl, rfl⟩ := h
      refine pFun_by [.v (V.bool (y1_0)), .b true, .v (V.bool (y3_0)), .v (V.int .i64 (y4_0)), .b false, .v (V.parts [(V.int .i8 (y6_0)), (V.int .i8 (y6_1)), (V.int .u8 (y6_2)), (V.ints .u8 64 (y6_3))])] rfl (And.intro (w_impl_Roof_has q1 k (by omega)) (And.intro h2 (And.intro (w_impl_isKind q3 k (by omega)) (And.intro (w_impl_roofCode q4 k (by omega)) (And.intro (not_f h5) (And.intro (w_impl_Roof_with q6 k (by omega)) trivial)))))) ?_
      kernel_rfl
    · simp only [Option.some.injEq, Prod.mk.injEq] at h
      obtain ⟨rfl, rfl, rfl, rfl, rfl⟩ := h
      refine pFun_by [.v (V.bool (y1_0)), .b true, .v (V.bool (y3_0)), .v (V.int .i64 (y4_0)), .b true] rfl (And.intro (w_impl_Roof_has q1 k (by omega)) (And.intro h2 (And.intro (w_impl_isKind q3 k (by omega)) (And.intro (w_impl_roofCode q4 k (by omega)) (And.intro (not_t h5) trivial))))) ?_
      kernel_rfl
  · obtain ⟨y7_0, q7, h⟩ := bnd_some h
    rcases cnd_some h with ⟨h8, h⟩ | ⟨h8, h⟩
    · obtain ⟨⟨y9_0, y9_1, y9_2, y9_3⟩, q9, h⟩ := bnd_some h
      simp only [Option.some.injEq, Prod.mk.injEq] at h
      obtain ⟨rfl, rfl, rfl, rfl, rfl⟩ := h
      refine pFun_by [.v (V.bool (y1_0)), .b false, .v (V.int .i64 (y7_0)), .b false, .v (V.parts [(V.int .i8 (y9_0)), (V.int .i8 (y9_1)), (V.int .u8 (y9_2)), (V.ints .u8 64 (y9_3))])] rfl (And.intro (w_impl_Roof_has q1 k (by omega)) (And.intro h2 (And.intro (w_impl_roofCode q7 k (by omega)) (And.intro (not_f h8) (And.intro (w_impl_Roof_with q9 k (by omega)) trivial))))) ?_
      kernel_rfl
    · simp only [Option.some.injEq, Prod.mk.injEq] at h
      obtain ⟨rfl, rfl, rfl, rfl, rfl⟩ := h
      refine pFun_by [.v (V.bool (y1_0)), .b false, .v (V.int .i64 (y7_0)), .b true] rfl (And.intro (w_impl_Roof_has q1 k (by omega)) (And.intro h2 (And.intro (w_impl_roofCode q7 k (by omega)) (And.intro (not_t h8) trivial)))) ?_
      kernel_rfl
theorem w_spec_SetTile {n : Nat} {a0 : Int} {a1 : Int} {a2 : Int} {a3 : Nat → Int} {a4 : Int} {a5 : Int} {a6 : Int} {z0 : Int} {z1 : Int} {z2 : Int} {z3 : Nat → Int} {z4 : Int} (h : s_spec_SetTile n a0 a1 a2 a3 a4 a5 a6 = some (z0, z1, z2, z3, z4)) : ∀ k, n + 5 ≤ k → sem E k 82 [(V.parts [(V.int .i8 (a0)), (V.int .i8 (a1)), (V.int .u8 (a2)), (V.ints .u8 64 (a3))]), (V.parts [(V.int .i8 (a4)), (V.int .i8 (a5))]), (V.int .i64 (a6))] = some (V.tup [(V.parts [(V.int .i8 (z0)), (V.int .i8 (z1)), (V.int .u8 (z2)), (V.ints .u8 64 (z3))]), (V.int .i64 (z4))]) := by
  intro k hk
  obtain ⟨k, rfl⟩ : ∃ q, k = q + 1 := ⟨k - 1, by omega⟩
  unfold s_spec_SetTile at h
  obtain ⟨y1_0, q1, h⟩ := bnd_some h
  obtain ⟨y2_0, q2, h⟩ := bnd_some h
  rcases cnd_some h with ⟨h3, h⟩ | ⟨h3, h⟩
  · obtain ⟨c4, h⟩ := chk_some h
    obtain ⟨c5, h⟩ := chk_some h
    simp only [Option.some.injEq, Prod.mk.injEq] at h
    obtain ⟨rfl, rfl, rfl, rfl, rfl⟩ := h
    refine pFun_by [.v (V.bool (y1_0)), .v (V.int .i64 (y2_0)), .b false] rfl (And.intro (w_spec_l01Kind q1 k (by omega)) (And.intro (w_spec_l01Asked q2 k (by omega)) (And.intro (Eq.refl true) (And.intro (not_f h3) (And.intro c4 (And.intro c5 trivial)))))) ?_
    kernel_rfl
  · simp only [Option.some.injEq, Prod.mk.injEq] at h
    obtain ⟨rfl, rfl, rfl, rfl, rfl⟩ := h
    refine pFun_by [.v (V.bool (y1_0)), .v (V.int .i64 (y2_0)), .b true] rfl (And.intro (w_spec_l01Kind q1 k (by omega)) (And.intro (w_spec_l01Asked q2 k (by omega)) (And.intro (Eq.refl true) (And.intro (not_t h3) trivial)))) ?_
    kernel_rfl
theorem w_impl_Roof_isAlike {n : Nat} {a0 : Int} {a1 : Int} {a2 : Int} {a3 : Nat → Int} {a4 : Int} {a5 : Int} {a6 : Int} {a7 : Nat → Int} {z0 : Bool} (h : s_impl_Roof_isAlike n a0 a1 a2 a3 a4 a5 a6 a7 = some z0) : ∀ k, n + 1 ≤ k → sem E k 181 [(V.parts [(V.int .i8 (a0)), (V.int .i8 (a1)), (V.int .u8 (a2)), (V.ints .u8 64 (a3))]), (V.parts [(V.int .i8 (a4)), (V.int .i8 (a5)), (V.int .u8 (a6)), (V.ints .u8 64 (a7))])] = some (V.bool (z0)) := by
  intro k hk
  obtain ⟨k, rfl⟩ : ∃ q, k = q + 1 := ⟨k - 1, by omega⟩
  unfold s_impl_Roof_isAlike at h
  rcases cnd_some h with ⟨h1, h⟩ | ⟨h1, h⟩
  · rcases cnd_some h with ⟨h2, h⟩ | ⟨h2, h⟩
    · replace h := Option.some.inj h
      obtain rfl := h
      refine pFun_by [.b true, .b true] rfl (And.intro h1 (And.intro h2 trivial)) ?_
      kernel_rfl
    · replace h := Option.some.inj h
      obtain rfl := h
      refine pFun_by [.b true, .b false] rfl (And.intro h1 (And.intro h2 trivial)) ?_
      kernel_rfl
  · replace h := Option.some.inj h
    obtain rfl := h
    refine pFun_by [.b false, .b false] rfl (And.intro h1 (And.intro (Eq.refl false) trivial)) ?_
    kernel_rfl
theorem w_impl_Roof_kind {n : Nat} {a0 : Int} {a1 : Int} {a2 : Int} {a3 : Nat → Int} {a4 : Int} {a5 : Int} {z0 : Int} (h : s_impl_Roof_kind n a0 a1 a2 a3 a4 a5 = some z0) : ∀ k, n + 1 ≤ k → sem E k 184 [(V.parts [(V.int .i8 (a0)), (V.int .i8 (a1)), (V.int .u8 (a2)), (V.ints .u8 64 (a3))]), (V.parts [(V.int .i8 (a4)), (V.int .i8 (a5))])] = some (V.int .u8 (z0)) := by
  intro k hk
  obtain ⟨k, rfl⟩ : ∃ q, k = q + 1 := ⟨k - 1, by omega⟩
  unfold s_impl_Roof_kind at h
  obtain ⟨c1, h⟩ := chk_some h
  obtain ⟨c2, h⟩ := chk_some h
  replace h := Option.some.inj h
  obtain rfl := h
  refine pFun_by [] rfl (And.intro c1 (And.intro c2 trivial)) ?_
  kernel_rfl
theorem w_impl_DifferIn_1 {n : Nat} {a0 : Int} {a1 : Int} {a2 : Int} {a3 : Int} {a4 : Int} {a5 : Nat → Int} {a6 : Int} {a7 : Int} {a8 : Int} {a9 : Nat → Int} {z0 : Bool} (h : s_impl_DifferIn_1 n a0 a1 a2 a3 a4 a5 a6 a7 a8 a9 = some z0) : ∀ k, n + 2 ≤ k → sem E k 183 [(V.parts [(V.int .i8 (a0)), (V.int .i8 (a1))]), (V.ref [(V.int .i8 (a2)), (V.int .i8 (a3)), (V.int .u8 (a4)), (V.ints .u8 64 (a5))] 0 (0) 67), (V.ref [(V.int .i8 (a6)), (V.int .i8 (a7)), (V.int .u8 (a8)), (V.ints .u8 64 (a9))] 0 (0) 67)] = some (V.bool (z0)) := by
  intro k hk
  obtain ⟨k, rfl⟩ : ∃ q, k = q + 1 := ⟨k - 1, by omega⟩
  unfold s_impl_DifferIn_1 at h
  obtain ⟨y1_0, q1, h⟩ := bnd_some h
  obtain ⟨y2_0, q2, h⟩ := bnd_some h
  replace h := Option.some.inj h
  obtain rfl := h
  refine pFun_by [.v (V.int .u8 (y1_0)), .v (V.int .u8 (y2_0))] rfl (And.intro (w_impl_Roof_kind q1 k (by omega)) (And.intro (w_impl_Roof_kind q2 k (by omega)) trivial)) ?_
  kernel_rfl
theorem lw_impl_Roof_places__DifferIn_1_b2 : ∀ (n : Nat) (a0 : Int) (a1 : Int) (a2 : Int) (a3 : Nat → Int) (a4 : Int) (a5 : Int) (a6 : Int) (a7 : Nat → Int) (a8 : Int) (a9 : Int) (a10 : Int) (a11 : Int) (a12 : Int) (a13 : Int) (a14 : Int) (a15 : Int) (a16 : Nat → Int) (a17 : List V) (r : Int × Int × Int × (Nat → Int) × Int × Int × Int × (Nat → Int) × Int × Int × Int × Int × Int × (Nat → Int) × List V), l_impl_Roof_places__DifferIn_1_b2 n a0 a1 a2 a3 a4 a5 a6 a7 a8 a9 a10 a11 a12 a13 a14 a15 a16 a17 = some r → ∀ k m, n + 2 ≤ k → n ≤ m → LB E 182 2 k m ⟨[(1, (V.clo 183 [(V.ref [(V.int .i8 (a0)), (V.int .i8 (a1)), (V.int .u8 (a2)), (V.ints .u8 64 (a3))] 0 (0) 67), (V.ref [(V.int .i8 (a4)), (V.int .i8 (a5)), (V.int .u8 (a6)), (V.ints .u8 64 (a7))] 0 (0) 67)])), (2, (V.ptr 5 0 (0) 67)), (5, (V.row 11)), (6, (V.int .i8 (a8))), (9, (V.int .i8 (a9))), (10, (V.int .i8 (a10))), (14, (V.int .i8 (a11))), (15, (V.int .i8 (a12)))], [(5, .box [(V.int .i8 (a13)), (V.int .i8 (a14)), (V.int .u8 (a15)), (V.ints .u8 64 (a16))]), (11, .row 79 (a17))]⟩ = some (match r with | (o0, o1, o2, o3, o4, o5, o6, o7, o8, o9, o10, o11, o12, o13, o14) => (.normal, ⟨[(1, (V.clo 183 [(V.ref [(V.int .i8 (o0)), (V.int .i8 (o1)), (V.int .u8 (o2)), (V.ints .u8 64 (o3))] 0 (0) 67), (V.ref [(V.int .i8 (o4)), (V.int .i8 (o5)), (V.int .u8 (o6)), (V.ints .u8 64 (o7))] 0 (0) 67)])), (2, (V.ptr 5 0 (0) 67)), (5, (V.row 11)), (9, (V.int .i8 (o8))), (10, (V.int .i8 (o9)))], [(5, .box [(V.int .i8 (o10)), (V.int .i8 (o11)), (V.int .u8 (o12)), (V.ints .u8 64 (o13))]), (11, .row 79 (o14))]⟩)) := by
  intro n
  induction n with
  | zero => intro a0 a1 a2 a3 a4 a5 a6 a7 a8 a9 a10 a11 a12 a13 a14 a15 a16 a17 r h; cases h
  | succ n ih =>
    intro a0 a1 a2 a3 a4 a5 a6 a7 a8 a9 a10 a11 a12 a13 a14 a15 a16 a17 r h k m hk hm
    obtain ⟨m, rfl⟩ : ∃ q, m = q + 1 := ⟨m - 1, by omega⟩
    replace hk : n + 2 ≤ k := by omega
    unfold l_impl_Roof_places__DifferIn_1_b2 at h
    rcases cnd_some h with ⟨h2, h⟩ | ⟨h2, h⟩
    · obtain ⟨y3_0, q3, h⟩ := bnd_some h
      rcases cnd_some h with ⟨h4, h⟩ | ⟨h4, h⟩
      · obtain ⟨c5, h⟩ := chk_some h
        refine pNext_by [.b true, .v (V.bool (y3_0)), .b true] (And.intro h2 (And.intro (w_impl_DifferIn_1 q3 k (by omega)) (And.intro h4 (And.intro c5 (And.intro (Eq.refl true) trivial))))) (ih _ _ _ _ _ _ _ _ _ _ _ _ _ _ _ _ _ _ _ h k m hk (by omega)) ?_
        kernel_rfl
      · refine pNext_by [.b true, .v (V.bool (y3_0)), .b false] (And.intro h2 (And.intro (w_impl_DifferIn_1 q3 k (by omega)) (And.intro h4 trivial))) (ih _ _ _ _ _ _ _ _ _ _ _ _ _ _ _ _ _ _ _ h k m hk (by omega)) ?_
        kernel_rfl
    · cases h
      refine pLast_by [.b false] (And.intro h2 trivial) ?_
      kernel_rfl
theorem lw_impl_Roof_places__DifferIn_1_b0 : ∀ (n : Nat) (a0 : Int) (a1 : Int) (a2 : Int) (a3 : Nat → Int) (a4 : Int) (a5 : Int) (a6 : Int) (a7 : Nat → Int) (a8 : Int) (a9 : Int) (a10 : Int) (a11 : Int) (a12 : Int) (a13 : Nat → Int) (a14 : List V) (r : List V), l_impl_Roof_places__DifferIn_1_b0 n a0 a1 a2 a3 a4 a5 a6 a7 a8 a9 a10 a11 a12 a13 a14 = some r → ∀ k m, n + 2 ≤ k → n ≤ m → LB E 182 0 k m ⟨[(1, (V.clo 183 [(V.ref [(V.int .i8 (a0)), (V.int .i8 (a1)), (V.int .u8 (a2)), (V.ints .u8 64 (a3))] 0 (0) 67), (V.ref [(V.int .i8 (a4)), (V.int .i8 (a5)), (V.int .u8 (a6)), (V.ints .u8 64 (a7))] 0 (0) 67)])), (2, (V.ptr 5 0 (0) 67)), (5, (V.row 11)), (9, (V.int .i8 (a8))), (10, (V.int .i8 (a9)))], [(5, .box [(V.int .i8 (a10)), (V.int .i8 (a11)), (V.int .u8 (a12)), (V.ints .u8 64 (a13))]), (11, .row 79 (a14))]⟩ = some (match r with | o0 => (.normal, ⟨[(5, (V.row 11))], [(11, .row 79 (o0))]⟩)) := by
  intro n
  induction n with
  | zero => intro a0 a1 a2 a3 a4 a5 a6 a7 a8 a9 a10 a11 a12 a13 a14 r h; cases h
  | succ n ih =>
    intro a0 a1 a2 a3 a4 a5 a6 a7 a8 a9 a10 a11 a12 a13 a14 r h k m hk hm
    obtain ⟨m, rfl⟩ : ∃ q, m = q + 1 := ⟨m - 1, by omega⟩
    replace hk : n + 2 ≤ k := by omega
    unfold l_impl_Roof_places__DifferIn_1_b0 at h
    rcases cnd_some h with ⟨h1, h⟩ | ⟨h1, h⟩
    · obtain ⟨⟨u6_0, u6_1, u6_2, u6_3, u6_4, u6_5, u6_6, u6_7, u6_8, u6_9, u6_10, u6_11, u6_12, u6_13, u6_14⟩, l6, h⟩ := bnd_some h
      refine pNext_by [.b true, .l .normal ⟨[(1, (V.clo 183 [(V.ref [(V.int .i8 (u6_0)), (V.int .i8 (u6_1)), (V.int .u8 (u6_2)), (V.ints .u8 64 (u6_3))] 0 (0) 67), (V.ref [(V.int .i8 (u6_4)), (V.int .i8 (u6_5)), (V.int .u8 (u6_6)), (V.ints .u8 64 (u6_7))] 0 (0) 67)])), (2, (V.ptr 5 0 (0) 67)), (5, (V.row 11)), (9, (V.int .i8 (u6_8))), (10, (V.int .i8 (u6_9)))], [(5, .box [(V.int .i8 (u6_10)), (V.int .i8 (u6_11)), (V.int .u8 (u6_12)), (V.ints .u8 64 (u6_13))]), (11, .row 79 (u6_14))]⟩] (And.intro h1 (And.intro (lw_impl_Roof_places__DifferIn_1_b2 _ _ _ _ _ _ _ _ _ _ _ _ _ _ _ _ _ _ _ _ l6 k k (by omega) (by omega)) trivial)) (ih _ _ _ _ _ _ _ _ _ _ _ _ _ _ _ _ h k m hk (by omega)) ?_
      kernel_rfl
    · cases h
      refine pLast_by [.b false] (And.intro h1 trivial) ?_
      kernel_rfl
theorem w_impl_Roof_places__DifferIn_1 {n : Nat} {a0 : Int} {a1 : Int} {a2 : Int} {a3 : Nat → Int} {a4 : Int} {a5 : Int} {a6 : Int} {a7 : Nat → Int} {a8 : Int} {a9 : Int} {a10 : Int} {a11 : Nat → Int} {z0 : List V} (h : s_impl_Roof_places__DifferIn_1 n a0 a1 a2 a3 a4 a5 a6 a7 a8 a9 a10 a11 = some z0) : ∀ k, n + 3 ≤ k → sem E k 182 [(V.parts [(V.int .i8 (a0)), (V.int .i8 (a1)), (V.int .u8 (a2)), (V.ints .u8 64 (a3))]), (V.clo 183 [(V.ref [(V.int .i8 (a4)), (V.int .i8 (a5)), (V.int .u8 (a6)), (V.ints .u8 64 (a7))] 0 (0) 67), (V.ref [(V.int .i8 (a8)), (V.int .i8 (a9)), (V.int .u8 (a10)), (V.ints .u8 64 (a11))] 0 (0) 67)])] = some (V.fresh 79 (z0)) := by
  intro k hk
  obtain ⟨k, rfl⟩ : ∃ q, k = q + 1 := ⟨k - 1, by omega⟩
  unfold s_impl_Roof_places__DifferIn_1 at h
  obtain ⟨u8_0, l8, h⟩ := bnd_some h
  replace h := Option.some.inj h
  obtain rfl := h
  refine pFun_by [.l .normal ⟨[(5, (V.row 11))], [(11, .row 79 (u8_0))]⟩] rfl (And.intro (lw_impl_Roof_places__DifferIn_1_b0 _ _ _ _ _ _ _ _ _ _ _ _ _ _ _ _ _ l8 k k (by omega) (by omega)) trivial) ?_
  kernel_rfl
theorem w_impl_DifferIn {n : Nat} {a0 : Int} {a1 : Int} {a2 : Int} {a3 : Nat → Int} {a4 : Int} {a5 : Int} {a6 : Int} {a7 : Nat → Int} {z0 : List V} {z1 : Int} (h : s_impl_DifferIn n a0 a1 a2 a3 a4 a5 a6 a7 = some (z0, z1)) : ∀ k, n + 4 ≤ k → sem E k 83 [(V.parts [(V.int .i8 (a0)), (V.int .i8 (a1)), (V.int .u8 (a2)), (V.ints .u8 64 (a3))]), (V.parts [(V.int .i8 (a4)), (V.int .i8 (a5)), (V.int .u8 (a6)), (V.ints .u8 64 (a7))])] = some (V.tup [(V.fresh 79 (z0)), (V.int .i64 (z1))]) := by
  intro k hk
  obtain ⟨k, rfl⟩ : ∃ q, k = q + 1 := ⟨k - 1, by omega⟩
  unfold s_impl_DifferIn at h
  obtain ⟨y1_0, q1, h⟩ := bnd_some h
  rcases cnd_some h with ⟨h2, h⟩ | ⟨h2, h⟩
  · obtain ⟨y3_0, q3, h⟩ := bnd_some h
    rcases cnd_some h with ⟨h4, h⟩ | ⟨h4, h⟩
    · obtain ⟨y5_0, q5, h⟩ := bnd_some h
      rcases cnd_some h with ⟨h6, h⟩ | ⟨h6, h⟩
      · obtain ⟨y7_0, q7, h⟩ := bnd_some h
        obtain ⟨c8, h⟩ := chk_some h
        simp only [Option.some.injEq, Prod.mk.injEq] at h
        obtain ⟨rfl, rfl⟩ := h
        refine pFun_by [.v (V.bool (y1_0)), .b false, .v (V.bool (y3_0)), .b false, .v (V.bool (y5_0)), .b false, .v (V.fresh 79 (y7_0))] rfl (And.intro (w_impl_ValidRoof q1 k (by omega)) (And.intro (not_f h2) (And.intro (w_impl_ValidRoof q3 k (by omega)) (And.intro (not_f h4) (And.intro (w_impl_Roof_isAlike q5 k (by omega)) (And.intro (not_f h6) (And.intro (w_impl_Roof_places__DifferIn_1 q7 k (by omega)) (And.intro c8 trivial)))))))) ?_
        kernel_rfl
      · simp only [Option.some.injEq, Prod.mk.injEq] at h
        obtain ⟨rfl, rfl⟩ := h
        refine pFun_by [.v (V.bool (y1_0)), .b false, .v (V.bool (y3_0)), .b false, .v (V.bool (y5_0)), .b true] rfl (And.intro (w_impl_ValidRoof q1 k (by omega)) (And.intro (not_f h2) (And.intro (w_impl_ValidRoof q3 k (by omega)) (And.intro (not_f h4) (And.intro (w_impl_Roof_isAlike q5 k (by omega)) (And.intro (not_t h6) trivial)))))) ?_
        kernel_rfl
    · simp only [Option.some.injEq, Prod.mk.injEq] at h
      obtain ⟨rfl, rfl⟩ := h
      refine pFun_by [.v (V.bool (y1_0)), .b false, .v (V.bool (y3_0)), .b true] rfl (And.intro (w_impl_ValidRoof q1 k (by omega)) (And.intro (not_f h2) (And.intro (w_impl_ValidRoof q3 k (by omega)) (And.intro (not_t h4) trivial)))) ?_
      kernel_rfl
  · simp only [Option.some.injEq, Prod.mk.injEq] at h
    obtain ⟨rfl, rfl⟩ := h
    refine pFun_by [.v (V.bool (y1_0)), .b true, .b true] rfl (And.intro (w_impl_ValidRoof q1 k (by omega)) (And.intro (not_t h2) (And.intro (Eq.refl true) trivial))) ?_
    kernel_rfl
theorem w_spec_l01At {n : Nat} {a0 : Int} {a1 : Int} {a2 : Int} {a3 : Nat → Int} {a4 : Int} {a5 : Int} {z0 : Int} (h : s_spec_l01At n a0 a1 a2 a3 a4 a5 = some z0) : ∀ k, n + 1 ≤ k → sem E k 185 [(V.ref [(V.int .i8 (a0)), (V.int .i8 (a1)), (V.int .u8 (a2)), (V.ints .u8 64 (a3))] 0 (0) 67), (V.parts [(V.int .i8 (a4)), (V.int .i8 (a5))])] = some (V.int .i64 (z0)) := by
  intro k hk
  obtain ⟨k, rfl⟩ : ∃ q, k = q + 1 := ⟨k - 1, by omega⟩
  unfold s_spec_l01At at h
  obtain ⟨c1, h⟩ := chk_some h
  obtain ⟨c2, h⟩ := chk_some h
  replace h := Option.some.inj h
  obtain rfl := h
  refine pFun_by [] rfl (And.intro c1 (And.intro c2 trivial)) ?_
  kernel_rfl
theorem w_spec_KindAt {n : Nat} {a0 : Int} {a1 : Int} {a2 : Int} {a3 : Nat → Int} {a4 : Int} {a5 : Int} {z0 : Int} {z1 : Int} (h : s_spec_KindAt n a0 a1 a2 a3 a4 a5 = some (z0, z1)) : ∀ k, n + 5 ≤ k → sem E k 84 [(V.parts [(V.int .i8 (a0)), (V.int .i8 (a1)), (V.int .u8 (a2)), (V.ints .u8 64 (a3))]), (V.parts [(V.int .i8 (a4)), (V.int .i8 (a5))])] = some (V.tup [(V.int .i64 (z0)), (V.int .i64 (z1))]) := by
  intro k hk
  obtain ⟨k, rfl⟩ : ∃ q, k = q + 1 := ⟨k - 1, by omega⟩
  unfold s_spec_KindAt at h
  obtain ⟨y1_0, q1, h⟩ := bnd_some h
  rcases cnd_some h with ⟨h2, h⟩ | ⟨h2, h⟩
  · obtain ⟨y3_0, q3, h⟩ := bnd_some h
    simp only [Option.some.injEq, Prod.mk.injEq] at h
    obtain ⟨rfl, rfl⟩ := h
    refine pFun_by [.v (V.int .i64 (y1_0)), .b false, .v (V.int .i64 (y3_0))] rfl (And.intro (w_spec_l01Asked q1 k (by omega)) (And.intro (Eq.refl true) (And.intro (not_f h2) (And.intro (w_spec_l01At q3 k (by omega)) (And.intro (Eq.refl true) trivial))))) ?_
    kernel_rfl
  · simp only [Option.some.injEq, Prod.mk.injEq] at h
    obtain ⟨rfl, rfl⟩ := h
    refine pFun_by [.v (V.int .i64 (y1_0)), .b true] rfl (And.intro (w_spec_l01Asked q1 k (by omega)) (And.intro (Eq.refl true) (And.intro (not_t h2) trivial))) ?_
    kernel_rfl
end Go.Proofs.Ytdhcfdiggcgmhaa
