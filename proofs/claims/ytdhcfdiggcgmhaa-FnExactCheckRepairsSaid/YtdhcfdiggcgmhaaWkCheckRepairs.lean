/- The program goes as the shallow texts tell: printed by gen.py. -/
import Derived.Test.YtdhcfdiggcgmhaaEnvA
import Derived.Test.YtdhcfdiggcgmhaaSh1
import Derived.Test.YtdhcfdiggcgmhaaSh2
namespace Go.Proofs.Ytdhcfdiggcgmhaa
open Go
set_option linter.unusedVariables false
set_option linter.unusedSimpArgs false
set_option maxRecDepth 100000
set_option maxHeartbeats 4000000
theorem w_laws_szPlaceS {n : Nat} {a0 : List V} {a1 : Int} {z0 : Int} (h : s_laws_szPlaceS n a0 a1 = some z0) : ∀ k, n + 1 ≤ k → sem E k 50 [(V.sl (a0)), (V.int .i64 (a1))] = some (V.int .i64 (z0)) := by
  intro k hk
  obtain ⟨k, rfl⟩ : ∃ q, k = q + 1 := ⟨k - 1, by omega⟩
  unfold s_laws_szPlaceS at h
  rcases cnd_some h with ⟨h1, h⟩ | ⟨h1, h⟩
  · replace h := Option.some.inj h
    obtain rfl := h
    refine pFun_by [.b true] rfl (And.intro h1 trivial) ?_
    kernel_rfl
  · replace h := Option.some.inj h
    obtain rfl := h
    refine pFun_by [.b false] rfl (And.intro h1 trivial) ?_
    kernel_rfl
theorem lw_laws_toByteA8_b0 : ∀ (n : Nat) (a0 : Int) (a1 : Nat → Int) (a2 : Nat → Int) (a3 : Nat → Int) (r : (Nat → Int) × (Nat → Int)), l_laws_toByteA8_b0 n a0 a1 a2 a3 = some r → ∀ k m, n + 0 ≤ k → n ≤ m → LB E 200 0 k m ⟨[(1, (V.ptr 3 0 (0) 8)), (2, (V.ptr 5 0 (0) 8)), (3, (V.ptr 7 0 (0) 8)), (4, (V.int .i64 (a0)))], [(3, .box [(V.ints .u8 8 (a1))]), (5, .box [(V.ints .u8 8 (a2))]), (7, .box [(V.ints .u8 8 (a3))])]⟩ = some (match r with | (o0, o1) => (.normal, ⟨[(2, (V.ptr 5 0 (0) 8)), (3, (V.ptr 7 0 (0) 8))], [(5, .box [(V.ints .u8 8 (o0))]), (7, .box [(V.ints .u8 8 (o1))])]⟩)) := by
  intro n
  induction n with
  | zero => intro a0 a1 a2 a3 r h; cases h
  | succ n ih =>
    intro a0 a1 a2 a3 r h k m hk hm
    obtain ⟨m, rfl⟩ : ∃ q, m = q + 1 := ⟨m - 1, by omega⟩
    replace hk : n + 0 ≤ k := by omega
    unfold l_laws_toByteA8_b0 at h
    rcases cnd_some h with ⟨h1, h⟩ | ⟨h1, h⟩
    · obtain ⟨c2, h⟩ := chk_some h
      refine pNext_by [.b true] (And.intro h1 (And.intro c2 (And.intro c2 trivial))) (ih _ _ _ _ _ h k m hk (by omega)) ?_
      kernel_rfl
    · cases h
      refine pLast_by [.b false] (And.intro h1 trivial) ?_
      kernel_rfl
theorem w_laws_toByteA8 {n : Nat} {a0 : Nat → Int} {z0 : Nat → Int} (h : s_laws_toByteA8 n a0 = some z0) : ∀ k, n + 1 ≤ k → sem E k 200 [(V.ints .u8 8 (a0))] = some (V.ints .u8 8 (z0)) := by
  intro k hk
  obtain ⟨k, rfl⟩ : ∃ q, k = q + 1 := ⟨k - 1, by omega⟩
  unfold s_laws_toByteA8 at h
  obtain ⟨⟨u3_0, u3_1⟩, l3, h⟩ := bnd_some h
  replace h := Option.some.inj h
  obtain rfl := h
  refine pFun_by [.l .normal ⟨[(2, (V.ptr 5 0 (0) 8)), (3, (V.ptr 7 0 (0) 8))], [(5, .box [(V.ints .u8 8 (u3_0))]), (7, .box [(V.ints .u8 8 (u3_1))])]⟩] rfl (And.intro (lw_laws_toByteA8_b0 _ _ _ _ _ _ l3 k k (by omega) (by omega)) trivial) ?_
  kernel_rfl
theorem lw_laws_toByteA8A8_b0 : ∀ (n : Nat) (a0 : Int) (a1 : Nat → Int) (a2 : Nat → Int) (a3 : Nat → Int) (r : (Nat → Int) × (Nat → Int)), l_laws_toByteA8A8_b0 n a0 a1 a2 a3 = some r → ∀ k m, n + 1 ≤ k → n ≤ m → LB E 129 0 k m ⟨[(1, (V.ptr 3 0 (0) 64)), (2, (V.ptr 5 0 (0) 64)), (3, (V.ptr 7 0 (0) 64)), (4, (V.int .i64 (a0)))], [(3, .box [(V.ints .u8 64 (a1))]), (5, .box [(V.ints .u8 64 (a2))]), (7, .box [(V.ints .u8 64 (a3))])]⟩ = some (match r with | (o0, o1) => (.normal, ⟨[(2, (V.ptr 5 0 (0) 64)), (3, (V.ptr 7 0 (0) 64))], [(5, .box [(V.ints .u8 64 (o0))]), (7, .box [(V.ints .u8 64 (o1))])]⟩)) := by
  intro n
  induction n with
  | zero => intro a0 a1 a2 a3 r h; cases h
  | succ n ih =>
    intro a0 a1 a2 a3 r h k m hk hm
    obtain ⟨m, rfl⟩ : ∃ q, m = q + 1 := ⟨m - 1, by omega⟩
    replace hk : n + 1 ≤ k := by omega
    unfold l_laws_toByteA8A8_b0 at h
    rcases cnd_some h with ⟨h1, h⟩ | ⟨h1, h⟩
    · obtain ⟨c2, h⟩ := chk_some h
      obtain ⟨y3_0, q3, h⟩ := bnd_some h
      refine pNext_by [.b true, .v (V.ints .u8 8 (y3_0))] (And.intro h1 (And.intro c2 (And.intro (w_laws_toByteA8 q3 k (by omega)) (And.intro c2 trivial)))) (ih _ _ _ _ _ h k m hk (by omega)) ?_
      kernel_rfl
    · cases h
      refine pLast_by [.b false] (And.intro h1 trivial) ?_
      kernel_rfl
theorem w_laws_toByteA8A8 {n : Nat} {a0 : Nat → Int} {z0 : Nat → Int} (h : s_laws_toByteA8A8 n a0 = some z0) : ∀ k, n + 2 ≤ k → sem E k 129 [(V.ints .u8 64 (a0))] = some (V.ints .u8 64 (z0)) := by
  intro k hk
  obtain ⟨k, rfl⟩ : ∃ q, k = q + 1 := ⟨k - 1, by omega⟩
  unfold s_laws_toByteA8A8 at h
  obtain ⟨⟨u4_0, u4_1⟩, l4, h⟩ := bnd_some h
  replace h := Option.some.inj h
  obtain rfl := h
  refine pFun_by [.l .normal ⟨[(2, (V.ptr 5 0 (0) 64)), (3, (V.ptr 7 0 (0) 64))], [(5, .box [(V.ints .u8 64 (u4_0))]), (7, .box [(V.ints .u8 64 (u4_1))])]⟩] rfl (And.intro (lw_laws_toByteA8A8_b0 _ _ _ _ _ _ l4 k k (by omega) (by omega)) trivial) ?_
  kernel_rfl
theorem w_laws_toRoof {n : Nat} {a0 : Int} {a1 : Int} {a2 : Int} {a3 : Nat → Int} {z0 : Int} {z1 : Int} {z2 : Int} {z3 : Nat → Int} (h : s_laws_toRoof n a0 a1 a2 a3 = some (z0, z1, z2, z3)) : ∀ k, n + 3 ≤ k → sem E k 45 [(V.parts [(V.int .i8 (a0)), (V.int .i8 (a1)), (V.int .u8 (a2)), (V.ints .u8 64 (a3))])] = some (V.parts [(V.int .i8 (z0)), (V.int .i8 (z1)), (V.int .u8 (z2)), (V.ints .u8 64 (z3))]) := by
  intro k hk
  obtain ⟨k, rfl⟩ : ∃ q, k = q + 1 := ⟨k - 1, by omega⟩
  unfold s_laws_toRoof at h
  obtain ⟨y1_0, q1, h⟩ := bnd_some h
  simp only [Option.some.injEq, Prod.mk.injEq] at h
  obtain ⟨rfl, rfl, rfl, rfl⟩ := h
  refine pFun_by [.v (V.ints .u8 64 (y1_0))] rfl (And.intro (w_laws_toByteA8A8 q1 k (by omega)) trivial) ?_
  kernel_rfl
theorem lw_laws_toRain_b0 : ∀ (n : Nat) (a0 : Int) (a1 : Nat → Int) (a2 : Nat → Int) (a3 : Nat → Int) (r : (Nat → Int) × (Nat → Int)), l_laws_toRain_b0 n a0 a1 a2 a3 = some r → ∀ k m, n + 0 ≤ k → n ≤ m → LB E 46 0 k m ⟨[(1, (V.ptr 3 0 (0) 17)), (2, (V.ptr 5 0 (0) 17)), (3, (V.ptr 7 0 (0) 17)), (4, (V.int .i64 (a0)))], [(3, .box [(V.ints .i16 17 (a1))]), (5, .box [(V.ints .i16 17 (a2))]), (7, .box [(V.ints .i16 17 (a3))])]⟩ = some (match r with | (o0, o1) => (.normal, ⟨[(2, (V.ptr 5 0 (0) 17)), (3, (V.ptr 7 0 (0) 17))], [(5, .box [(V.ints .i16 17 (o0))]), (7, .box [(V.ints .i16 17 (o1))])]⟩)) := by
  intro n
  induction n with
  | zero => intro a0 a1 a2 a3 r h; cases h
  | succ n ih =>
    intro a0 a1 a2 a3 r h k m hk hm
    obtain ⟨m, rfl⟩ : ∃ q, m = q + 1 := ⟨m - 1, by omega⟩
    replace hk : n + 0 ≤ k := by omega
    unfold l_laws_toRain_b0 at h
    rcases cnd_some h with ⟨h1, h⟩ | ⟨h1, h⟩
    · obtain ⟨c2, h⟩ := chk_some h
      refine pNext_by [.b true] (And.intro h1 (And.intro c2 (And.intro c2 trivial))) (ih _ _ _ _ _ h k m hk (by omega)) ?_
      kernel_rfl
    · cases h
      refine pLast_by [.b false] (And.intro h1 trivial) ?_
      kernel_rfl
theorem w_laws_toRain {n : Nat} {a0 : Nat → Int} {z0 : Nat → Int} (h : s_laws_toRain n a0 = some z0) : ∀ k, n + 1 ≤ k → sem E k 46 [(V.ints .i16 17 (a0))] = some (V.ints .i16 17 (z0)) := by
  intro k hk
  obtain ⟨k, rfl⟩ : ∃ q, k = q + 1 := ⟨k - 1, by omega⟩
  unfold s_laws_toRain at h
  obtain ⟨⟨u3_0, u3_1⟩, l3, h⟩ := bnd_some h
  replace h := Option.some.inj h
  obtain rfl := h
  refine pFun_by [.l .normal ⟨[(2, (V.ptr 5 0 (0) 17)), (3, (V.ptr 7 0 (0) 17))], [(5, .box [(V.ints .i16 17 (u3_0))]), (7, .box [(V.ints .i16 17 (u3_1))])]⟩] rfl (And.intro (lw_laws_toRain_b0 _ _ _ _ _ _ l3 k k (by omega) (by omega)) trivial) ?_
  kernel_rfl
theorem w_laws_toPlace {n : Nat} {a0 : Int} {a1 : Int} {z0 : Int} {z1 : Int} (h : s_laws_toPlace n a0 a1 = some (z0, z1)) : ∀ k, n + 1 ≤ k → sem E k 48 [(V.parts [(V.int .i8 (a0)), (V.int .i8 (a1))])] = some (V.parts [(V.int .i8 (z0)), (V.int .i8 (z1))]) := by
  intro k hk
  obtain ⟨k, rfl⟩ : ∃ q, k = q + 1 := ⟨k - 1, by omega⟩
  unfold s_laws_toPlace at h
  simp only [Option.some.injEq, Prod.mk.injEq] at h
  obtain ⟨rfl, rfl⟩ := h
  refine pFun_by [] rfl trivial ?_
  kernel_rfl
theorem lw_laws_toPlaceS_b0 : ∀ (n : Nat) (a0 : List V) (a1 : Int) (a2 : List V) (r : List V), l_laws_toPlaceS_b0 n a0 a1 a2 = some r → ∀ k m, n + 1 ≤ k → n ≤ m → LB E 52 0 k m ⟨[(0, (V.sl (a0))), (3, (V.row 7)), (4, (V.int .i64 (a1)))], [(7, .row 79 (a2))]⟩ = some (match r with | o0 => (.normal, ⟨[(3, (V.row 7))], [(7, .row 79 (o0))]⟩)) := by
  intro n
  induction n with
  | zero => intro a0 a1 a2 r h; cases h
  | succ n ih =>
    intro a0 a1 a2 r h k m hk hm
    obtain ⟨m, rfl⟩ : ∃ q, m = q + 1 := ⟨m - 1, by omega⟩
    replace hk : n + 1 ≤ k := by omega
    unfold l_laws_toPlaceS_b0 at h
    rcases cnd_some h with ⟨h2, h⟩ | ⟨h2, h⟩
    · obtain ⟨⟨e3_0, e3_1⟩, g3, h⟩ := bnd_some h
      replace g3 := as_Pi8_i8Q_some g3
      obtain ⟨⟨y4_0, y4_1⟩, q4, h⟩ := bnd_some h
      obtain ⟨c5, h⟩ := chk_some h
      obtain ⟨⟨e6_0, e6_1⟩, g6, h⟩ := bnd_some h
      replace g6 := as_Pi8_i8Q_some g6
      refine pNext_by [.b true, .v (V.parts [(V.int .i8 (e3_0)), (V.int .i8 (e3_1))]), .v (V.parts [(V.int .i8 (y4_0)), (V.int .i8 (y4_1))]), .v (V.parts [(V.int .i8 (e6_0)), (V.int .i8 (e6_1))])] (And.intro h2 (And.intro g3 (And.intro (w_laws_toPlace q4 k (by omega)) (And.intro c5 (And.intro g6 trivial))))) (ih _ _ _ _ h k m hk (by omega)) ?_
      kernel_rfl
    · cases h
      refine pLast_by [.b false] (And.intro h2 trivial) ?_
      kernel_rfl
theorem w_laws_toPlaceS {n : Nat} {a0 : List V} {z0 : List V} (h : s_laws_toPlaceS n a0 = some z0) : ∀ k, n + 2 ≤ k → sem E k 52 [(V.sl (a0))] = some (V.fresh 79 (z0)) := by
  intro k hk
  obtain ⟨k, rfl⟩ : ∃ q, k = q + 1 := ⟨k - 1, by omega⟩
  unfold s_laws_toPlaceS at h
  obtain ⟨c1, h⟩ := chk_some h
  obtain ⟨u7_0, l7, h⟩ := bnd_some h
  replace h := Option.some.inj h
  obtain rfl := h
  refine pFun_by [.l .normal ⟨[(3, (V.row 7))], [(7, .row 79 (u7_0))]⟩] rfl (And.intro c1 (And.intro (lw_laws_toPlaceS_b0 _ _ _ _ _ l7 k k (by omega) (by omega)) trivial)) ?_
  kernel_rfl
theorem w_spec_l00In {n : Nat} {a0 : Int} {a1 : Int} {a2 : Int} {z0 : Bool} (h : s_spec_l00In n a0 a1 a2 = some z0) : ∀ k, n + 1 ≤ k → sem E k 85 [(V.int .i64 (a0)), (V.int .i64 (a1)), (V.int .i64 (a2))] = some (V.bool (z0)) := by
  intro k hk
  obtain ⟨k, rfl⟩ : ∃ q, k = q + 1 := ⟨k - 1, by omega⟩
  unfold s_spec_l00In at h
  rcases cnd_some h with ⟨h1, h⟩ | ⟨h1, h⟩
  · replace h := Option.some.inj h
    obtain rfl := h
    refine pFun_by [.b true] rfl (And.intro h1 trivial) ?_
    kernel_rfl
  · replace h := Option.some.inj h
    obtain rfl := h
    refine pFun_by [.b false] rfl (And.intro h1 trivial) ?_
    kernel_rfl
theorem w_spec_l01Kind {n : Nat} {a0 : Int} {z0 : Bool} (h : s_spec_l01Kind n a0 = some z0) : ∀ k, n + 2 ≤ k → sem E k 179 [(V.int .i64 (a0))] = some (V.bool (z0)) := by
  intro k hk
  obtain ⟨k, rfl⟩ : ∃ q, k = q + 1 := ⟨k - 1, by omega⟩
  unfold s_spec_l01Kind at h
  obtain ⟨y1_0, q1, h⟩ := bnd_some h
  replace h := Option.some.inj h
  obtain rfl := h
  refine pFun_by [.v (V.bool (y1_0))] rfl (And.intro (w_spec_l00In q1 k (by omega)) trivial) ?_
  kernel_rfl
theorem w_spec_l01Is {n : Nat} {a0 : Int} {a1 : Int} {a2 : Int} {a3 : Nat → Int} {a4 : Int} {a5 : Int} {z0 : Bool} (h : s_spec_l01Is n a0 a1 a2 a3 a4 a5 = some z0) : ∀ k, n + 2 ≤ k → sem E k 127 [(V.ref [(V.int .i8 (a0)), (V.int .i8 (a1)), (V.int .u8 (a2)), (V.ints .u8 64 (a3))] 0 (0) 67), (V.parts [(V.int .i8 (a4)), (V.int .i8 (a5))])] = some (V.bool (z0)) := by
  intro k hk
  obtain ⟨k, rfl⟩ : ∃ q, k = q + 1 := ⟨k - 1, by omega⟩
  unfold s_spec_l01Is at h
  obtain ⟨y1_0, q1, h⟩ := bnd_some h
  rcases cnd_some h with ⟨h2, h⟩ | ⟨h2, h⟩
  · obtain ⟨y3_0, q3, h⟩ := bnd_some h
    replace h := Option.some.inj h
    obtain rfl := h
    refine pFun_by [.v (V.bool (y1_0)), .b true, .v (V.bool (y3_0))] rfl (And.intro (w_spec_l00In q1 k (by omega)) (And.intro h2 (And.intro (w_spec_l00In q3 k (by omega)) trivial))) ?_
    kernel_rfl
  · replace h := Option.some.inj h
    obtain rfl := h
    refine pFun_by [.v (V.bool (y1_0)), .b false] rfl (And.intro (w_spec_l00In q1 k (by omega)) (And.intro h2 trivial)) ?_
    kernel_rfl
theorem lw_spec_l01Ok_b2 : ∀ (n : Nat) (a0 : Int) (a1 : Int) (a2 : Int) (a3 : Nat → Int) (a4 : Int) (a5 : Int) (r : Sum (Int × Int × Int × (Nat → Int) × Int) (Bool)), l_spec_l01Ok_b2 n a0 a1 a2 a3 a4 a5 = some r → ∀ k m, n + 2 ≤ k → n ≤ m → LB E 196 2 k m ⟨[(0, (V.ref [(V.int .i8 (a0)), (V.int .i8 (a1)), (V.int .u8 (a2)), (V.ints .u8 64 (a3))] 0 (0) 67)), (3, (V.int .i8 (a4))), (4, (V.int .i8 (a5)))], []⟩ = some (match r with | .inl (o0, o1, o2, o3, o4) => (.normal, ⟨[(0, (V.ref [(V.int .i8 (o0)), (V.int .i8 (o1)), (V.int .u8 (o2)), (V.ints .u8 64 (o3))] 0 (0) 67)), (3, (V.int .i8 (o4)))], []⟩) | .inr o0 => (.ret, ⟨[(2, (V.bool (o0)))], []⟩)) := by
  intro n
  induction n with
  | zero => intro a0 a1 a2 a3 a4 a5 r h; cases h
  | succ n ih =>
    intro a0 a1 a2 a3 a4 a5 r h k m hk hm
    obtain ⟨m, rfl⟩ : ∃ q, m = q + 1 := ⟨m - 1, by omega⟩
    replace hk : n + 2 ≤ k := by omega
    unfold l_spec_l01Ok_b2 at h
    rcases cnd_some h with ⟨h7, h⟩ | ⟨h7, h⟩
    · obtain ⟨c8, h⟩ := chk_some h
      obtain ⟨c9, h⟩ := chk_some h
      obtain ⟨y10_0, q10, h⟩ := bnd_some h
      rcases cnd_some h with ⟨h11, h⟩ | ⟨h11, h⟩
      · obtain ⟨y12_0, q12, h⟩ := bnd_some h
        rcases cnd_some h with ⟨h13, h⟩ | ⟨h13, h⟩
        · refine pNext_by [.b true, .v (V.bool (y10_0)), .b false, .v (V.bool (y12_0)), .b false, .b false] (And.intro h7 (And.intro c8 (And.intro c9 (And.intro (w_spec_l01Kind q10 k (by omega)) (And.intro (not_f h11) (And.intro (w_spec_l01Is q12 k (by omega)) (And.intro (not_f h13) (And.intro (Eq.refl false) trivial)))))))) (ih _ _ _ _ _ _ _ h k m hk (by omega)) ?_
          kernel_rfl
        · rcases cnd_some h with ⟨h14, h⟩ | ⟨h14, h⟩
          · refine pNext_by [.b true, .v (V.bool (y10_0)), .b false, .v (V.bool (y12_0)), .b true, .b false] (And.intro h7 (And.intro c8 (And.intro c9 (And.intro (w_spec_l01Kind q10 k (by omega)) (And.intro (not_f h11) (And.intro (w_spec_l01Is q12 k (by omega)) (And.intro (not_t h13) (And.intro c8 (And.intro c9 (And.intro (not_f h14) trivial)))))))))) (ih _ _ _ _ _ _ _ h k m hk (by omega)) ?_
            kernel_rfl
          · cases h
            refine pLast_by [.b true, .v (V.bool (y10_0)), .b false, .v (V.bool (y12_0)), .b true, .b true] (And.intro h7 (And.intro c8 (And.intro c9 (And.intro (w_spec_l01Kind q10 k (by omega)) (And.intro (not_f h11) (And.intro (w_spec_l01Is q12 k (by omega)) (And.intro (not_t h13) (And.intro c8 (And.intro c9 (And.intro (not_t h14) trivial)))))))))) ?_
            kernel_rfl
      · cases h
        refine pLast_by [.b true, .v (V.bool (y10_0)), .b true, .b true] (And.intro h7 (And.intro c8 (And.intro c9 (And.intro (w_spec_l01Kind q10 k (by omega)) (And.intro (not_t h11) (And.intro (Eq.refl true) trivial)))))) ?_
        kernel_rfl
    · cases h
      refine pLast_by [.b false] (And.intro h7 trivial) ?_
      kernel_rfl
theorem lw_spec_l01Ok_b0 : ∀ (n : Nat) (a0 : Int) (a1 : Int) (a2 : Int) (a3 : Nat → Int) (a4 : Int) (r : Sum (Unit) (Bool)), l_spec_l01Ok_b0 n a0 a1 a2 a3 a4 = some r → ∀ k m, n + 2 ≤ k → n ≤ m → LB E 196 0 k m ⟨[(0, (V.ref [(V.int .i8 (a0)), (V.int .i8 (a1)), (V.int .u8 (a2)), (V.ints .u8 64 (a3))] 0 (0) 67)), (3, (V.int .i8 (a4)))], []⟩ = some (match r with | .inl _ => (.normal, ⟨[], []⟩) | .inr o0 => (.ret, ⟨[(2, (V.bool (o0)))], []⟩)) := by
  intro n
  induction n with
  | zero => intro a0 a1 a2 a3 a4 r h; cases h
  | succ n ih =>
    intro a0 a1 a2 a3 a4 r h k m hk hm
    obtain ⟨m, rfl⟩ : ∃ q, m = q + 1 := ⟨m - 1, by omega⟩
    replace hk : n + 2 ≤ k := by omega
    unfold l_spec_l01Ok_b0 at h
    rcases cnd_some h with ⟨h6, h⟩ | ⟨h6, h⟩
    · obtain ⟨w, l15, h⟩ := bnd_some h
      rcases w with ⟨u15_0, u15_1, u15_2, u15_3, u15_4⟩ | u16_0
      · refine pNext_by [.b true, .l .normal ⟨[(0, (V.ref [(V.int .i8 (u15_0)), (V.int .i8 (u15_1)), (V.int .u8 (u15_2)), (V.ints .u8 64 (u15_3))] 0 (0) 67)), (3, (V.int .i8 (u15_4)))], []⟩] (And.intro h6 (And.intro (lw_spec_l01Ok_b2 _ _ _ _ _ _ _ _ l15 k k (by omega) (by omega)) trivial)) (ih _ _ _ _ _ _ h k m hk (by omega)) ?_
        kernel_rfl
      · cases h
        refine pLast_by [.b true, .l .ret ⟨[(2, (V.bool (u16_0)))], []⟩] (And.intro h6 (And.intro (lw_spec_l01Ok_b2 _ _ _ _ _ _ _ _ l15 k k (by omega) (by omega)) trivial)) ?_
        kernel_rfl
    · cases h
      refine pLast_by [.b false] (And.intro h6 trivial) ?_
      kernel_rfl
theorem w_spec_l01Ok {n : Nat} {a0 : Int} {a1 : Int} {a2 : Int} {a3 : Nat → Int} {z0 : Bool} (h : s_spec_l01Ok n a0 a1 a2 a3 = some z0) : ∀ k, n + 3 ≤ k → sem E k 196 [(V.ref [(V.int .i8 (a0)), (V.int .i8 (a1)), (V.int .u8 (a2)), (V.ints .u8 64 (a3))] 0 (0) 67)] = some (V.bool (z0)) := by
  intro k hk
  obtain ⟨k, rfl⟩ : ∃ q, k = q + 1 := ⟨k - 1, by omega⟩
  unfold s_spec_l01Ok at h
  obtain ⟨y1_0, q1, h⟩ := bnd_some h
  rcases cnd_some h with ⟨h2, h⟩ | ⟨h2, h⟩
  · obtain ⟨y3_0, q3, h⟩ := bnd_some h
    rcases cnd_some h with ⟨h4, h⟩ | ⟨h4, h⟩
    · rcases cnd_some h with ⟨h5, h⟩ | ⟨h5, h⟩
      · replace h := Option.some.inj h
        obtain rfl := h
        refine pFun_by [.v (V.bool (y1_0)), .b false, .v (V.bool (y3_0)), .b false, .b true] rfl (And.intro (w_spec_l00In q1 k (by omega)) (And.intro (not_f h2) (And.intro (w_spec_l00In q3 k (by omega)) (And.intro (not_f h4) (And.intro h5 trivial))))) ?_
        kernel_rfl
      · obtain ⟨w, l18, h⟩ := bnd_some h
        rcases w with ⟨⟩ | u19_0
        · replace h := Option.some.inj h
          obtain rfl := h
          refine pFun_by [.v (V.bool (y1_0)), .b false, .v (V.bool (y3_0)), .b false, .b false, .l .normal ⟨[], []⟩] rfl (And.intro (w_spec_l00In q1 k (by omega)) (And.intro (not_f h2) (And.intro (w_spec_l00In q3 k (by omega)) (And.intro (not_f h4) (And.intro h5 (And.intro (lw_spec_l01Ok_b0 _ _ _ _ _ _ _ l18 k k (by omega) (by omega)) trivial)))))) ?_
          kernel_rfl
        · replace h := Option.some.inj h
          obtain rfl := h
          refine pFun_by [.v (V.bool (y1_0)), .b false, .v (V.bool (y3_0)), .b false, .b false, .l .ret ⟨[(2, (V.bool (u19_0)))], []⟩] rfl (And.intro (w_spec_l00In q1 k (by omega)) (And.intro (not_f h2) (And.intro (w_spec_l00In q3 k (by omega)) (And.intro (not_f h4) (And.intro h5 (And.intro (lw_spec_l01Ok_b0 _ _ _ _ _ _ _ l18 k k (by omega) (by omega)) trivial)))))) ?_
          kernel_rfl
    · replace h := Option.some.inj h
      obtain rfl := h
      refine pFun_by [.v (V.bool (y1_0)), .b false, .v (V.bool (y3_0)), .b true, .b true] rfl (And.intro (w_spec_l00In q1 k (by omega)) (And.intro (not_f h2) (And.intro (w_spec_l00In q3 k (by omega)) (And.intro (not_t h4) (And.intro (Eq.refl true) trivial))))) ?_
      kernel_rfl
  · replace h := Option.some.inj h
    obtain rfl := h
    refine pFun_by [.v (V.bool (y1_0)), .b true, .b true, .b true] rfl (And.intro (w_spec_l00In q1 k (by omega)) (And.intro (not_t h2) (And.intro (Eq.refl true) (And.intro (Eq.refl true) trivial)))) ?_
    kernel_rfl
theorem w_spec_l02Amount {n : Nat} {a0 : Int} {z0 : Bool} (h : s_spec_l02Amount n a0 = some z0) : ∀ k, n + 2 ≤ k → sem E k 197 [(V.int .i64 (a0))] = some (V.bool (z0)) := by
  intro k hk
  obtain ⟨k, rfl⟩ : ∃ q, k = q + 1 := ⟨k - 1, by omega⟩
  unfold s_spec_l02Amount at h
  obtain ⟨y1_0, q1, h⟩ := bnd_some h
  replace h := Option.some.inj h
  obtain rfl := h
  refine pFun_by [.v (V.bool (y1_0))] rfl (And.intro (w_spec_l00In q1 k (by omega)) trivial) ?_
  kernel_rfl
theorem w_spec_l01Cells {n : Nat} {a0 : Int} {a1 : Int} {a2 : Int} {a3 : Nat → Int} {z0 : Int} (h : s_spec_l01Cells n a0 a1 a2 a3 = some z0) : ∀ k, n + 1 ≤ k → sem E k 174 [(V.ref [(V.int .i8 (a0)), (V.int .i8 (a1)), (V.int .u8 (a2)), (V.ints .u8 64 (a3))] 0 (0) 67)] = some (V.int .i64 (z0)) := by
  intro k hk
  obtain ⟨k, rfl⟩ : ∃ q, k = q + 1 := ⟨k - 1, by omega⟩
  unfold s_spec_l01Cells at h
  replace h := Option.some.inj h
  obtain rfl := h
  refine pFun_by [] rfl trivial ?_
  kernel_rfl
theorem lw_spec_l02Ok_b0 : ∀ (n : Nat) (a0 : Int) (a1 : Int) (a2 : Int) (a3 : Nat → Int) (a4 : Nat → Int) (a5 : Int) (r : Sum (Unit) (Bool)), l_spec_l02Ok_b0 n a0 a1 a2 a3 a4 a5 = some r → ∀ k m, n + 2 ≤ k → n ≤ m → LB E 125 0 k m ⟨[(0, (V.ref [(V.int .i8 (a0)), (V.int .i8 (a1)), (V.int .u8 (a2)), (V.ints .u8 64 (a3))] 0 (0) 67)), (1, (V.ref [(V.ints .i16 17 (a4))] 0 (0) 17)), (5, (V.int .i64 (a5)))], []⟩ = some (match r with | .inl _ => (.normal, ⟨[], []⟩) | .inr o0 => (.ret, ⟨[(4, (V.bool (o0)))], []⟩)) := by
  intro n
  induction n with
  | zero => intro a0 a1 a2 a3 a4 a5 r h; cases h
  | succ n ih =>
    intro a0 a1 a2 a3 a4 a5 r h k m hk hm
    obtain ⟨m, rfl⟩ : ∃ q, m = q + 1 := ⟨m - 1, by omega⟩
    replace hk : n + 2 ≤ k := by omega
    unfold l_spec_l02Ok_b0 at h
    rcases cnd_some h with ⟨h3, h⟩ | ⟨h3, h⟩
    · obtain ⟨c4, h⟩ := chk_some h
      obtain ⟨y5_0, q5, h⟩ := bnd_some h
      rcases cnd_some h with ⟨h6, h⟩ | ⟨h6, h⟩
      · obtain ⟨y7_0, q7, h⟩ := bnd_some h
        rcases cnd_some h with ⟨h8, h⟩ | ⟨h8, h⟩
        · rcases cnd_some h with ⟨h9, h⟩ | ⟨h9, h⟩
          · refine pNext_by [.b true, .v (V.bool (y5_0)), .b false, .v (V.int .i64 (y7_0)), .b true, .b false] (And.intro h3 (And.intro c4 (And.intro (w_spec_l02Amount q5 k (by omega)) (And.intro (not_f h6) (And.intro (w_spec_l01Cells q7 k (by omega)) (And.intro h8 (And.intro c4 (And.intro (not_f h9) trivial)))))))) (ih _ _ _ _ _ _ _ h k m hk (by omega)) ?_
            kernel_rfl
          · cases h
            refine pLast_by [.b true, .v (V.bool (y5_0)), .b false, .v (V.int .i64 (y7_0)), .b true, .b true] (And.intro h3 (And.intro c4 (And.intro (w_spec_l02Amount q5 k (by omega)) (And.intro (not_f h6) (And.intro (w_spec_l01Cells q7 k (by omega)) (And.intro h8 (And.intro c4 (And.intro (not_t h9) trivial)))))))) ?_
            kernel_rfl
        · refine pNext_by [.b true, .v (V.bool (y5_0)), .b false, .v (V.int .i64 (y7_0)), .b false, .b false] (And.intro h3 (And.intro c4 (And.intro (w_spec_l02Amount q5 k (by omega)) (And.intro (not_f h6) (And.intro (w_spec_l01Cells q7 k (by omega)) (And.intro h8 (And.intro (Eq.refl false) trivial))))))) (ih _ _ _ _ _ _ _ h k m hk (by omega)) ?_
          kernel_rfl
      · cases h
        refine pLast_by [.b true, .v (V.bool (y5_0)), .b true, .b true] (And.intro h3 (And.intro c4 (And.intro (w_spec_l02Amount q5 k (by omega)) (And.intro (not_t h6) (And.intro (Eq.refl true) trivial))))) ?_
        kernel_rfl
    · cases h
      refine pLast_by [.b false] (And.intro h3 trivial) ?_
      kernel_rfl
theorem w_spec_l02Ok {n : Nat} {a0 : Int} {a1 : Int} {a2 : Int} {a3 : Nat → Int} {a4 : Nat → Int} {z0 : Bool} (h : s_spec_l02Ok n a0 a1 a2 a3 a4 = some z0) : ∀ k, n + 4 ≤ k → sem E k 125 [(V.ref [(V.int .i8 (a0)), (V.int .i8 (a1)), (V.int .u8 (a2)), (V.ints .u8 64 (a3))] 0 (0) 67), (V.ref [(V.ints .i16 17 (a4))] 0 (0) 17)] = some (V.bool (z0)) := by
  intro k hk
  obtain ⟨k, rfl⟩ : ∃ q, k = q + 1 := ⟨k - 1, by omega⟩
  unfold s_spec_l02Ok at h
  obtain ⟨y1_0, q1, h⟩ := bnd_some h
  rcases cnd_some h with ⟨h2, h⟩ | ⟨h2, h⟩
  · obtain ⟨w, l10, h⟩ := bnd_some h
    rcases w with ⟨⟩ | u11_0
    · replace h := Option.some.inj h
      obtain rfl := h
      refine pFun_by [.v (V.bool (y1_0)), .b false, .l .normal ⟨[], []⟩] rfl (And.intro (w_spec_l01Ok q1 k (by omega)) (And.intro (not_f h2) (And.intro (lw_spec_l02Ok_b0 _ _ _ _ _ _ _ _ l10 k k (by omega) (by omega)) trivial))) ?_
      kernel_rfl
    · replace h := Option.some.inj h
      obtain rfl := h
      refine pFun_by [.v (V.bool (y1_0)), .b false, .l .ret ⟨[(4, (V.bool (u11_0)))], []⟩] rfl (And.intro (w_spec_l01Ok q1 k (by omega)) (And.intro (not_f h2) (And.intro (lw_spec_l02Ok_b0 _ _ _ _ _ _ _ _ l10 k k (by omega) (by omega)) trivial))) ?_
      kernel_rfl
  · replace h := Option.some.inj h
    obtain rfl := h
    refine pFun_by [.v (V.bool (y1_0)), .b true] rfl (And.intro (w_spec_l01Ok q1 k (by omega)) (And.intro (not_t h2) trivial)) ?_
    kernel_rfl
theorem lw_spec_l03Places_b0 : ∀ (n : Nat) (a0 : Int) (a1 : Int) (a2 : Int) (a3 : Nat → Int) (a4 : List V) (a5 : Bool) (a6 : Int) (r : Bool), l_spec_l03Places_b0 n a0 a1 a2 a3 a4 a5 a6 = some r → ∀ k m, n + 2 ≤ k → n ≤ m → LB E 136 0 k m ⟨[(0, (V.ref [(V.int .i8 (a0)), (V.int .i8 (a1)), (V.int .u8 (a2)), (V.ints .u8 64 (a3))] 0 (0) 67)), (2, (V.sl (a4))), (3, (V.bool (a5))), (9, (V.int .i64 (a6)))], []⟩ = some (match r with | o0 => (.normal, ⟨[(3, (V.bool (o0)))], []⟩)) := by
  intro n
  induction n with
  | zero => intro a0 a1 a2 a3 a4 a5 a6 r h; cases h
  | succ n ih =>
    intro a0 a1 a2 a3 a4 a5 a6 r h k m hk hm
    obtain ⟨m, rfl⟩ : ∃ q, m = q + 1 := ⟨m - 1, by omega⟩
    replace hk : n + 2 ≤ k := by omega
    unfold l_spec_l03Places_b0 at h
    rcases cnd_some h with ⟨h3, h⟩ | ⟨h3, h⟩
    · rcases cnd_some h with ⟨h4, h⟩ | ⟨h4, h⟩
      · obtain ⟨⟨e5_0, e5_1⟩, g5, h⟩ := bnd_some h
        replace g5 := as_Pi8_i8Q_some g5
        obtain ⟨y6_0, q6, h⟩ := bnd_some h
        refine pNext_by [.b true, .b true, .v (V.parts [(V.int .i8 (e5_0)), (V.int .i8 (e5_1))]), .v (V.bool (y6_0))] (And.intro h3 (And.intro h4 (And.intro g5 (And.intro (w_spec_l01Is q6 k (by omega)) trivial)))) (ih _ _ _ _ _ _ _ _ h k m hk (by omega)) ?_
        kernel_rfl
      · refine pNext_by [.b true, .b false] (And.intro h3 (And.intro h4 trivial)) (ih _ _ _ _ _ _ _ _ h k m hk (by omega)) ?_
        kernel_rfl
    · cases h
      refine pLast_by [.b false] (And.intro h3 trivial) ?_
      kernel_rfl
theorem w_spec_l03Places {n : Nat} {a0 : Int} {a1 : Int} {a2 : Int} {a3 : Nat → Int} {a4 : Nat → Int} {a5 : List V} {a6 : Bool} {z0 : Int} (h : s_spec_l03Places n a0 a1 a2 a3 a4 a5 a6 = some z0) : ∀ k, n + 5 ≤ k → sem E k 136 [(V.ref [(V.int .i8 (a0)), (V.int .i8 (a1)), (V.int .u8 (a2)), (V.ints .u8 64 (a3))] 0 (0) 67), (V.ref [(V.ints .i16 17 (a4))] 0 (0) 17), (V.sl (a5)), (V.bool (a6))] = some (V.int .i64 (z0)) := by
  intro k hk
  obtain ⟨k, rfl⟩ : ∃ q, k = q + 1 := ⟨k - 1, by omega⟩
  unfold s_spec_l03Places at h
  obtain ⟨y1_0, q1, h⟩ := bnd_some h
  rcases cnd_some h with ⟨h2, h⟩ | ⟨h2, h⟩
  · obtain ⟨u7_0, l7, h⟩ := bnd_some h
    rcases cnd_some h with ⟨h9, h⟩ | ⟨h9, h⟩
    · replace h := Option.some.inj h
      obtain rfl := h
      refine pFun_by [.v (V.bool (y1_0)), .b false, .l .normal ⟨[(3, (V.bool (u7_0)))], []⟩, .b false] rfl (And.intro (w_spec_l02Ok q1 k (by omega)) (And.intro (not_f h2) (And.intro (lw_spec_l03Places_b0 _ _ _ _ _ _ _ _ _ l7 k k (by omega) (by omega)) (And.intro (not_f h9) trivial)))) ?_
      kernel_rfl
    · replace h := Option.some.inj h
      obtain rfl := h
      refine pFun_by [.v (V.bool (y1_0)), .b false, .l .normal ⟨[(3, (V.bool (u7_0)))], []⟩, .b true] rfl (And.intro (w_spec_l02Ok q1 k (by omega)) (And.intro (not_f h2) (And.intro (lw_spec_l03Places_b0 _ _ _ _ _ _ _ _ _ l7 k k (by omega) (by omega)) (And.intro (not_t h9) trivial)))) ?_
      kernel_rfl
  · replace h := Option.some.inj h
    obtain rfl := h
    refine pFun_by [.v (V.bool (y1_0)), .b true] rfl (And.intro (w_spec_l02Ok q1 k (by omega)) (And.intro (not_t h2) trivial)) ?_
    kernel_rfl
theorem lw_spec_l01All_b2 : ∀ (n : Nat) (a0 : Int) (a1 : Int) (a2 : Int) (a3 : Nat → Int) (a4 : Int) (a5 : Int) (a6 : List V) (r : Int × Int × Int × (Nat → Int) × Int × List V), l_spec_l01All_b2 n a0 a1 a2 a3 a4 a5 a6 = some r → ∀ k m, n + 0 ≤ k → n ≤ m → LB E 157 2 k m ⟨[(0, (V.ref [(V.int .i8 (a0)), (V.int .i8 (a1)), (V.int .u8 (a2)), (V.ints .u8 64 (a3))] 0 (0) 67)), (3, (V.row 7)), (4, (V.int .i8 (a4))), (5, (V.int .i8 (a5)))], [(7, .row 79 (a6))]⟩ = some (match r with | (o0, o1, o2, o3, o4, o5) => (.normal, ⟨[(0, (V.ref [(V.int .i8 (o0)), (V.int .i8 (o1)), (V.int .u8 (o2)), (V.ints .u8 64 (o3))] 0 (0) 67)), (3, (V.row 7)), (4, (V.int .i8 (o4)))], [(7, .row 79 (o5))]⟩)) := by
  intro n
  induction n with
  | zero => intro a0 a1 a2 a3 a4 a5 a6 r h; cases h
  | succ n ih =>
    intro a0 a1 a2 a3 a4 a5 a6 r h k m hk hm
    obtain ⟨m, rfl⟩ : ∃ q, m = q + 1 := ⟨m - 1, by omega⟩
    replace hk : n + 0 ≤ k := by omega
    unfold l_spec_l01All_b2 at h
    rcases cnd_some h with ⟨h2, h⟩ | ⟨h2, h⟩
    · obtain ⟨c3, h⟩ := chk_some h
      refine pNext_by [.b true] (And.intro h2 (And.intro c3 (And.intro (Eq.refl true) trivial))) (ih _ _ _ _ _ _ _ _ h k m hk (by omega)) ?_
      kernel_rfl
    · cases h
      refine pLast_by [.b false] (And.intro h2 trivial) ?_
      kernel_rfl
theorem lw_spec_l01All_b0 : ∀ (n : Nat) (a0 : Int) (a1 : Int) (a2 : Int) (a3 : Nat → Int) (a4 : Int) (a5 : List V) (r : List V), l_spec_l01All_b0 n a0 a1 a2 a3 a4 a5 = some r → ∀ k m, n + 0 ≤ k → n ≤ m → LB E 157 0 k m ⟨[(0, (V.ref [(V.int .i8 (a0)), (V.int .i8 (a1)), (V.int .u8 (a2)), (V.ints .u8 64 (a3))] 0 (0) 67)), (3, (V.row 7)), (4, (V.int .i8 (a4)))], [(7, .row 79 (a5))]⟩ = some (match r with | o0 => (.normal, ⟨[(3, (V.row 7))], [(7, .row 79 (o0))]⟩)) := by
  intro n
  induction n with
  | zero => intro a0 a1 a2 a3 a4 a5 r h; cases h
  | succ n ih =>
    intro a0 a1 a2 a3 a4 a5 r h k m hk hm
    obtain ⟨m, rfl⟩ : ∃ q, m = q + 1 := ⟨m - 1, by omega⟩
    replace hk : n + 0 ≤ k := by omega
    unfold l_spec_l01All_b0 at h
    rcases cnd_some h with ⟨h1, h⟩ | ⟨h1, h⟩
    · obtain ⟨⟨u4_0, u4_1, u4_2, u4_3, u4_4, u4_5⟩, l4, h⟩ := bnd_some h
      refine pNext_by [.b true, .l .normal ⟨[(0, (V.ref [(V.int .i8 (u4_0)), (V.int .i8 (u4_1)), (V.int .u8 (u4_2)), (V.ints .u8 64 (u4_3))] 0 (0) 67)), (3, (V.row 7)), (4, (V.int .i8 (u4_4)))], [(7, .row 79 (u4_5))]⟩] (And.intro h1 (And.intro (lw_spec_l01All_b2 _ _ _ _ _ _ _ _ _ l4 k k (by omega) (by omega)) trivial)) (ih _ _ _ _ _ _ _ h k m hk (by omega)) ?_
      kernel_rfl
    · cases h
      refine pLast_by [.b false] (And.intro h1 trivial) ?_
      kernel_rfl
theorem w_spec_l01All {n : Nat} {a0 : Int} {a1 : Int} {a2 : Int} {a3 : Nat → Int} {z0 : List V} (h : s_spec_l01All n a0 a1 a2 a3 = some z0) : ∀ k, n + 1 ≤ k → sem E k 157 [(V.ref [(V.int .i8 (a0)), (V.int .i8 (a1)), (V.int .u8 (a2)), (V.ints .u8 64 (a3))] 0 (0) 67)] = some (V.fresh 79 (z0)) := by
  intro k hk
  obtain ⟨k, rfl⟩ : ∃ q, k = q + 1 := ⟨k - 1, by omega⟩
  unfold s_spec_l01All at h
  obtain ⟨u6_0, l6, h⟩ := bnd_some h
  replace h := Option.some.inj h
  obtain rfl := h
  refine pFun_by [.l .normal ⟨[(3, (V.row 7))], [(7, .row 79 (u6_0))]⟩] rfl (And.intro (lw_spec_l01All_b0 _ _ _ _ _ _ _ _ l6 k k (by omega) (by omega)) trivial) ?_
  kernel_rfl
theorem w_spec_l01At {n : Nat} {a0 : Int} {a1 : Int} {a2 : Int} {a3 : Nat → Int} {a4 : Int} {a5 : Int} {z0 : Int} (h : s_spec_l01At n a0 a1 a2 a3 a4 a5 = some z0) : ∀ k, n + 1 ≤ k → sem E k 185 [(V.ref [(V.int .i8 (a0)), (V.int .i8 (a1)), (V.int .u8 (a2)), (V.ints .u8 64 (a3))] 0 (0) 67), (V.parts [(V.int .i8 (a4)), (V.int .i8 (a5))])] = some (V.int .i64 (z0)) := by
  intro k hk
  obtain ⟨k, rfl⟩ : ∃ q, k = q + 1 := ⟨k - 1, by omega⟩
  unfold s_spec_l01At at h
  obtain ⟨c1, h⟩ := chk_some h
  obtain ⟨c2, h⟩ := chk_some h
  replace h := Option.some.inj h
  obtain rfl := h
  refine pFun_by [] rfl (And.intro c1 (And.intro c2 trivial)) ?_
  kernel_rfl
theorem lw_spec_l03Wrong_b0 : ∀ (n : Nat) (a0 : Int) (a1 : Int) (a2 : Int) (a3 : Nat → Int) (a4 : Int) (a5 : List V) (a6 : List V) (r : List V), l_spec_l03Wrong_b0 n a0 a1 a2 a3 a4 a5 a6 = some r → ∀ k m, n + 1 ≤ k → n ≤ m → LB E 142 0 k m ⟨[(0, (V.ref [(V.int .i8 (a0)), (V.int .i8 (a1)), (V.int .u8 (a2)), (V.ints .u8 64 (a3))] 0 (0) 67)), (3, (V.row 7)), (4, (V.row 9)), (5, (V.int .i64 (a4)))], [(7, .row 79 (a5)), (9, .row 79 (a6))]⟩ = some (match r with | o0 => (.normal, ⟨[(3, (V.row 7))], [(7, .row 79 (o0))]⟩)) := by
  intro n
  induction n with
  | zero => intro a0 a1 a2 a3 a4 a5 a6 r h; cases h
  | succ n ih =>
    intro a0 a1 a2 a3 a4 a5 a6 r h k m hk hm
    obtain ⟨m, rfl⟩ : ∃ q, m = q + 1 := ⟨m - 1, by omega⟩
    replace hk : n + 1 ≤ k := by omega
    unfold l_spec_l03Wrong_b0 at h
    rcases cnd_some h with ⟨h2, h⟩ | ⟨h2, h⟩
    · obtain ⟨c3, h⟩ := chk_some h
      obtain ⟨⟨e4_0, e4_1⟩, g4, h⟩ := bnd_some h
      replace g4 := as_Pi8_i8Q_some g4
      obtain ⟨y5_0, q5, h⟩ := bnd_some h
      rcases cnd_some h with ⟨h6, h⟩ | ⟨h6, h⟩
      · refine pNext_by [.b true, .v (V.parts [(V.int .i8 (e4_0)), (V.int .i8 (e4_1))]), .v (V.int .i64 (y5_0)), .b false] (And.intro h2 (And.intro c3 (And.intro g4 (And.intro (w_spec_l01At q5 k (by omega)) (And.intro (not_f h6) trivial))))) (ih _ _ _ _ _ _ _ _ h k m hk (by omega)) ?_
        kernel_rfl
      · obtain ⟨⟨e7_0, e7_1⟩, g7, h⟩ := bnd_some h
        replace g7 := as_Pi8_i8Q_some g7
        obtain ⟨c8, h⟩ := chk_some h
        refine pNext_by [.b true, .v (V.parts [(V.int .i8 (e4_0)), (V.int .i8 (e4_1))]), .v (V.int .i64 (y5_0)), .b true, .v (V.parts [(V.int .i8 (e7_0)), (V.int .i8 (e7_1))])] (And.intro h2 (And.intro c3 (And.intro g4 (And.intro (w_spec_l01At q5 k (by omega)) (And.intro (not_t h6) (And.intro c3 (And.intro g7 (And.intro c8 (And.intro (Eq.refl true) trivial))))))))) (ih _ _ _ _ _ _ _ _ h k m hk (by omega)) ?_
        kernel_rfl
    · cases h
      refine pLast_by [.b false] (And.intro h2 trivial) ?_
      kernel_rfl
theorem w_spec_l03Wrong {n : Nat} {a0 : Int} {a1 : Int} {a2 : Int} {a3 : Nat → Int} {z0 : List V} (h : s_spec_l03Wrong n a0 a1 a2 a3 = some z0) : ∀ k, n + 2 ≤ k → sem E k 142 [(V.ref [(V.int .i8 (a0)), (V.int .i8 (a1)), (V.int .u8 (a2)), (V.ints .u8 64 (a3))] 0 (0) 67)] = some (V.fresh 79 (z0)) := by
  intro k hk
  obtain ⟨k, rfl⟩ : ∃ q, k = q + 1 := ⟨k - 1, by omega⟩
  unfold s_spec_l03Wrong at h
  obtain ⟨y1_0, q1, h⟩ := bnd_some h
  obtain ⟨u9_0, l9, h⟩ := bnd_some h
  replace h := Option.some.inj h
  obtain rfl := h
  refine pFun_by [.v (V.fresh 79 (y1_0)), .l .normal ⟨[(3, (V.row 7))], [(7, .row 79 (u9_0))]⟩] rfl (And.intro (w_spec_l01All q1 k (by omega)) (And.intro (lw_spec_l03Wrong_b0 _ _ _ _ _ _ _ _ _ l9 k k (by omega) (by omega)) trivial)) ?_
  kernel_rfl
theorem w_spec_l01By {n : Nat} {a0 : Int} {a1 : Int} {a2 : Int} {a3 : Nat → Int} {a4 : Int} {z0 : Int} (h : s_spec_l01By n a0 a1 a2 a3 a4 = some z0) : ∀ k, n + 1 ≤ k → sem E k 227 [(V.ref [(V.int .i8 (a0)), (V.int .i8 (a1)), (V.int .u8 (a2)), (V.ints .u8 64 (a3))] 0 (0) 67), (V.int .i64 (a4))] = some (V.int .i64 (z0)) := by
  intro k hk
  obtain ⟨k, rfl⟩ : ∃ q, k = q + 1 := ⟨k - 1, by omega⟩
  unfold s_spec_l01By at h
  replace h := Option.some.inj h
  obtain rfl := h
  refine pFun_by [] rfl (And.intro (Eq.refl true) trivial) ?_
  kernel_rfl
theorem w_spec_l01Tile {n : Nat} {a0 : Int} {a1 : Int} {a2 : Int} {a3 : Nat → Int} {a4 : Int} {a5 : Int} {z0 : Int} (h : s_spec_l01Tile n a0 a1 a2 a3 a4 a5 = some z0) : ∀ k, n + 2 ≤ k → sem E k 175 [(V.ref [(V.int .i8 (a0)), (V.int .i8 (a1)), (V.int .u8 (a2)), (V.ints .u8 64 (a3))] 0 (0) 67), (V.int .i64 (a4)), (V.int .i64 (a5))] = some (V.int .i64 (z0)) := by
  intro k hk
  obtain ⟨k, rfl⟩ : ∃ q, k = q + 1 := ⟨k - 1, by omega⟩
  unfold s_spec_l01Tile at h
  obtain ⟨y1_0, q1, h⟩ := bnd_some h
  rcases cnd_some h with ⟨h2, h⟩ | ⟨h2, h⟩
  · replace h := Option.some.inj h
    obtain rfl := h
    refine pFun_by [.v (V.int .i64 (y1_0)), .b true, .b true] rfl (And.intro (w_spec_l01By q1 k (by omega)) (And.intro h2 (And.intro (Eq.refl true) trivial))) ?_
    kernel_rfl
  · rcases cnd_some h with ⟨h3, h⟩ | ⟨h3, h⟩
    · replace h := Option.some.inj h
      obtain rfl := h
      refine pFun_by [.v (V.int .i64 (y1_0)), .b false, .b true] rfl (And.intro (w_spec_l01By q1 k (by omega)) (And.intro h2 (And.intro (Eq.refl true) (And.intro h3 trivial)))) ?_
      kernel_rfl
    · replace h := Option.some.inj h
      obtain rfl := h
      refine pFun_by [.v (V.int .i64 (y1_0)), .b false, .b false] rfl (And.intro (w_spec_l01By q1 k (by omega)) (And.intro h2 (And.intro (Eq.refl true) (And.intro h3 (And.intro (Eq.refl true) trivial))))) ?_
      kernel_rfl
theorem w_spec_l02Over {n : Nat} {a0 : Int} {a1 : Int} {a2 : Int} {a3 : Nat → Int} {a4 : Int} {a5 : Int} {z0 : Int} (h : s_spec_l02Over n a0 a1 a2 a3 a4 a5 = some z0) : ∀ k, n + 3 ≤ k → sem E k 266 [(V.ref [(V.int .i8 (a0)), (V.int .i8 (a1)), (V.int .u8 (a2)), (V.ints .u8 64 (a3))] 0 (0) 67), (V.int .i64 (a4)), (V.int .i64 (a5))] = some (V.int .i64 (z0)) := by
  intro k hk
  obtain ⟨k, rfl⟩ : ∃ q, k = q + 1 := ⟨k - 1, by omega⟩
  unfold s_spec_l02Over at h
  obtain ⟨y1_0, q1, h⟩ := bnd_some h
  rcases cnd_some h with ⟨h2, h⟩ | ⟨h2, h⟩
  · replace h := Option.some.inj h
    obtain rfl := h
    refine pFun_by [.v (V.int .i64 (y1_0)), .b true] rfl (And.intro (w_spec_l01Tile q1 k (by omega)) (And.intro h2 trivial)) ?_
    kernel_rfl
  · obtain ⟨c3, h⟩ := chk_some h
    obtain ⟨c4, h⟩ := chk_some h
    replace h := Option.some.inj h
    obtain rfl := h
    refine pFun_by [.v (V.int .i64 (y1_0)), .b false] rfl (And.intro (w_spec_l01Tile q1 k (by omega)) (And.intro h2 (And.intro c3 (And.intro c4 trivial)))) ?_
    kernel_rfl
theorem w_spec_l02Drip {n : Nat} {a0 : Int} {a1 : Int} {a2 : Int} {a3 : Nat → Int} {a4 : Int} {a5 : Int} {a6 : Int} {z0 : Int} (h : s_spec_l02Drip n a0 a1 a2 a3 a4 a5 a6 = some z0) : ∀ k, n + 4 ≤ k → sem E k 261 [(V.ref [(V.int .i8 (a0)), (V.int .i8 (a1)), (V.int .u8 (a2)), (V.ints .u8 64 (a3))] 0 (0) 67), (V.int .i64 (a4)), (V.int .i64 (a5)), (V.int .i64 (a6))] = some (V.int .i64 (z0)) := by
  intro k hk
  obtain ⟨k, rfl⟩ : ∃ q, k = q + 1 := ⟨k - 1, by omega⟩
  unfold s_spec_l02Drip at h
  obtain ⟨y1_0, q1, h⟩ := bnd_some h
  rcases cnd_some h with ⟨h2, h⟩ | ⟨h2, h⟩
  · replace h := Option.some.inj h
    obtain rfl := h
    refine pFun_by [.v (V.int .i64 (y1_0)), .b true] rfl (And.intro (w_spec_l02Over q1 k (by omega)) (And.intro h2 (And.intro (Eq.refl true) trivial))) ?_
    kernel_rfl
  · rcases cnd_some h with ⟨h3, h⟩ | ⟨h3, h⟩
    · replace h := Option.some.inj h
      obtain rfl := h
      refine pFun_by [.v (V.int .i64 (y1_0)), .b false, .b true] rfl (And.intro (w_spec_l02Over q1 k (by omega)) (And.intro h2 (And.intro h3 (And.intro (Eq.refl true) trivial)))) ?_
      kernel_rfl
    · rcases cnd_some h with ⟨h4, h⟩ | ⟨h4, h⟩
      · rcases cnd_some h with ⟨h5, h⟩ | ⟨h5, h⟩
        · obtain ⟨y6_0, q6, h⟩ := bnd_some h
          rcases cnd_some h with ⟨h7, h⟩ | ⟨h7, h⟩
          · replace h := Option.some.inj h
            obtain rfl := h
            refine pFun_by [.v (V.int .i64 (y1_0)), .b false, .b false, .b true, .b true, .v (V.int .i64 (y6_0)), .b true] rfl (And.intro (w_spec_l02Over q1 k (by omega)) (And.intro h2 (And.intro h3 (And.intro h4 (And.intro h5 (And.intro (w_spec_l02Over q6 k (by omega)) (And.intro h7 trivial))))))) ?_
            kernel_rfl
          · replace h := Option.some.inj h
            obtain rfl := h
            refine pFun_by [.v (V.int .i64 (y1_0)), .b false, .b false, .b true, .b true, .v (V.int .i64 (y6_0)), .b false] rfl (And.intro (w_spec_l02Over q1 k (by omega)) (And.intro h2 (And.intro h3 (And.intro h4 (And.intro h5 (And.intro (w_spec_l02Over q6 k (by omega)) (And.intro h7 trivial))))))) ?_
            kernel_rfl
        · replace h := Option.some.inj h
          obtain rfl := h
          refine pFun_by [.v (V.int .i64 (y1_0)), .b false, .b false, .b true, .b false, .b false] rfl (And.intro (w_spec_l02Over q1 k (by omega)) (And.intro h2 (And.intro h3 (And.intro h4 (And.intro h5 (And.intro (Eq.refl false) trivial)))))) ?_
          kernel_rfl
      · replace h := Option.some.inj h
        obtain rfl := h
        refine pFun_by [.v (V.int .i64 (y1_0)), .b false, .b false, .b false] rfl (And.intro (w_spec_l02Over q1 k (by omega)) (And.intro h2 (And.intro h3 (And.intro h4 trivial)))) ?_
        kernel_rfl
theorem lw_spec_l02Run_b2 : ∀ (n : Nat) (a0 : Int) (a1 : Int) (a2 : Int) (a3 : Nat → Int) (a4 : Nat → Int) (a5 : Int) (a6 : Int) (a7 : Int) (a8 : Nat → Int) (a9 : Nat → Int) (a10 : Nat → Int) (a11 : Nat → Int) (a12 : List V) (r : Int × Int × Int × (Nat → Int) × (Nat → Int) × Int × Int × (Nat → Int) × (Nat → Int) × (Nat → Int) × (Nat → Int) × List V), l_spec_l02Run_b2 n a0 a1 a2 a3 a4 a5 a6 a7 a8 a9 a10 a11 a12 = some r → ∀ k m, n + 4 ≤ k → n ≤ m → LB E 242 2 k m ⟨[(0, (V.ref [(V.int .i8 (a0)), (V.int .i8 (a1)), (V.int .u8 (a2)), (V.ints .u8 64 (a3))] 0 (0) 67)), (1, (V.ref [(V.ints .i16 17 (a4))] 0 (0) 17)), (4, (V.ptr 9 0 (0) 136)), (5, (V.ptr 11 0 (0) 136)), (7, (V.ptr 15 0 (0) 136)), (8, (V.ptr 17 0 (0) 136)), (9, (V.row 19)), (10, (V.int .i64 (a5))), (11, (V.int .i64 (a6))), (12, (V.int .i64 (a7)))], [(9, .box [(V.ints .i32 136 (a8))]), (11, .box [(V.ints .i32 136 (a9))]), (15, .box [(V.ints .i32 136 (a10))]), (17, .box [(V.ints .i32 136 (a11))]), (19, .row 2 (a12))]⟩ = some (match r with | (o0, o1, o2, o3, o4, o5, o6, o7, o8, o9, o10, o11) => (.normal, ⟨[(0, (V.ref [(V.int .i8 (o0)), (V.int .i8 (o1)), (V.int .u8 (o2)), (V.ints .u8 64 (o3))] 0 (0) 67)), (1, (V.ref [(V.ints .i16 17 (o4))] 0 (0) 17)), (4, (V.ptr 9 0 (0) 136)), (5, (V.ptr 11 0 (0) 136)), (7, (V.ptr 15 0 (0) 136)), (8, (V.ptr 17 0 (0) 136)), (9, (V.row 19)), (10, (V.int .i64 (o5))), (11, (V.int .i64 (o6)))], [(9, .box [(V.ints .i32 136 (o7))]), (11, .box [(V.ints .i32 136 (o8))]), (15, .box [(V.ints .i32 136 (o9))]), (17, .box [(V.ints .i32 136 (o10))]), (19, .row 2 (o11))]⟩)) := by
  intro n
  induction n with
  | zero => intro a0 a1 a2 a3 a4 a5 a6 a7 a8 a9 a10 a11 a12 r h; cases h
  | succ n ih =>
    intro a0 a1 a2 a3 a4 a5 a6 a7 a8 a9 a10 a11 a12 r h k m hk hm
    obtain ⟨m, rfl⟩ : ∃ q, m = q + 1 := ⟨m - 1, by omega⟩
    replace hk : n + 4 ≤ k := by omega
    unfold l_spec_l02Run_b2 at h
    rcases cnd_some h with ⟨h4, h⟩ | ⟨h4, h⟩
    · obtain ⟨c5, h⟩ := chk_some h
      obtain ⟨c6, h⟩ := chk_some h
      obtain ⟨y7_0, q7, h⟩ := bnd_some h
      refine pNext_by [.b true, .v (V.int .i64 (y7_0))] (And.intro h4 (And.intro c5 (And.intro c6 (And.intro (w_spec_l02Drip q7 k (by omega)) (And.intro c5 (And.intro c6 trivial)))))) (ih _ _ _ _ _ _ _ _ _ _ _ _ _ _ h k m hk (by omega)) ?_
      kernel_rfl
    · cases h
      refine pLast_by [.b false] (And.intro h4 trivial) ?_
      kernel_rfl
theorem lw_spec_l02Run_b0 : ∀ (n : Nat) (a0 : Int) (a1 : Int) (a2 : Int) (a3 : Nat → Int) (a4 : Nat → Int) (a5 : Int) (a6 : Nat → Int) (a7 : Nat → Int) (a8 : Nat → Int) (a9 : Nat → Int) (a10 : List V) (r : (Nat → Int) × (Nat → Int) × (Nat → Int) × (Nat → Int) × List V), l_spec_l02Run_b0 n a0 a1 a2 a3 a4 a5 a6 a7 a8 a9 a10 = some r → ∀ k m, n + 4 ≤ k → n ≤ m → LB E 242 0 k m ⟨[(0, (V.ref [(V.int .i8 (a0)), (V.int .i8 (a1)), (V.int .u8 (a2)), (V.ints .u8 64 (a3))] 0 (0) 67)), (1, (V.ref [(V.ints .i16 17 (a4))] 0 (0) 17)), (4, (V.ptr 9 0 (0) 136)), (5, (V.ptr 11 0 (0) 136)), (7, (V.ptr 15 0 (0) 136)), (8, (V.ptr 17 0 (0) 136)), (9, (V.row 19)), (10, (V.int .i64 (a5)))], [(9, .box [(V.ints .i32 136 (a6))]), (11, .box [(V.ints .i32 136 (a7))]), (15, .box [(V.ints .i32 136 (a8))]), (17, .box [(V.ints .i32 136 (a9))]), (19, .row 2 (a10))]⟩ = some (match r with | (o0, o1, o2, o3, o4) => (.normal, ⟨[(4, (V.ptr 9 0 (0) 136)), (5, (V.ptr 11 0 (0) 136)), (7, (V.ptr 15 0 (0) 136)), (8, (V.ptr 17 0 (0) 136)), (9, (V.row 19))], [(9, .box [(V.ints .i32 136 (o0))]), (11, .box [(V.ints .i32 136 (o1))]), (15, .box [(V.ints .i32 136 (o2))]), (17, .box [(V.ints .i32 136 (o3))]), (19, .row 2 (o4))]⟩)) := by
  intro n
  induction n with
  | zero => intro a0 a1 a2 a3 a4 a5 a6 a7 a8 a9 a10 r h; cases h
  | succ n ih =>
    intro a0 a1 a2 a3 a4 a5 a6 a7 a8 a9 a10 r h k m hk hm
    obtain ⟨m, rfl⟩ : ∃ q, m = q + 1 := ⟨m - 1, by omega⟩
    replace hk : n + 4 ≤ k := by omega
    unfold l_spec_l02Run_b0 at h
    obtain ⟨y1_0, q1, h⟩ := bnd_some h
    rcases cnd_some h with ⟨h2, h⟩ | ⟨h2, h⟩
    · obtain ⟨c3, h⟩ := chk_some h
      obtain ⟨⟨u8_0, u8_1, u8_2, u8_3, u8_4, u8_5, u8_6, u8_7, u8_8, u8_9, u8_10, u8_11⟩, l8, h⟩ := bnd_some h
      obtain ⟨c10, h⟩ := chk_some h
      refine pNext_by [.v (V.int .i64 (y1_0)), .b true, .l .normal ⟨[(0, (V.ref [(V.int .i8 (u8_0)), (V.int .i8 (u8_1)), (V.int .u8 (u8_2)), (V.ints .u8 64 (u8_3))] 0 (0) 67)), (1, (V.ref [(V.ints .i16 17 (u8_4))] 0 (0) 17)), (4, (V.ptr 9 0 (0) 136)), (5, (V.ptr 11 0 (0) 136)), (7, (V.ptr 15 0 (0) 136)), (8, (V.ptr 17 0 (0) 136)), (9, (V.row 19)), (10, (V.int .i64 (u8_5))), (11, (V.int .i64 (u8_6)))], [(9, .box [(V.ints .i32 136 (u8_7))]), (11, .box [(V.ints .i32 136 (u8_8))]), (15, .box [(V.ints .i32 136 (u8_9))]), (17, .box [(V.ints .i32 136 (u8_10))]), (19, .row 2 (u8_11))]⟩] (And.intro (w_spec_l01Cells q1 k (by omega)) (And.intro h2 (And.intro c3 (And.intro (lw_spec_l02Run_b2 _ _ _ _ _ _ _ _ _ _ _ _ _ _ _ l8 k k (by omega) (by omega)) (And.intro c10 (And.intro (Eq.refl true) trivial)))))) (ih _ _ _ _ _ _ _ _ _ _ _ _ h k m hk (by omega)) ?_
      kernel_rfl
    · cases h
      refine pLast_by [.v (V.int .i64 (y1_0)), .b false] (And.intro (w_spec_l01Cells q1 k (by omega)) (And.intro h2 trivial)) ?_
      kernel_rfl
theorem w_spec_l02Run {n : Nat} {a0 : Int} {a1 : Int} {a2 : Int} {a3 : Nat → Int} {a4 : Nat → Int} {z0 : Nat → Int} {z1 : Nat → Int} {z2 : List V} (h : s_spec_l02Run n a0 a1 a2 a3 a4 = some (z0, z1, z2)) : ∀ k, n + 5 ≤ k → sem E k 242 [(V.ref [(V.int .i8 (a0)), (V.int .i8 (a1)), (V.int .u8 (a2)), (V.ints .u8 64 (a3))] 0 (0) 67), (V.ref [(V.ints .i16 17 (a4))] 0 (0) 17)] = some (V.tup [(V.ints .i32 136 (z0)), (V.ints .i32 136 (z1)), (V.fresh 2 (z2))]) := by
  intro k hk
  obtain ⟨k, rfl⟩ : ∃ q, k = q + 1 := ⟨k - 1, by omega⟩
  unfold s_spec_l02Run at h
  obtain ⟨⟨u11_0, u11_1, u11_2, u11_3, u11_4⟩, l11, h⟩ := bnd_some h
  simp only [Option.some.injEq, Prod.mk.injEq] at h
  obtain ⟨rfl, rfl, rfl⟩ := h
  refine pFun_by [.l .normal ⟨[(4, (V.ptr 9 0 (0) 136)), (5, (V.ptr 11 0 (0) 136)), (7, (V.ptr 15 0 (0) 136)), (8, (V.ptr 17 0 (0) 136)), (9, (V.row 19))], [(9, .box [(V.ints .i32 136 (u11_0))]), (11, .box [(V.ints .i32 136 (u11_1))]), (15, .box [(V.ints .i32 136 (u11_2))]), (17, .box [(V.ints .i32 136 (u11_3))]), (19, .row 2 (u11_4))]⟩] rfl (And.intro (lw_spec_l02Run_b0 _ _ _ _ _ _ _ _ _ _ _ _ _ l11 k k (by omega) (by omega)) trivial) ?_
  kernel_rfl
theorem lw_spec_l02Sum_b2 : ∀ (n : Nat) (a0 : Int) (a1 : Int) (a2 : Int) (a3 : Nat → Int) (r : Int × Int × (Nat → Int)), l_spec_l02Sum_b2 n a0 a1 a2 a3 = some r → ∀ k m, n + 0 ≤ k → n ≤ m → LB E 208 2 k m ⟨[(5, (V.ptr 11 0 (0) 136)), (8, (V.int .i64 (a0))), (9, (V.int .i64 (a1))), (10, (V.int .i64 (a2)))], [(11, .box [(V.ints .i32 136 (a3))])]⟩ = some (match r with | (o0, o1, o2) => (.normal, ⟨[(5, (V.ptr 11 0 (0) 136)), (8, (V.int .i64 (o0))), (9, (V.int .i64 (o1)))], [(11, .box [(V.ints .i32 136 (o2))])]⟩)) := by
  intro n
  induction n with
  | zero => intro a0 a1 a2 a3 r h; cases h
  | succ n ih =>
    intro a0 a1 a2 a3 r h k m hk hm
    obtain ⟨m, rfl⟩ : ∃ q, m = q + 1 := ⟨m - 1, by omega⟩
    replace hk : n + 0 ≤ k := by omega
    unfold l_spec_l02Sum_b2 at h
    rcases cnd_some h with ⟨h3, h⟩ | ⟨h3, h⟩
    · obtain ⟨c4, h⟩ := chk_some h
      obtain ⟨c5, h⟩ := chk_some h
      refine pNext_by [.b true] (And.intro h3 (And.intro c4 (And.intro c5 trivial))) (ih _ _ _ _ _ h k m hk (by omega)) ?_
      kernel_rfl
    · cases h
      refine pLast_by [.b false] (And.intro h3 trivial) ?_
      kernel_rfl
theorem lw_spec_l02Sum_b0 : ∀ (n : Nat) (a0 : Int) (a1 : Int) (a2 : Nat → Int) (r : Int), l_spec_l02Sum_b0 n a0 a1 a2 = some r → ∀ k m, n + 0 ≤ k → n ≤ m → LB E 208 0 k m ⟨[(5, (V.ptr 11 0 (0) 136)), (8, (V.int .i64 (a0))), (9, (V.int .i64 (a1)))], [(11, .box [(V.ints .i32 136 (a2))])]⟩ = some (match r with | o0 => (.normal, ⟨[(8, (V.int .i64 (o0)))], []⟩)) := by
  intro n
  induction n with
  | zero => intro a0 a1 a2 r h; cases h
  | succ n ih =>
    intro a0 a1 a2 r h k m hk hm
    obtain ⟨m, rfl⟩ : ∃ q, m = q + 1 := ⟨m - 1, by omega⟩
    replace hk : n + 0 ≤ k := by omega
    unfold l_spec_l02Sum_b0 at h
    rcases cnd_some h with ⟨h2, h⟩ | ⟨h2, h⟩
    · obtain ⟨⟨u6_0, u6_1, u6_2⟩, l6, h⟩ := bnd_some h
      refine pNext_by [.b true, .l .normal ⟨[(5, (V.ptr 11 0 (0) 136)), (8, (V.int .i64 (u6_0))), (9, (V.int .i64 (u6_1)))], [(11, .box [(V.ints .i32 136 (u6_2))])]⟩] (And.intro h2 (And.intro (lw_spec_l02Sum_b2 _ _ _ _ _ _ l6 k k (by omega) (by omega)) trivial)) (ih _ _ _ _ h k m hk (by omega)) ?_
      kernel_rfl
    · cases h
      refine pLast_by [.b false] (And.intro h2 trivial) ?_
      kernel_rfl
theorem w_spec_l02Sum {n : Nat} {a0 : Int} {a1 : Int} {a2 : Int} {a3 : Nat → Int} {a4 : Nat → Int} {z0 : Int} (h : s_spec_l02Sum n a0 a1 a2 a3 a4 = some z0) : ∀ k, n + 6 ≤ k → sem E k 208 [(V.ref [(V.int .i8 (a0)), (V.int .i8 (a1)), (V.int .u8 (a2)), (V.ints .u8 64 (a3))] 0 (0) 67), (V.ref [(V.ints .i16 17 (a4))] 0 (0) 17)] = some (V.int .i64 (z0)) := by
  intro k hk
  obtain ⟨k, rfl⟩ : ∃ q, k = q + 1 := ⟨k - 1, by omega⟩
  unfold s_spec_l02Sum at h
  obtain ⟨⟨y1_0, y1_1, y1_2⟩, q1, h⟩ := bnd_some h
  obtain ⟨u8_0, l8, h⟩ := bnd_some h
  replace h := Option.some.inj h
  obtain rfl := h
  refine pFun_by [.v (V.tup [(V.ints .i32 136 (y1_0)), (V.ints .i32 136 (y1_1)), (V.fresh 2 (y1_2))]), .l .normal ⟨[(8, (V.int .i64 (u8_0)))], []⟩] rfl (And.intro (w_spec_l02Run q1 k (by omega)) (And.intro (lw_spec_l02Sum_b0 _ _ _ _ _ l8 k k (by omega) (by omega)) trivial)) ?_
  kernel_rfl
theorem lw_spec_l03After_b0 : ∀ (n : Nat) (a0 : Nat → Int) (a1 : List V) (a2 : Int) (a3 : Int) (a4 : Int) (a5 : Int) (a6 : Nat → Int) (r : (Nat → Int) × Int × Int × Int × (Nat → Int)), l_spec_l03After_b0 n a0 a1 a2 a3 a4 a5 a6 = some r → ∀ k m, n + 0 ≤ k → n ≤ m → LB E 137 0 k m ⟨[(1, (V.ref [(V.ints .i16 17 (a0))] 0 (0) 17)), (2, (V.sl (a1))), (7, (V.ptr 15 0 (0) 67)), (8, (V.int .i64 (a2)))], [(15, .box [(V.int .i8 (a3)), (V.int .i8 (a4)), (V.int .u8 (a5)), (V.ints .u8 64 (a6))])]⟩ = some (match r with | (o0, o1, o2, o3, o4) => (.normal, ⟨[(1, (V.ref [(V.ints .i16 17 (o0))] 0 (0) 17)), (7, (V.ptr 15 0 (0) 67))], [(15, .box [(V.int .i8 (o1)), (V.int .i8 (o2)), (V.int .u8 (o3)), (V.ints .u8 64 (o4))])]⟩)) := by
  intro n
  induction n with
  | zero => intro a0 a1 a2 a3 a4 a5 a6 r h; cases h
  | succ n ih =>
    intro a0 a1 a2 a3 a4 a5 a6 r h k m hk hm
    obtain ⟨m, rfl⟩ : ∃ q, m = q + 1 := ⟨m - 1, by omega⟩
    replace hk : n + 0 ≤ k := by omega
    unfold l_spec_l03After_b0 at h
    rcases cnd_some h with ⟨h1, h⟩ | ⟨h1, h⟩
    · obtain ⟨⟨e2_0, e2_1⟩, g2, h⟩ := bnd_some h
      replace g2 := as_Pi8_i8Q_some g2
      obtain ⟨⟨e3_0, e3_1⟩, g3, h⟩ := bnd_some h
      replace g3 := as_Pi8_i8Q_some g3
      obtain ⟨c4, h⟩ := chk_some h
      obtain ⟨c5, h⟩ := chk_some h
      refine pNext_by [.b true, .v (V.parts [(V.int .i8 (e2_0)), (V.int .i8 (e2_1))]), .v (V.parts [(V.int .i8 (e3_0)), (V.int .i8 (e3_1))])] (And.intro h1 (And.intro g2 (And.intro g3 (And.intro c4 (And.intro c5 trivial))))) (ih _ _ _ _ _ _ _ _ h k m hk (by omega)) ?_
      kernel_rfl
    · cases h
      refine pLast_by [.b false] (And.intro h1 trivial) ?_
      kernel_rfl
theorem w_spec_l03After {n : Nat} {a0 : Int} {a1 : Int} {a2 : Int} {a3 : Nat → Int} {a4 : Nat → Int} {a5 : List V} {z0 : Int} (h : s_spec_l03After n a0 a1 a2 a3 a4 a5 = some z0) : ∀ k, n + 7 ≤ k → sem E k 137 [(V.ref [(V.int .i8 (a0)), (V.int .i8 (a1)), (V.int .u8 (a2)), (V.ints .u8 64 (a3))] 0 (0) 67), (V.ref [(V.ints .i16 17 (a4))] 0 (0) 17), (V.sl (a5))] = some (V.int .i64 (z0)) := by
  intro k hk
  obtain ⟨k, rfl⟩ : ∃ q, k = q + 1 := ⟨k - 1, by omega⟩
  unfold s_spec_l03After at h
  obtain ⟨⟨u6_0, u6_1, u6_2, u6_3, u6_4⟩, l6, h⟩ := bnd_some h
  obtain ⟨y8_0, q8, h⟩ := bnd_some h
  replace h := Option.some.inj h
  obtain rfl := h
  refine pFun_by [.l .normal ⟨[(1, (V.ref [(V.ints .i16 17 (u6_0))] 0 (0) 17)), (7, (V.ptr 15 0 (0) 67))], [(15, .box [(V.int .i8 (u6_1)), (V.int .i8 (u6_2)), (V.int .u8 (u6_3)), (V.ints .u8 64 (u6_4))])]⟩, .v (V.int .i64 (y8_0))] rfl (And.intro (lw_spec_l03After_b0 _ _ _ _ _ _ _ _ _ l6 k k (by omega) (by omega)) (And.intro (w_spec_l02Sum q8 k (by omega)) (And.intro (Eq.refl true) trivial))) ?_
  kernel_rfl
theorem w_spec_CheckRepairs {n : Nat} {a0 : Int} {a1 : Int} {a2 : Int} {a3 : Nat → Int} {a4 : Nat → Int} {a5 : List V} {a6 : Int} {z0 : Bool} {z1 : Int} (h : s_spec_CheckRepairs n a0 a1 a2 a3 a4 a5 a6 = some (z0, z1)) : ∀ k, n + 8 ≤ k → sem E k 55 [(V.parts [(V.int .i8 (a0)), (V.int .i8 (a1)), (V.int .u8 (a2)), (V.ints .u8 64 (a3))]), (V.ints .i16 17 (a4)), (V.sl (a5)), (V.int .i64 (a6))] = some (V.tup [(V.bool (z0)), (V.int .i64 (z1))]) := by
  intro k hk
  obtain ⟨k, rfl⟩ : ∃ q, k = q + 1 := ⟨k - 1, by omega⟩
  unfold s_spec_CheckRepairs at h
  obtain ⟨y1_0, q1, h⟩ := bnd_some h
  rcases cnd_some h with ⟨h2, h⟩ | ⟨h2, h⟩
  · obtain ⟨y3_0, q3, h⟩ := bnd_some h
    obtain ⟨c4, h⟩ := chk_some h
    rcases cnd_some h with ⟨h5, h⟩ | ⟨h5, h⟩
    · rcases cnd_some h with ⟨h6, h⟩ | ⟨h6, h⟩
      · obtain ⟨y7_0, q7, h⟩ := bnd_some h
        simp only [Option.some.injEq, Prod.mk.injEq] at h
        obtain ⟨rfl, rfl⟩ := h
        refine pFun_by [.v (V.int .i64 (y1_0)), .b true, .v (V.fresh 79 (y3_0)), .b true, .b false, .v (V.int .i64 (y7_0))] rfl (And.intro (w_spec_l03Places q1 k (by omega)) (And.intro (Eq.refl true) (And.intro h2 (And.intro (w_spec_l03Wrong q3 k (by omega)) (And.intro c4 (And.intro h5 (And.intro (not_f h6) (And.intro (w_spec_l03After q7 k (by omega)) (And.intro (Eq.refl true) trivial))))))))) ?_
        kernel_rfl
      · simp only [Option.some.injEq, Prod.mk.injEq] at h
        obtain ⟨rfl, rfl⟩ := h
        refine pFun_by [.v (V.int .i64 (y1_0)), .b true, .v (V.fresh 79 (y3_0)), .b true, .b true] rfl (And.intro (w_spec_l03Places q1 k (by omega)) (And.intro (Eq.refl true) (And.intro h2 (And.intro (w_spec_l03Wrong q3 k (by omega)) (And.intro c4 (And.intro h5 (And.intro (not_t h6) trivial))))))) ?_
        kernel_rfl
    · obtain ⟨y8_0, q8, h⟩ := bnd_some h
      simp only [Option.some.injEq, Prod.mk.injEq] at h
      obtain ⟨rfl, rfl⟩ := h
      refine pFun_by [.v (V.int .i64 (y1_0)), .b true, .v (V.fresh 79 (y3_0)), .b false, .b false, .v (V.int .i64 (y8_0))] rfl (And.intro (w_spec_l03Places q1 k (by omega)) (And.intro (Eq.refl true) (And.intro h2 (And.intro (w_spec_l03Wrong q3 k (by omega)) (And.intro c4 (And.intro h5 (And.intro (not_f h2) (And.intro (w_spec_l03After q8 k (by omega)) (And.intro (Eq.refl true) trivial))))))))) ?_
      kernel_rfl
  · simp only [Option.some.injEq, Prod.mk.injEq] at h
    obtain ⟨rfl, rfl⟩ := h
    refine pFun_by [.v (V.int .i64 (y1_0)), .b false, .b false, .b true] rfl (And.intro (w_spec_l03Places q1 k (by omega)) (And.intro (Eq.refl true) (And.intro h2 (And.intro (Eq.refl false) (And.intro (not_t h2) trivial))))) ?_
    kernel_rfl
theorem w_impl_within_int8 {n : Nat} {a0 : Int} {a1 : Int} {a2 : Int} {z0 : Bool} (h : s_impl_within_int8 n a0 a1 a2 = some z0) : ∀ k, n + 1 ≤ k → sem E k 187 [(V.int .i8 (a0)), (V.int .i8 (a1)), (V.int .i8 (a2))] = some (V.bool (z0)) := by
  intro k hk
  obtain ⟨k, rfl⟩ : ∃ q, k = q + 1 := ⟨k - 1, by omega⟩
  unfold s_impl_within_int8 at h
  rcases cnd_some h with ⟨h1, h⟩ | ⟨h1, h⟩
  · replace h := Option.some.inj h
    obtain rfl := h
    refine pFun_by [.b true] rfl (And.intro h1 trivial) ?_
    kernel_rfl
  · replace h := Option.some.inj h
    obtain rfl := h
    refine pFun_by [.b false] rfl (And.intro h1 trivial) ?_
    kernel_rfl
theorem w_impl_Roof_has {n : Nat} {a0 : Int} {a1 : Int} {a2 : Int} {a3 : Nat → Int} {a4 : Int} {a5 : Int} {z0 : Bool} (h : s_impl_Roof_has n a0 a1 a2 a3 a4 a5 = some z0) : ∀ k, n + 2 ≤ k → sem E k 132 [(V.parts [(V.int .i8 (a0)), (V.int .i8 (a1)), (V.int .u8 (a2)), (V.ints .u8 64 (a3))]), (V.parts [(V.int .i8 (a4)), (V.int .i8 (a5))])] = some (V.bool (z0)) := by
  intro k hk
  obtain ⟨k, rfl⟩ : ∃ q, k = q + 1 := ⟨k - 1, by omega⟩
  unfold s_impl_Roof_has at h
  obtain ⟨y1_0, q1, h⟩ := bnd_some h
  rcases cnd_some h with ⟨h2, h⟩ | ⟨h2, h⟩
  · obtain ⟨y3_0, q3, h⟩ := bnd_some h
    replace h := Option.some.inj h
    obtain rfl := h
    refine pFun_by [.v (V.bool (y1_0)), .b true, .v (V.bool (y3_0))] rfl (And.intro (w_impl_within_int8 q1 k (by omega)) (And.intro h2 (And.intro (w_impl_within_int8 q3 k (by omega)) trivial))) ?_
    kernel_rfl
  · replace h := Option.some.inj h
    obtain rfl := h
    refine pFun_by [.v (V.bool (y1_0)), .b false] rfl (And.intro (w_impl_within_int8 q1 k (by omega)) (And.intro h2 trivial)) ?_
    kernel_rfl
theorem w_impl_areAll_impl_Place_1__Roof_has {n : Nat} {a0 : Int} {a1 : Int} {a2 : Int} {a3 : Int} {a4 : Int} {a5 : Nat → Int} {z0 : Bool} (h : s_impl_areAll_impl_Place_1__Roof_has n a0 a1 a2 a3 a4 a5 = some z0) : ∀ k, n + 3 ≤ k → sem E k 211 [(V.parts [(V.int .i8 (a0)), (V.int .i8 (a1))]), (V.ref [(V.clo 2000132 [(V.parts [(V.int .i8 (a2)), (V.int .i8 (a3)), (V.int .u8 (a4)), (V.ints .u8 64 (a5))])])] 0 (0) 1)] = some (V.bool (z0)) := by
  intro k hk
  obtain ⟨k, rfl⟩ : ∃ q, k = q + 1 := ⟨k - 1, by omega⟩
  unfold s_impl_areAll_impl_Place_1__Roof_has at h
  obtain ⟨y1_0, q1, h⟩ := bnd_some h
  replace h := Option.some.inj h
  obtain rfl := h
  refine pFun_by [.v (V.bool (y1_0))] rfl (And.intro (w_impl_Roof_has q1 k (by omega)) trivial) ?_
  kernel_rfl
theorem lw_slices_IndexFunc_Simpl_Place_impl_Place__areAll_Place_1__Roof_has_b0 : ∀ (n : Nat) (a0 : List V) (a1 : Int) (a2 : Int) (a3 : Int) (a4 : Nat → Int) (a5 : Int) (a6 : Int) (r : Sum (Unit) (Int)), l_slices_IndexFunc_Simpl_Place_impl_Place__areAll_Place_1__Roof_has_b0 n a0 a1 a2 a3 a4 a5 a6 = some r → ∀ k m, n + 3 ≤ k → n ≤ m → LB E 244 0 k m ⟨[(0, (V.sl (a0))), (1, (V.clo 211 [(V.ref [(V.clo 2000132 [(V.parts [(V.int .i8 (a1)), (V.int .i8 (a2)), (V.int .u8 (a3)), (V.ints .u8 64 (a4))])])] 0 (0) 1)])), (7, (V.int .i64 (a5))), (8, (V.int .i64 (a6)))], []⟩ = some (match r with | .inl _ => (.normal, ⟨[], []⟩) | .inr o0 => (.ret, ⟨[(4, (V.int .i64 (o0)))], []⟩)) := by
  intro n
  induction n with
  | zero => intro a0 a1 a2 a3 a4 a5 a6 r h; cases h
  | succ n ih =>
    intro a0 a1 a2 a3 a4 a5 a6 r h k m hk hm
    obtain ⟨m, rfl⟩ : ∃ q, m = q + 1 := ⟨m - 1, by omega⟩
    replace hk : n + 3 ≤ k := by omega
    unfold l_slices_IndexFunc_Simpl_Place_impl_Place__areAll_Place_1__Roof_has_b0 at h
    rcases cnd_some h with ⟨h1, h⟩ | ⟨h1, h⟩
    · obtain ⟨⟨e2_0, e2_1⟩, g2, h⟩ := bnd_some h
      replace g2 := as_Pi8_i8Q_some g2
      obtain ⟨y3_0, q3, h⟩ := bnd_some h
      rcases cnd_some h with ⟨h4, h⟩ | ⟨h4, h⟩
      · cases h
        refine pLast_by [.b true, .v (V.parts [(V.int .i8 (e2_0)), (V.int .i8 (e2_1))]), .v (V.bool (y3_0)), .b true] (And.intro h1 (And.intro g2 (And.intro (w_impl_areAll_impl_Place_1__Roof_has q3 k (by omega)) (And.intro h4 trivial)))) ?_
        kernel_rfl
      · refine pNext_by [.b true, .v (V.parts [(V.int .i8 (e2_0)), (V.int .i8 (e2_1))]), .v (V.bool (y3_0)), .b false] (And.intro h1 (And.intro g2 (And.intro (w_impl_areAll_impl_Place_1__Roof_has q3 k (by omega)) (And.intro h4 trivial)))) (ih _ _ _ _ _ _ _ _ h k m hk (by omega)) ?_
        kernel_rfl
    · cases h
      refine pLast_by [.b false] (And.intro h1 trivial) ?_
      kernel_rfl
theorem w_slices_IndexFunc_Simpl_Place_impl_Place__areAll_Place_1__Roof_has {n : Nat} {a0 : List V} {a1 : Int} {a2 : Int} {a3 : Int} {a4 : Nat → Int} {z0 : Int} (h : s_slices_IndexFunc_Simpl_Place_impl_Place__areAll_Place_1__Roof_has n a0 a1 a2 a3 a4 = some z0) : ∀ k, n + 4 ≤ k → sem E k 244 [(V.sl (a0)), (V.clo 211 [(V.ref [(V.clo 2000132 [(V.parts [(V.int .i8 (a1)), (V.int .i8 (a2)), (V.int .u8 (a3)), (V.ints .u8 64 (a4))])])] 0 (0) 1)])] = some (V.int .i64 (z0)) := by
  intro k hk
  obtain ⟨k, rfl⟩ : ∃ q, k = q + 1 := ⟨k - 1, by omega⟩
  unfold s_slices_IndexFunc_Simpl_Place_impl_Place__areAll_Place_1__Roof_has at h
  obtain ⟨w, l5, h⟩ := bnd_some h
  rcases w with ⟨⟩ | u6_0
  · replace h := Option.some.inj h
    obtain rfl := h
    refine pFun_by [.l .normal ⟨[], []⟩] rfl (And.intro (lw_slices_IndexFunc_Simpl_Place_impl_Place__areAll_Place_1__Roof_has_b0 _ _ _ _ _ _ _ _ _ l5 k k (by omega) (by omega)) trivial) ?_
    kernel_rfl
  · replace h := Option.some.inj h
    obtain rfl := h
    refine pFun_by [.l .ret ⟨[(4, (V.int .i64 (u6_0)))], []⟩] rfl (And.intro (lw_slices_IndexFunc_Simpl_Place_impl_Place__areAll_Place_1__Roof_has_b0 _ _ _ _ _ _ _ _ _ l5 k k (by omega) (by omega)) trivial) ?_
    kernel_rfl
theorem w_slices_ContainsFunc_Simpl_Place_impl_Place__areAll_Place_1__Roof_has {n : Nat} {a0 : List V} {a1 : Int} {a2 : Int} {a3 : Int} {a4 : Nat → Int} {z0 : Bool} (h : s_slices_ContainsFunc_Simpl_Place_impl_Place__areAll_Place_1__Roof_has n a0 a1 a2 a3 a4 = some z0) : ∀ k, n + 5 ≤ k → sem E k 210 [(V.sl (a0)), (V.clo 211 [(V.ref [(V.clo 2000132 [(V.parts [(V.int .i8 (a1)), (V.int .i8 (a2)), (V.int .u8 (a3)), (V.ints .u8 64 (a4))])])] 0 (0) 1)])] = some (V.bool (z0)) := by
  intro k hk
  obtain ⟨k, rfl⟩ : ∃ q, k = q + 1 := ⟨k - 1, by omega⟩
  unfold s_slices_ContainsFunc_Simpl_Place_impl_Place__areAll_Place_1__Roof_has at h
  obtain ⟨y1_0, q1, h⟩ := bnd_some h
  replace h := Option.some.inj h
  obtain rfl := h
  refine pFun_by [.v (V.int .i64 (y1_0))] rfl (And.intro (w_slices_IndexFunc_Simpl_Place_impl_Place__areAll_Place_1__Roof_has q1 k (by omega)) trivial) ?_
  kernel_rfl
theorem w_impl_areAll_impl_Place__Roof_has {n : Nat} {a0 : List V} {a1 : Int} {a2 : Int} {a3 : Int} {a4 : Nat → Int} {z0 : Bool} (h : s_impl_areAll_impl_Place__Roof_has n a0 a1 a2 a3 a4 = some z0) : ∀ k, n + 6 ≤ k → sem E k 139 [(V.sl (a0)), (V.clo 2000132 [(V.parts [(V.int .i8 (a1)), (V.int .i8 (a2)), (V.int .u8 (a3)), (V.ints .u8 64 (a4))])])] = some (V.bool (z0)) := by
  intro k hk
  obtain ⟨k, rfl⟩ : ∃ q, k = q + 1 := ⟨k - 1, by omega⟩
  unfold s_impl_areAll_impl_Place__Roof_has at h
  obtain ⟨y1_0, q1, h⟩ := bnd_some h
  replace h := Option.some.inj h
  obtain rfl := h
  refine pFun_by [.v (V.bool (y1_0))] rfl (And.intro (w_slices_ContainsFunc_Simpl_Place_impl_Place__areAll_Place_1__Roof_has q1 k (by omega)) (And.intro (Eq.refl true) trivial)) ?_
  kernel_rfl
theorem lw_impl_ValidRoof_b2 : ∀ (n : Nat) (a0 : Int) (a1 : Nat → Int) (a2 : Int) (a3 : Nat → Int) (a4 : Int) (a5 : Int) (a6 : Int) (a7 : Int) (a8 : Nat → Int) (r : Sum ((Nat → Int) × Int × Int × Int × Int × (Nat → Int)) (Bool)), l_impl_ValidRoof_b2 n a0 a1 a2 a3 a4 a5 a6 a7 a8 = some r → ∀ k m, n + 0 ≤ k → n ≤ m → LB E 180 2 k m ⟨[(1, (V.ptr 3 0 (0) 67)), (3, (V.int .i64 (a0))), (23, (V.ints .u8 64 (a1))), (24, (V.int .i64 (a2))), (28, (V.ints .u8 8 (a3))), (29, (V.int .i64 (a4)))], [(3, .box [(V.int .i8 (a5)), (V.int .i8 (a6)), (V.int .u8 (a7)), (V.ints .u8 64 (a8))])]⟩ = some (match r with | .inl (o0, o1, o2, o3, o4, o5) => (.normal, ⟨[(1, (V.ptr 3 0 (0) 67)), (23, (V.ints .u8 64 (o0))), (24, (V.int .i64 (o1)))], [(3, .box [(V.int .i8 (o2)), (V.int .i8 (o3)), (V.int .u8 (o4)), (V.ints .u8 64 (o5))])]⟩) | .inr o0 => (.ret, ⟨[(2, (V.bool (o0)))], []⟩)) := by
  intro n
  induction n with
  | zero => intro a0 a1 a2 a3 a4 a5 a6 a7 a8 r h; cases h
  | succ n ih =>
    intro a0 a1 a2 a3 a4 a5 a6 a7 a8 r h k m hk hm
    obtain ⟨m, rfl⟩ : ∃ q, m = q + 1 := ⟨m - 1, by omega⟩
    replace hk : n + 0 ≤ k := by omega
    unfold l_impl_ValidRoof_b2 at h
    rcases cnd_some h with ⟨h8, h⟩ | ⟨h8, h⟩
    · obtain ⟨c9, h⟩ := chk_some h
      rcases cnd_some h with ⟨h10, h⟩ | ⟨h10, h⟩
      · cases h
        refine pLast_by [.b true, .b true, .b true] (And.intro h8 (And.intro c9 (And.intro h10 (And.intro (Eq.refl true) trivial)))) ?_
        kernel_rfl
      · rcases cnd_some h with ⟨h11, h⟩ | ⟨h11, h⟩
        · refine pNext_by [.b true, .b false, .b false, .b false] (And.intro h8 (And.intro c9 (And.intro h10 (And.intro (not_f h11) (And.intro (Eq.refl false) trivial))))) (ih _ _ _ _ _ _ _ _ _ _ h k m hk (by omega)) ?_
          kernel_rfl
        · rcases cnd_some h with ⟨h12, h⟩ | ⟨h12, h⟩
          · cases h
            refine pLast_by [.b true, .b false, .b true, .b true, .b true] (And.intro h8 (And.intro c9 (And.intro h10 (And.intro (not_t h11) (And.intro h12 (And.intro (Eq.refl true) trivial)))))) ?_
            kernel_rfl
          · rcases cnd_some h with ⟨h13, h⟩ | ⟨h13, h⟩
            · cases h
              refine pLast_by [.b true, .b false, .b true, .b false, .b true] (And.intro h8 (And.intro c9 (And.intro h10 (And.intro (not_t h11) (And.intro h12 (And.intro h13 trivial)))))) ?_
              kernel_rfl
            · refine pNext_by [.b true, .b false, .b true, .b false, .b false] (And.intro h8 (And.intro c9 (And.intro h10 (And.intro (not_t h11) (And.intro h12 (And.intro h13 trivial)))))) (ih _ _ _ _ _ _ _ _ _ _ h k m hk (by omega)) ?_
              kernel_rfl
    · cases h
      refine pLast_by [.b false] (And.intro h8 trivial) ?_
      kernel_rfl
theorem lw_impl_ValidRoof_b0 : ∀ (n : Nat) (a0 : Nat → Int) (a1 : Int) (a2 : Int) (a3 : Int) (a4 : Int) (a5 : Nat → Int) (r : Sum (Unit) (Bool)), l_impl_ValidRoof_b0 n a0 a1 a2 a3 a4 a5 = some r → ∀ k m, n + 0 ≤ k → n ≤ m → LB E 180 0 k m ⟨[(1, (V.ptr 3 0 (0) 67)), (23, (V.ints .u8 64 (a0))), (24, (V.int .i64 (a1)))], [(3, .box [(V.int .i8 (a2)), (V.int .i8 (a3)), (V.int .u8 (a4)), (V.ints .u8 64 (a5))])]⟩ = some (match r with | .inl _ => (.normal, ⟨[], []⟩) | .inr o0 => (.ret, ⟨[(2, (V.bool (o0)))], []⟩)) := by
  intro n
  induction n with
  | zero => intro a0 a1 a2 a3 a4 a5 r h; cases h
  | succ n ih =>
    intro a0 a1 a2 a3 a4 a5 r h k m hk hm
    obtain ⟨m, rfl⟩ : ∃ q, m = q + 1 := ⟨m - 1, by omega⟩
    replace hk : n + 0 ≤ k := by omega
    unfold l_impl_ValidRoof_b0 at h
    rcases cnd_some h with ⟨h6, h⟩ | ⟨h6, h⟩
    · obtain ⟨c7, h⟩ := chk_some h
      obtain ⟨w, l14, h⟩ := bnd_some h
      rcases w with ⟨u14_0, u14_1, u14_2, u14_3, u14_4, u14_5⟩ | u15_0
      · refine pNext_by [.b true, .l .normal ⟨[(1, (V.ptr 3 0 (0) 67)), (23, (V.ints .u8 64 (u14_0))), (24, (V.int .i64 (u14_1)))], [(3, .box [(V.int .i8 (u14_2)), (V.int .i8 (u14_3)), (V.int .u8 (u14_4)), (V.ints .u8 64 (u14_5))])]⟩] (And.intro h6 (And.intro c7 (And.intro (lw_impl_ValidRoof_b2 _ _ _ _ _ _ _ _ _ _ _ l14 k k (by omega) (by omega)) trivial))) (ih _ _ _ _ _ _ _ h k m hk (by omega)) ?_
        kernel_rfl
      · cases h
        refine pLast_by [.b true, .l .ret ⟨[(2, (V.bool (u15_0)))], []⟩] (And.intro h6 (And.intro c7 (And.intro (lw_impl_ValidRoof_b2 _ _ _ _ _ _ _ _ _ _ _ l14 k k (by omega) (by omega)) trivial))) ?_
        kernel_rfl
    · cases h
      refine pLast_by [.b false] (And.intro h6 trivial) ?_
      kernel_rfl
theorem w_impl_ValidRoof {n : Nat} {a0 : Int} {a1 : Int} {a2 : Int} {a3 : Nat → Int} {z0 : Bool} (h : s_impl_ValidRoof n a0 a1 a2 a3 = some z0) : ∀ k, n + 2 ≤ k → sem E k 180 [(V.parts [(V.int .i8 (a0)), (V.int .i8 (a1)), (V.int .u8 (a2)), (V.ints .u8 64 (a3))])] = some (V.bool (z0)) := by
  intro k hk
  obtain ⟨k, rfl⟩ : ∃ q, k = q + 1 := ⟨k - 1, by omega⟩
  unfold s_impl_ValidRoof at h
  obtain ⟨y1_0, q1, h⟩ := bnd_some h
  rcases cnd_some h with ⟨h2, h⟩ | ⟨h2, h⟩
  · obtain ⟨y3_0, q3, h⟩ := bnd_some h
    rcases cnd_some h with ⟨h4, h⟩ | ⟨h4, h⟩
    · rcases cnd_some h with ⟨h5, h⟩ | ⟨h5, h⟩
      · replace h := Option.some.inj h
        obtain rfl := h
        refine pFun_by [.v (V.bool (y1_0)), .b false, .v (V.bool (y3_0)), .b false, .b true] rfl (And.intro (w_impl_within_int8 q1 k (by omega)) (And.intro (not_f h2) (And.intro (w_impl_within_int8 q3 k (by omega)) (And.intro (not_f h4) (And.intro h5 trivial))))) ?_
        kernel_rfl
      · obtain ⟨w, l17, h⟩ := bnd_some h
        rcases w with ⟨⟩ | u18_0
        · replace h := Option.some.inj h
          obtain rfl := h
          refine pFun_by [.v (V.bool (y1_0)), .b false, .v (V.bool (y3_0)), .b false, .b false, .l .normal ⟨[], []⟩] rfl (And.intro (w_impl_within_int8 q1 k (by omega)) (And.intro (not_f h2) (And.intro (w_impl_within_int8 q3 k (by omega)) (And.intro (not_f h4) (And.intro h5 (And.intro (lw_impl_ValidRoof_b0 _ _ _ _ _ _ _ _ l17 k k (by omega) (by omega)) trivial)))))) ?_
          kernel_rfl
        · replace h := Option.some.inj h
          obtain rfl := h
          refine pFun_by [.v (V.bool (y1_0)), .b false, .v (V.bool (y3_0)), .b false, .b false, .l .ret ⟨[(2, (V.bool (u18_0)))], []⟩] rfl (And.intro (w_impl_within_int8 q1 k (by omega)) (And.intro (not_f h2) (And.intro (w_impl_within_int8 q3 k (by omega)) (And.intro (not_f h4) (And.intro h5 (And.intro (lw_impl_ValidRoof_b0 _ _ _ _ _ _ _ _ l17 k k (by omega) (by omega)) trivial)))))) ?_
          kernel_rfl
    · replace h := Option.some.inj h
      obtain rfl := h
      refine pFun_by [.v (V.bool (y1_0)), .b false, .v (V.bool (y3_0)), .b true, .b true] rfl (And.intro (w_impl_within_int8 q1 k (by omega)) (And.intro (not_f h2) (And.intro (w_impl_within_int8 q3 k (by omega)) (And.intro (not_t h4) (And.intro (Eq.refl true) trivial))))) ?_
      kernel_rfl
  · replace h := Option.some.inj h
    obtain rfl := h
    refine pFun_by [.v (V.bool (y1_0)), .b true, .b true, .b true] rfl (And.intro (w_impl_within_int8 q1 k (by omega)) (And.intro (not_t h2) (And.intro (Eq.refl true) (And.intro (Eq.refl true) trivial)))) ?_
    kernel_rfl
theorem w_impl_within_int64 {n : Nat} {a0 : Int} {a1 : Int} {a2 : Int} {z0 : Bool} (h : s_impl_within_int64 n a0 a1 a2 = some z0) : ∀ k, n + 1 ≤ k → sem E k 91 [(V.int .i64 (a0)), (V.int .i64 (a1)), (V.int .i64 (a2))] = some (V.bool (z0)) := by
  intro k hk
  obtain ⟨k, rfl⟩ : ∃ q, k = q + 1 := ⟨k - 1, by omega⟩
  unfold s_impl_within_int64 at h
  rcases cnd_some h with ⟨h1, h⟩ | ⟨h1, h⟩
  · replace h := Option.some.inj h
    obtain rfl := h
    refine pFun_by [.b true] rfl (And.intro h1 trivial) ?_
    kernel_rfl
  · replace h := Option.some.inj h
    obtain rfl := h
    refine pFun_by [.b false] rfl (And.intro h1 trivial) ?_
    kernel_rfl
theorem w_impl_isAmount_int16 {n : Nat} {a0 : Int} {z0 : Bool} (h : s_impl_isAmount_int16 n a0 = some z0) : ∀ k, n + 2 ≤ k → sem E k 243 [(V.int .i16 (a0))] = some (V.bool (z0)) := by
  intro k hk
  obtain ⟨k, rfl⟩ : ∃ q, k = q + 1 := ⟨k - 1, by omega⟩
  unfold s_impl_isAmount_int16 at h
  obtain ⟨y1_0, q1, h⟩ := bnd_some h
  replace h := Option.some.inj h
  obtain rfl := h
  refine pFun_by [.v (V.bool (y1_0))] rfl (And.intro (w_impl_within_int64 q1 k (by omega)) trivial) ?_
  kernel_rfl
theorem w_impl_Roof_cells {n : Nat} {a0 : Int} {a1 : Int} {a2 : Int} {a3 : Nat → Int} {z0 : Int} (h : s_impl_Roof_cells n a0 a1 a2 a3 = some z0) : ∀ k, n + 1 ≤ k → sem E k 168 [(V.parts [(V.int .i8 (a0)), (V.int .i8 (a1)), (V.int .u8 (a2)), (V.ints .u8 64 (a3))])] = some (V.int .i64 (z0)) := by
  intro k hk
  obtain ⟨k, rfl⟩ : ∃ q, k = q + 1 := ⟨k - 1, by omega⟩
  unfold s_impl_Roof_cells at h
  replace h := Option.some.inj h
  obtain rfl := h
  refine pFun_by [] rfl trivial ?_
  kernel_rfl
theorem lw_impl_ValidRain_b0 : ∀ (n : Nat) (a0 : Nat → Int) (a1 : Int) (a2 : Int) (a3 : Int) (a4 : Int) (a5 : Nat → Int) (r : Sum (Unit) (Bool)), l_impl_ValidRain_b0 n a0 a1 a2 a3 a4 a5 = some r → ∀ k m, n + 2 ≤ k → n ≤ m → LB E 209 0 k m ⟨[(2, (V.ptr 5 0 (0) 67)), (10, (V.ints .i16 17 (a0))), (11, (V.int .i64 (a1)))], [(5, .box [(V.int .i8 (a2)), (V.int .i8 (a3)), (V.int .u8 (a4)), (V.ints .u8 64 (a5))])]⟩ = some (match r with | .inl _ => (.normal, ⟨[], []⟩) | .inr o0 => (.ret, ⟨[(4, (V.bool (o0)))], []⟩)) := by
  intro n
  induction n with
  | zero => intro a0 a1 a2 a3 a4 a5 r h; cases h
  | succ n ih =>
    intro a0 a1 a2 a3 a4 a5 r h k m hk hm
    obtain ⟨m, rfl⟩ : ∃ q, m = q + 1 := ⟨m - 1, by omega⟩
    replace hk : n + 2 ≤ k := by omega
    unfold l_impl_ValidRain_b0 at h
    rcases cnd_some h with ⟨h3, h⟩ | ⟨h3, h⟩
    · obtain ⟨c4, h⟩ := chk_some h
      obtain ⟨y5_0, q5, h⟩ := bnd_some h
      rcases cnd_some h with ⟨h6, h⟩ | ⟨h6, h⟩
      · rcases cnd_some h with ⟨h7, h⟩ | ⟨h7, h⟩
        · refine pNext_by [.b true, .v (V.bool (y5_0)), .b false, .b false, .b false] (And.intro h3 (And.intro c4 (And.intro (w_impl_isAmount_int16 q5 k (by omega)) (And.intro (not_f h6) (And.intro (not_f h7) (And.intro (Eq.refl false) trivial)))))) (ih _ _ _ _ _ _ _ h k m hk (by omega)) ?_
          kernel_rfl
        · obtain ⟨y8_0, q8, h⟩ := bnd_some h
          rcases cnd_some h with ⟨h9, h⟩ | ⟨h9, h⟩
          · cases h
            refine pLast_by [.b true, .v (V.bool (y5_0)), .b false, .b true, .v (V.int .i64 (y8_0)), .b true] (And.intro h3 (And.intro c4 (And.intro (w_impl_isAmount_int16 q5 k (by omega)) (And.intro (not_f h6) (And.intro (not_t h7) (And.intro (w_impl_Roof_cells q8 k (by omega)) (And.intro h9 trivial))))))) ?_
            kernel_rfl
          · refine pNext_by [.b true, .v (V.bool (y5_0)), .b false, .b true, .v (V.int .i64 (y8_0)), .b false] (And.intro h3 (And.intro c4 (And.intro (w_impl_isAmount_int16 q5 k (by omega)) (And.intro (not_f h6) (And.intro (not_t h7) (And.intro (w_impl_Roof_cells q8 k (by omega)) (And.intro h9 trivial))))))) (ih _ _ _ _ _ _ _ h k m hk (by omega)) ?_
            kernel_rfl
      · cases h
        refine pLast_by [.b true, .v (V.bool (y5_0)), .b true, .b true] (And.intro h3 (And.intro c4 (And.intro (w_impl_isAmount_int16 q5 k (by omega)) (And.intro (not_t h6) (And.intro (Eq.refl true) trivial))))) ?_
        kernel_rfl
    · cases h
      refine pLast_by [.b false] (And.intro h3 trivial) ?_
      kernel_rfl
theorem w_impl_ValidRain {n : Nat} {a0 : Int} {a1 : Int} {a2 : Int} {a3 : Nat → Int} {a4 : Nat → Int} {z0 : Bool} (h : s_impl_ValidRain n a0 a1 a2 a3 a4 = some z0) : ∀ k, n + 3 ≤ k → sem E k 209 [(V.parts [(V.int .i8 (a0)), (V.int .i8 (a1)), (V.int .u8 (a2)), (V.ints .u8 64 (a3))]), (V.ints .i16 17 (a4))] = some (V.bool (z0)) := by
  intro k hk
  obtain ⟨k, rfl⟩ : ∃ q, k = q + 1 := ⟨k - 1, by omega⟩
  unfold s_impl_ValidRain at h
  obtain ⟨y1_0, q1, h⟩ := bnd_some h
  rcases cnd_some h with ⟨h2, h⟩ | ⟨h2, h⟩
  · obtain ⟨w, l10, h⟩ := bnd_some h
    rcases w with ⟨⟩ | u11_0
    · replace h := Option.some.inj h
      obtain rfl := h
      refine pFun_by [.v (V.bool (y1_0)), .b false, .l .normal ⟨[], []⟩] rfl (And.intro (w_impl_ValidRoof q1 k (by omega)) (And.intro (not_f h2) (And.intro (lw_impl_ValidRain_b0 _ _ _ _ _ _ _ _ l10 k k (by omega) (by omega)) trivial))) ?_
      kernel_rfl
    · replace h := Option.some.inj h
      obtain rfl := h
      refine pFun_by [.v (V.bool (y1_0)), .b false, .l .ret ⟨[(4, (V.bool (u11_0)))], []⟩] rfl (And.intro (w_impl_ValidRoof q1 k (by omega)) (And.intro (not_f h2) (And.intro (lw_impl_ValidRain_b0 _ _ _ _ _ _ _ _ l10 k k (by omega) (by omega)) trivial))) ?_
      kernel_rfl
  · replace h := Option.some.inj h
    obtain rfl := h
    refine pFun_by [.v (V.bool (y1_0)), .b true] rfl (And.intro (w_impl_ValidRoof q1 k (by omega)) (And.intro (not_t h2) trivial)) ?_
    kernel_rfl
theorem w_impl_rainCode {n : Nat} {a0 : Int} {a1 : Int} {a2 : Int} {a3 : Nat → Int} {a4 : Nat → Int} {a5 : Bool} {z0 : Int} (h : s_impl_rainCode n a0 a1 a2 a3 a4 a5 = some z0) : ∀ k, n + 4 ≤ k → sem E k 138 [(V.parts [(V.int .i8 (a0)), (V.int .i8 (a1)), (V.int .u8 (a2)), (V.ints .u8 64 (a3))]), (V.ints .i16 17 (a4)), (V.bool (a5))] = some (V.int .i64 (z0)) := by
  intro k hk
  obtain ⟨k, rfl⟩ : ∃ q, k = q + 1 := ⟨k - 1, by omega⟩
  unfold s_impl_rainCode at h
  obtain ⟨y1_0, q1, h⟩ := bnd_some h
  rcases cnd_some h with ⟨h2, h⟩ | ⟨h2, h⟩
  · rcases cnd_some h with ⟨h3, h⟩ | ⟨h3, h⟩
    · replace h := Option.some.inj h
      obtain rfl := h
      refine pFun_by [.v (V.bool (y1_0)), .b false, .b false] rfl (And.intro (w_impl_ValidRain q1 k (by omega)) (And.intro (not_f h2) (And.intro (not_f h3) trivial))) ?_
      kernel_rfl
    · replace h := Option.some.inj h
      obtain rfl := h
      refine pFun_by [.v (V.bool (y1_0)), .b false, .b true] rfl (And.intro (w_impl_ValidRain q1 k (by omega)) (And.intro (not_f h2) (And.intro (not_t h3) trivial))) ?_
      kernel_rfl
  · replace h := Option.some.inj h
    obtain rfl := h
    refine pFun_by [.v (V.bool (y1_0)), .b true] rfl (And.intro (w_impl_ValidRain q1 k (by omega)) (And.intro (not_t h2) trivial)) ?_
    kernel_rfl
theorem w_impl_Roof_kind {n : Nat} {a0 : Int} {a1 : Int} {a2 : Int} {a3 : Nat → Int} {a4 : Int} {a5 : Int} {z0 : Int} (h : s_impl_Roof_kind n a0 a1 a2 a3 a4 a5 = some z0) : ∀ k, n + 1 ≤ k → sem E k 184 [(V.parts [(V.int .i8 (a0)), (V.int .i8 (a1)), (V.int .u8 (a2)), (V.ints .u8 64 (a3))]), (V.parts [(V.int .i8 (a4)), (V.int .i8 (a5))])] = some (V.int .u8 (z0)) := by
  intro k hk
  obtain ⟨k, rfl⟩ : ∃ q, k = q + 1 := ⟨k - 1, by omega⟩
  unfold s_impl_Roof_kind at h
  obtain ⟨c1, h⟩ := chk_some h
  obtain ⟨c2, h⟩ := chk_some h
  replace h := Option.some.inj h
  obtain rfl := h
  refine pFun_by [] rfl (And.intro c1 (And.intro c2 trivial)) ?_
  kernel_rfl
theorem w_impl_Roof_isWrong {n : Nat} {a0 : Int} {a1 : Int} {a2 : Int} {a3 : Nat → Int} {a4 : Int} {a5 : Int} {z0 : Bool} (h : s_impl_Roof_isWrong n a0 a1 a2 a3 a4 a5 = some z0) : ∀ k, n + 2 ≤ k → sem E k 248 [(V.parts [(V.int .i8 (a0)), (V.int .i8 (a1)), (V.int .u8 (a2)), (V.ints .u8 64 (a3))]), (V.parts [(V.int .i8 (a4)), (V.int .i8 (a5))])] = some (V.bool (z0)) := by
  intro k hk
  obtain ⟨k, rfl⟩ : ∃ q, k = q + 1 := ⟨k - 1, by omega⟩
  unfold s_impl_Roof_isWrong at h
  obtain ⟨y1_0, q1, h⟩ := bnd_some h
  replace h := Option.some.inj h
  obtain rfl := h
  refine pFun_by [.v (V.int .u8 (y1_0))] rfl (And.intro (w_impl_Roof_kind q1 k (by omega)) trivial) ?_
  kernel_rfl
theorem lw_impl_Roof_places__Roof_isWrong_b2 : ∀ (n : Nat) (a0 : Int) (a1 : Int) (a2 : Int) (a3 : Nat → Int) (a4 : Int) (a5 : Int) (a6 : Int) (a7 : Int) (a8 : Int) (a9 : Int) (a10 : Int) (a11 : Int) (a12 : Nat → Int) (a13 : List V) (r : Int × Int × Int × (Nat → Int) × Int × Int × Int × Int × Int × (Nat → Int) × List V), l_impl_Roof_places__Roof_isWrong_b2 n a0 a1 a2 a3 a4 a5 a6 a7 a8 a9 a10 a11 a12 a13 = some r → ∀ k m, n + 2 ≤ k → n ≤ m → LB E 182 2 k m ⟨[(1, (V.clo 2000248 [(V.parts [(V.int .i8 (a0)), (V.int .i8 (a1)), (V.int .u8 (a2)), (V.ints .u8 64 (a3))])])), (2, (V.ptr 5 0 (0) 67)), (5, (V.row 11)), (6, (V.int .i8 (a4))), (9, (V.int .i8 (a5))), (10, (V.int .i8 (a6))), (14, (V.int .i8 (a7))), (15, (V.int .i8 (a8)))], [(5, .box [(V.int .i8 (a9)), (V.int .i8 (a10)), (V.int .u8 (a11)), (V.ints .u8 64 (a12))]), (11, .row 79 (a13))]⟩ = some (match r with | (o0, o1, o2, o3, o4, o5, o6, o7, o8, o9, o10) => (.normal, ⟨[(1, (V.clo 2000248 [(V.parts [(V.int .i8 (o0)), (V.int .i8 (o1)), (V.int .u8 (o2)), (V.ints .u8 64 (o3))])])), (2, (V.ptr 5 0 (0) 67)), (5, (V.row 11)), (9, (V.int .i8 (o4))), (10, (V.int .i8 (o5)))], [(5, .box [(V.int .i8 (o6)), (V.int .i8 (o7)), (V.int .u8 (o8)), (V.ints .u8 64 (o9))]), (11, .row 79 (o10))]⟩)) := by
  intro n
  induction n with
  | zero => intro a0 a1 a2 a3 a4 a5 a6 a7 a8 a9 a10 a11 a12 a13 r h; cases h
  | succ n ih =>
    intro a0 a1 a2 a3 a4 a5 a6 a7 a8 a9 a10 a11 a12 a13 r h k m hk hm
    obtain ⟨m, rfl⟩ : ∃ q, m = q + 1 := ⟨m - 1, by omega⟩
    replace hk : n + 2 ≤ k := by omega
    unfold l_impl_Roof_places__Roof_isWrong_b2 at h
    rcases cnd_some h with ⟨h2, h⟩ | ⟨h2, h⟩
    · obtain ⟨y3_0, q3, h⟩ := bnd_some h
      rcases cnd_some h with ⟨h4, h⟩ | ⟨h4, h⟩
      · obtain ⟨c5, h⟩ := chk_some h
        refine pNext_by [.b true, .v (V.bool (y3_0)), .b true] (And.intro h2 (And.intro (w_impl_Roof_isWrong q3 k (by omega)) (And.intro h4 (And.intro c5 (And.intro (Eq.refl true) trivial))))) (ih _ _ _ _ _ _ _ _ _ _ _ _ _ _ _ h k m hk (by omega)) ?_
        kernel_rfl
      · refine pNext_by [.b true, .v (V.bool (y3_0)), .b false] (And.intro h2 (And.intro (w_impl_Roof_isWrong q3 k (by omega)) (And.intro h4 trivial))) (ih _ _ _ _ _ _ _ _ _ _ _ _ _ _ _ h k m hk (by omega)) ?_
        kernel_rfl
    · cases h
      refine pLast_by [.b false] (And.intro h2 trivial) ?_
      kernel_rfl
theorem lw_impl_Roof_places__Roof_isWrong_b0 : ∀ (n : Nat) (a0 : Int) (a1 : Int) (a2 : Int) (a3 : Nat → Int) (a4 : Int) (a5 : Int) (a6 : Int) (a7 : Int) (a8 : Int) (a9 : Nat → Int) (a10 : List V) (r : List V), l_impl_Roof_places__Roof_isWrong_b0 n a0 a1 a2 a3 a4 a5 a6 a7 a8 a9 a10 = some r → ∀ k m, n + 2 ≤ k → n ≤ m → LB E 182 0 k m ⟨[(1, (V.clo 2000248 [(V.parts [(V.int .i8 (a0)), (V.int .i8 (a1)), (V.int .u8 (a2)), (V.ints .u8 64 (a3))])])), (2, (V.ptr 5 0 (0) 67)), (5, (V.row 11)), (9, (V.int .i8 (a4))), (10, (V.int .i8 (a5)))], [(5, .box [(V.int .i8 (a6)), (V.int .i8 (a7)), (V.int .u8 (a8)), (V.ints .u8 64 (a9))]), (11, .row 79 (a10))]⟩ = some (match r with | o0 => (.normal, ⟨[(5, (V.row 11))], [(11, .row 79 (o0))]⟩)) := by
  intro n
  induction n with
  | zero => intro a0 a1 a2 a3 a4 a5 a6 a7 a8 a9 a10 r h; cases h
  | succ n ih =>
    intro a0 a1 a2 a3 a4 a5 a6 a7 a8 a9 a10 r h k m hk hm
    obtain ⟨m, rfl⟩ : ∃ q, m = q + 1 := ⟨m - 1, by omega⟩
    replace hk : n + 2 ≤ k := by omega
    unfold l_impl_Roof_places__Roof_isWrong_b0 at h
    rcases cnd_some h with ⟨h1, h⟩ | ⟨h1, h⟩
    · obtain ⟨⟨u6_0, u6_1, u6_2, u6_3, u6_4, u6_5, u6_6, u6_7, u6_8, u6_9, u6_10⟩, l6, h⟩ := bnd_some h
      refine pNext_by [.b true, .l .normal ⟨[(1, (V.clo 2000248 [(V.parts [(V.int .i8 (u6_0)), (V.int .i8 (u6_1)), (V.int .u8 (u6_2)), (V.ints .u8 64 (u6_3))])])), (2, (V.ptr 5 0 (0) 67)), (5, (V.row 11)), (9, (V.int .i8 (u6_4))), (10, (V.int .i8 (u6_5)))], [(5, .box [(V.int .i8 (u6_6)), (V.int .i8 (u6_7)), (V.int .u8 (u6_8)), (V.ints .u8 64 (u6_9))]), (11, .row 79 (u6_10))]⟩] (And.intro h1 (And.intro (lw_impl_Roof_places__Roof_isWrong_b2 _ _ _ _ _ _ _ _ _ _ _ _ _ _ _ _ l6 k k (by omega) (by omega)) trivial)) (ih _ _ _ _ _ _ _ _ _ _ _ _ h k m hk (by omega)) ?_
      kernel_rfl
    · cases h
      refine pLast_by [.b false] (And.intro h1 trivial) ?_
      kernel_rfl
theorem w_impl_Roof_places__Roof_isWrong {n : Nat} {a0 : Int} {a1 : Int} {a2 : Int} {a3 : Nat → Int} {a4 : Int} {a5 : Int} {a6 : Int} {a7 : Nat → Int} {z0 : List V} (h : s_impl_Roof_places__Roof_isWrong n a0 a1 a2 a3 a4 a5 a6 a7 = some z0) : ∀ k, n + 3 ≤ k → sem E k 182 [(V.parts [(V.int .i8 (a0)), (V.int .i8 (a1)), (V.int .u8 (a2)), (V.ints .u8 64 (a3))]), (V.clo 2000248 [(V.parts [(V.int .i8 (a4)), (V.int .i8 (a5)), (V.int .u8 (a6)), (V.ints .u8 64 (a7))])])] = some (V.fresh 79 (z0)) := by
  intro k hk
  obtain ⟨k, rfl⟩ : ∃ q, k = q + 1 := ⟨k - 1, by omega⟩
  unfold s_impl_Roof_places__Roof_isWrong at h
  obtain ⟨u8_0, l8, h⟩ := bnd_some h
  replace h := Option.some.inj h
  obtain rfl := h
  refine pFun_by [.l .normal ⟨[(5, (V.row 11))], [(11, .row 79 (u8_0))]⟩] rfl (And.intro (lw_impl_Roof_places__Roof_isWrong_b0 _ _ _ _ _ _ _ _ _ _ _ _ _ l8 k k (by omega) (by omega)) trivial) ?_
  kernel_rfl
theorem w_impl_Roof_wrong {n : Nat} {a0 : Int} {a1 : Int} {a2 : Int} {a3 : Nat → Int} {z0 : List V} (h : s_impl_Roof_wrong n a0 a1 a2 a3 = some z0) : ∀ k, n + 4 ≤ k → sem E k 213 [(V.parts [(V.int .i8 (a0)), (V.int .i8 (a1)), (V.int .u8 (a2)), (V.ints .u8 64 (a3))])] = some (V.fresh 79 (z0)) := by
  intro k hk
  obtain ⟨k, rfl⟩ : ∃ q, k = q + 1 := ⟨k - 1, by omega⟩
  unfold s_impl_Roof_wrong at h
  obtain ⟨y1_0, q1, h⟩ := bnd_some h
  replace h := Option.some.inj h
  obtain rfl := h
  refine pFun_by [.v (V.fresh 79 (y1_0))] rfl (And.intro (w_impl_Roof_places__Roof_isWrong q1 k (by omega)) trivial) ?_
  kernel_rfl
theorem w_impl_repairCode {n : Nat} {a0 : Int} {a1 : Int} {a2 : Int} {a3 : Nat → Int} {a4 : Nat → Int} {a5 : Bool} {z0 : Int} (h : s_impl_repairCode n a0 a1 a2 a3 a4 a5 = some z0) : ∀ k, n + 5 ≤ k → sem E k 143 [(V.parts [(V.int .i8 (a0)), (V.int .i8 (a1)), (V.int .u8 (a2)), (V.ints .u8 64 (a3))]), (V.ints .i16 17 (a4)), (V.bool (a5))] = some (V.int .i64 (z0)) := by
  intro k hk
  obtain ⟨k, rfl⟩ : ∃ q, k = q + 1 := ⟨k - 1, by omega⟩
  unfold s_impl_repairCode at h
  obtain ⟨y1_0, q1, h⟩ := bnd_some h
  rcases cnd_some h with ⟨h2, h⟩ | ⟨h2, h⟩
  · obtain ⟨y3_0, q3, h⟩ := bnd_some h
    rcases cnd_some h with ⟨h4, h⟩ | ⟨h4, h⟩
    · replace h := Option.some.inj h
      obtain rfl := h
      refine pFun_by [.v (V.int .i64 (y1_0)), .b true, .v (V.fresh 79 (y3_0)), .b true] rfl (And.intro (w_impl_rainCode q1 k (by omega)) (And.intro h2 (And.intro (w_impl_Roof_wrong q3 k (by omega)) (And.intro h4 trivial)))) ?_
      kernel_rfl
    · replace h := Option.some.inj h
      obtain rfl := h
      refine pFun_by [.v (V.int .i64 (y1_0)), .b true, .v (V.fresh 79 (y3_0)), .b false] rfl (And.intro (w_impl_rainCode q1 k (by omega)) (And.intro h2 (And.intro (w_impl_Roof_wrong q3 k (by omega)) (And.intro h4 trivial)))) ?_
      kernel_rfl
  · replace h := Option.some.inj h
    obtain rfl := h
    refine pFun_by [.v (V.int .i64 (y1_0)), .b false, .b false] rfl (And.intro (w_impl_rainCode q1 k (by omega)) (And.intro h2 (And.intro (Eq.refl false) trivial))) ?_
    kernel_rfl
theorem w_impl_Roof_with {n : Nat} {a0 : Int} {a1 : Int} {a2 : Int} {a3 : Nat → Int} {a4 : Int} {a5 : Int} {a6 : Int} {z0 : Int} {z1 : Int} {z2 : Int} {z3 : Nat → Int} (h : s_impl_Roof_with n a0 a1 a2 a3 a4 a5 a6 = some (z0, z1, z2, z3)) : ∀ k, n + 1 ≤ k → sem E k 178 [(V.parts [(V.int .i8 (a0)), (V.int .i8 (a1)), (V.int .u8 (a2)), (V.ints .u8 64 (a3))]), (V.parts [(V.int .i8 (a4)), (V.int .i8 (a5))]), (V.int .u8 (a6))] = some (V.parts [(V.int .i8 (z0)), (V.int .i8 (z1)), (V.int .u8 (z2)), (V.ints .u8 64 (z3))]) := by
  intro k hk
  obtain ⟨k, rfl⟩ : ∃ q, k = q + 1 := ⟨k - 1, by omega⟩
  unfold s_impl_Roof_with at h
  obtain ⟨c1, h⟩ := chk_some h
  obtain ⟨c2, h⟩ := chk_some h
  simp only [Option.some.injEq, Prod.mk.injEq] at h
  obtain ⟨rfl, rfl, rfl, rfl⟩ := h
  refine pFun_by [] rfl (And.intro c1 (And.intro c2 trivial)) ?_
  kernel_rfl
theorem lw_impl_Roof_mended_b0 : ∀ (n : Nat) (a0 : List V) (a1 : Int) (a2 : Int) (a3 : Int) (a4 : Int) (a5 : Int) (a6 : Nat → Int) (a7 : Int) (a8 : Int) (a9 : Int) (a10 : Nat → Int) (r : Int × Int × Int × (Nat → Int) × Int × Int × Int × (Nat → Int)), l_impl_Roof_mended_b0 n a0 a1 a2 a3 a4 a5 a6 a7 a8 a9 a10 = some r → ∀ k m, n + 1 ≤ k → n ≤ m → LB E 151 0 k m ⟨[(2, (V.ptr 5 0 (0) 67)), (4, (V.ptr 9 0 (0) 67)), (7, (V.sl (a0))), (8, (V.int .i64 (a1))), (9, (V.int .i64 (a2)))], [(5, .box [(V.int .i8 (a3)), (V.int .i8 (a4)), (V.int .u8 (a5)), (V.ints .u8 64 (a6))]), (9, .box [(V.int .i8 (a7)), (V.int .i8 (a8)), (V.int .u8 (a9)), (V.ints .u8 64 (a10))])]⟩ = some (match r with | (o0, o1, o2, o3, o4, o5, o6, o7) => (.normal, ⟨[(2, (V.ptr 5 0 (0) 67)), (4, (V.ptr 9 0 (0) 67))], [(5, .box [(V.int .i8 (o0)), (V.int .i8 (o1)), (V.int .u8 (o2)), (V.ints .u8 64 (o3))]), (9, .box [(V.int .i8 (o4)), (V.int .i8 (o5)), (V.int .u8 (o6)), (V.ints .u8 64 (o7))])]⟩)) := by
  intro n
  induction n with
  | zero => intro a0 a1 a2 a3 a4 a5 a6 a7 a8 a9 a10 r h; cases h
  | succ n ih =>
    intro a0 a1 a2 a3 a4 a5 a6 a7 a8 a9 a10 r h k m hk hm
    obtain ⟨m, rfl⟩ : ∃ q, m = q + 1 := ⟨m - 1, by omega⟩
    replace hk : n + 1 ≤ k := by omega
    unfold l_impl_Roof_mended_b0 at h
    rcases cnd_some h with ⟨h1, h⟩ | ⟨h1, h⟩
    · obtain ⟨⟨e2_0, e2_1⟩, g2, h⟩ := bnd_some h
      replace g2 := as_Pi8_i8Q_some g2
      obtain ⟨⟨y3_0, y3_1, y3_2, y3_3⟩, q3, h⟩ := bnd_some h
      refine pNext_by [.b true, .v (V.parts [(V.int .i8 (e2_0)), (V.int .i8 (e2_1))]), .v (V.parts [(V.int .i8 (y3_0)), (V.int .i8 (y3_1)), (V.int .u8 (y3_2)), (V.ints .u8 64 (y3_3))])] (And.intro h1 (And.intro g2 (And.intro (w_impl_Roof_with q3 k (by omega)) trivial))) (ih _ _ _ _ _ _ _ _ _ _ _ _ h k m hk (by omega)) ?_
      kernel_rfl
    · cases h
      refine pLast_by [.b false] (And.intro h1 trivial) ?_
      kernel_rfl
theorem w_impl_Roof_mended {n : Nat} {a0 : Int} {a1 : Int} {a2 : Int} {a3 : Nat → Int} {a4 : List V} {z0 : Int} {z1 : Int} {z2 : Int} {z3 : Nat → Int} (h : s_impl_Roof_mended n a0 a1 a2 a3 a4 = some (z0, z1, z2, z3)) : ∀ k, n + 2 ≤ k → sem E k 151 [(V.parts [(V.int .i8 (a0)), (V.int .i8 (a1)), (V.int .u8 (a2)), (V.ints .u8 64 (a3))]), (V.sl (a4))] = some (V.parts [(V.int .i8 (z0)), (V.int .i8 (z1)), (V.int .u8 (z2)), (V.ints .u8 64 (z3))]) := by
  intro k hk
  obtain ⟨k, rfl⟩ : ∃ q, k = q + 1 := ⟨k - 1, by omega⟩
  unfold s_impl_Roof_mended at h
  obtain ⟨⟨u4_0, u4_1, u4_2, u4_3, u4_4, u4_5, u4_6, u4_7⟩, l4, h⟩ := bnd_some h
  simp only [Option.some.injEq, Prod.mk.injEq] at h
  obtain ⟨rfl, rfl, rfl, rfl⟩ := h
  refine pFun_by [.l .normal ⟨[(2, (V.ptr 5 0 (0) 67)), (4, (V.ptr 9 0 (0) 67))], [(5, .box [(V.int .i8 (u4_0)), (V.int .i8 (u4_1)), (V.int .u8 (u4_2)), (V.ints .u8 64 (u4_3))]), (9, .box [(V.int .i8 (u4_4)), (V.int .i8 (u4_5)), (V.int .u8 (u4_6)), (V.ints .u8 64 (u4_7))])]⟩] rfl (And.intro (lw_impl_Roof_mended_b0 _ _ _ _ _ _ _ _ _ _ _ _ _ l4 k k (by omega) (by omega)) trivial) ?_
  kernel_rfl
theorem w_impl_Roof_shift {n : Nat} {a0 : Int} {a1 : Int} {a2 : Int} {a3 : Nat → Int} {a4 : Int} {z0 : Int} (h : s_impl_Roof_shift n a0 a1 a2 a3 a4 = some z0) : ∀ k, n + 1 ≤ k → sem E k 171 [(V.parts [(V.int .i8 (a0)), (V.int .i8 (a1)), (V.int .u8 (a2)), (V.ints .u8 64 (a3))]), (V.int .i64 (a4))] = some (V.int .i64 (z0)) := by
  intro k hk
  obtain ⟨k, rfl⟩ : ∃ q, k = q + 1 := ⟨k - 1, by omega⟩
  unfold s_impl_Roof_shift at h
  replace h := Option.some.inj h
  obtain rfl := h
  refine pFun_by [] rfl (And.intro (Eq.refl true) trivial) ?_
  kernel_rfl
theorem w_impl_within_int {n : Nat} {a0 : Int} {a1 : Int} {a2 : Int} {z0 : Bool} (h : s_impl_within_int n a0 a1 a2 = some z0) : ∀ k, n + 1 ≤ k → sem E k 193 [(V.int .i64 (a0)), (V.int .i64 (a1)), (V.int .i64 (a2))] = some (V.bool (z0)) := by
  intro k hk
  obtain ⟨k, rfl⟩ : ∃ q, k = q + 1 := ⟨k - 1, by omega⟩
  unfold s_impl_within_int at h
  rcases cnd_some h with ⟨h1, h⟩ | ⟨h1, h⟩
  · replace h := Option.some.inj h
    obtain rfl := h
    refine pFun_by [.b true] rfl (And.intro h1 trivial) ?_
    kernel_rfl
  · replace h := Option.some.inj h
    obtain rfl := h
    refine pFun_by [.b false] rfl (And.intro h1 trivial) ?_
    kernel_rfl
theorem w_impl_Roof_tileAt {n : Nat} {a0 : Int} {a1 : Int} {a2 : Int} {a3 : Nat → Int} {a4 : Int} {a5 : Int} {z0 : Int} (h : s_impl_Roof_tileAt n a0 a1 a2 a3 a4 a5 = some z0) : ∀ k, n + 2 ≤ k → sem E k 169 [(V.parts [(V.int .i8 (a0)), (V.int .i8 (a1)), (V.int .u8 (a2)), (V.ints .u8 64 (a3))]), (V.int .i64 (a4)), (V.int .i64 (a5))] = some (V.int .i64 (z0)) := by
  intro k hk
  obtain ⟨k, rfl⟩ : ∃ q, k = q + 1 := ⟨k - 1, by omega⟩
  unfold s_impl_Roof_tileAt at h
  obtain ⟨y1_0, q1, h⟩ := bnd_some h
  obtain ⟨y2_0, q2, h⟩ := bnd_some h
  rcases cnd_some h with ⟨h3, h⟩ | ⟨h3, h⟩
  · replace h := Option.some.inj h
    obtain rfl := h
    refine pFun_by [.v (V.int .i64 (y1_0)), .v (V.bool (y2_0)), .b false] rfl (And.intro (w_impl_Roof_shift q1 k (by omega)) (And.intro (w_impl_within_int q2 k (by omega)) (And.intro (not_f h3) (And.intro (Eq.refl true) trivial)))) ?_
    kernel_rfl
  · replace h := Option.some.inj h
    obtain rfl := h
    refine pFun_by [.v (V.int .i64 (y1_0)), .v (V.bool (y2_0)), .b true] rfl (And.intro (w_impl_Roof_shift q1 k (by omega)) (And.intro (w_impl_within_int q2 k (by omega)) (And.intro (not_t h3) trivial))) ?_
    kernel_rfl
theorem w_impl_Roof_covering {n : Nat} {a0 : Int} {a1 : Int} {a2 : Int} {a3 : Nat → Int} {a4 : Int} {a5 : Int} {z0 : Int} (h : s_impl_Roof_covering n a0 a1 a2 a3 a4 a5 = some z0) : ∀ k, n + 3 ≤ k → sem E k 264 [(V.parts [(V.int .i8 (a0)), (V.int .i8 (a1)), (V.int .u8 (a2)), (V.ints .u8 64 (a3))]), (V.int .i64 (a4)), (V.int .i64 (a5))] = some (V.int .u8 (z0)) := by
  intro k hk
  obtain ⟨k, rfl⟩ : ∃ q, k = q + 1 := ⟨k - 1, by omega⟩
  unfold s_impl_Roof_covering at h
  rcases cnd_some h with ⟨h1, h⟩ | ⟨h1, h⟩
  · replace h := Option.some.inj h
    obtain rfl := h
    refine pFun_by [.b true] rfl (And.intro h1 trivial) ?_
    kernel_rfl
  · obtain ⟨y2_0, q2, h⟩ := bnd_some h
    rcases cnd_some h with ⟨h3, h⟩ | ⟨h3, h⟩
    · replace h := Option.some.inj h
      obtain rfl := h
      refine pFun_by [.b false, .v (V.int .i64 (y2_0)), .b true] rfl (And.intro h1 (And.intro (w_impl_Roof_tileAt q2 k (by omega)) (And.intro h3 trivial))) ?_
      kernel_rfl
    · obtain ⟨c4, h⟩ := chk_some h
      obtain ⟨c5, h⟩ := chk_some h
      replace h := Option.some.inj h
      obtain rfl := h
      refine pFun_by [.b false, .v (V.int .i64 (y2_0)), .b false] rfl (And.intro h1 (And.intro (w_impl_Roof_tileAt q2 k (by omega)) (And.intro h3 (And.intro c4 (And.intro c5 trivial))))) ?_
      kernel_rfl
theorem w_impl_up_int32 {n : Nat} {a0 : Int} {a1 : Int} {z0 : Int} (h : s_impl_up_int32 n a0 a1 = some z0) : ∀ k, n + 1 ≤ k → sem E k 241 [(V.int .i32 (a0)), (V.int .i32 (a1))] = some (V.int .i32 (z0)) := by
  intro k hk
  obtain ⟨k, rfl⟩ : ∃ q, k = q + 1 := ⟨k - 1, by omega⟩
  unfold s_impl_up_int32 at h
  obtain ⟨c1, h⟩ := chk_some h
  replace h := Option.some.inj h
  obtain rfl := h
  refine pFun_by [] rfl (And.intro c1 trivial) ?_
  kernel_rfl
theorem w_impl_dripOf {n : Nat} {a0 : Int} {a1 : Int} {a2 : Int} {z0 : Int} (h : s_impl_dripOf n a0 a1 a2 = some z0) : ∀ k, n + 2 ≤ k → sem E k 207 [(V.int .u8 (a0)), (V.int .u8 (a1)), (V.int .i32 (a2))] = some (V.int .i32 (z0)) := by
  intro k hk
  obtain ⟨k, rfl⟩ : ∃ q, k = q + 1 := ⟨k - 1, by omega⟩
  unfold s_impl_dripOf at h
  rcases cnd_some h with ⟨h1, h⟩ | ⟨h1, h⟩
  · obtain ⟨y2_0, q2, h⟩ := bnd_some h
    replace h := Option.some.inj h
    obtain rfl := h
    refine pFun_by [.b true, .v (V.int .i32 (y2_0))] rfl (And.intro h1 (And.intro (w_impl_up_int32 q2 k (by omega)) trivial)) ?_
    kernel_rfl
  · rcases cnd_some h with ⟨h3, h⟩ | ⟨h3, h⟩
    · obtain ⟨y4_0, q4, h⟩ := bnd_some h
      replace h := Option.some.inj h
      obtain rfl := h
      refine pFun_by [.b false, .b true, .v (V.int .i32 (y4_0))] rfl (And.intro h1 (And.intro h3 (And.intro (w_impl_up_int32 q4 k (by omega)) trivial))) ?_
      kernel_rfl
    · rcases cnd_some h with ⟨h5, h⟩ | ⟨h5, h⟩
      · rcases cnd_some h with ⟨h6, h⟩ | ⟨h6, h⟩
        · replace h := Option.some.inj h
          obtain rfl := h
          refine pFun_by [.b false, .b false, .b true, .b false] rfl (And.intro h1 (And.intro h3 (And.intro h5 (And.intro (not_f h6) trivial)))) ?_
          kernel_rfl
        · replace h := Option.some.inj h
          obtain rfl := h
          refine pFun_by [.b false, .b false, .b true, .b true] rfl (And.intro h1 (And.intro h3 (And.intro h5 (And.intro (not_t h6) trivial)))) ?_
          kernel_rfl
      · replace h := Option.some.inj h
        obtain rfl := h
        refine pFun_by [.b false, .b false, .b false, .b false] rfl (And.intro h1 (And.intro h3 (And.intro h5 (And.intro (Eq.refl false) trivial)))) ?_
        kernel_rfl
theorem lw_impl_Roof_run_b2 : ∀ (n : Nat) (a0 : Int) (a1 : Int) (a2 : Int) (a3 : Int) (a4 : Int) (a5 : Int) (a6 : Int) (a7 : Int) (a8 : Int) (a9 : Nat → Int) (a10 : Nat → Int) (a11 : Nat → Int) (a12 : Nat → Int) (a13 : List V) (a14 : List V) (a15 : List V) (a16 : List V) (r : Int × Int × Int × Int × Int × Int × (Nat → Int) × (Nat → Int) × (Nat → Int) × (Nat → Int) × List V × List V × List V × List V), l_impl_Roof_run_b2 n a0 a1 a2 a3 a4 a5 a6 a7 a8 a9 a10 a11 a12 a13 a14 a15 a16 = some r → ∀ k m, n + 3 ≤ k → n ≤ m → LB E 247 2 k m ⟨[(2, (V.ptr 5 0 (0) 67)), (3, (V.ptr 7 0 (0) 17)), (4, (V.ptr 9 0 (0) 138)), (5, (V.ptr 11 0 (0) 138)), (6, (V.int .i64 (a0))), (7, (V.int .i32 (a1))), (14, (V.int .i64 (a2))), (15, (V.int .i64 (a3))), (24, (V.int .i64 (a4))), (25, (V.int .i64 (a5)))], [(5, .box [(V.int .i8 (a6)), (V.int .i8 (a7)), (V.int .u8 (a8)), (V.ints .u8 64 (a9))]), (7, .box [(V.ints .i16 17 (a10))]), (9, .box [(V.ints .i32 136 (a11)), (V.row 9011), V.nilm]), (11, .box [(V.ints .i32 136 (a12)), (V.row 11013), (V.mp 11015)]), (9011, .row 2 (a13)), (11013, .row 2 (a14)), (11015, .map (a15) (a16))]⟩ = some (match r with | (o0, o1, o2, o3, o4, o5, o6, o7, o8, o9, o10, o11, o12, o13) => (.normal, ⟨[(2, (V.ptr 5 0 (0) 67)), (3, (V.ptr 7 0 (0) 17)), (4, (V.ptr 9 0 (0) 138)), (5, (V.ptr 11 0 (0) 138)), (7, (V.int .i32 (o0))), (14, (V.int .i64 (o1))), (15, (V.int .i64 (o2)))], [(5, .box [(V.int .i8 (o3)), (V.int .i8 (o4)), (V.int .u8 (o5)), (V.ints .u8 64 (o6))]), (7, .box [(V.ints .i16 17 (o7))]), (9, .box [(V.ints .i32 136 (o8)), (V.row 9011), V.nilm]), (11, .box [(V.ints .i32 136 (o9)), (V.row 11013), (V.mp 11015)]), (9011, .row 2 (o10)), (11013, .row 2 (o11)), (11015, .map (o12) (o13))]⟩)) := by
  intro n
  induction n with
  | zero => intro a0 a1 a2 a3 a4 a5 a6 a7 a8 a9 a10 a11 a12 a13 a14 a15 a16 r h; cases h
  | succ n ih =>
    intro a0 a1 a2 a3 a4 a5 a6 a7 a8 a9 a10 a11 a12 a13 a14 a15 a16 r h k m hk hm
    obtain ⟨m, rfl⟩ : ∃ q, m = q + 1 := ⟨m - 1, by omega⟩
    replace hk : n + 3 ≤ k := by omega
    unfold l_impl_Roof_run_b2 at h
    rcases cnd_some h with ⟨h4, h⟩ | ⟨h4, h⟩
    · obtain ⟨y5_0, q5, h⟩ := bnd_some h
      rcases cnd_some h with ⟨h6, h⟩ | ⟨h6, h⟩
      · obtain ⟨y7_0, q7, h⟩ := bnd_some h
        obtain ⟨y8_0, q8, h⟩ := bnd_some h
        obtain ⟨y9_0, q9, h⟩ := bnd_some h
        obtain ⟨c10, h⟩ := chk_some h
        obtain ⟨c11, h⟩ := chk_some h
        refine pNext_by [.b true, .v (V.int .i64 (y5_0)), .b false, .b false, .v (V.int .u8 (y7_0)), .v (V.int .u8 (y8_0)), .v (V.int .i32 (y9_0))] (And.intro h4 (And.intro (w_impl_Roof_tileAt q5 k (by omega)) (And.intro (not_f h6) (And.intro (Eq.refl false) (And.intro (w_impl_Roof_covering q7 k (by omega)) (And.intro (w_impl_Roof_covering q8 k (by omega)) (And.intro (w_impl_dripOf q9 k (by omega)) (And.intro c10 (And.intro c11 trivial))))))))) (ih _ _ _ _ _ _ _ _ _ _ _ _ _ _ _ _ _ _ h k m hk (by omega)) ?_
        kernel_rfl
      · rcases cnd_some h with ⟨h12, h⟩ | ⟨h12, h⟩
        · obtain ⟨c13, h⟩ := chk_some h
          obtain ⟨c14, h⟩ := chk_some h
          obtain ⟨y15_0, q15, h⟩ := bnd_some h
          obtain ⟨y16_0, q16, h⟩ := bnd_some h
          obtain ⟨y17_0, q17, h⟩ := bnd_some h
          obtain ⟨c18, h⟩ := chk_some h
          obtain ⟨c19, h⟩ := chk_some h
          refine pNext_by [.b true, .v (V.int .i64 (y5_0)), .b true, .b true, .v (V.int .u8 (y15_0)), .v (V.int .u8 (y16_0)), .v (V.int .i32 (y17_0))] (And.intro h4 (And.intro (w_impl_Roof_tileAt q5 k (by omega)) (And.intro (not_t h6) (And.intro h12 (And.intro c13 (And.intro c14 (And.intro (w_impl_Roof_covering q15 k (by omega)) (And.intro (w_impl_Roof_covering q16 k (by omega)) (And.intro (w_impl_dripOf q17 k (by omega)) (And.intro c18 (And.intro c19 trivial))))))))))) (ih _ _ _ _ _ _ _ _ _ _ _ _ _ _ _ _ _ _ h k m hk (by omega)) ?_
          kernel_rfl
        · obtain ⟨y20_0, q20, h⟩ := bnd_some h
          obtain ⟨y21_0, q21, h⟩ := bnd_some h
          obtain ⟨y22_0, q22, h⟩ := bnd_some h
          obtain ⟨c23, h⟩ := chk_some h
          obtain ⟨c24, h⟩ := chk_some h
          refine pNext_by [.b true, .v (V.int .i64 (y5_0)), .b true, .b false, .v (V.int .u8 (y20_0)), .v (V.int .u8 (y21_0)), .v (V.int .i32 (y22_0))] (And.intro h4 (And.intro (w_impl_Roof_tileAt q5 k (by omega)) (And.intro (not_t h6) (And.intro h12 (And.intro (w_impl_Roof_covering q20 k (by omega)) (And.intro (w_impl_Roof_covering q21 k (by omega)) (And.intro (w_impl_dripOf q22 k (by omega)) (And.intro c23 (And.intro c24 trivial))))))))) (ih _ _ _ _ _ _ _ _ _ _ _ _ _ _ _ _ _ _ h k m hk (by omega)) ?_
          kernel_rfl
    · cases h
      refine pLast_by [.b false] (And.intro h4 trivial) ?_
      kernel_rfl
theorem lw_impl_Roof_run_b0 : ∀ (n : Nat) (a0 : Int) (a1 : Int) (a2 : Int) (a3 : Int) (a4 : Int) (a5 : Nat → Int) (a6 : Nat → Int) (a7 : Nat → Int) (a8 : Nat → Int) (a9 : List V) (a10 : List V) (a11 : List V) (a12 : List V) (r : (Nat → Int) × (Nat → Int) × List V × List V × List V × List V), l_impl_Roof_run_b0 n a0 a1 a2 a3 a4 a5 a6 a7 a8 a9 a10 a11 a12 = some r → ∀ k m, n + 3 ≤ k → n ≤ m → LB E 247 0 k m ⟨[(2, (V.ptr 5 0 (0) 67)), (3, (V.ptr 7 0 (0) 17)), (4, (V.ptr 9 0 (0) 138)), (5, (V.ptr 11 0 (0) 138)), (14, (V.int .i64 (a0))), (15, (V.int .i64 (a1)))], [(5, .box [(V.int .i8 (a2)), (V.int .i8 (a3)), (V.int .u8 (a4)), (V.ints .u8 64 (a5))]), (7, .box [(V.ints .i16 17 (a6))]), (9, .box [(V.ints .i32 136 (a7)), (V.row 9011), V.nilm]), (11, .box [(V.ints .i32 136 (a8)), (V.row 11013), (V.mp 11015)]), (9011, .row 2 (a9)), (11013, .row 2 (a10)), (11015, .map (a11) (a12))]⟩ = some (match r with | (o0, o1, o2, o3, o4, o5) => (.normal, ⟨[(4, (V.ptr 9 0 (0) 138)), (5, (V.ptr 11 0 (0) 138))], [(9, .box [(V.ints .i32 136 (o0)), (V.row 9011), V.nilm]), (11, .box [(V.ints .i32 136 (o1)), (V.row 11013), (V.mp 11015)]), (9011, .row 2 (o2)), (11013, .row 2 (o3)), (11015, .map (o4) (o5))]⟩)) := by
  intro n
  induction n with
  | zero => intro a0 a1 a2 a3 a4 a5 a6 a7 a8 a9 a10 a11 a12 r h; cases h
  | succ n ih =>
    intro a0 a1 a2 a3 a4 a5 a6 a7 a8 a9 a10 a11 a12 r h k m hk hm
    obtain ⟨m, rfl⟩ : ∃ q, m = q + 1 := ⟨m - 1, by omega⟩
    replace hk : n + 3 ≤ k := by omega
    unfold l_impl_Roof_run_b0 at h
    rcases cnd_some h with ⟨h2, h⟩ | ⟨h2, h⟩
    · obtain ⟨c3, h⟩ := chk_some h
      obtain ⟨⟨u25_0, u25_1, u25_2, u25_3, u25_4, u25_5, u25_6, u25_7, u25_8, u25_9, u25_10, u25_11, u25_12, u25_13⟩, l25, h⟩ := bnd_some h
      obtain ⟨c27, h⟩ := chk_some h
      refine pNext_by [.b true, .l .normal ⟨[(2, (V.ptr 5 0 (0) 67)), (3, (V.ptr 7 0 (0) 17)), (4, (V.ptr 9 0 (0) 138)), (5, (V.ptr 11 0 (0) 138)), (7, (V.int .i32 (u25_0))), (14, (V.int .i64 (u25_1))), (15, (V.int .i64 (u25_2)))], [(5, .box [(V.int .i8 (u25_3)), (V.int .i8 (u25_4)), (V.int .u8 (u25_5)), (V.ints .u8 64 (u25_6))]), (7, .box [(V.ints .i16 17 (u25_7))]), (9, .box [(V.ints .i32 136 (u25_8)), (V.row 9011), V.nilm]), (11, .box [(V.ints .i32 136 (u25_9)), (V.row 11013), (V.mp 11015)]), (9011, .row 2 (u25_10)), (11013, .row 2 (u25_11)), (11015, .map (u25_12) (u25_13))]⟩] (And.intro h2 (And.intro c3 (And.intro (lw_impl_Roof_run_b2 _ _ _ _ _ _ _ _ _ _ _ _ _ _ _ _ _ _ _ l25 k k (by omega) (by omega)) (And.intro c27 (And.intro (Eq.refl true) trivial))))) (ih _ _ _ _ _ _ _ _ _ _ _ _ _ _ h k m hk (by omega)) ?_
      kernel_rfl
    · cases h
      refine pLast_by [.b false] (And.intro h2 trivial) ?_
      kernel_rfl
theorem w_impl_Roof_run {n : Nat} {a0 : Int} {a1 : Int} {a2 : Int} {a3 : Nat → Int} {a4 : Nat → Int} {z0 : Nat → Int} {z1 : List V} {z2 : List V} {z3 : List V} (h : s_impl_Roof_run n a0 a1 a2 a3 a4 = some (z0, z1, z2, z3)) : ∀ k, n + 4 ≤ k → sem E k 247 [(V.parts [(V.int .i8 (a0)), (V.int .i8 (a1)), (V.int .u8 (a2)), (V.ints .u8 64 (a3))]), (V.ints .i16 17 (a4))] = some (V.parts [(V.ints .i32 136 (z0)), (V.fresh 2 (z1)), (V.mapc (z2) (z3))]) := by
  intro k hk
  obtain ⟨k, rfl⟩ : ∃ q, k = q + 1 := ⟨k - 1, by omega⟩
  unfold s_impl_Roof_run at h
  obtain ⟨y1_0, q1, h⟩ := bnd_some h
  obtain ⟨⟨u28_0, u28_1, u28_2, u28_3, u28_4, u28_5⟩, l28, h⟩ := bnd_some h
  simp only [Option.some.injEq, Prod.mk.injEq] at h
  obtain ⟨rfl, rfl, rfl, rfl⟩ := h
  refine pFun_by [.v (V.int .i64 (y1_0)), .l .normal ⟨[(4, (V.ptr 9 0 (0) 138)), (5, (V.ptr 11 0 (0) 138))], [(9, .box [(V.ints .i32 136 (u28_0)), (V.row 9011), V.nilm]), (11, .box [(V.ints .i32 136 (u28_1)), (V.row 11013), (V.mp 11015)]), (9011, .row 2 (u28_2)), (11013, .row 2 (u28_3)), (11015, .map (u28_4) (u28_5))]⟩] rfl (And.intro (w_impl_Roof_cells q1 k (by omega)) (And.intro (lw_impl_Roof_run_b0 _ _ _ _ _ _ _ _ _ _ _ _ _ _ _ l28 k k (by omega) (by omega)) trivial)) ?_
  kernel_rfl
theorem lw_impl_sum_int32_b0 : ∀ (n : Nat) (a0 : Int) (a1 : List V) (a2 : Int) (a3 : Int) (r : Int), l_impl_sum_int32_b0 n a0 a1 a2 a3 = some r → ∀ k m, n + 0 ≤ k → n ≤ m → LB E 257 0 k m ⟨[(3, (V.int .i64 (a0))), (6, (V.sl (a1))), (7, (V.int .i64 (a2))), (8, (V.int .i64 (a3)))], []⟩ = some (match r with | o0 => (.normal, ⟨[(3, (V.int .i64 (o0)))], []⟩)) := by
  intro n
  induction n with
  | zero => intro a0 a1 a2 a3 r h; cases h
  | succ n ih =>
    intro a0 a1 a2 a3 r h k m hk hm
    obtain ⟨m, rfl⟩ : ∃ q, m = q + 1 := ⟨m - 1, by omega⟩
    replace hk : n + 0 ≤ k := by omega
    unfold l_impl_sum_int32_b0 at h
    rcases cnd_some h with ⟨h1, h⟩ | ⟨h1, h⟩
    · obtain ⟨e2_0, g2, h⟩ := bnd_some h
      replace g2 := as_i32_some g2
      refine pNext_by [.b true, .v (V.int .i32 (e2_0))] (And.intro h1 (And.intro g2 trivial)) (ih _ _ _ _ _ h k m hk (by omega)) ?_
      kernel_rfl
    · cases h
      refine pLast_by [.b false] (And.intro h1 trivial) ?_
      kernel_rfl
theorem w_impl_sum_int32 {n : Nat} {a0 : List V} {z0 : Int} (h : s_impl_sum_int32 n a0 = some z0) : ∀ k, n + 1 ≤ k → sem E k 257 [(V.sl (a0))] = some (V.int .i64 (z0)) := by
  intro k hk
  obtain ⟨k, rfl⟩ : ∃ q, k = q + 1 := ⟨k - 1, by omega⟩
  unfold s_impl_sum_int32 at h
  obtain ⟨u3_0, l3, h⟩ := bnd_some h
  replace h := Option.some.inj h
  obtain rfl := h
  refine pFun_by [.l .normal ⟨[(3, (V.int .i64 (u3_0)))], []⟩] rfl (And.intro (lw_impl_sum_int32_b0 _ _ _ _ _ _ l3 k k (by omega) (by omega)) trivial) ?_
  kernel_rfl
theorem w_impl_Roof_courses_1 {n : Nat} {a0 : Nat → Int} {z0 : Int} (h : s_impl_Roof_courses_1 n a0 = some z0) : ∀ k, n + 2 ≤ k → sem E k 263 [(V.ints .i32 17 (a0))] = some (V.int .i64 (z0)) := by
  intro k hk
  obtain ⟨k, rfl⟩ : ∃ q, k = q + 1 := ⟨k - 1, by omega⟩
  unfold s_impl_Roof_courses_1 at h
  obtain ⟨y1_0, q1, h⟩ := bnd_some h
  replace h := Option.some.inj h
  obtain rfl := h
  refine pFun_by [.v (V.int .i64 (y1_0))] rfl (And.intro (w_impl_sum_int32 q1 k (by omega)) (And.intro (Eq.refl true) trivial)) ?_
  kernel_rfl
theorem lw_impl_each_A17int32_int64__Roof_courses_1_b0 : ∀ (n : Nat) (a0 : List V) (a1 : Int) (a2 : Int) (a3 : List V) (r : List V), l_impl_each_A17int32_int64__Roof_courses_1_b0 n a0 a1 a2 a3 = some r → ∀ k m, n + 2 ≤ k → n ≤ m → LB E 262 0 k m ⟨[(1, (V.clo 263 [])), (5, (V.row 11)), (8, (V.sl (a0))), (9, (V.int .i64 (a1))), (10, (V.int .i64 (a2)))], [(11, .row 2 (a3))]⟩ = some (match r with | o0 => (.normal, ⟨[(5, (V.row 11))], [(11, .row 2 (o0))]⟩)) := by
  intro n
  induction n with
  | zero => intro a0 a1 a2 a3 r h; cases h
  | succ n ih =>
    intro a0 a1 a2 a3 r h k m hk hm
    obtain ⟨m, rfl⟩ : ∃ q, m = q + 1 := ⟨m - 1, by omega⟩
    replace hk : n + 2 ≤ k := by omega
    unfold l_impl_each_A17int32_int64__Roof_courses_1_b0 at h
    rcases cnd_some h with ⟨h1, h⟩ | ⟨h1, h⟩
    · obtain ⟨e2_0, g2, h⟩ := bnd_some h
      replace g2 := as_a17i32_some g2
      obtain ⟨y3_0, q3, h⟩ := bnd_some h
      obtain ⟨c4, h⟩ := chk_some h
      refine pNext_by [.b true, .v (V.ints .i32 17 (e2_0)), .v (V.int .i64 (y3_0))] (And.intro h1 (And.intro g2 (And.intro (w_impl_Roof_courses_1 q3 k (by omega)) (And.intro c4 (And.intro (Eq.refl true) trivial))))) (ih _ _ _ _ _ h k m hk (by omega)) ?_
      kernel_rfl
    · cases h
      refine pLast_by [.b false] (And.intro h1 trivial) ?_
      kernel_rfl
theorem w_impl_each_A17int32_int64__Roof_courses_1 {n : Nat} {a0 : List V} {z0 : List V} (h : s_impl_each_A17int32_int64__Roof_courses_1 n a0 = some z0) : ∀ k, n + 3 ≤ k → sem E k 262 [(V.sl (a0)), (V.clo 263 [])] = some (V.fresh 2 (z0)) := by
  intro k hk
  obtain ⟨k, rfl⟩ : ∃ q, k = q + 1 := ⟨k - 1, by omega⟩
  unfold s_impl_each_A17int32_int64__Roof_courses_1 at h
  obtain ⟨u5_0, l5, h⟩ := bnd_some h
  replace h := Option.some.inj h
  obtain rfl := h
  refine pFun_by [.l .normal ⟨[(5, (V.row 11))], [(11, .row 2 (u5_0))]⟩] rfl (And.intro (lw_impl_each_A17int32_int64__Roof_courses_1_b0 _ _ _ _ _ _ l5 k k (by omega) (by omega)) trivial) ?_
  kernel_rfl
theorem w_impl_Roof_courses {n : Nat} {a0 : Int} {a1 : Int} {a2 : Int} {a3 : Nat → Int} {a4 : Nat → Int} {z0 : List V} (h : s_impl_Roof_courses n a0 a1 a2 a3 a4 = some z0) : ∀ k, n + 4 ≤ k → sem E k 246 [(V.parts [(V.int .i8 (a0)), (V.int .i8 (a1)), (V.int .u8 (a2)), (V.ints .u8 64 (a3))]), (V.ints .i32 136 (a4))] = some (V.fresh 2 (z0)) := by
  intro k hk
  obtain ⟨k, rfl⟩ : ∃ q, k = q + 1 := ⟨k - 1, by omega⟩
  unfold s_impl_Roof_courses at h
  obtain ⟨c1, h⟩ := chk_some h
  obtain ⟨y2_0, q2, h⟩ := bnd_some h
  obtain ⟨c3, h⟩ := chk_some h
  replace h := Option.some.inj h
  obtain rfl := h
  refine pFun_by [.v (V.fresh 2 (y2_0))] rfl (And.intro c1 (And.intro (w_impl_each_A17int32_int64__Roof_courses_1 q2 k (by omega)) (And.intro c3 trivial))) ?_
  kernel_rfl
theorem lw_impl_sum_int64_b0 : ∀ (n : Nat) (a0 : Int) (a1 : List V) (a2 : Int) (a3 : Int) (r : Int), l_impl_sum_int64_b0 n a0 a1 a2 a3 = some r → ∀ k m, n + 0 ≤ k → n ≤ m → LB E 245 0 k m ⟨[(3, (V.int .i64 (a0))), (6, (V.sl (a1))), (7, (V.int .i64 (a2))), (8, (V.int .i64 (a3)))], []⟩ = some (match r with | o0 => (.normal, ⟨[(3, (V.int .i64 (o0)))], []⟩)) := by
  intro n
  induction n with
  | zero => intro a0 a1 a2 a3 r h; cases h
  | succ n ih =>
    intro a0 a1 a2 a3 r h k m hk hm
    obtain ⟨m, rfl⟩ : ∃ q, m = q + 1 := ⟨m - 1, by omega⟩
    replace hk : n + 0 ≤ k := by omega
    unfold l_impl_sum_int64_b0 at h
    rcases cnd_some h with ⟨h1, h⟩ | ⟨h1, h⟩
    · obtain ⟨e2_0, g2, h⟩ := bnd_some h
      replace g2 := as_i64_some g2
      refine pNext_by [.b true, .v (V.int .i64 (e2_0))] (And.intro h1 (And.intro g2 trivial)) (ih _ _ _ _ _ h k m hk (by omega)) ?_
      kernel_rfl
    · cases h
      refine pLast_by [.b false] (And.intro h1 trivial) ?_
      kernel_rfl
theorem w_impl_sum_int64 {n : Nat} {a0 : List V} {z0 : Int} (h : s_impl_sum_int64 n a0 = some z0) : ∀ k, n + 1 ≤ k → sem E k 245 [(V.sl (a0))] = some (V.int .i64 (z0)) := by
  intro k hk
  obtain ⟨k, rfl⟩ : ∃ q, k = q + 1 := ⟨k - 1, by omega⟩
  unfold s_impl_sum_int64 at h
  obtain ⟨u3_0, l3, h⟩ := bnd_some h
  replace h := Option.some.inj h
  obtain rfl := h
  refine pFun_by [.l .normal ⟨[(3, (V.int .i64 (u3_0)))], []⟩] rfl (And.intro (lw_impl_sum_int64_b0 _ _ _ _ _ _ l3 k k (by omega) (by omega)) trivial) ?_
  kernel_rfl
theorem w_impl_Roof_dripSum {n : Nat} {a0 : Int} {a1 : Int} {a2 : Int} {a3 : Nat → Int} {a4 : Nat → Int} {z0 : Int} (h : s_impl_Roof_dripSum n a0 a1 a2 a3 a4 = some z0) : ∀ k, n + 5 ≤ k → sem E k 212 [(V.parts [(V.int .i8 (a0)), (V.int .i8 (a1)), (V.int .u8 (a2)), (V.ints .u8 64 (a3))]), (V.ints .i16 17 (a4))] = some (V.int .i64 (z0)) := by
  intro k hk
  obtain ⟨k, rfl⟩ : ∃ q, k = q + 1 := ⟨k - 1, by omega⟩
  unfold s_impl_Roof_dripSum at h
  obtain ⟨⟨y1_0, y1_1, y1_2, y1_3⟩, q1, h⟩ := bnd_some h
  obtain ⟨y2_0, q2, h⟩ := bnd_some h
  obtain ⟨y3_0, q3, h⟩ := bnd_some h
  replace h := Option.some.inj h
  obtain rfl := h
  refine pFun_by [.v (V.parts [(V.ints .i32 136 (y1_0)), (V.fresh 2 (y1_1)), (V.mapc (y1_2) (y1_3))]), .v (V.fresh 2 (y2_0)), .v (V.int .i64 (y3_0))] rfl (And.intro (w_impl_Roof_run q1 k (by omega)) (And.intro (w_impl_Roof_courses q2 k (by omega)) (And.intro (w_impl_sum_int64 q3 k (by omega)) (And.intro (Eq.refl true) trivial)))) ?_
  kernel_rfl
theorem w_impl_Roof_after {n : Nat} {a0 : Int} {a1 : Int} {a2 : Int} {a3 : Nat → Int} {a4 : Nat → Int} {a5 : List V} {z0 : Int} (h : s_impl_Roof_after n a0 a1 a2 a3 a4 a5 = some z0) : ∀ k, n + 6 ≤ k → sem E k 140 [(V.parts [(V.int .i8 (a0)), (V.int .i8 (a1)), (V.int .u8 (a2)), (V.ints .u8 64 (a3))]), (V.ints .i16 17 (a4)), (V.sl (a5))] = some (V.int .i64 (z0)) := by
  intro k hk
  obtain ⟨k, rfl⟩ : ∃ q, k = q + 1 := ⟨k - 1, by omega⟩
  unfold s_impl_Roof_after at h
  obtain ⟨⟨y1_0, y1_1, y1_2, y1_3⟩, q1, h⟩ := bnd_some h
  obtain ⟨y2_0, q2, h⟩ := bnd_some h
  replace h := Option.some.inj h
  obtain rfl := h
  refine pFun_by [.v (V.parts [(V.int .i8 (y1_0)), (V.int .i8 (y1_1)), (V.int .u8 (y1_2)), (V.ints .u8 64 (y1_3))]), .v (V.int .i64 (y2_0))] rfl (And.intro (w_impl_Roof_mended q1 k (by omega)) (And.intro (w_impl_Roof_dripSum q2 k (by omega)) trivial)) ?_
  kernel_rfl
theorem w_impl_CheckRepairs {n : Nat} {a0 : Int} {a1 : Int} {a2 : Int} {a3 : Nat → Int} {a4 : Nat → Int} {a5 : List V} {a6 : Int} {z0 : Bool} {z1 : Int} (h : s_impl_CheckRepairs n a0 a1 a2 a3 a4 a5 a6 = some (z0, z1)) : ∀ k, n + 7 ≤ k → sem E k 56 [(V.parts [(V.int .i8 (a0)), (V.int .i8 (a1)), (V.int .u8 (a2)), (V.ints .u8 64 (a3))]), (V.ints .i16 17 (a4)), (V.sl (a5)), (V.int .i64 (a6))] = some (V.tup [(V.bool (z0)), (V.int .i64 (z1))]) := by
  intro k hk
  obtain ⟨k, rfl⟩ : ∃ q, k = q + 1 := ⟨k - 1, by omega⟩
  unfold s_impl_CheckRepairs at h
  obtain ⟨y1_0, q1, h⟩ := bnd_some h
  rcases cnd_some h with ⟨h2, h⟩ | ⟨h2, h⟩
  · obtain ⟨y3_0, q3, h⟩ := bnd_some h
    rcases cnd_some h with ⟨h4, h⟩ | ⟨h4, h⟩
    · obtain ⟨y5_0, q5, h⟩ := bnd_some h
      simp only [Option.some.injEq, Prod.mk.injEq] at h
      obtain ⟨rfl, rfl⟩ := h
      refine pFun_by [.v (V.bool (y1_0)), .b true, .v (V.int .i64 (y3_0)), .b false, .v (V.int .i64 (y5_0))] rfl (And.intro (w_impl_areAll_impl_Place__Roof_has q1 k (by omega)) (And.intro h2 (And.intro (w_impl_repairCode q3 k (by omega)) (And.intro (not_f h4) (And.intro (w_impl_Roof_after q5 k (by omega)) trivial))))) ?_
      kernel_rfl
    · simp only [Option.some.injEq, Prod.mk.injEq] at h
      obtain ⟨rfl, rfl⟩ := h
      refine pFun_by [.v (V.bool (y1_0)), .b true, .v (V.int .i64 (y3_0)), .b true] rfl (And.intro (w_impl_areAll_impl_Place__Roof_has q1 k (by omega)) (And.intro h2 (And.intro (w_impl_repairCode q3 k (by omega)) (And.intro (not_t h4) trivial)))) ?_
      kernel_rfl
  · obtain ⟨y6_0, q6, h⟩ := bnd_some h
    rcases cnd_some h with ⟨h7, h⟩ | ⟨h7, h⟩
    · obtain ⟨y8_0, q8, h⟩ := bnd_some h
      simp only [Option.some.injEq, Prod.mk.injEq] at h
      obtain ⟨rfl, rfl⟩ := h
      refine pFun_by [.v (V.bool (y1_0)), .b false, .v (V.int .i64 (y6_0)), .b false, .v (V.int .i64 (y8_0))] rfl (And.intro (w_impl_areAll_impl_Place__Roof_has q1 k (by omega)) (And.intro h2 (And.intro (w_impl_repairCode q6 k (by omega)) (And.intro (not_f h7) (And.intro (w_impl_Roof_after q8 k (by omega)) trivial))))) ?_
      kernel_rfl
    · simp only [Option.some.injEq, Prod.mk.injEq] at h
      obtain ⟨rfl, rfl⟩ := h
      refine pFun_by [.v (V.bool (y1_0)), .b false, .v (V.int .i64 (y6_0)), .b true] rfl (And.intro (w_impl_areAll_impl_Place__Roof_has q1 k (by omega)) (And.intro h2 (And.intro (w_impl_repairCode q6 k (by omega)) (And.intro (not_t h7) trivial)))) ?_
      kernel_rfl
theorem w_laws_eqPlace {n : Nat} {a0 : Int} {a1 : Int} {a2 : Int} {a3 : Int} {z0 : Bool} (h : s_laws_eqPlace n a0 a1 a2 a3 = some z0) : ∀ k, n + 1 ≤ k → sem E k 141 [(V.parts [(V.int .i8 (a0)), (V.int .i8 (a1))]), (V.parts [(V.int .i8 (a2)), (V.int .i8 (a3))])] = some (V.bool (z0)) := by
  intro k hk
  obtain ⟨k, rfl⟩ : ∃ q, k = q + 1 := ⟨k - 1, by omega⟩
  unfold s_laws_eqPlace at h
  rcases cnd_some h with ⟨h1, h⟩ | ⟨h1, h⟩
  · rcases cnd_some h with ⟨h2, h⟩ | ⟨h2, h⟩
    · replace h := Option.some.inj h
      obtain rfl := h
      refine pFun_by [.b false, .b false] rfl (And.intro (not_f h1) (And.intro (not_f h2) trivial)) ?_
      kernel_rfl
    · replace h := Option.some.inj h
      obtain rfl := h
      refine pFun_by [.b false, .b true] rfl (And.intro (not_f h1) (And.intro (not_t h2) trivial)) ?_
      kernel_rfl
  · replace h := Option.some.inj h
    obtain rfl := h
    refine pFun_by [.b true] rfl (And.intro (not_t h1) trivial) ?_
    kernel_rfl
theorem lw_laws_eqPlaceS_b0 : ∀ (n : Nat) (a0 : List V) (a1 : List V) (a2 : Int) (r : Sum (Unit) (Bool)), l_laws_eqPlaceS_b0 n a0 a1 a2 = some r → ∀ k m, n + 1 ≤ k → n ≤ m → LB E 54 0 k m ⟨[(0, (V.sl (a0))), (1, (V.sl (a1))), (5, (V.int .i64 (a2)))], []⟩ = some (match r with | .inl _ => (.normal, ⟨[], []⟩) | .inr o0 => (.ret, ⟨[(4, (V.bool (o0)))], []⟩)) := by
  intro n
  induction n with
  | zero => intro a0 a1 a2 r h; cases h
  | succ n ih =>
    intro a0 a1 a2 r h k m hk hm
    obtain ⟨m, rfl⟩ : ∃ q, m = q + 1 := ⟨m - 1, by omega⟩
    replace hk : n + 1 ≤ k := by omega
    unfold l_laws_eqPlaceS_b0 at h
    rcases cnd_some h with ⟨h2, h⟩ | ⟨h2, h⟩
    · obtain ⟨⟨e3_0, e3_1⟩, g3, h⟩ := bnd_some h
      replace g3 := as_Pi8_i8Q_some g3
      obtain ⟨⟨e4_0, e4_1⟩, g4, h⟩ := bnd_some h
      replace g4 := as_Pi8_i8Q_some g4
      obtain ⟨y5_0, q5, h⟩ := bnd_some h
      rcases cnd_some h with ⟨h6, h⟩ | ⟨h6, h⟩
      · refine pNext_by [.b true, .v (V.parts [(V.int .i8 (e3_0)), (V.int .i8 (e3_1))]), .v (V.parts [(V.int .i8 (e4_0)), (V.int .i8 (e4_1))]), .v (V.bool (y5_0)), .b false] (And.intro h2 (And.intro g3 (And.intro g4 (And.intro (w_laws_eqPlace q5 k (by omega)) (And.intro (not_f h6) trivial))))) (ih _ _ _ _ h k m hk (by omega)) ?_
        kernel_rfl
      · cases h
        refine pLast_by [.b true, .v (V.parts [(V.int .i8 (e3_0)), (V.int .i8 (e3_1))]), .v (V.parts [(V.int .i8 (e4_0)), (V.int .i8 (e4_1))]), .v (V.bool (y5_0)), .b true] (And.intro h2 (And.intro g3 (And.intro g4 (And.intro (w_laws_eqPlace q5 k (by omega)) (And.intro (not_t h6) trivial))))) ?_
        kernel_rfl
    · cases h
      refine pLast_by [.b false] (And.intro h2 trivial) ?_
      kernel_rfl
theorem w_laws_eqPlaceS {n : Nat} {a0 : List V} {a1 : List V} {z0 : Bool} (h : s_laws_eqPlaceS n a0 a1 = some z0) : ∀ k, n + 2 ≤ k → sem E k 54 [(V.sl (a0)), (V.sl (a1))] = some (V.bool (z0)) := by
  intro k hk
  obtain ⟨k, rfl⟩ : ∃ q, k = q + 1 := ⟨k - 1, by omega⟩
  unfold s_laws_eqPlaceS at h
  rcases cnd_some h with ⟨h1, h⟩ | ⟨h1, h⟩
  · obtain ⟨w, l7, h⟩ := bnd_some h
    rcases w with ⟨⟩ | u8_0
    · replace h := Option.some.inj h
      obtain rfl := h
      refine pFun_by [.b false, .l .normal ⟨[], []⟩] rfl (And.intro (not_f h1) (And.intro (lw_laws_eqPlaceS_b0 _ _ _ _ _ l7 k k (by omega) (by omega)) trivial)) ?_
      kernel_rfl
    · replace h := Option.some.inj h
      obtain rfl := h
      refine pFun_by [.b false, .l .ret ⟨[(4, (V.bool (u8_0)))], []⟩] rfl (And.intro (not_f h1) (And.intro (lw_laws_eqPlaceS_b0 _ _ _ _ _ l7 k k (by omega) (by omega)) trivial)) ?_
      kernel_rfl
  · replace h := Option.some.inj h
    obtain rfl := h
    refine pFun_by [.b true] rfl (And.intro (not_t h1) trivial) ?_
    kernel_rfl
end Go.Proofs.Ytdhcfdiggcgmhaa
