/- The program goes as the shallow texts tell: printed by gen.py. -/
import Derived.Test.YtdhcfdiggcgmhaaEnvA
import Derived.Test.YtdhcfdiggcgmhaaSh1
import Derived.Test.YtdhcfdiggcgmhaaSh2
import Derived.Test.YtdhcfdiggcgmhaaSh6
import Derived.Test.YtdhcfdiggcgmhaaSh10
namespace Go.Proofs.Ytdhcfdiggcgmhaa
open Go
set_option linter.unusedVariables false
set_option linter.unusedSimpArgs false
set_option maxRecDepth 100000
set_option maxHeartbeats 4000000
theorem w_laws_szPlaceS {n : Nat} {a0 : List V} {a1 : Int} {z0 : Int} (h : s_laws_szPlaceS n a0 a1 = some z0) : ∀ k, n + 1 ≤ k → sem E k 50 [(V.sl (a0)), (V.int .i64 (a1))] = some (V.int .i64 (z0)) := by
  intro k hk
  obtain ⟨k, rfl⟩ : ∃ q, k = q + 1 := ⟨k - 1, by omega⟩
  unfold s_laws_szPlaceS at h
  rcases cnd_some h with ⟨h1, h⟩ | ⟨h1, h⟩
  · replace h := Option.some.inj h
    obtain rfl := h
    refine pFun_by [.b true] rfl (And.intro h1 trivial) ?_
    kernel_rfl
  · replace h := Option.some.inj h
    obtain rfl := h
    refine pFun_by [.b false] rfl (And.intro h1 trivial) ?_
    kernel_rfl
theorem lw_laws_toByteA8_b0 : ∀ (n : Nat) (a0 : Int) (a1 : Nat → Int) (a2 : Nat → Int) (a3 : Nat → Int) (r : (Nat → Int) × (Nat → Int)), l_laws_toByteA8_b0 n a0 a1 a2 a3 = some r → ∀ k m, n + 0 ≤ k → n ≤ m → LB E 200 0 k m ⟨[(1, (V.ptr 3 0 (0) 8)), (2, (V.ptr 5 0 (0) 8)), (3, (V.ptr 7 0 (0) 8)), (4, (V.int .i64 (a0)))], [(3, .box [(V.ints .u8 8 (a1))]), (5, .box [(V.ints .u8 8 (a2))]), (7, .box [(V.ints .u8 8 (a3))])]⟩ = some (match r with | (o0, o1) => (.normal, ⟨[(2, (V.ptr 5 0 (0) 8)), (3, (V.ptr 7 0 (0) 8))], [(5, .box [(V.ints .u8 8 (o0))]), (7, .box [(V.ints .u8 8 (o1))])]⟩)) := by
  intro n
  induction n with
  | zero => intro a0 a1 a2 a3 r h; cases h
  | succ n ih =>
    intro a0 a1 a2 a3 r h k m hk hm
    obtain ⟨m, rfl⟩ : ∃ q, m = q + 1 := ⟨m - 1, by omega⟩
    replace hk : n + 0 ≤ k := by omega
    unfold l_laws_toByteA8_b0 at h
    rcases cnd_some h with ⟨h1, h⟩ | ⟨h1, h⟩
    · obtain ⟨c2, h⟩ := chk_some h
      refine pNext_by [.b true] (And.intro h1 (And.intro c2 (And.intro c2 trivial))) (ih _ _ _ _ _ h k m hk (by omega)) ?_
      kernel_rfl
    · cases h
      refine pLast_by [.b false] (And.intro h1 trivial) ?_
      kernel_rfl
theorem w_laws_toByteA8 {n : Nat} {a0 : Nat → Int} {z0 : Nat → Int} (h : s_laws_toByteA8 n a0 = some z0) : ∀ k, n + 1 ≤ k → sem E k 200 [(V.ints .u8 8 (a0))] = some (V.ints .u8 8 (z0)) := by
  intro k hk
  obtain ⟨k, rfl⟩ : ∃ q, k = q + 1 := ⟨k - 1, by omega⟩
  unfold s_laws_toByteA8 at h
  obtain ⟨⟨u3_0, u3_1⟩, l3, h⟩ := bnd_some h
  replace h := Option.some.inj h
  obtain rfl := h
  refine pFun_by [.l .normal ⟨[(2, (V.ptr 5 0 (0) 8)), (3, (V.ptr 7 0 (0) 8))], [(5, .box [(V.ints .u8 8 (u3_0))]), (7, .box [(V.ints .u8 8 (u3_1))])]⟩] rfl (And.intro (lw_laws_toByteA8_b0 _ _ _ _ _ _ l3 k k (by omega) (by omega)) trivial) ?_
  kernel_rfl
theorem lw_laws_toByteA8A8_b0 : ∀ (n : Nat) (a0 : Int) (a1 : Nat → Int) (a2 : Nat → Int) (a3 : Nat → Int) (r : (Nat → Int) × (Nat → Int)), l_laws_toByteA8A8_b0 n a0 a1 a2 a3 = some r → ∀ k m, n + 1 ≤ k → n ≤ m → LB E 129 0 k m ⟨[(1, (V.ptr 3 0 (0) 64)), (2, (V.ptr 5 0 (0) 64)), (3, (V.ptr 7 0 (0) 64)), (4, (V.int .i64 (a0)))], [(3, .box [(V.ints .u8 64 (a1))]), (5, .box [(V.ints .u8 64 (a2))]), (7, .box [(V.ints .u8 64 (a3))])]⟩ = some (match r with | (o0, o1) => (.normal, ⟨[(2, (V.ptr 5 0 (0) 64)), (3, (V.ptr 7 0 (0) 64))], [(5, .box [(V.ints .u8 64 (o0))]), (7, .box [(V.ints .u8 64 (o1))])]⟩)) := by
  intro n
  induction n with
  | zero => intro a0 a1 a2 a3 r h; cases h
  | succ n ih =>
    intro a0 a1 a2 a3 r h k m hk hm
    obtain ⟨m, rfl⟩ : ∃ q, m = q + 1 := ⟨m - 1, by omega⟩
    replace hk : n + 1 ≤ k := by omega
    unfold l_laws_toByteA8A8_b0 at h
    rcases cnd_some h with ⟨h1, h⟩ | ⟨h1, h⟩
    · obtain ⟨c2, h⟩ := chk_some h
      obtain ⟨y3_0, q3, h⟩ := bnd_some h
      refine pNext_by [.b true, .v (V.ints .u8 8 (y3_0))] (And.intro h1 (And.intro c2 (And.intro (w_laws_toByteA8 q3 k (by omega)) (And.intro c2 trivial)))) (ih _ _ _ _ _ h k m hk (by omega)) ?_
      kernel_rfl
    · cases h
      refine pLast_by [.b false] (And.intro h1 trivial) ?_
      kernel_rfl
theorem w_laws_toByteA8A8 {n : Nat} {a0 : Nat → Int} {z0 : Nat → Int} (h : s_laws_toByteA8A8 n a0 = some z0) : ∀ k, n + 2 ≤ k → sem E k 129 [(V.ints .u8 64 (a0))] = some (V.ints .u8 64 (z0)) := by
  intro k hk
  obtain ⟨k, rfl⟩ : ∃ q, k = q + 1 := ⟨k - 1, by omega⟩
  unfold s_laws_toByteA8A8 at h
  obtain ⟨⟨u4_0, u4_1⟩, l4, h⟩ := bnd_some h
  replace h := Option.some.inj h
  obtain rfl := h
  refine pFun_by [.l .normal ⟨[(2, (V.ptr 5 0 (0) 64)), (3, (V.ptr 7 0 (0) 64))], [(5, .box [(V.ints .u8 64 (u4_0))]), (7, .box [(V.ints .u8 64 (u4_1))])]⟩] rfl (And.intro (lw_laws_toByteA8A8_b0 _ _ _ _ _ _ l4 k k (by omega) (by omega)) trivial) ?_
  kernel_rfl
theorem w_laws_toRoof {n : Nat} {a0 : Int} {a1 : Int} {a2 : Int} {a3 : Nat → Int} {z0 : Int} {z1 : Int} {z2 : Int} {z3 : Nat → Int} (h : s_laws_toRoof n a0 a1 a2 a3 = some (z0, z1, z2, z3)) : ∀ k, n + 3 ≤ k → sem E k 45 [(V.parts [(V.int .i8 (a0)), (V.int .i8 (a1)), (V.int .u8 (a2)), (V.ints .u8 64 (a3))])] = some (V.parts [(V.int .i8 (z0)), (V.int .i8 (z1)), (V.int .u8 (z2)), (V.ints .u8 64 (z3))]) := by
  intro k hk
  obtain ⟨k, rfl⟩ : ∃ q, k = q + 1 := ⟨k - 1, by omega⟩
  unfold s_laws_toRoof at h
  obtain ⟨y1_0, q1, h⟩ := bnd_some h
  simp only [Option.some.injEq, Prod.mk.injEq] at h
  obtain ⟨rfl, rfl, rfl, rfl⟩ := h
  refine pFun_by [.v (V.ints .u8 64 (y1_0))] rfl (And.intro (w_laws_toByteA8A8 q1 k (by omega)) trivial) ?_
  kernel_rfl
theorem w_laws_toPlace {n : Nat} {a0 : Int} {a1 : Int} {z0 : Int} {z1 : Int} (h : s_laws_toPlace n a0 a1 = some (z0, z1)) : ∀ k, n + 1 ≤ k → sem E k 48 [(V.parts [(V.int .i8 (a0)), (V.int .i8 (a1))])] = some (V.parts [(V.int .i8 (z0)), (V.int .i8 (z1))]) := by
  intro k hk
  obtain ⟨k, rfl⟩ : ∃ q, k = q + 1 := ⟨k - 1, by omega⟩
  unfold s_laws_toPlace at h
  simp only [Option.some.injEq, Prod.mk.injEq] at h
  obtain ⟨rfl, rfl⟩ := h
  refine pFun_by [] rfl trivial ?_
  kernel_rfl
theorem lw_laws_toPlaceS_b0 : ∀ (n : Nat) (a0 : List V) (a1 : Int) (a2 : List V) (r : List V), l_laws_toPlaceS_b0 n a0 a1 a2 = some r → ∀ k m, n + 1 ≤ k → n ≤ m → LB E 52 0 k m ⟨[(0, (V.sl (a0))), (3, (V.row 7)), (4, (V.int .i64 (a1)))], [(7, .row 79 (a2))]⟩ = some (match r with | o0 => (.normal, ⟨[(3, (V.row 7))], [(7, .row 79 (o0))]⟩)) := by
  intro n
  induction n with
  | zero => intro a0 a1 a2 r h; cases h
  | succ n ih =>
    intro a0 a1 a2 r h k m hk hm
    obtain ⟨m, rfl⟩ : ∃ q, m = q + 1 := ⟨m - 1, by omega⟩
    replace hk : n + 1 ≤ k := by omega
    unfold l_laws_toPlaceS_b0 at h
    rcases cnd_some h with ⟨h2, h⟩ | ⟨h2, h⟩
    · obtain ⟨⟨e3_0, e3_1⟩, g3, h⟩ := bnd_some h
      replace g3 := as_Pi8_i8Q_some g3
      obtain ⟨⟨y4_0, y4_1⟩, q4, h⟩ := bnd_some h
      obtain ⟨c5, h⟩ := chk_some h
      obtain ⟨⟨e6_0, e6_1⟩, g6, h⟩ := bnd_some h
      replace g6 := as_Pi8_i8Q_some g6
      refine pNext_by [.b true, .v (V.parts [(V.int .i8 (e3_0)), (V.int .i8 (e3_1))]), .v (V.parts [(V.int .i8 (y4_0)), (V.int .i8 (y4_1))]), .v (V.parts [(V.int .i8 (e6_0)), (V.int .i8 (e6_1))])] (And.intro h2 (And.intro g3 (And.intro (w_laws_toPlace q4 k (by omega)) (And.intro c5 (And.intro g6 trivial))))) (ih _ _ _ _ h k m hk (by omega)) ?_
      kernel_rfl
    · cases h
      refine pLast_by [.b false] (And.intro h2 trivial) ?_
      kernel_rfl
theorem w_laws_toPlaceS {n : Nat} {a0 : List V} {z0 : List V} (h : s_laws_toPlaceS n a0 = some z0) : ∀ k, n + 2 ≤ k → sem E k 52 [(V.sl (a0))] = some (V.fresh 79 (z0)) := by
  intro k hk
  obtain ⟨k, rfl⟩ : ∃ q, k = q + 1 := ⟨k - 1, by omega⟩
  unfold s_laws_toPlaceS at h
  obtain ⟨c1, h⟩ := chk_some h
  obtain ⟨u7_0, l7, h⟩ := bnd_some h
  replace h := Option.some.inj h
  obtain rfl := h
  refine pFun_by [.l .normal ⟨[(3, (V.row 7))], [(7, .row 79 (u7_0))]⟩] rfl (And.intro c1 (And.intro (lw_laws_toPlaceS_b0 _ _ _ _ _ l7 k k (by omega) (by omega)) trivial)) ?_
  kernel_rfl
theorem w_spec_l00In {n : Nat} {a0 : Int} {a1 : Int} {a2 : Int} {z0 : Bool} (h : s_spec_l00In n a0 a1 a2 = some z0) : ∀ k, n + 1 ≤ k → sem E k 85 [(V.int .i64 (a0)), (V.int .i64 (a1)), (V.int .i64 (a2))] = some (V.bool (z0)) := by
  intro k hk
  obtain ⟨k, rfl⟩ : ∃ q, k = q + 1 := ⟨k - 1, by omega⟩
  unfold s_spec_l00In at h
  rcases cnd_some h with ⟨h1, h⟩ | ⟨h1, h⟩
  · replace h := Option.some.inj h
    obtain rfl := h
    refine pFun_by [.b true] rfl (And.intro h1 trivial) ?_
    kernel_rfl
  · replace h := Option.some.inj h
    obtain rfl := h
    refine pFun_by [.b false] rfl (And.intro h1 trivial) ?_
    kernel_rfl
theorem w_spec_l04Reach {n : Nat} {a0 : Int} {z0 : Bool} (h : s_spec_l04Reach n a0 = some z0) : ∀ k, n + 2 ≤ k → sem E k 145 [(V.int .i64 (a0))] = some (V.bool (z0)) := by
  intro k hk
  obtain ⟨k, rfl⟩ : ∃ q, k = q + 1 := ⟨k - 1, by omega⟩
  unfold s_spec_l04Reach at h
  obtain ⟨y1_0, q1, h⟩ := bnd_some h
  replace h := Option.some.inj h
  obtain rfl := h
  refine pFun_by [.v (V.bool (y1_0))] rfl (And.intro (w_spec_l00In q1 k (by omega)) trivial) ?_
  kernel_rfl
theorem w_spec_l01Cells {n : Nat} {a0 : Int} {a1 : Int} {a2 : Int} {a3 : Nat → Int} {z0 : Int} (h : s_spec_l01Cells n a0 a1 a2 a3 = some z0) : ∀ k, n + 1 ≤ k → sem E k 174 [(V.ref [(V.int .i8 (a0)), (V.int .i8 (a1)), (V.int .u8 (a2)), (V.ints .u8 64 (a3))] 0 (0) 67)] = some (V.int .i64 (z0)) := by
  intro k hk
  obtain ⟨k, rfl⟩ : ∃ q, k = q + 1 := ⟨k - 1, by omega⟩
  unfold s_spec_l01Cells at h
  replace h := Option.some.inj h
  obtain rfl := h
  refine pFun_by [] rfl trivial ?_
  kernel_rfl
theorem w_spec_l04Cell {n : Nat} {a0 : Int} {a1 : Int} {a2 : Int} {a3 : Nat → Int} {a4 : Int} {z0 : Bool} (h : s_spec_l04Cell n a0 a1 a2 a3 a4 = some z0) : ∀ k, n + 2 ≤ k → sem E k 214 [(V.ref [(V.int .i8 (a0)), (V.int .i8 (a1)), (V.int .u8 (a2)), (V.ints .u8 64 (a3))] 0 (0) 67), (V.int .i64 (a4))] = some (V.bool (z0)) := by
  intro k hk
  obtain ⟨k, rfl⟩ : ∃ q, k = q + 1 := ⟨k - 1, by omega⟩
  unfold s_spec_l04Cell at h
  obtain ⟨y1_0, q1, h⟩ := bnd_some h
  obtain ⟨y2_0, q2, h⟩ := bnd_some h
  replace h := Option.some.inj h
  obtain rfl := h
  refine pFun_by [.v (V.int .i64 (y1_0)), .v (V.bool (y2_0))] rfl (And.intro (w_spec_l01Cells q1 k (by omega)) (And.intro (w_spec_l00In q2 k (by omega)) trivial)) ?_
  kernel_rfl
theorem w_spec_l01Is {n : Nat} {a0 : Int} {a1 : Int} {a2 : Int} {a3 : Nat → Int} {a4 : Int} {a5 : Int} {z0 : Bool} (h : s_spec_l01Is n a0 a1 a2 a3 a4 a5 = some z0) : ∀ k, n + 2 ≤ k → sem E k 127 [(V.ref [(V.int .i8 (a0)), (V.int .i8 (a1)), (V.int .u8 (a2)), (V.ints .u8 64 (a3))] 0 (0) 67), (V.parts [(V.int .i8 (a4)), (V.int .i8 (a5))])] = some (V.bool (z0)) := by
  intro k hk
  obtain ⟨k, rfl⟩ : ∃ q, k = q + 1 := ⟨k - 1, by omega⟩
  unfold s_spec_l01Is at h
  obtain ⟨y1_0, q1, h⟩ := bnd_some h
  rcases cnd_some h with ⟨h2, h⟩ | ⟨h2, h⟩
  · obtain ⟨y3_0, q3, h⟩ := bnd_some h
    replace h := Option.some.inj h
    obtain rfl := h
    refine pFun_by [.v (V.bool (y1_0)), .b true, .v (V.bool (y3_0))] rfl (And.intro (w_spec_l00In q1 k (by omega)) (And.intro h2 (And.intro (w_spec_l00In q3 k (by omega)) trivial))) ?_
    kernel_rfl
  · replace h := Option.some.inj h
    obtain rfl := h
    refine pFun_by [.v (V.bool (y1_0)), .b false] rfl (And.intro (w_spec_l00In q1 k (by omega)) (And.intro h2 trivial)) ?_
    kernel_rfl
theorem w_spec_l01Kind {n : Nat} {a0 : Int} {z0 : Bool} (h : s_spec_l01Kind n a0 = some z0) : ∀ k, n + 2 ≤ k → sem E k 179 [(V.int .i64 (a0))] = some (V.bool (z0)) := by
  intro k hk
  obtain ⟨k, rfl⟩ : ∃ q, k = q + 1 := ⟨k - 1, by omega⟩
  unfold s_spec_l01Kind at h
  obtain ⟨y1_0, q1, h⟩ := bnd_some h
  replace h := Option.some.inj h
  obtain rfl := h
  refine pFun_by [.v (V.bool (y1_0))] rfl (And.intro (w_spec_l00In q1 k (by omega)) trivial) ?_
  kernel_rfl
theorem lw_spec_l01Ok_b2 : ∀ (n : Nat) (a0 : Int) (a1 : Int) (a2 : Int) (a3 : Nat → Int) (a4 : Int) (a5 : Int) (r : Sum (Int × Int × Int × (Nat → Int) × Int) (Bool)), l_spec_l01Ok_b2 n a0 a1 a2 a3 a4 a5 = some r → ∀ k m, n + 2 ≤ k → n ≤ m → LB E 196 2 k m ⟨[(0, (V.ref [(V.int .i8 (a0)), (V.int .i8 (a1)), (V.int .u8 (a2)), (V.ints .u8 64 (a3))] 0 (0) 67)), (3, (V.int .i8 (a4))), (4, (V.int .i8 (a5)))], []⟩ = some (match r with | .inl (o0, o1, o2, o3, o4) => (.normal, ⟨[(0, (V.ref [(V.int .i8 (o0)), (V.int .i8 (o1)), (V.int .u8 (o2)), (V.ints .u8 64 (o3))] 0 (0) 67)), (3, (V.int .i8 (o4)))], []⟩) | .inr o0 => (.ret, ⟨[(2, (V.bool (o0)))], []⟩)) := by
  intro n
  induction n with
  | zero => intro a0 a1 a2 a3 a4 a5 r h; cases h
  | succ n ih =>
    intro a0 a1 a2 a3 a4 a5 r h k m hk hm
    obtain ⟨m, rfl⟩ : ∃ q, m = q + 1 := ⟨m - 1, by omega⟩
    replace hk : n + 2 ≤ k := by omega
    unfold l_spec_l01Ok_b2 at h
    rcases cnd_some h with ⟨h7, h⟩ | ⟨h7, h⟩
    · obtain ⟨c8, h⟩ := chk_some h
      obtain ⟨c9, h⟩ := chk_some h
      obtain ⟨y10_0, q10, h⟩ := bnd_some h
      rcases cnd_some h with ⟨h11, h⟩ | ⟨h11, h⟩
      · obtain ⟨y12_0, q12, h⟩ := bnd_some h
        rcases cnd_some h with ⟨h13, h⟩ | ⟨h13, h⟩
        · refine pNext_by [.b true, .v (V.bool (y10_0)), .b false, .v (V.bool (y12_0)), .b false, .b false] (And.intro h7 (And.intro c8 (And.intro c9 (And.intro (w_spec_l01Kind q10 k (by omega)) (And.intro (not_f h11) (And.intro (w_spec_l01Is q12 k (by omega)) (And.intro (not_f h13) (And.intro (Eq.refl false) trivial)))))))) (ih _ _ _ _ _ _ _ h k m hk (by omega)) ?_
          kernel_rfl
        · rcases cnd_some h with ⟨h14, h⟩ | ⟨h14, h⟩
          · refine pNext_by [.b true, .v (V.bool (y10_0)), .b false, .v (V.bool (y12_0)), .b true, .b false] (And.intro h7 (And.intro c8 (And.intro c9 (And.intro (w_spec_l01Kind q10 k (by omega)) (And.intro (not_f h11) (And.intro (w_spec_l01Is q12 k (by omega)) (And.intro (not_t h13) (And.intro c8 (And.intro c9 (And.intro (not_f h14) trivial)))))))))) (ih _ _ _ _ _ _ _ h k m hk (by omega)) ?_
            kernel_rfl
          · cases h
            refine pLast_by [.b true, .v (V.bool (y10_0)), .b false, .v (V.bool (y12_0)), .b true, .b true] (And.intro h7 (And.intro c8 (And.intro c9 (And.intro (w_spec_l01Kind q10 k (by omega)) (And.intro (not_f h11) (And.intro (w_spec_l01Is q12 k (by omega)) (And.intro (not_t h13) (And.intro c8 (And.intro c9 (And.intro (not_t h14) trivial)))))))))) ?_
            kernel_rfl
      · cases h
        refine pLast_by [.b true, .v (V.bool (y10_0)), .b true, .b true] (And.intro h7 (And.intro c8 (And.intro c9 (And.intro (w_spec_l01Kind q10 k (by omega)) (And.intro (not_t h11) (And.intro (Eq.refl true) trivial)))))) ?_
        kernel_rfl
    · cases h
      refine pLast_by [.b false] (And.intro h7 trivial) ?_
      kernel_rfl
theorem lw_spec_l01Ok_b0 : ∀ (n : Nat) (a0 : Int) (a1 : Int) (a2 : Int) (a3 : Nat → Int) (a4 : Int) (r : Sum (Unit) (Bool)), l_spec_l01Ok_b0 n a0 a1 a2 a3 a4 = some r → ∀ k m, n + 2 ≤ k → n ≤ m → LB E 196 0 k m ⟨[(0, (V.ref [(V.int .i8 (a0)), (V.int .i8 (a1)), (V.int .u8 (a2)), (V.ints .u8 64 (a3))] 0 (0) 67)), (3, (V.int .i8 (a4)))], []⟩ = some (match r with | .inl _ => (.normal, ⟨[], []⟩) | .inr o0 => (.ret, ⟨[(2, (V.bool (o0)))], []⟩)) := by
  intro n
  induction n with
  | zero => intro a0 a1 a2 a3 a4 r h; cases h
  | succ n ih =>
    intro a0 a1 a2 a3 a4 r h k m hk hm
    obtain ⟨m, rfl⟩ : ∃ q, m = q + 1 := ⟨m - 1, by omega⟩
    replace hk : n + 2 ≤ k := by omega
    unfold l_spec_l01Ok_b0 at h
    rcases cnd_some h with ⟨h6, h⟩ | ⟨h6, h⟩
    · obtain ⟨w, l15, h⟩ := bnd_some h
      rcases w with ⟨u15_0, u15_1, u15_2, u15_3, u15_4⟩ | u16_0
      · refine pNext_by [.b true, .l .normal ⟨[(0, (V.ref [(V.int .i8 (u15_0)), (V.int .i8 (u15_1)), (V.int .u8 (u15_2)), (V.ints .u8 64 (u15_3))] 0 (0) 67)), (3, (V.int .i8 (u15_4)))], []⟩] (And.intro h6 (And.intro (lw_spec_l01Ok_b2 _ _ _ _ _ _ _ _ l15 k k (by omega) (by omega)) trivial)) (ih _ _ _ _ _ _ h k m hk (by omega)) ?_
        kernel_rfl
      · cases h
        refine pLast_by [.b true, .l .ret ⟨[(2, (V.bool (u16_0)))], []⟩] (And.intro h6 (And.intro (lw_spec_l01Ok_b2 _ _ _ _ _ _ _ _ l15 k k (by omega) (by omega)) trivial)) ?_
        kernel_rfl
    · cases h
      refine pLast_by [.b false] (And.intro h6 trivial) ?_
      kernel_rfl
theorem w_spec_l01Ok {n : Nat} {a0 : Int} {a1 : Int} {a2 : Int} {a3 : Nat → Int} {z0 : Bool} (h : s_spec_l01Ok n a0 a1 a2 a3 = some z0) : ∀ k, n + 3 ≤ k → sem E k 196 [(V.ref [(V.int .i8 (a0)), (V.int .i8 (a1)), (V.int .u8 (a2)), (V.ints .u8 64 (a3))] 0 (0) 67)] = some (V.bool (z0)) := by
  intro k hk
  obtain ⟨k, rfl⟩ : ∃ q, k = q + 1 := ⟨k - 1, by omega⟩
  unfold s_spec_l01Ok at h
  obtain ⟨y1_0, q1, h⟩ := bnd_some h
  rcases cnd_some h with ⟨h2, h⟩ | ⟨h2, h⟩
  · obtain ⟨y3_0, q3, h⟩ := bnd_some h
    rcases cnd_some h with ⟨h4, h⟩ | ⟨h4, h⟩
    · rcases cnd_some h with ⟨h5, h⟩ | ⟨h5, h⟩
      · replace h := Option.some.inj h
        obtain rfl := h
        refine pFun_by [.v (V.bool (y1_0)), .b false, .v (V.bool (y3_0)), .b false, .b true] rfl (And.intro (w_spec_l00In q1 k (by omega)) (And.intro (not_f h2) (And.intro (w_spec_l00In q3 k (by omega)) (And.intro (not_f h4) (And.intro h5 trivial))))) ?_
        kernel_rfl
      · obtain ⟨w, l18, h⟩ := bnd_some h
        rcases w with ⟨⟩ | u19_0
        · replace h := Option.some.inj h
          obtain rfl := h
          refine pFun_by [.v (V.bool (y1_0)), .b false, .v (V.bool (y3_0)), .b false, .b false, .l .normal ⟨[], []⟩] rfl (And.intro (w_spec_l00In q1 k (by omega)) (And.intro (not_f h2) (And.intro (w_spec_l00In q3 k (by omega)) (And.intro (not_f h4) (And.intro h5 (And.intro (lw_spec_l01Ok_b0 _ _ _ _ _ _ _ l18 k k (by omega) (by omega)) trivial)))))) ?_
          kernel_rfl
        · replace h := Option.some.inj h
          obtain rfl := h
          refine pFun_by [.v (V.bool (y1_0)), .b false, .v (V.bool (y3_0)), .b false, .b false, .l .ret ⟨[(2, (V.bool (u19_0)))], []⟩] rfl (And.intro (w_spec_l00In q1 k (by omega)) (And.intro (not_f h2) (And.intro (w_spec_l00In q3 k (by omega)) (And.intro (not_f h4) (And.intro h5 (And.intro (lw_spec_l01Ok_b0 _ _ _ _ _ _ _ l18 k k (by omega) (by omega)) trivial)))))) ?_
          kernel_rfl
    · replace h := Option.some.inj h
      obtain rfl := h
      refine pFun_by [.v (V.bool (y1_0)), .b false, .v (V.bool (y3_0)), .b true, .b true] rfl (And.intro (w_spec_l00In q1 k (by omega)) (And.intro (not_f h2) (And.intro (w_spec_l00In q3 k (by omega)) (And.intro (not_t h4) (And.intro (Eq.refl true) trivial))))) ?_
      kernel_rfl
  · replace h := Option.some.inj h
    obtain rfl := h
    refine pFun_by [.v (V.bool (y1_0)), .b true, .b true, .b true] rfl (And.intro (w_spec_l00In q1 k (by omega)) (And.intro (not_t h2) (And.intro (Eq.refl true) (And.intro (Eq.refl true) trivial)))) ?_
    kernel_rfl
theorem w_spec_l01Told {n : Nat} {a0 : Int} {a1 : Int} {a2 : Int} {a3 : Nat → Int} {a4 : Bool} {z0 : Int} (h : s_spec_l01Told n a0 a1 a2 a3 a4 = some z0) : ∀ k, n + 4 ≤ k → sem E k 172 [(V.ref [(V.int .i8 (a0)), (V.int .i8 (a1)), (V.int .u8 (a2)), (V.ints .u8 64 (a3))] 0 (0) 67), (V.bool (a4))] = some (V.int .i64 (z0)) := by
  intro k hk
  obtain ⟨k, rfl⟩ : ∃ q, k = q + 1 := ⟨k - 1, by omega⟩
  unfold s_spec_l01Told at h
  obtain ⟨y1_0, q1, h⟩ := bnd_some h
  rcases cnd_some h with ⟨h2, h⟩ | ⟨h2, h⟩
  · rcases cnd_some h with ⟨h3, h⟩ | ⟨h3, h⟩
    · replace h := Option.some.inj h
      obtain rfl := h
      refine pFun_by [.v (V.bool (y1_0)), .b false, .b false] rfl (And.intro (w_spec_l01Ok q1 k (by omega)) (And.intro (not_f h2) (And.intro (not_f h3) trivial))) ?_
      kernel_rfl
    · replace h := Option.some.inj h
      obtain rfl := h
      refine pFun_by [.v (V.bool (y1_0)), .b false, .b true] rfl (And.intro (w_spec_l01Ok q1 k (by omega)) (And.intro (not_f h2) (And.intro (not_t h3) trivial))) ?_
      kernel_rfl
  · replace h := Option.some.inj h
    obtain rfl := h
    refine pFun_by [.v (V.bool (y1_0)), .b true] rfl (And.intro (w_spec_l01Ok q1 k (by omega)) (And.intro (not_t h2) trivial)) ?_
    kernel_rfl
theorem lw_spec_l04Asked_b0 : ∀ (n : Nat) (a0 : Int) (a1 : Int) (a2 : Int) (a3 : Nat → Int) (a4 : List V) (a5 : List V) (a6 : Bool) (a7 : Int) (r : Int × Int × Int × (Nat → Int) × List V × List V × Bool), l_spec_l04Asked_b0 n a0 a1 a2 a3 a4 a5 a6 a7 = some r → ∀ k m, n + 2 ≤ k → n ≤ m → LB E 144 0 k m ⟨[(0, (V.ref [(V.int .i8 (a0)), (V.int .i8 (a1)), (V.int .u8 (a2)), (V.ints .u8 64 (a3))] 0 (0) 67)), (1, (V.sl (a4))), (2, (V.sl (a5))), (3, (V.bool (a6))), (9, (V.int .i64 (a7)))], []⟩ = some (match r with | (o0, o1, o2, o3, o4, o5, o6) => (.normal, ⟨[(0, (V.ref [(V.int .i8 (o0)), (V.int .i8 (o1)), (V.int .u8 (o2)), (V.ints .u8 64 (o3))] 0 (0) 67)), (1, (V.sl (o4))), (2, (V.sl (o5))), (3, (V.bool (o6)))], []⟩)) := by
  intro n
  induction n with
  | zero => intro a0 a1 a2 a3 a4 a5 a6 a7 r h; cases h
  | succ n ih =>
    intro a0 a1 a2 a3 a4 a5 a6 a7 r h k m hk hm
    obtain ⟨m, rfl⟩ : ∃ q, m = q + 1 := ⟨m - 1, by omega⟩
    replace hk : n + 2 ≤ k := by omega
    unfold l_spec_l04Asked_b0 at h
    rcases cnd_some h with ⟨h1, h⟩ | ⟨h1, h⟩
    · rcases cnd_some h with ⟨h2, h⟩ | ⟨h2, h⟩
      · obtain ⟨e3_0, g3, h⟩ := bnd_some h
        replace g3 := as_i64_some g3
        obtain ⟨y4_0, q4, h⟩ := bnd_some h
        refine pNext_by [.b true, .b true, .v (V.int .i64 (e3_0)), .v (V.bool (y4_0))] (And.intro h1 (And.intro h2 (And.intro g3 (And.intro (w_spec_l04Cell q4 k (by omega)) trivial)))) (ih _ _ _ _ _ _ _ _ _ h k m hk (by omega)) ?_
        kernel_rfl
      · refine pNext_by [.b true, .b false] (And.intro h1 (And.intro h2 trivial)) (ih _ _ _ _ _ _ _ _ _ h k m hk (by omega)) ?_
        kernel_rfl
    · cases h
      refine pLast_by [.b false] (And.intro h1 trivial) ?_
      kernel_rfl
theorem lw_spec_l04Asked_b2 : ∀ (n : Nat) (a0 : Int) (a1 : Int) (a2 : Int) (a3 : Nat → Int) (a4 : List V) (a5 : List V) (a6 : Bool) (a7 : Int) (r : Int × Int × Int × (Nat → Int) × List V × List V × Bool), l_spec_l04Asked_b2 n a0 a1 a2 a3 a4 a5 a6 a7 = some r → ∀ k m, n + 2 ≤ k → n ≤ m → LB E 144 2 k m ⟨[(0, (V.ref [(V.int .i8 (a0)), (V.int .i8 (a1)), (V.int .u8 (a2)), (V.ints .u8 64 (a3))] 0 (0) 67)), (1, (V.sl (a4))), (2, (V.sl (a5))), (3, (V.bool (a6))), (10, (V.int .i64 (a7)))], []⟩ = some (match r with | (o0, o1, o2, o3, o4, o5, o6) => (.normal, ⟨[(0, (V.ref [(V.int .i8 (o0)), (V.int .i8 (o1)), (V.int .u8 (o2)), (V.ints .u8 64 (o3))] 0 (0) 67)), (1, (V.sl (o4))), (2, (V.sl (o5))), (3, (V.bool (o6)))], []⟩)) := by
  intro n
  induction n with
  | zero => intro a0 a1 a2 a3 a4 a5 a6 a7 r h; cases h
  | succ n ih =>
    intro a0 a1 a2 a3 a4 a5 a6 a7 r h k m hk hm
    obtain ⟨m, rfl⟩ : ∃ q, m = q + 1 := ⟨m - 1, by omega⟩
    replace hk : n + 2 ≤ k := by omega
    unfold l_spec_l04Asked_b2 at h
    rcases cnd_some h with ⟨h7, h⟩ | ⟨h7, h⟩
    · rcases cnd_some h with ⟨h8, h⟩ | ⟨h8, h⟩
      · obtain ⟨⟨e9_0, e9_1⟩, g9, h⟩ := bnd_some h
        replace g9 := as_Pi8_i8Q_some g9
        obtain ⟨y10_0, q10, h⟩ := bnd_some h
        refine pNext_by [.b true, .b true, .v (V.parts [(V.int .i8 (e9_0)), (V.int .i8 (e9_1))]), .v (V.bool (y10_0))] (And.intro h7 (And.intro h8 (And.intro g9 (And.intro (w_spec_l01Is q10 k (by omega)) trivial)))) (ih _ _ _ _ _ _ _ _ _ h k m hk (by omega)) ?_
        kernel_rfl
      · refine pNext_by [.b true, .b false] (And.intro h7 (And.intro h8 trivial)) (ih _ _ _ _ _ _ _ _ _ h k m hk (by omega)) ?_
        kernel_rfl
    · cases h
      refine pLast_by [.b false] (And.intro h7 trivial) ?_
      kernel_rfl
theorem w_spec_l04Asked {n : Nat} {a0 : Int} {a1 : Int} {a2 : Int} {a3 : Nat → Int} {a4 : List V} {a5 : List V} {a6 : Bool} {z0 : Int} (h : s_spec_l04Asked n a0 a1 a2 a3 a4 a5 a6 = some z0) : ∀ k, n + 5 ≤ k → sem E k 144 [(V.ref [(V.int .i8 (a0)), (V.int .i8 (a1)), (V.int .u8 (a2)), (V.ints .u8 64 (a3))] 0 (0) 67), (V.sl (a4)), (V.sl (a5)), (V.bool (a6))] = some (V.int .i64 (z0)) := by
  intro k hk
  obtain ⟨k, rfl⟩ : ∃ q, k = q + 1 := ⟨k - 1, by omega⟩
  unfold s_spec_l04Asked at h
  obtain ⟨⟨u5_0, u5_1, u5_2, u5_3, u5_4, u5_5, u5_6⟩, l5, h⟩ := bnd_some h
  obtain ⟨⟨u11_0, u11_1, u11_2, u11_3, u11_4, u11_5, u11_6⟩, l11, h⟩ := bnd_some h
  obtain ⟨y13_0, q13, h⟩ := bnd_some h
  rcases cnd_some h with ⟨h14, h⟩ | ⟨h14, h⟩
  · rcases cnd_some h with ⟨h15, h⟩ | ⟨h15, h⟩
    · replace h := Option.some.inj h
      obtain rfl := h
      refine pFun_by [.l .normal ⟨[(0, (V.ref [(V.int .i8 (u5_0)), (V.int .i8 (u5_1)), (V.int .u8 (u5_2)), (V.ints .u8 64 (u5_3))] 0 (0) 67)), (1, (V.sl (u5_4))), (2, (V.sl (u5_5))), (3, (V.bool (u5_6)))], []⟩, .l .normal ⟨[(0, (V.ref [(V.int .i8 (u11_0)), (V.int .i8 (u11_1)), (V.int .u8 (u11_2)), (V.ints .u8 64 (u11_3))] 0 (0) 67)), (1, (V.sl (u11_4))), (2, (V.sl (u11_5))), (3, (V.bool (u11_6)))], []⟩, .v (V.int .i64 (y13_0)), .b true, .b true, .b true] rfl (And.intro (lw_spec_l04Asked_b0 _ _ _ _ _ _ _ _ _ _ l5 k k (by omega) (by omega)) (And.intro (lw_spec_l04Asked_b2 _ _ _ _ _ _ _ _ _ _ l11 k k (by omega) (by omega)) (And.intro (w_spec_l01Told q13 k (by omega)) (And.intro h14 (And.intro h15 (And.intro (Eq.refl true) trivial)))))) ?_
      kernel_rfl
    · rcases cnd_some h with ⟨h16, h⟩ | ⟨h16, h⟩
      · replace h := Option.some.inj h
        obtain rfl := h
        refine pFun_by [.l .normal ⟨[(0, (V.ref [(V.int .i8 (u5_0)), (V.int .i8 (u5_1)), (V.int .u8 (u5_2)), (V.ints .u8 64 (u5_3))] 0 (0) 67)), (1, (V.sl (u5_4))), (2, (V.sl (u5_5))), (3, (V.bool (u5_6)))], []⟩, .l .normal ⟨[(0, (V.ref [(V.int .i8 (u11_0)), (V.int .i8 (u11_1)), (V.int .u8 (u11_2)), (V.ints .u8 64 (u11_3))] 0 (0) 67)), (1, (V.sl (u11_4))), (2, (V.sl (u11_5))), (3, (V.bool (u11_6)))], []⟩, .v (V.int .i64 (y13_0)), .b true, .b false, .b true] rfl (And.intro (lw_spec_l04Asked_b0 _ _ _ _ _ _ _ _ _ _ l5 k k (by omega) (by omega)) (And.intro (lw_spec_l04Asked_b2 _ _ _ _ _ _ _ _ _ _ l11 k k (by omega) (by omega)) (And.intro (w_spec_l01Told q13 k (by omega)) (And.intro h14 (And.intro h15 (And.intro h16 trivial)))))) ?_
        kernel_rfl
      · replace h := Option.some.inj h
        obtain rfl := h
        refine pFun_by [.l .normal ⟨[(0, (V.ref [(V.int .i8 (u5_0)), (V.int .i8 (u5_1)), (V.int .u8 (u5_2)), (V.ints .u8 64 (u5_3))] 0 (0) 67)), (1, (V.sl (u5_4))), (2, (V.sl (u5_5))), (3, (V.bool (u5_6)))], []⟩, .l .normal ⟨[(0, (V.ref [(V.int .i8 (u11_0)), (V.int .i8 (u11_1)), (V.int .u8 (u11_2)), (V.ints .u8 64 (u11_3))] 0 (0) 67)), (1, (V.sl (u11_4))), (2, (V.sl (u11_5))), (3, (V.bool (u11_6)))], []⟩, .v (V.int .i64 (y13_0)), .b true, .b false, .b false] rfl (And.intro (lw_spec_l04Asked_b0 _ _ _ _ _ _ _ _ _ _ l5 k k (by omega) (by omega)) (And.intro (lw_spec_l04Asked_b2 _ _ _ _ _ _ _ _ _ _ l11 k k (by omega) (by omega)) (And.intro (w_spec_l01Told q13 k (by omega)) (And.intro h14 (And.intro h15 (And.intro h16 trivial)))))) ?_
        kernel_rfl
  · replace h := Option.some.inj h
    obtain rfl := h
    refine pFun_by [.l .normal ⟨[(0, (V.ref [(V.int .i8 (u5_0)), (V.int .i8 (u5_1)), (V.int .u8 (u5_2)), (V.ints .u8 64 (u5_3))] 0 (0) 67)), (1, (V.sl (u5_4))), (2, (V.sl (u5_5))), (3, (V.bool (u5_6)))], []⟩, .l .normal ⟨[(0, (V.ref [(V.int .i8 (u11_0)), (V.int .i8 (u11_1)), (V.int .u8 (u11_2)), (V.ints .u8 64 (u11_3))] 0 (0) 67)), (1, (V.sl (u11_4))), (2, (V.sl (u11_5))), (3, (V.bool (u11_6)))], []⟩, .v (V.int .i64 (y13_0)), .b false, .b false] rfl (And.intro (lw_spec_l04Asked_b0 _ _ _ _ _ _ _ _ _ _ l5 k k (by omega) (by omega)) (And.intro (lw_spec_l04Asked_b2 _ _ _ _ _ _ _ _ _ _ l11 k k (by omega) (by omega)) (And.intro (w_spec_l01Told q13 k (by omega)) (And.intro h14 (And.intro (Eq.refl false) trivial))))) ?_
    kernel_rfl
theorem w_spec_l01By {n : Nat} {a0 : Int} {a1 : Int} {a2 : Int} {a3 : Nat → Int} {a4 : Int} {z0 : Int} (h : s_spec_l01By n a0 a1 a2 a3 a4 = some z0) : ∀ k, n + 1 ≤ k → sem E k 227 [(V.ref [(V.int .i8 (a0)), (V.int .i8 (a1)), (V.int .u8 (a2)), (V.ints .u8 64 (a3))] 0 (0) 67), (V.int .i64 (a4))] = some (V.int .i64 (z0)) := by
  intro k hk
  obtain ⟨k, rfl⟩ : ∃ q, k = q + 1 := ⟨k - 1, by omega⟩
  unfold s_spec_l01By at h
  replace h := Option.some.inj h
  obtain rfl := h
  refine pFun_by [] rfl (And.intro (Eq.refl true) trivial) ?_
  kernel_rfl
theorem w_spec_l01First {n : Nat} {a0 : Int} {a1 : Int} {a2 : Int} {a3 : Nat → Int} {a4 : Int} {a5 : Int} {z0 : Int} (h : s_spec_l01First n a0 a1 a2 a3 a4 a5 = some z0) : ∀ k, n + 2 ≤ k → sem E k 165 [(V.ref [(V.int .i8 (a0)), (V.int .i8 (a1)), (V.int .u8 (a2)), (V.ints .u8 64 (a3))] 0 (0) 67), (V.parts [(V.int .i8 (a4)), (V.int .i8 (a5))])] = some (V.int .i64 (z0)) := by
  intro k hk
  obtain ⟨k, rfl⟩ : ∃ q, k = q + 1 := ⟨k - 1, by omega⟩
  unfold s_spec_l01First at h
  obtain ⟨y1_0, q1, h⟩ := bnd_some h
  replace h := Option.some.inj h
  obtain rfl := h
  refine pFun_by [.v (V.int .i64 (y1_0))] rfl (And.intro (w_spec_l01By q1 k (by omega)) trivial) ?_
  kernel_rfl
theorem w_spec_l04Can {n : Nat} {a0 : Int} {a1 : Int} {a2 : Int} {a3 : Nat → Int} {a4 : Int} {a5 : Int} {a6 : Int} {a7 : Int} {z0 : Bool} (h : s_spec_l04Can n a0 a1 a2 a3 a4 a5 a6 a7 = some z0) : ∀ k, n + 3 ≤ k → sem E k 215 [(V.ref [(V.int .i8 (a0)), (V.int .i8 (a1)), (V.int .u8 (a2)), (V.ints .u8 64 (a3))] 0 (0) 67), (V.int .i64 (a4)), (V.int .i64 (a5)), (V.parts [(V.int .i8 (a6)), (V.int .i8 (a7))])] = some (V.bool (z0)) := by
  intro k hk
  obtain ⟨k, rfl⟩ : ∃ q, k = q + 1 := ⟨k - 1, by omega⟩
  unfold s_spec_l04Can at h
  obtain ⟨y1_0, q1, h⟩ := bnd_some h
  obtain ⟨y2_0, q2, h⟩ := bnd_some h
  replace h := Option.some.inj h
  obtain rfl := h
  refine pFun_by [.v (V.int .i64 (y1_0)), .v (V.bool (y2_0))] rfl (And.intro (w_spec_l01First q1 k (by omega)) (And.intro (w_spec_l00In q2 k (by omega)) trivial)) ?_
  kernel_rfl
theorem lw_spec_l04First_b0 : ∀ (n : Nat) (a0 : Int) (a1 : Int) (a2 : Int) (a3 : Nat → Int) (a4 : List V) (a5 : Int) (a6 : Int) (a7 : Int) (a8 : Int) (r : Sum (Unit) (Int)), l_spec_l04First_b0 n a0 a1 a2 a3 a4 a5 a6 a7 a8 = some r → ∀ k m, n + 3 ≤ k → n ≤ m → LB E 147 0 k m ⟨[(0, (V.ref [(V.int .i8 (a0)), (V.int .i8 (a1)), (V.int .u8 (a2)), (V.ints .u8 64 (a3))] 0 (0) 67)), (1, (V.sl (a4))), (2, (V.int .i64 (a5))), (7, (V.ptr 15 0 (0) 2)), (9, (V.int .i64 (a6)))], [(15, .box [(V.int .i8 (a7)), (V.int .i8 (a8))])]⟩ = some (match r with | .inl _ => (.normal, ⟨[], []⟩) | .inr o0 => (.ret, ⟨[(8, (V.int .i64 (o0)))], []⟩)) := by
  intro n
  induction n with
  | zero => intro a0 a1 a2 a3 a4 a5 a6 a7 a8 r h; cases h
  | succ n ih =>
    intro a0 a1 a2 a3 a4 a5 a6 a7 a8 r h k m hk hm
    obtain ⟨m, rfl⟩ : ∃ q, m = q + 1 := ⟨m - 1, by omega⟩
    replace hk : n + 3 ≤ k := by omega
    unfold l_spec_l04First_b0 at h
    rcases cnd_some h with ⟨h1, h⟩ | ⟨h1, h⟩
    · obtain ⟨e2_0, g2, h⟩ := bnd_some h
      replace g2 := as_i64_some g2
      obtain ⟨y3_0, q3, h⟩ := bnd_some h
      rcases cnd_some h with ⟨h4, h⟩ | ⟨h4, h⟩
      · cases h
        refine pLast_by [.b true, .v (V.int .i64 (e2_0)), .v (V.bool (y3_0)), .b true] (And.intro h1 (And.intro g2 (And.intro (w_spec_l04Can q3 k (by omega)) (And.intro h4 trivial)))) ?_
        kernel_rfl
      · refine pNext_by [.b true, .v (V.int .i64 (e2_0)), .v (V.bool (y3_0)), .b false] (And.intro h1 (And.intro g2 (And.intro (w_spec_l04Can q3 k (by omega)) (And.intro h4 trivial)))) (ih _ _ _ _ _ _ _ _ _ _ h k m hk (by omega)) ?_
        kernel_rfl
    · cases h
      refine pLast_by [.b false] (And.intro h1 trivial) ?_
      kernel_rfl
theorem w_spec_l04First {n : Nat} {a0 : Int} {a1 : Int} {a2 : Int} {a3 : Nat → Int} {a4 : List V} {a5 : Int} {a6 : Int} {a7 : Int} {z0 : Int} (h : s_spec_l04First n a0 a1 a2 a3 a4 a5 a6 a7 = some z0) : ∀ k, n + 4 ≤ k → sem E k 147 [(V.ref [(V.int .i8 (a0)), (V.int .i8 (a1)), (V.int .u8 (a2)), (V.ints .u8 64 (a3))] 0 (0) 67), (V.sl (a4)), (V.int .i64 (a5)), (V.parts [(V.int .i8 (a6)), (V.int .i8 (a7))])] = some (V.int .i64 (z0)) := by
  intro k hk
  obtain ⟨k, rfl⟩ : ∃ q, k = q + 1 := ⟨k - 1, by omega⟩
  unfold s_spec_l04First at h
  obtain ⟨w, l5, h⟩ := bnd_some h
  rcases w with ⟨⟩ | u6_0
  · replace h := Option.some.inj h
    obtain rfl := h
    refine pFun_by [.l .normal ⟨[], []⟩] rfl (And.intro (lw_spec_l04First_b0 _ _ _ _ _ _ _ _ _ _ _ l5 k k (by omega) (by omega)) trivial) ?_
    kernel_rfl
  · replace h := Option.some.inj h
    obtain rfl := h
    refine pFun_by [.l .ret ⟨[(8, (V.int .i64 (u6_0)))], []⟩] rfl (And.intro (lw_spec_l04First_b0 _ _ _ _ _ _ _ _ _ _ _ l5 k k (by omega) (by omega)) trivial) ?_
    kernel_rfl
theorem lw_spec_l04All_b0 : ∀ (n : Nat) (a0 : Int) (a1 : Int) (a2 : Int) (a3 : Nat → Int) (a4 : List V) (a5 : Int) (a6 : List V) (a7 : Int) (r : Sum (Unit) (Bool)), l_spec_l04All_b0 n a0 a1 a2 a3 a4 a5 a6 a7 = some r → ∀ k m, n + 4 ≤ k → n ≤ m → LB E 222 0 k m ⟨[(0, (V.ref [(V.int .i8 (a0)), (V.int .i8 (a1)), (V.int .u8 (a2)), (V.ints .u8 64 (a3))] 0 (0) 67)), (1, (V.sl (a4))), (2, (V.int .i64 (a5))), (3, (V.sl (a6))), (9, (V.int .i64 (a7)))], []⟩ = some (match r with | .inl _ => (.normal, ⟨[], []⟩) | .inr o0 => (.ret, ⟨[(8, (V.bool (o0)))], []⟩)) := by
  intro n
  induction n with
  | zero => intro a0 a1 a2 a3 a4 a5 a6 a7 r h; cases h
  | succ n ih =>
    intro a0 a1 a2 a3 a4 a5 a6 a7 r h k m hk hm
    obtain ⟨m, rfl⟩ : ∃ q, m = q + 1 := ⟨m - 1, by omega⟩
    replace hk : n + 4 ≤ k := by omega
    unfold l_spec_l04All_b0 at h
    rcases cnd_some h with ⟨h1, h⟩ | ⟨h1, h⟩
    · obtain ⟨⟨e2_0, e2_1⟩, g2, h⟩ := bnd_some h
      replace g2 := as_Pi8_i8Q_some g2
      obtain ⟨y3_0, q3, h⟩ := bnd_some h
      rcases cnd_some h with ⟨h4, h⟩ | ⟨h4, h⟩
      · cases h
        refine pLast_by [.b true, .v (V.parts [(V.int .i8 (e2_0)), (V.int .i8 (e2_1))]), .v (V.int .i64 (y3_0)), .b true] (And.intro h1 (And.intro g2 (And.intro (w_spec_l04First q3 k (by omega)) (And.intro h4 trivial)))) ?_
        kernel_rfl
      · refine pNext_by [.b true, .v (V.parts [(V.int .i8 (e2_0)), (V.int .i8 (e2_1))]), .v (V.int .i64 (y3_0)), .b false] (And.intro h1 (And.intro g2 (And.intro (w_spec_l04First q3 k (by omega)) (And.intro h4 trivial)))) (ih _ _ _ _ _ _ _ _ _ h k m hk (by omega)) ?_
        kernel_rfl
    · cases h
      refine pLast_by [.b false] (And.intro h1 trivial) ?_
      kernel_rfl
theorem w_spec_l04All {n : Nat} {a0 : Int} {a1 : Int} {a2 : Int} {a3 : Nat → Int} {a4 : List V} {a5 : Int} {a6 : List V} {z0 : Bool} (h : s_spec_l04All n a0 a1 a2 a3 a4 a5 a6 = some z0) : ∀ k, n + 5 ≤ k → sem E k 222 [(V.ref [(V.int .i8 (a0)), (V.int .i8 (a1)), (V.int .u8 (a2)), (V.ints .u8 64 (a3))] 0 (0) 67), (V.sl (a4)), (V.int .i64 (a5)), (V.sl (a6))] = some (V.bool (z0)) := by
  intro k hk
  obtain ⟨k, rfl⟩ : ∃ q, k = q + 1 := ⟨k - 1, by omega⟩
  unfold s_spec_l04All at h
  obtain ⟨w, l5, h⟩ := bnd_some h
  rcases w with ⟨⟩ | u6_0
  · replace h := Option.some.inj h
    obtain rfl := h
    refine pFun_by [.l .normal ⟨[], []⟩] rfl (And.intro (lw_spec_l04All_b0 _ _ _ _ _ _ _ _ _ _ l5 k k (by omega) (by omega)) trivial) ?_
    kernel_rfl
  · replace h := Option.some.inj h
    obtain rfl := h
    refine pFun_by [.l .ret ⟨[(8, (V.bool (u6_0)))], []⟩] rfl (And.intro (lw_spec_l04All_b0 _ _ _ _ _ _ _ _ _ _ l5 k k (by omega) (by omega)) trivial) ?_
    kernel_rfl
theorem lw_spec_l04Ladders_b0 {self : (Int) → (Int) → (Int) → (Nat → Int) → (Int) → (List V) → (List V) → (Int) → (Int) → Option (List V × Bool)} {K : Nat} (hself : ∀ {a0 : Int} {a1 : Int} {a2 : Int} {a3 : Nat → Int} {a4 : Int} {a5 : List V} {a6 : List V} {a7 : Int} {a8 : Int} {z0 : List V} {z1 : Bool}, self a0 a1 a2 a3 a4 a5 a6 a7 a8 = some (z0, z1) → ∀ k, K ≤ k → sem E k (mvBase + 153) [(V.ref [(V.int .i8 (a0)), (V.int .i8 (a1)), (V.int .u8 (a2)), (V.ints .u8 64 (a3))] 0 (0) 67), (V.int .i64 (a4)), (V.sl (a5)), (V.fresh 2 (a6)), (V.int .i64 (a7)), (V.int .i64 (a8))] = some (V.tup [(V.fresh 2 (z0)), (V.bool (z1))])) : ∀ (n : Nat) (a0 : Int) (a1 : Int) (a2 : Int) (a3 : Nat → Int) (a4 : Int) (a5 : List V) (a6 : Int) (a7 : Int) (a8 : List V) (r : Sum (Unit) (Bool × List V)), l_spec_l04Ladders_b0 self n a0 a1 a2 a3 a4 a5 a6 a7 a8 = some r → ∀ k m, n + 1 ≤ k → n ≤ m → K ≤ k → LB E 153 0 k m ⟨[(0, (V.ref [(V.int .i8 (a0)), (V.int .i8 (a1)), (V.int .u8 (a2)), (V.ints .u8 64 (a3))] 0 (0) 67)), (1, (V.int .i64 (a4))), (2, (V.sl (a5))), (3, (V.row 7)), (5, (V.int .i64 (a6))), (14, (V.int .i64 (a7)))], [(7, .row 2 (a8))]⟩ = some (match r with | .inl _ => (.normal, ⟨[], []⟩) | .inr (o0, o1) => (.ret, ⟨[(12, (V.row 25)), (13, (V.bool (o0)))], [(25, .row 2 (o1))]⟩)) := by
  intro n
  induction n with
  | zero => intro a0 a1 a2 a3 a4 a5 a6 a7 a8 r h; cases h
  | succ n ih =>
    intro a0 a1 a2 a3 a4 a5 a6 a7 a8 r h k m hk hm hK
    obtain ⟨m, rfl⟩ : ∃ q, m = q + 1 := ⟨m - 1, by omega⟩
    replace hk : n + 1 ≤ k := by omega
    unfold l_spec_l04Ladders_b0 at h
    obtain ⟨y3_0, q3, h⟩ := bnd_some h
    rcases cnd_some h with ⟨h4, h⟩ | ⟨h4, h⟩
    · obtain ⟨c5, h⟩ := chk_some h
      obtain ⟨c6, h⟩ := chk_some h
      obtain ⟨c8, h⟩ := chk_some h
      obtain ⟨⟨y7_0, y7_1⟩, q7, h⟩ := bnd_some h
      obtain ⟨c9, h⟩ := chk_some h
      rcases cnd_some h with ⟨h10, h⟩ | ⟨h10, h⟩
      · cases h
        refine pLast_by [.v (V.int .i64 (y3_0)), .b true, .v (V.tup [(V.fresh 2 (y7_0)), (V.bool (y7_1))]), .b true] (And.intro (w_spec_l01Cells q3 k (by omega)) (And.intro h4 (And.intro c5 (And.intro (Eq.refl true) (And.intro c6 (And.intro (Eq.refl true) (And.intro c8 (And.intro (hself q7 k (by omega)) (And.intro c9 (And.intro h10 trivial)))))))))) ?_
        kernel_rfl
      · refine pNext_by [.v (V.int .i64 (y3_0)), .b true, .v (V.tup [(V.fresh 2 (y7_0)), (V.bool (y7_1))]), .b false] (And.intro (w_spec_l01Cells q3 k (by omega)) (And.intro h4 (And.intro c5 (And.intro (Eq.refl true) (And.intro c6 (And.intro (Eq.refl true) (And.intro c8 (And.intro (hself q7 k (by omega)) (And.intro c9 (And.intro h10 trivial)))))))))) (ih _ _ _ _ _ _ _ _ _ _ h k m hk (by omega) hK) ?_
        kernel_rfl
    · cases h
      refine pLast_by [.v (V.int .i64 (y3_0)), .b false] (And.intro (w_spec_l01Cells q3 k (by omega)) (And.intro h4 trivial)) ?_
      kernel_rfl
theorem w_spec_l04Ladders {n : Nat} {a0 : Int} {a1 : Int} {a2 : Int} {a3 : Nat → Int} {a4 : Int} {a5 : List V} {a6 : List V} {a7 : Int} {a8 : Int} {z0 : List V} {z1 : Bool} (h : s_spec_l04Ladders n a0 a1 a2 a3 a4 a5 a6 a7 a8 = some (z0, z1)) : ∀ k, n + 6 ≤ k → sem E k (mvBase + 153) [(V.ref [(V.int .i8 (a0)), (V.int .i8 (a1)), (V.int .u8 (a2)), (V.ints .u8 64 (a3))] 0 (0) 67), (V.int .i64 (a4)), (V.sl (a5)), (V.fresh 2 (a6)), (V.int .i64 (a7)), (V.int .i64 (a8))] = some (V.tup [(V.fresh 2 (z0)), (V.bool (z1))]) := by
  induction n generalizing a0 a1 a2 a3 a4 a5 a6 a7 a8 z0 z1 with
  | zero => cases h
  | succ n ih =>
    intro k hk
    obtain ⟨k, rfl⟩ : ∃ q, k = q + 1 := ⟨k - 1, by omega⟩
    replace hk : n + 6 ≤ k := by omega
    unfold s_spec_l04Ladders at h
    rcases cnd_some h with ⟨h1, h⟩ | ⟨h1, h⟩
    · obtain ⟨y2_0, q2, h⟩ := bnd_some h
      simp only [Option.some.injEq, Prod.mk.injEq] at h
      obtain ⟨rfl, rfl⟩ := h
      refine pMv_by [.b true, .v (V.bool (y2_0))] rfl rfl rfl (And.intro h1 (And.intro (w_spec_l04All q2 k (by omega)) (And.intro (Eq.refl true) trivial))) ?_
      kernel_rfl
    · obtain ⟨w, l11, h⟩ := bnd_some h
      rcases w with ⟨⟩ | ⟨u12_0, u12_1⟩
      · simp only [Option.some.injEq, Prod.mk.injEq] at h
        obtain ⟨rfl, rfl⟩ := h
        refine pMv_by [.b false, .l .normal ⟨[], []⟩] rfl rfl rfl (And.intro h1 (And.intro (lw_spec_l04Ladders_b0 ih _ _ _ _ _ _ _ _ _ _ _ l11 k k (by omega) (by omega) (by omega)) trivial)) ?_
        kernel_rfl
      · simp only [Option.some.injEq, Prod.mk.injEq] at h
        obtain ⟨rfl, rfl⟩ := h
        refine pMv_by [.b false, .l .ret ⟨[(12, (V.row 25)), (13, (V.bool (u12_0)))], [(25, .row 2 (u12_1))]⟩] rfl rfl rfl (And.intro h1 (And.intro (lw_spec_l04Ladders_b0 ih _ _ _ _ _ _ _ _ _ _ _ l11 k k (by omega) (by omega) (by omega)) trivial)) ?_
        kernel_rfl
theorem lw_spec_FewestLadders_b0 : ∀ (n : Nat) (a0 : Int) (a1 : List V) (a2 : Int) (a3 : Int) (a4 : Int) (a5 : Int) (a6 : Nat → Int) (r : Int × List V), l_spec_FewestLadders_b0 n a0 a1 a2 a3 a4 a5 a6 = some r → ∀ k m, n + 6 ≤ k → n ≤ m → LB E 62 0 k m ⟨[(1, (V.int .i64 (a0))), (2, (V.sl (a1))), (3, (V.ptr 7 0 (0) 67)), (9, (V.int .i64 (a2)))], [(7, .box [(V.int .i8 (a3)), (V.int .i8 (a4)), (V.int .u8 (a5)), (V.ints .u8 64 (a6))])]⟩ = some (match r with | (o0, o1) => (.ret, ⟨[(6, (V.row 13)), (7, (V.int .i64 (o0)))], [(13, .row 2 (o1))]⟩)) := by
  intro n
  induction n with
  | zero => intro a0 a1 a2 a3 a4 a5 a6 r h; cases h
  | succ n ih =>
    intro a0 a1 a2 a3 a4 a5 a6 r h k m hk hm
    obtain ⟨m, rfl⟩ : ∃ q, m = q + 1 := ⟨m - 1, by omega⟩
    replace hk : n + 6 ≤ k := by omega
    unfold l_spec_FewestLadders_b0 at h
    obtain ⟨⟨y4_0, y4_1⟩, q4, h⟩ := bnd_some h
    obtain ⟨c5, h⟩ := chk_some h
    rcases cnd_some h with ⟨h6, h⟩ | ⟨h6, h⟩
    · cases h
      refine pLast_by [.v (V.tup [(V.fresh 2 (y4_0)), (V.bool (y4_1))]), .b true] (And.intro (Eq.refl true) (And.intro (w_spec_l04Ladders q4 k (by omega)) (And.intro c5 (And.intro h6 trivial)))) ?_
      kernel_rfl
    · refine pNext_by [.v (V.tup [(V.fresh 2 (y4_0)), (V.bool (y4_1))]), .b false] (And.intro (Eq.refl true) (And.intro (w_spec_l04Ladders q4 k (by omega)) (And.intro c5 (And.intro h6 trivial)))) (ih _ _ _ _ _ _ _ _ h k m hk (by omega)) ?_
      kernel_rfl
theorem w_spec_FewestLadders {n : Nat} {a0 : Int} {a1 : Int} {a2 : Int} {a3 : Nat → Int} {a4 : Int} {a5 : List V} {z0 : List V} {z1 : Int} (h : s_spec_FewestLadders n a0 a1 a2 a3 a4 a5 = some (z0, z1)) : ∀ k, n + 7 ≤ k → sem E k 62 [(V.parts [(V.int .i8 (a0)), (V.int .i8 (a1)), (V.int .u8 (a2)), (V.ints .u8 64 (a3))]), (V.int .i64 (a4)), (V.sl (a5))] = some (V.tup [(V.fresh 2 (z0)), (V.int .i64 (z1))]) := by
  intro k hk
  obtain ⟨k, rfl⟩ : ∃ q, k = q + 1 := ⟨k - 1, by omega⟩
  unfold s_spec_FewestLadders at h
  obtain ⟨y1_0, q1, h⟩ := bnd_some h
  obtain ⟨y2_0, q2, h⟩ := bnd_some h
  rcases cnd_some h with ⟨h3, h⟩ | ⟨h3, h⟩
  · obtain ⟨⟨u7_0, u7_1⟩, l7, h⟩ := bnd_some h
    simp only [Option.some.injEq, Prod.mk.injEq] at h
    obtain ⟨rfl, rfl⟩ := h
    refine pFun_by [.v (V.bool (y1_0)), .v (V.int .i64 (y2_0)), .b false, .l .ret ⟨[(6, (V.row 13)), (7, (V.int .i64 (u7_0)))], [(13, .row 2 (u7_1))]⟩] rfl (And.intro (w_spec_l04Reach q1 k (by omega)) (And.intro (w_spec_l04Asked q2 k (by omega)) (And.intro (Eq.refl true) (And.intro (not_f h3) (And.intro (lw_spec_FewestLadders_b0 _ _ _ _ _ _ _ _ _ l7 k k (by omega) (by omega)) trivial))))) ?_
    kernel_rfl
  · simp only [Option.some.injEq, Prod.mk.injEq] at h
    obtain ⟨rfl, rfl⟩ := h
    refine pFun_by [.v (V.bool (y1_0)), .v (V.int .i64 (y2_0)), .b true] rfl (And.intro (w_spec_l04Reach q1 k (by omega)) (And.intro (w_spec_l04Asked q2 k (by omega)) (And.intro (Eq.refl true) (And.intro (not_t h3) trivial)))) ?_
    kernel_rfl
theorem w_impl_Roof_cells {n : Nat} {a0 : Int} {a1 : Int} {a2 : Int} {a3 : Nat → Int} {z0 : Int} (h : s_impl_Roof_cells n a0 a1 a2 a3 = some z0) : ∀ k, n + 1 ≤ k → sem E k 168 [(V.parts [(V.int .i8 (a0)), (V.int .i8 (a1)), (V.int .u8 (a2)), (V.ints .u8 64 (a3))])] = some (V.int .i64 (z0)) := by
  intro k hk
  obtain ⟨k, rfl⟩ : ∃ q, k = q + 1 := ⟨k - 1, by omega⟩
  unfold s_impl_Roof_cells at h
  replace h := Option.some.inj h
  obtain rfl := h
  refine pFun_by [] rfl trivial ?_
  kernel_rfl
theorem w_impl_within_int64 {n : Nat} {a0 : Int} {a1 : Int} {a2 : Int} {z0 : Bool} (h : s_impl_within_int64 n a0 a1 a2 = some z0) : ∀ k, n + 1 ≤ k → sem E k 91 [(V.int .i64 (a0)), (V.int .i64 (a1)), (V.int .i64 (a2))] = some (V.bool (z0)) := by
  intro k hk
  obtain ⟨k, rfl⟩ : ∃ q, k = q + 1 := ⟨k - 1, by omega⟩
  unfold s_impl_within_int64 at h
  rcases cnd_some h with ⟨h1, h⟩ | ⟨h1, h⟩
  · replace h := Option.some.inj h
    obtain rfl := h
    refine pFun_by [.b true] rfl (And.intro h1 trivial) ?_
    kernel_rfl
  · replace h := Option.some.inj h
    obtain rfl := h
    refine pFun_by [.b false] rfl (And.intro h1 trivial) ?_
    kernel_rfl
theorem w_impl_Roof_isCellNumber {n : Nat} {a0 : Int} {a1 : Int} {a2 : Int} {a3 : Nat → Int} {a4 : Int} {z0 : Bool} (h : s_impl_Roof_isCellNumber n a0 a1 a2 a3 a4 = some z0) : ∀ k, n + 2 ≤ k → sem E k 217 [(V.parts [(V.int .i8 (a0)), (V.int .i8 (a1)), (V.int .u8 (a2)), (V.ints .u8 64 (a3))]), (V.int .i64 (a4))] = some (V.bool (z0)) := by
  intro k hk
  obtain ⟨k, rfl⟩ : ∃ q, k = q + 1 := ⟨k - 1, by omega⟩
  unfold s_impl_Roof_isCellNumber at h
  obtain ⟨y1_0, q1, h⟩ := bnd_some h
  obtain ⟨y2_0, q2, h⟩ := bnd_some h
  replace h := Option.some.inj h
  obtain rfl := h
  refine pFun_by [.v (V.int .i64 (y1_0)), .v (V.bool (y2_0))] rfl (And.intro (w_impl_Roof_cells q1 k (by omega)) (And.intro (w_impl_within_int64 q2 k (by omega)) trivial)) ?_
  kernel_rfl
theorem w_impl_areAll_int64_1__Roof_isCellNumber {n : Nat} {a0 : Int} {a1 : Int} {a2 : Int} {a3 : Int} {a4 : Nat → Int} {z0 : Bool} (h : s_impl_areAll_int64_1__Roof_isCellNumber n a0 a1 a2 a3 a4 = some z0) : ∀ k, n + 3 ≤ k → sem E k 233 [(V.int .i64 (a0)), (V.ref [(V.clo 2000217 [(V.parts [(V.int .i8 (a1)), (V.int .i8 (a2)), (V.int .u8 (a3)), (V.ints .u8 64 (a4))])])] 0 (0) 1)] = some (V.bool (z0)) := by
  intro k hk
  obtain ⟨k, rfl⟩ : ∃ q, k = q + 1 := ⟨k - 1, by omega⟩
  unfold s_impl_areAll_int64_1__Roof_isCellNumber at h
  obtain ⟨y1_0, q1, h⟩ := bnd_some h
  replace h := Option.some.inj h
  obtain rfl := h
  refine pFun_by [.v (V.bool (y1_0))] rfl (And.intro (w_impl_Roof_isCellNumber q1 k (by omega)) trivial) ?_
  kernel_rfl
theorem lw_slices_IndexFunc_Sint64_int64__areAll_int64_1__Roof_isCellNumber_b0 : ∀ (n : Nat) (a0 : List V) (a1 : Int) (a2 : Int) (a3 : Int) (a4 : Nat → Int) (a5 : Int) (a6 : Int) (r : Sum (Unit) (Int)), l_slices_IndexFunc_Sint64_int64__areAll_int64_1__Roof_isCellNumber_b0 n a0 a1 a2 a3 a4 a5 a6 = some r → ∀ k m, n + 3 ≤ k → n ≤ m → LB E 254 0 k m ⟨[(0, (V.sl (a0))), (1, (V.clo 233 [(V.ref [(V.clo 2000217 [(V.parts [(V.int .i8 (a1)), (V.int .i8 (a2)), (V.int .u8 (a3)), (V.ints .u8 64 (a4))])])] 0 (0) 1)])), (7, (V.int .i64 (a5))), (8, (V.int .i64 (a6)))], []⟩ = some (match r with | .inl _ => (.normal, ⟨[], []⟩) | .inr o0 => (.ret, ⟨[(4, (V.int .i64 (o0)))], []⟩)) := by
  intro n
  induction n with
  | zero => intro a0 a1 a2 a3 a4 a5 a6 r h; cases h
  | succ n ih =>
    intro a0 a1 a2 a3 a4 a5 a6 r h k m hk hm
    obtain ⟨m, rfl⟩ : ∃ q, m = q + 1 := ⟨m - 1, by omega⟩
    replace hk : n + 3 ≤ k := by omega
    unfold l_slices_IndexFunc_Sint64_int64__areAll_int64_1__Roof_isCellNumber_b0 at h
    rcases cnd_some h with ⟨h1, h⟩ | ⟨h1, h⟩
    · obtain ⟨e2_0, g2, h⟩ := bnd_some h
      replace g2 := as_i64_some g2
      obtain ⟨y3_0, q3, h⟩ := bnd_some h
      rcases cnd_some h with ⟨h4, h⟩ | ⟨h4, h⟩
      · cases h
        refine pLast_by [.b true, .v (V.int .i64 (e2_0)), .v (V.bool (y3_0)), .b true] (And.intro h1 (And.intro g2 (And.intro (w_impl_areAll_int64_1__Roof_isCellNumber q3 k (by omega)) (And.intro h4 trivial)))) ?_
        kernel_rfl
      · refine pNext_by [.b true, .v (V.int .i64 (e2_0)), .v (V.bool (y3_0)), .b false] (And.intro h1 (And.intro g2 (And.intro (w_impl_areAll_int64_1__Roof_isCellNumber q3 k (by omega)) (And.intro h4 trivial)))) (ih _ _ _ _ _ _ _ _ h k m hk (by omega)) ?_
        kernel_rfl
    · cases h
      refine pLast_by [.b false] (And.intro h1 trivial) ?_
      kernel_rfl
theorem w_slices_IndexFunc_Sint64_int64__areAll_int64_1__Roof_isCellNumber {n : Nat} {a0 : List V} {a1 : Int} {a2 : Int} {a3 : Int} {a4 : Nat → Int} {z0 : Int} (h : s_slices_IndexFunc_Sint64_int64__areAll_int64_1__Roof_isCellNumber n a0 a1 a2 a3 a4 = some z0) : ∀ k, n + 4 ≤ k → sem E k 254 [(V.sl (a0)), (V.clo 233 [(V.ref [(V.clo 2000217 [(V.parts [(V.int .i8 (a1)), (V.int .i8 (a2)), (V.int .u8 (a3)), (V.ints .u8 64 (a4))])])] 0 (0) 1)])] = some (V.int .i64 (z0)) := by
  intro k hk
  obtain ⟨k, rfl⟩ : ∃ q, k = q + 1 := ⟨k - 1, by omega⟩
  unfold s_slices_IndexFunc_Sint64_int64__areAll_int64_1__Roof_isCellNumber at h
  obtain ⟨w, l5, h⟩ := bnd_some h
  rcases w with ⟨⟩ | u6_0
  · replace h := Option.some.inj h
    obtain rfl := h
    refine pFun_by [.l .normal ⟨[], []⟩] rfl (And.intro (lw_slices_IndexFunc_Sint64_int64__areAll_int64_1__Roof_isCellNumber_b0 _ _ _ _ _ _ _ _ _ l5 k k (by omega) (by omega)) trivial) ?_
    kernel_rfl
  · replace h := Option.some.inj h
    obtain rfl := h
    refine pFun_by [.l .ret ⟨[(4, (V.int .i64 (u6_0)))], []⟩] rfl (And.intro (lw_slices_IndexFunc_Sint64_int64__areAll_int64_1__Roof_isCellNumber_b0 _ _ _ _ _ _ _ _ _ l5 k k (by omega) (by omega)) trivial) ?_
    kernel_rfl
theorem w_slices_ContainsFunc_Sint64_int64__areAll_int64_1__Roof_isCellNumber {n : Nat} {a0 : List V} {a1 : Int} {a2 : Int} {a3 : Int} {a4 : Nat → Int} {z0 : Bool} (h : s_slices_ContainsFunc_Sint64_int64__areAll_int64_1__Roof_isCellNumber n a0 a1 a2 a3 a4 = some z0) : ∀ k, n + 5 ≤ k → sem E k 232 [(V.sl (a0)), (V.clo 233 [(V.ref [(V.clo 2000217 [(V.parts [(V.int .i8 (a1)), (V.int .i8 (a2)), (V.int .u8 (a3)), (V.ints .u8 64 (a4))])])] 0 (0) 1)])] = some (V.bool (z0)) := by
  intro k hk
  obtain ⟨k, rfl⟩ : ∃ q, k = q + 1 := ⟨k - 1, by omega⟩
  unfold s_slices_ContainsFunc_Sint64_int64__areAll_int64_1__Roof_isCellNumber at h
  obtain ⟨y1_0, q1, h⟩ := bnd_some h
  replace h := Option.some.inj h
  obtain rfl := h
  refine pFun_by [.v (V.int .i64 (y1_0))] rfl (And.intro (w_slices_IndexFunc_Sint64_int64__areAll_int64_1__Roof_isCellNumber q1 k (by omega)) trivial) ?_
  kernel_rfl
theorem w_impl_areAll_int64__Roof_isCellNumber {n : Nat} {a0 : List V} {a1 : Int} {a2 : Int} {a3 : Int} {a4 : Nat → Int} {z0 : Bool} (h : s_impl_areAll_int64__Roof_isCellNumber n a0 a1 a2 a3 a4 = some z0) : ∀ k, n + 6 ≤ k → sem E k 195 [(V.sl (a0)), (V.clo 2000217 [(V.parts [(V.int .i8 (a1)), (V.int .i8 (a2)), (V.int .u8 (a3)), (V.ints .u8 64 (a4))])])] = some (V.bool (z0)) := by
  intro k hk
  obtain ⟨k, rfl⟩ : ∃ q, k = q + 1 := ⟨k - 1, by omega⟩
  unfold s_impl_areAll_int64__Roof_isCellNumber at h
  obtain ⟨y1_0, q1, h⟩ := bnd_some h
  replace h := Option.some.inj h
  obtain rfl := h
  refine pFun_by [.v (V.bool (y1_0))] rfl (And.intro (w_slices_ContainsFunc_Sint64_int64__areAll_int64_1__Roof_isCellNumber q1 k (by omega)) (And.intro (Eq.refl true) trivial)) ?_
  kernel_rfl
theorem w_impl_isReach {n : Nat} {a0 : Int} {z0 : Bool} (h : s_impl_isReach n a0 = some z0) : ∀ k, n + 2 ≤ k → sem E k 218 [(V.int .i64 (a0))] = some (V.bool (z0)) := by
  intro k hk
  obtain ⟨k, rfl⟩ : ∃ q, k = q + 1 := ⟨k - 1, by omega⟩
  unfold s_impl_isReach at h
  obtain ⟨y1_0, q1, h⟩ := bnd_some h
  replace h := Option.some.inj h
  obtain rfl := h
  refine pFun_by [.v (V.bool (y1_0))] rfl (And.intro (w_impl_within_int64 q1 k (by omega)) trivial) ?_
  kernel_rfl
theorem w_impl_within_int8 {n : Nat} {a0 : Int} {a1 : Int} {a2 : Int} {z0 : Bool} (h : s_impl_within_int8 n a0 a1 a2 = some z0) : ∀ k, n + 1 ≤ k → sem E k 187 [(V.int .i8 (a0)), (V.int .i8 (a1)), (V.int .i8 (a2))] = some (V.bool (z0)) := by
  intro k hk
  obtain ⟨k, rfl⟩ : ∃ q, k = q + 1 := ⟨k - 1, by omega⟩
  unfold s_impl_within_int8 at h
  rcases cnd_some h with ⟨h1, h⟩ | ⟨h1, h⟩
  · replace h := Option.some.inj h
    obtain rfl := h
    refine pFun_by [.b true] rfl (And.intro h1 trivial) ?_
    kernel_rfl
  · replace h := Option.some.inj h
    obtain rfl := h
    refine pFun_by [.b false] rfl (And.intro h1 trivial) ?_
    kernel_rfl
theorem w_impl_Roof_has {n : Nat} {a0 : Int} {a1 : Int} {a2 : Int} {a3 : Nat → Int} {a4 : Int} {a5 : Int} {z0 : Bool} (h : s_impl_Roof_has n a0 a1 a2 a3 a4 a5 = some z0) : ∀ k, n + 2 ≤ k → sem E k 132 [(V.parts [(V.int .i8 (a0)), (V.int .i8 (a1)), (V.int .u8 (a2)), (V.ints .u8 64 (a3))]), (V.parts [(V.int .i8 (a4)), (V.int .i8 (a5))])] = some (V.bool (z0)) := by
  intro k hk
  obtain ⟨k, rfl⟩ : ∃ q, k = q + 1 := ⟨k - 1, by omega⟩
  unfold s_impl_Roof_has at h
  obtain ⟨y1_0, q1, h⟩ := bnd_some h
  rcases cnd_some h with ⟨h2, h⟩ | ⟨h2, h⟩
  · obtain ⟨y3_0, q3, h⟩ := bnd_some h
    replace h := Option.some.inj h
    obtain rfl := h
    refine pFun_by [.v (V.bool (y1_0)), .b true, .v (V.bool (y3_0))] rfl (And.intro (w_impl_within_int8 q1 k (by omega)) (And.intro h2 (And.intro (w_impl_within_int8 q3 k (by omega)) trivial))) ?_
    kernel_rfl
  · replace h := Option.some.inj h
    obtain rfl := h
    refine pFun_by [.v (V.bool (y1_0)), .b false] rfl (And.intro (w_impl_within_int8 q1 k (by omega)) (And.intro h2 trivial)) ?_
    kernel_rfl
theorem w_impl_areAll_impl_Place_1__Roof_has {n : Nat} {a0 : Int} {a1 : Int} {a2 : Int} {a3 : Int} {a4 : Int} {a5 : Nat → Int} {z0 : Bool} (h : s_impl_areAll_impl_Place_1__Roof_has n a0 a1 a2 a3 a4 a5 = some z0) : ∀ k, n + 3 ≤ k → sem E k 211 [(V.parts [(V.int .i8 (a0)), (V.int .i8 (a1))]), (V.ref [(V.clo 2000132 [(V.parts [(V.int .i8 (a2)), (V.int .i8 (a3)), (V.int .u8 (a4)), (V.ints .u8 64 (a5))])])] 0 (0) 1)] = some (V.bool (z0)) := by
  intro k hk
  obtain ⟨k, rfl⟩ : ∃ q, k = q + 1 := ⟨k - 1, by omega⟩
  unfold s_impl_areAll_impl_Place_1__Roof_has at h
  obtain ⟨y1_0, q1, h⟩ := bnd_some h
  replace h := Option.some.inj h
  obtain rfl := h
  refine pFun_by [.v (V.bool (y1_0))] rfl (And.intro (w_impl_Roof_has q1 k (by omega)) trivial) ?_
  kernel_rfl
theorem lw_slices_IndexFunc_Simpl_Place_impl_Place__areAll_Place_1__Roof_has_b0 : ∀ (n : Nat) (a0 : List V) (a1 : Int) (a2 : Int) (a3 : Int) (a4 : Nat → Int) (a5 : Int) (a6 : Int) (r : Sum (Unit) (Int)), l_slices_IndexFunc_Simpl_Place_impl_Place__areAll_Place_1__Roof_has_b0 n a0 a1 a2 a3 a4 a5 a6 = some r → ∀ k m, n + 3 ≤ k → n ≤ m → LB E 244 0 k m ⟨[(0, (V.sl (a0))), (1, (V.clo 211 [(V.ref [(V.clo 2000132 [(V.parts [(V.int .i8 (a1)), (V.int .i8 (a2)), (V.int .u8 (a3)), (V.ints .u8 64 (a4))])])] 0 (0) 1)])), (7, (V.int .i64 (a5))), (8, (V.int .i64 (a6)))], []⟩ = some (match r with | .inl _ => (.normal, ⟨[], []⟩) | .inr o0 => (.ret, ⟨[(4, (V.int .i64 (o0)))], []⟩)) := by
  intro n
  induction n with
  | zero => intro a0 a1 a2 a3 a4 a5 a6 r h; cases h
  | succ n ih =>
    intro a0 a1 a2 a3 a4 a5 a6 r h k m hk hm
    obtain ⟨m, rfl⟩ : ∃ q, m = q + 1 := ⟨m - 1, by omega⟩
    replace hk : n + 3 ≤ k := by omega
    unfold l_slices_IndexFunc_Simpl_Place_impl_Place__areAll_Place_1__Roof_has_b0 at h
    rcases cnd_some h with ⟨h1, h⟩ | ⟨h1, h⟩
    · obtain ⟨⟨e2_0, e2_1⟩, g2, h⟩ := bnd_some h
      replace g2 := as_Pi8_i8Q_some g2
      obtain ⟨y3_0, q3, h⟩ := bnd_some h
      rcases cnd_some h with ⟨h4, h⟩ | ⟨h4, h⟩
      · cases h
        refine pLast_by [.b true, .v (V.parts [(V.int .i8 (e2_0)), (V.int .i8 (e2_1))]), .v (V.bool (y3_0)), .b true] (And.intro h1 (And.intro g2 (And.intro (w_impl_areAll_impl_Place_1__Roof_has q3 k (by omega)) (And.intro h4 trivial)))) ?_
        kernel_rfl
      · refine pNext_by [.b true, .v (V.parts [(V.int .i8 (e2_0)), (V.int .i8 (e2_1))]), .v (V.bool (y3_0)), .b false] (And.intro h1 (And.intro g2 (And.intro (w_impl_areAll_impl_Place_1__Roof_has q3 k (by omega)) (And.intro h4 trivial)))) (ih _ _ _ _ _ _ _ _ h k m hk (by omega)) ?_
        kernel_rfl
    · cases h
      refine pLast_by [.b false] (And.intro h1 trivial) ?_
      kernel_rfl
theorem w_slices_IndexFunc_Simpl_Place_impl_Place__areAll_Place_1__Roof_has {n : Nat} {a0 : List V} {a1 : Int} {a2 : Int} {a3 : Int} {a4 : Nat → Int} {z0 : Int} (h : s_slices_IndexFunc_Simpl_Place_impl_Place__areAll_Place_1__Roof_has n a0 a1 a2 a3 a4 = some z0) : ∀ k, n + 4 ≤ k → sem E k 244 [(V.sl (a0)), (V.clo 211 [(V.ref [(V.clo 2000132 [(V.parts [(V.int .i8 (a1)), (V.int .i8 (a2)), (V.int .u8 (a3)), (V.ints .u8 64 (a4))])])] 0 (0) 1)])] = some (V.int .i64 (z0)) := by
  intro k hk
  obtain ⟨k, rfl⟩ : ∃ q, k = q + 1 := ⟨k - 1, by omega⟩
  unfold s_slices_IndexFunc_Simpl_Place_impl_Place__areAll_Place_1__Roof_has at h
  obtain ⟨w, l5, h⟩ := bnd_some h
  rcases w with ⟨⟩ | u6_0
  · replace h := Option.some.inj h
    obtain rfl := h
    refine pFun_by [.l .normal ⟨[], []⟩] rfl (And.intro (lw_slices_IndexFunc_Simpl_Place_impl_Place__areAll_Place_1__Roof_has_b0 _ _ _ _ _ _ _ _ _ l5 k k (by omega) (by omega)) trivial) ?_
    kernel_rfl
  · replace h := Option.some.inj h
    obtain rfl := h
    refine pFun_by [.l .ret ⟨[(4, (V.int .i64 (u6_0)))], []⟩] rfl (And.intro (lw_slices_IndexFunc_Simpl_Place_impl_Place__areAll_Place_1__Roof_has_b0 _ _ _ _ _ _ _ _ _ l5 k k (by omega) (by omega)) trivial) ?_
    kernel_rfl
theorem w_slices_ContainsFunc_Simpl_Place_impl_Place__areAll_Place_1__Roof_has {n : Nat} {a0 : List V} {a1 : Int} {a2 : Int} {a3 : Int} {a4 : Nat → Int} {z0 : Bool} (h : s_slices_ContainsFunc_Simpl_Place_impl_Place__areAll_Place_1__Roof_has n a0 a1 a2 a3 a4 = some z0) : ∀ k, n + 5 ≤ k → sem E k 210 [(V.sl (a0)), (V.clo 211 [(V.ref [(V.clo 2000132 [(V.parts [(V.int .i8 (a1)), (V.int .i8 (a2)), (V.int .u8 (a3)), (V.ints .u8 64 (a4))])])] 0 (0) 1)])] = some (V.bool (z0)) := by
  intro k hk
  obtain ⟨k, rfl⟩ : ∃ q, k = q + 1 := ⟨k - 1, by omega⟩
  unfold s_slices_ContainsFunc_Simpl_Place_impl_Place__areAll_Place_1__Roof_has at h
  obtain ⟨y1_0, q1, h⟩ := bnd_some h
  replace h := Option.some.inj h
  obtain rfl := h
  refine pFun_by [.v (V.int .i64 (y1_0))] rfl (And.intro (w_slices_IndexFunc_Simpl_Place_impl_Place__areAll_Place_1__Roof_has q1 k (by omega)) trivial) ?_
  kernel_rfl
theorem w_impl_areAll_impl_Place__Roof_has {n : Nat} {a0 : List V} {a1 : Int} {a2 : Int} {a3 : Int} {a4 : Nat → Int} {z0 : Bool} (h : s_impl_areAll_impl_Place__Roof_has n a0 a1 a2 a3 a4 = some z0) : ∀ k, n + 6 ≤ k → sem E k 139 [(V.sl (a0)), (V.clo 2000132 [(V.parts [(V.int .i8 (a1)), (V.int .i8 (a2)), (V.int .u8 (a3)), (V.ints .u8 64 (a4))])])] = some (V.bool (z0)) := by
  intro k hk
  obtain ⟨k, rfl⟩ : ∃ q, k = q + 1 := ⟨k - 1, by omega⟩
  unfold s_impl_areAll_impl_Place__Roof_has at h
  obtain ⟨y1_0, q1, h⟩ := bnd_some h
  replace h := Option.some.inj h
  obtain rfl := h
  refine pFun_by [.v (V.bool (y1_0))] rfl (And.intro (w_slices_ContainsFunc_Simpl_Place_impl_Place__areAll_Place_1__Roof_has q1 k (by omega)) (And.intro (Eq.refl true) trivial)) ?_
  kernel_rfl
theorem lw_impl_ValidRoof_b2 : ∀ (n : Nat) (a0 : Int) (a1 : Nat → Int) (a2 : Int) (a3 : Nat → Int) (a4 : Int) (a5 : Int) (a6 : Int) (a7 : Int) (a8 : Nat → Int) (r : Sum ((Nat → Int) × Int × Int × Int × Int × (Nat → Int)) (Bool)), l_impl_ValidRoof_b2 n a0 a1 a2 a3 a4 a5 a6 a7 a8 = some r → ∀ k m, n + 0 ≤ k → n ≤ m → LB E 180 2 k m ⟨[(1, (V.ptr 3 0 (0) 67)), (3, (V.int .i64 (a0))), (23, (V.ints .u8 64 (a1))), (24, (V.int .i64 (a2))), (28, (V.ints .u8 8 (a3))), (29, (V.int .i64 (a4)))], [(3, .box [(V.int .i8 (a5)), (V.int .i8 (a6)), (V.int .u8 (a7)), (V.ints .u8 64 (a8))])]⟩ = some (match r with | .inl (o0, o1, o2, o3, o4, o5) => (.normal, ⟨[(1, (V.ptr 3 0 (0) 67)), (23, (V.ints .u8 64 (o0))), (24, (V.int .i64 (o1)))], [(3, .box [(V.int .i8 (o2)), (V.int .i8 (o3)), (V.int .u8 (o4)), (V.ints .u8 64 (o5))])]⟩) | .inr o0 => (.ret, ⟨[(2, (V.bool (o0)))], []⟩)) := by
  intro n
  induction n with
  | zero => intro a0 a1 a2 a3 a4 a5 a6 a7 a8 r h; cases h
  | succ n ih =>
    intro a0 a1 a2 a3 a4 a5 a6 a7 a8 r h k m hk hm
    obtain ⟨m, rfl⟩ : ∃ q, m = q + 1 := ⟨m - 1, by omega⟩
    replace hk : n + 0 ≤ k := by omega
    unfold l_impl_ValidRoof_b2 at h
    rcases cnd_some h with ⟨h8, h⟩ | ⟨h8, h⟩
    · obtain ⟨c9, h⟩ := chk_some h
      rcases cnd_some h with ⟨h10, h⟩ | ⟨h10, h⟩
      · cases h
        refine pLast_by [.b true, .b true, .b true] (And.intro h8 (And.intro c9 (And.intro h10 (And.intro (Eq.refl true) trivial)))) ?_
        kernel_rfl
      · rcases cnd_some h with ⟨h11, h⟩ | ⟨h11, h⟩
        · refine pNext_by [.b true, .b false, .b false, .b false] (And.intro h8 (And.intro c9 (And.intro h10 (And.intro (not_f h11) (And.intro (Eq.refl false) trivial))))) (ih _ _ _ _ _ _ _ _ _ _ h k m hk (by omega)) ?_
          kernel_rfl
        · rcases cnd_some h with ⟨h12, h⟩ | ⟨h12, h⟩
          · cases h
            refine pLast_by [.b true, .b false, .b true, .b true, .b true] (And.intro h8 (And.intro c9 (And.intro h10 (And.intro (not_t h11) (And.intro h12 (And.intro (Eq.refl true) trivial)))))) ?_
            kernel_rfl
          · rcases cnd_some h with ⟨h13, h⟩ | ⟨h13, h⟩
            · cases h
              refine pLast_by [.b true, .b false, .b true, .b false, .b true] (And.intro h8 (And.intro c9 (And.intro h10 (And.intro (not_t h11) (And.intro h12 (And.intro h13 trivial)))))) ?_
              kernel_rfl
            · refine pNext_by [.b true, .b false, .b true, .b false, .b false] (And.intro h8 (And.intro c9 (And.intro h10 (And.intro (not_t h11) (And.intro h12 (And.intro h13 trivial)))))) (ih _ _ _ _ _ _ _ _ _ _ h k m hk (by omega)) ?_
              kernel_rfl
    · cases h
      refine pLast_by [.b false] (And.intro h8 trivial) ?_
      kernel_rfl
theorem lw_impl_ValidRoof_b0 : ∀ (n : Nat) (a0 : Nat → Int) (a1 : Int) (a2 : Int) (a3 : Int) (a4 : Int) (a5 : Nat → Int) (r : Sum (Unit) (Bool)), l_impl_ValidRoof_b0 n a0 a1 a2 a3 a4 a5 = some r → ∀ k m, n + 0 ≤ k → n ≤ m → LB E 180 0 k m ⟨[(1, (V.ptr 3 0 (0) 67)), (23, (V.ints .u8 64 (a0))), (24, (V.int .i64 (a1)))], [(3, .box [(V.int .i8 (a2)), (V.int .i8 (a3)), (V.int .u8 (a4)), (V.ints .u8 64 (a5))])]⟩ = some (match r with | .inl _ => (.normal, ⟨[], []⟩) | .inr o0 => (.ret, ⟨[(2, (V.bool (o0)))], []⟩)) := by
  intro n
  induction n with
  | zero => intro a0 a1 a2 a3 a4 a5 r h; cases h
  | succ n ih =>
    intro a0 a1 a2 a3 a4 a5 r h k m hk hm
    obtain ⟨m, rfl⟩ : ∃ q, m = q + 1 := ⟨m - 1, by omega⟩
    replace hk : n + 0 ≤ k := by omega
    unfold l_impl_ValidRoof_b0 at h
    rcases cnd_some h with ⟨h6, h⟩ | ⟨h6, h⟩
    · obtain ⟨c7, h⟩ := chk_some h
      obtain ⟨w, l14, h⟩ := bnd_some h
      rcases w with ⟨u14_0, u14_1, u14_2, u14_3, u14_4, u14_5⟩ | u15_0
      · refine pNext_by [.b true, .l .normal ⟨[(1, (V.ptr 3 0 (0) 67)), (23, (V.ints .u8 64 (u14_0))), (24, (V.int .i64 (u14_1)))], [(3, .box [(V.int .i8 (u14_2)), (V.int .i8 (u14_3)), (V.int .u8 (u14_4)), (V.ints .u8 64 (u14_5))])]⟩] (And.intro h6 (And.intro c7 (And.intro (lw_impl_ValidRoof_b2 _ _ _ _ _ _ _ _ _ _ _ l14 k k (by omega) (by omega)) trivial))) (ih _ _ _ _ _ _ _ h k m hk (by omega)) ?_
        kernel_rfl
      · cases h
        refine pLast_by [.b true, .l .ret ⟨[(2, (V.bool (u15_0)))], []⟩] (And.intro h6 (And.intro c7 (And.intro (lw_impl_ValidRoof_b2 _ _ _ _ _ _ _ _ _ _ _ l14 k k (by omega) (by omega)) trivial))) ?_
        kernel_rfl
    · cases h
      refine pLast_by [.b false] (And.intro h6 trivial) ?_
      kernel_rfl
theorem w_impl_ValidRoof {n : Nat} {a0 : Int} {a1 : Int} {a2 : Int} {a3 : Nat → Int} {z0 : Bool} (h : s_impl_ValidRoof n a0 a1 a2 a3 = some z0) : ∀ k, n + 2 ≤ k → sem E k 180 [(V.parts [(V.int .i8 (a0)), (V.int .i8 (a1)), (V.int .u8 (a2)), (V.ints .u8 64 (a3))])] = some (V.bool (z0)) := by
  intro k hk
  obtain ⟨k, rfl⟩ : ∃ q, k = q + 1 := ⟨k - 1, by omega⟩
  unfold s_impl_ValidRoof at h
  obtain ⟨y1_0, q1, h⟩ := bnd_some h
  rcases cnd_some h with ⟨h2, h⟩ | ⟨h2, h⟩
  · obtain ⟨y3_0, q3, h⟩ := bnd_some h
    rcases cnd_some h with ⟨h4, h⟩ | ⟨h4, h⟩
    · rcases cnd_some h with ⟨h5, h⟩ | ⟨h5, h⟩
      · replace h := Option.some.inj h
        obtain rfl := h
        refine pFun_by [.v (V.bool (y1_0)), .b false, .v (V.bool (y3_0)), .b false, .b true] rfl (And.intro (w_impl_within_int8 q1 k (by omega)) (And.intro (not_f h2) (And.intro (w_impl_within_int8 q3 k (by omega)) (And.intro (not_f h4) (And.intro h5 trivial))))) ?_
        kernel_rfl
      · obtain ⟨w, l17, h⟩ := bnd_some h
        rcases w with ⟨⟩ | u18_0
        · replace h := Option.some.inj h
          obtain rfl := h
          refine pFun_by [.v (V.bool (y1_0)), .b false, .v (V.bool (y3_0)), .b false, .b false, .l .normal ⟨[], []⟩] rfl (And.intro (w_impl_within_int8 q1 k (by omega)) (And.intro (not_f h2) (And.intro (w_impl_within_int8 q3 k (by omega)) (And.intro (not_f h4) (And.intro h5 (And.intro (lw_impl_ValidRoof_b0 _ _ _ _ _ _ _ _ l17 k k (by omega) (by omega)) trivial)))))) ?_
          kernel_rfl
        · replace h := Option.some.inj h
          obtain rfl := h
          refine pFun_by [.v (V.bool (y1_0)), .b false, .v (V.bool (y3_0)), .b false, .b false, .l .ret ⟨[(2, (V.bool (u18_0)))], []⟩] rfl (And.intro (w_impl_within_int8 q1 k (by omega)) (And.intro (not_f h2) (And.intro (w_impl_within_int8 q3 k (by omega)) (And.intro (not_f h4) (And.intro h5 (And.intro (lw_impl_ValidRoof_b0 _ _ _ _ _ _ _ _ l17 k k (by omega) (by omega)) trivial)))))) ?_
          kernel_rfl
    · replace h := Option.some.inj h
      obtain rfl := h
      refine pFun_by [.v (V.bool (y1_0)), .b false, .v (V.bool (y3_0)), .b true, .b true] rfl (And.intro (w_impl_within_int8 q1 k (by omega)) (And.intro (not_f h2) (And.intro (w_impl_within_int8 q3 k (by omega)) (And.intro (not_t h4) (And.intro (Eq.refl true) trivial))))) ?_
      kernel_rfl
  · replace h := Option.some.inj h
    obtain rfl := h
    refine pFun_by [.v (V.bool (y1_0)), .b true, .b true, .b true] rfl (And.intro (w_impl_within_int8 q1 k (by omega)) (And.intro (not_t h2) (And.intro (Eq.refl true) (And.intro (Eq.refl true) trivial)))) ?_
    kernel_rfl
theorem w_impl_roofCode {n : Nat} {a0 : Int} {a1 : Int} {a2 : Int} {a3 : Nat → Int} {a4 : Bool} {z0 : Int} (h : s_impl_roofCode n a0 a1 a2 a3 a4 = some z0) : ∀ k, n + 3 ≤ k → sem E k 158 [(V.parts [(V.int .i8 (a0)), (V.int .i8 (a1)), (V.int .u8 (a2)), (V.ints .u8 64 (a3))]), (V.bool (a4))] = some (V.int .i64 (z0)) := by
  intro k hk
  obtain ⟨k, rfl⟩ : ∃ q, k = q + 1 := ⟨k - 1, by omega⟩
  unfold s_impl_roofCode at h
  obtain ⟨y1_0, q1, h⟩ := bnd_some h
  rcases cnd_some h with ⟨h2, h⟩ | ⟨h2, h⟩
  · rcases cnd_some h with ⟨h3, h⟩ | ⟨h3, h⟩
    · replace h := Option.some.inj h
      obtain rfl := h
      refine pFun_by [.v (V.bool (y1_0)), .b false, .b false] rfl (And.intro (w_impl_ValidRoof q1 k (by omega)) (And.intro (not_f h2) (And.intro (not_f h3) trivial))) ?_
      kernel_rfl
    · replace h := Option.some.inj h
      obtain rfl := h
      refine pFun_by [.v (V.bool (y1_0)), .b false, .b true] rfl (And.intro (w_impl_ValidRoof q1 k (by omega)) (And.intro (not_f h2) (And.intro (not_t h3) trivial))) ?_
      kernel_rfl
  · replace h := Option.some.inj h
    obtain rfl := h
    refine pFun_by [.v (V.bool (y1_0)), .b true] rfl (And.intro (w_impl_ValidRoof q1 k (by omega)) (And.intro (not_t h2) trivial)) ?_
    kernel_rfl
theorem w_impl_jobCode_1 {n : Nat} {a0 : Int} {z0 : Bool} (h : s_impl_jobCode_1 n a0 = some z0) : ∀ k, n + 1 ≤ k → sem E k 249 [(V.int .i64 (a0))] = some (V.bool (z0)) := by
  intro k hk
  obtain ⟨k, rfl⟩ : ∃ q, k = q + 1 := ⟨k - 1, by omega⟩
  unfold s_impl_jobCode_1 at h
  replace h := Option.some.inj h
  obtain rfl := h
  refine pFun_by [] rfl trivial ?_
  kernel_rfl
theorem w_impl_areAll_int_1__jobCode_1 {n : Nat} {a0 : Int} {z0 : Bool} (h : s_impl_areAll_int_1__jobCode_1 n a0 = some z0) : ∀ k, n + 2 ≤ k → sem E k 239 [(V.int .i64 (a0)), (V.ref [(V.clo 249 [])] 0 (0) 1)] = some (V.bool (z0)) := by
  intro k hk
  obtain ⟨k, rfl⟩ : ∃ q, k = q + 1 := ⟨k - 1, by omega⟩
  unfold s_impl_areAll_int_1__jobCode_1 at h
  obtain ⟨y1_0, q1, h⟩ := bnd_some h
  replace h := Option.some.inj h
  obtain rfl := h
  refine pFun_by [.v (V.bool (y1_0))] rfl (And.intro (w_impl_jobCode_1 q1 k (by omega)) trivial) ?_
  kernel_rfl
theorem lw_slices_IndexFunc_Sint_int__areAll_int_1__jobCode_1_b0 : ∀ (n : Nat) (a0 : List V) (a1 : Int) (a2 : Int) (r : Sum (Unit) (Int)), l_slices_IndexFunc_Sint_int__areAll_int_1__jobCode_1_b0 n a0 a1 a2 = some r → ∀ k m, n + 2 ≤ k → n ≤ m → LB E 260 0 k m ⟨[(0, (V.sl (a0))), (1, (V.clo 239 [(V.ref [(V.clo 249 [])] 0 (0) 1)])), (7, (V.int .i64 (a1))), (8, (V.int .i64 (a2)))], []⟩ = some (match r with | .inl _ => (.normal, ⟨[], []⟩) | .inr o0 => (.ret, ⟨[(4, (V.int .i64 (o0)))], []⟩)) := by
  intro n
  induction n with
  | zero => intro a0 a1 a2 r h; cases h
  | succ n ih =>
    intro a0 a1 a2 r h k m hk hm
    obtain ⟨m, rfl⟩ : ∃ q, m = q + 1 := ⟨m - 1, by omega⟩
    replace hk : n + 2 ≤ k := by omega
    unfold l_slices_IndexFunc_Sint_int__areAll_int_1__jobCode_1_b0 at h
    rcases cnd_some h with ⟨h1, h⟩ | ⟨h1, h⟩
    · obtain ⟨e2_0, g2, h⟩ := bnd_some h
      replace g2 := as_i64_some g2
      obtain ⟨y3_0, q3, h⟩ := bnd_some h
      rcases cnd_some h with ⟨h4, h⟩ | ⟨h4, h⟩
      · cases h
        refine pLast_by [.b true, .v (V.int .i64 (e2_0)), .v (V.bool (y3_0)), .b true] (And.intro h1 (And.intro g2 (And.intro (w_impl_areAll_int_1__jobCode_1 q3 k (by omega)) (And.intro h4 trivial)))) ?_
        kernel_rfl
      · refine pNext_by [.b true, .v (V.int .i64 (e2_0)), .v (V.bool (y3_0)), .b false] (And.intro h1 (And.intro g2 (And.intro (w_impl_areAll_int_1__jobCode_1 q3 k (by omega)) (And.intro h4 trivial)))) (ih _ _ _ _ h k m hk (by omega)) ?_
        kernel_rfl
    · cases h
      refine pLast_by [.b false] (And.intro h1 trivial) ?_
      kernel_rfl
theorem w_slices_IndexFunc_Sint_int__areAll_int_1__jobCode_1 {n : Nat} {a0 : List V} {z0 : Int} (h : s_slices_IndexFunc_Sint_int__areAll_int_1__jobCode_1 n a0 = some z0) : ∀ k, n + 3 ≤ k → sem E k 260 [(V.sl (a0)), (V.clo 239 [(V.ref [(V.clo 249 [])] 0 (0) 1)])] = some (V.int .i64 (z0)) := by
  intro k hk
  obtain ⟨k, rfl⟩ : ∃ q, k = q + 1 := ⟨k - 1, by omega⟩
  unfold s_slices_IndexFunc_Sint_int__areAll_int_1__jobCode_1 at h
  obtain ⟨w, l5, h⟩ := bnd_some h
  rcases w with ⟨⟩ | u6_0
  · replace h := Option.some.inj h
    obtain rfl := h
    refine pFun_by [.l .normal ⟨[], []⟩] rfl (And.intro (lw_slices_IndexFunc_Sint_int__areAll_int_1__jobCode_1_b0 _ _ _ _ _ l5 k k (by omega) (by omega)) trivial) ?_
    kernel_rfl
  · replace h := Option.some.inj h
    obtain rfl := h
    refine pFun_by [.l .ret ⟨[(4, (V.int .i64 (u6_0)))], []⟩] rfl (And.intro (lw_slices_IndexFunc_Sint_int__areAll_int_1__jobCode_1_b0 _ _ _ _ _ l5 k k (by omega) (by omega)) trivial) ?_
    kernel_rfl
theorem w_slices_ContainsFunc_Sint_int__areAll_int_1__jobCode_1 {n : Nat} {a0 : List V} {z0 : Bool} (h : s_slices_ContainsFunc_Sint_int__areAll_int_1__jobCode_1 n a0 = some z0) : ∀ k, n + 4 ≤ k → sem E k 238 [(V.sl (a0)), (V.clo 239 [(V.ref [(V.clo 249 [])] 0 (0) 1)])] = some (V.bool (z0)) := by
  intro k hk
  obtain ⟨k, rfl⟩ : ∃ q, k = q + 1 := ⟨k - 1, by omega⟩
  unfold s_slices_ContainsFunc_Sint_int__areAll_int_1__jobCode_1 at h
  obtain ⟨y1_0, q1, h⟩ := bnd_some h
  replace h := Option.some.inj h
  obtain rfl := h
  refine pFun_by [.v (V.int .i64 (y1_0))] rfl (And.intro (w_slices_IndexFunc_Sint_int__areAll_int_1__jobCode_1 q1 k (by omega)) trivial) ?_
  kernel_rfl
theorem w_impl_areAll_int__jobCode_1 {n : Nat} {a0 : List V} {z0 : Bool} (h : s_impl_areAll_int__jobCode_1 n a0 = some z0) : ∀ k, n + 5 ≤ k → sem E k 203 [(V.sl (a0)), (V.clo 249 [])] = some (V.bool (z0)) := by
  intro k hk
  obtain ⟨k, rfl⟩ : ∃ q, k = q + 1 := ⟨k - 1, by omega⟩
  unfold s_impl_areAll_int__jobCode_1 at h
  obtain ⟨y1_0, q1, h⟩ := bnd_some h
  replace h := Option.some.inj h
  obtain rfl := h
  refine pFun_by [.v (V.bool (y1_0))] rfl (And.intro (w_slices_ContainsFunc_Sint_int__areAll_int_1__jobCode_1 q1 k (by omega)) (And.intro (Eq.refl true) trivial)) ?_
  kernel_rfl
theorem w_impl_jobCode {n : Nat} {a0 : Int} {a1 : Int} {a2 : Int} {a3 : Nat → Int} {a4 : Bool} {a5 : List V} {z0 : Int} (h : s_impl_jobCode n a0 a1 a2 a3 a4 a5 = some z0) : ∀ k, n + 6 ≤ k → sem E k 216 [(V.parts [(V.int .i8 (a0)), (V.int .i8 (a1)), (V.int .u8 (a2)), (V.ints .u8 64 (a3))]), (V.bool (a4)), (V.sl (a5))] = some (V.int .i64 (z0)) := by
  intro k hk
  obtain ⟨k, rfl⟩ : ∃ q, k = q + 1 := ⟨k - 1, by omega⟩
  unfold s_impl_jobCode at h
  obtain ⟨y1_0, q1, h⟩ := bnd_some h
  rcases cnd_some h with ⟨h2, h⟩ | ⟨h2, h⟩
  · obtain ⟨y3_0, q3, h⟩ := bnd_some h
    rcases cnd_some h with ⟨h4, h⟩ | ⟨h4, h⟩
    · replace h := Option.some.inj h
      obtain rfl := h
      refine pFun_by [.v (V.int .i64 (y1_0)), .b true, .v (V.bool (y3_0)), .b false] rfl (And.intro (w_impl_roofCode q1 k (by omega)) (And.intro h2 (And.intro (w_impl_areAll_int__jobCode_1 q3 k (by omega)) (And.intro (not_f h4) trivial)))) ?_
      kernel_rfl
    · replace h := Option.some.inj h
      obtain rfl := h
      refine pFun_by [.v (V.int .i64 (y1_0)), .b true, .v (V.bool (y3_0)), .b true] rfl (And.intro (w_impl_roofCode q1 k (by omega)) (And.intro h2 (And.intro (w_impl_areAll_int__jobCode_1 q3 k (by omega)) (And.intro (not_t h4) trivial)))) ?_
      kernel_rfl
  · replace h := Option.some.inj h
    obtain rfl := h
    refine pFun_by [.v (V.int .i64 (y1_0)), .b false, .b false] rfl (And.intro (w_impl_roofCode q1 k (by omega)) (And.intro h2 (And.intro (Eq.refl false) trivial))) ?_
    kernel_rfl
theorem w_impl_ladderCode {n : Nat} {a0 : Int} {a1 : Int} {a2 : Int} {a3 : Nat → Int} {a4 : List V} {a5 : Int} {a6 : List V} {z0 : Int} (h : s_impl_ladderCode n a0 a1 a2 a3 a4 a5 a6 = some z0) : ∀ k, n + 7 ≤ k → sem E k 148 [(V.parts [(V.int .i8 (a0)), (V.int .i8 (a1)), (V.int .u8 (a2)), (V.ints .u8 64 (a3))]), (V.sl (a4)), (V.int .i64 (a5)), (V.sl (a6))] = some (V.int .i64 (z0)) := by
  intro k hk
  obtain ⟨k, rfl⟩ : ∃ q, k = q + 1 := ⟨k - 1, by omega⟩
  unfold s_impl_ladderCode at h
  obtain ⟨y1_0, q1, h⟩ := bnd_some h
  rcases cnd_some h with ⟨h2, h⟩ | ⟨h2, h⟩
  · obtain ⟨y3_0, q3, h⟩ := bnd_some h
    rcases cnd_some h with ⟨h4, h⟩ | ⟨h4, h⟩
    · obtain ⟨y5_0, q5, h⟩ := bnd_some h
      obtain ⟨y6_0, q6, h⟩ := bnd_some h
      replace h := Option.some.inj h
      obtain rfl := h
      refine pFun_by [.v (V.bool (y1_0)), .b true, .v (V.bool (y3_0)), .b true, .v (V.bool (y5_0)), .v (V.int .i64 (y6_0))] rfl (And.intro (w_impl_areAll_int64__Roof_isCellNumber q1 k (by omega)) (And.intro h2 (And.intro (w_impl_isReach q3 k (by omega)) (And.intro h4 (And.intro (w_impl_areAll_impl_Place__Roof_has q5 k (by omega)) (And.intro (w_impl_jobCode q6 k (by omega)) (And.intro (Eq.refl true) trivial))))))) ?_
      kernel_rfl
    · obtain ⟨y7_0, q7, h⟩ := bnd_some h
      replace h := Option.some.inj h
      obtain rfl := h
      refine pFun_by [.v (V.bool (y1_0)), .b true, .v (V.bool (y3_0)), .b false, .v (V.int .i64 (y7_0))] rfl (And.intro (w_impl_areAll_int64__Roof_isCellNumber q1 k (by omega)) (And.intro h2 (And.intro (w_impl_isReach q3 k (by omega)) (And.intro h4 (And.intro (w_impl_jobCode q7 k (by omega)) (And.intro (Eq.refl true) trivial)))))) ?_
      kernel_rfl
  · obtain ⟨y8_0, q8, h⟩ := bnd_some h
    replace h := Option.some.inj h
    obtain rfl := h
    refine pFun_by [.v (V.bool (y1_0)), .b false, .b false, .v (V.int .i64 (y8_0))] rfl (And.intro (w_impl_areAll_int64__Roof_isCellNumber q1 k (by omega)) (And.intro h2 (And.intro (Eq.refl false) (And.intro (w_impl_jobCode q8 k (by omega)) (And.intro (Eq.refl true) trivial))))) ?_
    kernel_rfl
theorem w_impl_Roof_shift {n : Nat} {a0 : Int} {a1 : Int} {a2 : Int} {a3 : Nat → Int} {a4 : Int} {z0 : Int} (h : s_impl_Roof_shift n a0 a1 a2 a3 a4 = some z0) : ∀ k, n + 1 ≤ k → sem E k 171 [(V.parts [(V.int .i8 (a0)), (V.int .i8 (a1)), (V.int .u8 (a2)), (V.ints .u8 64 (a3))]), (V.int .i64 (a4))] = some (V.int .i64 (z0)) := by
  intro k hk
  obtain ⟨k, rfl⟩ : ∃ q, k = q + 1 := ⟨k - 1, by omega⟩
  unfold s_impl_Roof_shift at h
  replace h := Option.some.inj h
  obtain rfl := h
  refine pFun_by [] rfl (And.intro (Eq.refl true) trivial) ?_
  kernel_rfl
theorem w_impl_Roof_cellsOf {n : Nat} {a0 : Int} {a1 : Int} {a2 : Int} {a3 : Nat → Int} {a4 : Int} {a5 : Int} {z0 : List V} (h : s_impl_Roof_cellsOf n a0 a1 a2 a3 a4 a5 = some z0) : ∀ k, n + 2 ≤ k → sem E k 163 [(V.parts [(V.int .i8 (a0)), (V.int .i8 (a1)), (V.int .u8 (a2)), (V.ints .u8 64 (a3))]), (V.parts [(V.int .i8 (a4)), (V.int .i8 (a5))])] = some (V.fresh 3 (z0)) := by
  intro k hk
  obtain ⟨k, rfl⟩ : ∃ q, k = q + 1 := ⟨k - 1, by omega⟩
  unfold s_impl_Roof_cellsOf at h
  obtain ⟨y1_0, q1, h⟩ := bnd_some h
  replace h := Option.some.inj h
  obtain rfl := h
  refine pFun_by [.v (V.int .i64 (y1_0))] rfl (And.intro (w_impl_Roof_shift q1 k (by omega)) trivial) ?_
  kernel_rfl
theorem w_impl_Roof_reaches_1 {n : Nat} {a0 : Int} {a1 : Int} {a2 : Int} {z0 : Bool} (h : s_impl_Roof_reaches_1 n a0 a1 a2 = some z0) : ∀ k, n + 2 ≤ k → sem E k 265 [(V.int .i64 (a0)), (V.ref [(V.int .i64 (a1))] 0 (0) 1), (V.ref [(V.int .i64 (a2))] 0 (0) 1)] = some (V.bool (z0)) := by
  intro k hk
  obtain ⟨k, rfl⟩ : ∃ q, k = q + 1 := ⟨k - 1, by omega⟩
  unfold s_impl_Roof_reaches_1 at h
  obtain ⟨y1_0, q1, h⟩ := bnd_some h
  replace h := Option.some.inj h
  obtain rfl := h
  refine pFun_by [.v (V.bool (y1_0))] rfl (And.intro (w_impl_within_int64 q1 k (by omega)) trivial) ?_
  kernel_rfl
theorem lw_slices_IndexFunc_Sint_int__Roof_reaches_1_b0 : ∀ (n : Nat) (a0 : List V) (a1 : Int) (a2 : Int) (a3 : Int) (a4 : Int) (r : Sum (Unit) (Int)), l_slices_IndexFunc_Sint_int__Roof_reaches_1_b0 n a0 a1 a2 a3 a4 = some r → ∀ k m, n + 2 ≤ k → n ≤ m → LB E 260 0 k m ⟨[(0, (V.sl (a0))), (1, (V.clo 265 [(V.ref [(V.int .i64 (a1))] 0 (0) 1), (V.ref [(V.int .i64 (a2))] 0 (0) 1)])), (7, (V.int .i64 (a3))), (8, (V.int .i64 (a4)))], []⟩ = some (match r with | .inl _ => (.normal, ⟨[], []⟩) | .inr o0 => (.ret, ⟨[(4, (V.int .i64 (o0)))], []⟩)) := by
  intro n
  induction n with
  | zero => intro a0 a1 a2 a3 a4 r h; cases h
  | succ n ih =>
    intro a0 a1 a2 a3 a4 r h k m hk hm
    obtain ⟨m, rfl⟩ : ∃ q, m = q + 1 := ⟨m - 1, by omega⟩
    replace hk : n + 2 ≤ k := by omega
    unfold l_slices_IndexFunc_Sint_int__Roof_reaches_1_b0 at h
    rcases cnd_some h with ⟨h1, h⟩ | ⟨h1, h⟩
    · obtain ⟨e2_0, g2, h⟩ := bnd_some h
      replace g2 := as_i64_some g2
      obtain ⟨y3_0, q3, h⟩ := bnd_some h
      rcases cnd_some h with ⟨h4, h⟩ | ⟨h4, h⟩
      · cases h
        refine pLast_by [.b true, .v (V.int .i64 (e2_0)), .v (V.bool (y3_0)), .b true] (And.intro h1 (And.intro g2 (And.intro (w_impl_Roof_reaches_1 q3 k (by omega)) (And.intro h4 trivial)))) ?_
        kernel_rfl
      · refine pNext_by [.b true, .v (V.int .i64 (e2_0)), .v (V.bool (y3_0)), .b false] (And.intro h1 (And.intro g2 (And.intro (w_impl_Roof_reaches_1 q3 k (by omega)) (And.intro h4 trivial)))) (ih _ _ _ _ _ _ h k m hk (by omega)) ?_
        kernel_rfl
    · cases h
      refine pLast_by [.b false] (And.intro h1 trivial) ?_
      kernel_rfl
theorem w_slices_IndexFunc_Sint_int__Roof_reaches_1 {n : Nat} {a0 : List V} {a1 : Int} {a2 : Int} {z0 : Int} (h : s_slices_IndexFunc_Sint_int__Roof_reaches_1 n a0 a1 a2 = some z0) : ∀ k, n + 3 ≤ k → sem E k 260 [(V.sl (a0)), (V.clo 265 [(V.ref [(V.int .i64 (a1))] 0 (0) 1), (V.ref [(V.int .i64 (a2))] 0 (0) 1)])] = some (V.int .i64 (z0)) := by
  intro k hk
  obtain ⟨k, rfl⟩ : ∃ q, k = q + 1 := ⟨k - 1, by omega⟩
  unfold s_slices_IndexFunc_Sint_int__Roof_reaches_1 at h
  obtain ⟨w, l5, h⟩ := bnd_some h
  rcases w with ⟨⟩ | u6_0
  · replace h := Option.some.inj h
    obtain rfl := h
    refine pFun_by [.l .normal ⟨[], []⟩] rfl (And.intro (lw_slices_IndexFunc_Sint_int__Roof_reaches_1_b0 _ _ _ _ _ _ _ l5 k k (by omega) (by omega)) trivial) ?_
    kernel_rfl
  · replace h := Option.some.inj h
    obtain rfl := h
    refine pFun_by [.l .ret ⟨[(4, (V.int .i64 (u6_0)))], []⟩] rfl (And.intro (lw_slices_IndexFunc_Sint_int__Roof_reaches_1_b0 _ _ _ _ _ _ _ l5 k k (by omega) (by omega)) trivial) ?_
    kernel_rfl
theorem w_slices_ContainsFunc_Sint_int__Roof_reaches_1 {n : Nat} {a0 : List V} {a1 : Int} {a2 : Int} {z0 : Bool} (h : s_slices_ContainsFunc_Sint_int__Roof_reaches_1 n a0 a1 a2 = some z0) : ∀ k, n + 4 ≤ k → sem E k 238 [(V.sl (a0)), (V.clo 265 [(V.ref [(V.int .i64 (a1))] 0 (0) 1), (V.ref [(V.int .i64 (a2))] 0 (0) 1)])] = some (V.bool (z0)) := by
  intro k hk
  obtain ⟨k, rfl⟩ : ∃ q, k = q + 1 := ⟨k - 1, by omega⟩
  unfold s_slices_ContainsFunc_Sint_int__Roof_reaches_1 at h
  obtain ⟨y1_0, q1, h⟩ := bnd_some h
  replace h := Option.some.inj h
  obtain rfl := h
  refine pFun_by [.v (V.int .i64 (y1_0))] rfl (And.intro (w_slices_IndexFunc_Sint_int__Roof_reaches_1 q1 k (by omega)) trivial) ?_
  kernel_rfl
theorem w_impl_Roof_reaches {n : Nat} {a0 : Int} {a1 : Int} {a2 : Int} {a3 : Nat → Int} {a4 : Int} {a5 : Int} {a6 : Int} {a7 : Int} {z0 : Bool} (h : s_impl_Roof_reaches n a0 a1 a2 a3 a4 a5 a6 a7 = some z0) : ∀ k, n + 5 ≤ k → sem E k 250 [(V.parts [(V.int .i8 (a0)), (V.int .i8 (a1)), (V.int .u8 (a2)), (V.ints .u8 64 (a3))]), (V.int .i64 (a4)), (V.int .i64 (a5)), (V.parts [(V.int .i8 (a6)), (V.int .i8 (a7))])] = some (V.bool (z0)) := by
  intro k hk
  obtain ⟨k, rfl⟩ : ∃ q, k = q + 1 := ⟨k - 1, by omega⟩
  unfold s_impl_Roof_reaches at h
  obtain ⟨y1_0, q1, h⟩ := bnd_some h
  obtain ⟨y2_0, q2, h⟩ := bnd_some h
  replace h := Option.some.inj h
  obtain rfl := h
  refine pFun_by [.v (V.fresh 3 (y1_0)), .v (V.bool (y2_0))] rfl (And.intro (w_impl_Roof_cellsOf q1 k (by omega)) (And.intro (w_slices_ContainsFunc_Sint_int__Roof_reaches_1 q2 k (by omega)) (And.intro (Eq.refl true) trivial))) ?_
  kernel_rfl
theorem lw_impl_Roof_ladderOf_b0 : ∀ (n : Nat) (a0 : List V) (a1 : Int) (a2 : List V) (a3 : Int) (a4 : Int) (a5 : Int) (a6 : Int) (a7 : Int) (a8 : Nat → Int) (a9 : Int) (a10 : Int) (r : Sum (List V) (Int)), l_impl_Roof_ladderOf_b0 n a0 a1 a2 a3 a4 a5 a6 a7 a8 a9 a10 = some r → ∀ k m, n + 5 ≤ k → n ≤ m → LB E 220 0 k m ⟨[(1, (V.sl (a0))), (2, (V.int .i64 (a1))), (4, (V.ptr 9 0 (0) 67)), (7, (V.ptr 15 0 (0) 2)), (11, (V.sl (a2))), (12, (V.int .i64 (a3))), (13, (V.int .i64 (a4)))], [(9, .box [(V.int .i8 (a5)), (V.int .i8 (a6)), (V.int .u8 (a7)), (V.ints .u8 64 (a8))]), (15, .box [(V.int .i8 (a9)), (V.int .i8 (a10))])]⟩ = some (match r with | .inl o0 => (.normal, ⟨[(1, (V.sl (o0)))], []⟩) | .inr o0 => (.ret, ⟨[(8, (V.int .i64 (o0)))], []⟩)) := by
  intro n
  induction n with
  | zero => intro a0 a1 a2 a3 a4 a5 a6 a7 a8 a9 a10 r h; cases h
  | succ n ih =>
    intro a0 a1 a2 a3 a4 a5 a6 a7 a8 a9 a10 r h k m hk hm
    obtain ⟨m, rfl⟩ : ∃ q, m = q + 1 := ⟨m - 1, by omega⟩
    replace hk : n + 5 ≤ k := by omega
    unfold l_impl_Roof_ladderOf_b0 at h
    rcases cnd_some h with ⟨h1, h⟩ | ⟨h1, h⟩
    · obtain ⟨e2_0, g2, h⟩ := bnd_some h
      replace g2 := as_i64_some g2
      obtain ⟨y3_0, q3, h⟩ := bnd_some h
      rcases cnd_some h with ⟨h4, h⟩ | ⟨h4, h⟩
      · cases h
        refine pLast_by [.b true, .v (V.int .i64 (e2_0)), .v (V.bool (y3_0)), .b true] (And.intro h1 (And.intro g2 (And.intro (w_impl_Roof_reaches q3 k (by omega)) (And.intro h4 trivial)))) ?_
        kernel_rfl
      · refine pNext_by [.b true, .v (V.int .i64 (e2_0)), .v (V.bool (y3_0)), .b false] (And.intro h1 (And.intro g2 (And.intro (w_impl_Roof_reaches q3 k (by omega)) (And.intro h4 trivial)))) (ih _ _ _ _ _ _ _ _ _ _ _ _ h k m hk (by omega)) ?_
        kernel_rfl
    · cases h
      refine pLast_by [.b false] (And.intro h1 trivial) ?_
      kernel_rfl
theorem w_impl_Roof_ladderOf {n : Nat} {a0 : Int} {a1 : Int} {a2 : Int} {a3 : Nat → Int} {a4 : List V} {a5 : Int} {a6 : Int} {a7 : Int} {z0 : Int} (h : s_impl_Roof_ladderOf n a0 a1 a2 a3 a4 a5 a6 a7 = some z0) : ∀ k, n + 6 ≤ k → sem E k 220 [(V.parts [(V.int .i8 (a0)), (V.int .i8 (a1)), (V.int .u8 (a2)), (V.ints .u8 64 (a3))]), (V.sl (a4)), (V.int .i64 (a5)), (V.parts [(V.int .i8 (a6)), (V.int .i8 (a7))])] = some (V.int .i64 (z0)) := by
  intro k hk
  obtain ⟨k, rfl⟩ : ∃ q, k = q + 1 := ⟨k - 1, by omega⟩
  unfold s_impl_Roof_ladderOf at h
  obtain ⟨w, l5, h⟩ := bnd_some h
  rcases w with u5_0 | u6_0
  · replace h := Option.some.inj h
    obtain rfl := h
    refine pFun_by [.l .normal ⟨[(1, (V.sl (u5_0)))], []⟩] rfl (And.intro (lw_impl_Roof_ladderOf_b0 _ _ _ _ _ _ _ _ _ _ _ _ _ l5 k k (by omega) (by omega)) trivial) ?_
    kernel_rfl
  · replace h := Option.some.inj h
    obtain rfl := h
    refine pFun_by [.l .ret ⟨[(8, (V.int .i64 (u6_0)))], []⟩] rfl (And.intro (lw_impl_Roof_ladderOf_b0 _ _ _ _ _ _ _ _ _ _ _ _ _ l5 k k (by omega) (by omega)) trivial) ?_
    kernel_rfl
theorem w_impl_Roof_areReached_1 {n : Nat} {a0 : Int} {a1 : Int} {a2 : Int} {a3 : Int} {a4 : Int} {a5 : Nat → Int} {a6 : List V} {a7 : Int} {z0 : Bool} (h : s_impl_Roof_areReached_1 n a0 a1 a2 a3 a4 a5 a6 a7 = some z0) : ∀ k, n + 7 ≤ k → sem E k 251 [(V.parts [(V.int .i8 (a0)), (V.int .i8 (a1))]), (V.ref [(V.int .i8 (a2)), (V.int .i8 (a3)), (V.int .u8 (a4)), (V.ints .u8 64 (a5))] 0 (0) 67), (V.ref [(V.sl (a6))] 0 (0) 1), (V.ref [(V.int .i64 (a7))] 0 (0) 1)] = some (V.bool (z0)) := by
  intro k hk
  obtain ⟨k, rfl⟩ : ∃ q, k = q + 1 := ⟨k - 1, by omega⟩
  unfold s_impl_Roof_areReached_1 at h
  obtain ⟨y1_0, q1, h⟩ := bnd_some h
  replace h := Option.some.inj h
  obtain rfl := h
  refine pFun_by [.v (V.int .i64 (y1_0))] rfl (And.intro (w_impl_Roof_ladderOf q1 k (by omega)) trivial) ?_
  kernel_rfl
theorem w_impl_areAll_impl_Place_1__Roof_areReached_1 {n : Nat} {a0 : Int} {a1 : Int} {a2 : Int} {a3 : Int} {a4 : Int} {a5 : Nat → Int} {a6 : List V} {a7 : Int} {z0 : Bool} (h : s_impl_areAll_impl_Place_1__Roof_areReached_1 n a0 a1 a2 a3 a4 a5 a6 a7 = some z0) : ∀ k, n + 8 ≤ k → sem E k 211 [(V.parts [(V.int .i8 (a0)), (V.int .i8 (a1))]), (V.ref [(V.clo 251 [(V.ref [(V.int .i8 (a2)), (V.int .i8 (a3)), (V.int .u8 (a4)), (V.ints .u8 64 (a5))] 0 (0) 67), (V.ref [(V.sl (a6))] 0 (0) 1), (V.ref [(V.int .i64 (a7))] 0 (0) 1)])] 0 (0) 1)] = some (V.bool (z0)) := by
  intro k hk
  obtain ⟨k, rfl⟩ : ∃ q, k = q + 1 := ⟨k - 1, by omega⟩
  unfold s_impl_areAll_impl_Place_1__Roof_areReached_1 at h
  obtain ⟨y1_0, q1, h⟩ := bnd_some h
  replace h := Option.some.inj h
  obtain rfl := h
  refine pFun_by [.v (V.bool (y1_0))] rfl (And.intro (w_impl_Roof_areReached_1 q1 k (by omega)) trivial) ?_
  kernel_rfl
theorem lw_slices_IndexFunc_Simpl_Place_impl_Place__areAll_Place_1__Roof_areReached_1_b0 : ∀ (n : Nat) (a0 : List V) (a1 : Int) (a2 : Int) (a3 : Int) (a4 : Nat → Int) (a5 : List V) (a6 : Int) (a7 : Int) (a8 : Int) (r : Sum (Unit) (Int)), l_slices_IndexFunc_Simpl_Place_impl_Place__areAll_Place_1__Roof_areReached_1_b0 n a0 a1 a2 a3 a4 a5 a6 a7 a8 = some r → ∀ k m, n + 8 ≤ k → n ≤ m → LB E 244 0 k m ⟨[(0, (V.sl (a0))), (1, (V.clo 211 [(V.ref [(V.clo 251 [(V.ref [(V.int .i8 (a1)), (V.int .i8 (a2)), (V.int .u8 (a3)), (V.ints .u8 64 (a4))] 0 (0) 67), (V.ref [(V.sl (a5))] 0 (0) 1), (V.ref [(V.int .i64 (a6))] 0 (0) 1)])] 0 (0) 1)])), (7, (V.int .i64 (a7))), (8, (V.int .i64 (a8)))], []⟩ = some (match r with | .inl _ => (.normal, ⟨[], []⟩) | .inr o0 => (.ret, ⟨[(4, (V.int .i64 (o0)))], []⟩)) := by
  intro n
  induction n with
  | zero => intro a0 a1 a2 a3 a4 a5 a6 a7 a8 r h; cases h
  | succ n ih =>
    intro a0 a1 a2 a3 a4 a5 a6 a7 a8 r h k m hk hm
    obtain ⟨m, rfl⟩ : ∃ q, m = q + 1 := ⟨m - 1, by omega⟩
    replace hk : n + 8 ≤ k := by omega
    unfold l_slices_IndexFunc_Simpl_Place_impl_Place__areAll_Place_1__Roof_areReached_1_b0 at h
    rcases cnd_some h with ⟨h1, h⟩ | ⟨h1, h⟩
    · obtain ⟨⟨e2_0, e2_1⟩, g2, h⟩ := bnd_some h
      replace g2 := as_Pi8_i8Q_some g2
      obtain ⟨y3_0, q3, h⟩ := bnd_some h
      rcases cnd_some h with ⟨h4, h⟩ | ⟨h4, h⟩
      · cases h
        refine pLast_by [.b true, .v (V.parts [(V.int .i8 (e2_0)), (V.int .i8 (e2_1))]), .v (V.bool (y3_0)), .b true] (And.intro h1 (And.intro g2 (And.intro (w_impl_areAll_impl_Place_1__Roof_areReached_1 q3 k (by omega)) (And.intro h4 trivial)))) ?_
        kernel_rfl
      · refine pNext_by [.b true, .v (V.parts [(V.int .i8 (e2_0)), (V.int .i8 (e2_1))]), .v (V.bool (y3_0)), .b false] (And.intro h1 (And.intro g2 (And.intro (w_impl_areAll_impl_Place_1__Roof_areReached_1 q3 k (by omega)) (And.intro h4 trivial)))) (ih _ _ _ _ _ _ _ _ _ _ h k m hk (by omega)) ?_
        kernel_rfl
    · cases h
      refine pLast_by [.b false] (And.intro h1 trivial) ?_
      kernel_rfl
theorem w_slices_IndexFunc_Simpl_Place_impl_Place__areAll_Place_1__Roof_areReached_1 {n : Nat} {a0 : List V} {a1 : Int} {a2 : Int} {a3 : Int} {a4 : Nat → Int} {a5 : List V} {a6 : Int} {z0 : Int} (h : s_slices_IndexFunc_Simpl_Place_impl_Place__areAll_Place_1__Roof_areReached_1 n a0 a1 a2 a3 a4 a5 a6 = some z0) : ∀ k, n + 9 ≤ k → sem E k 244 [(V.sl (a0)), (V.clo 211 [(V.ref [(V.clo 251 [(V.ref [(V.int .i8 (a1)), (V.int .i8 (a2)), (V.int .u8 (a3)), (V.ints .u8 64 (a4))] 0 (0) 67), (V.ref [(V.sl (a5))] 0 (0) 1), (V.ref [(V.int .i64 (a6))] 0 (0) 1)])] 0 (0) 1)])] = some (V.int .i64 (z0)) := by
  intro k hk
  obtain ⟨k, rfl⟩ : ∃ q, k = q + 1 := ⟨k - 1, by omega⟩
  unfold s_slices_IndexFunc_Simpl_Place_impl_Place__areAll_Place_1__Roof_areReached_1 at h
  obtain ⟨w, l5, h⟩ := bnd_some h
  rcases w with ⟨⟩ | u6_0
  · replace h := Option.some.inj h
    obtain rfl := h
    refine pFun_by [.l .normal ⟨[], []⟩] rfl (And.intro (lw_slices_IndexFunc_Simpl_Place_impl_Place__areAll_Place_1__Roof_areReached_1_b0 _ _ _ _ _ _ _ _ _ _ _ l5 k k (by omega) (by omega)) trivial) ?_
    kernel_rfl
  · replace h := Option.some.inj h
    obtain rfl := h
    refine pFun_by [.l .ret ⟨[(4, (V.int .i64 (u6_0)))], []⟩] rfl (And.intro (lw_slices_IndexFunc_Simpl_Place_impl_Place__areAll_Place_1__Roof_areReached_1_b0 _ _ _ _ _ _ _ _ _ _ _ l5 k k (by omega) (by omega)) trivial) ?_
    kernel_rfl
theorem w_slices_ContainsFunc_Simpl_Place_impl_Place__areAll_Place_1__Roof_areReached_1 {n : Nat} {a0 : List V} {a1 : Int} {a2 : Int} {a3 : Int} {a4 : Nat → Int} {a5 : List V} {a6 : Int} {z0 : Bool} (h : s_slices_ContainsFunc_Simpl_Place_impl_Place__areAll_Place_1__Roof_areReached_1 n a0 a1 a2 a3 a4 a5 a6 = some z0) : ∀ k, n + 10 ≤ k → sem E k 210 [(V.sl (a0)), (V.clo 211 [(V.ref [(V.clo 251 [(V.ref [(V.int .i8 (a1)), (V.int .i8 (a2)), (V.int .u8 (a3)), (V.ints .u8 64 (a4))] 0 (0) 67), (V.ref [(V.sl (a5))] 0 (0) 1), (V.ref [(V.int .i64 (a6))] 0 (0) 1)])] 0 (0) 1)])] = some (V.bool (z0)) := by
  intro k hk
  obtain ⟨k, rfl⟩ : ∃ q, k = q + 1 := ⟨k - 1, by omega⟩
  unfold s_slices_ContainsFunc_Simpl_Place_impl_Place__areAll_Place_1__Roof_areReached_1 at h
  obtain ⟨y1_0, q1, h⟩ := bnd_some h
  replace h := Option.some.inj h
  obtain rfl := h
  refine pFun_by [.v (V.int .i64 (y1_0))] rfl (And.intro (w_slices_IndexFunc_Simpl_Place_impl_Place__areAll_Place_1__Roof_areReached_1 q1 k (by omega)) trivial) ?_
  kernel_rfl
theorem w_impl_areAll_impl_Place__Roof_areReached_1 {n : Nat} {a0 : List V} {a1 : Int} {a2 : Int} {a3 : Int} {a4 : Nat → Int} {a5 : List V} {a6 : Int} {z0 : Bool} (h : s_impl_areAll_impl_Place__Roof_areReached_1 n a0 a1 a2 a3 a4 a5 a6 = some z0) : ∀ k, n + 11 ≤ k → sem E k 139 [(V.sl (a0)), (V.clo 251 [(V.ref [(V.int .i8 (a1)), (V.int .i8 (a2)), (V.int .u8 (a3)), (V.ints .u8 64 (a4))] 0 (0) 67), (V.ref [(V.sl (a5))] 0 (0) 1), (V.ref [(V.int .i64 (a6))] 0 (0) 1)])] = some (V.bool (z0)) := by
  intro k hk
  obtain ⟨k, rfl⟩ : ∃ q, k = q + 1 := ⟨k - 1, by omega⟩
  unfold s_impl_areAll_impl_Place__Roof_areReached_1 at h
  obtain ⟨y1_0, q1, h⟩ := bnd_some h
  replace h := Option.some.inj h
  obtain rfl := h
  refine pFun_by [.v (V.bool (y1_0))] rfl (And.intro (w_slices_ContainsFunc_Simpl_Place_impl_Place__areAll_Place_1__Roof_areReached_1 q1 k (by omega)) (And.intro (Eq.refl true) trivial)) ?_
  kernel_rfl
theorem w_impl_Roof_areReached {n : Nat} {a0 : Int} {a1 : Int} {a2 : Int} {a3 : Nat → Int} {a4 : List V} {a5 : Int} {a6 : List V} {z0 : Bool} (h : s_impl_Roof_areReached n a0 a1 a2 a3 a4 a5 a6 = some z0) : ∀ k, n + 12 ≤ k → sem E k 223 [(V.parts [(V.int .i8 (a0)), (V.int .i8 (a1)), (V.int .u8 (a2)), (V.ints .u8 64 (a3))]), (V.sl (a4)), (V.int .i64 (a5)), (V.sl (a6))] = some (V.bool (z0)) := by
  intro k hk
  obtain ⟨k, rfl⟩ : ∃ q, k = q + 1 := ⟨k - 1, by omega⟩
  unfold s_impl_Roof_areReached at h
  obtain ⟨y1_0, q1, h⟩ := bnd_some h
  replace h := Option.some.inj h
  obtain rfl := h
  refine pFun_by [.v (V.bool (y1_0))] rfl (And.intro (w_impl_areAll_impl_Place__Roof_areReached_1 q1 k (by omega)) (And.intro (Eq.refl true) trivial)) ?_
  kernel_rfl
theorem w_slices_Clone_Sint64_int64 {n : Nat} {a0 : List V} {z0 : List V} (h : s_slices_Clone_Sint64_int64 n a0 = some z0) : ∀ k, n + 1 ≤ k → sem E k 224 [V.sl a0] = some (V.fresh 2 z0) := by
  intro k hk
  obtain ⟨k, rfl⟩ : ∃ q, k = q + 1 := ⟨k - 1, by omega⟩
  unfold s_slices_Clone_Sint64_int64 at h
  obtain ⟨c1, h⟩ := chk_some h
  obtain ⟨c2, h⟩ := chk_some h
  replace h := Option.some.inj h
  obtain rfl := h
  cases a0 with
  | nil =>
    refine pCl_by rfl (And.intro (Eq.refl false) (And.intro c1 (And.intro c2 (And.intro (Eq.refl true) trivial)))) ?_
    kernel_rfl
  | cons x l =>
    refine pCl_by rfl (And.intro (Eq.refl false) (And.intro c1 (And.intro c2 (And.intro (Eq.refl true) trivial)))) ?_
    kernel_rfl
theorem lw_impl_Roof_ladders_b0 {self : (Int) → (Int) → (Int) → (Nat → Int) → (List V) → (Int) → (Int) → (List V) → Option (List V × Bool)} {K : Nat} (hself : ∀ {a0 : Int} {a1 : Int} {a2 : Int} {a3 : Nat → Int} {a4 : List V} {a5 : Int} {a6 : Int} {a7 : List V} {z0 : List V} {z1 : Bool}, self a0 a1 a2 a3 a4 a5 a6 a7 = some (z0, z1) → ∀ k, K ≤ k → sem E k (mvBase + 154) [(V.parts [(V.int .i8 (a0)), (V.int .i8 (a1)), (V.int .u8 (a2)), (V.ints .u8 64 (a3))]), (V.fresh 2 (a4)), (V.int .i64 (a5)), (V.int .i64 (a6)), (V.sl (a7))] = some (V.tup [(V.fresh 2 (z0)), (V.bool (z1))])) : ∀ (n : Nat) (a0 : Int) (a1 : Int) (a2 : List V) (a3 : Int) (a4 : List V) (a5 : Int) (a6 : Int) (a7 : Int) (a8 : Nat → Int) (r : Sum (Unit) (Bool × List V)), l_impl_Roof_ladders_b0 self n a0 a1 a2 a3 a4 a5 a6 a7 a8 = some r → ∀ k m, n + 1 ≤ k → n ≤ m → K ≤ k → LB E 154 0 k m ⟨[(1, (V.row 3)), (2, (V.int .i64 (a0))), (3, (V.int .i64 (a1))), (4, (V.sl (a2))), (5, (V.ptr 11 0 (0) 67)), (13, (V.int .i64 (a3)))], [(3, .row 2 (a4)), (11, .box [(V.int .i8 (a5)), (V.int .i8 (a6)), (V.int .u8 (a7)), (V.ints .u8 64 (a8))])]⟩ = some (match r with | .inl _ => (.normal, ⟨[], []⟩) | .inr (o0, o1) => (.ret, ⟨[(10, (V.row 21)), (11, (V.bool (o0)))], [(21, .row 2 (o1))]⟩)) := by
  intro n
  induction n with
  | zero => intro a0 a1 a2 a3 a4 a5 a6 a7 a8 r h; cases h
  | succ n ih =>
    intro a0 a1 a2 a3 a4 a5 a6 a7 a8 r h k m hk hm hK
    obtain ⟨m, rfl⟩ : ∃ q, m = q + 1 := ⟨m - 1, by omega⟩
    replace hk : n + 1 ≤ k := by omega
    unfold l_impl_Roof_ladders_b0 at h
    obtain ⟨y6_0, q6, h⟩ := bnd_some h
    rcases cnd_some h with ⟨h7, h⟩ | ⟨h7, h⟩
    · obtain ⟨y8_0, q8, h⟩ := bnd_some h
      obtain ⟨c9, h⟩ := chk_some h
      obtain ⟨c10, h⟩ := chk_some h
      obtain ⟨c12, h⟩ := chk_some h
      obtain ⟨⟨y11_0, y11_1⟩, q11, h⟩ := bnd_some h
      obtain ⟨c13, h⟩ := chk_some h
      rcases cnd_some h with ⟨h14, h⟩ | ⟨h14, h⟩
      · cases h
        refine pLast_by [.v (V.int .i64 (y6_0)), .b true, .v (V.fresh 2 (y8_0)), .v (V.tup [(V.fresh 2 (y11_0)), (V.bool (y11_1))]), .b true] (And.intro (w_impl_Roof_cells q6 k (by omega)) (And.intro h7 (And.intro (w_slices_Clone_Sint64_int64 q8 k (by omega)) (And.intro c9 (And.intro c10 (And.intro (Eq.refl true) (And.intro c12 (And.intro (hself q11 k (by omega)) (And.intro c13 (And.intro h14 trivial)))))))))) ?_
        kernel_rfl
      · refine pNext_by [.v (V.int .i64 (y6_0)), .b true, .v (V.fresh 2 (y8_0)), .v (V.tup [(V.fresh 2 (y11_0)), (V.bool (y11_1))]), .b false] (And.intro (w_impl_Roof_cells q6 k (by omega)) (And.intro h7 (And.intro (w_slices_Clone_Sint64_int64 q8 k (by omega)) (And.intro c9 (And.intro c10 (And.intro (Eq.refl true) (And.intro c12 (And.intro (hself q11 k (by omega)) (And.intro c13 (And.intro h14 trivial)))))))))) (ih _ _ _ _ _ _ _ _ _ _ h k m hk (by omega) hK) ?_
        kernel_rfl
    · cases h
      refine pLast_by [.v (V.int .i64 (y6_0)), .b false] (And.intro (w_impl_Roof_cells q6 k (by omega)) (And.intro h7 trivial)) ?_
      kernel_rfl
theorem w_impl_Roof_ladders {n : Nat} {a0 : Int} {a1 : Int} {a2 : Int} {a3 : Nat → Int} {a4 : List V} {a5 : Int} {a6 : Int} {a7 : List V} {z0 : List V} {z1 : Bool} (h : s_impl_Roof_ladders n a0 a1 a2 a3 a4 a5 a6 a7 = some (z0, z1)) : ∀ k, n + 13 ≤ k → sem E k (mvBase + 154) [(V.parts [(V.int .i8 (a0)), (V.int .i8 (a1)), (V.int .u8 (a2)), (V.ints .u8 64 (a3))]), (V.fresh 2 (a4)), (V.int .i64 (a5)), (V.int .i64 (a6)), (V.sl (a7))] = some (V.tup [(V.fresh 2 (z0)), (V.bool (z1))]) := by
  induction n generalizing a0 a1 a2 a3 a4 a5 a6 a7 z0 z1 with
  | zero => cases h
  | succ n ih =>
    intro k hk
    obtain ⟨k, rfl⟩ : ∃ q, k = q + 1 := ⟨k - 1, by omega⟩
    replace hk : n + 13 ≤ k := by omega
    unfold s_impl_Roof_ladders at h
    rcases cnd_some h with ⟨h1, h⟩ | ⟨h1, h⟩
    · obtain ⟨y2_0, q2, h⟩ := bnd_some h
      simp only [Option.some.injEq, Prod.mk.injEq] at h
      obtain ⟨rfl, rfl⟩ := h
      refine pMv_by [.b true, .v (V.bool (y2_0))] rfl rfl rfl (And.intro h1 (And.intro (w_impl_Roof_areReached q2 k (by omega)) (And.intro (Eq.refl true) trivial))) ?_
      kernel_rfl
    · rcases cnd_some h with ⟨h3, h⟩ | ⟨h3, h⟩
      · obtain ⟨c4, h⟩ := chk_some h
        obtain ⟨e5_0, g5, h⟩ := bnd_some h
        replace g5 := as_i64_some g5
        obtain ⟨w, l15, h⟩ := bnd_some h
        rcases w with ⟨⟩ | ⟨u16_0, u16_1⟩
        · simp only [Option.some.injEq, Prod.mk.injEq] at h
          obtain ⟨rfl, rfl⟩ := h
          refine pMv_by [.b false, .b true, .v (V.int .i64 (e5_0)), .l .normal ⟨[], []⟩] rfl rfl rfl (And.intro h1 (And.intro h3 (And.intro c4 (And.intro g5 (And.intro (lw_impl_Roof_ladders_b0 ih _ _ _ _ _ _ _ _ _ _ _ l15 k k (by omega) (by omega) (by omega)) trivial))))) ?_
          kernel_rfl
        · simp only [Option.some.injEq, Prod.mk.injEq] at h
          obtain ⟨rfl, rfl⟩ := h
          refine pMv_by [.b false, .b true, .v (V.int .i64 (e5_0)), .l .ret ⟨[(10, (V.row 21)), (11, (V.bool (u16_0)))], [(21, .row 2 (u16_1))]⟩] rfl rfl rfl (And.intro h1 (And.intro h3 (And.intro c4 (And.intro g5 (And.intro (lw_impl_Roof_ladders_b0 ih _ _ _ _ _ _ _ _ _ _ _ l15 k k (by omega) (by omega) (by omega)) trivial))))) ?_
          kernel_rfl
      · obtain ⟨w, l18, h⟩ := bnd_some h
        rcases w with ⟨⟩ | ⟨u19_0, u19_1⟩
        · simp only [Option.some.injEq, Prod.mk.injEq] at h
          obtain ⟨rfl, rfl⟩ := h
          refine pMv_by [.b false, .b false, .l .normal ⟨[], []⟩] rfl rfl rfl (And.intro h1 (And.intro h3 (And.intro (lw_impl_Roof_ladders_b0 ih _ _ _ _ _ _ _ _ _ _ _ l18 k k (by omega) (by omega) (by omega)) trivial))) ?_
          kernel_rfl
        · simp only [Option.some.injEq, Prod.mk.injEq] at h
          obtain ⟨rfl, rfl⟩ := h
          refine pMv_by [.b false, .b false, .l .ret ⟨[(10, (V.row 21)), (11, (V.bool (u19_0)))], [(21, .row 2 (u19_1))]⟩] rfl rfl rfl (And.intro h1 (And.intro h3 (And.intro (lw_impl_Roof_ladders_b0 ih _ _ _ _ _ _ _ _ _ _ _ l18 k k (by omega) (by omega) (by omega)) trivial))) ?_
          kernel_rfl
theorem lw_impl_FewestLadders_b0 : ∀ (n : Nat) (a0 : Int) (a1 : List V) (a2 : Int) (a3 : Int) (a4 : Int) (a5 : Int) (a6 : Nat → Int) (r : Int × List V), l_impl_FewestLadders_b0 n a0 a1 a2 a3 a4 a5 a6 = some r → ∀ k m, n + 13 ≤ k → n ≤ m → LB E 63 0 k m ⟨[(1, (V.int .i64 (a0))), (2, (V.sl (a1))), (3, (V.ptr 7 0 (0) 67)), (9, (V.int .i64 (a2)))], [(7, .box [(V.int .i8 (a3)), (V.int .i8 (a4)), (V.int .u8 (a5)), (V.ints .u8 64 (a6))])]⟩ = some (match r with | (o0, o1) => (.ret, ⟨[(6, (V.row 13)), (7, (V.int .i64 (o0)))], [(13, .row 2 (o1))]⟩)) := by
  intro n
  induction n with
  | zero => intro a0 a1 a2 a3 a4 a5 a6 r h; cases h
  | succ n ih =>
    intro a0 a1 a2 a3 a4 a5 a6 r h k m hk hm
    obtain ⟨m, rfl⟩ : ∃ q, m = q + 1 := ⟨m - 1, by omega⟩
    replace hk : n + 13 ≤ k := by omega
    unfold l_impl_FewestLadders_b0 at h
    obtain ⟨⟨y3_0, y3_1⟩, q3, h⟩ := bnd_some h
    obtain ⟨c4, h⟩ := chk_some h
    rcases cnd_some h with ⟨h5, h⟩ | ⟨h5, h⟩
    · cases h
      refine pLast_by [.v (V.tup [(V.fresh 2 (y3_0)), (V.bool (y3_1))]), .b true] (And.intro (Eq.refl true) (And.intro (w_impl_Roof_ladders q3 k (by omega)) (And.intro c4 (And.intro h5 trivial)))) ?_
      kernel_rfl
    · refine pNext_by [.v (V.tup [(V.fresh 2 (y3_0)), (V.bool (y3_1))]), .b false] (And.intro (Eq.refl true) (And.intro (w_impl_Roof_ladders q3 k (by omega)) (And.intro c4 (And.intro h5 trivial)))) (ih _ _ _ _ _ _ _ _ h k m hk (by omega)) ?_
      kernel_rfl
theorem w_impl_FewestLadders {n : Nat} {a0 : Int} {a1 : Int} {a2 : Int} {a3 : Nat → Int} {a4 : Int} {a5 : List V} {z0 : List V} {z1 : Int} (h : s_impl_FewestLadders n a0 a1 a2 a3 a4 a5 = some (z0, z1)) : ∀ k, n + 14 ≤ k → sem E k 63 [(V.parts [(V.int .i8 (a0)), (V.int .i8 (a1)), (V.int .u8 (a2)), (V.ints .u8 64 (a3))]), (V.int .i64 (a4)), (V.sl (a5))] = some (V.tup [(V.fresh 2 (z0)), (V.int .i64 (z1))]) := by
  intro k hk
  obtain ⟨k, rfl⟩ : ∃ q, k = q + 1 := ⟨k - 1, by omega⟩
  unfold s_impl_FewestLadders at h
  obtain ⟨y1_0, q1, h⟩ := bnd_some h
  rcases cnd_some h with ⟨h2, h⟩ | ⟨h2, h⟩
  · obtain ⟨⟨u6_0, u6_1⟩, l6, h⟩ := bnd_some h
    simp only [Option.some.injEq, Prod.mk.injEq] at h
    obtain ⟨rfl, rfl⟩ := h
    refine pFun_by [.v (V.int .i64 (y1_0)), .b false, .l .ret ⟨[(6, (V.row 13)), (7, (V.int .i64 (u6_0)))], [(13, .row 2 (u6_1))]⟩] rfl (And.intro (w_impl_ladderCode q1 k (by omega)) (And.intro (not_f h2) (And.intro (lw_impl_FewestLadders_b0 _ _ _ _ _ _ _ _ _ l6 k k (by omega) (by omega)) trivial))) ?_
    kernel_rfl
  · simp only [Option.some.injEq, Prod.mk.injEq] at h
    obtain ⟨rfl, rfl⟩ := h
    refine pFun_by [.v (V.int .i64 (y1_0)), .b true] rfl (And.intro (w_impl_ladderCode q1 k (by omega)) (And.intro (not_t h2) trivial)) ?_
    kernel_rfl
theorem lw_laws_eqInt64S_b0 : ∀ (n : Nat) (a0 : List V) (a1 : List V) (a2 : Int) (r : Sum (Unit) (Bool)), l_laws_eqInt64S_b0 n a0 a1 a2 = some r → ∀ k m, n + 0 ≤ k → n ≤ m → LB E 33 0 k m ⟨[(0, (V.sl (a0))), (1, (V.sl (a1))), (5, (V.int .i64 (a2)))], []⟩ = some (match r with | .inl _ => (.normal, ⟨[], []⟩) | .inr o0 => (.ret, ⟨[(4, (V.bool (o0)))], []⟩)) := by
  intro n
  induction n with
  | zero => intro a0 a1 a2 r h; cases h
  | succ n ih =>
    intro a0 a1 a2 r h k m hk hm
    obtain ⟨m, rfl⟩ : ∃ q, m = q + 1 := ⟨m - 1, by omega⟩
    replace hk : n + 0 ≤ k := by omega
    unfold l_laws_eqInt64S_b0 at h
    rcases cnd_some h with ⟨h2, h⟩ | ⟨h2, h⟩
    · obtain ⟨e3_0, g3, h⟩ := bnd_some h
      replace g3 := as_i64_some g3
      obtain ⟨e4_0, g4, h⟩ := bnd_some h
      replace g4 := as_i64_some g4
      rcases cnd_some h with ⟨h5, h⟩ | ⟨h5, h⟩
      · refine pNext_by [.b true, .v (V.int .i64 (e3_0)), .v (V.int .i64 (e4_0)), .b false] (And.intro h2 (And.intro g3 (And.intro g4 (And.intro (not_f h5) trivial)))) (ih _ _ _ _ h k m hk (by omega)) ?_
        kernel_rfl
      · cases h
        refine pLast_by [.b true, .v (V.int .i64 (e3_0)), .v (V.int .i64 (e4_0)), .b true] (And.intro h2 (And.intro g3 (And.intro g4 (And.intro (not_t h5) trivial)))) ?_
        kernel_rfl
    · cases h
      refine pLast_by [.b false] (And.intro h2 trivial) ?_
      kernel_rfl
theorem w_laws_eqInt64S {n : Nat} {a0 : List V} {a1 : List V} {z0 : Bool} (h : s_laws_eqInt64S n a0 a1 = some z0) : ∀ k, n + 1 ≤ k → sem E k 33 [(V.sl (a0)), (V.sl (a1))] = some (V.bool (z0)) := by
  intro k hk
  obtain ⟨k, rfl⟩ : ∃ q, k = q + 1 := ⟨k - 1, by omega⟩
  unfold s_laws_eqInt64S at h
  rcases cnd_some h with ⟨h1, h⟩ | ⟨h1, h⟩
  · obtain ⟨w, l6, h⟩ := bnd_some h
    rcases w with ⟨⟩ | u7_0
    · replace h := Option.some.inj h
      obtain rfl := h
      refine pFun_by [.b false, .l .normal ⟨[], []⟩] rfl (And.intro (not_f h1) (And.intro (lw_laws_eqInt64S_b0 _ _ _ _ _ l6 k k (by omega) (by omega)) trivial)) ?_
      kernel_rfl
    · replace h := Option.some.inj h
      obtain rfl := h
      refine pFun_by [.b false, .l .ret ⟨[(4, (V.bool (u7_0)))], []⟩] rfl (And.intro (not_f h1) (And.intro (lw_laws_eqInt64S_b0 _ _ _ _ _ l6 k k (by omega) (by omega)) trivial)) ?_
      kernel_rfl
  · replace h := Option.some.inj h
    obtain rfl := h
    refine pFun_by [.b true] rfl (And.intro (not_t h1) trivial) ?_
    kernel_rfl
theorem w_laws_eqPlace {n : Nat} {a0 : Int} {a1 : Int} {a2 : Int} {a3 : Int} {z0 : Bool} (h : s_laws_eqPlace n a0 a1 a2 a3 = some z0) : ∀ k, n + 1 ≤ k → sem E k 141 [(V.parts [(V.int .i8 (a0)), (V.int .i8 (a1))]), (V.parts [(V.int .i8 (a2)), (V.int .i8 (a3))])] = some (V.bool (z0)) := by
  intro k hk
  obtain ⟨k, rfl⟩ : ∃ q, k = q + 1 := ⟨k - 1, by omega⟩
  unfold s_laws_eqPlace at h
  rcases cnd_some h with ⟨h1, h⟩ | ⟨h1, h⟩
  · rcases cnd_some h with ⟨h2, h⟩ | ⟨h2, h⟩
    · replace h := Option.some.inj h
      obtain rfl := h
      refine pFun_by [.b false, .b false] rfl (And.intro (not_f h1) (And.intro (not_f h2) trivial)) ?_
      kernel_rfl
    · replace h := Option.some.inj h
      obtain rfl := h
      refine pFun_by [.b false, .b true] rfl (And.intro (not_f h1) (And.intro (not_t h2) trivial)) ?_
      kernel_rfl
  · replace h := Option.some.inj h
    obtain rfl := h
    refine pFun_by [.b true] rfl (And.intro (not_t h1) trivial) ?_
    kernel_rfl
theorem lw_laws_eqPlaceS_b0 : ∀ (n : Nat) (a0 : List V) (a1 : List V) (a2 : Int) (r : Sum (Unit) (Bool)), l_laws_eqPlaceS_b0 n a0 a1 a2 = some r → ∀ k m, n + 1 ≤ k → n ≤ m → LB E 54 0 k m ⟨[(0, (V.sl (a0))), (1, (V.sl (a1))), (5, (V.int .i64 (a2)))], []⟩ = some (match r with | .inl _ => (.normal, ⟨[], []⟩) | .inr o0 => (.ret, ⟨[(4, (V.bool (o0)))], []⟩)) := by
  intro n
  induction n with
  | zero => intro a0 a1 a2 r h; cases h
  | succ n ih =>
    intro a0 a1 a2 r h k m hk hm
    obtain ⟨m, rfl⟩ : ∃ q, m = q + 1 := ⟨m - 1, by omega⟩
    replace hk : n + 1 ≤ k := by omega
    unfold l_laws_eqPlaceS_b0 at h
    rcases cnd_some h with ⟨h2, h⟩ | ⟨h2, h⟩
    · obtain ⟨⟨e3_0, e3_1⟩, g3, h⟩ := bnd_some h
      replace g3 := as_Pi8_i8Q_some g3
      obtain ⟨⟨e4_0, e4_1⟩, g4, h⟩ := bnd_some h
      replace g4 := as_Pi8_i8Q_some g4
      obtain ⟨y5_0, q5, h⟩ := bnd_some h
      rcases cnd_some h with ⟨h6, h⟩ | ⟨h6, h⟩
      · refine pNext_by [.b true, .v (V.parts [(V.int .i8 (e3_0)), (V.int .i8 (e3_1))]), .v (V.parts [(V.int .i8 (e4_0)), (V.int .i8 (e4_1))]), .v (V.bool (y5_0)), .b false] (And.intro h2 (And.intro g3 (And.intro g4 (And.intro (w_laws_eqPlace q5 k (by omega)) (And.intro (not_f h6) trivial))))) (ih _ _ _ _ h k m hk (by omega)) ?_
        kernel_rfl
      · cases h
        refine pLast_by [.b true, .v (V.parts [(V.int .i8 (e3_0)), (V.int .i8 (e3_1))]), .v (V.parts [(V.int .i8 (e4_0)), (V.int .i8 (e4_1))]), .v (V.bool (y5_0)), .b true] (And.intro h2 (And.intro g3 (And.intro g4 (And.intro (w_laws_eqPlace q5 k (by omega)) (And.intro (not_t h6) trivial))))) ?_
        kernel_rfl
    · cases h
      refine pLast_by [.b false] (And.intro h2 trivial) ?_
      kernel_rfl
theorem w_laws_eqPlaceS {n : Nat} {a0 : List V} {a1 : List V} {z0 : Bool} (h : s_laws_eqPlaceS n a0 a1 = some z0) : ∀ k, n + 2 ≤ k → sem E k 54 [(V.sl (a0)), (V.sl (a1))] = some (V.bool (z0)) := by
  intro k hk
  obtain ⟨k, rfl⟩ : ∃ q, k = q + 1 := ⟨k - 1, by omega⟩
  unfold s_laws_eqPlaceS at h
  rcases cnd_some h with ⟨h1, h⟩ | ⟨h1, h⟩
  · obtain ⟨w, l7, h⟩ := bnd_some h
    rcases w with ⟨⟩ | u8_0
    · replace h := Option.some.inj h
      obtain rfl := h
      refine pFun_by [.b false, .l .normal ⟨[], []⟩] rfl (And.intro (not_f h1) (And.intro (lw_laws_eqPlaceS_b0 _ _ _ _ _ l7 k k (by omega) (by omega)) trivial)) ?_
      kernel_rfl
    · replace h := Option.some.inj h
      obtain rfl := h
      refine pFun_by [.b false, .l .ret ⟨[(4, (V.bool (u8_0)))], []⟩] rfl (And.intro (not_f h1) (And.intro (lw_laws_eqPlaceS_b0 _ _ _ _ _ l7 k k (by omega) (by omega)) trivial)) ?_
      kernel_rfl
  · replace h := Option.some.inj h
    obtain rfl := h
    refine pFun_by [.b true] rfl (And.intro (not_t h1) trivial) ?_
    kernel_rfl
theorem lw_laws_markPlaceS_b0 : ∀ (n : Nat) (a0 : Int) (a1 : Int) (a2 : List V) (r : Int × List V), l_laws_markPlaceS_b0 n a0 a1 a2 = some r → ∀ k m, n + 0 ≤ k → n ≤ m → LB E 60 0 k m ⟨[(0, (V.row 1)), (1, (V.int .i64 (a0))), (5, (V.int .i64 (a1)))], [(1, .row 79 (a2))]⟩ = some (match r with | (o0, o1) => (.normal, ⟨[(0, (V.row 1)), (1, (V.int .i64 (o0)))], [(1, .row 79 (o1))]⟩)) := by
  intro n
  induction n with
  | zero => intro a0 a1 a2 r h; cases h
  | succ n ih =>
    intro a0 a1 a2 r h k m hk hm
    obtain ⟨m, rfl⟩ : ∃ q, m = q + 1 := ⟨m - 1, by omega⟩
    replace hk : n + 0 ≤ k := by omega
    unfold l_laws_markPlaceS_b0 at h
    rcases cnd_some h with ⟨h1, h⟩ | ⟨h1, h⟩
    · obtain ⟨c2, h⟩ := chk_some h
      obtain ⟨⟨e3_0, e3_1⟩, g3, h⟩ := bnd_some h
      replace g3 := as_Pi8_i8Q_some g3
      obtain ⟨⟨e4_0, e4_1⟩, g4, h⟩ := bnd_some h
      replace g4 := as_Pi8_i8Q_some g4
      obtain ⟨c5, h⟩ := chk_some h
      obtain ⟨⟨e6_0, e6_1⟩, g6, h⟩ := bnd_some h
      replace g6 := as_Pi8_i8Q_some g6
      obtain ⟨⟨e7_0, e7_1⟩, g7, h⟩ := bnd_some h
      replace g7 := as_Pi8_i8Q_some g7
      refine pNext_by [.b true, .v (V.parts [(V.int .i8 (e3_0)), (V.int .i8 (e3_1))]), .v (V.parts [(V.int .i8 (e4_0)), (V.int .i8 (e4_1))]), .v (V.parts [(V.int .i8 (e6_0)), (V.int .i8 (e6_1))]), .v (V.parts [(V.int .i8 (e7_0)), (V.int .i8 (e7_1))])] (And.intro h1 (And.intro c2 (And.intro g3 (And.intro g4 (And.intro c5 (And.intro g6 (And.intro g7 trivial))))))) (ih _ _ _ _ h k m hk (by omega)) ?_
      kernel_rfl
    · cases h
      refine pLast_by [.b false] (And.intro h1 trivial) ?_
      kernel_rfl
theorem w_laws_markPlaceS {n : Nat} {a0 : List V} {a1 : Int} {z0 : Int} {z1 : List V} (h : s_laws_markPlaceS n a0 a1 = some (z0, z1)) : ∀ k, n + 1 ≤ k → sem E k (muBase + 60) [(V.fresh 79 (a0)), (V.int .i64 (a1))] = some (V.tup [(V.int .i64 (z0)), (V.fresh 79 (z1))]) := by
  intro k hk
  obtain ⟨k, rfl⟩ : ∃ q, k = q + 1 := ⟨k - 1, by omega⟩
  unfold s_laws_markPlaceS at h
  obtain ⟨⟨u8_0, u8_1⟩, l8, h⟩ := bnd_some h
  simp only [Option.some.injEq, Prod.mk.injEq] at h
  obtain ⟨rfl, rfl⟩ := h
  refine pMu_by [.l .normal ⟨[(0, (V.row 1)), (1, (V.int .i64 (u8_0)))], [(1, .row 79 (u8_1))]⟩] rfl rfl rfl (And.intro (lw_laws_markPlaceS_b0 _ _ _ _ _ l8 k k (by omega) (by omega)) trivial) ?_
  kernel_rfl
theorem lw_laws_markInt64S_b0 : ∀ (n : Nat) (a0 : Int) (a1 : Int) (a2 : List V) (r : Int × List V), l_laws_markInt64S_b0 n a0 a1 a2 = some r → ∀ k m, n + 0 ≤ k → n ≤ m → LB E 34 0 k m ⟨[(0, (V.row 1)), (1, (V.int .i64 (a0))), (5, (V.int .i64 (a1)))], [(1, .row 2 (a2))]⟩ = some (match r with | (o0, o1) => (.normal, ⟨[(0, (V.row 1)), (1, (V.int .i64 (o0)))], [(1, .row 2 (o1))]⟩)) := by
  intro n
  induction n with
  | zero => intro a0 a1 a2 r h; cases h
  | succ n ih =>
    intro a0 a1 a2 r h k m hk hm
    obtain ⟨m, rfl⟩ : ∃ q, m = q + 1 := ⟨m - 1, by omega⟩
    replace hk : n + 0 ≤ k := by omega
    unfold l_laws_markInt64S_b0 at h
    rcases cnd_some h with ⟨h1, h⟩ | ⟨h1, h⟩
    · obtain ⟨c2, h⟩ := chk_some h
      obtain ⟨e3_0, g3, h⟩ := bnd_some h
      replace g3 := as_i64_some g3
      refine pNext_by [.b true, .v (V.int .i64 (e3_0))] (And.intro h1 (And.intro c2 (And.intro g3 trivial))) (ih _ _ _ _ h k m hk (by omega)) ?_
      kernel_rfl
    · cases h
      refine pLast_by [.b false] (And.intro h1 trivial) ?_
      kernel_rfl
theorem w_laws_markInt64S {n : Nat} {a0 : List V} {a1 : Int} {z0 : Int} {z1 : List V} (h : s_laws_markInt64S n a0 a1 = some (z0, z1)) : ∀ k, n + 1 ≤ k → sem E k (muBase + 34) [(V.fresh 2 (a0)), (V.int .i64 (a1))] = some (V.tup [(V.int .i64 (z0)), (V.fresh 2 (z1))]) := by
  intro k hk
  obtain ⟨k, rfl⟩ : ∃ q, k = q + 1 := ⟨k - 1, by omega⟩
  unfold s_laws_markInt64S at h
  obtain ⟨⟨u4_0, u4_1⟩, l4, h⟩ := bnd_some h
  simp only [Option.some.injEq, Prod.mk.injEq] at h
  obtain ⟨rfl, rfl⟩ := h
  refine pMu_by [.l .normal ⟨[(0, (V.row 1)), (1, (V.int .i64 (u4_0)))], [(1, .row 2 (u4_1))]⟩] rfl rfl rfl (And.intro (lw_laws_markInt64S_b0 _ _ _ _ _ l4 k k (by omega) (by omega)) trivial) ?_
  kernel_rfl
theorem lw_laws_heldInt64S_b0 : ∀ (n : Nat) (a0 : List V) (a1 : Int) (a2 : Int) (r : Sum (Int) (Int)), l_laws_heldInt64S_b0 n a0 a1 a2 = some r → ∀ k m, n + 0 ≤ k → n ≤ m → LB E 35 0 k m ⟨[(0, (V.sl (a0))), (1, (V.int .i64 (a1))), (5, (V.int .i64 (a2)))], []⟩ = some (match r with | .inl o0 => (.normal, ⟨[(1, (V.int .i64 (o0)))], []⟩) | .inr o0 => (.ret, ⟨[(4, (V.int .i64 (o0)))], []⟩)) := by
  intro n
  induction n with
  | zero => intro a0 a1 a2 r h; cases h
  | succ n ih =>
    intro a0 a1 a2 r h k m hk hm
    obtain ⟨m, rfl⟩ : ∃ q, m = q + 1 := ⟨m - 1, by omega⟩
    replace hk : n + 0 ≤ k := by omega
    unfold l_laws_heldInt64S_b0 at h
    rcases cnd_some h with ⟨h1, h⟩ | ⟨h1, h⟩
    · obtain ⟨e2_0, g2, h⟩ := bnd_some h
      replace g2 := as_i64_some g2
      rcases cnd_some h with ⟨h3, h⟩ | ⟨h3, h⟩
      · refine pNext_by [.b true, .v (V.int .i64 (e2_0)), .b false] (And.intro h1 (And.intro g2 (And.intro (not_f h3) trivial))) (ih _ _ _ _ h k m hk (by omega)) ?_
        kernel_rfl
      · cases h
        refine pLast_by [.b true, .v (V.int .i64 (e2_0)), .b true] (And.intro h1 (And.intro g2 (And.intro (not_t h3) trivial))) ?_
        kernel_rfl
    · cases h
      refine pLast_by [.b false] (And.intro h1 trivial) ?_
      kernel_rfl
theorem w_laws_heldInt64S {n : Nat} {a0 : List V} {a1 : Int} {z0 : Int} (h : s_laws_heldInt64S n a0 a1 = some z0) : ∀ k, n + 1 ≤ k → sem E k 35 [(V.sl (a0)), (V.int .i64 (a1))] = some (V.int .i64 (z0)) := by
  intro k hk
  obtain ⟨k, rfl⟩ : ∃ q, k = q + 1 := ⟨k - 1, by omega⟩
  unfold s_laws_heldInt64S at h
  obtain ⟨w, l4, h⟩ := bnd_some h
  rcases w with u4_0 | u5_0
  · replace h := Option.some.inj h
    obtain rfl := h
    refine pFun_by [.l .normal ⟨[(1, (V.int .i64 (u4_0)))], []⟩] rfl (And.intro (lw_laws_heldInt64S_b0 _ _ _ _ _ l4 k k (by omega) (by omega)) trivial) ?_
    kernel_rfl
  · replace h := Option.some.inj h
    obtain rfl := h
    refine pFun_by [.l .ret ⟨[(4, (V.int .i64 (u5_0)))], []⟩] rfl (And.intro (lw_laws_heldInt64S_b0 _ _ _ _ _ l4 k k (by omega) (by omega)) trivial) ?_
    kernel_rfl
end Go.Proofs.Ytdhcfdiggcgmhaa
