/- The program goes as the shallow texts tell: printed by gen.py. -/
import Derived.Test.YtdhcfdiggcgmhaaEnvA
import Derived.Test.YtdhcfdiggcgmhaaSh1
import Derived.Test.YtdhcfdiggcgmhaaSh2
import Derived.Test.YtdhcfdiggcgmhaaSh8
namespace Go.Proofs.Ytdhcfdiggcgmhaa
open Go
set_option linter.unusedVariables false
set_option linter.unusedSimpArgs false
set_option maxRecDepth 100000
set_option maxHeartbeats 4000000
theorem lw_laws_toByteA8_b0 : ∀ (n : Nat) (a0 : Int) (a1 : Nat → Int) (a2 : Nat → Int) (a3 : Nat → Int) (r : (Nat → Int) × (Nat → Int)), l_laws_toByteA8_b0 n a0 a1 a2 a3 = some r → ∀ k m, n + 0 ≤ k → n ≤ m → LB E 200 0 k m ⟨[(1, (V.ptr 3 0 (0) 8)), (2, (V.ptr 5 0 (0) 8)), (3, (V.ptr 7 0 (0) 8)), (4, (V.int .i64 (a0)))], [(3, .box [(V.ints .u8 8 (a1))]), (5, .box [(V.ints .u8 8 (a2))]), (7, .box [(V.ints .u8 8 (a3))])]⟩ = some (match r with | (o0, o1) => (.normal, ⟨[(2, (V.ptr 5 0 (0) 8)), (3, (V.ptr 7 0 (0) 8))], [(5, .box [(V.ints .u8 8 (o0))]), (7, .box [(V.ints .u8 8 (o1))])]⟩)) := by
  intro n
  induction n with
  | zero => intro a0 a1 a2 a3 r h; cases h
  | succ n ih =>
    intro a0 a1 a2 a3 r h k m hk hm
    obtain ⟨m, rfl⟩ : ∃ q, m = q + 1 := ⟨m - 1, by omega⟩
    replace hk : n + 0 ≤ k := by omega
    unfold l_laws_toByteA8_b0 at h
    rcases cnd_some h with ⟨h1, h⟩ | ⟨h1, h⟩
    · obtain ⟨c2, h⟩ := chk_some h
      refine pNext_by [.b true] (And.intro h1 (And.intro c2 (And.intro c2 trivial))) (ih _ _ _ _ _ h k m hk (by omega)) ?_
      kernel_rfl
    · cases h
      refine pLast_by [.b false] (And.intro h1 trivial) ?_
      kernel_rfl
theorem w_laws_toByteA8 {n : Nat} {a0 : Nat → Int} {z0 : Nat → Int} (h : s_laws_toByteA8 n a0 = some z0) : ∀ k, n + 1 ≤ k → sem E k 200 [(V.ints .u8 8 (a0))] = some (V.ints .u8 8 (z0)) := by
  intro k hk
  obtain ⟨k, rfl⟩ : ∃ q, k = q + 1 := ⟨k - 1, by omega⟩
  unfold s_laws_toByteA8 at h
  obtain ⟨⟨u3_0, u3_1⟩, l3, h⟩ := bnd_some h
  replace h := Option.some.inj h
  obtain rfl := h
  refine pFun_by [.l .normal ⟨[(2, (V.ptr 5 0 (0) 8)), (3, (V.ptr 7 0 (0) 8))], [(5, .box [(V.ints .u8 8 (u3_0))]), (7, .box [(V.ints .u8 8 (u3_1))])]⟩] rfl (And.intro (lw_laws_toByteA8_b0 _ _ _ _ _ _ l3 k k (by omega) (by omega)) trivial) ?_
  kernel_rfl
theorem lw_laws_toByteA8A8_b0 : ∀ (n : Nat) (a0 : Int) (a1 : Nat → Int) (a2 : Nat → Int) (a3 : Nat → Int) (r : (Nat → Int) × (Nat → Int)), l_laws_toByteA8A8_b0 n a0 a1 a2 a3 = some r → ∀ k m, n + 1 ≤ k → n ≤ m → LB E 129 0 k m ⟨[(1, (V.ptr 3 0 (0) 64)), (2, (V.ptr 5 0 (0) 64)), (3, (V.ptr 7 0 (0) 64)), (4, (V.int .i64 (a0)))], [(3, .box [(V.ints .u8 64 (a1))]), (5, .box [(V.ints .u8 64 (a2))]), (7, .box [(V.ints .u8 64 (a3))])]⟩ = some (match r with | (o0, o1) => (.normal, ⟨[(2, (V.ptr 5 0 (0) 64)), (3, (V.ptr 7 0 (0) 64))], [(5, .box [(V.ints .u8 64 (o0))]), (7, .box [(V.ints .u8 64 (o1))])]⟩)) := by
  intro n
  induction n with
  | zero => intro a0 a1 a2 a3 r h; cases h
  | succ n ih =>
    intro a0 a1 a2 a3 r h k m hk hm
    obtain ⟨m, rfl⟩ : ∃ q, m = q + 1 := ⟨m - 1, by omega⟩
    replace hk : n + 1 ≤ k := by omega
    unfold l_laws_toByteA8A8_b0 at h
    rcases cnd_some h with ⟨h1, h⟩ | ⟨h1, h⟩
    · obtain ⟨c2, h⟩ := chk_some h
      obtain ⟨y3_0, q3, h⟩ := bnd_some h
      refine pNext_by [.b true, .v (V.ints .u8 8 (y3_0))] (And.intro h1 (And.intro c2 (And.intro (w_laws_toByteA8 q3 k (by omega)) (And.intro c2 trivial)))) (ih _ _ _ _ _ h k m hk (by omega)) ?_
      kernel_rfl
    · cases h
      refine pLast_by [.b false] (And.intro h1 trivial) ?_
      kernel_rfl
theorem w_laws_toByteA8A8 {n : Nat} {a0 : Nat → Int} {z0 : Nat → Int} (h : s_laws_toByteA8A8 n a0 = some z0) : ∀ k, n + 2 ≤ k → sem E k 129 [(V.ints .u8 64 (a0))] = some (V.ints .u8 64 (z0)) := by
  intro k hk
  obtain ⟨k, rfl⟩ : ∃ q, k = q + 1 := ⟨k - 1, by omega⟩
  unfold s_laws_toByteA8A8 at h
  obtain ⟨⟨u4_0, u4_1⟩, l4, h⟩ := bnd_some h
  replace h := Option.some.inj h
  obtain rfl := h
  refine pFun_by [.l .normal ⟨[(2, (V.ptr 5 0 (0) 64)), (3, (V.ptr 7 0 (0) 64))], [(5, .box [(V.ints .u8 64 (u4_0))]), (7, .box [(V.ints .u8 64 (u4_1))])]⟩] rfl (And.intro (lw_laws_toByteA8A8_b0 _ _ _ _ _ _ l4 k k (by omega) (by omega)) trivial) ?_
  kernel_rfl
theorem w_laws_toRoof {n : Nat} {a0 : Int} {a1 : Int} {a2 : Int} {a3 : Nat → Int} {z0 : Int} {z1 : Int} {z2 : Int} {z3 : Nat → Int} (h : s_laws_toRoof n a0 a1 a2 a3 = some (z0, z1, z2, z3)) : ∀ k, n + 3 ≤ k → sem E k 45 [(V.parts [(V.int .i8 (a0)), (V.int .i8 (a1)), (V.int .u8 (a2)), (V.ints .u8 64 (a3))])] = some (V.parts [(V.int .i8 (z0)), (V.int .i8 (z1)), (V.int .u8 (z2)), (V.ints .u8 64 (z3))]) := by
  intro k hk
  obtain ⟨k, rfl⟩ : ∃ q, k = q + 1 := ⟨k - 1, by omega⟩
  unfold s_laws_toRoof at h
  obtain ⟨y1_0, q1, h⟩ := bnd_some h
  simp only [Option.some.injEq, Prod.mk.injEq] at h
  obtain ⟨rfl, rfl, rfl, rfl⟩ := h
  refine pFun_by [.v (V.ints .u8 64 (y1_0))] rfl (And.intro (w_laws_toByteA8A8 q1 k (by omega)) trivial) ?_
  kernel_rfl
theorem lw_laws_toRain_b0 : ∀ (n : Nat) (a0 : Int) (a1 : Nat → Int) (a2 : Nat → Int) (a3 : Nat → Int) (r : (Nat → Int) × (Nat → Int)), l_laws_toRain_b0 n a0 a1 a2 a3 = some r → ∀ k m, n + 0 ≤ k → n ≤ m → LB E 46 0 k m ⟨[(1, (V.ptr 3 0 (0) 17)), (2, (V.ptr 5 0 (0) 17)), (3, (V.ptr 7 0 (0) 17)), (4, (V.int .i64 (a0)))], [(3, .box [(V.ints .i16 17 (a1))]), (5, .box [(V.ints .i16 17 (a2))]), (7, .box [(V.ints .i16 17 (a3))])]⟩ = some (match r with | (o0, o1) => (.normal, ⟨[(2, (V.ptr 5 0 (0) 17)), (3, (V.ptr 7 0 (0) 17))], [(5, .box [(V.ints .i16 17 (o0))]), (7, .box [(V.ints .i16 17 (o1))])]⟩)) := by
  intro n
  induction n with
  | zero => intro a0 a1 a2 a3 r h; cases h
  | succ n ih =>
    intro a0 a1 a2 a3 r h k m hk hm
    obtain ⟨m, rfl⟩ : ∃ q, m = q + 1 := ⟨m - 1, by omega⟩
    replace hk : n + 0 ≤ k := by omega
    unfold l_laws_toRain_b0 at h
    rcases cnd_some h with ⟨h1, h⟩ | ⟨h1, h⟩
    · obtain ⟨c2, h⟩ := chk_some h
      refine pNext_by [.b true] (And.intro h1 (And.intro c2 (And.intro c2 trivial))) (ih _ _ _ _ _ h k m hk (by omega)) ?_
      kernel_rfl
    · cases h
      refine pLast_by [.b false] (And.intro h1 trivial) ?_
      kernel_rfl
theorem w_laws_toRain {n : Nat} {a0 : Nat → Int} {z0 : Nat → Int} (h : s_laws_toRain n a0 = some z0) : ∀ k, n + 1 ≤ k → sem E k 46 [(V.ints .i16 17 (a0))] = some (V.ints .i16 17 (z0)) := by
  intro k hk
  obtain ⟨k, rfl⟩ : ∃ q, k = q + 1 := ⟨k - 1, by omega⟩
  unfold s_laws_toRain at h
  obtain ⟨⟨u3_0, u3_1⟩, l3, h⟩ := bnd_some h
  replace h := Option.some.inj h
  obtain rfl := h
  refine pFun_by [.l .normal ⟨[(2, (V.ptr 5 0 (0) 17)), (3, (V.ptr 7 0 (0) 17))], [(5, .box [(V.ints .i16 17 (u3_0))]), (7, .box [(V.ints .i16 17 (u3_1))])]⟩] rfl (And.intro (lw_laws_toRain_b0 _ _ _ _ _ _ l3 k k (by omega) (by omega)) trivial) ?_
  kernel_rfl
theorem lw_laws_toInt32A17_b0 : ∀ (n : Nat) (a0 : Int) (a1 : Nat → Int) (a2 : Nat → Int) (a3 : Nat → Int) (r : (Nat → Int) × (Nat → Int)), l_laws_toInt32A17_b0 n a0 a1 a2 a3 = some r → ∀ k m, n + 0 ≤ k → n ≤ m → LB E 130 0 k m ⟨[(1, (V.ptr 3 0 (0) 17)), (2, (V.ptr 5 0 (0) 17)), (3, (V.ptr 7 0 (0) 17)), (4, (V.int .i64 (a0)))], [(3, .box [(V.ints .i32 17 (a1))]), (5, .box [(V.ints .i32 17 (a2))]), (7, .box [(V.ints .i32 17 (a3))])]⟩ = some (match r with | (o0, o1) => (.normal, ⟨[(2, (V.ptr 5 0 (0) 17)), (3, (V.ptr 7 0 (0) 17))], [(5, .box [(V.ints .i32 17 (o0))]), (7, .box [(V.ints .i32 17 (o1))])]⟩)) := by
  intro n
  induction n with
  | zero => intro a0 a1 a2 a3 r h; cases h
  | succ n ih =>
    intro a0 a1 a2 a3 r h k m hk hm
    obtain ⟨m, rfl⟩ : ∃ q, m = q + 1 := ⟨m - 1, by omega⟩
    replace hk : n + 0 ≤ k := by omega
    unfold l_laws_toInt32A17_b0 at h
    rcases cnd_some h with ⟨h1, h⟩ | ⟨h1, h⟩
    · obtain ⟨c2, h⟩ := chk_some h
      refine pNext_by [.b true] (And.intro h1 (And.intro c2 (And.intro c2 trivial))) (ih _ _ _ _ _ h k m hk (by omega)) ?_
      kernel_rfl
    · cases h
      refine pLast_by [.b false] (And.intro h1 trivial) ?_
      kernel_rfl
theorem w_laws_toInt32A17 {n : Nat} {a0 : Nat → Int} {z0 : Nat → Int} (h : s_laws_toInt32A17 n a0 = some z0) : ∀ k, n + 1 ≤ k → sem E k 130 [(V.ints .i32 17 (a0))] = some (V.ints .i32 17 (z0)) := by
  intro k hk
  obtain ⟨k, rfl⟩ : ∃ q, k = q + 1 := ⟨k - 1, by omega⟩
  unfold s_laws_toInt32A17 at h
  obtain ⟨⟨u3_0, u3_1⟩, l3, h⟩ := bnd_some h
  replace h := Option.some.inj h
  obtain rfl := h
  refine pFun_by [.l .normal ⟨[(2, (V.ptr 5 0 (0) 17)), (3, (V.ptr 7 0 (0) 17))], [(5, .box [(V.ints .i32 17 (u3_0))]), (7, .box [(V.ints .i32 17 (u3_1))])]⟩] rfl (And.intro (lw_laws_toInt32A17_b0 _ _ _ _ _ _ l3 k k (by omega) (by omega)) trivial) ?_
  kernel_rfl
theorem lw_laws_toDrips_b0 : ∀ (n : Nat) (a0 : Int) (a1 : Nat → Int) (a2 : Nat → Int) (a3 : Nat → Int) (r : (Nat → Int) × (Nat → Int)), l_laws_toDrips_b0 n a0 a1 a2 a3 = some r → ∀ k m, n + 1 ≤ k → n ≤ m → LB E 47 0 k m ⟨[(1, (V.ptr 3 0 (0) 136)), (2, (V.ptr 5 0 (0) 136)), (3, (V.ptr 7 0 (0) 136)), (4, (V.int .i64 (a0)))], [(3, .box [(V.ints .i32 136 (a1))]), (5, .box [(V.ints .i32 136 (a2))]), (7, .box [(V.ints .i32 136 (a3))])]⟩ = some (match r with | (o0, o1) => (.normal, ⟨[(2, (V.ptr 5 0 (0) 136)), (3, (V.ptr 7 0 (0) 136))], [(5, .box [(V.ints .i32 136 (o0))]), (7, .box [(V.ints .i32 136 (o1))])]⟩)) := by
  intro n
  induction n with
  | zero => intro a0 a1 a2 a3 r h; cases h
  | succ n ih =>
    intro a0 a1 a2 a3 r h k m hk hm
    obtain ⟨m, rfl⟩ : ∃ q, m = q + 1 := ⟨m - 1, by omega⟩
    replace hk : n + 1 ≤ k := by omega
    unfold l_laws_toDrips_b0 at h
    rcases cnd_some h with ⟨h1, h⟩ | ⟨h1, h⟩
    · obtain ⟨c2, h⟩ := chk_some h
      obtain ⟨y3_0, q3, h⟩ := bnd_some h
      refine pNext_by [.b true, .v (V.ints .i32 17 (y3_0))] (And.intro h1 (And.intro c2 (And.intro (w_laws_toInt32A17 q3 k (by omega)) (And.intro c2 trivial)))) (ih _ _ _ _ _ h k m hk (by omega)) ?_
      kernel_rfl
    · cases h
      refine pLast_by [.b false] (And.intro h1 trivial) ?_
      kernel_rfl
theorem w_laws_toDrips {n : Nat} {a0 : Nat → Int} {z0 : Nat → Int} (h : s_laws_toDrips n a0 = some z0) : ∀ k, n + 2 ≤ k → sem E k 47 [(V.ints .i32 136 (a0))] = some (V.ints .i32 136 (z0)) := by
  intro k hk
  obtain ⟨k, rfl⟩ : ∃ q, k = q + 1 := ⟨k - 1, by omega⟩
  unfold s_laws_toDrips at h
  obtain ⟨⟨u4_0, u4_1⟩, l4, h⟩ := bnd_some h
  replace h := Option.some.inj h
  obtain rfl := h
  refine pFun_by [.l .normal ⟨[(2, (V.ptr 5 0 (0) 136)), (3, (V.ptr 7 0 (0) 136))], [(5, .box [(V.ints .i32 136 (u4_0))]), (7, .box [(V.ints .i32 136 (u4_1))])]⟩] rfl (And.intro (lw_laws_toDrips_b0 _ _ _ _ _ _ l4 k k (by omega) (by omega)) trivial) ?_
  kernel_rfl
theorem w_laws_toPlace {n : Nat} {a0 : Int} {a1 : Int} {z0 : Int} {z1 : Int} (h : s_laws_toPlace n a0 a1 = some (z0, z1)) : ∀ k, n + 1 ≤ k → sem E k 48 [(V.parts [(V.int .i8 (a0)), (V.int .i8 (a1))])] = some (V.parts [(V.int .i8 (z0)), (V.int .i8 (z1))]) := by
  intro k hk
  obtain ⟨k, rfl⟩ : ∃ q, k = q + 1 := ⟨k - 1, by omega⟩
  unfold s_laws_toPlace at h
  simp only [Option.some.injEq, Prod.mk.injEq] at h
  obtain ⟨rfl, rfl⟩ := h
  refine pFun_by [] rfl trivial ?_
  kernel_rfl
theorem w_spec_l00In {n : Nat} {a0 : Int} {a1 : Int} {a2 : Int} {z0 : Bool} (h : s_spec_l00In n a0 a1 a2 = some z0) : ∀ k, n + 1 ≤ k → sem E k 85 [(V.int .i64 (a0)), (V.int .i64 (a1)), (V.int .i64 (a2))] = some (V.bool (z0)) := by
  intro k hk
  obtain ⟨k, rfl⟩ : ∃ q, k = q + 1 := ⟨k - 1, by omega⟩
  unfold s_spec_l00In at h
  rcases cnd_some h with ⟨h1, h⟩ | ⟨h1, h⟩
  · replace h := Option.some.inj h
    obtain rfl := h
    refine pFun_by [.b true] rfl (And.intro h1 trivial) ?_
    kernel_rfl
  · replace h := Option.some.inj h
    obtain rfl := h
    refine pFun_by [.b false] rfl (And.intro h1 trivial) ?_
    kernel_rfl
theorem w_spec_l01Kind {n : Nat} {a0 : Int} {z0 : Bool} (h : s_spec_l01Kind n a0 = some z0) : ∀ k, n + 2 ≤ k → sem E k 179 [(V.int .i64 (a0))] = some (V.bool (z0)) := by
  intro k hk
  obtain ⟨k, rfl⟩ : ∃ q, k = q + 1 := ⟨k - 1, by omega⟩
  unfold s_spec_l01Kind at h
  obtain ⟨y1_0, q1, h⟩ := bnd_some h
  replace h := Option.some.inj h
  obtain rfl := h
  refine pFun_by [.v (V.bool (y1_0))] rfl (And.intro (w_spec_l00In q1 k (by omega)) trivial) ?_
  kernel_rfl
theorem w_spec_l01Is {n : Nat} {a0 : Int} {a1 : Int} {a2 : Int} {a3 : Nat → Int} {a4 : Int} {a5 : Int} {z0 : Bool} (h : s_spec_l01Is n a0 a1 a2 a3 a4 a5 = some z0) : ∀ k, n + 2 ≤ k → sem E k 127 [(V.ref [(V.int .i8 (a0)), (V.int .i8 (a1)), (V.int .u8 (a2)), (V.ints .u8 64 (a3))] 0 (0) 67), (V.parts [(V.int .i8 (a4)), (V.int .i8 (a5))])] = some (V.bool (z0)) := by
  intro k hk
  obtain ⟨k, rfl⟩ : ∃ q, k = q + 1 := ⟨k - 1, by omega⟩
  unfold s_spec_l01Is at h
  obtain ⟨y1_0, q1, h⟩ := bnd_some h
  rcases cnd_some h with ⟨h2, h⟩ | ⟨h2, h⟩
  · obtain ⟨y3_0, q3, h⟩ := bnd_some h
    replace h := Option.some.inj h
    obtain rfl := h
    refine pFun_by [.v (V.bool (y1_0)), .b true, .v (V.bool (y3_0))] rfl (And.intro (w_spec_l00In q1 k (by omega)) (And.intro h2 (And.intro (w_spec_l00In q3 k (by omega)) trivial))) ?_
    kernel_rfl
  · replace h := Option.some.inj h
    obtain rfl := h
    refine pFun_by [.v (V.bool (y1_0)), .b false] rfl (And.intro (w_spec_l00In q1 k (by omega)) (And.intro h2 trivial)) ?_
    kernel_rfl
theorem lw_spec_l01Ok_b2 : ∀ (n : Nat) (a0 : Int) (a1 : Int) (a2 : Int) (a3 : Nat → Int) (a4 : Int) (a5 : Int) (r : Sum (Int × Int × Int × (Nat → Int) × Int) (Bool)), l_spec_l01Ok_b2 n a0 a1 a2 a3 a4 a5 = some r → ∀ k m, n + 2 ≤ k → n ≤ m → LB E 196 2 k m ⟨[(0, (V.ref [(V.int .i8 (a0)), (V.int .i8 (a1)), (V.int .u8 (a2)), (V.ints .u8 64 (a3))] 0 (0) 67)), (3, (V.int .i8 (a4))), (4, (V.int .i8 (a5)))], []⟩ = some (match r with | .inl (o0, o1, o2, o3, o4) => (.normal, ⟨[(0, (V.ref [(V.int .i8 (o0)), (V.int .i8 (o1)), (V.int .u8 (o2)), (V.ints .u8 64 (o3))] 0 (0) 67)), (3, (V.int .i8 (o4)))], []⟩) | .inr o0 => (.ret, ⟨[(2, (V.bool (o0)))], []⟩)) := by
  intro n
  induction n with
  | zero => intro a0 a1 a2 a3 a4 a5 r h; cases h
  | succ n ih =>
    intro a0 a1 a2 a3 a4 a5 r h k m hk hm
    obtain ⟨m, rfl⟩ : ∃ q, m = q + 1 := ⟨m - 1, by omega⟩
    replace hk : n + 2 ≤ k := by omega
    unfold l_spec_l01Ok_b2 at h
    rcases cnd_some h with ⟨h7, h⟩ | ⟨h7, h⟩
    · obtain ⟨c8, h⟩ := chk_some h
      obtain ⟨c9, h⟩ := chk_some h
      obtain ⟨y10_0, q10, h⟩ := bnd_some h
      rcases cnd_some h with ⟨h11, h⟩ | ⟨h11, h⟩
      · obtain ⟨y12_0, q12, h⟩ := bnd_some h
        rcases cnd_some h with ⟨h13, h⟩ | ⟨h13, h⟩
        · refine pNext_by [.b true, .v (V.bool (y10_0)), .b false, .v (V.bool (y12_0)), .b false, .b false] (And.intro h7 (And.intro c8 (And.intro c9 (And.intro (w_spec_l01Kind q10 k (by omega)) (And.intro (not_f h11) (And.intro (w_spec_l01Is q12 k (by omega)) (And.intro (not_f h13) (And.intro (Eq.refl false) trivial)))))))) (ih _ _ _ _ _ _ _ h k m hk (by omega)) ?_
          kernel_rfl
        · rcases cnd_some h with ⟨h14, h⟩ | ⟨h14, h⟩
          · refine pNext_by [.b true, .v (V.bool (y10_0)), .b false, .v (V.bool (y12_0)), .b true, .b false] (And.intro h7 (And.intro c8 (And.intro c9 (And.intro (w_spec_l01Kind q10 k (by omega)) (And.intro (not_f h11) (And.intro (w_spec_l01Is q12 k (by omega)) (And.intro (not_t h13) (And.intro c8 (And.intro c9 (And.intro (not_f h14) trivial)))))))))) (ih _ _ _ _ _ _ _ h k m hk (by omega)) ?_
            kernel_rfl
          · cases h
            refine pLast_by [.b true, .v (V.bool (y10_0)), .b false, .v (V.bool (y12_0)), .b true, .b true] (And.intro h7 (And.intro c8 (And.intro c9 (And.intro (w_spec_l01Kind q10 k (by omega)) (And.intro (not_f h11) (And.intro (w_spec_l01Is q12 k (by omega)) (And.intro (not_t h13) (And.intro c8 (And.intro c9 (And.intro (not_t h14) trivial)))))))))) ?_
            kernel_rfl
      · cases h
        refine pLast_by [.b true, .v (V.bool (y10_0)), .b true, .b true] (And.intro h7 (And.intro c8 (And.intro c9 (And.intro (w_spec_l01Kind q10 k (by omega)) (And.intro (not_t h11) (And.intro (Eq.refl true) trivial)))))) ?_
        kernel_rfl
    · cases h
      refine pLast_by [.b false] (And.intro h7 trivial) ?_
      kernel_rfl
theorem lw_spec_l01Ok_b0 : ∀ (n : Nat) (a0 : Int) (a1 : Int) (a2 : Int) (a3 : Nat → Int) (a4 : Int) (r : Sum (Unit) (Bool)), l_spec_l01Ok_b0 n a0 a1 a2 a3 a4 = some r → ∀ k m, n + 2 ≤ k → n ≤ m → LB E 196 0 k m ⟨[(0, (V.ref [(V.int .i8 (a0)), (V.int .i8 (a1)), (V.int .u8 (a2)), (V.ints .u8 64 (a3))] 0 (0) 67)), (3, (V.int .i8 (a4)))], []⟩ = some (match r with | .inl _ => (.normal, ⟨[], []⟩) | .inr o0 => (.ret, ⟨[(2, (V.bool (o0)))], []⟩)) := by
  intro n
  induction n with
  | zero => intro a0 a1 a2 a3 a4 r h; cases h
  | succ n ih =>
    intro a0 a1 a2 a3 a4 r h k m hk hm
    obtain ⟨m, rfl⟩ : ∃ q, m = q + 1 := ⟨m - 1, by omega⟩
    replace hk : n + 2 ≤ k := by omega
    unfold l_spec_l01Ok_b0 at h
    rcases cnd_some h with ⟨h6, h⟩ | ⟨h6, h⟩
    · obtain ⟨w, l15, h⟩ := bnd_some h
      rcases w with ⟨u15_0, u15_1, u15_2, u15_3, u15_4⟩ | u16_0
      · refine pNext_by [.b true, .l .normal ⟨[(0, (V.ref [(V.int .i8 (u15_0)), (V.int .i8 (u15_1)), (V.int .u8 (u15_2)), (V.ints .u8 64 (u15_3))] 0 (0) 67)), (3, (V.int .i8 (u15_4)))], []⟩] (And.intro h6 (And.intro (lw_spec_l01Ok_b2 _ _ _ _ _ _ _ _ l15 k k (by omega) (by omega)) trivial)) (ih _ _ _ _ _ _ h k m hk (by omega)) ?_
        kernel_rfl
      · cases h
        refine pLast_by [.b true, .l .ret ⟨[(2, (V.bool (u16_0)))], []⟩] (And.intro h6 (And.intro (lw_spec_l01Ok_b2 _ _ _ _ _ _ _ _ l15 k k (by omega) (by omega)) trivial)) ?_
        kernel_rfl
    · cases h
      refine pLast_by [.b false] (And.intro h6 trivial) ?_
      kernel_rfl
theorem w_spec_l01Ok {n : Nat} {a0 : Int} {a1 : Int} {a2 : Int} {a3 : Nat → Int} {z0 : Bool} (h : s_spec_l01Ok n a0 a1 a2 a3 = some z0) : ∀ k, n + 3 ≤ k → sem E k 196 [(V.ref [(V.int .i8 (a0)), (V.int .i8 (a1)), (V.int .u8 (a2)), (V.ints .u8 64 (a3))] 0 (0) 67)] = some (V.bool (z0)) := by
  intro k hk
  obtain ⟨k, rfl⟩ : ∃ q, k = q + 1 := ⟨k - 1, by omega⟩
  unfold s_spec_l01Ok at h
  obtain ⟨y1_0, q1, h⟩ := bnd_some h
  rcases cnd_some h with ⟨h2, h⟩ | ⟨h2, h⟩
  · obtain ⟨y3_0, q3, h⟩ := bnd_some h
    rcases cnd_some h with ⟨h4, h⟩ | ⟨h4, h⟩
    · rcases cnd_some h with ⟨h5, h⟩ | ⟨h5, h⟩
      · replace h := Option.some.inj h
        obtain rfl := h
        refine pFun_by [.v (V.bool (y1_0)), .b false, .v (V.bool (y3_0)), .b false, .b true] rfl (And.intro (w_spec_l00In q1 k (by omega)) (And.intro (not_f h2) (And.intro (w_spec_l00In q3 k (by omega)) (And.intro (not_f h4) (And.intro h5 trivial))))) ?_
        kernel_rfl
      · obtain ⟨w, l18, h⟩ := bnd_some h
        rcases w with ⟨⟩ | u19_0
        · replace h := Option.some.inj h
          obtain rfl := h
          refine pFun_by [.v (V.bool (y1_0)), .b false, .v (V.bool (y3_0)), .b false, .b false, .l .normal ⟨[], []⟩] rfl (And.intro (w_spec_l00In q1 k (by omega)) (And.intro (not_f h2) (And.intro (w_spec_l00In q3 k (by omega)) (And.intro (not_f h4) (And.intro h5 (And.intro (lw_spec_l01Ok_b0 _ _ _ _ _ _ _ l18 k k (by omega) (by omega)) trivial)))))) ?_
          kernel_rfl
        · replace h := Option.some.inj h
          obtain rfl := h
          refine pFun_by [.v (V.bool (y1_0)), .b false, .v (V.bool (y3_0)), .b false, .b false, .l .ret ⟨[(2, (V.bool (u19_0)))], []⟩] rfl (And.intro (w_spec_l00In q1 k (by omega)) (And.intro (not_f h2) (And.intro (w_spec_l00In q3 k (by omega)) (And.intro (not_f h4) (And.intro h5 (And.intro (lw_spec_l01Ok_b0 _ _ _ _ _ _ _ l18 k k (by omega) (by omega)) trivial)))))) ?_
          kernel_rfl
    · replace h := Option.some.inj h
      obtain rfl := h
      refine pFun_by [.v (V.bool (y1_0)), .b false, .v (V.bool (y3_0)), .b true, .b true] rfl (And.intro (w_spec_l00In q1 k (by omega)) (And.intro (not_f h2) (And.intro (w_spec_l00In q3 k (by omega)) (And.intro (not_t h4) (And.intro (Eq.refl true) trivial))))) ?_
      kernel_rfl
  · replace h := Option.some.inj h
    obtain rfl := h
    refine pFun_by [.v (V.bool (y1_0)), .b true, .b true, .b true] rfl (And.intro (w_spec_l00In q1 k (by omega)) (And.intro (not_t h2) (And.intro (Eq.refl true) (And.intro (Eq.refl true) trivial)))) ?_
    kernel_rfl
theorem w_spec_l02Amount {n : Nat} {a0 : Int} {z0 : Bool} (h : s_spec_l02Amount n a0 = some z0) : ∀ k, n + 2 ≤ k → sem E k 197 [(V.int .i64 (a0))] = some (V.bool (z0)) := by
  intro k hk
  obtain ⟨k, rfl⟩ : ∃ q, k = q + 1 := ⟨k - 1, by omega⟩
  unfold s_spec_l02Amount at h
  obtain ⟨y1_0, q1, h⟩ := bnd_some h
  replace h := Option.some.inj h
  obtain rfl := h
  refine pFun_by [.v (V.bool (y1_0))] rfl (And.intro (w_spec_l00In q1 k (by omega)) trivial) ?_
  kernel_rfl
theorem w_spec_l01Cells {n : Nat} {a0 : Int} {a1 : Int} {a2 : Int} {a3 : Nat → Int} {z0 : Int} (h : s_spec_l01Cells n a0 a1 a2 a3 = some z0) : ∀ k, n + 1 ≤ k → sem E k 174 [(V.ref [(V.int .i8 (a0)), (V.int .i8 (a1)), (V.int .u8 (a2)), (V.ints .u8 64 (a3))] 0 (0) 67)] = some (V.int .i64 (z0)) := by
  intro k hk
  obtain ⟨k, rfl⟩ : ∃ q, k = q + 1 := ⟨k - 1, by omega⟩
  unfold s_spec_l01Cells at h
  replace h := Option.some.inj h
  obtain rfl := h
  refine pFun_by [] rfl trivial ?_
  kernel_rfl
theorem lw_spec_l02Ok_b0 : ∀ (n : Nat) (a0 : Int) (a1 : Int) (a2 : Int) (a3 : Nat → Int) (a4 : Nat → Int) (a5 : Int) (r : Sum (Unit) (Bool)), l_spec_l02Ok_b0 n a0 a1 a2 a3 a4 a5 = some r → ∀ k m, n + 2 ≤ k → n ≤ m → LB E 125 0 k m ⟨[(0, (V.ref [(V.int .i8 (a0)), (V.int .i8 (a1)), (V.int .u8 (a2)), (V.ints .u8 64 (a3))] 0 (0) 67)), (1, (V.ref [(V.ints .i16 17 (a4))] 0 (0) 17)), (5, (V.int .i64 (a5)))], []⟩ = some (match r with | .inl _ => (.normal, ⟨[], []⟩) | .inr o0 => (.ret, ⟨[(4, (V.bool (o0)))], []⟩)) := by
  intro n
  induction n with
  | zero => intro a0 a1 a2 a3 a4 a5 r h; cases h
  | succ n ih =>
    intro a0 a1 a2 a3 a4 a5 r h k m hk hm
    obtain ⟨m, rfl⟩ : ∃ q, m = q + 1 := ⟨m - 1, by omega⟩
    replace hk : n + 2 ≤ k := by omega
    unfold l_spec_l02Ok_b0 at h
    rcases cnd_some h with ⟨h3, h⟩ | ⟨h3, h⟩
    · obtain ⟨c4, h⟩ := chk_some h
      obtain ⟨y5_0, q5, h⟩ := bnd_some h
      rcases cnd_some h with ⟨h6, h⟩ | ⟨h6, h⟩
      · obtain ⟨y7_0, q7, h⟩ := bnd_some h
        rcases cnd_some h with ⟨h8, h⟩ | ⟨h8, h⟩
        · rcases cnd_some h with ⟨h9, h⟩ | ⟨h9, h⟩
          · refine pNext_by [.b true, .v (V.bool (y5_0)), .b false, .v (V.int .i64 (y7_0)), .b true, .b false] (And.intro h3 (And.intro c4 (And.intro (w_spec_l02Amount q5 k (by omega)) (And.intro (not_f h6) (And.intro (w_spec_l01Cells q7 k (by omega)) (And.intro h8 (And.intro c4 (And.intro (not_f h9) trivial)))))))) (ih _ _ _ _ _ _ _ h k m hk (by omega)) ?_
            kernel_rfl
          · cases h
            refine pLast_by [.b true, .v (V.bool (y5_0)), .b false, .v (V.int .i64 (y7_0)), .b true, .b true] (And.intro h3 (And.intro c4 (And.intro (w_spec_l02Amount q5 k (by omega)) (And.intro (not_f h6) (And.intro (w_spec_l01Cells q7 k (by omega)) (And.intro h8 (And.intro c4 (And.intro (not_t h9) trivial)))))))) ?_
            kernel_rfl
        · refine pNext_by [.b true, .v (V.bool (y5_0)), .b false, .v (V.int .i64 (y7_0)), .b false, .b false] (And.intro h3 (And.intro c4 (And.intro (w_spec_l02Amount q5 k (by omega)) (And.intro (not_f h6) (And.intro (w_spec_l01Cells q7 k (by omega)) (And.intro h8 (And.intro (Eq.refl false) trivial))))))) (ih _ _ _ _ _ _ _ h k m hk (by omega)) ?_
          kernel_rfl
      · cases h
        refine pLast_by [.b true, .v (V.bool (y5_0)), .b true, .b true] (And.intro h3 (And.intro c4 (And.intro (w_spec_l02Amount q5 k (by omega)) (And.intro (not_t h6) (And.intro (Eq.refl true) trivial))))) ?_
        kernel_rfl
    · cases h
      refine pLast_by [.b false] (And.intro h3 trivial) ?_
      kernel_rfl
theorem w_spec_l02Ok {n : Nat} {a0 : Int} {a1 : Int} {a2 : Int} {a3 : Nat → Int} {a4 : Nat → Int} {z0 : Bool} (h : s_spec_l02Ok n a0 a1 a2 a3 a4 = some z0) : ∀ k, n + 4 ≤ k → sem E k 125 [(V.ref [(V.int .i8 (a0)), (V.int .i8 (a1)), (V.int .u8 (a2)), (V.ints .u8 64 (a3))] 0 (0) 67), (V.ref [(V.ints .i16 17 (a4))] 0 (0) 17)] = some (V.bool (z0)) := by
  intro k hk
  obtain ⟨k, rfl⟩ : ∃ q, k = q + 1 := ⟨k - 1, by omega⟩
  unfold s_spec_l02Ok at h
  obtain ⟨y1_0, q1, h⟩ := bnd_some h
  rcases cnd_some h with ⟨h2, h⟩ | ⟨h2, h⟩
  · obtain ⟨w, l10, h⟩ := bnd_some h
    rcases w with ⟨⟩ | u11_0
    · replace h := Option.some.inj h
      obtain rfl := h
      refine pFun_by [.v (V.bool (y1_0)), .b false, .l .normal ⟨[], []⟩] rfl (And.intro (w_spec_l01Ok q1 k (by omega)) (And.intro (not_f h2) (And.intro (lw_spec_l02Ok_b0 _ _ _ _ _ _ _ _ l10 k k (by omega) (by omega)) trivial))) ?_
      kernel_rfl
    · replace h := Option.some.inj h
      obtain rfl := h
      refine pFun_by [.v (V.bool (y1_0)), .b false, .l .ret ⟨[(4, (V.bool (u11_0)))], []⟩] rfl (And.intro (w_spec_l01Ok q1 k (by omega)) (And.intro (not_f h2) (And.intro (lw_spec_l02Ok_b0 _ _ _ _ _ _ _ _ l10 k k (by omega) (by omega)) trivial))) ?_
      kernel_rfl
  · replace h := Option.some.inj h
    obtain rfl := h
    refine pFun_by [.v (V.bool (y1_0)), .b true] rfl (And.intro (w_spec_l01Ok q1 k (by omega)) (And.intro (not_t h2) trivial)) ?_
    kernel_rfl
theorem w_spec_l03Inside {n : Nat} {a0 : Int} {a1 : Int} {a2 : Int} {a3 : Nat → Int} {a4 : Int} {a5 : Int} {z0 : Bool} (h : s_spec_l03Inside n a0 a1 a2 a3 a4 a5 = some z0) : ∀ k, n + 2 ≤ k → sem E k 234 [(V.ref [(V.int .i8 (a0)), (V.int .i8 (a1)), (V.int .u8 (a2)), (V.ints .u8 64 (a3))] 0 (0) 67), (V.int .i64 (a4)), (V.int .i64 (a5))] = some (V.bool (z0)) := by
  intro k hk
  obtain ⟨k, rfl⟩ : ∃ q, k = q + 1 := ⟨k - 1, by omega⟩
  unfold s_spec_l03Inside at h
  rcases cnd_some h with ⟨h1, h⟩ | ⟨h1, h⟩
  · obtain ⟨y2_0, q2, h⟩ := bnd_some h
    replace h := Option.some.inj h
    obtain rfl := h
    refine pFun_by [.b true, .v (V.int .i64 (y2_0))] rfl (And.intro h1 (And.intro (w_spec_l01Cells q2 k (by omega)) trivial)) ?_
    kernel_rfl
  · replace h := Option.some.inj h
    obtain rfl := h
    refine pFun_by [.b false] rfl (And.intro h1 trivial) ?_
    kernel_rfl
theorem lw_spec_l03Comes_b2 : ∀ (n : Nat) (a0 : Int) (a1 : Int) (a2 : Int) (a3 : Nat → Int) (a4 : Nat → Int) (a5 : Nat → Int) (a6 : Int) (a7 : Int) (a8 : Int) (a9 : Nat → Int) (a10 : Nat → Int) (r : Sum (Int × Int × Int × (Nat → Int) × (Nat → Int) × (Nat → Int) × Int × (Nat → Int) × (Nat → Int)) (Bool × (Nat → Int))), l_spec_l03Comes_b2 n a0 a1 a2 a3 a4 a5 a6 a7 a8 a9 a10 = some r → ∀ k m, n + 2 ≤ k → n ≤ m → LB E 198 2 k m ⟨[(0, (V.ref [(V.int .i8 (a0)), (V.int .i8 (a1)), (V.int .u8 (a2)), (V.ints .u8 64 (a3))] 0 (0) 67)), (1, (V.ref [(V.ints .i16 17 (a4))] 0 (0) 17)), (2, (V.ref [(V.ints .i32 136 (a5))] 0 (0) 136)), (6, (V.ptr 13 0 (0) 136)), (8, (V.ptr 17 0 (0) 136)), (9, (V.int .i64 (a6))), (10, (V.int .i64 (a7))), (11, (V.int .i64 (a8)))], [(13, .box [(V.ints .i32 136 (a9))]), (17, .box [(V.ints .i32 136 (a10))])]⟩ = some (match r with | .inl (o0, o1, o2, o3, o4, o5, o6, o7, o8) => (.normal, ⟨[(0, (V.ref [(V.int .i8 (o0)), (V.int .i8 (o1)), (V.int .u8 (o2)), (V.ints .u8 64 (o3))] 0 (0) 67)), (1, (V.ref [(V.ints .i16 17 (o4))] 0 (0) 17)), (2, (V.ref [(V.ints .i32 136 (o5))] 0 (0) 136)), (6, (V.ptr 13 0 (0) 136)), (8, (V.ptr 17 0 (0) 136)), (9, (V.int .i64 (o6)))], [(13, .box [(V.ints .i32 136 (o7))]), (17, .box [(V.ints .i32 136 (o8))])]⟩) | .inr (o0, o1) => (.ret, ⟨[(6, (V.ptr 13 0 (0) 136)), (7, (V.bool (o0)))], [(13, .box [(V.ints .i32 136 (o1))])]⟩)) := by
  intro n
  induction n with
  | zero => intro a0 a1 a2 a3 a4 a5 a6 a7 a8 a9 a10 r h; cases h
  | succ n ih =>
    intro a0 a1 a2 a3 a4 a5 a6 a7 a8 a9 a10 r h k m hk hm
    obtain ⟨m, rfl⟩ : ∃ q, m = q + 1 := ⟨m - 1, by omega⟩
    replace hk : n + 2 ≤ k := by omega
    unfold l_spec_l03Comes_b2 at h
    rcases cnd_some h with ⟨h3, h⟩ | ⟨h3, h⟩
    · obtain ⟨c4, h⟩ := chk_some h
      obtain ⟨c5, h⟩ := chk_some h
      rcases cnd_some h with ⟨h6, h⟩ | ⟨h6, h⟩
      · cases h
        refine pLast_by [.b true, .b true, .b true, .b true] (And.intro h3 (And.intro c4 (And.intro c5 (And.intro h6 (And.intro (Eq.refl true) (And.intro (Eq.refl true) trivial)))))) ?_
        kernel_rfl
      · rcases cnd_some h with ⟨h7, h⟩ | ⟨h7, h⟩
        · cases h
          refine pLast_by [.b true, .b false, .b true, .b true] (And.intro h3 (And.intro c4 (And.intro c5 (And.intro h6 (And.intro h7 (And.intro (Eq.refl true) trivial)))))) ?_
          kernel_rfl
        · rcases cnd_some h with ⟨h8, h⟩ | ⟨h8, h⟩
          · obtain ⟨y9_0, q9, h⟩ := bnd_some h
            rcases cnd_some h with ⟨h10, h⟩ | ⟨h10, h⟩
            · obtain ⟨y11_0, q11, h⟩ := bnd_some h
              rcases cnd_some h with ⟨h12, h⟩ | ⟨h12, h⟩
              · refine pNext_by [.b true, .b false, .b false, .b true, .v (V.bool (y9_0)), .b false, .v (V.bool (y11_0)), .b true] (And.intro h3 (And.intro c4 (And.intro c5 (And.intro h6 (And.intro h7 (And.intro h8 (And.intro (w_spec_l03Inside q9 k (by omega)) (And.intro (not_f h10) (And.intro (w_spec_l03Inside q11 k (by omega)) (And.intro h12 (And.intro c4 (And.intro c5 trivial)))))))))))) (ih _ _ _ _ _ _ _ _ _ _ _ _ h k m hk (by omega)) ?_
                kernel_rfl
              · refine pNext_by [.b true, .b false, .b false, .b true, .v (V.bool (y9_0)), .b false, .v (V.bool (y11_0)), .b false] (And.intro h3 (And.intro c4 (And.intro c5 (And.intro h6 (And.intro h7 (And.intro h8 (And.intro (w_spec_l03Inside q9 k (by omega)) (And.intro (not_f h10) (And.intro (w_spec_l03Inside q11 k (by omega)) (And.intro h12 trivial)))))))))) (ih _ _ _ _ _ _ _ _ _ _ _ _ h k m hk (by omega)) ?_
                kernel_rfl
            · cases h
              refine pLast_by [.b true, .b false, .b false, .b true, .v (V.bool (y9_0)), .b true] (And.intro h3 (And.intro c4 (And.intro c5 (And.intro h6 (And.intro h7 (And.intro h8 (And.intro (w_spec_l03Inside q9 k (by omega)) (And.intro (not_t h10) trivial)))))))) ?_
              kernel_rfl
          · obtain ⟨y13_0, q13, h⟩ := bnd_some h
            rcases cnd_some h with ⟨h14, h⟩ | ⟨h14, h⟩
            · refine pNext_by [.b true, .b false, .b false, .b false, .b false, .v (V.bool (y13_0)), .b true] (And.intro h3 (And.intro c4 (And.intro c5 (And.intro h6 (And.intro h7 (And.intro h8 (And.intro (Eq.refl false) (And.intro (w_spec_l03Inside q13 k (by omega)) (And.intro h14 (And.intro c4 (And.intro c5 trivial))))))))))) (ih _ _ _ _ _ _ _ _ _ _ _ _ h k m hk (by omega)) ?_
              kernel_rfl
            · refine pNext_by [.b true, .b false, .b false, .b false, .b false, .v (V.bool (y13_0)), .b false] (And.intro h3 (And.intro c4 (And.intro c5 (And.intro h6 (And.intro h7 (And.intro h8 (And.intro (Eq.refl false) (And.intro (w_spec_l03Inside q13 k (by omega)) (And.intro h14 trivial))))))))) (ih _ _ _ _ _ _ _ _ _ _ _ _ h k m hk (by omega)) ?_
              kernel_rfl
    · cases h
      refine pLast_by [.b false] (And.intro h3 trivial) ?_
      kernel_rfl
theorem lw_spec_l03Comes_b0 : ∀ (n : Nat) (a0 : Int) (a1 : Int) (a2 : Int) (a3 : Nat → Int) (a4 : Nat → Int) (a5 : Nat → Int) (a6 : Int) (a7 : Nat → Int) (a8 : Nat → Int) (r : Sum ((Nat → Int) × (Nat → Int)) (Bool × (Nat → Int))), l_spec_l03Comes_b0 n a0 a1 a2 a3 a4 a5 a6 a7 a8 = some r → ∀ k m, n + 2 ≤ k → n ≤ m → LB E 198 0 k m ⟨[(0, (V.ref [(V.int .i8 (a0)), (V.int .i8 (a1)), (V.int .u8 (a2)), (V.ints .u8 64 (a3))] 0 (0) 67)), (1, (V.ref [(V.ints .i16 17 (a4))] 0 (0) 17)), (2, (V.ref [(V.ints .i32 136 (a5))] 0 (0) 136)), (6, (V.ptr 13 0 (0) 136)), (8, (V.ptr 17 0 (0) 136)), (9, (V.int .i64 (a6)))], [(13, .box [(V.ints .i32 136 (a7))]), (17, .box [(V.ints .i32 136 (a8))])]⟩ = some (match r with | .inl (o0, o1) => (.normal, ⟨[(6, (V.ptr 13 0 (0) 136)), (8, (V.ptr 17 0 (0) 136))], [(13, .box [(V.ints .i32 136 (o0))]), (17, .box [(V.ints .i32 136 (o1))])]⟩) | .inr (o0, o1) => (.ret, ⟨[(6, (V.ptr 13 0 (0) 136)), (7, (V.bool (o0)))], [(13, .box [(V.ints .i32 136 (o1))])]⟩)) := by
  intro n
  induction n with
  | zero => intro a0 a1 a2 a3 a4 a5 a6 a7 a8 r h; cases h
  | succ n ih =>
    intro a0 a1 a2 a3 a4 a5 a6 a7 a8 r h k m hk hm
    obtain ⟨m, rfl⟩ : ∃ q, m = q + 1 := ⟨m - 1, by omega⟩
    replace hk : n + 2 ≤ k := by omega
    unfold l_spec_l03Comes_b0 at h
    rcases cnd_some h with ⟨h1, h⟩ | ⟨h1, h⟩
    · obtain ⟨c2, h⟩ := chk_some h
      obtain ⟨w, l15, h⟩ := bnd_some h
      rcases w with ⟨u15_0, u15_1, u15_2, u15_3, u15_4, u15_5, u15_6, u15_7, u15_8⟩ | ⟨u16_0, u16_1⟩
      · refine pNext_by [.b true, .l .normal ⟨[(0, (V.ref [(V.int .i8 (u15_0)), (V.int .i8 (u15_1)), (V.int .u8 (u15_2)), (V.ints .u8 64 (u15_3))] 0 (0) 67)), (1, (V.ref [(V.ints .i16 17 (u15_4))] 0 (0) 17)), (2, (V.ref [(V.ints .i32 136 (u15_5))] 0 (0) 136)), (6, (V.ptr 13 0 (0) 136)), (8, (V.ptr 17 0 (0) 136)), (9, (V.int .i64 (u15_6)))], [(13, .box [(V.ints .i32 136 (u15_7))]), (17, .box [(V.ints .i32 136 (u15_8))])]⟩] (And.intro h1 (And.intro c2 (And.intro (lw_spec_l03Comes_b2 _ _ _ _ _ _ _ _ _ _ _ _ _ l15 k k (by omega) (by omega)) trivial))) (ih _ _ _ _ _ _ _ _ _ _ h k m hk (by omega)) ?_
        kernel_rfl
      · cases h
        refine pLast_by [.b true, .l .ret ⟨[(6, (V.ptr 13 0 (0) 136)), (7, (V.bool (u16_0)))], [(13, .box [(V.ints .i32 136 (u16_1))])]⟩] (And.intro h1 (And.intro c2 (And.intro (lw_spec_l03Comes_b2 _ _ _ _ _ _ _ _ _ _ _ _ _ l15 k k (by omega) (by omega)) trivial))) ?_
        kernel_rfl
    · cases h
      refine pLast_by [.b false] (And.intro h1 trivial) ?_
      kernel_rfl
theorem w_spec_l03Comes {n : Nat} {a0 : Int} {a1 : Int} {a2 : Int} {a3 : Nat → Int} {a4 : Nat → Int} {a5 : Nat → Int} {z0 : Nat → Int} {z1 : Bool} (h : s_spec_l03Comes n a0 a1 a2 a3 a4 a5 = some (z0, z1)) : ∀ k, n + 3 ≤ k → sem E k 198 [(V.ref [(V.int .i8 (a0)), (V.int .i8 (a1)), (V.int .u8 (a2)), (V.ints .u8 64 (a3))] 0 (0) 67), (V.ref [(V.ints .i16 17 (a4))] 0 (0) 17), (V.ref [(V.ints .i32 136 (a5))] 0 (0) 136)] = some (V.tup [(V.ints .i32 136 (z0)), (V.bool (z1))]) := by
  intro k hk
  obtain ⟨k, rfl⟩ : ∃ q, k = q + 1 := ⟨k - 1, by omega⟩
  unfold s_spec_l03Comes at h
  obtain ⟨w, l18, h⟩ := bnd_some h
  rcases w with ⟨u18_0, u18_1⟩ | ⟨u19_0, u19_1⟩
  · simp only [Option.some.injEq, Prod.mk.injEq] at h
    obtain ⟨rfl, rfl⟩ := h
    refine pFun_by [.l .normal ⟨[(6, (V.ptr 13 0 (0) 136)), (8, (V.ptr 17 0 (0) 136))], [(13, .box [(V.ints .i32 136 (u18_0))]), (17, .box [(V.ints .i32 136 (u18_1))])]⟩] rfl (And.intro (lw_spec_l03Comes_b0 _ _ _ _ _ _ _ _ _ _ _ l18 k k (by omega) (by omega)) trivial) ?_
    kernel_rfl
  · simp only [Option.some.injEq, Prod.mk.injEq] at h
    obtain ⟨rfl, rfl⟩ := h
    refine pFun_by [.l .ret ⟨[(6, (V.ptr 13 0 (0) 136)), (7, (V.bool (u19_0)))], [(13, .box [(V.ints .i32 136 (u19_1))])]⟩] rfl (And.intro (lw_spec_l03Comes_b0 _ _ _ _ _ _ _ _ _ _ _ l18 k k (by omega) (by omega)) trivial) ?_
    kernel_rfl
theorem w_spec_l03Asked {n : Nat} {a0 : Int} {a1 : Int} {a2 : Int} {a3 : Nat → Int} {a4 : Nat → Int} {a5 : Nat → Int} {a6 : Bool} {z0 : Nat → Int} {z1 : Int} (h : s_spec_l03Asked n a0 a1 a2 a3 a4 a5 a6 = some (z0, z1)) : ∀ k, n + 5 ≤ k → sem E k 126 [(V.ref [(V.int .i8 (a0)), (V.int .i8 (a1)), (V.int .u8 (a2)), (V.ints .u8 64 (a3))] 0 (0) 67), (V.ref [(V.ints .i16 17 (a4))] 0 (0) 17), (V.ref [(V.ints .i32 136 (a5))] 0 (0) 136), (V.bool (a6))] = some (V.tup [(V.ints .i32 136 (z0)), (V.int .i64 (z1))]) := by
  intro k hk
  obtain ⟨k, rfl⟩ : ∃ q, k = q + 1 := ⟨k - 1, by omega⟩
  unfold s_spec_l03Asked at h
  obtain ⟨y1_0, q1, h⟩ := bnd_some h
  rcases cnd_some h with ⟨h2, h⟩ | ⟨h2, h⟩
  · rcases cnd_some h with ⟨h3, h⟩ | ⟨h3, h⟩
    · obtain ⟨⟨y4_0, y4_1⟩, q4, h⟩ := bnd_some h
      rcases cnd_some h with ⟨h5, h⟩ | ⟨h5, h⟩
      · simp only [Option.some.injEq, Prod.mk.injEq] at h
        obtain ⟨rfl, rfl⟩ := h
        refine pFun_by [.v (V.bool (y1_0)), .b false, .b false, .v (V.tup [(V.ints .i32 136 (y4_0)), (V.bool (y4_1))]), .b false] rfl (And.intro (w_spec_l02Ok q1 k (by omega)) (And.intro (not_f h2) (And.intro (not_f h3) (And.intro (w_spec_l03Comes q4 k (by omega)) (And.intro (not_f h5) trivial))))) ?_
        kernel_rfl
      · simp only [Option.some.injEq, Prod.mk.injEq] at h
        obtain ⟨rfl, rfl⟩ := h
        refine pFun_by [.v (V.bool (y1_0)), .b false, .b false, .v (V.tup [(V.ints .i32 136 (y4_0)), (V.bool (y4_1))]), .b true] rfl (And.intro (w_spec_l02Ok q1 k (by omega)) (And.intro (not_f h2) (And.intro (not_f h3) (And.intro (w_spec_l03Comes q4 k (by omega)) (And.intro (not_t h5) trivial))))) ?_
        kernel_rfl
    · simp only [Option.some.injEq, Prod.mk.injEq] at h
      obtain ⟨rfl, rfl⟩ := h
      refine pFun_by [.v (V.bool (y1_0)), .b false, .b true] rfl (And.intro (w_spec_l02Ok q1 k (by omega)) (And.intro (not_f h2) (And.intro (not_t h3) trivial))) ?_
      kernel_rfl
  · simp only [Option.some.injEq, Prod.mk.injEq] at h
    obtain ⟨rfl, rfl⟩ := h
    refine pFun_by [.v (V.bool (y1_0)), .b true] rfl (And.intro (w_spec_l02Ok q1 k (by omega)) (And.intro (not_t h2) trivial)) ?_
    kernel_rfl
theorem w_spec_l01By {n : Nat} {a0 : Int} {a1 : Int} {a2 : Int} {a3 : Nat → Int} {a4 : Int} {z0 : Int} (h : s_spec_l01By n a0 a1 a2 a3 a4 = some z0) : ∀ k, n + 1 ≤ k → sem E k 227 [(V.ref [(V.int .i8 (a0)), (V.int .i8 (a1)), (V.int .u8 (a2)), (V.ints .u8 64 (a3))] 0 (0) 67), (V.int .i64 (a4))] = some (V.int .i64 (z0)) := by
  intro k hk
  obtain ⟨k, rfl⟩ : ∃ q, k = q + 1 := ⟨k - 1, by omega⟩
  unfold s_spec_l01By at h
  replace h := Option.some.inj h
  obtain rfl := h
  refine pFun_by [] rfl (And.intro (Eq.refl true) trivial) ?_
  kernel_rfl
theorem w_spec_l01First {n : Nat} {a0 : Int} {a1 : Int} {a2 : Int} {a3 : Nat → Int} {a4 : Int} {a5 : Int} {z0 : Int} (h : s_spec_l01First n a0 a1 a2 a3 a4 a5 = some z0) : ∀ k, n + 2 ≤ k → sem E k 165 [(V.ref [(V.int .i8 (a0)), (V.int .i8 (a1)), (V.int .u8 (a2)), (V.ints .u8 64 (a3))] 0 (0) 67), (V.parts [(V.int .i8 (a4)), (V.int .i8 (a5))])] = some (V.int .i64 (z0)) := by
  intro k hk
  obtain ⟨k, rfl⟩ : ∃ q, k = q + 1 := ⟨k - 1, by omega⟩
  unfold s_spec_l01First at h
  obtain ⟨y1_0, q1, h⟩ := bnd_some h
  replace h := Option.some.inj h
  obtain rfl := h
  refine pFun_by [.v (V.int .i64 (y1_0))] rfl (And.intro (w_spec_l01By q1 k (by omega)) trivial) ?_
  kernel_rfl
theorem w_spec_l03Drop {n : Nat} {a0 : Int} {a1 : Int} {z0 : Int} (h : s_spec_l03Drop n a0 a1 = some z0) : ∀ k, n + 1 ≤ k → sem E k 199 [(V.int .i64 (a0)), (V.int .i64 (a1))] = some (V.int .i64 (z0)) := by
  intro k hk
  obtain ⟨k, rfl⟩ : ∃ q, k = q + 1 := ⟨k - 1, by omega⟩
  unfold s_spec_l03Drop at h
  rcases cnd_some h with ⟨h1, h⟩ | ⟨h1, h⟩
  · replace h := Option.some.inj h
    obtain rfl := h
    refine pFun_by [.b true] rfl (And.intro h1 (And.intro (Eq.refl true) trivial)) ?_
    kernel_rfl
  · rcases cnd_some h with ⟨h2, h⟩ | ⟨h2, h⟩
    · replace h := Option.some.inj h
      obtain rfl := h
      refine pFun_by [.b false, .b true] rfl (And.intro h1 (And.intro h2 (And.intro (Eq.refl true) trivial))) ?_
      kernel_rfl
    · rcases cnd_some h with ⟨h3, h⟩ | ⟨h3, h⟩
      · replace h := Option.some.inj h
        obtain rfl := h
        refine pFun_by [.b false, .b false, .b true] rfl (And.intro h1 (And.intro h2 (And.intro h3 trivial))) ?_
        kernel_rfl
      · replace h := Option.some.inj h
        obtain rfl := h
        refine pFun_by [.b false, .b false, .b false] rfl (And.intro h1 (And.intro h2 (And.intro h3 trivial))) ?_
        kernel_rfl
theorem lw_spec_l03Kinds_b2 : ∀ (n : Nat) (a0 : Nat → Int) (a1 : Nat → Int) (a2 : Int) (a3 : Int) (a4 : Int) (a5 : Bool) (a6 : Int) (a7 : Int) (a8 : Int) (r : (Nat → Int) × (Nat → Int) × Int × Int × Int × Bool × Int × Int), l_spec_l03Kinds_b2 n a0 a1 a2 a3 a4 a5 a6 a7 a8 = some r → ∀ k m, n + 1 ≤ k → n ≤ m → LB E 128 2 k m ⟨[(1, (V.ref [(V.ints .i32 136 (a0))] 0 (0) 136)), (2, (V.ref [(V.ints .i32 136 (a1))] 0 (0) 136)), (7, (V.ptr 15 0 (0) 2)), (9, (V.int .u8 (a2))), (10, (V.int .i64 (a3))), (11, (V.int .i64 (a4))), (12, (V.bool (a5))), (13, (V.int .i64 (a6)))], [(15, .box [(V.int .i8 (a7)), (V.int .i8 (a8))])]⟩ = some (match r with | (o0, o1, o2, o3, o4, o5, o6, o7) => (.normal, ⟨[(1, (V.ref [(V.ints .i32 136 (o0))] 0 (0) 136)), (2, (V.ref [(V.ints .i32 136 (o1))] 0 (0) 136)), (7, (V.ptr 15 0 (0) 2)), (9, (V.int .u8 (o2))), (10, (V.int .i64 (o3))), (11, (V.int .i64 (o4))), (12, (V.bool (o5)))], [(15, .box [(V.int .i8 (o6)), (V.int .i8 (o7))])]⟩)) := by
  intro n
  induction n with
  | zero => intro a0 a1 a2 a3 a4 a5 a6 a7 a8 r h; cases h
  | succ n ih =>
    intro a0 a1 a2 a3 a4 a5 a6 a7 a8 r h k m hk hm
    obtain ⟨m, rfl⟩ : ∃ q, m = q + 1 := ⟨m - 1, by omega⟩
    replace hk : n + 1 ≤ k := by omega
    unfold l_spec_l03Kinds_b2 at h
    rcases cnd_some h with ⟨h3, h⟩ | ⟨h3, h⟩
    · obtain ⟨c4, h⟩ := chk_some h
      obtain ⟨c5, h⟩ := chk_some h
      rcases cnd_some h with ⟨h6, h⟩ | ⟨h6, h⟩
      · obtain ⟨y7_0, q7, h⟩ := bnd_some h
        rcases cnd_some h with ⟨h8, h⟩ | ⟨h8, h⟩
        · refine pNext_by [.b true, .b true, .v (V.int .i64 (y7_0)), .b true] (And.intro h3 (And.intro c4 (And.intro c5 (And.intro c4 (And.intro c5 (And.intro h6 (And.intro (w_spec_l03Drop q7 k (by omega)) (And.intro h8 trivial)))))))) (ih _ _ _ _ _ _ _ _ _ _ h k m hk (by omega)) ?_
          kernel_rfl
        · rcases cnd_some h with ⟨h9, h⟩ | ⟨h9, h⟩
          · refine pNext_by [.b true, .b true, .v (V.int .i64 (y7_0)), .b false, .b true] (And.intro h3 (And.intro c4 (And.intro c5 (And.intro c4 (And.intro c5 (And.intro h6 (And.intro (w_spec_l03Drop q7 k (by omega)) (And.intro h8 (And.intro h9 trivial))))))))) (ih _ _ _ _ _ _ _ _ _ _ h k m hk (by omega)) ?_
            kernel_rfl
          · refine pNext_by [.b true, .b true, .v (V.int .i64 (y7_0)), .b false, .b false] (And.intro h3 (And.intro c4 (And.intro c5 (And.intro c4 (And.intro c5 (And.intro h6 (And.intro (w_spec_l03Drop q7 k (by omega)) (And.intro h8 (And.intro h9 trivial))))))))) (ih _ _ _ _ _ _ _ _ _ _ h k m hk (by omega)) ?_
            kernel_rfl
      · refine pNext_by [.b true, .b false] (And.intro h3 (And.intro c4 (And.intro c5 (And.intro c4 (And.intro c5 (And.intro h6 trivial)))))) (ih _ _ _ _ _ _ _ _ _ _ h k m hk (by omega)) ?_
        kernel_rfl
    · cases h
      refine pLast_by [.b false] (And.intro h3 trivial) ?_
      kernel_rfl
theorem lw_spec_l03Kinds_b0 : ∀ (n : Nat) (a0 : Nat → Int) (a1 : Nat → Int) (a2 : Int) (a3 : Int) (a4 : Int) (a5 : Int) (a6 : Int) (r : Int), l_spec_l03Kinds_b0 n a0 a1 a2 a3 a4 a5 a6 = some r → ∀ k m, n + 1 ≤ k → n ≤ m → LB E 128 0 k m ⟨[(1, (V.ref [(V.ints .i32 136 (a0))] 0 (0) 136)), (2, (V.ref [(V.ints .i32 136 (a1))] 0 (0) 136)), (7, (V.ptr 15 0 (0) 2)), (9, (V.int .u8 (a2))), (10, (V.int .i64 (a3))), (11, (V.int .i64 (a4)))], [(15, .box [(V.int .i8 (a5)), (V.int .i8 (a6))])]⟩ = some (match r with | o0 => (.normal, ⟨[(9, (V.int .u8 (o0)))], []⟩)) := by
  intro n
  induction n with
  | zero => intro a0 a1 a2 a3 a4 a5 a6 r h; cases h
  | succ n ih =>
    intro a0 a1 a2 a3 a4 a5 a6 r h k m hk hm
    obtain ⟨m, rfl⟩ : ∃ q, m = q + 1 := ⟨m - 1, by omega⟩
    replace hk : n + 1 ≤ k := by omega
    unfold l_spec_l03Kinds_b0 at h
    rcases cnd_some h with ⟨h2, h⟩ | ⟨h2, h⟩
    · obtain ⟨⟨u10_0, u10_1, u10_2, u10_3, u10_4, u10_5, u10_6, u10_7⟩, l10, h⟩ := bnd_some h
      rcases cnd_some h with ⟨h12, h⟩ | ⟨h12, h⟩
      · obtain ⟨c13, h⟩ := chk_some h
        refine pNext_by [.b true, .l .normal ⟨[(1, (V.ref [(V.ints .i32 136 (u10_0))] 0 (0) 136)), (2, (V.ref [(V.ints .i32 136 (u10_1))] 0 (0) 136)), (7, (V.ptr 15 0 (0) 2)), (9, (V.int .u8 (u10_2))), (10, (V.int .i64 (u10_3))), (11, (V.int .i64 (u10_4))), (12, (V.bool (u10_5)))], [(15, .box [(V.int .i8 (u10_6)), (V.int .i8 (u10_7))])]⟩, .b true] (And.intro h2 (And.intro (lw_spec_l03Kinds_b2 _ _ _ _ _ _ _ _ _ _ _ l10 k k (by omega) (by omega)) (And.intro h12 (And.intro c13 trivial)))) (ih _ _ _ _ _ _ _ _ h k m hk (by omega)) ?_
        kernel_rfl
      · refine pNext_by [.b true, .l .normal ⟨[(1, (V.ref [(V.ints .i32 136 (u10_0))] 0 (0) 136)), (2, (V.ref [(V.ints .i32 136 (u10_1))] 0 (0) 136)), (7, (V.ptr 15 0 (0) 2)), (9, (V.int .u8 (u10_2))), (10, (V.int .i64 (u10_3))), (11, (V.int .i64 (u10_4))), (12, (V.bool (u10_5)))], [(15, .box [(V.int .i8 (u10_6)), (V.int .i8 (u10_7))])]⟩, .b false] (And.intro h2 (And.intro (lw_spec_l03Kinds_b2 _ _ _ _ _ _ _ _ _ _ _ l10 k k (by omega) (by omega)) (And.intro h12 trivial))) (ih _ _ _ _ _ _ _ _ h k m hk (by omega)) ?_
        kernel_rfl
    · cases h
      refine pLast_by [.b false] (And.intro h2 trivial) ?_
      kernel_rfl
theorem w_spec_l03Kinds {n : Nat} {a0 : Int} {a1 : Int} {a2 : Int} {a3 : Nat → Int} {a4 : Nat → Int} {a5 : Nat → Int} {a6 : Int} {a7 : Int} {z0 : Int} (h : s_spec_l03Kinds n a0 a1 a2 a3 a4 a5 a6 a7 = some z0) : ∀ k, n + 3 ≤ k → sem E k 128 [(V.ref [(V.int .i8 (a0)), (V.int .i8 (a1)), (V.int .u8 (a2)), (V.ints .u8 64 (a3))] 0 (0) 67), (V.ref [(V.ints .i32 136 (a4))] 0 (0) 136), (V.ref [(V.ints .i32 136 (a5))] 0 (0) 136), (V.parts [(V.int .i8 (a6)), (V.int .i8 (a7))])] = some (V.int .u8 (z0)) := by
  intro k hk
  obtain ⟨k, rfl⟩ : ∃ q, k = q + 1 := ⟨k - 1, by omega⟩
  unfold s_spec_l03Kinds at h
  obtain ⟨y1_0, q1, h⟩ := bnd_some h
  obtain ⟨u14_0, l14, h⟩ := bnd_some h
  replace h := Option.some.inj h
  obtain rfl := h
  refine pFun_by [.v (V.int .i64 (y1_0)), .l .normal ⟨[(9, (V.int .u8 (u14_0)))], []⟩] rfl (And.intro (w_spec_l01First q1 k (by omega)) (And.intro (lw_spec_l03Kinds_b0 _ _ _ _ _ _ _ _ _ l14 k k (by omega) (by omega)) trivial)) ?_
  kernel_rfl
theorem w_spec_KindsFor {n : Nat} {a0 : Int} {a1 : Int} {a2 : Int} {a3 : Nat → Int} {a4 : Nat → Int} {a5 : Nat → Int} {a6 : Int} {a7 : Int} {z0 : Int} {z1 : Int} (h : s_spec_KindsFor n a0 a1 a2 a3 a4 a5 a6 a7 = some (z0, z1)) : ∀ k, n + 6 ≤ k → sem E k 44 [(V.parts [(V.int .i8 (a0)), (V.int .i8 (a1)), (V.int .u8 (a2)), (V.ints .u8 64 (a3))]), (V.ints .i16 17 (a4)), (V.ints .i32 136 (a5)), (V.parts [(V.int .i8 (a6)), (V.int .i8 (a7))])] = some (V.tup [(V.int .u8 (z0)), (V.int .i64 (z1))]) := by
  intro k hk
  obtain ⟨k, rfl⟩ : ∃ q, k = q + 1 := ⟨k - 1, by omega⟩
  unfold s_spec_KindsFor at h
  obtain ⟨y1_0, q1, h⟩ := bnd_some h
  rcases cnd_some h with ⟨h2, h⟩ | ⟨h2, h⟩
  · obtain ⟨y3_0, q3, h⟩ := bnd_some h
    obtain ⟨⟨y4_0, y4_1⟩, q4, h⟩ := bnd_some h
    rcases cnd_some h with ⟨h5, h⟩ | ⟨h5, h⟩
    · obtain ⟨y6_0, q6, h⟩ := bnd_some h
      simp only [Option.some.injEq, Prod.mk.injEq] at h
      obtain ⟨rfl, rfl⟩ := h
      refine pFun_by [.v (V.bool (y1_0)), .b false, .v (V.bool (y3_0)), .v (V.tup [(V.ints .i32 136 (y4_0)), (V.int .i64 (y4_1))]), .b false, .v (V.int .u8 (y6_0))] rfl (And.intro (w_spec_l02Ok q1 k (by omega)) (And.intro (Eq.refl true) (And.intro (not_f h2) (And.intro (w_spec_l01Is q3 k (by omega)) (And.intro (Eq.refl true) (And.intro (w_spec_l03Asked q4 k (by omega)) (And.intro (Eq.refl true) (And.intro (not_f h5) (And.intro (w_spec_l03Kinds q6 k (by omega)) (And.intro (Eq.refl true) trivial)))))))))) ?_
      kernel_rfl
    · simp only [Option.some.injEq, Prod.mk.injEq] at h
      obtain ⟨rfl, rfl⟩ := h
      refine pFun_by [.v (V.bool (y1_0)), .b false, .v (V.bool (y3_0)), .v (V.tup [(V.ints .i32 136 (y4_0)), (V.int .i64 (y4_1))]), .b true] rfl (And.intro (w_spec_l02Ok q1 k (by omega)) (And.intro (Eq.refl true) (And.intro (not_f h2) (And.intro (w_spec_l01Is q3 k (by omega)) (And.intro (Eq.refl true) (And.intro (w_spec_l03Asked q4 k (by omega)) (And.intro (Eq.refl true) (And.intro (not_t h5) trivial)))))))) ?_
      kernel_rfl
  · simp only [Option.some.injEq, Prod.mk.injEq] at h
    obtain ⟨rfl, rfl⟩ := h
    refine pFun_by [.v (V.bool (y1_0)), .b true] rfl (And.intro (w_spec_l02Ok q1 k (by omega)) (And.intro (Eq.refl true) (And.intro (not_t h2) trivial))) ?_
    kernel_rfl
theorem w_impl_within_int8 {n : Nat} {a0 : Int} {a1 : Int} {a2 : Int} {z0 : Bool} (h : s_impl_within_int8 n a0 a1 a2 = some z0) : ∀ k, n + 1 ≤ k → sem E k 187 [(V.int .i8 (a0)), (V.int .i8 (a1)), (V.int .i8 (a2))] = some (V.bool (z0)) := by
  intro k hk
  obtain ⟨k, rfl⟩ : ∃ q, k = q + 1 := ⟨k - 1, by omega⟩
  unfold s_impl_within_int8 at h
  rcases cnd_some h with ⟨h1, h⟩ | ⟨h1, h⟩
  · replace h := Option.some.inj h
    obtain rfl := h
    refine pFun_by [.b true] rfl (And.intro h1 trivial) ?_
    kernel_rfl
  · replace h := Option.some.inj h
    obtain rfl := h
    refine pFun_by [.b false] rfl (And.intro h1 trivial) ?_
    kernel_rfl
theorem w_impl_Roof_has {n : Nat} {a0 : Int} {a1 : Int} {a2 : Int} {a3 : Nat → Int} {a4 : Int} {a5 : Int} {z0 : Bool} (h : s_impl_Roof_has n a0 a1 a2 a3 a4 a5 = some z0) : ∀ k, n + 2 ≤ k → sem E k 132 [(V.parts [(V.int .i8 (a0)), (V.int .i8 (a1)), (V.int .u8 (a2)), (V.ints .u8 64 (a3))]), (V.parts [(V.int .i8 (a4)), (V.int .i8 (a5))])] = some (V.bool (z0)) := by
  intro k hk
  obtain ⟨k, rfl⟩ : ∃ q, k = q + 1 := ⟨k - 1, by omega⟩
  unfold s_impl_Roof_has at h
  obtain ⟨y1_0, q1, h⟩ := bnd_some h
  rcases cnd_some h with ⟨h2, h⟩ | ⟨h2, h⟩
  · obtain ⟨y3_0, q3, h⟩ := bnd_some h
    replace h := Option.some.inj h
    obtain rfl := h
    refine pFun_by [.v (V.bool (y1_0)), .b true, .v (V.bool (y3_0))] rfl (And.intro (w_impl_within_int8 q1 k (by omega)) (And.intro h2 (And.intro (w_impl_within_int8 q3 k (by omega)) trivial))) ?_
    kernel_rfl
  · replace h := Option.some.inj h
    obtain rfl := h
    refine pFun_by [.v (V.bool (y1_0)), .b false] rfl (And.intro (w_impl_within_int8 q1 k (by omega)) (And.intro h2 trivial)) ?_
    kernel_rfl
theorem lw_impl_ValidRoof_b2 : ∀ (n : Nat) (a0 : Int) (a1 : Nat → Int) (a2 : Int) (a3 : Nat → Int) (a4 : Int) (a5 : Int) (a6 : Int) (a7 : Int) (a8 : Nat → Int) (r : Sum ((Nat → Int) × Int × Int × Int × Int × (Nat → Int)) (Bool)), l_impl_ValidRoof_b2 n a0 a1 a2 a3 a4 a5 a6 a7 a8 = some r → ∀ k m, n + 0 ≤ k → n ≤ m → LB E 180 2 k m ⟨[(1, (V.ptr 3 0 (0) 67)), (3, (V.int .i64 (a0))), (23, (V.ints .u8 64 (a1))), (24, (V.int .i64 (a2))), (28, (V.ints .u8 8 (a3))), (29, (V.int .i64 (a4)))], [(3, .box [(V.int .i8 (a5)), (V.int .i8 (a6)), (V.int .u8 (a7)), (V.ints .u8 64 (a8))])]⟩ = some (match r with | .inl (o0, o1, o2, o3, o4, o5) => (.normal, ⟨[(1, (V.ptr 3 0 (0) 67)), (23, (V.ints .u8 64 (o0))), (24, (V.int .i64 (o1)))], [(3, .box [(V.int .i8 (o2)), (V.int .i8 (o3)), (V.int .u8 (o4)), (V.ints .u8 64 (o5))])]⟩) | .inr o0 => (.ret, ⟨[(2, (V.bool (o0)))], []⟩)) := by
  intro n
  induction n with
  | zero => intro a0 a1 a2 a3 a4 a5 a6 a7 a8 r h; cases h
  | succ n ih =>
    intro a0 a1 a2 a3 a4 a5 a6 a7 a8 r h k m hk hm
    obtain ⟨m, rfl⟩ : ∃ q, m = q + 1 := ⟨m - 1, by omega⟩
    replace hk : n + 0 ≤ k := by omega
    unfold l_impl_ValidRoof_b2 at h
    rcases cnd_some h with ⟨h8, h⟩ | ⟨h8, h⟩
    · obtain ⟨c9, h⟩ := chk_some h
      rcases cnd_some h with ⟨h10, h⟩ | ⟨h10, h⟩
      · cases h
        refine pLast_by [.b true, .b true, .b true] (And.intro h8 (And.intro c9 (And.intro h10 (And.intro (Eq.refl true) trivial)))) ?_
        kernel_rfl
      · rcases cnd_some h with ⟨h11, h⟩ | ⟨h11, h⟩
        · refine pNext_by [.b true, .b false, .b false, .b false] (And.intro h8 (And.intro c9 (And.intro h10 (And.intro (not_f h11) (And.intro (Eq.refl false) trivial))))) (ih _ _ _ _ _ _ _ _ _ _ h k m hk (by omega)) ?_
          kernel_rfl
        · rcases cnd_some h with ⟨h12, h⟩ | ⟨h12, h⟩
          · cases h
            refine pLast_by [.b true, .b false, .b true, .b true, .b true] (And.intro h8 (And.intro c9 (And.intro h10 (And.intro (not_t h11) (And.intro h12 (And.intro (Eq.refl true) trivial)))))) ?_
            kernel_rfl
          · rcases cnd_some h with ⟨h13, h⟩ | ⟨h13, h⟩
            · cases h
              refine pLast_by [.b true, .b false, .b true, .b false, .b true] (And.intro h8 (And.intro c9 (And.intro h10 (And.intro (not_t h11) (And.intro h12 (And.intro h13 trivial)))))) ?_
              kernel_rfl
            · refine pNext_by [.b true, .b false, .b true, .b false, .b false] (And.intro h8 (And.intro c9 (And.intro h10 (And.intro (not_t h11) (And.intro h12 (And.intro h13 trivial)))))) (ih _ _ _ _ _ _ _ _ _ _ h k m hk (by omega)) ?_
              kernel_rfl
    · cases h
      refine pLast_by [.b false] (And.intro h8 trivial) ?_
      kernel_rfl
theorem lw_impl_ValidRoof_b0 : ∀ (n : Nat) (a0 : Nat → Int) (a1 : Int) (a2 : Int) (a3 : Int) (a4 : Int) (a5 : Nat → Int) (r : Sum (Unit) (Bool)), l_impl_ValidRoof_b0 n a0 a1 a2 a3 a4 a5 = some r → ∀ k m, n + 0 ≤ k → n ≤ m → LB E 180 0 k m ⟨[(1, (V.ptr 3 0 (0) 67)), (23, (V.ints .u8 64 (a0))), (24, (V.int .i64 (a1)))], [(3, .box [(V.int .i8 (a2)), (V.int .i8 (a3)), (V.int .u8 (a4)), (V.ints .u8 64 (a5))])]⟩ = some (match r with | .inl _ => (.normal, ⟨[], []⟩) | .inr o0 => (.ret, ⟨[(2, (V.bool (o0)))], []⟩)) := by
  intro n
  induction n with
  | zero => intro a0 a1 a2 a3 a4 a5 r h; cases h
  | succ n ih =>
    intro a0 a1 a2 a3 a4 a5 r h k m hk hm
    obtain ⟨m, rfl⟩ : ∃ q, m = q + 1 := ⟨m - 1, by omega⟩
    replace hk : n + 0 ≤ k := by omega
    unfold l_impl_ValidRoof_b0 at h
    rcases cnd_some h with ⟨h6, h⟩ | ⟨h6, h⟩
    · obtain ⟨c7, h⟩ := chk_some h
      obtain ⟨w, l14, h⟩ := bnd_some h
      rcases w with ⟨u14_0, u14_1, u14_2, u14_3, u14_4, u14_5⟩ | u15_0
      · refine pNext_by [.b true, .l .normal ⟨[(1, (V.ptr 3 0 (0) 67)), (23, (V.ints .u8 64 (u14_0))), (24, (V.int .i64 (u14_1)))], [(3, .box [(V.int .i8 (u14_2)), (V.int .i8 (u14_3)), (V.int .u8 (u14_4)), (V.ints .u8 64 (u14_5))])]⟩] (And.intro h6 (And.intro c7 (And.intro (lw_impl_ValidRoof_b2 _ _ _ _ _ _ _ _ _ _ _ l14 k k (by omega) (by omega)) trivial))) (ih _ _ _ _ _ _ _ h k m hk (by omega)) ?_
        kernel_rfl
      · cases h
        refine pLast_by [.b true, .l .ret ⟨[(2, (V.bool (u15_0)))], []⟩] (And.intro h6 (And.intro c7 (And.intro (lw_impl_ValidRoof_b2 _ _ _ _ _ _ _ _ _ _ _ l14 k k (by omega) (by omega)) trivial))) ?_
        kernel_rfl
    · cases h
      refine pLast_by [.b false] (And.intro h6 trivial) ?_
      kernel_rfl
theorem w_impl_ValidRoof {n : Nat} {a0 : Int} {a1 : Int} {a2 : Int} {a3 : Nat → Int} {z0 : Bool} (h : s_impl_ValidRoof n a0 a1 a2 a3 = some z0) : ∀ k, n + 2 ≤ k → sem E k 180 [(V.parts [(V.int .i8 (a0)), (V.int .i8 (a1)), (V.int .u8 (a2)), (V.ints .u8 64 (a3))])] = some (V.bool (z0)) := by
  intro k hk
  obtain ⟨k, rfl⟩ : ∃ q, k = q + 1 := ⟨k - 1, by omega⟩
  unfold s_impl_ValidRoof at h
  obtain ⟨y1_0, q1, h⟩ := bnd_some h
  rcases cnd_some h with ⟨h2, h⟩ | ⟨h2, h⟩
  · obtain ⟨y3_0, q3, h⟩ := bnd_some h
    rcases cnd_some h with ⟨h4, h⟩ | ⟨h4, h⟩
    · rcases cnd_some h with ⟨h5, h⟩ | ⟨h5, h⟩
      · replace h := Option.some.inj h
        obtain rfl := h
        refine pFun_by [.v (V.bool (y1_0)), .b false, .v (V.bool (y3_0)), .b false, .b true] rfl (And.intro (w_impl_within_int8 q1 k (by omega)) (And.intro (not_f h2) (And.intro (w_impl_within_int8 q3 k (by omega)) (And.intro (not_f h4) (And.intro h5 trivial))))) ?_
        kernel_rfl
      · obtain ⟨w, l17, h⟩ := bnd_some h
        rcases w with ⟨⟩ | u18_0
        · replace h := Option.some.inj h
          obtain rfl := h
          refine pFun_by [.v (V.bool (y1_0)), .b false, .v (V.bool (y3_0)), .b false, .b false, .l .normal ⟨[], []⟩] rfl (And.intro (w_impl_within_int8 q1 k (by omega)) (And.intro (not_f h2) (And.intro (w_impl_within_int8 q3 k (by omega)) (And.intro (not_f h4) (And.intro h5 (And.intro (lw_impl_ValidRoof_b0 _ _ _ _ _ _ _ _ l17 k k (by omega) (by omega)) trivial)))))) ?_
          kernel_rfl
        · replace h := Option.some.inj h
          obtain rfl := h
          refine pFun_by [.v (V.bool (y1_0)), .b false, .v (V.bool (y3_0)), .b false, .b false, .l .ret ⟨[(2, (V.bool (u18_0)))], []⟩] rfl (And.intro (w_impl_within_int8 q1 k (by omega)) (And.intro (not_f h2) (And.intro (w_impl_within_int8 q3 k (by omega)) (And.intro (not_f h4) (And.intro h5 (And.intro (lw_impl_ValidRoof_b0 _ _ _ _ _ _ _ _ l17 k k (by omega) (by omega)) trivial)))))) ?_
          kernel_rfl
    · replace h := Option.some.inj h
      obtain rfl := h
      refine pFun_by [.v (V.bool (y1_0)), .b false, .v (V.bool (y3_0)), .b true, .b true] rfl (And.intro (w_impl_within_int8 q1 k (by omega)) (And.intro (not_f h2) (And.intro (w_impl_within_int8 q3 k (by omega)) (And.intro (not_t h4) (And.intro (Eq.refl true) trivial))))) ?_
      kernel_rfl
  · replace h := Option.some.inj h
    obtain rfl := h
    refine pFun_by [.v (V.bool (y1_0)), .b true, .b true, .b true] rfl (And.intro (w_impl_within_int8 q1 k (by omega)) (And.intro (not_t h2) (And.intro (Eq.refl true) (And.intro (Eq.refl true) trivial)))) ?_
    kernel_rfl
theorem w_impl_within_int64 {n : Nat} {a0 : Int} {a1 : Int} {a2 : Int} {z0 : Bool} (h : s_impl_within_int64 n a0 a1 a2 = some z0) : ∀ k, n + 1 ≤ k → sem E k 91 [(V.int .i64 (a0)), (V.int .i64 (a1)), (V.int .i64 (a2))] = some (V.bool (z0)) := by
  intro k hk
  obtain ⟨k, rfl⟩ : ∃ q, k = q + 1 := ⟨k - 1, by omega⟩
  unfold s_impl_within_int64 at h
  rcases cnd_some h with ⟨h1, h⟩ | ⟨h1, h⟩
  · replace h := Option.some.inj h
    obtain rfl := h
    refine pFun_by [.b true] rfl (And.intro h1 trivial) ?_
    kernel_rfl
  · replace h := Option.some.inj h
    obtain rfl := h
    refine pFun_by [.b false] rfl (And.intro h1 trivial) ?_
    kernel_rfl
theorem w_impl_isAmount_int16 {n : Nat} {a0 : Int} {z0 : Bool} (h : s_impl_isAmount_int16 n a0 = some z0) : ∀ k, n + 2 ≤ k → sem E k 243 [(V.int .i16 (a0))] = some (V.bool (z0)) := by
  intro k hk
  obtain ⟨k, rfl⟩ : ∃ q, k = q + 1 := ⟨k - 1, by omega⟩
  unfold s_impl_isAmount_int16 at h
  obtain ⟨y1_0, q1, h⟩ := bnd_some h
  replace h := Option.some.inj h
  obtain rfl := h
  refine pFun_by [.v (V.bool (y1_0))] rfl (And.intro (w_impl_within_int64 q1 k (by omega)) trivial) ?_
  kernel_rfl
theorem w_impl_Roof_cells {n : Nat} {a0 : Int} {a1 : Int} {a2 : Int} {a3 : Nat → Int} {z0 : Int} (h : s_impl_Roof_cells n a0 a1 a2 a3 = some z0) : ∀ k, n + 1 ≤ k → sem E k 168 [(V.parts [(V.int .i8 (a0)), (V.int .i8 (a1)), (V.int .u8 (a2)), (V.ints .u8 64 (a3))])] = some (V.int .i64 (z0)) := by
  intro k hk
  obtain ⟨k, rfl⟩ : ∃ q, k = q + 1 := ⟨k - 1, by omega⟩
  unfold s_impl_Roof_cells at h
  replace h := Option.some.inj h
  obtain rfl := h
  refine pFun_by [] rfl trivial ?_
  kernel_rfl
theorem lw_impl_ValidRain_b0 : ∀ (n : Nat) (a0 : Nat → Int) (a1 : Int) (a2 : Int) (a3 : Int) (a4 : Int) (a5 : Nat → Int) (r : Sum (Unit) (Bool)), l_impl_ValidRain_b0 n a0 a1 a2 a3 a4 a5 = some r → ∀ k m, n + 2 ≤ k → n ≤ m → LB E 209 0 k m ⟨[(2, (V.ptr 5 0 (0) 67)), (10, (V.ints .i16 17 (a0))), (11, (V.int .i64 (a1)))], [(5, .box [(V.int .i8 (a2)), (V.int .i8 (a3)), (V.int .u8 (a4)), (V.ints .u8 64 (a5))])]⟩ = some (match r with | .inl _ => (.normal, ⟨[], []⟩) | .inr o0 => (.ret, ⟨[(4, (V.bool (o0)))], []⟩)) := by
  intro n
  induction n with
  | zero => intro a0 a1 a2 a3 a4 a5 r h; cases h
  | succ n ih =>
    intro a0 a1 a2 a3 a4 a5 r h k m hk hm
    obtain ⟨m, rfl⟩ : ∃ q, m = q + 1 := ⟨m - 1, by omega⟩
    replace hk : n + 2 ≤ k := by omega
    unfold l_impl_ValidRain_b0 at h
    rcases cnd_some h with ⟨h3, h⟩ | ⟨h3, h⟩
    · obtain ⟨c4, h⟩ := chk_some h
      obtain ⟨y5_0, q5, h⟩ := bnd_some h
      rcases cnd_some h with ⟨h6, h⟩ | ⟨h6, h⟩
      · rcases cnd_some h with ⟨h7, h⟩ | ⟨h7, h⟩
        · refine pNext_by [.b true, .v (V.bool (y5_0)), .b false, .b false, .b false] (And.intro h3 (And.intro c4 (And.intro (w_impl_isAmount_int16 q5 k (by omega)) (And.intro (not_f h6) (And.intro (not_f h7) (And.intro (Eq.refl false) trivial)))))) (ih _ _ _ _ _ _ _ h k m hk (by omega)) ?_
          kernel_rfl
        · obtain ⟨y8_0, q8, h⟩ := bnd_some h
          rcases cnd_some h with ⟨h9, h⟩ | ⟨h9, h⟩
          · cases h
            refine pLast_by [.b true, .v (V.bool (y5_0)), .b false, .b true, .v (V.int .i64 (y8_0)), .b true] (And.intro h3 (And.intro c4 (And.intro (w_impl_isAmount_int16 q5 k (by omega)) (And.intro (not_f h6) (And.intro (not_t h7) (And.intro (w_impl_Roof_cells q8 k (by omega)) (And.intro h9 trivial))))))) ?_
            kernel_rfl
          · refine pNext_by [.b true, .v (V.bool (y5_0)), .b false, .b true, .v (V.int .i64 (y8_0)), .b false] (And.intro h3 (And.intro c4 (And.intro (w_impl_isAmount_int16 q5 k (by omega)) (And.intro (not_f h6) (And.intro (not_t h7) (And.intro (w_impl_Roof_cells q8 k (by omega)) (And.intro h9 trivial))))))) (ih _ _ _ _ _ _ _ h k m hk (by omega)) ?_
            kernel_rfl
      · cases h
        refine pLast_by [.b true, .v (V.bool (y5_0)), .b true, .b true] (And.intro h3 (And.intro c4 (And.intro (w_impl_isAmount_int16 q5 k (by omega)) (And.intro (not_t h6) (And.intro (Eq.refl true) trivial))))) ?_
        kernel_rfl
    · cases h
      refine pLast_by [.b false] (And.intro h3 trivial) ?_
      kernel_rfl
theorem w_impl_ValidRain {n : Nat} {a0 : Int} {a1 : Int} {a2 : Int} {a3 : Nat → Int} {a4 : Nat → Int} {z0 : Bool} (h : s_impl_ValidRain n a0 a1 a2 a3 a4 = some z0) : ∀ k, n + 3 ≤ k → sem E k 209 [(V.parts [(V.int .i8 (a0)), (V.int .i8 (a1)), (V.int .u8 (a2)), (V.ints .u8 64 (a3))]), (V.ints .i16 17 (a4))] = some (V.bool (z0)) := by
  intro k hk
  obtain ⟨k, rfl⟩ : ∃ q, k = q + 1 := ⟨k - 1, by omega⟩
  unfold s_impl_ValidRain at h
  obtain ⟨y1_0, q1, h⟩ := bnd_some h
  rcases cnd_some h with ⟨h2, h⟩ | ⟨h2, h⟩
  · obtain ⟨w, l10, h⟩ := bnd_some h
    rcases w with ⟨⟩ | u11_0
    · replace h := Option.some.inj h
      obtain rfl := h
      refine pFun_by [.v (V.bool (y1_0)), .b false, .l .normal ⟨[], []⟩] rfl (And.intro (w_impl_ValidRoof q1 k (by omega)) (And.intro (not_f h2) (And.intro (lw_impl_ValidRain_b0 _ _ _ _ _ _ _ _ l10 k k (by omega) (by omega)) trivial))) ?_
      kernel_rfl
    · replace h := Option.some.inj h
      obtain rfl := h
      refine pFun_by [.v (V.bool (y1_0)), .b false, .l .ret ⟨[(4, (V.bool (u11_0)))], []⟩] rfl (And.intro (w_impl_ValidRoof q1 k (by omega)) (And.intro (not_f h2) (And.intro (lw_impl_ValidRain_b0 _ _ _ _ _ _ _ _ l10 k k (by omega) (by omega)) trivial))) ?_
      kernel_rfl
  · replace h := Option.some.inj h
    obtain rfl := h
    refine pFun_by [.v (V.bool (y1_0)), .b true] rfl (And.intro (w_impl_ValidRoof q1 k (by omega)) (And.intro (not_t h2) trivial)) ?_
    kernel_rfl
theorem w_impl_rainCode {n : Nat} {a0 : Int} {a1 : Int} {a2 : Int} {a3 : Nat → Int} {a4 : Nat → Int} {a5 : Bool} {z0 : Int} (h : s_impl_rainCode n a0 a1 a2 a3 a4 a5 = some z0) : ∀ k, n + 4 ≤ k → sem E k 138 [(V.parts [(V.int .i8 (a0)), (V.int .i8 (a1)), (V.int .u8 (a2)), (V.ints .u8 64 (a3))]), (V.ints .i16 17 (a4)), (V.bool (a5))] = some (V.int .i64 (z0)) := by
  intro k hk
  obtain ⟨k, rfl⟩ : ∃ q, k = q + 1 := ⟨k - 1, by omega⟩
  unfold s_impl_rainCode at h
  obtain ⟨y1_0, q1, h⟩ := bnd_some h
  rcases cnd_some h with ⟨h2, h⟩ | ⟨h2, h⟩
  · rcases cnd_some h with ⟨h3, h⟩ | ⟨h3, h⟩
    · replace h := Option.some.inj h
      obtain rfl := h
      refine pFun_by [.v (V.bool (y1_0)), .b false, .b false] rfl (And.intro (w_impl_ValidRain q1 k (by omega)) (And.intro (not_f h2) (And.intro (not_f h3) trivial))) ?_
      kernel_rfl
    · replace h := Option.some.inj h
      obtain rfl := h
      refine pFun_by [.v (V.bool (y1_0)), .b false, .b true] rfl (And.intro (w_impl_ValidRain q1 k (by omega)) (And.intro (not_f h2) (And.intro (not_t h3) trivial))) ?_
      kernel_rfl
  · replace h := Option.some.inj h
    obtain rfl := h
    refine pFun_by [.v (V.bool (y1_0)), .b true] rfl (And.intro (w_impl_ValidRain q1 k (by omega)) (And.intro (not_t h2) trivial)) ?_
    kernel_rfl
theorem w_impl_Roof_isCell {n : Nat} {a0 : Int} {a1 : Int} {a2 : Int} {a3 : Nat → Int} {a4 : Int} {a5 : Int} {z0 : Bool} (h : s_impl_Roof_isCell n a0 a1 a2 a3 a4 a5 = some z0) : ∀ k, n + 2 ≤ k → sem E k 255 [(V.parts [(V.int .i8 (a0)), (V.int .i8 (a1)), (V.int .u8 (a2)), (V.ints .u8 64 (a3))]), (V.int .i64 (a4)), (V.int .i64 (a5))] = some (V.bool (z0)) := by
  intro k hk
  obtain ⟨k, rfl⟩ : ∃ q, k = q + 1 := ⟨k - 1, by omega⟩
  unfold s_impl_Roof_isCell at h
  rcases cnd_some h with ⟨h1, h⟩ | ⟨h1, h⟩
  · obtain ⟨y2_0, q2, h⟩ := bnd_some h
    replace h := Option.some.inj h
    obtain rfl := h
    refine pFun_by [.b true, .v (V.int .i64 (y2_0))] rfl (And.intro h1 (And.intro (w_impl_Roof_cells q2 k (by omega)) trivial)) ?_
    kernel_rfl
  · replace h := Option.some.inj h
    obtain rfl := h
    refine pFun_by [.b false] rfl (And.intro h1 trivial) ?_
    kernel_rfl
theorem w_impl_Roof_isSound_1 {n : Nat} {a0 : Int} {z0 : Bool} (h : s_impl_Roof_isSound_1 n a0 = some z0) : ∀ k, n + 1 ≤ k → sem E k 236 [(V.int .i32 (a0))] = some (V.bool (z0)) := by
  intro k hk
  obtain ⟨k, rfl⟩ : ∃ q, k = q + 1 := ⟨k - 1, by omega⟩
  unfold s_impl_Roof_isSound_1 at h
  replace h := Option.some.inj h
  obtain rfl := h
  refine pFun_by [] rfl trivial ?_
  kernel_rfl
theorem lw_impl_Roof_areDrips__Roof_isSound_1_b2 : ∀ (n : Nat) (a0 : Int) (a1 : Nat → Int) (a2 : Int) (a3 : Nat → Int) (a4 : Int) (a5 : Int) (a6 : Int) (a7 : Int) (a8 : Nat → Int) (r : Sum ((Nat → Int) × Int × Int × Int × Int × (Nat → Int)) (Bool)), l_impl_Roof_areDrips__Roof_isSound_1_b2 n a0 a1 a2 a3 a4 a5 a6 a7 a8 = some r → ∀ k m, n + 2 ≤ k → n ≤ m → LB E 235 2 k m ⟨[(2, (V.clo 236 [])), (3, (V.ptr 7 0 (0) 67)), (7, (V.int .i64 (a0))), (11, (V.ints .i32 136 (a1))), (12, (V.int .i64 (a2))), (16, (V.ints .i32 17 (a3))), (17, (V.int .i64 (a4)))], [(7, .box [(V.int .i8 (a5)), (V.int .i8 (a6)), (V.int .u8 (a7)), (V.ints .u8 64 (a8))])]⟩ = some (match r with | .inl (o0, o1, o2, o3, o4, o5) => (.normal, ⟨[(2, (V.clo 236 [])), (3, (V.ptr 7 0 (0) 67)), (11, (V.ints .i32 136 (o0))), (12, (V.int .i64 (o1)))], [(7, .box [(V.int .i8 (o2)), (V.int .i8 (o3)), (V.int .u8 (o4)), (V.ints .u8 64 (o5))])]⟩) | .inr o0 => (.ret, ⟨[(6, (V.bool (o0)))], []⟩)) := by
  intro n
  induction n with
  | zero => intro a0 a1 a2 a3 a4 a5 a6 a7 a8 r h; cases h
  | succ n ih =>
    intro a0 a1 a2 a3 a4 a5 a6 a7 a8 r h k m hk hm
    obtain ⟨m, rfl⟩ : ∃ q, m = q + 1 := ⟨m - 1, by omega⟩
    replace hk : n + 2 ≤ k := by omega
    unfold l_impl_Roof_areDrips__Roof_isSound_1_b2 at h
    rcases cnd_some h with ⟨h3, h⟩ | ⟨h3, h⟩
    · obtain ⟨c4, h⟩ := chk_some h
      obtain ⟨y5_0, q5, h⟩ := bnd_some h
      rcases cnd_some h with ⟨h6, h⟩ | ⟨h6, h⟩
      · obtain ⟨y7_0, q7, h⟩ := bnd_some h
        rcases cnd_some h with ⟨h8, h⟩ | ⟨h8, h⟩
        · refine pNext_by [.b true, .v (V.bool (y5_0)), .b false, .b false, .v (V.bool (y7_0)), .b false] (And.intro h3 (And.intro c4 (And.intro (w_impl_Roof_isCell q5 k (by omega)) (And.intro (not_f h6) (And.intro (Eq.refl false) (And.intro (w_impl_Roof_isSound_1 q7 k (by omega)) (And.intro (not_f h8) trivial))))))) (ih _ _ _ _ _ _ _ _ _ _ h k m hk (by omega)) ?_
          kernel_rfl
        · cases h
          refine pLast_by [.b true, .v (V.bool (y5_0)), .b false, .b false, .v (V.bool (y7_0)), .b true] (And.intro h3 (And.intro c4 (And.intro (w_impl_Roof_isCell q5 k (by omega)) (And.intro (not_f h6) (And.intro (Eq.refl false) (And.intro (w_impl_Roof_isSound_1 q7 k (by omega)) (And.intro (not_t h8) trivial))))))) ?_
          kernel_rfl
      · rcases cnd_some h with ⟨h9, h⟩ | ⟨h9, h⟩
        · obtain ⟨y10_0, q10, h⟩ := bnd_some h
          rcases cnd_some h with ⟨h11, h⟩ | ⟨h11, h⟩
          · refine pNext_by [.b true, .v (V.bool (y5_0)), .b true, .b false, .v (V.bool (y10_0)), .b false] (And.intro h3 (And.intro c4 (And.intro (w_impl_Roof_isCell q5 k (by omega)) (And.intro (not_t h6) (And.intro (not_f h9) (And.intro (w_impl_Roof_isSound_1 q10 k (by omega)) (And.intro (not_f h11) trivial))))))) (ih _ _ _ _ _ _ _ _ _ _ h k m hk (by omega)) ?_
            kernel_rfl
          · cases h
            refine pLast_by [.b true, .v (V.bool (y5_0)), .b true, .b false, .v (V.bool (y10_0)), .b true] (And.intro h3 (And.intro c4 (And.intro (w_impl_Roof_isCell q5 k (by omega)) (And.intro (not_t h6) (And.intro (not_f h9) (And.intro (w_impl_Roof_isSound_1 q10 k (by omega)) (And.intro (not_t h11) trivial))))))) ?_
            kernel_rfl
        · cases h
          refine pLast_by [.b true, .v (V.bool (y5_0)), .b true, .b true, .b true] (And.intro h3 (And.intro c4 (And.intro (w_impl_Roof_isCell q5 k (by omega)) (And.intro (not_t h6) (And.intro (not_t h9) (And.intro (Eq.refl true) trivial)))))) ?_
          kernel_rfl
    · cases h
      refine pLast_by [.b false] (And.intro h3 trivial) ?_
      kernel_rfl
theorem lw_impl_Roof_areDrips__Roof_isSound_1_b0 : ∀ (n : Nat) (a0 : Nat → Int) (a1 : Int) (a2 : Int) (a3 : Int) (a4 : Int) (a5 : Nat → Int) (r : Sum (Unit) (Bool)), l_impl_Roof_areDrips__Roof_isSound_1_b0 n a0 a1 a2 a3 a4 a5 = some r → ∀ k m, n + 2 ≤ k → n ≤ m → LB E 235 0 k m ⟨[(2, (V.clo 236 [])), (3, (V.ptr 7 0 (0) 67)), (11, (V.ints .i32 136 (a0))), (12, (V.int .i64 (a1)))], [(7, .box [(V.int .i8 (a2)), (V.int .i8 (a3)), (V.int .u8 (a4)), (V.ints .u8 64 (a5))])]⟩ = some (match r with | .inl _ => (.normal, ⟨[], []⟩) | .inr o0 => (.ret, ⟨[(6, (V.bool (o0)))], []⟩)) := by
  intro n
  induction n with
  | zero => intro a0 a1 a2 a3 a4 a5 r h; cases h
  | succ n ih =>
    intro a0 a1 a2 a3 a4 a5 r h k m hk hm
    obtain ⟨m, rfl⟩ : ∃ q, m = q + 1 := ⟨m - 1, by omega⟩
    replace hk : n + 2 ≤ k := by omega
    unfold l_impl_Roof_areDrips__Roof_isSound_1_b0 at h
    rcases cnd_some h with ⟨h1, h⟩ | ⟨h1, h⟩
    · obtain ⟨c2, h⟩ := chk_some h
      obtain ⟨w, l12, h⟩ := bnd_some h
      rcases w with ⟨u12_0, u12_1, u12_2, u12_3, u12_4, u12_5⟩ | u13_0
      · refine pNext_by [.b true, .l .normal ⟨[(2, (V.clo 236 [])), (3, (V.ptr 7 0 (0) 67)), (11, (V.ints .i32 136 (u12_0))), (12, (V.int .i64 (u12_1)))], [(7, .box [(V.int .i8 (u12_2)), (V.int .i8 (u12_3)), (V.int .u8 (u12_4)), (V.ints .u8 64 (u12_5))])]⟩] (And.intro h1 (And.intro c2 (And.intro (lw_impl_Roof_areDrips__Roof_isSound_1_b2 _ _ _ _ _ _ _ _ _ _ _ l12 k k (by omega) (by omega)) trivial))) (ih _ _ _ _ _ _ _ h k m hk (by omega)) ?_
        kernel_rfl
      · cases h
        refine pLast_by [.b true, .l .ret ⟨[(6, (V.bool (u13_0)))], []⟩] (And.intro h1 (And.intro c2 (And.intro (lw_impl_Roof_areDrips__Roof_isSound_1_b2 _ _ _ _ _ _ _ _ _ _ _ l12 k k (by omega) (by omega)) trivial))) ?_
        kernel_rfl
    · cases h
      refine pLast_by [.b false] (And.intro h1 trivial) ?_
      kernel_rfl
theorem w_impl_Roof_areDrips__Roof_isSound_1 {n : Nat} {a0 : Int} {a1 : Int} {a2 : Int} {a3 : Nat → Int} {a4 : Nat → Int} {z0 : Bool} (h : s_impl_Roof_areDrips__Roof_isSound_1 n a0 a1 a2 a3 a4 = some z0) : ∀ k, n + 3 ≤ k → sem E k 235 [(V.parts [(V.int .i8 (a0)), (V.int .i8 (a1)), (V.int .u8 (a2)), (V.ints .u8 64 (a3))]), (V.ints .i32 136 (a4)), (V.clo 236 [])] = some (V.bool (z0)) := by
  intro k hk
  obtain ⟨k, rfl⟩ : ∃ q, k = q + 1 := ⟨k - 1, by omega⟩
  unfold s_impl_Roof_areDrips__Roof_isSound_1 at h
  obtain ⟨w, l15, h⟩ := bnd_some h
  rcases w with ⟨⟩ | u16_0
  · replace h := Option.some.inj h
    obtain rfl := h
    refine pFun_by [.l .normal ⟨[], []⟩] rfl (And.intro (lw_impl_Roof_areDrips__Roof_isSound_1_b0 _ _ _ _ _ _ _ _ l15 k k (by omega) (by omega)) trivial) ?_
    kernel_rfl
  · replace h := Option.some.inj h
    obtain rfl := h
    refine pFun_by [.l .ret ⟨[(6, (V.bool (u16_0)))], []⟩] rfl (And.intro (lw_impl_Roof_areDrips__Roof_isSound_1_b0 _ _ _ _ _ _ _ _ l15 k k (by omega) (by omega)) trivial) ?_
    kernel_rfl
theorem lw_impl_upTo_b0 : ∀ (n : Nat) (a0 : Int) (a1 : Int) (a2 : List V) (r : List V), l_impl_upTo_b0 n a0 a1 a2 = some r → ∀ k m, n + 0 ≤ k → n ≤ m → LB E 189 0 k m ⟨[(3, (V.row 7)), (5, (V.int .i64 (a0))), (6, (V.int .i64 (a1)))], [(7, .row 3 (a2))]⟩ = some (match r with | o0 => (.normal, ⟨[(3, (V.row 7))], [(7, .row 3 (o0))]⟩)) := by
  intro n
  induction n with
  | zero => intro a0 a1 a2 r h; cases h
  | succ n ih =>
    intro a0 a1 a2 r h k m hk hm
    obtain ⟨m, rfl⟩ : ∃ q, m = q + 1 := ⟨m - 1, by omega⟩
    replace hk : n + 0 ≤ k := by omega
    unfold l_impl_upTo_b0 at h
    rcases cnd_some h with ⟨h1, h⟩ | ⟨h1, h⟩
    · obtain ⟨c2, h⟩ := chk_some h
      refine pNext_by [.b true] (And.intro h1 (And.intro c2 (And.intro (Eq.refl true) trivial))) (ih _ _ _ _ h k m hk (by omega)) ?_
      kernel_rfl
    · cases h
      refine pLast_by [.b false] (And.intro h1 trivial) ?_
      kernel_rfl
theorem w_impl_upTo {n : Nat} {a0 : Int} {z0 : List V} (h : s_impl_upTo n a0 = some z0) : ∀ k, n + 1 ≤ k → sem E k 189 [(V.int .i64 (a0))] = some (V.fresh 3 (z0)) := by
  intro k hk
  obtain ⟨k, rfl⟩ : ∃ q, k = q + 1 := ⟨k - 1, by omega⟩
  unfold s_impl_upTo at h
  obtain ⟨u3_0, l3, h⟩ := bnd_some h
  replace h := Option.some.inj h
  obtain rfl := h
  refine pFun_by [.l .normal ⟨[(3, (V.row 7))], [(7, .row 3 (u3_0))]⟩] rfl (And.intro (lw_impl_upTo_b0 _ _ _ _ _ l3 k k (by omega) (by omega)) trivial) ?_
  kernel_rfl
theorem w_impl_Roof_columns_1_1 {n : Nat} {a0 : Nat → Int} {a1 : Int} {z0 : Int} (h : s_impl_Roof_columns_1_1 n a0 a1 = some z0) : ∀ k, n + 1 ≤ k → sem E k 259 [(V.ints .i32 17 (a0)), (V.ref [(V.int .i64 (a1))] 0 (0) 1)] = some (V.int .i32 (z0)) := by
  intro k hk
  obtain ⟨k, rfl⟩ : ∃ q, k = q + 1 := ⟨k - 1, by omega⟩
  unfold s_impl_Roof_columns_1_1 at h
  obtain ⟨c1, h⟩ := chk_some h
  replace h := Option.some.inj h
  obtain rfl := h
  refine pFun_by [] rfl (And.intro c1 trivial) ?_
  kernel_rfl
theorem lw_impl_each_A17int32_int32__Roof_columns_1_1_b0 : ∀ (n : Nat) (a0 : Int) (a1 : List V) (a2 : Int) (a3 : Int) (a4 : List V) (r : List V), l_impl_each_A17int32_int32__Roof_columns_1_1_b0 n a0 a1 a2 a3 a4 = some r → ∀ k m, n + 1 ≤ k → n ≤ m → LB E 258 0 k m ⟨[(1, (V.clo 259 [(V.ref [(V.int .i64 (a0))] 0 (0) 1)])), (5, (V.row 11)), (8, (V.sl (a1))), (9, (V.int .i64 (a2))), (10, (V.int .i64 (a3)))], [(11, .row 21 (a4))]⟩ = some (match r with | o0 => (.normal, ⟨[(5, (V.row 11))], [(11, .row 21 (o0))]⟩)) := by
  intro n
  induction n with
  | zero => intro a0 a1 a2 a3 a4 r h; cases h
  | succ n ih =>
    intro a0 a1 a2 a3 a4 r h k m hk hm
    obtain ⟨m, rfl⟩ : ∃ q, m = q + 1 := ⟨m - 1, by omega⟩
    replace hk : n + 1 ≤ k := by omega
    unfold l_impl_each_A17int32_int32__Roof_columns_1_1_b0 at h
    rcases cnd_some h with ⟨h1, h⟩ | ⟨h1, h⟩
    · obtain ⟨e2_0, g2, h⟩ := bnd_some h
      replace g2 := as_a17i32_some g2
      obtain ⟨y3_0, q3, h⟩ := bnd_some h
      obtain ⟨c4, h⟩ := chk_some h
      refine pNext_by [.b true, .v (V.ints .i32 17 (e2_0)), .v (V.int .i32 (y3_0))] (And.intro h1 (And.intro g2 (And.intro (w_impl_Roof_columns_1_1 q3 k (by omega)) (And.intro c4 (And.intro (Eq.refl true) trivial))))) (ih _ _ _ _ _ _ h k m hk (by omega)) ?_
      kernel_rfl
    · cases h
      refine pLast_by [.b false] (And.intro h1 trivial) ?_
      kernel_rfl
theorem w_impl_each_A17int32_int32__Roof_columns_1_1 {n : Nat} {a0 : List V} {a1 : Int} {z0 : List V} (h : s_impl_each_A17int32_int32__Roof_columns_1_1 n a0 a1 = some z0) : ∀ k, n + 2 ≤ k → sem E k 258 [(V.sl (a0)), (V.clo 259 [(V.ref [(V.int .i64 (a1))] 0 (0) 1)])] = some (V.fresh 21 (z0)) := by
  intro k hk
  obtain ⟨k, rfl⟩ : ∃ q, k = q + 1 := ⟨k - 1, by omega⟩
  unfold s_impl_each_A17int32_int32__Roof_columns_1_1 at h
  obtain ⟨u5_0, l5, h⟩ := bnd_some h
  replace h := Option.some.inj h
  obtain rfl := h
  refine pFun_by [.l .normal ⟨[(5, (V.row 11))], [(11, .row 21 (u5_0))]⟩] rfl (And.intro (lw_impl_each_A17int32_int32__Roof_columns_1_1_b0 _ _ _ _ _ _ _ l5 k k (by omega) (by omega)) trivial) ?_
  kernel_rfl
theorem lw_impl_sum_int32_b0 : ∀ (n : Nat) (a0 : Int) (a1 : List V) (a2 : Int) (a3 : Int) (r : Int), l_impl_sum_int32_b0 n a0 a1 a2 a3 = some r → ∀ k m, n + 0 ≤ k → n ≤ m → LB E 257 0 k m ⟨[(3, (V.int .i64 (a0))), (6, (V.sl (a1))), (7, (V.int .i64 (a2))), (8, (V.int .i64 (a3)))], []⟩ = some (match r with | o0 => (.normal, ⟨[(3, (V.int .i64 (o0)))], []⟩)) := by
  intro n
  induction n with
  | zero => intro a0 a1 a2 a3 r h; cases h
  | succ n ih =>
    intro a0 a1 a2 a3 r h k m hk hm
    obtain ⟨m, rfl⟩ : ∃ q, m = q + 1 := ⟨m - 1, by omega⟩
    replace hk : n + 0 ≤ k := by omega
    unfold l_impl_sum_int32_b0 at h
    rcases cnd_some h with ⟨h1, h⟩ | ⟨h1, h⟩
    · obtain ⟨e2_0, g2, h⟩ := bnd_some h
      replace g2 := as_i32_some g2
      refine pNext_by [.b true, .v (V.int .i32 (e2_0))] (And.intro h1 (And.intro g2 trivial)) (ih _ _ _ _ _ h k m hk (by omega)) ?_
      kernel_rfl
    · cases h
      refine pLast_by [.b false] (And.intro h1 trivial) ?_
      kernel_rfl
theorem w_impl_sum_int32 {n : Nat} {a0 : List V} {z0 : Int} (h : s_impl_sum_int32 n a0 = some z0) : ∀ k, n + 1 ≤ k → sem E k 257 [(V.sl (a0))] = some (V.int .i64 (z0)) := by
  intro k hk
  obtain ⟨k, rfl⟩ : ∃ q, k = q + 1 := ⟨k - 1, by omega⟩
  unfold s_impl_sum_int32 at h
  obtain ⟨u3_0, l3, h⟩ := bnd_some h
  replace h := Option.some.inj h
  obtain rfl := h
  refine pFun_by [.l .normal ⟨[(3, (V.int .i64 (u3_0)))], []⟩] rfl (And.intro (lw_impl_sum_int32_b0 _ _ _ _ _ _ l3 k k (by omega) (by omega)) trivial) ?_
  kernel_rfl
theorem w_impl_Roof_columns_1 {n : Nat} {a0 : Int} {a1 : Nat → Int} {z0 : Int} (h : s_impl_Roof_columns_1 n a0 a1 = some z0) : ∀ k, n + 3 ≤ k → sem E k 256 [(V.int .i64 (a0)), (V.ref [(V.ints .i32 136 (a1))] 0 (0) 136)] = some (V.int .i64 (z0)) := by
  intro k hk
  obtain ⟨k, rfl⟩ : ∃ q, k = q + 1 := ⟨k - 1, by omega⟩
  unfold s_impl_Roof_columns_1 at h
  obtain ⟨y1_0, q1, h⟩ := bnd_some h
  obtain ⟨c2, h⟩ := chk_some h
  obtain ⟨y3_0, q3, h⟩ := bnd_some h
  replace h := Option.some.inj h
  obtain rfl := h
  refine pFun_by [.v (V.fresh 21 (y1_0)), .v (V.int .i64 (y3_0))] rfl (And.intro (w_impl_each_A17int32_int32__Roof_columns_1_1 q1 k (by omega)) (And.intro c2 (And.intro (w_impl_sum_int32 q3 k (by omega)) (And.intro (Eq.refl true) trivial)))) ?_
  kernel_rfl
theorem lw_impl_each_int_int64__Roof_columns_1_b0 : ∀ (n : Nat) (a0 : Nat → Int) (a1 : List V) (a2 : Int) (a3 : Int) (a4 : List V) (r : List V), l_impl_each_int_int64__Roof_columns_1_b0 n a0 a1 a2 a3 a4 = some r → ∀ k m, n + 3 ≤ k → n ≤ m → LB E 162 0 k m ⟨[(1, (V.clo 256 [(V.ref [(V.ints .i32 136 (a0))] 0 (0) 136)])), (5, (V.row 11)), (8, (V.sl (a1))), (9, (V.int .i64 (a2))), (10, (V.int .i64 (a3)))], [(11, .row 2 (a4))]⟩ = some (match r with | o0 => (.normal, ⟨[(5, (V.row 11))], [(11, .row 2 (o0))]⟩)) := by
  intro n
  induction n with
  | zero => intro a0 a1 a2 a3 a4 r h; cases h
  | succ n ih =>
    intro a0 a1 a2 a3 a4 r h k m hk hm
    obtain ⟨m, rfl⟩ : ∃ q, m = q + 1 := ⟨m - 1, by omega⟩
    replace hk : n + 3 ≤ k := by omega
    unfold l_impl_each_int_int64__Roof_columns_1_b0 at h
    rcases cnd_some h with ⟨h1, h⟩ | ⟨h1, h⟩
    · obtain ⟨e2_0, g2, h⟩ := bnd_some h
      replace g2 := as_i64_some g2
      obtain ⟨y3_0, q3, h⟩ := bnd_some h
      obtain ⟨c4, h⟩ := chk_some h
      refine pNext_by [.b true, .v (V.int .i64 (e2_0)), .v (V.int .i64 (y3_0))] (And.intro h1 (And.intro g2 (And.intro (w_impl_Roof_columns_1 q3 k (by omega)) (And.intro c4 (And.intro (Eq.refl true) trivial))))) (ih _ _ _ _ _ _ h k m hk (by omega)) ?_
      kernel_rfl
    · cases h
      refine pLast_by [.b false] (And.intro h1 trivial) ?_
      kernel_rfl
theorem w_impl_each_int_int64__Roof_columns_1 {n : Nat} {a0 : List V} {a1 : Nat → Int} {z0 : List V} (h : s_impl_each_int_int64__Roof_columns_1 n a0 a1 = some z0) : ∀ k, n + 4 ≤ k → sem E k 162 [(V.sl (a0)), (V.clo 256 [(V.ref [(V.ints .i32 136 (a1))] 0 (0) 136)])] = some (V.fresh 2 (z0)) := by
  intro k hk
  obtain ⟨k, rfl⟩ : ∃ q, k = q + 1 := ⟨k - 1, by omega⟩
  unfold s_impl_each_int_int64__Roof_columns_1 at h
  obtain ⟨u5_0, l5, h⟩ := bnd_some h
  replace h := Option.some.inj h
  obtain rfl := h
  refine pFun_by [.l .normal ⟨[(5, (V.row 11))], [(11, .row 2 (u5_0))]⟩] rfl (And.intro (lw_impl_each_int_int64__Roof_columns_1_b0 _ _ _ _ _ _ _ l5 k k (by omega) (by omega)) trivial) ?_
  kernel_rfl
theorem w_impl_Roof_columns {n : Nat} {a0 : Int} {a1 : Int} {a2 : Int} {a3 : Nat → Int} {a4 : Nat → Int} {z0 : List V} (h : s_impl_Roof_columns n a0 a1 a2 a3 a4 = some z0) : ∀ k, n + 5 ≤ k → sem E k 237 [(V.parts [(V.int .i8 (a0)), (V.int .i8 (a1)), (V.int .u8 (a2)), (V.ints .u8 64 (a3))]), (V.ints .i32 136 (a4))] = some (V.fresh 2 (z0)) := by
  intro k hk
  obtain ⟨k, rfl⟩ : ∃ q, k = q + 1 := ⟨k - 1, by omega⟩
  unfold s_impl_Roof_columns at h
  obtain ⟨y1_0, q1, h⟩ := bnd_some h
  obtain ⟨y2_0, q2, h⟩ := bnd_some h
  obtain ⟨y3_0, q3, h⟩ := bnd_some h
  obtain ⟨c4, h⟩ := chk_some h
  replace h := Option.some.inj h
  obtain rfl := h
  refine pFun_by [.v (V.int .i64 (y1_0)), .v (V.fresh 3 (y2_0)), .v (V.fresh 2 (y3_0))] rfl (And.intro (w_impl_Roof_cells q1 k (by omega)) (And.intro (w_impl_upTo q2 k (by omega)) (And.intro (w_impl_each_int_int64__Roof_columns_1 q3 k (by omega)) (And.intro c4 trivial)))) ?_
  kernel_rfl
theorem lw_impl_Roof_isSound_b0 : ∀ (n : Nat) (a0 : Int) (a1 : Int) (a2 : Nat → Int) (a3 : List V) (r : Sum (Unit) (Bool)), l_impl_Roof_isSound_b0 n a0 a1 a2 a3 = some r → ∀ k m, n + 0 ≤ k → n ≤ m → LB E 201 0 k m ⟨[(4, (V.ptr 9 0 (0) 17)), (15, (V.row 31)), (16, (V.int .i64 (a0))), (17, (V.int .i64 (a1)))], [(9, .box [(V.ints .i16 17 (a2))]), (31, .row 2 (a3))]⟩ = some (match r with | .inl _ => (.normal, ⟨[], []⟩) | .inr o0 => (.ret, ⟨[(6, (V.bool (o0)))], []⟩)) := by
  intro n
  induction n with
  | zero => intro a0 a1 a2 a3 r h; cases h
  | succ n ih =>
    intro a0 a1 a2 a3 r h k m hk hm
    obtain ⟨m, rfl⟩ : ∃ q, m = q + 1 := ⟨m - 1, by omega⟩
    replace hk : n + 0 ≤ k := by omega
    unfold l_impl_Roof_isSound_b0 at h
    rcases cnd_some h with ⟨h4, h⟩ | ⟨h4, h⟩
    · obtain ⟨c5, h⟩ := chk_some h
      obtain ⟨e6_0, g6, h⟩ := bnd_some h
      replace g6 := as_i64_some g6
      obtain ⟨c7, h⟩ := chk_some h
      rcases cnd_some h with ⟨h8, h⟩ | ⟨h8, h⟩
      · cases h
        refine pLast_by [.b true, .v (V.int .i64 (e6_0)), .b true] (And.intro h4 (And.intro c5 (And.intro g6 (And.intro c7 (And.intro h8 trivial))))) ?_
        kernel_rfl
      · refine pNext_by [.b true, .v (V.int .i64 (e6_0)), .b false] (And.intro h4 (And.intro c5 (And.intro g6 (And.intro c7 (And.intro h8 trivial))))) (ih _ _ _ _ _ h k m hk (by omega)) ?_
        kernel_rfl
    · cases h
      refine pLast_by [.b false] (And.intro h4 trivial) ?_
      kernel_rfl
theorem w_impl_Roof_isSound {n : Nat} {a0 : Int} {a1 : Int} {a2 : Int} {a3 : Nat → Int} {a4 : Nat → Int} {a5 : Nat → Int} {z0 : Bool} (h : s_impl_Roof_isSound n a0 a1 a2 a3 a4 a5 = some z0) : ∀ k, n + 6 ≤ k → sem E k 201 [(V.parts [(V.int .i8 (a0)), (V.int .i8 (a1)), (V.int .u8 (a2)), (V.ints .u8 64 (a3))]), (V.ints .i16 17 (a4)), (V.ints .i32 136 (a5))] = some (V.bool (z0)) := by
  intro k hk
  obtain ⟨k, rfl⟩ : ∃ q, k = q + 1 := ⟨k - 1, by omega⟩
  unfold s_impl_Roof_isSound at h
  obtain ⟨y1_0, q1, h⟩ := bnd_some h
  rcases cnd_some h with ⟨h2, h⟩ | ⟨h2, h⟩
  · obtain ⟨y3_0, q3, h⟩ := bnd_some h
    obtain ⟨w, l9, h⟩ := bnd_some h
    rcases w with ⟨⟩ | u10_0
    · replace h := Option.some.inj h
      obtain rfl := h
      refine pFun_by [.v (V.bool (y1_0)), .b false, .v (V.fresh 2 (y3_0)), .l .normal ⟨[], []⟩] rfl (And.intro (w_impl_Roof_areDrips__Roof_isSound_1 q1 k (by omega)) (And.intro (not_f h2) (And.intro (w_impl_Roof_columns q3 k (by omega)) (And.intro (lw_impl_Roof_isSound_b0 _ _ _ _ _ _ l9 k k (by omega) (by omega)) trivial)))) ?_
      kernel_rfl
    · replace h := Option.some.inj h
      obtain rfl := h
      refine pFun_by [.v (V.bool (y1_0)), .b false, .v (V.fresh 2 (y3_0)), .l .ret ⟨[(6, (V.bool (u10_0)))], []⟩] rfl (And.intro (w_impl_Roof_areDrips__Roof_isSound_1 q1 k (by omega)) (And.intro (not_f h2) (And.intro (w_impl_Roof_columns q3 k (by omega)) (And.intro (lw_impl_Roof_isSound_b0 _ _ _ _ _ _ l9 k k (by omega) (by omega)) trivial)))) ?_
      kernel_rfl
  · replace h := Option.some.inj h
    obtain rfl := h
    refine pFun_by [.v (V.bool (y1_0)), .b true] rfl (And.intro (w_impl_Roof_areDrips__Roof_isSound_1 q1 k (by omega)) (And.intro (not_t h2) trivial)) ?_
    kernel_rfl
theorem w_impl_seenCode {n : Nat} {a0 : Int} {a1 : Int} {a2 : Int} {a3 : Nat → Int} {a4 : Nat → Int} {a5 : Nat → Int} {a6 : Bool} {z0 : Int} (h : s_impl_seenCode n a0 a1 a2 a3 a4 a5 a6 = some z0) : ∀ k, n + 7 ≤ k → sem E k 131 [(V.parts [(V.int .i8 (a0)), (V.int .i8 (a1)), (V.int .u8 (a2)), (V.ints .u8 64 (a3))]), (V.ints .i16 17 (a4)), (V.ints .i32 136 (a5)), (V.bool (a6))] = some (V.int .i64 (z0)) := by
  intro k hk
  obtain ⟨k, rfl⟩ : ∃ q, k = q + 1 := ⟨k - 1, by omega⟩
  unfold s_impl_seenCode at h
  obtain ⟨y1_0, q1, h⟩ := bnd_some h
  rcases cnd_some h with ⟨h2, h⟩ | ⟨h2, h⟩
  · obtain ⟨y3_0, q3, h⟩ := bnd_some h
    rcases cnd_some h with ⟨h4, h⟩ | ⟨h4, h⟩
    · replace h := Option.some.inj h
      obtain rfl := h
      refine pFun_by [.v (V.int .i64 (y1_0)), .b true, .v (V.bool (y3_0)), .b false] rfl (And.intro (w_impl_rainCode q1 k (by omega)) (And.intro h2 (And.intro (w_impl_Roof_isSound q3 k (by omega)) (And.intro (not_f h4) trivial)))) ?_
      kernel_rfl
    · replace h := Option.some.inj h
      obtain rfl := h
      refine pFun_by [.v (V.int .i64 (y1_0)), .b true, .v (V.bool (y3_0)), .b true] rfl (And.intro (w_impl_rainCode q1 k (by omega)) (And.intro h2 (And.intro (w_impl_Roof_isSound q3 k (by omega)) (And.intro (not_t h4) trivial)))) ?_
      kernel_rfl
  · replace h := Option.some.inj h
    obtain rfl := h
    refine pFun_by [.v (V.int .i64 (y1_0)), .b false, .b false] rfl (And.intro (w_impl_rainCode q1 k (by omega)) (And.intro h2 (And.intro (Eq.refl false) trivial))) ?_
    kernel_rfl
theorem lw_impl_Roof_comes_b2 : ∀ (n : Nat) (a0 : Int) (a1 : Int) (a2 : Int) (a3 : Int) (a4 : Int) (a5 : Int) (a6 : Int) (a7 : Int) (a8 : Int) (a9 : Nat → Int) (a10 : Nat → Int) (a11 : Nat → Int) (a12 : Nat → Int) (a13 : Nat → Int) (r : Int × Int × Int × Int × Int × (Nat → Int) × (Nat → Int) × (Nat → Int) × (Nat → Int) × (Nat → Int)), l_impl_Roof_comes_b2 n a0 a1 a2 a3 a4 a5 a6 a7 a8 a9 a10 a11 a12 a13 = some r → ∀ k m, n + 0 ≤ k → n ≤ m → LB E 202 2 k m ⟨[(3, (V.ptr 7 0 (0) 67)), (4, (V.ptr 9 0 (0) 17)), (5, (V.ptr 11 0 (0) 136)), (6, (V.ptr 13 0 (0) 136)), (7, (V.ptr 15 0 (0) 136)), (8, (V.int .i64 (a0))), (9, (V.int .i32 (a1))), (12, (V.int .i64 (a2))), (13, (V.int .i64 (a3))), (22, (V.int .i64 (a4))), (23, (V.int .i64 (a5)))], [(7, .box [(V.int .i8 (a6)), (V.int .i8 (a7)), (V.int .u8 (a8)), (V.ints .u8 64 (a9))]), (9, .box [(V.ints .i16 17 (a10))]), (11, .box [(V.ints .i32 136 (a11))]), (13, .box [(V.ints .i32 136 (a12))]), (15, .box [(V.ints .i32 136 (a13))])]⟩ = some (match r with | (o0, o1, o2, o3, o4, o5, o6, o7, o8, o9) => (.normal, ⟨[(3, (V.ptr 7 0 (0) 67)), (4, (V.ptr 9 0 (0) 17)), (5, (V.ptr 11 0 (0) 136)), (6, (V.ptr 13 0 (0) 136)), (7, (V.ptr 15 0 (0) 136)), (12, (V.int .i64 (o0))), (13, (V.int .i64 (o1)))], [(7, .box [(V.int .i8 (o2)), (V.int .i8 (o3)), (V.int .u8 (o4)), (V.ints .u8 64 (o5))]), (9, .box [(V.ints .i16 17 (o6))]), (11, .box [(V.ints .i32 136 (o7))]), (13, .box [(V.ints .i32 136 (o8))]), (15, .box [(V.ints .i32 136 (o9))])]⟩)) := by
  intro n
  induction n with
  | zero => intro a0 a1 a2 a3 a4 a5 a6 a7 a8 a9 a10 a11 a12 a13 r h; cases h
  | succ n ih =>
    intro a0 a1 a2 a3 a4 a5 a6 a7 a8 a9 a10 a11 a12 a13 r h k m hk hm
    obtain ⟨m, rfl⟩ : ∃ q, m = q + 1 := ⟨m - 1, by omega⟩
    replace hk : n + 0 ≤ k := by omega
    unfold l_impl_Roof_comes_b2 at h
    rcases cnd_some h with ⟨h4, h⟩ | ⟨h4, h⟩
    · obtain ⟨c5, h⟩ := chk_some h
      obtain ⟨c6, h⟩ := chk_some h
      refine pNext_by [.b true] (And.intro h4 (And.intro c5 (And.intro c6 (And.intro c5 (And.intro c6 trivial))))) (ih _ _ _ _ _ _ _ _ _ _ _ _ _ _ _ h k m hk (by omega)) ?_
      kernel_rfl
    · cases h
      refine pLast_by [.b false] (And.intro h4 trivial) ?_
      kernel_rfl
theorem lw_impl_Roof_comes_b0 : ∀ (n : Nat) (a0 : Int) (a1 : Int) (a2 : Int) (a3 : Int) (a4 : Int) (a5 : Nat → Int) (a6 : Nat → Int) (a7 : Nat → Int) (a8 : Nat → Int) (a9 : Nat → Int) (r : (Nat → Int) × (Nat → Int)), l_impl_Roof_comes_b0 n a0 a1 a2 a3 a4 a5 a6 a7 a8 a9 = some r → ∀ k m, n + 0 ≤ k → n ≤ m → LB E 202 0 k m ⟨[(3, (V.ptr 7 0 (0) 67)), (4, (V.ptr 9 0 (0) 17)), (5, (V.ptr 11 0 (0) 136)), (6, (V.ptr 13 0 (0) 136)), (7, (V.ptr 15 0 (0) 136)), (12, (V.int .i64 (a0))), (13, (V.int .i64 (a1)))], [(7, .box [(V.int .i8 (a2)), (V.int .i8 (a3)), (V.int .u8 (a4)), (V.ints .u8 64 (a5))]), (9, .box [(V.ints .i16 17 (a6))]), (11, .box [(V.ints .i32 136 (a7))]), (13, .box [(V.ints .i32 136 (a8))]), (15, .box [(V.ints .i32 136 (a9))])]⟩ = some (match r with | (o0, o1) => (.normal, ⟨[(6, (V.ptr 13 0 (0) 136)), (7, (V.ptr 15 0 (0) 136))], [(13, .box [(V.ints .i32 136 (o0))]), (15, .box [(V.ints .i32 136 (o1))])]⟩)) := by
  intro n
  induction n with
  | zero => intro a0 a1 a2 a3 a4 a5 a6 a7 a8 a9 r h; cases h
  | succ n ih =>
    intro a0 a1 a2 a3 a4 a5 a6 a7 a8 a9 r h k m hk hm
    obtain ⟨m, rfl⟩ : ∃ q, m = q + 1 := ⟨m - 1, by omega⟩
    replace hk : n + 0 ≤ k := by omega
    unfold l_impl_Roof_comes_b0 at h
    rcases cnd_some h with ⟨h2, h⟩ | ⟨h2, h⟩
    · obtain ⟨c3, h⟩ := chk_some h
      obtain ⟨⟨u7_0, u7_1, u7_2, u7_3, u7_4, u7_5, u7_6, u7_7, u7_8, u7_9⟩, l7, h⟩ := bnd_some h
      refine pNext_by [.b true, .l .normal ⟨[(3, (V.ptr 7 0 (0) 67)), (4, (V.ptr 9 0 (0) 17)), (5, (V.ptr 11 0 (0) 136)), (6, (V.ptr 13 0 (0) 136)), (7, (V.ptr 15 0 (0) 136)), (12, (V.int .i64 (u7_0))), (13, (V.int .i64 (u7_1)))], [(7, .box [(V.int .i8 (u7_2)), (V.int .i8 (u7_3)), (V.int .u8 (u7_4)), (V.ints .u8 64 (u7_5))]), (9, .box [(V.ints .i16 17 (u7_6))]), (11, .box [(V.ints .i32 136 (u7_7))]), (13, .box [(V.ints .i32 136 (u7_8))]), (15, .box [(V.ints .i32 136 (u7_9))])]⟩] (And.intro h2 (And.intro c3 (And.intro (lw_impl_Roof_comes_b2 _ _ _ _ _ _ _ _ _ _ _ _ _ _ _ _ l7 k k (by omega) (by omega)) trivial))) (ih _ _ _ _ _ _ _ _ _ _ _ h k m hk (by omega)) ?_
      kernel_rfl
    · cases h
      refine pLast_by [.b false] (And.intro h2 trivial) ?_
      kernel_rfl
theorem w_impl_Roof_comes {n : Nat} {a0 : Int} {a1 : Int} {a2 : Int} {a3 : Nat → Int} {a4 : Nat → Int} {a5 : Nat → Int} {z0 : Nat → Int} (h : s_impl_Roof_comes n a0 a1 a2 a3 a4 a5 = some z0) : ∀ k, n + 2 ≤ k → sem E k 202 [(V.parts [(V.int .i8 (a0)), (V.int .i8 (a1)), (V.int .u8 (a2)), (V.ints .u8 64 (a3))]), (V.ints .i16 17 (a4)), (V.ints .i32 136 (a5))] = some (V.ints .i32 136 (z0)) := by
  intro k hk
  obtain ⟨k, rfl⟩ : ∃ q, k = q + 1 := ⟨k - 1, by omega⟩
  unfold s_impl_Roof_comes at h
  obtain ⟨y1_0, q1, h⟩ := bnd_some h
  obtain ⟨⟨u9_0, u9_1⟩, l9, h⟩ := bnd_some h
  replace h := Option.some.inj h
  obtain rfl := h
  refine pFun_by [.v (V.int .i64 (y1_0)), .l .normal ⟨[(6, (V.ptr 13 0 (0) 136)), (7, (V.ptr 15 0 (0) 136))], [(13, .box [(V.ints .i32 136 (u9_0))]), (15, .box [(V.ints .i32 136 (u9_1))])]⟩] rfl (And.intro (w_impl_Roof_cells q1 k (by omega)) (And.intro (lw_impl_Roof_comes_b0 _ _ _ _ _ _ _ _ _ _ _ _ l9 k k (by omega) (by omega)) trivial)) ?_
  kernel_rfl
theorem w_impl_seekerOf {n : Nat} {a0 : Int} {a1 : Int} {a2 : Int} {a3 : Nat → Int} {a4 : Nat → Int} {a5 : Nat → Int} {z0 : Int} {z1 : Int} {z2 : Int} {z3 : Nat → Int} {z4 : Nat → Int} {z5 : Nat → Int} (h : s_impl_seekerOf n a0 a1 a2 a3 a4 a5 = some (z0, z1, z2, z3, z4, z5)) : ∀ k, n + 3 ≤ k → sem E k 133 [(V.parts [(V.int .i8 (a0)), (V.int .i8 (a1)), (V.int .u8 (a2)), (V.ints .u8 64 (a3))]), (V.ints .i16 17 (a4)), (V.ints .i32 136 (a5))] = some (V.ref [(V.int .i8 (z0)), (V.int .i8 (z1)), (V.int .u8 (z2)), (V.ints .u8 64 (z3)), (V.ints .i32 136 (z4)), (V.ints .i32 136 (z5))] 0 (0) 339) := by
  intro k hk
  obtain ⟨k, rfl⟩ : ∃ q, k = q + 1 := ⟨k - 1, by omega⟩
  unfold s_impl_seekerOf at h
  obtain ⟨y1_0, q1, h⟩ := bnd_some h
  simp only [Option.some.injEq, Prod.mk.injEq] at h
  obtain ⟨rfl, rfl, rfl, rfl, rfl, rfl⟩ := h
  refine pFun_by [.v (V.ints .i32 136 (y1_0))] rfl (And.intro (w_impl_Roof_comes q1 k (by omega)) trivial) ?_
  kernel_rfl
theorem w_impl_Roof_shift {n : Nat} {a0 : Int} {a1 : Int} {a2 : Int} {a3 : Nat → Int} {a4 : Int} {z0 : Int} (h : s_impl_Roof_shift n a0 a1 a2 a3 a4 = some z0) : ∀ k, n + 1 ≤ k → sem E k 171 [(V.parts [(V.int .i8 (a0)), (V.int .i8 (a1)), (V.int .u8 (a2)), (V.ints .u8 64 (a3))]), (V.int .i64 (a4))] = some (V.int .i64 (z0)) := by
  intro k hk
  obtain ⟨k, rfl⟩ : ∃ q, k = q + 1 := ⟨k - 1, by omega⟩
  unfold s_impl_Roof_shift at h
  replace h := Option.some.inj h
  obtain rfl := h
  refine pFun_by [] rfl (And.intro (Eq.refl true) trivial) ?_
  kernel_rfl
theorem w_impl_Roof_cellsOf {n : Nat} {a0 : Int} {a1 : Int} {a2 : Int} {a3 : Nat → Int} {a4 : Int} {a5 : Int} {z0 : List V} (h : s_impl_Roof_cellsOf n a0 a1 a2 a3 a4 a5 = some z0) : ∀ k, n + 2 ≤ k → sem E k 163 [(V.parts [(V.int .i8 (a0)), (V.int .i8 (a1)), (V.int .u8 (a2)), (V.ints .u8 64 (a3))]), (V.parts [(V.int .i8 (a4)), (V.int .i8 (a5))])] = some (V.fresh 3 (z0)) := by
  intro k hk
  obtain ⟨k, rfl⟩ : ∃ q, k = q + 1 := ⟨k - 1, by omega⟩
  unfold s_impl_Roof_cellsOf at h
  obtain ⟨y1_0, q1, h⟩ := bnd_some h
  replace h := Option.some.inj h
  obtain rfl := h
  refine pFun_by [.v (V.int .i64 (y1_0))] rfl (And.intro (w_impl_Roof_shift q1 k (by omega)) trivial) ?_
  kernel_rfl
theorem w_impl_KindsFor_1 {n : Nat} {a0 : Int} {z0 : List V} (h : s_impl_KindsFor_1 n a0 = some z0) : ∀ k, n + 1 ≤ k → sem E k 135 [(V.int .i64 (a0))] = some (V.fresh 5 (z0)) := by
  intro k hk
  obtain ⟨k, rfl⟩ : ∃ q, k = q + 1 := ⟨k - 1, by omega⟩
  unfold s_impl_KindsFor_1 at h
  replace h := Option.some.inj h
  obtain rfl := h
  refine pFun_by [] rfl trivial ?_
  kernel_rfl
theorem w_impl_up_int32 {n : Nat} {a0 : Int} {a1 : Int} {z0 : Int} (h : s_impl_up_int32 n a0 a1 = some z0) : ∀ k, n + 1 ≤ k → sem E k 241 [(V.int .i32 (a0)), (V.int .i32 (a1))] = some (V.int .i32 (z0)) := by
  intro k hk
  obtain ⟨k, rfl⟩ : ∃ q, k = q + 1 := ⟨k - 1, by omega⟩
  unfold s_impl_up_int32 at h
  obtain ⟨c1, h⟩ := chk_some h
  replace h := Option.some.inj h
  obtain rfl := h
  refine pFun_by [] rfl (And.intro c1 trivial) ?_
  kernel_rfl
theorem w_impl_dripOf {n : Nat} {a0 : Int} {a1 : Int} {a2 : Int} {z0 : Int} (h : s_impl_dripOf n a0 a1 a2 = some z0) : ∀ k, n + 2 ≤ k → sem E k 207 [(V.int .u8 (a0)), (V.int .u8 (a1)), (V.int .i32 (a2))] = some (V.int .i32 (z0)) := by
  intro k hk
  obtain ⟨k, rfl⟩ : ∃ q, k = q + 1 := ⟨k - 1, by omega⟩
  unfold s_impl_dripOf at h
  rcases cnd_some h with ⟨h1, h⟩ | ⟨h1, h⟩
  · obtain ⟨y2_0, q2, h⟩ := bnd_some h
    replace h := Option.some.inj h
    obtain rfl := h
    refine pFun_by [.b true, .v (V.int .i32 (y2_0))] rfl (And.intro h1 (And.intro (w_impl_up_int32 q2 k (by omega)) trivial)) ?_
    kernel_rfl
  · rcases cnd_some h with ⟨h3, h⟩ | ⟨h3, h⟩
    · obtain ⟨y4_0, q4, h⟩ := bnd_some h
      replace h := Option.some.inj h
      obtain rfl := h
      refine pFun_by [.b false, .b true, .v (V.int .i32 (y4_0))] rfl (And.intro h1 (And.intro h3 (And.intro (w_impl_up_int32 q4 k (by omega)) trivial))) ?_
      kernel_rfl
    · rcases cnd_some h with ⟨h5, h⟩ | ⟨h5, h⟩
      · rcases cnd_some h with ⟨h6, h⟩ | ⟨h6, h⟩
        · replace h := Option.some.inj h
          obtain rfl := h
          refine pFun_by [.b false, .b false, .b true, .b false] rfl (And.intro h1 (And.intro h3 (And.intro h5 (And.intro (not_f h6) trivial)))) ?_
          kernel_rfl
        · replace h := Option.some.inj h
          obtain rfl := h
          refine pFun_by [.b false, .b false, .b true, .b true] rfl (And.intro h1 (And.intro h3 (And.intro h5 (And.intro (not_t h6) trivial)))) ?_
          kernel_rfl
      · replace h := Option.some.inj h
        obtain rfl := h
        refine pFun_by [.b false, .b false, .b false, .b false] rfl (And.intro h1 (And.intro h3 (And.intro h5 (And.intro (Eq.refl false) trivial)))) ?_
        kernel_rfl
theorem w_pimpl_seeker_kinds_1_1 {n : Nat} {a0 : Int} {a1 : Int} {a2 : Int} {a3 : Int} {z0 : Bool} (h : s_pimpl_seeker_kinds_1_1 n a0 a1 a2 a3 = some z0) : ∀ k, n + 3 ≤ k → sem E k 206 [(V.int .u8 (a0)), (V.ref [(V.int .u8 (a1))] 0 (0) 1), (V.ref [(V.int .i32 (a2))] 0 (0) 1), (V.ref [(V.int .i32 (a3))] 0 (0) 1)] = some (V.bool (z0)) := by
  intro k hk
  obtain ⟨k, rfl⟩ : ∃ q, k = q + 1 := ⟨k - 1, by omega⟩
  unfold s_pimpl_seeker_kinds_1_1 at h
  obtain ⟨y1_0, q1, h⟩ := bnd_some h
  replace h := Option.some.inj h
  obtain rfl := h
  refine pFun_by [.v (V.int .i32 (y1_0))] rfl (And.intro (w_impl_dripOf q1 k (by omega)) trivial) ?_
  kernel_rfl
theorem lw_slices_IndexFunc_Suint8_uint8__pseeker_kinds_1_1_b0 : ∀ (n : Nat) (a0 : List V) (a1 : Int) (a2 : Int) (a3 : Int) (a4 : Int) (a5 : Int) (r : Sum (Unit) (Int)), l_slices_IndexFunc_Suint8_uint8__pseeker_kinds_1_1_b0 n a0 a1 a2 a3 a4 a5 = some r → ∀ k m, n + 3 ≤ k → n ≤ m → LB E 240 0 k m ⟨[(0, (V.sl (a0))), (1, (V.clo 206 [(V.ref [(V.int .u8 (a1))] 0 (0) 1), (V.ref [(V.int .i32 (a2))] 0 (0) 1), (V.ref [(V.int .i32 (a3))] 0 (0) 1)])), (7, (V.int .i64 (a4))), (8, (V.int .i64 (a5)))], []⟩ = some (match r with | .inl _ => (.normal, ⟨[], []⟩) | .inr o0 => (.ret, ⟨[(4, (V.int .i64 (o0)))], []⟩)) := by
  intro n
  induction n with
  | zero => intro a0 a1 a2 a3 a4 a5 r h; cases h
  | succ n ih =>
    intro a0 a1 a2 a3 a4 a5 r h k m hk hm
    obtain ⟨m, rfl⟩ : ∃ q, m = q + 1 := ⟨m - 1, by omega⟩
    replace hk : n + 3 ≤ k := by omega
    unfold l_slices_IndexFunc_Suint8_uint8__pseeker_kinds_1_1_b0 at h
    rcases cnd_some h with ⟨h1, h⟩ | ⟨h1, h⟩
    · obtain ⟨e2_0, g2, h⟩ := bnd_some h
      replace g2 := as_u8_some g2
      obtain ⟨y3_0, q3, h⟩ := bnd_some h
      rcases cnd_some h with ⟨h4, h⟩ | ⟨h4, h⟩
      · cases h
        refine pLast_by [.b true, .v (V.int .u8 (e2_0)), .v (V.bool (y3_0)), .b true] (And.intro h1 (And.intro g2 (And.intro (w_pimpl_seeker_kinds_1_1 q3 k (by omega)) (And.intro h4 trivial)))) ?_
        kernel_rfl
      · refine pNext_by [.b true, .v (V.int .u8 (e2_0)), .v (V.bool (y3_0)), .b false] (And.intro h1 (And.intro g2 (And.intro (w_pimpl_seeker_kinds_1_1 q3 k (by omega)) (And.intro h4 trivial)))) (ih _ _ _ _ _ _ _ h k m hk (by omega)) ?_
        kernel_rfl
    · cases h
      refine pLast_by [.b false] (And.intro h1 trivial) ?_
      kernel_rfl
theorem w_slices_IndexFunc_Suint8_uint8__pseeker_kinds_1_1 {n : Nat} {a0 : List V} {a1 : Int} {a2 : Int} {a3 : Int} {z0 : Int} (h : s_slices_IndexFunc_Suint8_uint8__pseeker_kinds_1_1 n a0 a1 a2 a3 = some z0) : ∀ k, n + 4 ≤ k → sem E k 240 [(V.sl (a0)), (V.clo 206 [(V.ref [(V.int .u8 (a1))] 0 (0) 1), (V.ref [(V.int .i32 (a2))] 0 (0) 1), (V.ref [(V.int .i32 (a3))] 0 (0) 1)])] = some (V.int .i64 (z0)) := by
  intro k hk
  obtain ⟨k, rfl⟩ : ∃ q, k = q + 1 := ⟨k - 1, by omega⟩
  unfold s_slices_IndexFunc_Suint8_uint8__pseeker_kinds_1_1 at h
  obtain ⟨w, l5, h⟩ := bnd_some h
  rcases w with ⟨⟩ | u6_0
  · replace h := Option.some.inj h
    obtain rfl := h
    refine pFun_by [.l .normal ⟨[], []⟩] rfl (And.intro (lw_slices_IndexFunc_Suint8_uint8__pseeker_kinds_1_1_b0 _ _ _ _ _ _ _ _ l5 k k (by omega) (by omega)) trivial) ?_
    kernel_rfl
  · replace h := Option.some.inj h
    obtain rfl := h
    refine pFun_by [.l .ret ⟨[(4, (V.int .i64 (u6_0)))], []⟩] rfl (And.intro (lw_slices_IndexFunc_Suint8_uint8__pseeker_kinds_1_1_b0 _ _ _ _ _ _ _ _ l5 k k (by omega) (by omega)) trivial) ?_
    kernel_rfl
theorem w_slices_ContainsFunc_Suint8_uint8__pseeker_kinds_1_1 {n : Nat} {a0 : List V} {a1 : Int} {a2 : Int} {a3 : Int} {z0 : Bool} (h : s_slices_ContainsFunc_Suint8_uint8__pseeker_kinds_1_1 n a0 a1 a2 a3 = some z0) : ∀ k, n + 5 ≤ k → sem E k 205 [(V.sl (a0)), (V.clo 206 [(V.ref [(V.int .u8 (a1))] 0 (0) 1), (V.ref [(V.int .i32 (a2))] 0 (0) 1), (V.ref [(V.int .i32 (a3))] 0 (0) 1)])] = some (V.bool (z0)) := by
  intro k hk
  obtain ⟨k, rfl⟩ : ∃ q, k = q + 1 := ⟨k - 1, by omega⟩
  unfold s_slices_ContainsFunc_Suint8_uint8__pseeker_kinds_1_1 at h
  obtain ⟨y1_0, q1, h⟩ := bnd_some h
  replace h := Option.some.inj h
  obtain rfl := h
  refine pFun_by [.v (V.int .i64 (y1_0))] rfl (And.intro (w_slices_IndexFunc_Suint8_uint8__pseeker_kinds_1_1 q1 k (by omega)) trivial) ?_
  kernel_rfl
theorem w_pimpl_seeker_kinds_1__KindsFor_1 {n : Nat} {a0 : Int} {a1 : Int} {a2 : Int} {a3 : Int} {a4 : Nat → Int} {a5 : Nat → Int} {a6 : Nat → Int} {a7 : Int} {a8 : Int} {a9 : Int} {z0 : Bool} (h : s_pimpl_seeker_kinds_1__KindsFor_1 n a0 a1 a2 a3 a4 a5 a6 a7 a8 a9 = some z0) : ∀ k, n + 6 ≤ k → sem E k 204 [(V.int .i64 (a0)), (V.ref [(V.ref [(V.int .i8 (a1)), (V.int .i8 (a2)), (V.int .u8 (a3)), (V.ints .u8 64 (a4)), (V.ints .i32 136 (a5)), (V.ints .i32 136 (a6))] 0 (0) 339)] 0 (0) 1), (V.ref [(V.int .i8 (a7)), (V.int .i8 (a8))] 0 (0) 2), (V.ref [(V.clo 135 [])] 0 (0) 1), (V.ref [(V.int .u8 (a9))] 0 (0) 1)] = some (V.bool (z0)) := by
  intro k hk
  obtain ⟨k, rfl⟩ : ∃ q, k = q + 1 := ⟨k - 1, by omega⟩
  unfold s_pimpl_seeker_kinds_1__KindsFor_1 at h
  obtain ⟨c1, h⟩ := chk_some h
  obtain ⟨c2, h⟩ := chk_some h
  obtain ⟨y3_0, q3, h⟩ := bnd_some h
  obtain ⟨y4_0, q4, h⟩ := bnd_some h
  replace h := Option.some.inj h
  obtain rfl := h
  refine pFun_by [.v (V.fresh 5 (y3_0)), .v (V.bool (y4_0))] rfl (And.intro c1 (And.intro c2 (And.intro c1 (And.intro c2 (And.intro (w_impl_KindsFor_1 q3 k (by omega)) (And.intro (w_slices_ContainsFunc_Suint8_uint8__pseeker_kinds_1_1 q4 k (by omega)) (And.intro (Eq.refl true) trivial))))))) ?_
  kernel_rfl
theorem w_impl_areAll_int_1__pseeker_kinds_1__KindsFor_1 {n : Nat} {a0 : Int} {a1 : Int} {a2 : Int} {a3 : Int} {a4 : Nat → Int} {a5 : Nat → Int} {a6 : Nat → Int} {a7 : Int} {a8 : Int} {a9 : Int} {z0 : Bool} (h : s_impl_areAll_int_1__pseeker_kinds_1__KindsFor_1 n a0 a1 a2 a3 a4 a5 a6 a7 a8 a9 = some z0) : ∀ k, n + 7 ≤ k → sem E k 239 [(V.int .i64 (a0)), (V.ref [(V.clo 204 [(V.ref [(V.ref [(V.int .i8 (a1)), (V.int .i8 (a2)), (V.int .u8 (a3)), (V.ints .u8 64 (a4)), (V.ints .i32 136 (a5)), (V.ints .i32 136 (a6))] 0 (0) 339)] 0 (0) 1), (V.ref [(V.int .i8 (a7)), (V.int .i8 (a8))] 0 (0) 2), (V.ref [(V.clo 135 [])] 0 (0) 1), (V.ref [(V.int .u8 (a9))] 0 (0) 1)])] 0 (0) 1)] = some (V.bool (z0)) := by
  intro k hk
  obtain ⟨k, rfl⟩ : ∃ q, k = q + 1 := ⟨k - 1, by omega⟩
  unfold s_impl_areAll_int_1__pseeker_kinds_1__KindsFor_1 at h
  obtain ⟨y1_0, q1, h⟩ := bnd_some h
  replace h := Option.some.inj h
  obtain rfl := h
  refine pFun_by [.v (V.bool (y1_0))] rfl (And.intro (w_pimpl_seeker_kinds_1__KindsFor_1 q1 k (by omega)) trivial) ?_
  kernel_rfl
theorem lw_slices_IndexFunc_Sint_int__areAll_int_1__pseeker_kinds_1__KindsFor_1_b0 : ∀ (n : Nat) (a0 : List V) (a1 : Int) (a2 : Int) (a3 : Int) (a4 : Nat → Int) (a5 : Nat → Int) (a6 : Nat → Int) (a7 : Int) (a8 : Int) (a9 : Int) (a10 : Int) (a11 : Int) (r : Sum (Unit) (Int)), l_slices_IndexFunc_Sint_int__areAll_int_1__pseeker_kinds_1__KindsFor_1_b0 n a0 a1 a2 a3 a4 a5 a6 a7 a8 a9 a10 a11 = some r → ∀ k m, n + 7 ≤ k → n ≤ m → LB E 260 0 k m ⟨[(0, (V.sl (a0))), (1, (V.clo 239 [(V.ref [(V.clo 204 [(V.ref [(V.ref [(V.int .i8 (a1)), (V.int .i8 (a2)), (V.int .u8 (a3)), (V.ints .u8 64 (a4)), (V.ints .i32 136 (a5)), (V.ints .i32 136 (a6))] 0 (0) 339)] 0 (0) 1), (V.ref [(V.int .i8 (a7)), (V.int .i8 (a8))] 0 (0) 2), (V.ref [(V.clo 135 [])] 0 (0) 1), (V.ref [(V.int .u8 (a9))] 0 (0) 1)])] 0 (0) 1)])), (7, (V.int .i64 (a10))), (8, (V.int .i64 (a11)))], []⟩ = some (match r with | .inl _ => (.normal, ⟨[], []⟩) | .inr o0 => (.ret, ⟨[(4, (V.int .i64 (o0)))], []⟩)) := by
  intro n
  induction n with
  | zero => intro a0 a1 a2 a3 a4 a5 a6 a7 a8 a9 a10 a11 r h; cases h
  | succ n ih =>
    intro a0 a1 a2 a3 a4 a5 a6 a7 a8 a9 a10 a11 r h k m hk hm
    obtain ⟨m, rfl⟩ : ∃ q, m = q + 1 := ⟨m - 1, by omega⟩
    replace hk : n + 7 ≤ k := by omega
    unfold l_slices_IndexFunc_Sint_int__areAll_int_1__pseeker_kinds_1__KindsFor_1_b0 at h
    rcases cnd_some h with ⟨h1, h⟩ | ⟨h1, h⟩
    · obtain ⟨e2_0, g2, h⟩ := bnd_some h
      replace g2 := as_i64_some g2
      obtain ⟨y3_0, q3, h⟩ := bnd_some h
      rcases cnd_some h with ⟨h4, h⟩ | ⟨h4, h⟩
      · cases h
        refine pLast_by [.b true, .v (V.int .i64 (e2_0)), .v (V.bool (y3_0)), .b true] (And.intro h1 (And.intro g2 (And.intro (w_impl_areAll_int_1__pseeker_kinds_1__KindsFor_1 q3 k (by omega)) (And.intro h4 trivial)))) ?_
        kernel_rfl
      · refine pNext_by [.b true, .v (V.int .i64 (e2_0)), .v (V.bool (y3_0)), .b false] (And.intro h1 (And.intro g2 (And.intro (w_impl_areAll_int_1__pseeker_kinds_1__KindsFor_1 q3 k (by omega)) (And.intro h4 trivial)))) (ih _ _ _ _ _ _ _ _ _ _ _ _ _ h k m hk (by omega)) ?_
        kernel_rfl
    · cases h
      refine pLast_by [.b false] (And.intro h1 trivial) ?_
      kernel_rfl
theorem w_slices_IndexFunc_Sint_int__areAll_int_1__pseeker_kinds_1__KindsFor_1 {n : Nat} {a0 : List V} {a1 : Int} {a2 : Int} {a3 : Int} {a4 : Nat → Int} {a5 : Nat → Int} {a6 : Nat → Int} {a7 : Int} {a8 : Int} {a9 : Int} {z0 : Int} (h : s_slices_IndexFunc_Sint_int__areAll_int_1__pseeker_kinds_1__KindsFor_1 n a0 a1 a2 a3 a4 a5 a6 a7 a8 a9 = some z0) : ∀ k, n + 8 ≤ k → sem E k 260 [(V.sl (a0)), (V.clo 239 [(V.ref [(V.clo 204 [(V.ref [(V.ref [(V.int .i8 (a1)), (V.int .i8 (a2)), (V.int .u8 (a3)), (V.ints .u8 64 (a4)), (V.ints .i32 136 (a5)), (V.ints .i32 136 (a6))] 0 (0) 339)] 0 (0) 1), (V.ref [(V.int .i8 (a7)), (V.int .i8 (a8))] 0 (0) 2), (V.ref [(V.clo 135 [])] 0 (0) 1), (V.ref [(V.int .u8 (a9))] 0 (0) 1)])] 0 (0) 1)])] = some (V.int .i64 (z0)) := by
  intro k hk
  obtain ⟨k, rfl⟩ : ∃ q, k = q + 1 := ⟨k - 1, by omega⟩
  unfold s_slices_IndexFunc_Sint_int__areAll_int_1__pseeker_kinds_1__KindsFor_1 at h
  obtain ⟨w, l5, h⟩ := bnd_some h
  rcases w with ⟨⟩ | u6_0
  · replace h := Option.some.inj h
    obtain rfl := h
    refine pFun_by [.l .normal ⟨[], []⟩] rfl (And.intro (lw_slices_IndexFunc_Sint_int__areAll_int_1__pseeker_kinds_1__KindsFor_1_b0 _ _ _ _ _ _ _ _ _ _ _ _ _ _ l5 k k (by omega) (by omega)) trivial) ?_
    kernel_rfl
  · replace h := Option.some.inj h
    obtain rfl := h
    refine pFun_by [.l .ret ⟨[(4, (V.int .i64 (u6_0)))], []⟩] rfl (And.intro (lw_slices_IndexFunc_Sint_int__areAll_int_1__pseeker_kinds_1__KindsFor_1_b0 _ _ _ _ _ _ _ _ _ _ _ _ _ _ l5 k k (by omega) (by omega)) trivial) ?_
    kernel_rfl
theorem w_slices_ContainsFunc_Sint_int__areAll_int_1__pseeker_kinds_1__KindsFor_1 {n : Nat} {a0 : List V} {a1 : Int} {a2 : Int} {a3 : Int} {a4 : Nat → Int} {a5 : Nat → Int} {a6 : Nat → Int} {a7 : Int} {a8 : Int} {a9 : Int} {z0 : Bool} (h : s_slices_ContainsFunc_Sint_int__areAll_int_1__pseeker_kinds_1__KindsFor_1 n a0 a1 a2 a3 a4 a5 a6 a7 a8 a9 = some z0) : ∀ k, n + 9 ≤ k → sem E k 238 [(V.sl (a0)), (V.clo 239 [(V.ref [(V.clo 204 [(V.ref [(V.ref [(V.int .i8 (a1)), (V.int .i8 (a2)), (V.int .u8 (a3)), (V.ints .u8 64 (a4)), (V.ints .i32 136 (a5)), (V.ints .i32 136 (a6))] 0 (0) 339)] 0 (0) 1), (V.ref [(V.int .i8 (a7)), (V.int .i8 (a8))] 0 (0) 2), (V.ref [(V.clo 135 [])] 0 (0) 1), (V.ref [(V.int .u8 (a9))] 0 (0) 1)])] 0 (0) 1)])] = some (V.bool (z0)) := by
  intro k hk
  obtain ⟨k, rfl⟩ : ∃ q, k = q + 1 := ⟨k - 1, by omega⟩
  unfold s_slices_ContainsFunc_Sint_int__areAll_int_1__pseeker_kinds_1__KindsFor_1 at h
  obtain ⟨y1_0, q1, h⟩ := bnd_some h
  replace h := Option.some.inj h
  obtain rfl := h
  refine pFun_by [.v (V.int .i64 (y1_0))] rfl (And.intro (w_slices_IndexFunc_Sint_int__areAll_int_1__pseeker_kinds_1__KindsFor_1 q1 k (by omega)) trivial) ?_
  kernel_rfl
theorem w_impl_areAll_int__pseeker_kinds_1__KindsFor_1 {n : Nat} {a0 : List V} {a1 : Int} {a2 : Int} {a3 : Int} {a4 : Nat → Int} {a5 : Nat → Int} {a6 : Nat → Int} {a7 : Int} {a8 : Int} {a9 : Int} {z0 : Bool} (h : s_impl_areAll_int__pseeker_kinds_1__KindsFor_1 n a0 a1 a2 a3 a4 a5 a6 a7 a8 a9 = some z0) : ∀ k, n + 10 ≤ k → sem E k 203 [(V.sl (a0)), (V.clo 204 [(V.ref [(V.ref [(V.int .i8 (a1)), (V.int .i8 (a2)), (V.int .u8 (a3)), (V.ints .u8 64 (a4)), (V.ints .i32 136 (a5)), (V.ints .i32 136 (a6))] 0 (0) 339)] 0 (0) 1), (V.ref [(V.int .i8 (a7)), (V.int .i8 (a8))] 0 (0) 2), (V.ref [(V.clo 135 [])] 0 (0) 1), (V.ref [(V.int .u8 (a9))] 0 (0) 1)])] = some (V.bool (z0)) := by
  intro k hk
  obtain ⟨k, rfl⟩ : ∃ q, k = q + 1 := ⟨k - 1, by omega⟩
  unfold s_impl_areAll_int__pseeker_kinds_1__KindsFor_1 at h
  obtain ⟨y1_0, q1, h⟩ := bnd_some h
  replace h := Option.some.inj h
  obtain rfl := h
  refine pFun_by [.v (V.bool (y1_0))] rfl (And.intro (w_slices_ContainsFunc_Sint_int__areAll_int_1__pseeker_kinds_1__KindsFor_1 q1 k (by omega)) (And.intro (Eq.refl true) trivial)) ?_
  kernel_rfl
theorem lw_pimpl_seeker_kinds__KindsFor_1_b0 : ∀ (n : Nat) (a0 : Int) (a1 : Int) (a2 : Int) (a3 : Int) (a4 : Int) (a5 : Nat → Int) (a6 : Nat → Int) (a7 : Nat → Int) (a8 : Int) (a9 : Int) (r : Int), l_pimpl_seeker_kinds__KindsFor_1_b0 n a0 a1 a2 a3 a4 a5 a6 a7 a8 a9 = some r → ∀ k m, n + 10 ≤ k → n ≤ m → LB E 134 0 k m ⟨[(3, (V.ptr 7 0 (0) 1)), (4, (V.ptr 9 0 (0) 2)), (5, (V.ptr 11 0 (0) 1)), (7, (V.int .u8 (a0))), (9, (V.int .u8 (a1)))], [(7, .box [(V.ref [(V.int .i8 (a2)), (V.int .i8 (a3)), (V.int .u8 (a4)), (V.ints .u8 64 (a5)), (V.ints .i32 136 (a6)), (V.ints .i32 136 (a7))] 0 (0) 339)]), (9, .box [(V.int .i8 (a8)), (V.int .i8 (a9))]), (11, .box [(V.clo 135 [])])]⟩ = some (match r with | o0 => (.normal, ⟨[(7, (V.int .u8 (o0)))], []⟩)) := by
  intro n
  induction n with
  | zero => intro a0 a1 a2 a3 a4 a5 a6 a7 a8 a9 r h; cases h
  | succ n ih =>
    intro a0 a1 a2 a3 a4 a5 a6 a7 a8 a9 r h k m hk hm
    obtain ⟨m, rfl⟩ : ∃ q, m = q + 1 := ⟨m - 1, by omega⟩
    replace hk : n + 10 ≤ k := by omega
    unfold l_pimpl_seeker_kinds__KindsFor_1_b0 at h
    rcases cnd_some h with ⟨h1, h⟩ | ⟨h1, h⟩
    · obtain ⟨y2_0, q2, h⟩ := bnd_some h
      obtain ⟨y3_0, q3, h⟩ := bnd_some h
      rcases cnd_some h with ⟨h4, h⟩ | ⟨h4, h⟩
      · obtain ⟨c5, h⟩ := chk_some h
        refine pNext_by [.b true, .v (V.fresh 3 (y2_0)), .v (V.bool (y3_0)), .b true] (And.intro h1 (And.intro (w_impl_Roof_cellsOf q2 k (by omega)) (And.intro (w_impl_areAll_int__pseeker_kinds_1__KindsFor_1 q3 k (by omega)) (And.intro (Eq.refl true) (And.intro h4 (And.intro c5 trivial)))))) (ih _ _ _ _ _ _ _ _ _ _ _ h k m hk (by omega)) ?_
        kernel_rfl
      · refine pNext_by [.b true, .v (V.fresh 3 (y2_0)), .v (V.bool (y3_0)), .b false] (And.intro h1 (And.intro (w_impl_Roof_cellsOf q2 k (by omega)) (And.intro (w_impl_areAll_int__pseeker_kinds_1__KindsFor_1 q3 k (by omega)) (And.intro (Eq.refl true) (And.intro h4 trivial))))) (ih _ _ _ _ _ _ _ _ _ _ _ h k m hk (by omega)) ?_
        kernel_rfl
    · cases h
      refine pLast_by [.b false] (And.intro h1 trivial) ?_
      kernel_rfl
theorem w_pimpl_seeker_kinds__KindsFor_1 {n : Nat} {a0 : Int} {a1 : Int} {a2 : Int} {a3 : Nat → Int} {a4 : Nat → Int} {a5 : Nat → Int} {a6 : Int} {a7 : Int} {z0 : Int} (h : s_pimpl_seeker_kinds__KindsFor_1 n a0 a1 a2 a3 a4 a5 a6 a7 = some z0) : ∀ k, n + 11 ≤ k → sem E k 134 [(V.ref [(V.int .i8 (a0)), (V.int .i8 (a1)), (V.int .u8 (a2)), (V.ints .u8 64 (a3)), (V.ints .i32 136 (a4)), (V.ints .i32 136 (a5))] 0 (0) 339), (V.parts [(V.int .i8 (a6)), (V.int .i8 (a7))]), (V.clo 135 [])] = some (V.int .u8 (z0)) := by
  intro k hk
  obtain ⟨k, rfl⟩ : ∃ q, k = q + 1 := ⟨k - 1, by omega⟩
  unfold s_pimpl_seeker_kinds__KindsFor_1 at h
  obtain ⟨u6_0, l6, h⟩ := bnd_some h
  replace h := Option.some.inj h
  obtain rfl := h
  refine pFun_by [.l .normal ⟨[(7, (V.int .u8 (u6_0)))], []⟩] rfl (And.intro (lw_pimpl_seeker_kinds__KindsFor_1_b0 _ _ _ _ _ _ _ _ _ _ _ _ l6 k k (by omega) (by omega)) trivial) ?_
  kernel_rfl
theorem w_impl_KindsFor {n : Nat} {a0 : Int} {a1 : Int} {a2 : Int} {a3 : Nat → Int} {a4 : Nat → Int} {a5 : Nat → Int} {a6 : Int} {a7 : Int} {z0 : Int} {z1 : Int} (h : s_impl_KindsFor n a0 a1 a2 a3 a4 a5 a6 a7 = some (z0, z1)) : ∀ k, n + 12 ≤ k → sem E k 49 [(V.parts [(V.int .i8 (a0)), (V.int .i8 (a1)), (V.int .u8 (a2)), (V.ints .u8 64 (a3))]), (V.ints .i16 17 (a4)), (V.ints .i32 136 (a5)), (V.parts [(V.int .i8 (a6)), (V.int .i8 (a7))])] = some (V.tup [(V.int .u8 (z0)), (V.int .i64 (z1))]) := by
  intro k hk
  obtain ⟨k, rfl⟩ : ∃ q, k = q + 1 := ⟨k - 1, by omega⟩
  unfold s_impl_KindsFor at h
  obtain ⟨y1_0, q1, h⟩ := bnd_some h
  obtain ⟨y2_0, q2, h⟩ := bnd_some h
  rcases cnd_some h with ⟨h3, h⟩ | ⟨h3, h⟩
  · obtain ⟨⟨y4_0, y4_1, y4_2, y4_3, y4_4, y4_5⟩, q4, h⟩ := bnd_some h
    obtain ⟨y5_0, q5, h⟩ := bnd_some h
    simp only [Option.some.injEq, Prod.mk.injEq] at h
    obtain ⟨rfl, rfl⟩ := h
    refine pFun_by [.v (V.bool (y1_0)), .v (V.int .i64 (y2_0)), .b false, .v (V.ref [(V.int .i8 (y4_0)), (V.int .i8 (y4_1)), (V.int .u8 (y4_2)), (V.ints .u8 64 (y4_3)), (V.ints .i32 136 (y4_4)), (V.ints .i32 136 (y4_5))] 0 (0) 339), .v (V.int .u8 (y5_0))] rfl (And.intro (w_impl_Roof_has q1 k (by omega)) (And.intro (w_impl_seenCode q2 k (by omega)) (And.intro (not_f h3) (And.intro (w_impl_seekerOf q4 k (by omega)) (And.intro (w_pimpl_seeker_kinds__KindsFor_1 q5 k (by omega)) trivial))))) ?_
    kernel_rfl
  · simp only [Option.some.injEq, Prod.mk.injEq] at h
    obtain ⟨rfl, rfl⟩ := h
    refine pFun_by [.v (V.bool (y1_0)), .v (V.int .i64 (y2_0)), .b true] rfl (And.intro (w_impl_Roof_has q1 k (by omega)) (And.intro (w_impl_seenCode q2 k (by omega)) (And.intro (not_t h3) trivial))) ?_
    kernel_rfl
theorem w_laws_FnExactKindsFor {n : Nat} {a0 : Int} {a1 : Int} {a2 : Int} {a3 : Nat → Int} {a4 : Nat → Int} {a5 : Nat → Int} {a6 : Int} {a7 : Int} {z0 : Bool} (h : s_laws_FnExactKindsFor n a0 a1 a2 a3 a4 a5 a6 a7 = some z0) : ∀ k, n + 13 ≤ k → sem E k 10 [(V.parts [(V.int .i8 (a0)), (V.int .i8 (a1)), (V.int .u8 (a2)), (V.ints .u8 64 (a3))]), (V.ints .i16 17 (a4)), (V.ints .i32 136 (a5)), (V.parts [(V.int .i8 (a6)), (V.int .i8 (a7))])] = some (V.bool (z0)) := by
  intro k hk
  obtain ⟨k, rfl⟩ : ∃ q, k = q + 1 := ⟨k - 1, by omega⟩
  unfold s_laws_FnExactKindsFor at h
  obtain ⟨⟨y1_0, y1_1, y1_2, y1_3⟩, q1, h⟩ := bnd_some h
  obtain ⟨y2_0, q2, h⟩ := bnd_some h
  obtain ⟨y3_0, q3, h⟩ := bnd_some h
  obtain ⟨⟨y4_0, y4_1⟩, q4, h⟩ := bnd_some h
  obtain ⟨⟨y5_0, y5_1⟩, q5, h⟩ := bnd_some h
  obtain ⟨⟨y6_0, y6_1, y6_2, y6_3⟩, q6, h⟩ := bnd_some h
  obtain ⟨y7_0, q7, h⟩ := bnd_some h
  obtain ⟨y8_0, q8, h⟩ := bnd_some h
  obtain ⟨⟨y9_0, y9_1⟩, q9, h⟩ := bnd_some h
  obtain ⟨⟨y10_0, y10_1⟩, q10, h⟩ := bnd_some h
  rcases cnd_some h with ⟨h11, h⟩ | ⟨h11, h⟩
  · rcases cnd_some h with ⟨h12, h⟩ | ⟨h12, h⟩
    · replace h := Option.some.inj h
      obtain rfl := h
      refine pFun_by [.v (V.parts [(V.int .i8 (y1_0)), (V.int .i8 (y1_1)), (V.int .u8 (y1_2)), (V.ints .u8 64 (y1_3))]), .v (V.ints .i16 17 (y2_0)), .v (V.ints .i32 136 (y3_0)), .v (V.parts [(V.int .i8 (y4_0)), (V.int .i8 (y4_1))]), .v (V.tup [(V.int .u8 (y5_0)), (V.int .i64 (y5_1))]), .v (V.parts [(V.int .i8 (y6_0)), (V.int .i8 (y6_1)), (V.int .u8 (y6_2)), (V.ints .u8 64 (y6_3))]), .v (V.ints .i16 17 (y7_0)), .v (V.ints .i32 136 (y8_0)), .v (V.parts [(V.int .i8 (y9_0)), (V.int .i8 (y9_1))]), .v (V.tup [(V.int .u8 (y10_0)), (V.int .i64 (y10_1))]), .b false, .b false] rfl (And.intro (w_laws_toRoof q1 k (by omega)) (And.intro (w_laws_toRain q2 k (by omega)) (And.intro (w_laws_toDrips q3 k (by omega)) (And.intro (w_laws_toPlace q4 k (by omega)) (And.intro (w_spec_KindsFor q5 k (by omega)) (And.intro (w_laws_toRoof q6 k (by omega)) (And.intro (w_laws_toRain q7 k (by omega)) (And.intro (w_laws_toDrips q8 k (by omega)) (And.intro (w_laws_toPlace q9 k (by omega)) (And.intro (w_impl_KindsFor q10 k (by omega)) (And.intro (not_f h11) (And.intro (not_f h12) trivial)))))))))))) ?_
      kernel_rfl
    · replace h := Option.some.inj h
      obtain rfl := h
      refine pFun_by [.v (V.parts [(V.int .i8 (y1_0)), (V.int .i8 (y1_1)), (V.int .u8 (y1_2)), (V.ints .u8 64 (y1_3))]), .v (V.ints .i16 17 (y2_0)), .v (V.ints .i32 136 (y3_0)), .v (V.parts [(V.int .i8 (y4_0)), (V.int .i8 (y4_1))]), .v (V.tup [(V.int .u8 (y5_0)), (V.int .i64 (y5_1))]), .v (V.parts [(V.int .i8 (y6_0)), (V.int .i8 (y6_1)), (V.int .u8 (y6_2)), (V.ints .u8 64 (y6_3))]), .v (V.ints .i16 17 (y7_0)), .v (V.ints .i32 136 (y8_0)), .v (V.parts [(V.int .i8 (y9_0)), (V.int .i8 (y9_1))]), .v (V.tup [(V.int .u8 (y10_0)), (V.int .i64 (y10_1))]), .b false, .b true] rfl (And.intro (w_laws_toRoof q1 k (by omega)) (And.intro (w_laws_toRain q2 k (by omega)) (And.intro (w_laws_toDrips q3 k (by omega)) (And.intro (w_laws_toPlace q4 k (by omega)) (And.intro (w_spec_KindsFor q5 k (by omega)) (And.intro (w_laws_toRoof q6 k (by omega)) (And.intro (w_laws_toRain q7 k (by omega)) (And.intro (w_laws_toDrips q8 k (by omega)) (And.intro (w_laws_toPlace q9 k (by omega)) (And.intro (w_impl_KindsFor q10 k (by omega)) (And.intro (not_f h11) (And.intro (not_t h12) trivial)))))))))))) ?_
      kernel_rfl
  · replace h := Option.some.inj h
    obtain rfl := h
    refine pFun_by [.v (V.parts [(V.int .i8 (y1_0)), (V.int .i8 (y1_1)), (V.int .u8 (y1_2)), (V.ints .u8 64 (y1_3))]), .v (V.ints .i16 17 (y2_0)), .v (V.ints .i32 136 (y3_0)), .v (V.parts [(V.int .i8 (y4_0)), (V.int .i8 (y4_1))]), .v (V.tup [(V.int .u8 (y5_0)), (V.int .i64 (y5_1))]), .v (V.parts [(V.int .i8 (y6_0)), (V.int .i8 (y6_1)), (V.int .u8 (y6_2)), (V.ints .u8 64 (y6_3))]), .v (V.ints .i16 17 (y7_0)), .v (V.ints .i32 136 (y8_0)), .v (V.parts [(V.int .i8 (y9_0)), (V.int .i8 (y9_1))]), .v (V.tup [(V.int .u8 (y10_0)), (V.int .i64 (y10_1))]), .b true, .b true] rfl (And.intro (w_laws_toRoof q1 k (by omega)) (And.intro (w_laws_toRain q2 k (by omega)) (And.intro (w_laws_toDrips q3 k (by omega)) (And.intro (w_laws_toPlace q4 k (by omega)) (And.intro (w_spec_KindsFor q5 k (by omega)) (And.intro (w_laws_toRoof q6 k (by omega)) (And.intro (w_laws_toRain q7 k (by omega)) (And.intro (w_laws_toDrips q8 k (by omega)) (And.intro (w_laws_toPlace q9 k (by omega)) (And.intro (w_impl_KindsFor q10 k (by omega)) (And.intro (not_t h11) (And.intro (Eq.refl true) trivial)))))))))))) ?_
    kernel_rfl
end Go.Proofs.Ytdhcfdiggcgmhaa
