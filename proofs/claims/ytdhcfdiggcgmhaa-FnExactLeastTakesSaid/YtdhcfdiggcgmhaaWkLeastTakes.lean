/- The program goes as the shallow texts tell: printed by gen.py. -/
import Derived.Test.YtdhcfdiggcgmhaaEnvA
import Derived.Test.YtdhcfdiggcgmhaaSh1
import Derived.Test.YtdhcfdiggcgmhaaSh3
import Derived.Test.YtdhcfdiggcgmhaaSh5
import Derived.Test.YtdhcfdiggcgmhaaSh9
namespace Go.Proofs.Ytdhcfdiggcgmhaa
open Go
set_option linter.unusedVariables false
set_option linter.unusedSimpArgs false
set_option maxRecDepth 100000
set_option maxHeartbeats 4000000
theorem w_laws_szPipeS {n : Nat} {a0 : List V} {a1 : Int} {z0 : Int} (h : s_laws_szPipeS n a0 a1 = some z0) : ∀ k, n + 1 ≤ k → sem E k 16 [(V.sl (a0)), (V.int .i64 (a1))] = some (V.int .i64 (z0)) := by
  intro k hk
  obtain ⟨k, rfl⟩ : ∃ q, k = q + 1 := ⟨k - 1, by omega⟩
  unfold s_laws_szPipeS at h
  rcases cnd_some h with ⟨h1, h⟩ | ⟨h1, h⟩
  · replace h := Option.some.inj h
    obtain rfl := h
    refine pFun_by [.b true] rfl (And.intro h1 trivial) ?_
    kernel_rfl
  · replace h := Option.some.inj h
    obtain rfl := h
    refine pFun_by [.b false] rfl (And.intro h1 trivial) ?_
    kernel_rfl
theorem w_laws_szGutter {n : Nat} {a0 : Int} {a1 : Int} {a2 : Nat → Int} {a3 : Int} {a4 : List V} {a5 : Int} {z0 : Int} (h : s_laws_szGutter n a0 a1 a2 a3 a4 a5 = some z0) : ∀ k, n + 2 ≤ k → sem E k 25 [(V.parts [(V.int .i8 (a0)), (V.int .i16 (a1)), (V.ints .i8 17 (a2)), (V.int .u32 (a3)), (V.sl (a4))]), (V.int .i64 (a5))] = some (V.int .i64 (z0)) := by
  intro k hk
  obtain ⟨k, rfl⟩ : ∃ q, k = q + 1 := ⟨k - 1, by omega⟩
  unfold s_laws_szGutter at h
  obtain ⟨y1_0, q1, h⟩ := bnd_some h
  rcases cnd_some h with ⟨h2, h⟩ | ⟨h2, h⟩
  · replace h := Option.some.inj h
    obtain rfl := h
    refine pFun_by [.v (V.int .i64 (y1_0)), .b true] rfl (And.intro (w_laws_szPipeS q1 k (by omega)) (And.intro h2 trivial)) ?_
    kernel_rfl
  · replace h := Option.some.inj h
    obtain rfl := h
    refine pFun_by [.v (V.int .i64 (y1_0)), .b false] rfl (And.intro (w_laws_szPipeS q1 k (by omega)) (And.intro h2 trivial)) ?_
    kernel_rfl
theorem lw_laws_toInt8A17_b0 : ∀ (n : Nat) (a0 : Int) (a1 : Nat → Int) (a2 : Nat → Int) (a3 : Nat → Int) (r : (Nat → Int) × (Nat → Int)), l_laws_toInt8A17_b0 n a0 a1 a2 a3 = some r → ∀ k m, n + 0 ≤ k → n ≤ m → LB E 102 0 k m ⟨[(1, (V.ptr 3 0 (0) 17)), (2, (V.ptr 5 0 (0) 17)), (3, (V.ptr 7 0 (0) 17)), (4, (V.int .i64 (a0)))], [(3, .box [(V.ints .i8 17 (a1))]), (5, .box [(V.ints .i8 17 (a2))]), (7, .box [(V.ints .i8 17 (a3))])]⟩ = some (match r with | (o0, o1) => (.normal, ⟨[(2, (V.ptr 5 0 (0) 17)), (3, (V.ptr 7 0 (0) 17))], [(5, .box [(V.ints .i8 17 (o0))]), (7, .box [(V.ints .i8 17 (o1))])]⟩)) := by
  intro n
  induction n with
  | zero => intro a0 a1 a2 a3 r h; cases h
  | succ n ih =>
    intro a0 a1 a2 a3 r h k m hk hm
    obtain ⟨m, rfl⟩ : ∃ q, m = q + 1 := ⟨m - 1, by omega⟩
    replace hk : n + 0 ≤ k := by omega
    unfold l_laws_toInt8A17_b0 at h
    rcases cnd_some h with ⟨h1, h⟩ | ⟨h1, h⟩
    · obtain ⟨c2, h⟩ := chk_some h
      refine pNext_by [.b true] (And.intro h1 (And.intro c2 (And.intro c2 trivial))) (ih _ _ _ _ _ h k m hk (by omega)) ?_
      kernel_rfl
    · cases h
      refine pLast_by [.b false] (And.intro h1 trivial) ?_
      kernel_rfl
theorem w_laws_toInt8A17 {n : Nat} {a0 : Nat → Int} {z0 : Nat → Int} (h : s_laws_toInt8A17 n a0 = some z0) : ∀ k, n + 1 ≤ k → sem E k 102 [(V.ints .i8 17 (a0))] = some (V.ints .i8 17 (z0)) := by
  intro k hk
  obtain ⟨k, rfl⟩ : ∃ q, k = q + 1 := ⟨k - 1, by omega⟩
  unfold s_laws_toInt8A17 at h
  obtain ⟨⟨u3_0, u3_1⟩, l3, h⟩ := bnd_some h
  replace h := Option.some.inj h
  obtain rfl := h
  refine pFun_by [.l .normal ⟨[(2, (V.ptr 5 0 (0) 17)), (3, (V.ptr 7 0 (0) 17))], [(5, .box [(V.ints .i8 17 (u3_0))]), (7, .box [(V.ints .i8 17 (u3_1))])]⟩] rfl (And.intro (lw_laws_toInt8A17_b0 _ _ _ _ _ _ l3 k k (by omega) (by omega)) trivial) ?_
  kernel_rfl
theorem w_laws_toPipe {n : Nat} {a0 : Int} {a1 : Int} {z0 : Int} {z1 : Int} (h : s_laws_toPipe n a0 a1 = some (z0, z1)) : ∀ k, n + 1 ≤ k → sem E k 90 [(V.parts [(V.int .i8 (a0)), (V.int .i16 (a1))])] = some (V.parts [(V.int .i8 (z0)), (V.int .i16 (z1))]) := by
  intro k hk
  obtain ⟨k, rfl⟩ : ∃ q, k = q + 1 := ⟨k - 1, by omega⟩
  unfold s_laws_toPipe at h
  simp only [Option.some.injEq, Prod.mk.injEq] at h
  obtain ⟨rfl, rfl⟩ := h
  refine pFun_by [] rfl trivial ?_
  kernel_rfl
theorem lw_laws_toPipeS_b0 : ∀ (n : Nat) (a0 : List V) (a1 : Int) (a2 : List V) (r : List V), l_laws_toPipeS_b0 n a0 a1 a2 = some r → ∀ k m, n + 1 ≤ k → n ≤ m → LB E 18 0 k m ⟨[(0, (V.sl (a0))), (3, (V.row 7)), (4, (V.int .i64 (a1)))], [(7, .row 121 (a2))]⟩ = some (match r with | o0 => (.normal, ⟨[(3, (V.row 7))], [(7, .row 121 (o0))]⟩)) := by
  intro n
  induction n with
  | zero => intro a0 a1 a2 r h; cases h
  | succ n ih =>
    intro a0 a1 a2 r h k m hk hm
    obtain ⟨m, rfl⟩ : ∃ q, m = q + 1 := ⟨m - 1, by omega⟩
    replace hk : n + 1 ≤ k := by omega
    unfold l_laws_toPipeS_b0 at h
    rcases cnd_some h with ⟨h2, h⟩ | ⟨h2, h⟩
    · obtain ⟨⟨e3_0, e3_1⟩, g3, h⟩ := bnd_some h
      replace g3 := as_Pi8_i16Q_some g3
      obtain ⟨⟨y4_0, y4_1⟩, q4, h⟩ := bnd_some h
      obtain ⟨c5, h⟩ := chk_some h
      obtain ⟨⟨e6_0, e6_1⟩, g6, h⟩ := bnd_some h
      replace g6 := as_Pi8_i16Q_some g6
      refine pNext_by [.b true, .v (V.parts [(V.int .i8 (e3_0)), (V.int .i16 (e3_1))]), .v (V.parts [(V.int .i8 (y4_0)), (V.int .i16 (y4_1))]), .v (V.parts [(V.int .i8 (e6_0)), (V.int .i16 (e6_1))])] (And.intro h2 (And.intro g3 (And.intro (w_laws_toPipe q4 k (by omega)) (And.intro c5 (And.intro g6 trivial))))) (ih _ _ _ _ h k m hk (by omega)) ?_
      kernel_rfl
    · cases h
      refine pLast_by [.b false] (And.intro h2 trivial) ?_
      kernel_rfl
theorem w_laws_toPipeS {n : Nat} {a0 : List V} {z0 : List V} (h : s_laws_toPipeS n a0 = some z0) : ∀ k, n + 2 ≤ k → sem E k 18 [(V.sl (a0))] = some (V.fresh 121 (z0)) := by
  intro k hk
  obtain ⟨k, rfl⟩ : ∃ q, k = q + 1 := ⟨k - 1, by omega⟩
  unfold s_laws_toPipeS at h
  obtain ⟨c1, h⟩ := chk_some h
  obtain ⟨u7_0, l7, h⟩ := bnd_some h
  replace h := Option.some.inj h
  obtain rfl := h
  refine pFun_by [.l .normal ⟨[(3, (V.row 7))], [(7, .row 121 (u7_0))]⟩] rfl (And.intro c1 (And.intro (lw_laws_toPipeS_b0 _ _ _ _ _ l7 k k (by omega) (by omega)) trivial)) ?_
  kernel_rfl
theorem w_laws_toGutter {n : Nat} {a0 : Int} {a1 : Int} {a2 : Nat → Int} {a3 : Int} {a4 : List V} {z0 : Int} {z1 : Int} {z2 : Nat → Int} {z3 : Int} {z4 : List V} (h : s_laws_toGutter n a0 a1 a2 a3 a4 = some (z0, z1, z2, z3, z4)) : ∀ k, n + 3 ≤ k → sem E k 27 [(V.parts [(V.int .i8 (a0)), (V.int .i16 (a1)), (V.ints .i8 17 (a2)), (V.int .u32 (a3)), (V.sl (a4))])] = some (V.parts [(V.int .i8 (z0)), (V.int .i16 (z1)), (V.ints .i8 17 (z2)), (V.int .u32 (z3)), (V.fresh 121 (z4))]) := by
  intro k hk
  obtain ⟨k, rfl⟩ : ∃ q, k = q + 1 := ⟨k - 1, by omega⟩
  unfold s_laws_toGutter at h
  obtain ⟨y1_0, q1, h⟩ := bnd_some h
  obtain ⟨y2_0, q2, h⟩ := bnd_some h
  simp only [Option.some.injEq, Prod.mk.injEq] at h
  obtain ⟨rfl, rfl, rfl, rfl, rfl⟩ := h
  refine pFun_by [.v (V.ints .i8 17 (y1_0)), .v (V.fresh 121 (y2_0))] rfl (And.intro (w_laws_toInt8A17 q1 k (by omega)) (And.intro (w_laws_toPipeS q2 k (by omega)) trivial)) ?_
  kernel_rfl
theorem lw_laws_toInt64S_b0 : ∀ (n : Nat) (a0 : List V) (a1 : Int) (a2 : List V) (r : List V), l_laws_toInt64S_b0 n a0 a1 a2 = some r → ∀ k m, n + 0 ≤ k → n ≤ m → LB E 40 0 k m ⟨[(0, (V.sl (a0))), (3, (V.row 7)), (4, (V.int .i64 (a1)))], [(7, .row 2 (a2))]⟩ = some (match r with | o0 => (.normal, ⟨[(3, (V.row 7))], [(7, .row 2 (o0))]⟩)) := by
  intro n
  induction n with
  | zero => intro a0 a1 a2 r h; cases h
  | succ n ih =>
    intro a0 a1 a2 r h k m hk hm
    obtain ⟨m, rfl⟩ : ∃ q, m = q + 1 := ⟨m - 1, by omega⟩
    replace hk : n + 0 ≤ k := by omega
    unfold l_laws_toInt64S_b0 at h
    rcases cnd_some h with ⟨h2, h⟩ | ⟨h2, h⟩
    · obtain ⟨e3_0, g3, h⟩ := bnd_some h
      replace g3 := as_i64_some g3
      obtain ⟨c4, h⟩ := chk_some h
      obtain ⟨e5_0, g5, h⟩ := bnd_some h
      replace g5 := as_i64_some g5
      refine pNext_by [.b true, .v (V.int .i64 (e3_0)), .v (V.int .i64 (e5_0))] (And.intro h2 (And.intro g3 (And.intro c4 (And.intro g5 trivial)))) (ih _ _ _ _ h k m hk (by omega)) ?_
      kernel_rfl
    · cases h
      refine pLast_by [.b false] (And.intro h2 trivial) ?_
      kernel_rfl
theorem w_laws_toInt64S {n : Nat} {a0 : List V} {z0 : List V} (h : s_laws_toInt64S n a0 = some z0) : ∀ k, n + 1 ≤ k → sem E k 40 [(V.sl (a0))] = some (V.fresh 2 (z0)) := by
  intro k hk
  obtain ⟨k, rfl⟩ : ∃ q, k = q + 1 := ⟨k - 1, by omega⟩
  unfold s_laws_toInt64S at h
  obtain ⟨c1, h⟩ := chk_some h
  obtain ⟨u6_0, l6, h⟩ := bnd_some h
  replace h := Option.some.inj h
  obtain rfl := h
  refine pFun_by [.l .normal ⟨[(3, (V.row 7))], [(7, .row 2 (u6_0))]⟩] rfl (And.intro c1 (And.intro (lw_laws_toInt64S_b0 _ _ _ _ _ l6 k k (by omega) (by omega)) trivial)) ?_
  kernel_rfl
theorem w_spec_l00In {n : Nat} {a0 : Int} {a1 : Int} {a2 : Int} {z0 : Bool} (h : s_spec_l00In n a0 a1 a2 = some z0) : ∀ k, n + 1 ≤ k → sem E k 85 [(V.int .i64 (a0)), (V.int .i64 (a1)), (V.int .i64 (a2))] = some (V.bool (z0)) := by
  intro k hk
  obtain ⟨k, rfl⟩ : ∃ q, k = q + 1 := ⟨k - 1, by omega⟩
  unfold s_spec_l00In at h
  rcases cnd_some h with ⟨h1, h⟩ | ⟨h1, h⟩
  · replace h := Option.some.inj h
    obtain rfl := h
    refine pFun_by [.b true] rfl (And.intro h1 trivial) ?_
    kernel_rfl
  · replace h := Option.some.inj h
    obtain rfl := h
    refine pFun_by [.b false] rfl (And.intro h1 trivial) ?_
    kernel_rfl
theorem w_spec_l06Deep {n : Nat} {a0 : Int} {z0 : Bool} (h : s_spec_l06Deep n a0 = some z0) : ∀ k, n + 2 ≤ k → sem E k 86 [(V.int .i64 (a0))] = some (V.bool (z0)) := by
  intro k hk
  obtain ⟨k, rfl⟩ : ∃ q, k = q + 1 := ⟨k - 1, by omega⟩
  unfold s_spec_l06Deep at h
  obtain ⟨y1_0, q1, h⟩ := bnd_some h
  replace h := Option.some.inj h
  obtain rfl := h
  refine pFun_by [.v (V.bool (y1_0))] rfl (And.intro (w_spec_l00In q1 k (by omega)) trivial) ?_
  kernel_rfl
theorem lw_spec_l06Rain_b0 : ∀ (n : Nat) (a0 : Int) (a1 : Int) (a2 : Nat → Int) (a3 : Int) (a4 : List V) (a5 : List V) (a6 : Int) (r : Sum (Int × Int × (Nat → Int) × Int × List V × List V) (Bool)), l_spec_l06Rain_b0 n a0 a1 a2 a3 a4 a5 a6 = some r → ∀ k m, n + 2 ≤ k → n ≤ m → LB E 120 0 k m ⟨[(0, (V.ref [(V.int .i8 (a0)), (V.int .i16 (a1)), (V.ints .i8 17 (a2)), (V.int .u32 (a3)), (V.sl (a4))] 0 (0) 21)), (1, (V.sl (a5))), (5, (V.int .i64 (a6)))], []⟩ = some (match r with | .inl (o0, o1, o2, o3, o4, o5) => (.normal, ⟨[(0, (V.ref [(V.int .i8 (o0)), (V.int .i16 (o1)), (V.ints .i8 17 (o2)), (V.int .u32 (o3)), (V.sl (o4))] 0 (0) 21)), (1, (V.sl (o5)))], []⟩) | .inr o0 => (.ret, ⟨[(4, (V.bool (o0)))], []⟩)) := by
  intro n
  induction n with
  | zero => intro a0 a1 a2 a3 a4 a5 a6 r h; cases h
  | succ n ih =>
    intro a0 a1 a2 a3 a4 a5 a6 r h k m hk hm
    obtain ⟨m, rfl⟩ : ∃ q, m = q + 1 := ⟨m - 1, by omega⟩
    replace hk : n + 2 ≤ k := by omega
    unfold l_spec_l06Rain_b0 at h
    rcases cnd_some h with ⟨h1, h⟩ | ⟨h1, h⟩
    · obtain ⟨e2_0, g2, h⟩ := bnd_some h
      replace g2 := as_i64_some g2
      obtain ⟨y3_0, q3, h⟩ := bnd_some h
      rcases cnd_some h with ⟨h4, h⟩ | ⟨h4, h⟩
      · refine pNext_by [.b true, .v (V.int .i64 (e2_0)), .v (V.bool (y3_0)), .b false] (And.intro h1 (And.intro g2 (And.intro (w_spec_l06Deep q3 k (by omega)) (And.intro (not_f h4) trivial)))) (ih _ _ _ _ _ _ _ _ h k m hk (by omega)) ?_
        kernel_rfl
      · cases h
        refine pLast_by [.b true, .v (V.int .i64 (e2_0)), .v (V.bool (y3_0)), .b true] (And.intro h1 (And.intro g2 (And.intro (w_spec_l06Deep q3 k (by omega)) (And.intro (not_t h4) trivial)))) ?_
        kernel_rfl
    · cases h
      refine pLast_by [.b false] (And.intro h1 trivial) ?_
      kernel_rfl
theorem w_spec_l06Rain {n : Nat} {a0 : Int} {a1 : Int} {a2 : Nat → Int} {a3 : Int} {a4 : List V} {a5 : List V} {z0 : Bool} (h : s_spec_l06Rain n a0 a1 a2 a3 a4 a5 = some z0) : ∀ k, n + 3 ≤ k → sem E k 120 [(V.ref [(V.int .i8 (a0)), (V.int .i16 (a1)), (V.ints .i8 17 (a2)), (V.int .u32 (a3)), (V.sl (a4))] 0 (0) 21), (V.sl (a5))] = some (V.bool (z0)) := by
  intro k hk
  obtain ⟨k, rfl⟩ : ∃ q, k = q + 1 := ⟨k - 1, by omega⟩
  unfold s_spec_l06Rain at h
  obtain ⟨w, l5, h⟩ := bnd_some h
  rcases w with ⟨u5_0, u5_1, u5_2, u5_3, u5_4, u5_5⟩ | u6_0
  · replace h := Option.some.inj h
    obtain rfl := h
    refine pFun_by [.l .normal ⟨[(0, (V.ref [(V.int .i8 (u5_0)), (V.int .i16 (u5_1)), (V.ints .i8 17 (u5_2)), (V.int .u32 (u5_3)), (V.sl (u5_4))] 0 (0) 21)), (1, (V.sl (u5_5)))], []⟩] rfl (And.intro (lw_spec_l06Rain_b0 _ _ _ _ _ _ _ _ _ l5 k k (by omega) (by omega)) trivial) ?_
    kernel_rfl
  · replace h := Option.some.inj h
    obtain rfl := h
    refine pFun_by [.l .ret ⟨[(4, (V.bool (u6_0)))], []⟩] rfl (And.intro (lw_spec_l06Rain_b0 _ _ _ _ _ _ _ _ _ l5 k k (by omega) (by omega)) trivial) ?_
    kernel_rfl
theorem lw_spec_l06Ok_b0 : ∀ (n : Nat) (a0 : Int) (a1 : Int) (a2 : Nat → Int) (a3 : Int) (a4 : List V) (a5 : Int) (r : Sum (Int × Int × (Nat → Int) × Int × List V) (Bool)), l_spec_l06Ok_b0 n a0 a1 a2 a3 a4 a5 = some r → ∀ k m, n + 1 ≤ k → n ≤ m → LB E 87 0 k m ⟨[(0, (V.ref [(V.int .i8 (a0)), (V.int .i16 (a1)), (V.ints .i8 17 (a2)), (V.int .u32 (a3)), (V.sl (a4))] 0 (0) 21)), (3, (V.int .i8 (a5)))], []⟩ = some (match r with | .inl (o0, o1, o2, o3, o4) => (.normal, ⟨[(0, (V.ref [(V.int .i8 (o0)), (V.int .i16 (o1)), (V.ints .i8 17 (o2)), (V.int .u32 (o3)), (V.sl (o4))] 0 (0) 21))], []⟩) | .inr o0 => (.ret, ⟨[(2, (V.bool (o0)))], []⟩)) := by
  intro n
  induction n with
  | zero => intro a0 a1 a2 a3 a4 a5 r h; cases h
  | succ n ih =>
    intro a0 a1 a2 a3 a4 a5 r h k m hk hm
    obtain ⟨m, rfl⟩ : ∃ q, m = q + 1 := ⟨m - 1, by omega⟩
    replace hk : n + 1 ≤ k := by omega
    unfold l_spec_l06Ok_b0 at h
    rcases cnd_some h with ⟨h8, h⟩ | ⟨h8, h⟩
    · obtain ⟨c9, h⟩ := chk_some h
      obtain ⟨y10_0, q10, h⟩ := bnd_some h
      rcases cnd_some h with ⟨h11, h⟩ | ⟨h11, h⟩
      · rcases cnd_some h with ⟨h12, h⟩ | ⟨h12, h⟩
        · rcases cnd_some h with ⟨h13, h⟩ | ⟨h13, h⟩
          · refine pNext_by [.b true, .v (V.bool (y10_0)), .b false, .b true, .b false] (And.intro h8 (And.intro c9 (And.intro (w_spec_l00In q10 k (by omega)) (And.intro (not_f h11) (And.intro h12 (And.intro c9 (And.intro (not_f h13) trivial))))))) (ih _ _ _ _ _ _ _ h k m hk (by omega)) ?_
            kernel_rfl
          · cases h
            refine pLast_by [.b true, .v (V.bool (y10_0)), .b false, .b true, .b true] (And.intro h8 (And.intro c9 (And.intro (w_spec_l00In q10 k (by omega)) (And.intro (not_f h11) (And.intro h12 (And.intro c9 (And.intro (not_t h13) trivial))))))) ?_
            kernel_rfl
        · refine pNext_by [.b true, .v (V.bool (y10_0)), .b false, .b false, .b false] (And.intro h8 (And.intro c9 (And.intro (w_spec_l00In q10 k (by omega)) (And.intro (not_f h11) (And.intro h12 (And.intro (Eq.refl false) trivial)))))) (ih _ _ _ _ _ _ _ h k m hk (by omega)) ?_
          kernel_rfl
      · cases h
        refine pLast_by [.b true, .v (V.bool (y10_0)), .b true, .b true] (And.intro h8 (And.intro c9 (And.intro (w_spec_l00In q10 k (by omega)) (And.intro (not_t h11) (And.intro (Eq.refl true) trivial))))) ?_
        kernel_rfl
    · cases h
      refine pLast_by [.b false] (And.intro h8 trivial) ?_
      kernel_rfl
theorem lw_spec_l06Ok_b2 : ∀ (n : Nat) (a0 : Int) (a1 : Int) (a2 : Nat → Int) (a3 : Int) (a4 : List V) (a5 : Int) (r : Sum (Unit) (Bool)), l_spec_l06Ok_b2 n a0 a1 a2 a3 a4 a5 = some r → ∀ k m, n + 2 ≤ k → n ≤ m → LB E 87 2 k m ⟨[(0, (V.ref [(V.int .i8 (a0)), (V.int .i16 (a1)), (V.ints .i8 17 (a2)), (V.int .u32 (a3)), (V.sl (a4))] 0 (0) 21)), (4, (V.int .i64 (a5)))], []⟩ = some (match r with | .inl _ => (.normal, ⟨[], []⟩) | .inr o0 => (.ret, ⟨[(2, (V.bool (o0)))], []⟩)) := by
  intro n
  induction n with
  | zero => intro a0 a1 a2 a3 a4 a5 r h; cases h
  | succ n ih =>
    intro a0 a1 a2 a3 a4 a5 r h k m hk hm
    obtain ⟨m, rfl⟩ : ∃ q, m = q + 1 := ⟨m - 1, by omega⟩
    replace hk : n + 2 ≤ k := by omega
    unfold l_spec_l06Ok_b2 at h
    rcases cnd_some h with ⟨h16, h⟩ | ⟨h16, h⟩
    · obtain ⟨⟨e17_0, e17_1⟩, g17, h⟩ := bnd_some h
      replace g17 := as_Pi8_i16Q_some g17
      rcases cnd_some h with ⟨h18, h⟩ | ⟨h18, h⟩
      · cases h
        refine pLast_by [.b true, .v (V.parts [(V.int .i8 (e17_0)), (V.int .i16 (e17_1))]), .b true, .b true, .b true, .b true] (And.intro h16 (And.intro g17 (And.intro h18 (And.intro (Eq.refl true) (And.intro (Eq.refl true) (And.intro (Eq.refl true) trivial)))))) ?_
        kernel_rfl
      · rcases cnd_some h with ⟨h19, h⟩ | ⟨h19, h⟩
        · cases h
          refine pLast_by [.b true, .v (V.parts [(V.int .i8 (e17_0)), (V.int .i16 (e17_1))]), .b false, .b true, .b true, .b true] (And.intro h16 (And.intro g17 (And.intro h18 (And.intro h19 (And.intro (Eq.refl true) (And.intro (Eq.refl true) trivial)))))) ?_
          kernel_rfl
        · obtain ⟨y20_0, q20, h⟩ := bnd_some h
          rcases cnd_some h with ⟨h21, h⟩ | ⟨h21, h⟩
          · rcases cnd_some h with ⟨h22, h⟩ | ⟨h22, h⟩
            · obtain ⟨⟨e23_0, e23_1⟩, g23, h⟩ := bnd_some h
              replace g23 := as_Pi8_i16Q_some g23
              rcases cnd_some h with ⟨h24, h⟩ | ⟨h24, h⟩
              · cases h
                refine pLast_by [.b true, .v (V.parts [(V.int .i8 (e17_0)), (V.int .i16 (e17_1))]), .b false, .b false, .v (V.bool (y20_0)), .b false, .b true, .v (V.parts [(V.int .i8 (e23_0)), (V.int .i16 (e23_1))]), .b true] (And.intro h16 (And.intro g17 (And.intro h18 (And.intro h19 (And.intro (w_spec_l06Deep q20 k (by omega)) (And.intro (not_f h21) (And.intro h22 (And.intro g23 (And.intro h24 trivial))))))))) ?_
                kernel_rfl
              · refine pNext_by [.b true, .v (V.parts [(V.int .i8 (e17_0)), (V.int .i16 (e17_1))]), .b false, .b false, .v (V.bool (y20_0)), .b false, .b true, .v (V.parts [(V.int .i8 (e23_0)), (V.int .i16 (e23_1))]), .b false] (And.intro h16 (And.intro g17 (And.intro h18 (And.intro h19 (And.intro (w_spec_l06Deep q20 k (by omega)) (And.intro (not_f h21) (And.intro h22 (And.intro g23 (And.intro h24 trivial))))))))) (ih _ _ _ _ _ _ _ h k m hk (by omega)) ?_
                kernel_rfl
            · refine pNext_by [.b true, .v (V.parts [(V.int .i8 (e17_0)), (V.int .i16 (e17_1))]), .b false, .b false, .v (V.bool (y20_0)), .b false, .b false, .b false] (And.intro h16 (And.intro g17 (And.intro h18 (And.intro h19 (And.intro (w_spec_l06Deep q20 k (by omega)) (And.intro (not_f h21) (And.intro h22 (And.intro (Eq.refl false) trivial)))))))) (ih _ _ _ _ _ _ _ h k m hk (by omega)) ?_
              kernel_rfl
          · cases h
            refine pLast_by [.b true, .v (V.parts [(V.int .i8 (e17_0)), (V.int .i16 (e17_1))]), .b false, .b false, .v (V.bool (y20_0)), .b true, .b true] (And.intro h16 (And.intro g17 (And.intro h18 (And.intro h19 (And.intro (w_spec_l06Deep q20 k (by omega)) (And.intro (not_t h21) (And.intro (Eq.refl true) trivial))))))) ?_
            kernel_rfl
    · cases h
      refine pLast_by [.b false] (And.intro h16 trivial) ?_
      kernel_rfl
theorem w_spec_l06Ok {n : Nat} {a0 : Int} {a1 : Int} {a2 : Nat → Int} {a3 : Int} {a4 : List V} {z0 : Bool} (h : s_spec_l06Ok n a0 a1 a2 a3 a4 = some z0) : ∀ k, n + 3 ≤ k → sem E k 87 [(V.ref [(V.int .i8 (a0)), (V.int .i16 (a1)), (V.ints .i8 17 (a2)), (V.int .u32 (a3)), (V.sl (a4))] 0 (0) 21)] = some (V.bool (z0)) := by
  intro k hk
  obtain ⟨k, rfl⟩ : ∃ q, k = q + 1 := ⟨k - 1, by omega⟩
  unfold s_spec_l06Ok at h
  obtain ⟨y1_0, q1, h⟩ := bnd_some h
  rcases cnd_some h with ⟨h2, h⟩ | ⟨h2, h⟩
  · obtain ⟨y3_0, q3, h⟩ := bnd_some h
    rcases cnd_some h with ⟨h4, h⟩ | ⟨h4, h⟩
    · obtain ⟨c5, h⟩ := chk_some h
      rcases cnd_some h with ⟨h6, h⟩ | ⟨h6, h⟩
      · rcases cnd_some h with ⟨h7, h⟩ | ⟨h7, h⟩
        · replace h := Option.some.inj h
          obtain rfl := h
          refine pFun_by [.v (V.bool (y1_0)), .b false, .v (V.bool (y3_0)), .b false, .b false, .b true] rfl (And.intro (w_spec_l00In q1 k (by omega)) (And.intro (not_f h2) (And.intro (w_spec_l06Deep q3 k (by omega)) (And.intro (not_f h4) (And.intro c5 (And.intro (not_f h6) (And.intro h7 trivial))))))) ?_
          kernel_rfl
        · obtain ⟨w, l14, h⟩ := bnd_some h
          rcases w with ⟨u14_0, u14_1, u14_2, u14_3, u14_4⟩ | u27_0
          · obtain ⟨w, l25, h⟩ := bnd_some h
            rcases w with ⟨⟩ | u26_0
            · replace h := Option.some.inj h
              obtain rfl := h
              refine pFun_by [.v (V.bool (y1_0)), .b false, .v (V.bool (y3_0)), .b false, .b false, .b false, .l .normal ⟨[(0, (V.ref [(V.int .i8 (u14_0)), (V.int .i16 (u14_1)), (V.ints .i8 17 (u14_2)), (V.int .u32 (u14_3)), (V.sl (u14_4))] 0 (0) 21))], []⟩, .l .normal ⟨[], []⟩] rfl (And.intro (w_spec_l00In q1 k (by omega)) (And.intro (not_f h2) (And.intro (w_spec_l06Deep q3 k (by omega)) (And.intro (not_f h4) (And.intro c5 (And.intro (not_f h6) (And.intro h7 (And.intro (lw_spec_l06Ok_b0 _ _ _ _ _ _ _ _ l14 k k (by omega) (by omega)) (And.intro (lw_spec_l06Ok_b2 _ _ _ _ _ _ _ _ l25 k k (by omega) (by omega)) trivial))))))))) ?_
              kernel_rfl
            · replace h := Option.some.inj h
              obtain rfl := h
              refine pFun_by [.v (V.bool (y1_0)), .b false, .v (V.bool (y3_0)), .b false, .b false, .b false, .l .normal ⟨[(0, (V.ref [(V.int .i8 (u14_0)), (V.int .i16 (u14_1)), (V.ints .i8 17 (u14_2)), (V.int .u32 (u14_3)), (V.sl (u14_4))] 0 (0) 21))], []⟩, .l .ret ⟨[(2, (V.bool (u26_0)))], []⟩] rfl (And.intro (w_spec_l00In q1 k (by omega)) (And.intro (not_f h2) (And.intro (w_spec_l06Deep q3 k (by omega)) (And.intro (not_f h4) (And.intro c5 (And.intro (not_f h6) (And.intro h7 (And.intro (lw_spec_l06Ok_b0 _ _ _ _ _ _ _ _ l14 k k (by omega) (by omega)) (And.intro (lw_spec_l06Ok_b2 _ _ _ _ _ _ _ _ l25 k k (by omega) (by omega)) trivial))))))))) ?_
              kernel_rfl
          · replace h := Option.some.inj h
            obtain rfl := h
            refine pFun_by [.v (V.bool (y1_0)), .b false, .v (V.bool (y3_0)), .b false, .b false, .b false, .l .ret ⟨[(2, (V.bool (u27_0)))], []⟩] rfl (And.intro (w_spec_l00In q1 k (by omega)) (And.intro (not_f h2) (And.intro (w_spec_l06Deep q3 k (by omega)) (And.intro (not_f h4) (And.intro c5 (And.intro (not_f h6) (And.intro h7 (And.intro (lw_spec_l06Ok_b0 _ _ _ _ _ _ _ _ l14 k k (by omega) (by omega)) trivial)))))))) ?_
            kernel_rfl
      · replace h := Option.some.inj h
        obtain rfl := h
        refine pFun_by [.v (V.bool (y1_0)), .b false, .v (V.bool (y3_0)), .b false, .b true, .b true] rfl (And.intro (w_spec_l00In q1 k (by omega)) (And.intro (not_f h2) (And.intro (w_spec_l06Deep q3 k (by omega)) (And.intro (not_f h4) (And.intro c5 (And.intro (not_t h6) (And.intro (Eq.refl true) trivial))))))) ?_
        kernel_rfl
    · replace h := Option.some.inj h
      obtain rfl := h
      refine pFun_by [.v (V.bool (y1_0)), .b false, .v (V.bool (y3_0)), .b true, .b true, .b true] rfl (And.intro (w_spec_l00In q1 k (by omega)) (And.intro (not_f h2) (And.intro (w_spec_l06Deep q3 k (by omega)) (And.intro (not_t h4) (And.intro (Eq.refl true) (And.intro (Eq.refl true) trivial)))))) ?_
      kernel_rfl
  · replace h := Option.some.inj h
    obtain rfl := h
    refine pFun_by [.v (V.bool (y1_0)), .b true, .b true, .b true, .b true] rfl (And.intro (w_spec_l00In q1 k (by omega)) (And.intro (not_t h2) (And.intro (Eq.refl true) (And.intro (Eq.refl true) (And.intro (Eq.refl true) trivial))))) ?_
    kernel_rfl
theorem w_spec_l06Asked {n : Nat} {a0 : Int} {a1 : Int} {a2 : Nat → Int} {a3 : Int} {a4 : List V} {a5 : Bool} {z0 : Int} (h : s_spec_l06Asked n a0 a1 a2 a3 a4 a5 = some z0) : ∀ k, n + 4 ≤ k → sem E k 106 [(V.ref [(V.int .i8 (a0)), (V.int .i16 (a1)), (V.ints .i8 17 (a2)), (V.int .u32 (a3)), (V.sl (a4))] 0 (0) 21), (V.bool (a5))] = some (V.int .i64 (z0)) := by
  intro k hk
  obtain ⟨k, rfl⟩ : ∃ q, k = q + 1 := ⟨k - 1, by omega⟩
  unfold s_spec_l06Asked at h
  obtain ⟨y1_0, q1, h⟩ := bnd_some h
  rcases cnd_some h with ⟨h2, h⟩ | ⟨h2, h⟩
  · rcases cnd_some h with ⟨h3, h⟩ | ⟨h3, h⟩
    · replace h := Option.some.inj h
      obtain rfl := h
      refine pFun_by [.v (V.bool (y1_0)), .b false, .b false] rfl (And.intro (w_spec_l06Ok q1 k (by omega)) (And.intro (not_f h2) (And.intro (not_f h3) trivial))) ?_
      kernel_rfl
    · replace h := Option.some.inj h
      obtain rfl := h
      refine pFun_by [.v (V.bool (y1_0)), .b false, .b true] rfl (And.intro (w_spec_l06Ok q1 k (by omega)) (And.intro (not_f h2) (And.intro (not_t h3) trivial))) ?_
      kernel_rfl
  · replace h := Option.some.inj h
    obtain rfl := h
    refine pFun_by [.v (V.bool (y1_0)), .b true] rfl (And.intro (w_spec_l06Ok q1 k (by omega)) (And.intro (not_t h2) trivial)) ?_
    kernel_rfl
theorem w_spec_l06Own {n : Nat} {a0 : Int} {a1 : Int} {a2 : Nat → Int} {a3 : Int} {a4 : List V} {z0 : Int} {z1 : Int} {z2 : Nat → Int} {z3 : Int} {z4 : List V} (h : s_spec_l06Own n a0 a1 a2 a3 a4 = some (z0, z1, z2, z3, z4)) : ∀ k, n + 1 ≤ k → sem E k 108 [(V.ref [(V.int .i8 (a0)), (V.int .i16 (a1)), (V.ints .i8 17 (a2)), (V.int .u32 (a3)), (V.sl (a4))] 0 (0) 21)] = some (V.parts [(V.int .i8 (z0)), (V.int .i16 (z1)), (V.ints .i8 17 (z2)), (V.int .u32 (z3)), (V.fresh 121 (z4))]) := by
  intro k hk
  obtain ⟨k, rfl⟩ : ∃ q, k = q + 1 := ⟨k - 1, by omega⟩
  unfold s_spec_l06Own at h
  obtain ⟨c1, h⟩ := chk_some h
  obtain ⟨c2, h⟩ := chk_some h
  simp only [Option.some.injEq, Prod.mk.injEq] at h
  obtain ⟨rfl, rfl, rfl, rfl, rfl⟩ := h
  refine pFun_by [] rfl (And.intro c1 (And.intro c2 trivial)) ?_
  kernel_rfl
theorem w_spec_l00Min {n : Nat} {a0 : Int} {a1 : Int} {z0 : Int} (h : s_spec_l00Min n a0 a1 = some z0) : ∀ k, n + 1 ≤ k → sem E k 88 [(V.int .i64 (a0)), (V.int .i64 (a1))] = some (V.int .i64 (z0)) := by
  intro k hk
  obtain ⟨k, rfl⟩ : ∃ q, k = q + 1 := ⟨k - 1, by omega⟩
  unfold s_spec_l00Min at h
  rcases cnd_some h with ⟨h1, h⟩ | ⟨h1, h⟩
  · replace h := Option.some.inj h
    obtain rfl := h
    refine pFun_by [.b true] rfl (And.intro h1 trivial) ?_
    kernel_rfl
  · replace h := Option.some.inj h
    obtain rfl := h
    refine pFun_by [.b false] rfl (And.intro h1 trivial) ?_
    kernel_rfl
theorem w_spec_l06Leaf {n : Nat} {a0 : Int} {a1 : Int} {a2 : Nat → Int} {a3 : Int} {a4 : List V} {a5 : Int} {z0 : Bool} (h : s_spec_l06Leaf n a0 a1 a2 a3 a4 a5 = some z0) : ∀ k, n + 1 ≤ k → sem E k 101 [(V.ref [(V.int .i8 (a0)), (V.int .i16 (a1)), (V.ints .i8 17 (a2)), (V.int .u32 (a3)), (V.sl (a4))] 0 (0) 21), (V.int .i64 (a5))] = some (V.bool (z0)) := by
  intro k hk
  obtain ⟨k, rfl⟩ : ∃ q, k = q + 1 := ⟨k - 1, by omega⟩
  unfold s_spec_l06Leaf at h
  obtain ⟨c1, h⟩ := chk_some h
  replace h := Option.some.inj h
  obtain rfl := h
  refine pFun_by [] rfl (And.intro c1 trivial) ?_
  kernel_rfl
theorem lw_spec_l06Pipe_b0 : ∀ (n : Nat) (a0 : Int) (a1 : Int) (a2 : Nat → Int) (a3 : Int) (a4 : List V) (a5 : Int) (a6 : Int) (r : Sum (Unit) (Bool)), l_spec_l06Pipe_b0 n a0 a1 a2 a3 a4 a5 a6 = some r → ∀ k m, n + 0 ≤ k → n ≤ m → LB E 191 0 k m ⟨[(0, (V.ref [(V.int .i8 (a0)), (V.int .i16 (a1)), (V.ints .i8 17 (a2)), (V.int .u32 (a3)), (V.sl (a4))] 0 (0) 21)), (1, (V.int .i64 (a5))), (5, (V.int .i64 (a6)))], []⟩ = some (match r with | .inl _ => (.normal, ⟨[], []⟩) | .inr o0 => (.ret, ⟨[(4, (V.bool (o0)))], []⟩)) := by
  intro n
  induction n with
  | zero => intro a0 a1 a2 a3 a4 a5 a6 r h; cases h
  | succ n ih =>
    intro a0 a1 a2 a3 a4 a5 a6 r h k m hk hm
    obtain ⟨m, rfl⟩ : ∃ q, m = q + 1 := ⟨m - 1, by omega⟩
    replace hk : n + 0 ≤ k := by omega
    unfold l_spec_l06Pipe_b0 at h
    rcases cnd_some h with ⟨h1, h⟩ | ⟨h1, h⟩
    · obtain ⟨⟨e2_0, e2_1⟩, g2, h⟩ := bnd_some h
      replace g2 := as_Pi8_i16Q_some g2
      rcases cnd_some h with ⟨h3, h⟩ | ⟨h3, h⟩
      · cases h
        refine pLast_by [.b true, .v (V.parts [(V.int .i8 (e2_0)), (V.int .i16 (e2_1))]), .b true] (And.intro h1 (And.intro g2 (And.intro h3 trivial))) ?_
        kernel_rfl
      · refine pNext_by [.b true, .v (V.parts [(V.int .i8 (e2_0)), (V.int .i16 (e2_1))]), .b false] (And.intro h1 (And.intro g2 (And.intro h3 trivial))) (ih _ _ _ _ _ _ _ _ h k m hk (by omega)) ?_
        kernel_rfl
    · cases h
      refine pLast_by [.b false] (And.intro h1 trivial) ?_
      kernel_rfl
theorem w_spec_l06Pipe {n : Nat} {a0 : Int} {a1 : Int} {a2 : Nat → Int} {a3 : Int} {a4 : List V} {a5 : Int} {z0 : Bool} (h : s_spec_l06Pipe n a0 a1 a2 a3 a4 a5 = some z0) : ∀ k, n + 1 ≤ k → sem E k 191 [(V.ref [(V.int .i8 (a0)), (V.int .i16 (a1)), (V.ints .i8 17 (a2)), (V.int .u32 (a3)), (V.sl (a4))] 0 (0) 21), (V.int .i64 (a5))] = some (V.bool (z0)) := by
  intro k hk
  obtain ⟨k, rfl⟩ : ∃ q, k = q + 1 := ⟨k - 1, by omega⟩
  unfold s_spec_l06Pipe at h
  obtain ⟨w, l4, h⟩ := bnd_some h
  rcases w with ⟨⟩ | u5_0
  · replace h := Option.some.inj h
    obtain rfl := h
    refine pFun_by [.l .normal ⟨[], []⟩] rfl (And.intro (lw_spec_l06Pipe_b0 _ _ _ _ _ _ _ _ _ l4 k k (by omega) (by omega)) trivial) ?_
    kernel_rfl
  · replace h := Option.some.inj h
    obtain rfl := h
    refine pFun_by [.l .ret ⟨[(4, (V.bool (u5_0)))], []⟩] rfl (And.intro (lw_spec_l06Pipe_b0 _ _ _ _ _ _ _ _ _ l4 k k (by omega) (by omega)) trivial) ?_
    kernel_rfl
theorem w_spec_l06To {n : Nat} {a0 : Int} {a1 : Int} {a2 : Nat → Int} {a3 : Int} {a4 : List V} {a5 : Int} {z0 : Int} (h : s_spec_l06To n a0 a1 a2 a3 a4 a5 = some z0) : ∀ k, n + 2 ≤ k → sem E k 112 [(V.ref [(V.int .i8 (a0)), (V.int .i16 (a1)), (V.ints .i8 17 (a2)), (V.int .u32 (a3)), (V.sl (a4))] 0 (0) 21), (V.int .i64 (a5))] = some (V.int .i64 (z0)) := by
  intro k hk
  obtain ⟨k, rfl⟩ : ∃ q, k = q + 1 := ⟨k - 1, by omega⟩
  unfold s_spec_l06To at h
  obtain ⟨y1_0, q1, h⟩ := bnd_some h
  rcases cnd_some h with ⟨h2, h⟩ | ⟨h2, h⟩
  · replace h := Option.some.inj h
    obtain rfl := h
    refine pFun_by [.v (V.bool (y1_0)), .b true, .b true] rfl (And.intro (w_spec_l06Leaf q1 k (by omega)) (And.intro h2 (And.intro (Eq.refl true) trivial))) ?_
    kernel_rfl
  · obtain ⟨y3_0, q3, h⟩ := bnd_some h
    rcases cnd_some h with ⟨h4, h⟩ | ⟨h4, h⟩
    · replace h := Option.some.inj h
      obtain rfl := h
      refine pFun_by [.v (V.bool (y1_0)), .b false, .v (V.bool (y3_0)), .b true] rfl (And.intro (w_spec_l06Leaf q1 k (by omega)) (And.intro h2 (And.intro (w_spec_l06Pipe q3 k (by omega)) (And.intro h4 trivial)))) ?_
      kernel_rfl
    · obtain ⟨c5, h⟩ := chk_some h
      rcases cnd_some h with ⟨h6, h⟩ | ⟨h6, h⟩
      · obtain ⟨c7, h⟩ := chk_some h
        rcases cnd_some h with ⟨h8, h⟩ | ⟨h8, h⟩
        · rcases cnd_some h with ⟨h9, h⟩ | ⟨h9, h⟩
          · obtain ⟨c10, h⟩ := chk_some h
            rcases cnd_some h with ⟨h11, h⟩ | ⟨h11, h⟩
            · replace h := Option.some.inj h
              obtain rfl := h
              refine pFun_by [.v (V.bool (y1_0)), .b false, .v (V.bool (y3_0)), .b false, .b true, .b true, .b true, .b true] rfl (And.intro (w_spec_l06Leaf q1 k (by omega)) (And.intro h2 (And.intro (w_spec_l06Pipe q3 k (by omega)) (And.intro h4 (And.intro c5 (And.intro h6 (And.intro c7 (And.intro h8 (And.intro c7 (And.intro h9 (And.intro c10 (And.intro h11 trivial)))))))))))) ?_
              kernel_rfl
            · replace h := Option.some.inj h
              obtain rfl := h
              refine pFun_by [.v (V.bool (y1_0)), .b false, .v (V.bool (y3_0)), .b false, .b true, .b true, .b true, .b false] rfl (And.intro (w_spec_l06Leaf q1 k (by omega)) (And.intro h2 (And.intro (w_spec_l06Pipe q3 k (by omega)) (And.intro h4 (And.intro c5 (And.intro h6 (And.intro c7 (And.intro h8 (And.intro c7 (And.intro h9 (And.intro c10 (And.intro h11 trivial)))))))))))) ?_
              kernel_rfl
          · replace h := Option.some.inj h
            obtain rfl := h
            refine pFun_by [.v (V.bool (y1_0)), .b false, .v (V.bool (y3_0)), .b false, .b true, .b true, .b false, .b false] rfl (And.intro (w_spec_l06Leaf q1 k (by omega)) (And.intro h2 (And.intro (w_spec_l06Pipe q3 k (by omega)) (And.intro h4 (And.intro c5 (And.intro h6 (And.intro c7 (And.intro h8 (And.intro c7 (And.intro h9 (And.intro (Eq.refl false) trivial))))))))))) ?_
            kernel_rfl
        · rcases cnd_some h with ⟨h12, h⟩ | ⟨h12, h⟩
          · obtain ⟨c13, h⟩ := chk_some h
            rcases cnd_some h with ⟨h14, h⟩ | ⟨h14, h⟩
            · replace h := Option.some.inj h
              obtain rfl := h
              refine pFun_by [.v (V.bool (y1_0)), .b false, .v (V.bool (y3_0)), .b false, .b true, .b false, .b true, .b true] rfl (And.intro (w_spec_l06Leaf q1 k (by omega)) (And.intro h2 (And.intro (w_spec_l06Pipe q3 k (by omega)) (And.intro h4 (And.intro c5 (And.intro h6 (And.intro c7 (And.intro h8 (And.intro h12 (And.intro c13 (And.intro h14 trivial))))))))))) ?_
              kernel_rfl
            · replace h := Option.some.inj h
              obtain rfl := h
              refine pFun_by [.v (V.bool (y1_0)), .b false, .v (V.bool (y3_0)), .b false, .b true, .b false, .b true, .b false] rfl (And.intro (w_spec_l06Leaf q1 k (by omega)) (And.intro h2 (And.intro (w_spec_l06Pipe q3 k (by omega)) (And.intro h4 (And.intro c5 (And.intro h6 (And.intro c7 (And.intro h8 (And.intro h12 (And.intro c13 (And.intro h14 trivial))))))))))) ?_
              kernel_rfl
          · replace h := Option.some.inj h
            obtain rfl := h
            refine pFun_by [.v (V.bool (y1_0)), .b false, .v (V.bool (y3_0)), .b false, .b true, .b false, .b false, .b false] rfl (And.intro (w_spec_l06Leaf q1 k (by omega)) (And.intro h2 (And.intro (w_spec_l06Pipe q3 k (by omega)) (And.intro h4 (And.intro c5 (And.intro h6 (And.intro c7 (And.intro h8 (And.intro h12 (And.intro (Eq.refl false) trivial)))))))))) ?_
            kernel_rfl
      · rcases cnd_some h with ⟨h15, h⟩ | ⟨h15, h⟩
        · obtain ⟨c16, h⟩ := chk_some h
          rcases cnd_some h with ⟨h17, h⟩ | ⟨h17, h⟩
          · replace h := Option.some.inj h
            obtain rfl := h
            refine pFun_by [.v (V.bool (y1_0)), .b false, .v (V.bool (y3_0)), .b false, .b false, .b false, .b true, .b true] rfl (And.intro (w_spec_l06Leaf q1 k (by omega)) (And.intro h2 (And.intro (w_spec_l06Pipe q3 k (by omega)) (And.intro h4 (And.intro c5 (And.intro h6 (And.intro (Eq.refl false) (And.intro h15 (And.intro c16 (And.intro h17 trivial)))))))))) ?_
            kernel_rfl
          · replace h := Option.some.inj h
            obtain rfl := h
            refine pFun_by [.v (V.bool (y1_0)), .b false, .v (V.bool (y3_0)), .b false, .b false, .b false, .b true, .b false] rfl (And.intro (w_spec_l06Leaf q1 k (by omega)) (And.intro h2 (And.intro (w_spec_l06Pipe q3 k (by omega)) (And.intro h4 (And.intro c5 (And.intro h6 (And.intro (Eq.refl false) (And.intro h15 (And.intro c16 (And.intro h17 trivial)))))))))) ?_
            kernel_rfl
        · replace h := Option.some.inj h
          obtain rfl := h
          refine pFun_by [.v (V.bool (y1_0)), .b false, .v (V.bool (y3_0)), .b false, .b false, .b false, .b false, .b false] rfl (And.intro (w_spec_l06Leaf q1 k (by omega)) (And.intro h2 (And.intro (w_spec_l06Pipe q3 k (by omega)) (And.intro h4 (And.intro c5 (And.intro h6 (And.intro (Eq.refl false) (And.intro h15 (And.intro (Eq.refl false) trivial))))))))) ?_
          kernel_rfl
theorem lw_spec_l06Minute_b0 : ∀ (n : Nat) (a0 : Int) (a1 : Int) (a2 : Nat → Int) (a3 : Int) (a4 : List V) (a5 : List V) (a6 : Int) (a7 : Nat → Int) (r : Int × Int × (Nat → Int) × Int × List V × (Nat → Int)), l_spec_l06Minute_b0 n a0 a1 a2 a3 a4 a5 a6 a7 = some r → ∀ k m, n + 0 ≤ k → n ≤ m → LB E 117 0 k m ⟨[(0, (V.ref [(V.int .i8 (a0)), (V.int .i16 (a1)), (V.ints .i8 17 (a2)), (V.int .u32 (a3)), (V.sl (a4))] 0 (0) 21)), (1, (V.ptr 3 0 (0) 17)), (2, (V.sl (a5))), (8, (V.int .i64 (a6)))], [(3, .box [(V.ints .i32 17 (a7))])]⟩ = some (match r with | (o0, o1, o2, o3, o4, o5) => (.normal, ⟨[(0, (V.ref [(V.int .i8 (o0)), (V.int .i16 (o1)), (V.ints .i8 17 (o2)), (V.int .u32 (o3)), (V.sl (o4))] 0 (0) 21)), (1, (V.ptr 3 0 (0) 17))], [(3, .box [(V.ints .i32 17 (o5))])]⟩)) := by
  intro n
  induction n with
  | zero => intro a0 a1 a2 a3 a4 a5 a6 a7 r h; cases h
  | succ n ih =>
    intro a0 a1 a2 a3 a4 a5 a6 a7 r h k m hk hm
    obtain ⟨m, rfl⟩ : ∃ q, m = q + 1 := ⟨m - 1, by omega⟩
    replace hk : n + 0 ≤ k := by omega
    unfold l_spec_l06Minute_b0 at h
    rcases cnd_some h with ⟨h1, h⟩ | ⟨h1, h⟩
    · obtain ⟨c2, h⟩ := chk_some h
      obtain ⟨e3_0, g3, h⟩ := bnd_some h
      replace g3 := as_i64_some g3
      refine pNext_by [.b true, .v (V.int .i64 (e3_0))] (And.intro h1 (And.intro c2 (And.intro g3 (And.intro c2 trivial)))) (ih _ _ _ _ _ _ _ _ _ h k m hk (by omega)) ?_
      kernel_rfl
    · cases h
      refine pLast_by [.b false] (And.intro h1 trivial) ?_
      kernel_rfl
theorem lw_spec_l06Minute_b2 : ∀ (n : Nat) (a0 : Int) (a1 : Int) (a2 : Nat → Int) (a3 : Int) (a4 : List V) (a5 : Int) (a6 : Int) (a7 : Nat → Int) (r : Int × Int × (Nat → Int) × Int × List V × Int × (Nat → Int)), l_spec_l06Minute_b2 n a0 a1 a2 a3 a4 a5 a6 a7 = some r → ∀ k m, n + 1 ≤ k → n ≤ m → LB E 117 2 k m ⟨[(0, (V.ref [(V.int .i8 (a0)), (V.int .i16 (a1)), (V.ints .i8 17 (a2)), (V.int .u32 (a3)), (V.sl (a4))] 0 (0) 21)), (1, (V.ptr 3 0 (0) 17)), (9, (V.int .i64 (a5))), (10, (V.int .i64 (a6)))], [(3, .box [(V.ints .i32 17 (a7))])]⟩ = some (match r with | (o0, o1, o2, o3, o4, o5, o6) => (.normal, ⟨[(0, (V.ref [(V.int .i8 (o0)), (V.int .i16 (o1)), (V.ints .i8 17 (o2)), (V.int .u32 (o3)), (V.sl (o4))] 0 (0) 21)), (1, (V.ptr 3 0 (0) 17)), (9, (V.int .i64 (o5)))], [(3, .box [(V.ints .i32 17 (o6))])]⟩)) := by
  intro n
  induction n with
  | zero => intro a0 a1 a2 a3 a4 a5 a6 a7 r h; cases h
  | succ n ih =>
    intro a0 a1 a2 a3 a4 a5 a6 a7 r h k m hk hm
    obtain ⟨m, rfl⟩ : ∃ q, m = q + 1 := ⟨m - 1, by omega⟩
    replace hk : n + 1 ≤ k := by omega
    unfold l_spec_l06Minute_b2 at h
    rcases cnd_some h with ⟨h6, h⟩ | ⟨h6, h⟩
    · obtain ⟨⟨e7_0, e7_1⟩, g7, h⟩ := bnd_some h
      replace g7 := as_Pi8_i16Q_some g7
      obtain ⟨c8, h⟩ := chk_some h
      obtain ⟨y9_0, q9, h⟩ := bnd_some h
      refine pNext_by [.b true, .v (V.parts [(V.int .i8 (e7_0)), (V.int .i16 (e7_1))]), .v (V.int .i64 (y9_0))] (And.intro h6 (And.intro g7 (And.intro c8 (And.intro (w_spec_l00Min q9 k (by omega)) (And.intro c8 (And.intro c8 trivial)))))) (ih _ _ _ _ _ _ _ _ _ h k m hk (by omega)) ?_
      kernel_rfl
    · cases h
      refine pLast_by [.b false] (And.intro h6 trivial) ?_
      kernel_rfl
theorem lw_spec_l06Minute_b4 : ∀ (n : Nat) (a0 : Int) (a1 : Int) (a2 : Nat → Int) (a3 : Int) (a4 : List V) (a5 : Int) (a6 : Int) (a7 : Nat → Int) (a8 : Nat → Int) (r : Int × Int × (Nat → Int) × Int × List V × Int × (Nat → Int) × (Nat → Int)), l_spec_l06Minute_b4 n a0 a1 a2 a3 a4 a5 a6 a7 a8 = some r → ∀ k m, n + 2 ≤ k → n ≤ m → LB E 117 4 k m ⟨[(0, (V.ref [(V.int .i8 (a0)), (V.int .i16 (a1)), (V.ints .i8 17 (a2)), (V.int .u32 (a3)), (V.sl (a4))] 0 (0) 21)), (1, (V.ptr 3 0 (0) 17)), (9, (V.int .i64 (a5))), (13, (V.ptr 27 0 (0) 17)), (14, (V.int .i64 (a6)))], [(3, .box [(V.ints .i32 17 (a7))]), (27, .box [(V.ints .i32 17 (a8))])]⟩ = some (match r with | (o0, o1, o2, o3, o4, o5, o6, o7) => (.normal, ⟨[(0, (V.ref [(V.int .i8 (o0)), (V.int .i16 (o1)), (V.ints .i8 17 (o2)), (V.int .u32 (o3)), (V.sl (o4))] 0 (0) 21)), (1, (V.ptr 3 0 (0) 17)), (9, (V.int .i64 (o5))), (13, (V.ptr 27 0 (0) 17))], [(3, .box [(V.ints .i32 17 (o6))]), (27, .box [(V.ints .i32 17 (o7))])]⟩)) := by
  intro n
  induction n with
  | zero => intro a0 a1 a2 a3 a4 a5 a6 a7 a8 r h; cases h
  | succ n ih =>
    intro a0 a1 a2 a3 a4 a5 a6 a7 a8 r h k m hk hm
    obtain ⟨m, rfl⟩ : ∃ q, m = q + 1 := ⟨m - 1, by omega⟩
    replace hk : n + 2 ≤ k := by omega
    unfold l_spec_l06Minute_b4 at h
    rcases cnd_some h with ⟨h12, h⟩ | ⟨h12, h⟩
    · obtain ⟨y13_0, q13, h⟩ := bnd_some h
      rcases cnd_some h with ⟨h14, h⟩ | ⟨h14, h⟩
      · obtain ⟨c15, h⟩ := chk_some h
        refine pNext_by [.b true, .v (V.int .i64 (y13_0)), .b true] (And.intro h12 (And.intro (w_spec_l06To q13 k (by omega)) (And.intro h14 (And.intro c15 (And.intro c15 (And.intro c15 trivial)))))) (ih _ _ _ _ _ _ _ _ _ _ h k m hk (by omega)) ?_
        kernel_rfl
      · obtain ⟨c16, h⟩ := chk_some h
        obtain ⟨c17, h⟩ := chk_some h
        refine pNext_by [.b true, .v (V.int .i64 (y13_0)), .b false] (And.intro h12 (And.intro (w_spec_l06To q13 k (by omega)) (And.intro h14 (And.intro c16 (And.intro c17 (And.intro c16 trivial)))))) (ih _ _ _ _ _ _ _ _ _ _ h k m hk (by omega)) ?_
        kernel_rfl
    · cases h
      refine pLast_by [.b false] (And.intro h12 trivial) ?_
      kernel_rfl
theorem lw_spec_l06Minute_b6 : ∀ (n : Nat) (a0 : Int) (a1 : Int) (a2 : Nat → Int) (a3 : Int) (a4 : List V) (a5 : Int) (a6 : Int) (a7 : Int) (a8 : Nat → Int) (a9 : Nat → Int) (r : Int × Int × (Nat → Int) × (Nat → Int)), l_spec_l06Minute_b6 n a0 a1 a2 a3 a4 a5 a6 a7 a8 a9 = some r → ∀ k m, n + 2 ≤ k → n ≤ m → LB E 117 6 k m ⟨[(0, (V.ref [(V.int .i8 (a0)), (V.int .i16 (a1)), (V.ints .i8 17 (a2)), (V.int .u32 (a3)), (V.sl (a4))] 0 (0) 21)), (1, (V.ptr 3 0 (0) 17)), (9, (V.int .i64 (a5))), (13, (V.ptr 27 0 (0) 17)), (16, (V.int .i64 (a6))), (17, (V.int .i64 (a7)))], [(3, .box [(V.ints .i32 17 (a8))]), (27, .box [(V.ints .i32 17 (a9))])]⟩ = some (match r with | (o0, o1, o2, o3) => (.normal, ⟨[(1, (V.ptr 3 0 (0) 17)), (9, (V.int .i64 (o0))), (13, (V.ptr 27 0 (0) 17)), (16, (V.int .i64 (o1)))], [(3, .box [(V.ints .i32 17 (o2))]), (27, .box [(V.ints .i32 17 (o3))])]⟩)) := by
  intro n
  induction n with
  | zero => intro a0 a1 a2 a3 a4 a5 a6 a7 a8 a9 r h; cases h
  | succ n ih =>
    intro a0 a1 a2 a3 a4 a5 a6 a7 a8 a9 r h k m hk hm
    obtain ⟨m, rfl⟩ : ∃ q, m = q + 1 := ⟨m - 1, by omega⟩
    replace hk : n + 2 ≤ k := by omega
    unfold l_spec_l06Minute_b6 at h
    rcases cnd_some h with ⟨h20, h⟩ | ⟨h20, h⟩
    · obtain ⟨c21, h⟩ := chk_some h
      rcases cnd_some h with ⟨h22, h⟩ | ⟨h22, h⟩
      · refine pNext_by [.b true, .b true] (And.intro h20 (And.intro c21 (And.intro h22 (And.intro c21 trivial)))) (ih _ _ _ _ _ _ _ _ _ _ _ h k m hk (by omega)) ?_
        kernel_rfl
      · refine pNext_by [.b true, .b false] (And.intro h20 (And.intro c21 (And.intro h22 trivial))) (ih _ _ _ _ _ _ _ _ _ _ _ h k m hk (by omega)) ?_
        kernel_rfl
    · cases h
      refine pLast_by [.b false] (And.intro h20 trivial) ?_
      kernel_rfl
theorem w_spec_l06Minute {n : Nat} {a0 : Int} {a1 : Int} {a2 : Nat → Int} {a3 : Int} {a4 : List V} {a5 : Nat → Int} {a6 : List V} {z0 : Int} {z1 : Int} {z2 : Nat → Int} (h : s_spec_l06Minute n a0 a1 a2 a3 a4 a5 a6 = some (z0, z1, z2)) : ∀ k, n + 3 ≤ k → sem E k (puBase + 117) [(V.ref [(V.int .i8 (a0)), (V.int .i16 (a1)), (V.ints .i8 17 (a2)), (V.int .u32 (a3)), (V.sl (a4))] 0 (0) 21), (V.ref [(V.ints .i32 17 (a5))] 0 (0) 17), (V.sl (a6))] = some (V.tup [(V.tup [(V.int .i64 (z0)), (V.int .i64 (z1))]), (V.parts [(V.ints .i32 17 (z2))])]) := by
  intro k hk
  obtain ⟨k, rfl⟩ : ∃ q, k = q + 1 := ⟨k - 1, by omega⟩
  unfold s_spec_l06Minute at h
  obtain ⟨⟨u4_0, u4_1, u4_2, u4_3, u4_4, u4_5⟩, l4, h⟩ := bnd_some h
  obtain ⟨⟨u10_0, u10_1, u10_2, u10_3, u10_4, u10_5, u10_6⟩, l10, h⟩ := bnd_some h
  obtain ⟨⟨u18_0, u18_1, u18_2, u18_3, u18_4, u18_5, u18_6, u18_7⟩, l18, h⟩ := bnd_some h
  obtain ⟨⟨u23_0, u23_1, u23_2, u23_3⟩, l23, h⟩ := bnd_some h
  simp only [Option.some.injEq, Prod.mk.injEq] at h
  obtain ⟨rfl, rfl, rfl⟩ := h
  refine pPu_by [.l .normal ⟨[(0, (V.ref [(V.int .i8 (u4_0)), (V.int .i16 (u4_1)), (V.ints .i8 17 (u4_2)), (V.int .u32 (u4_3)), (V.sl (u4_4))] 0 (0) 21)), (1, (V.ptr 3 0 (0) 17))], [(3, .box [(V.ints .i32 17 (u4_5))])]⟩, .l .normal ⟨[(0, (V.ref [(V.int .i8 (u10_0)), (V.int .i16 (u10_1)), (V.ints .i8 17 (u10_2)), (V.int .u32 (u10_3)), (V.sl (u10_4))] 0 (0) 21)), (1, (V.ptr 3 0 (0) 17)), (9, (V.int .i64 (u10_5)))], [(3, .box [(V.ints .i32 17 (u10_6))])]⟩, .l .normal ⟨[(0, (V.ref [(V.int .i8 (u18_0)), (V.int .i16 (u18_1)), (V.ints .i8 17 (u18_2)), (V.int .u32 (u18_3)), (V.sl (u18_4))] 0 (0) 21)), (1, (V.ptr 3 0 (0) 17)), (9, (V.int .i64 (u18_5))), (13, (V.ptr 27 0 (0) 17))], [(3, .box [(V.ints .i32 17 (u18_6))]), (27, .box [(V.ints .i32 17 (u18_7))])]⟩, .l .normal ⟨[(1, (V.ptr 3 0 (0) 17)), (9, (V.int .i64 (u23_0))), (13, (V.ptr 27 0 (0) 17)), (16, (V.int .i64 (u23_1)))], [(3, .box [(V.ints .i32 17 (u23_2))]), (27, .box [(V.ints .i32 17 (u23_3))])]⟩] rfl rfl (And.intro (lw_spec_l06Minute_b0 _ _ _ _ _ _ _ _ _ _ l4 k k (by omega) (by omega)) (And.intro (lw_spec_l06Minute_b2 _ _ _ _ _ _ _ _ _ _ l10 k k (by omega) (by omega)) (And.intro (lw_spec_l06Minute_b4 _ _ _ _ _ _ _ _ _ _ _ l18 k k (by omega) (by omega)) (And.intro (lw_spec_l06Minute_b6 _ _ _ _ _ _ _ _ _ _ _ _ l23 k k (by omega) (by omega)) trivial)))) ?_
  kernel_rfl
theorem lw_spec_l06Over_b0 : ∀ (n : Nat) (a0 : Int) (a1 : Int) (a2 : Nat → Int) (a3 : Int) (a4 : List V) (a5 : List V) (a6 : Int) (a7 : Nat → Int) (r : Sum (Unit) (Int)), l_spec_l06Over_b0 n a0 a1 a2 a3 a4 a5 a6 a7 = some r → ∀ k m, n + 3 ≤ k → n ≤ m → LB E 121 0 k m ⟨[(0, (V.ref [(V.int .i8 (a0)), (V.int .i16 (a1)), (V.ints .i8 17 (a2)), (V.int .u32 (a3)), (V.sl (a4))] 0 (0) 21)), (1, (V.sl (a5))), (5, (V.ptr 11 0 (0) 17)), (6, (V.int .i64 (a6)))], [(11, .box [(V.ints .i32 17 (a7))])]⟩ = some (match r with | .inl _ => (.normal, ⟨[], []⟩) | .inr o0 => (.ret, ⟨[(4, (V.int .i64 (o0)))], []⟩)) := by
  intro n
  induction n with
  | zero => intro a0 a1 a2 a3 a4 a5 a6 a7 r h; cases h
  | succ n ih =>
    intro a0 a1 a2 a3 a4 a5 a6 a7 r h k m hk hm
    obtain ⟨m, rfl⟩ : ∃ q, m = q + 1 := ⟨m - 1, by omega⟩
    replace hk : n + 3 ≤ k := by omega
    unfold l_spec_l06Over_b0 at h
    rcases cnd_some h with ⟨h1, h⟩ | ⟨h1, h⟩
    · obtain ⟨⟨y2_0, y2_1, y2_2⟩, q2, h⟩ := bnd_some h
      rcases cnd_some h with ⟨h3, h⟩ | ⟨h3, h⟩
      · cases h
        refine pLast_by [.b true, .v (V.tup [(V.tup [(V.int .i64 (y2_0)), (V.int .i64 (y2_1))]), (V.parts [(V.ints .i32 17 (y2_2))])]), .b true] (And.intro h1 (And.intro (w_spec_l06Minute q2 k (by omega)) (And.intro h3 trivial))) ?_
        kernel_rfl
      · refine pNext_by [.b true, .v (V.tup [(V.tup [(V.int .i64 (y2_0)), (V.int .i64 (y2_1))]), (V.parts [(V.ints .i32 17 (y2_2))])]), .b false] (And.intro h1 (And.intro (w_spec_l06Minute q2 k (by omega)) (And.intro h3 trivial))) (ih _ _ _ _ _ _ _ _ _ h k m hk (by omega)) ?_
        kernel_rfl
    · cases h
      refine pLast_by [.b false] (And.intro h1 trivial) ?_
      kernel_rfl
theorem w_spec_l06Over {n : Nat} {a0 : Int} {a1 : Int} {a2 : Nat → Int} {a3 : Int} {a4 : List V} {a5 : List V} {z0 : Int} (h : s_spec_l06Over n a0 a1 a2 a3 a4 a5 = some z0) : ∀ k, n + 4 ≤ k → sem E k 121 [(V.ref [(V.int .i8 (a0)), (V.int .i16 (a1)), (V.ints .i8 17 (a2)), (V.int .u32 (a3)), (V.sl (a4))] 0 (0) 21), (V.sl (a5))] = some (V.int .i64 (z0)) := by
  intro k hk
  obtain ⟨k, rfl⟩ : ∃ q, k = q + 1 := ⟨k - 1, by omega⟩
  unfold s_spec_l06Over at h
  obtain ⟨w, l4, h⟩ := bnd_some h
  rcases w with ⟨⟩ | u5_0
  · replace h := Option.some.inj h
    obtain rfl := h
    refine pFun_by [.l .normal ⟨[], []⟩] rfl (And.intro (lw_spec_l06Over_b0 _ _ _ _ _ _ _ _ _ _ l4 k k (by omega) (by omega)) trivial) ?_
    kernel_rfl
  · replace h := Option.some.inj h
    obtain rfl := h
    refine pFun_by [.l .ret ⟨[(4, (V.int .i64 (u5_0)))], []⟩] rfl (And.intro (lw_spec_l06Over_b0 _ _ _ _ _ _ _ _ _ _ l4 k k (by omega) (by omega)) trivial) ?_
    kernel_rfl
theorem lw_spec_LeastTakes_b0 : ∀ (n : Nat) (a0 : List V) (a1 : Int) (a2 : Int) (a3 : Int) (a4 : Int) (a5 : Nat → Int) (a6 : Int) (a7 : List V) (r : Sum (Unit) (Int × Int)), l_spec_LeastTakes_b0 n a0 a1 a2 a3 a4 a5 a6 a7 = some r → ∀ k m, n + 4 ≤ k → n ≤ m → LB E 42 0 k m ⟨[(1, (V.sl (a0))), (2, (V.int .i64 (a1))), (9, (V.ptr 19 0 (0) 21)), (10, (V.int .i64 (a2)))], [(19, .box [(V.int .i8 (a3)), (V.int .i16 (a4)), (V.ints .i8 17 (a5)), (V.int .u32 (a6)), (V.row 19027)]), (19027, .row 121 (a7))]⟩ = some (match r with | .inl _ => (.normal, ⟨[], []⟩) | .inr (o0, o1) => (.ret, ⟨[(6, (V.int .i64 (o0))), (7, (V.int .i64 (o1)))], []⟩)) := by
  intro n
  induction n with
  | zero => intro a0 a1 a2 a3 a4 a5 a6 a7 r h; cases h
  | succ n ih =>
    intro a0 a1 a2 a3 a4 a5 a6 a7 r h k m hk hm
    obtain ⟨m, rfl⟩ : ∃ q, m = q + 1 := ⟨m - 1, by omega⟩
    replace hk : n + 4 ≤ k := by omega
    unfold l_spec_LeastTakes_b0 at h
    rcases cnd_some h with ⟨h8, h⟩ | ⟨h8, h⟩
    · obtain ⟨c9, h⟩ := chk_some h
      obtain ⟨⟨e10_0, e10_1⟩, g10, h⟩ := bnd_some h
      replace g10 := as_Pi8_i16Q_some g10
      obtain ⟨⟨e11_0, e11_1⟩, g11, h⟩ := bnd_some h
      replace g11 := as_Pi8_i16Q_some g11
      obtain ⟨y12_0, q12, h⟩ := bnd_some h
      rcases cnd_some h with ⟨h13, h⟩ | ⟨h13, h⟩
      · cases h
        refine pLast_by [.b true, .v (V.parts [(V.int .i8 (e10_0)), (V.int .i16 (e10_1))]), .v (V.parts [(V.int .i8 (e11_0)), (V.int .i16 (e11_1))]), .v (V.int .i64 (y12_0)), .b true] (And.intro h8 (And.intro c9 (And.intro g10 (And.intro g11 (And.intro (w_spec_l06Over q12 k (by omega)) (And.intro (Eq.refl true) (And.intro h13 trivial))))))) ?_
        kernel_rfl
      · refine pNext_by [.b true, .v (V.parts [(V.int .i8 (e10_0)), (V.int .i16 (e10_1))]), .v (V.parts [(V.int .i8 (e11_0)), (V.int .i16 (e11_1))]), .v (V.int .i64 (y12_0)), .b false] (And.intro h8 (And.intro c9 (And.intro g10 (And.intro g11 (And.intro (w_spec_l06Over q12 k (by omega)) (And.intro (Eq.refl true) (And.intro h13 trivial))))))) (ih _ _ _ _ _ _ _ _ _ h k m hk (by omega)) ?_
        kernel_rfl
    · cases h
      refine pLast_by [.b false] (And.intro h8 trivial) ?_
      kernel_rfl
theorem w_spec_LeastTakes {n : Nat} {a0 : Int} {a1 : Int} {a2 : Nat → Int} {a3 : Int} {a4 : List V} {a5 : List V} {a6 : Int} {z0 : Int} {z1 : Int} (h : s_spec_LeastTakes n a0 a1 a2 a3 a4 a5 a6 = some (z0, z1)) : ∀ k, n + 5 ≤ k → sem E k 42 [(V.parts [(V.int .i8 (a0)), (V.int .i16 (a1)), (V.ints .i8 17 (a2)), (V.int .u32 (a3)), (V.sl (a4))]), (V.sl (a5)), (V.int .i64 (a6))] = some (V.tup [(V.int .i64 (z0)), (V.int .i64 (z1))]) := by
  intro k hk
  obtain ⟨k, rfl⟩ : ∃ q, k = q + 1 := ⟨k - 1, by omega⟩
  unfold s_spec_LeastTakes at h
  obtain ⟨y1_0, q1, h⟩ := bnd_some h
  rcases cnd_some h with ⟨h2, h⟩ | ⟨h2, h⟩
  · obtain ⟨y3_0, q3, h⟩ := bnd_some h
    obtain ⟨y4_0, q4, h⟩ := bnd_some h
    rcases cnd_some h with ⟨h5, h⟩ | ⟨h5, h⟩
    · obtain ⟨⟨y6_0, y6_1, y6_2, y6_3, y6_4⟩, q6, h⟩ := bnd_some h
      obtain ⟨c7, h⟩ := chk_some h
      obtain ⟨w, l14, h⟩ := bnd_some h
      rcases w with ⟨⟩ | ⟨u15_0, u15_1⟩
      · simp only [Option.some.injEq, Prod.mk.injEq] at h
        obtain ⟨rfl, rfl⟩ := h
        refine pFun_by [.v (V.bool (y1_0)), .b true, .v (V.bool (y3_0)), .v (V.int .i64 (y4_0)), .b false, .v (V.parts [(V.int .i8 (y6_0)), (V.int .i16 (y6_1)), (V.ints .i8 17 (y6_2)), (V.int .u32 (y6_3)), (V.fresh 121 (y6_4))]), .l .normal ⟨[], []⟩] rfl (And.intro (w_spec_l06Rain q1 k (by omega)) (And.intro (Eq.refl true) (And.intro h2 (And.intro (w_spec_l00In q3 k (by omega)) (And.intro (w_spec_l06Asked q4 k (by omega)) (And.intro (Eq.refl true) (And.intro (not_f h5) (And.intro (w_spec_l06Own q6 k (by omega)) (And.intro c7 (And.intro (lw_spec_LeastTakes_b0 _ _ _ _ _ _ _ _ _ _ l14 k k (by omega) (by omega)) trivial)))))))))) ?_
        kernel_rfl
      · simp only [Option.some.injEq, Prod.mk.injEq] at h
        obtain ⟨rfl, rfl⟩ := h
        refine pFun_by [.v (V.bool (y1_0)), .b true, .v (V.bool (y3_0)), .v (V.int .i64 (y4_0)), .b false, .v (V.parts [(V.int .i8 (y6_0)), (V.int .i16 (y6_1)), (V.ints .i8 17 (y6_2)), (V.int .u32 (y6_3)), (V.fresh 121 (y6_4))]), .l .ret ⟨[(6, (V.int .i64 (u15_0))), (7, (V.int .i64 (u15_1)))], []⟩] rfl (And.intro (w_spec_l06Rain q1 k (by omega)) (And.intro (Eq.refl true) (And.intro h2 (And.intro (w_spec_l00In q3 k (by omega)) (And.intro (w_spec_l06Asked q4 k (by omega)) (And.intro (Eq.refl true) (And.intro (not_f h5) (And.intro (w_spec_l06Own q6 k (by omega)) (And.intro c7 (And.intro (lw_spec_LeastTakes_b0 _ _ _ _ _ _ _ _ _ _ l14 k k (by omega) (by omega)) trivial)))))))))) ?_
        kernel_rfl
    · simp only [Option.some.injEq, Prod.mk.injEq] at h
      obtain ⟨rfl, rfl⟩ := h
      refine pFun_by [.v (V.bool (y1_0)), .b true, .v (V.bool (y3_0)), .v (V.int .i64 (y4_0)), .b true] rfl (And.intro (w_spec_l06Rain q1 k (by omega)) (And.intro (Eq.refl true) (And.intro h2 (And.intro (w_spec_l00In q3 k (by omega)) (And.intro (w_spec_l06Asked q4 k (by omega)) (And.intro (Eq.refl true) (And.intro (not_t h5) trivial))))))) ?_
      kernel_rfl
  · obtain ⟨y17_0, q17, h⟩ := bnd_some h
    rcases cnd_some h with ⟨h18, h⟩ | ⟨h18, h⟩
    · obtain ⟨⟨y19_0, y19_1, y19_2, y19_3, y19_4⟩, q19, h⟩ := bnd_some h
      obtain ⟨c20, h⟩ := chk_some h
      obtain ⟨w, l21, h⟩ := bnd_some h
      rcases w with ⟨⟩ | ⟨u22_0, u22_1⟩
      · simp only [Option.some.injEq, Prod.mk.injEq] at h
        obtain ⟨rfl, rfl⟩ := h
        refine pFun_by [.v (V.bool (y1_0)), .b false, .v (V.int .i64 (y17_0)), .b false, .v (V.parts [(V.int .i8 (y19_0)), (V.int .i16 (y19_1)), (V.ints .i8 17 (y19_2)), (V.int .u32 (y19_3)), (V.fresh 121 (y19_4))]), .l .normal ⟨[], []⟩] rfl (And.intro (w_spec_l06Rain q1 k (by omega)) (And.intro (Eq.refl true) (And.intro h2 (And.intro (w_spec_l06Asked q17 k (by omega)) (And.intro (Eq.refl true) (And.intro (not_f h18) (And.intro (w_spec_l06Own q19 k (by omega)) (And.intro c20 (And.intro (lw_spec_LeastTakes_b0 _ _ _ _ _ _ _ _ _ _ l21 k k (by omega) (by omega)) trivial))))))))) ?_
        kernel_rfl
      · simp only [Option.some.injEq, Prod.mk.injEq] at h
        obtain ⟨rfl, rfl⟩ := h
        refine pFun_by [.v (V.bool (y1_0)), .b false, .v (V.int .i64 (y17_0)), .b false, .v (V.parts [(V.int .i8 (y19_0)), (V.int .i16 (y19_1)), (V.ints .i8 17 (y19_2)), (V.int .u32 (y19_3)), (V.fresh 121 (y19_4))]), .l .ret ⟨[(6, (V.int .i64 (u22_0))), (7, (V.int .i64 (u22_1)))], []⟩] rfl (And.intro (w_spec_l06Rain q1 k (by omega)) (And.intro (Eq.refl true) (And.intro h2 (And.intro (w_spec_l06Asked q17 k (by omega)) (And.intro (Eq.refl true) (And.intro (not_f h18) (And.intro (w_spec_l06Own q19 k (by omega)) (And.intro c20 (And.intro (lw_spec_LeastTakes_b0 _ _ _ _ _ _ _ _ _ _ l21 k k (by omega) (by omega)) trivial))))))))) ?_
        kernel_rfl
    · simp only [Option.some.injEq, Prod.mk.injEq] at h
      obtain ⟨rfl, rfl⟩ := h
      refine pFun_by [.v (V.bool (y1_0)), .b false, .v (V.int .i64 (y17_0)), .b true] rfl (And.intro (w_spec_l06Rain q1 k (by omega)) (And.intro (Eq.refl true) (And.intro h2 (And.intro (w_spec_l06Asked q17 k (by omega)) (And.intro (Eq.refl true) (And.intro (not_t h18) trivial)))))) ?_
      kernel_rfl
theorem w_impl_within_int64 {n : Nat} {a0 : Int} {a1 : Int} {a2 : Int} {z0 : Bool} (h : s_impl_within_int64 n a0 a1 a2 = some z0) : ∀ k, n + 1 ≤ k → sem E k 91 [(V.int .i64 (a0)), (V.int .i64 (a1)), (V.int .i64 (a2))] = some (V.bool (z0)) := by
  intro k hk
  obtain ⟨k, rfl⟩ : ∃ q, k = q + 1 := ⟨k - 1, by omega⟩
  unfold s_impl_within_int64 at h
  rcases cnd_some h with ⟨h1, h⟩ | ⟨h1, h⟩
  · replace h := Option.some.inj h
    obtain rfl := h
    refine pFun_by [.b true] rfl (And.intro h1 trivial) ?_
    kernel_rfl
  · replace h := Option.some.inj h
    obtain rfl := h
    refine pFun_by [.b false] rfl (And.intro h1 trivial) ?_
    kernel_rfl
theorem w_impl_isDeep_int64 {n : Nat} {a0 : Int} {z0 : Bool} (h : s_impl_isDeep_int64 n a0 = some z0) : ∀ k, n + 2 ≤ k → sem E k 92 [(V.int .i64 (a0))] = some (V.bool (z0)) := by
  intro k hk
  obtain ⟨k, rfl⟩ : ∃ q, k = q + 1 := ⟨k - 1, by omega⟩
  unfold s_impl_isDeep_int64 at h
  obtain ⟨y1_0, q1, h⟩ := bnd_some h
  replace h := Option.some.inj h
  obtain rfl := h
  refine pFun_by [.v (V.bool (y1_0))] rfl (And.intro (w_impl_within_int64 q1 k (by omega)) trivial) ?_
  kernel_rfl
theorem w_impl_areAll_int64_1__isDeep_int64 {n : Nat} {a0 : Int} {z0 : Bool} (h : s_impl_areAll_int64_1__isDeep_int64 n a0 = some z0) : ∀ k, n + 3 ≤ k → sem E k 233 [(V.int .i64 (a0)), (V.ref [(V.clo 92 [])] 0 (0) 1)] = some (V.bool (z0)) := by
  intro k hk
  obtain ⟨k, rfl⟩ : ∃ q, k = q + 1 := ⟨k - 1, by omega⟩
  unfold s_impl_areAll_int64_1__isDeep_int64 at h
  obtain ⟨y1_0, q1, h⟩ := bnd_some h
  replace h := Option.some.inj h
  obtain rfl := h
  refine pFun_by [.v (V.bool (y1_0))] rfl (And.intro (w_impl_isDeep_int64 q1 k (by omega)) trivial) ?_
  kernel_rfl
theorem lw_slices_IndexFunc_Sint64_int64__areAll_int64_1__isDeep_int64_b0 : ∀ (n : Nat) (a0 : List V) (a1 : Int) (a2 : Int) (r : Sum (Unit) (Int)), l_slices_IndexFunc_Sint64_int64__areAll_int64_1__isDeep_int64_b0 n a0 a1 a2 = some r → ∀ k m, n + 3 ≤ k → n ≤ m → LB E 254 0 k m ⟨[(0, (V.sl (a0))), (1, (V.clo 233 [(V.ref [(V.clo 92 [])] 0 (0) 1)])), (7, (V.int .i64 (a1))), (8, (V.int .i64 (a2)))], []⟩ = some (match r with | .inl _ => (.normal, ⟨[], []⟩) | .inr o0 => (.ret, ⟨[(4, (V.int .i64 (o0)))], []⟩)) := by
  intro n
  induction n with
  | zero => intro a0 a1 a2 r h; cases h
  | succ n ih =>
    intro a0 a1 a2 r h k m hk hm
    obtain ⟨m, rfl⟩ : ∃ q, m = q + 1 := ⟨m - 1, by omega⟩
    replace hk : n + 3 ≤ k := by omega
    unfold l_slices_IndexFunc_Sint64_int64__areAll_int64_1__isDeep_int64_b0 at h
    rcases cnd_some h with ⟨h1, h⟩ | ⟨h1, h⟩
    · obtain ⟨e2_0, g2, h⟩ := bnd_some h
      replace g2 := as_i64_some g2
      obtain ⟨y3_0, q3, h⟩ := bnd_some h
      rcases cnd_some h with ⟨h4, h⟩ | ⟨h4, h⟩
      · cases h
        refine pLast_by [.b true, .v (V.int .i64 (e2_0)), .v (V.bool (y3_0)), .b true] (And.intro h1 (And.intro g2 (And.intro (w_impl_areAll_int64_1__isDeep_int64 q3 k (by omega)) (And.intro h4 trivial)))) ?_
        kernel_rfl
      · refine pNext_by [.b true, .v (V.int .i64 (e2_0)), .v (V.bool (y3_0)), .b false] (And.intro h1 (And.intro g2 (And.intro (w_impl_areAll_int64_1__isDeep_int64 q3 k (by omega)) (And.intro h4 trivial)))) (ih _ _ _ _ h k m hk (by omega)) ?_
        kernel_rfl
    · cases h
      refine pLast_by [.b false] (And.intro h1 trivial) ?_
      kernel_rfl
theorem w_slices_IndexFunc_Sint64_int64__areAll_int64_1__isDeep_int64 {n : Nat} {a0 : List V} {z0 : Int} (h : s_slices_IndexFunc_Sint64_int64__areAll_int64_1__isDeep_int64 n a0 = some z0) : ∀ k, n + 4 ≤ k → sem E k 254 [(V.sl (a0)), (V.clo 233 [(V.ref [(V.clo 92 [])] 0 (0) 1)])] = some (V.int .i64 (z0)) := by
  intro k hk
  obtain ⟨k, rfl⟩ : ∃ q, k = q + 1 := ⟨k - 1, by omega⟩
  unfold s_slices_IndexFunc_Sint64_int64__areAll_int64_1__isDeep_int64 at h
  obtain ⟨w, l5, h⟩ := bnd_some h
  rcases w with ⟨⟩ | u6_0
  · replace h := Option.some.inj h
    obtain rfl := h
    refine pFun_by [.l .normal ⟨[], []⟩] rfl (And.intro (lw_slices_IndexFunc_Sint64_int64__areAll_int64_1__isDeep_int64_b0 _ _ _ _ _ l5 k k (by omega) (by omega)) trivial) ?_
    kernel_rfl
  · replace h := Option.some.inj h
    obtain rfl := h
    refine pFun_by [.l .ret ⟨[(4, (V.int .i64 (u6_0)))], []⟩] rfl (And.intro (lw_slices_IndexFunc_Sint64_int64__areAll_int64_1__isDeep_int64_b0 _ _ _ _ _ l5 k k (by omega) (by omega)) trivial) ?_
    kernel_rfl
theorem w_slices_ContainsFunc_Sint64_int64__areAll_int64_1__isDeep_int64 {n : Nat} {a0 : List V} {z0 : Bool} (h : s_slices_ContainsFunc_Sint64_int64__areAll_int64_1__isDeep_int64 n a0 = some z0) : ∀ k, n + 5 ≤ k → sem E k 232 [(V.sl (a0)), (V.clo 233 [(V.ref [(V.clo 92 [])] 0 (0) 1)])] = some (V.bool (z0)) := by
  intro k hk
  obtain ⟨k, rfl⟩ : ∃ q, k = q + 1 := ⟨k - 1, by omega⟩
  unfold s_slices_ContainsFunc_Sint64_int64__areAll_int64_1__isDeep_int64 at h
  obtain ⟨y1_0, q1, h⟩ := bnd_some h
  replace h := Option.some.inj h
  obtain rfl := h
  refine pFun_by [.v (V.int .i64 (y1_0))] rfl (And.intro (w_slices_IndexFunc_Sint64_int64__areAll_int64_1__isDeep_int64 q1 k (by omega)) trivial) ?_
  kernel_rfl
theorem w_impl_areAll_int64__isDeep_int64 {n : Nat} {a0 : List V} {z0 : Bool} (h : s_impl_areAll_int64__isDeep_int64 n a0 = some z0) : ∀ k, n + 6 ≤ k → sem E k 195 [(V.sl (a0)), (V.clo 92 [])] = some (V.bool (z0)) := by
  intro k hk
  obtain ⟨k, rfl⟩ : ∃ q, k = q + 1 := ⟨k - 1, by omega⟩
  unfold s_impl_areAll_int64__isDeep_int64 at h
  obtain ⟨y1_0, q1, h⟩ := bnd_some h
  replace h := Option.some.inj h
  obtain rfl := h
  refine pFun_by [.v (V.bool (y1_0))] rfl (And.intro (w_slices_ContainsFunc_Sint64_int64__areAll_int64_1__isDeep_int64 q1 k (by omega)) (And.intro (Eq.refl true) trivial)) ?_
  kernel_rfl
theorem w_impl_Gutter_isRain {n : Nat} {a0 : Int} {a1 : Int} {a2 : Nat → Int} {a3 : Int} {a4 : List V} {a5 : List V} {z0 : Bool} (h : s_impl_Gutter_isRain n a0 a1 a2 a3 a4 a5 = some z0) : ∀ k, n + 7 ≤ k → sem E k 122 [(V.parts [(V.int .i8 (a0)), (V.int .i16 (a1)), (V.ints .i8 17 (a2)), (V.int .u32 (a3)), (V.sl (a4))]), (V.sl (a5))] = some (V.bool (z0)) := by
  intro k hk
  obtain ⟨k, rfl⟩ : ∃ q, k = q + 1 := ⟨k - 1, by omega⟩
  unfold s_impl_Gutter_isRain at h
  rcases cnd_some h with ⟨h1, h⟩ | ⟨h1, h⟩
  · obtain ⟨y2_0, q2, h⟩ := bnd_some h
    replace h := Option.some.inj h
    obtain rfl := h
    refine pFun_by [.b true, .v (V.bool (y2_0))] rfl (And.intro h1 (And.intro (w_impl_areAll_int64__isDeep_int64 q2 k (by omega)) trivial)) ?_
    kernel_rfl
  · replace h := Option.some.inj h
    obtain rfl := h
    refine pFun_by [.b false] rfl (And.intro h1 trivial) ?_
    kernel_rfl
theorem w_impl_within_int8 {n : Nat} {a0 : Int} {a1 : Int} {a2 : Int} {z0 : Bool} (h : s_impl_within_int8 n a0 a1 a2 = some z0) : ∀ k, n + 1 ≤ k → sem E k 187 [(V.int .i8 (a0)), (V.int .i8 (a1)), (V.int .i8 (a2))] = some (V.bool (z0)) := by
  intro k hk
  obtain ⟨k, rfl⟩ : ∃ q, k = q + 1 := ⟨k - 1, by omega⟩
  unfold s_impl_within_int8 at h
  rcases cnd_some h with ⟨h1, h⟩ | ⟨h1, h⟩
  · replace h := Option.some.inj h
    obtain rfl := h
    refine pFun_by [.b true] rfl (And.intro h1 trivial) ?_
    kernel_rfl
  · replace h := Option.some.inj h
    obtain rfl := h
    refine pFun_by [.b false] rfl (And.intro h1 trivial) ?_
    kernel_rfl
theorem w_impl_isDeep_int16 {n : Nat} {a0 : Int} {z0 : Bool} (h : s_impl_isDeep_int16 n a0 = some z0) : ∀ k, n + 2 ≤ k → sem E k 188 [(V.int .i16 (a0))] = some (V.bool (z0)) := by
  intro k hk
  obtain ⟨k, rfl⟩ : ∃ q, k = q + 1 := ⟨k - 1, by omega⟩
  unfold s_impl_isDeep_int16 at h
  obtain ⟨y1_0, q1, h⟩ := bnd_some h
  replace h := Option.some.inj h
  obtain rfl := h
  refine pFun_by [.v (V.bool (y1_0))] rfl (And.intro (w_impl_within_int64 q1 k (by omega)) trivial) ?_
  kernel_rfl
theorem lw_impl_ValidGutter_b0 : ∀ (n : Nat) (a0 : Nat → Int) (a1 : Int) (a2 : Int) (a3 : Int) (a4 : Nat → Int) (a5 : Int) (a6 : List V) (r : Sum (Int × Int × (Nat → Int) × Int × List V) (Bool)), l_impl_ValidGutter_b0 n a0 a1 a2 a3 a4 a5 a6 = some r → ∀ k m, n + 1 ≤ k → n ≤ m → LB E 94 0 k m ⟨[(1, (V.ptr 3 0 (0) 21)), (32, (V.ints .i8 17 (a0))), (33, (V.int .i64 (a1)))], [(3, .box [(V.int .i8 (a2)), (V.int .i16 (a3)), (V.ints .i8 17 (a4)), (V.int .u32 (a5)), (V.sl (a6))])]⟩ = some (match r with | .inl (o0, o1, o2, o3, o4) => (.normal, ⟨[(1, (V.ptr 3 0 (0) 21))], [(3, .box [(V.int .i8 (o0)), (V.int .i16 (o1)), (V.ints .i8 17 (o2)), (V.int .u32 (o3)), (V.sl (o4))])]⟩) | .inr o0 => (.ret, ⟨[(2, (V.bool (o0)))], []⟩)) := by
  intro n
  induction n with
  | zero => intro a0 a1 a2 a3 a4 a5 a6 r h; cases h
  | succ n ih =>
    intro a0 a1 a2 a3 a4 a5 a6 r h k m hk hm
    obtain ⟨m, rfl⟩ : ∃ q, m = q + 1 := ⟨m - 1, by omega⟩
    replace hk : n + 1 ≤ k := by omega
    unfold l_impl_ValidGutter_b0 at h
    rcases cnd_some h with ⟨h8, h⟩ | ⟨h8, h⟩
    · obtain ⟨c9, h⟩ := chk_some h
      obtain ⟨y10_0, q10, h⟩ := bnd_some h
      rcases cnd_some h with ⟨h11, h⟩ | ⟨h11, h⟩
      · rcases cnd_some h with ⟨h12, h⟩ | ⟨h12, h⟩
        · refine pNext_by [.b true, .v (V.bool (y10_0)), .b false, .b false, .b false] (And.intro h8 (And.intro c9 (And.intro (w_impl_within_int8 q10 k (by omega)) (And.intro (not_f h11) (And.intro (not_f h12) (And.intro (Eq.refl false) trivial)))))) (ih _ _ _ _ _ _ _ _ h k m hk (by omega)) ?_
          kernel_rfl
        · rcases cnd_some h with ⟨h13, h⟩ | ⟨h13, h⟩
          · cases h
            refine pLast_by [.b true, .v (V.bool (y10_0)), .b false, .b true, .b true] (And.intro h8 (And.intro c9 (And.intro (w_impl_within_int8 q10 k (by omega)) (And.intro (not_f h11) (And.intro (not_t h12) (And.intro h13 trivial)))))) ?_
            kernel_rfl
          · refine pNext_by [.b true, .v (V.bool (y10_0)), .b false, .b true, .b false] (And.intro h8 (And.intro c9 (And.intro (w_impl_within_int8 q10 k (by omega)) (And.intro (not_f h11) (And.intro (not_t h12) (And.intro h13 trivial)))))) (ih _ _ _ _ _ _ _ _ h k m hk (by omega)) ?_
            kernel_rfl
      · cases h
        refine pLast_by [.b true, .v (V.bool (y10_0)), .b true, .b true] (And.intro h8 (And.intro c9 (And.intro (w_impl_within_int8 q10 k (by omega)) (And.intro (not_t h11) (And.intro (Eq.refl true) trivial))))) ?_
        kernel_rfl
    · cases h
      refine pLast_by [.b false] (And.intro h8 trivial) ?_
      kernel_rfl
theorem lw_impl_ValidGutter_b2 : ∀ (n : Nat) (a0 : List V) (a1 : Int) (a2 : Int) (a3 : Int) (a4 : Int) (a5 : Nat → Int) (a6 : Int) (a7 : List V) (r : Sum (Unit) (Bool)), l_impl_ValidGutter_b2 n a0 a1 a2 a3 a4 a5 a6 a7 = some r → ∀ k m, n + 2 ≤ k → n ≤ m → LB E 94 2 k m ⟨[(1, (V.ptr 3 0 (0) 21)), (53, (V.sl (a0))), (54, (V.int .i64 (a1))), (55, (V.int .i64 (a2)))], [(3, .box [(V.int .i8 (a3)), (V.int .i16 (a4)), (V.ints .i8 17 (a5)), (V.int .u32 (a6)), (V.sl (a7))])]⟩ = some (match r with | .inl _ => (.normal, ⟨[], []⟩) | .inr o0 => (.ret, ⟨[(2, (V.bool (o0)))], []⟩)) := by
  intro n
  induction n with
  | zero => intro a0 a1 a2 a3 a4 a5 a6 a7 r h; cases h
  | succ n ih =>
    intro a0 a1 a2 a3 a4 a5 a6 a7 r h k m hk hm
    obtain ⟨m, rfl⟩ : ∃ q, m = q + 1 := ⟨m - 1, by omega⟩
    replace hk : n + 2 ≤ k := by omega
    unfold l_impl_ValidGutter_b2 at h
    rcases cnd_some h with ⟨h16, h⟩ | ⟨h16, h⟩
    · obtain ⟨⟨e17_0, e17_1⟩, g17, h⟩ := bnd_some h
      replace g17 := as_Pi8_i16Q_some g17
      obtain ⟨y18_0, q18, h⟩ := bnd_some h
      rcases cnd_some h with ⟨h19, h⟩ | ⟨h19, h⟩
      · obtain ⟨y20_0, q20, h⟩ := bnd_some h
        rcases cnd_some h with ⟨h21, h⟩ | ⟨h21, h⟩
        · rcases cnd_some h with ⟨h22, h⟩ | ⟨h22, h⟩
          · obtain ⟨⟨e23_0, e23_1⟩, g23, h⟩ := bnd_some h
            replace g23 := as_Pi8_i16Q_some g23
            rcases cnd_some h with ⟨h24, h⟩ | ⟨h24, h⟩
            · cases h
              refine pLast_by [.b true, .v (V.parts [(V.int .i8 (e17_0)), (V.int .i16 (e17_1))]), .v (V.bool (y18_0)), .b false, .v (V.bool (y20_0)), .b false, .b true, .v (V.parts [(V.int .i8 (e23_0)), (V.int .i16 (e23_1))]), .b true] (And.intro h16 (And.intro g17 (And.intro (w_impl_within_int8 q18 k (by omega)) (And.intro (not_f h19) (And.intro (w_impl_isDeep_int16 q20 k (by omega)) (And.intro (not_f h21) (And.intro h22 (And.intro g23 (And.intro h24 trivial))))))))) ?_
              kernel_rfl
            · refine pNext_by [.b true, .v (V.parts [(V.int .i8 (e17_0)), (V.int .i16 (e17_1))]), .v (V.bool (y18_0)), .b false, .v (V.bool (y20_0)), .b false, .b true, .v (V.parts [(V.int .i8 (e23_0)), (V.int .i16 (e23_1))]), .b false] (And.intro h16 (And.intro g17 (And.intro (w_impl_within_int8 q18 k (by omega)) (And.intro (not_f h19) (And.intro (w_impl_isDeep_int16 q20 k (by omega)) (And.intro (not_f h21) (And.intro h22 (And.intro g23 (And.intro h24 trivial))))))))) (ih _ _ _ _ _ _ _ _ _ h k m hk (by omega)) ?_
              kernel_rfl
          · refine pNext_by [.b true, .v (V.parts [(V.int .i8 (e17_0)), (V.int .i16 (e17_1))]), .v (V.bool (y18_0)), .b false, .v (V.bool (y20_0)), .b false, .b false, .b false] (And.intro h16 (And.intro g17 (And.intro (w_impl_within_int8 q18 k (by omega)) (And.intro (not_f h19) (And.intro (w_impl_isDeep_int16 q20 k (by omega)) (And.intro (not_f h21) (And.intro h22 (And.intro (Eq.refl false) trivial)))))))) (ih _ _ _ _ _ _ _ _ _ h k m hk (by omega)) ?_
            kernel_rfl
        · cases h
          refine pLast_by [.b true, .v (V.parts [(V.int .i8 (e17_0)), (V.int .i16 (e17_1))]), .v (V.bool (y18_0)), .b false, .v (V.bool (y20_0)), .b true, .b true] (And.intro h16 (And.intro g17 (And.intro (w_impl_within_int8 q18 k (by omega)) (And.intro (not_f h19) (And.intro (w_impl_isDeep_int16 q20 k (by omega)) (And.intro (not_t h21) (And.intro (Eq.refl true) trivial))))))) ?_
          kernel_rfl
      · cases h
        refine pLast_by [.b true, .v (V.parts [(V.int .i8 (e17_0)), (V.int .i16 (e17_1))]), .v (V.bool (y18_0)), .b true, .b true, .b true] (And.intro h16 (And.intro g17 (And.intro (w_impl_within_int8 q18 k (by omega)) (And.intro (not_t h19) (And.intro (Eq.refl true) (And.intro (Eq.refl true) trivial)))))) ?_
        kernel_rfl
    · cases h
      refine pLast_by [.b false] (And.intro h16 trivial) ?_
      kernel_rfl
theorem w_impl_ValidGutter {n : Nat} {a0 : Int} {a1 : Int} {a2 : Nat → Int} {a3 : Int} {a4 : List V} {z0 : Bool} (h : s_impl_ValidGutter n a0 a1 a2 a3 a4 = some z0) : ∀ k, n + 3 ≤ k → sem E k 94 [(V.parts [(V.int .i8 (a0)), (V.int .i16 (a1)), (V.ints .i8 17 (a2)), (V.int .u32 (a3)), (V.sl (a4))])] = some (V.bool (z0)) := by
  intro k hk
  obtain ⟨k, rfl⟩ : ∃ q, k = q + 1 := ⟨k - 1, by omega⟩
  unfold s_impl_ValidGutter at h
  obtain ⟨y1_0, q1, h⟩ := bnd_some h
  rcases cnd_some h with ⟨h2, h⟩ | ⟨h2, h⟩
  · obtain ⟨y3_0, q3, h⟩ := bnd_some h
    rcases cnd_some h with ⟨h4, h⟩ | ⟨h4, h⟩
    · obtain ⟨c5, h⟩ := chk_some h
      rcases cnd_some h with ⟨h6, h⟩ | ⟨h6, h⟩
      · rcases cnd_some h with ⟨h7, h⟩ | ⟨h7, h⟩
        · replace h := Option.some.inj h
          obtain rfl := h
          refine pFun_by [.v (V.bool (y1_0)), .b false, .v (V.bool (y3_0)), .b false, .b false, .b true] rfl (And.intro (w_impl_within_int8 q1 k (by omega)) (And.intro (not_f h2) (And.intro (w_impl_isDeep_int16 q3 k (by omega)) (And.intro (not_f h4) (And.intro c5 (And.intro (not_f h6) (And.intro h7 trivial))))))) ?_
          kernel_rfl
        · obtain ⟨w, l14, h⟩ := bnd_some h
          rcases w with ⟨u14_0, u14_1, u14_2, u14_3, u14_4⟩ | u27_0
          · obtain ⟨w, l25, h⟩ := bnd_some h
            rcases w with ⟨⟩ | u26_0
            · replace h := Option.some.inj h
              obtain rfl := h
              refine pFun_by [.v (V.bool (y1_0)), .b false, .v (V.bool (y3_0)), .b false, .b false, .b false, .l .normal ⟨[(1, (V.ptr 3 0 (0) 21))], [(3, .box [(V.int .i8 (u14_0)), (V.int .i16 (u14_1)), (V.ints .i8 17 (u14_2)), (V.int .u32 (u14_3)), (V.sl (u14_4))])]⟩, .l .normal ⟨[], []⟩] rfl (And.intro (w_impl_within_int8 q1 k (by omega)) (And.intro (not_f h2) (And.intro (w_impl_isDeep_int16 q3 k (by omega)) (And.intro (not_f h4) (And.intro c5 (And.intro (not_f h6) (And.intro h7 (And.intro (lw_impl_ValidGutter_b0 _ _ _ _ _ _ _ _ _ l14 k k (by omega) (by omega)) (And.intro (lw_impl_ValidGutter_b2 _ _ _ _ _ _ _ _ _ _ l25 k k (by omega) (by omega)) trivial))))))))) ?_
              kernel_rfl
            · replace h := Option.some.inj h
              obtain rfl := h
              refine pFun_by [.v (V.bool (y1_0)), .b false, .v (V.bool (y3_0)), .b false, .b false, .b false, .l .normal ⟨[(1, (V.ptr 3 0 (0) 21))], [(3, .box [(V.int .i8 (u14_0)), (V.int .i16 (u14_1)), (V.ints .i8 17 (u14_2)), (V.int .u32 (u14_3)), (V.sl (u14_4))])]⟩, .l .ret ⟨[(2, (V.bool (u26_0)))], []⟩] rfl (And.intro (w_impl_within_int8 q1 k (by omega)) (And.intro (not_f h2) (And.intro (w_impl_isDeep_int16 q3 k (by omega)) (And.intro (not_f h4) (And.intro c5 (And.intro (not_f h6) (And.intro h7 (And.intro (lw_impl_ValidGutter_b0 _ _ _ _ _ _ _ _ _ l14 k k (by omega) (by omega)) (And.intro (lw_impl_ValidGutter_b2 _ _ _ _ _ _ _ _ _ _ l25 k k (by omega) (by omega)) trivial))))))))) ?_
              kernel_rfl
          · replace h := Option.some.inj h
            obtain rfl := h
            refine pFun_by [.v (V.bool (y1_0)), .b false, .v (V.bool (y3_0)), .b false, .b false, .b false, .l .ret ⟨[(2, (V.bool (u27_0)))], []⟩] rfl (And.intro (w_impl_within_int8 q1 k (by omega)) (And.intro (not_f h2) (And.intro (w_impl_isDeep_int16 q3 k (by omega)) (And.intro (not_f h4) (And.intro c5 (And.intro (not_f h6) (And.intro h7 (And.intro (lw_impl_ValidGutter_b0 _ _ _ _ _ _ _ _ _ l14 k k (by omega) (by omega)) trivial)))))))) ?_
            kernel_rfl
      · replace h := Option.some.inj h
        obtain rfl := h
        refine pFun_by [.v (V.bool (y1_0)), .b false, .v (V.bool (y3_0)), .b false, .b true, .b true] rfl (And.intro (w_impl_within_int8 q1 k (by omega)) (And.intro (not_f h2) (And.intro (w_impl_isDeep_int16 q3 k (by omega)) (And.intro (not_f h4) (And.intro c5 (And.intro (not_t h6) (And.intro (Eq.refl true) trivial))))))) ?_
        kernel_rfl
    · replace h := Option.some.inj h
      obtain rfl := h
      refine pFun_by [.v (V.bool (y1_0)), .b false, .v (V.bool (y3_0)), .b true, .b true, .b true] rfl (And.intro (w_impl_within_int8 q1 k (by omega)) (And.intro (not_f h2) (And.intro (w_impl_isDeep_int16 q3 k (by omega)) (And.intro (not_t h4) (And.intro (Eq.refl true) (And.intro (Eq.refl true) trivial)))))) ?_
      kernel_rfl
  · replace h := Option.some.inj h
    obtain rfl := h
    refine pFun_by [.v (V.bool (y1_0)), .b true, .b true, .b true, .b true] rfl (And.intro (w_impl_within_int8 q1 k (by omega)) (And.intro (not_t h2) (And.intro (Eq.refl true) (And.intro (Eq.refl true) (And.intro (Eq.refl true) trivial))))) ?_
    kernel_rfl
theorem w_impl_gutterCode {n : Nat} {a0 : Int} {a1 : Int} {a2 : Nat → Int} {a3 : Int} {a4 : List V} {a5 : Bool} {z0 : Int} (h : s_impl_gutterCode n a0 a1 a2 a3 a4 a5 = some z0) : ∀ k, n + 4 ≤ k → sem E k 109 [(V.parts [(V.int .i8 (a0)), (V.int .i16 (a1)), (V.ints .i8 17 (a2)), (V.int .u32 (a3)), (V.sl (a4))]), (V.bool (a5))] = some (V.int .i64 (z0)) := by
  intro k hk
  obtain ⟨k, rfl⟩ : ∃ q, k = q + 1 := ⟨k - 1, by omega⟩
  unfold s_impl_gutterCode at h
  obtain ⟨y1_0, q1, h⟩ := bnd_some h
  rcases cnd_some h with ⟨h2, h⟩ | ⟨h2, h⟩
  · rcases cnd_some h with ⟨h3, h⟩ | ⟨h3, h⟩
    · replace h := Option.some.inj h
      obtain rfl := h
      refine pFun_by [.v (V.bool (y1_0)), .b false, .b false] rfl (And.intro (w_impl_ValidGutter q1 k (by omega)) (And.intro (not_f h2) (And.intro (not_f h3) trivial))) ?_
      kernel_rfl
    · replace h := Option.some.inj h
      obtain rfl := h
      refine pFun_by [.v (V.bool (y1_0)), .b false, .b true] rfl (And.intro (w_impl_ValidGutter q1 k (by omega)) (And.intro (not_f h2) (And.intro (not_t h3) trivial))) ?_
      kernel_rfl
  · replace h := Option.some.inj h
    obtain rfl := h
    refine pFun_by [.v (V.bool (y1_0)), .b true] rfl (And.intro (w_impl_ValidGutter q1 k (by omega)) (And.intro (not_t h2) trivial)) ?_
    kernel_rfl
theorem w_slices_Clone_Simpl_Pipe_impl_Pipe {n : Nat} {a0 : List V} {z0 : List V} (h : s_slices_Clone_Simpl_Pipe_impl_Pipe n a0 = some z0) : ∀ k, n + 1 ≤ k → sem E k 93 [V.sl a0] = some (V.fresh 121 z0) := by
  intro k hk
  obtain ⟨k, rfl⟩ : ∃ q, k = q + 1 := ⟨k - 1, by omega⟩
  unfold s_slices_Clone_Simpl_Pipe_impl_Pipe at h
  obtain ⟨c1, h⟩ := chk_some h
  obtain ⟨c2, h⟩ := chk_some h
  replace h := Option.some.inj h
  obtain rfl := h
  cases a0 with
  | nil =>
    refine pCl_by rfl (And.intro (Eq.refl false) (And.intro c1 (And.intro c2 (And.intro (Eq.refl true) trivial)))) ?_
    kernel_rfl
  | cons x l =>
    refine pCl_by rfl (And.intro (Eq.refl false) (And.intro c1 (And.intro c2 (And.intro (Eq.refl true) trivial)))) ?_
    kernel_rfl
theorem w_impl_Gutter_own {n : Nat} {a0 : Int} {a1 : Int} {a2 : Nat → Int} {a3 : Int} {a4 : List V} {z0 : Int} {z1 : Int} {z2 : Nat → Int} {z3 : Int} {z4 : List V} (h : s_impl_Gutter_own n a0 a1 a2 a3 a4 = some (z0, z1, z2, z3, z4)) : ∀ k, n + 2 ≤ k → sem E k 124 [(V.parts [(V.int .i8 (a0)), (V.int .i16 (a1)), (V.ints .i8 17 (a2)), (V.int .u32 (a3)), (V.sl (a4))])] = some (V.parts [(V.int .i8 (z0)), (V.int .i16 (z1)), (V.ints .i8 17 (z2)), (V.int .u32 (z3)), (V.fresh 121 (z4))]) := by
  intro k hk
  obtain ⟨k, rfl⟩ : ∃ q, k = q + 1 := ⟨k - 1, by omega⟩
  unfold s_impl_Gutter_own at h
  obtain ⟨y1_0, q1, h⟩ := bnd_some h
  simp only [Option.some.injEq, Prod.mk.injEq] at h
  obtain ⟨rfl, rfl, rfl, rfl, rfl⟩ := h
  refine pFun_by [.v (V.fresh 121 (y1_0))] rfl (And.intro (w_slices_Clone_Simpl_Pipe_impl_Pipe q1 k (by omega)) trivial) ?_
  kernel_rfl
theorem lw_impl_upTo_b0 : ∀ (n : Nat) (a0 : Int) (a1 : Int) (a2 : List V) (r : List V), l_impl_upTo_b0 n a0 a1 a2 = some r → ∀ k m, n + 0 ≤ k → n ≤ m → LB E 189 0 k m ⟨[(3, (V.row 7)), (5, (V.int .i64 (a0))), (6, (V.int .i64 (a1)))], [(7, .row 3 (a2))]⟩ = some (match r with | o0 => (.normal, ⟨[(3, (V.row 7))], [(7, .row 3 (o0))]⟩)) := by
  intro n
  induction n with
  | zero => intro a0 a1 a2 r h; cases h
  | succ n ih =>
    intro a0 a1 a2 r h k m hk hm
    obtain ⟨m, rfl⟩ : ∃ q, m = q + 1 := ⟨m - 1, by omega⟩
    replace hk : n + 0 ≤ k := by omega
    unfold l_impl_upTo_b0 at h
    rcases cnd_some h with ⟨h1, h⟩ | ⟨h1, h⟩
    · obtain ⟨c2, h⟩ := chk_some h
      refine pNext_by [.b true] (And.intro h1 (And.intro c2 (And.intro (Eq.refl true) trivial))) (ih _ _ _ _ h k m hk (by omega)) ?_
      kernel_rfl
    · cases h
      refine pLast_by [.b false] (And.intro h1 trivial) ?_
      kernel_rfl
theorem w_impl_upTo {n : Nat} {a0 : Int} {z0 : List V} (h : s_impl_upTo n a0 = some z0) : ∀ k, n + 1 ≤ k → sem E k 189 [(V.int .i64 (a0))] = some (V.fresh 3 (z0)) := by
  intro k hk
  obtain ⟨k, rfl⟩ : ∃ q, k = q + 1 := ⟨k - 1, by omega⟩
  unfold s_impl_upTo at h
  obtain ⟨u3_0, l3, h⟩ := bnd_some h
  replace h := Option.some.inj h
  obtain rfl := h
  refine pFun_by [.l .normal ⟨[(3, (V.row 7))], [(7, .row 3 (u3_0))]⟩] rfl (And.intro (lw_impl_upTo_b0 _ _ _ _ _ l3 k k (by omega) (by omega)) trivial) ?_
  kernel_rfl
theorem w_impl_Gutter_cells {n : Nat} {a0 : Int} {a1 : Int} {a2 : Nat → Int} {a3 : Int} {a4 : List V} {z0 : List V} (h : s_impl_Gutter_cells n a0 a1 a2 a3 a4 = some z0) : ∀ k, n + 2 ≤ k → sem E k 103 [(V.parts [(V.int .i8 (a0)), (V.int .i16 (a1)), (V.ints .i8 17 (a2)), (V.int .u32 (a3)), (V.sl (a4))])] = some (V.fresh 3 (z0)) := by
  intro k hk
  obtain ⟨k, rfl⟩ : ∃ q, k = q + 1 := ⟨k - 1, by omega⟩
  unfold s_impl_Gutter_cells at h
  obtain ⟨y1_0, q1, h⟩ := bnd_some h
  replace h := Option.some.inj h
  obtain rfl := h
  refine pFun_by [.v (V.fresh 3 (y1_0))] rfl (And.intro (w_impl_upTo q1 k (by omega)) trivial) ?_
  kernel_rfl
theorem w_impl_Gutter_hasLeaves {n : Nat} {a0 : Int} {a1 : Int} {a2 : Nat → Int} {a3 : Int} {a4 : List V} {a5 : Int} {z0 : Bool} (h : s_impl_Gutter_hasLeaves n a0 a1 a2 a3 a4 a5 = some z0) : ∀ k, n + 1 ≤ k → sem E k 104 [(V.parts [(V.int .i8 (a0)), (V.int .i16 (a1)), (V.ints .i8 17 (a2)), (V.int .u32 (a3)), (V.sl (a4))]), (V.int .i64 (a5))] = some (V.bool (z0)) := by
  intro k hk
  obtain ⟨k, rfl⟩ : ∃ q, k = q + 1 := ⟨k - 1, by omega⟩
  unfold s_impl_Gutter_hasLeaves at h
  obtain ⟨c1, h⟩ := chk_some h
  replace h := Option.some.inj h
  obtain rfl := h
  refine pFun_by [] rfl (And.intro c1 trivial) ?_
  kernel_rfl
theorem w_impl_Gutter_hasPipe_1 {n : Nat} {a0 : Int} {a1 : Int} {a2 : Int} {z0 : Bool} (h : s_impl_Gutter_hasPipe_1 n a0 a1 a2 = some z0) : ∀ k, n + 1 ≤ k → sem E k 230 [(V.parts [(V.int .i8 (a0)), (V.int .i16 (a1))]), (V.ref [(V.int .i64 (a2))] 0 (0) 1)] = some (V.bool (z0)) := by
  intro k hk
  obtain ⟨k, rfl⟩ : ∃ q, k = q + 1 := ⟨k - 1, by omega⟩
  unfold s_impl_Gutter_hasPipe_1 at h
  replace h := Option.some.inj h
  obtain rfl := h
  refine pFun_by [] rfl trivial ?_
  kernel_rfl
theorem lw_slices_IndexFunc_Simpl_Pipe_impl_Pipe__Gutter_hasPipe_1_b0 : ∀ (n : Nat) (a0 : List V) (a1 : Int) (a2 : Int) (a3 : Int) (r : Sum (Unit) (Int)), l_slices_IndexFunc_Simpl_Pipe_impl_Pipe__Gutter_hasPipe_1_b0 n a0 a1 a2 a3 = some r → ∀ k m, n + 1 ≤ k → n ≤ m → LB E 253 0 k m ⟨[(0, (V.sl (a0))), (1, (V.clo 230 [(V.ref [(V.int .i64 (a1))] 0 (0) 1)])), (7, (V.int .i64 (a2))), (8, (V.int .i64 (a3)))], []⟩ = some (match r with | .inl _ => (.normal, ⟨[], []⟩) | .inr o0 => (.ret, ⟨[(4, (V.int .i64 (o0)))], []⟩)) := by
  intro n
  induction n with
  | zero => intro a0 a1 a2 a3 r h; cases h
  | succ n ih =>
    intro a0 a1 a2 a3 r h k m hk hm
    obtain ⟨m, rfl⟩ : ∃ q, m = q + 1 := ⟨m - 1, by omega⟩
    replace hk : n + 1 ≤ k := by omega
    unfold l_slices_IndexFunc_Simpl_Pipe_impl_Pipe__Gutter_hasPipe_1_b0 at h
    rcases cnd_some h with ⟨h1, h⟩ | ⟨h1, h⟩
    · obtain ⟨⟨e2_0, e2_1⟩, g2, h⟩ := bnd_some h
      replace g2 := as_Pi8_i16Q_some g2
      obtain ⟨y3_0, q3, h⟩ := bnd_some h
      rcases cnd_some h with ⟨h4, h⟩ | ⟨h4, h⟩
      · cases h
        refine pLast_by [.b true, .v (V.parts [(V.int .i8 (e2_0)), (V.int .i16 (e2_1))]), .v (V.bool (y3_0)), .b true] (And.intro h1 (And.intro g2 (And.intro (w_impl_Gutter_hasPipe_1 q3 k (by omega)) (And.intro h4 trivial)))) ?_
        kernel_rfl
      · refine pNext_by [.b true, .v (V.parts [(V.int .i8 (e2_0)), (V.int .i16 (e2_1))]), .v (V.bool (y3_0)), .b false] (And.intro h1 (And.intro g2 (And.intro (w_impl_Gutter_hasPipe_1 q3 k (by omega)) (And.intro h4 trivial)))) (ih _ _ _ _ _ h k m hk (by omega)) ?_
        kernel_rfl
    · cases h
      refine pLast_by [.b false] (And.intro h1 trivial) ?_
      kernel_rfl
theorem w_slices_IndexFunc_Simpl_Pipe_impl_Pipe__Gutter_hasPipe_1 {n : Nat} {a0 : List V} {a1 : Int} {z0 : Int} (h : s_slices_IndexFunc_Simpl_Pipe_impl_Pipe__Gutter_hasPipe_1 n a0 a1 = some z0) : ∀ k, n + 2 ≤ k → sem E k 253 [(V.sl (a0)), (V.clo 230 [(V.ref [(V.int .i64 (a1))] 0 (0) 1)])] = some (V.int .i64 (z0)) := by
  intro k hk
  obtain ⟨k, rfl⟩ : ∃ q, k = q + 1 := ⟨k - 1, by omega⟩
  unfold s_slices_IndexFunc_Simpl_Pipe_impl_Pipe__Gutter_hasPipe_1 at h
  obtain ⟨w, l5, h⟩ := bnd_some h
  rcases w with ⟨⟩ | u6_0
  · replace h := Option.some.inj h
    obtain rfl := h
    refine pFun_by [.l .normal ⟨[], []⟩] rfl (And.intro (lw_slices_IndexFunc_Simpl_Pipe_impl_Pipe__Gutter_hasPipe_1_b0 _ _ _ _ _ _ l5 k k (by omega) (by omega)) trivial) ?_
    kernel_rfl
  · replace h := Option.some.inj h
    obtain rfl := h
    refine pFun_by [.l .ret ⟨[(4, (V.int .i64 (u6_0)))], []⟩] rfl (And.intro (lw_slices_IndexFunc_Simpl_Pipe_impl_Pipe__Gutter_hasPipe_1_b0 _ _ _ _ _ _ l5 k k (by omega) (by omega)) trivial) ?_
    kernel_rfl
theorem w_slices_ContainsFunc_Simpl_Pipe_impl_Pipe__Gutter_hasPipe_1 {n : Nat} {a0 : List V} {a1 : Int} {z0 : Bool} (h : s_slices_ContainsFunc_Simpl_Pipe_impl_Pipe__Gutter_hasPipe_1 n a0 a1 = some z0) : ∀ k, n + 3 ≤ k → sem E k 229 [(V.sl (a0)), (V.clo 230 [(V.ref [(V.int .i64 (a1))] 0 (0) 1)])] = some (V.bool (z0)) := by
  intro k hk
  obtain ⟨k, rfl⟩ : ∃ q, k = q + 1 := ⟨k - 1, by omega⟩
  unfold s_slices_ContainsFunc_Simpl_Pipe_impl_Pipe__Gutter_hasPipe_1 at h
  obtain ⟨y1_0, q1, h⟩ := bnd_some h
  replace h := Option.some.inj h
  obtain rfl := h
  refine pFun_by [.v (V.int .i64 (y1_0))] rfl (And.intro (w_slices_IndexFunc_Simpl_Pipe_impl_Pipe__Gutter_hasPipe_1 q1 k (by omega)) trivial) ?_
  kernel_rfl
theorem w_impl_Gutter_hasPipe {n : Nat} {a0 : Int} {a1 : Int} {a2 : Nat → Int} {a3 : Int} {a4 : List V} {a5 : Int} {z0 : Bool} (h : s_impl_Gutter_hasPipe n a0 a1 a2 a3 a4 a5 = some z0) : ∀ k, n + 4 ≤ k → sem E k 192 [(V.parts [(V.int .i8 (a0)), (V.int .i16 (a1)), (V.ints .i8 17 (a2)), (V.int .u32 (a3)), (V.sl (a4))]), (V.int .i64 (a5))] = some (V.bool (z0)) := by
  intro k hk
  obtain ⟨k, rfl⟩ : ∃ q, k = q + 1 := ⟨k - 1, by omega⟩
  unfold s_impl_Gutter_hasPipe at h
  obtain ⟨y1_0, q1, h⟩ := bnd_some h
  replace h := Option.some.inj h
  obtain rfl := h
  refine pFun_by [.v (V.bool (y1_0))] rfl (And.intro (w_slices_ContainsFunc_Simpl_Pipe_impl_Pipe__Gutter_hasPipe_1 q1 k (by omega)) (And.intro (Eq.refl true) trivial)) ?_
  kernel_rfl
theorem w_impl_within_int {n : Nat} {a0 : Int} {a1 : Int} {a2 : Int} {z0 : Bool} (h : s_impl_within_int n a0 a1 a2 = some z0) : ∀ k, n + 1 ≤ k → sem E k 193 [(V.int .i64 (a0)), (V.int .i64 (a1)), (V.int .i64 (a2))] = some (V.bool (z0)) := by
  intro k hk
  obtain ⟨k, rfl⟩ : ∃ q, k = q + 1 := ⟨k - 1, by omega⟩
  unfold s_impl_within_int at h
  rcases cnd_some h with ⟨h1, h⟩ | ⟨h1, h⟩
  · replace h := Option.some.inj h
    obtain rfl := h
    refine pFun_by [.b true] rfl (And.intro h1 trivial) ?_
    kernel_rfl
  · replace h := Option.some.inj h
    obtain rfl := h
    refine pFun_by [.b false] rfl (And.intro h1 trivial) ?_
    kernel_rfl
theorem lw_impl_Gutter_flowsTo_b0 : ∀ (n : Nat) (a0 : Int) (a1 : Int) (a2 : Int) (a3 : Int) (a4 : Int) (a5 : Int) (a6 : Nat → Int) (a7 : Int) (a8 : List V) (a9 : List V) (r : Int), l_impl_Gutter_flowsTo_b0 n a0 a1 a2 a3 a4 a5 a6 a7 a8 a9 = some r → ∀ k m, n + 1 ≤ k → n ≤ m → LB E 115 0 k m ⟨[(1, (V.int .i64 (a0))), (2, (V.ptr 5 0 (0) 21)), (5, (V.int .i64 (a1))), (21, (V.row 43)), (22, (V.int .i64 (a2))), (23, (V.int .i64 (a3)))], [(5, .box [(V.int .i8 (a4)), (V.int .i16 (a5)), (V.ints .i8 17 (a6)), (V.int .u32 (a7)), (V.sl (a8))]), (43, .row 3 (a9))]⟩ = some (match r with | o0 => (.normal, ⟨[(5, (V.int .i64 (o0)))], []⟩)) := by
  intro n
  induction n with
  | zero => intro a0 a1 a2 a3 a4 a5 a6 a7 a8 a9 r h; cases h
  | succ n ih =>
    intro a0 a1 a2 a3 a4 a5 a6 a7 a8 a9 r h k m hk hm
    obtain ⟨m, rfl⟩ : ∃ q, m = q + 1 := ⟨m - 1, by omega⟩
    replace hk : n + 1 ≤ k := by omega
    unfold l_impl_Gutter_flowsTo_b0 at h
    rcases cnd_some h with ⟨h5, h⟩ | ⟨h5, h⟩
    · obtain ⟨c6, h⟩ := chk_some h
      obtain ⟨e7_0, g7, h⟩ := bnd_some h
      replace g7 := as_i64_some g7
      obtain ⟨y8_0, q8, h⟩ := bnd_some h
      rcases cnd_some h with ⟨h9, h⟩ | ⟨h9, h⟩
      · obtain ⟨c10, h⟩ := chk_some h
        obtain ⟨c11, h⟩ := chk_some h
        rcases cnd_some h with ⟨h12, h⟩ | ⟨h12, h⟩
        · rcases cnd_some h with ⟨h13, h⟩ | ⟨h13, h⟩
          · refine pNext_by [.b true, .v (V.int .i64 (e7_0)), .v (V.bool (y8_0)), .b true, .b true, .b true, .b true] (And.intro h5 (And.intro c6 (And.intro g7 (And.intro (w_impl_within_int q8 k (by omega)) (And.intro h9 (And.intro c10 (And.intro c11 (And.intro h12 (And.intro h13 (And.intro (Eq.refl true) trivial)))))))))) (ih _ _ _ _ _ _ _ _ _ _ _ h k m hk (by omega)) ?_
            kernel_rfl
          · obtain ⟨c14, h⟩ := chk_some h
            rcases cnd_some h with ⟨h15, h⟩ | ⟨h15, h⟩
            · refine pNext_by [.b true, .v (V.int .i64 (e7_0)), .v (V.bool (y8_0)), .b true, .b true, .b false, .b true] (And.intro h5 (And.intro c6 (And.intro g7 (And.intro (w_impl_within_int q8 k (by omega)) (And.intro h9 (And.intro c10 (And.intro c11 (And.intro h12 (And.intro h13 (And.intro c10 (And.intro c14 (And.intro h15 trivial)))))))))))) (ih _ _ _ _ _ _ _ _ _ _ _ h k m hk (by omega)) ?_
              kernel_rfl
            · refine pNext_by [.b true, .v (V.int .i64 (e7_0)), .v (V.bool (y8_0)), .b true, .b true, .b false, .b false] (And.intro h5 (And.intro c6 (And.intro g7 (And.intro (w_impl_within_int q8 k (by omega)) (And.intro h9 (And.intro c10 (And.intro c11 (And.intro h12 (And.intro h13 (And.intro c10 (And.intro c14 (And.intro h15 trivial)))))))))))) (ih _ _ _ _ _ _ _ _ _ _ _ h k m hk (by omega)) ?_
              kernel_rfl
        · refine pNext_by [.b true, .v (V.int .i64 (e7_0)), .v (V.bool (y8_0)), .b true, .b false, .b false] (And.intro h5 (And.intro c6 (And.intro g7 (And.intro (w_impl_within_int q8 k (by omega)) (And.intro h9 (And.intro c10 (And.intro c11 (And.intro h12 (And.intro (Eq.refl false) trivial))))))))) (ih _ _ _ _ _ _ _ _ _ _ _ h k m hk (by omega)) ?_
          kernel_rfl
      · refine pNext_by [.b true, .v (V.int .i64 (e7_0)), .v (V.bool (y8_0)), .b false, .b false, .b false] (And.intro h5 (And.intro c6 (And.intro g7 (And.intro (w_impl_within_int q8 k (by omega)) (And.intro h9 (And.intro (Eq.refl false) (And.intro (Eq.refl false) trivial))))))) (ih _ _ _ _ _ _ _ _ _ _ _ h k m hk (by omega)) ?_
        kernel_rfl
    · cases h
      refine pLast_by [.b false] (And.intro h5 trivial) ?_
      kernel_rfl
theorem w_impl_Gutter_flowsTo {n : Nat} {a0 : Int} {a1 : Int} {a2 : Nat → Int} {a3 : Int} {a4 : List V} {a5 : Int} {z0 : Int} (h : s_impl_Gutter_flowsTo n a0 a1 a2 a3 a4 a5 = some z0) : ∀ k, n + 5 ≤ k → sem E k 115 [(V.parts [(V.int .i8 (a0)), (V.int .i16 (a1)), (V.ints .i8 17 (a2)), (V.int .u32 (a3)), (V.sl (a4))]), (V.int .i64 (a5))] = some (V.int .i64 (z0)) := by
  intro k hk
  obtain ⟨k, rfl⟩ : ∃ q, k = q + 1 := ⟨k - 1, by omega⟩
  unfold s_impl_Gutter_flowsTo at h
  obtain ⟨y1_0, q1, h⟩ := bnd_some h
  rcases cnd_some h with ⟨h2, h⟩ | ⟨h2, h⟩
  · replace h := Option.some.inj h
    obtain rfl := h
    refine pFun_by [.v (V.bool (y1_0)), .b true, .b true] rfl (And.intro (w_impl_Gutter_hasLeaves q1 k (by omega)) (And.intro h2 (And.intro (Eq.refl true) trivial))) ?_
    kernel_rfl
  · obtain ⟨y3_0, q3, h⟩ := bnd_some h
    rcases cnd_some h with ⟨h4, h⟩ | ⟨h4, h⟩
    · replace h := Option.some.inj h
      obtain rfl := h
      refine pFun_by [.v (V.bool (y1_0)), .b false, .v (V.bool (y3_0)), .b true] rfl (And.intro (w_impl_Gutter_hasLeaves q1 k (by omega)) (And.intro h2 (And.intro (w_impl_Gutter_hasPipe q3 k (by omega)) (And.intro h4 trivial)))) ?_
      kernel_rfl
    · obtain ⟨u16_0, l16, h⟩ := bnd_some h
      replace h := Option.some.inj h
      obtain rfl := h
      refine pFun_by [.v (V.bool (y1_0)), .b false, .v (V.bool (y3_0)), .b false, .l .normal ⟨[(5, (V.int .i64 (u16_0)))], []⟩] rfl (And.intro (w_impl_Gutter_hasLeaves q1 k (by omega)) (And.intro h2 (And.intro (w_impl_Gutter_hasPipe q3 k (by omega)) (And.intro h4 (And.intro (lw_impl_Gutter_flowsTo_b0 _ _ _ _ _ _ _ _ _ _ _ _ l16 k k (by omega) (by omega)) trivial))))) ?_
      kernel_rfl
theorem lw_impl_Gutter_minute_b0 : ∀ (n : Nat) (a0 : List V) (a1 : Int) (a2 : Int) (a3 : Int) (a4 : Int) (a5 : Nat → Int) (a6 : Int) (a7 : List V) (a8 : Nat → Int) (a9 : Nat → Int) (r : Int × Int × (Nat → Int) × Int × List V × (Nat → Int) × (Nat → Int)), l_impl_Gutter_minute_b0 n a0 a1 a2 a3 a4 a5 a6 a7 a8 a9 = some r → ∀ k m, n + 0 ≤ k → n ≤ m → LB E 119 0 k m ⟨[(3, (V.ptr 7 0 (0) 21)), (4, (V.ptr 9 0 (0) 17)), (6, (V.ptr 13 0 (0) 17)), (23, (V.sl (a0))), (24, (V.int .i64 (a1))), (25, (V.int .i64 (a2)))], [(7, .box [(V.int .i8 (a3)), (V.int .i16 (a4)), (V.ints .i8 17 (a5)), (V.int .u32 (a6)), (V.sl (a7))]), (9, .box [(V.ints .i32 17 (a8))]), (13, .box [(V.ints .i32 17 (a9))])]⟩ = some (match r with | (o0, o1, o2, o3, o4, o5, o6) => (.normal, ⟨[(3, (V.ptr 7 0 (0) 21)), (4, (V.ptr 9 0 (0) 17)), (6, (V.ptr 13 0 (0) 17))], [(7, .box [(V.int .i8 (o0)), (V.int .i16 (o1)), (V.ints .i8 17 (o2)), (V.int .u32 (o3)), (V.sl (o4))]), (9, .box [(V.ints .i32 17 (o5))]), (13, .box [(V.ints .i32 17 (o6))])]⟩)) := by
  intro n
  induction n with
  | zero => intro a0 a1 a2 a3 a4 a5 a6 a7 a8 a9 r h; cases h
  | succ n ih =>
    intro a0 a1 a2 a3 a4 a5 a6 a7 a8 a9 r h k m hk hm
    obtain ⟨m, rfl⟩ : ∃ q, m = q + 1 := ⟨m - 1, by omega⟩
    replace hk : n + 0 ≤ k := by omega
    unfold l_impl_Gutter_minute_b0 at h
    rcases cnd_some h with ⟨h1, h⟩ | ⟨h1, h⟩
    · obtain ⟨e2_0, g2, h⟩ := bnd_some h
      replace g2 := as_i64_some g2
      obtain ⟨c3, h⟩ := chk_some h
      refine pNext_by [.b true, .v (V.int .i64 (e2_0))] (And.intro h1 (And.intro g2 (And.intro c3 (And.intro c3 trivial)))) (ih _ _ _ _ _ _ _ _ _ _ _ h k m hk (by omega)) ?_
      kernel_rfl
    · cases h
      refine pLast_by [.b false] (And.intro h1 trivial) ?_
      kernel_rfl
theorem lw_impl_Gutter_minute_b2 : ∀ (n : Nat) (a0 : Int) (a1 : Int) (a2 : List V) (a3 : Int) (a4 : Int) (a5 : Int) (a6 : Int) (a7 : Nat → Int) (a8 : Int) (a9 : List V) (a10 : Nat → Int) (a11 : Nat → Int) (r : Int × Int × Int × Int × (Nat → Int) × Int × List V × (Nat → Int) × (Nat → Int)), l_impl_Gutter_minute_b2 n a0 a1 a2 a3 a4 a5 a6 a7 a8 a9 a10 a11 = some r → ∀ k m, n + 0 ≤ k → n ≤ m → LB E 119 2 k m ⟨[(3, (V.ptr 7 0 (0) 21)), (4, (V.ptr 9 0 (0) 17)), (6, (V.ptr 13 0 (0) 17)), (11, (V.int .i64 (a0))), (12, (V.int .i64 (a1))), (39, (V.sl (a2))), (40, (V.int .i64 (a3))), (41, (V.int .i64 (a4)))], [(7, .box [(V.int .i8 (a5)), (V.int .i16 (a6)), (V.ints .i8 17 (a7)), (V.int .u32 (a8)), (V.sl (a9))]), (9, .box [(V.ints .i32 17 (a10))]), (13, .box [(V.ints .i32 17 (a11))])]⟩ = some (match r with | (o0, o1, o2, o3, o4, o5, o6, o7, o8) => (.normal, ⟨[(3, (V.ptr 7 0 (0) 21)), (4, (V.ptr 9 0 (0) 17)), (6, (V.ptr 13 0 (0) 17)), (11, (V.int .i64 (o0))), (12, (V.int .i64 (o1)))], [(7, .box [(V.int .i8 (o2)), (V.int .i16 (o3)), (V.ints .i8 17 (o4)), (V.int .u32 (o5)), (V.sl (o6))]), (9, .box [(V.ints .i32 17 (o7))]), (13, .box [(V.ints .i32 17 (o8))])]⟩)) := by
  intro n
  induction n with
  | zero => intro a0 a1 a2 a3 a4 a5 a6 a7 a8 a9 a10 a11 r h; cases h
  | succ n ih =>
    intro a0 a1 a2 a3 a4 a5 a6 a7 a8 a9 a10 a11 r h k m hk hm
    obtain ⟨m, rfl⟩ : ∃ q, m = q + 1 := ⟨m - 1, by omega⟩
    replace hk : n + 0 ≤ k := by omega
    unfold l_impl_Gutter_minute_b2 at h
    rcases cnd_some h with ⟨h6, h⟩ | ⟨h6, h⟩
    · obtain ⟨⟨e7_0, e7_1⟩, g7, h⟩ := bnd_some h
      replace g7 := as_Pi8_i16Q_some g7
      obtain ⟨c8, h⟩ := chk_some h
      refine pNext_by [.b true, .v (V.parts [(V.int .i8 (e7_0)), (V.int .i16 (e7_1))])] (And.intro h6 (And.intro g7 (And.intro c8 (And.intro c8 (And.intro c8 trivial))))) (ih _ _ _ _ _ _ _ _ _ _ _ _ _ h k m hk (by omega)) ?_
      kernel_rfl
    · cases h
      refine pLast_by [.b false] (And.intro h6 trivial) ?_
      kernel_rfl
theorem lw_impl_Gutter_minute_b4 : ∀ (n : Nat) (a0 : Int) (a1 : Int) (a2 : Int) (a3 : Int) (a4 : Int) (a5 : Int) (a6 : Nat → Int) (a7 : Int) (a8 : List V) (a9 : Nat → Int) (a10 : Nat → Int) (a11 : Nat → Int) (a12 : List V) (r : Int × Int × Int × Int × (Nat → Int) × Int × List V × (Nat → Int) × (Nat → Int)), l_impl_Gutter_minute_b4 n a0 a1 a2 a3 a4 a5 a6 a7 a8 a9 a10 a11 a12 = some r → ∀ k m, n + 5 ≤ k → n ≤ m → LB E 119 4 k m ⟨[(3, (V.ptr 7 0 (0) 21)), (4, (V.ptr 9 0 (0) 17)), (6, (V.ptr 13 0 (0) 17)), (11, (V.int .i64 (a0))), (12, (V.int .i64 (a1))), (16, (V.ptr 33 0 (0) 17)), (66, (V.row 133)), (67, (V.int .i64 (a2))), (68, (V.int .i64 (a3)))], [(7, .box [(V.int .i8 (a4)), (V.int .i16 (a5)), (V.ints .i8 17 (a6)), (V.int .u32 (a7)), (V.sl (a8))]), (9, .box [(V.ints .i32 17 (a9))]), (13, .box [(V.ints .i32 17 (a10))]), (33, .box [(V.ints .i32 17 (a11))]), (133, .row 3 (a12))]⟩ = some (match r with | (o0, o1, o2, o3, o4, o5, o6, o7, o8) => (.normal, ⟨[(3, (V.ptr 7 0 (0) 21)), (6, (V.ptr 13 0 (0) 17)), (11, (V.int .i64 (o0))), (12, (V.int .i64 (o1))), (16, (V.ptr 33 0 (0) 17))], [(7, .box [(V.int .i8 (o2)), (V.int .i16 (o3)), (V.ints .i8 17 (o4)), (V.int .u32 (o5)), (V.sl (o6))]), (13, .box [(V.ints .i32 17 (o7))]), (33, .box [(V.ints .i32 17 (o8))])]⟩)) := by
  intro n
  induction n with
  | zero => intro a0 a1 a2 a3 a4 a5 a6 a7 a8 a9 a10 a11 a12 r h; cases h
  | succ n ih =>
    intro a0 a1 a2 a3 a4 a5 a6 a7 a8 a9 a10 a11 a12 r h k m hk hm
    obtain ⟨m, rfl⟩ : ∃ q, m = q + 1 := ⟨m - 1, by omega⟩
    replace hk : n + 5 ≤ k := by omega
    unfold l_impl_Gutter_minute_b4 at h
    rcases cnd_some h with ⟨h12, h⟩ | ⟨h12, h⟩
    · obtain ⟨c13, h⟩ := chk_some h
      obtain ⟨e14_0, g14, h⟩ := bnd_some h
      replace g14 := as_i64_some g14
      obtain ⟨y15_0, q15, h⟩ := bnd_some h
      rcases cnd_some h with ⟨h16, h⟩ | ⟨h16, h⟩
      · obtain ⟨c17, h⟩ := chk_some h
        refine pNext_by [.b true, .v (V.int .i64 (e14_0)), .v (V.int .i64 (y15_0)), .b false] (And.intro h12 (And.intro c13 (And.intro g14 (And.intro (w_impl_Gutter_flowsTo q15 k (by omega)) (And.intro (not_f h16) (And.intro c17 (And.intro c17 (And.intro c17 trivial)))))))) (ih _ _ _ _ _ _ _ _ _ _ _ _ _ _ h k m hk (by omega)) ?_
        kernel_rfl
      · obtain ⟨c18, h⟩ := chk_some h
        obtain ⟨c19, h⟩ := chk_some h
        refine pNext_by [.b true, .v (V.int .i64 (e14_0)), .v (V.int .i64 (y15_0)), .b true] (And.intro h12 (And.intro c13 (And.intro g14 (And.intro (w_impl_Gutter_flowsTo q15 k (by omega)) (And.intro (not_t h16) (And.intro c18 (And.intro c19 (And.intro c18 trivial)))))))) (ih _ _ _ _ _ _ _ _ _ _ _ _ _ _ h k m hk (by omega)) ?_
        kernel_rfl
    · cases h
      refine pLast_by [.b false] (And.intro h12 trivial) ?_
      kernel_rfl
theorem lw_impl_Gutter_minute_b6 : ∀ (n : Nat) (a0 : Int) (a1 : Int) (a2 : Nat → Int) (a3 : Int) (a4 : Int) (a5 : Int) (a6 : Nat → Int) (a7 : Int) (a8 : List V) (a9 : Nat → Int) (a10 : Nat → Int) (r : Int × Int × (Nat → Int) × (Nat → Int)), l_impl_Gutter_minute_b6 n a0 a1 a2 a3 a4 a5 a6 a7 a8 a9 a10 = some r → ∀ k m, n + 5 ≤ k → n ≤ m → LB E 119 6 k m ⟨[(3, (V.ptr 7 0 (0) 21)), (6, (V.ptr 13 0 (0) 17)), (11, (V.int .i64 (a0))), (12, (V.int .i64 (a1))), (16, (V.ptr 33 0 (0) 17)), (94, (V.ints .i32 17 (a2))), (95, (V.int .i64 (a3)))], [(7, .box [(V.int .i8 (a4)), (V.int .i16 (a5)), (V.ints .i8 17 (a6)), (V.int .u32 (a7)), (V.sl (a8))]), (13, .box [(V.ints .i32 17 (a9))]), (33, .box [(V.ints .i32 17 (a10))])]⟩ = some (match r with | (o0, o1, o2, o3) => (.normal, ⟨[(6, (V.ptr 13 0 (0) 17)), (11, (V.int .i64 (o0))), (12, (V.int .i64 (o1))), (16, (V.ptr 33 0 (0) 17))], [(13, .box [(V.ints .i32 17 (o2))]), (33, .box [(V.ints .i32 17 (o3))])]⟩)) := by
  intro n
  induction n with
  | zero => intro a0 a1 a2 a3 a4 a5 a6 a7 a8 a9 a10 r h; cases h
  | succ n ih =>
    intro a0 a1 a2 a3 a4 a5 a6 a7 a8 a9 a10 r h k m hk hm
    obtain ⟨m, rfl⟩ : ∃ q, m = q + 1 := ⟨m - 1, by omega⟩
    replace hk : n + 5 ≤ k := by omega
    unfold l_impl_Gutter_minute_b6 at h
    rcases cnd_some h with ⟨h22, h⟩ | ⟨h22, h⟩
    · obtain ⟨c23, h⟩ := chk_some h
      rcases cnd_some h with ⟨h24, h⟩ | ⟨h24, h⟩
      · refine pNext_by [.b true, .b true] (And.intro h22 (And.intro c23 (And.intro h24 (And.intro c23 trivial)))) (ih _ _ _ _ _ _ _ _ _ _ _ _ h k m hk (by omega)) ?_
        kernel_rfl
      · refine pNext_by [.b true, .b false] (And.intro h22 (And.intro c23 (And.intro h24 trivial))) (ih _ _ _ _ _ _ _ _ _ _ _ _ h k m hk (by omega)) ?_
        kernel_rfl
    · cases h
      refine pLast_by [.b false] (And.intro h22 trivial) ?_
      kernel_rfl
theorem w_impl_Gutter_minute {n : Nat} {a0 : Int} {a1 : Int} {a2 : Nat → Int} {a3 : Int} {a4 : List V} {a5 : Nat → Int} {a6 : List V} {z0 : Nat → Int} {z1 : Int} {z2 : Int} (h : s_impl_Gutter_minute n a0 a1 a2 a3 a4 a5 a6 = some (z0, z1, z2)) : ∀ k, n + 6 ≤ k → sem E k 119 [(V.parts [(V.int .i8 (a0)), (V.int .i16 (a1)), (V.ints .i8 17 (a2)), (V.int .u32 (a3)), (V.sl (a4))]), (V.ints .i32 17 (a5)), (V.sl (a6))] = some (V.tup [(V.ints .i32 17 (z0)), (V.int .i64 (z1)), (V.int .i64 (z2))]) := by
  intro k hk
  obtain ⟨k, rfl⟩ : ∃ q, k = q + 1 := ⟨k - 1, by omega⟩
  unfold s_impl_Gutter_minute at h
  obtain ⟨⟨u4_0, u4_1, u4_2, u4_3, u4_4, u4_5, u4_6⟩, l4, h⟩ := bnd_some h
  obtain ⟨⟨u9_0, u9_1, u9_2, u9_3, u9_4, u9_5, u9_6, u9_7, u9_8⟩, l9, h⟩ := bnd_some h
  obtain ⟨y11_0, q11, h⟩ := bnd_some h
  obtain ⟨⟨u20_0, u20_1, u20_2, u20_3, u20_4, u20_5, u20_6, u20_7, u20_8⟩, l20, h⟩ := bnd_some h
  obtain ⟨⟨u25_0, u25_1, u25_2, u25_3⟩, l25, h⟩ := bnd_some h
  simp only [Option.some.injEq, Prod.mk.injEq] at h
  obtain ⟨rfl, rfl, rfl⟩ := h
  refine pFun_by [.l .normal ⟨[(3, (V.ptr 7 0 (0) 21)), (4, (V.ptr 9 0 (0) 17)), (6, (V.ptr 13 0 (0) 17))], [(7, .box [(V.int .i8 (u4_0)), (V.int .i16 (u4_1)), (V.ints .i8 17 (u4_2)), (V.int .u32 (u4_3)), (V.sl (u4_4))]), (9, .box [(V.ints .i32 17 (u4_5))]), (13, .box [(V.ints .i32 17 (u4_6))])]⟩, .l .normal ⟨[(3, (V.ptr 7 0 (0) 21)), (4, (V.ptr 9 0 (0) 17)), (6, (V.ptr 13 0 (0) 17)), (11, (V.int .i64 (u9_0))), (12, (V.int .i64 (u9_1)))], [(7, .box [(V.int .i8 (u9_2)), (V.int .i16 (u9_3)), (V.ints .i8 17 (u9_4)), (V.int .u32 (u9_5)), (V.sl (u9_6))]), (9, .box [(V.ints .i32 17 (u9_7))]), (13, .box [(V.ints .i32 17 (u9_8))])]⟩, .v (V.fresh 3 (y11_0)), .l .normal ⟨[(3, (V.ptr 7 0 (0) 21)), (6, (V.ptr 13 0 (0) 17)), (11, (V.int .i64 (u20_0))), (12, (V.int .i64 (u20_1))), (16, (V.ptr 33 0 (0) 17))], [(7, .box [(V.int .i8 (u20_2)), (V.int .i16 (u20_3)), (V.ints .i8 17 (u20_4)), (V.int .u32 (u20_5)), (V.sl (u20_6))]), (13, .box [(V.ints .i32 17 (u20_7))]), (33, .box [(V.ints .i32 17 (u20_8))])]⟩, .l .normal ⟨[(6, (V.ptr 13 0 (0) 17)), (11, (V.int .i64 (u25_0))), (12, (V.int .i64 (u25_1))), (16, (V.ptr 33 0 (0) 17))], [(13, .box [(V.ints .i32 17 (u25_2))]), (33, .box [(V.ints .i32 17 (u25_3))])]⟩] rfl (And.intro (lw_impl_Gutter_minute_b0 _ _ _ _ _ _ _ _ _ _ _ _ l4 k k (by omega) (by omega)) (And.intro (lw_impl_Gutter_minute_b2 _ _ _ _ _ _ _ _ _ _ _ _ _ _ l9 k k (by omega) (by omega)) (And.intro (w_impl_Gutter_cells q11 k (by omega)) (And.intro (lw_impl_Gutter_minute_b4 _ _ _ _ _ _ _ _ _ _ _ _ _ _ _ l20 k k (by omega) (by omega)) (And.intro (lw_impl_Gutter_minute_b6 _ _ _ _ _ _ _ _ _ _ _ _ _ l25 k k (by omega) (by omega)) trivial))))) ?_
  kernel_rfl
theorem lw_impl_Gutter_firstOver_b0 : ∀ (n : Nat) (a0 : List V) (a1 : Int) (a2 : Int) (a3 : Int) (a4 : Nat → Int) (a5 : Int) (a6 : List V) (a7 : Nat → Int) (r : Sum (Unit) (Int)), l_impl_Gutter_firstOver_b0 n a0 a1 a2 a3 a4 a5 a6 a7 = some r → ∀ k m, n + 6 ≤ k → n ≤ m → LB E 123 0 k m ⟨[(1, (V.sl (a0))), (2, (V.ptr 5 0 (0) 21)), (5, (V.ptr 11 0 (0) 17)), (10, (V.int .i64 (a1)))], [(5, .box [(V.int .i8 (a2)), (V.int .i16 (a3)), (V.ints .i8 17 (a4)), (V.int .u32 (a5)), (V.sl (a6))]), (11, .box [(V.ints .i32 17 (a7))])]⟩ = some (match r with | .inl _ => (.normal, ⟨[], []⟩) | .inr o0 => (.ret, ⟨[(4, (V.int .i64 (o0)))], []⟩)) := by
  intro n
  induction n with
  | zero => intro a0 a1 a2 a3 a4 a5 a6 a7 r h; cases h
  | succ n ih =>
    intro a0 a1 a2 a3 a4 a5 a6 a7 r h k m hk hm
    obtain ⟨m, rfl⟩ : ∃ q, m = q + 1 := ⟨m - 1, by omega⟩
    replace hk : n + 6 ≤ k := by omega
    unfold l_impl_Gutter_firstOver_b0 at h
    rcases cnd_some h with ⟨h1, h⟩ | ⟨h1, h⟩
    · obtain ⟨⟨y2_0, y2_1, y2_2⟩, q2, h⟩ := bnd_some h
      rcases cnd_some h with ⟨h3, h⟩ | ⟨h3, h⟩
      · cases h
        refine pLast_by [.b true, .v (V.tup [(V.ints .i32 17 (y2_0)), (V.int .i64 (y2_1)), (V.int .i64 (y2_2))]), .b true] (And.intro h1 (And.intro (w_impl_Gutter_minute q2 k (by omega)) (And.intro h3 trivial))) ?_
        kernel_rfl
      · refine pNext_by [.b true, .v (V.tup [(V.ints .i32 17 (y2_0)), (V.int .i64 (y2_1)), (V.int .i64 (y2_2))]), .b false] (And.intro h1 (And.intro (w_impl_Gutter_minute q2 k (by omega)) (And.intro h3 trivial))) (ih _ _ _ _ _ _ _ _ _ h k m hk (by omega)) ?_
        kernel_rfl
    · cases h
      refine pLast_by [.b false] (And.intro h1 trivial) ?_
      kernel_rfl
theorem w_impl_Gutter_firstOver {n : Nat} {a0 : Int} {a1 : Int} {a2 : Nat → Int} {a3 : Int} {a4 : List V} {a5 : List V} {z0 : Int} (h : s_impl_Gutter_firstOver n a0 a1 a2 a3 a4 a5 = some z0) : ∀ k, n + 7 ≤ k → sem E k 123 [(V.parts [(V.int .i8 (a0)), (V.int .i16 (a1)), (V.ints .i8 17 (a2)), (V.int .u32 (a3)), (V.sl (a4))]), (V.sl (a5))] = some (V.int .i64 (z0)) := by
  intro k hk
  obtain ⟨k, rfl⟩ : ∃ q, k = q + 1 := ⟨k - 1, by omega⟩
  unfold s_impl_Gutter_firstOver at h
  obtain ⟨w, l4, h⟩ := bnd_some h
  rcases w with ⟨⟩ | u5_0
  · replace h := Option.some.inj h
    obtain rfl := h
    refine pFun_by [.l .normal ⟨[], []⟩] rfl (And.intro (lw_impl_Gutter_firstOver_b0 _ _ _ _ _ _ _ _ _ _ l4 k k (by omega) (by omega)) trivial) ?_
    kernel_rfl
  · replace h := Option.some.inj h
    obtain rfl := h
    refine pFun_by [.l .ret ⟨[(4, (V.int .i64 (u5_0)))], []⟩] rfl (And.intro (lw_impl_Gutter_firstOver_b0 _ _ _ _ _ _ _ _ _ _ l4 k k (by omega) (by omega)) trivial) ?_
    kernel_rfl
theorem lw_impl_LeastTakes_b0 : ∀ (n : Nat) (a0 : List V) (a1 : Int) (a2 : Int) (a3 : Int) (a4 : Int) (a5 : Nat → Int) (a6 : Int) (a7 : List V) (r : Sum (Unit) (Int × Int)), l_impl_LeastTakes_b0 n a0 a1 a2 a3 a4 a5 a6 a7 = some r → ∀ k m, n + 7 ≤ k → n ≤ m → LB E 43 0 k m ⟨[(1, (V.sl (a0))), (2, (V.int .i64 (a1))), (9, (V.ptr 19 0 (0) 21)), (29, (V.int .i16 (a2)))], [(19, .box [(V.int .i8 (a3)), (V.int .i16 (a4)), (V.ints .i8 17 (a5)), (V.int .u32 (a6)), (V.row 19027)]), (19027, .row 121 (a7))]⟩ = some (match r with | .inl _ => (.normal, ⟨[], []⟩) | .inr (o0, o1) => (.ret, ⟨[(6, (V.int .i64 (o0))), (7, (V.int .i64 (o1)))], []⟩)) := by
  intro n
  induction n with
  | zero => intro a0 a1 a2 a3 a4 a5 a6 a7 r h; cases h
  | succ n ih =>
    intro a0 a1 a2 a3 a4 a5 a6 a7 r h k m hk hm
    obtain ⟨m, rfl⟩ : ∃ q, m = q + 1 := ⟨m - 1, by omega⟩
    replace hk : n + 7 ≤ k := by omega
    unfold l_impl_LeastTakes_b0 at h
    rcases cnd_some h with ⟨h7, h⟩ | ⟨h7, h⟩
    · obtain ⟨c8, h⟩ := chk_some h
      obtain ⟨⟨e9_0, e9_1⟩, g9, h⟩ := bnd_some h
      replace g9 := as_Pi8_i16Q_some g9
      obtain ⟨⟨e10_0, e10_1⟩, g10, h⟩ := bnd_some h
      replace g10 := as_Pi8_i16Q_some g10
      obtain ⟨y11_0, q11, h⟩ := bnd_some h
      rcases cnd_some h with ⟨h12, h⟩ | ⟨h12, h⟩
      · cases h
        refine pLast_by [.b true, .v (V.parts [(V.int .i8 (e9_0)), (V.int .i16 (e9_1))]), .v (V.parts [(V.int .i8 (e10_0)), (V.int .i16 (e10_1))]), .v (V.int .i64 (y11_0)), .b true] (And.intro h7 (And.intro c8 (And.intro g9 (And.intro g10 (And.intro (w_impl_Gutter_firstOver q11 k (by omega)) (And.intro (Eq.refl true) (And.intro h12 trivial))))))) ?_
        kernel_rfl
      · refine pNext_by [.b true, .v (V.parts [(V.int .i8 (e9_0)), (V.int .i16 (e9_1))]), .v (V.parts [(V.int .i8 (e10_0)), (V.int .i16 (e10_1))]), .v (V.int .i64 (y11_0)), .b false] (And.intro h7 (And.intro c8 (And.intro g9 (And.intro g10 (And.intro (w_impl_Gutter_firstOver q11 k (by omega)) (And.intro (Eq.refl true) (And.intro h12 trivial))))))) (ih _ _ _ _ _ _ _ _ _ h k m hk (by omega)) ?_
        kernel_rfl
    · cases h
      refine pLast_by [.b false] (And.intro h7 trivial) ?_
      kernel_rfl
theorem w_impl_LeastTakes {n : Nat} {a0 : Int} {a1 : Int} {a2 : Nat → Int} {a3 : Int} {a4 : List V} {a5 : List V} {a6 : Int} {z0 : Int} {z1 : Int} (h : s_impl_LeastTakes n a0 a1 a2 a3 a4 a5 a6 = some (z0, z1)) : ∀ k, n + 8 ≤ k → sem E k 43 [(V.parts [(V.int .i8 (a0)), (V.int .i16 (a1)), (V.ints .i8 17 (a2)), (V.int .u32 (a3)), (V.sl (a4))]), (V.sl (a5)), (V.int .i64 (a6))] = some (V.tup [(V.int .i64 (z0)), (V.int .i64 (z1))]) := by
  intro k hk
  obtain ⟨k, rfl⟩ : ∃ q, k = q + 1 := ⟨k - 1, by omega⟩
  unfold s_impl_LeastTakes at h
  obtain ⟨y1_0, q1, h⟩ := bnd_some h
  rcases cnd_some h with ⟨h2, h⟩ | ⟨h2, h⟩
  · obtain ⟨y3_0, q3, h⟩ := bnd_some h
    obtain ⟨y4_0, q4, h⟩ := bnd_some h
    rcases cnd_some h with ⟨h5, h⟩ | ⟨h5, h⟩
    · obtain ⟨⟨y6_0, y6_1, y6_2, y6_3, y6_4⟩, q6, h⟩ := bnd_some h
      obtain ⟨w, l13, h⟩ := bnd_some h
      rcases w with ⟨⟩ | ⟨u14_0, u14_1⟩
      · simp only [Option.some.injEq, Prod.mk.injEq] at h
        obtain ⟨rfl, rfl⟩ := h
        refine pFun_by [.v (V.bool (y1_0)), .b true, .v (V.bool (y3_0)), .v (V.int .i64 (y4_0)), .b false, .v (V.parts [(V.int .i8 (y6_0)), (V.int .i16 (y6_1)), (V.ints .i8 17 (y6_2)), (V.int .u32 (y6_3)), (V.fresh 121 (y6_4))]), .l .normal ⟨[], []⟩] rfl (And.intro (w_impl_Gutter_isRain q1 k (by omega)) (And.intro h2 (And.intro (w_impl_within_int64 q3 k (by omega)) (And.intro (w_impl_gutterCode q4 k (by omega)) (And.intro (not_f h5) (And.intro (w_impl_Gutter_own q6 k (by omega)) (And.intro (lw_impl_LeastTakes_b0 _ _ _ _ _ _ _ _ _ _ l13 k k (by omega) (by omega)) trivial))))))) ?_
        kernel_rfl
      · simp only [Option.some.injEq, Prod.mk.injEq] at h
        obtain ⟨rfl, rfl⟩ := h
        refine pFun_by [.v (V.bool (y1_0)), .b true, .v (V.bool (y3_0)), .v (V.int .i64 (y4_0)), .b false, .v (V.parts [(V.int .i8 (y6_0)), (V.int .i16 (y6_1)), (V.ints .i8 17 (y6_2)), (V.int .u32 (y6_3)), (V.fresh 121 (y6_4))]), .l .ret ⟨[(6, (V.int .i64 (u14_0))), (7, (V.int .i64 (u14_1)))], []⟩] rfl (And.intro (w_impl_Gutter_isRain q1 k (by omega)) (And.intro h2 (And.intro (w_impl_within_int64 q3 k (by omega)) (And.intro (w_impl_gutterCode q4 k (by omega)) (And.intro (not_f h5) (And.intro (w_impl_Gutter_own q6 k (by omega)) (And.intro (lw_impl_LeastTakes_b0 _ _ _ _ _ _ _ _ _ _ l13 k k (by omega) (by omega)) trivial))))))) ?_
        kernel_rfl
    · simp only [Option.some.injEq, Prod.mk.injEq] at h
      obtain ⟨rfl, rfl⟩ := h
      refine pFun_by [.v (V.bool (y1_0)), .b true, .v (V.bool (y3_0)), .v (V.int .i64 (y4_0)), .b true] rfl (And.intro (w_impl_Gutter_isRain q1 k (by omega)) (And.intro h2 (And.intro (w_impl_within_int64 q3 k (by omega)) (And.intro (w_impl_gutterCode q4 k (by omega)) (And.intro (not_t h5) trivial))))) ?_
      kernel_rfl
  · obtain ⟨y16_0, q16, h⟩ := bnd_some h
    rcases cnd_some h with ⟨h17, h⟩ | ⟨h17, h⟩
    · obtain ⟨⟨y18_0, y18_1, y18_2, y18_3, y18_4⟩, q18, h⟩ := bnd_some h
      obtain ⟨w, l19, h⟩ := bnd_some h
      rcases w with ⟨⟩ | ⟨u20_0, u20_1⟩
      · simp only [Option.some.injEq, Prod.mk.injEq] at h
        obtain ⟨rfl, rfl⟩ := h
        refine pFun_by [.v (V.bool (y1_0)), .b false, .v (V.int .i64 (y16_0)), .b false, .v (V.parts [(V.int .i8 (y18_0)), (V.int .i16 (y18_1)), (V.ints .i8 17 (y18_2)), (V.int .u32 (y18_3)), (V.fresh 121 (y18_4))]), .l .normal ⟨[], []⟩] rfl (And.intro (w_impl_Gutter_isRain q1 k (by omega)) (And.intro h2 (And.intro (w_impl_gutterCode q16 k (by omega)) (And.intro (not_f h17) (And.intro (w_impl_Gutter_own q18 k (by omega)) (And.intro (lw_impl_LeastTakes_b0 _ _ _ _ _ _ _ _ _ _ l19 k k (by omega) (by omega)) trivial)))))) ?_
        kernel_rfl
      · simp only [Option.some.injEq, Prod.mk.injEq] at h
        obtain ⟨rfl, rfl⟩ := h
        refine pFun_by [.v (V.bool (y1_0)), .b false, .v (V.int .i64 (y16_0)), .b false, .v (V.parts [(V.int .i8 (y18_0)), (V.int .i16 (y18_1)), (V.ints .i8 17 (y18_2)), (V.int .u32 (y18_3)), (V.fresh 121 (y18_4))]), .l .ret ⟨[(6, (V.int .i64 (u20_0))), (7, (V.int .i64 (u20_1)))], []⟩] rfl (And.intro (w_impl_Gutter_isRain q1 k (by omega)) (And.intro h2 (And.intro (w_impl_gutterCode q16 k (by omega)) (And.intro (not_f h17) (And.intro (w_impl_Gutter_own q18 k (by omega)) (And.intro (lw_impl_LeastTakes_b0 _ _ _ _ _ _ _ _ _ _ l19 k k (by omega) (by omega)) trivial)))))) ?_
        kernel_rfl
    · simp only [Option.some.injEq, Prod.mk.injEq] at h
      obtain ⟨rfl, rfl⟩ := h
      refine pFun_by [.v (V.bool (y1_0)), .b false, .v (V.int .i64 (y16_0)), .b true] rfl (And.intro (w_impl_Gutter_isRain q1 k (by omega)) (And.intro h2 (And.intro (w_impl_gutterCode q16 k (by omega)) (And.intro (not_t h17) trivial)))) ?_
      kernel_rfl
theorem lw_laws_eqInt8A17_b0 : ∀ (n : Nat) (a0 : Int) (a1 : Nat → Int) (a2 : Nat → Int) (r : Sum (Unit) (Bool)), l_laws_eqInt8A17_b0 n a0 a1 a2 = some r → ∀ k m, n + 0 ≤ k → n ≤ m → LB E 98 0 k m ⟨[(2, (V.ptr 5 0 (0) 17)), (3, (V.ptr 7 0 (0) 17)), (5, (V.int .i64 (a0)))], [(5, .box [(V.ints .i8 17 (a1))]), (7, .box [(V.ints .i8 17 (a2))])]⟩ = some (match r with | .inl _ => (.normal, ⟨[], []⟩) | .inr o0 => (.ret, ⟨[(4, (V.bool (o0)))], []⟩)) := by
  intro n
  induction n with
  | zero => intro a0 a1 a2 r h; cases h
  | succ n ih =>
    intro a0 a1 a2 r h k m hk hm
    obtain ⟨m, rfl⟩ : ∃ q, m = q + 1 := ⟨m - 1, by omega⟩
    replace hk : n + 0 ≤ k := by omega
    unfold l_laws_eqInt8A17_b0 at h
    rcases cnd_some h with ⟨h1, h⟩ | ⟨h1, h⟩
    · obtain ⟨c2, h⟩ := chk_some h
      rcases cnd_some h with ⟨h3, h⟩ | ⟨h3, h⟩
      · refine pNext_by [.b true, .b false] (And.intro h1 (And.intro c2 (And.intro c2 (And.intro (not_f h3) trivial)))) (ih _ _ _ _ h k m hk (by omega)) ?_
        kernel_rfl
      · cases h
        refine pLast_by [.b true, .b true] (And.intro h1 (And.intro c2 (And.intro c2 (And.intro (not_t h3) trivial)))) ?_
        kernel_rfl
    · cases h
      refine pLast_by [.b false] (And.intro h1 trivial) ?_
      kernel_rfl
theorem w_laws_eqInt8A17 {n : Nat} {a0 : Nat → Int} {a1 : Nat → Int} {z0 : Bool} (h : s_laws_eqInt8A17 n a0 a1 = some z0) : ∀ k, n + 1 ≤ k → sem E k 98 [(V.ints .i8 17 (a0)), (V.ints .i8 17 (a1))] = some (V.bool (z0)) := by
  intro k hk
  obtain ⟨k, rfl⟩ : ∃ q, k = q + 1 := ⟨k - 1, by omega⟩
  unfold s_laws_eqInt8A17 at h
  obtain ⟨w, l4, h⟩ := bnd_some h
  rcases w with ⟨⟩ | u5_0
  · replace h := Option.some.inj h
    obtain rfl := h
    refine pFun_by [.l .normal ⟨[], []⟩] rfl (And.intro (lw_laws_eqInt8A17_b0 _ _ _ _ _ l4 k k (by omega) (by omega)) trivial) ?_
    kernel_rfl
  · replace h := Option.some.inj h
    obtain rfl := h
    refine pFun_by [.l .ret ⟨[(4, (V.bool (u5_0)))], []⟩] rfl (And.intro (lw_laws_eqInt8A17_b0 _ _ _ _ _ l4 k k (by omega) (by omega)) trivial) ?_
    kernel_rfl
theorem w_laws_eqPipe {n : Nat} {a0 : Int} {a1 : Int} {a2 : Int} {a3 : Int} {z0 : Bool} (h : s_laws_eqPipe n a0 a1 a2 a3 = some z0) : ∀ k, n + 1 ≤ k → sem E k 99 [(V.parts [(V.int .i8 (a0)), (V.int .i16 (a1))]), (V.parts [(V.int .i8 (a2)), (V.int .i16 (a3))])] = some (V.bool (z0)) := by
  intro k hk
  obtain ⟨k, rfl⟩ : ∃ q, k = q + 1 := ⟨k - 1, by omega⟩
  unfold s_laws_eqPipe at h
  rcases cnd_some h with ⟨h1, h⟩ | ⟨h1, h⟩
  · rcases cnd_some h with ⟨h2, h⟩ | ⟨h2, h⟩
    · replace h := Option.some.inj h
      obtain rfl := h
      refine pFun_by [.b false, .b false] rfl (And.intro (not_f h1) (And.intro (not_f h2) trivial)) ?_
      kernel_rfl
    · replace h := Option.some.inj h
      obtain rfl := h
      refine pFun_by [.b false, .b true] rfl (And.intro (not_f h1) (And.intro (not_t h2) trivial)) ?_
      kernel_rfl
  · replace h := Option.some.inj h
    obtain rfl := h
    refine pFun_by [.b true] rfl (And.intro (not_t h1) trivial) ?_
    kernel_rfl
theorem lw_laws_eqPipeS_b0 : ∀ (n : Nat) (a0 : List V) (a1 : List V) (a2 : Int) (r : Sum (Unit) (Bool)), l_laws_eqPipeS_b0 n a0 a1 a2 = some r → ∀ k m, n + 1 ≤ k → n ≤ m → LB E 21 0 k m ⟨[(0, (V.sl (a0))), (1, (V.sl (a1))), (5, (V.int .i64 (a2)))], []⟩ = some (match r with | .inl _ => (.normal, ⟨[], []⟩) | .inr o0 => (.ret, ⟨[(4, (V.bool (o0)))], []⟩)) := by
  intro n
  induction n with
  | zero => intro a0 a1 a2 r h; cases h
  | succ n ih =>
    intro a0 a1 a2 r h k m hk hm
    obtain ⟨m, rfl⟩ : ∃ q, m = q + 1 := ⟨m - 1, by omega⟩
    replace hk : n + 1 ≤ k := by omega
    unfold l_laws_eqPipeS_b0 at h
    rcases cnd_some h with ⟨h2, h⟩ | ⟨h2, h⟩
    · obtain ⟨⟨e3_0, e3_1⟩, g3, h⟩ := bnd_some h
      replace g3 := as_Pi8_i16Q_some g3
      obtain ⟨⟨e4_0, e4_1⟩, g4, h⟩ := bnd_some h
      replace g4 := as_Pi8_i16Q_some g4
      obtain ⟨y5_0, q5, h⟩ := bnd_some h
      rcases cnd_some h with ⟨h6, h⟩ | ⟨h6, h⟩
      · refine pNext_by [.b true, .v (V.parts [(V.int .i8 (e3_0)), (V.int .i16 (e3_1))]), .v (V.parts [(V.int .i8 (e4_0)), (V.int .i16 (e4_1))]), .v (V.bool (y5_0)), .b false] (And.intro h2 (And.intro g3 (And.intro g4 (And.intro (w_laws_eqPipe q5 k (by omega)) (And.intro (not_f h6) trivial))))) (ih _ _ _ _ h k m hk (by omega)) ?_
        kernel_rfl
      · cases h
        refine pLast_by [.b true, .v (V.parts [(V.int .i8 (e3_0)), (V.int .i16 (e3_1))]), .v (V.parts [(V.int .i8 (e4_0)), (V.int .i16 (e4_1))]), .v (V.bool (y5_0)), .b true] (And.intro h2 (And.intro g3 (And.intro g4 (And.intro (w_laws_eqPipe q5 k (by omega)) (And.intro (not_t h6) trivial))))) ?_
        kernel_rfl
    · cases h
      refine pLast_by [.b false] (And.intro h2 trivial) ?_
      kernel_rfl
theorem w_laws_eqPipeS {n : Nat} {a0 : List V} {a1 : List V} {z0 : Bool} (h : s_laws_eqPipeS n a0 a1 = some z0) : ∀ k, n + 2 ≤ k → sem E k 21 [(V.sl (a0)), (V.sl (a1))] = some (V.bool (z0)) := by
  intro k hk
  obtain ⟨k, rfl⟩ : ∃ q, k = q + 1 := ⟨k - 1, by omega⟩
  unfold s_laws_eqPipeS at h
  rcases cnd_some h with ⟨h1, h⟩ | ⟨h1, h⟩
  · obtain ⟨w, l7, h⟩ := bnd_some h
    rcases w with ⟨⟩ | u8_0
    · replace h := Option.some.inj h
      obtain rfl := h
      refine pFun_by [.b false, .l .normal ⟨[], []⟩] rfl (And.intro (not_f h1) (And.intro (lw_laws_eqPipeS_b0 _ _ _ _ _ l7 k k (by omega) (by omega)) trivial)) ?_
      kernel_rfl
    · replace h := Option.some.inj h
      obtain rfl := h
      refine pFun_by [.b false, .l .ret ⟨[(4, (V.bool (u8_0)))], []⟩] rfl (And.intro (not_f h1) (And.intro (lw_laws_eqPipeS_b0 _ _ _ _ _ l7 k k (by omega) (by omega)) trivial)) ?_
      kernel_rfl
  · replace h := Option.some.inj h
    obtain rfl := h
    refine pFun_by [.b true] rfl (And.intro (not_t h1) trivial) ?_
    kernel_rfl
theorem w_laws_eqGutter {n : Nat} {a0 : Int} {a1 : Int} {a2 : Nat → Int} {a3 : Int} {a4 : List V} {a5 : Int} {a6 : Int} {a7 : Nat → Int} {a8 : Int} {a9 : List V} {z0 : Bool} (h : s_laws_eqGutter n a0 a1 a2 a3 a4 a5 a6 a7 a8 a9 = some z0) : ∀ k, n + 3 ≤ k → sem E k 20 [(V.parts [(V.int .i8 (a0)), (V.int .i16 (a1)), (V.ints .i8 17 (a2)), (V.int .u32 (a3)), (V.sl (a4))]), (V.parts [(V.int .i8 (a5)), (V.int .i16 (a6)), (V.ints .i8 17 (a7)), (V.int .u32 (a8)), (V.sl (a9))])] = some (V.bool (z0)) := by
  intro k hk
  obtain ⟨k, rfl⟩ : ∃ q, k = q + 1 := ⟨k - 1, by omega⟩
  unfold s_laws_eqGutter at h
  rcases cnd_some h with ⟨h1, h⟩ | ⟨h1, h⟩
  · rcases cnd_some h with ⟨h2, h⟩ | ⟨h2, h⟩
    · obtain ⟨y3_0, q3, h⟩ := bnd_some h
      rcases cnd_some h with ⟨h4, h⟩ | ⟨h4, h⟩
      · rcases cnd_some h with ⟨h5, h⟩ | ⟨h5, h⟩
        · obtain ⟨y6_0, q6, h⟩ := bnd_some h
          rcases cnd_some h with ⟨h7, h⟩ | ⟨h7, h⟩
          · replace h := Option.some.inj h
            obtain rfl := h
            refine pFun_by [.b false, .b false, .v (V.bool (y3_0)), .b false, .b false, .v (V.bool (y6_0)), .b false] rfl (And.intro (not_f h1) (And.intro (not_f h2) (And.intro (w_laws_eqInt8A17 q3 k (by omega)) (And.intro (not_f h4) (And.intro (not_f h5) (And.intro (w_laws_eqPipeS q6 k (by omega)) (And.intro (not_f h7) trivial))))))) ?_
            kernel_rfl
          · replace h := Option.some.inj h
            obtain rfl := h
            refine pFun_by [.b false, .b false, .v (V.bool (y3_0)), .b false, .b false, .v (V.bool (y6_0)), .b true] rfl (And.intro (not_f h1) (And.intro (not_f h2) (And.intro (w_laws_eqInt8A17 q3 k (by omega)) (And.intro (not_f h4) (And.intro (not_f h5) (And.intro (w_laws_eqPipeS q6 k (by omega)) (And.intro (not_t h7) trivial))))))) ?_
            kernel_rfl
        · replace h := Option.some.inj h
          obtain rfl := h
          refine pFun_by [.b false, .b false, .v (V.bool (y3_0)), .b false, .b true] rfl (And.intro (not_f h1) (And.intro (not_f h2) (And.intro (w_laws_eqInt8A17 q3 k (by omega)) (And.intro (not_f h4) (And.intro (not_t h5) trivial))))) ?_
          kernel_rfl
      · replace h := Option.some.inj h
        obtain rfl := h
        refine pFun_by [.b false, .b false, .v (V.bool (y3_0)), .b true] rfl (And.intro (not_f h1) (And.intro (not_f h2) (And.intro (w_laws_eqInt8A17 q3 k (by omega)) (And.intro (not_t h4) trivial)))) ?_
        kernel_rfl
    · replace h := Option.some.inj h
      obtain rfl := h
      refine pFun_by [.b false, .b true] rfl (And.intro (not_f h1) (And.intro (not_t h2) trivial)) ?_
      kernel_rfl
  · replace h := Option.some.inj h
    obtain rfl := h
    refine pFun_by [.b true] rfl (And.intro (not_t h1) trivial) ?_
    kernel_rfl
end Go.Proofs.Ytdhcfdiggcgmhaa
