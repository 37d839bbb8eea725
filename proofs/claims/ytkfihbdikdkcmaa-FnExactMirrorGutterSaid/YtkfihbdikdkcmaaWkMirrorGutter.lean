/- The program goes as the shallow texts tell: printed by gen.py. -/
import Derived.Test.YtkfihbdikdkcmaaEnvA
import Derived.Test.YtkfihbdikdkcmaaSh1
import Derived.Test.YtkfihbdikdkcmaaSh3
import Derived.Test.YtkfihbdikdkcmaaSh5
import Derived.Test.YtkfihbdikdkcmaaSh9
import Derived.Test.YtkfihbdikdkcmaaShB
namespace Go.Proofs.Ytkfihbdikdkcmaa
open Go
set_option linter.unusedVariables false
set_option linter.unusedSimpArgs false
set_option maxRecDepth 100000
set_option maxHeartbeats 4000000
theorem w_laws_szPipeS {n : Nat} {a0 : List V} {a1 : Int} {z0 : Int} (h : s_laws_szPipeS n a0 a1 = some z0) : ∀ k, n + 1 ≤ k → sem E k 11 [(V.sl (a0)), (V.int .i64 (a1))] = some (V.int .i64 (z0)) := by
  intro k hk
  obtain ⟨k, rfl⟩ : ∃ q, k = q + 1 := ⟨k - 1, by omega⟩
  unfold s_laws_szPipeS at h
  rcases cnd_some h with ⟨h1, h⟩ | ⟨h1, h⟩
  · replace h := Option.some.inj h
    obtain rfl := h
    refine pFun_by [.b true] rfl (And.intro h1 trivial) ?_
    kernel_rfl
  · replace h := Option.some.inj h
    obtain rfl := h
    refine pFun_by [.b false] rfl (And.intro h1 trivial) ?_
    kernel_rfl
theorem w_laws_szGutter {n : Nat} {a0 : Int} {a1 : Int} {a2 : Nat → Int} {a3 : Int} {a4 : List V} {a5 : Int} {z0 : Int} (h : s_laws_szGutter n a0 a1 a2 a3 a4 a5 = some z0) : ∀ k, n + 2 ≤ k → sem E k 4 [(V.parts [(V.int .i8 (a0)), (V.int .i16 (a1)), (V.ints .i8 17 (a2)), (V.int .u32 (a3)), (V.sl (a4))]), (V.int .i64 (a5))] = some (V.int .i64 (z0)) := by
  intro k hk
  obtain ⟨k, rfl⟩ : ∃ q, k = q + 1 := ⟨k - 1, by omega⟩
  unfold s_laws_szGutter at h
  obtain ⟨y1_0, q1, h⟩ := bnd_some h
  rcases cnd_some h with ⟨h2, h⟩ | ⟨h2, h⟩
  · replace h := Option.some.inj h
    obtain rfl := h
    refine pFun_by [.v (V.int .i64 (y1_0)), .b true] rfl (And.intro (w_laws_szPipeS q1 k (by omega)) (And.intro h2 trivial)) ?_
    kernel_rfl
  · replace h := Option.some.inj h
    obtain rfl := h
    refine pFun_by [.v (V.int .i64 (y1_0)), .b false] rfl (And.intro (w_laws_szPipeS q1 k (by omega)) (And.intro h2 trivial)) ?_
    kernel_rfl
theorem lw_laws_toInt8A17_b0 : ∀ (n : Nat) (a0 : Int) (a1 : Nat → Int) (a2 : Nat → Int) (a3 : Nat → Int) (r : (Nat → Int) × (Nat → Int)), l_laws_toInt8A17_b0 n a0 a1 a2 a3 = some r → ∀ k m, n + 0 ≤ k → n ≤ m → LB E 14 0 k m ⟨[(1, (V.ptr 3 0 (0) 17)), (2, (V.ptr 5 0 (0) 17)), (3, (V.ptr 7 0 (0) 17)), (4, (V.int .i64 (a0)))], [(3, .box [(V.ints .i8 17 (a1))]), (5, .box [(V.ints .i8 17 (a2))]), (7, .box [(V.ints .i8 17 (a3))])]⟩ = some (match r with | (o0, o1) => (.normal, ⟨[(2, (V.ptr 5 0 (0) 17)), (3, (V.ptr 7 0 (0) 17))], [(5, .box [(V.ints .i8 17 (o0))]), (7, .box [(V.ints .i8 17 (o1))])]⟩)) := by
  intro n
  induction n with
  | zero => intro a0 a1 a2 a3 r h; cases h
  | succ n ih =>
    intro a0 a1 a2 a3 r h k m hk hm
    obtain ⟨m, rfl⟩ : ∃ q, m = q + 1 := ⟨m - 1, by omega⟩
    replace hk : n + 0 ≤ k := by omega
    unfold l_laws_toInt8A17_b0 at h
    rcases cnd_some h with ⟨h1, h⟩ | ⟨h1, h⟩
    · obtain ⟨c2, h⟩ := chk_some h
      refine pNext_by [.b true] (And.intro h1 (And.intro c2 (And.intro c2 trivial))) (ih _ _ _ _ _ h k m hk (by omega)) ?_
      kernel_rfl
    · cases h
      refine pLast_by [.b false] (And.intro h1 trivial) ?_
      kernel_rfl
theorem w_laws_toInt8A17 {n : Nat} {a0 : Nat → Int} {z0 : Nat → Int} (h : s_laws_toInt8A17 n a0 = some z0) : ∀ k, n + 1 ≤ k → sem E k 14 [(V.ints .i8 17 (a0))] = some (V.ints .i8 17 (z0)) := by
  intro k hk
  obtain ⟨k, rfl⟩ : ∃ q, k = q + 1 := ⟨k - 1, by omega⟩
  unfold s_laws_toInt8A17 at h
  obtain ⟨⟨u3_0, u3_1⟩, l3, h⟩ := bnd_some h
  replace h := Option.some.inj h
  obtain rfl := h
  refine pFun_by [.l .normal ⟨[(2, (V.ptr 5 0 (0) 17)), (3, (V.ptr 7 0 (0) 17))], [(5, .box [(V.ints .i8 17 (u3_0))]), (7, .box [(V.ints .i8 17 (u3_1))])]⟩] rfl (And.intro (lw_laws_toInt8A17_b0 _ _ _ _ _ _ l3 k k (by omega) (by omega)) trivial) ?_
  kernel_rfl
theorem w_laws_toPipe {n : Nat} {a0 : Int} {a1 : Int} {z0 : Int} {z1 : Int} (h : s_laws_toPipe n a0 a1 = some (z0, z1)) : ∀ k, n + 1 ≤ k → sem E k 26 [(V.parts [(V.int .i8 (a0)), (V.int .i16 (a1))])] = some (V.parts [(V.int .i8 (z0)), (V.int .i16 (z1))]) := by
  intro k hk
  obtain ⟨k, rfl⟩ : ∃ q, k = q + 1 := ⟨k - 1, by omega⟩
  unfold s_laws_toPipe at h
  simp only [Option.some.injEq, Prod.mk.injEq] at h
  obtain ⟨rfl, rfl⟩ := h
  refine pFun_by [] rfl trivial ?_
  kernel_rfl
theorem lw_laws_toPipeS_b0 : ∀ (n : Nat) (a0 : List V) (a1 : Int) (a2 : List V) (r : List V), l_laws_toPipeS_b0 n a0 a1 a2 = some r → ∀ k m, n + 1 ≤ k → n ≤ m → LB E 15 0 k m ⟨[(0, (V.sl (a0))), (3, (V.row 7)), (4, (V.int .i64 (a1)))], [(7, .row 45 (a2))]⟩ = some (match r with | o0 => (.normal, ⟨[(3, (V.row 7))], [(7, .row 45 (o0))]⟩)) := by
  intro n
  induction n with
  | zero => intro a0 a1 a2 r h; cases h
  | succ n ih =>
    intro a0 a1 a2 r h k m hk hm
    obtain ⟨m, rfl⟩ : ∃ q, m = q + 1 := ⟨m - 1, by omega⟩
    replace hk : n + 1 ≤ k := by omega
    unfold l_laws_toPipeS_b0 at h
    rcases cnd_some h with ⟨h2, h⟩ | ⟨h2, h⟩
    · obtain ⟨⟨e3_0, e3_1⟩, g3, h⟩ := bnd_some h
      replace g3 := as_Pi8_i16Q_some g3
      obtain ⟨⟨y4_0, y4_1⟩, q4, h⟩ := bnd_some h
      obtain ⟨c5, h⟩ := chk_some h
      obtain ⟨⟨e6_0, e6_1⟩, g6, h⟩ := bnd_some h
      replace g6 := as_Pi8_i16Q_some g6
      refine pNext_by [.b true, .v (V.parts [(V.int .i8 (e3_0)), (V.int .i16 (e3_1))]), .v (V.parts [(V.int .i8 (y4_0)), (V.int .i16 (y4_1))]), .v (V.parts [(V.int .i8 (e6_0)), (V.int .i16 (e6_1))])] (And.intro h2 (And.intro g3 (And.intro (w_laws_toPipe q4 k (by omega)) (And.intro c5 (And.intro g6 trivial))))) (ih _ _ _ _ h k m hk (by omega)) ?_
      kernel_rfl
    · cases h
      refine pLast_by [.b false] (And.intro h2 trivial) ?_
      kernel_rfl
theorem w_laws_toPipeS {n : Nat} {a0 : List V} {z0 : List V} (h : s_laws_toPipeS n a0 = some z0) : ∀ k, n + 2 ≤ k → sem E k 15 [(V.sl (a0))] = some (V.fresh 45 (z0)) := by
  intro k hk
  obtain ⟨k, rfl⟩ : ∃ q, k = q + 1 := ⟨k - 1, by omega⟩
  unfold s_laws_toPipeS at h
  obtain ⟨c1, h⟩ := chk_some h
  obtain ⟨u7_0, l7, h⟩ := bnd_some h
  replace h := Option.some.inj h
  obtain rfl := h
  refine pFun_by [.l .normal ⟨[(3, (V.row 7))], [(7, .row 45 (u7_0))]⟩] rfl (And.intro c1 (And.intro (lw_laws_toPipeS_b0 _ _ _ _ _ l7 k k (by omega) (by omega)) trivial)) ?_
  kernel_rfl
theorem w_laws_toGutter {n : Nat} {a0 : Int} {a1 : Int} {a2 : Nat → Int} {a3 : Int} {a4 : List V} {z0 : Int} {z1 : Int} {z2 : Nat → Int} {z3 : Int} {z4 : List V} (h : s_laws_toGutter n a0 a1 a2 a3 a4 = some (z0, z1, z2, z3, z4)) : ∀ k, n + 3 ≤ k → sem E k 6 [(V.parts [(V.int .i8 (a0)), (V.int .i16 (a1)), (V.ints .i8 17 (a2)), (V.int .u32 (a3)), (V.sl (a4))])] = some (V.parts [(V.int .i8 (z0)), (V.int .i16 (z1)), (V.ints .i8 17 (z2)), (V.int .u32 (z3)), (V.fresh 45 (z4))]) := by
  intro k hk
  obtain ⟨k, rfl⟩ : ∃ q, k = q + 1 := ⟨k - 1, by omega⟩
  unfold s_laws_toGutter at h
  obtain ⟨y1_0, q1, h⟩ := bnd_some h
  obtain ⟨y2_0, q2, h⟩ := bnd_some h
  simp only [Option.some.injEq, Prod.mk.injEq] at h
  obtain ⟨rfl, rfl, rfl, rfl, rfl⟩ := h
  refine pFun_by [.v (V.ints .i8 17 (y1_0)), .v (V.fresh 45 (y2_0))] rfl (And.intro (w_laws_toInt8A17 q1 k (by omega)) (And.intro (w_laws_toPipeS q2 k (by omega)) trivial)) ?_
  kernel_rfl
theorem w_spec_l00In {n : Nat} {a0 : Int} {a1 : Int} {a2 : Int} {z0 : Bool} (h : s_spec_l00In n a0 a1 a2 = some z0) : ∀ k, n + 1 ≤ k → sem E k 24 [(V.int .i64 (a0)), (V.int .i64 (a1)), (V.int .i64 (a2))] = some (V.bool (z0)) := by
  intro k hk
  obtain ⟨k, rfl⟩ : ∃ q, k = q + 1 := ⟨k - 1, by omega⟩
  unfold s_spec_l00In at h
  rcases cnd_some h with ⟨h1, h⟩ | ⟨h1, h⟩
  · replace h := Option.some.inj h
    obtain rfl := h
    refine pFun_by [.b true] rfl (And.intro h1 trivial) ?_
    kernel_rfl
  · replace h := Option.some.inj h
    obtain rfl := h
    refine pFun_by [.b false] rfl (And.intro h1 trivial) ?_
    kernel_rfl
theorem w_spec_l06Deep {n : Nat} {a0 : Int} {z0 : Bool} (h : s_spec_l06Deep n a0 = some z0) : ∀ k, n + 2 ≤ k → sem E k 25 [(V.int .i64 (a0))] = some (V.bool (z0)) := by
  intro k hk
  obtain ⟨k, rfl⟩ : ∃ q, k = q + 1 := ⟨k - 1, by omega⟩
  unfold s_spec_l06Deep at h
  obtain ⟨y1_0, q1, h⟩ := bnd_some h
  replace h := Option.some.inj h
  obtain rfl := h
  refine pFun_by [.v (V.bool (y1_0))] rfl (And.intro (w_spec_l00In q1 k (by omega)) trivial) ?_
  kernel_rfl
theorem lw_spec_l06Ok_b0 : ∀ (n : Nat) (a0 : Int) (a1 : Int) (a2 : Nat → Int) (a3 : Int) (a4 : List V) (a5 : Int) (r : Sum (Int × Int × (Nat → Int) × Int × List V) (Bool)), l_spec_l06Ok_b0 n a0 a1 a2 a3 a4 a5 = some r → ∀ k m, n + 1 ≤ k → n ≤ m → LB E 12 0 k m ⟨[(0, (V.ref [(V.int .i8 (a0)), (V.int .i16 (a1)), (V.ints .i8 17 (a2)), (V.int .u32 (a3)), (V.sl (a4))] 0 (0) 21)), (3, (V.int .i8 (a5)))], []⟩ = some (match r with | .inl (o0, o1, o2, o3, o4) => (.normal, ⟨[(0, (V.ref [(V.int .i8 (o0)), (V.int .i16 (o1)), (V.ints .i8 17 (o2)), (V.int .u32 (o3)), (V.sl (o4))] 0 (0) 21))], []⟩) | .inr o0 => (.ret, ⟨[(2, (V.bool (o0)))], []⟩)) := by
  intro n
  induction n with
  | zero => intro a0 a1 a2 a3 a4 a5 r h; cases h
  | succ n ih =>
    intro a0 a1 a2 a3 a4 a5 r h k m hk hm
    obtain ⟨m, rfl⟩ : ∃ q, m = q + 1 := ⟨m - 1, by omega⟩
    replace hk : n + 1 ≤ k := by omega
    unfold l_spec_l06Ok_b0 at h
    rcases cnd_some h with ⟨h8, h⟩ | ⟨h8, h⟩
    · obtain ⟨c9, h⟩ := chk_some h
      obtain ⟨y10_0, q10, h⟩ := bnd_some h
      rcases cnd_some h with ⟨h11, h⟩ | ⟨h11, h⟩
      · rcases cnd_some h with ⟨h12, h⟩ | ⟨h12, h⟩
        · rcases cnd_some h with ⟨h13, h⟩ | ⟨h13, h⟩
          · refine pNext_by [.b true, .v (V.bool (y10_0)), .b false, .b true, .b false] (And.intro h8 (And.intro c9 (And.intro (w_spec_l00In q10 k (by omega)) (And.intro (not_f h11) (And.intro h12 (And.intro c9 (And.intro (not_f h13) trivial))))))) (ih _ _ _ _ _ _ _ h k m hk (by omega)) ?_
            kernel_rfl
          · cases h
            refine pLast_by [.b true, .v (V.bool (y10_0)), .b false, .b true, .b true] (And.intro h8 (And.intro c9 (And.intro (w_spec_l00In q10 k (by omega)) (And.intro (not_f h11) (And.intro h12 (And.intro c9 (And.intro (not_t h13) trivial))))))) ?_
            kernel_rfl
        · refine pNext_by [.b true, .v (V.bool (y10_0)), .b false, .b false, .b false] (And.intro h8 (And.intro c9 (And.intro (w_spec_l00In q10 k (by omega)) (And.intro (not_f h11) (And.intro h12 (And.intro (Eq.refl false) trivial)))))) (ih _ _ _ _ _ _ _ h k m hk (by omega)) ?_
          kernel_rfl
      · cases h
        refine pLast_by [.b true, .v (V.bool (y10_0)), .b true, .b true] (And.intro h8 (And.intro c9 (And.intro (w_spec_l00In q10 k (by omega)) (And.intro (not_t h11) (And.intro (Eq.refl true) trivial))))) ?_
        kernel_rfl
    · cases h
      refine pLast_by [.b false] (And.intro h8 trivial) ?_
      kernel_rfl
theorem lw_spec_l06Ok_b2 : ∀ (n : Nat) (a0 : Int) (a1 : Int) (a2 : Nat → Int) (a3 : Int) (a4 : List V) (a5 : Int) (r : Sum (Unit) (Bool)), l_spec_l06Ok_b2 n a0 a1 a2 a3 a4 a5 = some r → ∀ k m, n + 2 ≤ k → n ≤ m → LB E 12 2 k m ⟨[(0, (V.ref [(V.int .i8 (a0)), (V.int .i16 (a1)), (V.ints .i8 17 (a2)), (V.int .u32 (a3)), (V.sl (a4))] 0 (0) 21)), (4, (V.int .i64 (a5)))], []⟩ = some (match r with | .inl _ => (.normal, ⟨[], []⟩) | .inr o0 => (.ret, ⟨[(2, (V.bool (o0)))], []⟩)) := by
  intro n
  induction n with
  | zero => intro a0 a1 a2 a3 a4 a5 r h; cases h
  | succ n ih =>
    intro a0 a1 a2 a3 a4 a5 r h k m hk hm
    obtain ⟨m, rfl⟩ : ∃ q, m = q + 1 := ⟨m - 1, by omega⟩
    replace hk : n + 2 ≤ k := by omega
    unfold l_spec_l06Ok_b2 at h
    rcases cnd_some h with ⟨h16, h⟩ | ⟨h16, h⟩
    · obtain ⟨⟨e17_0, e17_1⟩, g17, h⟩ := bnd_some h
      replace g17 := as_Pi8_i16Q_some g17
      rcases cnd_some h with ⟨h18, h⟩ | ⟨h18, h⟩
      · cases h
        refine pLast_by [.b true, .v (V.parts [(V.int .i8 (e17_0)), (V.int .i16 (e17_1))]), .b true, .b true, .b true, .b true] (And.intro h16 (And.intro g17 (And.intro h18 (And.intro (Eq.refl true) (And.intro (Eq.refl true) (And.intro (Eq.refl true) trivial)))))) ?_
        kernel_rfl
      · rcases cnd_some h with ⟨h19, h⟩ | ⟨h19, h⟩
        · cases h
          refine pLast_by [.b true, .v (V.parts [(V.int .i8 (e17_0)), (V.int .i16 (e17_1))]), .b false, .b true, .b true, .b true] (And.intro h16 (And.intro g17 (And.intro h18 (And.intro h19 (And.intro (Eq.refl true) (And.intro (Eq.refl true) trivial)))))) ?_
          kernel_rfl
        · obtain ⟨y20_0, q20, h⟩ := bnd_some h
          rcases cnd_some h with ⟨h21, h⟩ | ⟨h21, h⟩
          · rcases cnd_some h with ⟨h22, h⟩ | ⟨h22, h⟩
            · obtain ⟨⟨e23_0, e23_1⟩, g23, h⟩ := bnd_some h
              replace g23 := as_Pi8_i16Q_some g23
              rcases cnd_some h with ⟨h24, h⟩ | ⟨h24, h⟩
              · cases h
                refine pLast_by [.b true, .v (V.parts [(V.int .i8 (e17_0)), (V.int .i16 (e17_1))]), .b false, .b false, .v (V.bool (y20_0)), .b false, .b true, .v (V.parts [(V.int .i8 (e23_0)), (V.int .i16 (e23_1))]), .b true] (And.intro h16 (And.intro g17 (And.intro h18 (And.intro h19 (And.intro (w_spec_l06Deep q20 k (by omega)) (And.intro (not_f h21) (And.intro h22 (And.intro g23 (And.intro h24 trivial))))))))) ?_
                kernel_rfl
              · refine pNext_by [.b true, .v (V.parts [(V.int .i8 (e17_0)), (V.int .i16 (e17_1))]), .b false, .b false, .v (V.bool (y20_0)), .b false, .b true, .v (V.parts [(V.int .i8 (e23_0)), (V.int .i16 (e23_1))]), .b false] (And.intro h16 (And.intro g17 (And.intro h18 (And.intro h19 (And.intro (w_spec_l06Deep q20 k (by omega)) (And.intro (not_f h21) (And.intro h22 (And.intro g23 (And.intro h24 trivial))))))))) (ih _ _ _ _ _ _ _ h k m hk (by omega)) ?_
                kernel_rfl
            · refine pNext_by [.b true, .v (V.parts [(V.int .i8 (e17_0)), (V.int .i16 (e17_1))]), .b false, .b false, .v (V.bool (y20_0)), .b false, .b false, .b false] (And.intro h16 (And.intro g17 (And.intro h18 (And.intro h19 (And.intro (w_spec_l06Deep q20 k (by omega)) (And.intro (not_f h21) (And.intro h22 (And.intro (Eq.refl false) trivial)))))))) (ih _ _ _ _ _ _ _ h k m hk (by omega)) ?_
              kernel_rfl
          · cases h
            refine pLast_by [.b true, .v (V.parts [(V.int .i8 (e17_0)), (V.int .i16 (e17_1))]), .b false, .b false, .v (V.bool (y20_0)), .b true, .b true] (And.intro h16 (And.intro g17 (And.intro h18 (And.intro h19 (And.intro (w_spec_l06Deep q20 k (by omega)) (And.intro (not_t h21) (And.intro (Eq.refl true) trivial))))))) ?_
            kernel_rfl
    · cases h
      refine pLast_by [.b false] (And.intro h16 trivial) ?_
      kernel_rfl
theorem w_spec_l06Ok {n : Nat} {a0 : Int} {a1 : Int} {a2 : Nat → Int} {a3 : Int} {a4 : List V} {z0 : Bool} (h : s_spec_l06Ok n a0 a1 a2 a3 a4 = some z0) : ∀ k, n + 3 ≤ k → sem E k 12 [(V.ref [(V.int .i8 (a0)), (V.int .i16 (a1)), (V.ints .i8 17 (a2)), (V.int .u32 (a3)), (V.sl (a4))] 0 (0) 21)] = some (V.bool (z0)) := by
  intro k hk
  obtain ⟨k, rfl⟩ : ∃ q, k = q + 1 := ⟨k - 1, by omega⟩
  unfold s_spec_l06Ok at h
  obtain ⟨y1_0, q1, h⟩ := bnd_some h
  rcases cnd_some h with ⟨h2, h⟩ | ⟨h2, h⟩
  · obtain ⟨y3_0, q3, h⟩ := bnd_some h
    rcases cnd_some h with ⟨h4, h⟩ | ⟨h4, h⟩
    · obtain ⟨c5, h⟩ := chk_some h
      rcases cnd_some h with ⟨h6, h⟩ | ⟨h6, h⟩
      · rcases cnd_some h with ⟨h7, h⟩ | ⟨h7, h⟩
        · replace h := Option.some.inj h
          obtain rfl := h
          refine pFun_by [.v (V.bool (y1_0)), .b false, .v (V.bool (y3_0)), .b false, .b false, .b true] rfl (And.intro (w_spec_l00In q1 k (by omega)) (And.intro (not_f h2) (And.intro (w_spec_l06Deep q3 k (by omega)) (And.intro (not_f h4) (And.intro c5 (And.intro (not_f h6) (And.intro h7 trivial))))))) ?_
          kernel_rfl
        · obtain ⟨w, l14, h⟩ := bnd_some h
          rcases w with ⟨u14_0, u14_1, u14_2, u14_3, u14_4⟩ | u27_0
          · obtain ⟨w, l25, h⟩ := bnd_some h
            rcases w with ⟨⟩ | u26_0
            · replace h := Option.some.inj h
              obtain rfl := h
              refine pFun_by [.v (V.bool (y1_0)), .b false, .v (V.bool (y3_0)), .b false, .b false, .b false, .l .normal ⟨[(0, (V.ref [(V.int .i8 (u14_0)), (V.int .i16 (u14_1)), (V.ints .i8 17 (u14_2)), (V.int .u32 (u14_3)), (V.sl (u14_4))] 0 (0) 21))], []⟩, .l .normal ⟨[], []⟩] rfl (And.intro (w_spec_l00In q1 k (by omega)) (And.intro (not_f h2) (And.intro (w_spec_l06Deep q3 k (by omega)) (And.intro (not_f h4) (And.intro c5 (And.intro (not_f h6) (And.intro h7 (And.intro (lw_spec_l06Ok_b0 _ _ _ _ _ _ _ _ l14 k k (by omega) (by omega)) (And.intro (lw_spec_l06Ok_b2 _ _ _ _ _ _ _ _ l25 k k (by omega) (by omega)) trivial))))))))) ?_
              kernel_rfl
            · replace h := Option.some.inj h
              obtain rfl := h
              refine pFun_by [.v (V.bool (y1_0)), .b false, .v (V.bool (y3_0)), .b false, .b false, .b false, .l .normal ⟨[(0, (V.ref [(V.int .i8 (u14_0)), (V.int .i16 (u14_1)), (V.ints .i8 17 (u14_2)), (V.int .u32 (u14_3)), (V.sl (u14_4))] 0 (0) 21))], []⟩, .l .ret ⟨[(2, (V.bool (u26_0)))], []⟩] rfl (And.intro (w_spec_l00In q1 k (by omega)) (And.intro (not_f h2) (And.intro (w_spec_l06Deep q3 k (by omega)) (And.intro (not_f h4) (And.intro c5 (And.intro (not_f h6) (And.intro h7 (And.intro (lw_spec_l06Ok_b0 _ _ _ _ _ _ _ _ l14 k k (by omega) (by omega)) (And.intro (lw_spec_l06Ok_b2 _ _ _ _ _ _ _ _ l25 k k (by omega) (by omega)) trivial))))))))) ?_
              kernel_rfl
          · replace h := Option.some.inj h
            obtain rfl := h
            refine pFun_by [.v (V.bool (y1_0)), .b false, .v (V.bool (y3_0)), .b false, .b false, .b false, .l .ret ⟨[(2, (V.bool (u27_0)))], []⟩] rfl (And.intro (w_spec_l00In q1 k (by omega)) (And.intro (not_f h2) (And.intro (w_spec_l06Deep q3 k (by omega)) (And.intro (not_f h4) (And.intro c5 (And.intro (not_f h6) (And.intro h7 (And.intro (lw_spec_l06Ok_b0 _ _ _ _ _ _ _ _ l14 k k (by omega) (by omega)) trivial)))))))) ?_
            kernel_rfl
      · replace h := Option.some.inj h
        obtain rfl := h
        refine pFun_by [.v (V.bool (y1_0)), .b false, .v (V.bool (y3_0)), .b false, .b true, .b true] rfl (And.intro (w_spec_l00In q1 k (by omega)) (And.intro (not_f h2) (And.intro (w_spec_l06Deep q3 k (by omega)) (And.intro (not_f h4) (And.intro c5 (And.intro (not_t h6) (And.intro (Eq.refl true) trivial))))))) ?_
        kernel_rfl
    · replace h := Option.some.inj h
      obtain rfl := h
      refine pFun_by [.v (V.bool (y1_0)), .b false, .v (V.bool (y3_0)), .b true, .b true, .b true] rfl (And.intro (w_spec_l00In q1 k (by omega)) (And.intro (not_f h2) (And.intro (w_spec_l06Deep q3 k (by omega)) (And.intro (not_t h4) (And.intro (Eq.refl true) (And.intro (Eq.refl true) trivial)))))) ?_
      kernel_rfl
  · replace h := Option.some.inj h
    obtain rfl := h
    refine pFun_by [.v (V.bool (y1_0)), .b true, .b true, .b true, .b true] rfl (And.intro (w_spec_l00In q1 k (by omega)) (And.intro (not_t h2) (And.intro (Eq.refl true) (And.intro (Eq.refl true) (And.intro (Eq.refl true) trivial))))) ?_
    kernel_rfl
theorem w_spec_l06Leaf {n : Nat} {a0 : Int} {a1 : Int} {a2 : Nat → Int} {a3 : Int} {a4 : List V} {a5 : Int} {z0 : Bool} (h : s_spec_l06Leaf n a0 a1 a2 a3 a4 a5 = some z0) : ∀ k, n + 1 ≤ k → sem E k 13 [(V.ref [(V.int .i8 (a0)), (V.int .i16 (a1)), (V.ints .i8 17 (a2)), (V.int .u32 (a3)), (V.sl (a4))] 0 (0) 21), (V.int .i64 (a5))] = some (V.bool (z0)) := by
  intro k hk
  obtain ⟨k, rfl⟩ : ∃ q, k = q + 1 := ⟨k - 1, by omega⟩
  unfold s_spec_l06Leaf at h
  obtain ⟨c1, h⟩ := chk_some h
  replace h := Option.some.inj h
  obtain rfl := h
  refine pFun_by [] rfl (And.intro c1 trivial) ?_
  kernel_rfl
theorem lw_spec_MirrorGutter_b0 : ∀ (n : Nat) (a0 : Int) (a1 : Int) (a2 : Int) (a3 : Int) (a4 : Nat → Int) (a5 : Int) (a6 : List V) (a7 : Int) (a8 : Int) (a9 : Nat → Int) (a10 : Int) (a11 : Int) (a12 : Int) (a13 : Nat → Int) (a14 : Int) (a15 : List V) (a16 : List V) (r : Int × Int × (Nat → Int) × Int × List V × Int × Int × (Nat → Int) × Int × Int × Int × (Nat → Int) × Int × List V × List V), l_spec_MirrorGutter_b0 n a0 a1 a2 a3 a4 a5 a6 a7 a8 a9 a10 a11 a12 a13 a14 a15 a16 = some r → ∀ k m, n + 1 ≤ k → n ≤ m → LB E 5 0 k m ⟨[(1, (V.ptr 3 0 (0) 21)), (2, (V.ptr 5 0 (0) 21)), (4, (V.ptr 9 0 (0) 21)), (5, (V.int .i64 (a0))), (6, (V.int .i64 (a1)))], [(3, .box [(V.int .i8 (a2)), (V.int .i16 (a3)), (V.ints .i8 17 (a4)), (V.int .u32 (a5)), (V.sl (a6))]), (5, .box [(V.int .i8 (a7)), (V.int .i16 (a8)), (V.ints .i8 17 (a9)), (V.int .u32 (a10)), (V.row 5013)]), (9, .box [(V.int .i8 (a11)), (V.int .i16 (a12)), (V.ints .i8 17 (a13)), (V.int .u32 (a14)), (V.row 9017)]), (5013, .row 45 (a15)), (9017, .row 45 (a16))]⟩ = some (match r with | (o0, o1, o2, o3, o4, o5, o6, o7, o8, o9, o10, o11, o12, o13, o14) => (.normal, ⟨[(1, (V.ptr 3 0 (0) 21)), (2, (V.ptr 5 0 (0) 21)), (4, (V.ptr 9 0 (0) 21))], [(3, .box [(V.int .i8 (o0)), (V.int .i16 (o1)), (V.ints .i8 17 (o2)), (V.int .u32 (o3)), (V.sl (o4))]), (5, .box [(V.int .i8 (o5)), (V.int .i16 (o6)), (V.ints .i8 17 (o7)), (V.int .u32 (o8)), (V.row 5013)]), (9, .box [(V.int .i8 (o9)), (V.int .i16 (o10)), (V.ints .i8 17 (o11)), (V.int .u32 (o12)), (V.row 9017)]), (5013, .row 45 (o13)), (9017, .row 45 (o14))]⟩)) := by
  intro n
  induction n with
  | zero => intro a0 a1 a2 a3 a4 a5 a6 a7 a8 a9 a10 a11 a12 a13 a14 a15 a16 r h; cases h
  | succ n ih =>
    intro a0 a1 a2 a3 a4 a5 a6 a7 a8 a9 a10 a11 a12 a13 a14 a15 a16 r h k m hk hm
    obtain ⟨m, rfl⟩ : ∃ q, m = q + 1 := ⟨m - 1, by omega⟩
    replace hk : n + 1 ≤ k := by omega
    unfold l_spec_MirrorGutter_b0 at h
    rcases cnd_some h with ⟨h3, h⟩ | ⟨h3, h⟩
    · obtain ⟨c4, h⟩ := chk_some h
      obtain ⟨c5, h⟩ := chk_some h
      obtain ⟨y6_0, q6, h⟩ := bnd_some h
      rcases cnd_some h with ⟨h7, h⟩ | ⟨h7, h⟩
      · obtain ⟨c8, h⟩ := chk_some h
        refine pNext_by [.b true, .v (V.bool (y6_0)), .b true] (And.intro h3 (And.intro c4 (And.intro c5 (And.intro (w_spec_l06Leaf q6 k (by omega)) (And.intro (Eq.refl true) (And.intro h7 (And.intro c8 trivial))))))) (ih _ _ _ _ _ _ _ _ _ _ _ _ _ _ _ _ _ _ h k m hk (by omega)) ?_
        kernel_rfl
      · refine pNext_by [.b true, .v (V.bool (y6_0)), .b false] (And.intro h3 (And.intro c4 (And.intro c5 (And.intro (w_spec_l06Leaf q6 k (by omega)) (And.intro (Eq.refl true) (And.intro h7 trivial)))))) (ih _ _ _ _ _ _ _ _ _ _ _ _ _ _ _ _ _ _ h k m hk (by omega)) ?_
        kernel_rfl
    · cases h
      refine pLast_by [.b false] (And.intro h3 trivial) ?_
      kernel_rfl
theorem lw_spec_MirrorGutter_b2 : ∀ (n : Nat) (a0 : Int) (a1 : Int) (a2 : Int) (a3 : Nat → Int) (a4 : Int) (a5 : List V) (a6 : Int) (a7 : Int) (a8 : Nat → Int) (a9 : Int) (a10 : Int) (a11 : Int) (a12 : Nat → Int) (a13 : Int) (a14 : List V) (a15 : List V) (r : Int × Int × (Nat → Int) × Int × Int × Int × (Nat → Int) × Int × List V × List V), l_spec_MirrorGutter_b2 n a0 a1 a2 a3 a4 a5 a6 a7 a8 a9 a10 a11 a12 a13 a14 a15 = some r → ∀ k m, n + 1 ≤ k → n ≤ m → LB E 5 2 k m ⟨[(1, (V.ptr 3 0 (0) 21)), (2, (V.ptr 5 0 (0) 21)), (4, (V.ptr 9 0 (0) 21)), (7, (V.int .i64 (a0)))], [(3, .box [(V.int .i8 (a1)), (V.int .i16 (a2)), (V.ints .i8 17 (a3)), (V.int .u32 (a4)), (V.sl (a5))]), (5, .box [(V.int .i8 (a6)), (V.int .i16 (a7)), (V.ints .i8 17 (a8)), (V.int .u32 (a9)), (V.row 5013)]), (9, .box [(V.int .i8 (a10)), (V.int .i16 (a11)), (V.ints .i8 17 (a12)), (V.int .u32 (a13)), (V.row 9017)]), (5013, .row 45 (a14)), (9017, .row 45 (a15))]⟩ = some (match r with | (o0, o1, o2, o3, o4, o5, o6, o7, o8, o9) => (.normal, ⟨[(2, (V.ptr 5 0 (0) 21)), (4, (V.ptr 9 0 (0) 21))], [(5, .box [(V.int .i8 (o0)), (V.int .i16 (o1)), (V.ints .i8 17 (o2)), (V.int .u32 (o3)), (V.row 5013)]), (9, .box [(V.int .i8 (o4)), (V.int .i16 (o5)), (V.ints .i8 17 (o6)), (V.int .u32 (o7)), (V.row 9017)]), (5013, .row 45 (o8)), (9017, .row 45 (o9))]⟩)) := by
  intro n
  induction n with
  | zero => intro a0 a1 a2 a3 a4 a5 a6 a7 a8 a9 a10 a11 a12 a13 a14 a15 r h; cases h
  | succ n ih =>
    intro a0 a1 a2 a3 a4 a5 a6 a7 a8 a9 a10 a11 a12 a13 a14 a15 r h k m hk hm
    obtain ⟨m, rfl⟩ : ∃ q, m = q + 1 := ⟨m - 1, by omega⟩
    replace hk : n + 1 ≤ k := by omega
    unfold l_spec_MirrorGutter_b2 at h
    rcases cnd_some h with ⟨h11, h⟩ | ⟨h11, h⟩
    · obtain ⟨⟨e12_0, e12_1⟩, g12, h⟩ := bnd_some h
      replace g12 := as_Pi8_i16Q_some g12
      obtain ⟨⟨e13_0, e13_1⟩, g13, h⟩ := bnd_some h
      replace g13 := as_Pi8_i16Q_some g13
      obtain ⟨c14, h⟩ := chk_some h
      refine pNext_by [.b true, .v (V.parts [(V.int .i8 (e12_0)), (V.int .i16 (e12_1))]), .v (V.parts [(V.int .i8 (e13_0)), (V.int .i16 (e13_1))])] (And.intro h11 (And.intro g12 (And.intro g13 (And.intro c14 (And.intro (Eq.refl true) trivial))))) (ih _ _ _ _ _ _ _ _ _ _ _ _ _ _ _ _ _ h k m hk (by omega)) ?_
      kernel_rfl
    · cases h
      refine pLast_by [.b false] (And.intro h11 trivial) ?_
      kernel_rfl
theorem w_spec_MirrorGutter {n : Nat} {a0 : Int} {a1 : Int} {a2 : Nat → Int} {a3 : Int} {a4 : List V} {z0 : Int} {z1 : Int} {z2 : Nat → Int} {z3 : Int} {z4 : List V} {z5 : Int} (h : s_spec_MirrorGutter n a0 a1 a2 a3 a4 = some (z0, z1, z2, z3, z4, z5)) : ∀ k, n + 4 ≤ k → sem E k 5 [(V.parts [(V.int .i8 (a0)), (V.int .i16 (a1)), (V.ints .i8 17 (a2)), (V.int .u32 (a3)), (V.sl (a4))])] = some (V.tup [(V.parts [(V.int .i8 (z0)), (V.int .i16 (z1)), (V.ints .i8 17 (z2)), (V.int .u32 (z3)), (V.fresh 45 (z4))]), (V.int .i64 (z5))]) := by
  intro k hk
  obtain ⟨k, rfl⟩ : ∃ q, k = q + 1 := ⟨k - 1, by omega⟩
  unfold s_spec_MirrorGutter at h
  obtain ⟨y1_0, q1, h⟩ := bnd_some h
  rcases cnd_some h with ⟨h2, h⟩ | ⟨h2, h⟩
  · obtain ⟨⟨u9_0, u9_1, u9_2, u9_3, u9_4, u9_5, u9_6, u9_7, u9_8, u9_9, u9_10, u9_11, u9_12, u9_13, u9_14⟩, l9, h⟩ := bnd_some h
    obtain ⟨⟨u15_0, u15_1, u15_2, u15_3, u15_4, u15_5, u15_6, u15_7, u15_8, u15_9⟩, l15, h⟩ := bnd_some h
    simp only [Option.some.injEq, Prod.mk.injEq] at h
    obtain ⟨rfl, rfl, rfl, rfl, rfl, rfl⟩ := h
    refine pFun_by [.v (V.bool (y1_0)), .b false, .l .normal ⟨[(1, (V.ptr 3 0 (0) 21)), (2, (V.ptr 5 0 (0) 21)), (4, (V.ptr 9 0 (0) 21))], [(3, .box [(V.int .i8 (u9_0)), (V.int .i16 (u9_1)), (V.ints .i8 17 (u9_2)), (V.int .u32 (u9_3)), (V.sl (u9_4))]), (5, .box [(V.int .i8 (u9_5)), (V.int .i16 (u9_6)), (V.ints .i8 17 (u9_7)), (V.int .u32 (u9_8)), (V.row 5013)]), (9, .box [(V.int .i8 (u9_9)), (V.int .i16 (u9_10)), (V.ints .i8 17 (u9_11)), (V.int .u32 (u9_12)), (V.row 9017)]), (5013, .row 45 (u9_13)), (9017, .row 45 (u9_14))]⟩, .l .normal ⟨[(2, (V.ptr 5 0 (0) 21)), (4, (V.ptr 9 0 (0) 21))], [(5, .box [(V.int .i8 (u15_0)), (V.int .i16 (u15_1)), (V.ints .i8 17 (u15_2)), (V.int .u32 (u15_3)), (V.row 5013)]), (9, .box [(V.int .i8 (u15_4)), (V.int .i16 (u15_5)), (V.ints .i8 17 (u15_6)), (V.int .u32 (u15_7)), (V.row 9017)]), (5013, .row 45 (u15_8)), (9017, .row 45 (u15_9))]⟩] rfl (And.intro (w_spec_l06Ok q1 k (by omega)) (And.intro (Eq.refl true) (And.intro (not_f h2) (And.intro (lw_spec_MirrorGutter_b0 _ _ _ _ _ _ _ _ _ _ _ _ _ _ _ _ _ _ _ l9 k k (by omega) (by omega)) (And.intro (lw_spec_MirrorGutter_b2 _ _ _ _ _ _ _ _ _ _ _ _ _ _ _ _ _ _ l15 k k (by omega) (by omega)) trivial))))) ?_
    kernel_rfl
  · simp only [Option.some.injEq, Prod.mk.injEq] at h
    obtain ⟨rfl, rfl, rfl, rfl, rfl, rfl⟩ := h
    refine pFun_by [.v (V.bool (y1_0)), .b true] rfl (And.intro (w_spec_l06Ok q1 k (by omega)) (And.intro (Eq.refl true) (And.intro (not_t h2) trivial))) ?_
    kernel_rfl
theorem w_impl_within_int8 {n : Nat} {a0 : Int} {a1 : Int} {a2 : Int} {z0 : Bool} (h : s_impl_within_int8 n a0 a1 a2 = some z0) : ∀ k, n + 1 ≤ k → sem E k 27 [(V.int .i8 (a0)), (V.int .i8 (a1)), (V.int .i8 (a2))] = some (V.bool (z0)) := by
  intro k hk
  obtain ⟨k, rfl⟩ : ∃ q, k = q + 1 := ⟨k - 1, by omega⟩
  unfold s_impl_within_int8 at h
  rcases cnd_some h with ⟨h1, h⟩ | ⟨h1, h⟩
  · replace h := Option.some.inj h
    obtain rfl := h
    refine pFun_by [.b true] rfl (And.intro h1 trivial) ?_
    kernel_rfl
  · replace h := Option.some.inj h
    obtain rfl := h
    refine pFun_by [.b false] rfl (And.intro h1 trivial) ?_
    kernel_rfl
theorem w_impl_within_int64 {n : Nat} {a0 : Int} {a1 : Int} {a2 : Int} {z0 : Bool} (h : s_impl_within_int64 n a0 a1 a2 = some z0) : ∀ k, n + 1 ≤ k → sem E k 32 [(V.int .i64 (a0)), (V.int .i64 (a1)), (V.int .i64 (a2))] = some (V.bool (z0)) := by
  intro k hk
  obtain ⟨k, rfl⟩ : ∃ q, k = q + 1 := ⟨k - 1, by omega⟩
  unfold s_impl_within_int64 at h
  rcases cnd_some h with ⟨h1, h⟩ | ⟨h1, h⟩
  · replace h := Option.some.inj h
    obtain rfl := h
    refine pFun_by [.b true] rfl (And.intro h1 trivial) ?_
    kernel_rfl
  · replace h := Option.some.inj h
    obtain rfl := h
    refine pFun_by [.b false] rfl (And.intro h1 trivial) ?_
    kernel_rfl
theorem w_impl_isDeep_int16 {n : Nat} {a0 : Int} {z0 : Bool} (h : s_impl_isDeep_int16 n a0 = some z0) : ∀ k, n + 2 ≤ k → sem E k 28 [(V.int .i16 (a0))] = some (V.bool (z0)) := by
  intro k hk
  obtain ⟨k, rfl⟩ : ∃ q, k = q + 1 := ⟨k - 1, by omega⟩
  unfold s_impl_isDeep_int16 at h
  obtain ⟨y1_0, q1, h⟩ := bnd_some h
  replace h := Option.some.inj h
  obtain rfl := h
  refine pFun_by [.v (V.bool (y1_0))] rfl (And.intro (w_impl_within_int64 q1 k (by omega)) trivial) ?_
  kernel_rfl
theorem lw_impl_ValidGutter_b0 : ∀ (n : Nat) (a0 : Nat → Int) (a1 : Int) (a2 : Int) (a3 : Int) (a4 : Nat → Int) (a5 : Int) (a6 : List V) (r : Sum (Int × Int × (Nat → Int) × Int × List V) (Bool)), l_impl_ValidGutter_b0 n a0 a1 a2 a3 a4 a5 a6 = some r → ∀ k m, n + 1 ≤ k → n ≤ m → LB E 16 0 k m ⟨[(1, (V.ptr 3 0 (0) 21)), (32, (V.ints .i8 17 (a0))), (33, (V.int .i64 (a1)))], [(3, .box [(V.int .i8 (a2)), (V.int .i16 (a3)), (V.ints .i8 17 (a4)), (V.int .u32 (a5)), (V.sl (a6))])]⟩ = some (match r with | .inl (o0, o1, o2, o3, o4) => (.normal, ⟨[(1, (V.ptr 3 0 (0) 21))], [(3, .box [(V.int .i8 (o0)), (V.int .i16 (o1)), (V.ints .i8 17 (o2)), (V.int .u32 (o3)), (V.sl (o4))])]⟩) | .inr o0 => (.ret, ⟨[(2, (V.bool (o0)))], []⟩)) := by
  intro n
  induction n with
  | zero => intro a0 a1 a2 a3 a4 a5 a6 r h; cases h
  | succ n ih =>
    intro a0 a1 a2 a3 a4 a5 a6 r h k m hk hm
    obtain ⟨m, rfl⟩ : ∃ q, m = q + 1 := ⟨m - 1, by omega⟩
    replace hk : n + 1 ≤ k := by omega
    unfold l_impl_ValidGutter_b0 at h
    rcases cnd_some h with ⟨h8, h⟩ | ⟨h8, h⟩
    · obtain ⟨c9, h⟩ := chk_some h
      obtain ⟨y10_0, q10, h⟩ := bnd_some h
      rcases cnd_some h with ⟨h11, h⟩ | ⟨h11, h⟩
      · rcases cnd_some h with ⟨h12, h⟩ | ⟨h12, h⟩
        · refine pNext_by [.b true, .v (V.bool (y10_0)), .b false, .b false, .b false] (And.intro h8 (And.intro c9 (And.intro (w_impl_within_int8 q10 k (by omega)) (And.intro (not_f h11) (And.intro (not_f h12) (And.intro (Eq.refl false) trivial)))))) (ih _ _ _ _ _ _ _ _ h k m hk (by omega)) ?_
          kernel_rfl
        · rcases cnd_some h with ⟨h13, h⟩ | ⟨h13, h⟩
          · cases h
            refine pLast_by [.b true, .v (V.bool (y10_0)), .b false, .b true, .b true] (And.intro h8 (And.intro c9 (And.intro (w_impl_within_int8 q10 k (by omega)) (And.intro (not_f h11) (And.intro (not_t h12) (And.intro h13 trivial)))))) ?_
            kernel_rfl
          · refine pNext_by [.b true, .v (V.bool (y10_0)), .b false, .b true, .b false] (And.intro h8 (And.intro c9 (And.intro (w_impl_within_int8 q10 k (by omega)) (And.intro (not_f h11) (And.intro (not_t h12) (And.intro h13 trivial)))))) (ih _ _ _ _ _ _ _ _ h k m hk (by omega)) ?_
            kernel_rfl
      · cases h
        refine pLast_by [.b true, .v (V.bool (y10_0)), .b true, .b true] (And.intro h8 (And.intro c9 (And.intro (w_impl_within_int8 q10 k (by omega)) (And.intro (not_t h11) (And.intro (Eq.refl true) trivial))))) ?_
        kernel_rfl
    · cases h
      refine pLast_by [.b false] (And.intro h8 trivial) ?_
      kernel_rfl
theorem lw_impl_ValidGutter_b2 : ∀ (n : Nat) (a0 : List V) (a1 : Int) (a2 : Int) (a3 : Int) (a4 : Int) (a5 : Nat → Int) (a6 : Int) (a7 : List V) (r : Sum (Unit) (Bool)), l_impl_ValidGutter_b2 n a0 a1 a2 a3 a4 a5 a6 a7 = some r → ∀ k m, n + 2 ≤ k → n ≤ m → LB E 16 2 k m ⟨[(1, (V.ptr 3 0 (0) 21)), (53, (V.sl (a0))), (54, (V.int .i64 (a1))), (55, (V.int .i64 (a2)))], [(3, .box [(V.int .i8 (a3)), (V.int .i16 (a4)), (V.ints .i8 17 (a5)), (V.int .u32 (a6)), (V.sl (a7))])]⟩ = some (match r with | .inl _ => (.normal, ⟨[], []⟩) | .inr o0 => (.ret, ⟨[(2, (V.bool (o0)))], []⟩)) := by
  intro n
  induction n with
  | zero => intro a0 a1 a2 a3 a4 a5 a6 a7 r h; cases h
  | succ n ih =>
    intro a0 a1 a2 a3 a4 a5 a6 a7 r h k m hk hm
    obtain ⟨m, rfl⟩ : ∃ q, m = q + 1 := ⟨m - 1, by omega⟩
    replace hk : n + 2 ≤ k := by omega
    unfold l_impl_ValidGutter_b2 at h
    rcases cnd_some h with ⟨h16, h⟩ | ⟨h16, h⟩
    · obtain ⟨⟨e17_0, e17_1⟩, g17, h⟩ := bnd_some h
      replace g17 := as_Pi8_i16Q_some g17
      obtain ⟨y18_0, q18, h⟩ := bnd_some h
      rcases cnd_some h with ⟨h19, h⟩ | ⟨h19, h⟩
      · obtain ⟨y20_0, q20, h⟩ := bnd_some h
        rcases cnd_some h with ⟨h21, h⟩ | ⟨h21, h⟩
        · rcases cnd_some h with ⟨h22, h⟩ | ⟨h22, h⟩
          · obtain ⟨⟨e23_0, e23_1⟩, g23, h⟩ := bnd_some h
            replace g23 := as_Pi8_i16Q_some g23
            rcases cnd_some h with ⟨h24, h⟩ | ⟨h24, h⟩
            · cases h
              refine pLast_by [.b true, .v (V.parts [(V.int .i8 (e17_0)), (V.int .i16 (e17_1))]), .v (V.bool (y18_0)), .b false, .v (V.bool (y20_0)), .b false, .b true, .v (V.parts [(V.int .i8 (e23_0)), (V.int .i16 (e23_1))]), .b true] (And.intro h16 (And.intro g17 (And.intro (w_impl_within_int8 q18 k (by omega)) (And.intro (not_f h19) (And.intro (w_impl_isDeep_int16 q20 k (by omega)) (And.intro (not_f h21) (And.intro h22 (And.intro g23 (And.intro h24 trivial))))))))) ?_
              kernel_rfl
            · refine pNext_by [.b true, .v (V.parts [(V.int .i8 (e17_0)), (V.int .i16 (e17_1))]), .v (V.bool (y18_0)), .b false, .v (V.bool (y20_0)), .b false, .b true, .v (V.parts [(V.int .i8 (e23_0)), (V.int .i16 (e23_1))]), .b false] (And.intro h16 (And.intro g17 (And.intro (w_impl_within_int8 q18 k (by omega)) (And.intro (not_f h19) (And.intro (w_impl_isDeep_int16 q20 k (by omega)) (And.intro (not_f h21) (And.intro h22 (And.intro g23 (And.intro h24 trivial))))))))) (ih _ _ _ _ _ _ _ _ _ h k m hk (by omega)) ?_
              kernel_rfl
          · refine pNext_by [.b true, .v (V.parts [(V.int .i8 (e17_0)), (V.int .i16 (e17_1))]), .v (V.bool (y18_0)), .b false, .v (V.bool (y20_0)), .b false, .b false, .b false] (And.intro h16 (And.intro g17 (And.intro (w_impl_within_int8 q18 k (by omega)) (And.intro (not_f h19) (And.intro (w_impl_isDeep_int16 q20 k (by omega)) (And.intro (not_f h21) (And.intro h22 (And.intro (Eq.refl false) trivial)))))))) (ih _ _ _ _ _ _ _ _ _ h k m hk (by omega)) ?_
            kernel_rfl
        · cases h
          refine pLast_by [.b true, .v (V.parts [(V.int .i8 (e17_0)), (V.int .i16 (e17_1))]), .v (V.bool (y18_0)), .b false, .v (V.bool (y20_0)), .b true, .b true] (And.intro h16 (And.intro g17 (And.intro (w_impl_within_int8 q18 k (by omega)) (And.intro (not_f h19) (And.intro (w_impl_isDeep_int16 q20 k (by omega)) (And.intro (not_t h21) (And.intro (Eq.refl true) trivial))))))) ?_
          kernel_rfl
      · cases h
        refine pLast_by [.b true, .v (V.parts [(V.int .i8 (e17_0)), (V.int .i16 (e17_1))]), .v (V.bool (y18_0)), .b true, .b true, .b true] (And.intro h16 (And.intro g17 (And.intro (w_impl_within_int8 q18 k (by omega)) (And.intro (not_t h19) (And.intro (Eq.refl true) (And.intro (Eq.refl true) trivial)))))) ?_
        kernel_rfl
    · cases h
      refine pLast_by [.b false] (And.intro h16 trivial) ?_
      kernel_rfl
theorem w_impl_ValidGutter {n : Nat} {a0 : Int} {a1 : Int} {a2 : Nat → Int} {a3 : Int} {a4 : List V} {z0 : Bool} (h : s_impl_ValidGutter n a0 a1 a2 a3 a4 = some z0) : ∀ k, n + 3 ≤ k → sem E k 16 [(V.parts [(V.int .i8 (a0)), (V.int .i16 (a1)), (V.ints .i8 17 (a2)), (V.int .u32 (a3)), (V.sl (a4))])] = some (V.bool (z0)) := by
  intro k hk
  obtain ⟨k, rfl⟩ : ∃ q, k = q + 1 := ⟨k - 1, by omega⟩
  unfold s_impl_ValidGutter at h
  obtain ⟨y1_0, q1, h⟩ := bnd_some h
  rcases cnd_some h with ⟨h2, h⟩ | ⟨h2, h⟩
  · obtain ⟨y3_0, q3, h⟩ := bnd_some h
    rcases cnd_some h with ⟨h4, h⟩ | ⟨h4, h⟩
    · obtain ⟨c5, h⟩ := chk_some h
      rcases cnd_some h with ⟨h6, h⟩ | ⟨h6, h⟩
      · rcases cnd_some h with ⟨h7, h⟩ | ⟨h7, h⟩
        · replace h := Option.some.inj h
          obtain rfl := h
          refine pFun_by [.v (V.bool (y1_0)), .b false, .v (V.bool (y3_0)), .b false, .b false, .b true] rfl (And.intro (w_impl_within_int8 q1 k (by omega)) (And.intro (not_f h2) (And.intro (w_impl_isDeep_int16 q3 k (by omega)) (And.intro (not_f h4) (And.intro c5 (And.intro (not_f h6) (And.intro h7 trivial))))))) ?_
          kernel_rfl
        · obtain ⟨w, l14, h⟩ := bnd_some h
          rcases w with ⟨u14_0, u14_1, u14_2, u14_3, u14_4⟩ | u27_0
          · obtain ⟨w, l25, h⟩ := bnd_some h
            rcases w with ⟨⟩ | u26_0
            · replace h := Option.some.inj h
              obtain rfl := h
              refine pFun_by [.v (V.bool (y1_0)), .b false, .v (V.bool (y3_0)), .b false, .b false, .b false, .l .normal ⟨[(1, (V.ptr 3 0 (0) 21))], [(3, .box [(V.int .i8 (u14_0)), (V.int .i16 (u14_1)), (V.ints .i8 17 (u14_2)), (V.int .u32 (u14_3)), (V.sl (u14_4))])]⟩, .l .normal ⟨[], []⟩] rfl (And.intro (w_impl_within_int8 q1 k (by omega)) (And.intro (not_f h2) (And.intro (w_impl_isDeep_int16 q3 k (by omega)) (And.intro (not_f h4) (And.intro c5 (And.intro (not_f h6) (And.intro h7 (And.intro (lw_impl_ValidGutter_b0 _ _ _ _ _ _ _ _ _ l14 k k (by omega) (by omega)) (And.intro (lw_impl_ValidGutter_b2 _ _ _ _ _ _ _ _ _ _ l25 k k (by omega) (by omega)) trivial))))))))) ?_
              kernel_rfl
            · replace h := Option.some.inj h
              obtain rfl := h
              refine pFun_by [.v (V.bool (y1_0)), .b false, .v (V.bool (y3_0)), .b false, .b false, .b false, .l .normal ⟨[(1, (V.ptr 3 0 (0) 21))], [(3, .box [(V.int .i8 (u14_0)), (V.int .i16 (u14_1)), (V.ints .i8 17 (u14_2)), (V.int .u32 (u14_3)), (V.sl (u14_4))])]⟩, .l .ret ⟨[(2, (V.bool (u26_0)))], []⟩] rfl (And.intro (w_impl_within_int8 q1 k (by omega)) (And.intro (not_f h2) (And.intro (w_impl_isDeep_int16 q3 k (by omega)) (And.intro (not_f h4) (And.intro c5 (And.intro (not_f h6) (And.intro h7 (And.intro (lw_impl_ValidGutter_b0 _ _ _ _ _ _ _ _ _ l14 k k (by omega) (by omega)) (And.intro (lw_impl_ValidGutter_b2 _ _ _ _ _ _ _ _ _ _ l25 k k (by omega) (by omega)) trivial))))))))) ?_
              kernel_rfl
          · replace h := Option.some.inj h
            obtain rfl := h
            refine pFun_by [.v (V.bool (y1_0)), .b false, .v (V.bool (y3_0)), .b false, .b false, .b false, .l .ret ⟨[(2, (V.bool (u27_0)))], []⟩] rfl (And.intro (w_impl_within_int8 q1 k (by omega)) (And.intro (not_f h2) (And.intro (w_impl_isDeep_int16 q3 k (by omega)) (And.intro (not_f h4) (And.intro c5 (And.intro (not_f h6) (And.intro h7 (And.intro (lw_impl_ValidGutter_b0 _ _ _ _ _ _ _ _ _ l14 k k (by omega) (by omega)) trivial)))))))) ?_
            kernel_rfl
      · replace h := Option.some.inj h
        obtain rfl := h
        refine pFun_by [.v (V.bool (y1_0)), .b false, .v (V.bool (y3_0)), .b false, .b true, .b true] rfl (And.intro (w_impl_within_int8 q1 k (by omega)) (And.intro (not_f h2) (And.intro (w_impl_isDeep_int16 q3 k (by omega)) (And.intro (not_f h4) (And.intro c5 (And.intro (not_t h6) (And.intro (Eq.refl true) trivial))))))) ?_
        kernel_rfl
    · replace h := Option.some.inj h
      obtain rfl := h
      refine pFun_by [.v (V.bool (y1_0)), .b false, .v (V.bool (y3_0)), .b true, .b true, .b true] rfl (And.intro (w_impl_within_int8 q1 k (by omega)) (And.intro (not_f h2) (And.intro (w_impl_isDeep_int16 q3 k (by omega)) (And.intro (not_t h4) (And.intro (Eq.refl true) (And.intro (Eq.refl true) trivial)))))) ?_
      kernel_rfl
  · replace h := Option.some.inj h
    obtain rfl := h
    refine pFun_by [.v (V.bool (y1_0)), .b true, .b true, .b true, .b true] rfl (And.intro (w_impl_within_int8 q1 k (by omega)) (And.intro (not_t h2) (And.intro (Eq.refl true) (And.intro (Eq.refl true) (And.intro (Eq.refl true) trivial))))) ?_
    kernel_rfl
theorem lw_impl_upTo_b0 : ∀ (n : Nat) (a0 : Int) (a1 : Int) (a2 : List V) (r : List V), l_impl_upTo_b0 n a0 a1 a2 = some r → ∀ k m, n + 0 ≤ k → n ≤ m → LB E 29 0 k m ⟨[(3, (V.row 7)), (5, (V.int .i64 (a0))), (6, (V.int .i64 (a1)))], [(7, .row 3 (a2))]⟩ = some (match r with | o0 => (.normal, ⟨[(3, (V.row 7))], [(7, .row 3 (o0))]⟩)) := by
  intro n
  induction n with
  | zero => intro a0 a1 a2 r h; cases h
  | succ n ih =>
    intro a0 a1 a2 r h k m hk hm
    obtain ⟨m, rfl⟩ : ∃ q, m = q + 1 := ⟨m - 1, by omega⟩
    replace hk : n + 0 ≤ k := by omega
    unfold l_impl_upTo_b0 at h
    rcases cnd_some h with ⟨h1, h⟩ | ⟨h1, h⟩
    · obtain ⟨c2, h⟩ := chk_some h
      refine pNext_by [.b true] (And.intro h1 (And.intro c2 (And.intro (Eq.refl true) trivial))) (ih _ _ _ _ h k m hk (by omega)) ?_
      kernel_rfl
    · cases h
      refine pLast_by [.b false] (And.intro h1 trivial) ?_
      kernel_rfl
theorem w_impl_upTo {n : Nat} {a0 : Int} {z0 : List V} (h : s_impl_upTo n a0 = some z0) : ∀ k, n + 1 ≤ k → sem E k 29 [(V.int .i64 (a0))] = some (V.fresh 3 (z0)) := by
  intro k hk
  obtain ⟨k, rfl⟩ : ∃ q, k = q + 1 := ⟨k - 1, by omega⟩
  unfold s_impl_upTo at h
  obtain ⟨u3_0, l3, h⟩ := bnd_some h
  replace h := Option.some.inj h
  obtain rfl := h
  refine pFun_by [.l .normal ⟨[(3, (V.row 7))], [(7, .row 3 (u3_0))]⟩] rfl (And.intro (lw_impl_upTo_b0 _ _ _ _ _ l3 k k (by omega) (by omega)) trivial) ?_
  kernel_rfl
theorem w_impl_Gutter_cells {n : Nat} {a0 : Int} {a1 : Int} {a2 : Nat → Int} {a3 : Int} {a4 : List V} {z0 : List V} (h : s_impl_Gutter_cells n a0 a1 a2 a3 a4 = some z0) : ∀ k, n + 2 ≤ k → sem E k 17 [(V.parts [(V.int .i8 (a0)), (V.int .i16 (a1)), (V.ints .i8 17 (a2)), (V.int .u32 (a3)), (V.sl (a4))])] = some (V.fresh 3 (z0)) := by
  intro k hk
  obtain ⟨k, rfl⟩ : ∃ q, k = q + 1 := ⟨k - 1, by omega⟩
  unfold s_impl_Gutter_cells at h
  obtain ⟨y1_0, q1, h⟩ := bnd_some h
  replace h := Option.some.inj h
  obtain rfl := h
  refine pFun_by [.v (V.fresh 3 (y1_0))] rfl (And.intro (w_impl_upTo q1 k (by omega)) trivial) ?_
  kernel_rfl
theorem w_impl_Gutter_hasLeaves {n : Nat} {a0 : Int} {a1 : Int} {a2 : Nat → Int} {a3 : Int} {a4 : List V} {a5 : Int} {z0 : Bool} (h : s_impl_Gutter_hasLeaves n a0 a1 a2 a3 a4 a5 = some z0) : ∀ k, n + 1 ≤ k → sem E k 18 [(V.parts [(V.int .i8 (a0)), (V.int .i16 (a1)), (V.ints .i8 17 (a2)), (V.int .u32 (a3)), (V.sl (a4))]), (V.int .i64 (a5))] = some (V.bool (z0)) := by
  intro k hk
  obtain ⟨k, rfl⟩ : ∃ q, k = q + 1 := ⟨k - 1, by omega⟩
  unfold s_impl_Gutter_hasLeaves at h
  obtain ⟨c1, h⟩ := chk_some h
  replace h := Option.some.inj h
  obtain rfl := h
  refine pFun_by [] rfl (And.intro c1 trivial) ?_
  kernel_rfl
theorem w_slices_Backward_Simpl_Pipe_impl_Pipe {n : Nat} {a0 : List V} {z0 : List V} (h : s_slices_Backward_Simpl_Pipe_impl_Pipe n a0 = some z0) : ∀ k, n + 1 ≤ k → sem E k 19 [(V.sl (a0))] = some (V.clo 30 [(V.ref [(V.sl (z0))] 0 (0) 1)]) := by
  intro k hk
  obtain ⟨k, rfl⟩ : ∃ q, k = q + 1 := ⟨k - 1, by omega⟩
  unfold s_slices_Backward_Simpl_Pipe_impl_Pipe at h
  replace h := Option.some.inj h
  obtain rfl := h
  refine pFun_by [] rfl trivial ?_
  kernel_rfl
theorem lw_impl_MirrorGutter_b0 : ∀ (n : Nat) (a0 : Int) (a1 : Int) (a2 : Int) (a3 : Int) (a4 : Nat → Int) (a5 : Int) (a6 : List V) (a7 : Int) (a8 : Int) (a9 : Nat → Int) (a10 : Int) (a11 : Int) (a12 : Int) (a13 : Nat → Int) (a14 : Int) (a15 : List V) (a16 : List V) (a17 : List V) (r : Int × Int × (Nat → Int) × Int × List V × Int × Int × (Nat → Int) × Int × Int × Int × (Nat → Int) × Int × List V × List V), l_impl_MirrorGutter_b0 n a0 a1 a2 a3 a4 a5 a6 a7 a8 a9 a10 a11 a12 a13 a14 a15 a16 a17 = some r → ∀ k m, n + 1 ≤ k → n ≤ m → LB E 7 0 k m ⟨[(1, (V.ptr 3 0 (0) 21)), (2, (V.ptr 5 0 (0) 21)), (4, (V.ptr 9 0 (0) 21)), (20, (V.row 41)), (21, (V.int .i64 (a0))), (22, (V.int .i64 (a1)))], [(3, .box [(V.int .i8 (a2)), (V.int .i16 (a3)), (V.ints .i8 17 (a4)), (V.int .u32 (a5)), (V.sl (a6))]), (5, .box [(V.int .i8 (a7)), (V.int .i16 (a8)), (V.ints .i8 17 (a9)), (V.int .u32 (a10)), (V.row 5013)]), (9, .box [(V.int .i8 (a11)), (V.int .i16 (a12)), (V.ints .i8 17 (a13)), (V.int .u32 (a14)), (V.row 9017)]), (41, .row 3 (a15)), (5013, .row 45 (a16)), (9017, .row 45 (a17))]⟩ = some (match r with | (o0, o1, o2, o3, o4, o5, o6, o7, o8, o9, o10, o11, o12, o13, o14) => (.normal, ⟨[(1, (V.ptr 3 0 (0) 21)), (2, (V.ptr 5 0 (0) 21)), (4, (V.ptr 9 0 (0) 21))], [(3, .box [(V.int .i8 (o0)), (V.int .i16 (o1)), (V.ints .i8 17 (o2)), (V.int .u32 (o3)), (V.sl (o4))]), (5, .box [(V.int .i8 (o5)), (V.int .i16 (o6)), (V.ints .i8 17 (o7)), (V.int .u32 (o8)), (V.row 5013)]), (9, .box [(V.int .i8 (o9)), (V.int .i16 (o10)), (V.ints .i8 17 (o11)), (V.int .u32 (o12)), (V.row 9017)]), (5013, .row 45 (o13)), (9017, .row 45 (o14))]⟩)) := by
  intro n
  induction n with
  | zero => intro a0 a1 a2 a3 a4 a5 a6 a7 a8 a9 a10 a11 a12 a13 a14 a15 a16 a17 r h; cases h
  | succ n ih =>
    intro a0 a1 a2 a3 a4 a5 a6 a7 a8 a9 a10 a11 a12 a13 a14 a15 a16 a17 r h k m hk hm
    obtain ⟨m, rfl⟩ : ∃ q, m = q + 1 := ⟨m - 1, by omega⟩
    replace hk : n + 1 ≤ k := by omega
    unfold l_impl_MirrorGutter_b0 at h
    rcases cnd_some h with ⟨h4, h⟩ | ⟨h4, h⟩
    · obtain ⟨c5, h⟩ := chk_some h
      obtain ⟨e6_0, g6, h⟩ := bnd_some h
      replace g6 := as_i64_some g6
      obtain ⟨c7, h⟩ := chk_some h
      obtain ⟨c8, h⟩ := chk_some h
      obtain ⟨y9_0, q9, h⟩ := bnd_some h
      rcases cnd_some h with ⟨h10, h⟩ | ⟨h10, h⟩
      · obtain ⟨c11, h⟩ := chk_some h
        refine pNext_by [.b true, .v (V.int .i64 (e6_0)), .v (V.bool (y9_0)), .b true] (And.intro h4 (And.intro c5 (And.intro g6 (And.intro c7 (And.intro c8 (And.intro (w_impl_Gutter_hasLeaves q9 k (by omega)) (And.intro h10 (And.intro c11 trivial)))))))) (ih _ _ _ _ _ _ _ _ _ _ _ _ _ _ _ _ _ _ _ h k m hk (by omega)) ?_
        kernel_rfl
      · refine pNext_by [.b true, .v (V.int .i64 (e6_0)), .v (V.bool (y9_0)), .b false] (And.intro h4 (And.intro c5 (And.intro g6 (And.intro c7 (And.intro c8 (And.intro (w_impl_Gutter_hasLeaves q9 k (by omega)) (And.intro h10 trivial))))))) (ih _ _ _ _ _ _ _ _ _ _ _ _ _ _ _ _ _ _ _ h k m hk (by omega)) ?_
        kernel_rfl
    · cases h
      refine pLast_by [.b false] (And.intro h4 trivial) ?_
      kernel_rfl
theorem lr_impl_MirrorGutter_rf : ∀ (ys : List V) (a0 : List V) (a1 : Int) (a2 : Int) (a3 : Nat → Int) (a4 : Int) (a5 : List V) (a6 : Int) (a7 : Int) (a8 : Nat → Int) (a9 : Int) (a10 : Int) (a11 : Int) (a12 : Nat → Int) (a13 : Int) (a14 : List V) (a15 : List V) (r : List V × Int × Int × (Nat → Int) × Int × List V × Int × Int × (Nat → Int) × Int × Int × Int × (Nat → Int) × Int × List V × List V), l_impl_MirrorGutter_rf ys a0 a1 a2 a3 a4 a5 a6 a7 a8 a9 a10 a11 a12 a13 a14 a15 = some r → ∀ k, 0 ≤ k → RG E 7 k ys ⟨[(1, (V.ptr 3 0 (0) 21)), (2, (V.ptr 5 0 (0) 21)), (4, (V.ptr 9 0 (0) 21)), (51, (V.clo 30 [(V.ref [(V.sl (a0))] 0 (0) 1)]))], [(3, .box [(V.int .i8 (a1)), (V.int .i16 (a2)), (V.ints .i8 17 (a3)), (V.int .u32 (a4)), (V.sl (a5))]), (5, .box [(V.int .i8 (a6)), (V.int .i16 (a7)), (V.ints .i8 17 (a8)), (V.int .u32 (a9)), (V.row 5013)]), (9, .box [(V.int .i8 (a10)), (V.int .i16 (a11)), (V.ints .i8 17 (a12)), (V.int .u32 (a13)), (V.row 9017)]), (5013, .row 45 (a14)), (9017, .row 45 (a15))]⟩ = some (match r with | (z0, z1, z2, z3, z4, z5, z6, z7, z8, z9, z10, z11, z12, z13, z14, z15) => ⟨[(1, (V.ptr 3 0 (0) 21)), (2, (V.ptr 5 0 (0) 21)), (4, (V.ptr 9 0 (0) 21)), (51, (V.clo 30 [(V.ref [(V.sl (z0))] 0 (0) 1)]))], [(3, .box [(V.int .i8 (z1)), (V.int .i16 (z2)), (V.ints .i8 17 (z3)), (V.int .u32 (z4)), (V.sl (z5))]), (5, .box [(V.int .i8 (z6)), (V.int .i16 (z7)), (V.ints .i8 17 (z8)), (V.int .u32 (z9)), (V.row 5013)]), (9, .box [(V.int .i8 (z10)), (V.int .i16 (z11)), (V.ints .i8 17 (z12)), (V.int .u32 (z13)), (V.row 9017)]), (5013, .row 45 (z14)), (9017, .row 45 (z15))]⟩) ∧ PK E 30 ys = true := by
  intro ys
  induction ys with
  | nil =>
    intro a0 a1 a2 a3 a4 a5 a6 a7 a8 a9 a10 a11 a12 a13 a14 a15 r h k hk
    obtain rfl := Option.some.inj h
    exact ⟨by kernel_rfl, by kernel_rfl⟩
  | cons y ys ih =>
    intro a0 a1 a2 a3 a4 a5 a6 a7 a8 a9 a10 a11 a12 a13 a14 a15 r h k hk
    unfold l_impl_MirrorGutter_rf at h
    obtain ⟨⟨x0, x1⟩, hy, h⟩ := bnd_some h
    replace hy := as_Pi8_i16Q_some hy
    obtain rfl := Option.some.inj hy
    obtain ⟨c15, h⟩ := chk_some h
    have ih2 := ih _ _ _ _ _ _ _ _ _ _ _ _ _ _ _ _ _ h k hk
    refine ⟨pRn_by [] ih2.1 (And.intro c15 (And.intro (Eq.refl true) trivial)) ?_, PK_cons ih2.2 (by kernel_rfl)⟩
    kernel_rfl
theorem rx_impl_MirrorGutter_rf {a0 : List V} {a1 : Int} {a2 : Int} {a3 : Nat → Int} {a4 : Int} {a5 : List V} {a6 : Int} {a7 : Int} {a8 : Nat → Int} {a9 : Int} {a10 : Int} {a11 : Int} {a12 : Nat → Int} {a13 : Int} {a14 : List V} {a15 : List V} {z0 : List V} {z1 : Int} {z2 : Int} {z3 : Nat → Int} {z4 : Int} {z5 : List V} {z6 : Int} {z7 : Int} {z8 : Nat → Int} {z9 : Int} {z10 : Int} {z11 : Int} {z12 : Nat → Int} {z13 : Int} {z14 : List V} {z15 : List V} (h : l_impl_MirrorGutter_rf a0.reverse a0 a1 a2 a3 a4 a5 a6 a7 a8 a9 a10 a11 a12 a13 a14 a15 = some (z0, z1, z2, z3, z4, z5, z6, z7, z8, z9, z10, z11, z12, z13, z14, z15)) : ∀ k, 0 ≤ k → RX E 7 k 30 a0 ⟨[(1, (V.ptr 3 0 (0) 21)), (2, (V.ptr 5 0 (0) 21)), (4, (V.ptr 9 0 (0) 21)), (51, (V.clo 30 [(V.ref [(V.sl (a0))] 0 (0) 1)]))], [(3, .box [(V.int .i8 (a1)), (V.int .i16 (a2)), (V.ints .i8 17 (a3)), (V.int .u32 (a4)), (V.sl (a5))]), (5, .box [(V.int .i8 (a6)), (V.int .i16 (a7)), (V.ints .i8 17 (a8)), (V.int .u32 (a9)), (V.row 5013)]), (9, .box [(V.int .i8 (a10)), (V.int .i16 (a11)), (V.ints .i8 17 (a12)), (V.int .u32 (a13)), (V.row 9017)]), (5013, .row 45 (a14)), (9017, .row 45 (a15))]⟩ = some (.normal, ⟨[(2, (V.ptr 5 0 (0) 21)), (4, (V.ptr 9 0 (0) 21))], [(5, .box [(V.int .i8 (z6)), (V.int .i16 (z7)), (V.ints .i8 17 (z8)), (V.int .u32 (z9)), (V.row 5013)]), (9, .box [(V.int .i8 (z10)), (V.int .i16 (z11)), (V.ints .i8 17 (z12)), (V.int .u32 (z13)), (V.row 9017)]), (5013, .row 45 (z14)), (9017, .row 45 (z15))]⟩) := by
  intro k hk
  have h1 := lr_impl_MirrorGutter_rf _ _ _ _ _ _ _ _ _ _ _ _ _ _ _ _ _ _ h k hk
  exact RX_of h1.1 h1.2 (by kernel_rfl)
theorem w_impl_MirrorGutter {n : Nat} {a0 : Int} {a1 : Int} {a2 : Nat → Int} {a3 : Int} {a4 : List V} {z0 : Int} {z1 : Int} {z2 : Nat → Int} {z3 : Int} {z4 : List V} {z5 : Int} (h : s_impl_MirrorGutter n a0 a1 a2 a3 a4 = some (z0, z1, z2, z3, z4, z5)) : ∀ k, n + 4 ≤ k → sem E k 7 [(V.parts [(V.int .i8 (a0)), (V.int .i16 (a1)), (V.ints .i8 17 (a2)), (V.int .u32 (a3)), (V.sl (a4))])] = some (V.tup [(V.parts [(V.int .i8 (z0)), (V.int .i16 (z1)), (V.ints .i8 17 (z2)), (V.int .u32 (z3)), (V.fresh 45 (z4))]), (V.int .i64 (z5))]) := by
  intro k hk
  obtain ⟨k, rfl⟩ : ∃ q, k = q + 1 := ⟨k - 1, by omega⟩
  unfold s_impl_MirrorGutter at h
  obtain ⟨y1_0, q1, h⟩ := bnd_some h
  rcases cnd_some h with ⟨h2, h⟩ | ⟨h2, h⟩
  · obtain ⟨y3_0, q3, h⟩ := bnd_some h
    obtain ⟨⟨u12_0, u12_1, u12_2, u12_3, u12_4, u12_5, u12_6, u12_7, u12_8, u12_9, u12_10, u12_11, u12_12, u12_13, u12_14⟩, l12, h⟩ := bnd_some h
    obtain ⟨y14_0, q14, h⟩ := bnd_some h
    obtain ⟨⟨u15_0, u15_1, u15_2, u15_3, u15_4, u15_5, u15_6, u15_7, u15_8, u15_9, u15_10, u15_11, u15_12, u15_13, u15_14, u15_15⟩, l17, h⟩ := bnd_some h
    simp only [Option.some.injEq, Prod.mk.injEq] at h
    obtain ⟨rfl, rfl, rfl, rfl, rfl, rfl⟩ := h
    refine pRf_by [.v (V.bool (y1_0)), .b false, .v (V.fresh 3 (y3_0)), .l .normal ⟨[(1, (V.ptr 3 0 (0) 21)), (2, (V.ptr 5 0 (0) 21)), (4, (V.ptr 9 0 (0) 21))], [(3, .box [(V.int .i8 (u12_0)), (V.int .i16 (u12_1)), (V.ints .i8 17 (u12_2)), (V.int .u32 (u12_3)), (V.sl (u12_4))]), (5, .box [(V.int .i8 (u12_5)), (V.int .i16 (u12_6)), (V.ints .i8 17 (u12_7)), (V.int .u32 (u12_8)), (V.row 5013)]), (9, .box [(V.int .i8 (u12_9)), (V.int .i16 (u12_10)), (V.ints .i8 17 (u12_11)), (V.int .u32 (u12_12)), (V.row 9017)]), (5013, .row 45 (u12_13)), (9017, .row 45 (u12_14))]⟩, .v (V.clo 30 [(V.ref [(V.sl (y14_0))] 0 (0) 1)]), .l .normal ⟨[(2, (V.ptr 5 0 (0) 21)), (4, (V.ptr 9 0 (0) 21))], [(5, .box [(V.int .i8 (u15_6)), (V.int .i16 (u15_7)), (V.ints .i8 17 (u15_8)), (V.int .u32 (u15_9)), (V.row 5013)]), (9, .box [(V.int .i8 (u15_10)), (V.int .i16 (u15_11)), (V.ints .i8 17 (u15_12)), (V.int .u32 (u15_13)), (V.row 9017)]), (5013, .row 45 (u15_14)), (9017, .row 45 (u15_15))]⟩] rfl (And.intro (w_impl_ValidGutter q1 k (by omega)) (And.intro (not_f h2) (And.intro (w_impl_Gutter_cells q3 k (by omega)) (And.intro (lw_impl_MirrorGutter_b0 _ _ _ _ _ _ _ _ _ _ _ _ _ _ _ _ _ _ _ _ l12 k k (by omega) (by omega)) (And.intro (w_slices_Backward_Simpl_Pipe_impl_Pipe q14 k (by omega)) (And.intro (rx_impl_MirrorGutter_rf l17 k (by omega)) trivial)))))) ?_
    kernel_rfl
  · simp only [Option.some.injEq, Prod.mk.injEq] at h
    obtain ⟨rfl, rfl, rfl, rfl, rfl, rfl⟩ := h
    refine pFun_by [.v (V.bool (y1_0)), .b true] rfl (And.intro (w_impl_ValidGutter q1 k (by omega)) (And.intro (not_t h2) trivial)) ?_
    kernel_rfl
theorem lw_laws_eqInt8A17_b0 : ∀ (n : Nat) (a0 : Int) (a1 : Nat → Int) (a2 : Nat → Int) (r : Sum (Unit) (Bool)), l_laws_eqInt8A17_b0 n a0 a1 a2 = some r → ∀ k m, n + 0 ≤ k → n ≤ m → LB E 20 0 k m ⟨[(2, (V.ptr 5 0 (0) 17)), (3, (V.ptr 7 0 (0) 17)), (5, (V.int .i64 (a0)))], [(5, .box [(V.ints .i8 17 (a1))]), (7, .box [(V.ints .i8 17 (a2))])]⟩ = some (match r with | .inl _ => (.normal, ⟨[], []⟩) | .inr o0 => (.ret, ⟨[(4, (V.bool (o0)))], []⟩)) := by
  intro n
  induction n with
  | zero => intro a0 a1 a2 r h; cases h
  | succ n ih =>
    intro a0 a1 a2 r h k m hk hm
    obtain ⟨m, rfl⟩ : ∃ q, m = q + 1 := ⟨m - 1, by omega⟩
    replace hk : n + 0 ≤ k := by omega
    unfold l_laws_eqInt8A17_b0 at h
    rcases cnd_some h with ⟨h1, h⟩ | ⟨h1, h⟩
    · obtain ⟨c2, h⟩ := chk_some h
      rcases cnd_some h with ⟨h3, h⟩ | ⟨h3, h⟩
      · refine pNext_by [.b true, .b false] (And.intro h1 (And.intro c2 (And.intro c2 (And.intro (not_f h3) trivial)))) (ih _ _ _ _ h k m hk (by omega)) ?_
        kernel_rfl
      · cases h
        refine pLast_by [.b true, .b true] (And.intro h1 (And.intro c2 (And.intro c2 (And.intro (not_t h3) trivial)))) ?_
        kernel_rfl
    · cases h
      refine pLast_by [.b false] (And.intro h1 trivial) ?_
      kernel_rfl
theorem w_laws_eqInt8A17 {n : Nat} {a0 : Nat → Int} {a1 : Nat → Int} {z0 : Bool} (h : s_laws_eqInt8A17 n a0 a1 = some z0) : ∀ k, n + 1 ≤ k → sem E k 20 [(V.ints .i8 17 (a0)), (V.ints .i8 17 (a1))] = some (V.bool (z0)) := by
  intro k hk
  obtain ⟨k, rfl⟩ : ∃ q, k = q + 1 := ⟨k - 1, by omega⟩
  unfold s_laws_eqInt8A17 at h
  obtain ⟨w, l4, h⟩ := bnd_some h
  rcases w with ⟨⟩ | u5_0
  · replace h := Option.some.inj h
    obtain rfl := h
    refine pFun_by [.l .normal ⟨[], []⟩] rfl (And.intro (lw_laws_eqInt8A17_b0 _ _ _ _ _ l4 k k (by omega) (by omega)) trivial) ?_
    kernel_rfl
  · replace h := Option.some.inj h
    obtain rfl := h
    refine pFun_by [.l .ret ⟨[(4, (V.bool (u5_0)))], []⟩] rfl (And.intro (lw_laws_eqInt8A17_b0 _ _ _ _ _ l4 k k (by omega) (by omega)) trivial) ?_
    kernel_rfl
theorem w_laws_eqPipe {n : Nat} {a0 : Int} {a1 : Int} {a2 : Int} {a3 : Int} {z0 : Bool} (h : s_laws_eqPipe n a0 a1 a2 a3 = some z0) : ∀ k, n + 1 ≤ k → sem E k 31 [(V.parts [(V.int .i8 (a0)), (V.int .i16 (a1))]), (V.parts [(V.int .i8 (a2)), (V.int .i16 (a3))])] = some (V.bool (z0)) := by
  intro k hk
  obtain ⟨k, rfl⟩ : ∃ q, k = q + 1 := ⟨k - 1, by omega⟩
  unfold s_laws_eqPipe at h
  rcases cnd_some h with ⟨h1, h⟩ | ⟨h1, h⟩
  · rcases cnd_some h with ⟨h2, h⟩ | ⟨h2, h⟩
    · replace h := Option.some.inj h
      obtain rfl := h
      refine pFun_by [.b false, .b false] rfl (And.intro (not_f h1) (And.intro (not_f h2) trivial)) ?_
      kernel_rfl
    · replace h := Option.some.inj h
      obtain rfl := h
      refine pFun_by [.b false, .b true] rfl (And.intro (not_f h1) (And.intro (not_t h2) trivial)) ?_
      kernel_rfl
  · replace h := Option.some.inj h
    obtain rfl := h
    refine pFun_by [.b true] rfl (And.intro (not_t h1) trivial) ?_
    kernel_rfl
theorem lw_laws_eqPipeS_b0 : ∀ (n : Nat) (a0 : List V) (a1 : List V) (a2 : Int) (r : Sum (Unit) (Bool)), l_laws_eqPipeS_b0 n a0 a1 a2 = some r → ∀ k m, n + 1 ≤ k → n ≤ m → LB E 21 0 k m ⟨[(0, (V.sl (a0))), (1, (V.sl (a1))), (5, (V.int .i64 (a2)))], []⟩ = some (match r with | .inl _ => (.normal, ⟨[], []⟩) | .inr o0 => (.ret, ⟨[(4, (V.bool (o0)))], []⟩)) := by
  intro n
  induction n with
  | zero => intro a0 a1 a2 r h; cases h
  | succ n ih =>
    intro a0 a1 a2 r h k m hk hm
    obtain ⟨m, rfl⟩ : ∃ q, m = q + 1 := ⟨m - 1, by omega⟩
    replace hk : n + 1 ≤ k := by omega
    unfold l_laws_eqPipeS_b0 at h
    rcases cnd_some h with ⟨h2, h⟩ | ⟨h2, h⟩
    · obtain ⟨⟨e3_0, e3_1⟩, g3, h⟩ := bnd_some h
      replace g3 := as_Pi8_i16Q_some g3
      obtain ⟨⟨e4_0, e4_1⟩, g4, h⟩ := bnd_some h
      replace g4 := as_Pi8_i16Q_some g4
      obtain ⟨y5_0, q5, h⟩ := bnd_some h
      rcases cnd_some h with ⟨h6, h⟩ | ⟨h6, h⟩
      · refine pNext_by [.b true, .v (V.parts [(V.int .i8 (e3_0)), (V.int .i16 (e3_1))]), .v (V.parts [(V.int .i8 (e4_0)), (V.int .i16 (e4_1))]), .v (V.bool (y5_0)), .b false] (And.intro h2 (And.intro g3 (And.intro g4 (And.intro (w_laws_eqPipe q5 k (by omega)) (And.intro (not_f h6) trivial))))) (ih _ _ _ _ h k m hk (by omega)) ?_
        kernel_rfl
      · cases h
        refine pLast_by [.b true, .v (V.parts [(V.int .i8 (e3_0)), (V.int .i16 (e3_1))]), .v (V.parts [(V.int .i8 (e4_0)), (V.int .i16 (e4_1))]), .v (V.bool (y5_0)), .b true] (And.intro h2 (And.intro g3 (And.intro g4 (And.intro (w_laws_eqPipe q5 k (by omega)) (And.intro (not_t h6) trivial))))) ?_
        kernel_rfl
    · cases h
      refine pLast_by [.b false] (And.intro h2 trivial) ?_
      kernel_rfl
theorem w_laws_eqPipeS {n : Nat} {a0 : List V} {a1 : List V} {z0 : Bool} (h : s_laws_eqPipeS n a0 a1 = some z0) : ∀ k, n + 2 ≤ k → sem E k 21 [(V.sl (a0)), (V.sl (a1))] = some (V.bool (z0)) := by
  intro k hk
  obtain ⟨k, rfl⟩ : ∃ q, k = q + 1 := ⟨k - 1, by omega⟩
  unfold s_laws_eqPipeS at h
  rcases cnd_some h with ⟨h1, h⟩ | ⟨h1, h⟩
  · obtain ⟨w, l7, h⟩ := bnd_some h
    rcases w with ⟨⟩ | u8_0
    · replace h := Option.some.inj h
      obtain rfl := h
      refine pFun_by [.b false, .l .normal ⟨[], []⟩] rfl (And.intro (not_f h1) (And.intro (lw_laws_eqPipeS_b0 _ _ _ _ _ l7 k k (by omega) (by omega)) trivial)) ?_
      kernel_rfl
    · replace h := Option.some.inj h
      obtain rfl := h
      refine pFun_by [.b false, .l .ret ⟨[(4, (V.bool (u8_0)))], []⟩] rfl (And.intro (not_f h1) (And.intro (lw_laws_eqPipeS_b0 _ _ _ _ _ l7 k k (by omega) (by omega)) trivial)) ?_
      kernel_rfl
  · replace h := Option.some.inj h
    obtain rfl := h
    refine pFun_by [.b true] rfl (And.intro (not_t h1) trivial) ?_
    kernel_rfl
theorem w_laws_eqGutter {n : Nat} {a0 : Int} {a1 : Int} {a2 : Nat → Int} {a3 : Int} {a4 : List V} {a5 : Int} {a6 : Int} {a7 : Nat → Int} {a8 : Int} {a9 : List V} {z0 : Bool} (h : s_laws_eqGutter n a0 a1 a2 a3 a4 a5 a6 a7 a8 a9 = some z0) : ∀ k, n + 3 ≤ k → sem E k 8 [(V.parts [(V.int .i8 (a0)), (V.int .i16 (a1)), (V.ints .i8 17 (a2)), (V.int .u32 (a3)), (V.sl (a4))]), (V.parts [(V.int .i8 (a5)), (V.int .i16 (a6)), (V.ints .i8 17 (a7)), (V.int .u32 (a8)), (V.sl (a9))])] = some (V.bool (z0)) := by
  intro k hk
  obtain ⟨k, rfl⟩ : ∃ q, k = q + 1 := ⟨k - 1, by omega⟩
  unfold s_laws_eqGutter at h
  rcases cnd_some h with ⟨h1, h⟩ | ⟨h1, h⟩
  · rcases cnd_some h with ⟨h2, h⟩ | ⟨h2, h⟩
    · obtain ⟨y3_0, q3, h⟩ := bnd_some h
      rcases cnd_some h with ⟨h4, h⟩ | ⟨h4, h⟩
      · rcases cnd_some h with ⟨h5, h⟩ | ⟨h5, h⟩
        · obtain ⟨y6_0, q6, h⟩ := bnd_some h
          rcases cnd_some h with ⟨h7, h⟩ | ⟨h7, h⟩
          · replace h := Option.some.inj h
            obtain rfl := h
            refine pFun_by [.b false, .b false, .v (V.bool (y3_0)), .b false, .b false, .v (V.bool (y6_0)), .b false] rfl (And.intro (not_f h1) (And.intro (not_f h2) (And.intro (w_laws_eqInt8A17 q3 k (by omega)) (And.intro (not_f h4) (And.intro (not_f h5) (And.intro (w_laws_eqPipeS q6 k (by omega)) (And.intro (not_f h7) trivial))))))) ?_
            kernel_rfl
          · replace h := Option.some.inj h
            obtain rfl := h
            refine pFun_by [.b false, .b false, .v (V.bool (y3_0)), .b false, .b false, .v (V.bool (y6_0)), .b true] rfl (And.intro (not_f h1) (And.intro (not_f h2) (And.intro (w_laws_eqInt8A17 q3 k (by omega)) (And.intro (not_f h4) (And.intro (not_f h5) (And.intro (w_laws_eqPipeS q6 k (by omega)) (And.intro (not_t h7) trivial))))))) ?_
            kernel_rfl
        · replace h := Option.some.inj h
          obtain rfl := h
          refine pFun_by [.b false, .b false, .v (V.bool (y3_0)), .b false, .b true] rfl (And.intro (not_f h1) (And.intro (not_f h2) (And.intro (w_laws_eqInt8A17 q3 k (by omega)) (And.intro (not_f h4) (And.intro (not_t h5) trivial))))) ?_
          kernel_rfl
      · replace h := Option.some.inj h
        obtain rfl := h
        refine pFun_by [.b false, .b false, .v (V.bool (y3_0)), .b true] rfl (And.intro (not_f h1) (And.intro (not_f h2) (And.intro (w_laws_eqInt8A17 q3 k (by omega)) (And.intro (not_t h4) trivial)))) ?_
        kernel_rfl
    · replace h := Option.some.inj h
      obtain rfl := h
      refine pFun_by [.b false, .b true] rfl (And.intro (not_f h1) (And.intro (not_t h2) trivial)) ?_
      kernel_rfl
  · replace h := Option.some.inj h
    obtain rfl := h
    refine pFun_by [.b true] rfl (And.intro (not_t h1) trivial) ?_
    kernel_rfl
theorem lw_laws_markPipeS_b0 : ∀ (n : Nat) (a0 : Int) (a1 : Int) (a2 : List V) (r : Int × List V), l_laws_markPipeS_b0 n a0 a1 a2 = some r → ∀ k m, n + 0 ≤ k → n ≤ m → LB E 22 0 k m ⟨[(0, (V.row 1)), (1, (V.int .i64 (a0))), (5, (V.int .i64 (a1)))], [(1, .row 45 (a2))]⟩ = some (match r with | (o0, o1) => (.normal, ⟨[(0, (V.row 1)), (1, (V.int .i64 (o0)))], [(1, .row 45 (o1))]⟩)) := by
  intro n
  induction n with
  | zero => intro a0 a1 a2 r h; cases h
  | succ n ih =>
    intro a0 a1 a2 r h k m hk hm
    obtain ⟨m, rfl⟩ : ∃ q, m = q + 1 := ⟨m - 1, by omega⟩
    replace hk : n + 0 ≤ k := by omega
    unfold l_laws_markPipeS_b0 at h
    rcases cnd_some h with ⟨h1, h⟩ | ⟨h1, h⟩
    · obtain ⟨c2, h⟩ := chk_some h
      obtain ⟨⟨e3_0, e3_1⟩, g3, h⟩ := bnd_some h
      replace g3 := as_Pi8_i16Q_some g3
      obtain ⟨⟨e4_0, e4_1⟩, g4, h⟩ := bnd_some h
      replace g4 := as_Pi8_i16Q_some g4
      obtain ⟨c5, h⟩ := chk_some h
      obtain ⟨⟨e6_0, e6_1⟩, g6, h⟩ := bnd_some h
      replace g6 := as_Pi8_i16Q_some g6
      obtain ⟨⟨e7_0, e7_1⟩, g7, h⟩ := bnd_some h
      replace g7 := as_Pi8_i16Q_some g7
      refine pNext_by [.b true, .v (V.parts [(V.int .i8 (e3_0)), (V.int .i16 (e3_1))]), .v (V.parts [(V.int .i8 (e4_0)), (V.int .i16 (e4_1))]), .v (V.parts [(V.int .i8 (e6_0)), (V.int .i16 (e6_1))]), .v (V.parts [(V.int .i8 (e7_0)), (V.int .i16 (e7_1))])] (And.intro h1 (And.intro c2 (And.intro g3 (And.intro g4 (And.intro c5 (And.intro g6 (And.intro g7 trivial))))))) (ih _ _ _ _ h k m hk (by omega)) ?_
      kernel_rfl
    · cases h
      refine pLast_by [.b false] (And.intro h1 trivial) ?_
      kernel_rfl
theorem w_laws_markPipeS {n : Nat} {a0 : List V} {a1 : Int} {z0 : Int} {z1 : List V} (h : s_laws_markPipeS n a0 a1 = some (z0, z1)) : ∀ k, n + 1 ≤ k → sem E k (muBase + 22) [(V.fresh 45 (a0)), (V.int .i64 (a1))] = some (V.tup [(V.int .i64 (z0)), (V.fresh 45 (z1))]) := by
  intro k hk
  obtain ⟨k, rfl⟩ : ∃ q, k = q + 1 := ⟨k - 1, by omega⟩
  unfold s_laws_markPipeS at h
  obtain ⟨⟨u8_0, u8_1⟩, l8, h⟩ := bnd_some h
  simp only [Option.some.injEq, Prod.mk.injEq] at h
  obtain ⟨rfl, rfl⟩ := h
  refine pMu_by [.l .normal ⟨[(0, (V.row 1)), (1, (V.int .i64 (u8_0)))], [(1, .row 45 (u8_1))]⟩] rfl rfl rfl (And.intro (lw_laws_markPipeS_b0 _ _ _ _ _ l8 k k (by omega) (by omega)) trivial) ?_
  kernel_rfl
theorem w_laws_markGutter {n : Nat} {a0 : Int} {a1 : Int} {a2 : Nat → Int} {a3 : Int} {a4 : List V} {a5 : Int} {z0 : Int} {z1 : List V} (h : s_laws_markGutter n a0 a1 a2 a3 a4 a5 = some (z0, z1)) : ∀ k, n + 2 ≤ k → sem E k (muBase + 9) [(V.parts [(V.int .i8 (a0)), (V.int .i16 (a1)), (V.ints .i8 17 (a2)), (V.int .u32 (a3)), (V.fresh 45 (a4))]), (V.int .i64 (a5))] = some (V.tup [(V.int .i64 (z0)), (V.fresh 45 (z1))]) := by
  intro k hk
  obtain ⟨k, rfl⟩ : ∃ q, k = q + 1 := ⟨k - 1, by omega⟩
  unfold s_laws_markGutter at h
  obtain ⟨⟨y1_0, y1_1⟩, q1, h⟩ := bnd_some h
  obtain ⟨c2, h⟩ := chk_some h
  simp only [Option.some.injEq, Prod.mk.injEq] at h
  obtain ⟨rfl, rfl⟩ := h
  refine pMu_by [.v (V.tup [(V.int .i64 (y1_0)), (V.fresh 45 (y1_1))])] rfl rfl rfl (And.intro (w_laws_markPipeS q1 k (by omega)) (And.intro c2 trivial)) ?_
  kernel_rfl
theorem lw_laws_heldPipeS_b0 : ∀ (n : Nat) (a0 : List V) (a1 : Int) (a2 : Int) (r : Sum (Int) (Int)), l_laws_heldPipeS_b0 n a0 a1 a2 = some r → ∀ k m, n + 0 ≤ k → n ≤ m → LB E 23 0 k m ⟨[(0, (V.sl (a0))), (1, (V.int .i64 (a1))), (5, (V.int .i64 (a2)))], []⟩ = some (match r with | .inl o0 => (.normal, ⟨[(1, (V.int .i64 (o0)))], []⟩) | .inr o0 => (.ret, ⟨[(4, (V.int .i64 (o0)))], []⟩)) := by
  intro n
  induction n with
  | zero => intro a0 a1 a2 r h; cases h
  | succ n ih =>
    intro a0 a1 a2 r h k m hk hm
    obtain ⟨m, rfl⟩ : ∃ q, m = q + 1 := ⟨m - 1, by omega⟩
    replace hk : n + 0 ≤ k := by omega
    unfold l_laws_heldPipeS_b0 at h
    rcases cnd_some h with ⟨h1, h⟩ | ⟨h1, h⟩
    · obtain ⟨⟨e2_0, e2_1⟩, g2, h⟩ := bnd_some h
      replace g2 := as_Pi8_i16Q_some g2
      rcases cnd_some h with ⟨h3, h⟩ | ⟨h3, h⟩
      · obtain ⟨⟨e4_0, e4_1⟩, g4, h⟩ := bnd_some h
        replace g4 := as_Pi8_i16Q_some g4
        rcases cnd_some h with ⟨h5, h⟩ | ⟨h5, h⟩
        · refine pNext_by [.b true, .v (V.parts [(V.int .i8 (e2_0)), (V.int .i16 (e2_1))]), .b false, .v (V.parts [(V.int .i8 (e4_0)), (V.int .i16 (e4_1))]), .b false] (And.intro h1 (And.intro g2 (And.intro (not_f h3) (And.intro g4 (And.intro (not_f h5) trivial))))) (ih _ _ _ _ h k m hk (by omega)) ?_
          kernel_rfl
        · cases h
          refine pLast_by [.b true, .v (V.parts [(V.int .i8 (e2_0)), (V.int .i16 (e2_1))]), .b false, .v (V.parts [(V.int .i8 (e4_0)), (V.int .i16 (e4_1))]), .b true] (And.intro h1 (And.intro g2 (And.intro (not_f h3) (And.intro g4 (And.intro (not_t h5) trivial))))) ?_
          kernel_rfl
      · cases h
        refine pLast_by [.b true, .v (V.parts [(V.int .i8 (e2_0)), (V.int .i16 (e2_1))]), .b true] (And.intro h1 (And.intro g2 (And.intro (not_t h3) trivial))) ?_
        kernel_rfl
    · cases h
      refine pLast_by [.b false] (And.intro h1 trivial) ?_
      kernel_rfl
theorem w_laws_heldPipeS {n : Nat} {a0 : List V} {a1 : Int} {z0 : Int} (h : s_laws_heldPipeS n a0 a1 = some z0) : ∀ k, n + 1 ≤ k → sem E k 23 [(V.sl (a0)), (V.int .i64 (a1))] = some (V.int .i64 (z0)) := by
  intro k hk
  obtain ⟨k, rfl⟩ : ∃ q, k = q + 1 := ⟨k - 1, by omega⟩
  unfold s_laws_heldPipeS at h
  obtain ⟨w, l6, h⟩ := bnd_some h
  rcases w with u6_0 | u7_0
  · replace h := Option.some.inj h
    obtain rfl := h
    refine pFun_by [.l .normal ⟨[(1, (V.int .i64 (u6_0)))], []⟩] rfl (And.intro (lw_laws_heldPipeS_b0 _ _ _ _ _ l6 k k (by omega) (by omega)) trivial) ?_
    kernel_rfl
  · replace h := Option.some.inj h
    obtain rfl := h
    refine pFun_by [.l .ret ⟨[(4, (V.int .i64 (u7_0)))], []⟩] rfl (And.intro (lw_laws_heldPipeS_b0 _ _ _ _ _ l6 k k (by omega) (by omega)) trivial) ?_
    kernel_rfl
theorem w_laws_heldGutter {n : Nat} {a0 : Int} {a1 : Int} {a2 : Nat → Int} {a3 : Int} {a4 : List V} {a5 : Int} {z0 : Int} (h : s_laws_heldGutter n a0 a1 a2 a3 a4 a5 = some z0) : ∀ k, n + 2 ≤ k → sem E k 10 [(V.parts [(V.int .i8 (a0)), (V.int .i16 (a1)), (V.ints .i8 17 (a2)), (V.int .u32 (a3)), (V.sl (a4))]), (V.int .i64 (a5))] = some (V.int .i64 (z0)) := by
  intro k hk
  obtain ⟨k, rfl⟩ : ∃ q, k = q + 1 := ⟨k - 1, by omega⟩
  unfold s_laws_heldGutter at h
  obtain ⟨y1_0, q1, h⟩ := bnd_some h
  rcases cnd_some h with ⟨h2, h⟩ | ⟨h2, h⟩
  · replace h := Option.some.inj h
    obtain rfl := h
    refine pFun_by [.v (V.int .i64 (y1_0)), .b true] rfl (And.intro (w_laws_heldPipeS q1 k (by omega)) (And.intro h2 trivial)) ?_
    kernel_rfl
  · replace h := Option.some.inj h
    obtain rfl := h
    refine pFun_by [.v (V.int .i64 (y1_0)), .b false] rfl (And.intro (w_laws_heldPipeS q1 k (by omega)) (And.intro h2 trivial)) ?_
    kernel_rfl
theorem w_laws_FnExactMirrorGutter {n : Nat} {a0 : Int} {a1 : Int} {a2 : Nat → Int} {a3 : Int} {a4 : List V} {z0 : Bool} (h : s_laws_FnExactMirrorGutter n a0 a1 a2 a3 a4 = some z0) : ∀ k, n + 5 ≤ k → sem E k 3 [(V.parts [(V.int .i8 (a0)), (V.int .i16 (a1)), (V.ints .i8 17 (a2)), (V.int .u32 (a3)), (V.sl (a4))])] = some (V.bool (z0)) := by
  intro k hk
  obtain ⟨k, rfl⟩ : ∃ q, k = q + 1 := ⟨k - 1, by omega⟩
  unfold s_laws_FnExactMirrorGutter at h
  obtain ⟨y1_0, q1, h⟩ := bnd_some h
  rcases cnd_some h with ⟨h2, h⟩ | ⟨h2, h⟩
  · replace h := Option.some.inj h
    obtain rfl := h
    refine pFun_by [.v (V.int .i64 (y1_0)), .b true] rfl (And.intro (w_laws_szGutter q1 k (by omega)) (And.intro h2 trivial)) ?_
    kernel_rfl
  · obtain ⟨⟨y3_0, y3_1, y3_2, y3_3, y3_4⟩, q3, h⟩ := bnd_some h
    obtain ⟨⟨y4_0, y4_1, y4_2, y4_3, y4_4, y4_5⟩, q4, h⟩ := bnd_some h
    obtain ⟨c5, h⟩ := chk_some h
    obtain ⟨⟨y6_0, y6_1, y6_2, y6_3, y6_4⟩, q6, h⟩ := bnd_some h
    obtain ⟨⟨y7_0, y7_1, y7_2, y7_3, y7_4, y7_5⟩, q7, h⟩ := bnd_some h
    obtain ⟨c8, h⟩ := chk_some h
    obtain ⟨y9_0, q9, h⟩ := bnd_some h
    rcases cnd_some h with ⟨h10, h⟩ | ⟨h10, h⟩
    · rcases cnd_some h with ⟨h11, h⟩ | ⟨h11, h⟩
      · obtain ⟨⟨y12_0, y12_1, y12_2, y12_3, y12_4⟩, q12, h⟩ := bnd_some h
        obtain ⟨y13_0, q13, h⟩ := bnd_some h
        rcases cnd_some h with ⟨h14, h⟩ | ⟨h14, h⟩
        · obtain ⟨⟨y15_0, y15_1⟩, q15, h⟩ := bnd_some h
          obtain ⟨c16, h⟩ := chk_some h
          rcases cnd_some h with ⟨h17, h⟩ | ⟨h17, h⟩
          · replace h := Option.some.inj h
            obtain rfl := h
            refine pFun_by [.v (V.int .i64 (y1_0)), .b false, .v (V.parts [(V.int .i8 (y3_0)), (V.int .i16 (y3_1)), (V.ints .i8 17 (y3_2)), (V.int .u32 (y3_3)), (V.fresh 45 (y3_4))]), .v (V.tup [(V.parts [(V.int .i8 (y4_0)), (V.int .i16 (y4_1)), (V.ints .i8 17 (y4_2)), (V.int .u32 (y4_3)), (V.fresh 45 (y4_4))]), (V.int .i64 (y4_5))]), .v (V.parts [(V.int .i8 (y6_0)), (V.int .i16 (y6_1)), (V.ints .i8 17 (y6_2)), (V.int .u32 (y6_3)), (V.fresh 45 (y6_4))]), .v (V.tup [(V.parts [(V.int .i8 (y7_0)), (V.int .i16 (y7_1)), (V.ints .i8 17 (y7_2)), (V.int .u32 (y7_3)), (V.fresh 45 (y7_4))]), (V.int .i64 (y7_5))]), .v (V.bool (y9_0)), .b false, .b false, .v (V.parts [(V.int .i8 (y12_0)), (V.int .i16 (y12_1)), (V.ints .i8 17 (y12_2)), (V.int .u32 (y12_3)), (V.fresh 45 (y12_4))]), .v (V.bool (y13_0)), .b false, .v (V.tup [(V.int .i64 (y15_0)), (V.fresh 45 (y15_1))]), .b true, .b true, .b true] rfl (And.intro (w_laws_szGutter q1 k (by omega)) (And.intro h2 (And.intro (w_laws_toGutter q3 k (by omega)) (And.intro (w_spec_MirrorGutter q4 k (by omega)) (And.intro c5 (And.intro (w_laws_toGutter q6 k (by omega)) (And.intro (w_impl_MirrorGutter q7 k (by omega)) (And.intro c8 (And.intro (w_laws_eqGutter q9 k (by omega)) (And.intro (Eq.refl true) (And.intro (not_f h10) (And.intro (not_f h11) (And.intro (w_laws_toGutter q12 k (by omega)) (And.intro (w_laws_eqGutter q13 k (by omega)) (And.intro (Eq.refl true) (And.intro (not_f h14) (And.intro (w_laws_markGutter q15 k (by omega)) (And.intro c16 (And.intro h17 (And.intro (Eq.refl true) (And.intro (Eq.refl true) trivial))))))))))))))))))))) ?_
            kernel_rfl
          · obtain ⟨y18_0, q18, h⟩ := bnd_some h
            rcases cnd_some h with ⟨h19, h⟩ | ⟨h19, h⟩
            · obtain ⟨⟨y20_0, y20_1⟩, q20, h⟩ := bnd_some h
              obtain ⟨c21, h⟩ := chk_some h
              obtain ⟨y22_0, q22, h⟩ := bnd_some h
              rcases cnd_some h with ⟨h23, h⟩ | ⟨h23, h⟩
              · replace h := Option.some.inj h
                obtain rfl := h
                refine pFun_by [.v (V.int .i64 (y1_0)), .b false, .v (V.parts [(V.int .i8 (y3_0)), (V.int .i16 (y3_1)), (V.ints .i8 17 (y3_2)), (V.int .u32 (y3_3)), (V.fresh 45 (y3_4))]), .v (V.tup [(V.parts [(V.int .i8 (y4_0)), (V.int .i16 (y4_1)), (V.ints .i8 17 (y4_2)), (V.int .u32 (y4_3)), (V.fresh 45 (y4_4))]), (V.int .i64 (y4_5))]), .v (V.parts [(V.int .i8 (y6_0)), (V.int .i16 (y6_1)), (V.ints .i8 17 (y6_2)), (V.int .u32 (y6_3)), (V.fresh 45 (y6_4))]), .v (V.tup [(V.parts [(V.int .i8 (y7_0)), (V.int .i16 (y7_1)), (V.ints .i8 17 (y7_2)), (V.int .u32 (y7_3)), (V.fresh 45 (y7_4))]), (V.int .i64 (y7_5))]), .v (V.bool (y9_0)), .b false, .b false, .v (V.parts [(V.int .i8 (y12_0)), (V.int .i16 (y12_1)), (V.ints .i8 17 (y12_2)), (V.int .u32 (y12_3)), (V.fresh 45 (y12_4))]), .v (V.bool (y13_0)), .b false, .v (V.tup [(V.int .i64 (y15_0)), (V.fresh 45 (y15_1))]), .b false, .v (V.bool (y18_0)), .b false, .b false, .v (V.tup [(V.int .i64 (y20_0)), (V.fresh 45 (y20_1))]), .v (V.int .i64 (y22_0)), .b true] rfl (And.intro (w_laws_szGutter q1 k (by omega)) (And.intro h2 (And.intro (w_laws_toGutter q3 k (by omega)) (And.intro (w_spec_MirrorGutter q4 k (by omega)) (And.intro c5 (And.intro (w_laws_toGutter q6 k (by omega)) (And.intro (w_impl_MirrorGutter q7 k (by omega)) (And.intro c8 (And.intro (w_laws_eqGutter q9 k (by omega)) (And.intro (Eq.refl true) (And.intro (not_f h10) (And.intro (not_f h11) (And.intro (w_laws_toGutter q12 k (by omega)) (And.intro (w_laws_eqGutter q13 k (by omega)) (And.intro (Eq.refl true) (And.intro (not_f h14) (And.intro (w_laws_markGutter q15 k (by omega)) (And.intro c16 (And.intro h17 (And.intro (w_laws_eqGutter q18 k (by omega)) (And.intro (Eq.refl true) (And.intro (not_f h19) (And.intro (not_f h11) (And.intro (w_laws_markGutter q20 k (by omega)) (And.intro c21 (And.intro (w_laws_heldGutter q22 k (by omega)) (And.intro (Eq.refl true) (And.intro h23 trivial)))))))))))))))))))))))))))) ?_
                kernel_rfl
              · rcases cnd_some h with ⟨h24, h⟩ | ⟨h24, h⟩
                · obtain ⟨⟨y25_0, y25_1, y25_2, y25_3, y25_4⟩, q25, h⟩ := bnd_some h
                  obtain ⟨⟨y26_0, y26_1, y26_2, y26_3, y26_4, y26_5⟩, q26, h⟩ := bnd_some h
                  obtain ⟨c27, h⟩ := chk_some h
                  obtain ⟨y28_0, q28, h⟩ := bnd_some h
                  rcases cnd_some h with ⟨h29, h⟩ | ⟨h29, h⟩
                  · rcases cnd_some h with ⟨h30, h⟩ | ⟨h30, h⟩
                    · obtain ⟨y31_0, q31, h⟩ := bnd_some h
                      rcases cnd_some h with ⟨h32, h⟩ | ⟨h32, h⟩
                      · replace h := Option.some.inj h
                        obtain rfl := h
                        refine pFun_by [.v (V.int .i64 (y1_0)), .b false, .v (V.parts [(V.int .i8 (y3_0)), (V.int .i16 (y3_1)), (V.ints .i8 17 (y3_2)), (V.int .u32 (y3_3)), (V.fresh 45 (y3_4))]), .v (V.tup [(V.parts [(V.int .i8 (y4_0)), (V.int .i16 (y4_1)), (V.ints .i8 17 (y4_2)), (V.int .u32 (y4_3)), (V.fresh 45 (y4_4))]), (V.int .i64 (y4_5))]), .v (V.parts [(V.int .i8 (y6_0)), (V.int .i16 (y6_1)), (V.ints .i8 17 (y6_2)), (V.int .u32 (y6_3)), (V.fresh 45 (y6_4))]), .v (V.tup [(V.parts [(V.int .i8 (y7_0)), (V.int .i16 (y7_1)), (V.ints .i8 17 (y7_2)), (V.int .u32 (y7_3)), (V.fresh 45 (y7_4))]), (V.int .i64 (y7_5))]), .v (V.bool (y9_0)), .b false, .b false, .v (V.parts [(V.int .i8 (y12_0)), (V.int .i16 (y12_1)), (V.ints .i8 17 (y12_2)), (V.int .u32 (y12_3)), (V.fresh 45 (y12_4))]), .v (V.bool (y13_0)), .b false, .v (V.tup [(V.int .i64 (y15_0)), (V.fresh 45 (y15_1))]), .b false, .v (V.bool (y18_0)), .b false, .b false, .v (V.tup [(V.int .i64 (y20_0)), (V.fresh 45 (y20_1))]), .v (V.int .i64 (y22_0)), .b false, .b false, .v (V.parts [(V.int .i8 (y25_0)), (V.int .i16 (y25_1)), (V.ints .i8 17 (y25_2)), (V.int .u32 (y25_3)), (V.fresh 45 (y25_4))]), .v (V.tup [(V.parts [(V.int .i8 (y26_0)), (V.int .i16 (y26_1)), (V.ints .i8 17 (y26_2)), (V.int .u32 (y26_3)), (V.fresh 45 (y26_4))]), (V.int .i64 (y26_5))]), .v (V.bool (y28_0)), .b false, .b false, .v (V.int .i64 (y31_0)), .b true] rfl (And.intro (w_laws_szGutter q1 k (by omega)) (And.intro h2 (And.intro (w_laws_toGutter q3 k (by omega)) (And.intro (w_spec_MirrorGutter q4 k (by omega)) (And.intro c5 (And.intro (w_laws_toGutter q6 k (by omega)) (And.intro (w_impl_MirrorGutter q7 k (by omega)) (And.intro c8 (And.intro (w_laws_eqGutter q9 k (by omega)) (And.intro (Eq.refl true) (And.intro (not_f h10) (And.intro (not_f h11) (And.intro (w_laws_toGutter q12 k (by omega)) (And.intro (w_laws_eqGutter q13 k (by omega)) (And.intro (Eq.refl true) (And.intro (not_f h14) (And.intro (w_laws_markGutter q15 k (by omega)) (And.intro c16 (And.intro h17 (And.intro (w_laws_eqGutter q18 k (by omega)) (And.intro (Eq.refl true) (And.intro (not_f h19) (And.intro (not_f h11) (And.intro (w_laws_markGutter q20 k (by omega)) (And.intro c21 (And.intro (w_laws_heldGutter q22 k (by omega)) (And.intro (Eq.refl true) (And.intro h23 (And.intro (not_f h24) (And.intro (w_laws_toGutter q25 k (by omega)) (And.intro (w_impl_MirrorGutter q26 k (by omega)) (And.intro c27 (And.intro (w_laws_eqGutter q28 k (by omega)) (And.intro (Eq.refl true) (And.intro (not_f h29) (And.intro (not_f h30) (And.intro (w_laws_heldGutter q31 k (by omega)) (And.intro (Eq.refl true) (And.intro h32 trivial))))))))))))))))))))))))))))))))))))))) ?_
                        kernel_rfl
                      · rcases cnd_some h with ⟨h33, h⟩ | ⟨h33, h⟩
                        · replace h := Option.some.inj h
                          obtain rfl := h
                          refine pFun_by [.v (V.int .i64 (y1_0)), .b false, .v (V.parts [(V.int .i8 (y3_0)), (V.int .i16 (y3_1)), (V.ints .i8 17 (y3_2)), (V.int .u32 (y3_3)), (V.fresh 45 (y3_4))]), .v (V.tup [(V.parts [(V.int .i8 (y4_0)), (V.int .i16 (y4_1)), (V.ints .i8 17 (y4_2)), (V.int .u32 (y4_3)), (V.fresh 45 (y4_4))]), (V.int .i64 (y4_5))]), .v (V.parts [(V.int .i8 (y6_0)), (V.int .i16 (y6_1)), (V.ints .i8 17 (y6_2)), (V.int .u32 (y6_3)), (V.fresh 45 (y6_4))]), .v (V.tup [(V.parts [(V.int .i8 (y7_0)), (V.int .i16 (y7_1)), (V.ints .i8 17 (y7_2)), (V.int .u32 (y7_3)), (V.fresh 45 (y7_4))]), (V.int .i64 (y7_5))]), .v (V.bool (y9_0)), .b false, .b false, .v (V.parts [(V.int .i8 (y12_0)), (V.int .i16 (y12_1)), (V.ints .i8 17 (y12_2)), (V.int .u32 (y12_3)), (V.fresh 45 (y12_4))]), .v (V.bool (y13_0)), .b false, .v (V.tup [(V.int .i64 (y15_0)), (V.fresh 45 (y15_1))]), .b false, .v (V.bool (y18_0)), .b false, .b false, .v (V.tup [(V.int .i64 (y20_0)), (V.fresh 45 (y20_1))]), .v (V.int .i64 (y22_0)), .b false, .b false, .v (V.parts [(V.int .i8 (y25_0)), (V.int .i16 (y25_1)), (V.ints .i8 17 (y25_2)), (V.int .u32 (y25_3)), (V.fresh 45 (y25_4))]), .v (V.tup [(V.parts [(V.int .i8 (y26_0)), (V.int .i16 (y26_1)), (V.ints .i8 17 (y26_2)), (V.int .u32 (y26_3)), (V.fresh 45 (y26_4))]), (V.int .i64 (y26_5))]), .v (V.bool (y28_0)), .b false, .b false, .v (V.int .i64 (y31_0)), .b false, .b false] rfl (And.intro (w_laws_szGutter q1 k (by omega)) (And.intro h2 (And.intro (w_laws_toGutter q3 k (by omega)) (And.intro (w_spec_MirrorGutter q4 k (by omega)) (And.intro c5 (And.intro (w_laws_toGutter q6 k (by omega)) (And.intro (w_impl_MirrorGutter q7 k (by omega)) (And.intro c8 (And.intro (w_laws_eqGutter q9 k (by omega)) (And.intro (Eq.refl true) (And.intro (not_f h10) (And.intro (not_f h11) (And.intro (w_laws_toGutter q12 k (by omega)) (And.intro (w_laws_eqGutter q13 k (by omega)) (And.intro (Eq.refl true) (And.intro (not_f h14) (And.intro (w_laws_markGutter q15 k (by omega)) (And.intro c16 (And.intro h17 (And.intro (w_laws_eqGutter q18 k (by omega)) (And.intro (Eq.refl true) (And.intro (not_f h19) (And.intro (not_f h11) (And.intro (w_laws_markGutter q20 k (by omega)) (And.intro c21 (And.intro (w_laws_heldGutter q22 k (by omega)) (And.intro (Eq.refl true) (And.intro h23 (And.intro (not_f h24) (And.intro (w_laws_toGutter q25 k (by omega)) (And.intro (w_impl_MirrorGutter q26 k (by omega)) (And.intro c27 (And.intro (w_laws_eqGutter q28 k (by omega)) (And.intro (Eq.refl true) (And.intro (not_f h29) (And.intro (not_f h30) (And.intro (w_laws_heldGutter q31 k (by omega)) (And.intro (Eq.refl true) (And.intro h32 (And.intro (not_f h33) trivial)))))))))))))))))))))))))))))))))))))))) ?_
                          kernel_rfl
                        · replace h := Option.some.inj h
                          obtain rfl := h
                          refine pFun_by [.v (V.int .i64 (y1_0)), .b false, .v (V.parts [(V.int .i8 (y3_0)), (V.int .i16 (y3_1)), (V.ints .i8 17 (y3_2)), (V.int .u32 (y3_3)), (V.fresh 45 (y3_4))]), .v (V.tup [(V.parts [(V.int .i8 (y4_0)), (V.int .i16 (y4_1)), (V.ints .i8 17 (y4_2)), (V.int .u32 (y4_3)), (V.fresh 45 (y4_4))]), (V.int .i64 (y4_5))]), .v (V.parts [(V.int .i8 (y6_0)), (V.int .i16 (y6_1)), (V.ints .i8 17 (y6_2)), (V.int .u32 (y6_3)), (V.fresh 45 (y6_4))]), .v (V.tup [(V.parts [(V.int .i8 (y7_0)), (V.int .i16 (y7_1)), (V.ints .i8 17 (y7_2)), (V.int .u32 (y7_3)), (V.fresh 45 (y7_4))]), (V.int .i64 (y7_5))]), .v (V.bool (y9_0)), .b false, .b false, .v (V.parts [(V.int .i8 (y12_0)), (V.int .i16 (y12_1)), (V.ints .i8 17 (y12_2)), (V.int .u32 (y12_3)), (V.fresh 45 (y12_4))]), .v (V.bool (y13_0)), .b false, .v (V.tup [(V.int .i64 (y15_0)), (V.fresh 45 (y15_1))]), .b false, .v (V.bool (y18_0)), .b false, .b false, .v (V.tup [(V.int .i64 (y20_0)), (V.fresh 45 (y20_1))]), .v (V.int .i64 (y22_0)), .b false, .b false, .v (V.parts [(V.int .i8 (y25_0)), (V.int .i16 (y25_1)), (V.ints .i8 17 (y25_2)), (V.int .u32 (y25_3)), (V.fresh 45 (y25_4))]), .v (V.tup [(V.parts [(V.int .i8 (y26_0)), (V.int .i16 (y26_1)), (V.ints .i8 17 (y26_2)), (V.int .u32 (y26_3)), (V.fresh 45 (y26_4))]), (V.int .i64 (y26_5))]), .v (V.bool (y28_0)), .b false, .b false, .v (V.int .i64 (y31_0)), .b false, .b true] rfl (And.intro (w_laws_szGutter q1 k (by omega)) (And.intro h2 (And.intro (w_laws_toGutter q3 k (by omega)) (And.intro (w_spec_MirrorGutter q4 k (by omega)) (And.intro c5 (And.intro (w_laws_toGutter q6 k (by omega)) (And.intro (w_impl_MirrorGutter q7 k (by omega)) (And.intro c8 (And.intro (w_laws_eqGutter q9 k (by omega)) (And.intro (Eq.refl true) (And.intro (not_f h10) (And.intro (not_f h11) (And.intro (w_laws_toGutter q12 k (by omega)) (And.intro (w_laws_eqGutter q13 k (by omega)) (And.intro (Eq.refl true) (And.intro (not_f h14) (And.intro (w_laws_markGutter q15 k (by omega)) (And.intro c16 (And.intro h17 (And.intro (w_laws_eqGutter q18 k (by omega)) (And.intro (Eq.refl true) (And.intro (not_f h19) (And.intro (not_f h11) (And.intro (w_laws_markGutter q20 k (by omega)) (And.intro c21 (And.intro (w_laws_heldGutter q22 k (by omega)) (And.intro (Eq.refl true) (And.intro h23 (And.intro (not_f h24) (And.intro (w_laws_toGutter q25 k (by omega)) (And.intro (w_impl_MirrorGutter q26 k (by omega)) (And.intro c27 (And.intro (w_laws_eqGutter q28 k (by omega)) (And.intro (Eq.refl true) (And.intro (not_f h29) (And.intro (not_f h30) (And.intro (w_laws_heldGutter q31 k (by omega)) (And.intro (Eq.refl true) (And.intro h32 (And.intro (not_t h33) trivial)))))))))))))))))))))))))))))))))))))))) ?_
                          kernel_rfl
                    · replace h := Option.some.inj h
                      obtain rfl := h
                      refine pFun_by [.v (V.int .i64 (y1_0)), .b false, .v (V.parts [(V.int .i8 (y3_0)), (V.int .i16 (y3_1)), (V.ints .i8 17 (y3_2)), (V.int .u32 (y3_3)), (V.fresh 45 (y3_4))]), .v (V.tup [(V.parts [(V.int .i8 (y4_0)), (V.int .i16 (y4_1)), (V.ints .i8 17 (y4_2)), (V.int .u32 (y4_3)), (V.fresh 45 (y4_4))]), (V.int .i64 (y4_5))]), .v (V.parts [(V.int .i8 (y6_0)), (V.int .i16 (y6_1)), (V.ints .i8 17 (y6_2)), (V.int .u32 (y6_3)), (V.fresh 45 (y6_4))]), .v (V.tup [(V.parts [(V.int .i8 (y7_0)), (V.int .i16 (y7_1)), (V.ints .i8 17 (y7_2)), (V.int .u32 (y7_3)), (V.fresh 45 (y7_4))]), (V.int .i64 (y7_5))]), .v (V.bool (y9_0)), .b false, .b false, .v (V.parts [(V.int .i8 (y12_0)), (V.int .i16 (y12_1)), (V.ints .i8 17 (y12_2)), (V.int .u32 (y12_3)), (V.fresh 45 (y12_4))]), .v (V.bool (y13_0)), .b false, .v (V.tup [(V.int .i64 (y15_0)), (V.fresh 45 (y15_1))]), .b false, .v (V.bool (y18_0)), .b false, .b false, .v (V.tup [(V.int .i64 (y20_0)), (V.fresh 45 (y20_1))]), .v (V.int .i64 (y22_0)), .b false, .b false, .v (V.parts [(V.int .i8 (y25_0)), (V.int .i16 (y25_1)), (V.ints .i8 17 (y25_2)), (V.int .u32 (y25_3)), (V.fresh 45 (y25_4))]), .v (V.tup [(V.parts [(V.int .i8 (y26_0)), (V.int .i16 (y26_1)), (V.ints .i8 17 (y26_2)), (V.int .u32 (y26_3)), (V.fresh 45 (y26_4))]), (V.int .i64 (y26_5))]), .v (V.bool (y28_0)), .b false, .b true] rfl (And.intro (w_laws_szGutter q1 k (by omega)) (And.intro h2 (And.intro (w_laws_toGutter q3 k (by omega)) (And.intro (w_spec_MirrorGutter q4 k (by omega)) (And.intro c5 (And.intro (w_laws_toGutter q6 k (by omega)) (And.intro (w_impl_MirrorGutter q7 k (by omega)) (And.intro c8 (And.intro (w_laws_eqGutter q9 k (by omega)) (And.intro (Eq.refl true) (And.intro (not_f h10) (And.intro (not_f h11) (And.intro (w_laws_toGutter q12 k (by omega)) (And.intro (w_laws_eqGutter q13 k (by omega)) (And.intro (Eq.refl true) (And.intro (not_f h14) (And.intro (w_laws_markGutter q15 k (by omega)) (And.intro c16 (And.intro h17 (And.intro (w_laws_eqGutter q18 k (by omega)) (And.intro (Eq.refl true) (And.intro (not_f h19) (And.intro (not_f h11) (And.intro (w_laws_markGutter q20 k (by omega)) (And.intro c21 (And.intro (w_laws_heldGutter q22 k (by omega)) (And.intro (Eq.refl true) (And.intro h23 (And.intro (not_f h24) (And.intro (w_laws_toGutter q25 k (by omega)) (And.intro (w_impl_MirrorGutter q26 k (by omega)) (And.intro c27 (And.intro (w_laws_eqGutter q28 k (by omega)) (And.intro (Eq.refl true) (And.intro (not_f h29) (And.intro (not_t h30) trivial)))))))))))))))))))))))))))))))))))) ?_
                      kernel_rfl
                  · replace h := Option.some.inj h
                    obtain rfl := h
                    refine pFun_by [.v (V.int .i64 (y1_0)), .b false, .v (V.parts [(V.int .i8 (y3_0)), (V.int .i16 (y3_1)), (V.ints .i8 17 (y3_2)), (V.int .u32 (y3_3)), (V.fresh 45 (y3_4))]), .v (V.tup [(V.parts [(V.int .i8 (y4_0)), (V.int .i16 (y4_1)), (V.ints .i8 17 (y4_2)), (V.int .u32 (y4_3)), (V.fresh 45 (y4_4))]), (V.int .i64 (y4_5))]), .v (V.parts [(V.int .i8 (y6_0)), (V.int .i16 (y6_1)), (V.ints .i8 17 (y6_2)), (V.int .u32 (y6_3)), (V.fresh 45 (y6_4))]), .v (V.tup [(V.parts [(V.int .i8 (y7_0)), (V.int .i16 (y7_1)), (V.ints .i8 17 (y7_2)), (V.int .u32 (y7_3)), (V.fresh 45 (y7_4))]), (V.int .i64 (y7_5))]), .v (V.bool (y9_0)), .b false, .b false, .v (V.parts [(V.int .i8 (y12_0)), (V.int .i16 (y12_1)), (V.ints .i8 17 (y12_2)), (V.int .u32 (y12_3)), (V.fresh 45 (y12_4))]), .v (V.bool (y13_0)), .b false, .v (V.tup [(V.int .i64 (y15_0)), (V.fresh 45 (y15_1))]), .b false, .v (V.bool (y18_0)), .b false, .b false, .v (V.tup [(V.int .i64 (y20_0)), (V.fresh 45 (y20_1))]), .v (V.int .i64 (y22_0)), .b false, .b false, .v (V.parts [(V.int .i8 (y25_0)), (V.int .i16 (y25_1)), (V.ints .i8 17 (y25_2)), (V.int .u32 (y25_3)), (V.fresh 45 (y25_4))]), .v (V.tup [(V.parts [(V.int .i8 (y26_0)), (V.int .i16 (y26_1)), (V.ints .i8 17 (y26_2)), (V.int .u32 (y26_3)), (V.fresh 45 (y26_4))]), (V.int .i64 (y26_5))]), .v (V.bool (y28_0)), .b true, .b true] rfl (And.intro (w_laws_szGutter q1 k (by omega)) (And.intro h2 (And.intro (w_laws_toGutter q3 k (by omega)) (And.intro (w_spec_MirrorGutter q4 k (by omega)) (And.intro c5 (And.intro (w_laws_toGutter q6 k (by omega)) (And.intro (w_impl_MirrorGutter q7 k (by omega)) (And.intro c8 (And.intro (w_laws_eqGutter q9 k (by omega)) (And.intro (Eq.refl true) (And.intro (not_f h10) (And.intro (not_f h11) (And.intro (w_laws_toGutter q12 k (by omega)) (And.intro (w_laws_eqGutter q13 k (by omega)) (And.intro (Eq.refl true) (And.intro (not_f h14) (And.intro (w_laws_markGutter q15 k (by omega)) (And.intro c16 (And.intro h17 (And.intro (w_laws_eqGutter q18 k (by omega)) (And.intro (Eq.refl true) (And.intro (not_f h19) (And.intro (not_f h11) (And.intro (w_laws_markGutter q20 k (by omega)) (And.intro c21 (And.intro (w_laws_heldGutter q22 k (by omega)) (And.intro (Eq.refl true) (And.intro h23 (And.intro (not_f h24) (And.intro (w_laws_toGutter q25 k (by omega)) (And.intro (w_impl_MirrorGutter q26 k (by omega)) (And.intro c27 (And.intro (w_laws_eqGutter q28 k (by omega)) (And.intro (Eq.refl true) (And.intro (not_t h29) (And.intro (Eq.refl true) trivial)))))))))))))))))))))))))))))))))))) ?_
                    kernel_rfl
                · replace h := Option.some.inj h
                  obtain rfl := h
                  refine pFun_by [.v (V.int .i64 (y1_0)), .b false, .v (V.parts [(V.int .i8 (y3_0)), (V.int .i16 (y3_1)), (V.ints .i8 17 (y3_2)), (V.int .u32 (y3_3)), (V.fresh 45 (y3_4))]), .v (V.tup [(V.parts [(V.int .i8 (y4_0)), (V.int .i16 (y4_1)), (V.ints .i8 17 (y4_2)), (V.int .u32 (y4_3)), (V.fresh 45 (y4_4))]), (V.int .i64 (y4_5))]), .v (V.parts [(V.int .i8 (y6_0)), (V.int .i16 (y6_1)), (V.ints .i8 17 (y6_2)), (V.int .u32 (y6_3)), (V.fresh 45 (y6_4))]), .v (V.tup [(V.parts [(V.int .i8 (y7_0)), (V.int .i16 (y7_1)), (V.ints .i8 17 (y7_2)), (V.int .u32 (y7_3)), (V.fresh 45 (y7_4))]), (V.int .i64 (y7_5))]), .v (V.bool (y9_0)), .b false, .b false, .v (V.parts [(V.int .i8 (y12_0)), (V.int .i16 (y12_1)), (V.ints .i8 17 (y12_2)), (V.int .u32 (y12_3)), (V.fresh 45 (y12_4))]), .v (V.bool (y13_0)), .b false, .v (V.tup [(V.int .i64 (y15_0)), (V.fresh 45 (y15_1))]), .b false, .v (V.bool (y18_0)), .b false, .b false, .v (V.tup [(V.int .i64 (y20_0)), (V.fresh 45 (y20_1))]), .v (V.int .i64 (y22_0)), .b false, .b true] rfl (And.intro (w_laws_szGutter q1 k (by omega)) (And.intro h2 (And.intro (w_laws_toGutter q3 k (by omega)) (And.intro (w_spec_MirrorGutter q4 k (by omega)) (And.intro c5 (And.intro (w_laws_toGutter q6 k (by omega)) (And.intro (w_impl_MirrorGutter q7 k (by omega)) (And.intro c8 (And.intro (w_laws_eqGutter q9 k (by omega)) (And.intro (Eq.refl true) (And.intro (not_f h10) (And.intro (not_f h11) (And.intro (w_laws_toGutter q12 k (by omega)) (And.intro (w_laws_eqGutter q13 k (by omega)) (And.intro (Eq.refl true) (And.intro (not_f h14) (And.intro (w_laws_markGutter q15 k (by omega)) (And.intro c16 (And.intro h17 (And.intro (w_laws_eqGutter q18 k (by omega)) (And.intro (Eq.refl true) (And.intro (not_f h19) (And.intro (not_f h11) (And.intro (w_laws_markGutter q20 k (by omega)) (And.intro c21 (And.intro (w_laws_heldGutter q22 k (by omega)) (And.intro (Eq.refl true) (And.intro h23 (And.intro (not_t h24) trivial))))))))))))))))))))))))))))) ?_
                  kernel_rfl
            · replace h := Option.some.inj h
              obtain rfl := h
              refine pFun_by [.v (V.int .i64 (y1_0)), .b false, .v (V.parts [(V.int .i8 (y3_0)), (V.int .i16 (y3_1)), (V.ints .i8 17 (y3_2)), (V.int .u32 (y3_3)), (V.fresh 45 (y3_4))]), .v (V.tup [(V.parts [(V.int .i8 (y4_0)), (V.int .i16 (y4_1)), (V.ints .i8 17 (y4_2)), (V.int .u32 (y4_3)), (V.fresh 45 (y4_4))]), (V.int .i64 (y4_5))]), .v (V.parts [(V.int .i8 (y6_0)), (V.int .i16 (y6_1)), (V.ints .i8 17 (y6_2)), (V.int .u32 (y6_3)), (V.fresh 45 (y6_4))]), .v (V.tup [(V.parts [(V.int .i8 (y7_0)), (V.int .i16 (y7_1)), (V.ints .i8 17 (y7_2)), (V.int .u32 (y7_3)), (V.fresh 45 (y7_4))]), (V.int .i64 (y7_5))]), .v (V.bool (y9_0)), .b false, .b false, .v (V.parts [(V.int .i8 (y12_0)), (V.int .i16 (y12_1)), (V.ints .i8 17 (y12_2)), (V.int .u32 (y12_3)), (V.fresh 45 (y12_4))]), .v (V.bool (y13_0)), .b false, .v (V.tup [(V.int .i64 (y15_0)), (V.fresh 45 (y15_1))]), .b false, .v (V.bool (y18_0)), .b true, .b true] rfl (And.intro (w_laws_szGutter q1 k (by omega)) (And.intro h2 (And.intro (w_laws_toGutter q3 k (by omega)) (And.intro (w_spec_MirrorGutter q4 k (by omega)) (And.intro c5 (And.intro (w_laws_toGutter q6 k (by omega)) (And.intro (w_impl_MirrorGutter q7 k (by omega)) (And.intro c8 (And.intro (w_laws_eqGutter q9 k (by omega)) (And.intro (Eq.refl true) (And.intro (not_f h10) (And.intro (not_f h11) (And.intro (w_laws_toGutter q12 k (by omega)) (And.intro (w_laws_eqGutter q13 k (by omega)) (And.intro (Eq.refl true) (And.intro (not_f h14) (And.intro (w_laws_markGutter q15 k (by omega)) (And.intro c16 (And.intro h17 (And.intro (w_laws_eqGutter q18 k (by omega)) (And.intro (Eq.refl true) (And.intro (not_t h19) (And.intro (Eq.refl true) trivial))))))))))))))))))))))) ?_
              kernel_rfl
        · replace h := Option.some.inj h
          obtain rfl := h
          refine pFun_by [.v (V.int .i64 (y1_0)), .b false, .v (V.parts [(V.int .i8 (y3_0)), (V.int .i16 (y3_1)), (V.ints .i8 17 (y3_2)), (V.int .u32 (y3_3)), (V.fresh 45 (y3_4))]), .v (V.tup [(V.parts [(V.int .i8 (y4_0)), (V.int .i16 (y4_1)), (V.ints .i8 17 (y4_2)), (V.int .u32 (y4_3)), (V.fresh 45 (y4_4))]), (V.int .i64 (y4_5))]), .v (V.parts [(V.int .i8 (y6_0)), (V.int .i16 (y6_1)), (V.ints .i8 17 (y6_2)), (V.int .u32 (y6_3)), (V.fresh 45 (y6_4))]), .v (V.tup [(V.parts [(V.int .i8 (y7_0)), (V.int .i16 (y7_1)), (V.ints .i8 17 (y7_2)), (V.int .u32 (y7_3)), (V.fresh 45 (y7_4))]), (V.int .i64 (y7_5))]), .v (V.bool (y9_0)), .b false, .b false, .v (V.parts [(V.int .i8 (y12_0)), (V.int .i16 (y12_1)), (V.ints .i8 17 (y12_2)), (V.int .u32 (y12_3)), (V.fresh 45 (y12_4))]), .v (V.bool (y13_0)), .b true] rfl (And.intro (w_laws_szGutter q1 k (by omega)) (And.intro h2 (And.intro (w_laws_toGutter q3 k (by omega)) (And.intro (w_spec_MirrorGutter q4 k (by omega)) (And.intro c5 (And.intro (w_laws_toGutter q6 k (by omega)) (And.intro (w_impl_MirrorGutter q7 k (by omega)) (And.intro c8 (And.intro (w_laws_eqGutter q9 k (by omega)) (And.intro (Eq.refl true) (And.intro (not_f h10) (And.intro (not_f h11) (And.intro (w_laws_toGutter q12 k (by omega)) (And.intro (w_laws_eqGutter q13 k (by omega)) (And.intro (Eq.refl true) (And.intro (not_t h14) trivial)))))))))))))))) ?_
          kernel_rfl
      · replace h := Option.some.inj h
        obtain rfl := h
        refine pFun_by [.v (V.int .i64 (y1_0)), .b false, .v (V.parts [(V.int .i8 (y3_0)), (V.int .i16 (y3_1)), (V.ints .i8 17 (y3_2)), (V.int .u32 (y3_3)), (V.fresh 45 (y3_4))]), .v (V.tup [(V.parts [(V.int .i8 (y4_0)), (V.int .i16 (y4_1)), (V.ints .i8 17 (y4_2)), (V.int .u32 (y4_3)), (V.fresh 45 (y4_4))]), (V.int .i64 (y4_5))]), .v (V.parts [(V.int .i8 (y6_0)), (V.int .i16 (y6_1)), (V.ints .i8 17 (y6_2)), (V.int .u32 (y6_3)), (V.fresh 45 (y6_4))]), .v (V.tup [(V.parts [(V.int .i8 (y7_0)), (V.int .i16 (y7_1)), (V.ints .i8 17 (y7_2)), (V.int .u32 (y7_3)), (V.fresh 45 (y7_4))]), (V.int .i64 (y7_5))]), .v (V.bool (y9_0)), .b false, .b true] rfl (And.intro (w_laws_szGutter q1 k (by omega)) (And.intro h2 (And.intro (w_laws_toGutter q3 k (by omega)) (And.intro (w_spec_MirrorGutter q4 k (by omega)) (And.intro c5 (And.intro (w_laws_toGutter q6 k (by omega)) (And.intro (w_impl_MirrorGutter q7 k (by omega)) (And.intro c8 (And.intro (w_laws_eqGutter q9 k (by omega)) (And.intro (Eq.refl true) (And.intro (not_f h10) (And.intro (not_t h11) trivial)))))))))))) ?_
        kernel_rfl
    · replace h := Option.some.inj h
      obtain rfl := h
      refine pFun_by [.v (V.int .i64 (y1_0)), .b false, .v (V.parts [(V.int .i8 (y3_0)), (V.int .i16 (y3_1)), (V.ints .i8 17 (y3_2)), (V.int .u32 (y3_3)), (V.fresh 45 (y3_4))]), .v (V.tup [(V.parts [(V.int .i8 (y4_0)), (V.int .i16 (y4_1)), (V.ints .i8 17 (y4_2)), (V.int .u32 (y4_3)), (V.fresh 45 (y4_4))]), (V.int .i64 (y4_5))]), .v (V.parts [(V.int .i8 (y6_0)), (V.int .i16 (y6_1)), (V.ints .i8 17 (y6_2)), (V.int .u32 (y6_3)), (V.fresh 45 (y6_4))]), .v (V.tup [(V.parts [(V.int .i8 (y7_0)), (V.int .i16 (y7_1)), (V.ints .i8 17 (y7_2)), (V.int .u32 (y7_3)), (V.fresh 45 (y7_4))]), (V.int .i64 (y7_5))]), .v (V.bool (y9_0)), .b true, .b true] rfl (And.intro (w_laws_szGutter q1 k (by omega)) (And.intro h2 (And.intro (w_laws_toGutter q3 k (by omega)) (And.intro (w_spec_MirrorGutter q4 k (by omega)) (And.intro c5 (And.intro (w_laws_toGutter q6 k (by omega)) (And.intro (w_impl_MirrorGutter q7 k (by omega)) (And.intro c8 (And.intro (w_laws_eqGutter q9 k (by omega)) (And.intro (Eq.refl true) (And.intro (not_t h10) (And.intro (Eq.refl true) trivial)))))))))))) ?_
      kernel_rfl
end Go.Proofs.Ytkfihbdikdkcmaa
