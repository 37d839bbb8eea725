/- The program goes as the shallow texts tell: printed by gen.py. -/
import Derived.Test.YtfoojgpbgaldgaaEnvA
import Derived.Test.YtfoojgpbgaldgaaSh1
import Derived.Test.YtfoojgpbgaldgaaSh3
namespace Go.Proofs.Ytfoojgpbgaldgaa
open Go
set_option linter.unusedVariables false
set_option linter.unusedSimpArgs false
set_option maxRecDepth 100000
set_option maxHeartbeats 4000000
theorem w_laws_szPipeS {n : Nat} {a0 : List V} {a1 : Int} {z0 : Int} (h : s_laws_szPipeS n a0 a1 = some z0) : ∀ k, n + 1 ≤ k → sem E k 27 [(V.sl (a0)), (V.int .i64 (a1))] = some (V.int .i64 (z0)) := by
  intro k hk
  obtain ⟨k, rfl⟩ : ∃ q, k = q + 1 := ⟨k - 1, by omega⟩
  unfold s_laws_szPipeS at h
  rcases cnd_some h with ⟨h1, h⟩ | ⟨h1, h⟩
  · simp only [Option.some.injEq, Prod.mk.injEq] at h
    obtain rfl := h
    refine pFun_by [.b true] rfl (And.intro h1 trivial) ?_
    kernel_rfl
  · simp only [Option.some.injEq, Prod.mk.injEq] at h
    obtain rfl := h
    refine pFun_by [.b false] rfl (And.intro h1 trivial) ?_
    kernel_rfl
theorem w_laws_szGutter {n : Nat} {a0 : Int} {a1 : Int} {a2 : Nat → Int} {a3 : Int} {a4 : List V} {a5 : Int} {z0 : Int} (h : s_laws_szGutter n a0 a1 a2 a3 a4 a5 = some z0) : ∀ k, n + 2 ≤ k → sem E k 17 [(V.parts [(V.int .i8 (a0)), (V.int .i16 (a1)), (V.ints .i8 17 (a2)), (V.int .u32 (a3)), (V.sl (a4))]), (V.int .i64 (a5))] = some (V.int .i64 (z0)) := by
  intro k hk
  obtain ⟨k, rfl⟩ : ∃ q, k = q + 1 := ⟨k - 1, by omega⟩
  unfold s_laws_szGutter at h
  obtain ⟨y1_0, q1, h⟩ := bnd_some h
  rcases cnd_some h with ⟨h2, h⟩ | ⟨h2, h⟩
  · simp only [Option.some.injEq, Prod.mk.injEq] at h
    obtain rfl := h
    refine pFun_by [.v (V.int .i64 (y1_0)), .b true] rfl (And.intro (w_laws_szPipeS q1 k (by omega)) (And.intro h2 trivial)) ?_
    kernel_rfl
  · simp only [Option.some.injEq, Prod.mk.injEq] at h
    obtain rfl := h
    refine pFun_by [.v (V.int .i64 (y1_0)), .b false] rfl (And.intro (w_laws_szPipeS q1 k (by omega)) (And.intro h2 trivial)) ?_
    kernel_rfl
theorem lw_laws_toInt8A17_b0 : ∀ (n : Nat) (a0 : Int) (a1 : Nat → Int) (a2 : Nat → Int) (a3 : Nat → Int) (r : (Nat → Int) × (Nat → Int)), l_laws_toInt8A17_b0 n a0 a1 a2 a3 = some r → ∀ k m, n + 0 ≤ k → n ≤ m → LB E 59 0 k m ⟨[(1, (V.ptr 3 0 (0) 17)), (2, (V.ptr 5 0 (0) 17)), (3, (V.ptr 7 0 (0) 17)), (4, (V.int .i64 (a0)))], [(3, .box [(V.ints .i8 17 (a1))]), (5, .box [(V.ints .i8 17 (a2))]), (7, .box [(V.ints .i8 17 (a3))])]⟩ = some (match r with | (o0, o1) => (.normal, ⟨[(2, (V.ptr 5 0 (0) 17)), (3, (V.ptr 7 0 (0) 17))], [(5, .box [(V.ints .i8 17 (o0))]), (7, .box [(V.ints .i8 17 (o1))])]⟩)) := by
  intro n
  induction n with
  | zero => intro a0 a1 a2 a3 r h; cases h
  | succ n ih =>
    intro a0 a1 a2 a3 r h k m hk hm
    obtain ⟨m, rfl⟩ : ∃ q, m = q + 1 := ⟨m - 1, by omega⟩
    replace hk : n + 0 ≤ k := by omega
    unfold l_laws_toInt8A17_b0 at h
    rcases cnd_some h with ⟨h1, h⟩ | ⟨h1, h⟩
    · obtain ⟨c2, h⟩ := chk_some h
      refine pNext_by [.b true] (And.intro h1 (And.intro c2 (And.intro c2 trivial))) (ih _ _ _ _ _ h k m hk (by omega)) ?_
      kernel_rfl
    · cases h
      refine pLast_by [.b false] (And.intro h1 trivial) ?_
      kernel_rfl
theorem w_laws_toInt8A17 {n : Nat} {a0 : Nat → Int} {z0 : Nat → Int} (h : s_laws_toInt8A17 n a0 = some z0) : ∀ k, n + 1 ≤ k → sem E k 59 [(V.ints .i8 17 (a0))] = some (V.ints .i8 17 (z0)) := by
  intro k hk
  obtain ⟨k, rfl⟩ : ∃ q, k = q + 1 := ⟨k - 1, by omega⟩
  unfold s_laws_toInt8A17 at h
  obtain ⟨⟨u3_0, u3_1⟩, l3, h⟩ := bnd_some h
  simp only [Option.some.injEq, Prod.mk.injEq] at h
  obtain rfl := h
  refine pFun_by [.l .normal ⟨[(2, (V.ptr 5 0 (0) 17)), (3, (V.ptr 7 0 (0) 17))], [(5, .box [(V.ints .i8 17 (u3_0))]), (7, .box [(V.ints .i8 17 (u3_1))])]⟩] rfl (And.intro (lw_laws_toInt8A17_b0 _ _ _ _ _ _ l3 k k (by omega) (by omega)) trivial) ?_
  kernel_rfl
theorem w_laws_toPipe {n : Nat} {a0 : Int} {a1 : Int} {z0 : Int} {z1 : Int} (h : s_laws_toPipe n a0 a1 = some (z0, z1)) : ∀ k, n + 1 ≤ k → sem E k 71 [(V.parts [(V.int .i8 (a0)), (V.int .i16 (a1))])] = some (V.parts [(V.int .i8 (z0)), (V.int .i16 (z1))]) := by
  intro k hk
  obtain ⟨k, rfl⟩ : ∃ q, k = q + 1 := ⟨k - 1, by omega⟩
  unfold s_laws_toPipe at h
  simp only [Option.some.injEq, Prod.mk.injEq] at h
  obtain ⟨rfl, rfl⟩ := h
  refine pFun_by [] rfl trivial ?_
  kernel_rfl
theorem lw_laws_toPipeS_b0 : ∀ (n : Nat) (a0 : List V) (a1 : Int) (a2 : List V) (r : List V), l_laws_toPipeS_b0 n a0 a1 a2 = some r → ∀ k m, n + 1 ≤ k → n ≤ m → LB E 29 0 k m ⟨[(0, (V.sl (a0))), (3, (V.row 7)), (4, (V.int .i64 (a1)))], [(7, .row 69 (a2))]⟩ = some (match r with | o0 => (.normal, ⟨[(3, (V.row 7))], [(7, .row 69 (o0))]⟩)) := by
  intro n
  induction n with
  | zero => intro a0 a1 a2 r h; cases h
  | succ n ih =>
    intro a0 a1 a2 r h k m hk hm
    obtain ⟨m, rfl⟩ : ∃ q, m = q + 1 := ⟨m - 1, by omega⟩
    replace hk : n + 1 ≤ k := by omega
    unfold l_laws_toPipeS_b0 at h
    rcases cnd_some h with ⟨h2, h⟩ | ⟨h2, h⟩
    · obtain ⟨⟨e3_0, e3_1⟩, g3, h⟩ := bnd_some h
      replace g3 := as_Pi8_i16Q_some g3
      obtain ⟨⟨y4_0, y4_1⟩, q4, h⟩ := bnd_some h
      obtain ⟨c5, h⟩ := chk_some h
      obtain ⟨⟨e6_0, e6_1⟩, g6, h⟩ := bnd_some h
      replace g6 := as_Pi8_i16Q_some g6
      refine pNext_by [.b true, .v (V.parts [(V.int .i8 (e3_0)), (V.int .i16 (e3_1))]), .v (V.parts [(V.int .i8 (y4_0)), (V.int .i16 (y4_1))]), .v (V.parts [(V.int .i8 (e6_0)), (V.int .i16 (e6_1))])] (And.intro h2 (And.intro g3 (And.intro (w_laws_toPipe q4 k (by omega)) (And.intro c5 (And.intro g6 trivial))))) (ih _ _ _ _ h k m hk (by omega)) ?_
      kernel_rfl
    · cases h
      refine pLast_by [.b false] (And.intro h2 trivial) ?_
      kernel_rfl
theorem w_laws_toPipeS {n : Nat} {a0 : List V} {z0 : List V} (h : s_laws_toPipeS n a0 = some z0) : ∀ k, n + 2 ≤ k → sem E k 29 [(V.sl (a0))] = some (V.fresh 69 (z0)) := by
  intro k hk
  obtain ⟨k, rfl⟩ : ∃ q, k = q + 1 := ⟨k - 1, by omega⟩
  unfold s_laws_toPipeS at h
  obtain ⟨c1, h⟩ := chk_some h
  obtain ⟨u7_0, l7, h⟩ := bnd_some h
  simp only [Option.some.injEq, Prod.mk.injEq] at h
  obtain rfl := h
  refine pFun_by [.l .normal ⟨[(3, (V.row 7))], [(7, .row 69 (u7_0))]⟩] rfl (And.intro c1 (And.intro (lw_laws_toPipeS_b0 _ _ _ _ _ l7 k k (by omega) (by omega)) trivial)) ?_
  kernel_rfl
theorem w_laws_toGutter {n : Nat} {a0 : Int} {a1 : Int} {a2 : Nat → Int} {a3 : Int} {a4 : List V} {z0 : Int} {z1 : Int} {z2 : Nat → Int} {z3 : Int} {z4 : List V} (h : s_laws_toGutter n a0 a1 a2 a3 a4 = some (z0, z1, z2, z3, z4)) : ∀ k, n + 3 ≤ k → sem E k 19 [(V.parts [(V.int .i8 (a0)), (V.int .i16 (a1)), (V.ints .i8 17 (a2)), (V.int .u32 (a3)), (V.sl (a4))])] = some (V.parts [(V.int .i8 (z0)), (V.int .i16 (z1)), (V.ints .i8 17 (z2)), (V.int .u32 (z3)), (V.fresh 69 (z4))]) := by
  intro k hk
  obtain ⟨k, rfl⟩ : ∃ q, k = q + 1 := ⟨k - 1, by omega⟩
  unfold s_laws_toGutter at h
  obtain ⟨y1_0, q1, h⟩ := bnd_some h
  obtain ⟨y2_0, q2, h⟩ := bnd_some h
  simp only [Option.some.injEq, Prod.mk.injEq] at h
  obtain ⟨rfl, rfl, rfl, rfl, rfl⟩ := h
  refine pFun_by [.v (V.ints .i8 17 (y1_0)), .v (V.fresh 69 (y2_0))] rfl (And.intro (w_laws_toInt8A17 q1 k (by omega)) (And.intro (w_laws_toPipeS q2 k (by omega)) trivial)) ?_
  kernel_rfl
theorem lw_spec_SameGutter_b0 : ∀ (n : Nat) (a0 : Int) (a1 : Int) (a2 : Int) (a3 : Nat → Int) (a4 : Int) (a5 : List V) (a6 : Int) (a7 : Int) (a8 : Nat → Int) (a9 : Int) (a10 : List V) (r : Sum (Unit) (Bool)), l_spec_SameGutter_b0 n a0 a1 a2 a3 a4 a5 a6 a7 a8 a9 a10 = some r → ∀ k m, n + 0 ≤ k → n ≤ m → LB E 18 0 k m ⟨[(2, (V.ptr 5 0 (0) 21)), (3, (V.ptr 7 0 (0) 21)), (5, (V.int .i64 (a0)))], [(5, .box [(V.int .i8 (a1)), (V.int .i16 (a2)), (V.ints .i8 17 (a3)), (V.int .u32 (a4)), (V.sl (a5))]), (7, .box [(V.int .i8 (a6)), (V.int .i16 (a7)), (V.ints .i8 17 (a8)), (V.int .u32 (a9)), (V.sl (a10))])]⟩ = some (match r with | .inl _ => (.normal, ⟨[], []⟩) | .inr o0 => (.ret, ⟨[(4, (V.bool (o0)))], []⟩)) := by
  intro n
  induction n with
  | zero => intro a0 a1 a2 a3 a4 a5 a6 a7 a8 a9 a10 r h; cases h
  | succ n ih =>
    intro a0 a1 a2 a3 a4 a5 a6 a7 a8 a9 a10 r h k m hk hm
    obtain ⟨m, rfl⟩ : ∃ q, m = q + 1 := ⟨m - 1, by omega⟩
    replace hk : n + 0 ≤ k := by omega
    unfold l_spec_SameGutter_b0 at h
    rcases cnd_some h with ⟨h6, h⟩ | ⟨h6, h⟩
    · obtain ⟨⟨e7_0, e7_1⟩, g7, h⟩ := bnd_some h
      replace g7 := as_Pi8_i16Q_some g7
      obtain ⟨⟨e8_0, e8_1⟩, g8, h⟩ := bnd_some h
      replace g8 := as_Pi8_i16Q_some g8
      rcases cnd_some h with ⟨h9, h⟩ | ⟨h9, h⟩
      · refine pNext_by [.b true, .v (V.parts [(V.int .i8 (e7_0)), (V.int .i16 (e7_1))]), .v (V.parts [(V.int .i8 (e8_0)), (V.int .i16 (e8_1))]), .b false] (And.intro h6 (And.intro g7 (And.intro g8 (And.intro (not_f h9) trivial)))) (ih _ _ _ _ _ _ _ _ _ _ _ _ h k m hk (by omega)) ?_
        kernel_rfl
      · cases h
        refine pLast_by [.b true, .v (V.parts [(V.int .i8 (e7_0)), (V.int .i16 (e7_1))]), .v (V.parts [(V.int .i8 (e8_0)), (V.int .i16 (e8_1))]), .b true] (And.intro h6 (And.intro g7 (And.intro g8 (And.intro (not_t h9) trivial)))) ?_
        kernel_rfl
    · cases h
      refine pLast_by [.b false] (And.intro h6 trivial) ?_
      kernel_rfl
theorem w_spec_SameGutter {n : Nat} {a0 : Int} {a1 : Int} {a2 : Nat → Int} {a3 : Int} {a4 : List V} {a5 : Int} {a6 : Int} {a7 : Nat → Int} {a8 : Int} {a9 : List V} {z0 : Bool} (h : s_spec_SameGutter n a0 a1 a2 a3 a4 a5 a6 a7 a8 a9 = some z0) : ∀ k, n + 1 ≤ k → sem E k 18 [(V.parts [(V.int .i8 (a0)), (V.int .i16 (a1)), (V.ints .i8 17 (a2)), (V.int .u32 (a3)), (V.sl (a4))]), (V.parts [(V.int .i8 (a5)), (V.int .i16 (a6)), (V.ints .i8 17 (a7)), (V.int .u32 (a8)), (V.sl (a9))])] = some (V.bool (z0)) := by
  intro k hk
  obtain ⟨k, rfl⟩ : ∃ q, k = q + 1 := ⟨k - 1, by omega⟩
  unfold s_spec_SameGutter at h
  rcases cnd_some h with ⟨h1, h⟩ | ⟨h1, h⟩
  · rcases cnd_some h with ⟨h2, h⟩ | ⟨h2, h⟩
    · rcases cnd_some h with ⟨h3, h⟩ | ⟨h3, h⟩
      · rcases cnd_some h with ⟨h4, h⟩ | ⟨h4, h⟩
        · rcases cnd_some h with ⟨h5, h⟩ | ⟨h5, h⟩
          · obtain ⟨w, l10, h⟩ := bnd_some h
            rcases w with ⟨⟩ | u11_0
            · simp only [Option.some.injEq, Prod.mk.injEq] at h
              obtain rfl := h
              refine pFun_by [.b false, .b false, .b false, .b false, .b false, .l .normal ⟨[], []⟩] rfl (And.intro (not_f h1) (And.intro (not_f h2) (And.intro (not_f h3) (And.intro (not_f h4) (And.intro (not_f h5) (And.intro (lw_spec_SameGutter_b0 _ _ _ _ _ _ _ _ _ _ _ _ _ l10 k k (by omega) (by omega)) trivial)))))) ?_
              kernel_rfl
            · simp only [Option.some.injEq, Prod.mk.injEq] at h
              obtain rfl := h
              refine pFun_by [.b false, .b false, .b false, .b false, .b false, .l .ret ⟨[(4, (V.bool (u11_0)))], []⟩] rfl (And.intro (not_f h1) (And.intro (not_f h2) (And.intro (not_f h3) (And.intro (not_f h4) (And.intro (not_f h5) (And.intro (lw_spec_SameGutter_b0 _ _ _ _ _ _ _ _ _ _ _ _ _ l10 k k (by omega) (by omega)) trivial)))))) ?_
              kernel_rfl
          · simp only [Option.some.injEq, Prod.mk.injEq] at h
            obtain rfl := h
            refine pFun_by [.b false, .b false, .b false, .b false, .b true] rfl (And.intro (not_f h1) (And.intro (not_f h2) (And.intro (not_f h3) (And.intro (not_f h4) (And.intro (not_t h5) trivial))))) ?_
            kernel_rfl
        · simp only [Option.some.injEq, Prod.mk.injEq] at h
          obtain rfl := h
          refine pFun_by [.b false, .b false, .b false, .b true, .b true] rfl (And.intro (not_f h1) (And.intro (not_f h2) (And.intro (not_f h3) (And.intro (not_t h4) (And.intro (Eq.refl true) trivial))))) ?_
          kernel_rfl
      · simp only [Option.some.injEq, Prod.mk.injEq] at h
        obtain rfl := h
        refine pFun_by [.b false, .b false, .b true, .b true, .b true] rfl (And.intro (not_f h1) (And.intro (not_f h2) (And.intro (not_t h3) (And.intro (Eq.refl true) (And.intro (Eq.refl true) trivial))))) ?_
        kernel_rfl
    · simp only [Option.some.injEq, Prod.mk.injEq] at h
      obtain rfl := h
      refine pFun_by [.b false, .b true, .b true, .b true, .b true] rfl (And.intro (not_f h1) (And.intro (not_t h2) (And.intro (Eq.refl true) (And.intro (Eq.refl true) (And.intro (Eq.refl true) trivial))))) ?_
      kernel_rfl
  · simp only [Option.some.injEq, Prod.mk.injEq] at h
    obtain rfl := h
    refine pFun_by [.b true, .b true, .b true, .b true, .b true] rfl (And.intro (not_t h1) (And.intro (Eq.refl true) (And.intro (Eq.refl true) (And.intro (Eq.refl true) (And.intro (Eq.refl true) trivial))))) ?_
    kernel_rfl
theorem lw_slices_Equal_Simpl_Pipe_impl_Pipe_b0 : ∀ (n : Nat) (a0 : List V) (a1 : List V) (a2 : Int) (a3 : Int) (r : Sum (Unit) (Bool)), l_slices_Equal_Simpl_Pipe_impl_Pipe_b0 n a0 a1 a2 a3 = some r → ∀ k m, n + 0 ≤ k → n ≤ m → LB E 60 0 k m ⟨[(0, (V.sl (a0))), (1, (V.sl (a1))), (12, (V.int .i64 (a2))), (13, (V.int .i64 (a3)))], []⟩ = some (match r with | .inl _ => (.normal, ⟨[], []⟩) | .inr o0 => (.ret, ⟨[(4, (V.bool (o0)))], []⟩)) := by
  intro n
  induction n with
  | zero => intro a0 a1 a2 a3 r h; cases h
  | succ n ih =>
    intro a0 a1 a2 a3 r h k m hk hm
    obtain ⟨m, rfl⟩ : ∃ q, m = q + 1 := ⟨m - 1, by omega⟩
    replace hk : n + 0 ≤ k := by omega
    unfold l_slices_Equal_Simpl_Pipe_impl_Pipe_b0 at h
    rcases cnd_some h with ⟨h2, h⟩ | ⟨h2, h⟩
    · obtain ⟨⟨e3_0, e3_1⟩, g3, h⟩ := bnd_some h
      replace g3 := as_Pi8_i16Q_some g3
      obtain ⟨⟨e4_0, e4_1⟩, g4, h⟩ := bnd_some h
      replace g4 := as_Pi8_i16Q_some g4
      rcases cnd_some h with ⟨h5, h⟩ | ⟨h5, h⟩
      · refine pNext_by [.b true, .v (V.parts [(V.int .i8 (e3_0)), (V.int .i16 (e3_1))]), .v (V.parts [(V.int .i8 (e4_0)), (V.int .i16 (e4_1))]), .b false] (And.intro h2 (And.intro g3 (And.intro g4 (And.intro (not_f h5) trivial)))) (ih _ _ _ _ _ h k m hk (by omega)) ?_
        kernel_rfl
      · cases h
        refine pLast_by [.b true, .v (V.parts [(V.int .i8 (e3_0)), (V.int .i16 (e3_1))]), .v (V.parts [(V.int .i8 (e4_0)), (V.int .i16 (e4_1))]), .b true] (And.intro h2 (And.intro g3 (And.intro g4 (And.intro (not_t h5) trivial)))) ?_
        kernel_rfl
    · cases h
      refine pLast_by [.b false] (And.intro h2 trivial) ?_
      kernel_rfl
theorem w_slices_Equal_Simpl_Pipe_impl_Pipe {n : Nat} {a0 : List V} {a1 : List V} {z0 : Bool} (h : s_slices_Equal_Simpl_Pipe_impl_Pipe n a0 a1 = some z0) : ∀ k, n + 1 ≤ k → sem E k 60 [(V.sl (a0)), (V.sl (a1))] = some (V.bool (z0)) := by
  intro k hk
  obtain ⟨k, rfl⟩ : ∃ q, k = q + 1 := ⟨k - 1, by omega⟩
  unfold s_slices_Equal_Simpl_Pipe_impl_Pipe at h
  rcases cnd_some h with ⟨h1, h⟩ | ⟨h1, h⟩
  · obtain ⟨w, l6, h⟩ := bnd_some h
    rcases w with ⟨⟩ | u7_0
    · simp only [Option.some.injEq, Prod.mk.injEq] at h
      obtain rfl := h
      refine pFun_by [.b false, .l .normal ⟨[], []⟩] rfl (And.intro (not_f h1) (And.intro (lw_slices_Equal_Simpl_Pipe_impl_Pipe_b0 _ _ _ _ _ _ l6 k k (by omega) (by omega)) trivial)) ?_
      kernel_rfl
    · simp only [Option.some.injEq, Prod.mk.injEq] at h
      obtain rfl := h
      refine pFun_by [.b false, .l .ret ⟨[(4, (V.bool (u7_0)))], []⟩] rfl (And.intro (not_f h1) (And.intro (lw_slices_Equal_Simpl_Pipe_impl_Pipe_b0 _ _ _ _ _ _ l6 k k (by omega) (by omega)) trivial)) ?_
      kernel_rfl
  · simp only [Option.some.injEq, Prod.mk.injEq] at h
    obtain rfl := h
    refine pFun_by [.b true] rfl (And.intro (not_t h1) trivial) ?_
    kernel_rfl
theorem w_impl_SameGutter {n : Nat} {a0 : Int} {a1 : Int} {a2 : Nat → Int} {a3 : Int} {a4 : List V} {a5 : Int} {a6 : Int} {a7 : Nat → Int} {a8 : Int} {a9 : List V} {z0 : Bool} (h : s_impl_SameGutter n a0 a1 a2 a3 a4 a5 a6 a7 a8 a9 = some z0) : ∀ k, n + 2 ≤ k → sem E k 20 [(V.parts [(V.int .i8 (a0)), (V.int .i16 (a1)), (V.ints .i8 17 (a2)), (V.int .u32 (a3)), (V.sl (a4))]), (V.parts [(V.int .i8 (a5)), (V.int .i16 (a6)), (V.ints .i8 17 (a7)), (V.int .u32 (a8)), (V.sl (a9))])] = some (V.bool (z0)) := by
  intro k hk
  obtain ⟨k, rfl⟩ : ∃ q, k = q + 1 := ⟨k - 1, by omega⟩
  unfold s_impl_SameGutter at h
  rcases cnd_some h with ⟨h1, h⟩ | ⟨h1, h⟩
  · rcases cnd_some h with ⟨h2, h⟩ | ⟨h2, h⟩
    · rcases cnd_some h with ⟨h3, h⟩ | ⟨h3, h⟩
      · rcases cnd_some h with ⟨h4, h⟩ | ⟨h4, h⟩
        · obtain ⟨y5_0, q5, h⟩ := bnd_some h
          simp only [Option.some.injEq, Prod.mk.injEq] at h
          obtain rfl := h
          refine pFun_by [.b true, .b true, .b true, .b true, .v (V.bool (y5_0))] rfl (And.intro h1 (And.intro h2 (And.intro h3 (And.intro h4 (And.intro (w_slices_Equal_Simpl_Pipe_impl_Pipe q5 k (by omega)) trivial))))) ?_
          kernel_rfl
        · simp only [Option.some.injEq, Prod.mk.injEq] at h
          obtain rfl := h
          refine pFun_by [.b true, .b true, .b true, .b false] rfl (And.intro h1 (And.intro h2 (And.intro h3 (And.intro h4 trivial)))) ?_
          kernel_rfl
      · simp only [Option.some.injEq, Prod.mk.injEq] at h
        obtain rfl := h
        refine pFun_by [.b true, .b true, .b false, .b false] rfl (And.intro h1 (And.intro h2 (And.intro h3 (And.intro (Eq.refl false) trivial)))) ?_
        kernel_rfl
    · simp only [Option.some.injEq, Prod.mk.injEq] at h
      obtain rfl := h
      refine pFun_by [.b true, .b false, .b false, .b false] rfl (And.intro h1 (And.intro h2 (And.intro (Eq.refl false) (And.intro (Eq.refl false) trivial)))) ?_
      kernel_rfl
  · simp only [Option.some.injEq, Prod.mk.injEq] at h
    obtain rfl := h
    refine pFun_by [.b false, .b false, .b false, .b false] rfl (And.intro h1 (And.intro (Eq.refl false) (And.intro (Eq.refl false) (And.intro (Eq.refl false) trivial)))) ?_
    kernel_rfl
theorem lw_laws_eqInt8A17_b0 : ∀ (n : Nat) (a0 : Int) (a1 : Nat → Int) (a2 : Nat → Int) (r : Sum (Unit) (Bool)), l_laws_eqInt8A17_b0 n a0 a1 a2 = some r → ∀ k m, n + 0 ≤ k → n ≤ m → LB E 61 0 k m ⟨[(2, (V.ptr 5 0 (0) 17)), (3, (V.ptr 7 0 (0) 17)), (5, (V.int .i64 (a0)))], [(5, .box [(V.ints .i8 17 (a1))]), (7, .box [(V.ints .i8 17 (a2))])]⟩ = some (match r with | .inl _ => (.normal, ⟨[], []⟩) | .inr o0 => (.ret, ⟨[(4, (V.bool (o0)))], []⟩)) := by
  intro n
  induction n with
  | zero => intro a0 a1 a2 r h; cases h
  | succ n ih =>
    intro a0 a1 a2 r h k m hk hm
    obtain ⟨m, rfl⟩ : ∃ q, m = q + 1 := ⟨m - 1, by omega⟩
    replace hk : n + 0 ≤ k := by omega
    unfold l_laws_eqInt8A17_b0 at h
    rcases cnd_some h with ⟨h1, h⟩ | ⟨h1, h⟩
    · obtain ⟨c2, h⟩ := chk_some h
      rcases cnd_some h with ⟨h3, h⟩ | ⟨h3, h⟩
      · refine pNext_by [.b true, .b false] (And.intro h1 (And.intro c2 (And.intro c2 (And.intro (not_f h3) trivial)))) (ih _ _ _ _ h k m hk (by omega)) ?_
        kernel_rfl
      · cases h
        refine pLast_by [.b true, .b true] (And.intro h1 (And.intro c2 (And.intro c2 (And.intro (not_t h3) trivial)))) ?_
        kernel_rfl
    · cases h
      refine pLast_by [.b false] (And.intro h1 trivial) ?_
      kernel_rfl
theorem w_laws_eqInt8A17 {n : Nat} {a0 : Nat → Int} {a1 : Nat → Int} {z0 : Bool} (h : s_laws_eqInt8A17 n a0 a1 = some z0) : ∀ k, n + 1 ≤ k → sem E k 61 [(V.ints .i8 17 (a0)), (V.ints .i8 17 (a1))] = some (V.bool (z0)) := by
  intro k hk
  obtain ⟨k, rfl⟩ : ∃ q, k = q + 1 := ⟨k - 1, by omega⟩
  unfold s_laws_eqInt8A17 at h
  obtain ⟨w, l4, h⟩ := bnd_some h
  rcases w with ⟨⟩ | u5_0
  · simp only [Option.some.injEq, Prod.mk.injEq] at h
    obtain rfl := h
    refine pFun_by [.l .normal ⟨[], []⟩] rfl (And.intro (lw_laws_eqInt8A17_b0 _ _ _ _ _ l4 k k (by omega) (by omega)) trivial) ?_
    kernel_rfl
  · simp only [Option.some.injEq, Prod.mk.injEq] at h
    obtain rfl := h
    refine pFun_by [.l .ret ⟨[(4, (V.bool (u5_0)))], []⟩] rfl (And.intro (lw_laws_eqInt8A17_b0 _ _ _ _ _ l4 k k (by omega) (by omega)) trivial) ?_
    kernel_rfl
theorem w_laws_eqPipe {n : Nat} {a0 : Int} {a1 : Int} {a2 : Int} {a3 : Int} {z0 : Bool} (h : s_laws_eqPipe n a0 a1 a2 a3 = some z0) : ∀ k, n + 1 ≤ k → sem E k 78 [(V.parts [(V.int .i8 (a0)), (V.int .i16 (a1))]), (V.parts [(V.int .i8 (a2)), (V.int .i16 (a3))])] = some (V.bool (z0)) := by
  intro k hk
  obtain ⟨k, rfl⟩ : ∃ q, k = q + 1 := ⟨k - 1, by omega⟩
  unfold s_laws_eqPipe at h
  rcases cnd_some h with ⟨h1, h⟩ | ⟨h1, h⟩
  · rcases cnd_some h with ⟨h2, h⟩ | ⟨h2, h⟩
    · simp only [Option.some.injEq, Prod.mk.injEq] at h
      obtain rfl := h
      refine pFun_by [.b false, .b false] rfl (And.intro (not_f h1) (And.intro (not_f h2) trivial)) ?_
      kernel_rfl
    · simp only [Option.some.injEq, Prod.mk.injEq] at h
      obtain rfl := h
      refine pFun_by [.b false, .b true] rfl (And.intro (not_f h1) (And.intro (not_t h2) trivial)) ?_
      kernel_rfl
  · simp only [Option.some.injEq, Prod.mk.injEq] at h
    obtain rfl := h
    refine pFun_by [.b true] rfl (And.intro (not_t h1) trivial) ?_
    kernel_rfl
theorem lw_laws_eqPipeS_b0 : ∀ (n : Nat) (a0 : List V) (a1 : List V) (a2 : Int) (r : Sum (Unit) (Bool)), l_laws_eqPipeS_b0 n a0 a1 a2 = some r → ∀ k m, n + 1 ≤ k → n ≤ m → LB E 31 0 k m ⟨[(0, (V.sl (a0))), (1, (V.sl (a1))), (5, (V.int .i64 (a2)))], []⟩ = some (match r with | .inl _ => (.normal, ⟨[], []⟩) | .inr o0 => (.ret, ⟨[(4, (V.bool (o0)))], []⟩)) := by
  intro n
  induction n with
  | zero => intro a0 a1 a2 r h; cases h
  | succ n ih =>
    intro a0 a1 a2 r h k m hk hm
    obtain ⟨m, rfl⟩ : ∃ q, m = q + 1 := ⟨m - 1, by omega⟩
    replace hk : n + 1 ≤ k := by omega
    unfold l_laws_eqPipeS_b0 at h
    rcases cnd_some h with ⟨h2, h⟩ | ⟨h2, h⟩
    · obtain ⟨⟨e3_0, e3_1⟩, g3, h⟩ := bnd_some h
      replace g3 := as_Pi8_i16Q_some g3
      obtain ⟨⟨e4_0, e4_1⟩, g4, h⟩ := bnd_some h
      replace g4 := as_Pi8_i16Q_some g4
      obtain ⟨y5_0, q5, h⟩ := bnd_some h
      rcases cnd_some h with ⟨h6, h⟩ | ⟨h6, h⟩
      · refine pNext_by [.b true, .v (V.parts [(V.int .i8 (e3_0)), (V.int .i16 (e3_1))]), .v (V.parts [(V.int .i8 (e4_0)), (V.int .i16 (e4_1))]), .v (V.bool (y5_0)), .b false] (And.intro h2 (And.intro g3 (And.intro g4 (And.intro (w_laws_eqPipe q5 k (by omega)) (And.intro (not_f h6) trivial))))) (ih _ _ _ _ h k m hk (by omega)) ?_
        kernel_rfl
      · cases h
        refine pLast_by [.b true, .v (V.parts [(V.int .i8 (e3_0)), (V.int .i16 (e3_1))]), .v (V.parts [(V.int .i8 (e4_0)), (V.int .i16 (e4_1))]), .v (V.bool (y5_0)), .b true] (And.intro h2 (And.intro g3 (And.intro g4 (And.intro (w_laws_eqPipe q5 k (by omega)) (And.intro (not_t h6) trivial))))) ?_
        kernel_rfl
    · cases h
      refine pLast_by [.b false] (And.intro h2 trivial) ?_
      kernel_rfl
theorem w_laws_eqPipeS {n : Nat} {a0 : List V} {a1 : List V} {z0 : Bool} (h : s_laws_eqPipeS n a0 a1 = some z0) : ∀ k, n + 2 ≤ k → sem E k 31 [(V.sl (a0)), (V.sl (a1))] = some (V.bool (z0)) := by
  intro k hk
  obtain ⟨k, rfl⟩ : ∃ q, k = q + 1 := ⟨k - 1, by omega⟩
  unfold s_laws_eqPipeS at h
  rcases cnd_some h with ⟨h1, h⟩ | ⟨h1, h⟩
  · obtain ⟨w, l7, h⟩ := bnd_some h
    rcases w with ⟨⟩ | u8_0
    · simp only [Option.some.injEq, Prod.mk.injEq] at h
      obtain rfl := h
      refine pFun_by [.b false, .l .normal ⟨[], []⟩] rfl (And.intro (not_f h1) (And.intro (lw_laws_eqPipeS_b0 _ _ _ _ _ l7 k k (by omega) (by omega)) trivial)) ?_
      kernel_rfl
    · simp only [Option.some.injEq, Prod.mk.injEq] at h
      obtain rfl := h
      refine pFun_by [.b false, .l .ret ⟨[(4, (V.bool (u8_0)))], []⟩] rfl (And.intro (not_f h1) (And.intro (lw_laws_eqPipeS_b0 _ _ _ _ _ l7 k k (by omega) (by omega)) trivial)) ?_
      kernel_rfl
  · simp only [Option.some.injEq, Prod.mk.injEq] at h
    obtain rfl := h
    refine pFun_by [.b true] rfl (And.intro (not_t h1) trivial) ?_
    kernel_rfl
theorem w_laws_eqGutter {n : Nat} {a0 : Int} {a1 : Int} {a2 : Nat → Int} {a3 : Int} {a4 : List V} {a5 : Int} {a6 : Int} {a7 : Nat → Int} {a8 : Int} {a9 : List V} {z0 : Bool} (h : s_laws_eqGutter n a0 a1 a2 a3 a4 a5 a6 a7 a8 a9 = some z0) : ∀ k, n + 3 ≤ k → sem E k 21 [(V.parts [(V.int .i8 (a0)), (V.int .i16 (a1)), (V.ints .i8 17 (a2)), (V.int .u32 (a3)), (V.sl (a4))]), (V.parts [(V.int .i8 (a5)), (V.int .i16 (a6)), (V.ints .i8 17 (a7)), (V.int .u32 (a8)), (V.sl (a9))])] = some (V.bool (z0)) := by
  intro k hk
  obtain ⟨k, rfl⟩ : ∃ q, k = q + 1 := ⟨k - 1, by omega⟩
  unfold s_laws_eqGutter at h
  rcases cnd_some h with ⟨h1, h⟩ | ⟨h1, h⟩
  · rcases cnd_some h with ⟨h2, h⟩ | ⟨h2, h⟩
    · obtain ⟨y3_0, q3, h⟩ := bnd_some h
      rcases cnd_some h with ⟨h4, h⟩ | ⟨h4, h⟩
      · rcases cnd_some h with ⟨h5, h⟩ | ⟨h5, h⟩
        · obtain ⟨y6_0, q6, h⟩ := bnd_some h
          rcases cnd_some h with ⟨h7, h⟩ | ⟨h7, h⟩
          · simp only [Option.some.injEq, Prod.mk.injEq] at h
            obtain rfl := h
            refine pFun_by [.b false, .b false, .v (V.bool (y3_0)), .b false, .b false, .v (V.bool (y6_0)), .b false] rfl (And.intro (not_f h1) (And.intro (not_f h2) (And.intro (w_laws_eqInt8A17 q3 k (by omega)) (And.intro (not_f h4) (And.intro (not_f h5) (And.intro (w_laws_eqPipeS q6 k (by omega)) (And.intro (not_f h7) trivial))))))) ?_
            kernel_rfl
          · simp only [Option.some.injEq, Prod.mk.injEq] at h
            obtain rfl := h
            refine pFun_by [.b false, .b false, .v (V.bool (y3_0)), .b false, .b false, .v (V.bool (y6_0)), .b true] rfl (And.intro (not_f h1) (And.intro (not_f h2) (And.intro (w_laws_eqInt8A17 q3 k (by omega)) (And.intro (not_f h4) (And.intro (not_f h5) (And.intro (w_laws_eqPipeS q6 k (by omega)) (And.intro (not_t h7) trivial))))))) ?_
            kernel_rfl
        · simp only [Option.some.injEq, Prod.mk.injEq] at h
          obtain rfl := h
          refine pFun_by [.b false, .b false, .v (V.bool (y3_0)), .b false, .b true] rfl (And.intro (not_f h1) (And.intro (not_f h2) (And.intro (w_laws_eqInt8A17 q3 k (by omega)) (And.intro (not_f h4) (And.intro (not_t h5) trivial))))) ?_
          kernel_rfl
      · simp only [Option.some.injEq, Prod.mk.injEq] at h
        obtain rfl := h
        refine pFun_by [.b false, .b false, .v (V.bool (y3_0)), .b true] rfl (And.intro (not_f h1) (And.intro (not_f h2) (And.intro (w_laws_eqInt8A17 q3 k (by omega)) (And.intro (not_t h4) trivial)))) ?_
        kernel_rfl
    · simp only [Option.some.injEq, Prod.mk.injEq] at h
      obtain rfl := h
      refine pFun_by [.b false, .b true] rfl (And.intro (not_f h1) (And.intro (not_t h2) trivial)) ?_
      kernel_rfl
  · simp only [Option.some.injEq, Prod.mk.injEq] at h
    obtain rfl := h
    refine pFun_by [.b true] rfl (And.intro (not_t h1) trivial) ?_
    kernel_rfl
theorem w_laws_FnExactSameGutter {n : Nat} {a0 : Int} {a1 : Int} {a2 : Nat → Int} {a3 : Int} {a4 : List V} {a5 : Int} {a6 : Int} {a7 : Nat → Int} {a8 : Int} {a9 : List V} {z0 : Bool} (h : s_laws_FnExactSameGutter n a0 a1 a2 a3 a4 a5 a6 a7 a8 a9 = some z0) : ∀ k, n + 4 ≤ k → sem E k 3 [(V.parts [(V.int .i8 (a0)), (V.int .i16 (a1)), (V.ints .i8 17 (a2)), (V.int .u32 (a3)), (V.sl (a4))]), (V.parts [(V.int .i8 (a5)), (V.int .i16 (a6)), (V.ints .i8 17 (a7)), (V.int .u32 (a8)), (V.sl (a9))])] = some (V.bool (z0)) := by
  intro k hk
  obtain ⟨k, rfl⟩ : ∃ q, k = q + 1 := ⟨k - 1, by omega⟩
  unfold s_laws_FnExactSameGutter at h
  obtain ⟨y1_0, q1, h⟩ := bnd_some h
  rcases cnd_some h with ⟨h2, h⟩ | ⟨h2, h⟩
  · simp only [Option.some.injEq, Prod.mk.injEq] at h
    obtain rfl := h
    refine pFun_by [.v (V.int .i64 (y1_0)), .b true] rfl (And.intro (w_laws_szGutter q1 k (by omega)) (And.intro h2 trivial)) ?_
    kernel_rfl
  · obtain ⟨y3_0, q3, h⟩ := bnd_some h
    rcases cnd_some h with ⟨h4, h⟩ | ⟨h4, h⟩
    · simp only [Option.some.injEq, Prod.mk.injEq] at h
      obtain rfl := h
      refine pFun_by [.v (V.int .i64 (y1_0)), .b false, .v (V.int .i64 (y3_0)), .b true] rfl (And.intro (w_laws_szGutter q1 k (by omega)) (And.intro h2 (And.intro (w_laws_szGutter q3 k (by omega)) (And.intro h4 trivial)))) ?_
      kernel_rfl
    · obtain ⟨⟨y5_0, y5_1, y5_2, y5_3, y5_4⟩, q5, h⟩ := bnd_some h
      obtain ⟨⟨y6_0, y6_1, y6_2, y6_3, y6_4⟩, q6, h⟩ := bnd_some h
      obtain ⟨y7_0, q7, h⟩ := bnd_some h
      obtain ⟨⟨y8_0, y8_1, y8_2, y8_3, y8_4⟩, q8, h⟩ := bnd_some h
      obtain ⟨⟨y9_0, y9_1, y9_2, y9_3, y9_4⟩, q9, h⟩ := bnd_some h
      obtain ⟨y10_0, q10, h⟩ := bnd_some h
      rcases cnd_some h with ⟨h11, h⟩ | ⟨h11, h⟩
      · obtain ⟨⟨y12_0, y12_1, y12_2, y12_3, y12_4⟩, q12, h⟩ := bnd_some h
        obtain ⟨y13_0, q13, h⟩ := bnd_some h
        rcases cnd_some h with ⟨h14, h⟩ | ⟨h14, h⟩
        · obtain ⟨⟨y15_0, y15_1, y15_2, y15_3, y15_4⟩, q15, h⟩ := bnd_some h
          obtain ⟨y16_0, q16, h⟩ := bnd_some h
          rcases cnd_some h with ⟨h17, h⟩ | ⟨h17, h⟩
          · simp only [Option.some.injEq, Prod.mk.injEq] at h
            obtain rfl := h
            refine pFun_by [.v (V.int .i64 (y1_0)), .b false, .v (V.int .i64 (y3_0)), .b false, .v (V.parts [(V.int .i8 (y5_0)), (V.int .i16 (y5_1)), (V.ints .i8 17 (y5_2)), (V.int .u32 (y5_3)), (V.fresh 69 (y5_4))]), .v (V.parts [(V.int .i8 (y6_0)), (V.int .i16 (y6_1)), (V.ints .i8 17 (y6_2)), (V.int .u32 (y6_3)), (V.fresh 69 (y6_4))]), .v (V.bool (y7_0)), .v (V.parts [(V.int .i8 (y8_0)), (V.int .i16 (y8_1)), (V.ints .i8 17 (y8_2)), (V.int .u32 (y8_3)), (V.fresh 69 (y8_4))]), .v (V.parts [(V.int .i8 (y9_0)), (V.int .i16 (y9_1)), (V.ints .i8 17 (y9_2)), (V.int .u32 (y9_3)), (V.fresh 69 (y9_4))]), .v (V.bool (y10_0)), .b false, .v (V.parts [(V.int .i8 (y12_0)), (V.int .i16 (y12_1)), (V.ints .i8 17 (y12_2)), (V.int .u32 (y12_3)), (V.fresh 69 (y12_4))]), .v (V.bool (y13_0)), .b false, .v (V.parts [(V.int .i8 (y15_0)), (V.int .i16 (y15_1)), (V.ints .i8 17 (y15_2)), (V.int .u32 (y15_3)), (V.fresh 69 (y15_4))]), .v (V.bool (y16_0)), .b false] rfl (And.intro (w_laws_szGutter q1 k (by omega)) (And.intro h2 (And.intro (w_laws_szGutter q3 k (by omega)) (And.intro h4 (And.intro (w_laws_toGutter q5 k (by omega)) (And.intro (w_laws_toGutter q6 k (by omega)) (And.intro (w_spec_SameGutter q7 k (by omega)) (And.intro (Eq.refl true) (And.intro (w_laws_toGutter q8 k (by omega)) (And.intro (w_laws_toGutter q9 k (by omega)) (And.intro (w_impl_SameGutter q10 k (by omega)) (And.intro (Eq.refl true) (And.intro (not_f h11) (And.intro (w_laws_toGutter q12 k (by omega)) (And.intro (w_laws_eqGutter q13 k (by omega)) (And.intro (Eq.refl true) (And.intro (not_f h14) (And.intro (w_laws_toGutter q15 k (by omega)) (And.intro (w_laws_eqGutter q16 k (by omega)) (And.intro (Eq.refl true) (And.intro (not_f h17) trivial))))))))))))))))))))) ?_
            kernel_rfl
          · simp only [Option.some.injEq, Prod.mk.injEq] at h
            obtain rfl := h
            refine pFun_by [.v (V.int .i64 (y1_0)), .b false, .v (V.int .i64 (y3_0)), .b false, .v (V.parts [(V.int .i8 (y5_0)), (V.int .i16 (y5_1)), (V.ints .i8 17 (y5_2)), (V.int .u32 (y5_3)), (V.fresh 69 (y5_4))]), .v (V.parts [(V.int .i8 (y6_0)), (V.int .i16 (y6_1)), (V.ints .i8 17 (y6_2)), (V.int .u32 (y6_3)), (V.fresh 69 (y6_4))]), .v (V.bool (y7_0)), .v (V.parts [(V.int .i8 (y8_0)), (V.int .i16 (y8_1)), (V.ints .i8 17 (y8_2)), (V.int .u32 (y8_3)), (V.fresh 69 (y8_4))]), .v (V.parts [(V.int .i8 (y9_0)), (V.int .i16 (y9_1)), (V.ints .i8 17 (y9_2)), (V.int .u32 (y9_3)), (V.fresh 69 (y9_4))]), .v (V.bool (y10_0)), .b false, .v (V.parts [(V.int .i8 (y12_0)), (V.int .i16 (y12_1)), (V.ints .i8 17 (y12_2)), (V.int .u32 (y12_3)), (V.fresh 69 (y12_4))]), .v (V.bool (y13_0)), .b false, .v (V.parts [(V.int .i8 (y15_0)), (V.int .i16 (y15_1)), (V.ints .i8 17 (y15_2)), (V.int .u32 (y15_3)), (V.fresh 69 (y15_4))]), .v (V.bool (y16_0)), .b true] rfl (And.intro (w_laws_szGutter q1 k (by omega)) (And.intro h2 (And.intro (w_laws_szGutter q3 k (by omega)) (And.intro h4 (And.intro (w_laws_toGutter q5 k (by omega)) (And.intro (w_laws_toGutter q6 k (by omega)) (And.intro (w_spec_SameGutter q7 k (by omega)) (And.intro (Eq.refl true) (And.intro (w_laws_toGutter q8 k (by omega)) (And.intro (w_laws_toGutter q9 k (by omega)) (And.intro (w_impl_SameGutter q10 k (by omega)) (And.intro (Eq.refl true) (And.intro (not_f h11) (And.intro (w_laws_toGutter q12 k (by omega)) (And.intro (w_laws_eqGutter q13 k (by omega)) (And.intro (Eq.refl true) (And.intro (not_f h14) (And.intro (w_laws_toGutter q15 k (by omega)) (And.intro (w_laws_eqGutter q16 k (by omega)) (And.intro (Eq.refl true) (And.intro (not_t h17) trivial))))))))))))))))))))) ?_
            kernel_rfl
        · simp only [Option.some.injEq, Prod.mk.injEq] at h
          obtain rfl := h
          refine pFun_by [.v (V.int .i64 (y1_0)), .b false, .v (V.int .i64 (y3_0)), .b false, .v (V.parts [(V.int .i8 (y5_0)), (V.int .i16 (y5_1)), (V.ints .i8 17 (y5_2)), (V.int .u32 (y5_3)), (V.fresh 69 (y5_4))]), .v (V.parts [(V.int .i8 (y6_0)), (V.int .i16 (y6_1)), (V.ints .i8 17 (y6_2)), (V.int .u32 (y6_3)), (V.fresh 69 (y6_4))]), .v (V.bool (y7_0)), .v (V.parts [(V.int .i8 (y8_0)), (V.int .i16 (y8_1)), (V.ints .i8 17 (y8_2)), (V.int .u32 (y8_3)), (V.fresh 69 (y8_4))]), .v (V.parts [(V.int .i8 (y9_0)), (V.int .i16 (y9_1)), (V.ints .i8 17 (y9_2)), (V.int .u32 (y9_3)), (V.fresh 69 (y9_4))]), .v (V.bool (y10_0)), .b false, .v (V.parts [(V.int .i8 (y12_0)), (V.int .i16 (y12_1)), (V.ints .i8 17 (y12_2)), (V.int .u32 (y12_3)), (V.fresh 69 (y12_4))]), .v (V.bool (y13_0)), .b true] rfl (And.intro (w_laws_szGutter q1 k (by omega)) (And.intro h2 (And.intro (w_laws_szGutter q3 k (by omega)) (And.intro h4 (And.intro (w_laws_toGutter q5 k (by omega)) (And.intro (w_laws_toGutter q6 k (by omega)) (And.intro (w_spec_SameGutter q7 k (by omega)) (And.intro (Eq.refl true) (And.intro (w_laws_toGutter q8 k (by omega)) (And.intro (w_laws_toGutter q9 k (by omega)) (And.intro (w_impl_SameGutter q10 k (by omega)) (And.intro (Eq.refl true) (And.intro (not_f h11) (And.intro (w_laws_toGutter q12 k (by omega)) (And.intro (w_laws_eqGutter q13 k (by omega)) (And.intro (Eq.refl true) (And.intro (not_t h14) trivial))))))))))))))))) ?_
          kernel_rfl
      · simp only [Option.some.injEq, Prod.mk.injEq] at h
        obtain rfl := h
        refine pFun_by [.v (V.int .i64 (y1_0)), .b false, .v (V.int .i64 (y3_0)), .b false, .v (V.parts [(V.int .i8 (y5_0)), (V.int .i16 (y5_1)), (V.ints .i8 17 (y5_2)), (V.int .u32 (y5_3)), (V.fresh 69 (y5_4))]), .v (V.parts [(V.int .i8 (y6_0)), (V.int .i16 (y6_1)), (V.ints .i8 17 (y6_2)), (V.int .u32 (y6_3)), (V.fresh 69 (y6_4))]), .v (V.bool (y7_0)), .v (V.parts [(V.int .i8 (y8_0)), (V.int .i16 (y8_1)), (V.ints .i8 17 (y8_2)), (V.int .u32 (y8_3)), (V.fresh 69 (y8_4))]), .v (V.parts [(V.int .i8 (y9_0)), (V.int .i16 (y9_1)), (V.ints .i8 17 (y9_2)), (V.int .u32 (y9_3)), (V.fresh 69 (y9_4))]), .v (V.bool (y10_0)), .b true] rfl (And.intro (w_laws_szGutter q1 k (by omega)) (And.intro h2 (And.intro (w_laws_szGutter q3 k (by omega)) (And.intro h4 (And.intro (w_laws_toGutter q5 k (by omega)) (And.intro (w_laws_toGutter q6 k (by omega)) (And.intro (w_spec_SameGutter q7 k (by omega)) (And.intro (Eq.refl true) (And.intro (w_laws_toGutter q8 k (by omega)) (And.intro (w_laws_toGutter q9 k (by omega)) (And.intro (w_impl_SameGutter q10 k (by omega)) (And.intro (Eq.refl true) (And.intro (not_t h11) trivial))))))))))))) ?_
        kernel_rfl
end Go.Proofs.Ytfoojgpbgaldgaa
