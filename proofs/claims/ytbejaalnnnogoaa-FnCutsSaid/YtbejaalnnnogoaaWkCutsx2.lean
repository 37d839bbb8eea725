/- The program goes as the shallow texts tell: printed by gen.py. -/
import Derived.Test.YtbejaalnnnogoaaWkCutsx1
namespace Go.Proofs.Ytbejaalnnnogoaa
open Go
set_option linter.unusedVariables false
set_option linter.unusedSimpArgs false
set_option maxRecDepth 100000
set_option maxHeartbeats 4000000
theorem w_impl_piecesCode {n : Nat} {a0 : List V} {z0 : Int} (h : s_impl_piecesCode n a0 = some z0) : ∀ k, n + 12 ≤ k → sem E k 41 [(V.sl (a0))] = some (V.int .i64 (z0)) := by
  intro k hk
  obtain ⟨k, rfl⟩ : ∃ q, k = q + 1 := ⟨k - 1, by omega⟩
  unfold s_impl_piecesCode at h
  obtain ⟨y1_0, q1, h⟩ := bnd_some h
  rcases cnd_some h with ⟨h2, h⟩ | ⟨h2, h⟩
  · obtain ⟨y3_0, q3, h⟩ := bnd_some h
    rcases cnd_some h with ⟨h4, h⟩ | ⟨h4, h⟩
    · replace h := Option.some.inj h
      obtain rfl := h
      refine pFun_by [.v (V.bool (y1_0)), .b false, .v (V.bool (y3_0)), .b false] rfl (And.intro (w_impl_areAll_Simpl_Piece__piecesCode_1 q1 k (by omega)) (And.intro (not_f h2) (And.intro (w_impl_areAll_Simpl_Piece__piecesCode_2 q3 k (by omega)) (And.intro (not_f h4) trivial)))) ?_
      kernel_rfl
    · replace h := Option.some.inj h
      obtain rfl := h
      refine pFun_by [.v (V.bool (y1_0)), .b false, .v (V.bool (y3_0)), .b true] rfl (And.intro (w_impl_areAll_Simpl_Piece__piecesCode_1 q1 k (by omega)) (And.intro (not_f h2) (And.intro (w_impl_areAll_Simpl_Piece__piecesCode_2 q3 k (by omega)) (And.intro (not_t h4) trivial)))) ?_
      kernel_rfl
  · replace h := Option.some.inj h
    obtain rfl := h
    refine pFun_by [.v (V.bool (y1_0)), .b true] rfl (And.intro (w_impl_areAll_Simpl_Piece__piecesCode_1 q1 k (by omega)) (And.intro (not_t h2) trivial)) ?_
    kernel_rfl
theorem w_impl_TilesFor {n : Nat} {a0 : List V} {z0 : Int} {z1 : Int} (h : s_impl_TilesFor n a0 = some (z0, z1)) : ∀ k, n + 13 ≤ k → sem E k 16 [(V.sl (a0))] = some (V.tup [(V.int .i64 (z0)), (V.int .i64 (z1))]) := by
  intro k hk
  obtain ⟨k, rfl⟩ : ∃ q, k = q + 1 := ⟨k - 1, by omega⟩
  unfold s_impl_TilesFor at h
  obtain ⟨y1_0, q1, h⟩ := bnd_some h
  rcases cnd_some h with ⟨h2, h⟩ | ⟨h2, h⟩
  · obtain ⟨y3_0, q3, h⟩ := bnd_some h
    simp only [Option.some.injEq, Prod.mk.injEq] at h
    obtain ⟨rfl, rfl⟩ := h
    refine pFun_by [.v (V.int .i64 (y1_0)), .b false, .v (V.int .i64 (y3_0))] rfl (And.intro (w_impl_piecesCode q1 k (by omega)) (And.intro (Eq.refl true) (And.intro (not_f h2) (And.intro (w_impl_tilesFor q3 k (by omega)) trivial)))) ?_
    kernel_rfl
  · simp only [Option.some.injEq, Prod.mk.injEq] at h
    obtain ⟨rfl, rfl⟩ := h
    refine pFun_by [.v (V.int .i64 (y1_0)), .b true] rfl (And.intro (w_impl_piecesCode q1 k (by omega)) (And.intro (Eq.refl true) (And.intro (not_t h2) trivial))) ?_
    kernel_rfl
theorem w_impl_MirrorShape_1 {n : Nat} {a0 : Int} {a1 : Int} {z0 : Int} {z1 : Int} (h : s_impl_MirrorShape_1 n a0 a1 = some (z0, z1)) : ∀ k, n + 1 ≤ k → sem E k 44 [(V.parts [(V.int .i16 (a0)), (V.int .i16 (a1))])] = some (V.parts [(V.int .i16 (z0)), (V.int .i16 (z1))]) := by
  intro k hk
  obtain ⟨k, rfl⟩ : ∃ q, k = q + 1 := ⟨k - 1, by omega⟩
  unfold s_impl_MirrorShape_1 at h
  simp only [Option.some.injEq, Prod.mk.injEq] at h
  obtain ⟨rfl, rfl⟩ := h
  refine pFun_by [] rfl trivial ?_
  kernel_rfl
theorem lw_eaMi_b0 : ∀ (n : Nat) (a0 : List V) (a1 : Int) (a2 : Int) (a3 : List V) (r : List V), l_eaMi_b0 n a0 a1 a2 a3 = some r → ∀ k m, n + 1 ≤ k → n ≤ m → LB E 43 0 k m ⟨[(1, (V.clo 44 [])), (5, (V.row 11)), (8, (V.sl (a0))), (9, (V.int .i64 (a1))), (10, (V.int .i64 (a2)))], [(11, .row 66 (a3))]⟩ = some (match r with | o0 => (.normal, ⟨[(5, (V.row 11))], [(11, .row 66 (o0))]⟩)) := by
  intro n
  induction n with
  | zero => intro a0 a1 a2 a3 r h; cases h
  | succ n ih =>
    intro a0 a1 a2 a3 r h k m hk hm
    obtain ⟨m, rfl⟩ : ∃ q, m = q + 1 := ⟨m - 1, by omega⟩
    replace hk : n + 1 ≤ k := by omega
    unfold l_eaMi_b0 at h
    rcases cnd_some h with ⟨h1, h⟩ | ⟨h1, h⟩
    · obtain ⟨⟨e2_0, e2_1⟩, g2, h⟩ := bnd_some h
      replace g2 := as_Pi16_i16Q_some g2
      obtain ⟨⟨y3_0, y3_1⟩, q3, h⟩ := bnd_some h
      obtain ⟨c4, h⟩ := chk_some h
      refine pNext_by [.b true, .v (V.parts [(V.int .i16 (e2_0)), (V.int .i16 (e2_1))]), .v (V.parts [(V.int .i16 (y3_0)), (V.int .i16 (y3_1))])] (And.intro h1 (And.intro g2 (And.intro (w_impl_MirrorShape_1 q3 k (by omega)) (And.intro c4 (And.intro (Eq.refl true) trivial))))) (ih _ _ _ _ _ h k m hk (by omega)) ?_
      kernel_rfl
    · cases h
      refine pLast_by [.b false] (And.intro h1 trivial) ?_
      kernel_rfl
theorem w_eaMi {n : Nat} {a0 : List V} {z0 : List V} (h : s_eaMi n a0 = some z0) : ∀ k, n + 2 ≤ k → sem E k 43 [(V.sl (a0)), (V.clo 44 [])] = some (V.fresh 66 (z0)) := by
  intro k hk
  obtain ⟨k, rfl⟩ : ∃ q, k = q + 1 := ⟨k - 1, by omega⟩
  unfold s_eaMi at h
  obtain ⟨u5_0, l5, h⟩ := bnd_some h
  replace h := Option.some.inj h
  obtain rfl := h
  refine pFun_by [.l .normal ⟨[(5, (V.row 11))], [(11, .row 66 (u5_0))]⟩] rfl (And.intro (lw_eaMi_b0 _ _ _ _ _ _ l5 k k (by omega) (by omega)) trivial) ?_
  kernel_rfl
theorem w_impl_MirrorShape {n : Nat} {a0 : Int} {a1 : List V} {z0 : Int} {z1 : List V} {z2 : Int} (h : s_impl_MirrorShape n a0 a1 = some (z0, z1, z2)) : ∀ k, n + 7 ≤ k → sem E k 17 [(V.parts [(V.int .u8 (a0)), (V.sl (a1))])] = some (V.tup [(V.parts [(V.int .u8 (z0)), (V.fresh 66 (z1))]), (V.int .i64 (z2))]) := by
  intro k hk
  obtain ⟨k, rfl⟩ : ∃ q, k = q + 1 := ⟨k - 1, by omega⟩
  unfold s_impl_MirrorShape at h
  obtain ⟨y1_0, q1, h⟩ := bnd_some h
  rcases cnd_some h with ⟨h2, h⟩ | ⟨h2, h⟩
  · obtain ⟨y3_0, q3, h⟩ := bnd_some h
    simp only [Option.some.injEq, Prod.mk.injEq] at h
    obtain ⟨rfl, rfl, rfl⟩ := h
    refine pFun_by [.v (V.bool (y1_0)), .b false, .v (V.fresh 66 (y3_0))] rfl (And.intro (w_impl_ValidShape q1 k (by omega)) (And.intro (not_f h2) (And.intro (w_eaMi q3 k (by omega)) trivial))) ?_
    kernel_rfl
  · simp only [Option.some.injEq, Prod.mk.injEq] at h
    obtain ⟨rfl, rfl, rfl⟩ := h
    refine pFun_by [.v (V.bool (y1_0)), .b true] rfl (And.intro (w_impl_ValidShape q1 k (by omega)) (And.intro (not_t h2) trivial)) ?_
    kernel_rfl
theorem lw_spec_MirrorShape_b0 : ∀ (n : Nat) (a0 : Int) (a1 : Int) (a2 : List V) (a3 : Int) (a4 : Int) (a5 : List V) (a6 : List V) (r : Int × Int × List V × List V), l_spec_MirrorShape_b0 n a0 a1 a2 a3 a4 a5 a6 = some r → ∀ k m, n + 0 ≤ k → n ≤ m → LB E 18 0 k m ⟨[(1, (V.ptr 3 0 (0) 2)), (2, (V.ptr 5 0 (0) 2)), (4, (V.ptr 9 0 (0) 2)), (5, (V.int .i64 (a0)))], [(3, .box [(V.int .u8 (a1)), (V.sl (a2))]), (5, .box [(V.int .u8 (a3)), (V.row 5007)]), (9, .box [(V.int .u8 (a4)), (V.row 9011)]), (5007, .row 66 (a5)), (9011, .row 66 (a6))]⟩ = some (match r with | (o0, o1, o2, o3) => (.normal, ⟨[(2, (V.ptr 5 0 (0) 2)), (4, (V.ptr 9 0 (0) 2))], [(5, .box [(V.int .u8 (o0)), (V.row 5007)]), (9, .box [(V.int .u8 (o1)), (V.row 9011)]), (5007, .row 66 (o2)), (9011, .row 66 (o3))]⟩)) := by
  intro n
  induction n with
  | zero => intro a0 a1 a2 a3 a4 a5 a6 r h; cases h
  | succ n ih =>
    intro a0 a1 a2 a3 a4 a5 a6 r h k m hk hm
    obtain ⟨m, rfl⟩ : ∃ q, m = q + 1 := ⟨m - 1, by omega⟩
    replace hk : n + 0 ≤ k := by omega
    unfold l_spec_MirrorShape_b0 at h
    rcases cnd_some h with ⟨h3, h⟩ | ⟨h3, h⟩
    · obtain ⟨⟨e4_0, e4_1⟩, g4, h⟩ := bnd_some h
      replace g4 := as_Pi16_i16Q_some g4
      obtain ⟨⟨e5_0, e5_1⟩, g5, h⟩ := bnd_some h
      replace g5 := as_Pi16_i16Q_some g5
      obtain ⟨c6, h⟩ := chk_some h
      refine pNext_by [.b true, .v (V.parts [(V.int .i16 (e4_0)), (V.int .i16 (e4_1))]), .v (V.parts [(V.int .i16 (e5_0)), (V.int .i16 (e5_1))])] (And.intro h3 (And.intro g4 (And.intro g5 (And.intro c6 (And.intro (Eq.refl true) trivial))))) (ih _ _ _ _ _ _ _ _ h k m hk (by omega)) ?_
      kernel_rfl
    · cases h
      refine pLast_by [.b false] (And.intro h3 trivial) ?_
      kernel_rfl
theorem w_spec_MirrorShape {n : Nat} {a0 : Int} {a1 : List V} {z0 : Int} {z1 : List V} {z2 : Int} (h : s_spec_MirrorShape n a0 a1 = some (z0, z1, z2)) : ∀ k, n + 3 ≤ k → sem E k 18 [(V.parts [(V.int .u8 (a0)), (V.sl (a1))])] = some (V.tup [(V.parts [(V.int .u8 (z0)), (V.fresh 66 (z1))]), (V.int .i64 (z2))]) := by
  intro k hk
  obtain ⟨k, rfl⟩ : ∃ q, k = q + 1 := ⟨k - 1, by omega⟩
  unfold s_spec_MirrorShape at h
  obtain ⟨y1_0, q1, h⟩ := bnd_some h
  rcases cnd_some h with ⟨h2, h⟩ | ⟨h2, h⟩
  · obtain ⟨⟨u7_0, u7_1, u7_2, u7_3⟩, l7, h⟩ := bnd_some h
    simp only [Option.some.injEq, Prod.mk.injEq] at h
    obtain ⟨rfl, rfl, rfl⟩ := h
    refine pFun_by [.v (V.bool (y1_0)), .b false, .l .normal ⟨[(2, (V.ptr 5 0 (0) 2)), (4, (V.ptr 9 0 (0) 2))], [(5, .box [(V.int .u8 (u7_0)), (V.row 5007)]), (9, .box [(V.int .u8 (u7_1)), (V.row 9011)]), (5007, .row 66 (u7_2)), (9011, .row 66 (u7_3))]⟩] rfl (And.intro (w_spec_l05Ok q1 k (by omega)) (And.intro (Eq.refl true) (And.intro (not_f h2) (And.intro (lw_spec_MirrorShape_b0 _ _ _ _ _ _ _ _ _ l7 k k (by omega) (by omega)) trivial)))) ?_
    kernel_rfl
  · simp only [Option.some.injEq, Prod.mk.injEq] at h
    obtain ⟨rfl, rfl, rfl⟩ := h
    refine pFun_by [.v (V.bool (y1_0)), .b true] rfl (And.intro (w_spec_l05Ok q1 k (by omega)) (And.intro (Eq.refl true) (And.intro (not_t h2) trivial))) ?_
    kernel_rfl
theorem lw_spec_A2SamePieces_b0 : ∀ (n : Nat) (a0 : List V) (a1 : List V) (a2 : Int) (r : Sum (Unit) (Bool)), l_spec_A2SamePieces_b0 n a0 a1 a2 = some r → ∀ k m, n + 0 ≤ k → n ≤ m → LB E 19 0 k m ⟨[(0, (V.sl (a0))), (1, (V.sl (a1))), (5, (V.int .i64 (a2)))], []⟩ = some (match r with | .inl _ => (.normal, ⟨[], []⟩) | .inr o0 => (.ret, ⟨[(4, (V.bool (o0)))], []⟩)) := by
  intro n
  induction n with
  | zero => intro a0 a1 a2 r h; cases h
  | succ n ih =>
    intro a0 a1 a2 r h k m hk hm
    obtain ⟨m, rfl⟩ : ∃ q, m = q + 1 := ⟨m - 1, by omega⟩
    replace hk : n + 0 ≤ k := by omega
    unfold l_spec_A2SamePieces_b0 at h
    rcases cnd_some h with ⟨h2, h⟩ | ⟨h2, h⟩
    · obtain ⟨⟨e3_0, e3_1⟩, g3, h⟩ := bnd_some h
      replace g3 := as_Pi8_i8Q_some g3
      obtain ⟨⟨e4_0, e4_1⟩, g4, h⟩ := bnd_some h
      replace g4 := as_Pi8_i8Q_some g4
      rcases cnd_some h with ⟨h5, h⟩ | ⟨h5, h⟩
      · refine pNext_by [.b true, .v (V.parts [(V.int .i8 (e3_0)), (V.int .i8 (e3_1))]), .v (V.parts [(V.int .i8 (e4_0)), (V.int .i8 (e4_1))]), .b false] (And.intro h2 (And.intro g3 (And.intro g4 (And.intro (not_f h5) trivial)))) (ih _ _ _ _ h k m hk (by omega)) ?_
        kernel_rfl
      · cases h
        refine pLast_by [.b true, .v (V.parts [(V.int .i8 (e3_0)), (V.int .i8 (e3_1))]), .v (V.parts [(V.int .i8 (e4_0)), (V.int .i8 (e4_1))]), .b true] (And.intro h2 (And.intro g3 (And.intro g4 (And.intro (not_t h5) trivial)))) ?_
        kernel_rfl
    · cases h
      refine pLast_by [.b false] (And.intro h2 trivial) ?_
      kernel_rfl
theorem w_spec_A2SamePieces {n : Nat} {a0 : List V} {a1 : List V} {z0 : Bool} (h : s_spec_A2SamePieces n a0 a1 = some z0) : ∀ k, n + 1 ≤ k → sem E k 19 [(V.sl (a0)), (V.sl (a1))] = some (V.bool (z0)) := by
  intro k hk
  obtain ⟨k, rfl⟩ : ∃ q, k = q + 1 := ⟨k - 1, by omega⟩
  unfold s_spec_A2SamePieces at h
  rcases cnd_some h with ⟨h1, h⟩ | ⟨h1, h⟩
  · obtain ⟨w, l6, h⟩ := bnd_some h
    rcases w with ⟨⟩ | u7_0
    · replace h := Option.some.inj h
      obtain rfl := h
      refine pFun_by [.b false, .l .normal ⟨[], []⟩] rfl (And.intro (not_f h1) (And.intro (lw_spec_A2SamePieces_b0 _ _ _ _ _ l6 k k (by omega) (by omega)) trivial)) ?_
      kernel_rfl
    · replace h := Option.some.inj h
      obtain rfl := h
      refine pFun_by [.b false, .l .ret ⟨[(4, (V.bool (u7_0)))], []⟩] rfl (And.intro (not_f h1) (And.intro (lw_spec_A2SamePieces_b0 _ _ _ _ _ l6 k k (by omega) (by omega)) trivial)) ?_
      kernel_rfl
  · replace h := Option.some.inj h
    obtain rfl := h
    refine pFun_by [.b true] rfl (And.intro (not_t h1) trivial) ?_
    kernel_rfl
theorem lw_spec_SameShape_b0 : ∀ (n : Nat) (a0 : Int) (a1 : Int) (a2 : List V) (a3 : Int) (a4 : List V) (r : Sum (Unit) (Bool)), l_spec_SameShape_b0 n a0 a1 a2 a3 a4 = some r → ∀ k m, n + 0 ≤ k → n ≤ m → LB E 20 0 k m ⟨[(2, (V.ptr 5 0 (0) 2)), (3, (V.ptr 7 0 (0) 2)), (5, (V.int .i64 (a0)))], [(5, .box [(V.int .u8 (a1)), (V.sl (a2))]), (7, .box [(V.int .u8 (a3)), (V.sl (a4))])]⟩ = some (match r with | .inl _ => (.normal, ⟨[], []⟩) | .inr o0 => (.ret, ⟨[(4, (V.bool (o0)))], []⟩)) := by
  intro n
  induction n with
  | zero => intro a0 a1 a2 a3 a4 r h; cases h
  | succ n ih =>
    intro a0 a1 a2 a3 a4 r h k m hk hm
    obtain ⟨m, rfl⟩ : ∃ q, m = q + 1 := ⟨m - 1, by omega⟩
    replace hk : n + 0 ≤ k := by omega
    unfold l_spec_SameShape_b0 at h
    rcases cnd_some h with ⟨h3, h⟩ | ⟨h3, h⟩
    · obtain ⟨⟨e4_0, e4_1⟩, g4, h⟩ := bnd_some h
      replace g4 := as_Pi16_i16Q_some g4
      obtain ⟨⟨e5_0, e5_1⟩, g5, h⟩ := bnd_some h
      replace g5 := as_Pi16_i16Q_some g5
      rcases cnd_some h with ⟨h6, h⟩ | ⟨h6, h⟩
      · refine pNext_by [.b true, .v (V.parts [(V.int .i16 (e4_0)), (V.int .i16 (e4_1))]), .v (V.parts [(V.int .i16 (e5_0)), (V.int .i16 (e5_1))]), .b false] (And.intro h3 (And.intro g4 (And.intro g5 (And.intro (not_f h6) trivial)))) (ih _ _ _ _ _ _ h k m hk (by omega)) ?_
        kernel_rfl
      · cases h
        refine pLast_by [.b true, .v (V.parts [(V.int .i16 (e4_0)), (V.int .i16 (e4_1))]), .v (V.parts [(V.int .i16 (e5_0)), (V.int .i16 (e5_1))]), .b true] (And.intro h3 (And.intro g4 (And.intro g5 (And.intro (not_t h6) trivial)))) ?_
        kernel_rfl
    · cases h
      refine pLast_by [.b false] (And.intro h3 trivial) ?_
      kernel_rfl
theorem w_spec_SameShape {n : Nat} {a0 : Int} {a1 : List V} {a2 : Int} {a3 : List V} {z0 : Bool} (h : s_spec_SameShape n a0 a1 a2 a3 = some z0) : ∀ k, n + 1 ≤ k → sem E k 20 [(V.parts [(V.int .u8 (a0)), (V.sl (a1))]), (V.parts [(V.int .u8 (a2)), (V.sl (a3))])] = some (V.bool (z0)) := by
  intro k hk
  obtain ⟨k, rfl⟩ : ∃ q, k = q + 1 := ⟨k - 1, by omega⟩
  unfold s_spec_SameShape at h
  rcases cnd_some h with ⟨h1, h⟩ | ⟨h1, h⟩
  · rcases cnd_some h with ⟨h2, h⟩ | ⟨h2, h⟩
    · obtain ⟨w, l7, h⟩ := bnd_some h
      rcases w with ⟨⟩ | u8_0
      · replace h := Option.some.inj h
        obtain rfl := h
        refine pFun_by [.b false, .b false, .l .normal ⟨[], []⟩] rfl (And.intro (not_f h1) (And.intro (not_f h2) (And.intro (lw_spec_SameShape_b0 _ _ _ _ _ _ _ l7 k k (by omega) (by omega)) trivial))) ?_
        kernel_rfl
      · replace h := Option.some.inj h
        obtain rfl := h
        refine pFun_by [.b false, .b false, .l .ret ⟨[(4, (V.bool (u8_0)))], []⟩] rfl (And.intro (not_f h1) (And.intro (not_f h2) (And.intro (lw_spec_SameShape_b0 _ _ _ _ _ _ _ l7 k k (by omega) (by omega)) trivial))) ?_
        kernel_rfl
    · replace h := Option.some.inj h
      obtain rfl := h
      refine pFun_by [.b false, .b true] rfl (And.intro (not_f h1) (And.intro (not_t h2) trivial)) ?_
      kernel_rfl
  · replace h := Option.some.inj h
    obtain rfl := h
    refine pFun_by [.b true, .b true] rfl (And.intro (not_t h1) (And.intro (Eq.refl true) trivial)) ?_
    kernel_rfl
theorem w_impl_within_int64 {n : Nat} {a0 : Int} {a1 : Int} {a2 : Int} {z0 : Bool} (h : s_impl_within_int64 n a0 a1 a2 = some z0) : ∀ k, n + 1 ≤ k → sem E k 48 [(V.int .i64 (a0)), (V.int .i64 (a1)), (V.int .i64 (a2))] = some (V.bool (z0)) := by
  intro k hk
  obtain ⟨k, rfl⟩ : ∃ q, k = q + 1 := ⟨k - 1, by omega⟩
  unfold s_impl_within_int64 at h
  rcases cnd_some h with ⟨h1, h⟩ | ⟨h1, h⟩
  · replace h := Option.some.inj h
    obtain rfl := h
    refine pFun_by [.b true] rfl (And.intro h1 trivial) ?_
    kernel_rfl
  · replace h := Option.some.inj h
    obtain rfl := h
    refine pFun_by [.b false] rfl (And.intro h1 trivial) ?_
    kernel_rfl
theorem w_impl_PiecesIn {n : Nat} {a0 : Int} {a1 : List V} {a2 : Int} {z0 : List V} {z1 : Int} (h : s_impl_PiecesIn n a0 a1 a2 = some (z0, z1)) : ∀ k, n + 7 ≤ k → sem E k 22 [(V.parts [(V.int .u8 (a0)), (V.sl (a1))]), (V.int .i64 (a2))] = some (V.tup [(V.fresh 42 (z0)), (V.int .i64 (z1))]) := by
  intro k hk
  obtain ⟨k, rfl⟩ : ∃ q, k = q + 1 := ⟨k - 1, by omega⟩
  unfold s_impl_PiecesIn at h
  obtain ⟨y1_0, q1, h⟩ := bnd_some h
  rcases cnd_some h with ⟨h2, h⟩ | ⟨h2, h⟩
  · obtain ⟨y3_0, q3, h⟩ := bnd_some h
    rcases cnd_some h with ⟨h4, h⟩ | ⟨h4, h⟩
    · obtain ⟨⟨y5_0, y5_1⟩, q5, h⟩ := bnd_some h
      simp only [Option.some.injEq, Prod.mk.injEq] at h
      obtain ⟨rfl, rfl⟩ := h
      refine pFun_by [.v (V.bool (y1_0)), .b false, .v (V.bool (y3_0)), .b false, .v (V.tup [(V.int .i64 (y5_0)), (V.fresh 42 (y5_1))])] rfl (And.intro (w_impl_ValidShape q1 k (by omega)) (And.intro (not_f h2) (And.intro (w_impl_within_int64 q3 k (by omega)) (And.intro (not_f h4) (And.intro (w_impl_Shape_laid q5 k (by omega)) trivial))))) ?_
      kernel_rfl
    · simp only [Option.some.injEq, Prod.mk.injEq] at h
      obtain ⟨rfl, rfl⟩ := h
      refine pFun_by [.v (V.bool (y1_0)), .b false, .v (V.bool (y3_0)), .b true] rfl (And.intro (w_impl_ValidShape q1 k (by omega)) (And.intro (not_f h2) (And.intro (w_impl_within_int64 q3 k (by omega)) (And.intro (not_t h4) trivial)))) ?_
      kernel_rfl
  · simp only [Option.some.injEq, Prod.mk.injEq] at h
    obtain ⟨rfl, rfl⟩ := h
    refine pFun_by [.v (V.bool (y1_0)), .b true] rfl (And.intro (w_impl_ValidShape q1 k (by omega)) (And.intro (not_t h2) trivial)) ?_
    kernel_rfl
theorem w_spec_PiecesIn {n : Nat} {a0 : Int} {a1 : List V} {a2 : Int} {z0 : List V} {z1 : Int} (h : s_spec_PiecesIn n a0 a1 a2 = some (z0, z1)) : ∀ k, n + 3 ≤ k → sem E k 23 [(V.parts [(V.int .u8 (a0)), (V.sl (a1))]), (V.int .i64 (a2))] = some (V.tup [(V.fresh 42 (z0)), (V.int .i64 (z1))]) := by
  intro k hk
  obtain ⟨k, rfl⟩ : ∃ q, k = q + 1 := ⟨k - 1, by omega⟩
  unfold s_spec_PiecesIn at h
  obtain ⟨y1_0, q1, h⟩ := bnd_some h
  rcases cnd_some h with ⟨h2, h⟩ | ⟨h2, h⟩
  · obtain ⟨y3_0, q3, h⟩ := bnd_some h
    rcases cnd_some h with ⟨h4, h⟩ | ⟨h4, h⟩
    · obtain ⟨⟨y5_0, y5_1⟩, q5, h⟩ := bnd_some h
      obtain ⟨c6, h⟩ := chk_some h
      simp only [Option.some.injEq, Prod.mk.injEq] at h
      obtain ⟨rfl, rfl⟩ := h
      refine pFun_by [.v (V.bool (y1_0)), .b false, .v (V.bool (y3_0)), .b false, .v (V.tup [(V.int .i64 (y5_0)), (V.fresh 42 (y5_1))])] rfl (And.intro (w_spec_l05Ok q1 k (by omega)) (And.intro (Eq.refl true) (And.intro (not_f h2) (And.intro (w_spec_l00In q3 k (by omega)) (And.intro (not_f h4) (And.intro (w_spec_l05Course q5 k (by omega)) (And.intro c6 trivial))))))) ?_
      kernel_rfl
    · simp only [Option.some.injEq, Prod.mk.injEq] at h
      obtain ⟨rfl, rfl⟩ := h
      refine pFun_by [.v (V.bool (y1_0)), .b false, .v (V.bool (y3_0)), .b true] rfl (And.intro (w_spec_l05Ok q1 k (by omega)) (And.intro (Eq.refl true) (And.intro (not_f h2) (And.intro (w_spec_l00In q3 k (by omega)) (And.intro (not_t h4) trivial))))) ?_
      kernel_rfl
  · simp only [Option.some.injEq, Prod.mk.injEq] at h
    obtain ⟨rfl, rfl⟩ := h
    refine pFun_by [.v (V.bool (y1_0)), .b true] rfl (And.intro (w_spec_l05Ok q1 k (by omega)) (And.intro (Eq.refl true) (And.intro (not_t h2) trivial))) ?_
    kernel_rfl
theorem w_impl_Shape_slid_1 {n : Nat} {a0 : Int} {a1 : Int} {a2 : Int} {z0 : Int} {z1 : Int} (h : s_impl_Shape_slid_1 n a0 a1 a2 = some (z0, z1)) : ∀ k, n + 1 ≤ k → sem E k 80 [(V.parts [(V.int .i16 (a0)), (V.int .i16 (a1))]), (V.ref [(V.int .i16 (a2))] 0 (0) 1)] = some (V.parts [(V.int .i16 (z0)), (V.int .i16 (z1))]) := by
  intro k hk
  obtain ⟨k, rfl⟩ : ∃ q, k = q + 1 := ⟨k - 1, by omega⟩
  unfold s_impl_Shape_slid_1 at h
  simp only [Option.some.injEq, Prod.mk.injEq] at h
  obtain ⟨rfl, rfl⟩ := h
  refine pFun_by [] rfl trivial ?_
  kernel_rfl
theorem lw_eaSl_b0 : ∀ (n : Nat) (a0 : Int) (a1 : List V) (a2 : Int) (a3 : Int) (a4 : List V) (r : List V), l_eaSl_b0 n a0 a1 a2 a3 a4 = some r → ∀ k m, n + 1 ≤ k → n ≤ m → LB E 43 0 k m ⟨[(1, (V.clo 80 [(V.ref [(V.int .i16 (a0))] 0 (0) 1)])), (5, (V.row 11)), (8, (V.sl (a1))), (9, (V.int .i64 (a2))), (10, (V.int .i64 (a3)))], [(11, .row 66 (a4))]⟩ = some (match r with | o0 => (.normal, ⟨[(5, (V.row 11))], [(11, .row 66 (o0))]⟩)) := by
  intro n
  induction n with
  | zero => intro a0 a1 a2 a3 a4 r h; cases h
  | succ n ih =>
    intro a0 a1 a2 a3 a4 r h k m hk hm
    obtain ⟨m, rfl⟩ : ∃ q, m = q + 1 := ⟨m - 1, by omega⟩
    replace hk : n + 1 ≤ k := by omega
    unfold l_eaSl_b0 at h
    rcases cnd_some h with ⟨h1, h⟩ | ⟨h1, h⟩
    · obtain ⟨⟨e2_0, e2_1⟩, g2, h⟩ := bnd_some h
      replace g2 := as_Pi16_i16Q_some g2
      obtain ⟨⟨y3_0, y3_1⟩, q3, h⟩ := bnd_some h
      obtain ⟨c4, h⟩ := chk_some h
      refine pNext_by [.b true, .v (V.parts [(V.int .i16 (e2_0)), (V.int .i16 (e2_1))]), .v (V.parts [(V.int .i16 (y3_0)), (V.int .i16 (y3_1))])] (And.intro h1 (And.intro g2 (And.intro (w_impl_Shape_slid_1 q3 k (by omega)) (And.intro c4 (And.intro (Eq.refl true) trivial))))) (ih _ _ _ _ _ _ h k m hk (by omega)) ?_
      kernel_rfl
    · cases h
      refine pLast_by [.b false] (And.intro h1 trivial) ?_
      kernel_rfl
theorem w_eaSl {n : Nat} {a0 : List V} {a1 : Int} {z0 : List V} (h : s_eaSl n a0 a1 = some z0) : ∀ k, n + 2 ≤ k → sem E k 43 [(V.sl (a0)), (V.clo 80 [(V.ref [(V.int .i16 (a1))] 0 (0) 1)])] = some (V.fresh 66 (z0)) := by
  intro k hk
  obtain ⟨k, rfl⟩ : ∃ q, k = q + 1 := ⟨k - 1, by omega⟩
  unfold s_eaSl at h
  obtain ⟨u5_0, l5, h⟩ := bnd_some h
  replace h := Option.some.inj h
  obtain rfl := h
  refine pFun_by [.l .normal ⟨[(5, (V.row 11))], [(11, .row 66 (u5_0))]⟩] rfl (And.intro (lw_eaSl_b0 _ _ _ _ _ _ _ l5 k k (by omega) (by omega)) trivial) ?_
  kernel_rfl
theorem w_impl_Shape_slid {n : Nat} {a0 : Int} {a1 : List V} {a2 : Int} {z0 : Int} {z1 : List V} (h : s_impl_Shape_slid n a0 a1 a2 = some (z0, z1)) : ∀ k, n + 3 ≤ k → sem E k 52 [(V.parts [(V.int .u8 (a0)), (V.sl (a1))]), (V.int .i16 (a2))] = some (V.parts [(V.int .u8 (z0)), (V.fresh 66 (z1))]) := by
  intro k hk
  obtain ⟨k, rfl⟩ : ∃ q, k = q + 1 := ⟨k - 1, by omega⟩
  unfold s_impl_Shape_slid at h
  obtain ⟨y1_0, q1, h⟩ := bnd_some h
  obtain ⟨c2, h⟩ := chk_some h
  simp only [Option.some.injEq, Prod.mk.injEq] at h
  obtain ⟨rfl, rfl⟩ := h
  refine pFun_by [.v (V.fresh 66 (y1_0))] rfl (And.intro (w_eaSl q1 k (by omega)) (And.intro c2 trivial)) ?_
  kernel_rfl
theorem lw_impl_BestSlide_b0 : ∀ (n : Nat) (a0 : Int) (a1 : Int) (a2 : Int) (a3 : Int) (a4 : List V) (r : Int × Int), l_impl_BestSlide_b0 n a0 a1 a2 a3 a4 = some r → ∀ k m, n + 10 ≤ k → n ≤ m → LB E 24 0 k m ⟨[(1, (V.ptr 3 0 (0) 2)), (5, (V.int .i64 (a0))), (6, (V.int .i64 (a1))), (7, (V.int .i16 (a2)))], [(3, .box [(V.int .u8 (a3)), (V.sl (a4))])]⟩ = some (match r with | (o0, o1) => (.normal, ⟨[(5, (V.int .i64 (o0))), (6, (V.int .i64 (o1)))], []⟩)) := by
  intro n
  induction n with
  | zero => intro a0 a1 a2 a3 a4 r h; cases h
  | succ n ih =>
    intro a0 a1 a2 a3 a4 r h k m hk hm
    obtain ⟨m, rfl⟩ : ∃ q, m = q + 1 := ⟨m - 1, by omega⟩
    replace hk : n + 10 ≤ k := by omega
    unfold l_impl_BestSlide_b0 at h
    rcases cnd_some h with ⟨h4, h⟩ | ⟨h4, h⟩
    · obtain ⟨⟨y5_0, y5_1⟩, q5, h⟩ := bnd_some h
      obtain ⟨y6_0, q6, h⟩ := bnd_some h
      rcases cnd_some h with ⟨h7, h⟩ | ⟨h7, h⟩
      · obtain ⟨y8_0, q8, h⟩ := bnd_some h
        rcases cnd_some h with ⟨h9, h⟩ | ⟨h9, h⟩
        · obtain ⟨y10_0, q10, h⟩ := bnd_some h
          refine pNext_by [.b true, .v (V.parts [(V.int .u8 (y5_0)), (V.fresh 66 (y5_1))]), .v (V.bool (y6_0)), .b true, .v (V.int .i64 (y8_0)), .b true, .v (V.int .i64 (y10_0))] (And.intro h4 (And.intro (w_impl_Shape_slid q5 k (by omega)) (And.intro (w_impl_ValidShape q6 k (by omega)) (And.intro (Eq.refl true) (And.intro h7 (And.intro (w_impl_Shape_least q8 k (by omega)) (And.intro (Eq.refl true) (And.intro h9 (And.intro (w_impl_Shape_least q10 k (by omega)) (And.intro (Eq.refl true) trivial)))))))))) (ih _ _ _ _ _ _ h k m hk (by omega)) ?_
          kernel_rfl
        · refine pNext_by [.b true, .v (V.parts [(V.int .u8 (y5_0)), (V.fresh 66 (y5_1))]), .v (V.bool (y6_0)), .b true, .v (V.int .i64 (y8_0)), .b false] (And.intro h4 (And.intro (w_impl_Shape_slid q5 k (by omega)) (And.intro (w_impl_ValidShape q6 k (by omega)) (And.intro (Eq.refl true) (And.intro h7 (And.intro (w_impl_Shape_least q8 k (by omega)) (And.intro (Eq.refl true) (And.intro h9 trivial)))))))) (ih _ _ _ _ _ _ h k m hk (by omega)) ?_
          kernel_rfl
      · refine pNext_by [.b true, .v (V.parts [(V.int .u8 (y5_0)), (V.fresh 66 (y5_1))]), .v (V.bool (y6_0)), .b false, .b false] (And.intro h4 (And.intro (w_impl_Shape_slid q5 k (by omega)) (And.intro (w_impl_ValidShape q6 k (by omega)) (And.intro (Eq.refl true) (And.intro h7 (And.intro (Eq.refl false) trivial)))))) (ih _ _ _ _ _ _ h k m hk (by omega)) ?_
        kernel_rfl
    · cases h
      refine pLast_by [.b false] (And.intro h4 trivial) ?_
      kernel_rfl
theorem w_impl_BestSlide {n : Nat} {a0 : Int} {a1 : List V} {z0 : Int} {z1 : Int} {z2 : Int} (h : s_impl_BestSlide n a0 a1 = some (z0, z1, z2)) : ∀ k, n + 11 ≤ k → sem E k 24 [(V.parts [(V.int .u8 (a0)), (V.sl (a1))])] = some (V.tup [(V.int .i64 (z0)), (V.int .i64 (z1)), (V.int .i64 (z2))]) := by
  intro k hk
  obtain ⟨k, rfl⟩ : ∃ q, k = q + 1 := ⟨k - 1, by omega⟩
  unfold s_impl_BestSlide at h
  obtain ⟨y1_0, q1, h⟩ := bnd_some h
  rcases cnd_some h with ⟨h2, h⟩ | ⟨h2, h⟩
  · obtain ⟨y3_0, q3, h⟩ := bnd_some h
    obtain ⟨⟨u11_0, u11_1⟩, l11, h⟩ := bnd_some h
    simp only [Option.some.injEq, Prod.mk.injEq] at h
    obtain ⟨rfl, rfl, rfl⟩ := h
    refine pFun_by [.v (V.bool (y1_0)), .b false, .v (V.int .i64 (y3_0)), .l .normal ⟨[(5, (V.int .i64 (u11_0))), (6, (V.int .i64 (u11_1)))], []⟩] rfl (And.intro (w_impl_ValidShape q1 k (by omega)) (And.intro (not_f h2) (And.intro (w_impl_Shape_least q3 k (by omega)) (And.intro (lw_impl_BestSlide_b0 _ _ _ _ _ _ _ l11 k k (by omega) (by omega)) trivial)))) ?_
    kernel_rfl
  · simp only [Option.some.injEq, Prod.mk.injEq] at h
    obtain ⟨rfl, rfl, rfl⟩ := h
    refine pFun_by [.v (V.bool (y1_0)), .b true] rfl (And.intro (w_impl_ValidShape q1 k (by omega)) (And.intro (not_t h2) trivial)) ?_
    kernel_rfl
theorem lw_spec_l05Slide_b0 : ∀ (n : Nat) (a0 : Int) (a1 : List V) (a2 : Int) (a3 : Int) (a4 : Int) (a5 : Int) (a6 : List V) (a7 : List V) (r : Sum (Int × Int × List V × List V) (Bool × Int × List V)), l_spec_l05Slide_b0 n a0 a1 a2 a3 a4 a5 a6 a7 = some r → ∀ k m, n + 0 ≤ k → n ≤ m → LB E 53 0 k m ⟨[(0, (V.ref [(V.int .u8 (a0)), (V.sl (a1))] 0 (0) 2)), (1, (V.int .i64 (a2))), (4, (V.ptr 9 0 (0) 2)), (6, (V.ptr 13 0 (0) 2)), (7, (V.int .i64 (a3)))], [(9, .box [(V.int .u8 (a4)), (V.row 9011)]), (13, .box [(V.int .u8 (a5)), (V.row 13015)]), (9011, .row 66 (a6)), (13015, .row 66 (a7))]⟩ = some (match r with | .inl (o0, o1, o2, o3) => (.normal, ⟨[(4, (V.ptr 9 0 (0) 2)), (6, (V.ptr 13 0 (0) 2))], [(9, .box [(V.int .u8 (o0)), (V.row 9011)]), (13, .box [(V.int .u8 (o1)), (V.row 13015)]), (9011, .row 66 (o2)), (13015, .row 66 (o3))]⟩) | .inr (o0, o1, o2) => (.ret, ⟨[(4, (V.ptr 9 0 (0) 2)), (5, (V.bool (o0)))], [(9, .box [(V.int .u8 (o1)), (V.row 9011)]), (9011, .row 66 (o2))]⟩)) := by
  intro n
  induction n with
  | zero => intro a0 a1 a2 a3 a4 a5 a6 a7 r h; cases h
  | succ n ih =>
    intro a0 a1 a2 a3 a4 a5 a6 a7 r h k m hk hm
    obtain ⟨m, rfl⟩ : ∃ q, m = q + 1 := ⟨m - 1, by omega⟩
    replace hk : n + 0 ≤ k := by omega
    unfold l_spec_l05Slide_b0 at h
    rcases cnd_some h with ⟨h1, h⟩ | ⟨h1, h⟩
    · obtain ⟨⟨e2_0, e2_1⟩, g2, h⟩ := bnd_some h
      replace g2 := as_Pi16_i16Q_some g2
      obtain ⟨⟨e3_0, e3_1⟩, g3, h⟩ := bnd_some h
      replace g3 := as_Pi16_i16Q_some g3
      rcases cnd_some h with ⟨h4, h⟩ | ⟨h4, h⟩
      · cases h
        refine pLast_by [.b true, .v (V.parts [(V.int .i16 (e2_0)), (V.int .i16 (e2_1))]), .v (V.parts [(V.int .i16 (e3_0)), (V.int .i16 (e3_1))]), .b true, .b true] (And.intro h1 (And.intro g2 (And.intro g3 (And.intro h4 (And.intro (Eq.refl true) trivial))))) ?_
        kernel_rfl
      · rcases cnd_some h with ⟨h5, h⟩ | ⟨h5, h⟩
        · cases h
          refine pLast_by [.b true, .v (V.parts [(V.int .i16 (e2_0)), (V.int .i16 (e2_1))]), .v (V.parts [(V.int .i16 (e3_0)), (V.int .i16 (e3_1))]), .b false, .b true] (And.intro h1 (And.intro g2 (And.intro g3 (And.intro h4 (And.intro h5 trivial))))) ?_
          kernel_rfl
        · obtain ⟨c6, h⟩ := chk_some h
          refine pNext_by [.b true, .v (V.parts [(V.int .i16 (e2_0)), (V.int .i16 (e2_1))]), .v (V.parts [(V.int .i16 (e3_0)), (V.int .i16 (e3_1))]), .b false, .b false] (And.intro h1 (And.intro g2 (And.intro g3 (And.intro h4 (And.intro h5 (And.intro c6 (And.intro (Eq.refl true) trivial))))))) (ih _ _ _ _ _ _ _ _ _ h k m hk (by omega)) ?_
          kernel_rfl
    · cases h
      refine pLast_by [.b false] (And.intro h1 trivial) ?_
      kernel_rfl
theorem w_spec_l05Slide {n : Nat} {a0 : Int} {a1 : List V} {a2 : Int} {z0 : Int} {z1 : List V} {z2 : Bool} (h : s_spec_l05Slide n a0 a1 a2 = some (z0, z1, z2)) : ∀ k, n + 1 ≤ k → sem E k 53 [(V.ref [(V.int .u8 (a0)), (V.sl (a1))] 0 (0) 2), (V.int .i64 (a2))] = some (V.tup [(V.parts [(V.int .u8 (z0)), (V.fresh 66 (z1))]), (V.bool (z2))]) := by
  intro k hk
  obtain ⟨k, rfl⟩ : ∃ q, k = q + 1 := ⟨k - 1, by omega⟩
  unfold s_spec_l05Slide at h
  obtain ⟨w, l7, h⟩ := bnd_some h
  rcases w with ⟨u7_0, u7_1, u7_2, u7_3⟩ | ⟨u8_0, u8_1, u8_2⟩
  · simp only [Option.some.injEq, Prod.mk.injEq] at h
    obtain ⟨rfl, rfl, rfl⟩ := h
    refine pFun_by [.l .normal ⟨[(4, (V.ptr 9 0 (0) 2)), (6, (V.ptr 13 0 (0) 2))], [(9, .box [(V.int .u8 (u7_0)), (V.row 9011)]), (13, .box [(V.int .u8 (u7_1)), (V.row 13015)]), (9011, .row 66 (u7_2)), (13015, .row 66 (u7_3))]⟩] rfl (And.intro (lw_spec_l05Slide_b0 _ _ _ _ _ _ _ _ _ _ l7 k k (by omega) (by omega)) trivial) ?_
    kernel_rfl
  · simp only [Option.some.injEq, Prod.mk.injEq] at h
    obtain ⟨rfl, rfl, rfl⟩ := h
    refine pFun_by [.l .ret ⟨[(4, (V.ptr 9 0 (0) 2)), (5, (V.bool (u8_0)))], [(9, .box [(V.int .u8 (u8_1)), (V.row 9011)]), (9011, .row 66 (u8_2))]⟩] rfl (And.intro (lw_spec_l05Slide_b0 _ _ _ _ _ _ _ _ _ _ l7 k k (by omega) (by omega)) trivial) ?_
    kernel_rfl
theorem lw_spec_BestSlide_b0 : ∀ (n : Nat) (a0 : Int) (a1 : Int) (a2 : Int) (a3 : Int) (a4 : List V) (r : Int × Int), l_spec_BestSlide_b0 n a0 a1 a2 a3 a4 = some r → ∀ k m, n + 4 ≤ k → n ≤ m → LB E 25 0 k m ⟨[(1, (V.ptr 3 0 (0) 2)), (5, (V.int .i64 (a0))), (6, (V.int .i64 (a1))), (7, (V.int .i64 (a2)))], [(3, .box [(V.int .u8 (a3)), (V.sl (a4))])]⟩ = some (match r with | (o0, o1) => (.normal, ⟨[(5, (V.int .i64 (o0))), (6, (V.int .i64 (o1)))], []⟩)) := by
  intro n
  induction n with
  | zero => intro a0 a1 a2 a3 a4 r h; cases h
  | succ n ih =>
    intro a0 a1 a2 a3 a4 r h k m hk hm
    obtain ⟨m, rfl⟩ : ∃ q, m = q + 1 := ⟨m - 1, by omega⟩
    replace hk : n + 4 ≤ k := by omega
    unfold l_spec_BestSlide_b0 at h
    rcases cnd_some h with ⟨h3, h⟩ | ⟨h3, h⟩
    · obtain ⟨⟨y4_0, y4_1, y4_2⟩, q4, h⟩ := bnd_some h
      obtain ⟨c5, h⟩ := chk_some h
      rcases cnd_some h with ⟨h6, h⟩ | ⟨h6, h⟩
      · obtain ⟨y7_0, q7, h⟩ := bnd_some h
        rcases cnd_some h with ⟨h8, h⟩ | ⟨h8, h⟩
        · refine pNext_by [.b true, .v (V.tup [(V.parts [(V.int .u8 (y4_0)), (V.fresh 66 (y4_1))]), (V.bool (y4_2))]), .b false, .v (V.int .i64 (y7_0)), .b true, .b true] (And.intro h3 (And.intro (w_spec_l05Slide q4 k (by omega)) (And.intro c5 (And.intro (not_f h6) (And.intro (w_spec_l05Least q7 k (by omega)) (And.intro (Eq.refl true) (And.intro h8 (And.intro (Eq.refl true) trivial)))))))) (ih _ _ _ _ _ _ h k m hk (by omega)) ?_
          kernel_rfl
        · rcases cnd_some h with ⟨h9, h⟩ | ⟨h9, h⟩
          · refine pNext_by [.b true, .v (V.tup [(V.parts [(V.int .u8 (y4_0)), (V.fresh 66 (y4_1))]), (V.bool (y4_2))]), .b false, .v (V.int .i64 (y7_0)), .b false, .b true] (And.intro h3 (And.intro (w_spec_l05Slide q4 k (by omega)) (And.intro c5 (And.intro (not_f h6) (And.intro (w_spec_l05Least q7 k (by omega)) (And.intro (Eq.refl true) (And.intro h8 (And.intro h9 trivial)))))))) (ih _ _ _ _ _ _ h k m hk (by omega)) ?_
            kernel_rfl
          · refine pNext_by [.b true, .v (V.tup [(V.parts [(V.int .u8 (y4_0)), (V.fresh 66 (y4_1))]), (V.bool (y4_2))]), .b false, .v (V.int .i64 (y7_0)), .b false, .b false] (And.intro h3 (And.intro (w_spec_l05Slide q4 k (by omega)) (And.intro c5 (And.intro (not_f h6) (And.intro (w_spec_l05Least q7 k (by omega)) (And.intro (Eq.refl true) (And.intro h8 (And.intro h9 trivial)))))))) (ih _ _ _ _ _ _ h k m hk (by omega)) ?_
            kernel_rfl
      · refine pNext_by [.b true, .v (V.tup [(V.parts [(V.int .u8 (y4_0)), (V.fresh 66 (y4_1))]), (V.bool (y4_2))]), .b true] (And.intro h3 (And.intro (w_spec_l05Slide q4 k (by omega)) (And.intro c5 (And.intro (not_t h6) trivial)))) (ih _ _ _ _ _ _ h k m hk (by omega)) ?_
        kernel_rfl
    · cases h
      refine pLast_by [.b false] (And.intro h3 trivial) ?_
      kernel_rfl
theorem w_spec_BestSlide {n : Nat} {a0 : Int} {a1 : List V} {z0 : Int} {z1 : Int} {z2 : Int} (h : s_spec_BestSlide n a0 a1 = some (z0, z1, z2)) : ∀ k, n + 5 ≤ k → sem E k 25 [(V.parts [(V.int .u8 (a0)), (V.sl (a1))])] = some (V.tup [(V.int .i64 (z0)), (V.int .i64 (z1)), (V.int .i64 (z2))]) := by
  intro k hk
  obtain ⟨k, rfl⟩ : ∃ q, k = q + 1 := ⟨k - 1, by omega⟩
  unfold s_spec_BestSlide at h
  obtain ⟨y1_0, q1, h⟩ := bnd_some h
  rcases cnd_some h with ⟨h2, h⟩ | ⟨h2, h⟩
  · obtain ⟨⟨u10_0, u10_1⟩, l10, h⟩ := bnd_some h
    simp only [Option.some.injEq, Prod.mk.injEq] at h
    obtain ⟨rfl, rfl, rfl⟩ := h
    refine pFun_by [.v (V.bool (y1_0)), .b false, .l .normal ⟨[(5, (V.int .i64 (u10_0))), (6, (V.int .i64 (u10_1)))], []⟩] rfl (And.intro (w_spec_l05Ok q1 k (by omega)) (And.intro (Eq.refl true) (And.intro (not_f h2) (And.intro (lw_spec_BestSlide_b0 _ _ _ _ _ _ _ l10 k k (by omega) (by omega)) trivial)))) ?_
    kernel_rfl
  · simp only [Option.some.injEq, Prod.mk.injEq] at h
    obtain ⟨rfl, rfl, rfl⟩ := h
    refine pFun_by [.v (V.bool (y1_0)), .b true] rfl (And.intro (w_spec_l05Ok q1 k (by omega)) (And.intro (Eq.refl true) (And.intro (not_t h2) trivial))) ?_
    kernel_rfl
theorem w_impl_SlideShape {n : Nat} {a0 : Int} {a1 : List V} {a2 : Int} {z0 : Int} {z1 : List V} {z2 : Int} (h : s_impl_SlideShape n a0 a1 a2 = some (z0, z1, z2)) : ∀ k, n + 7 ≤ k → sem E k 26 [(V.parts [(V.int .u8 (a0)), (V.sl (a1))]), (V.int .i64 (a2))] = some (V.tup [(V.parts [(V.int .u8 (z0)), (V.fresh 66 (z1))]), (V.int .i64 (z2))]) := by
  intro k hk
  obtain ⟨k, rfl⟩ : ∃ q, k = q + 1 := ⟨k - 1, by omega⟩
  unfold s_impl_SlideShape at h
  obtain ⟨y1_0, q1, h⟩ := bnd_some h
  rcases cnd_some h with ⟨h2, h⟩ | ⟨h2, h⟩
  · obtain ⟨y3_0, q3, h⟩ := bnd_some h
    rcases cnd_some h with ⟨h4, h⟩ | ⟨h4, h⟩
    · obtain ⟨⟨y5_0, y5_1⟩, q5, h⟩ := bnd_some h
      obtain ⟨y6_0, q6, h⟩ := bnd_some h
      rcases cnd_some h with ⟨h7, h⟩ | ⟨h7, h⟩
      · simp only [Option.some.injEq, Prod.mk.injEq] at h
        obtain ⟨rfl, rfl, rfl⟩ := h
        refine pFun_by [.v (V.bool (y1_0)), .b false, .v (V.bool (y3_0)), .b false, .v (V.parts [(V.int .u8 (y5_0)), (V.fresh 66 (y5_1))]), .v (V.bool (y6_0)), .b false] rfl (And.intro (w_impl_ValidShape q1 k (by omega)) (And.intro (not_f h2) (And.intro (w_impl_within_int64 q3 k (by omega)) (And.intro (not_f h4) (And.intro (w_impl_Shape_slid q5 k (by omega)) (And.intro (w_impl_ValidShape q6 k (by omega)) (And.intro (Eq.refl true) (And.intro (not_f h7) trivial)))))))) ?_
        kernel_rfl
      · simp only [Option.some.injEq, Prod.mk.injEq] at h
        obtain ⟨rfl, rfl, rfl⟩ := h
        refine pFun_by [.v (V.bool (y1_0)), .b false, .v (V.bool (y3_0)), .b false, .v (V.parts [(V.int .u8 (y5_0)), (V.fresh 66 (y5_1))]), .v (V.bool (y6_0)), .b true] rfl (And.intro (w_impl_ValidShape q1 k (by omega)) (And.intro (not_f h2) (And.intro (w_impl_within_int64 q3 k (by omega)) (And.intro (not_f h4) (And.intro (w_impl_Shape_slid q5 k (by omega)) (And.intro (w_impl_ValidShape q6 k (by omega)) (And.intro (Eq.refl true) (And.intro (not_t h7) trivial)))))))) ?_
        kernel_rfl
    · simp only [Option.some.injEq, Prod.mk.injEq] at h
      obtain ⟨rfl, rfl, rfl⟩ := h
      refine pFun_by [.v (V.bool (y1_0)), .b false, .v (V.bool (y3_0)), .b true] rfl (And.intro (w_impl_ValidShape q1 k (by omega)) (And.intro (not_f h2) (And.intro (w_impl_within_int64 q3 k (by omega)) (And.intro (not_t h4) trivial)))) ?_
      kernel_rfl
  · simp only [Option.some.injEq, Prod.mk.injEq] at h
    obtain ⟨rfl, rfl, rfl⟩ := h
    refine pFun_by [.v (V.bool (y1_0)), .b true] rfl (And.intro (w_impl_ValidShape q1 k (by omega)) (And.intro (not_t h2) trivial)) ?_
    kernel_rfl
theorem w_spec_SlideShape {n : Nat} {a0 : Int} {a1 : List V} {a2 : Int} {z0 : Int} {z1 : List V} {z2 : Int} (h : s_spec_SlideShape n a0 a1 a2 = some (z0, z1, z2)) : ∀ k, n + 3 ≤ k → sem E k 27 [(V.parts [(V.int .u8 (a0)), (V.sl (a1))]), (V.int .i64 (a2))] = some (V.tup [(V.parts [(V.int .u8 (z0)), (V.fresh 66 (z1))]), (V.int .i64 (z2))]) := by
  intro k hk
  obtain ⟨k, rfl⟩ : ∃ q, k = q + 1 := ⟨k - 1, by omega⟩
  unfold s_spec_SlideShape at h
  obtain ⟨y1_0, q1, h⟩ := bnd_some h
  rcases cnd_some h with ⟨h2, h⟩ | ⟨h2, h⟩
  · obtain ⟨y3_0, q3, h⟩ := bnd_some h
    rcases cnd_some h with ⟨h4, h⟩ | ⟨h4, h⟩
    · obtain ⟨⟨y5_0, y5_1, y5_2⟩, q5, h⟩ := bnd_some h
      obtain ⟨c6, h⟩ := chk_some h
      rcases cnd_some h with ⟨h7, h⟩ | ⟨h7, h⟩
      · simp only [Option.some.injEq, Prod.mk.injEq] at h
        obtain ⟨rfl, rfl, rfl⟩ := h
        refine pFun_by [.v (V.bool (y1_0)), .b false, .v (V.bool (y3_0)), .b false, .v (V.tup [(V.parts [(V.int .u8 (y5_0)), (V.fresh 66 (y5_1))]), (V.bool (y5_2))]), .b false] rfl (And.intro (w_spec_l05Ok q1 k (by omega)) (And.intro (Eq.refl true) (And.intro (not_f h2) (And.intro (w_spec_l00In q3 k (by omega)) (And.intro (not_f h4) (And.intro (w_spec_l05Slide q5 k (by omega)) (And.intro c6 (And.intro (not_f h7) trivial)))))))) ?_
        kernel_rfl
      · simp only [Option.some.injEq, Prod.mk.injEq] at h
        obtain ⟨rfl, rfl, rfl⟩ := h
        refine pFun_by [.v (V.bool (y1_0)), .b false, .v (V.bool (y3_0)), .b false, .v (V.tup [(V.parts [(V.int .u8 (y5_0)), (V.fresh 66 (y5_1))]), (V.bool (y5_2))]), .b true] rfl (And.intro (w_spec_l05Ok q1 k (by omega)) (And.intro (Eq.refl true) (And.intro (not_f h2) (And.intro (w_spec_l00In q3 k (by omega)) (And.intro (not_f h4) (And.intro (w_spec_l05Slide q5 k (by omega)) (And.intro c6 (And.intro (not_t h7) trivial)))))))) ?_
        kernel_rfl
    · simp only [Option.some.injEq, Prod.mk.injEq] at h
      obtain ⟨rfl, rfl, rfl⟩ := h
      refine pFun_by [.v (V.bool (y1_0)), .b false, .v (V.bool (y3_0)), .b true] rfl (And.intro (w_spec_l05Ok q1 k (by omega)) (And.intro (Eq.refl true) (And.intro (not_f h2) (And.intro (w_spec_l00In q3 k (by omega)) (And.intro (not_t h4) trivial))))) ?_
      kernel_rfl
  · simp only [Option.some.injEq, Prod.mk.injEq] at h
    obtain ⟨rfl, rfl, rfl⟩ := h
    refine pFun_by [.v (V.bool (y1_0)), .b true] rfl (And.intro (w_spec_l05Ok q1 k (by omega)) (And.intro (Eq.refl true) (And.intro (not_t h2) trivial))) ?_
    kernel_rfl
end Go.Proofs.Ytbejaalnnnogoaa
