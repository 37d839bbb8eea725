/- The program goes as the shallow texts tell: printed by gen.py. -/
import Derived.Test.YthdnamhilcjnhaaDoorMc
import Derived.Test.YthdnamhilcjnhaaDoorMb
namespace Go.Proofs.YthdnamhilcjnhaaDoor
open Go
set_option linter.unusedVariables false
set_option linter.unusedSimpArgs false
set_option maxRecDepth 100000
set_option maxHeartbeats 4000000
theorem lw_spec_l01Split_b0 : ∀ (n : Nat) (a0 : ByteArray) (a1 : Int) (a2 : Int) (a3 : Int) (a4 : List V) (r : ByteArray × Int × List V), l_spec_l01Split_b0 n a0 a1 a2 a3 a4 = some r → ∀ k m, n + 0 ≤ k → n ≤ m → LB E 9 0 k m ⟨[(0, (V.str a0)), (1, (V.int .u8 (a1))), (5, (V.row 11)), (6, (V.int .i64 (a2))), (7, (V.int .i64 (a3)))], [(11, .row 9 (a4))]⟩ = some (match r with | (o0, o1, o2) => (.normal, ⟨[(0, (V.str o0)), (5, (V.row 11)), (6, (V.int .i64 (o1)))], [(11, .row 9 (o2))]⟩)) := by
  intro n
  induction n with
  | zero => intro a0 a1 a2 a3 a4 r h; cases h
  | succ n ih =>
    intro a0 a1 a2 a3 a4 r h k m hk hm
    obtain ⟨m, rfl⟩ : ∃ q, m = q + 1 := ⟨m - 1, by omega⟩
    replace hk : n + 0 ≤ k := by omega
    unfold l_spec_l01Split_b0 at h
    rcases cnd_some h with ⟨h1, h⟩ | ⟨h1, h⟩
    · obtain ⟨c2, h⟩ := chk_some h
      rcases cnd_some h with ⟨h3, h⟩ | ⟨h3, h⟩
      · obtain ⟨c4, h⟩ := chk_some h
        obtain ⟨c5, h⟩ := chk_some h
        obtain ⟨c6, h⟩ := chk_some h
        refine pNext_by [.b true, .b true] (And.intro h1 (And.intro c2 (And.intro h3 (And.intro c4 (And.intro c5 (And.intro c6 (And.intro (Eq.refl true) trivial))))))) (ih _ _ _ _ _ _ h k m hk (by omega)) ?_
        kernel_rfl
      · refine pNext_by [.b true, .b false] (And.intro h1 (And.intro c2 (And.intro h3 trivial))) (ih _ _ _ _ _ _ h k m hk (by omega)) ?_
        kernel_rfl
    · cases h
      refine pLast_by [.b false] (And.intro h1 trivial) ?_
      kernel_rfl
theorem w_spec_l01Split {n : Nat} {a0 : ByteArray} {a1 : Int} {z0 : List V} (h : s_spec_l01Split n a0 a1 = some z0) : ∀ k, n + 1 ≤ k → sem E k 9 [(V.str a0), (V.int .u8 (a1))] = some (V.fresh 9 (z0)) := by
  intro k hk
  obtain ⟨k, rfl⟩ : ∃ q, k = q + 1 := ⟨k - 1, by omega⟩
  unfold s_spec_l01Split at h
  obtain ⟨⟨u7_0, u7_1, u7_2⟩, l7, h⟩ := bnd_some h
  obtain ⟨c9, h⟩ := chk_some h
  obtain ⟨c10, h⟩ := chk_some h
  replace h := Option.some.inj h
  obtain rfl := h
  refine pFun_by [.l .normal ⟨[(0, (V.str u7_0)), (5, (V.row 11)), (6, (V.int .i64 (u7_1)))], [(11, .row 9 (u7_2))]⟩] rfl (And.intro (lw_spec_l01Split_b0 _ _ _ _ _ _ _ l7 k k (by omega) (by omega)) (And.intro c9 (And.intro c10 (And.intro (Eq.refl true) trivial)))) ?_
  kernel_rfl
theorem lw_spec_l01Number_b0 : ∀ (n : Nat) (a0 : ByteArray) (a1 : Int) (a2 : Int) (r : Sum (Int) (Int × Bool)), l_spec_l01Number_b0 n a0 a1 a2 = some r → ∀ k m, n + 0 ≤ k → n ≤ m → LB E 10 0 k m ⟨[(0, (V.str a0)), (4, (V.int .i64 (a1))), (5, (V.int .i64 (a2)))], []⟩ = some (match r with | .inl o0 => (.normal, ⟨[(4, (V.int .i64 (o0)))], []⟩) | .inr (o0, o1) => (.ret, ⟨[(2, (V.int .i64 (o0))), (3, (V.bool (o1)))], []⟩)) := by
  intro n
  induction n with
  | zero => intro a0 a1 a2 r h; cases h
  | succ n ih =>
    intro a0 a1 a2 r h k m hk hm
    obtain ⟨m, rfl⟩ : ∃ q, m = q + 1 := ⟨m - 1, by omega⟩
    replace hk : n + 0 ≤ k := by omega
    unfold l_spec_l01Number_b0 at h
    rcases cnd_some h with ⟨h6, h⟩ | ⟨h6, h⟩
    · obtain ⟨c7, h⟩ := chk_some h
      rcases cnd_some h with ⟨h8, h⟩ | ⟨h8, h⟩
      · cases h
        refine pLast_by [.b true, .b true, .b true] (And.intro h6 (And.intro c7 (And.intro h8 (And.intro (Eq.refl true) trivial)))) ?_
        kernel_rfl
      · rcases cnd_some h with ⟨h9, h⟩ | ⟨h9, h⟩
        · cases h
          refine pLast_by [.b true, .b false, .b true] (And.intro h6 (And.intro c7 (And.intro h8 (And.intro c7 (And.intro h9 trivial))))) ?_
          kernel_rfl
        · refine pNext_by [.b true, .b false, .b false] (And.intro h6 (And.intro c7 (And.intro h8 (And.intro c7 (And.intro h9 (And.intro c7 trivial)))))) (ih _ _ _ _ h k m hk (by omega)) ?_
          kernel_rfl
    · cases h
      refine pLast_by [.b false] (And.intro h6 trivial) ?_
      kernel_rfl
theorem w_spec_l01Number {n : Nat} {a0 : ByteArray} {z0 : Int} {z1 : Bool} (h : s_spec_l01Number n a0 = some (z0, z1)) : ∀ k, n + 1 ≤ k → sem E k 10 [(V.str a0)] = some (V.tup [(V.int .i64 (z0)), (V.bool (z1))]) := by
  intro k hk
  obtain ⟨k, rfl⟩ : ∃ q, k = q + 1 := ⟨k - 1, by omega⟩
  unfold s_spec_l01Number at h
  rcases cnd_some h with ⟨h1, h⟩ | ⟨h1, h⟩
  · simp only [Option.some.injEq, Prod.mk.injEq] at h
    obtain ⟨rfl, rfl⟩ := h
    refine pFun_by [.b true, .b true, .b true] rfl (And.intro h1 (And.intro (Eq.refl true) (And.intro (Eq.refl true) trivial))) ?_
    kernel_rfl
  · rcases cnd_some h with ⟨h2, h⟩ | ⟨h2, h⟩
    · simp only [Option.some.injEq, Prod.mk.injEq] at h
      obtain ⟨rfl, rfl⟩ := h
      refine pFun_by [.b false, .b true, .b true] rfl (And.intro h1 (And.intro h2 (And.intro (Eq.refl true) trivial))) ?_
      kernel_rfl
    · obtain ⟨c3, h⟩ := chk_some h
      rcases cnd_some h with ⟨h4, h⟩ | ⟨h4, h⟩
      · rcases cnd_some h with ⟨h5, h⟩ | ⟨h5, h⟩
        · simp only [Option.some.injEq, Prod.mk.injEq] at h
          obtain ⟨rfl, rfl⟩ := h
          refine pFun_by [.b false, .b false, .b true, .b true] rfl (And.intro h1 (And.intro h2 (And.intro c3 (And.intro h4 (And.intro h5 trivial))))) ?_
          kernel_rfl
        · obtain ⟨w, l10, h⟩ := bnd_some h
          rcases w with u10_0 | ⟨u11_0, u11_1⟩
          · simp only [Option.some.injEq, Prod.mk.injEq] at h
            obtain ⟨rfl, rfl⟩ := h
            refine pFun_by [.b false, .b false, .b true, .b false, .l .normal ⟨[(4, (V.int .i64 (u10_0)))], []⟩] rfl (And.intro h1 (And.intro h2 (And.intro c3 (And.intro h4 (And.intro h5 (And.intro (lw_spec_l01Number_b0 _ _ _ _ _ l10 k k (by omega) (by omega)) trivial)))))) ?_
            kernel_rfl
          · simp only [Option.some.injEq, Prod.mk.injEq] at h
            obtain ⟨rfl, rfl⟩ := h
            refine pFun_by [.b false, .b false, .b true, .b false, .l .ret ⟨[(2, (V.int .i64 (u11_0))), (3, (V.bool (u11_1)))], []⟩] rfl (And.intro h1 (And.intro h2 (And.intro c3 (And.intro h4 (And.intro h5 (And.intro (lw_spec_l01Number_b0 _ _ _ _ _ l10 k k (by omega) (by omega)) trivial)))))) ?_
            kernel_rfl
      · obtain ⟨w, l13, h⟩ := bnd_some h
        rcases w with u13_0 | ⟨u14_0, u14_1⟩
        · simp only [Option.some.injEq, Prod.mk.injEq] at h
          obtain ⟨rfl, rfl⟩ := h
          refine pFun_by [.b false, .b false, .b false, .b false, .l .normal ⟨[(4, (V.int .i64 (u13_0)))], []⟩] rfl (And.intro h1 (And.intro h2 (And.intro c3 (And.intro h4 (And.intro (Eq.refl false) (And.intro (lw_spec_l01Number_b0 _ _ _ _ _ l13 k k (by omega) (by omega)) trivial)))))) ?_
          kernel_rfl
        · simp only [Option.some.injEq, Prod.mk.injEq] at h
          obtain ⟨rfl, rfl⟩ := h
          refine pFun_by [.b false, .b false, .b false, .b false, .l .ret ⟨[(2, (V.int .i64 (u14_0))), (3, (V.bool (u14_1)))], []⟩] rfl (And.intro h1 (And.intro h2 (And.intro c3 (And.intro h4 (And.intro (Eq.refl false) (And.intro (lw_spec_l01Number_b0 _ _ _ _ _ l13 k k (by omega) (by omega)) trivial)))))) ?_
          kernel_rfl
theorem w_spec_l00In {n : Nat} {a0 : Int} {a1 : Int} {a2 : Int} {z0 : Bool} (h : s_spec_l00In n a0 a1 a2 = some z0) : ∀ k, n + 1 ≤ k → sem E k 22 [(V.int .i64 (a0)), (V.int .i64 (a1)), (V.int .i64 (a2))] = some (V.bool (z0)) := by
  intro k hk
  obtain ⟨k, rfl⟩ : ∃ q, k = q + 1 := ⟨k - 1, by omega⟩
  unfold s_spec_l00In at h
  rcases cnd_some h with ⟨h1, h⟩ | ⟨h1, h⟩
  · replace h := Option.some.inj h
    obtain rfl := h
    refine pFun_by [.b true] rfl (And.intro h1 trivial) ?_
    kernel_rfl
  · replace h := Option.some.inj h
    obtain rfl := h
    refine pFun_by [.b false] rfl (And.intro h1 trivial) ?_
    kernel_rfl
theorem lw_spec_l05Pieces_b0 : ∀ (n : Nat) (a0 : List V) (a1 : Int) (r : Sum (Unit) (Bool)), l_spec_l05Pieces_b0 n a0 a1 = some r → ∀ k m, n + 1 ≤ k → n ≤ m → LB E 17 0 k m ⟨[(0, (V.sl (a0))), (3, (V.int .i64 (a1)))], []⟩ = some (match r with | .inl _ => (.normal, ⟨[], []⟩) | .inr o0 => (.ret, ⟨[(2, (V.bool (o0)))], []⟩)) := by
  intro n
  induction n with
  | zero => intro a0 a1 r h; cases h
  | succ n ih =>
    intro a0 a1 r h k m hk hm
    obtain ⟨m, rfl⟩ : ∃ q, m = q + 1 := ⟨m - 1, by omega⟩
    replace hk : n + 1 ≤ k := by omega
    unfold l_spec_l05Pieces_b0 at h
    rcases cnd_some h with ⟨h1, h⟩ | ⟨h1, h⟩
    · obtain ⟨⟨e2_0, e2_1⟩, g2, h⟩ := bnd_some h
      replace g2 := as_Pi8_i8Q_some g2
      obtain ⟨y3_0, q3, h⟩ := bnd_some h
      rcases cnd_some h with ⟨h4, h⟩ | ⟨h4, h⟩
      · obtain ⟨⟨e5_0, e5_1⟩, g5, h⟩ := bnd_some h
        replace g5 := as_Pi8_i8Q_some g5
        obtain ⟨y6_0, q6, h⟩ := bnd_some h
        rcases cnd_some h with ⟨h7, h⟩ | ⟨h7, h⟩
        · refine pNext_by [.b true, .v (V.parts [(V.int .i8 (e2_0)), (V.int .i8 (e2_1))]), .v (V.bool (y3_0)), .b false, .v (V.parts [(V.int .i8 (e5_0)), (V.int .i8 (e5_1))]), .v (V.bool (y6_0)), .b false] (And.intro h1 (And.intro g2 (And.intro (w_spec_l00In q3 k (by omega)) (And.intro (not_f h4) (And.intro g5 (And.intro (w_spec_l00In q6 k (by omega)) (And.intro (not_f h7) trivial))))))) (ih _ _ _ h k m hk (by omega)) ?_
          kernel_rfl
        · cases h
          refine pLast_by [.b true, .v (V.parts [(V.int .i8 (e2_0)), (V.int .i8 (e2_1))]), .v (V.bool (y3_0)), .b false, .v (V.parts [(V.int .i8 (e5_0)), (V.int .i8 (e5_1))]), .v (V.bool (y6_0)), .b true] (And.intro h1 (And.intro g2 (And.intro (w_spec_l00In q3 k (by omega)) (And.intro (not_f h4) (And.intro g5 (And.intro (w_spec_l00In q6 k (by omega)) (And.intro (not_t h7) trivial))))))) ?_
          kernel_rfl
      · cases h
        refine pLast_by [.b true, .v (V.parts [(V.int .i8 (e2_0)), (V.int .i8 (e2_1))]), .v (V.bool (y3_0)), .b true, .b true] (And.intro h1 (And.intro g2 (And.intro (w_spec_l00In q3 k (by omega)) (And.intro (not_t h4) (And.intro (Eq.refl true) trivial))))) ?_
        kernel_rfl
    · cases h
      refine pLast_by [.b false] (And.intro h1 trivial) ?_
      kernel_rfl
theorem w_spec_l05Pieces {n : Nat} {a0 : List V} {z0 : Bool} (h : s_spec_l05Pieces n a0 = some z0) : ∀ k, n + 2 ≤ k → sem E k 17 [(V.sl (a0))] = some (V.bool (z0)) := by
  intro k hk
  obtain ⟨k, rfl⟩ : ∃ q, k = q + 1 := ⟨k - 1, by omega⟩
  unfold s_spec_l05Pieces at h
  obtain ⟨w, l8, h⟩ := bnd_some h
  rcases w with ⟨⟩ | u9_0
  · replace h := Option.some.inj h
    obtain rfl := h
    refine pFun_by [.l .normal ⟨[], []⟩] rfl (And.intro (lw_spec_l05Pieces_b0 _ _ _ _ l8 k k (by omega) (by omega)) trivial) ?_
    kernel_rfl
  · replace h := Option.some.inj h
    obtain rfl := h
    refine pFun_by [.l .ret ⟨[(2, (V.bool (u9_0)))], []⟩] rfl (And.intro (lw_spec_l05Pieces_b0 _ _ _ _ l8 k k (by omega) (by omega)) trivial) ?_
    kernel_rfl
theorem w_spec_l05Asked {n : Nat} {a0 : List V} {z0 : Int} (h : s_spec_l05Asked n a0 = some z0) : ∀ k, n + 3 ≤ k → sem E k 11 [(V.sl (a0))] = some (V.int .i64 (z0)) := by
  intro k hk
  obtain ⟨k, rfl⟩ : ∃ q, k = q + 1 := ⟨k - 1, by omega⟩
  unfold s_spec_l05Asked at h
  obtain ⟨y1_0, q1, h⟩ := bnd_some h
  rcases cnd_some h with ⟨h2, h⟩ | ⟨h2, h⟩
  · rcases cnd_some h with ⟨h3, h⟩ | ⟨h3, h⟩
    · replace h := Option.some.inj h
      obtain rfl := h
      refine pFun_by [.v (V.bool (y1_0)), .b false, .b true] rfl (And.intro (w_spec_l05Pieces q1 k (by omega)) (And.intro (not_f h2) (And.intro h3 trivial))) ?_
      kernel_rfl
    · replace h := Option.some.inj h
      obtain rfl := h
      refine pFun_by [.v (V.bool (y1_0)), .b false, .b false] rfl (And.intro (w_spec_l05Pieces q1 k (by omega)) (And.intro (not_f h2) (And.intro h3 trivial))) ?_
      kernel_rfl
  · replace h := Option.some.inj h
    obtain rfl := h
    refine pFun_by [.v (V.bool (y1_0)), .b true] rfl (And.intro (w_spec_l05Pieces q1 k (by omega)) (And.intro (not_t h2) trivial)) ?_
    kernel_rfl
theorem lw_spec_ReadPieces_b2 : ∀ (n : Nat) (a0 : Int) (a1 : Int) (a2 : Int) (a3 : List V) (a4 : List V) (r : Int × Int × List V × List V), l_spec_ReadPieces_b2 n a0 a1 a2 a3 a4 = some r → ∀ k m, n + 0 ≤ k → n ≤ m → LB E 4 2 k m ⟨[(4, (V.row 9)), (5, (V.row 11)), (6, (V.int .i64 (a0))), (7, (V.int .i64 (a1))), (8, (V.int .i64 (a2)))], [(9, .row 34 (a3)), (11, .row 9 (a4))]⟩ = some (match r with | (o0, o1, o2, o3) => (.normal, ⟨[(4, (V.row 9)), (5, (V.row 11)), (6, (V.int .i64 (o0))), (7, (V.int .i64 (o1)))], [(9, .row 34 (o2)), (11, .row 9 (o3))]⟩)) := by
  intro n
  induction n with
  | zero => intro a0 a1 a2 a3 a4 r h; cases h
  | succ n ih =>
    intro a0 a1 a2 a3 a4 r h k m hk hm
    obtain ⟨m, rfl⟩ : ∃ q, m = q + 1 := ⟨m - 1, by omega⟩
    replace hk : n + 0 ≤ k := by omega
    unfold l_spec_ReadPieces_b2 at h
    rcases cnd_some h with ⟨h4, h⟩ | ⟨h4, h⟩
    · obtain ⟨c5, h⟩ := chk_some h
      obtain ⟨e6_0, g6, h⟩ := bnd_some h
      replace g6 := as_s_some g6
      rcases cnd_some h with ⟨h7, h⟩ | ⟨h7, h⟩
      · obtain ⟨e8_0, g8, h⟩ := bnd_some h
        replace g8 := as_s_some g8
        obtain ⟨c9, h⟩ := chk_some h
        obtain ⟨c10, h⟩ := chk_some h
        rcases cnd_some h with ⟨h11, h⟩ | ⟨h11, h⟩
        · refine pNext_by [.b true, .v (V.str e6_0), .b true, .v (V.str e8_0), .b true] (And.intro h4 (And.intro c5 (And.intro g6 (And.intro h7 (And.intro c5 (And.intro g8 (And.intro c9 (And.intro c10 (And.intro h11 trivial))))))))) (ih _ _ _ _ _ _ h k m hk (by omega)) ?_
          kernel_rfl
        · refine pNext_by [.b true, .v (V.str e6_0), .b true, .v (V.str e8_0), .b false] (And.intro h4 (And.intro c5 (And.intro g6 (And.intro h7 (And.intro c5 (And.intro g8 (And.intro c9 (And.intro c10 (And.intro h11 trivial))))))))) (ih _ _ _ _ _ _ h k m hk (by omega)) ?_
          kernel_rfl
      · refine pNext_by [.b true, .v (V.str e6_0), .b false, .b false] (And.intro h4 (And.intro c5 (And.intro g6 (And.intro h7 (And.intro (Eq.refl false) trivial))))) (ih _ _ _ _ _ _ h k m hk (by omega)) ?_
        kernel_rfl
    · cases h
      refine pLast_by [.b false] (And.intro h4 trivial) ?_
      kernel_rfl
theorem lw_spec_ReadPieces_b0 : ∀ (n : Nat) (a0 : Int) (a1 : List V) (a2 : List V) (r : Sum (List V) (Int × List V)), l_spec_ReadPieces_b0 n a0 a1 a2 = some r → ∀ k m, n + 1 ≤ k → n ≤ m → LB E 4 0 k m ⟨[(4, (V.row 9)), (5, (V.row 11)), (6, (V.int .i64 (a0)))], [(9, .row 34 (a1)), (11, .row 9 (a2))]⟩ = some (match r with | .inl o0 => (.normal, ⟨[(4, (V.row 9))], [(9, .row 34 (o0))]⟩) | .inr (o0, o1) => (.ret, ⟨[(2, (V.row 5)), (3, (V.int .i64 (o0)))], [(5, .row 34 (o1))]⟩)) := by
  intro n
  induction n with
  | zero => intro a0 a1 a2 r h; cases h
  | succ n ih =>
    intro a0 a1 a2 r h k m hk hm
    obtain ⟨m, rfl⟩ : ∃ q, m = q + 1 := ⟨m - 1, by omega⟩
    replace hk : n + 1 ≤ k := by omega
    unfold l_spec_ReadPieces_b0 at h
    rcases cnd_some h with ⟨h3, h⟩ | ⟨h3, h⟩
    · obtain ⟨⟨u12_0, u12_1, u12_2, u12_3⟩, l12, h⟩ := bnd_some h
      rcases cnd_some h with ⟨h14, h⟩ | ⟨h14, h⟩
      · cases h
        refine pLast_by [.b true, .l .normal ⟨[(4, (V.row 9)), (5, (V.row 11)), (6, (V.int .i64 (u12_0))), (7, (V.int .i64 (u12_1)))], [(9, .row 34 (u12_2)), (11, .row 9 (u12_3))]⟩, .b true] (And.intro h3 (And.intro (lw_spec_ReadPieces_b2 _ _ _ _ _ _ _ l12 k k (by omega) (by omega)) (And.intro h14 trivial))) ?_
        kernel_rfl
      · obtain ⟨c15, h⟩ := chk_some h
        obtain ⟨e16_0, g16, h⟩ := bnd_some h
        replace g16 := as_s_some g16
        obtain ⟨c17, h⟩ := chk_some h
        obtain ⟨⟨y18_0, y18_1⟩, q18, h⟩ := bnd_some h
        rcases cnd_some h with ⟨h19, h⟩ | ⟨h19, h⟩
        · rcases cnd_some h with ⟨h20, h⟩ | ⟨h20, h⟩
          · cases h
            refine pLast_by [.b true, .l .normal ⟨[(4, (V.row 9)), (5, (V.row 11)), (6, (V.int .i64 (u12_0))), (7, (V.int .i64 (u12_1)))], [(9, .row 34 (u12_2)), (11, .row 9 (u12_3))]⟩, .b false, .v (V.str e16_0), .v (V.tup [(V.int .i64 (y18_0)), (V.bool (y18_1))]), .b false, .b true] (And.intro h3 (And.intro (lw_spec_ReadPieces_b2 _ _ _ _ _ _ _ l12 k k (by omega) (by omega)) (And.intro h14 (And.intro c15 (And.intro g16 (And.intro c17 (And.intro (w_spec_l01Number q18 k (by omega)) (And.intro (not_f h19) (And.intro h20 trivial))))))))) ?_
            kernel_rfl
          · obtain ⟨c21, h⟩ := chk_some h
            refine pNext_by [.b true, .l .normal ⟨[(4, (V.row 9)), (5, (V.row 11)), (6, (V.int .i64 (u12_0))), (7, (V.int .i64 (u12_1)))], [(9, .row 34 (u12_2)), (11, .row 9 (u12_3))]⟩, .b false, .v (V.str e16_0), .v (V.tup [(V.int .i64 (y18_0)), (V.bool (y18_1))]), .b false, .b false] (And.intro h3 (And.intro (lw_spec_ReadPieces_b2 _ _ _ _ _ _ _ l12 k k (by omega) (by omega)) (And.intro h14 (And.intro c15 (And.intro g16 (And.intro c17 (And.intro (w_spec_l01Number q18 k (by omega)) (And.intro (not_f h19) (And.intro h20 (And.intro c21 (And.intro (Eq.refl true) trivial))))))))))) (ih _ _ _ _ h k m hk (by omega)) ?_
            kernel_rfl
        · cases h
          refine pLast_by [.b true, .l .normal ⟨[(4, (V.row 9)), (5, (V.row 11)), (6, (V.int .i64 (u12_0))), (7, (V.int .i64 (u12_1)))], [(9, .row 34 (u12_2)), (11, .row 9 (u12_3))]⟩, .b false, .v (V.str e16_0), .v (V.tup [(V.int .i64 (y18_0)), (V.bool (y18_1))]), .b true, .b true] (And.intro h3 (And.intro (lw_spec_ReadPieces_b2 _ _ _ _ _ _ _ l12 k k (by omega) (by omega)) (And.intro h14 (And.intro c15 (And.intro g16 (And.intro c17 (And.intro (w_spec_l01Number q18 k (by omega)) (And.intro (not_t h19) (And.intro (Eq.refl true) trivial))))))))) ?_
          kernel_rfl
    · cases h
      refine pLast_by [.b false] (And.intro h3 trivial) ?_
      kernel_rfl
theorem w_spec_ReadPieces {n : Nat} {a0 : ByteArray} {z0 : List V} {z1 : Int} (h : s_spec_ReadPieces n a0 = some (z0, z1)) : ∀ k, n + 4 ≤ k → sem E k 4 [(V.str a0)] = some (V.tup [(V.fresh 34 (z0)), (V.int .i64 (z1))]) := by
  intro k hk
  obtain ⟨k, rfl⟩ : ∃ q, k = q + 1 := ⟨k - 1, by omega⟩
  unfold s_spec_ReadPieces at h
  rcases cnd_some h with ⟨h1, h⟩ | ⟨h1, h⟩
  · simp only [Option.some.injEq, Prod.mk.injEq] at h
    obtain ⟨rfl, rfl⟩ := h
    refine pFun_by [.b true] rfl (And.intro h1 trivial) ?_
    kernel_rfl
  · obtain ⟨y2_0, q2, h⟩ := bnd_some h
    obtain ⟨w, l22, h⟩ := bnd_some h
    rcases w with u22_0 | ⟨u25_0, u25_1⟩
    · obtain ⟨y24_0, q24, h⟩ := bnd_some h
      rcases cnd_some h with ⟨h25, h⟩ | ⟨h25, h⟩
      · simp only [Option.some.injEq, Prod.mk.injEq] at h
        obtain ⟨rfl, rfl⟩ := h
        refine pFun_by [.b false, .v (V.fresh 9 (y2_0)), .l .normal ⟨[(4, (V.row 9))], [(9, .row 34 (u22_0))]⟩, .v (V.int .i64 (y24_0)), .b false] rfl (And.intro h1 (And.intro (w_spec_l01Split q2 k (by omega)) (And.intro (lw_spec_ReadPieces_b0 _ _ _ _ _ l22 k k (by omega) (by omega)) (And.intro (w_spec_l05Asked q24 k (by omega)) (And.intro (Eq.refl true) (And.intro (not_f h25) trivial)))))) ?_
        kernel_rfl
      · simp only [Option.some.injEq, Prod.mk.injEq] at h
        obtain ⟨rfl, rfl⟩ := h
        refine pFun_by [.b false, .v (V.fresh 9 (y2_0)), .l .normal ⟨[(4, (V.row 9))], [(9, .row 34 (u22_0))]⟩, .v (V.int .i64 (y24_0)), .b true] rfl (And.intro h1 (And.intro (w_spec_l01Split q2 k (by omega)) (And.intro (lw_spec_ReadPieces_b0 _ _ _ _ _ l22 k k (by omega) (by omega)) (And.intro (w_spec_l05Asked q24 k (by omega)) (And.intro (Eq.refl true) (And.intro (not_t h25) trivial)))))) ?_
        kernel_rfl
    · simp only [Option.some.injEq, Prod.mk.injEq] at h
      obtain ⟨rfl, rfl⟩ := h
      refine pFun_by [.b false, .v (V.fresh 9 (y2_0)), .l .ret ⟨[(2, (V.row 5)), (3, (V.int .i64 (u25_0)))], [(5, .row 34 (u25_1))]⟩] rfl (And.intro h1 (And.intro (w_spec_l01Split q2 k (by omega)) (And.intro (lw_spec_ReadPieces_b0 _ _ _ _ _ l22 k k (by omega) (by omega)) trivial))) ?_
      kernel_rfl
theorem w_impl_ReadPieces {n : Nat} {a0 : ByteArray} {z0 : List V} {z1 : Int} (h : s_impl_ReadPieces n a0 = some (z0, z1)) : ∀ k, n + 1 ≤ k → sem E k 5 [V.str a0] = some (V.tup [V.fresh 34 z0, V.int .i64 z1]) := by
  intro k hk
  obtain ⟨k, rfl⟩ : ∃ q, k = q + 1 := ⟨k - 1, by omega⟩
  unfold s_impl_ReadPieces at h
  obtain ⟨hc, h⟩ := chk_some h
  simp only [Option.some.injEq, Prod.mk.injEq] at h
  obtain ⟨rfl, rfl⟩ := h
  show prRead [V.str a0] = _
  simp only [prRead, hc]
theorem w_laws_eqPiece {n : Nat} {a0 : Int} {a1 : Int} {a2 : Int} {a3 : Int} {z0 : Bool} (h : s_laws_eqPiece n a0 a1 a2 a3 = some z0) : ∀ k, n + 1 ≤ k → sem E k 16 [(V.parts [(V.int .i8 (a0)), (V.int .i8 (a1))]), (V.parts [(V.int .i8 (a2)), (V.int .i8 (a3))])] = some (V.bool (z0)) := by
  intro k hk
  obtain ⟨k, rfl⟩ : ∃ q, k = q + 1 := ⟨k - 1, by omega⟩
  unfold s_laws_eqPiece at h
  rcases cnd_some h with ⟨h1, h⟩ | ⟨h1, h⟩
  · rcases cnd_some h with ⟨h2, h⟩ | ⟨h2, h⟩
    · replace h := Option.some.inj h
      obtain rfl := h
      refine pFun_by [.b false, .b false] rfl (And.intro (not_f h1) (And.intro (not_f h2) trivial)) ?_
      kernel_rfl
    · replace h := Option.some.inj h
      obtain rfl := h
      refine pFun_by [.b false, .b true] rfl (And.intro (not_f h1) (And.intro (not_t h2) trivial)) ?_
      kernel_rfl
  · replace h := Option.some.inj h
    obtain rfl := h
    refine pFun_by [.b true] rfl (And.intro (not_t h1) trivial) ?_
    kernel_rfl
theorem lw_laws_eqPieceS_b0 : ∀ (n : Nat) (a0 : List V) (a1 : List V) (a2 : Int) (r : Sum (Unit) (Bool)), l_laws_eqPieceS_b0 n a0 a1 a2 = some r → ∀ k m, n + 1 ≤ k → n ≤ m → LB E 6 0 k m ⟨[(0, (V.sl (a0))), (1, (V.sl (a1))), (5, (V.int .i64 (a2)))], []⟩ = some (match r with | .inl _ => (.normal, ⟨[], []⟩) | .inr o0 => (.ret, ⟨[(4, (V.bool (o0)))], []⟩)) := by
  intro n
  induction n with
  | zero => intro a0 a1 a2 r h; cases h
  | succ n ih =>
    intro a0 a1 a2 r h k m hk hm
    obtain ⟨m, rfl⟩ : ∃ q, m = q + 1 := ⟨m - 1, by omega⟩
    replace hk : n + 1 ≤ k := by omega
    unfold l_laws_eqPieceS_b0 at h
    rcases cnd_some h with ⟨h2, h⟩ | ⟨h2, h⟩
    · obtain ⟨⟨e3_0, e3_1⟩, g3, h⟩ := bnd_some h
      replace g3 := as_Pi8_i8Q_some g3
      obtain ⟨⟨e4_0, e4_1⟩, g4, h⟩ := bnd_some h
      replace g4 := as_Pi8_i8Q_some g4
      obtain ⟨y5_0, q5, h⟩ := bnd_some h
      rcases cnd_some h with ⟨h6, h⟩ | ⟨h6, h⟩
      · refine pNext_by [.b true, .v (V.parts [(V.int .i8 (e3_0)), (V.int .i8 (e3_1))]), .v (V.parts [(V.int .i8 (e4_0)), (V.int .i8 (e4_1))]), .v (V.bool (y5_0)), .b false] (And.intro h2 (And.intro g3 (And.intro g4 (And.intro (w_laws_eqPiece q5 k (by omega)) (And.intro (not_f h6) trivial))))) (ih _ _ _ _ h k m hk (by omega)) ?_
        kernel_rfl
      · cases h
        refine pLast_by [.b true, .v (V.parts [(V.int .i8 (e3_0)), (V.int .i8 (e3_1))]), .v (V.parts [(V.int .i8 (e4_0)), (V.int .i8 (e4_1))]), .v (V.bool (y5_0)), .b true] (And.intro h2 (And.intro g3 (And.intro g4 (And.intro (w_laws_eqPiece q5 k (by omega)) (And.intro (not_t h6) trivial))))) ?_
        kernel_rfl
    · cases h
      refine pLast_by [.b false] (And.intro h2 trivial) ?_
      kernel_rfl
theorem w_laws_eqPieceS {n : Nat} {a0 : List V} {a1 : List V} {z0 : Bool} (h : s_laws_eqPieceS n a0 a1 = some z0) : ∀ k, n + 2 ≤ k → sem E k 6 [(V.sl (a0)), (V.sl (a1))] = some (V.bool (z0)) := by
  intro k hk
  obtain ⟨k, rfl⟩ : ∃ q, k = q + 1 := ⟨k - 1, by omega⟩
  unfold s_laws_eqPieceS at h
  rcases cnd_some h with ⟨h1, h⟩ | ⟨h1, h⟩
  · obtain ⟨w, l7, h⟩ := bnd_some h
    rcases w with ⟨⟩ | u8_0
    · replace h := Option.some.inj h
      obtain rfl := h
      refine pFun_by [.b false, .l .normal ⟨[], []⟩] rfl (And.intro (not_f h1) (And.intro (lw_laws_eqPieceS_b0 _ _ _ _ _ l7 k k (by omega) (by omega)) trivial)) ?_
      kernel_rfl
    · replace h := Option.some.inj h
      obtain rfl := h
      refine pFun_by [.b false, .l .ret ⟨[(4, (V.bool (u8_0)))], []⟩] rfl (And.intro (not_f h1) (And.intro (lw_laws_eqPieceS_b0 _ _ _ _ _ l7 k k (by omega) (by omega)) trivial)) ?_
      kernel_rfl
  · replace h := Option.some.inj h
    obtain rfl := h
    refine pFun_by [.b true] rfl (And.intro (not_t h1) trivial) ?_
    kernel_rfl
theorem lw_laws_markPieceS_b0 : ∀ (n : Nat) (a0 : Int) (a1 : Int) (a2 : List V) (r : Int × List V), l_laws_markPieceS_b0 n a0 a1 a2 = some r → ∀ k m, n + 0 ≤ k → n ≤ m → LB E 7 0 k m ⟨[(0, (V.row 1)), (1, (V.int .i64 (a0))), (5, (V.int .i64 (a1)))], [(1, .row 34 (a2))]⟩ = some (match r with | (o0, o1) => (.normal, ⟨[(0, (V.row 1)), (1, (V.int .i64 (o0)))], [(1, .row 34 (o1))]⟩)) := by
  intro n
  induction n with
  | zero => intro a0 a1 a2 r h; cases h
  | succ n ih =>
    intro a0 a1 a2 r h k m hk hm
    obtain ⟨m, rfl⟩ : ∃ q, m = q + 1 := ⟨m - 1, by omega⟩
    replace hk : n + 0 ≤ k := by omega
    unfold l_laws_markPieceS_b0 at h
    rcases cnd_some h with ⟨h1, h⟩ | ⟨h1, h⟩
    · obtain ⟨c2, h⟩ := chk_some h
      obtain ⟨⟨e3_0, e3_1⟩, g3, h⟩ := bnd_some h
      replace g3 := as_Pi8_i8Q_some g3
      obtain ⟨⟨e4_0, e4_1⟩, g4, h⟩ := bnd_some h
      replace g4 := as_Pi8_i8Q_some g4
      obtain ⟨c5, h⟩ := chk_some h
      obtain ⟨⟨e6_0, e6_1⟩, g6, h⟩ := bnd_some h
      replace g6 := as_Pi8_i8Q_some g6
      obtain ⟨⟨e7_0, e7_1⟩, g7, h⟩ := bnd_some h
      replace g7 := as_Pi8_i8Q_some g7
      refine pNext_by [.b true, .v (V.parts [(V.int .i8 (e3_0)), (V.int .i8 (e3_1))]), .v (V.parts [(V.int .i8 (e4_0)), (V.int .i8 (e4_1))]), .v (V.parts [(V.int .i8 (e6_0)), (V.int .i8 (e6_1))]), .v (V.parts [(V.int .i8 (e7_0)), (V.int .i8 (e7_1))])] (And.intro h1 (And.intro c2 (And.intro g3 (And.intro g4 (And.intro c5 (And.intro g6 (And.intro g7 trivial))))))) (ih _ _ _ _ h k m hk (by omega)) ?_
      kernel_rfl
    · cases h
      refine pLast_by [.b false] (And.intro h1 trivial) ?_
      kernel_rfl
theorem w_laws_markPieceS {n : Nat} {a0 : List V} {a1 : Int} {z0 : Int} {z1 : List V} (h : s_laws_markPieceS n a0 a1 = some (z0, z1)) : ∀ k, n + 1 ≤ k → sem E k (muBase + 7) [(V.fresh 34 (a0)), (V.int .i64 (a1))] = some (V.tup [(V.int .i64 (z0)), (V.fresh 34 (z1))]) := by
  intro k hk
  obtain ⟨k, rfl⟩ : ∃ q, k = q + 1 := ⟨k - 1, by omega⟩
  unfold s_laws_markPieceS at h
  obtain ⟨⟨u8_0, u8_1⟩, l8, h⟩ := bnd_some h
  simp only [Option.some.injEq, Prod.mk.injEq] at h
  obtain ⟨rfl, rfl⟩ := h
  refine pMu_by [.l .normal ⟨[(0, (V.row 1)), (1, (V.int .i64 (u8_0)))], [(1, .row 34 (u8_1))]⟩] rfl rfl rfl (And.intro (lw_laws_markPieceS_b0 _ _ _ _ _ l8 k k (by omega) (by omega)) trivial) ?_
  kernel_rfl
theorem lw_laws_heldPieceS_b0 : ∀ (n : Nat) (a0 : List V) (a1 : Int) (a2 : Int) (r : Sum (Int) (Int)), l_laws_heldPieceS_b0 n a0 a1 a2 = some r → ∀ k m, n + 0 ≤ k → n ≤ m → LB E 8 0 k m ⟨[(0, (V.sl (a0))), (1, (V.int .i64 (a1))), (5, (V.int .i64 (a2)))], []⟩ = some (match r with | .inl o0 => (.normal, ⟨[(1, (V.int .i64 (o0)))], []⟩) | .inr o0 => (.ret, ⟨[(4, (V.int .i64 (o0)))], []⟩)) := by
  intro n
  induction n with
  | zero => intro a0 a1 a2 r h; cases h
  | succ n ih =>
    intro a0 a1 a2 r h k m hk hm
    obtain ⟨m, rfl⟩ : ∃ q, m = q + 1 := ⟨m - 1, by omega⟩
    replace hk : n + 0 ≤ k := by omega
    unfold l_laws_heldPieceS_b0 at h
    rcases cnd_some h with ⟨h1, h⟩ | ⟨h1, h⟩
    · obtain ⟨⟨e2_0, e2_1⟩, g2, h⟩ := bnd_some h
      replace g2 := as_Pi8_i8Q_some g2
      rcases cnd_some h with ⟨h3, h⟩ | ⟨h3, h⟩
      · obtain ⟨⟨e4_0, e4_1⟩, g4, h⟩ := bnd_some h
        replace g4 := as_Pi8_i8Q_some g4
        rcases cnd_some h with ⟨h5, h⟩ | ⟨h5, h⟩
        · refine pNext_by [.b true, .v (V.parts [(V.int .i8 (e2_0)), (V.int .i8 (e2_1))]), .b false, .v (V.parts [(V.int .i8 (e4_0)), (V.int .i8 (e4_1))]), .b false] (And.intro h1 (And.intro g2 (And.intro (not_f h3) (And.intro g4 (And.intro (not_f h5) trivial))))) (ih _ _ _ _ h k m hk (by omega)) ?_
          kernel_rfl
        · cases h
          refine pLast_by [.b true, .v (V.parts [(V.int .i8 (e2_0)), (V.int .i8 (e2_1))]), .b false, .v (V.parts [(V.int .i8 (e4_0)), (V.int .i8 (e4_1))]), .b true] (And.intro h1 (And.intro g2 (And.intro (not_f h3) (And.intro g4 (And.intro (not_t h5) trivial))))) ?_
          kernel_rfl
      · cases h
        refine pLast_by [.b true, .v (V.parts [(V.int .i8 (e2_0)), (V.int .i8 (e2_1))]), .b true] (And.intro h1 (And.intro g2 (And.intro (not_t h3) trivial))) ?_
        kernel_rfl
    · cases h
      refine pLast_by [.b false] (And.intro h1 trivial) ?_
      kernel_rfl
theorem w_laws_heldPieceS {n : Nat} {a0 : List V} {a1 : Int} {z0 : Int} (h : s_laws_heldPieceS n a0 a1 = some z0) : ∀ k, n + 1 ≤ k → sem E k 8 [(V.sl (a0)), (V.int .i64 (a1))] = some (V.int .i64 (z0)) := by
  intro k hk
  obtain ⟨k, rfl⟩ : ∃ q, k = q + 1 := ⟨k - 1, by omega⟩
  unfold s_laws_heldPieceS at h
  obtain ⟨w, l6, h⟩ := bnd_some h
  rcases w with u6_0 | u7_0
  · replace h := Option.some.inj h
    obtain rfl := h
    refine pFun_by [.l .normal ⟨[(1, (V.int .i64 (u6_0)))], []⟩] rfl (And.intro (lw_laws_heldPieceS_b0 _ _ _ _ _ l6 k k (by omega) (by omega)) trivial) ?_
    kernel_rfl
  · replace h := Option.some.inj h
    obtain rfl := h
    refine pFun_by [.l .ret ⟨[(4, (V.int .i64 (u7_0)))], []⟩] rfl (And.intro (lw_laws_heldPieceS_b0 _ _ _ _ _ l6 k k (by omega) (by omega)) trivial) ?_
    kernel_rfl
theorem w_laws_FnExactReadPieces {n : Nat} {a0 : ByteArray} {z0 : Bool} (h : s_laws_FnExactReadPieces n a0 = some z0) : ∀ k, n + 5 ≤ k → sem E k 3 [(V.str a0)] = some (V.bool (z0)) := by
  intro k hk
  obtain ⟨k, rfl⟩ : ∃ q, k = q + 1 := ⟨k - 1, by omega⟩
  unfold s_laws_FnExactReadPieces at h
  rcases cnd_some h with ⟨h1, h⟩ | ⟨h1, h⟩
  · replace h := Option.some.inj h
    obtain rfl := h
    refine pFun_by [.b true] rfl (And.intro h1 trivial) ?_
    kernel_rfl
  · obtain ⟨⟨y2_0, y2_1⟩, q2, h⟩ := bnd_some h
    obtain ⟨⟨y3_0, y3_1⟩, q3, h⟩ := bnd_some h
    obtain ⟨y4_0, q4, h⟩ := bnd_some h
    rcases cnd_some h with ⟨h5, h⟩ | ⟨h5, h⟩
    · rcases cnd_some h with ⟨h6, h⟩ | ⟨h6, h⟩
      · obtain ⟨⟨y7_0, y7_1⟩, q7, h⟩ := bnd_some h
        obtain ⟨c8, h⟩ := chk_some h
        obtain ⟨y9_0, q9, h⟩ := bnd_some h
        rcases cnd_some h with ⟨h10, h⟩ | ⟨h10, h⟩
        · replace h := Option.some.inj h
          obtain rfl := h
          refine pFun_by [.b false, .v (V.tup [(V.fresh 34 (y2_0)), (V.int .i64 (y2_1))]), .v (V.tup [(V.fresh 34 (y3_0)), (V.int .i64 (y3_1))]), .v (V.bool (y4_0)), .b false, .b false, .v (V.tup [(V.int .i64 (y7_0)), (V.fresh 34 (y7_1))]), .v (V.int .i64 (y9_0)), .b true] rfl (And.intro h1 (And.intro (w_spec_ReadPieces q2 k (by omega)) (And.intro (w_impl_ReadPieces q3 k (by omega)) (And.intro (w_laws_eqPieceS q4 k (by omega)) (And.intro (Eq.refl true) (And.intro (not_f h5) (And.intro (not_f h6) (And.intro (w_laws_markPieceS q7 k (by omega)) (And.intro c8 (And.intro (w_laws_heldPieceS q9 k (by omega)) (And.intro (Eq.refl true) (And.intro h10 trivial)))))))))))) ?_
          kernel_rfl
        · rcases cnd_some h with ⟨h11, h⟩ | ⟨h11, h⟩
          · obtain ⟨⟨y12_0, y12_1⟩, q12, h⟩ := bnd_some h
            obtain ⟨y13_0, q13, h⟩ := bnd_some h
            rcases cnd_some h with ⟨h14, h⟩ | ⟨h14, h⟩
            · rcases cnd_some h with ⟨h15, h⟩ | ⟨h15, h⟩
              · obtain ⟨y16_0, q16, h⟩ := bnd_some h
                rcases cnd_some h with ⟨h17, h⟩ | ⟨h17, h⟩
                · replace h := Option.some.inj h
                  obtain rfl := h
                  refine pFun_by [.b false, .v (V.tup [(V.fresh 34 (y2_0)), (V.int .i64 (y2_1))]), .v (V.tup [(V.fresh 34 (y3_0)), (V.int .i64 (y3_1))]), .v (V.bool (y4_0)), .b false, .b false, .v (V.tup [(V.int .i64 (y7_0)), (V.fresh 34 (y7_1))]), .v (V.int .i64 (y9_0)), .b false, .b false, .v (V.tup [(V.fresh 34 (y12_0)), (V.int .i64 (y12_1))]), .v (V.bool (y13_0)), .b false, .b false, .v (V.int .i64 (y16_0)), .b true] rfl (And.intro h1 (And.intro (w_spec_ReadPieces q2 k (by omega)) (And.intro (w_impl_ReadPieces q3 k (by omega)) (And.intro (w_laws_eqPieceS q4 k (by omega)) (And.intro (Eq.refl true) (And.intro (not_f h5) (And.intro (not_f h6) (And.intro (w_laws_markPieceS q7 k (by omega)) (And.intro c8 (And.intro (w_laws_heldPieceS q9 k (by omega)) (And.intro (Eq.refl true) (And.intro h10 (And.intro (not_f h11) (And.intro (w_impl_ReadPieces q12 k (by omega)) (And.intro (w_laws_eqPieceS q13 k (by omega)) (And.intro (Eq.refl true) (And.intro (not_f h14) (And.intro (not_f h15) (And.intro (w_laws_heldPieceS q16 k (by omega)) (And.intro (Eq.refl true) (And.intro h17 trivial))))))))))))))))))))) ?_
                  kernel_rfl
                · rcases cnd_some h with ⟨h18, h⟩ | ⟨h18, h⟩
                  · replace h := Option.some.inj h
                    obtain rfl := h
                    refine pFun_by [.b false, .v (V.tup [(V.fresh 34 (y2_0)), (V.int .i64 (y2_1))]), .v (V.tup [(V.fresh 34 (y3_0)), (V.int .i64 (y3_1))]), .v (V.bool (y4_0)), .b false, .b false, .v (V.tup [(V.int .i64 (y7_0)), (V.fresh 34 (y7_1))]), .v (V.int .i64 (y9_0)), .b false, .b false, .v (V.tup [(V.fresh 34 (y12_0)), (V.int .i64 (y12_1))]), .v (V.bool (y13_0)), .b false, .b false, .v (V.int .i64 (y16_0)), .b false, .b false] rfl (And.intro h1 (And.intro (w_spec_ReadPieces q2 k (by omega)) (And.intro (w_impl_ReadPieces q3 k (by omega)) (And.intro (w_laws_eqPieceS q4 k (by omega)) (And.intro (Eq.refl true) (And.intro (not_f h5) (And.intro (not_f h6) (And.intro (w_laws_markPieceS q7 k (by omega)) (And.intro c8 (And.intro (w_laws_heldPieceS q9 k (by omega)) (And.intro (Eq.refl true) (And.intro h10 (And.intro (not_f h11) (And.intro (w_impl_ReadPieces q12 k (by omega)) (And.intro (w_laws_eqPieceS q13 k (by omega)) (And.intro (Eq.refl true) (And.intro (not_f h14) (And.intro (not_f h15) (And.intro (w_laws_heldPieceS q16 k (by omega)) (And.intro (Eq.refl true) (And.intro h17 (And.intro (not_f h18) trivial)))))))))))))))))))))) ?_
                    kernel_rfl
                  · replace h := Option.some.inj h
                    obtain rfl := h
                    refine pFun_by [.b false, .v (V.tup [(V.fresh 34 (y2_0)), (V.int .i64 (y2_1))]), .v (V.tup [(V.fresh 34 (y3_0)), (V.int .i64 (y3_1))]), .v (V.bool (y4_0)), .b false, .b false, .v (V.tup [(V.int .i64 (y7_0)), (V.fresh 34 (y7_1))]), .v (V.int .i64 (y9_0)), .b false, .b false, .v (V.tup [(V.fresh 34 (y12_0)), (V.int .i64 (y12_1))]), .v (V.bool (y13_0)), .b false, .b false, .v (V.int .i64 (y16_0)), .b false, .b true] rfl (And.intro h1 (And.intro (w_spec_ReadPieces q2 k (by omega)) (And.intro (w_impl_ReadPieces q3 k (by omega)) (And.intro (w_laws_eqPieceS q4 k (by omega)) (And.intro (Eq.refl true) (And.intro (not_f h5) (And.intro (not_f h6) (And.intro (w_laws_markPieceS q7 k (by omega)) (And.intro c8 (And.intro (w_laws_heldPieceS q9 k (by omega)) (And.intro (Eq.refl true) (And.intro h10 (And.intro (not_f h11) (And.intro (w_impl_ReadPieces q12 k (by omega)) (And.intro (w_laws_eqPieceS q13 k (by omega)) (And.intro (Eq.refl true) (And.intro (not_f h14) (And.intro (not_f h15) (And.intro (w_laws_heldPieceS q16 k (by omega)) (And.intro (Eq.refl true) (And.intro h17 (And.intro (not_t h18) trivial)))))))))))))))))))))) ?_
                    kernel_rfl
              · replace h := Option.some.inj h
                obtain rfl := h
                refine pFun_by [.b false, .v (V.tup [(V.fresh 34 (y2_0)), (V.int .i64 (y2_1))]), .v (V.tup [(V.fresh 34 (y3_0)), (V.int .i64 (y3_1))]), .v (V.bool (y4_0)), .b false, .b false, .v (V.tup [(V.int .i64 (y7_0)), (V.fresh 34 (y7_1))]), .v (V.int .i64 (y9_0)), .b false, .b false, .v (V.tup [(V.fresh 34 (y12_0)), (V.int .i64 (y12_1))]), .v (V.bool (y13_0)), .b false, .b true] rfl (And.intro h1 (And.intro (w_spec_ReadPieces q2 k (by omega)) (And.intro (w_impl_ReadPieces q3 k (by omega)) (And.intro (w_laws_eqPieceS q4 k (by omega)) (And.intro (Eq.refl true) (And.intro (not_f h5) (And.intro (not_f h6) (And.intro (w_laws_markPieceS q7 k (by omega)) (And.intro c8 (And.intro (w_laws_heldPieceS q9 k (by omega)) (And.intro (Eq.refl true) (And.intro h10 (And.intro (not_f h11) (And.intro (w_impl_ReadPieces q12 k (by omega)) (And.intro (w_laws_eqPieceS q13 k (by omega)) (And.intro (Eq.refl true) (And.intro (not_f h14) (And.intro (not_t h15) trivial)))))))))))))))))) ?_
                kernel_rfl
            · replace h := Option.some.inj h
              obtain rfl := h
              refine pFun_by [.b false, .v (V.tup [(V.fresh 34 (y2_0)), (V.int .i64 (y2_1))]), .v (V.tup [(V.fresh 34 (y3_0)), (V.int .i64 (y3_1))]), .v (V.bool (y4_0)), .b false, .b false, .v (V.tup [(V.int .i64 (y7_0)), (V.fresh 34 (y7_1))]), .v (V.int .i64 (y9_0)), .b false, .b false, .v (V.tup [(V.fresh 34 (y12_0)), (V.int .i64 (y12_1))]), .v (V.bool (y13_0)), .b true, .b true] rfl (And.intro h1 (And.intro (w_spec_ReadPieces q2 k (by omega)) (And.intro (w_impl_ReadPieces q3 k (by omega)) (And.intro (w_laws_eqPieceS q4 k (by omega)) (And.intro (Eq.refl true) (And.intro (not_f h5) (And.intro (not_f h6) (And.intro (w_laws_markPieceS q7 k (by omega)) (And.intro c8 (And.intro (w_laws_heldPieceS q9 k (by omega)) (And.intro (Eq.refl true) (And.intro h10 (And.intro (not_f h11) (And.intro (w_impl_ReadPieces q12 k (by omega)) (And.intro (w_laws_eqPieceS q13 k (by omega)) (And.intro (Eq.refl true) (And.intro (not_t h14) (And.intro (Eq.refl true) trivial)))))))))))))))))) ?_
              kernel_rfl
          · replace h := Option.some.inj h
            obtain rfl := h
            refine pFun_by [.b false, .v (V.tup [(V.fresh 34 (y2_0)), (V.int .i64 (y2_1))]), .v (V.tup [(V.fresh 34 (y3_0)), (V.int .i64 (y3_1))]), .v (V.bool (y4_0)), .b false, .b false, .v (V.tup [(V.int .i64 (y7_0)), (V.fresh 34 (y7_1))]), .v (V.int .i64 (y9_0)), .b false, .b true] rfl (And.intro h1 (And.intro (w_spec_ReadPieces q2 k (by omega)) (And.intro (w_impl_ReadPieces q3 k (by omega)) (And.intro (w_laws_eqPieceS q4 k (by omega)) (And.intro (Eq.refl true) (And.intro (not_f h5) (And.intro (not_f h6) (And.intro (w_laws_markPieceS q7 k (by omega)) (And.intro c8 (And.intro (w_laws_heldPieceS q9 k (by omega)) (And.intro (Eq.refl true) (And.intro h10 (And.intro (not_t h11) trivial))))))))))))) ?_
            kernel_rfl
      · replace h := Option.some.inj h
        obtain rfl := h
        refine pFun_by [.b false, .v (V.tup [(V.fresh 34 (y2_0)), (V.int .i64 (y2_1))]), .v (V.tup [(V.fresh 34 (y3_0)), (V.int .i64 (y3_1))]), .v (V.bool (y4_0)), .b false, .b true] rfl (And.intro h1 (And.intro (w_spec_ReadPieces q2 k (by omega)) (And.intro (w_impl_ReadPieces q3 k (by omega)) (And.intro (w_laws_eqPieceS q4 k (by omega)) (And.intro (Eq.refl true) (And.intro (not_f h5) (And.intro (not_t h6) trivial))))))) ?_
        kernel_rfl
    · replace h := Option.some.inj h
      obtain rfl := h
      refine pFun_by [.b false, .v (V.tup [(V.fresh 34 (y2_0)), (V.int .i64 (y2_1))]), .v (V.tup [(V.fresh 34 (y3_0)), (V.int .i64 (y3_1))]), .v (V.bool (y4_0)), .b true, .b true] rfl (And.intro h1 (And.intro (w_spec_ReadPieces q2 k (by omega)) (And.intro (w_impl_ReadPieces q3 k (by omega)) (And.intro (w_laws_eqPieceS q4 k (by omega)) (And.intro (Eq.refl true) (And.intro (not_t h5) (And.intro (Eq.refl true) trivial))))))) ?_
      kernel_rfl
end Go.Proofs.YthdnamhilcjnhaaDoor
