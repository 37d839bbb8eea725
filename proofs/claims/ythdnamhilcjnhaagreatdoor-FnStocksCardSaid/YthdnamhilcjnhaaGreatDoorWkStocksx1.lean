/- The program goes as the shallow texts tell: printed by gen.py. -/
import Derived.Test.YthdnamhilcjnhaaGreatDoorWkStocks
namespace Go.Proofs.YthdnamhilcjnhaaGreatDoor
open Go
set_option linter.unusedVariables false
set_option linter.unusedSimpArgs false
set_option maxRecDepth 100000
set_option maxHeartbeats 4000000
theorem lw_impl_pairs_b0 : ∀ (n : Nat) (a0 : Int) (a1 : Int) (a2 : List V) (a3 : List V) (a4 : List V) (a5 : List V) (a6 : List V) (r : List V), l_impl_pairs_b0 n a0 a1 a2 a3 a4 a5 a6 = some r → ∀ k m, n + 2 ≤ k → n ≤ m → LB E 30 0 k m ⟨[(1, (V.ptr 3 0 (0) 1)), (3, (V.row 7)), (4, (V.ptr 9 0 (0) 1)), (5, (V.row 11)), (12, (V.row 7)), (13, (V.int .i64 (a0))), (14, (V.int .i64 (a1)))], [(3, .box [(V.sl (a2))]), (7, .row 3 (a3)), (9, .box [(V.mp 9009)]), (11, .row 35 (a4)), (9009, .map (a5) (a6))]⟩ = some (match r with | o0 => (.normal, ⟨[(5, (V.row 11))], [(11, .row 35 (o0))]⟩)) := by
 intro n
 induction n with
 | zero => intro a0 a1 a2 a3 a4 a5 a6 r h; cases h
 | succ n ih =>
  intro a0 a1 a2 a3 a4 a5 a6 r h k m hk hm
  obtain ⟨m, rfl⟩ : ∃ q, m = q + 1 := ⟨m - 1, by omega⟩
  replace hk : n + 2 ≤ k := by omega
  unfold l_impl_pairs_b0 at h
  rcases cnd_some h with ⟨h2, h⟩ | ⟨h2, h⟩
  ·obtain ⟨c3, h⟩ := chk_some h
   obtain ⟨e4_0, g4, h⟩ := bnd_some h
   replace g4 := as_i64_some g4
   obtain ⟨⟨e5_0, e5_1⟩, g5, h⟩ := bnd_some h
   replace g5 := as_Pi8_i8Q_some g5
   rcases cnd_some h with ⟨h6, h⟩ | ⟨h6, h⟩
   ·obtain ⟨y7_0, q7, h⟩ := bnd_some h
    rcases cnd_some h with ⟨h8, h⟩ | ⟨h8, h⟩
    ·obtain ⟨c9, h⟩ := chk_some h
     obtain ⟨e10_0, g10, h⟩ := bnd_some h
     replace g10 := as_i64_some g10
     obtain ⟨c11, h⟩ := chk_some h
     obtain ⟨c12, h⟩ := chk_some h
     obtain ⟨e13_0, g13, h⟩ := bnd_some h
     replace g13 := as_i64_some g13
     obtain ⟨c14, h⟩ := chk_some h
     refine pNext_by [.b true, .v (V.int .i64 (e4_0)), .v (V.parts [(V.int .i8 (e5_0)), (V.int .i8 (e5_1))]), .b false, .v (V.int .i64 (y7_0)), .b true, .v (V.int .i64 (e10_0)), .v (V.int .i64 (e13_0))] (AI h2 (AI c3 (AI g4 (AI g5 (AI (not_f h6) (AI (w_ixPr q7 k (by omega)) (AI (Eq.refl true) (AI h8 (AI c9 (AI g10 (AI c11 (AI c12 (AI c9 (AI g13 (AI c14 (AI (Eq.refl true) trivial)))))))))))))))) (ih _ _ _ _ _ _ _ _ h k m hk (by omega)) ?_
     kernel_rfl
    ·refine pNext_by [.b true, .v (V.int .i64 (e4_0)), .v (V.parts [(V.int .i8 (e5_0)), (V.int .i8 (e5_1))]), .b false, .v (V.int .i64 (y7_0)), .b false] (AI h2 (AI c3 (AI g4 (AI g5 (AI (not_f h6) (AI (w_ixPr q7 k (by omega)) (AI (Eq.refl true) (AI h8 trivial)))))))) (ih _ _ _ _ _ _ _ _ h k m hk (by omega)) ?_
     kernel_rfl
   ·refine pNext_by [.b true, .v (V.int .i64 (e4_0)), .v (V.parts [(V.int .i8 (e5_0)), (V.int .i8 (e5_1))]), .b true] (AI h2 (AI c3 (AI g4 (AI g5 (AI (not_t h6) trivial))))) (ih _ _ _ _ _ _ _ _ h k m hk (by omega)) ?_
    kernel_rfl
  ·cases h
   refine pLast_by [.b false] (AI h2 trivial) ?_
   kernel_rfl
theorem w_impl_pairs {n : Nat} {a0 : List V} {z0 : List V} (h : s_impl_pairs n a0 = some z0) : ∀ k, n + 8 ≤ k → sem E k 30 [(V.sl (a0))] = some (V.fresh 35 (z0)) := by
 intro k hk
 obtain ⟨k, rfl⟩ : ∃ q, k = q + 1 := ⟨k - 1, by omega⟩
 unfold s_impl_pairs at h
 obtain ⟨y1_0, q1, h⟩ := bnd_some h
 obtain ⟨u15_0, l15, h⟩ := bnd_some h
 obtain rfl := Option.some.inj h
 refine pFun_by [.v (V.fresh 3 (y1_0)), .l .normal ⟨[(5, (V.row 11))], [(11, .row 35 (u15_0))]⟩] rfl (AI (w_impl_byWidth q1 k (by omega)) (AI (lw_impl_pairs_b0 _ _ _ _ _ _ _ _ _ l15 k k (by omega) (by omega)) trivial)) ?_
 kernel_rfl
theorem w_impl_PairPieces {n : Nat} {a0 : List V} {z0 : List V} {z1 : Int} (h : s_impl_PairPieces n a0 = some (z0, z1)) : ∀ k, n + 13 ≤ k → sem E k 8 [(V.sl (a0))] = some (V.tup [(V.fresh 35 (z0)), (V.int .i64 (z1))]) := by
 intro k hk
 obtain ⟨k, rfl⟩ : ∃ q, k = q + 1 := ⟨k - 1, by omega⟩
 unfold s_impl_PairPieces at h
 obtain ⟨y1_0, q1, h⟩ := bnd_some h
 rcases cnd_some h with ⟨h2, h⟩ | ⟨h2, h⟩
 ·obtain ⟨y3_0, q3, h⟩ := bnd_some h
  simp only [Option.some.injEq, Prod.mk.injEq] at h
  obtain ⟨rfl, rfl⟩ := h
  refine pFun_by [.v (V.int .i64 (y1_0)), .b false, .v (V.fresh 35 (y3_0))] rfl (AI (w_impl_piecesCode q1 k (by omega)) (AI (Eq.refl true) (AI (not_f h2) (AI (w_impl_pairs q3 k (by omega)) trivial)))) ?_
  kernel_rfl
 ·simp only [Option.some.injEq, Prod.mk.injEq] at h
  obtain ⟨rfl, rfl⟩ := h
  refine pFun_by [.v (V.int .i64 (y1_0)), .b true] rfl (AI (w_impl_piecesCode q1 k (by omega)) (AI (Eq.refl true) (AI (not_t h2) trivial))) ?_
  kernel_rfl
theorem w_spec_l00In {n : Nat} {a0 : Int} {a1 : Int} {a2 : Int} {z0 : Bool} (h : s_spec_l00In n a0 a1 a2 = some z0) : ∀ k, n + 1 ≤ k → sem E k 76 [(V.int .i64 (a0)), (V.int .i64 (a1)), (V.int .i64 (a2))] = some (V.bool (z0)) := by
 intro k hk
 obtain ⟨k, rfl⟩ : ∃ q, k = q + 1 := ⟨k - 1, by omega⟩
 unfold s_spec_l00In at h
 rcases cnd_some h with ⟨h1, h⟩ | ⟨h1, h⟩
 ·obtain rfl := Option.some.inj h
  refine pFun_by [.b true] rfl (AI h1 trivial) ?_
  kernel_rfl
 ·obtain rfl := Option.some.inj h
  refine pFun_by [.b false] rfl (AI h1 trivial) ?_
  kernel_rfl
theorem lw_spec_l05Pieces_b0 : ∀ (n : Nat) (a0 : List V) (a1 : Int) (r : Sum (Unit) (Bool)), l_spec_l05Pieces_b0 n a0 a1 = some r → ∀ k m, n + 1 ≤ k → n ≤ m → LB E 56 0 k m ⟨[(0, (V.sl (a0))), (3, (V.int .i64 (a1)))], []⟩ = some (match r with | .inl _ => (.normal, ⟨[], []⟩) | .inr o0 => (.ret, ⟨[(2, (V.bool (o0)))], []⟩)) := by
 intro n
 induction n with
 | zero => intro a0 a1 r h; cases h
 | succ n ih =>
  intro a0 a1 r h k m hk hm
  obtain ⟨m, rfl⟩ : ∃ q, m = q + 1 := ⟨m - 1, by omega⟩
  replace hk : n + 1 ≤ k := by omega
  unfold l_spec_l05Pieces_b0 at h
  rcases cnd_some h with ⟨h1, h⟩ | ⟨h1, h⟩
  ·obtain ⟨⟨e2_0, e2_1⟩, g2, h⟩ := bnd_some h
   replace g2 := as_Pi8_i8Q_some g2
   obtain ⟨y3_0, q3, h⟩ := bnd_some h
   rcases cnd_some h with ⟨h4, h⟩ | ⟨h4, h⟩
   ·obtain ⟨⟨e5_0, e5_1⟩, g5, h⟩ := bnd_some h
    replace g5 := as_Pi8_i8Q_some g5
    obtain ⟨y6_0, q6, h⟩ := bnd_some h
    rcases cnd_some h with ⟨h7, h⟩ | ⟨h7, h⟩
    ·refine pNext_by [.b true, .v (V.parts [(V.int .i8 (e2_0)), (V.int .i8 (e2_1))]), .v (V.bool (y3_0)), .b false, .v (V.parts [(V.int .i8 (e5_0)), (V.int .i8 (e5_1))]), .v (V.bool (y6_0)), .b false] (AI h1 (AI g2 (AI (w_spec_l00In q3 k (by omega)) (AI (not_f h4) (AI g5 (AI (w_spec_l00In q6 k (by omega)) (AI (not_f h7) trivial))))))) (ih _ _ _ h k m hk (by omega)) ?_
     kernel_rfl
    ·cases h
     refine pLast_by [.b true, .v (V.parts [(V.int .i8 (e2_0)), (V.int .i8 (e2_1))]), .v (V.bool (y3_0)), .b false, .v (V.parts [(V.int .i8 (e5_0)), (V.int .i8 (e5_1))]), .v (V.bool (y6_0)), .b true] (AI h1 (AI g2 (AI (w_spec_l00In q3 k (by omega)) (AI (not_f h4) (AI g5 (AI (w_spec_l00In q6 k (by omega)) (AI (not_t h7) trivial))))))) ?_
     kernel_rfl
   ·cases h
    refine pLast_by [.b true, .v (V.parts [(V.int .i8 (e2_0)), (V.int .i8 (e2_1))]), .v (V.bool (y3_0)), .b true, .b true] (AI h1 (AI g2 (AI (w_spec_l00In q3 k (by omega)) (AI (not_t h4) (AI (Eq.refl true) trivial))))) ?_
    kernel_rfl
  ·cases h
   refine pLast_by [.b false] (AI h1 trivial) ?_
   kernel_rfl
theorem w_spec_l05Pieces {n : Nat} {a0 : List V} {z0 : Bool} (h : s_spec_l05Pieces n a0 = some z0) : ∀ k, n + 2 ≤ k → sem E k 56 [(V.sl (a0))] = some (V.bool (z0)) := by
 intro k hk
 obtain ⟨k, rfl⟩ : ∃ q, k = q + 1 := ⟨k - 1, by omega⟩
 unfold s_spec_l05Pieces at h
 obtain ⟨w, l8, h⟩ := bnd_some h
 rcases w with ⟨⟩ | u9_0
 ·obtain rfl := Option.some.inj h
  refine pFun_by [.l .normal ⟨[], []⟩] rfl (AI (lw_spec_l05Pieces_b0 _ _ _ _ l8 k k (by omega) (by omega)) trivial) ?_
  kernel_rfl
 ·obtain rfl := Option.some.inj h
  refine pFun_by [.l .ret ⟨[(2, (V.bool (u9_0)))], []⟩] rfl (AI (lw_spec_l05Pieces_b0 _ _ _ _ l8 k k (by omega) (by omega)) trivial) ?_
  kernel_rfl
theorem w_spec_l05Asked {n : Nat} {a0 : List V} {z0 : Int} (h : s_spec_l05Asked n a0 = some z0) : ∀ k, n + 3 ≤ k → sem E k 31 [(V.sl (a0))] = some (V.int .i64 (z0)) := by
 intro k hk
 obtain ⟨k, rfl⟩ : ∃ q, k = q + 1 := ⟨k - 1, by omega⟩
 unfold s_spec_l05Asked at h
 obtain ⟨y1_0, q1, h⟩ := bnd_some h
 rcases cnd_some h with ⟨h2, h⟩ | ⟨h2, h⟩
 ·rcases cnd_some h with ⟨h3, h⟩ | ⟨h3, h⟩
  ·obtain rfl := Option.some.inj h
   refine pFun_by [.v (V.bool (y1_0)), .b false, .b true] rfl (AI (w_spec_l05Pieces q1 k (by omega)) (AI (not_f h2) (AI h3 trivial))) ?_
   kernel_rfl
  ·obtain rfl := Option.some.inj h
   refine pFun_by [.v (V.bool (y1_0)), .b false, .b false] rfl (AI (w_spec_l05Pieces q1 k (by omega)) (AI (not_f h2) (AI h3 trivial))) ?_
   kernel_rfl
 ·obtain rfl := Option.some.inj h
  refine pFun_by [.v (V.bool (y1_0)), .b true] rfl (AI (w_spec_l05Pieces q1 k (by omega)) (AI (not_t h2) trivial)) ?_
  kernel_rfl
theorem lw_spec_l05Order_b2 : ∀ (n : Nat) (a0 : List V) (a1 : Int) (a2 : Int) (a3 : List V) (r : List V × Int × List V), l_spec_l05Order_b2 n a0 a1 a2 a3 = some r → ∀ k m, n + 0 ≤ k → n ≤ m → LB E 57 2 k m ⟨[(0, (V.sl (a0))), (3, (V.row 7)), (4, (V.int .i8 (a1))), (5, (V.int .i64 (a2)))], [(7, .row 2 (a3))]⟩ = some (match r with | (o0, o1, o2) => (.normal, ⟨[(0, (V.sl (o0))), (3, (V.row 7)), (4, (V.int .i8 (o1)))], [(7, .row 2 (o2))]⟩)) := by
 intro n
 induction n with
 | zero => intro a0 a1 a2 a3 r h; cases h
 | succ n ih =>
  intro a0 a1 a2 a3 r h k m hk hm
  obtain ⟨m, rfl⟩ : ∃ q, m = q + 1 := ⟨m - 1, by omega⟩
  replace hk : n + 0 ≤ k := by omega
  unfold l_spec_l05Order_b2 at h
  rcases cnd_some h with ⟨h2, h⟩ | ⟨h2, h⟩
  ·obtain ⟨⟨e3_0, e3_1⟩, g3, h⟩ := bnd_some h
   replace g3 := as_Pi8_i8Q_some g3
   rcases cnd_some h with ⟨h4, h⟩ | ⟨h4, h⟩
   ·obtain ⟨c5, h⟩ := chk_some h
    refine pNext_by [.b true, .v (V.parts [(V.int .i8 (e3_0)), (V.int .i8 (e3_1))]), .b true] (AI h2 (AI g3 (AI h4 (AI c5 (AI (Eq.refl true) trivial))))) (ih _ _ _ _ _ h k m hk (by omega)) ?_
    kernel_rfl
   ·refine pNext_by [.b true, .v (V.parts [(V.int .i8 (e3_0)), (V.int .i8 (e3_1))]), .b false] (AI h2 (AI g3 (AI h4 trivial))) (ih _ _ _ _ _ h k m hk (by omega)) ?_
    kernel_rfl
  ·cases h
   refine pLast_by [.b false] (AI h2 trivial) ?_
   kernel_rfl
theorem lw_spec_l05Order_b0 : ∀ (n : Nat) (a0 : List V) (a1 : Int) (a2 : List V) (r : List V), l_spec_l05Order_b0 n a0 a1 a2 = some r → ∀ k m, n + 0 ≤ k → n ≤ m → LB E 57 0 k m ⟨[(0, (V.sl (a0))), (3, (V.row 7)), (4, (V.int .i8 (a1)))], [(7, .row 2 (a2))]⟩ = some (match r with | o0 => (.normal, ⟨[(3, (V.row 7))], [(7, .row 2 (o0))]⟩)) := by
 intro n
 induction n with
 | zero => intro a0 a1 a2 r h; cases h
 | succ n ih =>
  intro a0 a1 a2 r h k m hk hm
  obtain ⟨m, rfl⟩ : ∃ q, m = q + 1 := ⟨m - 1, by omega⟩
  replace hk : n + 0 ≤ k := by omega
  unfold l_spec_l05Order_b0 at h
  rcases cnd_some h with ⟨h1, h⟩ | ⟨h1, h⟩
  ·obtain ⟨⟨u6_0, u6_1, u6_2⟩, l6, h⟩ := bnd_some h
   refine pNext_by [.b true, .l .normal ⟨[(0, (V.sl (u6_0))), (3, (V.row 7)), (4, (V.int .i8 (u6_1)))], [(7, .row 2 (u6_2))]⟩] (AI h1 (AI (lw_spec_l05Order_b2 _ _ _ _ _ _ l6 k k (by omega) (by omega)) trivial)) (ih _ _ _ _ h k m hk (by omega)) ?_
   kernel_rfl
  ·cases h
   refine pLast_by [.b false] (AI h1 trivial) ?_
   kernel_rfl
theorem w_spec_l05Order {n : Nat} {a0 : List V} {z0 : List V} (h : s_spec_l05Order n a0 = some z0) : ∀ k, n + 1 ≤ k → sem E k 57 [(V.sl (a0))] = some (V.fresh 2 (z0)) := by
 intro k hk
 obtain ⟨k, rfl⟩ : ∃ q, k = q + 1 := ⟨k - 1, by omega⟩
 unfold s_spec_l05Order at h
 obtain ⟨u8_0, l8, h⟩ := bnd_some h
 obtain rfl := Option.some.inj h
 refine pFun_by [.l .normal ⟨[(3, (V.row 7))], [(7, .row 2 (u8_0))]⟩] rfl (AI (lw_spec_l05Order_b0 _ _ _ _ _ l8 k k (by omega) (by omega)) trivial) ?_
 kernel_rfl
theorem lw_spec_l05Pairs_b2 : ∀ (n : Nat) (a0 : List V) (a1 : Int) (a2 : Int) (a3 : Int) (a4 : List V) (a5 : List V) (a6 : List V) (r : List V × Int × List V × List V × List V), l_spec_l05Pairs_b2 n a0 a1 a2 a3 a4 a5 a6 = some r → ∀ k m, n + 0 ≤ k → n ≤ m → LB E 32 2 k m ⟨[(0, (V.sl (a0))), (3, (V.row 7)), (4, (V.row 9)), (5, (V.row 11)), (6, (V.int .i64 (a1))), (7, (V.int .i64 (a2))), (8, (V.int .i64 (a3)))], [(7, .row 35 (a4)), (9, .row 4 (a5)), (11, .row 2 (a6))]⟩ = some (match r with | (o0, o1, o2, o3, o4) => (.normal, ⟨[(0, (V.sl (o0))), (3, (V.row 7)), (4, (V.row 9)), (5, (V.row 11)), (6, (V.int .i64 (o1)))], [(7, .row 35 (o2)), (9, .row 4 (o3)), (11, .row 2 (o4))]⟩)) := by
 intro n
 induction n with
 | zero => intro a0 a1 a2 a3 a4 a5 a6 r h; cases h
 | succ n ih =>
  intro a0 a1 a2 a3 a4 a5 a6 r h k m hk hm
  obtain ⟨m, rfl⟩ : ∃ q, m = q + 1 := ⟨m - 1, by omega⟩
  replace hk : n + 0 ≤ k := by omega
  unfold l_spec_l05Pairs_b2 at h
  rcases cnd_some h with ⟨h8, h⟩ | ⟨h8, h⟩
  ·obtain ⟨c9, h⟩ := chk_some h
   obtain ⟨e10_0, g10, h⟩ := bnd_some h
   replace g10 := as_i64_some g10
   obtain ⟨⟨e11_0, e11_1⟩, g11, h⟩ := bnd_some h
   replace g11 := as_Pi8_i8Q_some g11
   rcases cnd_some h with ⟨h12, h⟩ | ⟨h12, h⟩
   ·obtain ⟨c13, h⟩ := chk_some h
    obtain ⟨e14_0, g14, h⟩ := bnd_some h
    replace g14 := as_b_some g14
    rcases cnd_some h with ⟨h15, h⟩ | ⟨h15, h⟩
    ·refine pNext_by [.b true, .v (V.int .i64 (e10_0)), .v (V.parts [(V.int .i8 (e11_0)), (V.int .i8 (e11_1))]), .b true, .v (V.bool (e14_0)), .b false, .b false] (AI h8 (AI c9 (AI g10 (AI g11 (AI h12 (AI c13 (AI g14 (AI (not_f h15) (AI (Eq.refl false) trivial))))))))) (ih _ _ _ _ _ _ _ _ h k m hk (by omega)) ?_
     kernel_rfl
    ·obtain ⟨⟨e16_0, e16_1⟩, g16, h⟩ := bnd_some h
     replace g16 := as_Pi8_i8Q_some g16
     obtain ⟨⟨e17_0, e17_1⟩, g17, h⟩ := bnd_some h
     replace g17 := as_Pi8_i8Q_some g17
     rcases cnd_some h with ⟨h18, h⟩ | ⟨h18, h⟩
     ·obtain ⟨e19_0, g19, h⟩ := bnd_some h
      replace g19 := as_b_some g19
      obtain ⟨c20, h⟩ := chk_some h
      cases h
      refine pLast_by [.b true, .v (V.int .i64 (e10_0)), .v (V.parts [(V.int .i8 (e11_0)), (V.int .i8 (e11_1))]), .b true, .v (V.bool (e14_0)), .b true, .v (V.parts [(V.int .i8 (e16_0)), (V.int .i8 (e16_1))]), .v (V.parts [(V.int .i8 (e17_0)), (V.int .i8 (e17_1))]), .b true, .v (V.bool (e19_0))] (AI h8 (AI c9 (AI g10 (AI g11 (AI h12 (AI c13 (AI g14 (AI (not_t h15) (AI g16 (AI g17 (AI h18 (AI c13 (AI g19 (AI c20 (AI (Eq.refl true) trivial))))))))))))))) ?_
      kernel_rfl
     ·refine pNext_by [.b true, .v (V.int .i64 (e10_0)), .v (V.parts [(V.int .i8 (e11_0)), (V.int .i8 (e11_1))]), .b true, .v (V.bool (e14_0)), .b true, .v (V.parts [(V.int .i8 (e16_0)), (V.int .i8 (e16_1))]), .v (V.parts [(V.int .i8 (e17_0)), (V.int .i8 (e17_1))]), .b false] (AI h8 (AI c9 (AI g10 (AI g11 (AI h12 (AI c13 (AI g14 (AI (not_t h15) (AI g16 (AI g17 (AI h18 trivial))))))))))) (ih _ _ _ _ _ _ _ _ h k m hk (by omega)) ?_
      kernel_rfl
   ·refine pNext_by [.b true, .v (V.int .i64 (e10_0)), .v (V.parts [(V.int .i8 (e11_0)), (V.int .i8 (e11_1))]), .b false, .b false, .b false] (AI h8 (AI c9 (AI g10 (AI g11 (AI h12 (AI (Eq.refl false) (AI (Eq.refl false) trivial))))))) (ih _ _ _ _ _ _ _ _ h k m hk (by omega)) ?_
    kernel_rfl
  ·cases h
   refine pLast_by [.b false] (AI h8 trivial) ?_
   kernel_rfl
theorem lw_spec_l05Pairs_b0 : ∀ (n : Nat) (a0 : List V) (a1 : Int) (a2 : List V) (a3 : List V) (a4 : List V) (r : List V), l_spec_l05Pairs_b0 n a0 a1 a2 a3 a4 = some r → ∀ k m, n + 0 ≤ k → n ≤ m → LB E 32 0 k m ⟨[(0, (V.sl (a0))), (3, (V.row 7)), (4, (V.row 9)), (5, (V.row 11)), (6, (V.int .i64 (a1)))], [(7, .row 35 (a2)), (9, .row 4 (a3)), (11, .row 2 (a4))]⟩ = some (match r with | o0 => (.normal, ⟨[(3, (V.row 7))], [(7, .row 35 (o0))]⟩)) := by
 intro n
 induction n with
 | zero => intro a0 a1 a2 a3 a4 r h; cases h
 | succ n ih =>
  intro a0 a1 a2 a3 a4 r h k m hk hm
  obtain ⟨m, rfl⟩ : ∃ q, m = q + 1 := ⟨m - 1, by omega⟩
  replace hk : n + 0 ≤ k := by omega
  unfold l_spec_l05Pairs_b0 at h
  rcases cnd_some h with ⟨h3, h⟩ | ⟨h3, h⟩
  ·obtain ⟨c4, h⟩ := chk_some h
   obtain ⟨e5_0, g5, h⟩ := bnd_some h
   replace g5 := as_i64_some g5
   obtain ⟨⟨e6_0, e6_1⟩, g6, h⟩ := bnd_some h
   replace g6 := as_Pi8_i8Q_some g6
   rcases cnd_some h with ⟨h7, h⟩ | ⟨h7, h⟩
   ·obtain ⟨⟨u21_0, u21_1, u21_2, u21_3, u21_4⟩, l21, h⟩ := bnd_some h
    refine pNext_by [.b true, .v (V.int .i64 (e5_0)), .v (V.parts [(V.int .i8 (e6_0)), (V.int .i8 (e6_1))]), .b false, .l .normal ⟨[(0, (V.sl (u21_0))), (3, (V.row 7)), (4, (V.row 9)), (5, (V.row 11)), (6, (V.int .i64 (u21_1)))], [(7, .row 35 (u21_2)), (9, .row 4 (u21_3)), (11, .row 2 (u21_4))]⟩] (AI h3 (AI c4 (AI g5 (AI g6 (AI (not_f h7) (AI (lw_spec_l05Pairs_b2 _ _ _ _ _ _ _ _ _ l21 k k (by omega) (by omega)) trivial)))))) (ih _ _ _ _ _ _ h k m hk (by omega)) ?_
    kernel_rfl
   ·refine pNext_by [.b true, .v (V.int .i64 (e5_0)), .v (V.parts [(V.int .i8 (e6_0)), (V.int .i8 (e6_1))]), .b true] (AI h3 (AI c4 (AI g5 (AI g6 (AI (not_t h7) trivial))))) (ih _ _ _ _ _ _ h k m hk (by omega)) ?_
    kernel_rfl
  ·cases h
   refine pLast_by [.b false] (AI h3 trivial) ?_
   kernel_rfl
theorem w_spec_l05Pairs {n : Nat} {a0 : List V} {z0 : List V} (h : s_spec_l05Pairs n a0 = some z0) : ∀ k, n + 2 ≤ k → sem E k 32 [(V.sl (a0))] = some (V.fresh 35 (z0)) := by
 intro k hk
 obtain ⟨k, rfl⟩ : ∃ q, k = q + 1 := ⟨k - 1, by omega⟩
 unfold s_spec_l05Pairs at h
 obtain ⟨c1, h⟩ := chk_some h
 obtain ⟨y2_0, q2, h⟩ := bnd_some h
 obtain ⟨u23_0, l23, h⟩ := bnd_some h
 obtain rfl := Option.some.inj h
 refine pFun_by [.v (V.fresh 2 (y2_0)), .l .normal ⟨[(3, (V.row 7))], [(7, .row 35 (u23_0))]⟩] rfl (AI c1 (AI (w_spec_l05Order q2 k (by omega)) (AI (lw_spec_l05Pairs_b0 _ _ _ _ _ _ _ l23 k k (by omega) (by omega)) trivial))) ?_
 kernel_rfl
theorem w_spec_PairPieces {n : Nat} {a0 : List V} {z0 : List V} {z1 : Int} (h : s_spec_PairPieces n a0 = some (z0, z1)) : ∀ k, n + 4 ≤ k → sem E k 9 [(V.sl (a0))] = some (V.tup [(V.fresh 35 (z0)), (V.int .i64 (z1))]) := by
 intro k hk
 obtain ⟨k, rfl⟩ : ∃ q, k = q + 1 := ⟨k - 1, by omega⟩
 unfold s_spec_PairPieces at h
 obtain ⟨y1_0, q1, h⟩ := bnd_some h
 rcases cnd_some h with ⟨h2, h⟩ | ⟨h2, h⟩
 ·obtain ⟨y3_0, q3, h⟩ := bnd_some h
  simp only [Option.some.injEq, Prod.mk.injEq] at h
  obtain ⟨rfl, rfl⟩ := h
  refine pFun_by [.v (V.int .i64 (y1_0)), .b false, .v (V.fresh 35 (y3_0))] rfl (AI (w_spec_l05Asked q1 k (by omega)) (AI (not_f h2) (AI (w_spec_l05Pairs q3 k (by omega)) trivial))) ?_
  kernel_rfl
 ·simp only [Option.some.injEq, Prod.mk.injEq] at h
  obtain ⟨rfl, rfl⟩ := h
  refine pFun_by [.v (V.int .i64 (y1_0)), .b true] rfl (AI (w_spec_l05Asked q1 k (by omega)) (AI (not_t h2) trivial)) ?_
  kernel_rfl
theorem w_impl_tilesFor {n : Nat} {a0 : List V} {z0 : Int} (h : s_impl_tilesFor n a0 = some z0) : ∀ k, n + 9 ≤ k → sem E k 33 [(V.sl (a0))] = some (V.int .i64 (z0)) := by
 intro k hk
 obtain ⟨k, rfl⟩ : ∃ q, k = q + 1 := ⟨k - 1, by omega⟩
 unfold s_impl_tilesFor at h
 obtain ⟨y1_0, q1, h⟩ := bnd_some h
 obtain rfl := Option.some.inj h
 refine pFun_by [.v (V.fresh 35 (y1_0))] rfl (AI (w_impl_pairs q1 k (by omega)) trivial) ?_
 kernel_rfl
theorem w_impl_TilesFor {n : Nat} {a0 : List V} {z0 : Int} {z1 : Int} (h : s_impl_TilesFor n a0 = some (z0, z1)) : ∀ k, n + 13 ≤ k → sem E k 10 [(V.sl (a0))] = some (V.tup [(V.int .i64 (z0)), (V.int .i64 (z1))]) := by
 intro k hk
 obtain ⟨k, rfl⟩ : ∃ q, k = q + 1 := ⟨k - 1, by omega⟩
 unfold s_impl_TilesFor at h
 obtain ⟨y1_0, q1, h⟩ := bnd_some h
 rcases cnd_some h with ⟨h2, h⟩ | ⟨h2, h⟩
 ·obtain ⟨y3_0, q3, h⟩ := bnd_some h
  simp only [Option.some.injEq, Prod.mk.injEq] at h
  obtain ⟨rfl, rfl⟩ := h
  refine pFun_by [.v (V.int .i64 (y1_0)), .b false, .v (V.int .i64 (y3_0))] rfl (AI (w_impl_piecesCode q1 k (by omega)) (AI (Eq.refl true) (AI (not_f h2) (AI (w_impl_tilesFor q3 k (by omega)) trivial)))) ?_
  kernel_rfl
 ·simp only [Option.some.injEq, Prod.mk.injEq] at h
  obtain ⟨rfl, rfl⟩ := h
  refine pFun_by [.v (V.int .i64 (y1_0)), .b true] rfl (AI (w_impl_piecesCode q1 k (by omega)) (AI (Eq.refl true) (AI (not_t h2) trivial))) ?_
  kernel_rfl
theorem w_slices_Grow_Sint64_int64 {n : Nat} {a0 : Int} {z0 : List V} (h : s_slices_Grow_Sint64_int64 n a0 = some z0) : ∀ k, n + 1 ≤ k → sem E k 58 [V.nils, (V.int .i64 (a0))] = some (V.fresh 2 (z0)) := by
 intro k hk
 obtain ⟨k, rfl⟩ : ∃ q, k = q + 1 := ⟨k - 1, by omega⟩
 unfold s_slices_Grow_Sint64_int64 at h
 rcases cnd_some h with ⟨h1, h⟩ | ⟨h1, h⟩
 ·cases h
 ·rcases cnd_some h with ⟨h2, h⟩ | ⟨h2, h⟩
  ·obtain ⟨c3, h⟩ := chk_some h
   obtain ⟨c4, h⟩ := chk_some h
   obtain ⟨c5, h⟩ := chk_some h
   obtain rfl := Option.some.inj h
   refine pFun_by [.b false, .b true] rfl (AI h1 (AI h2 (AI c3 (AI c4 (AI c5 trivial))))) ?_
   kernel_rfl
  ·obtain rfl := Option.some.inj h
   refine pFun_by [.b false, .b false] rfl (AI h1 (AI h2 trivial)) ?_
   kernel_rfl
theorem lw_slices_Concat_Sint64_int64_b0 : ∀ (n : Nat) (a0 : List V) (a1 : Int) (a2 : List V) (a3 : Int) (a4 : Int) (r : List V × Int), l_slices_Concat_Sint64_int64_b0 n a0 a1 a2 a3 a4 = some r → ∀ k m, n + 0 ≤ k → n ≤ m → LB E 34 0 k m ⟨[(0, (V.sl (a0))), (3, (V.int .i64 (a1))), (9, (V.sl (a2))), (10, (V.int .i64 (a3))), (11, (V.int .i64 (a4)))], []⟩ = some (match r with | (o0, o1) => (.normal, ⟨[(0, (V.sl (o0))), (3, (V.int .i64 (o1)))], []⟩)) := by
 intro n
 induction n with
 | zero => intro a0 a1 a2 a3 a4 r h; cases h
 | succ n ih =>
  intro a0 a1 a2 a3 a4 r h k m hk hm
  obtain ⟨m, rfl⟩ : ∃ q, m = q + 1 := ⟨m - 1, by omega⟩
  replace hk : n + 0 ≤ k := by omega
  unfold l_slices_Concat_Sint64_int64_b0 at h
  rcases cnd_some h with ⟨h1, h⟩ | ⟨h1, h⟩
  ·obtain ⟨e2_0, g2, h⟩ := bnd_some h
   replace g2 := as_Li64_some g2
   rcases cnd_some h with ⟨h3, h⟩ | ⟨h3, h⟩
   ·cases h
   ·refine pNext_by [.b true, .v (V.sl (e2_0)), .b false] (AI h1 (AI g2 (AI h3 trivial))) (ih _ _ _ _ _ _ h k m hk (by omega)) ?_
    kernel_rfl
  ·cases h
   refine pLast_by [.b false] (AI h1 trivial) ?_
   kernel_rfl
theorem lw_slices_Concat_Sint64_int64_b2 : ∀ (n : Nat) (a0 : List V) (a1 : Int) (a2 : Int) (a3 : List V) (r : List V), l_slices_Concat_Sint64_int64_b2 n a0 a1 a2 a3 = some r → ∀ k m, n + 0 ≤ k → n ≤ m → LB E 34 2 k m ⟨[(6, (V.row 13)), (25, (V.sl (a0))), (26, (V.int .i64 (a1))), (27, (V.int .i64 (a2)))], [(13, .row 2 (a3))]⟩ = some (match r with | o0 => (.normal, ⟨[(6, (V.row 13))], [(13, .row 2 (o0))]⟩)) := by
 intro n
 induction n with
 | zero => intro a0 a1 a2 a3 r h; cases h
 | succ n ih =>
  intro a0 a1 a2 a3 r h k m hk hm
  obtain ⟨m, rfl⟩ : ∃ q, m = q + 1 := ⟨m - 1, by omega⟩
  replace hk : n + 0 ≤ k := by omega
  unfold l_slices_Concat_Sint64_int64_b2 at h
  rcases cnd_some h with ⟨h8, h⟩ | ⟨h8, h⟩
  ·obtain ⟨e9_0, g9, h⟩ := bnd_some h
   replace g9 := as_Li64_some g9
   obtain ⟨c10, h⟩ := chk_some h
   obtain ⟨c11, h⟩ := chk_some h
   refine pNext_by [.b true, .v (V.sl (e9_0))] (AI h8 (AI g9 (AI c10 (AI c11 trivial)))) (ih _ _ _ _ _ h k m hk (by omega)) ?_
   kernel_rfl
  ·cases h
   refine pLast_by [.b false] (AI h8 trivial) ?_
   kernel_rfl
theorem w_slices_Concat_Sint64_int64 {n : Nat} {a0 : List V} {z0 : List V} (h : s_slices_Concat_Sint64_int64 n a0 = some z0) : ∀ k, n + 2 ≤ k → sem E k 34 [(V.sl (a0))] = some (V.fresh 2 (z0)) := by
 intro k hk
 obtain ⟨k, rfl⟩ : ∃ q, k = q + 1 := ⟨k - 1, by omega⟩
 unfold s_slices_Concat_Sint64_int64 at h
 obtain ⟨⟨u4_0, u4_1⟩, l4, h⟩ := bnd_some h
 obtain ⟨y6_0, q6, h⟩ := bnd_some h
 obtain ⟨c7, h⟩ := chk_some h
 obtain ⟨u12_0, l12, h⟩ := bnd_some h
 obtain rfl := Option.some.inj h
 refine pFun_by [.l .normal ⟨[(0, (V.sl (u4_0))), (3, (V.int .i64 (u4_1)))], []⟩, .v (V.fresh 2 (y6_0)), .l .normal ⟨[(6, (V.row 13))], [(13, .row 2 (u12_0))]⟩] rfl (AI (lw_slices_Concat_Sint64_int64_b0 _ _ _ _ _ _ _ l4 k k (by omega) (by omega)) (AI (w_slices_Grow_Sint64_int64 q6 k (by omega)) (AI c7 (AI (lw_slices_Concat_Sint64_int64_b2 _ _ _ _ _ _ l12 k k (by omega) (by omega)) trivial)))) ?_
 kernel_rfl
theorem lw_slices_Index_Sint64_int64_b0 : ∀ (n : Nat) (a0 : List V) (a1 : Int) (a2 : Int) (a3 : Int) (r : Sum (Unit) (Int)), l_slices_Index_Sint64_int64_b0 n a0 a1 a2 a3 = some r → ∀ k m, n + 0 ≤ k → n ≤ m → LB E 59 0 k m ⟨[(0, (V.sl (a0))), (1, (V.int .i64 (a1))), (7, (V.int .i64 (a2))), (8, (V.int .i64 (a3)))], []⟩ = some (match r with | .inl _ => (.normal, ⟨[], []⟩) | .inr o0 => (.ret, ⟨[(4, (V.int .i64 (o0)))], []⟩)) := by
 intro n
 induction n with
 | zero => intro a0 a1 a2 a3 r h; cases h
 | succ n ih =>
  intro a0 a1 a2 a3 r h k m hk hm
  obtain ⟨m, rfl⟩ : ∃ q, m = q + 1 := ⟨m - 1, by omega⟩
  replace hk : n + 0 ≤ k := by omega
  unfold l_slices_Index_Sint64_int64_b0 at h
  rcases cnd_some h with ⟨h1, h⟩ | ⟨h1, h⟩
  ·obtain ⟨e2_0, g2, h⟩ := bnd_some h
   replace g2 := as_i64_some g2
   rcases cnd_some h with ⟨h3, h⟩ | ⟨h3, h⟩
   ·cases h
    refine pLast_by [.b true, .v (V.int .i64 (e2_0)), .b true] (AI h1 (AI g2 (AI h3 trivial))) ?_
    kernel_rfl
   ·refine pNext_by [.b true, .v (V.int .i64 (e2_0)), .b false] (AI h1 (AI g2 (AI h3 trivial))) (ih _ _ _ _ _ h k m hk (by omega)) ?_
    kernel_rfl
  ·cases h
   refine pLast_by [.b false] (AI h1 trivial) ?_
   kernel_rfl
theorem w_slices_Index_Sint64_int64 {n : Nat} {a0 : List V} {a1 : Int} {z0 : Int} (h : s_slices_Index_Sint64_int64 n a0 a1 = some z0) : ∀ k, n + 1 ≤ k → sem E k 59 [(V.sl (a0)), (V.int .i64 (a1))] = some (V.int .i64 (z0)) := by
 intro k hk
 obtain ⟨k, rfl⟩ : ∃ q, k = q + 1 := ⟨k - 1, by omega⟩
 unfold s_slices_Index_Sint64_int64 at h
 obtain ⟨w, l4, h⟩ := bnd_some h
 rcases w with ⟨⟩ | u5_0
 ·obtain rfl := Option.some.inj h
  refine pFun_by [.l .normal ⟨[], []⟩] rfl (AI (lw_slices_Index_Sint64_int64_b0 _ _ _ _ _ _ l4 k k (by omega) (by omega)) trivial) ?_
  kernel_rfl
 ·obtain rfl := Option.some.inj h
  refine pFun_by [.l .ret ⟨[(4, (V.int .i64 (u5_0)))], []⟩] rfl (AI (lw_slices_Index_Sint64_int64_b0 _ _ _ _ _ _ l4 k k (by omega) (by omega)) trivial) ?_
  kernel_rfl
theorem w_slices_Contains_Sint64_int64 {n : Nat} {a0 : List V} {a1 : Int} {z0 : Bool} (h : s_slices_Contains_Sint64_int64 n a0 a1 = some z0) : ∀ k, n + 2 ≤ k → sem E k 35 [(V.sl (a0)), (V.int .i64 (a1))] = some (V.bool (z0)) := by
 intro k hk
 obtain ⟨k, rfl⟩ : ∃ q, k = q + 1 := ⟨k - 1, by omega⟩
 unfold s_slices_Contains_Sint64_int64 at h
 obtain ⟨y1_0, q1, h⟩ := bnd_some h
 obtain rfl := Option.some.inj h
 refine pFun_by [.v (V.int .i64 (y1_0))] rfl (AI (w_slices_Index_Sint64_int64 q1 k (by omega)) trivial) ?_
 kernel_rfl
theorem lw_impl_OffcutsOf_b0 : ∀ (n : Nat) (a0 : List V) (a1 : Int) (a2 : Int) (a3 : List V) (a4 : List V) (r : List V), l_impl_OffcutsOf_b0 n a0 a1 a2 a3 a4 = some r → ∀ k m, n + 2 ≤ k → n ≤ m → LB E 11 0 k m ⟨[(5, (V.row 11)), (6, (V.row 13)), (18, (V.sl (a0))), (19, (V.int .i64 (a1))), (20, (V.int .i64 (a2)))], [(11, .row 2 (a3)), (13, .row 45 (a4))]⟩ = some (match r with | o0 => (.normal, ⟨[(6, (V.row 13))], [(13, .row 45 (o0))]⟩)) := by
 intro n
 induction n with
 | zero => intro a0 a1 a2 a3 a4 r h; cases h
 | succ n ih =>
  intro a0 a1 a2 a3 a4 r h k m hk hm
  obtain ⟨m, rfl⟩ : ∃ q, m = q + 1 := ⟨m - 1, by omega⟩
  replace hk : n + 2 ≤ k := by omega
  unfold l_impl_OffcutsOf_b0 at h
  rcases cnd_some h with ⟨h6, h⟩ | ⟨h6, h⟩
  ·obtain ⟨⟨e7_0, e7_1⟩, g7, h⟩ := bnd_some h
   replace g7 := as_Pi8_i8Q_some g7
   rcases cnd_some h with ⟨h8, h⟩ | ⟨h8, h⟩
   ·refine pNext_by [.b true, .v (V.parts [(V.int .i8 (e7_0)), (V.int .i8 (e7_1))]), .b false, .b false] (AI h6 (AI g7 (AI (not_f h8) (AI (Eq.refl false) trivial)))) (ih _ _ _ _ _ _ h k m hk (by omega)) ?_
    kernel_rfl
   ·obtain ⟨y9_0, q9, h⟩ := bnd_some h
    rcases cnd_some h with ⟨h10, h⟩ | ⟨h10, h⟩
    ·refine pNext_by [.b true, .v (V.parts [(V.int .i8 (e7_0)), (V.int .i8 (e7_1))]), .b true, .v (V.bool (y9_0)), .b false] (AI h6 (AI g7 (AI (not_t h8) (AI (w_slices_Contains_Sint64_int64 q9 k (by omega)) (AI (Eq.refl true) (AI (not_f h10) trivial)))))) (ih _ _ _ _ _ _ h k m hk (by omega)) ?_
     kernel_rfl
    ·obtain ⟨c11, h⟩ := chk_some h
     refine pNext_by [.b true, .v (V.parts [(V.int .i8 (e7_0)), (V.int .i8 (e7_1))]), .b true, .v (V.bool (y9_0)), .b true] (AI h6 (AI g7 (AI (not_t h8) (AI (w_slices_Contains_Sint64_int64 q9 k (by omega)) (AI (Eq.refl true) (AI (not_t h10) (AI c11 (AI (Eq.refl true) trivial)))))))) (ih _ _ _ _ _ _ h k m hk (by omega)) ?_
     kernel_rfl
  ·cases h
   refine pLast_by [.b false] (AI h6 trivial) ?_
   kernel_rfl
theorem w_impl_OffcutsOf {n : Nat} {a0 : List V} {z0 : List V} {z1 : Int} (h : s_impl_OffcutsOf n a0 = some (z0, z1)) : ∀ k, n + 13 ≤ k → sem E k 11 [(V.sl (a0))] = some (V.tup [(V.fresh 45 (z0)), (V.int .i64 (z1))]) := by
 intro k hk
 obtain ⟨k, rfl⟩ : ∃ q, k = q + 1 := ⟨k - 1, by omega⟩
 unfold s_impl_OffcutsOf at h
 obtain ⟨y1_0, q1, h⟩ := bnd_some h
 rcases cnd_some h with ⟨h2, h⟩ | ⟨h2, h⟩
 ·obtain ⟨y3_0, q3, h⟩ := bnd_some h
  obtain ⟨y4_0, q4, h⟩ := bnd_some h
  obtain ⟨c5, h⟩ := chk_some h
  obtain ⟨u12_0, l12, h⟩ := bnd_some h
  simp only [Option.some.injEq, Prod.mk.injEq] at h
  obtain ⟨rfl, rfl⟩ := h
  refine pFun_by [.v (V.int .i64 (y1_0)), .b false, .v (V.fresh 35 (y3_0)), .v (V.fresh 2 (y4_0)), .l .normal ⟨[(6, (V.row 13))], [(13, .row 45 (u12_0))]⟩] rfl (AI (w_impl_piecesCode q1 k (by omega)) (AI (Eq.refl true) (AI (not_f h2) (AI (w_impl_pairs q3 k (by omega)) (AI (w_slices_Concat_Sint64_int64 q4 k (by omega)) (AI c5 (AI (lw_impl_OffcutsOf_b0 _ _ _ _ _ _ _ l12 k k (by omega) (by omega)) trivial))))))) ?_
  kernel_rfl
 ·simp only [Option.some.injEq, Prod.mk.injEq] at h
  obtain ⟨rfl, rfl⟩ := h
  refine pFun_by [.v (V.int .i64 (y1_0)), .b true] rfl (AI (w_impl_piecesCode q1 k (by omega)) (AI (Eq.refl true) (AI (not_t h2) trivial))) ?_
  kernel_rfl
theorem lw_spec_OffcutsOf_b0 : ∀ (n : Nat) (a0 : List V) (a1 : Int) (a2 : List V) (a3 : List V) (r : List V × List V), l_spec_OffcutsOf_b0 n a0 a1 a2 a3 = some r → ∀ k m, n + 0 ≤ k → n ≤ m → LB E 12 0 k m ⟨[(0, (V.sl (a0))), (5, (V.row 11)), (6, (V.row 13)), (7, (V.int .i64 (a1)))], [(11, .row 4 (a2)), (13, .row 35 (a3))]⟩ = some (match r with | (o0, o1) => (.normal, ⟨[(0, (V.sl (o0))), (5, (V.row 11))], [(11, .row 4 (o1))]⟩)) := by
 intro n
 induction n with
 | zero => intro a0 a1 a2 a3 r h; cases h
 | succ n ih =>
  intro a0 a1 a2 a3 r h k m hk hm
  obtain ⟨m, rfl⟩ : ∃ q, m = q + 1 := ⟨m - 1, by omega⟩
  replace hk : n + 0 ≤ k := by omega
  unfold l_spec_OffcutsOf_b0 at h
  rcases cnd_some h with ⟨h5, h⟩ | ⟨h5, h⟩
  ·obtain ⟨c6, h⟩ := chk_some h
   obtain ⟨e7_0, g7, h⟩ := bnd_some h
   replace g7 := as_Li64_some g7
   obtain ⟨e8_0, g8, h⟩ := bnd_some h
   replace g8 := as_i64_some g8
   obtain ⟨c9, h⟩ := chk_some h
   obtain ⟨e10_0, g10, h⟩ := bnd_some h
   replace g10 := as_b_some g10
   obtain ⟨e11_0, g11, h⟩ := bnd_some h
   replace g11 := as_Li64_some g11
   obtain ⟨e12_0, g12, h⟩ := bnd_some h
   replace g12 := as_i64_some g12
   obtain ⟨c13, h⟩ := chk_some h
   obtain ⟨e14_0, g14, h⟩ := bnd_some h
   replace g14 := as_b_some g14
   refine pNext_by [.b true, .v (V.sl (e7_0)), .v (V.int .i64 (e8_0)), .v (V.bool (e10_0)), .v (V.sl (e11_0)), .v (V.int .i64 (e12_0)), .v (V.bool (e14_0))] (AI h5 (AI c6 (AI g7 (AI g8 (AI c9 (AI g10 (AI c6 (AI g11 (AI g12 (AI c13 (AI g14 trivial))))))))))) (ih _ _ _ _ _ h k m hk (by omega)) ?_
   kernel_rfl
  ·cases h
   refine pLast_by [.b false] (AI h5 trivial) ?_
   kernel_rfl
theorem lw_spec_OffcutsOf_b2 : ∀ (n : Nat) (a0 : List V) (a1 : Int) (a2 : List V) (a3 : List V) (r : List V), l_spec_OffcutsOf_b2 n a0 a1 a2 a3 = some r → ∀ k m, n + 0 ≤ k → n ≤ m → LB E 12 2 k m ⟨[(0, (V.sl (a0))), (5, (V.row 11)), (8, (V.row 17)), (9, (V.int .i64 (a1)))], [(11, .row 4 (a2)), (17, .row 45 (a3))]⟩ = some (match r with | o0 => (.normal, ⟨[(8, (V.row 17))], [(17, .row 45 (o0))]⟩)) := by
 intro n
 induction n with
 | zero => intro a0 a1 a2 a3 r h; cases h
 | succ n ih =>
  intro a0 a1 a2 a3 r h k m hk hm
  obtain ⟨m, rfl⟩ : ∃ q, m = q + 1 := ⟨m - 1, by omega⟩
  replace hk : n + 0 ≤ k := by omega
  unfold l_spec_OffcutsOf_b2 at h
  rcases cnd_some h with ⟨h17, h⟩ | ⟨h17, h⟩
  ·obtain ⟨c18, h⟩ := chk_some h
   obtain ⟨e19_0, g19, h⟩ := bnd_some h
   replace g19 := as_b_some g19
   rcases cnd_some h with ⟨h20, h⟩ | ⟨h20, h⟩
   ·refine pNext_by [.b true, .v (V.bool (e19_0)), .b true, .b true] (AI h17 (AI c18 (AI g19 (AI h20 (AI (Eq.refl true) trivial))))) (ih _ _ _ _ _ h k m hk (by omega)) ?_
    kernel_rfl
   ·obtain ⟨⟨e21_0, e21_1⟩, g21, h⟩ := bnd_some h
    replace g21 := as_Pi8_i8Q_some g21
    rcases cnd_some h with ⟨h22, h⟩ | ⟨h22, h⟩
    ·refine pNext_by [.b true, .v (V.bool (e19_0)), .b false, .v (V.parts [(V.int .i8 (e21_0)), (V.int .i8 (e21_1))]), .b true] (AI h17 (AI c18 (AI g19 (AI h20 (AI g21 (AI h22 trivial)))))) (ih _ _ _ _ _ h k m hk (by omega)) ?_
     kernel_rfl
    ·obtain ⟨⟨e23_0, e23_1⟩, g23, h⟩ := bnd_some h
     replace g23 := as_Pi8_i8Q_some g23
     rcases cnd_some h with ⟨h24, h⟩ | ⟨h24, h⟩
     ·obtain ⟨⟨e25_0, e25_1⟩, g25, h⟩ := bnd_some h
      replace g25 := as_Pi8_i8Q_some g25
      obtain ⟨c26, h⟩ := chk_some h
      refine pNext_by [.b true, .v (V.bool (e19_0)), .b false, .v (V.parts [(V.int .i8 (e21_0)), (V.int .i8 (e21_1))]), .b false, .v (V.parts [(V.int .i8 (e23_0)), (V.int .i8 (e23_1))]), .b true, .v (V.parts [(V.int .i8 (e25_0)), (V.int .i8 (e25_1))])] (AI h17 (AI c18 (AI g19 (AI h20 (AI g21 (AI h22 (AI g23 (AI h24 (AI g25 (AI c26 (AI (Eq.refl true) trivial))))))))))) (ih _ _ _ _ _ h k m hk (by omega)) ?_
      kernel_rfl
     ·obtain ⟨⟨e27_0, e27_1⟩, g27, h⟩ := bnd_some h
      replace g27 := as_Pi8_i8Q_some g27
      obtain ⟨c28, h⟩ := chk_some h
      refine pNext_by [.b true, .v (V.bool (e19_0)), .b false, .v (V.parts [(V.int .i8 (e21_0)), (V.int .i8 (e21_1))]), .b false, .v (V.parts [(V.int .i8 (e23_0)), (V.int .i8 (e23_1))]), .b false, .v (V.parts [(V.int .i8 (e27_0)), (V.int .i8 (e27_1))])] (AI h17 (AI c18 (AI g19 (AI h20 (AI g21 (AI h22 (AI g23 (AI h24 (AI g27 (AI c28 (AI (Eq.refl true) trivial))))))))))) (ih _ _ _ _ _ h k m hk (by omega)) ?_
      kernel_rfl
  ·cases h
   refine pLast_by [.b false] (AI h17 trivial) ?_
   kernel_rfl
theorem w_spec_OffcutsOf {n : Nat} {a0 : List V} {z0 : List V} {z1 : Int} (h : s_spec_OffcutsOf n a0 = some (z0, z1)) : ∀ k, n + 4 ≤ k → sem E k 12 [(V.sl (a0))] = some (V.tup [(V.fresh 45 (z0)), (V.int .i64 (z1))]) := by
 intro k hk
 obtain ⟨k, rfl⟩ : ∃ q, k = q + 1 := ⟨k - 1, by omega⟩
 unfold s_spec_OffcutsOf at h
 obtain ⟨y1_0, q1, h⟩ := bnd_some h
 rcases cnd_some h with ⟨h2, h⟩ | ⟨h2, h⟩
 ·obtain ⟨c3, h⟩ := chk_some h
  obtain ⟨y4_0, q4, h⟩ := bnd_some h
  obtain ⟨⟨u15_0, u15_1⟩, l15, h⟩ := bnd_some h
  obtain ⟨u29_0, l29, h⟩ := bnd_some h
  simp only [Option.some.injEq, Prod.mk.injEq] at h
  obtain ⟨rfl, rfl⟩ := h
  refine pFun_by [.v (V.int .i64 (y1_0)), .b false, .v (V.fresh 35 (y4_0)), .l .normal ⟨[(0, (V.sl (u15_0))), (5, (V.row 11))], [(11, .row 4 (u15_1))]⟩, .l .normal ⟨[(8, (V.row 17))], [(17, .row 45 (u29_0))]⟩] rfl (AI (w_spec_l05Asked q1 k (by omega)) (AI (not_f h2) (AI c3 (AI (w_spec_l05Pairs q4 k (by omega)) (AI (lw_spec_OffcutsOf_b0 _ _ _ _ _ _ l15 k k (by omega) (by omega)) (AI (lw_spec_OffcutsOf_b2 _ _ _ _ _ _ l29 k k (by omega) (by omega)) trivial)))))) ?_
  kernel_rfl
 ·simp only [Option.some.injEq, Prod.mk.injEq] at h
  obtain ⟨rfl, rfl⟩ := h
  refine pFun_by [.v (V.int .i64 (y1_0)), .b true] rfl (AI (w_spec_l05Asked q1 k (by omega)) (AI (not_t h2) trivial)) ?_
  kernel_rfl
theorem w_impl_Piece_isCut {n : Nat} {a0 : Int} {a1 : Int} {a2 : Int} {a3 : Int} {z0 : Bool} (h : s_impl_Piece_isCut n a0 a1 a2 a3 = some z0) : ∀ k, n + 1 ≤ k → sem E k 60 [(V.parts [(V.int .i8 (a0)), (V.int .i8 (a1))]), (V.parts [(V.int .i8 (a2)), (V.int .i8 (a3))])] = some (V.bool (z0)) := by
 intro k hk
 obtain ⟨k, rfl⟩ : ∃ q, k = q + 1 := ⟨k - 1, by omega⟩
 unfold s_impl_Piece_isCut at h
 rcases cnd_some h with ⟨h1, h⟩ | ⟨h1, h⟩
 ·rcases cnd_some h with ⟨h2, h⟩ | ⟨h2, h⟩
  ·obtain rfl := Option.some.inj h
   refine pFun_by [.b true, .b true] rfl (AI h1 (AI h2 trivial)) ?_
   kernel_rfl
  ·obtain rfl := Option.some.inj h
   refine pFun_by [.b true, .b false] rfl (AI h1 (AI h2 trivial)) ?_
   kernel_rfl
 ·obtain rfl := Option.some.inj h
  refine pFun_by [.b false] rfl (AI h1 trivial) ?_
  kernel_rfl
theorem lw_impl_cover_b2 : ∀ (n : Nat) (a0 : List V) (a1 : List V) (a2 : Int) (a3 : Int) (a4 : Int) (a5 : Int) (a6 : List V) (a7 : Int) (a8 : Int) (a9 : List V) (a10 : List V) (a11 : List V) (a12 : List V) (r : List V × List V × Int × Int × Int × Int × List V × List V × List V × List V), l_impl_cover_b2 n a0 a1 a2 a3 a4 a5 a6 a7 a8 a9 a10 a11 a12 = some r → ∀ k m, n + 1 ≤ k → n ≤ m → LB E 36 2 k m ⟨[(0, (V.sl (a0))), (1, (V.sl (a1))), (5, (V.row 11)), (6, (V.mp 13)), (8, (V.int .i64 (a2))), (9, (V.int .i64 (a3))), (17, (V.row 35)), (18, (V.int .i64 (a4))), (19, (V.int .i64 (a5))), (23, (V.sl (a6))), (24, (V.int .i64 (a7))), (25, (V.int .i64 (a8)))], [(11, .row 2 (a9)), (13, .map (a10) (a11)), (35, .row 3 (a12))]⟩ = some (match r with | (o0, o1, o2, o3, o4, o5, o6, o7, o8, o9) => (.normal, ⟨[(0, (V.sl (o0))), (1, (V.sl (o1))), (5, (V.row 11)), (6, (V.mp 13)), (8, (V.int .i64 (o2))), (9, (V.int .i64 (o3))), (17, (V.row 35)), (18, (V.int .i64 (o4))), (19, (V.int .i64 (o5)))], [(11, .row 2 (o6)), (13, .map (o7) (o8)), (35, .row 3 (o9))]⟩)) := by
 intro n
 induction n with
 | zero => intro a0 a1 a2 a3 a4 a5 a6 a7 a8 a9 a10 a11 a12 r h; cases h
 | succ n ih =>
  intro a0 a1 a2 a3 a4 a5 a6 a7 a8 a9 a10 a11 a12 r h k m hk hm
  obtain ⟨m, rfl⟩ : ∃ q, m = q + 1 := ⟨m - 1, by omega⟩
  replace hk : n + 1 ≤ k := by omega
  unfold l_impl_cover_b2 at h
  rcases cnd_some h with ⟨h6, h⟩ | ⟨h6, h⟩
  ·obtain ⟨⟨e7_0, e7_1⟩, g7, h⟩ := bnd_some h
   replace g7 := as_Pi8_i8Q_some g7
   obtain ⟨c8, h⟩ := chk_some h
   obtain ⟨c9, h⟩ := chk_some h
   rcases cnd_some h with ⟨h10, h⟩ | ⟨h10, h⟩
   ·refine pNext_by [.b true, .v (V.parts [(V.int .i8 (e7_0)), (V.int .i8 (e7_1))]), .b false, .b false, .b false] (AI h6 (AI g7 (AI c8 (AI c9 (AI (not_f h10) (AI (Eq.refl false) (AI (Eq.refl false) trivial))))))) (ih _ _ _ _ _ _ _ _ _ _ _ _ _ _ h k m hk (by omega)) ?_
    kernel_rfl
   ·obtain ⟨⟨e11_0, e11_1⟩, g11, h⟩ := bnd_some h
    replace g11 := as_Pi8_i8Q_some g11
    obtain ⟨y12_0, q12, h⟩ := bnd_some h
    rcases cnd_some h with ⟨h13, h⟩ | ⟨h13, h⟩
    ·rcases cnd_some h with ⟨h14, h⟩ | ⟨h14, h⟩
     ·refine pNext_by [.b true, .v (V.parts [(V.int .i8 (e7_0)), (V.int .i8 (e7_1))]), .b true, .v (V.parts [(V.int .i8 (e11_0)), (V.int .i8 (e11_1))]), .v (V.bool (y12_0)), .b true, .b true, .b true] (AI h6 (AI g7 (AI c8 (AI c9 (AI (not_t h10) (AI g11 (AI (w_impl_Piece_isCut q12 k (by omega)) (AI h13 (AI h14 (AI (Eq.refl true) trivial)))))))))) (ih _ _ _ _ _ _ _ _ _ _ _ _ _ _ h k m hk (by omega)) ?_
      kernel_rfl
     ·obtain ⟨⟨e15_0, e15_1⟩, g15, h⟩ := bnd_some h
      replace g15 := as_Pi8_i8Q_some g15
      rcases cnd_some h with ⟨h16, h⟩ | ⟨h16, h⟩
      ·refine pNext_by [.b true, .v (V.parts [(V.int .i8 (e7_0)), (V.int .i8 (e7_1))]), .b true, .v (V.parts [(V.int .i8 (e11_0)), (V.int .i8 (e11_1))]), .v (V.bool (y12_0)), .b true, .b false, .v (V.parts [(V.int .i8 (e15_0)), (V.int .i8 (e15_1))]), .b true] (AI h6 (AI g7 (AI c8 (AI c9 (AI (not_t h10) (AI g11 (AI (w_impl_Piece_isCut q12 k (by omega)) (AI h13 (AI h14 (AI g15 (AI h16 trivial))))))))))) (ih _ _ _ _ _ _ _ _ _ _ _ _ _ _ h k m hk (by omega)) ?_
       kernel_rfl
      ·refine pNext_by [.b true, .v (V.parts [(V.int .i8 (e7_0)), (V.int .i8 (e7_1))]), .b true, .v (V.parts [(V.int .i8 (e11_0)), (V.int .i8 (e11_1))]), .v (V.bool (y12_0)), .b true, .b false, .v (V.parts [(V.int .i8 (e15_0)), (V.int .i8 (e15_1))]), .b false] (AI h6 (AI g7 (AI c8 (AI c9 (AI (not_t h10) (AI g11 (AI (w_impl_Piece_isCut q12 k (by omega)) (AI h13 (AI h14 (AI g15 (AI h16 trivial))))))))))) (ih _ _ _ _ _ _ _ _ _ _ _ _ _ _ h k m hk (by omega)) ?_
       kernel_rfl
    ·refine pNext_by [.b true, .v (V.parts [(V.int .i8 (e7_0)), (V.int .i8 (e7_1))]), .b true, .v (V.parts [(V.int .i8 (e11_0)), (V.int .i8 (e11_1))]), .v (V.bool (y12_0)), .b false, .b false] (AI h6 (AI g7 (AI c8 (AI c9 (AI (not_t h10) (AI g11 (AI (w_impl_Piece_isCut q12 k (by omega)) (AI h13 (AI (Eq.refl false) trivial))))))))) (ih _ _ _ _ _ _ _ _ _ _ _ _ _ _ h k m hk (by omega)) ?_
     kernel_rfl
  ·cases h
   refine pLast_by [.b false] (AI h6 trivial) ?_
   kernel_rfl
theorem lw_impl_cover_b0 : ∀ (n : Nat) (a0 : List V) (a1 : List V) (a2 : Int) (a3 : Int) (a4 : List V) (a5 : List V) (a6 : List V) (a7 : List V) (r : List V), l_impl_cover_b0 n a0 a1 a2 a3 a4 a5 a6 a7 = some r → ∀ k m, n + 1 ≤ k → n ≤ m → LB E 36 0 k m ⟨[(0, (V.sl (a0))), (1, (V.sl (a1))), (5, (V.row 11)), (6, (V.mp 13)), (17, (V.row 35)), (18, (V.int .i64 (a2))), (19, (V.int .i64 (a3)))], [(11, .row 2 (a4)), (13, .map (a5) (a6)), (35, .row 3 (a7))]⟩ = some (match r with | o0 => (.normal, ⟨[(5, (V.row 11))], [(11, .row 2 (o0))]⟩)) := by
 intro n
 induction n with
 | zero => intro a0 a1 a2 a3 a4 a5 a6 a7 r h; cases h
 | succ n ih =>
  intro a0 a1 a2 a3 a4 a5 a6 a7 r h k m hk hm
  obtain ⟨m, rfl⟩ : ∃ q, m = q + 1 := ⟨m - 1, by omega⟩
  replace hk : n + 1 ≤ k := by omega
  unfold l_impl_cover_b0 at h
  rcases cnd_some h with ⟨h3, h⟩ | ⟨h3, h⟩
  ·obtain ⟨c4, h⟩ := chk_some h
   obtain ⟨e5_0, g5, h⟩ := bnd_some h
   replace g5 := as_i64_some g5
   obtain ⟨⟨u17_0, u17_1, u17_2, u17_3, u17_4, u17_5, u17_6, u17_7, u17_8, u17_9⟩, l17, h⟩ := bnd_some h
   rcases cnd_some h with ⟨h19, h⟩ | ⟨h19, h⟩
   ·obtain ⟨c20, h⟩ := chk_some h
    obtain ⟨e21_0, g21, h⟩ := bnd_some h
    replace g21 := as_i64_some g21
    refine pNext_by [.b true, .v (V.int .i64 (e5_0)), .l .normal ⟨[(0, (V.sl (u17_0))), (1, (V.sl (u17_1))), (5, (V.row 11)), (6, (V.mp 13)), (8, (V.int .i64 (u17_2))), (9, (V.int .i64 (u17_3))), (17, (V.row 35)), (18, (V.int .i64 (u17_4))), (19, (V.int .i64 (u17_5)))], [(11, .row 2 (u17_6)), (13, .map (u17_7) (u17_8)), (35, .row 3 (u17_9))]⟩, .b false, .v (V.int .i64 (e21_0))] (AI h3 (AI c4 (AI g5 (AI (lw_impl_cover_b2 _ _ _ _ _ _ _ _ _ _ _ _ _ _ _ l17 k k (by omega) (by omega)) (AI (not_f h19) (AI c20 (AI g21 trivial))))))) (ih _ _ _ _ _ _ _ _ _ h k m hk (by omega)) ?_
    kernel_rfl
   ·obtain ⟨c22, h⟩ := chk_some h
    obtain ⟨c23, h⟩ := chk_some h
    obtain ⟨c24, h⟩ := chk_some h
    obtain ⟨e25_0, g25, h⟩ := bnd_some h
    replace g25 := as_i64_some g25
    refine pNext_by [.b true, .v (V.int .i64 (e5_0)), .l .normal ⟨[(0, (V.sl (u17_0))), (1, (V.sl (u17_1))), (5, (V.row 11)), (6, (V.mp 13)), (8, (V.int .i64 (u17_2))), (9, (V.int .i64 (u17_3))), (17, (V.row 35)), (18, (V.int .i64 (u17_4))), (19, (V.int .i64 (u17_5)))], [(11, .row 2 (u17_6)), (13, .map (u17_7) (u17_8)), (35, .row 3 (u17_9))]⟩, .b true, .v (V.int .i64 (e25_0))] (AI h3 (AI c4 (AI g5 (AI (lw_impl_cover_b2 _ _ _ _ _ _ _ _ _ _ _ _ _ _ _ l17 k k (by omega) (by omega)) (AI (not_t h19) (AI c22 (AI c23 (AI c24 (AI g25 trivial))))))))) (ih _ _ _ _ _ _ _ _ _ h k m hk (by omega)) ?_
    kernel_rfl
  ·cases h
   refine pLast_by [.b false] (AI h3 trivial) ?_
   kernel_rfl
theorem w_impl_cover {n : Nat} {a0 : List V} {a1 : List V} {z0 : List V} (h : s_impl_cover n a0 a1 = some z0) : ∀ k, n + 8 ≤ k → sem E k 36 [(V.sl (a0)), (V.sl (a1))] = some (V.fresh 2 (z0)) := by
 intro k hk
 obtain ⟨k, rfl⟩ : ∃ q, k = q + 1 := ⟨k - 1, by omega⟩
 unfold s_impl_cover at h
 obtain ⟨c1, h⟩ := chk_some h
 obtain ⟨y2_0, q2, h⟩ := bnd_some h
 obtain ⟨u26_0, l26, h⟩ := bnd_some h
 obtain rfl := Option.some.inj h
 refine pFun_by [.v (V.fresh 3 (y2_0)), .l .normal ⟨[(5, (V.row 11))], [(11, .row 2 (u26_0))]⟩] rfl (AI c1 (AI (w_impl_byWidth q2 k (by omega)) (AI (lw_impl_cover_b0 _ _ _ _ _ _ _ _ _ _ l26 k k (by omega) (by omega)) trivial))) ?_
 kernel_rfl
theorem w_impl_CoverFrom {n : Nat} {a0 : List V} {a1 : List V} {z0 : List V} {z1 : Int} (h : s_impl_CoverFrom n a0 a1 = some (z0, z1)) : ∀ k, n + 13 ≤ k → sem E k 13 [(V.sl (a0)), (V.sl (a1))] = some (V.tup [(V.fresh 2 (z0)), (V.int .i64 (z1))]) := by
 intro k hk
 obtain ⟨k, rfl⟩ : ∃ q, k = q + 1 := ⟨k - 1, by omega⟩
 unfold s_impl_CoverFrom at h
 obtain ⟨y1_0, q1, h⟩ := bnd_some h
 rcases cnd_some h with ⟨h2, h⟩ | ⟨h2, h⟩
 ·obtain ⟨y3_0, q3, h⟩ := bnd_some h
  simp only [Option.some.injEq, Prod.mk.injEq] at h
  obtain ⟨rfl, rfl⟩ := h
  refine pFun_by [.v (V.int .i64 (y1_0)), .b false, .v (V.fresh 2 (y3_0))] rfl (AI (w_impl_piecesCode q1 k (by omega)) (AI (Eq.refl true) (AI (not_f h2) (AI (w_impl_cover q3 k (by omega)) trivial)))) ?_
  kernel_rfl
 ·simp only [Option.some.injEq, Prod.mk.injEq] at h
  obtain ⟨rfl, rfl⟩ := h
  refine pFun_by [.v (V.int .i64 (y1_0)), .b true] rfl (AI (w_impl_piecesCode q1 k (by omega)) (AI (Eq.refl true) (AI (not_t h2) trivial))) ?_
  kernel_rfl
theorem w_spec_l05Two {n : Nat} {a0 : List V} {a1 : List V} {z0 : Int} (h : s_spec_l05Two n a0 a1 = some z0) : ∀ k, n + 3 ≤ k → sem E k 37 [(V.sl (a0)), (V.sl (a1))] = some (V.int .i64 (z0)) := by
 intro k hk
 obtain ⟨k, rfl⟩ : ∃ q, k = q + 1 := ⟨k - 1, by omega⟩
 unfold s_spec_l05Two at h
 obtain ⟨y1_0, q1, h⟩ := bnd_some h
 rcases cnd_some h with ⟨h2, h⟩ | ⟨h2, h⟩
 ·obtain ⟨y3_0, q3, h⟩ := bnd_some h
  rcases cnd_some h with ⟨h4, h⟩ | ⟨h4, h⟩
  ·rcases cnd_some h with ⟨h5, h⟩ | ⟨h5, h⟩
   ·obtain rfl := Option.some.inj h
    refine pFun_by [.v (V.bool (y1_0)), .b false, .v (V.bool (y3_0)), .b false, .b true, .b true] rfl (AI (w_spec_l05Pieces q1 k (by omega)) (AI (not_f h2) (AI (w_spec_l05Pieces q3 k (by omega)) (AI (not_f h4) (AI h5 (AI (Eq.refl true) trivial)))))) ?_
    kernel_rfl
   ·rcases cnd_some h with ⟨h6, h⟩ | ⟨h6, h⟩
    ·obtain rfl := Option.some.inj h
     refine pFun_by [.v (V.bool (y1_0)), .b false, .v (V.bool (y3_0)), .b false, .b false, .b true] rfl (AI (w_spec_l05Pieces q1 k (by omega)) (AI (not_f h2) (AI (w_spec_l05Pieces q3 k (by omega)) (AI (not_f h4) (AI h5 (AI h6 trivial)))))) ?_
     kernel_rfl
    ·obtain rfl := Option.some.inj h
     refine pFun_by [.v (V.bool (y1_0)), .b false, .v (V.bool (y3_0)), .b false, .b false, .b false] rfl (AI (w_spec_l05Pieces q1 k (by omega)) (AI (not_f h2) (AI (w_spec_l05Pieces q3 k (by omega)) (AI (not_f h4) (AI h5 (AI h6 trivial)))))) ?_
     kernel_rfl
  ·obtain rfl := Option.some.inj h
   refine pFun_by [.v (V.bool (y1_0)), .b false, .v (V.bool (y3_0)), .b true] rfl (AI (w_spec_l05Pieces q1 k (by omega)) (AI (not_f h2) (AI (w_spec_l05Pieces q3 k (by omega)) (AI (not_t h4) trivial)))) ?_
   kernel_rfl
 ·obtain rfl := Option.some.inj h
  refine pFun_by [.v (V.bool (y1_0)), .b true, .b true] rfl (AI (w_spec_l05Pieces q1 k (by omega)) (AI (not_t h2) (AI (Eq.refl true) trivial))) ?_
  kernel_rfl
theorem lw_spec_l05Cover_b2 : ∀ (n : Nat) (a0 : List V) (a1 : List V) (a2 : Int) (a3 : Int) (a4 : Int) (a5 : List V) (a6 : List V) (a7 : List V) (a8 : Int) (a9 : Int) (r : List V × List V × Int × Int × List V × List V × List V), l_spec_l05Cover_b2 n a0 a1 a2 a3 a4 a5 a6 a7 a8 a9 = some r → ∀ k m, n + 0 ≤ k → n ≤ m → LB E 38 2 k m ⟨[(0, (V.sl (a0))), (1, (V.sl (a1))), (5, (V.row 11)), (6, (V.row 13)), (7, (V.row 15)), (8, (V.int .i64 (a2))), (9, (V.ptr 19 0 (0) 2)), (10, (V.int .i64 (a3))), (11, (V.int .i64 (a4)))], [(11, .row 2 (a5)), (13, .row 4 (a6)), (15, .row 2 (a7)), (19, .box [(V.int .i8 (a8)), (V.int .i8 (a9))])]⟩ = some (match r with | (o0, o1, o2, o3, o4, o5, o6) => (.normal, ⟨[(0, (V.sl (o0))), (1, (V.sl (o1))), (5, (V.row 11)), (6, (V.row 13)), (7, (V.row 15)), (8, (V.int .i64 (o2))), (10, (V.int .i64 (o3)))], [(11, .row 2 (o4)), (13, .row 4 (o5)), (15, .row 2 (o6))]⟩)) := by
 intro n
 induction n with
 | zero => intro a0 a1 a2 a3 a4 a5 a6 a7 a8 a9 r h; cases h
 | succ n ih =>
  intro a0 a1 a2 a3 a4 a5 a6 a7 a8 a9 r h k m hk hm
  obtain ⟨m, rfl⟩ : ∃ q, m = q + 1 := ⟨m - 1, by omega⟩
  replace hk : n + 0 ≤ k := by omega
  unfold l_spec_l05Cover_b2 at h
  rcases cnd_some h with ⟨h8, h⟩ | ⟨h8, h⟩
  ·obtain ⟨⟨e9_0, e9_1⟩, g9, h⟩ := bnd_some h
   replace g9 := as_Pi8_i8Q_some g9
   rcases cnd_some h with ⟨h10, h⟩ | ⟨h10, h⟩
   ·obtain ⟨⟨e11_0, e11_1⟩, g11, h⟩ := bnd_some h
    replace g11 := as_Pi8_i8Q_some g11
    rcases cnd_some h with ⟨h12, h⟩ | ⟨h12, h⟩
    ·obtain ⟨c13, h⟩ := chk_some h
     obtain ⟨e14_0, g14, h⟩ := bnd_some h
     replace g14 := as_b_some g14
     rcases cnd_some h with ⟨h15, h⟩ | ⟨h15, h⟩
     ·refine pNext_by [.b true, .v (V.parts [(V.int .i8 (e9_0)), (V.int .i8 (e9_1))]), .b true, .v (V.parts [(V.int .i8 (e11_0)), (V.int .i8 (e11_1))]), .b true, .b true, .v (V.bool (e14_0)), .b false, .b false] (AI h8 (AI g9 (AI h10 (AI g11 (AI h12 (AI (Eq.refl true) (AI c13 (AI g14 (AI (not_f h15) (AI (Eq.refl false) trivial)))))))))) (ih _ _ _ _ _ _ _ _ _ _ _ h k m hk (by omega)) ?_
      kernel_rfl
     ·rcases cnd_some h with ⟨h16, h⟩ | ⟨h16, h⟩
      ·refine pNext_by [.b true, .v (V.parts [(V.int .i8 (e9_0)), (V.int .i8 (e9_1))]), .b true, .v (V.parts [(V.int .i8 (e11_0)), (V.int .i8 (e11_1))]), .b true, .b true, .v (V.bool (e14_0)), .b true, .b true, .b true] (AI h8 (AI g9 (AI h10 (AI g11 (AI h12 (AI (Eq.refl true) (AI c13 (AI g14 (AI (not_t h15) (AI h16 (AI (Eq.refl true) trivial))))))))))) (ih _ _ _ _ _ _ _ _ _ _ _ h k m hk (by omega)) ?_
       kernel_rfl
      ·obtain ⟨⟨e17_0, e17_1⟩, g17, h⟩ := bnd_some h
       replace g17 := as_Pi8_i8Q_some g17
       obtain ⟨⟨e18_0, e18_1⟩, g18, h⟩ := bnd_some h
       replace g18 := as_Pi8_i8Q_some g18
       rcases cnd_some h with ⟨h19, h⟩ | ⟨h19, h⟩
       ·refine pNext_by [.b true, .v (V.parts [(V.int .i8 (e9_0)), (V.int .i8 (e9_1))]), .b true, .v (V.parts [(V.int .i8 (e11_0)), (V.int .i8 (e11_1))]), .b true, .b true, .v (V.bool (e14_0)), .b true, .b false, .v (V.parts [(V.int .i8 (e17_0)), (V.int .i8 (e17_1))]), .v (V.parts [(V.int .i8 (e18_0)), (V.int .i8 (e18_1))]), .b true] (AI h8 (AI g9 (AI h10 (AI g11 (AI h12 (AI (Eq.refl true) (AI c13 (AI g14 (AI (not_t h15) (AI h16 (AI g17 (AI g18 (AI h19 trivial))))))))))))) (ih _ _ _ _ _ _ _ _ _ _ _ h k m hk (by omega)) ?_
        kernel_rfl
       ·refine pNext_by [.b true, .v (V.parts [(V.int .i8 (e9_0)), (V.int .i8 (e9_1))]), .b true, .v (V.parts [(V.int .i8 (e11_0)), (V.int .i8 (e11_1))]), .b true, .b true, .v (V.bool (e14_0)), .b true, .b false, .v (V.parts [(V.int .i8 (e17_0)), (V.int .i8 (e17_1))]), .v (V.parts [(V.int .i8 (e18_0)), (V.int .i8 (e18_1))]), .b false] (AI h8 (AI g9 (AI h10 (AI g11 (AI h12 (AI (Eq.refl true) (AI c13 (AI g14 (AI (not_t h15) (AI h16 (AI g17 (AI g18 (AI h19 trivial))))))))))))) (ih _ _ _ _ _ _ _ _ _ _ _ h k m hk (by omega)) ?_
        kernel_rfl
    ·rcases cnd_some h with ⟨h20, h⟩ | ⟨h20, h⟩
     ·obtain ⟨c21, h⟩ := chk_some h
      obtain ⟨e22_0, g22, h⟩ := bnd_some h
      replace g22 := as_b_some g22
      rcases cnd_some h with ⟨h23, h⟩ | ⟨h23, h⟩
      ·refine pNext_by [.b true, .v (V.parts [(V.int .i8 (e9_0)), (V.int .i8 (e9_1))]), .b true, .v (V.parts [(V.int .i8 (e11_0)), (V.int .i8 (e11_1))]), .b false, .b true, .v (V.bool (e22_0)), .b false, .b false] (AI h8 (AI g9 (AI h10 (AI g11 (AI h12 (AI h20 (AI c21 (AI g22 (AI (not_f h23) (AI (Eq.refl false) trivial)))))))))) (ih _ _ _ _ _ _ _ _ _ _ _ h k m hk (by omega)) ?_
       kernel_rfl
      ·rcases cnd_some h with ⟨h24, h⟩ | ⟨h24, h⟩
       ·refine pNext_by [.b true, .v (V.parts [(V.int .i8 (e9_0)), (V.int .i8 (e9_1))]), .b true, .v (V.parts [(V.int .i8 (e11_0)), (V.int .i8 (e11_1))]), .b false, .b true, .v (V.bool (e22_0)), .b true, .b true, .b true] (AI h8 (AI g9 (AI h10 (AI g11 (AI h12 (AI h20 (AI c21 (AI g22 (AI (not_t h23) (AI h24 (AI (Eq.refl true) trivial))))))))))) (ih _ _ _ _ _ _ _ _ _ _ _ h k m hk (by omega)) ?_
        kernel_rfl
       ·obtain ⟨⟨e25_0, e25_1⟩, g25, h⟩ := bnd_some h
        replace g25 := as_Pi8_i8Q_some g25
        obtain ⟨⟨e26_0, e26_1⟩, g26, h⟩ := bnd_some h
        replace g26 := as_Pi8_i8Q_some g26
        rcases cnd_some h with ⟨h27, h⟩ | ⟨h27, h⟩
        ·refine pNext_by [.b true, .v (V.parts [(V.int .i8 (e9_0)), (V.int .i8 (e9_1))]), .b true, .v (V.parts [(V.int .i8 (e11_0)), (V.int .i8 (e11_1))]), .b false, .b true, .v (V.bool (e22_0)), .b true, .b false, .v (V.parts [(V.int .i8 (e25_0)), (V.int .i8 (e25_1))]), .v (V.parts [(V.int .i8 (e26_0)), (V.int .i8 (e26_1))]), .b true] (AI h8 (AI g9 (AI h10 (AI g11 (AI h12 (AI h20 (AI c21 (AI g22 (AI (not_t h23) (AI h24 (AI g25 (AI g26 (AI h27 trivial))))))))))))) (ih _ _ _ _ _ _ _ _ _ _ _ h k m hk (by omega)) ?_
         kernel_rfl
        ·refine pNext_by [.b true, .v (V.parts [(V.int .i8 (e9_0)), (V.int .i8 (e9_1))]), .b true, .v (V.parts [(V.int .i8 (e11_0)), (V.int .i8 (e11_1))]), .b false, .b true, .v (V.bool (e22_0)), .b true, .b false, .v (V.parts [(V.int .i8 (e25_0)), (V.int .i8 (e25_1))]), .v (V.parts [(V.int .i8 (e26_0)), (V.int .i8 (e26_1))]), .b false] (AI h8 (AI g9 (AI h10 (AI g11 (AI h12 (AI h20 (AI c21 (AI g22 (AI (not_t h23) (AI h24 (AI g25 (AI g26 (AI h27 trivial))))))))))))) (ih _ _ _ _ _ _ _ _ _ _ _ h k m hk (by omega)) ?_
         kernel_rfl
     ·refine pNext_by [.b true, .v (V.parts [(V.int .i8 (e9_0)), (V.int .i8 (e9_1))]), .b true, .v (V.parts [(V.int .i8 (e11_0)), (V.int .i8 (e11_1))]), .b false, .b false, .b false, .b false] (AI h8 (AI g9 (AI h10 (AI g11 (AI h12 (AI h20 (AI (Eq.refl false) (AI (Eq.refl false) trivial)))))))) (ih _ _ _ _ _ _ _ _ _ _ _ h k m hk (by omega)) ?_
      kernel_rfl
   ·refine pNext_by [.b true, .v (V.parts [(V.int .i8 (e9_0)), (V.int .i8 (e9_1))]), .b false, .b false, .b false, .b false] (AI h8 (AI g9 (AI h10 (AI (Eq.refl false) (AI (Eq.refl false) (AI (Eq.refl false) trivial)))))) (ih _ _ _ _ _ _ _ _ _ _ _ h k m hk (by omega)) ?_
    kernel_rfl
  ·cases h
   refine pLast_by [.b false] (AI h8 trivial) ?_
   kernel_rfl
theorem lw_spec_l05Cover_b0 : ∀ (n : Nat) (a0 : List V) (a1 : List V) (a2 : Int) (a3 : List V) (a4 : List V) (a5 : List V) (r : List V), l_spec_l05Cover_b0 n a0 a1 a2 a3 a4 a5 = some r → ∀ k m, n + 0 ≤ k → n ≤ m → LB E 38 0 k m ⟨[(0, (V.sl (a0))), (1, (V.sl (a1))), (5, (V.row 11)), (6, (V.row 13)), (7, (V.row 15)), (8, (V.int .i64 (a2)))], [(11, .row 2 (a3)), (13, .row 4 (a4)), (15, .row 2 (a5))]⟩ = some (match r with | o0 => (.normal, ⟨[(5, (V.row 11))], [(11, .row 2 (o0))]⟩)) := by
 intro n
 induction n with
 | zero => intro a0 a1 a2 a3 a4 a5 r h; cases h
 | succ n ih =>
  intro a0 a1 a2 a3 a4 a5 r h k m hk hm
  obtain ⟨m, rfl⟩ : ∃ q, m = q + 1 := ⟨m - 1, by omega⟩
  replace hk : n + 0 ≤ k := by omega
  unfold l_spec_l05Cover_b0 at h
  rcases cnd_some h with ⟨h4, h⟩ | ⟨h4, h⟩
  ·obtain ⟨c5, h⟩ := chk_some h
   obtain ⟨e6_0, g6, h⟩ := bnd_some h
   replace g6 := as_i64_some g6
   obtain ⟨⟨e7_0, e7_1⟩, g7, h⟩ := bnd_some h
   replace g7 := as_Pi8_i8Q_some g7
   obtain ⟨⟨u28_0, u28_1, u28_2, u28_3, u28_4, u28_5, u28_6⟩, l28, h⟩ := bnd_some h
   obtain ⟨c30, h⟩ := chk_some h
   obtain ⟨e31_0, g31, h⟩ := bnd_some h
   replace g31 := as_i64_some g31
   obtain ⟨c32, h⟩ := chk_some h
   obtain ⟨e33_0, g33, h⟩ := bnd_some h
   replace g33 := as_i64_some g33
   rcases cnd_some h with ⟨h34, h⟩ | ⟨h34, h⟩
   ·obtain ⟨c35, h⟩ := chk_some h
    obtain ⟨e36_0, g36, h⟩ := bnd_some h
    replace g36 := as_b_some g36
    refine pNext_by [.b true, .v (V.int .i64 (e6_0)), .v (V.parts [(V.int .i8 (e7_0)), (V.int .i8 (e7_1))]), .l .normal ⟨[(0, (V.sl (u28_0))), (1, (V.sl (u28_1))), (5, (V.row 11)), (6, (V.row 13)), (7, (V.row 15)), (8, (V.int .i64 (u28_2))), (10, (V.int .i64 (u28_3)))], [(11, .row 2 (u28_4)), (13, .row 4 (u28_5)), (15, .row 2 (u28_6))]⟩, .v (V.int .i64 (e31_0)), .v (V.int .i64 (e33_0)), .b true, .v (V.bool (e36_0))] (AI h4 (AI c5 (AI g6 (AI g7 (AI (lw_spec_l05Cover_b2 _ _ _ _ _ _ _ _ _ _ _ _ l28 k k (by omega) (by omega)) (AI c30 (AI g31 (AI c32 (AI g33 (AI h34 (AI c35 (AI g36 trivial)))))))))))) (ih _ _ _ _ _ _ _ h k m hk (by omega)) ?_
    kernel_rfl
   ·refine pNext_by [.b true, .v (V.int .i64 (e6_0)), .v (V.parts [(V.int .i8 (e7_0)), (V.int .i8 (e7_1))]), .l .normal ⟨[(0, (V.sl (u28_0))), (1, (V.sl (u28_1))), (5, (V.row 11)), (6, (V.row 13)), (7, (V.row 15)), (8, (V.int .i64 (u28_2))), (10, (V.int .i64 (u28_3)))], [(11, .row 2 (u28_4)), (13, .row 4 (u28_5)), (15, .row 2 (u28_6))]⟩, .v (V.int .i64 (e31_0)), .v (V.int .i64 (e33_0)), .b false] (AI h4 (AI c5 (AI g6 (AI g7 (AI (lw_spec_l05Cover_b2 _ _ _ _ _ _ _ _ _ _ _ _ l28 k k (by omega) (by omega)) (AI c30 (AI g31 (AI c32 (AI g33 (AI h34 trivial)))))))))) (ih _ _ _ _ _ _ _ h k m hk (by omega)) ?_
    kernel_rfl
  ·cases h
   refine pLast_by [.b false] (AI h4 trivial) ?_
   kernel_rfl
theorem w_spec_l05Cover {n : Nat} {a0 : List V} {a1 : List V} {z0 : List V} (h : s_spec_l05Cover n a0 a1 = some z0) : ∀ k, n + 2 ≤ k → sem E k 38 [(V.sl (a0)), (V.sl (a1))] = some (V.fresh 2 (z0)) := by
 intro k hk
 obtain ⟨k, rfl⟩ : ∃ q, k = q + 1 := ⟨k - 1, by omega⟩
 unfold s_spec_l05Cover at h
 obtain ⟨c1, h⟩ := chk_some h
 obtain ⟨c2, h⟩ := chk_some h
 obtain ⟨y3_0, q3, h⟩ := bnd_some h
 obtain ⟨u37_0, l37, h⟩ := bnd_some h
 obtain rfl := Option.some.inj h
 refine pFun_by [.v (V.fresh 2 (y3_0)), .l .normal ⟨[(5, (V.row 11))], [(11, .row 2 (u37_0))]⟩] rfl (AI c1 (AI c2 (AI (w_spec_l05Order q3 k (by omega)) (AI (lw_spec_l05Cover_b0 _ _ _ _ _ _ _ _ l37 k k (by omega) (by omega)) trivial)))) ?_
 kernel_rfl
theorem w_spec_CoverFrom {n : Nat} {a0 : List V} {a1 : List V} {z0 : List V} {z1 : Int} (h : s_spec_CoverFrom n a0 a1 = some (z0, z1)) : ∀ k, n + 4 ≤ k → sem E k 14 [(V.sl (a0)), (V.sl (a1))] = some (V.tup [(V.fresh 2 (z0)), (V.int .i64 (z1))]) := by
 intro k hk
 obtain ⟨k, rfl⟩ : ∃ q, k = q + 1 := ⟨k - 1, by omega⟩
 unfold s_spec_CoverFrom at h
 obtain ⟨y1_0, q1, h⟩ := bnd_some h
 rcases cnd_some h with ⟨h2, h⟩ | ⟨h2, h⟩
 ·obtain ⟨y3_0, q3, h⟩ := bnd_some h
  simp only [Option.some.injEq, Prod.mk.injEq] at h
  obtain ⟨rfl, rfl⟩ := h
  refine pFun_by [.v (V.int .i64 (y1_0)), .b false, .v (V.fresh 2 (y3_0))] rfl (AI (w_spec_l05Two q1 k (by omega)) (AI (not_f h2) (AI (w_spec_l05Cover q3 k (by omega)) trivial))) ?_
  kernel_rfl
 ·simp only [Option.some.injEq, Prod.mk.injEq] at h
  obtain ⟨rfl, rfl⟩ := h
  refine pFun_by [.v (V.int .i64 (y1_0)), .b true] rfl (AI (w_spec_l05Two q1 k (by omega)) (AI (not_t h2) trivial)) ?_
  kernel_rfl
theorem lw_impl_NewTilesFor_b0 : ∀ (n : Nat) (a0 : List V) (a1 : Int) (a2 : Int) (a3 : List V) (a4 : List V) (r : List V), l_impl_NewTilesFor_b0 n a0 a1 a2 a3 a4 = some r → ∀ k m, n + 0 ≤ k → n ≤ m → LB E 15 0 k m ⟨[(0, (V.sl (a0))), (7, (V.row 15)), (19, (V.row 39)), (20, (V.int .i64 (a1))), (21, (V.int .i64 (a2)))], [(15, .row 45 (a3)), (39, .row 2 (a4))]⟩ = some (match r with | o0 => (.normal, ⟨[(7, (V.row 15))], [(15, .row 45 (o0))]⟩)) := by
 intro n
 induction n with
 | zero => intro a0 a1 a2 a3 a4 r h; cases h
 | succ n ih =>
  intro a0 a1 a2 a3 a4 r h k m hk hm
  obtain ⟨m, rfl⟩ : ∃ q, m = q + 1 := ⟨m - 1, by omega⟩
  replace hk : n + 0 ≤ k := by omega
  unfold l_impl_NewTilesFor_b0 at h
  rcases cnd_some h with ⟨h4, h⟩ | ⟨h4, h⟩
  ·obtain ⟨c5, h⟩ := chk_some h
   obtain ⟨e6_0, g6, h⟩ := bnd_some h
   replace g6 := as_i64_some g6
   rcases cnd_some h with ⟨h7, h⟩ | ⟨h7, h⟩
   ·obtain ⟨⟨e8_0, e8_1⟩, g8, h⟩ := bnd_some h
    replace g8 := as_Pi8_i8Q_some g8
    obtain ⟨c9, h⟩ := chk_some h
    refine pNext_by [.b true, .v (V.int .i64 (e6_0)), .b true, .v (V.parts [(V.int .i8 (e8_0)), (V.int .i8 (e8_1))])] (AI h4 (AI c5 (AI g6 (AI h7 (AI g8 (AI c9 (AI (Eq.refl true) trivial))))))) (ih _ _ _ _ _ _ h k m hk (by omega)) ?_
    kernel_rfl
   ·refine pNext_by [.b true, .v (V.int .i64 (e6_0)), .b false] (AI h4 (AI c5 (AI g6 (AI h7 trivial)))) (ih _ _ _ _ _ _ h k m hk (by omega)) ?_
    kernel_rfl
  ·cases h
   refine pLast_by [.b false] (AI h4 trivial) ?_
   kernel_rfl
theorem w_impl_NewTilesFor {n : Nat} {a0 : List V} {a1 : List V} {z0 : Int} {z1 : Int} (h : s_impl_NewTilesFor n a0 a1 = some (z0, z1)) : ∀ k, n + 13 ≤ k → sem E k 15 [(V.sl (a0)), (V.sl (a1))] = some (V.tup [(V.int .i64 (z0)), (V.int .i64 (z1))]) := by
 intro k hk
 obtain ⟨k, rfl⟩ : ∃ q, k = q + 1 := ⟨k - 1, by omega⟩
 unfold s_impl_NewTilesFor at h
 obtain ⟨y1_0, q1, h⟩ := bnd_some h
 rcases cnd_some h with ⟨h2, h⟩ | ⟨h2, h⟩
 ·obtain ⟨y3_0, q3, h⟩ := bnd_some h
  obtain ⟨u10_0, l10, h⟩ := bnd_some h
  obtain ⟨y12_0, q12, h⟩ := bnd_some h
  simp only [Option.some.injEq, Prod.mk.injEq] at h
  obtain ⟨rfl, rfl⟩ := h
  refine pFun_by [.v (V.int .i64 (y1_0)), .b false, .v (V.fresh 2 (y3_0)), .l .normal ⟨[(7, (V.row 15))], [(15, .row 45 (u10_0))]⟩, .v (V.int .i64 (y12_0))] rfl (AI (w_impl_piecesCode q1 k (by omega)) (AI (Eq.refl true) (AI (not_f h2) (AI (w_impl_cover q3 k (by omega)) (AI (lw_impl_NewTilesFor_b0 _ _ _ _ _ _ _ l10 k k (by omega) (by omega)) (AI (w_impl_tilesFor q12 k (by omega)) (AI (Eq.refl true) trivial))))))) ?_
  kernel_rfl
 ·simp only [Option.some.injEq, Prod.mk.injEq] at h
  obtain ⟨rfl, rfl⟩ := h
  refine pFun_by [.v (V.int .i64 (y1_0)), .b true] rfl (AI (w_impl_piecesCode q1 k (by omega)) (AI (Eq.refl true) (AI (not_t h2) trivial))) ?_
  kernel_rfl
theorem w_spec_l05Tiles {n : Nat} {a0 : List V} {z0 : Int} (h : s_spec_l05Tiles n a0 = some z0) : ∀ k, n + 3 ≤ k → sem E k 39 [(V.sl (a0))] = some (V.int .i64 (z0)) := by
 intro k hk
 obtain ⟨k, rfl⟩ : ∃ q, k = q + 1 := ⟨k - 1, by omega⟩
 unfold s_spec_l05Tiles at h
 obtain ⟨y1_0, q1, h⟩ := bnd_some h
 obtain rfl := Option.some.inj h
 refine pFun_by [.v (V.fresh 35 (y1_0))] rfl (AI (w_spec_l05Pairs q1 k (by omega)) trivial) ?_
 kernel_rfl
theorem lw_spec_NewTilesFor_b0 : ∀ (n : Nat) (a0 : List V) (a1 : Int) (a2 : List V) (a3 : List V) (r : List V), l_spec_NewTilesFor_b0 n a0 a1 a2 a3 = some r → ∀ k m, n + 0 ≤ k → n ≤ m → LB E 16 0 k m ⟨[(0, (V.sl (a0))), (7, (V.row 15)), (8, (V.row 17)), (9, (V.int .i64 (a1)))], [(15, .row 45 (a2)), (17, .row 2 (a3))]⟩ = some (match r with | o0 => (.normal, ⟨[(7, (V.row 15))], [(15, .row 45 (o0))]⟩)) := by
 intro n
 induction n with
 | zero => intro a0 a1 a2 a3 r h; cases h
 | succ n ih =>
  intro a0 a1 a2 a3 r h k m hk hm
  obtain ⟨m, rfl⟩ : ∃ q, m = q + 1 := ⟨m - 1, by omega⟩
  replace hk : n + 0 ≤ k := by omega
  unfold l_spec_NewTilesFor_b0 at h
  rcases cnd_some h with ⟨h4, h⟩ | ⟨h4, h⟩
  ·obtain ⟨c5, h⟩ := chk_some h
   obtain ⟨e6_0, g6, h⟩ := bnd_some h
   replace g6 := as_i64_some g6
   rcases cnd_some h with ⟨h7, h⟩ | ⟨h7, h⟩
   ·obtain ⟨⟨e8_0, e8_1⟩, g8, h⟩ := bnd_some h
    replace g8 := as_Pi8_i8Q_some g8
    obtain ⟨c9, h⟩ := chk_some h
    refine pNext_by [.b true, .v (V.int .i64 (e6_0)), .b true, .v (V.parts [(V.int .i8 (e8_0)), (V.int .i8 (e8_1))])] (AI h4 (AI c5 (AI g6 (AI h7 (AI g8 (AI c9 (AI (Eq.refl true) trivial))))))) (ih _ _ _ _ _ h k m hk (by omega)) ?_
    kernel_rfl
   ·refine pNext_by [.b true, .v (V.int .i64 (e6_0)), .b false] (AI h4 (AI c5 (AI g6 (AI h7 trivial)))) (ih _ _ _ _ _ h k m hk (by omega)) ?_
    kernel_rfl
  ·cases h
   refine pLast_by [.b false] (AI h4 trivial) ?_
   kernel_rfl
theorem w_spec_NewTilesFor {n : Nat} {a0 : List V} {a1 : List V} {z0 : Int} {z1 : Int} (h : s_spec_NewTilesFor n a0 a1 = some (z0, z1)) : ∀ k, n + 4 ≤ k → sem E k 16 [(V.sl (a0)), (V.sl (a1))] = some (V.tup [(V.int .i64 (z0)), (V.int .i64 (z1))]) := by
 intro k hk
 obtain ⟨k, rfl⟩ : ∃ q, k = q + 1 := ⟨k - 1, by omega⟩
 unfold s_spec_NewTilesFor at h
 obtain ⟨y1_0, q1, h⟩ := bnd_some h
 rcases cnd_some h with ⟨h2, h⟩ | ⟨h2, h⟩
 ·obtain ⟨y3_0, q3, h⟩ := bnd_some h
  obtain ⟨u10_0, l10, h⟩ := bnd_some h
  obtain ⟨y12_0, q12, h⟩ := bnd_some h
  simp only [Option.some.injEq, Prod.mk.injEq] at h
  obtain ⟨rfl, rfl⟩ := h
  refine pFun_by [.v (V.int .i64 (y1_0)), .b false, .v (V.fresh 2 (y3_0)), .l .normal ⟨[(7, (V.row 15))], [(15, .row 45 (u10_0))]⟩, .v (V.int .i64 (y12_0))] rfl (AI (w_spec_l05Two q1 k (by omega)) (AI (not_f h2) (AI (w_spec_l05Cover q3 k (by omega)) (AI (lw_spec_NewTilesFor_b0 _ _ _ _ _ _ l10 k k (by omega) (by omega)) (AI (w_spec_l05Tiles q12 k (by omega)) (AI (Eq.refl true) trivial)))))) ?_
  kernel_rfl
 ·simp only [Option.some.injEq, Prod.mk.injEq] at h
  obtain ⟨rfl, rfl⟩ := h
  refine pFun_by [.v (V.int .i64 (y1_0)), .b true] rfl (AI (w_spec_l05Two q1 k (by omega)) (AI (not_t h2) trivial)) ?_
  kernel_rfl
theorem lw_spec_A2SamePieces_b0 : ∀ (n : Nat) (a0 : List V) (a1 : List V) (a2 : Int) (r : Sum (Unit) (Bool)), l_spec_A2SamePieces_b0 n a0 a1 a2 = some r → ∀ k m, n + 0 ≤ k → n ≤ m → LB E 17 0 k m ⟨[(0, (V.sl (a0))), (1, (V.sl (a1))), (5, (V.int .i64 (a2)))], []⟩ = some (match r with | .inl _ => (.normal, ⟨[], []⟩) | .inr o0 => (.ret, ⟨[(4, (V.bool (o0)))], []⟩)) := by
 intro n
 induction n with
 | zero => intro a0 a1 a2 r h; cases h
 | succ n ih =>
  intro a0 a1 a2 r h k m hk hm
  obtain ⟨m, rfl⟩ : ∃ q, m = q + 1 := ⟨m - 1, by omega⟩
  replace hk : n + 0 ≤ k := by omega
  unfold l_spec_A2SamePieces_b0 at h
  rcases cnd_some h with ⟨h2, h⟩ | ⟨h2, h⟩
  ·obtain ⟨⟨e3_0, e3_1⟩, g3, h⟩ := bnd_some h
   replace g3 := as_Pi8_i8Q_some g3
   obtain ⟨⟨e4_0, e4_1⟩, g4, h⟩ := bnd_some h
   replace g4 := as_Pi8_i8Q_some g4
   rcases cnd_some h with ⟨h5, h⟩ | ⟨h5, h⟩
   ·refine pNext_by [.b true, .v (V.parts [(V.int .i8 (e3_0)), (V.int .i8 (e3_1))]), .v (V.parts [(V.int .i8 (e4_0)), (V.int .i8 (e4_1))]), .b false] (AI h2 (AI g3 (AI g4 (AI (not_f h5) trivial)))) (ih _ _ _ _ h k m hk (by omega)) ?_
    kernel_rfl
   ·cases h
    refine pLast_by [.b true, .v (V.parts [(V.int .i8 (e3_0)), (V.int .i8 (e3_1))]), .v (V.parts [(V.int .i8 (e4_0)), (V.int .i8 (e4_1))]), .b true] (AI h2 (AI g3 (AI g4 (AI (not_t h5) trivial)))) ?_
    kernel_rfl
  ·cases h
   refine pLast_by [.b false] (AI h2 trivial) ?_
   kernel_rfl
theorem w_spec_A2SamePieces {n : Nat} {a0 : List V} {a1 : List V} {z0 : Bool} (h : s_spec_A2SamePieces n a0 a1 = some z0) : ∀ k, n + 1 ≤ k → sem E k 17 [(V.sl (a0)), (V.sl (a1))] = some (V.bool (z0)) := by
 intro k hk
 obtain ⟨k, rfl⟩ : ∃ q, k = q + 1 := ⟨k - 1, by omega⟩
 unfold s_spec_A2SamePieces at h
 rcases cnd_some h with ⟨h1, h⟩ | ⟨h1, h⟩
 ·obtain ⟨w, l6, h⟩ := bnd_some h
  rcases w with ⟨⟩ | u7_0
  ·obtain rfl := Option.some.inj h
   refine pFun_by [.b false, .l .normal ⟨[], []⟩] rfl (AI (not_f h1) (AI (lw_spec_A2SamePieces_b0 _ _ _ _ _ l6 k k (by omega) (by omega)) trivial)) ?_
   kernel_rfl
  ·obtain rfl := Option.some.inj h
   refine pFun_by [.b false, .l .ret ⟨[(4, (V.bool (u7_0)))], []⟩] rfl (AI (not_f h1) (AI (lw_spec_A2SamePieces_b0 _ _ _ _ _ l6 k k (by omega) (by omega)) trivial)) ?_
   kernel_rfl
 ·obtain rfl := Option.some.inj h
  refine pFun_by [.b true] rfl (AI (not_t h1) trivial) ?_
  kernel_rfl
theorem lw_spec_l00Same_b0 : ∀ (n : Nat) (a0 : List V) (a1 : List V) (a2 : Int) (r : Sum (Unit) (Bool)), l_spec_l00Same_b0 n a0 a1 a2 = some r → ∀ k m, n + 0 ≤ k → n ≤ m → LB E 40 0 k m ⟨[(0, (V.sl (a0))), (1, (V.sl (a1))), (5, (V.int .i64 (a2)))], []⟩ = some (match r with | .inl _ => (.normal, ⟨[], []⟩) | .inr o0 => (.ret, ⟨[(4, (V.bool (o0)))], []⟩)) := by
 intro n
 induction n with
 | zero => intro a0 a1 a2 r h; cases h
 | succ n ih =>
  intro a0 a1 a2 r h k m hk hm
  obtain ⟨m, rfl⟩ : ∃ q, m = q + 1 := ⟨m - 1, by omega⟩
  replace hk : n + 0 ≤ k := by omega
  unfold l_spec_l00Same_b0 at h
  rcases cnd_some h with ⟨h2, h⟩ | ⟨h2, h⟩
  ·obtain ⟨e3_0, g3, h⟩ := bnd_some h
   replace g3 := as_i64_some g3
   obtain ⟨e4_0, g4, h⟩ := bnd_some h
   replace g4 := as_i64_some g4
   rcases cnd_some h with ⟨h5, h⟩ | ⟨h5, h⟩
   ·refine pNext_by [.b true, .v (V.int .i64 (e3_0)), .v (V.int .i64 (e4_0)), .b false] (AI h2 (AI g3 (AI g4 (AI (not_f h5) trivial)))) (ih _ _ _ _ h k m hk (by omega)) ?_
    kernel_rfl
   ·cases h
    refine pLast_by [.b true, .v (V.int .i64 (e3_0)), .v (V.int .i64 (e4_0)), .b true] (AI h2 (AI g3 (AI g4 (AI (not_t h5) trivial)))) ?_
    kernel_rfl
  ·cases h
   refine pLast_by [.b false] (AI h2 trivial) ?_
   kernel_rfl
theorem w_spec_l00Same {n : Nat} {a0 : List V} {a1 : List V} {z0 : Bool} (h : s_spec_l00Same n a0 a1 = some z0) : ∀ k, n + 1 ≤ k → sem E k 40 [(V.sl (a0)), (V.sl (a1))] = some (V.bool (z0)) := by
 intro k hk
 obtain ⟨k, rfl⟩ : ∃ q, k = q + 1 := ⟨k - 1, by omega⟩
 unfold s_spec_l00Same at h
 rcases cnd_some h with ⟨h1, h⟩ | ⟨h1, h⟩
 ·obtain ⟨w, l6, h⟩ := bnd_some h
  rcases w with ⟨⟩ | u7_0
  ·obtain rfl := Option.some.inj h
   refine pFun_by [.b false, .l .normal ⟨[], []⟩] rfl (AI (not_f h1) (AI (lw_spec_l00Same_b0 _ _ _ _ _ l6 k k (by omega) (by omega)) trivial)) ?_
   kernel_rfl
  ·obtain rfl := Option.some.inj h
   refine pFun_by [.b false, .l .ret ⟨[(4, (V.bool (u7_0)))], []⟩] rfl (AI (not_f h1) (AI (lw_spec_l00Same_b0 _ _ _ _ _ l6 k k (by omega) (by omega)) trivial)) ?_
   kernel_rfl
 ·obtain rfl := Option.some.inj h
  refine pFun_by [.b true] rfl (AI (not_t h1) trivial) ?_
  kernel_rfl
theorem lw_spec_A2SameLists_b0 : ∀ (n : Nat) (a0 : List V) (a1 : List V) (a2 : Int) (r : Sum (Unit) (Bool)), l_spec_A2SameLists_b0 n a0 a1 a2 = some r → ∀ k m, n + 1 ≤ k → n ≤ m → LB E 18 0 k m ⟨[(0, (V.sl (a0))), (1, (V.sl (a1))), (5, (V.int .i64 (a2)))], []⟩ = some (match r with | .inl _ => (.normal, ⟨[], []⟩) | .inr o0 => (.ret, ⟨[(4, (V.bool (o0)))], []⟩)) := by
 intro n
 induction n with
 | zero => intro a0 a1 a2 r h; cases h
 | succ n ih =>
  intro a0 a1 a2 r h k m hk hm
  obtain ⟨m, rfl⟩ : ∃ q, m = q + 1 := ⟨m - 1, by omega⟩
  replace hk : n + 1 ≤ k := by omega
  unfold l_spec_A2SameLists_b0 at h
  rcases cnd_some h with ⟨h2, h⟩ | ⟨h2, h⟩
  ·obtain ⟨e3_0, g3, h⟩ := bnd_some h
   replace g3 := as_Li64_some g3
   obtain ⟨e4_0, g4, h⟩ := bnd_some h
   replace g4 := as_Li64_some g4
   obtain ⟨y5_0, q5, h⟩ := bnd_some h
   rcases cnd_some h with ⟨h6, h⟩ | ⟨h6, h⟩
   ·refine pNext_by [.b true, .v (V.sl (e3_0)), .v (V.sl (e4_0)), .v (V.bool (y5_0)), .b false] (AI h2 (AI g3 (AI g4 (AI (w_spec_l00Same q5 k (by omega)) (AI (not_f h6) trivial))))) (ih _ _ _ _ h k m hk (by omega)) ?_
    kernel_rfl
   ·cases h
    refine pLast_by [.b true, .v (V.sl (e3_0)), .v (V.sl (e4_0)), .v (V.bool (y5_0)), .b true] (AI h2 (AI g3 (AI g4 (AI (w_spec_l00Same q5 k (by omega)) (AI (not_t h6) trivial))))) ?_
    kernel_rfl
  ·cases h
   refine pLast_by [.b false] (AI h2 trivial) ?_
   kernel_rfl
theorem w_spec_A2SameLists {n : Nat} {a0 : List V} {a1 : List V} {z0 : Bool} (h : s_spec_A2SameLists n a0 a1 = some z0) : ∀ k, n + 2 ≤ k → sem E k 18 [(V.sl (a0)), (V.sl (a1))] = some (V.bool (z0)) := by
 intro k hk
 obtain ⟨k, rfl⟩ : ∃ q, k = q + 1 := ⟨k - 1, by omega⟩
 unfold s_spec_A2SameLists at h
 rcases cnd_some h with ⟨h1, h⟩ | ⟨h1, h⟩
 ·obtain ⟨w, l7, h⟩ := bnd_some h
  rcases w with ⟨⟩ | u8_0
  ·obtain rfl := Option.some.inj h
   refine pFun_by [.b false, .l .normal ⟨[], []⟩] rfl (AI (not_f h1) (AI (lw_spec_A2SameLists_b0 _ _ _ _ _ l7 k k (by omega) (by omega)) trivial)) ?_
   kernel_rfl
  ·obtain rfl := Option.some.inj h
   refine pFun_by [.b false, .l .ret ⟨[(4, (V.bool (u8_0)))], []⟩] rfl (AI (not_f h1) (AI (lw_spec_A2SameLists_b0 _ _ _ _ _ l7 k k (by omega) (by omega)) trivial)) ?_
   kernel_rfl
 ·obtain rfl := Option.some.inj h
  refine pFun_by [.b true] rfl (AI (not_t h1) trivial) ?_
  kernel_rfl
theorem w_spec_A2Same {n : Nat} {a0 : List V} {a1 : List V} {z0 : Bool} (h : s_spec_A2Same n a0 a1 = some z0) : ∀ k, n + 2 ≤ k → sem E k 19 [(V.sl (a0)), (V.sl (a1))] = some (V.bool (z0)) := by
 intro k hk
 obtain ⟨k, rfl⟩ : ∃ q, k = q + 1 := ⟨k - 1, by omega⟩
 unfold s_spec_A2Same at h
 obtain ⟨y1_0, q1, h⟩ := bnd_some h
 obtain rfl := Option.some.inj h
 refine pFun_by [.v (V.bool (y1_0))] rfl (AI (w_spec_l00Same q1 k (by omega)) trivial) ?_
 kernel_rfl
end Go.Proofs.YthdnamhilcjnhaaGreatDoor
