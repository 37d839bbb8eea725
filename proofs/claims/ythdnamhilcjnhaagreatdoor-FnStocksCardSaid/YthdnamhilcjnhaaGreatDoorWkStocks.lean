/- The program goes as the shallow texts tell: printed by gen.py. -/
import Derived.Test.YthdnamhilcjnhaaGreatDoorMk
import Derived.Test.YthdnamhilcjnhaaGreatDoorMb
namespace Go.Proofs.YthdnamhilcjnhaaGreatDoor
open Go
set_option linter.unusedVariables false
set_option linter.unusedSimpArgs false
set_option maxRecDepth 100000
set_option maxHeartbeats 4000000
theorem w_laws_a2Long {n : Nat} {a0 : List V} {a1 : List V} {z0 : Bool} (h : s_laws_a2Long n a0 a1 = some z0) : ∀ k, n + 1 ≤ k → sem E k 4 [(V.sl (a0)), (V.sl (a1))] = some (V.bool (z0)) := by
 intro k hk
 obtain ⟨k, rfl⟩ : ∃ q, k = q + 1 := ⟨k - 1, by omega⟩
 unfold s_laws_a2Long at h
 rcases cnd_some h with ⟨h1, h⟩ | ⟨h1, h⟩
 ·obtain rfl := Option.some.inj h
  refine pFun_by [.b true] rfl (AI h1 trivial) ?_
  kernel_rfl
 ·obtain rfl := Option.some.inj h
  refine pFun_by [.b false] rfl (AI h1 trivial) ?_
  kernel_rfl
theorem w_spec_A2Pieces_c {n : Nat} {a0 : List V} {z0 : List V} (h : s_spec_A2Pieces_c n a0 = some z0) : ∀ k, n + 1 ≤ k → sem E k 5 [V.sl a0] = some (V.sl z0) := by
 intro k hk
 obtain ⟨k, rfl⟩ : ∃ q, k = q + 1 := ⟨k - 1, by omega⟩
 unfold s_spec_A2Pieces_c at h
 show prA2 [V.sl a0] = _
 show (match a2Q a0 with | some z => some (V.sl z) | none => none) = _
 rw [h]
theorem w_impl_PiecesText {n : Nat} {a0 : List V} {z0 : ByteArray} (h : s_impl_PiecesText n a0 = some z0) : ∀ k, n + 1 ≤ k → sem E k 7 [V.sl a0] = some (V.str z0) := by
 intro k hk
 obtain ⟨k, rfl⟩ : ∃ q, k = q + 1 := ⟨k - 1, by omega⟩
 unfold s_impl_PiecesText at h
 show prPText [V.sl a0] = _
 show (match ptQ a0 with | some z => some (V.str z) | none => none) = _
 rw [h]
theorem w_impl_ReadPieces {n : Nat} {a0 : ByteArray} {z0 : List V} {z1 : Int} (h : s_impl_ReadPieces n a0 = some (z0, z1)) : ∀ k, n + 1 ≤ k → sem E k 6 [V.str a0] = some (V.tup [V.fresh 45 z0, V.int .i64 z1]) := by
 intro k hk
 obtain ⟨k, rfl⟩ : ∃ q, k = q + 1 := ⟨k - 1, by omega⟩
 unfold s_impl_ReadPieces at h
 obtain ⟨hc, h⟩ := chk_some h
 simp only [Option.some.injEq, Prod.mk.injEq] at h
 obtain ⟨rfl, rfl⟩ := h
 show prRead [V.str a0] = _
 simp only [prRead, hc]
theorem w_impl_within_int8 {n : Nat} {a0 : Int} {a1 : Int} {a2 : Int} {z0 : Bool} (h : s_impl_within_int8 n a0 a1 a2 = some z0) : ∀ k, n + 1 ≤ k → sem E k 44 [(V.int .i8 (a0)), (V.int .i8 (a1)), (V.int .i8 (a2))] = some (V.bool (z0)) := by
 intro k hk
 obtain ⟨k, rfl⟩ : ∃ q, k = q + 1 := ⟨k - 1, by omega⟩
 unfold s_impl_within_int8 at h
 rcases cnd_some h with ⟨h1, h⟩ | ⟨h1, h⟩
 ·obtain rfl := Option.some.inj h
  refine pFun_by [.b true] rfl (AI h1 trivial) ?_
  kernel_rfl
 ·obtain rfl := Option.some.inj h
  refine pFun_by [.b false] rfl (AI h1 trivial) ?_
  kernel_rfl
theorem w_impl_isPiece {n : Nat} {a0 : Int} {a1 : Int} {z0 : Bool} (h : s_impl_isPiece n a0 a1 = some z0) : ∀ k, n + 2 ≤ k → sem E k 25 [(V.parts [(V.int .i8 (a0)), (V.int .i8 (a1))])] = some (V.bool (z0)) := by
 intro k hk
 obtain ⟨k, rfl⟩ : ∃ q, k = q + 1 := ⟨k - 1, by omega⟩
 unfold s_impl_isPiece at h
 obtain ⟨y1_0, q1, h⟩ := bnd_some h
 rcases cnd_some h with ⟨h2, h⟩ | ⟨h2, h⟩
 ·obtain ⟨y3_0, q3, h⟩ := bnd_some h
  obtain rfl := Option.some.inj h
  refine pFun_by [.v (V.bool (y1_0)), .b true, .v (V.bool (y3_0))] rfl (AI (w_impl_within_int8 q1 k (by omega)) (AI h2 (AI (w_impl_within_int8 q3 k (by omega)) trivial))) ?_
  kernel_rfl
 ·obtain rfl := Option.some.inj h
  refine pFun_by [.v (V.bool (y1_0)), .b false] rfl (AI (w_impl_within_int8 q1 k (by omega)) (AI h2 trivial)) ?_
  kernel_rfl
theorem w_impl_areAll_impl_Piece_1__isPiece {n : Nat} {a0 : Int} {a1 : Int} {z0 : Bool} (h : s_impl_areAll_impl_Piece_1__isPiece n a0 a1 = some z0) : ∀ k, n + 3 ≤ k → sem E k 69 [(V.parts [(V.int .i8 (a0)), (V.int .i8 (a1))]), (V.ref [(V.clo 25 [])] 0 (0) 1)] = some (V.bool (z0)) := by
 intro k hk
 obtain ⟨k, rfl⟩ : ∃ q, k = q + 1 := ⟨k - 1, by omega⟩
 unfold s_impl_areAll_impl_Piece_1__isPiece at h
 obtain ⟨y1_0, q1, h⟩ := bnd_some h
 obtain rfl := Option.some.inj h
 refine pFun_by [.v (V.bool (y1_0))] rfl (AI (w_impl_isPiece q1 k (by omega)) trivial) ?_
 kernel_rfl
theorem lw_ixPc_b0 : ∀ (n : Nat) (a0 : List V) (a1 : Int) (a2 : Int) (r : Sum (Unit) (Int)), l_ixPc_b0 n a0 a1 a2 = some r → ∀ k m, n + 3 ≤ k → n ≤ m → LB E 81 0 k m ⟨[(0, (V.sl (a0))), (1, (V.clo 69 [(V.ref [(V.clo 25 [])] 0 (0) 1)])), (7, (V.int .i64 (a1))), (8, (V.int .i64 (a2)))], []⟩ = some (match r with | .inl _ => (.normal, ⟨[], []⟩) | .inr o0 => (.ret, ⟨[(4, (V.int .i64 (o0)))], []⟩)) := by
 intro n
 induction n with
 | zero => intro a0 a1 a2 r h; cases h
 | succ n ih =>
  intro a0 a1 a2 r h k m hk hm
  obtain ⟨m, rfl⟩ : ∃ q, m = q + 1 := ⟨m - 1, by omega⟩
  replace hk : n + 3 ≤ k := by omega
  unfold l_ixPc_b0 at h
  rcases cnd_some h with ⟨h1, h⟩ | ⟨h1, h⟩
  ·obtain ⟨⟨e2_0, e2_1⟩, g2, h⟩ := bnd_some h
   replace g2 := as_Pi8_i8Q_some g2
   obtain ⟨y3_0, q3, h⟩ := bnd_some h
   rcases cnd_some h with ⟨h4, h⟩ | ⟨h4, h⟩
   ·cases h
    refine pLast_by [.b true, .v (V.parts [(V.int .i8 (e2_0)), (V.int .i8 (e2_1))]), .v (V.bool (y3_0)), .b true] (AI h1 (AI g2 (AI (w_impl_areAll_impl_Piece_1__isPiece q3 k (by omega)) (AI h4 trivial)))) ?_
    kernel_rfl
   ·refine pNext_by [.b true, .v (V.parts [(V.int .i8 (e2_0)), (V.int .i8 (e2_1))]), .v (V.bool (y3_0)), .b false] (AI h1 (AI g2 (AI (w_impl_areAll_impl_Piece_1__isPiece q3 k (by omega)) (AI h4 trivial)))) (ih _ _ _ _ h k m hk (by omega)) ?_
    kernel_rfl
  ·cases h
   refine pLast_by [.b false] (AI h1 trivial) ?_
   kernel_rfl
theorem w_ixPc {n : Nat} {a0 : List V} {z0 : Int} (h : s_ixPc n a0 = some z0) : ∀ k, n + 4 ≤ k → sem E k 81 [(V.sl (a0)), (V.clo 69 [(V.ref [(V.clo 25 [])] 0 (0) 1)])] = some (V.int .i64 (z0)) := by
 intro k hk
 obtain ⟨k, rfl⟩ : ∃ q, k = q + 1 := ⟨k - 1, by omega⟩
 unfold s_ixPc at h
 obtain ⟨w, l5, h⟩ := bnd_some h
 rcases w with ⟨⟩ | u6_0
 ·obtain rfl := Option.some.inj h
  refine pFun_by [.l .normal ⟨[], []⟩] rfl (AI (lw_ixPc_b0 _ _ _ _ _ l5 k k (by omega) (by omega)) trivial) ?_
  kernel_rfl
 ·obtain rfl := Option.some.inj h
  refine pFun_by [.l .ret ⟨[(4, (V.int .i64 (u6_0)))], []⟩] rfl (AI (lw_ixPc_b0 _ _ _ _ _ l5 k k (by omega) (by omega)) trivial) ?_
  kernel_rfl
theorem w_cnPc {n : Nat} {a0 : List V} {z0 : Bool} (h : s_cnPc n a0 = some z0) : ∀ k, n + 5 ≤ k → sem E k 68 [(V.sl (a0)), (V.clo 69 [(V.ref [(V.clo 25 [])] 0 (0) 1)])] = some (V.bool (z0)) := by
 intro k hk
 obtain ⟨k, rfl⟩ : ∃ q, k = q + 1 := ⟨k - 1, by omega⟩
 unfold s_cnPc at h
 obtain ⟨y1_0, q1, h⟩ := bnd_some h
 obtain rfl := Option.some.inj h
 refine pFun_by [.v (V.int .i64 (y1_0))] rfl (AI (w_ixPc q1 k (by omega)) trivial) ?_
 kernel_rfl
theorem w_impl_areAll_impl_Piece__isPiece {n : Nat} {a0 : List V} {z0 : Bool} (h : s_impl_areAll_impl_Piece__isPiece n a0 = some z0) : ∀ k, n + 6 ≤ k → sem E k 48 [(V.sl (a0)), (V.clo 25 [])] = some (V.bool (z0)) := by
 intro k hk
 obtain ⟨k, rfl⟩ : ∃ q, k = q + 1 := ⟨k - 1, by omega⟩
 unfold s_impl_areAll_impl_Piece__isPiece at h
 obtain ⟨y1_0, q1, h⟩ := bnd_some h
 obtain rfl := Option.some.inj h
 refine pFun_by [.v (V.bool (y1_0))] rfl (AI (w_cnPc q1 k (by omega)) (AI (Eq.refl true) trivial)) ?_
 kernel_rfl
theorem w_impl_piecesCode_1 {n : Nat} {a0 : List V} {z0 : Bool} (h : s_impl_piecesCode_1 n a0 = some z0) : ∀ k, n + 7 ≤ k → sem E k 47 [(V.sl (a0))] = some (V.bool (z0)) := by
 intro k hk
 obtain ⟨k, rfl⟩ : ∃ q, k = q + 1 := ⟨k - 1, by omega⟩
 unfold s_impl_piecesCode_1 at h
 obtain ⟨y1_0, q1, h⟩ := bnd_some h
 obtain rfl := Option.some.inj h
 refine pFun_by [.v (V.bool (y1_0))] rfl (AI (w_impl_areAll_impl_Piece__isPiece q1 k (by omega)) trivial) ?_
 kernel_rfl
theorem w_impl_areAll_Simpl_Piece_1__piecesCode_1 {n : Nat} {a0 : List V} {z0 : Bool} (h : s_impl_areAll_Simpl_Piece_1__piecesCode_1 n a0 = some z0) : ∀ k, n + 8 ≤ k → sem E k 67 [(V.sl (a0)), (V.ref [(V.clo 47 [])] 0 (0) 1)] = some (V.bool (z0)) := by
 intro k hk
 obtain ⟨k, rfl⟩ : ∃ q, k = q + 1 := ⟨k - 1, by omega⟩
 unfold s_impl_areAll_Simpl_Piece_1__piecesCode_1 at h
 obtain ⟨y1_0, q1, h⟩ := bnd_some h
 obtain rfl := Option.some.inj h
 refine pFun_by [.v (V.bool (y1_0))] rfl (AI (w_impl_piecesCode_1 q1 k (by omega)) trivial) ?_
 kernel_rfl
theorem lw_ixPa_b0 : ∀ (n : Nat) (a0 : List V) (a1 : Int) (a2 : Int) (r : Sum (Unit) (Int)), l_ixPa_b0 n a0 a1 a2 = some r → ∀ k m, n + 8 ≤ k → n ≤ m → LB E 80 0 k m ⟨[(0, (V.sl (a0))), (1, (V.clo 67 [(V.ref [(V.clo 47 [])] 0 (0) 1)])), (7, (V.int .i64 (a1))), (8, (V.int .i64 (a2)))], []⟩ = some (match r with | .inl _ => (.normal, ⟨[], []⟩) | .inr o0 => (.ret, ⟨[(4, (V.int .i64 (o0)))], []⟩)) := by
 intro n
 induction n with
 | zero => intro a0 a1 a2 r h; cases h
 | succ n ih =>
  intro a0 a1 a2 r h k m hk hm
  obtain ⟨m, rfl⟩ : ∃ q, m = q + 1 := ⟨m - 1, by omega⟩
  replace hk : n + 8 ≤ k := by omega
  unfold l_ixPa_b0 at h
  rcases cnd_some h with ⟨h1, h⟩ | ⟨h1, h⟩
  ·obtain ⟨e2_0, g2, h⟩ := bnd_some h
   replace g2 := as_LPi8_i8Q_some g2
   obtain ⟨y3_0, q3, h⟩ := bnd_some h
   rcases cnd_some h with ⟨h4, h⟩ | ⟨h4, h⟩
   ·cases h
    refine pLast_by [.b true, .v (V.sl (e2_0)), .v (V.bool (y3_0)), .b true] (AI h1 (AI g2 (AI (w_impl_areAll_Simpl_Piece_1__piecesCode_1 q3 k (by omega)) (AI h4 trivial)))) ?_
    kernel_rfl
   ·refine pNext_by [.b true, .v (V.sl (e2_0)), .v (V.bool (y3_0)), .b false] (AI h1 (AI g2 (AI (w_impl_areAll_Simpl_Piece_1__piecesCode_1 q3 k (by omega)) (AI h4 trivial)))) (ih _ _ _ _ h k m hk (by omega)) ?_
    kernel_rfl
  ·cases h
   refine pLast_by [.b false] (AI h1 trivial) ?_
   kernel_rfl
theorem w_ixPa {n : Nat} {a0 : List V} {z0 : Int} (h : s_ixPa n a0 = some z0) : ∀ k, n + 9 ≤ k → sem E k 80 [(V.sl (a0)), (V.clo 67 [(V.ref [(V.clo 47 [])] 0 (0) 1)])] = some (V.int .i64 (z0)) := by
 intro k hk
 obtain ⟨k, rfl⟩ : ∃ q, k = q + 1 := ⟨k - 1, by omega⟩
 unfold s_ixPa at h
 obtain ⟨w, l5, h⟩ := bnd_some h
 rcases w with ⟨⟩ | u6_0
 ·obtain rfl := Option.some.inj h
  refine pFun_by [.l .normal ⟨[], []⟩] rfl (AI (lw_ixPa_b0 _ _ _ _ _ l5 k k (by omega) (by omega)) trivial) ?_
  kernel_rfl
 ·obtain rfl := Option.some.inj h
  refine pFun_by [.l .ret ⟨[(4, (V.int .i64 (u6_0)))], []⟩] rfl (AI (lw_ixPa_b0 _ _ _ _ _ l5 k k (by omega) (by omega)) trivial) ?_
  kernel_rfl
theorem w_cnPa {n : Nat} {a0 : List V} {z0 : Bool} (h : s_cnPa n a0 = some z0) : ∀ k, n + 10 ≤ k → sem E k 66 [(V.sl (a0)), (V.clo 67 [(V.ref [(V.clo 47 [])] 0 (0) 1)])] = some (V.bool (z0)) := by
 intro k hk
 obtain ⟨k, rfl⟩ : ∃ q, k = q + 1 := ⟨k - 1, by omega⟩
 unfold s_cnPa at h
 obtain ⟨y1_0, q1, h⟩ := bnd_some h
 obtain rfl := Option.some.inj h
 refine pFun_by [.v (V.int .i64 (y1_0))] rfl (AI (w_ixPa q1 k (by omega)) trivial) ?_
 kernel_rfl
theorem w_impl_areAll_Simpl_Piece__piecesCode_1 {n : Nat} {a0 : List V} {z0 : Bool} (h : s_impl_areAll_Simpl_Piece__piecesCode_1 n a0 = some z0) : ∀ k, n + 11 ≤ k → sem E k 46 [(V.sl (a0)), (V.clo 47 [])] = some (V.bool (z0)) := by
 intro k hk
 obtain ⟨k, rfl⟩ : ∃ q, k = q + 1 := ⟨k - 1, by omega⟩
 unfold s_impl_areAll_Simpl_Piece__piecesCode_1 at h
 obtain ⟨y1_0, q1, h⟩ := bnd_some h
 obtain rfl := Option.some.inj h
 refine pFun_by [.v (V.bool (y1_0))] rfl (AI (w_cnPa q1 k (by omega)) (AI (Eq.refl true) trivial)) ?_
 kernel_rfl
theorem w_impl_piecesCode_2 {n : Nat} {a0 : List V} {z0 : Bool} (h : s_impl_piecesCode_2 n a0 = some z0) : ∀ k, n + 1 ≤ k → sem E k 49 [(V.sl (a0))] = some (V.bool (z0)) := by
 intro k hk
 obtain ⟨k, rfl⟩ : ∃ q, k = q + 1 := ⟨k - 1, by omega⟩
 unfold s_impl_piecesCode_2 at h
 obtain rfl := Option.some.inj h
 refine pFun_by [] rfl trivial ?_
 kernel_rfl
theorem w_impl_areAll_Simpl_Piece_1__piecesCode_2 {n : Nat} {a0 : List V} {z0 : Bool} (h : s_impl_areAll_Simpl_Piece_1__piecesCode_2 n a0 = some z0) : ∀ k, n + 2 ≤ k → sem E k 67 [(V.sl (a0)), (V.ref [(V.clo 49 [])] 0 (0) 1)] = some (V.bool (z0)) := by
 intro k hk
 obtain ⟨k, rfl⟩ : ∃ q, k = q + 1 := ⟨k - 1, by omega⟩
 unfold s_impl_areAll_Simpl_Piece_1__piecesCode_2 at h
 obtain ⟨y1_0, q1, h⟩ := bnd_some h
 obtain rfl := Option.some.inj h
 refine pFun_by [.v (V.bool (y1_0))] rfl (AI (w_impl_piecesCode_2 q1 k (by omega)) trivial) ?_
 kernel_rfl
theorem lw_ixPb_b0 : ∀ (n : Nat) (a0 : List V) (a1 : Int) (a2 : Int) (r : Sum (Unit) (Int)), l_ixPb_b0 n a0 a1 a2 = some r → ∀ k m, n + 2 ≤ k → n ≤ m → LB E 80 0 k m ⟨[(0, (V.sl (a0))), (1, (V.clo 67 [(V.ref [(V.clo 49 [])] 0 (0) 1)])), (7, (V.int .i64 (a1))), (8, (V.int .i64 (a2)))], []⟩ = some (match r with | .inl _ => (.normal, ⟨[], []⟩) | .inr o0 => (.ret, ⟨[(4, (V.int .i64 (o0)))], []⟩)) := by
 intro n
 induction n with
 | zero => intro a0 a1 a2 r h; cases h
 | succ n ih =>
  intro a0 a1 a2 r h k m hk hm
  obtain ⟨m, rfl⟩ : ∃ q, m = q + 1 := ⟨m - 1, by omega⟩
  replace hk : n + 2 ≤ k := by omega
  unfold l_ixPb_b0 at h
  rcases cnd_some h with ⟨h1, h⟩ | ⟨h1, h⟩
  ·obtain ⟨e2_0, g2, h⟩ := bnd_some h
   replace g2 := as_LPi8_i8Q_some g2
   obtain ⟨y3_0, q3, h⟩ := bnd_some h
   rcases cnd_some h with ⟨h4, h⟩ | ⟨h4, h⟩
   ·cases h
    refine pLast_by [.b true, .v (V.sl (e2_0)), .v (V.bool (y3_0)), .b true] (AI h1 (AI g2 (AI (w_impl_areAll_Simpl_Piece_1__piecesCode_2 q3 k (by omega)) (AI h4 trivial)))) ?_
    kernel_rfl
   ·refine pNext_by [.b true, .v (V.sl (e2_0)), .v (V.bool (y3_0)), .b false] (AI h1 (AI g2 (AI (w_impl_areAll_Simpl_Piece_1__piecesCode_2 q3 k (by omega)) (AI h4 trivial)))) (ih _ _ _ _ h k m hk (by omega)) ?_
    kernel_rfl
  ·cases h
   refine pLast_by [.b false] (AI h1 trivial) ?_
   kernel_rfl
theorem w_ixPb {n : Nat} {a0 : List V} {z0 : Int} (h : s_ixPb n a0 = some z0) : ∀ k, n + 3 ≤ k → sem E k 80 [(V.sl (a0)), (V.clo 67 [(V.ref [(V.clo 49 [])] 0 (0) 1)])] = some (V.int .i64 (z0)) := by
 intro k hk
 obtain ⟨k, rfl⟩ : ∃ q, k = q + 1 := ⟨k - 1, by omega⟩
 unfold s_ixPb at h
 obtain ⟨w, l5, h⟩ := bnd_some h
 rcases w with ⟨⟩ | u6_0
 ·obtain rfl := Option.some.inj h
  refine pFun_by [.l .normal ⟨[], []⟩] rfl (AI (lw_ixPb_b0 _ _ _ _ _ l5 k k (by omega) (by omega)) trivial) ?_
  kernel_rfl
 ·obtain rfl := Option.some.inj h
  refine pFun_by [.l .ret ⟨[(4, (V.int .i64 (u6_0)))], []⟩] rfl (AI (lw_ixPb_b0 _ _ _ _ _ l5 k k (by omega) (by omega)) trivial) ?_
  kernel_rfl
theorem w_cnPb {n : Nat} {a0 : List V} {z0 : Bool} (h : s_cnPb n a0 = some z0) : ∀ k, n + 4 ≤ k → sem E k 66 [(V.sl (a0)), (V.clo 67 [(V.ref [(V.clo 49 [])] 0 (0) 1)])] = some (V.bool (z0)) := by
 intro k hk
 obtain ⟨k, rfl⟩ : ∃ q, k = q + 1 := ⟨k - 1, by omega⟩
 unfold s_cnPb at h
 obtain ⟨y1_0, q1, h⟩ := bnd_some h
 obtain rfl := Option.some.inj h
 refine pFun_by [.v (V.int .i64 (y1_0))] rfl (AI (w_ixPb q1 k (by omega)) trivial) ?_
 kernel_rfl
theorem w_impl_areAll_Simpl_Piece__piecesCode_2 {n : Nat} {a0 : List V} {z0 : Bool} (h : s_impl_areAll_Simpl_Piece__piecesCode_2 n a0 = some z0) : ∀ k, n + 5 ≤ k → sem E k 46 [(V.sl (a0)), (V.clo 49 [])] = some (V.bool (z0)) := by
 intro k hk
 obtain ⟨k, rfl⟩ : ∃ q, k = q + 1 := ⟨k - 1, by omega⟩
 unfold s_impl_areAll_Simpl_Piece__piecesCode_2 at h
 obtain ⟨y1_0, q1, h⟩ := bnd_some h
 obtain rfl := Option.some.inj h
 refine pFun_by [.v (V.bool (y1_0))] rfl (AI (w_cnPb q1 k (by omega)) (AI (Eq.refl true) trivial)) ?_
 kernel_rfl
theorem w_impl_piecesCode {n : Nat} {a0 : List V} {z0 : Int} (h : s_impl_piecesCode n a0 = some z0) : ∀ k, n + 12 ≤ k → sem E k 27 [(V.sl (a0))] = some (V.int .i64 (z0)) := by
 intro k hk
 obtain ⟨k, rfl⟩ : ∃ q, k = q + 1 := ⟨k - 1, by omega⟩
 unfold s_impl_piecesCode at h
 obtain ⟨y1_0, q1, h⟩ := bnd_some h
 rcases cnd_some h with ⟨h2, h⟩ | ⟨h2, h⟩
 ·obtain ⟨y3_0, q3, h⟩ := bnd_some h
  rcases cnd_some h with ⟨h4, h⟩ | ⟨h4, h⟩
  ·obtain rfl := Option.some.inj h
   refine pFun_by [.v (V.bool (y1_0)), .b false, .v (V.bool (y3_0)), .b false] rfl (AI (w_impl_areAll_Simpl_Piece__piecesCode_1 q1 k (by omega)) (AI (not_f h2) (AI (w_impl_areAll_Simpl_Piece__piecesCode_2 q3 k (by omega)) (AI (not_f h4) trivial)))) ?_
   kernel_rfl
  ·obtain rfl := Option.some.inj h
   refine pFun_by [.v (V.bool (y1_0)), .b false, .v (V.bool (y3_0)), .b true] rfl (AI (w_impl_areAll_Simpl_Piece__piecesCode_1 q1 k (by omega)) (AI (not_f h2) (AI (w_impl_areAll_Simpl_Piece__piecesCode_2 q3 k (by omega)) (AI (not_t h4) trivial)))) ?_
   kernel_rfl
 ·obtain rfl := Option.some.inj h
  refine pFun_by [.v (V.bool (y1_0)), .b true] rfl (AI (w_impl_areAll_Simpl_Piece__piecesCode_1 q1 k (by omega)) (AI (not_t h2) trivial)) ?_
  kernel_rfl
theorem lw_impl_upTo_b0 : ∀ (n : Nat) (a0 : Int) (a1 : Int) (a2 : List V) (r : List V), l_impl_upTo_b0 n a0 a1 a2 = some r → ∀ k m, n + 0 ≤ k → n ≤ m → LB E 72 0 k m ⟨[(3, (V.row 7)), (5, (V.int .i64 (a0))), (6, (V.int .i64 (a1)))], [(7, .row 3 (a2))]⟩ = some (match r with | o0 => (.normal, ⟨[(3, (V.row 7))], [(7, .row 3 (o0))]⟩)) := by
 intro n
 induction n with
 | zero => intro a0 a1 a2 r h; cases h
 | succ n ih =>
  intro a0 a1 a2 r h k m hk hm
  obtain ⟨m, rfl⟩ : ∃ q, m = q + 1 := ⟨m - 1, by omega⟩
  replace hk : n + 0 ≤ k := by omega
  unfold l_impl_upTo_b0 at h
  rcases cnd_some h with ⟨h1, h⟩ | ⟨h1, h⟩
  ·obtain ⟨c2, h⟩ := chk_some h
   refine pNext_by [.b true] (AI h1 (AI c2 (AI (Eq.refl true) trivial))) (ih _ _ _ _ h k m hk (by omega)) ?_
   kernel_rfl
  ·cases h
   refine pLast_by [.b false] (AI h1 trivial) ?_
   kernel_rfl
theorem w_impl_upTo {n : Nat} {a0 : Int} {z0 : List V} (h : s_impl_upTo n a0 = some z0) : ∀ k, n + 1 ≤ k → sem E k 72 [(V.int .i64 (a0))] = some (V.fresh 3 (z0)) := by
 intro k hk
 obtain ⟨k, rfl⟩ : ∃ q, k = q + 1 := ⟨k - 1, by omega⟩
 unfold s_impl_upTo at h
 obtain ⟨u3_0, l3, h⟩ := bnd_some h
 obtain rfl := Option.some.inj h
 refine pFun_by [.l .normal ⟨[(3, (V.row 7))], [(7, .row 3 (u3_0))]⟩] rfl (AI (lw_impl_upTo_b0 _ _ _ _ _ l3 k k (by omega) (by omega)) trivial) ?_
 kernel_rfl
theorem w_cmp_isNaN_int8 {n : Nat} {a0 : Int} {z0 : Bool} (h : s_cmp_isNaN_int8 n a0 = some z0) : ∀ k, n + 1 ≤ k → sem E k 85 [(V.int .i8 (a0))] = some (V.bool (z0)) := by
 intro k hk
 obtain ⟨k, rfl⟩ : ∃ q, k = q + 1 := ⟨k - 1, by omega⟩
 unfold s_cmp_isNaN_int8 at h
 obtain rfl := Option.some.inj h
 refine pFun_by [] rfl trivial ?_
 kernel_rfl
theorem w_cmp_Compare_int8 {n : Nat} {a0 : Int} {a1 : Int} {z0 : Int} (h : s_cmp_Compare_int8 n a0 a1 = some z0) : ∀ k, n + 2 ≤ k → sem E k 75 [(V.int .i8 (a0)), (V.int .i8 (a1))] = some (V.int .i64 (z0)) := by
 intro k hk
 obtain ⟨k, rfl⟩ : ∃ q, k = q + 1 := ⟨k - 1, by omega⟩
 unfold s_cmp_Compare_int8 at h
 obtain ⟨y1_0, q1, h⟩ := bnd_some h
 obtain ⟨y2_0, q2, h⟩ := bnd_some h
 rcases cnd_some h with ⟨h3, h⟩ | ⟨h3, h⟩
 ·rcases cnd_some h with ⟨h4, h⟩ | ⟨h4, h⟩
  ·obtain rfl := Option.some.inj h
   refine pFun_by [.v (V.bool (y1_0)), .v (V.bool (y2_0)), .b true, .b true] rfl (AI (w_cmp_isNaN_int8 q1 k (by omega)) (AI (w_cmp_isNaN_int8 q2 k (by omega)) (AI h3 (AI h4 trivial)))) ?_
   kernel_rfl
  ·obtain rfl := Option.some.inj h
   refine pFun_by [.v (V.bool (y1_0)), .v (V.bool (y2_0)), .b true, .b false] rfl (AI (w_cmp_isNaN_int8 q1 k (by omega)) (AI (w_cmp_isNaN_int8 q2 k (by omega)) (AI h3 (AI h4 trivial)))) ?_
   kernel_rfl
 ·rcases cnd_some h with ⟨h5, h⟩ | ⟨h5, h⟩
  ·obtain rfl := Option.some.inj h
   refine pFun_by [.v (V.bool (y1_0)), .v (V.bool (y2_0)), .b false, .b true] rfl (AI (w_cmp_isNaN_int8 q1 k (by omega)) (AI (w_cmp_isNaN_int8 q2 k (by omega)) (AI h3 (AI h5 trivial)))) ?_
   kernel_rfl
  ·rcases cnd_some h with ⟨h6, h⟩ | ⟨h6, h⟩
   ·obtain rfl := Option.some.inj h
    refine pFun_by [.v (V.bool (y1_0)), .v (V.bool (y2_0)), .b false, .b false, .b true] rfl (AI (w_cmp_isNaN_int8 q1 k (by omega)) (AI (w_cmp_isNaN_int8 q2 k (by omega)) (AI h3 (AI h5 (AI h6 trivial))))) ?_
    kernel_rfl
   ·rcases cnd_some h with ⟨h7, h⟩ | ⟨h7, h⟩
    ·obtain rfl := Option.some.inj h
     refine pFun_by [.v (V.bool (y1_0)), .v (V.bool (y2_0)), .b false, .b false, .b false, .b true] rfl (AI (w_cmp_isNaN_int8 q1 k (by omega)) (AI (w_cmp_isNaN_int8 q2 k (by omega)) (AI h3 (AI h5 (AI h6 (AI h7 trivial)))))) ?_
     kernel_rfl
    ·obtain rfl := Option.some.inj h
     refine pFun_by [.v (V.bool (y1_0)), .v (V.bool (y2_0)), .b false, .b false, .b false, .b false] rfl (AI (w_cmp_isNaN_int8 q1 k (by omega)) (AI (w_cmp_isNaN_int8 q2 k (by omega)) (AI h3 (AI h5 (AI h6 (AI h7 trivial)))))) ?_
     kernel_rfl
theorem w_impl_byWidth_1 {n : Nat} {a0 : Int} {a1 : Int} {a2 : List V} {z0 : Int} (h : s_impl_byWidth_1 n a0 a1 a2 = some z0) : ∀ k, n + 3 ≤ k → sem E k 74 [(V.int .i64 (a0)), (V.int .i64 (a1)), (V.ref [(V.sl (a2))] 0 (0) 1)] = some (V.int .i64 (z0)) := by
 intro k hk
 obtain ⟨k, rfl⟩ : ∃ q, k = q + 1 := ⟨k - 1, by omega⟩
 unfold s_impl_byWidth_1 at h
 obtain ⟨⟨e1_0, e1_1⟩, g1, h⟩ := bnd_some h
 replace g1 := as_Pi8_i8Q_some g1
 obtain ⟨⟨e2_0, e2_1⟩, g2, h⟩ := bnd_some h
 replace g2 := as_Pi8_i8Q_some g2
 obtain ⟨y3_0, q3, h⟩ := bnd_some h
 obtain rfl := Option.some.inj h
 refine pFun_by [.v (V.parts [(V.int .i8 (e1_0)), (V.int .i8 (e1_1))]), .v (V.parts [(V.int .i8 (e2_0)), (V.int .i8 (e2_1))]), .v (V.int .i64 (y3_0))] rfl (AI g1 (AI g2 (AI (w_cmp_Compare_int8 q3 k (by omega)) trivial))) ?_
 kernel_rfl
theorem lw_insC_b2 : ∀ (n : Nat) (a0 : Int) (a1 : Int) (a2 : List V) (a3 : Int) (a4 : Int) (a5 : List V) (r : Int × Int × List V × Int × List V), l_insC_b2 n a0 a1 a2 a3 a4 a5 = some r → ∀ k m, n + 3 ≤ k → n ≤ m → LB E 93 2 k m ⟨[(0, (V.row 1)), (1, (V.int .i64 (a0))), (2, (V.int .i64 (a1))), (3, (V.clo 74 [(V.ref [(V.sl (a2))] 0 (0) 1)])), (8, (V.int .i64 (a3))), (9, (V.int .i64 (a4)))], [(1, .row 3 (a5))]⟩ = some (match r with | (o0, o1, o2, o3, o4) => (.normal, ⟨[(0, (V.row 1)), (1, (V.int .i64 (o0))), (2, (V.int .i64 (o1))), (3, (V.clo 74 [(V.ref [(V.sl (o2))] 0 (0) 1)])), (8, (V.int .i64 (o3)))], [(1, .row 3 (o4))]⟩)) := by
 intro n
 induction n with
 | zero => intro a0 a1 a2 a3 a4 a5 r h; cases h
 | succ n ih =>
  intro a0 a1 a2 a3 a4 a5 r h k m hk hm
  obtain ⟨m, rfl⟩ : ∃ q, m = q + 1 := ⟨m - 1, by omega⟩
  replace hk : n + 3 ≤ k := by omega
  unfold l_insC_b2 at h
  rcases cnd_some h with ⟨h2, h⟩ | ⟨h2, h⟩
  ·obtain ⟨c3, h⟩ := chk_some h
   obtain ⟨e4_0, g4, h⟩ := bnd_some h
   replace g4 := as_i64_some g4
   obtain ⟨c5, h⟩ := chk_some h
   obtain ⟨e6_0, g6, h⟩ := bnd_some h
   replace g6 := as_i64_some g6
   obtain ⟨y7_0, q7, h⟩ := bnd_some h
   rcases cnd_some h with ⟨h8, h⟩ | ⟨h8, h⟩
   ·obtain ⟨e9_0, g9, h⟩ := bnd_some h
    replace g9 := as_i64_some g9
    obtain ⟨e10_0, g10, h⟩ := bnd_some h
    replace g10 := as_i64_some g10
    obtain ⟨e11_0, g11, h⟩ := bnd_some h
    replace g11 := as_i64_some g11
    obtain ⟨c12, h⟩ := chk_some h
    obtain ⟨e13_0, g13, h⟩ := bnd_some h
    replace g13 := as_i64_some g13
    refine pNext_by [.b true, .v (V.int .i64 (e4_0)), .v (V.int .i64 (e6_0)), .v (V.int .i64 (y7_0)), .b true, .v (V.int .i64 (e9_0)), .v (V.int .i64 (e10_0)), .v (V.int .i64 (e11_0)), .v (V.int .i64 (e13_0))] (AI h2 (AI c3 (AI g4 (AI c5 (AI g6 (AI (w_impl_byWidth_1 q7 k (by omega)) (AI h8 (AI c5 (AI g9 (AI c3 (AI g10 (AI c3 (AI g11 (AI c12 (AI g13 trivial))))))))))))))) (ih _ _ _ _ _ _ _ h k m hk (by omega)) ?_
    kernel_rfl
   ·cases h
    refine pLast_by [.b true, .v (V.int .i64 (e4_0)), .v (V.int .i64 (e6_0)), .v (V.int .i64 (y7_0)), .b false] (AI h2 (AI c3 (AI g4 (AI c5 (AI g6 (AI (w_impl_byWidth_1 q7 k (by omega)) (AI h8 trivial))))))) ?_
    kernel_rfl
  ·cases h
   refine pLast_by [.b false, .b false] (AI h2 (AI (Eq.refl false) trivial)) ?_
   kernel_rfl
theorem lw_insC_b0 : ∀ (n : Nat) (a0 : Int) (a1 : Int) (a2 : List V) (a3 : Int) (a4 : List V) (r : List V), l_insC_b0 n a0 a1 a2 a3 a4 = some r → ∀ k m, n + 3 ≤ k → n ≤ m → LB E 93 0 k m ⟨[(0, (V.row 1)), (1, (V.int .i64 (a0))), (2, (V.int .i64 (a1))), (3, (V.clo 74 [(V.ref [(V.sl (a2))] 0 (0) 1)])), (8, (V.int .i64 (a3)))], [(1, .row 3 (a4))]⟩ = some (match r with | o0 => (.normal, ⟨[(0, (V.row 1))], [(1, .row 3 (o0))]⟩)) := by
 intro n
 induction n with
 | zero => intro a0 a1 a2 a3 a4 r h; cases h
 | succ n ih =>
  intro a0 a1 a2 a3 a4 r h k m hk hm
  obtain ⟨m, rfl⟩ : ∃ q, m = q + 1 := ⟨m - 1, by omega⟩
  replace hk : n + 3 ≤ k := by omega
  unfold l_insC_b0 at h
  rcases cnd_some h with ⟨h1, h⟩ | ⟨h1, h⟩
  ·obtain ⟨⟨u14_0, u14_1, u14_2, u14_3, u14_4⟩, l14, h⟩ := bnd_some h
   refine pNext_by [.b true, .l .normal ⟨[(0, (V.row 1)), (1, (V.int .i64 (u14_0))), (2, (V.int .i64 (u14_1))), (3, (V.clo 74 [(V.ref [(V.sl (u14_2))] 0 (0) 1)])), (8, (V.int .i64 (u14_3)))], [(1, .row 3 (u14_4))]⟩] (AI h1 (AI (lw_insC_b2 _ _ _ _ _ _ _ _ l14 k k (by omega) (by omega)) trivial)) (ih _ _ _ _ _ _ h k m hk (by omega)) ?_
   kernel_rfl
  ·cases h
   refine pLast_by [.b false] (AI h1 trivial) ?_
   kernel_rfl
theorem w_insC {n : Nat} {a0 : List V} {a1 : Int} {a2 : Int} {a3 : List V} {z0 : List V} (h : s_insC n a0 a1 a2 a3 = some z0) : ∀ k, n + 4 ≤ k → sem E k (ruBase + 93) [(V.fresh 3 (a0)), (V.int .i64 (a1)), (V.int .i64 (a2)), (V.clo 74 [(V.ref [(V.sl (a3))] 0 (0) 1)])] = some (V.fresh 3 (z0)) := by
 intro k hk
 obtain ⟨k, rfl⟩ : ∃ q, k = q + 1 := ⟨k - 1, by omega⟩
 unfold s_insC at h
 obtain ⟨u16_0, l16, h⟩ := bnd_some h
 obtain rfl := Option.some.inj h
 refine pRu_by [.l .normal ⟨[(0, (V.row 1))], [(1, .row 3 (u16_0))]⟩] rfl rfl rfl rfl rfl (AI (lw_insC_b0 _ _ _ _ _ _ _ l16 k k (by omega) (by omega)) trivial) ?_
 kernel_rfl
theorem lw_swpC_b0 : ∀ (n : Nat) (a0 : Int) (a1 : Int) (a2 : Int) (a3 : Int) (a4 : List V) (r : List V), l_swpC_b0 n a0 a1 a2 a3 a4 = some r → ∀ k m, n + 0 ≤ k → n ≤ m → LB E 104 0 k m ⟨[(0, (V.row 1)), (1, (V.int .i64 (a0))), (2, (V.int .i64 (a1))), (3, (V.int .i64 (a2))), (10, (V.int .i64 (a3)))], [(1, .row 3 (a4))]⟩ = some (match r with | o0 => (.normal, ⟨[(0, (V.row 1))], [(1, .row 3 (o0))]⟩)) := by
 intro n
 induction n with
 | zero => intro a0 a1 a2 a3 a4 r h; cases h
 | succ n ih =>
  intro a0 a1 a2 a3 a4 r h k m hk hm
  obtain ⟨m, rfl⟩ : ∃ q, m = q + 1 := ⟨m - 1, by omega⟩
  replace hk : n + 0 ≤ k := by omega
  unfold l_swpC_b0 at h
  rcases cnd_some h with ⟨h1, h⟩ | ⟨h1, h⟩
  ·obtain ⟨c2, h⟩ := chk_some h
   obtain ⟨e3_0, g3, h⟩ := bnd_some h
   replace g3 := as_i64_some g3
   obtain ⟨c4, h⟩ := chk_some h
   obtain ⟨e5_0, g5, h⟩ := bnd_some h
   replace g5 := as_i64_some g5
   obtain ⟨e6_0, g6, h⟩ := bnd_some h
   replace g6 := as_i64_some g6
   obtain ⟨c7, h⟩ := chk_some h
   obtain ⟨e8_0, g8, h⟩ := bnd_some h
   replace g8 := as_i64_some g8
   refine pNext_by [.b true, .v (V.int .i64 (e3_0)), .v (V.int .i64 (e5_0)), .v (V.int .i64 (e6_0)), .v (V.int .i64 (e8_0))] (AI h1 (AI c2 (AI g3 (AI c4 (AI g5 (AI c4 (AI g6 (AI c7 (AI g8 trivial))))))))) (ih _ _ _ _ _ _ h k m hk (by omega)) ?_
   kernel_rfl
  ·cases h
   refine pLast_by [.b false] (AI h1 trivial) ?_
   kernel_rfl
theorem w_swpC {n : Nat} {a0 : List V} {a1 : Int} {a2 : Int} {a3 : Int} {a4 : List V} {z0 : List V} (h : s_swpC n a0 a1 a2 a3 a4 = some z0) : ∀ k, n + 1 ≤ k → sem E k (ruBase + 104) [(V.fresh 3 (a0)), (V.int .i64 (a1)), (V.int .i64 (a2)), (V.int .i64 (a3)), (V.clo 74 [(V.ref [(V.sl (a4))] 0 (0) 1)])] = some (V.fresh 3 (z0)) := by
 intro k hk
 obtain ⟨k, rfl⟩ : ∃ q, k = q + 1 := ⟨k - 1, by omega⟩
 unfold s_swpC at h
 obtain ⟨u9_0, l9, h⟩ := bnd_some h
 obtain rfl := Option.some.inj h
 refine pRu_by [.l .normal ⟨[(0, (V.row 1))], [(1, .row 3 (u9_0))]⟩] rfl rfl rfl rfl rfl (AI (lw_swpC_b0 _ _ _ _ _ _ _ l9 k k (by omega) (by omega)) trivial) ?_
 kernel_rfl
theorem lw_rotC_b0 : ∀ (n : Nat) (a0 : Int) (a1 : List V) (a2 : Int) (a3 : Int) (a4 : List V) (r : Int × List V × Int × List V), l_rotC_b0 n a0 a1 a2 a3 a4 = some r → ∀ k m, n + 1 ≤ k → n ≤ m → LB E 101 0 k m ⟨[(0, (V.row 1)), (2, (V.int .i64 (a0))), (4, (V.clo 74 [(V.ref [(V.sl (a1))] 0 (0) 1)])), (10, (V.int .i64 (a2))), (11, (V.int .i64 (a3)))], [(1, .row 3 (a4))]⟩ = some (match r with | (o0, o1, o2, o3) => (.normal, ⟨[(0, (V.row 1)), (2, (V.int .i64 (o0))), (4, (V.clo 74 [(V.ref [(V.sl (o1))] 0 (0) 1)])), (10, (V.int .i64 (o2)))], [(1, .row 3 (o3))]⟩)) := by
 intro n
 induction n with
 | zero => intro a0 a1 a2 a3 a4 r h; cases h
 | succ n ih =>
  intro a0 a1 a2 a3 a4 r h k m hk hm
  obtain ⟨m, rfl⟩ : ∃ q, m = q + 1 := ⟨m - 1, by omega⟩
  replace hk : n + 1 ≤ k := by omega
  unfold l_rotC_b0 at h
  rcases cnd_some h with ⟨h1, h⟩ | ⟨h1, h⟩
  ·cases h
   refine pLast_by [.b false] (AI (not_f h1) trivial) ?_
   kernel_rfl
  ·rcases cnd_some h with ⟨h2, h⟩ | ⟨h2, h⟩
   ·obtain ⟨y3_0, q3, h⟩ := bnd_some h
    obtain ⟨c4, h⟩ := chk_some h
    refine pNext_by [.b true, .b true, .v (V.fresh 3 (y3_0))] (AI (not_t h1) (AI h2 (AI (w_swpC q3 k (by omega)) (AI c4 trivial)))) (ih _ _ _ _ _ _ h k m hk (by omega)) ?_
    kernel_rfl
   ·obtain ⟨y5_0, q5, h⟩ := bnd_some h
    obtain ⟨c6, h⟩ := chk_some h
    refine pNext_by [.b true, .b false, .v (V.fresh 3 (y5_0))] (AI (not_t h1) (AI h2 (AI (w_swpC q5 k (by omega)) (AI c6 trivial)))) (ih _ _ _ _ _ _ h k m hk (by omega)) ?_
    kernel_rfl
theorem w_rotC {n : Nat} {a0 : List V} {a1 : Int} {a2 : Int} {a3 : Int} {a4 : List V} {z0 : List V} (h : s_rotC n a0 a1 a2 a3 a4 = some z0) : ∀ k, n + 2 ≤ k → sem E k (ruBase + 101) [(V.fresh 3 (a0)), (V.int .i64 (a1)), (V.int .i64 (a2)), (V.int .i64 (a3)), (V.clo 74 [(V.ref [(V.sl (a4))] 0 (0) 1)])] = some (V.fresh 3 (z0)) := by
 intro k hk
 obtain ⟨k, rfl⟩ : ∃ q, k = q + 1 := ⟨k - 1, by omega⟩
 unfold s_rotC at h
 obtain ⟨⟨u7_0, u7_1, u7_2, u7_3⟩, l7, h⟩ := bnd_some h
 obtain ⟨y9_0, q9, h⟩ := bnd_some h
 obtain ⟨c10, h⟩ := chk_some h
 obtain rfl := Option.some.inj h
 refine pRu_by [.l .normal ⟨[(0, (V.row 1)), (2, (V.int .i64 (u7_0))), (4, (V.clo 74 [(V.ref [(V.sl (u7_1))] 0 (0) 1)])), (10, (V.int .i64 (u7_2)))], [(1, .row 3 (u7_3))]⟩, .v (V.fresh 3 (y9_0))] rfl rfl rfl rfl rfl (AI (lw_rotC_b0 _ _ _ _ _ _ _ l7 k k (by omega) (by omega)) (AI (w_swpC q9 k (by omega)) (AI c10 trivial))) ?_
 kernel_rfl
theorem lw_symM_b0 {self : (List V) → (Int) → (Int) → (Int) → (List V) → Option (List V)} {K : Nat} (hself : ∀ {a0 : List V} {a1 : Int} {a2 : Int} {a3 : Int} {a4 : List V} {z0 : List V}, self a0 a1 a2 a3 a4 = some z0 → ∀ k, K ≤ k → sem E k (ruBase + 94) [(V.fresh 3 (a0)), (V.int .i64 (a1)), (V.int .i64 (a2)), (V.int .i64 (a3)), (V.clo 74 [(V.ref [(V.sl (a4))] 0 (0) 1)])] = some (V.fresh 3 (z0))) : ∀ (n : Nat) (a0 : Int) (a1 : List V) (a2 : Int) (a3 : Int) (a4 : List V) (r : Int × Int × List V), l_symM_b0 self n a0 a1 a2 a3 a4 = some r → ∀ k m, n + 3 ≤ k → n ≤ m → K ≤ k → LB E 94 0 k m ⟨[(0, (V.row 1)), (1, (V.int .i64 (a0))), (4, (V.clo 74 [(V.ref [(V.sl (a1))] 0 (0) 1)])), (10, (V.int .i64 (a2))), (11, (V.int .i64 (a3)))], [(1, .row 3 (a4))]⟩ = some (match r with | (o0, o1, o2) => (.normal, ⟨[(0, (V.row 1)), (1, (V.int .i64 (o0))), (10, (V.int .i64 (o1)))], [(1, .row 3 (o2))]⟩)) := by
 intro n
 induction n with
 | zero => intro a0 a1 a2 a3 a4 r h; cases h
 | succ n ih =>
  intro a0 a1 a2 a3 a4 r h k m hk hm hK
  obtain ⟨m, rfl⟩ : ∃ q, m = q + 1 := ⟨m - 1, by omega⟩
  replace hk : n + 3 ≤ k := by omega
  unfold l_symM_b0 at h
  rcases cnd_some h with ⟨h2, h⟩ | ⟨h2, h⟩
  ·obtain ⟨c3, h⟩ := chk_some h
   obtain ⟨c4, h⟩ := chk_some h
   obtain ⟨e5_0, g5, h⟩ := bnd_some h
   replace g5 := as_i64_some g5
   obtain ⟨c6, h⟩ := chk_some h
   obtain ⟨e7_0, g7, h⟩ := bnd_some h
   replace g7 := as_i64_some g7
   obtain ⟨y8_0, q8, h⟩ := bnd_some h
   rcases cnd_some h with ⟨h9, h⟩ | ⟨h9, h⟩
   ·refine pNext_by [.b true, .v (V.int .i64 (e5_0)), .v (V.int .i64 (e7_0)), .v (V.int .i64 (y8_0)), .b true] (AI h2 (AI c3 (AI c4 (AI g5 (AI c6 (AI g7 (AI (w_impl_byWidth_1 q8 k (by omega)) (AI h9 trivial)))))))) (ih _ _ _ _ _ _ h k m hk (by omega) hK) ?_
    kernel_rfl
   ·refine pNext_by [.b true, .v (V.int .i64 (e5_0)), .v (V.int .i64 (e7_0)), .v (V.int .i64 (y8_0)), .b false] (AI h2 (AI c3 (AI c4 (AI g5 (AI c6 (AI g7 (AI (w_impl_byWidth_1 q8 k (by omega)) (AI h9 trivial)))))))) (ih _ _ _ _ _ _ h k m hk (by omega) hK) ?_
    kernel_rfl
  ·cases h
   refine pLast_by [.b false] (AI h2 trivial) ?_
   kernel_rfl
theorem lw_symM_b2 {self : (List V) → (Int) → (Int) → (Int) → (List V) → Option (List V)} {K : Nat} (hself : ∀ {a0 : List V} {a1 : Int} {a2 : Int} {a3 : Int} {a4 : List V} {z0 : List V}, self a0 a1 a2 a3 a4 = some z0 → ∀ k, K ≤ k → sem E k (ruBase + 94) [(V.fresh 3 (a0)), (V.int .i64 (a1)), (V.int .i64 (a2)), (V.int .i64 (a3)), (V.clo 74 [(V.ref [(V.sl (a4))] 0 (0) 1)])] = some (V.fresh 3 (z0))) : ∀ (n : Nat) (a0 : Int) (a1 : Int) (a2 : List V) (r : List V), l_symM_b2 self n a0 a1 a2 = some r → ∀ k m, n + 3 ≤ k → n ≤ m → K ≤ k → LB E 94 2 k m ⟨[(0, (V.row 1)), (10, (V.int .i64 (a0))), (13, (V.int .i64 (a1)))], [(1, .row 3 (a2))]⟩ = some (match r with | o0 => (.normal, ⟨[(0, (V.row 1))], [(1, .row 3 (o0))]⟩)) := by
 intro n
 induction n with
 | zero => intro a0 a1 a2 r h; cases h
 | succ n ih =>
  intro a0 a1 a2 r h k m hk hm hK
  obtain ⟨m, rfl⟩ : ∃ q, m = q + 1 := ⟨m - 1, by omega⟩
  replace hk : n + 3 ≤ k := by omega
  unfold l_symM_b2 at h
  rcases cnd_some h with ⟨h12, h⟩ | ⟨h12, h⟩
  ·obtain ⟨c13, h⟩ := chk_some h
   obtain ⟨e14_0, g14, h⟩ := bnd_some h
   replace g14 := as_i64_some g14
   obtain ⟨c15, h⟩ := chk_some h
   obtain ⟨e16_0, g16, h⟩ := bnd_some h
   replace g16 := as_i64_some g16
   obtain ⟨e17_0, g17, h⟩ := bnd_some h
   replace g17 := as_i64_some g17
   obtain ⟨c18, h⟩ := chk_some h
   obtain ⟨e19_0, g19, h⟩ := bnd_some h
   replace g19 := as_i64_some g19
   refine pNext_by [.b true, .v (V.int .i64 (e14_0)), .v (V.int .i64 (e16_0)), .v (V.int .i64 (e17_0)), .v (V.int .i64 (e19_0))] (AI h12 (AI c13 (AI g14 (AI c15 (AI g16 (AI c15 (AI g17 (AI c18 (AI g19 trivial))))))))) (ih _ _ _ _ h k m hk (by omega) hK) ?_
   kernel_rfl
  ·cases h
   refine pLast_by [.b false] (AI h12 trivial) ?_
   kernel_rfl
theorem lw_symM_b4 {self : (List V) → (Int) → (Int) → (Int) → (List V) → Option (List V)} {K : Nat} (hself : ∀ {a0 : List V} {a1 : Int} {a2 : Int} {a3 : Int} {a4 : List V} {z0 : List V}, self a0 a1 a2 a3 a4 = some z0 → ∀ k, K ≤ k → sem E k (ruBase + 94) [(V.fresh 3 (a0)), (V.int .i64 (a1)), (V.int .i64 (a2)), (V.int .i64 (a3)), (V.clo 74 [(V.ref [(V.sl (a4))] 0 (0) 1)])] = some (V.fresh 3 (z0))) : ∀ (n : Nat) (a0 : Int) (a1 : List V) (a2 : Int) (a3 : Int) (a4 : List V) (r : Int × Int × List V), l_symM_b4 self n a0 a1 a2 a3 a4 = some r → ∀ k m, n + 3 ≤ k → n ≤ m → K ≤ k → LB E 94 4 k m ⟨[(0, (V.row 1)), (2, (V.int .i64 (a0))), (4, (V.clo 74 [(V.ref [(V.sl (a1))] 0 (0) 1)])), (14, (V.int .i64 (a2))), (15, (V.int .i64 (a3)))], [(1, .row 3 (a4))]⟩ = some (match r with | (o0, o1, o2) => (.normal, ⟨[(0, (V.row 1)), (2, (V.int .i64 (o0))), (14, (V.int .i64 (o1)))], [(1, .row 3 (o2))]⟩)) := by
 intro n
 induction n with
 | zero => intro a0 a1 a2 a3 a4 r h; cases h
 | succ n ih =>
  intro a0 a1 a2 a3 a4 r h k m hk hm hK
  obtain ⟨m, rfl⟩ : ∃ q, m = q + 1 := ⟨m - 1, by omega⟩
  replace hk : n + 3 ≤ k := by omega
  unfold l_symM_b4 at h
  rcases cnd_some h with ⟨h23, h⟩ | ⟨h23, h⟩
  ·obtain ⟨c24, h⟩ := chk_some h
   obtain ⟨c25, h⟩ := chk_some h
   obtain ⟨e26_0, g26, h⟩ := bnd_some h
   replace g26 := as_i64_some g26
   obtain ⟨c27, h⟩ := chk_some h
   obtain ⟨e28_0, g28, h⟩ := bnd_some h
   replace g28 := as_i64_some g28
   obtain ⟨y29_0, q29, h⟩ := bnd_some h
   rcases cnd_some h with ⟨h30, h⟩ | ⟨h30, h⟩
   ·refine pNext_by [.b true, .v (V.int .i64 (e26_0)), .v (V.int .i64 (e28_0)), .v (V.int .i64 (y29_0)), .b false] (AI h23 (AI c24 (AI c25 (AI g26 (AI c27 (AI g28 (AI (w_impl_byWidth_1 q29 k (by omega)) (AI (not_f h30) trivial)))))))) (ih _ _ _ _ _ _ h k m hk (by omega) hK) ?_
    kernel_rfl
   ·refine pNext_by [.b true, .v (V.int .i64 (e26_0)), .v (V.int .i64 (e28_0)), .v (V.int .i64 (y29_0)), .b true] (AI h23 (AI c24 (AI c25 (AI g26 (AI c27 (AI g28 (AI (w_impl_byWidth_1 q29 k (by omega)) (AI (not_t h30) trivial)))))))) (ih _ _ _ _ _ _ h k m hk (by omega) hK) ?_
    kernel_rfl
  ·cases h
   refine pLast_by [.b false] (AI h23 trivial) ?_
   kernel_rfl
theorem lw_symM_b6 {self : (List V) → (Int) → (Int) → (Int) → (List V) → Option (List V)} {K : Nat} (hself : ∀ {a0 : List V} {a1 : Int} {a2 : Int} {a3 : Int} {a4 : List V} {z0 : List V}, self a0 a1 a2 a3 a4 = some z0 → ∀ k, K ≤ k → sem E k (ruBase + 94) [(V.fresh 3 (a0)), (V.int .i64 (a1)), (V.int .i64 (a2)), (V.int .i64 (a3)), (V.clo 74 [(V.ref [(V.sl (a4))] 0 (0) 1)])] = some (V.fresh 3 (z0))) : ∀ (n : Nat) (a0 : Int) (a1 : Int) (a2 : List V) (r : List V), l_symM_b6 self n a0 a1 a2 = some r → ∀ k m, n + 3 ≤ k → n ≤ m → K ≤ k → LB E 94 6 k m ⟨[(0, (V.row 1)), (14, (V.int .i64 (a0))), (17, (V.int .i64 (a1)))], [(1, .row 3 (a2))]⟩ = some (match r with | o0 => (.normal, ⟨[(0, (V.row 1))], [(1, .row 3 (o0))]⟩)) := by
 intro n
 induction n with
 | zero => intro a0 a1 a2 r h; cases h
 | succ n ih =>
  intro a0 a1 a2 r h k m hk hm hK
  obtain ⟨m, rfl⟩ : ∃ q, m = q + 1 := ⟨m - 1, by omega⟩
  replace hk : n + 3 ≤ k := by omega
  unfold l_symM_b6 at h
  rcases cnd_some h with ⟨h33, h⟩ | ⟨h33, h⟩
  ·obtain ⟨c34, h⟩ := chk_some h
   obtain ⟨e35_0, g35, h⟩ := bnd_some h
   replace g35 := as_i64_some g35
   obtain ⟨c36, h⟩ := chk_some h
   obtain ⟨e37_0, g37, h⟩ := bnd_some h
   replace g37 := as_i64_some g37
   obtain ⟨e38_0, g38, h⟩ := bnd_some h
   replace g38 := as_i64_some g38
   obtain ⟨c39, h⟩ := chk_some h
   obtain ⟨e40_0, g40, h⟩ := bnd_some h
   replace g40 := as_i64_some g40
   refine pNext_by [.b true, .v (V.int .i64 (e35_0)), .v (V.int .i64 (e37_0)), .v (V.int .i64 (e38_0)), .v (V.int .i64 (e40_0))] (AI h33 (AI c34 (AI g35 (AI c36 (AI g37 (AI c36 (AI g38 (AI c39 (AI g40 trivial))))))))) (ih _ _ _ _ h k m hk (by omega) hK) ?_
   kernel_rfl
  ·cases h
   refine pLast_by [.b false] (AI h33 trivial) ?_
   kernel_rfl
theorem lw_symM_b8 {self : (List V) → (Int) → (Int) → (Int) → (List V) → Option (List V)} {K : Nat} (hself : ∀ {a0 : List V} {a1 : Int} {a2 : Int} {a3 : Int} {a4 : List V} {z0 : List V}, self a0 a1 a2 a3 a4 = some z0 → ∀ k, K ≤ k → sem E k (ruBase + 94) [(V.fresh 3 (a0)), (V.int .i64 (a1)), (V.int .i64 (a2)), (V.int .i64 (a3)), (V.clo 74 [(V.ref [(V.sl (a4))] 0 (0) 1)])] = some (V.fresh 3 (z0))) : ∀ (n : Nat) (a0 : Int) (a1 : Int) (a2 : Int) (a3 : List V) (a4 : Int) (a5 : Int) (a6 : Int) (a7 : Int) (a8 : Int) (a9 : List V) (r : Int × Int × Int × List V × Int × Int × Int × List V), l_symM_b8 self n a0 a1 a2 a3 a4 a5 a6 a7 a8 a9 = some r → ∀ k m, n + 3 ≤ k → n ≤ m → K ≤ k → LB E 94 8 k m ⟨[(0, (V.row 1)), (1, (V.int .i64 (a0))), (2, (V.int .i64 (a1))), (3, (V.int .i64 (a2))), (4, (V.clo 74 [(V.ref [(V.sl (a3))] 0 (0) 1)])), (18, (V.int .i64 (a4))), (19, (V.int .i64 (a5))), (20, (V.int .i64 (a6))), (21, (V.int .i64 (a7))), (22, (V.int .i64 (a8)))], [(1, .row 3 (a9))]⟩ = some (match r with | (o0, o1, o2, o3, o4, o5, o6, o7) => (.normal, ⟨[(0, (V.row 1)), (1, (V.int .i64 (o0))), (2, (V.int .i64 (o1))), (3, (V.int .i64 (o2))), (4, (V.clo 74 [(V.ref [(V.sl (o3))] 0 (0) 1)])), (18, (V.int .i64 (o4))), (19, (V.int .i64 (o5))), (20, (V.int .i64 (o6)))], [(1, .row 3 (o7))]⟩)) := by
 intro n
 induction n with
 | zero => intro a0 a1 a2 a3 a4 a5 a6 a7 a8 a9 r h; cases h
 | succ n ih =>
  intro a0 a1 a2 a3 a4 a5 a6 a7 a8 a9 r h k m hk hm hK
  obtain ⟨m, rfl⟩ : ∃ q, m = q + 1 := ⟨m - 1, by omega⟩
  replace hk : n + 3 ≤ k := by omega
  unfold l_symM_b8 at h
  rcases cnd_some h with ⟨h45, h⟩ | ⟨h45, h⟩
  ·obtain ⟨c46, h⟩ := chk_some h
   obtain ⟨c47, h⟩ := chk_some h
   obtain ⟨e48_0, g48, h⟩ := bnd_some h
   replace g48 := as_i64_some g48
   obtain ⟨c49, h⟩ := chk_some h
   obtain ⟨e50_0, g50, h⟩ := bnd_some h
   replace g50 := as_i64_some g50
   obtain ⟨y51_0, q51, h⟩ := bnd_some h
   rcases cnd_some h with ⟨h52, h⟩ | ⟨h52, h⟩
   ·refine pNext_by [.b true, .v (V.int .i64 (e48_0)), .v (V.int .i64 (e50_0)), .v (V.int .i64 (y51_0)), .b false] (AI h45 (AI c46 (AI c47 (AI g48 (AI c49 (AI g50 (AI (w_impl_byWidth_1 q51 k (by omega)) (AI (not_f h52) trivial)))))))) (ih _ _ _ _ _ _ _ _ _ _ _ h k m hk (by omega) hK) ?_
    kernel_rfl
   ·refine pNext_by [.b true, .v (V.int .i64 (e48_0)), .v (V.int .i64 (e50_0)), .v (V.int .i64 (y51_0)), .b true] (AI h45 (AI c46 (AI c47 (AI g48 (AI c49 (AI g50 (AI (w_impl_byWidth_1 q51 k (by omega)) (AI (not_t h52) trivial)))))))) (ih _ _ _ _ _ _ _ _ _ _ _ h k m hk (by omega) hK) ?_
    kernel_rfl
  ·cases h
   refine pLast_by [.b false] (AI h45 trivial) ?_
   kernel_rfl
theorem w_symM {n : Nat} {a0 : List V} {a1 : Int} {a2 : Int} {a3 : Int} {a4 : List V} {z0 : List V} (h : s_symM n a0 a1 a2 a3 a4 = some z0) : ∀ k, n + 4 ≤ k → sem E k (ruBase + 94) [(V.fresh 3 (a0)), (V.int .i64 (a1)), (V.int .i64 (a2)), (V.int .i64 (a3)), (V.clo 74 [(V.ref [(V.sl (a4))] 0 (0) 1)])] = some (V.fresh 3 (z0)) := by
 induction n generalizing a0 a1 a2 a3 a4 z0 with
 | zero => cases h
 | succ n ih =>
  intro k hk
  obtain ⟨k, rfl⟩ : ∃ q, k = q + 1 := ⟨k - 1, by omega⟩
  replace hk : n + 4 ≤ k := by omega
  unfold s_symM at h
  rcases cnd_some h with ⟨h1, h⟩ | ⟨h1, h⟩
  ·obtain ⟨⟨u10_0, u10_1, u10_2⟩, l10, h⟩ := bnd_some h
   obtain ⟨u20_0, l20, h⟩ := bnd_some h
   obtain rfl := Option.some.inj h
   refine pRu_by [.b true, .l .normal ⟨[(0, (V.row 1)), (1, (V.int .i64 (u10_0))), (10, (V.int .i64 (u10_1)))], [(1, .row 3 (u10_2))]⟩, .l .normal ⟨[(0, (V.row 1))], [(1, .row 3 (u20_0))]⟩] rfl rfl rfl rfl rfl (AI h1 (AI (lw_symM_b0 ih _ _ _ _ _ _ _ l10 k k (by omega) (by omega) (by omega)) (AI (lw_symM_b2 ih _ _ _ _ _ l20 k k (by omega) (by omega) (by omega)) trivial))) ?_
   kernel_rfl
  ·rcases cnd_some h with ⟨h22, h⟩ | ⟨h22, h⟩
   ·obtain ⟨⟨u31_0, u31_1, u31_2⟩, l31, h⟩ := bnd_some h
    obtain ⟨u41_0, l41, h⟩ := bnd_some h
    obtain rfl := Option.some.inj h
    refine pRu_by [.b false, .b true, .l .normal ⟨[(0, (V.row 1)), (2, (V.int .i64 (u31_0))), (14, (V.int .i64 (u31_1)))], [(1, .row 3 (u31_2))]⟩, .l .normal ⟨[(0, (V.row 1))], [(1, .row 3 (u41_0))]⟩] rfl rfl rfl rfl rfl (AI h1 (AI h22 (AI (lw_symM_b4 ih _ _ _ _ _ _ _ l31 k k (by omega) (by omega) (by omega)) (AI (lw_symM_b6 ih _ _ _ _ _ l41 k k (by omega) (by omega) (by omega)) trivial)))) ?_
    kernel_rfl
   ·obtain ⟨c43, h⟩ := chk_some h
    rcases cnd_some h with ⟨h44, h⟩ | ⟨h44, h⟩
    ·obtain ⟨⟨u53_0, u53_1, u53_2, u53_3, u53_4, u53_5, u53_6, u53_7⟩, l53, h⟩ := bnd_some h
     rcases cnd_some h with ⟨h55, h⟩ | ⟨h55, h⟩
     ·rcases cnd_some h with ⟨h56, h⟩ | ⟨h56, h⟩
      ·obtain ⟨y57_0, q57, h⟩ := bnd_some h
       obtain ⟨c58, h⟩ := chk_some h
       rcases cnd_some h with ⟨h59, h⟩ | ⟨h59, h⟩
       ·rcases cnd_some h with ⟨h60, h⟩ | ⟨h60, h⟩
        ·obtain ⟨y61_0, q61, h⟩ := bnd_some h
         obtain ⟨c62, h⟩ := chk_some h
         rcases cnd_some h with ⟨h63, h⟩ | ⟨h63, h⟩
         ·rcases cnd_some h with ⟨h64, h⟩ | ⟨h64, h⟩
          ·obtain ⟨y65_0, q65, h⟩ := bnd_some h
           obtain ⟨c66, h⟩ := chk_some h
           obtain rfl := Option.some.inj h
           refine pRu_by [.b false, .b false, .b true, .l .normal ⟨[(0, (V.row 1)), (1, (V.int .i64 (u53_0))), (2, (V.int .i64 (u53_1))), (3, (V.int .i64 (u53_2))), (4, (V.clo 74 [(V.ref [(V.sl (u53_3))] 0 (0) 1)])), (18, (V.int .i64 (u53_4))), (19, (V.int .i64 (u53_5))), (20, (V.int .i64 (u53_6)))], [(1, .row 3 (u53_7))]⟩, .b true, .b true, .v (V.fresh 3 (y57_0)), .b true, .b true, .v (V.fresh 3 (y61_0)), .b true, .b true, .v (V.fresh 3 (y65_0))] rfl rfl rfl rfl rfl (AI h1 (AI h22 (AI c43 (AI h44 (AI (lw_symM_b8 ih _ _ _ _ _ _ _ _ _ _ _ _ l53 k k (by omega) (by omega) (by omega)) (AI h55 (AI h56 (AI (w_rotC q57 k (by omega)) (AI c58 (AI h59 (AI h60 (AI (ih q61 k (by omega)) (AI c62 (AI h63 (AI h64 (AI (ih q65 k (by omega)) (AI c66 trivial))))))))))))))))) ?_
           kernel_rfl
          ·obtain rfl := Option.some.inj h
           refine pRu_by [.b false, .b false, .b true, .l .normal ⟨[(0, (V.row 1)), (1, (V.int .i64 (u53_0))), (2, (V.int .i64 (u53_1))), (3, (V.int .i64 (u53_2))), (4, (V.clo 74 [(V.ref [(V.sl (u53_3))] 0 (0) 1)])), (18, (V.int .i64 (u53_4))), (19, (V.int .i64 (u53_5))), (20, (V.int .i64 (u53_6)))], [(1, .row 3 (u53_7))]⟩, .b true, .b true, .v (V.fresh 3 (y57_0)), .b true, .b true, .v (V.fresh 3 (y61_0)), .b true, .b false] rfl rfl rfl rfl rfl (AI h1 (AI h22 (AI c43 (AI h44 (AI (lw_symM_b8 ih _ _ _ _ _ _ _ _ _ _ _ _ l53 k k (by omega) (by omega) (by omega)) (AI h55 (AI h56 (AI (w_rotC q57 k (by omega)) (AI c58 (AI h59 (AI h60 (AI (ih q61 k (by omega)) (AI c62 (AI h63 (AI h64 trivial))))))))))))))) ?_
           kernel_rfl
         ·obtain rfl := Option.some.inj h
          refine pRu_by [.b false, .b false, .b true, .l .normal ⟨[(0, (V.row 1)), (1, (V.int .i64 (u53_0))), (2, (V.int .i64 (u53_1))), (3, (V.int .i64 (u53_2))), (4, (V.clo 74 [(V.ref [(V.sl (u53_3))] 0 (0) 1)])), (18, (V.int .i64 (u53_4))), (19, (V.int .i64 (u53_5))), (20, (V.int .i64 (u53_6)))], [(1, .row 3 (u53_7))]⟩, .b true, .b true, .v (V.fresh 3 (y57_0)), .b true, .b true, .v (V.fresh 3 (y61_0)), .b false, .b false] rfl rfl rfl rfl rfl (AI h1 (AI h22 (AI c43 (AI h44 (AI (lw_symM_b8 ih _ _ _ _ _ _ _ _ _ _ _ _ l53 k k (by omega) (by omega) (by omega)) (AI h55 (AI h56 (AI (w_rotC q57 k (by omega)) (AI c58 (AI h59 (AI h60 (AI (ih q61 k (by omega)) (AI c62 (AI h63 (AI (Eq.refl false) trivial))))))))))))))) ?_
          kernel_rfl
        ·rcases cnd_some h with ⟨h67, h⟩ | ⟨h67, h⟩
         ·rcases cnd_some h with ⟨h68, h⟩ | ⟨h68, h⟩
          ·obtain ⟨y69_0, q69, h⟩ := bnd_some h
           obtain ⟨c70, h⟩ := chk_some h
           obtain rfl := Option.some.inj h
           refine pRu_by [.b false, .b false, .b true, .l .normal ⟨[(0, (V.row 1)), (1, (V.int .i64 (u53_0))), (2, (V.int .i64 (u53_1))), (3, (V.int .i64 (u53_2))), (4, (V.clo 74 [(V.ref [(V.sl (u53_3))] 0 (0) 1)])), (18, (V.int .i64 (u53_4))), (19, (V.int .i64 (u53_5))), (20, (V.int .i64 (u53_6)))], [(1, .row 3 (u53_7))]⟩, .b true, .b true, .v (V.fresh 3 (y57_0)), .b true, .b false, .b true, .b true, .v (V.fresh 3 (y69_0))] rfl rfl rfl rfl rfl (AI h1 (AI h22 (AI c43 (AI h44 (AI (lw_symM_b8 ih _ _ _ _ _ _ _ _ _ _ _ _ l53 k k (by omega) (by omega) (by omega)) (AI h55 (AI h56 (AI (w_rotC q57 k (by omega)) (AI c58 (AI h59 (AI h60 (AI h67 (AI h68 (AI (ih q69 k (by omega)) (AI c70 trivial))))))))))))))) ?_
           kernel_rfl
          ·obtain rfl := Option.some.inj h
           refine pRu_by [.b false, .b false, .b true, .l .normal ⟨[(0, (V.row 1)), (1, (V.int .i64 (u53_0))), (2, (V.int .i64 (u53_1))), (3, (V.int .i64 (u53_2))), (4, (V.clo 74 [(V.ref [(V.sl (u53_3))] 0 (0) 1)])), (18, (V.int .i64 (u53_4))), (19, (V.int .i64 (u53_5))), (20, (V.int .i64 (u53_6)))], [(1, .row 3 (u53_7))]⟩, .b true, .b true, .v (V.fresh 3 (y57_0)), .b true, .b false, .b true, .b false] rfl rfl rfl rfl rfl (AI h1 (AI h22 (AI c43 (AI h44 (AI (lw_symM_b8 ih _ _ _ _ _ _ _ _ _ _ _ _ l53 k k (by omega) (by omega) (by omega)) (AI h55 (AI h56 (AI (w_rotC q57 k (by omega)) (AI c58 (AI h59 (AI h60 (AI h67 (AI h68 trivial))))))))))))) ?_
           kernel_rfl
         ·obtain rfl := Option.some.inj h
          refine pRu_by [.b false, .b false, .b true, .l .normal ⟨[(0, (V.row 1)), (1, (V.int .i64 (u53_0))), (2, (V.int .i64 (u53_1))), (3, (V.int .i64 (u53_2))), (4, (V.clo 74 [(V.ref [(V.sl (u53_3))] 0 (0) 1)])), (18, (V.int .i64 (u53_4))), (19, (V.int .i64 (u53_5))), (20, (V.int .i64 (u53_6)))], [(1, .row 3 (u53_7))]⟩, .b true, .b true, .v (V.fresh 3 (y57_0)), .b true, .b false, .b false, .b false] rfl rfl rfl rfl rfl (AI h1 (AI h22 (AI c43 (AI h44 (AI (lw_symM_b8 ih _ _ _ _ _ _ _ _ _ _ _ _ l53 k k (by omega) (by omega) (by omega)) (AI h55 (AI h56 (AI (w_rotC q57 k (by omega)) (AI c58 (AI h59 (AI h60 (AI h67 (AI (Eq.refl false) trivial))))))))))))) ?_
          kernel_rfl
       ·rcases cnd_some h with ⟨h71, h⟩ | ⟨h71, h⟩
        ·rcases cnd_some h with ⟨h72, h⟩ | ⟨h72, h⟩
         ·obtain ⟨y73_0, q73, h⟩ := bnd_some h
          obtain ⟨c74, h⟩ := chk_some h
          obtain rfl := Option.some.inj h
          refine pRu_by [.b false, .b false, .b true, .l .normal ⟨[(0, (V.row 1)), (1, (V.int .i64 (u53_0))), (2, (V.int .i64 (u53_1))), (3, (V.int .i64 (u53_2))), (4, (V.clo 74 [(V.ref [(V.sl (u53_3))] 0 (0) 1)])), (18, (V.int .i64 (u53_4))), (19, (V.int .i64 (u53_5))), (20, (V.int .i64 (u53_6)))], [(1, .row 3 (u53_7))]⟩, .b true, .b true, .v (V.fresh 3 (y57_0)), .b false, .b false, .b true, .b true, .v (V.fresh 3 (y73_0))] rfl rfl rfl rfl rfl (AI h1 (AI h22 (AI c43 (AI h44 (AI (lw_symM_b8 ih _ _ _ _ _ _ _ _ _ _ _ _ l53 k k (by omega) (by omega) (by omega)) (AI h55 (AI h56 (AI (w_rotC q57 k (by omega)) (AI c58 (AI h59 (AI (Eq.refl false) (AI h71 (AI h72 (AI (ih q73 k (by omega)) (AI c74 trivial))))))))))))))) ?_
          kernel_rfl
         ·obtain rfl := Option.some.inj h
          refine pRu_by [.b false, .b false, .b true, .l .normal ⟨[(0, (V.row 1)), (1, (V.int .i64 (u53_0))), (2, (V.int .i64 (u53_1))), (3, (V.int .i64 (u53_2))), (4, (V.clo 74 [(V.ref [(V.sl (u53_3))] 0 (0) 1)])), (18, (V.int .i64 (u53_4))), (19, (V.int .i64 (u53_5))), (20, (V.int .i64 (u53_6)))], [(1, .row 3 (u53_7))]⟩, .b true, .b true, .v (V.fresh 3 (y57_0)), .b false, .b false, .b true, .b false] rfl rfl rfl rfl rfl (AI h1 (AI h22 (AI c43 (AI h44 (AI (lw_symM_b8 ih _ _ _ _ _ _ _ _ _ _ _ _ l53 k k (by omega) (by omega) (by omega)) (AI h55 (AI h56 (AI (w_rotC q57 k (by omega)) (AI c58 (AI h59 (AI (Eq.refl false) (AI h71 (AI h72 trivial))))))))))))) ?_
          kernel_rfl
        ·obtain rfl := Option.some.inj h
         refine pRu_by [.b false, .b false, .b true, .l .normal ⟨[(0, (V.row 1)), (1, (V.int .i64 (u53_0))), (2, (V.int .i64 (u53_1))), (3, (V.int .i64 (u53_2))), (4, (V.clo 74 [(V.ref [(V.sl (u53_3))] 0 (0) 1)])), (18, (V.int .i64 (u53_4))), (19, (V.int .i64 (u53_5))), (20, (V.int .i64 (u53_6)))], [(1, .row 3 (u53_7))]⟩, .b true, .b true, .v (V.fresh 3 (y57_0)), .b false, .b false, .b false, .b false] rfl rfl rfl rfl rfl (AI h1 (AI h22 (AI c43 (AI h44 (AI (lw_symM_b8 ih _ _ _ _ _ _ _ _ _ _ _ _ l53 k k (by omega) (by omega) (by omega)) (AI h55 (AI h56 (AI (w_rotC q57 k (by omega)) (AI c58 (AI h59 (AI (Eq.refl false) (AI h71 (AI (Eq.refl false) trivial))))))))))))) ?_
         kernel_rfl
      ·rcases cnd_some h with ⟨h75, h⟩ | ⟨h75, h⟩
       ·rcases cnd_some h with ⟨h76, h⟩ | ⟨h76, h⟩
        ·obtain ⟨y77_0, q77, h⟩ := bnd_some h
         obtain ⟨c78, h⟩ := chk_some h
         rcases cnd_some h with ⟨h79, h⟩ | ⟨h79, h⟩
         ·rcases cnd_some h with ⟨h80, h⟩ | ⟨h80, h⟩
          ·obtain ⟨y81_0, q81, h⟩ := bnd_some h
           obtain ⟨c82, h⟩ := chk_some h
           obtain rfl := Option.some.inj h
           refine pRu_by [.b false, .b false, .b true, .l .normal ⟨[(0, (V.row 1)), (1, (V.int .i64 (u53_0))), (2, (V.int .i64 (u53_1))), (3, (V.int .i64 (u53_2))), (4, (V.clo 74 [(V.ref [(V.sl (u53_3))] 0 (0) 1)])), (18, (V.int .i64 (u53_4))), (19, (V.int .i64 (u53_5))), (20, (V.int .i64 (u53_6)))], [(1, .row 3 (u53_7))]⟩, .b true, .b false, .b true, .b true, .v (V.fresh 3 (y77_0)), .b true, .b true, .v (V.fresh 3 (y81_0))] rfl rfl rfl rfl rfl (AI h1 (AI h22 (AI c43 (AI h44 (AI (lw_symM_b8 ih _ _ _ _ _ _ _ _ _ _ _ _ l53 k k (by omega) (by omega) (by omega)) (AI h55 (AI h56 (AI h75 (AI h76 (AI (ih q77 k (by omega)) (AI c78 (AI h79 (AI h80 (AI (ih q81 k (by omega)) (AI c82 trivial))))))))))))))) ?_
           kernel_rfl
          ·obtain rfl := Option.some.inj h
           refine pRu_by [.b false, .b false, .b true, .l .normal ⟨[(0, (V.row 1)), (1, (V.int .i64 (u53_0))), (2, (V.int .i64 (u53_1))), (3, (V.int .i64 (u53_2))), (4, (V.clo 74 [(V.ref [(V.sl (u53_3))] 0 (0) 1)])), (18, (V.int .i64 (u53_4))), (19, (V.int .i64 (u53_5))), (20, (V.int .i64 (u53_6)))], [(1, .row 3 (u53_7))]⟩, .b true, .b false, .b true, .b true, .v (V.fresh 3 (y77_0)), .b true, .b false] rfl rfl rfl rfl rfl (AI h1 (AI h22 (AI c43 (AI h44 (AI (lw_symM_b8 ih _ _ _ _ _ _ _ _ _ _ _ _ l53 k k (by omega) (by omega) (by omega)) (AI h55 (AI h56 (AI h75 (AI h76 (AI (ih q77 k (by omega)) (AI c78 (AI h79 (AI h80 trivial))))))))))))) ?_
           kernel_rfl
         ·obtain rfl := Option.some.inj h
          refine pRu_by [.b false, .b false, .b true, .l .normal ⟨[(0, (V.row 1)), (1, (V.int .i64 (u53_0))), (2, (V.int .i64 (u53_1))), (3, (V.int .i64 (u53_2))), (4, (V.clo 74 [(V.ref [(V.sl (u53_3))] 0 (0) 1)])), (18, (V.int .i64 (u53_4))), (19, (V.int .i64 (u53_5))), (20, (V.int .i64 (u53_6)))], [(1, .row 3 (u53_7))]⟩, .b true, .b false, .b true, .b true, .v (V.fresh 3 (y77_0)), .b false, .b false] rfl rfl rfl rfl rfl (AI h1 (AI h22 (AI c43 (AI h44 (AI (lw_symM_b8 ih _ _ _ _ _ _ _ _ _ _ _ _ l53 k k (by omega) (by omega) (by omega)) (AI h55 (AI h56 (AI h75 (AI h76 (AI (ih q77 k (by omega)) (AI c78 (AI h79 (AI (Eq.refl false) trivial))))))))))))) ?_
          kernel_rfl
        ·rcases cnd_some h with ⟨h83, h⟩ | ⟨h83, h⟩
         ·rcases cnd_some h with ⟨h84, h⟩ | ⟨h84, h⟩
          ·obtain ⟨y85_0, q85, h⟩ := bnd_some h
           obtain ⟨c86, h⟩ := chk_some h
           obtain rfl := Option.some.inj h
           refine pRu_by [.b false, .b false, .b true, .l .normal ⟨[(0, (V.row 1)), (1, (V.int .i64 (u53_0))), (2, (V.int .i64 (u53_1))), (3, (V.int .i64 (u53_2))), (4, (V.clo 74 [(V.ref [(V.sl (u53_3))] 0 (0) 1)])), (18, (V.int .i64 (u53_4))), (19, (V.int .i64 (u53_5))), (20, (V.int .i64 (u53_6)))], [(1, .row 3 (u53_7))]⟩, .b true, .b false, .b true, .b false, .b true, .b true, .v (V.fresh 3 (y85_0))] rfl rfl rfl rfl rfl (AI h1 (AI h22 (AI c43 (AI h44 (AI (lw_symM_b8 ih _ _ _ _ _ _ _ _ _ _ _ _ l53 k k (by omega) (by omega) (by omega)) (AI h55 (AI h56 (AI h75 (AI h76 (AI h83 (AI h84 (AI (ih q85 k (by omega)) (AI c86 trivial))))))))))))) ?_
           kernel_rfl
          ·obtain rfl := Option.some.inj h
           refine pRu_by [.b false, .b false, .b true, .l .normal ⟨[(0, (V.row 1)), (1, (V.int .i64 (u53_0))), (2, (V.int .i64 (u53_1))), (3, (V.int .i64 (u53_2))), (4, (V.clo 74 [(V.ref [(V.sl (u53_3))] 0 (0) 1)])), (18, (V.int .i64 (u53_4))), (19, (V.int .i64 (u53_5))), (20, (V.int .i64 (u53_6)))], [(1, .row 3 (u53_7))]⟩, .b true, .b false, .b true, .b false, .b true, .b false] rfl rfl rfl rfl rfl (AI h1 (AI h22 (AI c43 (AI h44 (AI (lw_symM_b8 ih _ _ _ _ _ _ _ _ _ _ _ _ l53 k k (by omega) (by omega) (by omega)) (AI h55 (AI h56 (AI h75 (AI h76 (AI h83 (AI h84 trivial))))))))))) ?_
           kernel_rfl
         ·obtain rfl := Option.some.inj h
          refine pRu_by [.b false, .b false, .b true, .l .normal ⟨[(0, (V.row 1)), (1, (V.int .i64 (u53_0))), (2, (V.int .i64 (u53_1))), (3, (V.int .i64 (u53_2))), (4, (V.clo 74 [(V.ref [(V.sl (u53_3))] 0 (0) 1)])), (18, (V.int .i64 (u53_4))), (19, (V.int .i64 (u53_5))), (20, (V.int .i64 (u53_6)))], [(1, .row 3 (u53_7))]⟩, .b true, .b false, .b true, .b false, .b false, .b false] rfl rfl rfl rfl rfl (AI h1 (AI h22 (AI c43 (AI h44 (AI (lw_symM_b8 ih _ _ _ _ _ _ _ _ _ _ _ _ l53 k k (by omega) (by omega) (by omega)) (AI h55 (AI h56 (AI h75 (AI h76 (AI h83 (AI (Eq.refl false) trivial))))))))))) ?_
          kernel_rfl
       ·rcases cnd_some h with ⟨h87, h⟩ | ⟨h87, h⟩
        ·rcases cnd_some h with ⟨h88, h⟩ | ⟨h88, h⟩
         ·obtain ⟨y89_0, q89, h⟩ := bnd_some h
          obtain ⟨c90, h⟩ := chk_some h
          obtain rfl := Option.some.inj h
          refine pRu_by [.b false, .b false, .b true, .l .normal ⟨[(0, (V.row 1)), (1, (V.int .i64 (u53_0))), (2, (V.int .i64 (u53_1))), (3, (V.int .i64 (u53_2))), (4, (V.clo 74 [(V.ref [(V.sl (u53_3))] 0 (0) 1)])), (18, (V.int .i64 (u53_4))), (19, (V.int .i64 (u53_5))), (20, (V.int .i64 (u53_6)))], [(1, .row 3 (u53_7))]⟩, .b true, .b false, .b false, .b false, .b true, .b true, .v (V.fresh 3 (y89_0))] rfl rfl rfl rfl rfl (AI h1 (AI h22 (AI c43 (AI h44 (AI (lw_symM_b8 ih _ _ _ _ _ _ _ _ _ _ _ _ l53 k k (by omega) (by omega) (by omega)) (AI h55 (AI h56 (AI h75 (AI (Eq.refl false) (AI h87 (AI h88 (AI (ih q89 k (by omega)) (AI c90 trivial))))))))))))) ?_
          kernel_rfl
         ·obtain rfl := Option.some.inj h
          refine pRu_by [.b false, .b false, .b true, .l .normal ⟨[(0, (V.row 1)), (1, (V.int .i64 (u53_0))), (2, (V.int .i64 (u53_1))), (3, (V.int .i64 (u53_2))), (4, (V.clo 74 [(V.ref [(V.sl (u53_3))] 0 (0) 1)])), (18, (V.int .i64 (u53_4))), (19, (V.int .i64 (u53_5))), (20, (V.int .i64 (u53_6)))], [(1, .row 3 (u53_7))]⟩, .b true, .b false, .b false, .b false, .b true, .b false] rfl rfl rfl rfl rfl (AI h1 (AI h22 (AI c43 (AI h44 (AI (lw_symM_b8 ih _ _ _ _ _ _ _ _ _ _ _ _ l53 k k (by omega) (by omega) (by omega)) (AI h55 (AI h56 (AI h75 (AI (Eq.refl false) (AI h87 (AI h88 trivial))))))))))) ?_
          kernel_rfl
        ·obtain rfl := Option.some.inj h
         refine pRu_by [.b false, .b false, .b true, .l .normal ⟨[(0, (V.row 1)), (1, (V.int .i64 (u53_0))), (2, (V.int .i64 (u53_1))), (3, (V.int .i64 (u53_2))), (4, (V.clo 74 [(V.ref [(V.sl (u53_3))] 0 (0) 1)])), (18, (V.int .i64 (u53_4))), (19, (V.int .i64 (u53_5))), (20, (V.int .i64 (u53_6)))], [(1, .row 3 (u53_7))]⟩, .b true, .b false, .b false, .b false, .b false, .b false] rfl rfl rfl rfl rfl (AI h1 (AI h22 (AI c43 (AI h44 (AI (lw_symM_b8 ih _ _ _ _ _ _ _ _ _ _ _ _ l53 k k (by omega) (by omega) (by omega)) (AI h55 (AI h56 (AI h75 (AI (Eq.refl false) (AI h87 (AI (Eq.refl false) trivial))))))))))) ?_
         kernel_rfl
     ·rcases cnd_some h with ⟨h91, h⟩ | ⟨h91, h⟩
      ·rcases cnd_some h with ⟨h92, h⟩ | ⟨h92, h⟩
       ·obtain ⟨y93_0, q93, h⟩ := bnd_some h
        obtain ⟨c94, h⟩ := chk_some h
        rcases cnd_some h with ⟨h95, h⟩ | ⟨h95, h⟩
        ·rcases cnd_some h with ⟨h96, h⟩ | ⟨h96, h⟩
         ·obtain ⟨y97_0, q97, h⟩ := bnd_some h
          obtain ⟨c98, h⟩ := chk_some h
          obtain rfl := Option.some.inj h
          refine pRu_by [.b false, .b false, .b true, .l .normal ⟨[(0, (V.row 1)), (1, (V.int .i64 (u53_0))), (2, (V.int .i64 (u53_1))), (3, (V.int .i64 (u53_2))), (4, (V.clo 74 [(V.ref [(V.sl (u53_3))] 0 (0) 1)])), (18, (V.int .i64 (u53_4))), (19, (V.int .i64 (u53_5))), (20, (V.int .i64 (u53_6)))], [(1, .row 3 (u53_7))]⟩, .b false, .b false, .b true, .b true, .v (V.fresh 3 (y93_0)), .b true, .b true, .v (V.fresh 3 (y97_0))] rfl rfl rfl rfl rfl (AI h1 (AI h22 (AI c43 (AI h44 (AI (lw_symM_b8 ih _ _ _ _ _ _ _ _ _ _ _ _ l53 k k (by omega) (by omega) (by omega)) (AI h55 (AI (Eq.refl false) (AI h91 (AI h92 (AI (ih q93 k (by omega)) (AI c94 (AI h95 (AI h96 (AI (ih q97 k (by omega)) (AI c98 trivial))))))))))))))) ?_
          kernel_rfl
         ·obtain rfl := Option.some.inj h
          refine pRu_by [.b false, .b false, .b true, .l .normal ⟨[(0, (V.row 1)), (1, (V.int .i64 (u53_0))), (2, (V.int .i64 (u53_1))), (3, (V.int .i64 (u53_2))), (4, (V.clo 74 [(V.ref [(V.sl (u53_3))] 0 (0) 1)])), (18, (V.int .i64 (u53_4))), (19, (V.int .i64 (u53_5))), (20, (V.int .i64 (u53_6)))], [(1, .row 3 (u53_7))]⟩, .b false, .b false, .b true, .b true, .v (V.fresh 3 (y93_0)), .b true, .b false] rfl rfl rfl rfl rfl (AI h1 (AI h22 (AI c43 (AI h44 (AI (lw_symM_b8 ih _ _ _ _ _ _ _ _ _ _ _ _ l53 k k (by omega) (by omega) (by omega)) (AI h55 (AI (Eq.refl false) (AI h91 (AI h92 (AI (ih q93 k (by omega)) (AI c94 (AI h95 (AI h96 trivial))))))))))))) ?_
          kernel_rfl
        ·obtain rfl := Option.some.inj h
         refine pRu_by [.b false, .b false, .b true, .l .normal ⟨[(0, (V.row 1)), (1, (V.int .i64 (u53_0))), (2, (V.int .i64 (u53_1))), (3, (V.int .i64 (u53_2))), (4, (V.clo 74 [(V.ref [(V.sl (u53_3))] 0 (0) 1)])), (18, (V.int .i64 (u53_4))), (19, (V.int .i64 (u53_5))), (20, (V.int .i64 (u53_6)))], [(1, .row 3 (u53_7))]⟩, .b false, .b false, .b true, .b true, .v (V.fresh 3 (y93_0)), .b false, .b false] rfl rfl rfl rfl rfl (AI h1 (AI h22 (AI c43 (AI h44 (AI (lw_symM_b8 ih _ _ _ _ _ _ _ _ _ _ _ _ l53 k k (by omega) (by omega) (by omega)) (AI h55 (AI (Eq.refl false) (AI h91 (AI h92 (AI (ih q93 k (by omega)) (AI c94 (AI h95 (AI (Eq.refl false) trivial))))))))))))) ?_
         kernel_rfl
       ·rcases cnd_some h with ⟨h99, h⟩ | ⟨h99, h⟩
        ·rcases cnd_some h with ⟨h100, h⟩ | ⟨h100, h⟩
         ·obtain ⟨y101_0, q101, h⟩ := bnd_some h
          obtain ⟨c102, h⟩ := chk_some h
          obtain rfl := Option.some.inj h
          refine pRu_by [.b false, .b false, .b true, .l .normal ⟨[(0, (V.row 1)), (1, (V.int .i64 (u53_0))), (2, (V.int .i64 (u53_1))), (3, (V.int .i64 (u53_2))), (4, (V.clo 74 [(V.ref [(V.sl (u53_3))] 0 (0) 1)])), (18, (V.int .i64 (u53_4))), (19, (V.int .i64 (u53_5))), (20, (V.int .i64 (u53_6)))], [(1, .row 3 (u53_7))]⟩, .b false, .b false, .b true, .b false, .b true, .b true, .v (V.fresh 3 (y101_0))] rfl rfl rfl rfl rfl (AI h1 (AI h22 (AI c43 (AI h44 (AI (lw_symM_b8 ih _ _ _ _ _ _ _ _ _ _ _ _ l53 k k (by omega) (by omega) (by omega)) (AI h55 (AI (Eq.refl false) (AI h91 (AI h92 (AI h99 (AI h100 (AI (ih q101 k (by omega)) (AI c102 trivial))))))))))))) ?_
          kernel_rfl
         ·obtain rfl := Option.some.inj h
          refine pRu_by [.b false, .b false, .b true, .l .normal ⟨[(0, (V.row 1)), (1, (V.int .i64 (u53_0))), (2, (V.int .i64 (u53_1))), (3, (V.int .i64 (u53_2))), (4, (V.clo 74 [(V.ref [(V.sl (u53_3))] 0 (0) 1)])), (18, (V.int .i64 (u53_4))), (19, (V.int .i64 (u53_5))), (20, (V.int .i64 (u53_6)))], [(1, .row 3 (u53_7))]⟩, .b false, .b false, .b true, .b false, .b true, .b false] rfl rfl rfl rfl rfl (AI h1 (AI h22 (AI c43 (AI h44 (AI (lw_symM_b8 ih _ _ _ _ _ _ _ _ _ _ _ _ l53 k k (by omega) (by omega) (by omega)) (AI h55 (AI (Eq.refl false) (AI h91 (AI h92 (AI h99 (AI h100 trivial))))))))))) ?_
          kernel_rfl
        ·obtain rfl := Option.some.inj h
         refine pRu_by [.b false, .b false, .b true, .l .normal ⟨[(0, (V.row 1)), (1, (V.int .i64 (u53_0))), (2, (V.int .i64 (u53_1))), (3, (V.int .i64 (u53_2))), (4, (V.clo 74 [(V.ref [(V.sl (u53_3))] 0 (0) 1)])), (18, (V.int .i64 (u53_4))), (19, (V.int .i64 (u53_5))), (20, (V.int .i64 (u53_6)))], [(1, .row 3 (u53_7))]⟩, .b false, .b false, .b true, .b false, .b false, .b false] rfl rfl rfl rfl rfl (AI h1 (AI h22 (AI c43 (AI h44 (AI (lw_symM_b8 ih _ _ _ _ _ _ _ _ _ _ _ _ l53 k k (by omega) (by omega) (by omega)) (AI h55 (AI (Eq.refl false) (AI h91 (AI h92 (AI h99 (AI (Eq.refl false) trivial))))))))))) ?_
         kernel_rfl
      ·rcases cnd_some h with ⟨h103, h⟩ | ⟨h103, h⟩
       ·rcases cnd_some h with ⟨h104, h⟩ | ⟨h104, h⟩
        ·obtain ⟨y105_0, q105, h⟩ := bnd_some h
         obtain ⟨c106, h⟩ := chk_some h
         obtain rfl := Option.some.inj h
         refine pRu_by [.b false, .b false, .b true, .l .normal ⟨[(0, (V.row 1)), (1, (V.int .i64 (u53_0))), (2, (V.int .i64 (u53_1))), (3, (V.int .i64 (u53_2))), (4, (V.clo 74 [(V.ref [(V.sl (u53_3))] 0 (0) 1)])), (18, (V.int .i64 (u53_4))), (19, (V.int .i64 (u53_5))), (20, (V.int .i64 (u53_6)))], [(1, .row 3 (u53_7))]⟩, .b false, .b false, .b false, .b false, .b true, .b true, .v (V.fresh 3 (y105_0))] rfl rfl rfl rfl rfl (AI h1 (AI h22 (AI c43 (AI h44 (AI (lw_symM_b8 ih _ _ _ _ _ _ _ _ _ _ _ _ l53 k k (by omega) (by omega) (by omega)) (AI h55 (AI (Eq.refl false) (AI h91 (AI (Eq.refl false) (AI h103 (AI h104 (AI (ih q105 k (by omega)) (AI c106 trivial))))))))))))) ?_
         kernel_rfl
        ·obtain rfl := Option.some.inj h
         refine pRu_by [.b false, .b false, .b true, .l .normal ⟨[(0, (V.row 1)), (1, (V.int .i64 (u53_0))), (2, (V.int .i64 (u53_1))), (3, (V.int .i64 (u53_2))), (4, (V.clo 74 [(V.ref [(V.sl (u53_3))] 0 (0) 1)])), (18, (V.int .i64 (u53_4))), (19, (V.int .i64 (u53_5))), (20, (V.int .i64 (u53_6)))], [(1, .row 3 (u53_7))]⟩, .b false, .b false, .b false, .b false, .b true, .b false] rfl rfl rfl rfl rfl (AI h1 (AI h22 (AI c43 (AI h44 (AI (lw_symM_b8 ih _ _ _ _ _ _ _ _ _ _ _ _ l53 k k (by omega) (by omega) (by omega)) (AI h55 (AI (Eq.refl false) (AI h91 (AI (Eq.refl false) (AI h103 (AI h104 trivial))))))))))) ?_
         kernel_rfl
       ·obtain rfl := Option.some.inj h
        refine pRu_by [.b false, .b false, .b true, .l .normal ⟨[(0, (V.row 1)), (1, (V.int .i64 (u53_0))), (2, (V.int .i64 (u53_1))), (3, (V.int .i64 (u53_2))), (4, (V.clo 74 [(V.ref [(V.sl (u53_3))] 0 (0) 1)])), (18, (V.int .i64 (u53_4))), (19, (V.int .i64 (u53_5))), (20, (V.int .i64 (u53_6)))], [(1, .row 3 (u53_7))]⟩, .b false, .b false, .b false, .b false, .b false, .b false] rfl rfl rfl rfl rfl (AI h1 (AI h22 (AI c43 (AI h44 (AI (lw_symM_b8 ih _ _ _ _ _ _ _ _ _ _ _ _ l53 k k (by omega) (by omega) (by omega)) (AI h55 (AI (Eq.refl false) (AI h91 (AI (Eq.refl false) (AI h103 (AI (Eq.refl false) trivial))))))))))) ?_
        kernel_rfl
    ·obtain ⟨⟨u107_0, u107_1, u107_2, u107_3, u107_4, u107_5, u107_6, u107_7⟩, l107, h⟩ := bnd_some h
     rcases cnd_some h with ⟨h109, h⟩ | ⟨h109, h⟩
     ·rcases cnd_some h with ⟨h110, h⟩ | ⟨h110, h⟩
      ·obtain ⟨y111_0, q111, h⟩ := bnd_some h
       obtain ⟨c112, h⟩ := chk_some h
       rcases cnd_some h with ⟨h113, h⟩ | ⟨h113, h⟩
       ·rcases cnd_some h with ⟨h114, h⟩ | ⟨h114, h⟩
        ·obtain ⟨y115_0, q115, h⟩ := bnd_some h
         obtain ⟨c116, h⟩ := chk_some h
         rcases cnd_some h with ⟨h117, h⟩ | ⟨h117, h⟩
         ·rcases cnd_some h with ⟨h118, h⟩ | ⟨h118, h⟩
          ·obtain ⟨y119_0, q119, h⟩ := bnd_some h
           obtain ⟨c120, h⟩ := chk_some h
           obtain rfl := Option.some.inj h
           refine pRu_by [.b false, .b false, .b false, .l .normal ⟨[(0, (V.row 1)), (1, (V.int .i64 (u107_0))), (2, (V.int .i64 (u107_1))), (3, (V.int .i64 (u107_2))), (4, (V.clo 74 [(V.ref [(V.sl (u107_3))] 0 (0) 1)])), (18, (V.int .i64 (u107_4))), (19, (V.int .i64 (u107_5))), (20, (V.int .i64 (u107_6)))], [(1, .row 3 (u107_7))]⟩, .b true, .b true, .v (V.fresh 3 (y111_0)), .b true, .b true, .v (V.fresh 3 (y115_0)), .b true, .b true, .v (V.fresh 3 (y119_0))] rfl rfl rfl rfl rfl (AI h1 (AI h22 (AI c43 (AI h44 (AI (lw_symM_b8 ih _ _ _ _ _ _ _ _ _ _ _ _ l107 k k (by omega) (by omega) (by omega)) (AI h109 (AI h110 (AI (w_rotC q111 k (by omega)) (AI c112 (AI h113 (AI h114 (AI (ih q115 k (by omega)) (AI c116 (AI h117 (AI h118 (AI (ih q119 k (by omega)) (AI c120 trivial))))))))))))))))) ?_
           kernel_rfl
          ·obtain rfl := Option.some.inj h
           refine pRu_by [.b false, .b false, .b false, .l .normal ⟨[(0, (V.row 1)), (1, (V.int .i64 (u107_0))), (2, (V.int .i64 (u107_1))), (3, (V.int .i64 (u107_2))), (4, (V.clo 74 [(V.ref [(V.sl (u107_3))] 0 (0) 1)])), (18, (V.int .i64 (u107_4))), (19, (V.int .i64 (u107_5))), (20, (V.int .i64 (u107_6)))], [(1, .row 3 (u107_7))]⟩, .b true, .b true, .v (V.fresh 3 (y111_0)), .b true, .b true, .v (V.fresh 3 (y115_0)), .b true, .b false] rfl rfl rfl rfl rfl (AI h1 (AI h22 (AI c43 (AI h44 (AI (lw_symM_b8 ih _ _ _ _ _ _ _ _ _ _ _ _ l107 k k (by omega) (by omega) (by omega)) (AI h109 (AI h110 (AI (w_rotC q111 k (by omega)) (AI c112 (AI h113 (AI h114 (AI (ih q115 k (by omega)) (AI c116 (AI h117 (AI h118 trivial))))))))))))))) ?_
           kernel_rfl
         ·obtain rfl := Option.some.inj h
          refine pRu_by [.b false, .b false, .b false, .l .normal ⟨[(0, (V.row 1)), (1, (V.int .i64 (u107_0))), (2, (V.int .i64 (u107_1))), (3, (V.int .i64 (u107_2))), (4, (V.clo 74 [(V.ref [(V.sl (u107_3))] 0 (0) 1)])), (18, (V.int .i64 (u107_4))), (19, (V.int .i64 (u107_5))), (20, (V.int .i64 (u107_6)))], [(1, .row 3 (u107_7))]⟩, .b true, .b true, .v (V.fresh 3 (y111_0)), .b true, .b true, .v (V.fresh 3 (y115_0)), .b false, .b false] rfl rfl rfl rfl rfl (AI h1 (AI h22 (AI c43 (AI h44 (AI (lw_symM_b8 ih _ _ _ _ _ _ _ _ _ _ _ _ l107 k k (by omega) (by omega) (by omega)) (AI h109 (AI h110 (AI (w_rotC q111 k (by omega)) (AI c112 (AI h113 (AI h114 (AI (ih q115 k (by omega)) (AI c116 (AI h117 (AI (Eq.refl false) trivial))))))))))))))) ?_
          kernel_rfl
        ·rcases cnd_some h with ⟨h121, h⟩ | ⟨h121, h⟩
         ·rcases cnd_some h with ⟨h122, h⟩ | ⟨h122, h⟩
          ·obtain ⟨y123_0, q123, h⟩ := bnd_some h
           obtain ⟨c124, h⟩ := chk_some h
           obtain rfl := Option.some.inj h
           refine pRu_by [.b false, .b false, .b false, .l .normal ⟨[(0, (V.row 1)), (1, (V.int .i64 (u107_0))), (2, (V.int .i64 (u107_1))), (3, (V.int .i64 (u107_2))), (4, (V.clo 74 [(V.ref [(V.sl (u107_3))] 0 (0) 1)])), (18, (V.int .i64 (u107_4))), (19, (V.int .i64 (u107_5))), (20, (V.int .i64 (u107_6)))], [(1, .row 3 (u107_7))]⟩, .b true, .b true, .v (V.fresh 3 (y111_0)), .b true, .b false, .b true, .b true, .v (V.fresh 3 (y123_0))] rfl rfl rfl rfl rfl (AI h1 (AI h22 (AI c43 (AI h44 (AI (lw_symM_b8 ih _ _ _ _ _ _ _ _ _ _ _ _ l107 k k (by omega) (by omega) (by omega)) (AI h109 (AI h110 (AI (w_rotC q111 k (by omega)) (AI c112 (AI h113 (AI h114 (AI h121 (AI h122 (AI (ih q123 k (by omega)) (AI c124 trivial))))))))))))))) ?_
           kernel_rfl
          ·obtain rfl := Option.some.inj h
           refine pRu_by [.b false, .b false, .b false, .l .normal ⟨[(0, (V.row 1)), (1, (V.int .i64 (u107_0))), (2, (V.int .i64 (u107_1))), (3, (V.int .i64 (u107_2))), (4, (V.clo 74 [(V.ref [(V.sl (u107_3))] 0 (0) 1)])), (18, (V.int .i64 (u107_4))), (19, (V.int .i64 (u107_5))), (20, (V.int .i64 (u107_6)))], [(1, .row 3 (u107_7))]⟩, .b true, .b true, .v (V.fresh 3 (y111_0)), .b true, .b false, .b true, .b false] rfl rfl rfl rfl rfl (AI h1 (AI h22 (AI c43 (AI h44 (AI (lw_symM_b8 ih _ _ _ _ _ _ _ _ _ _ _ _ l107 k k (by omega) (by omega) (by omega)) (AI h109 (AI h110 (AI (w_rotC q111 k (by omega)) (AI c112 (AI h113 (AI h114 (AI h121 (AI h122 trivial))))))))))))) ?_
           kernel_rfl
         ·obtain rfl := Option.some.inj h
          refine pRu_by [.b false, .b false, .b false, .l .normal ⟨[(0, (V.row 1)), (1, (V.int .i64 (u107_0))), (2, (V.int .i64 (u107_1))), (3, (V.int .i64 (u107_2))), (4, (V.clo 74 [(V.ref [(V.sl (u107_3))] 0 (0) 1)])), (18, (V.int .i64 (u107_4))), (19, (V.int .i64 (u107_5))), (20, (V.int .i64 (u107_6)))], [(1, .row 3 (u107_7))]⟩, .b true, .b true, .v (V.fresh 3 (y111_0)), .b true, .b false, .b false, .b false] rfl rfl rfl rfl rfl (AI h1 (AI h22 (AI c43 (AI h44 (AI (lw_symM_b8 ih _ _ _ _ _ _ _ _ _ _ _ _ l107 k k (by omega) (by omega) (by omega)) (AI h109 (AI h110 (AI (w_rotC q111 k (by omega)) (AI c112 (AI h113 (AI h114 (AI h121 (AI (Eq.refl false) trivial))))))))))))) ?_
          kernel_rfl
       ·rcases cnd_some h with ⟨h125, h⟩ | ⟨h125, h⟩
        ·rcases cnd_some h with ⟨h126, h⟩ | ⟨h126, h⟩
         ·obtain ⟨y127_0, q127, h⟩ := bnd_some h
          obtain ⟨c128, h⟩ := chk_some h
          obtain rfl := Option.some.inj h
          refine pRu_by [.b false, .b false, .b false, .l .normal ⟨[(0, (V.row 1)), (1, (V.int .i64 (u107_0))), (2, (V.int .i64 (u107_1))), (3, (V.int .i64 (u107_2))), (4, (V.clo 74 [(V.ref [(V.sl (u107_3))] 0 (0) 1)])), (18, (V.int .i64 (u107_4))), (19, (V.int .i64 (u107_5))), (20, (V.int .i64 (u107_6)))], [(1, .row 3 (u107_7))]⟩, .b true, .b true, .v (V.fresh 3 (y111_0)), .b false, .b false, .b true, .b true, .v (V.fresh 3 (y127_0))] rfl rfl rfl rfl rfl (AI h1 (AI h22 (AI c43 (AI h44 (AI (lw_symM_b8 ih _ _ _ _ _ _ _ _ _ _ _ _ l107 k k (by omega) (by omega) (by omega)) (AI h109 (AI h110 (AI (w_rotC q111 k (by omega)) (AI c112 (AI h113 (AI (Eq.refl false) (AI h125 (AI h126 (AI (ih q127 k (by omega)) (AI c128 trivial))))))))))))))) ?_
          kernel_rfl
         ·obtain rfl := Option.some.inj h
          refine pRu_by [.b false, .b false, .b false, .l .normal ⟨[(0, (V.row 1)), (1, (V.int .i64 (u107_0))), (2, (V.int .i64 (u107_1))), (3, (V.int .i64 (u107_2))), (4, (V.clo 74 [(V.ref [(V.sl (u107_3))] 0 (0) 1)])), (18, (V.int .i64 (u107_4))), (19, (V.int .i64 (u107_5))), (20, (V.int .i64 (u107_6)))], [(1, .row 3 (u107_7))]⟩, .b true, .b true, .v (V.fresh 3 (y111_0)), .b false, .b false, .b true, .b false] rfl rfl rfl rfl rfl (AI h1 (AI h22 (AI c43 (AI h44 (AI (lw_symM_b8 ih _ _ _ _ _ _ _ _ _ _ _ _ l107 k k (by omega) (by omega) (by omega)) (AI h109 (AI h110 (AI (w_rotC q111 k (by omega)) (AI c112 (AI h113 (AI (Eq.refl false) (AI h125 (AI h126 trivial))))))))))))) ?_
          kernel_rfl
        ·obtain rfl := Option.some.inj h
         refine pRu_by [.b false, .b false, .b false, .l .normal ⟨[(0, (V.row 1)), (1, (V.int .i64 (u107_0))), (2, (V.int .i64 (u107_1))), (3, (V.int .i64 (u107_2))), (4, (V.clo 74 [(V.ref [(V.sl (u107_3))] 0 (0) 1)])), (18, (V.int .i64 (u107_4))), (19, (V.int .i64 (u107_5))), (20, (V.int .i64 (u107_6)))], [(1, .row 3 (u107_7))]⟩, .b true, .b true, .v (V.fresh 3 (y111_0)), .b false, .b false, .b false, .b false] rfl rfl rfl rfl rfl (AI h1 (AI h22 (AI c43 (AI h44 (AI (lw_symM_b8 ih _ _ _ _ _ _ _ _ _ _ _ _ l107 k k (by omega) (by omega) (by omega)) (AI h109 (AI h110 (AI (w_rotC q111 k (by omega)) (AI c112 (AI h113 (AI (Eq.refl false) (AI h125 (AI (Eq.refl false) trivial))))))))))))) ?_
         kernel_rfl
      ·rcases cnd_some h with ⟨h129, h⟩ | ⟨h129, h⟩
       ·rcases cnd_some h with ⟨h130, h⟩ | ⟨h130, h⟩
        ·obtain ⟨y131_0, q131, h⟩ := bnd_some h
         obtain ⟨c132, h⟩ := chk_some h
         rcases cnd_some h with ⟨h133, h⟩ | ⟨h133, h⟩
         ·rcases cnd_some h with ⟨h134, h⟩ | ⟨h134, h⟩
          ·obtain ⟨y135_0, q135, h⟩ := bnd_some h
           obtain ⟨c136, h⟩ := chk_some h
           obtain rfl := Option.some.inj h
           refine pRu_by [.b false, .b false, .b false, .l .normal ⟨[(0, (V.row 1)), (1, (V.int .i64 (u107_0))), (2, (V.int .i64 (u107_1))), (3, (V.int .i64 (u107_2))), (4, (V.clo 74 [(V.ref [(V.sl (u107_3))] 0 (0) 1)])), (18, (V.int .i64 (u107_4))), (19, (V.int .i64 (u107_5))), (20, (V.int .i64 (u107_6)))], [(1, .row 3 (u107_7))]⟩, .b true, .b false, .b true, .b true, .v (V.fresh 3 (y131_0)), .b true, .b true, .v (V.fresh 3 (y135_0))] rfl rfl rfl rfl rfl (AI h1 (AI h22 (AI c43 (AI h44 (AI (lw_symM_b8 ih _ _ _ _ _ _ _ _ _ _ _ _ l107 k k (by omega) (by omega) (by omega)) (AI h109 (AI h110 (AI h129 (AI h130 (AI (ih q131 k (by omega)) (AI c132 (AI h133 (AI h134 (AI (ih q135 k (by omega)) (AI c136 trivial))))))))))))))) ?_
           kernel_rfl
          ·obtain rfl := Option.some.inj h
           refine pRu_by [.b false, .b false, .b false, .l .normal ⟨[(0, (V.row 1)), (1, (V.int .i64 (u107_0))), (2, (V.int .i64 (u107_1))), (3, (V.int .i64 (u107_2))), (4, (V.clo 74 [(V.ref [(V.sl (u107_3))] 0 (0) 1)])), (18, (V.int .i64 (u107_4))), (19, (V.int .i64 (u107_5))), (20, (V.int .i64 (u107_6)))], [(1, .row 3 (u107_7))]⟩, .b true, .b false, .b true, .b true, .v (V.fresh 3 (y131_0)), .b true, .b false] rfl rfl rfl rfl rfl (AI h1 (AI h22 (AI c43 (AI h44 (AI (lw_symM_b8 ih _ _ _ _ _ _ _ _ _ _ _ _ l107 k k (by omega) (by omega) (by omega)) (AI h109 (AI h110 (AI h129 (AI h130 (AI (ih q131 k (by omega)) (AI c132 (AI h133 (AI h134 trivial))))))))))))) ?_
           kernel_rfl
         ·obtain rfl := Option.some.inj h
          refine pRu_by [.b false, .b false, .b false, .l .normal ⟨[(0, (V.row 1)), (1, (V.int .i64 (u107_0))), (2, (V.int .i64 (u107_1))), (3, (V.int .i64 (u107_2))), (4, (V.clo 74 [(V.ref [(V.sl (u107_3))] 0 (0) 1)])), (18, (V.int .i64 (u107_4))), (19, (V.int .i64 (u107_5))), (20, (V.int .i64 (u107_6)))], [(1, .row 3 (u107_7))]⟩, .b true, .b false, .b true, .b true, .v (V.fresh 3 (y131_0)), .b false, .b false] rfl rfl rfl rfl rfl (AI h1 (AI h22 (AI c43 (AI h44 (AI (lw_symM_b8 ih _ _ _ _ _ _ _ _ _ _ _ _ l107 k k (by omega) (by omega) (by omega)) (AI h109 (AI h110 (AI h129 (AI h130 (AI (ih q131 k (by omega)) (AI c132 (AI h133 (AI (Eq.refl false) trivial))))))))))))) ?_
          kernel_rfl
        ·rcases cnd_some h with ⟨h137, h⟩ | ⟨h137, h⟩
         ·rcases cnd_some h with ⟨h138, h⟩ | ⟨h138, h⟩
          ·obtain ⟨y139_0, q139, h⟩ := bnd_some h
           obtain ⟨c140, h⟩ := chk_some h
           obtain rfl := Option.some.inj h
           refine pRu_by [.b false, .b false, .b false, .l .normal ⟨[(0, (V.row 1)), (1, (V.int .i64 (u107_0))), (2, (V.int .i64 (u107_1))), (3, (V.int .i64 (u107_2))), (4, (V.clo 74 [(V.ref [(V.sl (u107_3))] 0 (0) 1)])), (18, (V.int .i64 (u107_4))), (19, (V.int .i64 (u107_5))), (20, (V.int .i64 (u107_6)))], [(1, .row 3 (u107_7))]⟩, .b true, .b false, .b true, .b false, .b true, .b true, .v (V.fresh 3 (y139_0))] rfl rfl rfl rfl rfl (AI h1 (AI h22 (AI c43 (AI h44 (AI (lw_symM_b8 ih _ _ _ _ _ _ _ _ _ _ _ _ l107 k k (by omega) (by omega) (by omega)) (AI h109 (AI h110 (AI h129 (AI h130 (AI h137 (AI h138 (AI (ih q139 k (by omega)) (AI c140 trivial))))))))))))) ?_
           kernel_rfl
          ·obtain rfl := Option.some.inj h
           refine pRu_by [.b false, .b false, .b false, .l .normal ⟨[(0, (V.row 1)), (1, (V.int .i64 (u107_0))), (2, (V.int .i64 (u107_1))), (3, (V.int .i64 (u107_2))), (4, (V.clo 74 [(V.ref [(V.sl (u107_3))] 0 (0) 1)])), (18, (V.int .i64 (u107_4))), (19, (V.int .i64 (u107_5))), (20, (V.int .i64 (u107_6)))], [(1, .row 3 (u107_7))]⟩, .b true, .b false, .b true, .b false, .b true, .b false] rfl rfl rfl rfl rfl (AI h1 (AI h22 (AI c43 (AI h44 (AI (lw_symM_b8 ih _ _ _ _ _ _ _ _ _ _ _ _ l107 k k (by omega) (by omega) (by omega)) (AI h109 (AI h110 (AI h129 (AI h130 (AI h137 (AI h138 trivial))))))))))) ?_
           kernel_rfl
         ·obtain rfl := Option.some.inj h
          refine pRu_by [.b false, .b false, .b false, .l .normal ⟨[(0, (V.row 1)), (1, (V.int .i64 (u107_0))), (2, (V.int .i64 (u107_1))), (3, (V.int .i64 (u107_2))), (4, (V.clo 74 [(V.ref [(V.sl (u107_3))] 0 (0) 1)])), (18, (V.int .i64 (u107_4))), (19, (V.int .i64 (u107_5))), (20, (V.int .i64 (u107_6)))], [(1, .row 3 (u107_7))]⟩, .b true, .b false, .b true, .b false, .b false, .b false] rfl rfl rfl rfl rfl (AI h1 (AI h22 (AI c43 (AI h44 (AI (lw_symM_b8 ih _ _ _ _ _ _ _ _ _ _ _ _ l107 k k (by omega) (by omega) (by omega)) (AI h109 (AI h110 (AI h129 (AI h130 (AI h137 (AI (Eq.refl false) trivial))))))))))) ?_
          kernel_rfl
       ·rcases cnd_some h with ⟨h141, h⟩ | ⟨h141, h⟩
        ·rcases cnd_some h with ⟨h142, h⟩ | ⟨h142, h⟩
         ·obtain ⟨y143_0, q143, h⟩ := bnd_some h
          obtain ⟨c144, h⟩ := chk_some h
          obtain rfl := Option.some.inj h
          refine pRu_by [.b false, .b false, .b false, .l .normal ⟨[(0, (V.row 1)), (1, (V.int .i64 (u107_0))), (2, (V.int .i64 (u107_1))), (3, (V.int .i64 (u107_2))), (4, (V.clo 74 [(V.ref [(V.sl (u107_3))] 0 (0) 1)])), (18, (V.int .i64 (u107_4))), (19, (V.int .i64 (u107_5))), (20, (V.int .i64 (u107_6)))], [(1, .row 3 (u107_7))]⟩, .b true, .b false, .b false, .b false, .b true, .b true, .v (V.fresh 3 (y143_0))] rfl rfl rfl rfl rfl (AI h1 (AI h22 (AI c43 (AI h44 (AI (lw_symM_b8 ih _ _ _ _ _ _ _ _ _ _ _ _ l107 k k (by omega) (by omega) (by omega)) (AI h109 (AI h110 (AI h129 (AI (Eq.refl false) (AI h141 (AI h142 (AI (ih q143 k (by omega)) (AI c144 trivial))))))))))))) ?_
          kernel_rfl
         ·obtain rfl := Option.some.inj h
          refine pRu_by [.b false, .b false, .b false, .l .normal ⟨[(0, (V.row 1)), (1, (V.int .i64 (u107_0))), (2, (V.int .i64 (u107_1))), (3, (V.int .i64 (u107_2))), (4, (V.clo 74 [(V.ref [(V.sl (u107_3))] 0 (0) 1)])), (18, (V.int .i64 (u107_4))), (19, (V.int .i64 (u107_5))), (20, (V.int .i64 (u107_6)))], [(1, .row 3 (u107_7))]⟩, .b true, .b false, .b false, .b false, .b true, .b false] rfl rfl rfl rfl rfl (AI h1 (AI h22 (AI c43 (AI h44 (AI (lw_symM_b8 ih _ _ _ _ _ _ _ _ _ _ _ _ l107 k k (by omega) (by omega) (by omega)) (AI h109 (AI h110 (AI h129 (AI (Eq.refl false) (AI h141 (AI h142 trivial))))))))))) ?_
          kernel_rfl
        ·obtain rfl := Option.some.inj h
         refine pRu_by [.b false, .b false, .b false, .l .normal ⟨[(0, (V.row 1)), (1, (V.int .i64 (u107_0))), (2, (V.int .i64 (u107_1))), (3, (V.int .i64 (u107_2))), (4, (V.clo 74 [(V.ref [(V.sl (u107_3))] 0 (0) 1)])), (18, (V.int .i64 (u107_4))), (19, (V.int .i64 (u107_5))), (20, (V.int .i64 (u107_6)))], [(1, .row 3 (u107_7))]⟩, .b true, .b false, .b false, .b false, .b false, .b false] rfl rfl rfl rfl rfl (AI h1 (AI h22 (AI c43 (AI h44 (AI (lw_symM_b8 ih _ _ _ _ _ _ _ _ _ _ _ _ l107 k k (by omega) (by omega) (by omega)) (AI h109 (AI h110 (AI h129 (AI (Eq.refl false) (AI h141 (AI (Eq.refl false) trivial))))))))))) ?_
         kernel_rfl
     ·rcases cnd_some h with ⟨h145, h⟩ | ⟨h145, h⟩
      ·rcases cnd_some h with ⟨h146, h⟩ | ⟨h146, h⟩
       ·obtain ⟨y147_0, q147, h⟩ := bnd_some h
        obtain ⟨c148, h⟩ := chk_some h
        rcases cnd_some h with ⟨h149, h⟩ | ⟨h149, h⟩
        ·rcases cnd_some h with ⟨h150, h⟩ | ⟨h150, h⟩
         ·obtain ⟨y151_0, q151, h⟩ := bnd_some h
          obtain ⟨c152, h⟩ := chk_some h
          obtain rfl := Option.some.inj h
          refine pRu_by [.b false, .b false, .b false, .l .normal ⟨[(0, (V.row 1)), (1, (V.int .i64 (u107_0))), (2, (V.int .i64 (u107_1))), (3, (V.int .i64 (u107_2))), (4, (V.clo 74 [(V.ref [(V.sl (u107_3))] 0 (0) 1)])), (18, (V.int .i64 (u107_4))), (19, (V.int .i64 (u107_5))), (20, (V.int .i64 (u107_6)))], [(1, .row 3 (u107_7))]⟩, .b false, .b false, .b true, .b true, .v (V.fresh 3 (y147_0)), .b true, .b true, .v (V.fresh 3 (y151_0))] rfl rfl rfl rfl rfl (AI h1 (AI h22 (AI c43 (AI h44 (AI (lw_symM_b8 ih _ _ _ _ _ _ _ _ _ _ _ _ l107 k k (by omega) (by omega) (by omega)) (AI h109 (AI (Eq.refl false) (AI h145 (AI h146 (AI (ih q147 k (by omega)) (AI c148 (AI h149 (AI h150 (AI (ih q151 k (by omega)) (AI c152 trivial))))))))))))))) ?_
          kernel_rfl
         ·obtain rfl := Option.some.inj h
          refine pRu_by [.b false, .b false, .b false, .l .normal ⟨[(0, (V.row 1)), (1, (V.int .i64 (u107_0))), (2, (V.int .i64 (u107_1))), (3, (V.int .i64 (u107_2))), (4, (V.clo 74 [(V.ref [(V.sl (u107_3))] 0 (0) 1)])), (18, (V.int .i64 (u107_4))), (19, (V.int .i64 (u107_5))), (20, (V.int .i64 (u107_6)))], [(1, .row 3 (u107_7))]⟩, .b false, .b false, .b true, .b true, .v (V.fresh 3 (y147_0)), .b true, .b false] rfl rfl rfl rfl rfl (AI h1 (AI h22 (AI c43 (AI h44 (AI (lw_symM_b8 ih _ _ _ _ _ _ _ _ _ _ _ _ l107 k k (by omega) (by omega) (by omega)) (AI h109 (AI (Eq.refl false) (AI h145 (AI h146 (AI (ih q147 k (by omega)) (AI c148 (AI h149 (AI h150 trivial))))))))))))) ?_
          kernel_rfl
        ·obtain rfl := Option.some.inj h
         refine pRu_by [.b false, .b false, .b false, .l .normal ⟨[(0, (V.row 1)), (1, (V.int .i64 (u107_0))), (2, (V.int .i64 (u107_1))), (3, (V.int .i64 (u107_2))), (4, (V.clo 74 [(V.ref [(V.sl (u107_3))] 0 (0) 1)])), (18, (V.int .i64 (u107_4))), (19, (V.int .i64 (u107_5))), (20, (V.int .i64 (u107_6)))], [(1, .row 3 (u107_7))]⟩, .b false, .b false, .b true, .b true, .v (V.fresh 3 (y147_0)), .b false, .b false] rfl rfl rfl rfl rfl (AI h1 (AI h22 (AI c43 (AI h44 (AI (lw_symM_b8 ih _ _ _ _ _ _ _ _ _ _ _ _ l107 k k (by omega) (by omega) (by omega)) (AI h109 (AI (Eq.refl false) (AI h145 (AI h146 (AI (ih q147 k (by omega)) (AI c148 (AI h149 (AI (Eq.refl false) trivial))))))))))))) ?_
         kernel_rfl
       ·rcases cnd_some h with ⟨h153, h⟩ | ⟨h153, h⟩
        ·rcases cnd_some h with ⟨h154, h⟩ | ⟨h154, h⟩
         ·obtain ⟨y155_0, q155, h⟩ := bnd_some h
          obtain ⟨c156, h⟩ := chk_some h
          obtain rfl := Option.some.inj h
          refine pRu_by [.b false, .b false, .b false, .l .normal ⟨[(0, (V.row 1)), (1, (V.int .i64 (u107_0))), (2, (V.int .i64 (u107_1))), (3, (V.int .i64 (u107_2))), (4, (V.clo 74 [(V.ref [(V.sl (u107_3))] 0 (0) 1)])), (18, (V.int .i64 (u107_4))), (19, (V.int .i64 (u107_5))), (20, (V.int .i64 (u107_6)))], [(1, .row 3 (u107_7))]⟩, .b false, .b false, .b true, .b false, .b true, .b true, .v (V.fresh 3 (y155_0))] rfl rfl rfl rfl rfl (AI h1 (AI h22 (AI c43 (AI h44 (AI (lw_symM_b8 ih _ _ _ _ _ _ _ _ _ _ _ _ l107 k k (by omega) (by omega) (by omega)) (AI h109 (AI (Eq.refl false) (AI h145 (AI h146 (AI h153 (AI h154 (AI (ih q155 k (by omega)) (AI c156 trivial))))))))))))) ?_
          kernel_rfl
         ·obtain rfl := Option.some.inj h
          refine pRu_by [.b false, .b false, .b false, .l .normal ⟨[(0, (V.row 1)), (1, (V.int .i64 (u107_0))), (2, (V.int .i64 (u107_1))), (3, (V.int .i64 (u107_2))), (4, (V.clo 74 [(V.ref [(V.sl (u107_3))] 0 (0) 1)])), (18, (V.int .i64 (u107_4))), (19, (V.int .i64 (u107_5))), (20, (V.int .i64 (u107_6)))], [(1, .row 3 (u107_7))]⟩, .b false, .b false, .b true, .b false, .b true, .b false] rfl rfl rfl rfl rfl (AI h1 (AI h22 (AI c43 (AI h44 (AI (lw_symM_b8 ih _ _ _ _ _ _ _ _ _ _ _ _ l107 k k (by omega) (by omega) (by omega)) (AI h109 (AI (Eq.refl false) (AI h145 (AI h146 (AI h153 (AI h154 trivial))))))))))) ?_
          kernel_rfl
        ·obtain rfl := Option.some.inj h
         refine pRu_by [.b false, .b false, .b false, .l .normal ⟨[(0, (V.row 1)), (1, (V.int .i64 (u107_0))), (2, (V.int .i64 (u107_1))), (3, (V.int .i64 (u107_2))), (4, (V.clo 74 [(V.ref [(V.sl (u107_3))] 0 (0) 1)])), (18, (V.int .i64 (u107_4))), (19, (V.int .i64 (u107_5))), (20, (V.int .i64 (u107_6)))], [(1, .row 3 (u107_7))]⟩, .b false, .b false, .b true, .b false, .b false, .b false] rfl rfl rfl rfl rfl (AI h1 (AI h22 (AI c43 (AI h44 (AI (lw_symM_b8 ih _ _ _ _ _ _ _ _ _ _ _ _ l107 k k (by omega) (by omega) (by omega)) (AI h109 (AI (Eq.refl false) (AI h145 (AI h146 (AI h153 (AI (Eq.refl false) trivial))))))))))) ?_
         kernel_rfl
      ·rcases cnd_some h with ⟨h157, h⟩ | ⟨h157, h⟩
       ·rcases cnd_some h with ⟨h158, h⟩ | ⟨h158, h⟩
        ·obtain ⟨y159_0, q159, h⟩ := bnd_some h
         obtain ⟨c160, h⟩ := chk_some h
         obtain rfl := Option.some.inj h
         refine pRu_by [.b false, .b false, .b false, .l .normal ⟨[(0, (V.row 1)), (1, (V.int .i64 (u107_0))), (2, (V.int .i64 (u107_1))), (3, (V.int .i64 (u107_2))), (4, (V.clo 74 [(V.ref [(V.sl (u107_3))] 0 (0) 1)])), (18, (V.int .i64 (u107_4))), (19, (V.int .i64 (u107_5))), (20, (V.int .i64 (u107_6)))], [(1, .row 3 (u107_7))]⟩, .b false, .b false, .b false, .b false, .b true, .b true, .v (V.fresh 3 (y159_0))] rfl rfl rfl rfl rfl (AI h1 (AI h22 (AI c43 (AI h44 (AI (lw_symM_b8 ih _ _ _ _ _ _ _ _ _ _ _ _ l107 k k (by omega) (by omega) (by omega)) (AI h109 (AI (Eq.refl false) (AI h145 (AI (Eq.refl false) (AI h157 (AI h158 (AI (ih q159 k (by omega)) (AI c160 trivial))))))))))))) ?_
         kernel_rfl
        ·obtain rfl := Option.some.inj h
         refine pRu_by [.b false, .b false, .b false, .l .normal ⟨[(0, (V.row 1)), (1, (V.int .i64 (u107_0))), (2, (V.int .i64 (u107_1))), (3, (V.int .i64 (u107_2))), (4, (V.clo 74 [(V.ref [(V.sl (u107_3))] 0 (0) 1)])), (18, (V.int .i64 (u107_4))), (19, (V.int .i64 (u107_5))), (20, (V.int .i64 (u107_6)))], [(1, .row 3 (u107_7))]⟩, .b false, .b false, .b false, .b false, .b true, .b false] rfl rfl rfl rfl rfl (AI h1 (AI h22 (AI c43 (AI h44 (AI (lw_symM_b8 ih _ _ _ _ _ _ _ _ _ _ _ _ l107 k k (by omega) (by omega) (by omega)) (AI h109 (AI (Eq.refl false) (AI h145 (AI (Eq.refl false) (AI h157 (AI h158 trivial))))))))))) ?_
         kernel_rfl
       ·obtain rfl := Option.some.inj h
        refine pRu_by [.b false, .b false, .b false, .l .normal ⟨[(0, (V.row 1)), (1, (V.int .i64 (u107_0))), (2, (V.int .i64 (u107_1))), (3, (V.int .i64 (u107_2))), (4, (V.clo 74 [(V.ref [(V.sl (u107_3))] 0 (0) 1)])), (18, (V.int .i64 (u107_4))), (19, (V.int .i64 (u107_5))), (20, (V.int .i64 (u107_6)))], [(1, .row 3 (u107_7))]⟩, .b false, .b false, .b false, .b false, .b false, .b false] rfl rfl rfl rfl rfl (AI h1 (AI h22 (AI c43 (AI h44 (AI (lw_symM_b8 ih _ _ _ _ _ _ _ _ _ _ _ _ l107 k k (by omega) (by omega) (by omega)) (AI h109 (AI (Eq.refl false) (AI h145 (AI (Eq.refl false) (AI h157 (AI (Eq.refl false) trivial))))))))))) ?_
        kernel_rfl
theorem lw_stabC_b0 : ∀ (n : Nat) (a0 : Int) (a1 : List V) (a2 : Int) (a3 : Int) (a4 : Int) (a5 : List V) (r : Int × List V × Int × Int × List V), l_stabC_b0 n a0 a1 a2 a3 a4 a5 = some r → ∀ k m, n + 4 ≤ k → n ≤ m → LB E 84 0 k m ⟨[(0, (V.row 1)), (1, (V.int .i64 (a0))), (2, (V.clo 74 [(V.ref [(V.sl (a1))] 0 (0) 1)])), (6, (V.int .i64 (a2))), (7, (V.int .i64 (a3))), (8, (V.int .i64 (a4)))], [(1, .row 3 (a5))]⟩ = some (match r with | (o0, o1, o2, o3, o4) => (.normal, ⟨[(0, (V.row 1)), (1, (V.int .i64 (o0))), (2, (V.clo 74 [(V.ref [(V.sl (o1))] 0 (0) 1)])), (6, (V.int .i64 (o2))), (7, (V.int .i64 (o3)))], [(1, .row 3 (o4))]⟩)) := by
 intro n
 induction n with
 | zero => intro a0 a1 a2 a3 a4 a5 r h; cases h
 | succ n ih =>
  intro a0 a1 a2 a3 a4 a5 r h k m hk hm
  obtain ⟨m, rfl⟩ : ∃ q, m = q + 1 := ⟨m - 1, by omega⟩
  replace hk : n + 4 ≤ k := by omega
  unfold l_stabC_b0 at h
  rcases cnd_some h with ⟨h1, h⟩ | ⟨h1, h⟩
  ·obtain ⟨y2_0, q2, h⟩ := bnd_some h
   obtain ⟨c3, h⟩ := chk_some h
   refine pNext_by [.b true, .v (V.fresh 3 (y2_0))] (AI h1 (AI (w_insC q2 k (by omega)) (AI c3 trivial))) (ih _ _ _ _ _ _ _ h k m hk (by omega)) ?_
   kernel_rfl
  ·cases h
   refine pLast_by [.b false] (AI h1 trivial) ?_
   kernel_rfl
theorem lw_stabC_b4 : ∀ (n : Nat) (a0 : Int) (a1 : List V) (a2 : Int) (a3 : Int) (a4 : Int) (a5 : List V) (r : Int × List V × Int × Int × List V), l_stabC_b4 n a0 a1 a2 a3 a4 a5 = some r → ∀ k m, n + 4 ≤ k → n ≤ m → LB E 84 4 k m ⟨[(0, (V.row 1)), (1, (V.int .i64 (a0))), (2, (V.clo 74 [(V.ref [(V.sl (a1))] 0 (0) 1)])), (6, (V.int .i64 (a2))), (7, (V.int .i64 (a3))), (8, (V.int .i64 (a4)))], [(1, .row 3 (a5))]⟩ = some (match r with | (o0, o1, o2, o3, o4) => (.normal, ⟨[(0, (V.row 1)), (1, (V.int .i64 (o0))), (2, (V.clo 74 [(V.ref [(V.sl (o1))] 0 (0) 1)])), (6, (V.int .i64 (o2))), (7, (V.int .i64 (o3)))], [(1, .row 3 (o4))]⟩)) := by
 intro n
 induction n with
 | zero => intro a0 a1 a2 a3 a4 a5 r h; cases h
 | succ n ih =>
  intro a0 a1 a2 a3 a4 a5 r h k m hk hm
  obtain ⟨m, rfl⟩ : ∃ q, m = q + 1 := ⟨m - 1, by omega⟩
  replace hk : n + 4 ≤ k := by omega
  unfold l_stabC_b4 at h
  rcases cnd_some h with ⟨h9, h⟩ | ⟨h9, h⟩
  ·obtain ⟨y10_0, q10, h⟩ := bnd_some h
   obtain ⟨c11, h⟩ := chk_some h
   refine pNext_by [.b true, .v (V.fresh 3 (y10_0))] (AI h9 (AI (w_symM q10 k (by omega)) (AI c11 trivial))) (ih _ _ _ _ _ _ _ h k m hk (by omega)) ?_
   kernel_rfl
  ·cases h
   refine pLast_by [.b false] (AI h9 trivial) ?_
   kernel_rfl
theorem lw_stabC_b2 : ∀ (n : Nat) (a0 : Int) (a1 : List V) (a2 : Int) (a3 : List V) (r : List V), l_stabC_b2 n a0 a1 a2 a3 = some r → ∀ k m, n + 4 ≤ k → n ≤ m → LB E 84 2 k m ⟨[(0, (V.row 1)), (1, (V.int .i64 (a0))), (2, (V.clo 74 [(V.ref [(V.sl (a1))] 0 (0) 1)])), (6, (V.int .i64 (a2)))], [(1, .row 3 (a3))]⟩ = some (match r with | o0 => (.normal, ⟨[(0, (V.row 1))], [(1, .row 3 (o0))]⟩)) := by
 intro n
 induction n with
 | zero => intro a0 a1 a2 a3 r h; cases h
 | succ n ih =>
  intro a0 a1 a2 a3 r h k m hk hm
  obtain ⟨m, rfl⟩ : ∃ q, m = q + 1 := ⟨m - 1, by omega⟩
  replace hk : n + 4 ≤ k := by omega
  unfold l_stabC_b2 at h
  rcases cnd_some h with ⟨h8, h⟩ | ⟨h8, h⟩
  ·obtain ⟨⟨u12_0, u12_1, u12_2, u12_3, u12_4⟩, l12, h⟩ := bnd_some h
   rcases cnd_some h with ⟨h14, h⟩ | ⟨h14, h⟩
   ·obtain ⟨y15_0, q15, h⟩ := bnd_some h
    obtain ⟨c16, h⟩ := chk_some h
    refine pNext_by [.b true, .l .normal ⟨[(0, (V.row 1)), (1, (V.int .i64 (u12_0))), (2, (V.clo 74 [(V.ref [(V.sl (u12_1))] 0 (0) 1)])), (6, (V.int .i64 (u12_2))), (7, (V.int .i64 (u12_3)))], [(1, .row 3 (u12_4))]⟩, .b true, .v (V.fresh 3 (y15_0))] (AI h8 (AI (lw_stabC_b4 _ _ _ _ _ _ _ _ l12 k k (by omega) (by omega)) (AI h14 (AI (w_symM q15 k (by omega)) (AI c16 trivial))))) (ih _ _ _ _ _ h k m hk (by omega)) ?_
    kernel_rfl
   ·refine pNext_by [.b true, .l .normal ⟨[(0, (V.row 1)), (1, (V.int .i64 (u12_0))), (2, (V.clo 74 [(V.ref [(V.sl (u12_1))] 0 (0) 1)])), (6, (V.int .i64 (u12_2))), (7, (V.int .i64 (u12_3)))], [(1, .row 3 (u12_4))]⟩, .b false] (AI h8 (AI (lw_stabC_b4 _ _ _ _ _ _ _ _ l12 k k (by omega) (by omega)) (AI h14 trivial))) (ih _ _ _ _ _ h k m hk (by omega)) ?_
    kernel_rfl
  ·cases h
   refine pLast_by [.b false] (AI h8 trivial) ?_
   kernel_rfl
theorem w_stabC {n : Nat} {a0 : List V} {a1 : Int} {a2 : List V} {z0 : List V} (h : s_stabC n a0 a1 a2 = some z0) : ∀ k, n + 5 ≤ k → sem E k (ruBase + 84) [(V.fresh 3 (a0)), (V.int .i64 (a1)), (V.clo 74 [(V.ref [(V.sl (a2))] 0 (0) 1)])] = some (V.fresh 3 (z0)) := by
 intro k hk
 obtain ⟨k, rfl⟩ : ∃ q, k = q + 1 := ⟨k - 1, by omega⟩
 unfold s_stabC at h
 obtain ⟨⟨u4_0, u4_1, u4_2, u4_3, u4_4⟩, l4, h⟩ := bnd_some h
 obtain ⟨y6_0, q6, h⟩ := bnd_some h
 obtain ⟨c7, h⟩ := chk_some h
 obtain ⟨u17_0, l17, h⟩ := bnd_some h
 obtain rfl := Option.some.inj h
 refine pRu_by [.l .normal ⟨[(0, (V.row 1)), (1, (V.int .i64 (u4_0))), (2, (V.clo 74 [(V.ref [(V.sl (u4_1))] 0 (0) 1)])), (6, (V.int .i64 (u4_2))), (7, (V.int .i64 (u4_3)))], [(1, .row 3 (u4_4))]⟩, .v (V.fresh 3 (y6_0)), .l .normal ⟨[(0, (V.row 1))], [(1, .row 3 (u17_0))]⟩] rfl rfl rfl rfl rfl (AI (lw_stabC_b0 _ _ _ _ _ _ _ _ l4 k k (by omega) (by omega)) (AI (w_insC q6 k (by omega)) (AI c7 (AI (lw_stabC_b2 _ _ _ _ _ _ l17 k k (by omega) (by omega)) trivial)))) ?_
 kernel_rfl
theorem w_sortS {n : Nat} {a0 : List V} {a1 : List V} {z0 : List V} (h : s_sortS n a0 a1 = some z0) : ∀ k, n + 6 ≤ k → sem E k (ruBase + 73) [(V.fresh 3 (a0)), (V.clo 74 [(V.ref [(V.sl (a1))] 0 (0) 1)])] = some (V.fresh 3 (z0)) := by
 intro k hk
 obtain ⟨k, rfl⟩ : ∃ q, k = q + 1 := ⟨k - 1, by omega⟩
 unfold s_sortS at h
 obtain ⟨y1_0, q1, h⟩ := bnd_some h
 obtain ⟨c2, h⟩ := chk_some h
 obtain rfl := Option.some.inj h
 refine pRu_by [.v (V.fresh 3 (y1_0))] rfl rfl rfl rfl rfl (AI (w_stabC q1 k (by omega)) (AI c2 trivial)) ?_
 kernel_rfl
theorem w_impl_byWidth {n : Nat} {a0 : List V} {z0 : List V} (h : s_impl_byWidth n a0 = some z0) : ∀ k, n + 7 ≤ k → sem E k 53 [(V.sl (a0))] = some (V.fresh 3 (z0)) := by
 intro k hk
 obtain ⟨k, rfl⟩ : ∃ q, k = q + 1 := ⟨k - 1, by omega⟩
 unfold s_impl_byWidth at h
 obtain ⟨y1_0, q1, h⟩ := bnd_some h
 obtain ⟨y2_0, q2, h⟩ := bnd_some h
 obtain ⟨c3, h⟩ := chk_some h
 obtain rfl := Option.some.inj h
 refine pFun_by [.v (V.fresh 3 (y1_0)), .v (V.fresh 3 (y2_0))] rfl (AI (w_impl_upTo q1 k (by omega)) (AI (w_sortS q2 k (by omega)) (AI c3 trivial))) ?_
 kernel_rfl
theorem w_impl_pairs_1 {n : Nat} {a0 : Int} {a1 : List V} {a2 : List V} {a3 : List V} {a4 : Int} {z0 : Bool} (h : s_impl_pairs_1 n a0 a1 a2 a3 a4 = some z0) : ∀ k, n + 1 ≤ k → sem E k 55 [(V.int .i64 (a0)), (V.ref [(V.sl (a1))] 0 (0) 1), (V.ref [(V.mapc (a2) (a3))] 0 (0) 1), (V.ref [(V.int .i64 (a4))] 0 (0) 1)] = some (V.bool (z0)) := by
 intro k hk
 obtain ⟨k, rfl⟩ : ∃ q, k = q + 1 := ⟨k - 1, by omega⟩
 unfold s_impl_pairs_1 at h
 obtain ⟨⟨e1_0, e1_1⟩, g1, h⟩ := bnd_some h
 replace g1 := as_Pi8_i8Q_some g1
 rcases cnd_some h with ⟨h2, h⟩ | ⟨h2, h⟩
 ·obtain ⟨c3, h⟩ := chk_some h
  obtain ⟨c4, h⟩ := chk_some h
  rcases cnd_some h with ⟨h5, h⟩ | ⟨h5, h⟩
  ·obtain rfl := Option.some.inj h
   refine pFun_by [.v (V.parts [(V.int .i8 (e1_0)), (V.int .i8 (e1_1))]), .b true, .b false] rfl (AI g1 (AI h2 (AI c3 (AI c4 (AI (not_f h5) trivial))))) ?_
   kernel_rfl
  ·obtain ⟨⟨e6_0, e6_1⟩, g6, h⟩ := bnd_some h
   replace g6 := as_Pi8_i8Q_some g6
   obtain ⟨⟨e7_0, e7_1⟩, g7, h⟩ := bnd_some h
   replace g7 := as_Pi8_i8Q_some g7
   obtain rfl := Option.some.inj h
   refine pFun_by [.v (V.parts [(V.int .i8 (e1_0)), (V.int .i8 (e1_1))]), .b true, .b true, .v (V.parts [(V.int .i8 (e6_0)), (V.int .i8 (e6_1))]), .v (V.parts [(V.int .i8 (e7_0)), (V.int .i8 (e7_1))])] rfl (AI g1 (AI h2 (AI c3 (AI c4 (AI (not_t h5) (AI g6 (AI g7 trivial))))))) ?_
   kernel_rfl
 ·obtain rfl := Option.some.inj h
  refine pFun_by [.v (V.parts [(V.int .i8 (e1_0)), (V.int .i8 (e1_1))]), .b false, .b false] rfl (AI g1 (AI h2 (AI (Eq.refl false) trivial))) ?_
  kernel_rfl
theorem lw_ixPr_b0 : ∀ (n : Nat) (a0 : List V) (a1 : List V) (a2 : List V) (a3 : List V) (a4 : Int) (a5 : Int) (a6 : Int) (r : Sum (Unit) (Int)), l_ixPr_b0 n a0 a1 a2 a3 a4 a5 a6 = some r → ∀ k m, n + 1 ≤ k → n ≤ m → LB E 54 0 k m ⟨[(0, (V.sl (a0))), (1, (V.clo 55 [(V.ref [(V.sl (a1))] 0 (0) 1), (V.ref [(V.mapc (a2) (a3))] 0 (0) 1), (V.ref [(V.int .i64 (a4))] 0 (0) 1)])), (7, (V.int .i64 (a5))), (8, (V.int .i64 (a6)))], []⟩ = some (match r with | .inl _ => (.normal, ⟨[], []⟩) | .inr o0 => (.ret, ⟨[(4, (V.int .i64 (o0)))], []⟩)) := by
 intro n
 induction n with
 | zero => intro a0 a1 a2 a3 a4 a5 a6 r h; cases h
 | succ n ih =>
  intro a0 a1 a2 a3 a4 a5 a6 r h k m hk hm
  obtain ⟨m, rfl⟩ : ∃ q, m = q + 1 := ⟨m - 1, by omega⟩
  replace hk : n + 1 ≤ k := by omega
  unfold l_ixPr_b0 at h
  rcases cnd_some h with ⟨h1, h⟩ | ⟨h1, h⟩
  ·obtain ⟨e2_0, g2, h⟩ := bnd_some h
   replace g2 := as_i64_some g2
   obtain ⟨y3_0, q3, h⟩ := bnd_some h
   rcases cnd_some h with ⟨h4, h⟩ | ⟨h4, h⟩
   ·cases h
    refine pLast_by [.b true, .v (V.int .i64 (e2_0)), .v (V.bool (y3_0)), .b true] (AI h1 (AI g2 (AI (w_impl_pairs_1 q3 k (by omega)) (AI h4 trivial)))) ?_
    kernel_rfl
   ·refine pNext_by [.b true, .v (V.int .i64 (e2_0)), .v (V.bool (y3_0)), .b false] (AI h1 (AI g2 (AI (w_impl_pairs_1 q3 k (by omega)) (AI h4 trivial)))) (ih _ _ _ _ _ _ _ _ h k m hk (by omega)) ?_
    kernel_rfl
  ·cases h
   refine pLast_by [.b false] (AI h1 trivial) ?_
   kernel_rfl
theorem w_ixPr {n : Nat} {a0 : List V} {a1 : List V} {a2 : List V} {a3 : List V} {a4 : Int} {z0 : Int} (h : s_ixPr n a0 a1 a2 a3 a4 = some z0) : ∀ k, n + 2 ≤ k → sem E k 54 [(V.sl (a0)), (V.clo 55 [(V.ref [(V.sl (a1))] 0 (0) 1), (V.ref [(V.mapc (a2) (a3))] 0 (0) 1), (V.ref [(V.int .i64 (a4))] 0 (0) 1)])] = some (V.int .i64 (z0)) := by
 intro k hk
 obtain ⟨k, rfl⟩ : ∃ q, k = q + 1 := ⟨k - 1, by omega⟩
 unfold s_ixPr at h
 obtain ⟨w, l5, h⟩ := bnd_some h
 rcases w with ⟨⟩ | u6_0
 ·obtain rfl := Option.some.inj h
  refine pFun_by [.l .normal ⟨[], []⟩] rfl (AI (lw_ixPr_b0 _ _ _ _ _ _ _ _ _ l5 k k (by omega) (by omega)) trivial) ?_
  kernel_rfl
 ·obtain rfl := Option.some.inj h
  refine pFun_by [.l .ret ⟨[(4, (V.int .i64 (u6_0)))], []⟩] rfl (AI (lw_ixPr_b0 _ _ _ _ _ _ _ _ _ l5 k k (by omega) (by omega)) trivial) ?_
  kernel_rfl
end Go.Proofs.YthdnamhilcjnhaaGreatDoor
