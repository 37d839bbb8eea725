/- The program goes as the shallow texts tell: printed by gen.py. -/
import Derived.Test.YtbejaalnnnogoaaWkCuts
namespace Go.Proofs.Ytbejaalnnnogoaa
open Go
set_option linter.unusedVariables false
set_option linter.unusedSimpArgs false
set_option maxRecDepth 100000
set_option maxHeartbeats 4000000
theorem lw_symM_b0 {self : (List V) → (Int) → (Int) → (Int) → (List V) → Option (List V)} {K : Nat} (hself : ∀ {a0 : List V} {a1 : Int} {a2 : Int} {a3 : Int} {a4 : List V} {z0 : List V}, self a0 a1 a2 a3 a4 = some z0 → ∀ k, K ≤ k → sem E k (ruBase + 104) [(V.fresh 3 (a0)), (V.int .i64 (a1)), (V.int .i64 (a2)), (V.int .i64 (a3)), (V.clo 99 [(V.ref [(V.sl (a4))] 0 (0) 1)])] = some (V.fresh 3 (z0))) : ∀ (n : Nat) (a0 : Int) (a1 : List V) (a2 : Int) (a3 : Int) (a4 : List V) (r : Int × Int × List V), l_symM_b0 self n a0 a1 a2 a3 a4 = some r → ∀ k m, n + 3 ≤ k → n ≤ m → K ≤ k → LB E 104 0 k m ⟨[(0, (V.row 1)), (1, (V.int .i64 (a0))), (4, (V.clo 99 [(V.ref [(V.sl (a1))] 0 (0) 1)])), (10, (V.int .i64 (a2))), (11, (V.int .i64 (a3)))], [(1, .row 3 (a4))]⟩ = some (match r with | (o0, o1, o2) => (.normal, ⟨[(0, (V.row 1)), (1, (V.int .i64 (o0))), (10, (V.int .i64 (o1)))], [(1, .row 3 (o2))]⟩)) := by
  intro n
  induction n with
  | zero => intro a0 a1 a2 a3 a4 r h; cases h
  | succ n ih =>
    intro a0 a1 a2 a3 a4 r h k m hk hm hK
    obtain ⟨m, rfl⟩ : ∃ q, m = q + 1 := ⟨m - 1, by omega⟩
    replace hk : n + 3 ≤ k := by omega
    unfold l_symM_b0 at h
    rcases cnd_some h with ⟨h2, h⟩ | ⟨h2, h⟩
    · obtain ⟨c3, h⟩ := chk_some h
      obtain ⟨c4, h⟩ := chk_some h
      obtain ⟨e5_0, g5, h⟩ := bnd_some h
      replace g5 := as_i64_some g5
      obtain ⟨c6, h⟩ := chk_some h
      obtain ⟨e7_0, g7, h⟩ := bnd_some h
      replace g7 := as_i64_some g7
      obtain ⟨y8_0, q8, h⟩ := bnd_some h
      rcases cnd_some h with ⟨h9, h⟩ | ⟨h9, h⟩
      · refine pNext_by [.b true, .v (V.int .i64 (e5_0)), .v (V.int .i64 (e7_0)), .v (V.int .i64 (y8_0)), .b true] (And.intro h2 (And.intro c3 (And.intro c4 (And.intro g5 (And.intro c6 (And.intro g7 (And.intro (w_impl_byWidth_1 q8 k (by omega)) (And.intro h9 trivial)))))))) (ih _ _ _ _ _ _ h k m hk (by omega) hK) ?_
        kernel_rfl
      · refine pNext_by [.b true, .v (V.int .i64 (e5_0)), .v (V.int .i64 (e7_0)), .v (V.int .i64 (y8_0)), .b false] (And.intro h2 (And.intro c3 (And.intro c4 (And.intro g5 (And.intro c6 (And.intro g7 (And.intro (w_impl_byWidth_1 q8 k (by omega)) (And.intro h9 trivial)))))))) (ih _ _ _ _ _ _ h k m hk (by omega) hK) ?_
        kernel_rfl
    · cases h
      refine pLast_by [.b false] (And.intro h2 trivial) ?_
      kernel_rfl
theorem lw_symM_b2 {self : (List V) → (Int) → (Int) → (Int) → (List V) → Option (List V)} {K : Nat} (hself : ∀ {a0 : List V} {a1 : Int} {a2 : Int} {a3 : Int} {a4 : List V} {z0 : List V}, self a0 a1 a2 a3 a4 = some z0 → ∀ k, K ≤ k → sem E k (ruBase + 104) [(V.fresh 3 (a0)), (V.int .i64 (a1)), (V.int .i64 (a2)), (V.int .i64 (a3)), (V.clo 99 [(V.ref [(V.sl (a4))] 0 (0) 1)])] = some (V.fresh 3 (z0))) : ∀ (n : Nat) (a0 : Int) (a1 : Int) (a2 : List V) (r : List V), l_symM_b2 self n a0 a1 a2 = some r → ∀ k m, n + 3 ≤ k → n ≤ m → K ≤ k → LB E 104 2 k m ⟨[(0, (V.row 1)), (10, (V.int .i64 (a0))), (13, (V.int .i64 (a1)))], [(1, .row 3 (a2))]⟩ = some (match r with | o0 => (.normal, ⟨[(0, (V.row 1))], [(1, .row 3 (o0))]⟩)) := by
  intro n
  induction n with
  | zero => intro a0 a1 a2 r h; cases h
  | succ n ih =>
    intro a0 a1 a2 r h k m hk hm hK
    obtain ⟨m, rfl⟩ : ∃ q, m = q + 1 := ⟨m - 1, by omega⟩
    replace hk : n + 3 ≤ k := by omega
    unfold l_symM_b2 at h
    rcases cnd_some h with ⟨h12, h⟩ | ⟨h12, h⟩
    · obtain ⟨c13, h⟩ := chk_some h
      obtain ⟨e14_0, g14, h⟩ := bnd_some h
      replace g14 := as_i64_some g14
      obtain ⟨c15, h⟩ := chk_some h
      obtain ⟨e16_0, g16, h⟩ := bnd_some h
      replace g16 := as_i64_some g16
      obtain ⟨e17_0, g17, h⟩ := bnd_some h
      replace g17 := as_i64_some g17
      obtain ⟨c18, h⟩ := chk_some h
      obtain ⟨e19_0, g19, h⟩ := bnd_some h
      replace g19 := as_i64_some g19
      refine pNext_by [.b true, .v (V.int .i64 (e14_0)), .v (V.int .i64 (e16_0)), .v (V.int .i64 (e17_0)), .v (V.int .i64 (e19_0))] (And.intro h12 (And.intro c13 (And.intro g14 (And.intro c15 (And.intro g16 (And.intro c15 (And.intro g17 (And.intro c18 (And.intro g19 trivial))))))))) (ih _ _ _ _ h k m hk (by omega) hK) ?_
      kernel_rfl
    · cases h
      refine pLast_by [.b false] (And.intro h12 trivial) ?_
      kernel_rfl
theorem lw_symM_b4 {self : (List V) → (Int) → (Int) → (Int) → (List V) → Option (List V)} {K : Nat} (hself : ∀ {a0 : List V} {a1 : Int} {a2 : Int} {a3 : Int} {a4 : List V} {z0 : List V}, self a0 a1 a2 a3 a4 = some z0 → ∀ k, K ≤ k → sem E k (ruBase + 104) [(V.fresh 3 (a0)), (V.int .i64 (a1)), (V.int .i64 (a2)), (V.int .i64 (a3)), (V.clo 99 [(V.ref [(V.sl (a4))] 0 (0) 1)])] = some (V.fresh 3 (z0))) : ∀ (n : Nat) (a0 : Int) (a1 : List V) (a2 : Int) (a3 : Int) (a4 : List V) (r : Int × Int × List V), l_symM_b4 self n a0 a1 a2 a3 a4 = some r → ∀ k m, n + 3 ≤ k → n ≤ m → K ≤ k → LB E 104 4 k m ⟨[(0, (V.row 1)), (2, (V.int .i64 (a0))), (4, (V.clo 99 [(V.ref [(V.sl (a1))] 0 (0) 1)])), (14, (V.int .i64 (a2))), (15, (V.int .i64 (a3)))], [(1, .row 3 (a4))]⟩ = some (match r with | (o0, o1, o2) => (.normal, ⟨[(0, (V.row 1)), (2, (V.int .i64 (o0))), (14, (V.int .i64 (o1)))], [(1, .row 3 (o2))]⟩)) := by
  intro n
  induction n with
  | zero => intro a0 a1 a2 a3 a4 r h; cases h
  | succ n ih =>
    intro a0 a1 a2 a3 a4 r h k m hk hm hK
    obtain ⟨m, rfl⟩ : ∃ q, m = q + 1 := ⟨m - 1, by omega⟩
    replace hk : n + 3 ≤ k := by omega
    unfold l_symM_b4 at h
    rcases cnd_some h with ⟨h23, h⟩ | ⟨h23, h⟩
    · obtain ⟨c24, h⟩ := chk_some h
      obtain ⟨c25, h⟩ := chk_some h
      obtain ⟨e26_0, g26, h⟩ := bnd_some h
      replace g26 := as_i64_some g26
      obtain ⟨c27, h⟩ := chk_some h
      obtain ⟨e28_0, g28, h⟩ := bnd_some h
      replace g28 := as_i64_some g28
      obtain ⟨y29_0, q29, h⟩ := bnd_some h
      rcases cnd_some h with ⟨h30, h⟩ | ⟨h30, h⟩
      · refine pNext_by [.b true, .v (V.int .i64 (e26_0)), .v (V.int .i64 (e28_0)), .v (V.int .i64 (y29_0)), .b false] (And.intro h23 (And.intro c24 (And.intro c25 (And.intro g26 (And.intro c27 (And.intro g28 (And.intro (w_impl_byWidth_1 q29 k (by omega)) (And.intro (not_f h30) trivial)))))))) (ih _ _ _ _ _ _ h k m hk (by omega) hK) ?_
        kernel_rfl
      · refine pNext_by [.b true, .v (V.int .i64 (e26_0)), .v (V.int .i64 (e28_0)), .v (V.int .i64 (y29_0)), .b true] (And.intro h23 (And.intro c24 (And.intro c25 (And.intro g26 (And.intro c27 (And.intro g28 (And.intro (w_impl_byWidth_1 q29 k (by omega)) (And.intro (not_t h30) trivial)))))))) (ih _ _ _ _ _ _ h k m hk (by omega) hK) ?_
        kernel_rfl
    · cases h
      refine pLast_by [.b false] (And.intro h23 trivial) ?_
      kernel_rfl
theorem lw_symM_b6 {self : (List V) → (Int) → (Int) → (Int) → (List V) → Option (List V)} {K : Nat} (hself : ∀ {a0 : List V} {a1 : Int} {a2 : Int} {a3 : Int} {a4 : List V} {z0 : List V}, self a0 a1 a2 a3 a4 = some z0 → ∀ k, K ≤ k → sem E k (ruBase + 104) [(V.fresh 3 (a0)), (V.int .i64 (a1)), (V.int .i64 (a2)), (V.int .i64 (a3)), (V.clo 99 [(V.ref [(V.sl (a4))] 0 (0) 1)])] = some (V.fresh 3 (z0))) : ∀ (n : Nat) (a0 : Int) (a1 : Int) (a2 : List V) (r : List V), l_symM_b6 self n a0 a1 a2 = some r → ∀ k m, n + 3 ≤ k → n ≤ m → K ≤ k → LB E 104 6 k m ⟨[(0, (V.row 1)), (14, (V.int .i64 (a0))), (17, (V.int .i64 (a1)))], [(1, .row 3 (a2))]⟩ = some (match r with | o0 => (.normal, ⟨[(0, (V.row 1))], [(1, .row 3 (o0))]⟩)) := by
  intro n
  induction n with
  | zero => intro a0 a1 a2 r h; cases h
  | succ n ih =>
    intro a0 a1 a2 r h k m hk hm hK
    obtain ⟨m, rfl⟩ : ∃ q, m = q + 1 := ⟨m - 1, by omega⟩
    replace hk : n + 3 ≤ k := by omega
    unfold l_symM_b6 at h
    rcases cnd_some h with ⟨h33, h⟩ | ⟨h33, h⟩
    · obtain ⟨c34, h⟩ := chk_some h
      obtain ⟨e35_0, g35, h⟩ := bnd_some h
      replace g35 := as_i64_some g35
      obtain ⟨c36, h⟩ := chk_some h
      obtain ⟨e37_0, g37, h⟩ := bnd_some h
      replace g37 := as_i64_some g37
      obtain ⟨e38_0, g38, h⟩ := bnd_some h
      replace g38 := as_i64_some g38
      obtain ⟨c39, h⟩ := chk_some h
      obtain ⟨e40_0, g40, h⟩ := bnd_some h
      replace g40 := as_i64_some g40
      refine pNext_by [.b true, .v (V.int .i64 (e35_0)), .v (V.int .i64 (e37_0)), .v (V.int .i64 (e38_0)), .v (V.int .i64 (e40_0))] (And.intro h33 (And.intro c34 (And.intro g35 (And.intro c36 (And.intro g37 (And.intro c36 (And.intro g38 (And.intro c39 (And.intro g40 trivial))))))))) (ih _ _ _ _ h k m hk (by omega) hK) ?_
      kernel_rfl
    · cases h
      refine pLast_by [.b false] (And.intro h33 trivial) ?_
      kernel_rfl
theorem lw_symM_b8 {self : (List V) → (Int) → (Int) → (Int) → (List V) → Option (List V)} {K : Nat} (hself : ∀ {a0 : List V} {a1 : Int} {a2 : Int} {a3 : Int} {a4 : List V} {z0 : List V}, self a0 a1 a2 a3 a4 = some z0 → ∀ k, K ≤ k → sem E k (ruBase + 104) [(V.fresh 3 (a0)), (V.int .i64 (a1)), (V.int .i64 (a2)), (V.int .i64 (a3)), (V.clo 99 [(V.ref [(V.sl (a4))] 0 (0) 1)])] = some (V.fresh 3 (z0))) : ∀ (n : Nat) (a0 : Int) (a1 : Int) (a2 : Int) (a3 : List V) (a4 : Int) (a5 : Int) (a6 : Int) (a7 : Int) (a8 : Int) (a9 : List V) (r : Int × Int × Int × List V × Int × Int × Int × List V), l_symM_b8 self n a0 a1 a2 a3 a4 a5 a6 a7 a8 a9 = some r → ∀ k m, n + 3 ≤ k → n ≤ m → K ≤ k → LB E 104 8 k m ⟨[(0, (V.row 1)), (1, (V.int .i64 (a0))), (2, (V.int .i64 (a1))), (3, (V.int .i64 (a2))), (4, (V.clo 99 [(V.ref [(V.sl (a3))] 0 (0) 1)])), (18, (V.int .i64 (a4))), (19, (V.int .i64 (a5))), (20, (V.int .i64 (a6))), (21, (V.int .i64 (a7))), (22, (V.int .i64 (a8)))], [(1, .row 3 (a9))]⟩ = some (match r with | (o0, o1, o2, o3, o4, o5, o6, o7) => (.normal, ⟨[(0, (V.row 1)), (1, (V.int .i64 (o0))), (2, (V.int .i64 (o1))), (3, (V.int .i64 (o2))), (4, (V.clo 99 [(V.ref [(V.sl (o3))] 0 (0) 1)])), (18, (V.int .i64 (o4))), (19, (V.int .i64 (o5))), (20, (V.int .i64 (o6)))], [(1, .row 3 (o7))]⟩)) := by
  intro n
  induction n with
  | zero => intro a0 a1 a2 a3 a4 a5 a6 a7 a8 a9 r h; cases h
  | succ n ih =>
    intro a0 a1 a2 a3 a4 a5 a6 a7 a8 a9 r h k m hk hm hK
    obtain ⟨m, rfl⟩ : ∃ q, m = q + 1 := ⟨m - 1, by omega⟩
    replace hk : n + 3 ≤ k := by omega
    unfold l_symM_b8 at h
    rcases cnd_some h with ⟨h45, h⟩ | ⟨h45, h⟩
    · obtain ⟨c46, h⟩ := chk_some h
      obtain ⟨c47, h⟩ := chk_some h
      obtain ⟨e48_0, g48, h⟩ := bnd_some h
      replace g48 := as_i64_some g48
      obtain ⟨c49, h⟩ := chk_some h
      obtain ⟨e50_0, g50, h⟩ := bnd_some h
      replace g50 := as_i64_some g50
      obtain ⟨y51_0, q51, h⟩ := bnd_some h
      rcases cnd_some h with ⟨h52, h⟩ | ⟨h52, h⟩
      · refine pNext_by [.b true, .v (V.int .i64 (e48_0)), .v (V.int .i64 (e50_0)), .v (V.int .i64 (y51_0)), .b false] (And.intro h45 (And.intro c46 (And.intro c47 (And.intro g48 (And.intro c49 (And.intro g50 (And.intro (w_impl_byWidth_1 q51 k (by omega)) (And.intro (not_f h52) trivial)))))))) (ih _ _ _ _ _ _ _ _ _ _ _ h k m hk (by omega) hK) ?_
        kernel_rfl
      · refine pNext_by [.b true, .v (V.int .i64 (e48_0)), .v (V.int .i64 (e50_0)), .v (V.int .i64 (y51_0)), .b true] (And.intro h45 (And.intro c46 (And.intro c47 (And.intro g48 (And.intro c49 (And.intro g50 (And.intro (w_impl_byWidth_1 q51 k (by omega)) (And.intro (not_t h52) trivial)))))))) (ih _ _ _ _ _ _ _ _ _ _ _ h k m hk (by omega) hK) ?_
        kernel_rfl
    · cases h
      refine pLast_by [.b false] (And.intro h45 trivial) ?_
      kernel_rfl
theorem w_symM {n : Nat} {a0 : List V} {a1 : Int} {a2 : Int} {a3 : Int} {a4 : List V} {z0 : List V} (h : s_symM n a0 a1 a2 a3 a4 = some z0) : ∀ k, n + 4 ≤ k → sem E k (ruBase + 104) [(V.fresh 3 (a0)), (V.int .i64 (a1)), (V.int .i64 (a2)), (V.int .i64 (a3)), (V.clo 99 [(V.ref [(V.sl (a4))] 0 (0) 1)])] = some (V.fresh 3 (z0)) := by
  induction n generalizing a0 a1 a2 a3 a4 z0 with
  | zero => cases h
  | succ n ih =>
    intro k hk
    obtain ⟨k, rfl⟩ : ∃ q, k = q + 1 := ⟨k - 1, by omega⟩
    replace hk : n + 4 ≤ k := by omega
    unfold s_symM at h
    rcases cnd_some h with ⟨h1, h⟩ | ⟨h1, h⟩
    · obtain ⟨⟨u10_0, u10_1, u10_2⟩, l10, h⟩ := bnd_some h
      obtain ⟨u20_0, l20, h⟩ := bnd_some h
      replace h := Option.some.inj h
      obtain rfl := h
      refine pRu_by [.b true, .l .normal ⟨[(0, (V.row 1)), (1, (V.int .i64 (u10_0))), (10, (V.int .i64 (u10_1)))], [(1, .row 3 (u10_2))]⟩, .l .normal ⟨[(0, (V.row 1))], [(1, .row 3 (u20_0))]⟩] rfl rfl rfl rfl rfl (And.intro h1 (And.intro (lw_symM_b0 ih _ _ _ _ _ _ _ l10 k k (by omega) (by omega) (by omega)) (And.intro (lw_symM_b2 ih _ _ _ _ _ l20 k k (by omega) (by omega) (by omega)) trivial))) ?_
      kernel_rfl
    · rcases cnd_some h with ⟨h22, h⟩ | ⟨h22, h⟩
      · obtain ⟨⟨u31_0, u31_1, u31_2⟩, l31, h⟩ := bnd_some h
        obtain ⟨u41_0, l41, h⟩ := bnd_some h
        replace h := Option.some.inj h
        obtain rfl := h
        refine pRu_by [.b false, .b true, .l .normal ⟨[(0, (V.row 1)), (2, (V.int .i64 (u31_0))), (14, (V.int .i64 (u31_1)))], [(1, .row 3 (u31_2))]⟩, .l .normal ⟨[(0, (V.row 1))], [(1, .row 3 (u41_0))]⟩] rfl rfl rfl rfl rfl (And.intro h1 (And.intro h22 (And.intro (lw_symM_b4 ih _ _ _ _ _ _ _ l31 k k (by omega) (by omega) (by omega)) (And.intro (lw_symM_b6 ih _ _ _ _ _ l41 k k (by omega) (by omega) (by omega)) trivial)))) ?_
        kernel_rfl
      · obtain ⟨c43, h⟩ := chk_some h
        rcases cnd_some h with ⟨h44, h⟩ | ⟨h44, h⟩
        · obtain ⟨⟨u53_0, u53_1, u53_2, u53_3, u53_4, u53_5, u53_6, u53_7⟩, l53, h⟩ := bnd_some h
          rcases cnd_some h with ⟨h55, h⟩ | ⟨h55, h⟩
          · rcases cnd_some h with ⟨h56, h⟩ | ⟨h56, h⟩
            · obtain ⟨y57_0, q57, h⟩ := bnd_some h
              obtain ⟨c58, h⟩ := chk_some h
              rcases cnd_some h with ⟨h59, h⟩ | ⟨h59, h⟩
              · rcases cnd_some h with ⟨h60, h⟩ | ⟨h60, h⟩
                · obtain ⟨y61_0, q61, h⟩ := bnd_some h
                  obtain ⟨c62, h⟩ := chk_some h
                  rcases cnd_some h with ⟨h63, h⟩ | ⟨h63, h⟩
                  · rcases cnd_some h with ⟨h64, h⟩ | ⟨h64, h⟩
                    · obtain ⟨y65_0, q65, h⟩ := bnd_some h
                      obtain ⟨c66, h⟩ := chk_some h
                      replace h := Option.some.inj h
                      obtain rfl := h
                      refine pRu_by [.b false, .b false, .b true, .l .normal ⟨[(0, (V.row 1)), (1, (V.int .i64 (u53_0))), (2, (V.int .i64 (u53_1))), (3, (V.int .i64 (u53_2))), (4, (V.clo 99 [(V.ref [(V.sl (u53_3))] 0 (0) 1)])), (18, (V.int .i64 (u53_4))), (19, (V.int .i64 (u53_5))), (20, (V.int .i64 (u53_6)))], [(1, .row 3 (u53_7))]⟩, .b true, .b true, .v (V.fresh 3 (y57_0)), .b true, .b true, .v (V.fresh 3 (y61_0)), .b true, .b true, .v (V.fresh 3 (y65_0))] rfl rfl rfl rfl rfl (And.intro h1 (And.intro h22 (And.intro c43 (And.intro h44 (And.intro (lw_symM_b8 ih _ _ _ _ _ _ _ _ _ _ _ _ l53 k k (by omega) (by omega) (by omega)) (And.intro h55 (And.intro h56 (And.intro (w_rotC q57 k (by omega)) (And.intro c58 (And.intro h59 (And.intro h60 (And.intro (ih q61 k (by omega)) (And.intro c62 (And.intro h63 (And.intro h64 (And.intro (ih q65 k (by omega)) (And.intro c66 trivial))))))))))))))))) ?_
                      kernel_rfl
                    · replace h := Option.some.inj h
                      obtain rfl := h
                      refine pRu_by [.b false, .b false, .b true, .l .normal ⟨[(0, (V.row 1)), (1, (V.int .i64 (u53_0))), (2, (V.int .i64 (u53_1))), (3, (V.int .i64 (u53_2))), (4, (V.clo 99 [(V.ref [(V.sl (u53_3))] 0 (0) 1)])), (18, (V.int .i64 (u53_4))), (19, (V.int .i64 (u53_5))), (20, (V.int .i64 (u53_6)))], [(1, .row 3 (u53_7))]⟩, .b true, .b true, .v (V.fresh 3 (y57_0)), .b true, .b true, .v (V.fresh 3 (y61_0)), .b true, .b false] rfl rfl rfl rfl rfl (And.intro h1 (And.intro h22 (And.intro c43 (And.intro h44 (And.intro (lw_symM_b8 ih _ _ _ _ _ _ _ _ _ _ _ _ l53 k k (by omega) (by omega) (by omega)) (And.intro h55 (And.intro h56 (And.intro (w_rotC q57 k (by omega)) (And.intro c58 (And.intro h59 (And.intro h60 (And.intro (ih q61 k (by omega)) (And.intro c62 (And.intro h63 (And.intro h64 trivial))))))))))))))) ?_
                      kernel_rfl
                  · replace h := Option.some.inj h
                    obtain rfl := h
                    refine pRu_by [.b false, .b false, .b true, .l .normal ⟨[(0, (V.row 1)), (1, (V.int .i64 (u53_0))), (2, (V.int .i64 (u53_1))), (3, (V.int .i64 (u53_2))), (4, (V.clo 99 [(V.ref [(V.sl (u53_3))] 0 (0) 1)])), (18, (V.int .i64 (u53_4))), (19, (V.int .i64 (u53_5))), (20, (V.int .i64 (u53_6)))], [(1, .row 3 (u53_7))]⟩, .b true, .b true, .v (V.fresh 3 (y57_0)), .b true, .b true, .v (V.fresh 3 (y61_0)), .b false, .b false] rfl rfl rfl rfl rfl (And.intro h1 (And.intro h22 (And.intro c43 (And.intro h44 (And.intro (lw_symM_b8 ih _ _ _ _ _ _ _ _ _ _ _ _ l53 k k (by omega) (by omega) (by omega)) (And.intro h55 (And.intro h56 (And.intro (w_rotC q57 k (by omega)) (And.intro c58 (And.intro h59 (And.intro h60 (And.intro (ih q61 k (by omega)) (And.intro c62 (And.intro h63 (And.intro (Eq.refl false) trivial))))))))))))))) ?_
                    kernel_rfl
                · rcases cnd_some h with ⟨h67, h⟩ | ⟨h67, h⟩
                  · rcases cnd_some h with ⟨h68, h⟩ | ⟨h68, h⟩
                    · obtain ⟨y69_0, q69, h⟩ := bnd_some h
                      obtain ⟨c70, h⟩ := chk_some h
                      replace h := Option.some.inj h
                      obtain rfl := h
                      refine pRu_by [.b false, .b false, .b true, .l .normal ⟨[(0, (V.row 1)), (1, (V.int .i64 (u53_0))), (2, (V.int .i64 (u53_1))), (3, (V.int .i64 (u53_2))), (4, (V.clo 99 [(V.ref [(V.sl (u53_3))] 0 (0) 1)])), (18, (V.int .i64 (u53_4))), (19, (V.int .i64 (u53_5))), (20, (V.int .i64 (u53_6)))], [(1, .row 3 (u53_7))]⟩, .b true, .b true, .v (V.fresh 3 (y57_0)), .b true, .b false, .b true, .b true, .v (V.fresh 3 (y69_0))] rfl rfl rfl rfl rfl (And.intro h1 (And.intro h22 (And.intro c43 (And.intro h44 (And.intro (lw_symM_b8 ih _ _ _ _ _ _ _ _ _ _ _ _ l53 k k (by omega) (by omega) (by omega)) (And.intro h55 (And.intro h56 (And.intro (w_rotC q57 k (by omega)) (And.intro c58 (And.intro h59 (And.intro h60 (And.intro h67 (And.intro h68 (And.intro (ih q69 k (by omega)) (And.intro c70 trivial))))))))))))))) ?_
                      kernel_rfl
                    · replace h := Option.some.inj h
                      obtain rfl := h
                      refine pRu_by [.b false, .b false, .b true, .l .normal ⟨[(0, (V.row 1)), (1, (V.int .i64 (u53_0))), (2, (V.int .i64 (u53_1))), (3, (V.int .i64 (u53_2))), (4, (V.clo 99 [(V.ref [(V.sl (u53_3))] 0 (0) 1)])), (18, (V.int .i64 (u53_4))), (19, (V.int .i64 (u53_5))), (20, (V.int .i64 (u53_6)))], [(1, .row 3 (u53_7))]⟩, .b true, .b true, .v (V.fresh 3 (y57_0)), .b true, .b false, .b true, .b false] rfl rfl rfl rfl rfl (And.intro h1 (And.intro h22 (And.intro c43 (And.intro h44 (And.intro (lw_symM_b8 ih _ _ _ _ _ _ _ _ _ _ _ _ l53 k k (by omega) (by omega) (by omega)) (And.intro h55 (And.intro h56 (And.intro (w_rotC q57 k (by omega)) (And.intro c58 (And.intro h59 (And.intro h60 (And.intro h67 (And.intro h68 trivial))))))))))))) ?_
                      kernel_rfl
                  · replace h := Option.some.inj h
                    obtain rfl := h
                    refine pRu_by [.b false, .b false, .b true, .l .normal ⟨[(0, (V.row 1)), (1, (V.int .i64 (u53_0))), (2, (V.int .i64 (u53_1))), (3, (V.int .i64 (u53_2))), (4, (V.clo 99 [(V.ref [(V.sl (u53_3))] 0 (0) 1)])), (18, (V.int .i64 (u53_4))), (19, (V.int .i64 (u53_5))), (20, (V.int .i64 (u53_6)))], [(1, .row 3 (u53_7))]⟩, .b true, .b true, .v (V.fresh 3 (y57_0)), .b true, .b false, .b false, .b false] rfl rfl rfl rfl rfl (And.intro h1 (And.intro h22 (And.intro c43 (And.intro h44 (And.intro (lw_symM_b8 ih _ _ _ _ _ _ _ _ _ _ _ _ l53 k k (by omega) (by omega) (by omega)) (And.intro h55 (And.intro h56 (And.intro (w_rotC q57 k (by omega)) (And.intro c58 (And.intro h59 (And.intro h60 (And.intro h67 (And.intro (Eq.refl false) trivial))))))))))))) ?_
                    kernel_rfl
              · rcases cnd_some h with ⟨h71, h⟩ | ⟨h71, h⟩
                · rcases cnd_some h with ⟨h72, h⟩ | ⟨h72, h⟩
                  · obtain ⟨y73_0, q73, h⟩ := bnd_some h
                    obtain ⟨c74, h⟩ := chk_some h
                    replace h := Option.some.inj h
                    obtain rfl := h
                    refine pRu_by [.b false, .b false, .b true, .l .normal ⟨[(0, (V.row 1)), (1, (V.int .i64 (u53_0))), (2, (V.int .i64 (u53_1))), (3, (V.int .i64 (u53_2))), (4, (V.clo 99 [(V.ref [(V.sl (u53_3))] 0 (0) 1)])), (18, (V.int .i64 (u53_4))), (19, (V.int .i64 (u53_5))), (20, (V.int .i64 (u53_6)))], [(1, .row 3 (u53_7))]⟩, .b true, .b true, .v (V.fresh 3 (y57_0)), .b false, .b false, .b true, .b true, .v (V.fresh 3 (y73_0))] rfl rfl rfl rfl rfl (And.intro h1 (And.intro h22 (And.intro c43 (And.intro h44 (And.intro (lw_symM_b8 ih _ _ _ _ _ _ _ _ _ _ _ _ l53 k k (by omega) (by omega) (by omega)) (And.intro h55 (And.intro h56 (And.intro (w_rotC q57 k (by omega)) (And.intro c58 (And.intro h59 (And.intro (Eq.refl false) (And.intro h71 (And.intro h72 (And.intro (ih q73 k (by omega)) (And.intro c74 trivial))))))))))))))) ?_
                    kernel_rfl
                  · replace h := Option.some.inj h
                    obtain rfl := h
                    refine pRu_by [.b false, .b false, .b true, .l .normal ⟨[(0, (V.row 1)), (1, (V.int .i64 (u53_0))), (2, (V.int .i64 (u53_1))), (3, (V.int .i64 (u53_2))), (4, (V.clo 99 [(V.ref [(V.sl (u53_3))] 0 (0) 1)])), (18, (V.int .i64 (u53_4))), (19, (V.int .i64 (u53_5))), (20, (V.int .i64 (u53_6)))], [(1, .row 3 (u53_7))]⟩, .b true, .b true, .v (V.fresh 3 (y57_0)), .b false, .b false, .b true, .b false] rfl rfl rfl rfl rfl (And.intro h1 (And.intro h22 (And.intro c43 (And.intro h44 (And.intro (lw_symM_b8 ih _ _ _ _ _ _ _ _ _ _ _ _ l53 k k (by omega) (by omega) (by omega)) (And.intro h55 (And.intro h56 (And.intro (w_rotC q57 k (by omega)) (And.intro c58 (And.intro h59 (And.intro (Eq.refl false) (And.intro h71 (And.intro h72 trivial))))))))))))) ?_
                    kernel_rfl
                · replace h := Option.some.inj h
                  obtain rfl := h
                  refine pRu_by [.b false, .b false, .b true, .l .normal ⟨[(0, (V.row 1)), (1, (V.int .i64 (u53_0))), (2, (V.int .i64 (u53_1))), (3, (V.int .i64 (u53_2))), (4, (V.clo 99 [(V.ref [(V.sl (u53_3))] 0 (0) 1)])), (18, (V.int .i64 (u53_4))), (19, (V.int .i64 (u53_5))), (20, (V.int .i64 (u53_6)))], [(1, .row 3 (u53_7))]⟩, .b true, .b true, .v (V.fresh 3 (y57_0)), .b false, .b false, .b false, .b false] rfl rfl rfl rfl rfl (And.intro h1 (And.intro h22 (And.intro c43 (And.intro h44 (And.intro (lw_symM_b8 ih _ _ _ _ _ _ _ _ _ _ _ _ l53 k k (by omega) (by omega) (by omega)) (And.intro h55 (And.intro h56 (And.intro (w_rotC q57 k (by omega)) (And.intro c58 (And.intro h59 (And.intro (Eq.refl false) (And.intro h71 (And.intro (Eq.refl false) trivial))))))))))))) ?_
                  kernel_rfl
            · rcases cnd_some h with ⟨h75, h⟩ | ⟨h75, h⟩
              · rcases cnd_some h with ⟨h76, h⟩ | ⟨h76, h⟩
                · obtain ⟨y77_0, q77, h⟩ := bnd_some h
                  obtain ⟨c78, h⟩ := chk_some h
                  rcases cnd_some h with ⟨h79, h⟩ | ⟨h79, h⟩
                  · rcases cnd_some h with ⟨h80, h⟩ | ⟨h80, h⟩
                    · obtain ⟨y81_0, q81, h⟩ := bnd_some h
                      obtain ⟨c82, h⟩ := chk_some h
                      replace h := Option.some.inj h
                      obtain rfl := h
                      refine pRu_by [.b false, .b false, .b true, .l .normal ⟨[(0, (V.row 1)), (1, (V.int .i64 (u53_0))), (2, (V.int .i64 (u53_1))), (3, (V.int .i64 (u53_2))), (4, (V.clo 99 [(V.ref [(V.sl (u53_3))] 0 (0) 1)])), (18, (V.int .i64 (u53_4))), (19, (V.int .i64 (u53_5))), (20, (V.int .i64 (u53_6)))], [(1, .row 3 (u53_7))]⟩, .b true, .b false, .b true, .b true, .v (V.fresh 3 (y77_0)), .b true, .b true, .v (V.fresh 3 (y81_0))] rfl rfl rfl rfl rfl (And.intro h1 (And.intro h22 (And.intro c43 (And.intro h44 (And.intro (lw_symM_b8 ih _ _ _ _ _ _ _ _ _ _ _ _ l53 k k (by omega) (by omega) (by omega)) (And.intro h55 (And.intro h56 (And.intro h75 (And.intro h76 (And.intro (ih q77 k (by omega)) (And.intro c78 (And.intro h79 (And.intro h80 (And.intro (ih q81 k (by omega)) (And.intro c82 trivial))))))))))))))) ?_
                      kernel_rfl
                    · replace h := Option.some.inj h
                      obtain rfl := h
                      refine pRu_by [.b false, .b false, .b true, .l .normal ⟨[(0, (V.row 1)), (1, (V.int .i64 (u53_0))), (2, (V.int .i64 (u53_1))), (3, (V.int .i64 (u53_2))), (4, (V.clo 99 [(V.ref [(V.sl (u53_3))] 0 (0) 1)])), (18, (V.int .i64 (u53_4))), (19, (V.int .i64 (u53_5))), (20, (V.int .i64 (u53_6)))], [(1, .row 3 (u53_7))]⟩, .b true, .b false, .b true, .b true, .v (V.fresh 3 (y77_0)), .b true, .b false] rfl rfl rfl rfl rfl (And.intro h1 (And.intro h22 (And.intro c43 (And.intro h44 (And.intro (lw_symM_b8 ih _ _ _ _ _ _ _ _ _ _ _ _ l53 k k (by omega) (by omega) (by omega)) (And.intro h55 (And.intro h56 (And.intro h75 (And.intro h76 (And.intro (ih q77 k (by omega)) (And.intro c78 (And.intro h79 (And.intro h80 trivial))))))))))))) ?_
                      kernel_rfl
                  · replace h := Option.some.inj h
                    obtain rfl := h
                    refine pRu_by [.b false, .b false, .b true, .l .normal ⟨[(0, (V.row 1)), (1, (V.int .i64 (u53_0))), (2, (V.int .i64 (u53_1))), (3, (V.int .i64 (u53_2))), (4, (V.clo 99 [(V.ref [(V.sl (u53_3))] 0 (0) 1)])), (18, (V.int .i64 (u53_4))), (19, (V.int .i64 (u53_5))), (20, (V.int .i64 (u53_6)))], [(1, .row 3 (u53_7))]⟩, .b true, .b false, .b true, .b true, .v (V.fresh 3 (y77_0)), .b false, .b false] rfl rfl rfl rfl rfl (And.intro h1 (And.intro h22 (And.intro c43 (And.intro h44 (And.intro (lw_symM_b8 ih _ _ _ _ _ _ _ _ _ _ _ _ l53 k k (by omega) (by omega) (by omega)) (And.intro h55 (And.intro h56 (And.intro h75 (And.intro h76 (And.intro (ih q77 k (by omega)) (And.intro c78 (And.intro h79 (And.intro (Eq.refl false) trivial))))))))))))) ?_
                    kernel_rfl
                · rcases cnd_some h with ⟨h83, h⟩ | ⟨h83, h⟩
                  · rcases cnd_some h with ⟨h84, h⟩ | ⟨h84, h⟩
                    · obtain ⟨y85_0, q85, h⟩ := bnd_some h
                      obtain ⟨c86, h⟩ := chk_some h
                      replace h := Option.some.inj h
                      obtain rfl := h
                      refine pRu_by [.b false, .b false, .b true, .l .normal ⟨[(0, (V.row 1)), (1, (V.int .i64 (u53_0))), (2, (V.int .i64 (u53_1))), (3, (V.int .i64 (u53_2))), (4, (V.clo 99 [(V.ref [(V.sl (u53_3))] 0 (0) 1)])), (18, (V.int .i64 (u53_4))), (19, (V.int .i64 (u53_5))), (20, (V.int .i64 (u53_6)))], [(1, .row 3 (u53_7))]⟩, .b true, .b false, .b true, .b false, .b true, .b true, .v (V.fresh 3 (y85_0))] rfl rfl rfl rfl rfl (And.intro h1 (And.intro h22 (And.intro c43 (And.intro h44 (And.intro (lw_symM_b8 ih _ _ _ _ _ _ _ _ _ _ _ _ l53 k k (by omega) (by omega) (by omega)) (And.intro h55 (And.intro h56 (And.intro h75 (And.intro h76 (And.intro h83 (And.intro h84 (And.intro (ih q85 k (by omega)) (And.intro c86 trivial))))))))))))) ?_
                      kernel_rfl
                    · replace h := Option.some.inj h
                      obtain rfl := h
                      refine pRu_by [.b false, .b false, .b true, .l .normal ⟨[(0, (V.row 1)), (1, (V.int .i64 (u53_0))), (2, (V.int .i64 (u53_1))), (3, (V.int .i64 (u53_2))), (4, (V.clo 99 [(V.ref [(V.sl (u53_3))] 0 (0) 1)])), (18, (V.int .i64 (u53_4))), (19, (V.int .i64 (u53_5))), (20, (V.int .i64 (u53_6)))], [(1, .row 3 (u53_7))]⟩, .b true, .b false, .b true, .b false, .b true, .b false] rfl rfl rfl rfl rfl (And.intro h1 (And.intro h22 (And.intro c43 (And.intro h44 (And.intro (lw_symM_b8 ih _ _ _ _ _ _ _ _ _ _ _ _ l53 k k (by omega) (by omega) (by omega)) (And.intro h55 (And.intro h56 (And.intro h75 (And.intro h76 (And.intro h83 (And.intro h84 trivial))))))))))) ?_
                      kernel_rfl
                  · replace h := Option.some.inj h
                    obtain rfl := h
                    refine pRu_by [.b false, .b false, .b true, .l .normal ⟨[(0, (V.row 1)), (1, (V.int .i64 (u53_0))), (2, (V.int .i64 (u53_1))), (3, (V.int .i64 (u53_2))), (4, (V.clo 99 [(V.ref [(V.sl (u53_3))] 0 (0) 1)])), (18, (V.int .i64 (u53_4))), (19, (V.int .i64 (u53_5))), (20, (V.int .i64 (u53_6)))], [(1, .row 3 (u53_7))]⟩, .b true, .b false, .b true, .b false, .b false, .b false] rfl rfl rfl rfl rfl (And.intro h1 (And.intro h22 (And.intro c43 (And.intro h44 (And.intro (lw_symM_b8 ih _ _ _ _ _ _ _ _ _ _ _ _ l53 k k (by omega) (by omega) (by omega)) (And.intro h55 (And.intro h56 (And.intro h75 (And.intro h76 (And.intro h83 (And.intro (Eq.refl false) trivial))))))))))) ?_
                    kernel_rfl
              · rcases cnd_some h with ⟨h87, h⟩ | ⟨h87, h⟩
                · rcases cnd_some h with ⟨h88, h⟩ | ⟨h88, h⟩
                  · obtain ⟨y89_0, q89, h⟩ := bnd_some h
                    obtain ⟨c90, h⟩ := chk_some h
                    replace h := Option.some.inj h
                    obtain rfl := h
                    refine pRu_by [.b false, .b false, .b true, .l .normal ⟨[(0, (V.row 1)), (1, (V.int .i64 (u53_0))), (2, (V.int .i64 (u53_1))), (3, (V.int .i64 (u53_2))), (4, (V.clo 99 [(V.ref [(V.sl (u53_3))] 0 (0) 1)])), (18, (V.int .i64 (u53_4))), (19, (V.int .i64 (u53_5))), (20, (V.int .i64 (u53_6)))], [(1, .row 3 (u53_7))]⟩, .b true, .b false, .b false, .b false, .b true, .b true, .v (V.fresh 3 (y89_0))] rfl rfl rfl rfl rfl (And.intro h1 (And.intro h22 (And.intro c43 (And.intro h44 (And.intro (lw_symM_b8 ih _ _ _ _ _ _ _ _ _ _ _ _ l53 k k (by omega) (by omega) (by omega)) (And.intro h55 (And.intro h56 (And.intro h75 (And.intro (Eq.refl false) (And.intro h87 (And.intro h88 (And.intro (ih q89 k (by omega)) (And.intro c90 trivial))))))))))))) ?_
                    kernel_rfl
                  · replace h := Option.some.inj h
                    obtain rfl := h
                    refine pRu_by [.b false, .b false, .b true, .l .normal ⟨[(0, (V.row 1)), (1, (V.int .i64 (u53_0))), (2, (V.int .i64 (u53_1))), (3, (V.int .i64 (u53_2))), (4, (V.clo 99 [(V.ref [(V.sl (u53_3))] 0 (0) 1)])), (18, (V.int .i64 (u53_4))), (19, (V.int .i64 (u53_5))), (20, (V.int .i64 (u53_6)))], [(1, .row 3 (u53_7))]⟩, .b true, .b false, .b false, .b false, .b true, .b false] rfl rfl rfl rfl rfl (And.intro h1 (And.intro h22 (And.intro c43 (And.intro h44 (And.intro (lw_symM_b8 ih _ _ _ _ _ _ _ _ _ _ _ _ l53 k k (by omega) (by omega) (by omega)) (And.intro h55 (And.intro h56 (And.intro h75 (And.intro (Eq.refl false) (And.intro h87 (And.intro h88 trivial))))))))))) ?_
                    kernel_rfl
                · replace h := Option.some.inj h
                  obtain rfl := h
                  refine pRu_by [.b false, .b false, .b true, .l .normal ⟨[(0, (V.row 1)), (1, (V.int .i64 (u53_0))), (2, (V.int .i64 (u53_1))), (3, (V.int .i64 (u53_2))), (4, (V.clo 99 [(V.ref [(V.sl (u53_3))] 0 (0) 1)])), (18, (V.int .i64 (u53_4))), (19, (V.int .i64 (u53_5))), (20, (V.int .i64 (u53_6)))], [(1, .row 3 (u53_7))]⟩, .b true, .b false, .b false, .b false, .b false, .b false] rfl rfl rfl rfl rfl (And.intro h1 (And.intro h22 (And.intro c43 (And.intro h44 (And.intro (lw_symM_b8 ih _ _ _ _ _ _ _ _ _ _ _ _ l53 k k (by omega) (by omega) (by omega)) (And.intro h55 (And.intro h56 (And.intro h75 (And.intro (Eq.refl false) (And.intro h87 (And.intro (Eq.refl false) trivial))))))))))) ?_
                  kernel_rfl
          · rcases cnd_some h with ⟨h91, h⟩ | ⟨h91, h⟩
            · rcases cnd_some h with ⟨h92, h⟩ | ⟨h92, h⟩
              · obtain ⟨y93_0, q93, h⟩ := bnd_some h
                obtain ⟨c94, h⟩ := chk_some h
                rcases cnd_some h with ⟨h95, h⟩ | ⟨h95, h⟩
                · rcases cnd_some h with ⟨h96, h⟩ | ⟨h96, h⟩
                  · obtain ⟨y97_0, q97, h⟩ := bnd_some h
                    obtain ⟨c98, h⟩ := chk_some h
                    replace h := Option.some.inj h
                    obtain rfl := h
                    refine pRu_by [.b false, .b false, .b true, .l .normal ⟨[(0, (V.row 1)), (1, (V.int .i64 (u53_0))), (2, (V.int .i64 (u53_1))), (3, (V.int .i64 (u53_2))), (4, (V.clo 99 [(V.ref [(V.sl (u53_3))] 0 (0) 1)])), (18, (V.int .i64 (u53_4))), (19, (V.int .i64 (u53_5))), (20, (V.int .i64 (u53_6)))], [(1, .row 3 (u53_7))]⟩, .b false, .b false, .b true, .b true, .v (V.fresh 3 (y93_0)), .b true, .b true, .v (V.fresh 3 (y97_0))] rfl rfl rfl rfl rfl (And.intro h1 (And.intro h22 (And.intro c43 (And.intro h44 (And.intro (lw_symM_b8 ih _ _ _ _ _ _ _ _ _ _ _ _ l53 k k (by omega) (by omega) (by omega)) (And.intro h55 (And.intro (Eq.refl false) (And.intro h91 (And.intro h92 (And.intro (ih q93 k (by omega)) (And.intro c94 (And.intro h95 (And.intro h96 (And.intro (ih q97 k (by omega)) (And.intro c98 trivial))))))))))))))) ?_
                    kernel_rfl
                  · replace h := Option.some.inj h
                    obtain rfl := h
                    refine pRu_by [.b false, .b false, .b true, .l .normal ⟨[(0, (V.row 1)), (1, (V.int .i64 (u53_0))), (2, (V.int .i64 (u53_1))), (3, (V.int .i64 (u53_2))), (4, (V.clo 99 [(V.ref [(V.sl (u53_3))] 0 (0) 1)])), (18, (V.int .i64 (u53_4))), (19, (V.int .i64 (u53_5))), (20, (V.int .i64 (u53_6)))], [(1, .row 3 (u53_7))]⟩, .b false, .b false, .b true, .b true, .v (V.fresh 3 (y93_0)), .b true, .b false] rfl rfl rfl rfl rfl (And.intro h1 (And.intro h22 (And.intro c43 (And.intro h44 (And.intro (lw_symM_b8 ih _ _ _ _ _ _ _ _ _ _ _ _ l53 k k (by omega) (by omega) (by omega)) (And.intro h55 (And.intro (Eq.refl false) (And.intro h91 (And.intro h92 (And.intro (ih q93 k (by omega)) (And.intro c94 (And.intro h95 (And.intro h96 trivial))))))))))))) ?_
                    kernel_rfl
                · replace h := Option.some.inj h
                  obtain rfl := h
                  refine pRu_by [.b false, .b false, .b true, .l .normal ⟨[(0, (V.row 1)), (1, (V.int .i64 (u53_0))), (2, (V.int .i64 (u53_1))), (3, (V.int .i64 (u53_2))), (4, (V.clo 99 [(V.ref [(V.sl (u53_3))] 0 (0) 1)])), (18, (V.int .i64 (u53_4))), (19, (V.int .i64 (u53_5))), (20, (V.int .i64 (u53_6)))], [(1, .row 3 (u53_7))]⟩, .b false, .b false, .b true, .b true, .v (V.fresh 3 (y93_0)), .b false, .b false] rfl rfl rfl rfl rfl (And.intro h1 (And.intro h22 (And.intro c43 (And.intro h44 (And.intro (lw_symM_b8 ih _ _ _ _ _ _ _ _ _ _ _ _ l53 k k (by omega) (by omega) (by omega)) (And.intro h55 (And.intro (Eq.refl false) (And.intro h91 (And.intro h92 (And.intro (ih q93 k (by omega)) (And.intro c94 (And.intro h95 (And.intro (Eq.refl false) trivial))))))))))))) ?_
                  kernel_rfl
              · rcases cnd_some h with ⟨h99, h⟩ | ⟨h99, h⟩
                · rcases cnd_some h with ⟨h100, h⟩ | ⟨h100, h⟩
                  · obtain ⟨y101_0, q101, h⟩ := bnd_some h
                    obtain ⟨c102, h⟩ := chk_some h
                    replace h := Option.some.inj h
                    obtain rfl := h
                    refine pRu_by [.b false, .b false, .b true, .l .normal ⟨[(0, (V.row 1)), (1, (V.int .i64 (u53_0))), (2, (V.int .i64 (u53_1))), (3, (V.int .i64 (u53_2))), (4, (V.clo 99 [(V.ref [(V.sl (u53_3))] 0 (0) 1)])), (18, (V.int .i64 (u53_4))), (19, (V.int .i64 (u53_5))), (20, (V.int .i64 (u53_6)))], [(1, .row 3 (u53_7))]⟩, .b false, .b false, .b true, .b false, .b true, .b true, .v (V.fresh 3 (y101_0))] rfl rfl rfl rfl rfl (And.intro h1 (And.intro h22 (And.intro c43 (And.intro h44 (And.intro (lw_symM_b8 ih _ _ _ _ _ _ _ _ _ _ _ _ l53 k k (by omega) (by omega) (by omega)) (And.intro h55 (And.intro (Eq.refl false) (And.intro h91 (And.intro h92 (And.intro h99 (And.intro h100 (And.intro (ih q101 k (by omega)) (And.intro c102 trivial))))))))))))) ?_
                    kernel_rfl
                  · replace h := Option.some.inj h
                    obtain rfl := h
                    refine pRu_by [.b false, .b false, .b true, .l .normal ⟨[(0, (V.row 1)), (1, (V.int .i64 (u53_0))), (2, (V.int .i64 (u53_1))), (3, (V.int .i64 (u53_2))), (4, (V.clo 99 [(V.ref [(V.sl (u53_3))] 0 (0) 1)])), (18, (V.int .i64 (u53_4))), (19, (V.int .i64 (u53_5))), (20, (V.int .i64 (u53_6)))], [(1, .row 3 (u53_7))]⟩, .b false, .b false, .b true, .b false, .b true, .b false] rfl rfl rfl rfl rfl (And.intro h1 (And.intro h22 (And.intro c43 (And.intro h44 (And.intro (lw_symM_b8 ih _ _ _ _ _ _ _ _ _ _ _ _ l53 k k (by omega) (by omega) (by omega)) (And.intro h55 (And.intro (Eq.refl false) (And.intro h91 (And.intro h92 (And.intro h99 (And.intro h100 trivial))))))))))) ?_
                    kernel_rfl
                · replace h := Option.some.inj h
                  obtain rfl := h
                  refine pRu_by [.b false, .b false, .b true, .l .normal ⟨[(0, (V.row 1)), (1, (V.int .i64 (u53_0))), (2, (V.int .i64 (u53_1))), (3, (V.int .i64 (u53_2))), (4, (V.clo 99 [(V.ref [(V.sl (u53_3))] 0 (0) 1)])), (18, (V.int .i64 (u53_4))), (19, (V.int .i64 (u53_5))), (20, (V.int .i64 (u53_6)))], [(1, .row 3 (u53_7))]⟩, .b false, .b false, .b true, .b false, .b false, .b false] rfl rfl rfl rfl rfl (And.intro h1 (And.intro h22 (And.intro c43 (And.intro h44 (And.intro (lw_symM_b8 ih _ _ _ _ _ _ _ _ _ _ _ _ l53 k k (by omega) (by omega) (by omega)) (And.intro h55 (And.intro (Eq.refl false) (And.intro h91 (And.intro h92 (And.intro h99 (And.intro (Eq.refl false) trivial))))))))))) ?_
                  kernel_rfl
            · rcases cnd_some h with ⟨h103, h⟩ | ⟨h103, h⟩
              · rcases cnd_some h with ⟨h104, h⟩ | ⟨h104, h⟩
                · obtain ⟨y105_0, q105, h⟩ := bnd_some h
                  obtain ⟨c106, h⟩ := chk_some h
                  replace h := Option.some.inj h
                  obtain rfl := h
                  refine pRu_by [.b false, .b false, .b true, .l .normal ⟨[(0, (V.row 1)), (1, (V.int .i64 (u53_0))), (2, (V.int .i64 (u53_1))), (3, (V.int .i64 (u53_2))), (4, (V.clo 99 [(V.ref [(V.sl (u53_3))] 0 (0) 1)])), (18, (V.int .i64 (u53_4))), (19, (V.int .i64 (u53_5))), (20, (V.int .i64 (u53_6)))], [(1, .row 3 (u53_7))]⟩, .b false, .b false, .b false, .b false, .b true, .b true, .v (V.fresh 3 (y105_0))] rfl rfl rfl rfl rfl (And.intro h1 (And.intro h22 (And.intro c43 (And.intro h44 (And.intro (lw_symM_b8 ih _ _ _ _ _ _ _ _ _ _ _ _ l53 k k (by omega) (by omega) (by omega)) (And.intro h55 (And.intro (Eq.refl false) (And.intro h91 (And.intro (Eq.refl false) (And.intro h103 (And.intro h104 (And.intro (ih q105 k (by omega)) (And.intro c106 trivial))))))))))))) ?_
                  kernel_rfl
                · replace h := Option.some.inj h
                  obtain rfl := h
                  refine pRu_by [.b false, .b false, .b true, .l .normal ⟨[(0, (V.row 1)), (1, (V.int .i64 (u53_0))), (2, (V.int .i64 (u53_1))), (3, (V.int .i64 (u53_2))), (4, (V.clo 99 [(V.ref [(V.sl (u53_3))] 0 (0) 1)])), (18, (V.int .i64 (u53_4))), (19, (V.int .i64 (u53_5))), (20, (V.int .i64 (u53_6)))], [(1, .row 3 (u53_7))]⟩, .b false, .b false, .b false, .b false, .b true, .b false] rfl rfl rfl rfl rfl (And.intro h1 (And.intro h22 (And.intro c43 (And.intro h44 (And.intro (lw_symM_b8 ih _ _ _ _ _ _ _ _ _ _ _ _ l53 k k (by omega) (by omega) (by omega)) (And.intro h55 (And.intro (Eq.refl false) (And.intro h91 (And.intro (Eq.refl false) (And.intro h103 (And.intro h104 trivial))))))))))) ?_
                  kernel_rfl
              · replace h := Option.some.inj h
                obtain rfl := h
                refine pRu_by [.b false, .b false, .b true, .l .normal ⟨[(0, (V.row 1)), (1, (V.int .i64 (u53_0))), (2, (V.int .i64 (u53_1))), (3, (V.int .i64 (u53_2))), (4, (V.clo 99 [(V.ref [(V.sl (u53_3))] 0 (0) 1)])), (18, (V.int .i64 (u53_4))), (19, (V.int .i64 (u53_5))), (20, (V.int .i64 (u53_6)))], [(1, .row 3 (u53_7))]⟩, .b false, .b false, .b false, .b false, .b false, .b false] rfl rfl rfl rfl rfl (And.intro h1 (And.intro h22 (And.intro c43 (And.intro h44 (And.intro (lw_symM_b8 ih _ _ _ _ _ _ _ _ _ _ _ _ l53 k k (by omega) (by omega) (by omega)) (And.intro h55 (And.intro (Eq.refl false) (And.intro h91 (And.intro (Eq.refl false) (And.intro h103 (And.intro (Eq.refl false) trivial))))))))))) ?_
                kernel_rfl
        · obtain ⟨⟨u107_0, u107_1, u107_2, u107_3, u107_4, u107_5, u107_6, u107_7⟩, l107, h⟩ := bnd_some h
          rcases cnd_some h with ⟨h109, h⟩ | ⟨h109, h⟩
          · rcases cnd_some h with ⟨h110, h⟩ | ⟨h110, h⟩
            · obtain ⟨y111_0, q111, h⟩ := bnd_some h
              obtain ⟨c112, h⟩ := chk_some h
              rcases cnd_some h with ⟨h113, h⟩ | ⟨h113, h⟩
              · rcases cnd_some h with ⟨h114, h⟩ | ⟨h114, h⟩
                · obtain ⟨y115_0, q115, h⟩ := bnd_some h
                  obtain ⟨c116, h⟩ := chk_some h
                  rcases cnd_some h with ⟨h117, h⟩ | ⟨h117, h⟩
                  · rcases cnd_some h with ⟨h118, h⟩ | ⟨h118, h⟩
                    · obtain ⟨y119_0, q119, h⟩ := bnd_some h
                      obtain ⟨c120, h⟩ := chk_some h
                      replace h := Option.some.inj h
                      obtain rfl := h
                      refine pRu_by [.b false, .b false, .b false, .l .normal ⟨[(0, (V.row 1)), (1, (V.int .i64 (u107_0))), (2, (V.int .i64 (u107_1))), (3, (V.int .i64 (u107_2))), (4, (V.clo 99 [(V.ref [(V.sl (u107_3))] 0 (0) 1)])), (18, (V.int .i64 (u107_4))), (19, (V.int .i64 (u107_5))), (20, (V.int .i64 (u107_6)))], [(1, .row 3 (u107_7))]⟩, .b true, .b true, .v (V.fresh 3 (y111_0)), .b true, .b true, .v (V.fresh 3 (y115_0)), .b true, .b true, .v (V.fresh 3 (y119_0))] rfl rfl rfl rfl rfl (And.intro h1 (And.intro h22 (And.intro c43 (And.intro h44 (And.intro (lw_symM_b8 ih _ _ _ _ _ _ _ _ _ _ _ _ l107 k k (by omega) (by omega) (by omega)) (And.intro h109 (And.intro h110 (And.intro (w_rotC q111 k (by omega)) (And.intro c112 (And.intro h113 (And.intro h114 (And.intro (ih q115 k (by omega)) (And.intro c116 (And.intro h117 (And.intro h118 (And.intro (ih q119 k (by omega)) (And.intro c120 trivial))))))))))))))))) ?_
                      kernel_rfl
                    · replace h := Option.some.inj h
                      obtain rfl := h
                      refine pRu_by [.b false, .b false, .b false, .l .normal ⟨[(0, (V.row 1)), (1, (V.int .i64 (u107_0))), (2, (V.int .i64 (u107_1))), (3, (V.int .i64 (u107_2))), (4, (V.clo 99 [(V.ref [(V.sl (u107_3))] 0 (0) 1)])), (18, (V.int .i64 (u107_4))), (19, (V.int .i64 (u107_5))), (20, (V.int .i64 (u107_6)))], [(1, .row 3 (u107_7))]⟩, .b true, .b true, .v (V.fresh 3 (y111_0)), .b true, .b true, .v (V.fresh 3 (y115_0)), .b true, .b false] rfl rfl rfl rfl rfl (And.intro h1 (And.intro h22 (And.intro c43 (And.intro h44 (And.intro (lw_symM_b8 ih _ _ _ _ _ _ _ _ _ _ _ _ l107 k k (by omega) (by omega) (by omega)) (And.intro h109 (And.intro h110 (And.intro (w_rotC q111 k (by omega)) (And.intro c112 (And.intro h113 (And.intro h114 (And.intro (ih q115 k (by omega)) (And.intro c116 (And.intro h117 (And.intro h118 trivial))))))))))))))) ?_
                      kernel_rfl
                  · replace h := Option.some.inj h
                    obtain rfl := h
                    refine pRu_by [.b false, .b false, .b false, .l .normal ⟨[(0, (V.row 1)), (1, (V.int .i64 (u107_0))), (2, (V.int .i64 (u107_1))), (3, (V.int .i64 (u107_2))), (4, (V.clo 99 [(V.ref [(V.sl (u107_3))] 0 (0) 1)])), (18, (V.int .i64 (u107_4))), (19, (V.int .i64 (u107_5))), (20, (V.int .i64 (u107_6)))], [(1, .row 3 (u107_7))]⟩, .b true, .b true, .v (V.fresh 3 (y111_0)), .b true, .b true, .v (V.fresh 3 (y115_0)), .b false, .b false] rfl rfl rfl rfl rfl (And.intro h1 (And.intro h22 (And.intro c43 (And.intro h44 (And.intro (lw_symM_b8 ih _ _ _ _ _ _ _ _ _ _ _ _ l107 k k (by omega) (by omega) (by omega)) (And.intro h109 (And.intro h110 (And.intro (w_rotC q111 k (by omega)) (And.intro c112 (And.intro h113 (And.intro h114 (And.intro (ih q115 k (by omega)) (And.intro c116 (And.intro h117 (And.intro (Eq.refl false) trivial))))))))))))))) ?_
                    kernel_rfl
                · rcases cnd_some h with ⟨h121, h⟩ | ⟨h121, h⟩
                  · rcases cnd_some h with ⟨h122, h⟩ | ⟨h122, h⟩
                    · obtain ⟨y123_0, q123, h⟩ := bnd_some h
                      obtain ⟨c124, h⟩ := chk_some h
                      replace h := Option.some.inj h
                      obtain rfl := h
                      refine pRu_by [.b false, .b false, .b false, .l .normal ⟨[(0, (V.row 1)), (1, (V.int .i64 (u107_0))), (2, (V.int .i64 (u107_1))), (3, (V.int .i64 (u107_2))), (4, (V.clo 99 [(V.ref [(V.sl (u107_3))] 0 (0) 1)])), (18, (V.int .i64 (u107_4))), (19, (V.int .i64 (u107_5))), (20, (V.int .i64 (u107_6)))], [(1, .row 3 (u107_7))]⟩, .b true, .b true, .v (V.fresh 3 (y111_0)), .b true, .b false, .b true, .b true, .v (V.fresh 3 (y123_0))] rfl rfl rfl rfl rfl (And.intro h1 (And.intro h22 (And.intro c43 (And.intro h44 (And.intro (lw_symM_b8 ih _ _ _ _ _ _ _ _ _ _ _ _ l107 k k (by omega) (by omega) (by omega)) (And.intro h109 (And.intro h110 (And.intro (w_rotC q111 k (by omega)) (And.intro c112 (And.intro h113 (And.intro h114 (And.intro h121 (And.intro h122 (And.intro (ih q123 k (by omega)) (And.intro c124 trivial))))))))))))))) ?_
                      kernel_rfl
                    · replace h := Option.some.inj h
                      obtain rfl := h
                      refine pRu_by [.b false, .b false, .b false, .l .normal ⟨[(0, (V.row 1)), (1, (V.int .i64 (u107_0))), (2, (V.int .i64 (u107_1))), (3, (V.int .i64 (u107_2))), (4, (V.clo 99 [(V.ref [(V.sl (u107_3))] 0 (0) 1)])), (18, (V.int .i64 (u107_4))), (19, (V.int .i64 (u107_5))), (20, (V.int .i64 (u107_6)))], [(1, .row 3 (u107_7))]⟩, .b true, .b true, .v (V.fresh 3 (y111_0)), .b true, .b false, .b true, .b false] rfl rfl rfl rfl rfl (And.intro h1 (And.intro h22 (And.intro c43 (And.intro h44 (And.intro (lw_symM_b8 ih _ _ _ _ _ _ _ _ _ _ _ _ l107 k k (by omega) (by omega) (by omega)) (And.intro h109 (And.intro h110 (And.intro (w_rotC q111 k (by omega)) (And.intro c112 (And.intro h113 (And.intro h114 (And.intro h121 (And.intro h122 trivial))))))))))))) ?_
                      kernel_rfl
                  · replace h := Option.some.inj h
                    obtain rfl := h
                    refine pRu_by [.b false, .b false, .b false, .l .normal ⟨[(0, (V.row 1)), (1, (V.int .i64 (u107_0))), (2, (V.int .i64 (u107_1))), (3, (V.int .i64 (u107_2))), (4, (V.clo 99 [(V.ref [(V.sl (u107_3))] 0 (0) 1)])), (18, (V.int .i64 (u107_4))), (19, (V.int .i64 (u107_5))), (20, (V.int .i64 (u107_6)))], [(1, .row 3 (u107_7))]⟩, .b true, .b true, .v (V.fresh 3 (y111_0)), .b true, .b false, .b false, .b false] rfl rfl rfl rfl rfl (And.intro h1 (And.intro h22 (And.intro c43 (And.intro h44 (And.intro (lw_symM_b8 ih _ _ _ _ _ _ _ _ _ _ _ _ l107 k k (by omega) (by omega) (by omega)) (And.intro h109 (And.intro h110 (And.intro (w_rotC q111 k (by omega)) (And.intro c112 (And.intro h113 (And.intro h114 (And.intro h121 (And.intro (Eq.refl false) trivial))))))))))))) ?_
                    kernel_rfl
              · rcases cnd_some h with ⟨h125, h⟩ | ⟨h125, h⟩
                · rcases cnd_some h with ⟨h126, h⟩ | ⟨h126, h⟩
                  · obtain ⟨y127_0, q127, h⟩ := bnd_some h
                    obtain ⟨c128, h⟩ := chk_some h
                    replace h := Option.some.inj h
                    obtain rfl := h
                    refine pRu_by [.b false, .b false, .b false, .l .normal ⟨[(0, (V.row 1)), (1, (V.int .i64 (u107_0))), (2, (V.int .i64 (u107_1))), (3, (V.int .i64 (u107_2))), (4, (V.clo 99 [(V.ref [(V.sl (u107_3))] 0 (0) 1)])), (18, (V.int .i64 (u107_4))), (19, (V.int .i64 (u107_5))), (20, (V.int .i64 (u107_6)))], [(1, .row 3 (u107_7))]⟩, .b true, .b true, .v (V.fresh 3 (y111_0)), .b false, .b false, .b true, .b true, .v (V.fresh 3 (y127_0))] rfl rfl rfl rfl rfl (And.intro h1 (And.intro h22 (And.intro c43 (And.intro h44 (And.intro (lw_symM_b8 ih _ _ _ _ _ _ _ _ _ _ _ _ l107 k k (by omega) (by omega) (by omega)) (And.intro h109 (And.intro h110 (And.intro (w_rotC q111 k (by omega)) (And.intro c112 (And.intro h113 (And.intro (Eq.refl false) (And.intro h125 (And.intro h126 (And.intro (ih q127 k (by omega)) (And.intro c128 trivial))))))))))))))) ?_
                    kernel_rfl
                  · replace h := Option.some.inj h
                    obtain rfl := h
                    refine pRu_by [.b false, .b false, .b false, .l .normal ⟨[(0, (V.row 1)), (1, (V.int .i64 (u107_0))), (2, (V.int .i64 (u107_1))), (3, (V.int .i64 (u107_2))), (4, (V.clo 99 [(V.ref [(V.sl (u107_3))] 0 (0) 1)])), (18, (V.int .i64 (u107_4))), (19, (V.int .i64 (u107_5))), (20, (V.int .i64 (u107_6)))], [(1, .row 3 (u107_7))]⟩, .b true, .b true, .v (V.fresh 3 (y111_0)), .b false, .b false, .b true, .b false] rfl rfl rfl rfl rfl (And.intro h1 (And.intro h22 (And.intro c43 (And.intro h44 (And.intro (lw_symM_b8 ih _ _ _ _ _ _ _ _ _ _ _ _ l107 k k (by omega) (by omega) (by omega)) (And.intro h109 (And.intro h110 (And.intro (w_rotC q111 k (by omega)) (And.intro c112 (And.intro h113 (And.intro (Eq.refl false) (And.intro h125 (And.intro h126 trivial))))))))))))) ?_
                    kernel_rfl
                · replace h := Option.some.inj h
                  obtain rfl := h
                  refine pRu_by [.b false, .b false, .b false, .l .normal ⟨[(0, (V.row 1)), (1, (V.int .i64 (u107_0))), (2, (V.int .i64 (u107_1))), (3, (V.int .i64 (u107_2))), (4, (V.clo 99 [(V.ref [(V.sl (u107_3))] 0 (0) 1)])), (18, (V.int .i64 (u107_4))), (19, (V.int .i64 (u107_5))), (20, (V.int .i64 (u107_6)))], [(1, .row 3 (u107_7))]⟩, .b true, .b true, .v (V.fresh 3 (y111_0)), .b false, .b false, .b false, .b false] rfl rfl rfl rfl rfl (And.intro h1 (And.intro h22 (And.intro c43 (And.intro h44 (And.intro (lw_symM_b8 ih _ _ _ _ _ _ _ _ _ _ _ _ l107 k k (by omega) (by omega) (by omega)) (And.intro h109 (And.intro h110 (And.intro (w_rotC q111 k (by omega)) (And.intro c112 (And.intro h113 (And.intro (Eq.refl false) (And.intro h125 (And.intro (Eq.refl false) trivial))))))))))))) ?_
                  kernel_rfl
            · rcases cnd_some h with ⟨h129, h⟩ | ⟨h129, h⟩
              · rcases cnd_some h with ⟨h130, h⟩ | ⟨h130, h⟩
                · obtain ⟨y131_0, q131, h⟩ := bnd_some h
                  obtain ⟨c132, h⟩ := chk_some h
                  rcases cnd_some h with ⟨h133, h⟩ | ⟨h133, h⟩
                  · rcases cnd_some h with ⟨h134, h⟩ | ⟨h134, h⟩
                    · obtain ⟨y135_0, q135, h⟩ := bnd_some h
                      obtain ⟨c136, h⟩ := chk_some h
                      replace h := Option.some.inj h
                      obtain rfl := h
                      refine pRu_by [.b false, .b false, .b false, .l .normal ⟨[(0, (V.row 1)), (1, (V.int .i64 (u107_0))), (2, (V.int .i64 (u107_1))), (3, (V.int .i64 (u107_2))), (4, (V.clo 99 [(V.ref [(V.sl (u107_3))] 0 (0) 1)])), (18, (V.int .i64 (u107_4))), (19, (V.int .i64 (u107_5))), (20, (V.int .i64 (u107_6)))], [(1, .row 3 (u107_7))]⟩, .b true, .b false, .b true, .b true, .v (V.fresh 3 (y131_0)), .b true, .b true, .v (V.fresh 3 (y135_0))] rfl rfl rfl rfl rfl (And.intro h1 (And.intro h22 (And.intro c43 (And.intro h44 (And.intro (lw_symM_b8 ih _ _ _ _ _ _ _ _ _ _ _ _ l107 k k (by omega) (by omega) (by omega)) (And.intro h109 (And.intro h110 (And.intro h129 (And.intro h130 (And.intro (ih q131 k (by omega)) (And.intro c132 (And.intro h133 (And.intro h134 (And.intro (ih q135 k (by omega)) (And.intro c136 trivial))))))))))))))) ?_
                      kernel_rfl
                    · replace h := Option.some.inj h
                      obtain rfl := h
                      refine pRu_by [.b false, .b false, .b false, .l .normal ⟨[(0, (V.row 1)), (1, (V.int .i64 (u107_0))), (2, (V.int .i64 (u107_1))), (3, (V.int .i64 (u107_2))), (4, (V.clo 99 [(V.ref [(V.sl (u107_3))] 0 (0) 1)])), (18, (V.int .i64 (u107_4))), (19, (V.int .i64 (u107_5))), (20, (V.int .i64 (u107_6)))], [(1, .row 3 (u107_7))]⟩, .b true, .b false, .b true, .b true, .v (V.fresh 3 (y131_0)), .b true, .b false] rfl rfl rfl rfl rfl (And.intro h1 (And.intro h22 (And.intro c43 (And.intro h44 (And.intro (lw_symM_b8 ih _ _ _ _ _ _ _ _ _ _ _ _ l107 k k (by omega) (by omega) (by omega)) (And.intro h109 (And.intro h110 (And.intro h129 (And.intro h130 (And.intro (ih q131 k (by omega)) (And.intro c132 (And.intro h133 (And.intro h134 trivial))))))))))))) ?_
                      kernel_rfl
                  · replace h := Option.some.inj h
                    obtain rfl := h
                    refine pRu_by [.b false, .b false, .b false, .l .normal ⟨[(0, (V.row 1)), (1, (V.int .i64 (u107_0))), (2, (V.int .i64 (u107_1))), (3, (V.int .i64 (u107_2))), (4, (V.clo 99 [(V.ref [(V.sl (u107_3))] 0 (0) 1)])), (18, (V.int .i64 (u107_4))), (19, (V.int .i64 (u107_5))), (20, (V.int .i64 (u107_6)))], [(1, .row 3 (u107_7))]⟩, .b true, .b false, .b true, .b true, .v (V.fresh 3 (y131_0)), .b false, .b false] rfl rfl rfl rfl rfl (And.intro h1 (And.intro h22 (And.intro c43 (And.intro h44 (And.intro (lw_symM_b8 ih _ _ _ _ _ _ _ _ _ _ _ _ l107 k k (by omega) (by omega) (by omega)) (And.intro h109 (And.intro h110 (And.intro h129 (And.intro h130 (And.intro (ih q131 k (by omega)) (And.intro c132 (And.intro h133 (And.intro (Eq.refl false) trivial))))))))))))) ?_
                    kernel_rfl
                · rcases cnd_some h with ⟨h137, h⟩ | ⟨h137, h⟩
                  · rcases cnd_some h with ⟨h138, h⟩ | ⟨h138, h⟩
                    · obtain ⟨y139_0, q139, h⟩ := bnd_some h
                      obtain ⟨c140, h⟩ := chk_some h
                      replace h := Option.some.inj h
                      obtain rfl := h
                      refine pRu_by [.b false, .b false, .b false, .l .normal ⟨[(0, (V.row 1)), (1, (V.int .i64 (u107_0))), (2, (V.int .i64 (u107_1))), (3, (V.int .i64 (u107_2))), (4, (V.clo 99 [(V.ref [(V.sl (u107_3))] 0 (0) 1)])), (18, (V.int .i64 (u107_4))), (19, (V.int .i64 (u107_5))), (20, (V.int .i64 (u107_6)))], [(1, .row 3 (u107_7))]⟩, .b true, .b false, .b true, .b false, .b true, .b true, .v (V.fresh 3 (y139_0))] rfl rfl rfl rfl rfl (And.intro h1 (And.intro h22 (And.intro c43 (And.intro h44 (And.intro (lw_symM_b8 ih _ _ _ _ _ _ _ _ _ _ _ _ l107 k k (by omega) (by omega) (by omega)) (And.intro h109 (And.intro h110 (And.intro h129 (And.intro h130 (And.intro h137 (And.intro h138 (And.intro (ih q139 k (by omega)) (And.intro c140 trivial))))))))))))) ?_
                      kernel_rfl
                    · replace h := Option.some.inj h
                      obtain rfl := h
                      refine pRu_by [.b false, .b false, .b false, .l .normal ⟨[(0, (V.row 1)), (1, (V.int .i64 (u107_0))), (2, (V.int .i64 (u107_1))), (3, (V.int .i64 (u107_2))), (4, (V.clo 99 [(V.ref [(V.sl (u107_3))] 0 (0) 1)])), (18, (V.int .i64 (u107_4))), (19, (V.int .i64 (u107_5))), (20, (V.int .i64 (u107_6)))], [(1, .row 3 (u107_7))]⟩, .b true, .b false, .b true, .b false, .b true, .b false] rfl rfl rfl rfl rfl (And.intro h1 (And.intro h22 (And.intro c43 (And.intro h44 (And.intro (lw_symM_b8 ih _ _ _ _ _ _ _ _ _ _ _ _ l107 k k (by omega) (by omega) (by omega)) (And.intro h109 (And.intro h110 (And.intro h129 (And.intro h130 (And.intro h137 (And.intro h138 trivial))))))))))) ?_
                      kernel_rfl
                  · replace h := Option.some.inj h
                    obtain rfl := h
                    refine pRu_by [.b false, .b false, .b false, .l .normal ⟨[(0, (V.row 1)), (1, (V.int .i64 (u107_0))), (2, (V.int .i64 (u107_1))), (3, (V.int .i64 (u107_2))), (4, (V.clo 99 [(V.ref [(V.sl (u107_3))] 0 (0) 1)])), (18, (V.int .i64 (u107_4))), (19, (V.int .i64 (u107_5))), (20, (V.int .i64 (u107_6)))], [(1, .row 3 (u107_7))]⟩, .b true, .b false, .b true, .b false, .b false, .b false] rfl rfl rfl rfl rfl (And.intro h1 (And.intro h22 (And.intro c43 (And.intro h44 (And.intro (lw_symM_b8 ih _ _ _ _ _ _ _ _ _ _ _ _ l107 k k (by omega) (by omega) (by omega)) (And.intro h109 (And.intro h110 (And.intro h129 (And.intro h130 (And.intro h137 (And.intro (Eq.refl false) trivial))))))))))) ?_
                    kernel_rfl
              · rcases cnd_some h with ⟨h141, h⟩ | ⟨h141, h⟩
                · rcases cnd_some h with ⟨h142, h⟩ | ⟨h142, h⟩
                  · obtain ⟨y143_0, q143, h⟩ := bnd_some h
                    obtain ⟨c144, h⟩ := chk_some h
                    replace h := Option.some.inj h
                    obtain rfl := h
                    refine pRu_by [.b false, .b false, .b false, .l .normal ⟨[(0, (V.row 1)), (1, (V.int .i64 (u107_0))), (2, (V.int .i64 (u107_1))), (3, (V.int .i64 (u107_2))), (4, (V.clo 99 [(V.ref [(V.sl (u107_3))] 0 (0) 1)])), (18, (V.int .i64 (u107_4))), (19, (V.int .i64 (u107_5))), (20, (V.int .i64 (u107_6)))], [(1, .row 3 (u107_7))]⟩, .b true, .b false, .b false, .b false, .b true, .b true, .v (V.fresh 3 (y143_0))] rfl rfl rfl rfl rfl (And.intro h1 (And.intro h22 (And.intro c43 (And.intro h44 (And.intro (lw_symM_b8 ih _ _ _ _ _ _ _ _ _ _ _ _ l107 k k (by omega) (by omega) (by omega)) (And.intro h109 (And.intro h110 (And.intro h129 (And.intro (Eq.refl false) (And.intro h141 (And.intro h142 (And.intro (ih q143 k (by omega)) (And.intro c144 trivial))))))))))))) ?_
                    kernel_rfl
                  · replace h := Option.some.inj h
                    obtain rfl := h
                    refine pRu_by [.b false, .b false, .b false, .l .normal ⟨[(0, (V.row 1)), (1, (V.int .i64 (u107_0))), (2, (V.int .i64 (u107_1))), (3, (V.int .i64 (u107_2))), (4, (V.clo 99 [(V.ref [(V.sl (u107_3))] 0 (0) 1)])), (18, (V.int .i64 (u107_4))), (19, (V.int .i64 (u107_5))), (20, (V.int .i64 (u107_6)))], [(1, .row 3 (u107_7))]⟩, .b true, .b false, .b false, .b false, .b true, .b false] rfl rfl rfl rfl rfl (And.intro h1 (And.intro h22 (And.intro c43 (And.intro h44 (And.intro (lw_symM_b8 ih _ _ _ _ _ _ _ _ _ _ _ _ l107 k k (by omega) (by omega) (by omega)) (And.intro h109 (And.intro h110 (And.intro h129 (And.intro (Eq.refl false) (And.intro h141 (And.intro h142 trivial))))))))))) ?_
                    kernel_rfl
                · replace h := Option.some.inj h
                  obtain rfl := h
                  refine pRu_by [.b false, .b false, .b false, .l .normal ⟨[(0, (V.row 1)), (1, (V.int .i64 (u107_0))), (2, (V.int .i64 (u107_1))), (3, (V.int .i64 (u107_2))), (4, (V.clo 99 [(V.ref [(V.sl (u107_3))] 0 (0) 1)])), (18, (V.int .i64 (u107_4))), (19, (V.int .i64 (u107_5))), (20, (V.int .i64 (u107_6)))], [(1, .row 3 (u107_7))]⟩, .b true, .b false, .b false, .b false, .b false, .b false] rfl rfl rfl rfl rfl (And.intro h1 (And.intro h22 (And.intro c43 (And.intro h44 (And.intro (lw_symM_b8 ih _ _ _ _ _ _ _ _ _ _ _ _ l107 k k (by omega) (by omega) (by omega)) (And.intro h109 (And.intro h110 (And.intro h129 (And.intro (Eq.refl false) (And.intro h141 (And.intro (Eq.refl false) trivial))))))))))) ?_
                  kernel_rfl
          · rcases cnd_some h with ⟨h145, h⟩ | ⟨h145, h⟩
            · rcases cnd_some h with ⟨h146, h⟩ | ⟨h146, h⟩
              · obtain ⟨y147_0, q147, h⟩ := bnd_some h
                obtain ⟨c148, h⟩ := chk_some h
                rcases cnd_some h with ⟨h149, h⟩ | ⟨h149, h⟩
                · rcases cnd_some h with ⟨h150, h⟩ | ⟨h150, h⟩
                  · obtain ⟨y151_0, q151, h⟩ := bnd_some h
                    obtain ⟨c152, h⟩ := chk_some h
                    replace h := Option.some.inj h
                    obtain rfl := h
                    refine pRu_by [.b false, .b false, .b false, .l .normal ⟨[(0, (V.row 1)), (1, (V.int .i64 (u107_0))), (2, (V.int .i64 (u107_1))), (3, (V.int .i64 (u107_2))), (4, (V.clo 99 [(V.ref [(V.sl (u107_3))] 0 (0) 1)])), (18, (V.int .i64 (u107_4))), (19, (V.int .i64 (u107_5))), (20, (V.int .i64 (u107_6)))], [(1, .row 3 (u107_7))]⟩, .b false, .b false, .b true, .b true, .v (V.fresh 3 (y147_0)), .b true, .b true, .v (V.fresh 3 (y151_0))] rfl rfl rfl rfl rfl (And.intro h1 (And.intro h22 (And.intro c43 (And.intro h44 (And.intro (lw_symM_b8 ih _ _ _ _ _ _ _ _ _ _ _ _ l107 k k (by omega) (by omega) (by omega)) (And.intro h109 (And.intro (Eq.refl false) (And.intro h145 (And.intro h146 (And.intro (ih q147 k (by omega)) (And.intro c148 (And.intro h149 (And.intro h150 (And.intro (ih q151 k (by omega)) (And.intro c152 trivial))))))))))))))) ?_
                    kernel_rfl
                  · replace h := Option.some.inj h
                    obtain rfl := h
                    refine pRu_by [.b false, .b false, .b false, .l .normal ⟨[(0, (V.row 1)), (1, (V.int .i64 (u107_0))), (2, (V.int .i64 (u107_1))), (3, (V.int .i64 (u107_2))), (4, (V.clo 99 [(V.ref [(V.sl (u107_3))] 0 (0) 1)])), (18, (V.int .i64 (u107_4))), (19, (V.int .i64 (u107_5))), (20, (V.int .i64 (u107_6)))], [(1, .row 3 (u107_7))]⟩, .b false, .b false, .b true, .b true, .v (V.fresh 3 (y147_0)), .b true, .b false] rfl rfl rfl rfl rfl (And.intro h1 (And.intro h22 (And.intro c43 (And.intro h44 (And.intro (lw_symM_b8 ih _ _ _ _ _ _ _ _ _ _ _ _ l107 k k (by omega) (by omega) (by omega)) (And.intro h109 (And.intro (Eq.refl false) (And.intro h145 (And.intro h146 (And.intro (ih q147 k (by omega)) (And.intro c148 (And.intro h149 (And.intro h150 trivial))))))))))))) ?_
                    kernel_rfl
                · replace h := Option.some.inj h
                  obtain rfl := h
                  refine pRu_by [.b false, .b false, .b false, .l .normal ⟨[(0, (V.row 1)), (1, (V.int .i64 (u107_0))), (2, (V.int .i64 (u107_1))), (3, (V.int .i64 (u107_2))), (4, (V.clo 99 [(V.ref [(V.sl (u107_3))] 0 (0) 1)])), (18, (V.int .i64 (u107_4))), (19, (V.int .i64 (u107_5))), (20, (V.int .i64 (u107_6)))], [(1, .row 3 (u107_7))]⟩, .b false, .b false, .b true, .b true, .v (V.fresh 3 (y147_0)), .b false, .b false] rfl rfl rfl rfl rfl (And.intro h1 (And.intro h22 (And.intro c43 (And.intro h44 (And.intro (lw_symM_b8 ih _ _ _ _ _ _ _ _ _ _ _ _ l107 k k (by omega) (by omega) (by omega)) (And.intro h109 (And.intro (Eq.refl false) (And.intro h145 (And.intro h146 (And.intro (ih q147 k (by omega)) (And.intro c148 (And.intro h149 (And.intro (Eq.refl false) trivial))))))))))))) ?_
                  kernel_rfl
              · rcases cnd_some h with ⟨h153, h⟩ | ⟨h153, h⟩
                · rcases cnd_some h with ⟨h154, h⟩ | ⟨h154, h⟩
                  · obtain ⟨y155_0, q155, h⟩ := bnd_some h
                    obtain ⟨c156, h⟩ := chk_some h
                    replace h := Option.some.inj h
                    obtain rfl := h
                    refine pRu_by [.b false, .b false, .b false, .l .normal ⟨[(0, (V.row 1)), (1, (V.int .i64 (u107_0))), (2, (V.int .i64 (u107_1))), (3, (V.int .i64 (u107_2))), (4, (V.clo 99 [(V.ref [(V.sl (u107_3))] 0 (0) 1)])), (18, (V.int .i64 (u107_4))), (19, (V.int .i64 (u107_5))), (20, (V.int .i64 (u107_6)))], [(1, .row 3 (u107_7))]⟩, .b false, .b false, .b true, .b false, .b true, .b true, .v (V.fresh 3 (y155_0))] rfl rfl rfl rfl rfl (And.intro h1 (And.intro h22 (And.intro c43 (And.intro h44 (And.intro (lw_symM_b8 ih _ _ _ _ _ _ _ _ _ _ _ _ l107 k k (by omega) (by omega) (by omega)) (And.intro h109 (And.intro (Eq.refl false) (And.intro h145 (And.intro h146 (And.intro h153 (And.intro h154 (And.intro (ih q155 k (by omega)) (And.intro c156 trivial))))))))))))) ?_
                    kernel_rfl
                  · replace h := Option.some.inj h
                    obtain rfl := h
                    refine pRu_by [.b false, .b false, .b false, .l .normal ⟨[(0, (V.row 1)), (1, (V.int .i64 (u107_0))), (2, (V.int .i64 (u107_1))), (3, (V.int .i64 (u107_2))), (4, (V.clo 99 [(V.ref [(V.sl (u107_3))] 0 (0) 1)])), (18, (V.int .i64 (u107_4))), (19, (V.int .i64 (u107_5))), (20, (V.int .i64 (u107_6)))], [(1, .row 3 (u107_7))]⟩, .b false, .b false, .b true, .b false, .b true, .b false] rfl rfl rfl rfl rfl (And.intro h1 (And.intro h22 (And.intro c43 (And.intro h44 (And.intro (lw_symM_b8 ih _ _ _ _ _ _ _ _ _ _ _ _ l107 k k (by omega) (by omega) (by omega)) (And.intro h109 (And.intro (Eq.refl false) (And.intro h145 (And.intro h146 (And.intro h153 (And.intro h154 trivial))))))))))) ?_
                    kernel_rfl
                · replace h := Option.some.inj h
                  obtain rfl := h
                  refine pRu_by [.b false, .b false, .b false, .l .normal ⟨[(0, (V.row 1)), (1, (V.int .i64 (u107_0))), (2, (V.int .i64 (u107_1))), (3, (V.int .i64 (u107_2))), (4, (V.clo 99 [(V.ref [(V.sl (u107_3))] 0 (0) 1)])), (18, (V.int .i64 (u107_4))), (19, (V.int .i64 (u107_5))), (20, (V.int .i64 (u107_6)))], [(1, .row 3 (u107_7))]⟩, .b false, .b false, .b true, .b false, .b false, .b false] rfl rfl rfl rfl rfl (And.intro h1 (And.intro h22 (And.intro c43 (And.intro h44 (And.intro (lw_symM_b8 ih _ _ _ _ _ _ _ _ _ _ _ _ l107 k k (by omega) (by omega) (by omega)) (And.intro h109 (And.intro (Eq.refl false) (And.intro h145 (And.intro h146 (And.intro h153 (And.intro (Eq.refl false) trivial))))))))))) ?_
                  kernel_rfl
            · rcases cnd_some h with ⟨h157, h⟩ | ⟨h157, h⟩
              · rcases cnd_some h with ⟨h158, h⟩ | ⟨h158, h⟩
                · obtain ⟨y159_0, q159, h⟩ := bnd_some h
                  obtain ⟨c160, h⟩ := chk_some h
                  replace h := Option.some.inj h
                  obtain rfl := h
                  refine pRu_by [.b false, .b false, .b false, .l .normal ⟨[(0, (V.row 1)), (1, (V.int .i64 (u107_0))), (2, (V.int .i64 (u107_1))), (3, (V.int .i64 (u107_2))), (4, (V.clo 99 [(V.ref [(V.sl (u107_3))] 0 (0) 1)])), (18, (V.int .i64 (u107_4))), (19, (V.int .i64 (u107_5))), (20, (V.int .i64 (u107_6)))], [(1, .row 3 (u107_7))]⟩, .b false, .b false, .b false, .b false, .b true, .b true, .v (V.fresh 3 (y159_0))] rfl rfl rfl rfl rfl (And.intro h1 (And.intro h22 (And.intro c43 (And.intro h44 (And.intro (lw_symM_b8 ih _ _ _ _ _ _ _ _ _ _ _ _ l107 k k (by omega) (by omega) (by omega)) (And.intro h109 (And.intro (Eq.refl false) (And.intro h145 (And.intro (Eq.refl false) (And.intro h157 (And.intro h158 (And.intro (ih q159 k (by omega)) (And.intro c160 trivial))))))))))))) ?_
                  kernel_rfl
                · replace h := Option.some.inj h
                  obtain rfl := h
                  refine pRu_by [.b false, .b false, .b false, .l .normal ⟨[(0, (V.row 1)), (1, (V.int .i64 (u107_0))), (2, (V.int .i64 (u107_1))), (3, (V.int .i64 (u107_2))), (4, (V.clo 99 [(V.ref [(V.sl (u107_3))] 0 (0) 1)])), (18, (V.int .i64 (u107_4))), (19, (V.int .i64 (u107_5))), (20, (V.int .i64 (u107_6)))], [(1, .row 3 (u107_7))]⟩, .b false, .b false, .b false, .b false, .b true, .b false] rfl rfl rfl rfl rfl (And.intro h1 (And.intro h22 (And.intro c43 (And.intro h44 (And.intro (lw_symM_b8 ih _ _ _ _ _ _ _ _ _ _ _ _ l107 k k (by omega) (by omega) (by omega)) (And.intro h109 (And.intro (Eq.refl false) (And.intro h145 (And.intro (Eq.refl false) (And.intro h157 (And.intro h158 trivial))))))))))) ?_
                  kernel_rfl
              · replace h := Option.some.inj h
                obtain rfl := h
                refine pRu_by [.b false, .b false, .b false, .l .normal ⟨[(0, (V.row 1)), (1, (V.int .i64 (u107_0))), (2, (V.int .i64 (u107_1))), (3, (V.int .i64 (u107_2))), (4, (V.clo 99 [(V.ref [(V.sl (u107_3))] 0 (0) 1)])), (18, (V.int .i64 (u107_4))), (19, (V.int .i64 (u107_5))), (20, (V.int .i64 (u107_6)))], [(1, .row 3 (u107_7))]⟩, .b false, .b false, .b false, .b false, .b false, .b false] rfl rfl rfl rfl rfl (And.intro h1 (And.intro h22 (And.intro c43 (And.intro h44 (And.intro (lw_symM_b8 ih _ _ _ _ _ _ _ _ _ _ _ _ l107 k k (by omega) (by omega) (by omega)) (And.intro h109 (And.intro (Eq.refl false) (And.intro h145 (And.intro (Eq.refl false) (And.intro h157 (And.intro (Eq.refl false) trivial))))))))))) ?_
                kernel_rfl
theorem lw_stabC_b0 : ∀ (n : Nat) (a0 : Int) (a1 : List V) (a2 : Int) (a3 : Int) (a4 : Int) (a5 : List V) (r : Int × List V × Int × Int × List V), l_stabC_b0 n a0 a1 a2 a3 a4 a5 = some r → ∀ k m, n + 4 ≤ k → n ≤ m → LB E 101 0 k m ⟨[(0, (V.row 1)), (1, (V.int .i64 (a0))), (2, (V.clo 99 [(V.ref [(V.sl (a1))] 0 (0) 1)])), (6, (V.int .i64 (a2))), (7, (V.int .i64 (a3))), (8, (V.int .i64 (a4)))], [(1, .row 3 (a5))]⟩ = some (match r with | (o0, o1, o2, o3, o4) => (.normal, ⟨[(0, (V.row 1)), (1, (V.int .i64 (o0))), (2, (V.clo 99 [(V.ref [(V.sl (o1))] 0 (0) 1)])), (6, (V.int .i64 (o2))), (7, (V.int .i64 (o3)))], [(1, .row 3 (o4))]⟩)) := by
  intro n
  induction n with
  | zero => intro a0 a1 a2 a3 a4 a5 r h; cases h
  | succ n ih =>
    intro a0 a1 a2 a3 a4 a5 r h k m hk hm
    obtain ⟨m, rfl⟩ : ∃ q, m = q + 1 := ⟨m - 1, by omega⟩
    replace hk : n + 4 ≤ k := by omega
    unfold l_stabC_b0 at h
    rcases cnd_some h with ⟨h1, h⟩ | ⟨h1, h⟩
    · obtain ⟨y2_0, q2, h⟩ := bnd_some h
      obtain ⟨c3, h⟩ := chk_some h
      refine pNext_by [.b true, .v (V.fresh 3 (y2_0))] (And.intro h1 (And.intro (w_insC q2 k (by omega)) (And.intro c3 trivial))) (ih _ _ _ _ _ _ _ h k m hk (by omega)) ?_
      kernel_rfl
    · cases h
      refine pLast_by [.b false] (And.intro h1 trivial) ?_
      kernel_rfl
theorem lw_stabC_b4 : ∀ (n : Nat) (a0 : Int) (a1 : List V) (a2 : Int) (a3 : Int) (a4 : Int) (a5 : List V) (r : Int × List V × Int × Int × List V), l_stabC_b4 n a0 a1 a2 a3 a4 a5 = some r → ∀ k m, n + 4 ≤ k → n ≤ m → LB E 101 4 k m ⟨[(0, (V.row 1)), (1, (V.int .i64 (a0))), (2, (V.clo 99 [(V.ref [(V.sl (a1))] 0 (0) 1)])), (6, (V.int .i64 (a2))), (7, (V.int .i64 (a3))), (8, (V.int .i64 (a4)))], [(1, .row 3 (a5))]⟩ = some (match r with | (o0, o1, o2, o3, o4) => (.normal, ⟨[(0, (V.row 1)), (1, (V.int .i64 (o0))), (2, (V.clo 99 [(V.ref [(V.sl (o1))] 0 (0) 1)])), (6, (V.int .i64 (o2))), (7, (V.int .i64 (o3)))], [(1, .row 3 (o4))]⟩)) := by
  intro n
  induction n with
  | zero => intro a0 a1 a2 a3 a4 a5 r h; cases h
  | succ n ih =>
    intro a0 a1 a2 a3 a4 a5 r h k m hk hm
    obtain ⟨m, rfl⟩ : ∃ q, m = q + 1 := ⟨m - 1, by omega⟩
    replace hk : n + 4 ≤ k := by omega
    unfold l_stabC_b4 at h
    rcases cnd_some h with ⟨h9, h⟩ | ⟨h9, h⟩
    · obtain ⟨y10_0, q10, h⟩ := bnd_some h
      obtain ⟨c11, h⟩ := chk_some h
      refine pNext_by [.b true, .v (V.fresh 3 (y10_0))] (And.intro h9 (And.intro (w_symM q10 k (by omega)) (And.intro c11 trivial))) (ih _ _ _ _ _ _ _ h k m hk (by omega)) ?_
      kernel_rfl
    · cases h
      refine pLast_by [.b false] (And.intro h9 trivial) ?_
      kernel_rfl
theorem lw_stabC_b2 : ∀ (n : Nat) (a0 : Int) (a1 : List V) (a2 : Int) (a3 : List V) (r : List V), l_stabC_b2 n a0 a1 a2 a3 = some r → ∀ k m, n + 4 ≤ k → n ≤ m → LB E 101 2 k m ⟨[(0, (V.row 1)), (1, (V.int .i64 (a0))), (2, (V.clo 99 [(V.ref [(V.sl (a1))] 0 (0) 1)])), (6, (V.int .i64 (a2)))], [(1, .row 3 (a3))]⟩ = some (match r with | o0 => (.normal, ⟨[(0, (V.row 1))], [(1, .row 3 (o0))]⟩)) := by
  intro n
  induction n with
  | zero => intro a0 a1 a2 a3 r h; cases h
  | succ n ih =>
    intro a0 a1 a2 a3 r h k m hk hm
    obtain ⟨m, rfl⟩ : ∃ q, m = q + 1 := ⟨m - 1, by omega⟩
    replace hk : n + 4 ≤ k := by omega
    unfold l_stabC_b2 at h
    rcases cnd_some h with ⟨h8, h⟩ | ⟨h8, h⟩
    · obtain ⟨⟨u12_0, u12_1, u12_2, u12_3, u12_4⟩, l12, h⟩ := bnd_some h
      rcases cnd_some h with ⟨h14, h⟩ | ⟨h14, h⟩
      · obtain ⟨y15_0, q15, h⟩ := bnd_some h
        obtain ⟨c16, h⟩ := chk_some h
        refine pNext_by [.b true, .l .normal ⟨[(0, (V.row 1)), (1, (V.int .i64 (u12_0))), (2, (V.clo 99 [(V.ref [(V.sl (u12_1))] 0 (0) 1)])), (6, (V.int .i64 (u12_2))), (7, (V.int .i64 (u12_3)))], [(1, .row 3 (u12_4))]⟩, .b true, .v (V.fresh 3 (y15_0))] (And.intro h8 (And.intro (lw_stabC_b4 _ _ _ _ _ _ _ _ l12 k k (by omega) (by omega)) (And.intro h14 (And.intro (w_symM q15 k (by omega)) (And.intro c16 trivial))))) (ih _ _ _ _ _ h k m hk (by omega)) ?_
        kernel_rfl
      · refine pNext_by [.b true, .l .normal ⟨[(0, (V.row 1)), (1, (V.int .i64 (u12_0))), (2, (V.clo 99 [(V.ref [(V.sl (u12_1))] 0 (0) 1)])), (6, (V.int .i64 (u12_2))), (7, (V.int .i64 (u12_3)))], [(1, .row 3 (u12_4))]⟩, .b false] (And.intro h8 (And.intro (lw_stabC_b4 _ _ _ _ _ _ _ _ l12 k k (by omega) (by omega)) (And.intro h14 trivial))) (ih _ _ _ _ _ h k m hk (by omega)) ?_
        kernel_rfl
    · cases h
      refine pLast_by [.b false] (And.intro h8 trivial) ?_
      kernel_rfl
theorem w_stabC {n : Nat} {a0 : List V} {a1 : Int} {a2 : List V} {z0 : List V} (h : s_stabC n a0 a1 a2 = some z0) : ∀ k, n + 5 ≤ k → sem E k (ruBase + 101) [(V.fresh 3 (a0)), (V.int .i64 (a1)), (V.clo 99 [(V.ref [(V.sl (a2))] 0 (0) 1)])] = some (V.fresh 3 (z0)) := by
  intro k hk
  obtain ⟨k, rfl⟩ : ∃ q, k = q + 1 := ⟨k - 1, by omega⟩
  unfold s_stabC at h
  obtain ⟨⟨u4_0, u4_1, u4_2, u4_3, u4_4⟩, l4, h⟩ := bnd_some h
  obtain ⟨y6_0, q6, h⟩ := bnd_some h
  obtain ⟨c7, h⟩ := chk_some h
  obtain ⟨u17_0, l17, h⟩ := bnd_some h
  replace h := Option.some.inj h
  obtain rfl := h
  refine pRu_by [.l .normal ⟨[(0, (V.row 1)), (1, (V.int .i64 (u4_0))), (2, (V.clo 99 [(V.ref [(V.sl (u4_1))] 0 (0) 1)])), (6, (V.int .i64 (u4_2))), (7, (V.int .i64 (u4_3)))], [(1, .row 3 (u4_4))]⟩, .v (V.fresh 3 (y6_0)), .l .normal ⟨[(0, (V.row 1))], [(1, .row 3 (u17_0))]⟩] rfl rfl rfl rfl rfl (And.intro (lw_stabC_b0 _ _ _ _ _ _ _ _ l4 k k (by omega) (by omega)) (And.intro (w_insC q6 k (by omega)) (And.intro c7 (And.intro (lw_stabC_b2 _ _ _ _ _ _ l17 k k (by omega) (by omega)) trivial)))) ?_
  kernel_rfl
theorem w_sortS {n : Nat} {a0 : List V} {a1 : List V} {z0 : List V} (h : s_sortS n a0 a1 = some z0) : ∀ k, n + 6 ≤ k → sem E k (ruBase + 98) [(V.fresh 3 (a0)), (V.clo 99 [(V.ref [(V.sl (a1))] 0 (0) 1)])] = some (V.fresh 3 (z0)) := by
  intro k hk
  obtain ⟨k, rfl⟩ : ∃ q, k = q + 1 := ⟨k - 1, by omega⟩
  unfold s_sortS at h
  obtain ⟨y1_0, q1, h⟩ := bnd_some h
  obtain ⟨c2, h⟩ := chk_some h
  replace h := Option.some.inj h
  obtain rfl := h
  refine pRu_by [.v (V.fresh 3 (y1_0))] rfl rfl rfl rfl rfl (And.intro (w_stabC q1 k (by omega)) (And.intro c2 trivial)) ?_
  kernel_rfl
theorem w_impl_byWidth {n : Nat} {a0 : List V} {z0 : List V} (h : s_impl_byWidth n a0 = some z0) : ∀ k, n + 7 ≤ k → sem E k 91 [(V.sl (a0))] = some (V.fresh 3 (z0)) := by
  intro k hk
  obtain ⟨k, rfl⟩ : ∃ q, k = q + 1 := ⟨k - 1, by omega⟩
  unfold s_impl_byWidth at h
  obtain ⟨y1_0, q1, h⟩ := bnd_some h
  obtain ⟨y2_0, q2, h⟩ := bnd_some h
  obtain ⟨c3, h⟩ := chk_some h
  replace h := Option.some.inj h
  obtain rfl := h
  refine pFun_by [.v (V.fresh 3 (y1_0)), .v (V.fresh 3 (y2_0))] rfl (And.intro (w_impl_upTo q1 k (by omega)) (And.intro (w_sortS q2 k (by omega)) (And.intro c3 trivial))) ?_
  kernel_rfl
theorem w_impl_pairs_1 {n : Nat} {a0 : Int} {a1 : List V} {a2 : List V} {a3 : List V} {a4 : Int} {z0 : Bool} (h : s_impl_pairs_1 n a0 a1 a2 a3 a4 = some z0) : ∀ k, n + 1 ≤ k → sem E k 93 [(V.int .i64 (a0)), (V.ref [(V.sl (a1))] 0 (0) 1), (V.ref [(V.mapc (a2) (a3))] 0 (0) 1), (V.ref [(V.int .i64 (a4))] 0 (0) 1)] = some (V.bool (z0)) := by
  intro k hk
  obtain ⟨k, rfl⟩ : ∃ q, k = q + 1 := ⟨k - 1, by omega⟩
  unfold s_impl_pairs_1 at h
  obtain ⟨⟨e1_0, e1_1⟩, g1, h⟩ := bnd_some h
  replace g1 := as_Pi8_i8Q_some g1
  rcases cnd_some h with ⟨h2, h⟩ | ⟨h2, h⟩
  · obtain ⟨c3, h⟩ := chk_some h
    obtain ⟨c4, h⟩ := chk_some h
    rcases cnd_some h with ⟨h5, h⟩ | ⟨h5, h⟩
    · replace h := Option.some.inj h
      obtain rfl := h
      refine pFun_by [.v (V.parts [(V.int .i8 (e1_0)), (V.int .i8 (e1_1))]), .b true, .b false] rfl (And.intro g1 (And.intro h2 (And.intro c3 (And.intro c4 (And.intro (not_f h5) trivial))))) ?_
      kernel_rfl
    · obtain ⟨⟨e6_0, e6_1⟩, g6, h⟩ := bnd_some h
      replace g6 := as_Pi8_i8Q_some g6
      obtain ⟨⟨e7_0, e7_1⟩, g7, h⟩ := bnd_some h
      replace g7 := as_Pi8_i8Q_some g7
      replace h := Option.some.inj h
      obtain rfl := h
      refine pFun_by [.v (V.parts [(V.int .i8 (e1_0)), (V.int .i8 (e1_1))]), .b true, .b true, .v (V.parts [(V.int .i8 (e6_0)), (V.int .i8 (e6_1))]), .v (V.parts [(V.int .i8 (e7_0)), (V.int .i8 (e7_1))])] rfl (And.intro g1 (And.intro h2 (And.intro c3 (And.intro c4 (And.intro (not_t h5) (And.intro g6 (And.intro g7 trivial))))))) ?_
      kernel_rfl
  · replace h := Option.some.inj h
    obtain rfl := h
    refine pFun_by [.v (V.parts [(V.int .i8 (e1_0)), (V.int .i8 (e1_1))]), .b false, .b false] rfl (And.intro g1 (And.intro h2 (And.intro (Eq.refl false) trivial))) ?_
    kernel_rfl
theorem lw_ixPr_b0 : ∀ (n : Nat) (a0 : List V) (a1 : List V) (a2 : List V) (a3 : List V) (a4 : Int) (a5 : Int) (a6 : Int) (r : Sum (Unit) (Int)), l_ixPr_b0 n a0 a1 a2 a3 a4 a5 a6 = some r → ∀ k m, n + 1 ≤ k → n ≤ m → LB E 92 0 k m ⟨[(0, (V.sl (a0))), (1, (V.clo 93 [(V.ref [(V.sl (a1))] 0 (0) 1), (V.ref [(V.mapc (a2) (a3))] 0 (0) 1), (V.ref [(V.int .i64 (a4))] 0 (0) 1)])), (7, (V.int .i64 (a5))), (8, (V.int .i64 (a6)))], []⟩ = some (match r with | .inl _ => (.normal, ⟨[], []⟩) | .inr o0 => (.ret, ⟨[(4, (V.int .i64 (o0)))], []⟩)) := by
  intro n
  induction n with
  | zero => intro a0 a1 a2 a3 a4 a5 a6 r h; cases h
  | succ n ih =>
    intro a0 a1 a2 a3 a4 a5 a6 r h k m hk hm
    obtain ⟨m, rfl⟩ : ∃ q, m = q + 1 := ⟨m - 1, by omega⟩
    replace hk : n + 1 ≤ k := by omega
    unfold l_ixPr_b0 at h
    rcases cnd_some h with ⟨h1, h⟩ | ⟨h1, h⟩
    · obtain ⟨e2_0, g2, h⟩ := bnd_some h
      replace g2 := as_i64_some g2
      obtain ⟨y3_0, q3, h⟩ := bnd_some h
      rcases cnd_some h with ⟨h4, h⟩ | ⟨h4, h⟩
      · cases h
        refine pLast_by [.b true, .v (V.int .i64 (e2_0)), .v (V.bool (y3_0)), .b true] (And.intro h1 (And.intro g2 (And.intro (w_impl_pairs_1 q3 k (by omega)) (And.intro h4 trivial)))) ?_
        kernel_rfl
      · refine pNext_by [.b true, .v (V.int .i64 (e2_0)), .v (V.bool (y3_0)), .b false] (And.intro h1 (And.intro g2 (And.intro (w_impl_pairs_1 q3 k (by omega)) (And.intro h4 trivial)))) (ih _ _ _ _ _ _ _ _ h k m hk (by omega)) ?_
        kernel_rfl
    · cases h
      refine pLast_by [.b false] (And.intro h1 trivial) ?_
      kernel_rfl
theorem w_ixPr {n : Nat} {a0 : List V} {a1 : List V} {a2 : List V} {a3 : List V} {a4 : Int} {z0 : Int} (h : s_ixPr n a0 a1 a2 a3 a4 = some z0) : ∀ k, n + 2 ≤ k → sem E k 92 [(V.sl (a0)), (V.clo 93 [(V.ref [(V.sl (a1))] 0 (0) 1), (V.ref [(V.mapc (a2) (a3))] 0 (0) 1), (V.ref [(V.int .i64 (a4))] 0 (0) 1)])] = some (V.int .i64 (z0)) := by
  intro k hk
  obtain ⟨k, rfl⟩ : ∃ q, k = q + 1 := ⟨k - 1, by omega⟩
  unfold s_ixPr at h
  obtain ⟨w, l5, h⟩ := bnd_some h
  rcases w with ⟨⟩ | u6_0
  · replace h := Option.some.inj h
    obtain rfl := h
    refine pFun_by [.l .normal ⟨[], []⟩] rfl (And.intro (lw_ixPr_b0 _ _ _ _ _ _ _ _ _ l5 k k (by omega) (by omega)) trivial) ?_
    kernel_rfl
  · replace h := Option.some.inj h
    obtain rfl := h
    refine pFun_by [.l .ret ⟨[(4, (V.int .i64 (u6_0)))], []⟩] rfl (And.intro (lw_ixPr_b0 _ _ _ _ _ _ _ _ _ l5 k k (by omega) (by omega)) trivial) ?_
    kernel_rfl
theorem lw_impl_pairs_b0 : ∀ (n : Nat) (a0 : Int) (a1 : Int) (a2 : List V) (a3 : List V) (a4 : List V) (a5 : List V) (a6 : List V) (r : List V), l_impl_pairs_b0 n a0 a1 a2 a3 a4 a5 a6 = some r → ∀ k m, n + 2 ≤ k → n ≤ m → LB E 75 0 k m ⟨[(1, (V.ptr 3 0 (0) 1)), (3, (V.row 7)), (4, (V.ptr 9 0 (0) 1)), (5, (V.row 11)), (12, (V.row 7)), (13, (V.int .i64 (a0))), (14, (V.int .i64 (a1)))], [(3, .box [(V.sl (a2))]), (7, .row 3 (a3)), (9, .box [(V.mp 9009)]), (11, .row 93 (a4)), (9009, .map (a5) (a6))]⟩ = some (match r with | o0 => (.normal, ⟨[(5, (V.row 11))], [(11, .row 93 (o0))]⟩)) := by
  intro n
  induction n with
  | zero => intro a0 a1 a2 a3 a4 a5 a6 r h; cases h
  | succ n ih =>
    intro a0 a1 a2 a3 a4 a5 a6 r h k m hk hm
    obtain ⟨m, rfl⟩ : ∃ q, m = q + 1 := ⟨m - 1, by omega⟩
    replace hk : n + 2 ≤ k := by omega
    unfold l_impl_pairs_b0 at h
    rcases cnd_some h with ⟨h2, h⟩ | ⟨h2, h⟩
    · obtain ⟨c3, h⟩ := chk_some h
      obtain ⟨e4_0, g4, h⟩ := bnd_some h
      replace g4 := as_i64_some g4
      obtain ⟨⟨e5_0, e5_1⟩, g5, h⟩ := bnd_some h
      replace g5 := as_Pi8_i8Q_some g5
      rcases cnd_some h with ⟨h6, h⟩ | ⟨h6, h⟩
      · obtain ⟨y7_0, q7, h⟩ := bnd_some h
        rcases cnd_some h with ⟨h8, h⟩ | ⟨h8, h⟩
        · obtain ⟨c9, h⟩ := chk_some h
          obtain ⟨e10_0, g10, h⟩ := bnd_some h
          replace g10 := as_i64_some g10
          obtain ⟨c11, h⟩ := chk_some h
          obtain ⟨c12, h⟩ := chk_some h
          obtain ⟨e13_0, g13, h⟩ := bnd_some h
          replace g13 := as_i64_some g13
          obtain ⟨c14, h⟩ := chk_some h
          refine pNext_by [.b true, .v (V.int .i64 (e4_0)), .v (V.parts [(V.int .i8 (e5_0)), (V.int .i8 (e5_1))]), .b false, .v (V.int .i64 (y7_0)), .b true, .v (V.int .i64 (e10_0)), .v (V.int .i64 (e13_0))] (And.intro h2 (And.intro c3 (And.intro g4 (And.intro g5 (And.intro (not_f h6) (And.intro (w_ixPr q7 k (by omega)) (And.intro (Eq.refl true) (And.intro h8 (And.intro c9 (And.intro g10 (And.intro c11 (And.intro c12 (And.intro c9 (And.intro g13 (And.intro c14 (And.intro (Eq.refl true) trivial)))))))))))))))) (ih _ _ _ _ _ _ _ _ h k m hk (by omega)) ?_
          kernel_rfl
        · refine pNext_by [.b true, .v (V.int .i64 (e4_0)), .v (V.parts [(V.int .i8 (e5_0)), (V.int .i8 (e5_1))]), .b false, .v (V.int .i64 (y7_0)), .b false] (And.intro h2 (And.intro c3 (And.intro g4 (And.intro g5 (And.intro (not_f h6) (And.intro (w_ixPr q7 k (by omega)) (And.intro (Eq.refl true) (And.intro h8 trivial)))))))) (ih _ _ _ _ _ _ _ _ h k m hk (by omega)) ?_
          kernel_rfl
      · refine pNext_by [.b true, .v (V.int .i64 (e4_0)), .v (V.parts [(V.int .i8 (e5_0)), (V.int .i8 (e5_1))]), .b true] (And.intro h2 (And.intro c3 (And.intro g4 (And.intro g5 (And.intro (not_t h6) trivial))))) (ih _ _ _ _ _ _ _ _ h k m hk (by omega)) ?_
        kernel_rfl
    · cases h
      refine pLast_by [.b false] (And.intro h2 trivial) ?_
      kernel_rfl
theorem w_impl_pairs {n : Nat} {a0 : List V} {z0 : List V} (h : s_impl_pairs n a0 = some z0) : ∀ k, n + 8 ≤ k → sem E k 75 [(V.sl (a0))] = some (V.fresh 93 (z0)) := by
  intro k hk
  obtain ⟨k, rfl⟩ : ∃ q, k = q + 1 := ⟨k - 1, by omega⟩
  unfold s_impl_pairs at h
  obtain ⟨y1_0, q1, h⟩ := bnd_some h
  obtain ⟨u15_0, l15, h⟩ := bnd_some h
  replace h := Option.some.inj h
  obtain rfl := h
  refine pFun_by [.v (V.fresh 3 (y1_0)), .l .normal ⟨[(5, (V.row 11))], [(11, .row 93 (u15_0))]⟩] rfl (And.intro (w_impl_byWidth q1 k (by omega)) (And.intro (lw_impl_pairs_b0 _ _ _ _ _ _ _ _ _ l15 k k (by omega) (by omega)) trivial)) ?_
  kernel_rfl
theorem w_impl_tilesFor {n : Nat} {a0 : List V} {z0 : Int} (h : s_impl_tilesFor n a0 = some z0) : ∀ k, n + 9 ≤ k → sem E k 42 [(V.sl (a0))] = some (V.int .i64 (z0)) := by
  intro k hk
  obtain ⟨k, rfl⟩ : ∃ q, k = q + 1 := ⟨k - 1, by omega⟩
  unfold s_impl_tilesFor at h
  obtain ⟨y1_0, q1, h⟩ := bnd_some h
  replace h := Option.some.inj h
  obtain rfl := h
  refine pFun_by [.v (V.fresh 93 (y1_0))] rfl (And.intro (w_impl_pairs q1 k (by omega)) trivial) ?_
  kernel_rfl
theorem w_impl_Shape_least {n : Nat} {a0 : Int} {a1 : List V} {z0 : Int} (h : s_impl_Shape_least n a0 a1 = some z0) : ∀ k, n + 10 ≤ k → sem E k 39 [(V.parts [(V.int .u8 (a0)), (V.sl (a1))])] = some (V.int .i64 (z0)) := by
  intro k hk
  obtain ⟨k, rfl⟩ : ∃ q, k = q + 1 := ⟨k - 1, by omega⟩
  unfold s_impl_Shape_least at h
  obtain ⟨y1_0, q1, h⟩ := bnd_some h
  obtain ⟨y2_0, q2, h⟩ := bnd_some h
  obtain ⟨y3_0, q3, h⟩ := bnd_some h
  replace h := Option.some.inj h
  obtain rfl := h
  refine pFun_by [.v (V.int .i64 (y1_0)), .v (V.fresh 42 (y2_0)), .v (V.int .i64 (y3_0))] rfl (And.intro (w_impl_Shape_whole q1 k (by omega)) (And.intro (w_impl_Shape_pieces q2 k (by omega)) (And.intro (w_impl_tilesFor q3 k (by omega)) (And.intro (Eq.refl true) trivial)))) ?_
  kernel_rfl
theorem w_impl_LeastTiles {n : Nat} {a0 : Int} {a1 : List V} {z0 : Int} {z1 : Int} (h : s_impl_LeastTiles n a0 a1 = some (z0, z1)) : ∀ k, n + 11 ≤ k → sem E k 13 [(V.parts [(V.int .u8 (a0)), (V.sl (a1))])] = some (V.tup [(V.int .i64 (z0)), (V.int .i64 (z1))]) := by
  intro k hk
  obtain ⟨k, rfl⟩ : ∃ q, k = q + 1 := ⟨k - 1, by omega⟩
  unfold s_impl_LeastTiles at h
  obtain ⟨y1_0, q1, h⟩ := bnd_some h
  rcases cnd_some h with ⟨h2, h⟩ | ⟨h2, h⟩
  · obtain ⟨y3_0, q3, h⟩ := bnd_some h
    simp only [Option.some.injEq, Prod.mk.injEq] at h
    obtain ⟨rfl, rfl⟩ := h
    refine pFun_by [.v (V.bool (y1_0)), .b false, .v (V.int .i64 (y3_0))] rfl (And.intro (w_impl_ValidShape q1 k (by omega)) (And.intro (not_f h2) (And.intro (w_impl_Shape_least q3 k (by omega)) trivial))) ?_
    kernel_rfl
  · simp only [Option.some.injEq, Prod.mk.injEq] at h
    obtain ⟨rfl, rfl⟩ := h
    refine pFun_by [.v (V.bool (y1_0)), .b true] rfl (And.intro (w_impl_ValidShape q1 k (by omega)) (And.intro (not_t h2) trivial)) ?_
    kernel_rfl
theorem lw_spec_l05Order_b2 : ∀ (n : Nat) (a0 : List V) (a1 : Int) (a2 : Int) (a3 : List V) (r : List V × Int × List V), l_spec_l05Order_b2 n a0 a1 a2 a3 = some r → ∀ k m, n + 0 ≤ k → n ≤ m → LB E 95 2 k m ⟨[(0, (V.sl (a0))), (3, (V.row 7)), (4, (V.int .i8 (a1))), (5, (V.int .i64 (a2)))], [(7, .row 2 (a3))]⟩ = some (match r with | (o0, o1, o2) => (.normal, ⟨[(0, (V.sl (o0))), (3, (V.row 7)), (4, (V.int .i8 (o1)))], [(7, .row 2 (o2))]⟩)) := by
  intro n
  induction n with
  | zero => intro a0 a1 a2 a3 r h; cases h
  | succ n ih =>
    intro a0 a1 a2 a3 r h k m hk hm
    obtain ⟨m, rfl⟩ : ∃ q, m = q + 1 := ⟨m - 1, by omega⟩
    replace hk : n + 0 ≤ k := by omega
    unfold l_spec_l05Order_b2 at h
    rcases cnd_some h with ⟨h2, h⟩ | ⟨h2, h⟩
    · obtain ⟨⟨e3_0, e3_1⟩, g3, h⟩ := bnd_some h
      replace g3 := as_Pi8_i8Q_some g3
      rcases cnd_some h with ⟨h4, h⟩ | ⟨h4, h⟩
      · obtain ⟨c5, h⟩ := chk_some h
        refine pNext_by [.b true, .v (V.parts [(V.int .i8 (e3_0)), (V.int .i8 (e3_1))]), .b true] (And.intro h2 (And.intro g3 (And.intro h4 (And.intro c5 (And.intro (Eq.refl true) trivial))))) (ih _ _ _ _ _ h k m hk (by omega)) ?_
        kernel_rfl
      · refine pNext_by [.b true, .v (V.parts [(V.int .i8 (e3_0)), (V.int .i8 (e3_1))]), .b false] (And.intro h2 (And.intro g3 (And.intro h4 trivial))) (ih _ _ _ _ _ h k m hk (by omega)) ?_
        kernel_rfl
    · cases h
      refine pLast_by [.b false] (And.intro h2 trivial) ?_
      kernel_rfl
theorem lw_spec_l05Order_b0 : ∀ (n : Nat) (a0 : List V) (a1 : Int) (a2 : List V) (r : List V), l_spec_l05Order_b0 n a0 a1 a2 = some r → ∀ k m, n + 0 ≤ k → n ≤ m → LB E 95 0 k m ⟨[(0, (V.sl (a0))), (3, (V.row 7)), (4, (V.int .i8 (a1)))], [(7, .row 2 (a2))]⟩ = some (match r with | o0 => (.normal, ⟨[(3, (V.row 7))], [(7, .row 2 (o0))]⟩)) := by
  intro n
  induction n with
  | zero => intro a0 a1 a2 r h; cases h
  | succ n ih =>
    intro a0 a1 a2 r h k m hk hm
    obtain ⟨m, rfl⟩ : ∃ q, m = q + 1 := ⟨m - 1, by omega⟩
    replace hk : n + 0 ≤ k := by omega
    unfold l_spec_l05Order_b0 at h
    rcases cnd_some h with ⟨h1, h⟩ | ⟨h1, h⟩
    · obtain ⟨⟨u6_0, u6_1, u6_2⟩, l6, h⟩ := bnd_some h
      refine pNext_by [.b true, .l .normal ⟨[(0, (V.sl (u6_0))), (3, (V.row 7)), (4, (V.int .i8 (u6_1)))], [(7, .row 2 (u6_2))]⟩] (And.intro h1 (And.intro (lw_spec_l05Order_b2 _ _ _ _ _ _ l6 k k (by omega) (by omega)) trivial)) (ih _ _ _ _ h k m hk (by omega)) ?_
      kernel_rfl
    · cases h
      refine pLast_by [.b false] (And.intro h1 trivial) ?_
      kernel_rfl
theorem w_spec_l05Order {n : Nat} {a0 : List V} {z0 : List V} (h : s_spec_l05Order n a0 = some z0) : ∀ k, n + 1 ≤ k → sem E k 95 [(V.sl (a0))] = some (V.fresh 2 (z0)) := by
  intro k hk
  obtain ⟨k, rfl⟩ : ∃ q, k = q + 1 := ⟨k - 1, by omega⟩
  unfold s_spec_l05Order at h
  obtain ⟨u8_0, l8, h⟩ := bnd_some h
  replace h := Option.some.inj h
  obtain rfl := h
  refine pFun_by [.l .normal ⟨[(3, (V.row 7))], [(7, .row 2 (u8_0))]⟩] rfl (And.intro (lw_spec_l05Order_b0 _ _ _ _ _ l8 k k (by omega) (by omega)) trivial) ?_
  kernel_rfl
theorem lw_spec_l05Pairs_b2 : ∀ (n : Nat) (a0 : List V) (a1 : Int) (a2 : Int) (a3 : Int) (a4 : List V) (a5 : List V) (a6 : List V) (r : List V × Int × List V × List V × List V), l_spec_l05Pairs_b2 n a0 a1 a2 a3 a4 a5 a6 = some r → ∀ k m, n + 0 ≤ k → n ≤ m → LB E 85 2 k m ⟨[(0, (V.sl (a0))), (3, (V.row 7)), (4, (V.row 9)), (5, (V.row 11)), (6, (V.int .i64 (a1))), (7, (V.int .i64 (a2))), (8, (V.int .i64 (a3)))], [(7, .row 93 (a4)), (9, .row 4 (a5)), (11, .row 2 (a6))]⟩ = some (match r with | (o0, o1, o2, o3, o4) => (.normal, ⟨[(0, (V.sl (o0))), (3, (V.row 7)), (4, (V.row 9)), (5, (V.row 11)), (6, (V.int .i64 (o1)))], [(7, .row 93 (o2)), (9, .row 4 (o3)), (11, .row 2 (o4))]⟩)) := by
  intro n
  induction n with
  | zero => intro a0 a1 a2 a3 a4 a5 a6 r h; cases h
  | succ n ih =>
    intro a0 a1 a2 a3 a4 a5 a6 r h k m hk hm
    obtain ⟨m, rfl⟩ : ∃ q, m = q + 1 := ⟨m - 1, by omega⟩
    replace hk : n + 0 ≤ k := by omega
    unfold l_spec_l05Pairs_b2 at h
    rcases cnd_some h with ⟨h8, h⟩ | ⟨h8, h⟩
    · obtain ⟨c9, h⟩ := chk_some h
      obtain ⟨e10_0, g10, h⟩ := bnd_some h
      replace g10 := as_i64_some g10
      obtain ⟨⟨e11_0, e11_1⟩, g11, h⟩ := bnd_some h
      replace g11 := as_Pi8_i8Q_some g11
      rcases cnd_some h with ⟨h12, h⟩ | ⟨h12, h⟩
      · obtain ⟨c13, h⟩ := chk_some h
        obtain ⟨e14_0, g14, h⟩ := bnd_some h
        replace g14 := as_b_some g14
        rcases cnd_some h with ⟨h15, h⟩ | ⟨h15, h⟩
        · refine pNext_by [.b true, .v (V.int .i64 (e10_0)), .v (V.parts [(V.int .i8 (e11_0)), (V.int .i8 (e11_1))]), .b true, .v (V.bool (e14_0)), .b false, .b false] (And.intro h8 (And.intro c9 (And.intro g10 (And.intro g11 (And.intro h12 (And.intro c13 (And.intro g14 (And.intro (not_f h15) (And.intro (Eq.refl false) trivial))))))))) (ih _ _ _ _ _ _ _ _ h k m hk (by omega)) ?_
          kernel_rfl
        · obtain ⟨⟨e16_0, e16_1⟩, g16, h⟩ := bnd_some h
          replace g16 := as_Pi8_i8Q_some g16
          obtain ⟨⟨e17_0, e17_1⟩, g17, h⟩ := bnd_some h
          replace g17 := as_Pi8_i8Q_some g17
          rcases cnd_some h with ⟨h18, h⟩ | ⟨h18, h⟩
          · obtain ⟨e19_0, g19, h⟩ := bnd_some h
            replace g19 := as_b_some g19
            obtain ⟨c20, h⟩ := chk_some h
            cases h
            refine pLast_by [.b true, .v (V.int .i64 (e10_0)), .v (V.parts [(V.int .i8 (e11_0)), (V.int .i8 (e11_1))]), .b true, .v (V.bool (e14_0)), .b true, .v (V.parts [(V.int .i8 (e16_0)), (V.int .i8 (e16_1))]), .v (V.parts [(V.int .i8 (e17_0)), (V.int .i8 (e17_1))]), .b true, .v (V.bool (e19_0))] (And.intro h8 (And.intro c9 (And.intro g10 (And.intro g11 (And.intro h12 (And.intro c13 (And.intro g14 (And.intro (not_t h15) (And.intro g16 (And.intro g17 (And.intro h18 (And.intro c13 (And.intro g19 (And.intro c20 (And.intro (Eq.refl true) trivial))))))))))))))) ?_
            kernel_rfl
          · refine pNext_by [.b true, .v (V.int .i64 (e10_0)), .v (V.parts [(V.int .i8 (e11_0)), (V.int .i8 (e11_1))]), .b true, .v (V.bool (e14_0)), .b true, .v (V.parts [(V.int .i8 (e16_0)), (V.int .i8 (e16_1))]), .v (V.parts [(V.int .i8 (e17_0)), (V.int .i8 (e17_1))]), .b false] (And.intro h8 (And.intro c9 (And.intro g10 (And.intro g11 (And.intro h12 (And.intro c13 (And.intro g14 (And.intro (not_t h15) (And.intro g16 (And.intro g17 (And.intro h18 trivial))))))))))) (ih _ _ _ _ _ _ _ _ h k m hk (by omega)) ?_
            kernel_rfl
      · refine pNext_by [.b true, .v (V.int .i64 (e10_0)), .v (V.parts [(V.int .i8 (e11_0)), (V.int .i8 (e11_1))]), .b false, .b false, .b false] (And.intro h8 (And.intro c9 (And.intro g10 (And.intro g11 (And.intro h12 (And.intro (Eq.refl false) (And.intro (Eq.refl false) trivial))))))) (ih _ _ _ _ _ _ _ _ h k m hk (by omega)) ?_
        kernel_rfl
    · cases h
      refine pLast_by [.b false] (And.intro h8 trivial) ?_
      kernel_rfl
theorem lw_spec_l05Pairs_b0 : ∀ (n : Nat) (a0 : List V) (a1 : Int) (a2 : List V) (a3 : List V) (a4 : List V) (r : List V), l_spec_l05Pairs_b0 n a0 a1 a2 a3 a4 = some r → ∀ k m, n + 0 ≤ k → n ≤ m → LB E 85 0 k m ⟨[(0, (V.sl (a0))), (3, (V.row 7)), (4, (V.row 9)), (5, (V.row 11)), (6, (V.int .i64 (a1)))], [(7, .row 93 (a2)), (9, .row 4 (a3)), (11, .row 2 (a4))]⟩ = some (match r with | o0 => (.normal, ⟨[(3, (V.row 7))], [(7, .row 93 (o0))]⟩)) := by
  intro n
  induction n with
  | zero => intro a0 a1 a2 a3 a4 r h; cases h
  | succ n ih =>
    intro a0 a1 a2 a3 a4 r h k m hk hm
    obtain ⟨m, rfl⟩ : ∃ q, m = q + 1 := ⟨m - 1, by omega⟩
    replace hk : n + 0 ≤ k := by omega
    unfold l_spec_l05Pairs_b0 at h
    rcases cnd_some h with ⟨h3, h⟩ | ⟨h3, h⟩
    · obtain ⟨c4, h⟩ := chk_some h
      obtain ⟨e5_0, g5, h⟩ := bnd_some h
      replace g5 := as_i64_some g5
      obtain ⟨⟨e6_0, e6_1⟩, g6, h⟩ := bnd_some h
      replace g6 := as_Pi8_i8Q_some g6
      rcases cnd_some h with ⟨h7, h⟩ | ⟨h7, h⟩
      · obtain ⟨⟨u21_0, u21_1, u21_2, u21_3, u21_4⟩, l21, h⟩ := bnd_some h
        refine pNext_by [.b true, .v (V.int .i64 (e5_0)), .v (V.parts [(V.int .i8 (e6_0)), (V.int .i8 (e6_1))]), .b false, .l .normal ⟨[(0, (V.sl (u21_0))), (3, (V.row 7)), (4, (V.row 9)), (5, (V.row 11)), (6, (V.int .i64 (u21_1)))], [(7, .row 93 (u21_2)), (9, .row 4 (u21_3)), (11, .row 2 (u21_4))]⟩] (And.intro h3 (And.intro c4 (And.intro g5 (And.intro g6 (And.intro (not_f h7) (And.intro (lw_spec_l05Pairs_b2 _ _ _ _ _ _ _ _ _ l21 k k (by omega) (by omega)) trivial)))))) (ih _ _ _ _ _ _ h k m hk (by omega)) ?_
        kernel_rfl
      · refine pNext_by [.b true, .v (V.int .i64 (e5_0)), .v (V.parts [(V.int .i8 (e6_0)), (V.int .i8 (e6_1))]), .b true] (And.intro h3 (And.intro c4 (And.intro g5 (And.intro g6 (And.intro (not_t h7) trivial))))) (ih _ _ _ _ _ _ h k m hk (by omega)) ?_
        kernel_rfl
    · cases h
      refine pLast_by [.b false] (And.intro h3 trivial) ?_
      kernel_rfl
theorem w_spec_l05Pairs {n : Nat} {a0 : List V} {z0 : List V} (h : s_spec_l05Pairs n a0 = some z0) : ∀ k, n + 2 ≤ k → sem E k 85 [(V.sl (a0))] = some (V.fresh 93 (z0)) := by
  intro k hk
  obtain ⟨k, rfl⟩ : ∃ q, k = q + 1 := ⟨k - 1, by omega⟩
  unfold s_spec_l05Pairs at h
  obtain ⟨c1, h⟩ := chk_some h
  obtain ⟨y2_0, q2, h⟩ := bnd_some h
  obtain ⟨u23_0, l23, h⟩ := bnd_some h
  replace h := Option.some.inj h
  obtain rfl := h
  refine pFun_by [.v (V.fresh 2 (y2_0)), .l .normal ⟨[(3, (V.row 7))], [(7, .row 93 (u23_0))]⟩] rfl (And.intro c1 (And.intro (w_spec_l05Order q2 k (by omega)) (And.intro (lw_spec_l05Pairs_b0 _ _ _ _ _ _ _ l23 k k (by omega) (by omega)) trivial))) ?_
  kernel_rfl
theorem w_spec_l05Tiles {n : Nat} {a0 : List V} {z0 : Int} (h : s_spec_l05Tiles n a0 = some z0) : ∀ k, n + 3 ≤ k → sem E k 69 [(V.sl (a0))] = some (V.int .i64 (z0)) := by
  intro k hk
  obtain ⟨k, rfl⟩ : ∃ q, k = q + 1 := ⟨k - 1, by omega⟩
  unfold s_spec_l05Tiles at h
  obtain ⟨y1_0, q1, h⟩ := bnd_some h
  replace h := Option.some.inj h
  obtain rfl := h
  refine pFun_by [.v (V.fresh 93 (y1_0))] rfl (And.intro (w_spec_l05Pairs q1 k (by omega)) trivial) ?_
  kernel_rfl
theorem lw_spec_l05Least_b0 : ∀ (n : Nat) (a0 : Int) (a1 : List V) (a2 : Int) (a3 : Int) (r : Int), l_spec_l05Least_b0 n a0 a1 a2 a3 = some r → ∀ k m, n + 2 ≤ k → n ≤ m → LB E 40 0 k m ⟨[(0, (V.ref [(V.int .u8 (a0)), (V.sl (a1))] 0 (0) 2)), (3, (V.int .i64 (a2))), (4, (V.int .i64 (a3)))], []⟩ = some (match r with | o0 => (.normal, ⟨[(3, (V.int .i64 (o0)))], []⟩)) := by
  intro n
  induction n with
  | zero => intro a0 a1 a2 a3 r h; cases h
  | succ n ih =>
    intro a0 a1 a2 a3 r h k m hk hm
    obtain ⟨m, rfl⟩ : ∃ q, m = q + 1 := ⟨m - 1, by omega⟩
    replace hk : n + 2 ≤ k := by omega
    unfold l_spec_l05Least_b0 at h
    rcases cnd_some h with ⟨h3, h⟩ | ⟨h3, h⟩
    · obtain ⟨⟨y4_0, y4_1⟩, q4, h⟩ := bnd_some h
      refine pNext_by [.b true, .v (V.tup [(V.int .i64 (y4_0)), (V.fresh 42 (y4_1))])] (And.intro h3 (And.intro (w_spec_l05Course q4 k (by omega)) trivial)) (ih _ _ _ _ _ h k m hk (by omega)) ?_
      kernel_rfl
    · cases h
      refine pLast_by [.b false] (And.intro h3 trivial) ?_
      kernel_rfl
theorem w_spec_l05Least {n : Nat} {a0 : Int} {a1 : List V} {z0 : Int} (h : s_spec_l05Least n a0 a1 = some z0) : ∀ k, n + 4 ≤ k → sem E k 40 [(V.ref [(V.int .u8 (a0)), (V.sl (a1))] 0 (0) 2)] = some (V.int .i64 (z0)) := by
  intro k hk
  obtain ⟨k, rfl⟩ : ∃ q, k = q + 1 := ⟨k - 1, by omega⟩
  unfold s_spec_l05Least at h
  obtain ⟨y1_0, q1, h⟩ := bnd_some h
  obtain ⟨y2_0, q2, h⟩ := bnd_some h
  obtain ⟨u5_0, l5, h⟩ := bnd_some h
  replace h := Option.some.inj h
  obtain rfl := h
  refine pFun_by [.v (V.fresh 42 (y1_0)), .v (V.int .i64 (y2_0)), .l .normal ⟨[(3, (V.int .i64 (u5_0)))], []⟩] rfl (And.intro (w_spec_l05All q1 k (by omega)) (And.intro (w_spec_l05Tiles q2 k (by omega)) (And.intro (Eq.refl true) (And.intro (lw_spec_l05Least_b0 _ _ _ _ _ _ l5 k k (by omega) (by omega)) trivial)))) ?_
  kernel_rfl
theorem w_spec_LeastTiles {n : Nat} {a0 : Int} {a1 : List V} {z0 : Int} {z1 : Int} (h : s_spec_LeastTiles n a0 a1 = some (z0, z1)) : ∀ k, n + 5 ≤ k → sem E k 14 [(V.parts [(V.int .u8 (a0)), (V.sl (a1))])] = some (V.tup [(V.int .i64 (z0)), (V.int .i64 (z1))]) := by
  intro k hk
  obtain ⟨k, rfl⟩ : ∃ q, k = q + 1 := ⟨k - 1, by omega⟩
  unfold s_spec_LeastTiles at h
  obtain ⟨y1_0, q1, h⟩ := bnd_some h
  rcases cnd_some h with ⟨h2, h⟩ | ⟨h2, h⟩
  · obtain ⟨y3_0, q3, h⟩ := bnd_some h
    simp only [Option.some.injEq, Prod.mk.injEq] at h
    obtain ⟨rfl, rfl⟩ := h
    refine pFun_by [.v (V.bool (y1_0)), .b false, .v (V.int .i64 (y3_0))] rfl (And.intro (w_spec_l05Ok q1 k (by omega)) (And.intro (Eq.refl true) (And.intro (not_f h2) (And.intro (w_spec_l05Least q3 k (by omega)) (And.intro (Eq.refl true) trivial))))) ?_
    kernel_rfl
  · simp only [Option.some.injEq, Prod.mk.injEq] at h
    obtain ⟨rfl, rfl⟩ := h
    refine pFun_by [.v (V.bool (y1_0)), .b true] rfl (And.intro (w_spec_l05Ok q1 k (by omega)) (And.intro (Eq.refl true) (And.intro (not_t h2) trivial))) ?_
    kernel_rfl
theorem w_impl_WasteOf {n : Nat} {a0 : Int} {a1 : List V} {z0 : Int} {z1 : Int} (h : s_impl_WasteOf n a0 a1 = some (z0, z1)) : ∀ k, n + 11 ≤ k → sem E k 15 [(V.parts [(V.int .u8 (a0)), (V.sl (a1))])] = some (V.tup [(V.int .i64 (z0)), (V.int .i64 (z1))]) := by
  intro k hk
  obtain ⟨k, rfl⟩ : ∃ q, k = q + 1 := ⟨k - 1, by omega⟩
  unfold s_impl_WasteOf at h
  obtain ⟨y1_0, q1, h⟩ := bnd_some h
  rcases cnd_some h with ⟨h2, h⟩ | ⟨h2, h⟩
  · obtain ⟨y3_0, q3, h⟩ := bnd_some h
    obtain ⟨y4_0, q4, h⟩ := bnd_some h
    simp only [Option.some.injEq, Prod.mk.injEq] at h
    obtain ⟨rfl, rfl⟩ := h
    refine pFun_by [.v (V.bool (y1_0)), .b false, .v (V.int .i64 (y3_0)), .v (V.int .i64 (y4_0))] rfl (And.intro (w_impl_ValidShape q1 k (by omega)) (And.intro (not_f h2) (And.intro (w_impl_Shape_least q3 k (by omega)) (And.intro (w_impl_Shape_units q4 k (by omega)) trivial)))) ?_
    kernel_rfl
  · simp only [Option.some.injEq, Prod.mk.injEq] at h
    obtain ⟨rfl, rfl⟩ := h
    refine pFun_by [.v (V.bool (y1_0)), .b true] rfl (And.intro (w_impl_ValidShape q1 k (by omega)) (And.intro (not_t h2) trivial)) ?_
    kernel_rfl
theorem w_impl_within_int8 {n : Nat} {a0 : Int} {a1 : Int} {a2 : Int} {z0 : Bool} (h : s_impl_within_int8 n a0 a1 a2 = some z0) : ∀ k, n + 1 ≤ k → sem E k 90 [(V.int .i8 (a0)), (V.int .i8 (a1)), (V.int .i8 (a2))] = some (V.bool (z0)) := by
  intro k hk
  obtain ⟨k, rfl⟩ : ∃ q, k = q + 1 := ⟨k - 1, by omega⟩
  unfold s_impl_within_int8 at h
  rcases cnd_some h with ⟨h1, h⟩ | ⟨h1, h⟩
  · replace h := Option.some.inj h
    obtain rfl := h
    refine pFun_by [.b true] rfl (And.intro h1 trivial) ?_
    kernel_rfl
  · replace h := Option.some.inj h
    obtain rfl := h
    refine pFun_by [.b false] rfl (And.intro h1 trivial) ?_
    kernel_rfl
theorem w_impl_isPiece {n : Nat} {a0 : Int} {a1 : Int} {z0 : Bool} (h : s_impl_isPiece n a0 a1 = some z0) : ∀ k, n + 2 ≤ k → sem E k 73 [(V.parts [(V.int .i8 (a0)), (V.int .i8 (a1))])] = some (V.bool (z0)) := by
  intro k hk
  obtain ⟨k, rfl⟩ : ∃ q, k = q + 1 := ⟨k - 1, by omega⟩
  unfold s_impl_isPiece at h
  obtain ⟨y1_0, q1, h⟩ := bnd_some h
  rcases cnd_some h with ⟨h2, h⟩ | ⟨h2, h⟩
  · obtain ⟨y3_0, q3, h⟩ := bnd_some h
    replace h := Option.some.inj h
    obtain rfl := h
    refine pFun_by [.v (V.bool (y1_0)), .b true, .v (V.bool (y3_0))] rfl (And.intro (w_impl_within_int8 q1 k (by omega)) (And.intro h2 (And.intro (w_impl_within_int8 q3 k (by omega)) trivial))) ?_
    kernel_rfl
  · replace h := Option.some.inj h
    obtain rfl := h
    refine pFun_by [.v (V.bool (y1_0)), .b false] rfl (And.intro (w_impl_within_int8 q1 k (by omega)) (And.intro h2 trivial)) ?_
    kernel_rfl
theorem w_impl_areAll_impl_Piece_1__isPiece {n : Nat} {a0 : Int} {a1 : Int} {z0 : Bool} (h : s_impl_areAll_impl_Piece_1__isPiece n a0 a1 = some z0) : ∀ k, n + 3 ≤ k → sem E k 89 [(V.parts [(V.int .i8 (a0)), (V.int .i8 (a1))]), (V.ref [(V.clo 73 [])] 0 (0) 1)] = some (V.bool (z0)) := by
  intro k hk
  obtain ⟨k, rfl⟩ : ∃ q, k = q + 1 := ⟨k - 1, by omega⟩
  unfold s_impl_areAll_impl_Piece_1__isPiece at h
  obtain ⟨y1_0, q1, h⟩ := bnd_some h
  replace h := Option.some.inj h
  obtain rfl := h
  refine pFun_by [.v (V.bool (y1_0))] rfl (And.intro (w_impl_isPiece q1 k (by omega)) trivial) ?_
  kernel_rfl
theorem lw_ixPc_b0 : ∀ (n : Nat) (a0 : List V) (a1 : Int) (a2 : Int) (r : Sum (Unit) (Int)), l_ixPc_b0 n a0 a1 a2 = some r → ∀ k m, n + 3 ≤ k → n ≤ m → LB E 97 0 k m ⟨[(0, (V.sl (a0))), (1, (V.clo 89 [(V.ref [(V.clo 73 [])] 0 (0) 1)])), (7, (V.int .i64 (a1))), (8, (V.int .i64 (a2)))], []⟩ = some (match r with | .inl _ => (.normal, ⟨[], []⟩) | .inr o0 => (.ret, ⟨[(4, (V.int .i64 (o0)))], []⟩)) := by
  intro n
  induction n with
  | zero => intro a0 a1 a2 r h; cases h
  | succ n ih =>
    intro a0 a1 a2 r h k m hk hm
    obtain ⟨m, rfl⟩ : ∃ q, m = q + 1 := ⟨m - 1, by omega⟩
    replace hk : n + 3 ≤ k := by omega
    unfold l_ixPc_b0 at h
    rcases cnd_some h with ⟨h1, h⟩ | ⟨h1, h⟩
    · obtain ⟨⟨e2_0, e2_1⟩, g2, h⟩ := bnd_some h
      replace g2 := as_Pi8_i8Q_some g2
      obtain ⟨y3_0, q3, h⟩ := bnd_some h
      rcases cnd_some h with ⟨h4, h⟩ | ⟨h4, h⟩
      · cases h
        refine pLast_by [.b true, .v (V.parts [(V.int .i8 (e2_0)), (V.int .i8 (e2_1))]), .v (V.bool (y3_0)), .b true] (And.intro h1 (And.intro g2 (And.intro (w_impl_areAll_impl_Piece_1__isPiece q3 k (by omega)) (And.intro h4 trivial)))) ?_
        kernel_rfl
      · refine pNext_by [.b true, .v (V.parts [(V.int .i8 (e2_0)), (V.int .i8 (e2_1))]), .v (V.bool (y3_0)), .b false] (And.intro h1 (And.intro g2 (And.intro (w_impl_areAll_impl_Piece_1__isPiece q3 k (by omega)) (And.intro h4 trivial)))) (ih _ _ _ _ h k m hk (by omega)) ?_
        kernel_rfl
    · cases h
      refine pLast_by [.b false] (And.intro h1 trivial) ?_
      kernel_rfl
theorem w_ixPc {n : Nat} {a0 : List V} {z0 : Int} (h : s_ixPc n a0 = some z0) : ∀ k, n + 4 ≤ k → sem E k 97 [(V.sl (a0)), (V.clo 89 [(V.ref [(V.clo 73 [])] 0 (0) 1)])] = some (V.int .i64 (z0)) := by
  intro k hk
  obtain ⟨k, rfl⟩ : ∃ q, k = q + 1 := ⟨k - 1, by omega⟩
  unfold s_ixPc at h
  obtain ⟨w, l5, h⟩ := bnd_some h
  rcases w with ⟨⟩ | u6_0
  · replace h := Option.some.inj h
    obtain rfl := h
    refine pFun_by [.l .normal ⟨[], []⟩] rfl (And.intro (lw_ixPc_b0 _ _ _ _ _ l5 k k (by omega) (by omega)) trivial) ?_
    kernel_rfl
  · replace h := Option.some.inj h
    obtain rfl := h
    refine pFun_by [.l .ret ⟨[(4, (V.int .i64 (u6_0)))], []⟩] rfl (And.intro (lw_ixPc_b0 _ _ _ _ _ l5 k k (by omega) (by omega)) trivial) ?_
    kernel_rfl
theorem w_cnPc {n : Nat} {a0 : List V} {z0 : Bool} (h : s_cnPc n a0 = some z0) : ∀ k, n + 5 ≤ k → sem E k 88 [(V.sl (a0)), (V.clo 89 [(V.ref [(V.clo 73 [])] 0 (0) 1)])] = some (V.bool (z0)) := by
  intro k hk
  obtain ⟨k, rfl⟩ : ∃ q, k = q + 1 := ⟨k - 1, by omega⟩
  unfold s_cnPc at h
  obtain ⟨y1_0, q1, h⟩ := bnd_some h
  replace h := Option.some.inj h
  obtain rfl := h
  refine pFun_by [.v (V.int .i64 (y1_0))] rfl (And.intro (w_ixPc q1 k (by omega)) trivial) ?_
  kernel_rfl
theorem w_impl_areAll_impl_Piece__isPiece {n : Nat} {a0 : List V} {z0 : Bool} (h : s_impl_areAll_impl_Piece__isPiece n a0 = some z0) : ∀ k, n + 6 ≤ k → sem E k 72 [(V.sl (a0)), (V.clo 73 [])] = some (V.bool (z0)) := by
  intro k hk
  obtain ⟨k, rfl⟩ : ∃ q, k = q + 1 := ⟨k - 1, by omega⟩
  unfold s_impl_areAll_impl_Piece__isPiece at h
  obtain ⟨y1_0, q1, h⟩ := bnd_some h
  replace h := Option.some.inj h
  obtain rfl := h
  refine pFun_by [.v (V.bool (y1_0))] rfl (And.intro (w_cnPc q1 k (by omega)) (And.intro (Eq.refl true) trivial)) ?_
  kernel_rfl
theorem w_impl_piecesCode_1 {n : Nat} {a0 : List V} {z0 : Bool} (h : s_impl_piecesCode_1 n a0 = some z0) : ∀ k, n + 7 ≤ k → sem E k 71 [(V.sl (a0))] = some (V.bool (z0)) := by
  intro k hk
  obtain ⟨k, rfl⟩ : ∃ q, k = q + 1 := ⟨k - 1, by omega⟩
  unfold s_impl_piecesCode_1 at h
  obtain ⟨y1_0, q1, h⟩ := bnd_some h
  replace h := Option.some.inj h
  obtain rfl := h
  refine pFun_by [.v (V.bool (y1_0))] rfl (And.intro (w_impl_areAll_impl_Piece__isPiece q1 k (by omega)) trivial) ?_
  kernel_rfl
theorem w_impl_areAll_Simpl_Piece_1__piecesCode_1 {n : Nat} {a0 : List V} {z0 : Bool} (h : s_impl_areAll_Simpl_Piece_1__piecesCode_1 n a0 = some z0) : ∀ k, n + 8 ≤ k → sem E k 87 [(V.sl (a0)), (V.ref [(V.clo 71 [])] 0 (0) 1)] = some (V.bool (z0)) := by
  intro k hk
  obtain ⟨k, rfl⟩ : ∃ q, k = q + 1 := ⟨k - 1, by omega⟩
  unfold s_impl_areAll_Simpl_Piece_1__piecesCode_1 at h
  obtain ⟨y1_0, q1, h⟩ := bnd_some h
  replace h := Option.some.inj h
  obtain rfl := h
  refine pFun_by [.v (V.bool (y1_0))] rfl (And.intro (w_impl_piecesCode_1 q1 k (by omega)) trivial) ?_
  kernel_rfl
theorem lw_ixPa_b0 : ∀ (n : Nat) (a0 : List V) (a1 : Int) (a2 : Int) (r : Sum (Unit) (Int)), l_ixPa_b0 n a0 a1 a2 = some r → ∀ k m, n + 8 ≤ k → n ≤ m → LB E 96 0 k m ⟨[(0, (V.sl (a0))), (1, (V.clo 87 [(V.ref [(V.clo 71 [])] 0 (0) 1)])), (7, (V.int .i64 (a1))), (8, (V.int .i64 (a2)))], []⟩ = some (match r with | .inl _ => (.normal, ⟨[], []⟩) | .inr o0 => (.ret, ⟨[(4, (V.int .i64 (o0)))], []⟩)) := by
  intro n
  induction n with
  | zero => intro a0 a1 a2 r h; cases h
  | succ n ih =>
    intro a0 a1 a2 r h k m hk hm
    obtain ⟨m, rfl⟩ : ∃ q, m = q + 1 := ⟨m - 1, by omega⟩
    replace hk : n + 8 ≤ k := by omega
    unfold l_ixPa_b0 at h
    rcases cnd_some h with ⟨h1, h⟩ | ⟨h1, h⟩
    · obtain ⟨e2_0, g2, h⟩ := bnd_some h
      replace g2 := as_LPi8_i8Q_some g2
      obtain ⟨y3_0, q3, h⟩ := bnd_some h
      rcases cnd_some h with ⟨h4, h⟩ | ⟨h4, h⟩
      · cases h
        refine pLast_by [.b true, .v (V.sl (e2_0)), .v (V.bool (y3_0)), .b true] (And.intro h1 (And.intro g2 (And.intro (w_impl_areAll_Simpl_Piece_1__piecesCode_1 q3 k (by omega)) (And.intro h4 trivial)))) ?_
        kernel_rfl
      · refine pNext_by [.b true, .v (V.sl (e2_0)), .v (V.bool (y3_0)), .b false] (And.intro h1 (And.intro g2 (And.intro (w_impl_areAll_Simpl_Piece_1__piecesCode_1 q3 k (by omega)) (And.intro h4 trivial)))) (ih _ _ _ _ h k m hk (by omega)) ?_
        kernel_rfl
    · cases h
      refine pLast_by [.b false] (And.intro h1 trivial) ?_
      kernel_rfl
theorem w_ixPa {n : Nat} {a0 : List V} {z0 : Int} (h : s_ixPa n a0 = some z0) : ∀ k, n + 9 ≤ k → sem E k 96 [(V.sl (a0)), (V.clo 87 [(V.ref [(V.clo 71 [])] 0 (0) 1)])] = some (V.int .i64 (z0)) := by
  intro k hk
  obtain ⟨k, rfl⟩ : ∃ q, k = q + 1 := ⟨k - 1, by omega⟩
  unfold s_ixPa at h
  obtain ⟨w, l5, h⟩ := bnd_some h
  rcases w with ⟨⟩ | u6_0
  · replace h := Option.some.inj h
    obtain rfl := h
    refine pFun_by [.l .normal ⟨[], []⟩] rfl (And.intro (lw_ixPa_b0 _ _ _ _ _ l5 k k (by omega) (by omega)) trivial) ?_
    kernel_rfl
  · replace h := Option.some.inj h
    obtain rfl := h
    refine pFun_by [.l .ret ⟨[(4, (V.int .i64 (u6_0)))], []⟩] rfl (And.intro (lw_ixPa_b0 _ _ _ _ _ l5 k k (by omega) (by omega)) trivial) ?_
    kernel_rfl
theorem w_cnPa {n : Nat} {a0 : List V} {z0 : Bool} (h : s_cnPa n a0 = some z0) : ∀ k, n + 10 ≤ k → sem E k 86 [(V.sl (a0)), (V.clo 87 [(V.ref [(V.clo 71 [])] 0 (0) 1)])] = some (V.bool (z0)) := by
  intro k hk
  obtain ⟨k, rfl⟩ : ∃ q, k = q + 1 := ⟨k - 1, by omega⟩
  unfold s_cnPa at h
  obtain ⟨y1_0, q1, h⟩ := bnd_some h
  replace h := Option.some.inj h
  obtain rfl := h
  refine pFun_by [.v (V.int .i64 (y1_0))] rfl (And.intro (w_ixPa q1 k (by omega)) trivial) ?_
  kernel_rfl
theorem w_impl_areAll_Simpl_Piece__piecesCode_1 {n : Nat} {a0 : List V} {z0 : Bool} (h : s_impl_areAll_Simpl_Piece__piecesCode_1 n a0 = some z0) : ∀ k, n + 11 ≤ k → sem E k 70 [(V.sl (a0)), (V.clo 71 [])] = some (V.bool (z0)) := by
  intro k hk
  obtain ⟨k, rfl⟩ : ∃ q, k = q + 1 := ⟨k - 1, by omega⟩
  unfold s_impl_areAll_Simpl_Piece__piecesCode_1 at h
  obtain ⟨y1_0, q1, h⟩ := bnd_some h
  replace h := Option.some.inj h
  obtain rfl := h
  refine pFun_by [.v (V.bool (y1_0))] rfl (And.intro (w_cnPa q1 k (by omega)) (And.intro (Eq.refl true) trivial)) ?_
  kernel_rfl
theorem w_impl_piecesCode_2 {n : Nat} {a0 : List V} {z0 : Bool} (h : s_impl_piecesCode_2 n a0 = some z0) : ∀ k, n + 1 ≤ k → sem E k 74 [(V.sl (a0))] = some (V.bool (z0)) := by
  intro k hk
  obtain ⟨k, rfl⟩ : ∃ q, k = q + 1 := ⟨k - 1, by omega⟩
  unfold s_impl_piecesCode_2 at h
  replace h := Option.some.inj h
  obtain rfl := h
  refine pFun_by [] rfl trivial ?_
  kernel_rfl
theorem w_impl_areAll_Simpl_Piece_1__piecesCode_2 {n : Nat} {a0 : List V} {z0 : Bool} (h : s_impl_areAll_Simpl_Piece_1__piecesCode_2 n a0 = some z0) : ∀ k, n + 2 ≤ k → sem E k 87 [(V.sl (a0)), (V.ref [(V.clo 74 [])] 0 (0) 1)] = some (V.bool (z0)) := by
  intro k hk
  obtain ⟨k, rfl⟩ : ∃ q, k = q + 1 := ⟨k - 1, by omega⟩
  unfold s_impl_areAll_Simpl_Piece_1__piecesCode_2 at h
  obtain ⟨y1_0, q1, h⟩ := bnd_some h
  replace h := Option.some.inj h
  obtain rfl := h
  refine pFun_by [.v (V.bool (y1_0))] rfl (And.intro (w_impl_piecesCode_2 q1 k (by omega)) trivial) ?_
  kernel_rfl
theorem lw_ixPb_b0 : ∀ (n : Nat) (a0 : List V) (a1 : Int) (a2 : Int) (r : Sum (Unit) (Int)), l_ixPb_b0 n a0 a1 a2 = some r → ∀ k m, n + 2 ≤ k → n ≤ m → LB E 96 0 k m ⟨[(0, (V.sl (a0))), (1, (V.clo 87 [(V.ref [(V.clo 74 [])] 0 (0) 1)])), (7, (V.int .i64 (a1))), (8, (V.int .i64 (a2)))], []⟩ = some (match r with | .inl _ => (.normal, ⟨[], []⟩) | .inr o0 => (.ret, ⟨[(4, (V.int .i64 (o0)))], []⟩)) := by
  intro n
  induction n with
  | zero => intro a0 a1 a2 r h; cases h
  | succ n ih =>
    intro a0 a1 a2 r h k m hk hm
    obtain ⟨m, rfl⟩ : ∃ q, m = q + 1 := ⟨m - 1, by omega⟩
    replace hk : n + 2 ≤ k := by omega
    unfold l_ixPb_b0 at h
    rcases cnd_some h with ⟨h1, h⟩ | ⟨h1, h⟩
    · obtain ⟨e2_0, g2, h⟩ := bnd_some h
      replace g2 := as_LPi8_i8Q_some g2
      obtain ⟨y3_0, q3, h⟩ := bnd_some h
      rcases cnd_some h with ⟨h4, h⟩ | ⟨h4, h⟩
      · cases h
        refine pLast_by [.b true, .v (V.sl (e2_0)), .v (V.bool (y3_0)), .b true] (And.intro h1 (And.intro g2 (And.intro (w_impl_areAll_Simpl_Piece_1__piecesCode_2 q3 k (by omega)) (And.intro h4 trivial)))) ?_
        kernel_rfl
      · refine pNext_by [.b true, .v (V.sl (e2_0)), .v (V.bool (y3_0)), .b false] (And.intro h1 (And.intro g2 (And.intro (w_impl_areAll_Simpl_Piece_1__piecesCode_2 q3 k (by omega)) (And.intro h4 trivial)))) (ih _ _ _ _ h k m hk (by omega)) ?_
        kernel_rfl
    · cases h
      refine pLast_by [.b false] (And.intro h1 trivial) ?_
      kernel_rfl
theorem w_ixPb {n : Nat} {a0 : List V} {z0 : Int} (h : s_ixPb n a0 = some z0) : ∀ k, n + 3 ≤ k → sem E k 96 [(V.sl (a0)), (V.clo 87 [(V.ref [(V.clo 74 [])] 0 (0) 1)])] = some (V.int .i64 (z0)) := by
  intro k hk
  obtain ⟨k, rfl⟩ : ∃ q, k = q + 1 := ⟨k - 1, by omega⟩
  unfold s_ixPb at h
  obtain ⟨w, l5, h⟩ := bnd_some h
  rcases w with ⟨⟩ | u6_0
  · replace h := Option.some.inj h
    obtain rfl := h
    refine pFun_by [.l .normal ⟨[], []⟩] rfl (And.intro (lw_ixPb_b0 _ _ _ _ _ l5 k k (by omega) (by omega)) trivial) ?_
    kernel_rfl
  · replace h := Option.some.inj h
    obtain rfl := h
    refine pFun_by [.l .ret ⟨[(4, (V.int .i64 (u6_0)))], []⟩] rfl (And.intro (lw_ixPb_b0 _ _ _ _ _ l5 k k (by omega) (by omega)) trivial) ?_
    kernel_rfl
theorem w_cnPb {n : Nat} {a0 : List V} {z0 : Bool} (h : s_cnPb n a0 = some z0) : ∀ k, n + 4 ≤ k → sem E k 86 [(V.sl (a0)), (V.clo 87 [(V.ref [(V.clo 74 [])] 0 (0) 1)])] = some (V.bool (z0)) := by
  intro k hk
  obtain ⟨k, rfl⟩ : ∃ q, k = q + 1 := ⟨k - 1, by omega⟩
  unfold s_cnPb at h
  obtain ⟨y1_0, q1, h⟩ := bnd_some h
  replace h := Option.some.inj h
  obtain rfl := h
  refine pFun_by [.v (V.int .i64 (y1_0))] rfl (And.intro (w_ixPb q1 k (by omega)) trivial) ?_
  kernel_rfl
theorem w_impl_areAll_Simpl_Piece__piecesCode_2 {n : Nat} {a0 : List V} {z0 : Bool} (h : s_impl_areAll_Simpl_Piece__piecesCode_2 n a0 = some z0) : ∀ k, n + 5 ≤ k → sem E k 70 [(V.sl (a0)), (V.clo 74 [])] = some (V.bool (z0)) := by
  intro k hk
  obtain ⟨k, rfl⟩ : ∃ q, k = q + 1 := ⟨k - 1, by omega⟩
  unfold s_impl_areAll_Simpl_Piece__piecesCode_2 at h
  obtain ⟨y1_0, q1, h⟩ := bnd_some h
  replace h := Option.some.inj h
  obtain rfl := h
  refine pFun_by [.v (V.bool (y1_0))] rfl (And.intro (w_cnPb q1 k (by omega)) (And.intro (Eq.refl true) trivial)) ?_
  kernel_rfl
end Go.Proofs.Ytbejaalnnnogoaa
