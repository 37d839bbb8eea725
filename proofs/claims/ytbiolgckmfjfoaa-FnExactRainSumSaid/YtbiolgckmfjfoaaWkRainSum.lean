/- The program goes as the shallow texts tell: printed by gen.py. -/
import Derived.Test.YtbiolgckmfjfoaaEnvA
import Derived.Test.YtbiolgckmfjfoaaSh1
namespace Go.Proofs.Ytbiolgckmfjfoaa
open Go
set_option linter.unusedVariables false
set_option linter.unusedSimpArgs false
set_option maxRecDepth 100000
set_option maxHeartbeats 4000000
theorem lw_laws_toByteA8_b0 : ∀ (n : Nat) (a0 : Int) (a1 : Nat → Int) (a2 : Nat → Int) (a3 : Nat → Int) (r : (Nat → Int) × (Nat → Int)), l_laws_toByteA8_b0 n a0 a1 a2 a3 = some r → ∀ k m, n + 0 ≤ k → n ≤ m → LB E 88 0 k m ⟨[(1, (V.ptr 3 0 (0) 8)), (2, (V.ptr 5 0 (0) 8)), (3, (V.ptr 7 0 (0) 8)), (4, (V.int .i64 (a0)))], [(7, .box [(V.ints .u8 8 (a1))]), (5, .box [(V.ints .u8 8 (a2))]), (3, .box [(V.ints .u8 8 (a3))])]⟩ = some (match r with | (o0, o1) => (.normal, ⟨[(2, (V.ptr 5 0 (0) 8)), (3, (V.ptr 7 0 (0) 8))], [(7, .box [(V.ints .u8 8 (o0))]), (5, .box [(V.ints .u8 8 (o1))])]⟩)) := by
  intro n
  induction n with
  | zero => intro a0 a1 a2 a3 r h; cases h
  | succ n ih =>
    intro a0 a1 a2 a3 r h k m hk hm
    obtain ⟨m, rfl⟩ : ∃ q, m = q + 1 := ⟨m - 1, by omega⟩
    replace hk : n + 0 ≤ k := by omega
    unfold l_laws_toByteA8_b0 at h
    rcases cnd_some h with ⟨h1, h⟩ | ⟨h1, h⟩
    · obtain ⟨c2, h⟩ := chk_some h
      refine pNext [.b true] rfl ?_ (ih _ _ _ _ _ h k m hk (by omega))
      exact ⟨h1, c2, c2, trivial⟩
    · cases h
      refine pLast [.b false] rfl ?_
      exact ⟨h1, trivial⟩
theorem w_laws_toByteA8 {n : Nat} {a0 : Nat → Int} {z0 : Nat → Int} (h : s_laws_toByteA8 n a0 = some z0) : ∀ k, n + 1 ≤ k → sem E k 88 [(V.ints .u8 8 (a0))] = some (V.ints .u8 8 (z0)) := by
  intro k hk
  obtain ⟨k, rfl⟩ : ∃ q, k = q + 1 := ⟨k - 1, by omega⟩
  unfold s_laws_toByteA8 at h
  obtain ⟨⟨u3_0, u3_1⟩, l3, h⟩ := bnd_some h
  simp only [Option.some.injEq, Prod.mk.injEq] at h
  obtain rfl := h
  refine pFun_sound [.l .normal ⟨[(2, (V.ptr 5 0 (0) 8)), (3, (V.ptr 7 0 (0) 8))], [(7, .box [(V.ints .u8 8 (u3_0))]), (5, .box [(V.ints .u8 8 (u3_1))])]⟩] rfl ?_
  exact ⟨(lw_laws_toByteA8_b0 _ _ _ _ _ _ l3 k k (by omega) (by omega)), trivial⟩
theorem lw_laws_toByteA8A8_b0 : ∀ (n : Nat) (a0 : Int) (a1 : Nat → Int) (a2 : Nat → Int) (a3 : Nat → Int) (r : (Nat → Int) × (Nat → Int)), l_laws_toByteA8A8_b0 n a0 a1 a2 a3 = some r → ∀ k m, n + 1 ≤ k → n ≤ m → LB E 48 0 k m ⟨[(1, (V.ptr 3 0 (0) 64)), (2, (V.ptr 5 0 (0) 64)), (3, (V.ptr 7 0 (0) 64)), (4, (V.int .i64 (a0)))], [(7, .box [(V.ints .u8 64 (a1))]), (5, .box [(V.ints .u8 64 (a2))]), (3, .box [(V.ints .u8 64 (a3))])]⟩ = some (match r with | (o0, o1) => (.normal, ⟨[(2, (V.ptr 5 0 (0) 64)), (3, (V.ptr 7 0 (0) 64))], [(7, .box [(V.ints .u8 64 (o0))]), (5, .box [(V.ints .u8 64 (o1))])]⟩)) := by
  intro n
  induction n with
  | zero => intro a0 a1 a2 a3 r h; cases h
  | succ n ih =>
    intro a0 a1 a2 a3 r h k m hk hm
    obtain ⟨m, rfl⟩ : ∃ q, m = q + 1 := ⟨m - 1, by omega⟩
    replace hk : n + 1 ≤ k := by omega
    unfold l_laws_toByteA8A8_b0 at h
    rcases cnd_some h with ⟨h1, h⟩ | ⟨h1, h⟩
    · obtain ⟨c2, h⟩ := chk_some h
      obtain ⟨y3_0, q3, h⟩ := bnd_some h
      refine pNext [.b true, .v (V.ints .u8 8 (y3_0))] rfl ?_ (ih _ _ _ _ _ h k m hk (by omega))
      exact ⟨h1, c2, (w_laws_toByteA8 q3 _ (by omega)), c2, trivial⟩
    · cases h
      refine pLast [.b false] rfl ?_
      exact ⟨h1, trivial⟩
theorem w_laws_toByteA8A8 {n : Nat} {a0 : Nat → Int} {z0 : Nat → Int} (h : s_laws_toByteA8A8 n a0 = some z0) : ∀ k, n + 2 ≤ k → sem E k 48 [(V.ints .u8 64 (a0))] = some (V.ints .u8 64 (z0)) := by
  intro k hk
  obtain ⟨k, rfl⟩ : ∃ q, k = q + 1 := ⟨k - 1, by omega⟩
  unfold s_laws_toByteA8A8 at h
  obtain ⟨⟨u4_0, u4_1⟩, l4, h⟩ := bnd_some h
  simp only [Option.some.injEq, Prod.mk.injEq] at h
  obtain rfl := h
  refine pFun_sound [.l .normal ⟨[(2, (V.ptr 5 0 (0) 64)), (3, (V.ptr 7 0 (0) 64))], [(7, .box [(V.ints .u8 64 (u4_0))]), (5, .box [(V.ints .u8 64 (u4_1))])]⟩] rfl ?_
  exact ⟨(lw_laws_toByteA8A8_b0 _ _ _ _ _ _ l4 k k (by omega) (by omega)), trivial⟩
theorem w_laws_toRoof {n : Nat} {a0 : Int} {a1 : Int} {a2 : Int} {a3 : Nat → Int} {z0 : Int} {z1 : Int} {z2 : Int} {z3 : Nat → Int} (h : s_laws_toRoof n a0 a1 a2 a3 = some (z0, z1, z2, z3)) : ∀ k, n + 3 ≤ k → sem E k 16 [(V.parts [(V.int .i8 (a0)), (V.int .i8 (a1)), (V.int .u8 (a2)), (V.ints .u8 64 (a3))])] = some (V.parts [(V.int .i8 (z0)), (V.int .i8 (z1)), (V.int .u8 (z2)), (V.ints .u8 64 (z3))]) := by
  intro k hk
  obtain ⟨k, rfl⟩ : ∃ q, k = q + 1 := ⟨k - 1, by omega⟩
  unfold s_laws_toRoof at h
  obtain ⟨y1_0, q1, h⟩ := bnd_some h
  simp only [Option.some.injEq, Prod.mk.injEq] at h
  obtain ⟨rfl, rfl, rfl, rfl⟩ := h
  refine pFun_sound [.v (V.ints .u8 64 (y1_0))] rfl ?_
  exact ⟨(w_laws_toByteA8A8 q1 _ (by omega)), trivial⟩
theorem lw_laws_toRain_b0 : ∀ (n : Nat) (a0 : Int) (a1 : Nat → Int) (a2 : Nat → Int) (a3 : Nat → Int) (r : (Nat → Int) × (Nat → Int)), l_laws_toRain_b0 n a0 a1 a2 a3 = some r → ∀ k m, n + 0 ≤ k → n ≤ m → LB E 17 0 k m ⟨[(1, (V.ptr 3 0 (0) 17)), (2, (V.ptr 5 0 (0) 17)), (3, (V.ptr 7 0 (0) 17)), (4, (V.int .i64 (a0)))], [(7, .box [(V.ints .i16 17 (a1))]), (5, .box [(V.ints .i16 17 (a2))]), (3, .box [(V.ints .i16 17 (a3))])]⟩ = some (match r with | (o0, o1) => (.normal, ⟨[(2, (V.ptr 5 0 (0) 17)), (3, (V.ptr 7 0 (0) 17))], [(7, .box [(V.ints .i16 17 (o0))]), (5, .box [(V.ints .i16 17 (o1))])]⟩)) := by
  intro n
  induction n with
  | zero => intro a0 a1 a2 a3 r h; cases h
  | succ n ih =>
    intro a0 a1 a2 a3 r h k m hk hm
    obtain ⟨m, rfl⟩ : ∃ q, m = q + 1 := ⟨m - 1, by omega⟩
    replace hk : n + 0 ≤ k := by omega
    unfold l_laws_toRain_b0 at h
    rcases cnd_some h with ⟨h1, h⟩ | ⟨h1, h⟩
    · obtain ⟨c2, h⟩ := chk_some h
      refine pNext [.b true] rfl ?_ (ih _ _ _ _ _ h k m hk (by omega))
      exact ⟨h1, c2, c2, trivial⟩
    · cases h
      refine pLast [.b false] rfl ?_
      exact ⟨h1, trivial⟩
theorem w_laws_toRain {n : Nat} {a0 : Nat → Int} {z0 : Nat → Int} (h : s_laws_toRain n a0 = some z0) : ∀ k, n + 1 ≤ k → sem E k 17 [(V.ints .i16 17 (a0))] = some (V.ints .i16 17 (z0)) := by
  intro k hk
  obtain ⟨k, rfl⟩ : ∃ q, k = q + 1 := ⟨k - 1, by omega⟩
  unfold s_laws_toRain at h
  obtain ⟨⟨u3_0, u3_1⟩, l3, h⟩ := bnd_some h
  simp only [Option.some.injEq, Prod.mk.injEq] at h
  obtain rfl := h
  refine pFun_sound [.l .normal ⟨[(2, (V.ptr 5 0 (0) 17)), (3, (V.ptr 7 0 (0) 17))], [(7, .box [(V.ints .i16 17 (u3_0))]), (5, .box [(V.ints .i16 17 (u3_1))])]⟩] rfl ?_
  exact ⟨(lw_laws_toRain_b0 _ _ _ _ _ _ l3 k k (by omega) (by omega)), trivial⟩
theorem w_spec_l00In {n : Nat} {a0 : Int} {a1 : Int} {a2 : Int} {z0 : Bool} (h : s_spec_l00In n a0 a1 a2 = some z0) : ∀ k, n + 1 ≤ k → sem E k 54 [(V.int .i64 (a0)), (V.int .i64 (a1)), (V.int .i64 (a2))] = some (V.bool (z0)) := by
  intro k hk
  obtain ⟨k, rfl⟩ : ∃ q, k = q + 1 := ⟨k - 1, by omega⟩
  unfold s_spec_l00In at h
  rcases cnd_some h with ⟨h1, h⟩ | ⟨h1, h⟩
  · simp only [Option.some.injEq, Prod.mk.injEq] at h
    obtain rfl := h
    refine pFun_sound [.b true] rfl ?_
    exact ⟨h1, trivial⟩
  · simp only [Option.some.injEq, Prod.mk.injEq] at h
    obtain rfl := h
    refine pFun_sound [.b false] rfl ?_
    exact ⟨h1, trivial⟩
theorem w_spec_l01Kind {n : Nat} {a0 : Int} {z0 : Bool} (h : s_spec_l01Kind n a0 = some z0) : ∀ k, n + 2 ≤ k → sem E k 105 [(V.int .i64 (a0))] = some (V.bool (z0)) := by
  intro k hk
  obtain ⟨k, rfl⟩ : ∃ q, k = q + 1 := ⟨k - 1, by omega⟩
  unfold s_spec_l01Kind at h
  obtain ⟨y1_0, q1, h⟩ := bnd_some h
  simp only [Option.some.injEq, Prod.mk.injEq] at h
  obtain rfl := h
  refine pFun_sound [.v (V.bool (y1_0))] rfl ?_
  exact ⟨(w_spec_l00In q1 _ (by omega)), trivial⟩
theorem w_spec_l01Is {n : Nat} {a0 : Int} {a1 : Int} {a2 : Int} {a3 : Nat → Int} {a4 : Int} {a5 : Int} {z0 : Bool} (h : s_spec_l01Is n a0 a1 a2 a3 a4 a5 = some z0) : ∀ k, n + 2 ≤ k → sem E k 83 [(V.ref [(V.int .i8 (a0)), (V.int .i8 (a1)), (V.int .u8 (a2)), (V.ints .u8 64 (a3))] 0 (0) 67), (V.parts [(V.int .i8 (a4)), (V.int .i8 (a5))])] = some (V.bool (z0)) := by
  intro k hk
  obtain ⟨k, rfl⟩ : ∃ q, k = q + 1 := ⟨k - 1, by omega⟩
  unfold s_spec_l01Is at h
  obtain ⟨y1_0, q1, h⟩ := bnd_some h
  rcases cnd_some h with ⟨h2, h⟩ | ⟨h2, h⟩
  · obtain ⟨y3_0, q3, h⟩ := bnd_some h
    simp only [Option.some.injEq, Prod.mk.injEq] at h
    obtain rfl := h
    refine pFun_sound [.v (V.bool (y1_0)), .b true, .v (V.bool (y3_0))] rfl ?_
    exact ⟨(w_spec_l00In q1 _ (by omega)), h2, (w_spec_l00In q3 _ (by omega)), trivial⟩
  · simp only [Option.some.injEq, Prod.mk.injEq] at h
    obtain rfl := h
    refine pFun_sound [.v (V.bool (y1_0)), .b false] rfl ?_
    exact ⟨(w_spec_l00In q1 _ (by omega)), h2, trivial⟩
theorem lw_spec_l01Ok_b2 : ∀ (n : Nat) (a0 : Int) (a1 : Int) (a2 : Int) (a3 : Nat → Int) (a4 : Int) (a5 : Int) (r : Sum (Int × Int × Int × (Nat → Int) × Int) (Bool)), l_spec_l01Ok_b2 n a0 a1 a2 a3 a4 a5 = some r → ∀ k m, n + 2 ≤ k → n ≤ m → LB E 87 2 k m ⟨[(0, (V.ref [(V.int .i8 (a0)), (V.int .i8 (a1)), (V.int .u8 (a2)), (V.ints .u8 64 (a3))] 0 (0) 67)), (3, (V.int .i8 (a4))), (4, (V.int .i8 (a5)))], []⟩ = some (match r with | .inl (o0, o1, o2, o3, o4) => (.normal, ⟨[(0, (V.ref [(V.int .i8 (o0)), (V.int .i8 (o1)), (V.int .u8 (o2)), (V.ints .u8 64 (o3))] 0 (0) 67)), (3, (V.int .i8 (o4)))], []⟩) | .inr o0 => (.ret, ⟨[(2, (V.bool (o0)))], []⟩)) := by
  intro n
  induction n with
  | zero => intro a0 a1 a2 a3 a4 a5 r h; cases h
  | succ n ih =>
    intro a0 a1 a2 a3 a4 a5 r h k m hk hm
    obtain ⟨m, rfl⟩ : ∃ q, m = q + 1 := ⟨m - 1, by omega⟩
    replace hk : n + 2 ≤ k := by omega
    unfold l_spec_l01Ok_b2 at h
    rcases cnd_some h with ⟨h7, h⟩ | ⟨h7, h⟩
    · obtain ⟨c8, h⟩ := chk_some h
      obtain ⟨c9, h⟩ := chk_some h
      obtain ⟨y10_0, q10, h⟩ := bnd_some h
      rcases cnd_some h with ⟨h11, h⟩ | ⟨h11, h⟩
      · obtain ⟨y12_0, q12, h⟩ := bnd_some h
        rcases cnd_some h with ⟨h13, h⟩ | ⟨h13, h⟩
        · refine pNext [.b true, .v (V.bool (y10_0)), .b false, .v (V.bool (y12_0)), .b false, .b false] rfl ?_ (ih _ _ _ _ _ _ _ h k m hk (by omega))
          exact ⟨h7, c8, c9, (w_spec_l01Kind q10 _ (by omega)), (not_f h11), (w_spec_l01Is q12 _ (by omega)), (not_f h13), rfl, trivial⟩
        · rcases cnd_some h with ⟨h14, h⟩ | ⟨h14, h⟩
          · refine pNext [.b true, .v (V.bool (y10_0)), .b false, .v (V.bool (y12_0)), .b true, .b false] rfl ?_ (ih _ _ _ _ _ _ _ h k m hk (by omega))
            exact ⟨h7, c8, c9, (w_spec_l01Kind q10 _ (by omega)), (not_f h11), (w_spec_l01Is q12 _ (by omega)), (not_t h13), c8, c9, (not_f h14), trivial⟩
          · cases h
            refine pLast [.b true, .v (V.bool (y10_0)), .b false, .v (V.bool (y12_0)), .b true, .b true] rfl ?_
            exact ⟨h7, c8, c9, (w_spec_l01Kind q10 _ (by omega)), (not_f h11), (w_spec_l01Is q12 _ (by omega)), (not_t h13), c8, c9, (not_t h14), trivial⟩
      · cases h
        refine pLast [.b true, .v (V.bool (y10_0)), .b true, .b true] rfl ?_
        exact ⟨h7, c8, c9, (w_spec_l01Kind q10 _ (by omega)), (not_t h11), rfl, trivial⟩
    · cases h
      refine pLast [.b false] rfl ?_
      exact ⟨h7, trivial⟩
theorem lw_spec_l01Ok_b0 : ∀ (n : Nat) (a0 : Int) (a1 : Int) (a2 : Int) (a3 : Nat → Int) (a4 : Int) (r : Sum (Unit) (Bool)), l_spec_l01Ok_b0 n a0 a1 a2 a3 a4 = some r → ∀ k m, n + 2 ≤ k → n ≤ m → LB E 87 0 k m ⟨[(0, (V.ref [(V.int .i8 (a0)), (V.int .i8 (a1)), (V.int .u8 (a2)), (V.ints .u8 64 (a3))] 0 (0) 67)), (3, (V.int .i8 (a4)))], []⟩ = some (match r with | .inl _ => (.normal, ⟨[], []⟩) | .inr o0 => (.ret, ⟨[(2, (V.bool (o0)))], []⟩)) := by
  intro n
  induction n with
  | zero => intro a0 a1 a2 a3 a4 r h; cases h
  | succ n ih =>
    intro a0 a1 a2 a3 a4 r h k m hk hm
    obtain ⟨m, rfl⟩ : ∃ q, m = q + 1 := ⟨m - 1, by omega⟩
    replace hk : n + 2 ≤ k := by omega
    unfold l_spec_l01Ok_b0 at h
    rcases cnd_some h with ⟨h6, h⟩ | ⟨h6, h⟩
    · obtain ⟨w, l15, h⟩ := bnd_some h
      rcases w with ⟨u15_0, u15_1, u15_2, u15_3, u15_4⟩ | u16_0
      · refine pNext [.b true, .l .normal ⟨[(0, (V.ref [(V.int .i8 (u15_0)), (V.int .i8 (u15_1)), (V.int .u8 (u15_2)), (V.ints .u8 64 (u15_3))] 0 (0) 67)), (3, (V.int .i8 (u15_4)))], []⟩] rfl ?_ (ih _ _ _ _ _ _ h k m hk (by omega))
        exact ⟨h6, (lw_spec_l01Ok_b2 _ _ _ _ _ _ _ _ l15 k k (by omega) (by omega)), trivial⟩
      · cases h
        refine pLast [.b true, .l .ret ⟨[(2, (V.bool (u16_0)))], []⟩] rfl ?_
        exact ⟨h6, (lw_spec_l01Ok_b2 _ _ _ _ _ _ _ _ l15 k k (by omega) (by omega)), trivial⟩
    · cases h
      refine pLast [.b false] rfl ?_
      exact ⟨h6, trivial⟩
theorem w_spec_l01Ok {n : Nat} {a0 : Int} {a1 : Int} {a2 : Int} {a3 : Nat → Int} {z0 : Bool} (h : s_spec_l01Ok n a0 a1 a2 a3 = some z0) : ∀ k, n + 3 ≤ k → sem E k 87 [(V.ref [(V.int .i8 (a0)), (V.int .i8 (a1)), (V.int .u8 (a2)), (V.ints .u8 64 (a3))] 0 (0) 67)] = some (V.bool (z0)) := by
  intro k hk
  obtain ⟨k, rfl⟩ : ∃ q, k = q + 1 := ⟨k - 1, by omega⟩
  unfold s_spec_l01Ok at h
  obtain ⟨y1_0, q1, h⟩ := bnd_some h
  rcases cnd_some h with ⟨h2, h⟩ | ⟨h2, h⟩
  · obtain ⟨y3_0, q3, h⟩ := bnd_some h
    rcases cnd_some h with ⟨h4, h⟩ | ⟨h4, h⟩
    · rcases cnd_some h with ⟨h5, h⟩ | ⟨h5, h⟩
      · simp only [Option.some.injEq, Prod.mk.injEq] at h
        obtain rfl := h
        refine pFun_sound [.v (V.bool (y1_0)), .b false, .v (V.bool (y3_0)), .b false, .b true] rfl ?_
        exact ⟨(w_spec_l00In q1 _ (by omega)), (not_f h2), (w_spec_l00In q3 _ (by omega)), (not_f h4), h5, trivial⟩
      · obtain ⟨w, l18, h⟩ := bnd_some h
        rcases w with ⟨⟩ | u19_0
        · simp only [Option.some.injEq, Prod.mk.injEq] at h
          obtain rfl := h
          refine pFun_sound [.v (V.bool (y1_0)), .b false, .v (V.bool (y3_0)), .b false, .b false, .l .normal ⟨[], []⟩] rfl ?_
          exact ⟨(w_spec_l00In q1 _ (by omega)), (not_f h2), (w_spec_l00In q3 _ (by omega)), (not_f h4), h5, (lw_spec_l01Ok_b0 _ _ _ _ _ _ _ l18 k k (by omega) (by omega)), trivial⟩
        · simp only [Option.some.injEq, Prod.mk.injEq] at h
          obtain rfl := h
          refine pFun_sound [.v (V.bool (y1_0)), .b false, .v (V.bool (y3_0)), .b false, .b false, .l .ret ⟨[(2, (V.bool (u19_0)))], []⟩] rfl ?_
          exact ⟨(w_spec_l00In q1 _ (by omega)), (not_f h2), (w_spec_l00In q3 _ (by omega)), (not_f h4), h5, (lw_spec_l01Ok_b0 _ _ _ _ _ _ _ l18 k k (by omega) (by omega)), trivial⟩
    · simp only [Option.some.injEq, Prod.mk.injEq] at h
      obtain rfl := h
      refine pFun_sound [.v (V.bool (y1_0)), .b false, .v (V.bool (y3_0)), .b true, .b true] rfl ?_
      exact ⟨(w_spec_l00In q1 _ (by omega)), (not_f h2), (w_spec_l00In q3 _ (by omega)), (not_t h4), rfl, trivial⟩
  · simp only [Option.some.injEq, Prod.mk.injEq] at h
    obtain rfl := h
    refine pFun_sound [.v (V.bool (y1_0)), .b true, .b true, .b true] rfl ?_
    exact ⟨(w_spec_l00In q1 _ (by omega)), (not_t h2), rfl, rfl, trivial⟩
theorem w_spec_l02Amount {n : Nat} {a0 : Int} {z0 : Bool} (h : s_spec_l02Amount n a0 = some z0) : ∀ k, n + 2 ≤ k → sem E k 62 [(V.int .i64 (a0))] = some (V.bool (z0)) := by
  intro k hk
  obtain ⟨k, rfl⟩ : ∃ q, k = q + 1 := ⟨k - 1, by omega⟩
  unfold s_spec_l02Amount at h
  obtain ⟨y1_0, q1, h⟩ := bnd_some h
  simp only [Option.some.injEq, Prod.mk.injEq] at h
  obtain rfl := h
  refine pFun_sound [.v (V.bool (y1_0))] rfl ?_
  exact ⟨(w_spec_l00In q1 _ (by omega)), trivial⟩
theorem w_spec_l01Cells {n : Nat} {a0 : Int} {a1 : Int} {a2 : Int} {a3 : Nat → Int} {z0 : Int} (h : s_spec_l01Cells n a0 a1 a2 a3 = some z0) : ∀ k, n + 1 ≤ k → sem E k 55 [(V.ref [(V.int .i8 (a0)), (V.int .i8 (a1)), (V.int .u8 (a2)), (V.ints .u8 64 (a3))] 0 (0) 67)] = some (V.int .i64 (z0)) := by
  intro k hk
  obtain ⟨k, rfl⟩ : ∃ q, k = q + 1 := ⟨k - 1, by omega⟩
  unfold s_spec_l01Cells at h
  simp only [Option.some.injEq, Prod.mk.injEq] at h
  obtain rfl := h
  refine pFun_sound [] rfl ?_
  exact trivial
theorem lw_spec_l02Ok_b0 : ∀ (n : Nat) (a0 : Int) (a1 : Int) (a2 : Int) (a3 : Nat → Int) (a4 : Nat → Int) (a5 : Int) (r : Sum (Unit) (Bool)), l_spec_l02Ok_b0 n a0 a1 a2 a3 a4 a5 = some r → ∀ k m, n + 2 ≤ k → n ≤ m → LB E 47 0 k m ⟨[(0, (V.ref [(V.int .i8 (a0)), (V.int .i8 (a1)), (V.int .u8 (a2)), (V.ints .u8 64 (a3))] 0 (0) 67)), (1, (V.ref [(V.ints .i16 17 (a4))] 0 (0) 17)), (5, (V.int .i64 (a5)))], []⟩ = some (match r with | .inl _ => (.normal, ⟨[], []⟩) | .inr o0 => (.ret, ⟨[(4, (V.bool (o0)))], []⟩)) := by
  intro n
  induction n with
  | zero => intro a0 a1 a2 a3 a4 a5 r h; cases h
  | succ n ih =>
    intro a0 a1 a2 a3 a4 a5 r h k m hk hm
    obtain ⟨m, rfl⟩ : ∃ q, m = q + 1 := ⟨m - 1, by omega⟩
    replace hk : n + 2 ≤ k := by omega
    unfold l_spec_l02Ok_b0 at h
    rcases cnd_some h with ⟨h3, h⟩ | ⟨h3, h⟩
    · obtain ⟨c4, h⟩ := chk_some h
      obtain ⟨y5_0, q5, h⟩ := bnd_some h
      rcases cnd_some h with ⟨h6, h⟩ | ⟨h6, h⟩
      · obtain ⟨y7_0, q7, h⟩ := bnd_some h
        rcases cnd_some h with ⟨h8, h⟩ | ⟨h8, h⟩
        · rcases cnd_some h with ⟨h9, h⟩ | ⟨h9, h⟩
          · refine pNext [.b true, .v (V.bool (y5_0)), .b false, .v (V.int .i64 (y7_0)), .b true, .b false] rfl ?_ (ih _ _ _ _ _ _ _ h k m hk (by omega))
            exact ⟨h3, c4, (w_spec_l02Amount q5 _ (by omega)), (not_f h6), (w_spec_l01Cells q7 _ (by omega)), h8, c4, (not_f h9), trivial⟩
          · cases h
            refine pLast [.b true, .v (V.bool (y5_0)), .b false, .v (V.int .i64 (y7_0)), .b true, .b true] rfl ?_
            exact ⟨h3, c4, (w_spec_l02Amount q5 _ (by omega)), (not_f h6), (w_spec_l01Cells q7 _ (by omega)), h8, c4, (not_t h9), trivial⟩
        · refine pNext [.b true, .v (V.bool (y5_0)), .b false, .v (V.int .i64 (y7_0)), .b false, .b false] rfl ?_ (ih _ _ _ _ _ _ _ h k m hk (by omega))
          exact ⟨h3, c4, (w_spec_l02Amount q5 _ (by omega)), (not_f h6), (w_spec_l01Cells q7 _ (by omega)), h8, rfl, trivial⟩
      · cases h
        refine pLast [.b true, .v (V.bool (y5_0)), .b true, .b true] rfl ?_
        exact ⟨h3, c4, (w_spec_l02Amount q5 _ (by omega)), (not_t h6), rfl, trivial⟩
    · cases h
      refine pLast [.b false] rfl ?_
      exact ⟨h3, trivial⟩
theorem w_spec_l02Ok {n : Nat} {a0 : Int} {a1 : Int} {a2 : Int} {a3 : Nat → Int} {a4 : Nat → Int} {z0 : Bool} (h : s_spec_l02Ok n a0 a1 a2 a3 a4 = some z0) : ∀ k, n + 4 ≤ k → sem E k 47 [(V.ref [(V.int .i8 (a0)), (V.int .i8 (a1)), (V.int .u8 (a2)), (V.ints .u8 64 (a3))] 0 (0) 67), (V.ref [(V.ints .i16 17 (a4))] 0 (0) 17)] = some (V.bool (z0)) := by
  intro k hk
  obtain ⟨k, rfl⟩ : ∃ q, k = q + 1 := ⟨k - 1, by omega⟩
  unfold s_spec_l02Ok at h
  obtain ⟨y1_0, q1, h⟩ := bnd_some h
  rcases cnd_some h with ⟨h2, h⟩ | ⟨h2, h⟩
  · obtain ⟨w, l10, h⟩ := bnd_some h
    rcases w with ⟨⟩ | u11_0
    · simp only [Option.some.injEq, Prod.mk.injEq] at h
      obtain rfl := h
      refine pFun_sound [.v (V.bool (y1_0)), .b false, .l .normal ⟨[], []⟩] rfl ?_
      exact ⟨(w_spec_l01Ok q1 _ (by omega)), (not_f h2), (lw_spec_l02Ok_b0 _ _ _ _ _ _ _ _ l10 k k (by omega) (by omega)), trivial⟩
    · simp only [Option.some.injEq, Prod.mk.injEq] at h
      obtain rfl := h
      refine pFun_sound [.v (V.bool (y1_0)), .b false, .l .ret ⟨[(4, (V.bool (u11_0)))], []⟩] rfl ?_
      exact ⟨(w_spec_l01Ok q1 _ (by omega)), (not_f h2), (lw_spec_l02Ok_b0 _ _ _ _ _ _ _ _ l10 k k (by omega) (by omega)), trivial⟩
  · simp only [Option.some.injEq, Prod.mk.injEq] at h
    obtain rfl := h
    refine pFun_sound [.v (V.bool (y1_0)), .b true] rfl ?_
    exact ⟨(w_spec_l01Ok q1 _ (by omega)), (not_t h2), trivial⟩
theorem lw_spec_RainSum_b0 : ∀ (n : Nat) (a0 : Int) (a1 : Int) (a2 : Nat → Int) (r : Int), l_spec_RainSum_b0 n a0 a1 a2 = some r → ∀ k m, n + 0 ≤ k → n ≤ m → LB E 21 0 k m ⟨[(3, (V.ptr 7 0 (0) 17)), (6, (V.int .i64 (a0))), (7, (V.int .i64 (a1)))], [(7, .box [(V.ints .i16 17 (a2))])]⟩ = some (match r with | o0 => (.normal, ⟨[(6, (V.int .i64 (o0)))], []⟩)) := by
  intro n
  induction n with
  | zero => intro a0 a1 a2 r h; cases h
  | succ n ih =>
    intro a0 a1 a2 r h k m hk hm
    obtain ⟨m, rfl⟩ : ∃ q, m = q + 1 := ⟨m - 1, by omega⟩
    replace hk : n + 0 ≤ k := by omega
    unfold l_spec_RainSum_b0 at h
    rcases cnd_some h with ⟨h3, h⟩ | ⟨h3, h⟩
    · obtain ⟨c4, h⟩ := chk_some h
      refine pNext [.b true] rfl ?_ (ih _ _ _ _ h k m hk (by omega))
      exact ⟨h3, c4, trivial⟩
    · cases h
      refine pLast [.b false] rfl ?_
      exact ⟨h3, trivial⟩
theorem w_spec_RainSum {n : Nat} {a0 : Int} {a1 : Int} {a2 : Int} {a3 : Nat → Int} {a4 : Nat → Int} {z0 : Int} {z1 : Int} (h : s_spec_RainSum n a0 a1 a2 a3 a4 = some (z0, z1)) : ∀ k, n + 5 ≤ k → sem E k 21 [(V.parts [(V.int .i8 (a0)), (V.int .i8 (a1)), (V.int .u8 (a2)), (V.ints .u8 64 (a3))]), (V.ints .i16 17 (a4))] = some (V.tup [(V.int .i64 (z0)), (V.int .i64 (z1))]) := by
  intro k hk
  obtain ⟨k, rfl⟩ : ∃ q, k = q + 1 := ⟨k - 1, by omega⟩
  unfold s_spec_RainSum at h
  obtain ⟨y1_0, q1, h⟩ := bnd_some h
  rcases cnd_some h with ⟨h2, h⟩ | ⟨h2, h⟩
  · obtain ⟨u5_0, l5, h⟩ := bnd_some h
    simp only [Option.some.injEq, Prod.mk.injEq] at h
    obtain ⟨rfl, rfl⟩ := h
    refine pFun_sound [.v (V.bool (y1_0)), .b false, .l .normal ⟨[(6, (V.int .i64 (u5_0)))], []⟩] rfl ?_
    exact ⟨(w_spec_l02Ok q1 _ (by omega)), (not_f h2), (lw_spec_RainSum_b0 _ _ _ _ _ l5 k k (by omega) (by omega)), trivial⟩
  · simp only [Option.some.injEq, Prod.mk.injEq] at h
    obtain ⟨rfl, rfl⟩ := h
    refine pFun_sound [.v (V.bool (y1_0)), .b true] rfl ?_
    exact ⟨(w_spec_l02Ok q1 _ (by omega)), (not_t h2), trivial⟩
theorem w_impl_within_int8 {n : Nat} {a0 : Int} {a1 : Int} {a2 : Int} {z0 : Bool} (h : s_impl_within_int8 n a0 a1 a2 = some z0) : ∀ k, n + 1 ≤ k → sem E k 89 [(V.int .i8 (a0)), (V.int .i8 (a1)), (V.int .i8 (a2))] = some (V.bool (z0)) := by
  intro k hk
  obtain ⟨k, rfl⟩ : ∃ q, k = q + 1 := ⟨k - 1, by omega⟩
  unfold s_impl_within_int8 at h
  rcases cnd_some h with ⟨h1, h⟩ | ⟨h1, h⟩
  · simp only [Option.some.injEq, Prod.mk.injEq] at h
    obtain rfl := h
    refine pFun_sound [.b true] rfl ?_
    exact ⟨h1, trivial⟩
  · simp only [Option.some.injEq, Prod.mk.injEq] at h
    obtain rfl := h
    refine pFun_sound [.b false] rfl ?_
    exact ⟨h1, trivial⟩
theorem lw_impl_ValidRoof_b2 : ∀ (n : Nat) (a0 : Int) (a1 : Nat → Int) (a2 : Int) (a3 : Nat → Int) (a4 : Int) (a5 : Int) (a6 : Int) (a7 : Int) (a8 : Nat → Int) (r : Sum ((Nat → Int) × Int × Int × Int × Int × (Nat → Int)) (Bool)), l_impl_ValidRoof_b2 n a0 a1 a2 a3 a4 a5 a6 a7 a8 = some r → ∀ k m, n + 0 ≤ k → n ≤ m → LB E 49 2 k m ⟨[(1, (V.ptr 3 0 (0) 67)), (3, (V.int .i64 (a0))), (23, (V.ints .u8 64 (a1))), (24, (V.int .i64 (a2))), (28, (V.ints .u8 8 (a3))), (29, (V.int .i64 (a4)))], [(3, .box [(V.int .i8 (a5)), (V.int .i8 (a6)), (V.int .u8 (a7)), (V.ints .u8 64 (a8))])]⟩ = some (match r with | .inl (o0, o1, o2, o3, o4, o5) => (.normal, ⟨[(1, (V.ptr 3 0 (0) 67)), (23, (V.ints .u8 64 (o0))), (24, (V.int .i64 (o1)))], [(3, .box [(V.int .i8 (o2)), (V.int .i8 (o3)), (V.int .u8 (o4)), (V.ints .u8 64 (o5))])]⟩) | .inr o0 => (.ret, ⟨[(2, (V.bool (o0)))], []⟩)) := by
  intro n
  induction n with
  | zero => intro a0 a1 a2 a3 a4 a5 a6 a7 a8 r h; cases h
  | succ n ih =>
    intro a0 a1 a2 a3 a4 a5 a6 a7 a8 r h k m hk hm
    obtain ⟨m, rfl⟩ : ∃ q, m = q + 1 := ⟨m - 1, by omega⟩
    replace hk : n + 0 ≤ k := by omega
    unfold l_impl_ValidRoof_b2 at h
    rcases cnd_some h with ⟨h8, h⟩ | ⟨h8, h⟩
    · obtain ⟨c9, h⟩ := chk_some h
      rcases cnd_some h with ⟨h10, h⟩ | ⟨h10, h⟩
      · cases h
        refine pLast [.b true, .b true, .b true] rfl ?_
        exact ⟨h8, c9, h10, rfl, trivial⟩
      · rcases cnd_some h with ⟨h11, h⟩ | ⟨h11, h⟩
        · refine pNext [.b true, .b false, .b false, .b false] rfl ?_ (ih _ _ _ _ _ _ _ _ _ _ h k m hk (by omega))
          exact ⟨h8, c9, h10, (not_f h11), rfl, trivial⟩
        · rcases cnd_some h with ⟨h12, h⟩ | ⟨h12, h⟩
          · cases h
            refine pLast [.b true, .b false, .b true, .b true, .b true] rfl ?_
            exact ⟨h8, c9, h10, (not_t h11), h12, rfl, trivial⟩
          · rcases cnd_some h with ⟨h13, h⟩ | ⟨h13, h⟩
            · cases h
              refine pLast [.b true, .b false, .b true, .b false, .b true] rfl ?_
              exact ⟨h8, c9, h10, (not_t h11), h12, h13, trivial⟩
            · refine pNext [.b true, .b false, .b true, .b false, .b false] rfl ?_ (ih _ _ _ _ _ _ _ _ _ _ h k m hk (by omega))
              exact ⟨h8, c9, h10, (not_t h11), h12, h13, trivial⟩
    · cases h
      refine pLast [.b false] rfl ?_
      exact ⟨h8, trivial⟩
theorem lw_impl_ValidRoof_b0 : ∀ (n : Nat) (a0 : Nat → Int) (a1 : Int) (a2 : Int) (a3 : Int) (a4 : Int) (a5 : Nat → Int) (r : Sum (Unit) (Bool)), l_impl_ValidRoof_b0 n a0 a1 a2 a3 a4 a5 = some r → ∀ k m, n + 0 ≤ k → n ≤ m → LB E 49 0 k m ⟨[(1, (V.ptr 3 0 (0) 67)), (23, (V.ints .u8 64 (a0))), (24, (V.int .i64 (a1)))], [(3, .box [(V.int .i8 (a2)), (V.int .i8 (a3)), (V.int .u8 (a4)), (V.ints .u8 64 (a5))])]⟩ = some (match r with | .inl _ => (.normal, ⟨[], []⟩) | .inr o0 => (.ret, ⟨[(2, (V.bool (o0)))], []⟩)) := by
  intro n
  induction n with
  | zero => intro a0 a1 a2 a3 a4 a5 r h; cases h
  | succ n ih =>
    intro a0 a1 a2 a3 a4 a5 r h k m hk hm
    obtain ⟨m, rfl⟩ : ∃ q, m = q + 1 := ⟨m - 1, by omega⟩
    replace hk : n + 0 ≤ k := by omega
    unfold l_impl_ValidRoof_b0 at h
    rcases cnd_some h with ⟨h6, h⟩ | ⟨h6, h⟩
    · obtain ⟨c7, h⟩ := chk_some h
      obtain ⟨w, l14, h⟩ := bnd_some h
      rcases w with ⟨u14_0, u14_1, u14_2, u14_3, u14_4, u14_5⟩ | u15_0
      · refine pNext [.b true, .l .normal ⟨[(1, (V.ptr 3 0 (0) 67)), (23, (V.ints .u8 64 (u14_0))), (24, (V.int .i64 (u14_1)))], [(3, .box [(V.int .i8 (u14_2)), (V.int .i8 (u14_3)), (V.int .u8 (u14_4)), (V.ints .u8 64 (u14_5))])]⟩] rfl ?_ (ih _ _ _ _ _ _ _ h k m hk (by omega))
        exact ⟨h6, c7, (lw_impl_ValidRoof_b2 _ _ _ _ _ _ _ _ _ _ _ l14 k k (by omega) (by omega)), trivial⟩
      · cases h
        refine pLast [.b true, .l .ret ⟨[(2, (V.bool (u15_0)))], []⟩] rfl ?_
        exact ⟨h6, c7, (lw_impl_ValidRoof_b2 _ _ _ _ _ _ _ _ _ _ _ l14 k k (by omega) (by omega)), trivial⟩
    · cases h
      refine pLast [.b false] rfl ?_
      exact ⟨h6, trivial⟩
theorem w_impl_ValidRoof {n : Nat} {a0 : Int} {a1 : Int} {a2 : Int} {a3 : Nat → Int} {z0 : Bool} (h : s_impl_ValidRoof n a0 a1 a2 a3 = some z0) : ∀ k, n + 2 ≤ k → sem E k 49 [(V.parts [(V.int .i8 (a0)), (V.int .i8 (a1)), (V.int .u8 (a2)), (V.ints .u8 64 (a3))])] = some (V.bool (z0)) := by
  intro k hk
  obtain ⟨k, rfl⟩ : ∃ q, k = q + 1 := ⟨k - 1, by omega⟩
  unfold s_impl_ValidRoof at h
  obtain ⟨y1_0, q1, h⟩ := bnd_some h
  rcases cnd_some h with ⟨h2, h⟩ | ⟨h2, h⟩
  · obtain ⟨y3_0, q3, h⟩ := bnd_some h
    rcases cnd_some h with ⟨h4, h⟩ | ⟨h4, h⟩
    · rcases cnd_some h with ⟨h5, h⟩ | ⟨h5, h⟩
      · simp only [Option.some.injEq, Prod.mk.injEq] at h
        obtain rfl := h
        refine pFun_sound [.v (V.bool (y1_0)), .b false, .v (V.bool (y3_0)), .b false, .b true] rfl ?_
        exact ⟨(w_impl_within_int8 q1 _ (by omega)), (not_f h2), (w_impl_within_int8 q3 _ (by omega)), (not_f h4), h5, trivial⟩
      · obtain ⟨w, l17, h⟩ := bnd_some h
        rcases w with ⟨⟩ | u18_0
        · simp only [Option.some.injEq, Prod.mk.injEq] at h
          obtain rfl := h
          refine pFun_sound [.v (V.bool (y1_0)), .b false, .v (V.bool (y3_0)), .b false, .b false, .l .normal ⟨[], []⟩] rfl ?_
          exact ⟨(w_impl_within_int8 q1 _ (by omega)), (not_f h2), (w_impl_within_int8 q3 _ (by omega)), (not_f h4), h5, (lw_impl_ValidRoof_b0 _ _ _ _ _ _ _ _ l17 k k (by omega) (by omega)), trivial⟩
        · simp only [Option.some.injEq, Prod.mk.injEq] at h
          obtain rfl := h
          refine pFun_sound [.v (V.bool (y1_0)), .b false, .v (V.bool (y3_0)), .b false, .b false, .l .ret ⟨[(2, (V.bool (u18_0)))], []⟩] rfl ?_
          exact ⟨(w_impl_within_int8 q1 _ (by omega)), (not_f h2), (w_impl_within_int8 q3 _ (by omega)), (not_f h4), h5, (lw_impl_ValidRoof_b0 _ _ _ _ _ _ _ _ l17 k k (by omega) (by omega)), trivial⟩
    · simp only [Option.some.injEq, Prod.mk.injEq] at h
      obtain rfl := h
      refine pFun_sound [.v (V.bool (y1_0)), .b false, .v (V.bool (y3_0)), .b true, .b true] rfl ?_
      exact ⟨(w_impl_within_int8 q1 _ (by omega)), (not_f h2), (w_impl_within_int8 q3 _ (by omega)), (not_t h4), rfl, trivial⟩
  · simp only [Option.some.injEq, Prod.mk.injEq] at h
    obtain rfl := h
    refine pFun_sound [.v (V.bool (y1_0)), .b true, .b true, .b true] rfl ?_
    exact ⟨(w_impl_within_int8 q1 _ (by omega)), (not_t h2), rfl, rfl, trivial⟩
theorem w_impl_within_int64 {n : Nat} {a0 : Int} {a1 : Int} {a2 : Int} {z0 : Bool} (h : s_impl_within_int64 n a0 a1 a2 = some z0) : ∀ k, n + 1 ≤ k → sem E k 59 [(V.int .i64 (a0)), (V.int .i64 (a1)), (V.int .i64 (a2))] = some (V.bool (z0)) := by
  intro k hk
  obtain ⟨k, rfl⟩ : ∃ q, k = q + 1 := ⟨k - 1, by omega⟩
  unfold s_impl_within_int64 at h
  rcases cnd_some h with ⟨h1, h⟩ | ⟨h1, h⟩
  · simp only [Option.some.injEq, Prod.mk.injEq] at h
    obtain rfl := h
    refine pFun_sound [.b true] rfl ?_
    exact ⟨h1, trivial⟩
  · simp only [Option.some.injEq, Prod.mk.injEq] at h
    obtain rfl := h
    refine pFun_sound [.b false] rfl ?_
    exact ⟨h1, trivial⟩
theorem w_impl_isAmount_int16 {n : Nat} {a0 : Int} {z0 : Bool} (h : s_impl_isAmount_int16 n a0 = some z0) : ∀ k, n + 2 ≤ k → sem E k 50 [(V.int .i16 (a0))] = some (V.bool (z0)) := by
  intro k hk
  obtain ⟨k, rfl⟩ : ∃ q, k = q + 1 := ⟨k - 1, by omega⟩
  unfold s_impl_isAmount_int16 at h
  obtain ⟨y1_0, q1, h⟩ := bnd_some h
  simp only [Option.some.injEq, Prod.mk.injEq] at h
  obtain rfl := h
  refine pFun_sound [.v (V.bool (y1_0))] rfl ?_
  exact ⟨(w_impl_within_int64 q1 _ (by omega)), trivial⟩
theorem w_impl_Roof_cells {n : Nat} {a0 : Int} {a1 : Int} {a2 : Int} {a3 : Nat → Int} {z0 : Int} (h : s_impl_Roof_cells n a0 a1 a2 a3 = some z0) : ∀ k, n + 1 ≤ k → sem E k 51 [(V.parts [(V.int .i8 (a0)), (V.int .i8 (a1)), (V.int .u8 (a2)), (V.ints .u8 64 (a3))])] = some (V.int .i64 (z0)) := by
  intro k hk
  obtain ⟨k, rfl⟩ : ∃ q, k = q + 1 := ⟨k - 1, by omega⟩
  unfold s_impl_Roof_cells at h
  simp only [Option.some.injEq, Prod.mk.injEq] at h
  obtain rfl := h
  refine pFun_sound [] rfl ?_
  exact trivial
theorem lw_impl_ValidRain_b0 : ∀ (n : Nat) (a0 : Nat → Int) (a1 : Int) (a2 : Int) (a3 : Int) (a4 : Int) (a5 : Nat → Int) (r : Sum (Unit) (Bool)), l_impl_ValidRain_b0 n a0 a1 a2 a3 a4 a5 = some r → ∀ k m, n + 2 ≤ k → n ≤ m → LB E 18 0 k m ⟨[(2, (V.ptr 5 0 (0) 67)), (10, (V.ints .i16 17 (a0))), (11, (V.int .i64 (a1)))], [(5, .box [(V.int .i8 (a2)), (V.int .i8 (a3)), (V.int .u8 (a4)), (V.ints .u8 64 (a5))])]⟩ = some (match r with | .inl _ => (.normal, ⟨[], []⟩) | .inr o0 => (.ret, ⟨[(4, (V.bool (o0)))], []⟩)) := by
  intro n
  induction n with
  | zero => intro a0 a1 a2 a3 a4 a5 r h; cases h
  | succ n ih =>
    intro a0 a1 a2 a3 a4 a5 r h k m hk hm
    obtain ⟨m, rfl⟩ : ∃ q, m = q + 1 := ⟨m - 1, by omega⟩
    replace hk : n + 2 ≤ k := by omega
    unfold l_impl_ValidRain_b0 at h
    rcases cnd_some h with ⟨h3, h⟩ | ⟨h3, h⟩
    · obtain ⟨c4, h⟩ := chk_some h
      obtain ⟨y5_0, q5, h⟩ := bnd_some h
      rcases cnd_some h with ⟨h6, h⟩ | ⟨h6, h⟩
      · rcases cnd_some h with ⟨h7, h⟩ | ⟨h7, h⟩
        · refine pNext [.b true, .v (V.bool (y5_0)), .b false, .b false, .b false] rfl ?_ (ih _ _ _ _ _ _ _ h k m hk (by omega))
          exact ⟨h3, c4, (w_impl_isAmount_int16 q5 _ (by omega)), (not_f h6), (not_f h7), rfl, trivial⟩
        · obtain ⟨y8_0, q8, h⟩ := bnd_some h
          rcases cnd_some h with ⟨h9, h⟩ | ⟨h9, h⟩
          · cases h
            refine pLast [.b true, .v (V.bool (y5_0)), .b false, .b true, .v (V.int .i64 (y8_0)), .b true] rfl ?_
            exact ⟨h3, c4, (w_impl_isAmount_int16 q5 _ (by omega)), (not_f h6), (not_t h7), (w_impl_Roof_cells q8 _ (by omega)), h9, trivial⟩
          · refine pNext [.b true, .v (V.bool (y5_0)), .b false, .b true, .v (V.int .i64 (y8_0)), .b false] rfl ?_ (ih _ _ _ _ _ _ _ h k m hk (by omega))
            exact ⟨h3, c4, (w_impl_isAmount_int16 q5 _ (by omega)), (not_f h6), (not_t h7), (w_impl_Roof_cells q8 _ (by omega)), h9, trivial⟩
      · cases h
        refine pLast [.b true, .v (V.bool (y5_0)), .b true, .b true] rfl ?_
        exact ⟨h3, c4, (w_impl_isAmount_int16 q5 _ (by omega)), (not_t h6), rfl, trivial⟩
    · cases h
      refine pLast [.b false] rfl ?_
      exact ⟨h3, trivial⟩
theorem w_impl_ValidRain {n : Nat} {a0 : Int} {a1 : Int} {a2 : Int} {a3 : Nat → Int} {a4 : Nat → Int} {z0 : Bool} (h : s_impl_ValidRain n a0 a1 a2 a3 a4 = some z0) : ∀ k, n + 3 ≤ k → sem E k 18 [(V.parts [(V.int .i8 (a0)), (V.int .i8 (a1)), (V.int .u8 (a2)), (V.ints .u8 64 (a3))]), (V.ints .i16 17 (a4))] = some (V.bool (z0)) := by
  intro k hk
  obtain ⟨k, rfl⟩ : ∃ q, k = q + 1 := ⟨k - 1, by omega⟩
  unfold s_impl_ValidRain at h
  obtain ⟨y1_0, q1, h⟩ := bnd_some h
  rcases cnd_some h with ⟨h2, h⟩ | ⟨h2, h⟩
  · obtain ⟨w, l10, h⟩ := bnd_some h
    rcases w with ⟨⟩ | u11_0
    · simp only [Option.some.injEq, Prod.mk.injEq] at h
      obtain rfl := h
      refine pFun_sound [.v (V.bool (y1_0)), .b false, .l .normal ⟨[], []⟩] rfl ?_
      exact ⟨(w_impl_ValidRoof q1 _ (by omega)), (not_f h2), (lw_impl_ValidRain_b0 _ _ _ _ _ _ _ _ l10 k k (by omega) (by omega)), trivial⟩
    · simp only [Option.some.injEq, Prod.mk.injEq] at h
      obtain rfl := h
      refine pFun_sound [.v (V.bool (y1_0)), .b false, .l .ret ⟨[(4, (V.bool (u11_0)))], []⟩] rfl ?_
      exact ⟨(w_impl_ValidRoof q1 _ (by omega)), (not_f h2), (lw_impl_ValidRain_b0 _ _ _ _ _ _ _ _ l10 k k (by omega) (by omega)), trivial⟩
  · simp only [Option.some.injEq, Prod.mk.injEq] at h
    obtain rfl := h
    refine pFun_sound [.v (V.bool (y1_0)), .b true] rfl ?_
    exact ⟨(w_impl_ValidRoof q1 _ (by omega)), (not_t h2), trivial⟩
theorem lw_impl_sum_int16_b0 : ∀ (n : Nat) (a0 : Int) (a1 : List V) (a2 : Int) (a3 : Int) (r : Int), l_impl_sum_int16_b0 n a0 a1 a2 a3 = some r → ∀ k m, n + 0 ≤ k → n ≤ m → LB E 61 0 k m ⟨[(3, (V.int .i64 (a0))), (6, (V.sl (a1))), (7, (V.int .i64 (a2))), (8, (V.int .i64 (a3)))], []⟩ = some (match r with | o0 => (.normal, ⟨[(3, (V.int .i64 (o0)))], []⟩)) := by
  intro n
  induction n with
  | zero => intro a0 a1 a2 a3 r h; cases h
  | succ n ih =>
    intro a0 a1 a2 a3 r h k m hk hm
    obtain ⟨m, rfl⟩ : ∃ q, m = q + 1 := ⟨m - 1, by omega⟩
    replace hk : n + 0 ≤ k := by omega
    unfold l_impl_sum_int16_b0 at h
    rcases cnd_some h with ⟨h1, h⟩ | ⟨h1, h⟩
    · obtain ⟨e2_0, g2, h⟩ := bnd_some h
      replace g2 := as_i16_some g2
      refine pNext [.b true, .v (V.int .i16 (e2_0))] rfl ?_ (ih _ _ _ _ _ h k m hk (by omega))
      exact ⟨h1, g2, trivial⟩
    · cases h
      refine pLast [.b false] rfl ?_
      exact ⟨h1, trivial⟩
theorem w_impl_sum_int16 {n : Nat} {a0 : List V} {z0 : Int} (h : s_impl_sum_int16 n a0 = some z0) : ∀ k, n + 1 ≤ k → sem E k 61 [(V.sl (a0))] = some (V.int .i64 (z0)) := by
  intro k hk
  obtain ⟨k, rfl⟩ : ∃ q, k = q + 1 := ⟨k - 1, by omega⟩
  unfold s_impl_sum_int16 at h
  obtain ⟨u3_0, l3, h⟩ := bnd_some h
  simp only [Option.some.injEq, Prod.mk.injEq] at h
  obtain rfl := h
  refine pFun_sound [.l .normal ⟨[(3, (V.int .i64 (u3_0)))], []⟩] rfl ?_
  exact ⟨(lw_impl_sum_int16_b0 _ _ _ _ _ _ l3 k k (by omega) (by omega)), trivial⟩
theorem w_impl_RainSum {n : Nat} {a0 : Int} {a1 : Int} {a2 : Int} {a3 : Nat → Int} {a4 : Nat → Int} {z0 : Int} {z1 : Int} (h : s_impl_RainSum n a0 a1 a2 a3 a4 = some (z0, z1)) : ∀ k, n + 4 ≤ k → sem E k 22 [(V.parts [(V.int .i8 (a0)), (V.int .i8 (a1)), (V.int .u8 (a2)), (V.ints .u8 64 (a3))]), (V.ints .i16 17 (a4))] = some (V.tup [(V.int .i64 (z0)), (V.int .i64 (z1))]) := by
  intro k hk
  obtain ⟨k, rfl⟩ : ∃ q, k = q + 1 := ⟨k - 1, by omega⟩
  unfold s_impl_RainSum at h
  obtain ⟨y1_0, q1, h⟩ := bnd_some h
  rcases cnd_some h with ⟨h2, h⟩ | ⟨h2, h⟩
  · obtain ⟨y3_0, q3, h⟩ := bnd_some h
    simp only [Option.some.injEq, Prod.mk.injEq] at h
    obtain ⟨rfl, rfl⟩ := h
    refine pFun_sound [.v (V.bool (y1_0)), .b false, .v (V.int .i64 (y3_0))] rfl ?_
    exact ⟨(w_impl_ValidRain q1 _ (by omega)), (not_f h2), (w_impl_sum_int16 q3 _ (by omega)), trivial⟩
  · simp only [Option.some.injEq, Prod.mk.injEq] at h
    obtain ⟨rfl, rfl⟩ := h
    refine pFun_sound [.v (V.bool (y1_0)), .b true] rfl ?_
    exact ⟨(w_impl_ValidRain q1 _ (by omega)), (not_t h2), trivial⟩
theorem w_laws_FnExactRainSum {n : Nat} {a0 : Int} {a1 : Int} {a2 : Int} {a3 : Nat → Int} {a4 : Nat → Int} {z0 : Bool} (h : s_laws_FnExactRainSum n a0 a1 a2 a3 a4 = some z0) : ∀ k, n + 6 ≤ k → sem E k 5 [(V.parts [(V.int .i8 (a0)), (V.int .i8 (a1)), (V.int .u8 (a2)), (V.ints .u8 64 (a3))]), (V.ints .i16 17 (a4))] = some (V.bool (z0)) := by
  intro k hk
  obtain ⟨k, rfl⟩ : ∃ q, k = q + 1 := ⟨k - 1, by omega⟩
  unfold s_laws_FnExactRainSum at h
  obtain ⟨⟨y1_0, y1_1, y1_2, y1_3⟩, q1, h⟩ := bnd_some h
  obtain ⟨y2_0, q2, h⟩ := bnd_some h
  obtain ⟨⟨y3_0, y3_1⟩, q3, h⟩ := bnd_some h
  obtain ⟨⟨y4_0, y4_1, y4_2, y4_3⟩, q4, h⟩ := bnd_some h
  obtain ⟨y5_0, q5, h⟩ := bnd_some h
  obtain ⟨⟨y6_0, y6_1⟩, q6, h⟩ := bnd_some h
  rcases cnd_some h with ⟨h7, h⟩ | ⟨h7, h⟩
  · rcases cnd_some h with ⟨h8, h⟩ | ⟨h8, h⟩
    · simp only [Option.some.injEq, Prod.mk.injEq] at h
      obtain rfl := h
      refine pFun_sound [.v (V.parts [(V.int .i8 (y1_0)), (V.int .i8 (y1_1)), (V.int .u8 (y1_2)), (V.ints .u8 64 (y1_3))]), .v (V.ints .i16 17 (y2_0)), .v (V.tup [(V.int .i64 (y3_0)), (V.int .i64 (y3_1))]), .v (V.parts [(V.int .i8 (y4_0)), (V.int .i8 (y4_1)), (V.int .u8 (y4_2)), (V.ints .u8 64 (y4_3))]), .v (V.ints .i16 17 (y5_0)), .v (V.tup [(V.int .i64 (y6_0)), (V.int .i64 (y6_1))]), .b false, .b false] rfl ?_
      exact ⟨(w_laws_toRoof q1 _ (by omega)), (w_laws_toRain q2 _ (by omega)), (w_spec_RainSum q3 _ (by omega)), (w_laws_toRoof q4 _ (by omega)), (w_laws_toRain q5 _ (by omega)), (w_impl_RainSum q6 _ (by omega)), (not_f h7), (not_f h8), trivial⟩
    · simp only [Option.some.injEq, Prod.mk.injEq] at h
      obtain rfl := h
      refine pFun_sound [.v (V.parts [(V.int .i8 (y1_0)), (V.int .i8 (y1_1)), (V.int .u8 (y1_2)), (V.ints .u8 64 (y1_3))]), .v (V.ints .i16 17 (y2_0)), .v (V.tup [(V.int .i64 (y3_0)), (V.int .i64 (y3_1))]), .v (V.parts [(V.int .i8 (y4_0)), (V.int .i8 (y4_1)), (V.int .u8 (y4_2)), (V.ints .u8 64 (y4_3))]), .v (V.ints .i16 17 (y5_0)), .v (V.tup [(V.int .i64 (y6_0)), (V.int .i64 (y6_1))]), .b false, .b true] rfl ?_
      exact ⟨(w_laws_toRoof q1 _ (by omega)), (w_laws_toRain q2 _ (by omega)), (w_spec_RainSum q3 _ (by omega)), (w_laws_toRoof q4 _ (by omega)), (w_laws_toRain q5 _ (by omega)), (w_impl_RainSum q6 _ (by omega)), (not_f h7), (not_t h8), trivial⟩
  · simp only [Option.some.injEq, Prod.mk.injEq] at h
    obtain rfl := h
    refine pFun_sound [.v (V.parts [(V.int .i8 (y1_0)), (V.int .i8 (y1_1)), (V.int .u8 (y1_2)), (V.ints .u8 64 (y1_3))]), .v (V.ints .i16 17 (y2_0)), .v (V.tup [(V.int .i64 (y3_0)), (V.int .i64 (y3_1))]), .v (V.parts [(V.int .i8 (y4_0)), (V.int .i8 (y4_1)), (V.int .u8 (y4_2)), (V.ints .u8 64 (y4_3))]), .v (V.ints .i16 17 (y5_0)), .v (V.tup [(V.int .i64 (y6_0)), (V.int .i64 (y6_1))]), .b true, .b true] rfl ?_
    exact ⟨(w_laws_toRoof q1 _ (by omega)), (w_laws_toRain q2 _ (by omega)), (w_spec_RainSum q3 _ (by omega)), (w_laws_toRoof q4 _ (by omega)), (w_laws_toRain q5 _ (by omega)), (w_impl_RainSum q6 _ (by omega)), (not_t h7), rfl, trivial⟩
end Go.Proofs.Ytbiolgckmfjfoaa
