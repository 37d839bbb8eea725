/- One word of a text, as impl.ReadPieces's loop takes it: the abstract interpreter's word on the loop's body, read back. -/
import Derived.Test.YthdnamhilcjnhaaGreatDoorMc
import Derived.Test.YthdnamhilcjnhaaGreatDoorRg0
import Derived.Test.YthdnamhilcjnhaaGreatDoorMb
namespace Go.Proofs.YthdnamhilcjnhaaGreatDoor
open Go Go.RowKit Go.Shelf
set_option maxRecDepth 100000
set_option linter.unusedVariables false
set_option linter.unusedSimpArgs false
def rfBody : Code → Code
 | .seq x y => match rfBody x with
  | .skip => rfBody y
  | c => c
 | .block _ b => rfBody b
 | .rangeFunc _ _ _ b => b
 | _ => .skip
noncomputable def body5 : Code := match Tryz.f6.body with
 | some c => rfBody c
 | none => .skip
def F5 : FnI := ⟨[(2, [45]), (3, [])], [], 44, false, none, false, none, false, none, false, false, none⟩
def st5 (x : ByteArray) (xs : List V) : St := ⟨[(2, .ptr 4 0 0 1), (3, .ptr 6 0 0 1), (4, .ptr 8 0 0 1), (5, .str x)], [(4, .box [.nils]), (6, .box [.int .i64 0]), (8, .box [.row 1]), (1, .row 45 xs)]⟩
noncomputable def pB (k : Nat) (x : ByteArray) (xs : List V) (cs : List Ch) := pEx E2 F5 k (sem E2 k) body5 0 (st5 x xs) cs
def exq (r : Option ((Ex × St) × List Ch × List Ob)) : Ex × St := match r with
 | some (r, _, _) => r
 | _ => (.normal, ⟨[], []⟩)
def OwesX (r : Option ((Ex × St) × List Ch × List Ob)) : Prop := match r with
 | some (_, [], os) => Owes os
 | _ => False
theorem fl5 : flat [2, 3, 4] body5 = true := by kernel_rfl
theorem pB_by {k : Nat} {x : ByteArray} {xs : List V} (cs : List Ch) {R : Prop} (r : R) (h : OwesX (pB k x xs cs) = R) : ex E2 F5 k (sem E2 k) body5 0 (st5 x xs) = some (exq (pB k x xs cs)) := by
 have h1 : OwesX (pB k x xs cs) := by rw [h]; exact r
 unfold OwesX at h1
 split at h1
 ·rename_i q os he
  rw [he]
  exact pEx_sound (E := E2) body5 he h1
 ·exact h1.elim
def pWide (b : Int) : Int := IntKind.i8.wrap (IntKind.i8.wrap (IntKind.u8.wrap (BitVec.ofInt IntKind.u8.bits b &&& BitVec.ofInt IntKind.u8.bits 127).toNat) - 48)
noncomputable def wayA (k : Nat) (x : ByteArray) (xs : List V) := exq (pB k x xs [.b true, .b true])
noncomputable def wayB (k : Nat) (x : ByteArray) (xs : List V) := exq (pB k x xs [.b false, .b true])
noncomputable def wayC (k : Nat) (x : ByteArray) (xs : List V) (u : Int) := exq (pB k x xs [.b false, .b false, .v (.int .i64 u), .v (.bool false), .b true, .b true])
noncomputable def wayD (k : Nat) (x : ByteArray) (xs : List V) (u : Int) (t : ByteArray) := exq (pB k x xs [.b false, .b false, .v (.int .i64 u), .v (.bool true), .b false, .v (.str t), .b true])
noncomputable def wayE (k : Nat) (x : ByteArray) (xs : List V) (u : Int) (t : ByteArray) := exq (pB k x xs [.b false, .b false, .v (.int .i64 u), .v (.bool true), .b false, .v (.str t), .b false])
section
variable {k : Nat} {x : ByteArray} {xs : List V} {u : Int} {t : ByteArray}
theorem exA (h : (!decide ((x.size : Int) = 2)) = true) : ex E2 F5 k (sem E2 k) body5 0 (st5 x xs) = some (wayA k x xs) :=
 pB_by _ (And.intro h (And.intro (rfl : true = true) trivial)) (by kernel_rfl)
theorem exB (h : (!decide ((x.size : Int) = 2)) = false) (h2 : decide ((xs.length : Int) = 30) = true) : ex E2 F5 k (sem E2 k) body5 0 (st5 x xs) = some (wayB k x xs) :=
 pB_by _ (And.intro h (And.intro h2 trivial)) (by kernel_rfl)
theorem exC (h : (!decide ((x.size : Int) = 2)) = false) (h2 : decide ((xs.length : Int) = 30) = false) (h3 : inB 0 x.size = true) (h4 : sem E2 k 24 [.str ⟨#[108, 114, 109]⟩, .int .u8 (strAt x 0)] = some (.int .i64 u)) (h5 : inB 1 x.size = true)
 (h6 : sem E2 k 25 [.parts [.int .i8 (IntKind.i8.wrap u), .int .i8 (pWide (strAt x 1))]] = some (.bool false)) : ex E2 F5 k (sem E2 k) body5 0 (st5 x xs) = some (wayC k x xs u) :=
 pB_by _ (And.intro h (And.intro h2 (And.intro h3 (And.intro h4 (And.intro h5 (And.intro h6 (And.intro (rfl : (!false) = true) (And.intro (rfl : true = true) trivial)))))))) (by kernel_rfl)
theorem exD (h : (!decide ((x.size : Int) = 2)) = false) (h2 : decide ((xs.length : Int) = 30) = false) (h3 : inB 0 x.size = true) (h4 : sem E2 k 24 [.str ⟨#[108, 114, 109]⟩, .int .u8 (strAt x 0)] = some (.int .i64 u)) (h5 : inB 1 x.size = true)
 (h6 : sem E2 k 25 [.parts [.int .i8 (IntKind.i8.wrap u), .int .i8 (pWide (strAt x 1))]] = some (.bool true)) (h7 : sem E2 k 26 [.parts [.int .i8 (IntKind.i8.wrap u), .int .i8 (pWide (strAt x 1))]] = some (.str t))
 (h8 : (!(t.toList == x.toList)) = true) : ex E2 F5 k (sem E2 k) body5 0 (st5 x xs) = some (wayD k x xs u t) :=
 pB_by _ (And.intro h (And.intro h2 (And.intro h3 (And.intro h4 (And.intro h5 (And.intro h6 (And.intro (rfl : (!true) = false) (And.intro h7 (And.intro h8 trivial))))))))) (by kernel_rfl)
theorem exE (h : (!decide ((x.size : Int) = 2)) = false) (h2 : decide ((xs.length : Int) = 30) = false) (h3 : inB 0 x.size = true) (h4 : sem E2 k 24 [.str ⟨#[108, 114, 109]⟩, .int .u8 (strAt x 0)] = some (.int .i64 u)) (h5 : inB 1 x.size = true)
 (h6 : sem E2 k 25 [.parts [.int .i8 (IntKind.i8.wrap u), .int .i8 (pWide (strAt x 1))]] = some (.bool true)) (h7 : sem E2 k 26 [.parts [.int .i8 (IntKind.i8.wrap u), .int .i8 (pWide (strAt x 1))]] = some (.str t))
 (h8 : (!(t.toList == x.toList)) = false) (h9 : decide ((xs.length + [V.parts [.int .i8 (IntKind.i8.wrap u), .int .i8 (pWide (strAt x 1))]].length) * 2 ≤ 140737488355328) = true) : ex E2 F5 k (sem E2 k) body5 0 (st5 x xs) = some (wayE k x xs u t) :=
 pB_by _ (And.intro h (And.intro h2 (And.intro h3 (And.intro h4 (And.intro h5 (And.intro h6 (And.intro (rfl : (!true) = false) (And.intro h7 (And.intro h8 (And.intro h9 (And.intro (rfl : true = true) trivial))))))))))) (by kernel_rfl)
def Leaves (r : Ex × St) : Prop := r.1 = .ret ∧ r.2.get 2 = .ptr 5 0 0 1 ∧ r.2.get 3 = .ptr 7 0 0 1 ∧ r.2.ent 5 = .box [.row 5005] ∧ r.2.ent 7 = .box [.int .i64 5] ∧ r.2.ent 5005 = .row 45 []
theorem leavesA : Leaves (wayA k x xs) := ⟨by kernel_rfl, by kernel_rfl, by kernel_rfl, by kernel_rfl, by kernel_rfl, by kernel_rfl⟩
theorem leavesB : Leaves (wayB k x xs) := ⟨by kernel_rfl, by kernel_rfl, by kernel_rfl, by kernel_rfl, by kernel_rfl, by kernel_rfl⟩
theorem leavesC : Leaves (wayC k x xs u) := ⟨by kernel_rfl, by kernel_rfl, by kernel_rfl, by kernel_rfl, by kernel_rfl, by kernel_rfl⟩
theorem leavesD : Leaves (wayD k x xs u t) := ⟨by kernel_rfl, by kernel_rfl, by kernel_rfl, by kernel_rfl, by kernel_rfl, by kernel_rfl⟩
theorem goesE : (wayE k x xs u t).1 = .normal ∧ (wayE k x xs u t).2.get 2 = .ptr 4 0 0 1 ∧ (wayE k x xs u t).2.get 3 = .ptr 6 0 0 1 ∧ (wayE k x xs u t).2.get 4 = .ptr 8 0 0 1 ∧ (wayE k x xs u t).2.ent 4 = .box [.nils] ∧ (wayE k x xs u t).2.ent 6 = .box [.int .i64 0] ∧ (wayE k x xs u t).2.ent 8 = .box [.row 84] ∧
 (wayE k x xs u t).2.ent 84 = .row 45 (xs ++ [.parts [.int .i8 (IntKind.i8.wrap u), .int .i8 (pWide (strAt x 1))]]) :=
 ⟨by kernel_rfl, by kernel_rfl, by kernel_rfl, by kernel_rfl, by kernel_rfl, by kernel_rfl, by kernel_rfl, by kernel_rfl⟩
end
end Go.Proofs.YthdnamhilcjnhaaGreatDoor
namespace Go.Proofs.YthdnamhilcjnhaaGreatDoor
open Go Go.RowKit Go.Shelf
set_option maxRecDepth 100000
set_option linter.unusedVariables false
set_option linter.unusedSimpArgs false
def Box1 (W : World) (B : Nat) (v : Value) : Prop := ∃ t, Boxed W B t v
def Box1' (W : World) (B : Nat) (us : List Value) : Prop := ∃ t, W.heap[B]? = some (.cells us.toArray t (0, 0))
structure LpS (X : Nat → Prop) (A0 A1 A2 : Nat) (acc : List (Int × Int)) (W : World) : Prop where
 b0 : Box1 W A0 (.slice none 0 0)
 b1 : Box1 W A1 (.int .i64 0)
 row : ∃ v, Box1 W A2 v ∧ W.ownsRow 0 45 2 v acc.length (cellsP acc) ∧ ∀ b, blk v = some b → ¬ X b ∧ b ≠ A0 ∧ b ≠ A1 ∧ b ≠ A2
structure LpX (X : Nat → Prop) (A0 A1 : Nat) (W : World) : Prop where
 b0 : ∃ v, Box1 W A0 v ∧ W.ownsRow 0 45 2 v 0 [] ∧ ∀ b, blk v = some b → ¬ X b
 b1 : Box1 W A1 (.int .i64 5)
def sg5 (A0 A1 A2 : Nat) (v : Value) : Sg := ⟨fun i => if i = 4 then .pointer (some ⟨A0, 0, none⟩) else if i = 6 then .pointer (some ⟨A1, 0, none⟩) else if i = 8 then .pointer (some ⟨A2, 0, none⟩) else if i = 1 then v else undef, fun _ => False⟩
def keep5 (W : World) (A0 A1 A2 : Nat) (v : Value) (b : Nat) : Prop := b < W.heap.size ∧ b ≠ A0 ∧ b ≠ A1 ∧ b ≠ A2 ∧ blk v ≠ some b
theorem ent5 (x : ByteArray) (xs : List V) (i : Nat) : (st5 x xs).ent i = if i = 4 then .box [.nils] else if i = 6 then .box [.int .i64 0] else if i = 8 then .box [.row 1] else if i = 1 then .row 45 xs else .none := by
 simp only [St.ent, st5, find]
 by_cases h4 : i = 4
 ·subst h4; rfl
 ·rw [if_neg h4, show Nat.beq 4 i = false from by cases hb : Nat.beq 4 i with | false => rfl | true => exact absurd (Nat.eq_of_beq_eq_true hb).symm h4]
  by_cases h6 : i = 6
  ·subst h6; rfl
  ·rw [if_neg h6, show Nat.beq 6 i = false from by cases hb : Nat.beq 6 i with | false => rfl | true => exact absurd (Nat.eq_of_beq_eq_true hb).symm h6]
   by_cases h8 : i = 8
   ·subst h8; rfl
   ·rw [if_neg h8, show Nat.beq 8 i = false from by cases hb : Nat.beq 8 i with | false => rfl | true => exact absurd (Nat.eq_of_beq_eq_true hb).symm h8]
    by_cases h1 : i = 1
    ·subst h1; rfl
    ·rw [if_neg h1, show Nat.beq 1 i = false from by cases hb : Nat.beq 1 i with | false => rfl | true => exact absurd (Nat.eq_of_beq_eq_true hb).symm h1]
theorem get5 (x : ByteArray) (xs : List V) (i : Nat) : (st5 x xs).get i = if i = 2 then .ptr 4 0 0 1 else if i = 3 then .ptr 6 0 0 1 else if i = 4 then .ptr 8 0 0 1 else if i = 5 then .str x else .dead := by
 simp only [St.get, st5, find]
 by_cases h4 : i = 2
 ·subst h4; rfl
 ·rw [if_neg h4, show Nat.beq 2 i = false from by cases hb : Nat.beq 2 i with | false => rfl | true => exact absurd (Nat.eq_of_beq_eq_true hb).symm h4]
  by_cases h6 : i = 3
  ·subst h6; rfl
  ·rw [if_neg h6, show Nat.beq 3 i = false from by cases hb : Nat.beq 3 i with | false => rfl | true => exact absurd (Nat.eq_of_beq_eq_true hb).symm h6]
   by_cases h8 : i = 4
   ·subst h8; rfl
   ·rw [if_neg h8, show Nat.beq 4 i = false from by cases hb : Nat.beq 4 i with | false => rfl | true => exact absurd (Nat.eq_of_beq_eq_true hb).symm h8]
    by_cases h1 : i = 5
    ·subst h1; rfl
    ·rw [if_neg h1, show Nat.beq 5 i = false from by cases hb : Nat.beq 5 i with | false => rfl | true => exact absurd (Nat.eq_of_beq_eq_true hb).symm h1]
theorem RRow_pcs {ent : Nat → Ent} {σ : Sg} {w : World} : ∀ (acc : List (Int × Int)), RRow ent σ w 2 (acc.map pcV) (cellsP acc)
 | [] => rfl
 | p :: acc => by
  refine ⟨[.int .i8 p.1, .int .i8 p.2], cellsP acc, rfl, rfl, ?_, RRow_pcs acc⟩
  simp only [pcV, RF, RFL]
  exact ⟨[_], [_], rfl, rfl, rfl, [_], [], rfl, rfl, rfl, rfl⟩
theorem RRow_pcsi {ent : Nat → Ent} {σ : Sg} {w : World} : ∀ (acc : List (Int × Int)) (cells : List Value), RRow ent σ w 2 (acc.map pcV) cells → cells = cellsP acc
 | [], cells, h => h
 | p :: acc, cells, h => by
  obtain ⟨a, b, rfl, _, h1, h2⟩ := h
  rw [RRow_pcsi acc b h2]
  simp only [pcV, RF, RFL] at h1
  obtain ⟨x, y, rfl, _, rfl, z, t, rfl, _, rfl, rfl⟩ := h1
  rfl
theorem RO1_ptr {ent : Nat → Ent} {σ : Sg} {w : World} {id A : Nat} {v : V} (he : ent id = .box [v]) (hv : vsize1 v = 1) (hs : σ id = .pointer (some ⟨A, 0, none⟩)) : RT E2 ent σ w (.ptr id 0 0 1) (.pointer (some ⟨A, 0, none⟩)) := by
 refine ⟨rfl, _, rfl, rfl, by rw [he]; simp, fun ps hps => ?_⟩
 rw [he] at hps
 cases hps
 exact ⟨A, hs, rfl, .inl ⟨v, rfl, by simp [hv]⟩⟩
theorem RO1_ptr_inv {ent : Nat → Ent} {σ : Sg} {w : World} {id A : Nat} {v : V} (he : ent id = .box [v]) (h : RT E2 ent σ w (.ptr id 0 0 1) (.pointer (some ⟨A, 0, none⟩))) : σ id = .pointer (some ⟨A, 0, none⟩) := by
 obtain ⟨_, h⟩ := h
 simp only [RO1] at h
 obtain ⟨u, h1, h2, h3, h4⟩ := h
 obtain ⟨b, hb, hu, _⟩ := h4 _ he
 simp only [List.cons.injEq, and_true] at h1
 rw [hu] at h1
 simp [startOf] at h1
 rw [hb, h1]
theorem inv5 {x : ByteArray} {acc : List (Int × Int)} {W : World} {a : Act} {A0 A1 A2 : Nat} {v : Value} (hs : a.tmps.size = 44) (hdf : a.defers = [])
 (h2 : a.tmps.getD 2 undef = .pointer (some ⟨A0, 0, none⟩)) (h3 : a.tmps.getD 3 undef = .pointer (some ⟨A1, 0, none⟩)) (h4 : a.tmps.getD 4 undef = .pointer (some ⟨A2, 0, none⟩)) (h5 : a.tmps.getD 5 undef = .string x)
 (hd : A0 ≠ A1 ∧ A0 ≠ A2 ∧ A1 ≠ A2) (b0 : Box1 W A0 (.slice none 0 0)) (b1 : Box1 W A1 (.int .i64 0)) (b2 : Box1 W A2 v) (hrow : W.ownsRow 0 45 2 v acc.length (cellsP acc)) (hb : ∀ b, blk v = some b → b ≠ A0 ∧ b ≠ A1 ∧ b ≠ A2) :
 Inv E2 (keep5 W A0 A1 A2 v) W (fun _ => False) 44 none (st5 x (acc.map pcV)) (sg5 A0 A1 A2 v) a W := by
 obtain ⟨A, cap, rfl⟩ := ownsRow_slice hrow
 have hsz : E2.sz 45 = 2 := by kernel_rfl
 refine ⟨⟨Kept.refl _ _, fun b h => h.1, fun id => ?_, fun id b _ _ h => h, fun b h => h.elim, ?_⟩, fun t => ?_, hs, hdf, rfl, fun u h => by cases h⟩
 ·unfold EntR
  rw [ent5]
  by_cases e4 : id = 4
  ·subst e4
   obtain ⟨t, h⟩ := b0
   exact ⟨A0, _, t, rfl, fun h => h.2.1 rfl, h, by simp only [ROL]; exact ⟨[_], [], rfl, by simp [RO1, RF], rfl⟩⟩
  ·by_cases e6 : id = 6
   ·subst e6
    obtain ⟨t, h⟩ := b1
    exact ⟨A1, _, t, rfl, fun h => h.2.2.1 rfl, h, by simp only [ROL]; exact ⟨[_], [], rfl, by simp [RO1, RF], rfl⟩⟩
   ·by_cases e8 : id = 8
    ·subst e8
     obtain ⟨t, h⟩ := b2
     refine ⟨A2, _, t, rfl, fun h => h.2.2.2.1 rfl, h, ?_⟩
     simp only [ROL]
     refine ⟨[_], [], rfl, ?_, rfl⟩
     simp only [RO1]
     exact ⟨_, rfl, rfl, by rw [ent5]; simp, fun e xs _ => rfl⟩
    ·by_cases e1 : id = 1
     ·subst e1
      refine ⟨cellsP acc, ?_, ?_, fun b h hk => hk.2.2.2.2 h⟩
      ·rw [hsz, List.length_map]; exact hrow
      ·rw [hsz]; exact RRow_pcs acc
     ·simp only [e4, e6, e8, e1, if_false]
 ·intro i j b hij hi hj hbi hbj
  rw [ent5] at hi hj
  have key : ∀ k b, blk (sg5 A0 A1 A2 (.slice A acc.length cap) k) = some b → (k = 4 ∧ b = A0) ∨ (k = 6 ∧ b = A1) ∨ (k = 8 ∧ b = A2) ∨ (k = 1 ∧ blk (.slice A acc.length cap) = some b) ∨ (k ≠ 4 ∧ k ≠ 6 ∧ k ≠ 8 ∧ k ≠ 1) := by
   intro k b h
   simp only [sg5] at h
   by_cases k4 : k = 4
   ·rw [if_pos k4] at h; exact .inl ⟨k4, by simpa [blk] using h.symm⟩
   ·rw [if_neg k4] at h
    by_cases k6 : k = 6
    ·rw [if_pos k6] at h; exact .inr (.inl ⟨k6, by simpa [blk] using h.symm⟩)
    ·rw [if_neg k6] at h
     by_cases k8 : k = 8
     ·rw [if_pos k8] at h; exact .inr (.inr (.inl ⟨k8, by simpa [blk] using h.symm⟩))
     ·rw [if_neg k8] at h
      by_cases k1 : k = 1
      ·rw [if_pos k1] at h; exact .inr (.inr (.inr (.inl ⟨k1, h⟩)))
      ·exact .inr (.inr (.inr (.inr ⟨k4, k6, k8, k1⟩)))
  have li : ∀ k, (if k = 4 then Ent.box [.nils] else if k = 6 then .box [.int .i64 0] else if k = 8 then .box [.row 1] else if k = 1 then .row 45 (acc.map pcV) else .none).live = true → k = 4 ∨ k = 6 ∨ k = 8 ∨ k = 1 := by
   intro k h
   by_cases k4 : k = 4
   ·exact .inl k4
   ·by_cases k6 : k = 6
    ·exact .inr (.inl k6)
    ·by_cases k8 : k = 8
     ·exact .inr (.inr (.inl k8))
     ·by_cases k1 : k = 1
      ·exact .inr (.inr (.inr k1))
      ·simp only [k4, k6, k8, k1, if_false, Ent.live] at h; cases h
  have ki := key i b hbi
  have kj := key j b hbj
  have di := li i hi
  have dj := li j hj
  have hv := hb b
  rcases ki with ⟨rfl, rfl⟩ | ⟨rfl, rfl⟩ | ⟨rfl, rfl⟩ | ⟨rfl, ki⟩ | ki
  all_goals rcases kj with ⟨rfl, e⟩ | ⟨rfl, e⟩ | ⟨rfl, e⟩ | ⟨rfl, kj⟩ | kj
  all_goals first
   | (exact absurd rfl hij)
   | (exact absurd e hd.1)
   | (exact absurd e hd.2.1)
   | (exact absurd e hd.2.2)
   | (exact absurd e.symm hd.1)
   | (exact absurd e.symm hd.2.1)
   | (exact absurd e.symm hd.2.2)
   | (exact absurd rfl (hv kj).1)
   | (exact absurd rfl (hv kj).2.1)
   | (exact absurd rfl (hv kj).2.2)
   | (exact absurd e (hv ki).1)
   | (exact absurd e (hv ki).2.1)
   | (exact absurd e (hv ki).2.2)
   | omega
 ·rw [get5]
  by_cases e2 : t = 2
  ·subst e2; rw [if_pos rfl, h2]
   exact RO1_ptr (by rw [ent5, if_pos rfl]) rfl rfl
  ·by_cases e3 : t = 3
   ·subst e3; rw [if_neg e2, if_pos rfl, h3]
    exact RO1_ptr (by rw [ent5]; rfl) rfl rfl
   ·by_cases e4 : t = 4
    ·subst e4; rw [if_neg e2, if_neg e3, if_pos rfl, h4]
     exact RO1_ptr (by rw [ent5]; rfl) rfl rfl
    ·by_cases e5 : t = 5
     ·subst e5; rw [if_neg e2, if_neg e3, if_neg e4, if_pos rfl, h5]
      exact ⟨rfl, by simp [RO1, RF]⟩
     ·rw [if_neg e2, if_neg e3, if_neg e4, if_neg e5]
      trivial
theorem box_inv {keep : Nat → Prop} {w0 W' : World} {no : Nat → Prop} {n : Nat} {st : St} {σ : Sg} {a : Act} {id A : Nat} {v : V} (hi : Inv E2 keep w0 no n none st σ a W') (he : st.ent id = .box [v]) (hs : σ id = .pointer (some ⟨A, 0, none⟩)) : ∃ us, Box1' W' A us ∧ ROL E2 st.ent σ W' [v] us := by
 have h := hi.hr.ents id
 unfold EntR at h
 rw [he] at h
 obtain ⟨b, cs, e, h1, h2, h3, h4⟩ := h
 rw [hs] at h1
 simp only [Value.pointer.injEq, Option.some.injEq, Addr.mk.injEq, and_true] at h1
 subst h1
 exact ⟨cs.toList, ⟨e, by rw [h3]⟩, h4⟩
theorem box_one {W : World} {B : Nat} {v : Value} (h : Box1' W B [v]) : Box1 W B v := h
theorem keep_kept {X : Nat → Prop} {W W' : World} {A0 A1 A2 : Nat} {v : Value} (hX : ¬ X A0 ∧ ¬ X A1 ∧ ¬ X A2) (hXlt : ∀ b, X b → b < W.heap.size) (hv : ∀ b, blk v = some b → ¬ X b) (hk : Kept (keep5 W A0 A1 A2 v) W W') : Kept X W W' :=
 hk.mono fun b hb => ⟨hXlt b hb, fun e => hX.1 (e ▸ hb), fun e => hX.2.1 (e ▸ hb), fun e => hX.2.2 (e ▸ hb), fun e => hv b e hb⟩
theorem keep_others {W W' : World} {A0 A1 A2 : Nat} {v0 v1 v : Value} {k : Nat} {xs : List Value} {e sz : Nat} (b0 : Box1 W A0 v0) (b1 : Box1 W A1 v1) (b2 : Box1 W A2 v) (hrow : W.ownsRow 0 e sz v k xs) (hk : Kept (keep5 W A0 A1 A2 v) W W') : KeepsOthers W W' := by
 refine ⟨hk.size, fun i o hi ho => (hk.block i ⟨(Array.getElem?_eq_some_iff.1 hi).1, ?_, ?_, ?_, ?_⟩).trans hi⟩
 ·rintro rfl; obtain ⟨t, h⟩ := b0; rw [show W.heap[i]? = _ from h] at hi; cases hi; cases ho
 ·rintro rfl; obtain ⟨t, h⟩ := b1; rw [show W.heap[i]? = _ from h] at hi; cases hi; cases ho
 ·rintro rfl; obtain ⟨t, h⟩ := b2; rw [show W.heap[i]? = _ from h] at hi; cases hi; cases ho
 ·intro hb
  rcases hrow.2 with ⟨rfl, _⟩ | ⟨g, cap, cur, rfl, _, hg, _⟩
  ·cases hb
  ·simp only [blk, Option.some.injEq] at hb
   subst hb
   rw [hg] at hi; cases hi; cases ho
theorem toU8 (a : UInt8) : ((a.toNat : Int)).toNat.toUInt8 = a := by
 rw [Int.toNat_natCast]
 exact UInt8.ofNat_toNat
set_option maxHeartbeats 1000000 in
theorem body_ok (l m A0 A1 A2 : Nat) (X : Nat → Prop) (a : Act) (x : ByteArray) (acc : List (Int × Int)) (W : World) (hs : a.tmps.size = 44) (hdf : a.defers = [])
 (h2 : a.tmps.getD 2 undef = .pointer (some ⟨A0, 0, none⟩)) (h3 : a.tmps.getD 3 undef = .pointer (some ⟨A1, 0, none⟩)) (h4 : a.tmps.getD 4 undef = .pointer (some ⟨A2, 0, none⟩)) (h5 : a.tmps.getD 5 undef = .string x)
 (hacc : acc.length ≤ 30) (hd : A0 ≠ A1 ∧ A0 ≠ A2 ∧ A1 ≠ A2) (hX : ¬ X A0 ∧ ¬ X A1 ∧ ¬ X A2) (hXlt : ∀ b, X b → b < W.heap.size) (hL : LpS X A0 A1 A2 acc W) :
 body5.wpIn (Fence.wide.inRound l) m Tryz.prog (fun e _ W' => match e with
  | .normal => KeepsOthers W W' ∧ Kept X W W' ∧ acc.length ≠ 30 ∧ ∃ p, wordP x.data.toList = some p ∧ LpS X A0 A1 A2 (acc ++ [p]) W'
  | .ret => KeepsOthers W W' ∧ Kept X W W' ∧ (acc.length = 30 ∨ wordP x.data.toList = none) ∧ LpX X A0 A1 W'
  | _ => False) a W := by
 obtain ⟨v, b2, hrow, hv⟩ := hL.row
 have hi := inv5 (x := x) (acc := acc) hs hdf h2 h3 h4 h5 hd hL.b0 hL.b1 b2 hrow (fun b hb => (hv b hb).2)
 have hlen : (acc.map pcV).length = acc.length := by simp
 have hsz : E2.sz 45 = 2 := by kernel_rfl
 have fin : ∀ (r : Ex × St), Leaves r → ex E2 F5 1 (sem E2 1) body5 0 (st5 x (acc.map pcV)) = some r → (acc.length = 30 ∨ wordP x.data.toList = none) → body5.wpIn (Fence.wide.inRound l) m Tryz.prog (fun e _ W' => match e with
  | .normal => KeepsOthers W W' ∧ Kept X W W' ∧ acc.length ≠ 30 ∧ ∃ p, wordP x.data.toList = some p ∧ LpS X A0 A1 A2 (acc ++ [p]) W'
  | .ret => KeepsOthers W W' ∧ Kept X W W' ∧ (acc.length = 30 ∨ wordP x.data.toList = none) ∧ LpX X A0 A1 W'
  | _ => False) a W := by
  rintro ⟨r1, r2⟩ ⟨q0, q1, q2, q3, q4, q5⟩ hex hor
  dsimp only at q0 q1 q2 q3 q4 q5
  subst q0
  refine ex_round (S := [2, 3, 4]) (a0 := a) envOk_E2 (sem_ok envOk_E2 1) body5 0 _ _ _ fl5 hex _ a W _ (fun ⟨_, _, h⟩ => h) (Fr.refl _ _) hi fun a' W' σ' hi' hfr => ?_
  have t2 : a'.tmps.getD 2 undef = .pointer (some ⟨A0, 0, none⟩) := (hfr 2 rfl).trans h2
  have t3 : a'.tmps.getD 3 undef = .pointer (some ⟨A1, 0, none⟩) := (hfr 3 rfl).trans h3
  have f2 := hi'.fr 2
  have f3 := hi'.fr 3
  rw [q1, t2] at f2
  rw [q2, t3] at f3
  have s4 := RO1_ptr_inv q3 f2
  have s6 := RO1_ptr_inv q4 f3
  obtain ⟨us, c1, c2⟩ := box_inv hi' q3 s4
  obtain ⟨us', c3, c4⟩ := box_inv hi' q4 s6
  have hk := hi'.hr.kept
  refine ⟨keep_others hL.b0 hL.b1 b2 hrow hk, keep_kept hX hXlt (fun b hb => (hv b hb).1) hk, hor, ?_, ?_⟩
  ·simp only [ROL, RO1] at c2
   obtain ⟨_, _, rfl, ⟨u, rfl, _, _, h9⟩, rfl⟩ := c2
   obtain rfl := h9 _ _ q5
   have h7 := hi'.hr.ents 5005
   unfold EntR at h7
   rw [q5] at h7
   obtain ⟨cells, d1, d2, d3⟩ := h7
   rw [hsz] at d1 d2
   simp only [RRow] at d2
   subst d2
   refine ⟨_, box_one c1, d1, fun b hb hXb => d3 b hb ⟨hXlt b hXb, fun e => hX.1 (e ▸ hXb), fun e => hX.2.1 (e ▸ hXb), fun e => hX.2.2 (e ▸ hXb), fun e => (hv b e).1 hXb⟩⟩
  ·simp only [ROL, RO1, RF] at c4
   obtain ⟨_, _, rfl, rfl, rfl⟩ := c4
   exact box_one c3
 by_cases hx : x.size = 2
 ·have hb2 : (!decide ((x.size : Int) = 2)) = false := by simp [hx]
  by_cases h30 : acc.length = 30
  ·exact fin _ leavesB (exB hb2 (by rw [hlen]; simp [h30])) (.inl h30)
  ·obtain ⟨c, d, rfl⟩ : ∃ c d, x = ⟨#[c, d]⟩ := by
    obtain ⟨⟨xl⟩⟩ := x
    match xl, hx with
    | [c, d], _ => exact ⟨c, d, rfl⟩
   have hl2 : decide (((acc.map pcV).length : Int) = 30) = false := by rw [hlen]; simp; omega
   have e0 : (strAt ⟨#[c, d]⟩ 0) = (c.toNat : Int) := rfl
   have e1 : (strAt ⟨#[c, d]⟩ 1) = (d.toNat : Int) := rfl
   have k1 : sem E2 1 24 [.str ⟨#[108, 114, 109]⟩, .int .u8 (strAt ⟨#[c, d]⟩ 0)] = some (.int .i64 (Lib.indexByte [108, 114, 109] c)) := by
    have : sem E2 1 24 [.str ⟨#[108, 114, 109]⟩, .int .u8 (strAt ⟨#[c, d]⟩ 0)] = prIdx [.str ⟨#[108, 114, 109]⟩, .int .u8 (strAt ⟨#[c, d]⟩ 0)] := by kernel_rfl
    rw [this, e0]
    simp only [prIdx, toU8]
   generalize hu : Lib.indexByte [108, 114, 109] c = u at k1
   have k2 : sem E2 1 25 [.parts [.int .i8 (IntKind.i8.wrap u), .int .i8 (pWide (strAt ⟨#[c, d]⟩ 1))]] = some (.bool (isP (IntKind.i8.wrap u) (pWide (strAt ⟨#[c, d]⟩ 1)))) := by kernel_rfl
   have k3 : sem E2 1 26 [.parts [.int .i8 (IntKind.i8.wrap u), .int .i8 (pWide (strAt ⟨#[c, d]⟩ 1))]] = match txtQ (IntKind.i8.wrap u) (pWide (strAt ⟨#[c, d]⟩ 1)) with | some z => some (.str z) | none => none := by kernel_rfl
   have hw : wordP [c, d] = match isP (IntKind.i8.wrap u) (pWide (d.toNat : Int)) with
    | true => match (handS (IntKind.i8.wrap u) ++ digS (pWide (d.toNat : Int))).toList == [c, d] with
     | true => some (IntKind.i8.wrap u, pWide (d.toNat : Int))
     | false => none
    | false => none := by subst hu; rfl
   rw [e1] at k2 k3
   cases hp : isP (IntKind.i8.wrap u) (pWide (d.toNat : Int)) with
   | false =>
    rw [hp] at k2 hw
    exact fin _ leavesC (exC hb2 hl2 rfl k1 rfl k2) (.inr hw)
   | true =>
    rw [hp] at k2 hw
    have ht : txtQ (IntKind.i8.wrap u) (pWide (d.toNat : Int)) = some (handS (IntKind.i8.wrap u) ++ digS (pWide (d.toNat : Int))) := by unfold txtQ; rw [hp]
    rw [ht] at k3
    have hcd : (⟨#[c, d]⟩ : ByteArray).toList = [c, d] := by rw [Lib.toList_data]
    cases hq : (handS (IntKind.i8.wrap u) ++ digS (pWide (d.toNat : Int))).toList == [c, d] with
    | false =>
     rw [hq] at hw
     exact fin _ leavesD (exD hb2 hl2 rfl k1 rfl k2 k3 (by rw [hcd, hq]; rfl)) (.inr hw)
    | true =>
     rw [hq] at hw
     have hex := exE (xs := acc.map pcV) hb2 hl2 rfl k1 rfl k2 k3 (by rw [hcd, hq]; rfl) (by rw [hlen]; simp; omega)
     obtain ⟨q0, q2, q3, q4, q5, q6, q7, q8⟩ := goesE (k := 1) (x := ⟨#[c, d]⟩) (xs := acc.map pcV) (u := u) (t := handS (IntKind.i8.wrap u) ++ digS (pWide (d.toNat : Int)))
     revert hex q0 q2 q3 q4 q5 q6 q7 q8
     generalize wayE 1 ⟨#[c, d]⟩ (acc.map pcV) u (handS (IntKind.i8.wrap u) ++ digS (pWide (d.toNat : Int))) = r
     obtain ⟨r1, r2⟩ := r
     dsimp only
     intro hex q0 q2 q3 q4 q5 q6 q7 q8
     subst q0
     refine ex_round (S := [2, 3, 4]) (a0 := a) envOk_E2 (sem_ok envOk_E2 1) body5 0 _ _ _ fl5 hex _ a W _ (fun ⟨_, _, h⟩ => h) (Fr.refl _ _) hi fun a' W' σ' hi' hfr => ?_
     have t2 : a'.tmps.getD 2 undef = .pointer (some ⟨A0, 0, none⟩) := (hfr 2 rfl).trans h2
     have t3 : a'.tmps.getD 3 undef = .pointer (some ⟨A1, 0, none⟩) := (hfr 3 rfl).trans h3
     have t4 : a'.tmps.getD 4 undef = .pointer (some ⟨A2, 0, none⟩) := (hfr 4 rfl).trans h4
     have f2 := hi'.fr 2
     have f3 := hi'.fr 3
     have f4 := hi'.fr 4
     rw [q2, t2] at f2
     rw [q3, t3] at f3
     rw [q4, t4] at f4
     have s4 := RO1_ptr_inv q5 f2
     have s6 := RO1_ptr_inv q6 f3
     have s8 := RO1_ptr_inv q7 f4
     obtain ⟨us, c1, c2⟩ := box_inv hi' q5 s4
     obtain ⟨us', c3, c4⟩ := box_inv hi' q6 s6
     obtain ⟨us2, c5, c6⟩ := box_inv hi' q7 s8
     have hk := hi'.hr.kept
     have e1' : pWide (strAt ⟨#[c, d]⟩ 1) = pWide (d.toNat : Int) := rfl
     rw [e1'] at q8
     refine ⟨keep_others hL.b0 hL.b1 b2 hrow hk, keep_kept hX hXlt (fun b hb => (hv b hb).1) hk, h30, (IntKind.i8.wrap u, pWide (d.toNat : Int)), hw, ?_, ?_, ?_⟩
     ·simp only [ROL, RO1, RF] at c2
      obtain ⟨_, _, rfl, rfl, rfl⟩ := c2
      exact box_one c1
     ·simp only [ROL, RO1, RF] at c4
      obtain ⟨_, _, rfl, rfl, rfl⟩ := c4
      exact box_one c3
     ·simp only [ROL, RO1] at c6
      obtain ⟨_, _, rfl, ⟨u', rfl, _, _, h9⟩, rfl⟩ := c6
      obtain rfl := h9 _ _ q8
      have h7 := hi'.hr.ents 84
      unfold EntR at h7
      rw [q8] at h7
      obtain ⟨cells, d1, d2, d3⟩ := h7
      rw [hsz] at d1 d2
      have e9 : acc.map pcV ++ [V.parts [.int .i8 (IntKind.i8.wrap u), .int .i8 (pWide (d.toNat : Int))]] = (acc ++ [(IntKind.i8.wrap u, pWide (d.toNat : Int))]).map pcV := by simp [pcV]
      rw [e9] at d1 d2
      obtain rfl := RRow_pcsi _ _ d2
      rw [List.length_map] at d1
      have dd : ∀ (i A b : Nat), (i = 4 ∨ i = 6 ∨ i = 8) → σ' i = .pointer (some ⟨A, 0, none⟩) → (r2.ent i).live = true → blk (σ' 84) = some b → b ≠ A := by
       rintro i A b hi9 hs9 hl9 hb9 rfl
       exact hi'.hr.dist 84 i b (by omega) (by rw [q8]; rfl) hl9 hb9 (by rw [hs9]; rfl)
      refine ⟨_, box_one c5, d1, fun b hb => ⟨fun hXb => d3 b hb ⟨hXlt b hXb, fun e => hX.1 (e ▸ hXb), fun e => hX.2.1 (e ▸ hXb), fun e => hX.2.2 (e ▸ hXb), fun e => (hv b e).1 hXb⟩, ?_, ?_, ?_⟩⟩
      ·exact dd 4 A0 b (by omega) s4 (by rw [q5]; rfl) hb
      ·exact dd 6 A1 b (by omega) s6 (by rw [q6]; rfl) hb
      ·exact dd 8 A2 b (by omega) s8 (by rw [q7]; rfl) hb
 ·have hw : wordP x.data.toList = none := by
   obtain ⟨⟨xl⟩⟩ := x
   match xl, hx with
   | [], _ => rfl
   | [_], _ => rfl
   | [_, _], h => exact absurd rfl h
   | _ :: _ :: _ :: _, _ => rfl
  exact fin _ leavesA (exA (by simp; omega)) (.inr hw)
end Go.Proofs.YthdnamhilcjnhaaGreatDoor
namespace Go.Proofs.YthdnamhilcjnhaaGreatDoor
open Go Go.RowKit Go.Shelf
set_option linter.unusedVariables false
set_option linter.unusedSimpArgs false
attribute [local go_sem] Oper.semAt_some
theorem kept_same {W W' : World} {row : Option Nat} {b : Nat} {cs : Array Value} {t : TypeId} {fz : Nat × Nat} (h : W.heap[b]? = some (.cells cs t fz)) (hg : W.grownBy W' row) (hr : ∀ r, row = some r → ∃ o : Obj, W.heap[r]? = some o ∧ o.isCells = false) : W'.heap[b]? = W.heap[b]? := by
 refine hg.block b (Array.getElem?_eq_some_iff.1 h).1 fun e => ?_
 obtain ⟨o, h1, h2⟩ := hr b e.symm
 rw [h] at h1
 cases h1
 cases h2
theorem Box1.kept {W W' : World} {row : Option Nat} {B : Nat} {v : Value} (h : Box1 W B v) (hg : W.grownBy W' row) (hr : ∀ r, row = some r → ∃ o : Obj, W.heap[r]? = some o ∧ o.isCells = false) : Box1 W' B v := by
 obtain ⟨t, h⟩ := h
 exact ⟨t, (kept_same h hg hr).trans h⟩
theorem boxed_kept {W W' : World} {row : Option Nat} {B : Nat} {t : TypeId} {v : Value} (h : Boxed W B t v) (hg : W.grownBy W' row) (hr : ∀ r, row = some r → ∃ o : Obj, W.heap[r]? = some o ∧ o.isCells = false) : Boxed W' B t v :=
 (kept_same h hg hr).trans h
theorem ownsRow_block {W W' : World} {base : Nat} {e : TypeId} {sz : Nat} {v : Value} {n : Nat} {xs : List Value} (h : W.ownsRow base e sz v n xs) (hb : ∀ b, blk v = some b → W'.heap[b]? = W.heap[b]?) : W'.ownsRow base e sz v n xs := by
 refine ⟨h.1, ?_⟩
 rcases h.2 with h2 | ⟨g, cap, cur, rfl, h3, h4, h5⟩
 ·exact .inl h2
 ·exact .inr ⟨g, cap, cur, rfl, h3, (hb g rfl).trans h4, h5⟩
theorem ownsRow_kept1 {W W' : World} {row : Option Nat} {base : Nat} {e : TypeId} {sz : Nat} {v : Value} {n : Nat} {xs : List Value} (h : W.ownsRow base e sz v n xs) (hg : W.grownBy W' row) (hr : ∀ r, row = some r → ∃ o : Obj, W.heap[r]? = some o ∧ o.isCells = false) : W'.ownsRow base e sz v n xs := by
 refine ownsRow_block h fun b hb => ?_
 rcases h.2 with ⟨rfl, _⟩ | ⟨g, cap, cur, rfl, _, hg4, _⟩
 ·cases hb
 ·simp only [blk, Option.some.injEq] at hb
  subst hb
  exact kept_same hg4 hg hr
theorem LpS.kept {X : Nat → Prop} {A0 A1 A2 : Nat} {acc : List (Int × Int)} {W W' : World} {row : Option Nat} (h : LpS X A0 A1 A2 acc W) (hg : W.grownBy W' row) (hr : ∀ r, row = some r → ∃ o : Obj, W.heap[r]? = some o ∧ o.isCells = false) : LpS X A0 A1 A2 acc W' := by
 obtain ⟨v, h1, h2, h3⟩ := h.row
 exact ⟨h.b0.kept hg hr, h.b1.kept hg hr, v, h1.kept hg hr, ownsRow_kept1 h2 hg hr, h3⟩
theorem LpX.kept {X : Nat → Prop} {A0 A1 : Nat} {W W' : World} {row : Option Nat} (h : LpX X A0 A1 W) (hg : W.grownBy W' row) (hr : ∀ r, row = some r → ∃ o : Obj, W.heap[r]? = some o ∧ o.isCells = false) : LpX X A0 A1 W' := by
 obtain ⟨v, h1, h2, h3⟩ := h.b0
 exact ⟨⟨v, h1.kept hg hr, ownsRow_kept1 h2 hg hr, h3⟩, h.b1.kept hg hr⟩
theorem Box1.other {W : World} {B C : Nat} {v u : Value} (h : Box1 W B v) (hne : B ≠ C) : Box1 (W.setCell ⟨C, 0, none⟩ u) B v := by
 obtain ⟨t, h⟩ := h
 exact ⟨t, (Below.heap_setCell _ _ _ _ hne).trans h⟩
theorem Box1.set {W : World} {B : Nat} {v u : Value} (h : Box1 W B v) : Box1 (W.setCell ⟨B, 0, none⟩ u) B u := by
 obtain ⟨t, h⟩ := h
 exact ⟨t, Boxed.set u h⟩
theorem LpS.other {X : Nat → Prop} {A0 A1 A2 C : Nat} {acc : List (Int × Int)} {W : World} {u : Value} (h : LpS X A0 A1 A2 acc W) (h0 : A0 ≠ C) (h1 : A1 ≠ C) (h2 : A2 ≠ C) (hX : X C) : LpS X A0 A1 A2 acc (W.setCell ⟨C, 0, none⟩ u) := by
 obtain ⟨v, g1, g2, g3⟩ := h.row
 exact ⟨h.b0.other h0, h.b1.other h1, v, g1.other h2, ownsRow_block g2 fun b hb => Below.heap_setCell _ _ _ _ fun e => (g3 b hb).1 (by rw [show b = C from e]; exact hX), g3⟩
theorem below_grown {D n0 : Nat} {w W W' : World} {row : Option Nat} (h : Kept (fun b => b < n0) w W) (hn : n0 ≤ w.heap.size) (hg : W.grownBy W' row) (hr : ∀ r, row = some r → D ≤ r) (hD : n0 ≤ D) : Kept (fun b => b < n0) w W' :=
 ⟨hg.os.trans h.os, hg.tape.trans h.tape, hg.output.trans h.output, Nat.le_trans h.size hg.size, fun k hk => (hg.block k (by have := h.size; have : k < n0 := hk; omega) (fun e => by have := hr k e.symm; have : k < n0 := hk; omega)).trans (h.block k hk)⟩
theorem cell1 {W : World} {B : Nat} {v : Value} (h : Box1 W B v) : W.cell? ⟨B, 0, none⟩ = some v ∧ W.frozen? ⟨B, 0, none⟩ = false := by
 obtain ⟨t, h⟩ := h
 exact ⟨h.cell, h.frozen⟩
theorem run_loadVar1 {W : World} {B t : Nat} {ty : TyI} {v : Value} (ht : E2.ty t = some ty) (hna : isAggTy ty.d = false) (h : Box1 W B v) : (loadVar t ⟨B, 0, none⟩).run Tryz.prog W = .ok v W := by
 unfold loadVar
 simp [Sem.run_bind, agg_run envOk_E2 ht, hna, (cell1 h).1]
theorem leave5 {R : Ending → World → Prop} {W : World} {tmps : Array Value} {D A0 A1 : Nat} {v : Value} {c : Int} (h2 : tmps.getD 2 undef = .pointer (some ⟨A0, 0, none⟩)) (h3 : tmps.getD 3 undef = .pointer (some ⟨A1, 0, none⟩))
 (b0 : Box1 W A0 v) (b1 : Box1 W A1 (.int .i64 c)) (hD : W.heap[D]? = some (.deferred (some []))) (hR : R (.returned (.tuple #[v, .int .i64 c])) (W.putObj D (.deferred none))) :
 bodyPostM Fence.wide 2 Tryz.prog Tryz.f6 R .ret { tmps := tmps, defers := [{ target := .collected D, args := #[] }] } W := by
 show LeavesInM Fence.wide 2 Tryz.prog Tryz.f6 tmps _ [{ target := .collected D, args := #[] }] .returning W
 refine ⟨by simp, .inl ⟨_, _, rfl, run_takeDeferred hD, ?_⟩⟩
 have ne : ∀ {A : Nat} {u : Value}, Box1 W A u → A ≠ D := by
  rintro A u ⟨t, h⟩ rfl
  rw [show W.heap[A]? = _ from h] at hD
  cases hD
 have p0 : Box1 (W.putObj D (.deferred none)) A0 v := by obtain ⟨t, h⟩ := b0; exact ⟨t, (World.putObj_heap_other (ne ⟨t, h⟩)).trans h⟩
 have p1 : Box1 (W.putObj D (.deferred none)) A1 (.int .i64 c) := by obtain ⟨t, h⟩ := b1; exact ⟨t, (World.putObj_heap_other (ne ⟨t, h⟩)).trans h⟩
 refine ⟨_, results_run (us := [v, .int .i64 c]) (a := { tmps := tmps, defers := [] }) ?_, hR⟩
 show (List.mapM (resF tmps) [.cell 2 24, .cell 3 2]).run Tryz.prog _ = _
 have t2 : E2.ty 24 = some ⟨.sl 45, 1, 24, [.nils], [45], false⟩ := by kernel_rfl
 have t3 : E2.ty 2 = some ⟨.int .i64, 1, 8, [.int .i64 0], [], true⟩ := by kernel_rfl
 have l2 := run_loadVar1 t2 rfl p0
 have l3 := run_loadVar1 t3 rfl p1
 have a2 : (asAddr (tmps.getD 2 undef)).run Tryz.prog (W.putObj D (.deferred none)) = .ok ⟨A0, 0, none⟩ (W.putObj D (.deferred none)) := by rw [h2]; rfl
 have a3 : (asAddr (tmps.getD 3 undef)).run Tryz.prog (W.putObj D (.deferred none)) = .ok ⟨A1, 0, none⟩ (W.putObj D (.deferred none)) := by rw [h3]; rfl
 simp only [List.mapM_cons, List.mapM_nil, Sem.run_bind, Sem.run_pure, Result.andThen_ok, resF, l2, l3, a2, a3]
end Go.Proofs.YthdnamhilcjnhaaGreatDoor
namespace Go.Proofs.YthdnamhilcjnhaaGreatDoor
open Go Go.RowKit Go.Shelf
set_option linter.unusedVariables false
set_option linter.unusedSimpArgs false
attribute [local go_sem] Oper.semAt_some
def a15 (t0 : Array Value) (x : ByteArray) : Act := { tmps := (t0.setIfInBounds 11 (.string x)).setIfInBounds 5 (.string x), defers := [] }
def II (w : World) (res : List (Int × Int) × Int) (r : ByteArray) (W : World) : Prop :=
 (∃ acc, rpGo (wordsOf r.data.toList) acc = res ∧ acc.length ≤ 30 ∧ LpS (fun b => b < w.heap.size ∨ b = w.heap.size + 3 ∨ b = w.heap.size + 4 ∨ b = w.heap.size + 5) w.heap.size (w.heap.size + 1) (w.heap.size + 2) acc W) ∧
 r.size ≤ 1048576 ∧ Boxed W (w.heap.size + 3) 9 (.string r) ∧ Boxed W (w.heap.size + 4) 9 (.string ⟨#[32]⟩) ∧ Boxed W (w.heap.size + 5) 3 (.int .i64 0) ∧ Kept (fun b => b < w.heap.size) w W
def ID (w : World) (res : List (Int × Int) × Int) (W : World) : Prop :=
 (∃ acc, (acc, 0) = res ∧ LpS (fun b => b < w.heap.size ∨ b = w.heap.size + 3 ∨ b = w.heap.size + 4 ∨ b = w.heap.size + 5) w.heap.size (w.heap.size + 1) (w.heap.size + 2) acc W) ∧ Kept (fun b => b < w.heap.size) w W
def IX (w : World) (res : List (Int × Int) × Int) (W : World) : Prop :=
 ([], 5) = res ∧ LpX (fun b => b < w.heap.size ∨ b = w.heap.size + 3 ∨ b = w.heap.size + 4 ∨ b = w.heap.size + 5) w.heap.size (w.heap.size + 1) W ∧ Kept (fun b => b < w.heap.size) w W
theorem rows_of {W : World} {D : Nat} {row : Option Nat} (hr : ∀ r, row = some r → D ≤ r ∧ ∃ o : Obj, W.heap[r]? = some o ∧ o.isCells = false) : ∀ r, row = some r → ∃ o : Obj, W.heap[r]? = some o ∧ o.isCells = false := fun r e => (hr r e).2
theorem II_own (w : World) (res : List (Int × Int) × Int) : OwnFrom (w.heap.size + 6) (II w res) := by
 rintro r W W' row ⟨⟨acc, h1, h2, h3⟩, h4, h5, h6, h7, h8⟩ hg hr
 have hr' := rows_of hr
 exact ⟨⟨acc, h1, h2, h3.kept hg hr'⟩, h4, boxed_kept h5 hg hr', boxed_kept h6 hg hr', boxed_kept h7 hg hr', below_grown h8 (Nat.le_refl _) hg (fun r e => (hr r e).1) (by omega)⟩
theorem ID_own (w : World) (res : List (Int × Int) × Int) : OwnFrom (w.heap.size + 6) (fun (_ : Unit) W => ID w res W) := by
 rintro _ W W' row ⟨⟨acc, h1, h3⟩, h8⟩ hg hr
 have hr' := rows_of hr
 exact ⟨⟨acc, h1, h3.kept hg hr'⟩, below_grown h8 (Nat.le_refl _) hg (fun r e => (hr r e).1) (by omega)⟩
theorem IX_own (w : World) (res : List (Int × Int) × Int) : OwnFrom (w.heap.size + 6) (fun (_ : Unit) W => IX w res W) := by
 rintro _ W W' row ⟨h1, h3, h8⟩ hg hr
 have hr' := rows_of hr
 exact ⟨h1, h3.kept hg hr', below_grown h8 (Nat.le_refl _) hg (fun r e => (hr r e).1) (by omega)⟩
theorem round_ok (w : World) (l : Nat) (t0 : Array Value) (res : List (Int × Int) × Int) (x r : ByteArray) (W : World) (hs : t0.size = 44) (h2 : t0.getD 2 undef = .pointer (some ⟨w.heap.size, 0, none⟩)) (h3 : t0.getD 3 undef = .pointer (some ⟨w.heap.size + 1, 0, none⟩)) (h4 : t0.getD 4 undef = .pointer (some ⟨w.heap.size + 2, 0, none⟩))
 (hI : II w res r W) : body5.wpIn (Fence.wide.inRound l) 0 Tryz.prog (fun e _ W' => match e with
  | .normal => KeepsOthers W W' ∧ Boxed W' (w.heap.size + 3) 9 (.string r) ∧ Boxed W' (w.heap.size + 4) 9 (.string ⟨#[32]⟩) ∧ Boxed W' (w.heap.size + 5) 3 (.int .i64 0) ∧ Kept (fun b => b < w.heap.size) w W' ∧
   ∃ acc p, rpGo (wordsOf r.data.toList) acc = res ∧ acc.length < 30 ∧ wordP x.data.toList = some p ∧ LpS (fun b => b < w.heap.size ∨ b = w.heap.size + 3 ∨ b = w.heap.size + 4 ∨ b = w.heap.size + 5) w.heap.size (w.heap.size + 1) (w.heap.size + 2) (acc ++ [p]) W'
  | .ret => KeepsOthers W W' ∧ Kept (fun b => b < w.heap.size) w W' ∧ ∃ acc, rpGo (wordsOf r.data.toList) acc = res ∧ (acc.length = 30 ∨ wordP x.data.toList = none) ∧ LpX (fun b => b < w.heap.size ∨ b = w.heap.size + 3 ∨ b = w.heap.size + 4 ∨ b = w.heap.size + 5) w.heap.size (w.heap.size + 1) W'
  | _ => False) (a15 t0 x) W := by
 obtain ⟨⟨acc, g1, g2, g3⟩, g4, g5, g6, g7, g8⟩ := hI
 have gs := g8.size
 have lt5 := g7.lt
 have hget : ∀ t, t ≠ 5 → t ≠ 11 → (a15 t0 x).tmps.getD t undef = t0.getD t undef := by
  intro t e5 e11
  simp only [a15, Array.getD_eq_getD_getElem?]
  rw [Array.getElem?_setIfInBounds, if_neg (Ne.symm e5), Array.getElem?_setIfInBounds, if_neg (Ne.symm e11)]
 refine wpIn_mono (body_ok l 0 w.heap.size (w.heap.size + 1) (w.heap.size + 2) (fun b => b < w.heap.size ∨ b = w.heap.size + 3 ∨ b = w.heap.size + 4 ∨ b = w.heap.size + 5) (a15 t0 x) x acc W (by simp [a15, hs]) rfl
  ((hget 2 (by omega) (by omega)).trans h2) ((hget 3 (by omega) (by omega)).trans h3) ((hget 4 (by omega) (by omega)).trans h4) (by simp [a15, Array.getD_eq_getD_getElem?, Array.getElem?_setIfInBounds, hs]) g2 ⟨by omega, by omega, by omega⟩ ⟨by omega, by omega, by omega⟩ (fun b hb => by rcases hb with hb | hb | hb | hb <;> omega) g3) ?_
 rintro e a' W' hp
 cases e with
 | normal =>
  obtain ⟨k1, k2, k3, p, k4, k5⟩ := hp
  refine ⟨k1, (k2.block _ (by omega)).trans g5, (k2.block _ (by omega)).trans g6, (k2.block _ (by omega)).trans g7, g8.trans (k2.mono fun b hb => .inl hb), acc, p, g1, by omega, k4, k5⟩
 | ret =>
  obtain ⟨k1, k2, k3, k4⟩ := hp
  exact ⟨k1, g8.trans (k2.mono fun b hb => .inl hb), acc, g1, k3, k4⟩
 | exit _ => exact hp.elim
 | goto _ => exact hp.elim
 | panic _ => exact hp.elim
 | outgrown => exact hp.elim
theorem extract_list (r : ByteArray) (i j : Nat) : (r.extract i j).data.toList = (r.data.toList.take j).drop i := by
 rw [ByteArray.data_extract, Array.toList_extract, List.extract_eq_take_drop, List.drop_take]
theorem rpGo_cons (u : List UInt8) (us : List (List UInt8)) (acc : List (Int × Int)) : rpGo (u :: us) acc = match decide (acc.length = 30) with
 | true => ([], 5)
 | false => match wordP u with
  | some p => rpGo us (acc ++ [p])
  | none => ([], 5) := rfl
theorem rpGo_stop {u : List UInt8} {us : List (List UInt8)} {acc : List (Int × Int)} (h : acc.length = 30 ∨ wordP u = none) : rpGo (u :: us) acc = ([], 5) := by
 rw [rpGo_cons]
 split
 ·rfl
 ·rename_i hd
  rcases h with h | h
  ·simp [h] at hd
  ·rw [h]
theorem rpGo_go {u : List UInt8} {us : List (List UInt8)} {acc : List (Int × Int)} {p : Int × Int} (h : acc.length < 30) (hw : wordP u = some p) : rpGo (u :: us) acc = rpGo us (acc ++ [p]) := by
 rw [rpGo_cons, show decide (acc.length = 30) = false by simp; omega, hw]
theorem loop5 (w W0 : World) (s : ByteArray) (t0 : Array Value) (asg : Code) (Q : Exit → Act → World → Prop) (hsz : W0.heap.size = w.heap.size + 6) (hs : t0.size = 44) (h2 : t0.getD 2 undef = .pointer (some ⟨w.heap.size, 0, none⟩)) (h3 : t0.getD 3 undef = .pointer (some ⟨w.heap.size + 1, 0, none⟩)) (h4 : t0.getD 4 undef = .pointer (some ⟨w.heap.size + 2, 0, none⟩))
 (h10 : t0.getD 10 undef = .func (.func 61) #[] #[.pointer (some ⟨w.heap.size + 4, 0, none⟩), .pointer (some ⟨w.heap.size + 3, 0, none⟩), .pointer (some ⟨w.heap.size + 5, 0, none⟩)])
 (hasg : ∀ (l : Nat) (x : ByteArray) (W : World) (K : Act → World → Prop), K (a15 t0 x) W → asg.wpIn (Fence.wide.inRound l) 0 Tryz.prog (Exit.then K (fun _ _ _ => False)) { tmps := t0.setIfInBounds 11 (.string x), defers := [] } W)
 (h0 : II w (rpGo (wordsOf s.data.toList) []) s W0)
 (hdone : ∀ (W : World), ID w (rpGo (wordsOf s.data.toList) []) W → W.heap[w.heap.size + 6]? = some (.deferred (some [])) → Q .normal { tmps := t0, defers := [{ target := .collected (w.heap.size + 6), args := #[] }] } W)
 (hstop : ∀ (W : World), IX w (rpGo (wordsOf s.data.toList) []) W → W.heap[w.heap.size + 6]? = some (.deferred (some [])) → Q .ret { tmps := t0, defers := [{ target := .collected (w.heap.size + 6), args := #[] }] } W) :
 (Code.rangeFunc (.tmp 10) #[11] asg body5).wpIn Fence.wide 2 Tryz.prog Q { tmps := t0, defers := [] } W0 := by
 generalize rpGo (wordsOf s.data.toList) [] = res at h0 hdone hstop
 refine wpIn_split (m := 0) (Bs := w.heap.size + 3) (Bp := w.heap.size + 4) (Bv := w.heap.size + 5) (r0 := s) h10 (II w res) (ID w res) (IX w res) (fun r W h => ⟨h.2.1, h.2.2.1, h.2.2.2.1, h.2.2.2.2.1⟩) (by rw [hsz]; exact II_own w res) (by rw [hsz]; exact ID_own w res) (by rw [hsz]; exact IX_own w res) h0 (by omega) (a15 t0) hasg ?_ ?_ ?_ ?_
 ·intro l r i W hl hI hc
  have hw := wordsOf_idx hc
  refine wpIn_mono (round_ok w l t0 res (r.extract 0 i) r W hs h2 h3 h4 hI) ?_
  rintro e a' W' hp
  cases e with
  | normal =>
   obtain ⟨k1, k2, k3, k4, k5, acc, p, k6, k7, k8, k9⟩ := hp
   rw [hsz]
   have hx : (r.extract 0 i).data.toList = r.data.toList.take i := by rw [extract_list]; simp
   have hr : (r.extract (i + 1) r.size).data.toList = r.data.toList.drop (i + 1) := by rw [extract_list]; rw [List.take_of_length_le (by simp)]
   rw [hx] at k8
   rw [hw, rpGo_go k7 k8] at k6
   refine ⟨k1.from _, ⟨k2, k3⟩, ⟨acc ++ [p], by rw [hr]; exact k6, by simp; omega, k9.other (by omega) (by omega) (by omega) (.inr (.inl rfl))⟩, ?_, Boxed.set _ k2, k3.other (by omega) _, k4.other (by omega) _, ?_⟩
   ·have := hI.2.1
    simp
    omega
   ·exact ⟨k5.os, k5.tape, k5.output, by have := k5.size; simpa [World.setCell] using this, fun b hb => (Below.heap_setCell _ _ _ _ (by have : b < w.heap.size := hb; simp; omega)).trans (k5.block b hb)⟩
  | ret =>
   obtain ⟨k1, k2, acc, k3, k4, k5⟩ := hp
   rw [hsz]
   have hx : (r.extract 0 i).data.toList = r.data.toList.take i := by rw [extract_list]; simp
   rw [hx] at k4
   rw [hw, rpGo_stop k4] at k3
   exact ⟨k1.from _, k3, k5, k2⟩
  | exit _ => exact hp.elim
  | goto _ => exact hp.elim
  | panic _ => exact hp.elim
  | outgrown => exact hp.elim
 ·intro l r W hl hI hc
  have hw := wordsOf_none hc
  refine wpIn_mono (round_ok w l t0 res r r W hs h2 h3 h4 hI) ?_
  rintro e a' W' hp
  cases e with
  | normal =>
   obtain ⟨k1, k2, k3, k4, k5, acc, p, k6, k7, k8, k9⟩ := hp
   rw [hsz]
   rw [hw, rpGo_go k7 k8] at k6
   exact ⟨k1.from _, ⟨acc ++ [p], k6, k9⟩, k5⟩
  | ret =>
   obtain ⟨k1, k2, acc, k3, k4, k5⟩ := hp
   rw [hsz]
   rw [hw, rpGo_stop k4] at k3
   exact ⟨k1.from _, k3, k5, k2⟩
  | exit _ => exact hp.elim
  | goto _ => exact hp.elim
  | panic _ => exact hp.elim
  | outgrown => exact hp.elim
 ·intro W h1 h2
  rw [hsz] at h2 ⊢
  exact hdone W h1 h2
 ·intro W h1 h2
  rw [hsz] at h2 ⊢
  exact wpIn_ret (hstop W h1 h2)
set_option maxRecDepth 100000 in
set_option maxHeartbeats 4000000 in
theorem read_in (s : ByteArray) (hs : s.size ≤ 1048576) (w : World) : Calls Tryz.prog 6 #[.string s] w fun e W' => ∃ v, e = .returned (.tuple #[v, .int .i64 (prCode s)]) ∧ W'.ownsRow 0 45 2 v (rpQ s).1.length (cellsP (rpQ s).1) ∧ (∀ b, blk v = some b → w.heap.size ≤ b) ∧ Kept (fun b => b < w.heap.size) w W' := by
 refine (callsIn_wide (n := 2)).1 (callsIn_of_wp_marks Tryz.func6 rfl trivial ?_ rfl)
 simp only [Tryz.ntmps6, List.size_toArray, List.length_cons, List.length_nil, Nat.reduceAdd, Nat.reduceSub, Array.replicate_succ, Array.replicate_zero, List.push_toArray, List.append_toArray, List.nil_append, List.cons_append]
 by_cases he : s = ⟨#[]⟩
 ·subst he
  gi_wp2
  refine ⟨_, results_run (us := [.slice none 0 0, .int .i64 0]) (a := { tmps := _, defers := [] }) ?_, _, rfl, World.ownsRow_nil _ _ _ _, fun b hb => (by cases hb), ?_⟩
  ·show (List.mapM (resF _) [.cell 2 24, .cell 3 2]).run Tryz.prog _ = _
   have t2 : E2.ty 24 = some ⟨.sl 45, 1, 24, [.nils], [45], false⟩ := by kernel_rfl
   have t3 : E2.ty 2 = some ⟨.int .i64, 1, 8, [.int .i64 0], [], true⟩ := by kernel_rfl
   have p0 : Box1 ((w.alloc (.cells #[.slice none 0 0] 24)).alloc (.cells #[.int .i64 0] 2)) w.heap.size (.slice none 0 0) := ⟨_, (Boxed.new w _ _).alloc _⟩
   have p1 : Box1 ((w.alloc (.cells #[.slice none 0 0] 24)).alloc (.cells #[.int .i64 0] 2)) (w.heap.size + 1) (.int .i64 0) := ⟨_, by have := Boxed.new (w.alloc (.cells #[.slice none 0 0] 24)) 2 (.int .i64 0); simpa using this⟩
   have l2 := run_loadVar1 t2 rfl p0
   have l3 := run_loadVar1 t3 rfl p1
   simp only [List.mapM_cons, List.mapM_nil, Sem.run_bind, Sem.run_pure, Result.andThen_ok, resF]
   simp [asAddr, l2, l3]
  ·exact ⟨rfl, rfl, rfl, by simp; omega, fun b hb => (Below.heap_alloc _ _ _ (by have : b < w.heap.size := hb; simp; omega)).trans (Below.heap_alloc _ _ _ hb)⟩
 ·have hne : (s.toList == []) = false := by
   rw [Lib.toList_data]
   obtain ⟨⟨l⟩⟩ := s
   cases l with
   | nil => exact absurd rfl he
   | cons _ _ => rfl
  gi_wp2_with (refine ⟨trivial, ?_⟩; gi_at_call 23; refine (callsIn_wide.2 (split12 _ _ _)).mono ?_; rintro e w' ⟨rfl, rfl⟩)
  rename_i Q1 K1 hK1
  have hrp : rpQ s = rpGo (wordsOf s.data.toList) [] := by
   unfold rpQ
   have : s.size ≠ 0 := by
    obtain ⟨⟨l⟩⟩ := s
    cases l with
    | nil => exact absurd rfl he
    | cons _ _ => show _ + 1 ≠ 0; omega
   rw [show decide (s.size = 0) = false by simpa using this]
  generalize hW0 : ((((((w.alloc (Obj.cells #[Value.slice none 0 0] 24)).alloc (Obj.cells #[Value.int IntKind.i64 0] 2)).alloc (Obj.cells #[Value.slice none 0 0] 24)).alloc (Obj.cells #[Value.string s] 9)).alloc (Obj.cells #[Value.string { data := #[32] }] 9)).alloc (Obj.cells #[Value.int IntKind.i64 0] 3)) = W0
  have hsz : W0.heap.size = w.heap.size + 6 := by rw [← hW0]; simp
  have fin : ∀ {W : World} {t0 : Array Value} {v : Value} {c : Int} (h2 : t0.getD 2 undef = .pointer (some ⟨w.heap.size, 0, none⟩)) (h3 : t0.getD 3 undef = .pointer (some ⟨w.heap.size + 1, 0, none⟩)), Box1 W w.heap.size v → Box1 W (w.heap.size + 1) (.int .i64 c) → W.heap[w.heap.size + 6]? = some (.deferred (some [])) →
   c = prCode s → W.ownsRow 0 45 2 v (rpQ s).1.length (cellsP (rpQ s).1) → (∀ b, blk v = some b → w.heap.size ≤ b) → Kept (fun b => b < w.heap.size) w W → Q1 .ret { tmps := t0, defers := [{ target := .collected (w.heap.size + 6), args := #[] }] } W := by
   intro W t0 v c h2 h3 b0 b1 hD hc hrow hv hk
   subst hc
   refine leave5 h2 h3 b0 b1 hD ⟨v, rfl, ?_, hv, ?_⟩
   ·refine ownsRow_block hrow fun b hb => World.putObj_heap_other fun e => ?_
    subst e
    rcases hrow.2 with ⟨rfl, _⟩ | ⟨g, cap, cur, rfl, _, hg4, _⟩
    ·cases hb
    ·simp only [blk, Option.some.injEq] at hb
     subst hb
     rw [hD] at hg4
     cases hg4
   ·exact ⟨hk.os, hk.tape, hk.output, by have := hk.size; simpa using this, fun b hb => (World.putObj_heap_other (by have : b < w.heap.size := hb; omega)).trans (hk.block b hb)⟩
  refine loop5 w W0 s _ _ _ hsz rfl rfl rfl rfl rfl ?_ ?_ ?_ ?_
  ·intro l x W K hK
   gi_wp2
   exact hK
  ·have hal : ∀ {W : World} {B : Nat} {t : TypeId} {v : Value} (o : Obj), Boxed W B t v → Boxed (W.alloc o) B t v := fun o h => h.alloc o
   have nw : ∀ (W : World) (t : TypeId) (v : Value) (B : Nat), W.heap.size = B → Boxed (W.alloc (.cells #[v] t)) B t v := fun W t v B h => by subst h; exact Boxed.new W t v
   have p0 : Boxed W0 w.heap.size 24 (.slice none 0 0) := by rw [← hW0]; exact hal _ (hal _ (hal _ (hal _ (hal _ (nw _ _ _ _ rfl)))))
   have p1 : Boxed W0 (w.heap.size + 1) 2 (.int .i64 0) := by rw [← hW0]; exact hal _ (hal _ (hal _ (hal _ (nw _ _ _ _ (by simp)))))
   have p2 : Boxed W0 (w.heap.size + 2) 24 (.slice none 0 0) := by rw [← hW0]; exact hal _ (hal _ (hal _ (nw _ _ _ _ (by simp))))
   have p3 : Boxed W0 (w.heap.size + 3) 9 (.string s) := by rw [← hW0]; exact hal _ (hal _ (nw _ _ _ _ (by simp)))
   have p4 : Boxed W0 (w.heap.size + 4) 9 (.string ⟨#[32]⟩) := by rw [← hW0]; exact hal _ (nw _ _ _ _ (by simp))
   have p5 : Boxed W0 (w.heap.size + 5) 3 (.int .i64 0) := by rw [← hW0]; exact nw _ _ _ _ (by simp)
   refine ⟨⟨[], rfl, by simp, ⟨_, p0⟩, ⟨_, p1⟩, _, ⟨_, p2⟩, World.ownsRow_nil _ _ _ _, fun b hb => (by cases hb)⟩, hs, p3, p4, p5, ?_⟩
   have ba : ∀ {W : World} (o : Obj), Kept (fun b => b < w.heap.size) w W → Kept (fun b => b < w.heap.size) w (W.alloc o) := fun {W} o h => ⟨h.os, h.tape, h.output, by have := h.size; simp; omega, fun b hb => (Below.heap_alloc _ _ _ (by have := h.size; have : b < w.heap.size := hb; omega)).trans (h.block b hb)⟩
   rw [← hW0]
   exact ba _ (ba _ (ba _ (ba _ (ba _ (ba _ (Kept.refl _ _))))))
  ·rintro W ⟨⟨acc, e1, hL⟩, hk⟩ hD
   show K1 _ _
   refine hK1 _ _ ?_
   obtain ⟨v, b2, hrow, hv⟩ := hL.row
   obtain ⟨A, cap, rfl⟩ := ownsRow_slice hrow
   obtain ⟨c0, f0⟩ := cell1 hL.b0
   obtain ⟨c1, f1⟩ := cell1 hL.b1
   obtain ⟨c2, f2⟩ := cell1 b2
   gi_wp2
   have e2 := hrp.trans e1.symm
   have o : ∀ (W : World) (B : Nat) (u : Value) (k : Nat), w.heap.size + 6 = k → (∃ t c, W.heap[B]? = some (.cells c t (0, 0))) → W.heap[w.heap.size + 6]? = some (.deferred (some [])) → (W.setCell ⟨B, 0, none⟩ u).heap[w.heap.size + 6]? = some (.deferred (some [])) := by
    intro W B u k hk ⟨t, c, hB⟩ h
    refine (Below.heap_setCell _ _ _ _ fun e => ?_).trans h
    rw [e] at h
    rw [show W.heap[B]? = _ from hB] at h
    cases h
   have b0' := hL.b0
   have b1' := hL.b1
   have hkk : ∀ (W' : World) (B : Nat) (u : Value), w.heap.size ≤ B → Kept (fun b => b < w.heap.size) w W' → Kept (fun b => b < w.heap.size) w (W'.setCell ⟨B, 0, none⟩ u) := fun W' B u hB h =>
    ⟨h.os, h.tape, h.output, by have := h.size; simpa [World.setCell] using this, fun b hb => (Below.heap_setCell _ _ _ _ (by have : b < w.heap.size := hb; simp; omega)).trans (h.block b hb)⟩
   refine fin rfl rfl ((b0'.set).other (by omega)) ((b1'.other (by omega)).set) ?_ ?_ ?_ (fun b hb => ?_) (hkk _ _ _ (by omega) (hkk _ _ _ (by omega) hk))
   ·obtain ⟨t1, g1⟩ := b1'
    obtain ⟨t0, g0⟩ := b0'
    exact o _ _ _ _ rfl ⟨t1, _, (Below.heap_setCell _ _ _ _ (by simp)).trans g1⟩ (o _ _ _ _ rfl ⟨t0, _, g0⟩ hD)
   ·unfold prCode; rw [e2]
   ·rw [e2]
    refine ownsRow_block hrow fun b hb => ?_
    have := hv b hb
    rw [Below.heap_setCell _ _ _ _ this.2.2.1, Below.heap_setCell _ _ _ _ this.2.1]
   ·have := (hv b hb).1; omega
  ·rintro W ⟨e1, hX, hk⟩ hD
   show Q1 .ret _ _
   obtain ⟨v, b0, hrow, hv⟩ := hX.b0
   have e2 := hrp.trans e1.symm
   refine fin rfl rfl b0 hX.b1 hD ?_ ?_ (fun b hb => ?_) hk
   ·unfold prCode; rw [e2]
   ·rw [e2]; exact hrow
   ·have := hv b hb; omega
end Go.Proofs.YthdnamhilcjnhaaGreatDoor
namespace Go.Proofs.YthdnamhilcjnhaaGreatDoor
open Go Go.RowKit
set_option linter.unusedVariables false
set_option linter.unusedSimpArgs false
theorem prRead_ok (E : Env) {avs : List V} {r : V} (h : prRead avs = some r) (hz : E.sz 45 = 2 := by kernel_rfl) : FunOk Tryz.prog E 6 avs r := by
 refine ⟨⟨_, Tryz.func6, by kernel_rfl⟩, fun no w us hno hus => ?_⟩
 unfold prRead at h
 split at h
 ·rename_i s
  split at h
  ·rename_i hs
   simp only [Option.some.injEq] at h
   subst h
   obtain ⟨l1, e1, h1⟩ := RFC_str hus
   have e2 := RFC_nil h1
   subst e2
   subst e1
   refine (read_in s (by simpa using hs) w).mono ?_
   rintro e w' ⟨v, rfl, hrow, hv, hk⟩
   intro i _
   have hrec : recv (.tup [.fresh 45 (prRows s), .int .i64 (prCode s)]) i = (.tup [.row (i * 100), .int .i64 (prCode s)], [(i * 100, .row 45 (prRows s))]) := rfl
   rw [hrec]
   have hent : ∀ id, updE [(i * 100, Ent.row 45 (prRows s))] ent0 id = if id = i * 100 then .row 45 (prRows s) else .none := by
    intro id
    unfold updE
    simp only [find]
    by_cases hi : id = i * 100
    ·rw [if_pos hi, show Nat.beq (i * 100) id = true from by rw [hi]; exact Nat.beq_refl _]
    ·rw [if_neg hi, show Nat.beq (i * 100) id = false from by cases hb : Nat.beq (i * 100) id with | false => rfl | true => exact absurd (Nat.eq_of_beq_eq_true hb).symm hi]
     rfl
   have hone : v.oneCell' = true := by obtain ⟨A, cap, rfl⟩ := ownsRow_slice hrow; rfl
   refine ⟨⟨fun _ => v, no⟩, rfl, ⟨hk, fun b hb => hb, fun id => ?_, fun id b hl hb hn => ?_, hno, fun a b c hab ha hb hc => ?_⟩, ?_⟩
   ·unfold EntR
    rw [hent]
    by_cases hi : id = i * 100
    ·rw [if_pos hi]
     refine ⟨cellsP (rpQ s).1, ?_, ?_, fun b hb hlt => ?_⟩
     ·rw [hz]; simpa [prRows] using hrow
     ·rw [hz]; exact RRow_pcs _
     ·have := hv b hb; have : b < w.heap.size := hlt; omega
    ·rw [if_neg hi]; trivial
   ·have := hv b hb; have := hno b hn; omega
   ·rw [hent] at ha hb
    have : ∀ x, (if x = i * 100 then Ent.row 45 (prRows s) else .none).live = true → x = i * 100 := fun x hx => by
     by_cases hi : x = i * 100
     ·exact hi
     ·rw [if_neg hi] at hx; cases hx
    exact absurd ((this a ha).trans (this b hb).symm) hab
   ·refine ⟨_, rfl, ?_⟩
    simp only [RTL]
    refine ⟨v, [.int .i64 (prCode s)], rfl, ⟨hone, ?_⟩, _, [], rfl, ⟨rfl, by simp [RO1, RF]⟩, rfl⟩
    simp only [RO1]
    exact ⟨v, rfl, hone, by rw [hent, if_pos rfl]; simp, fun e xs _ => rfl⟩
  ·cases h
 ·cases h
end Go.Proofs.YthdnamhilcjnhaaGreatDoor
namespace Go.Proofs.YthdnamhilcjnhaaGreatDoor
open Go Go.RowKit
set_option linter.unusedVariables false
set_option linter.unusedSimpArgs false
theorem res_frz {E E1 : Env} {no : Nat → Prop} {w w' : World} {e : Nat} {ys : List V} {u : Value} (hno : ∀ b, no b → b < w.heap.size) (h : ResR E1 no w w' (.fresh e ys) u) : ResR E no w w' (.sl ys) u := by
 obtain ⟨σ', hs, hr, hrt⟩ := h 1 rfl
 have hr' : HR E1 (fun b => b < w.heap.size) w (updE [(1, .row e ys)] ent0) σ' w' := hr
 have hrt' : RT E1 (updE [(1, .row e ys)] ent0) σ' w' (.row 1) u := hrt
 have he1 : updE [(1, Ent.row e ys)] ent0 1 = .row e ys := rfl
 have hone := hrt'.1
 have hu := RT_row hr' hrt' he1
 have hen := hr'.ents 1
 unfold EntR at hen
 rw [he1] at hen
 obtain ⟨cells, d1, d2, d3⟩ := hen
 intro i _
 have hrec : recv (.sl ys) i = (.sl ys, []) := rfl
 rw [hrec]
 have hmv : Moved w' w' (okB (updE [(1, .row e ys)] ent0) σ' w') (okB (updE [] ent0) ⟨fun _ => undef, no⟩ w') := by
  intro b hb
  refine ⟨⟨hb.1, fun id hl => by simp [updE, find, ent0, Ent.live] at hl, ?_⟩, rfl⟩
  have := hb.2.2
  rwa [hs] at this
 refine ⟨⟨fun _ => undef, no⟩, rfl, ⟨hr'.kept, fun b hb => hb, fun id => ?_, fun id b hl => ?_, hno, fun i j b _ hl => ?_⟩, hone, ?_⟩
 ·unfold EntR; simp [updE, find, ent0]
 ·simp [updE, find, ent0, Ent.live] at hl
 ·simp [updE, find, ent0, Ent.live] at hl
 ·simp only [RO1, RF]
  rcases d1.2 with ⟨h4, h5⟩ | ⟨gg, cap, cur, h4, h5, h6, h7, h8, h9, h10⟩
  ·exact ⟨none, 0, by rw [hu, h4, h5], by rw [h5]; simp [maxLen], .inl (List.eq_nil_of_length_eq_zero h5)⟩
  ·refine ⟨_, cap, by rw [hu, h4], by omega, .inr ⟨gg, 0, _, rfl, ⟨(Array.getElem?_eq_some_iff.1 h6).1, fun id hl => by simp [updE, find, ent0, Ent.live] at hl, ?_⟩, RE_of_RRow hmv _ _ gg 0 d2 fun j u hj => ?_⟩⟩
   ·have := hr'.nown 1 gg rfl (by rw [h4]; rfl)
    rwa [hs] at this
   ·have := d1.cells (g := gg) (by rw [h4]; rfl) j u hj
    rwa [addr_add] at this
theorem prA2_ok (E : Env) {avs : List V} {r : V} (h : prA2 avs = some r) : FunOk Tryz.prog E 5 avs r := by
 unfold prA2 at h
 split at h
 ·rename_i xs
  split at h
  ·rename_i ys hy
   simp only [Option.some.injEq] at h
   subst h
   obtain ⟨n, hn⟩ := ev_run (a2Q_some hy)
   have h1 := w1_spec_A2Pieces hn _ (Nat.le_refl _)
   have h2 := (sem_ok envOk_E1 _ _ _ _ h1).1 rfl
   refine ⟨h2.1, fun no w us hno hus => (h2.2 no w us hno hus).mono fun e w' he => ?_⟩
   cases e with
   | panicked chain => exact he.elim
   | outgrown => exact he.elim
   | returned u => exact res_frz hno he
  ·cases h
 ·cases h
end Go.Proofs.YthdnamhilcjnhaaGreatDoor
