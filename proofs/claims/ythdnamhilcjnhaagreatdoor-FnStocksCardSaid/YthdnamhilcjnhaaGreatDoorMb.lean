/- What functions by contract answer, in plain Lean: a number's text; pieces read from a text. -/
import Derived.Test.YthdnamhilcjnhaaGreatDoorMa
import Derived.Test.YthdnamhilcjnhaaGreatDoorRs24
import Derived.Test.YthdnamhilcjnhaaGreatDoorRg1
import Derived.Lib.Join
namespace Go.Proofs.YthdnamhilcjnhaaGreatDoor
open Go Go.RowKit
set_option linter.unusedVariables false
set_option linter.unusedSimpArgs false
def fmtQ (a b : Int) : Option ByteArray := match decide (1 ≤ a) && decide (a ≤ 7) && decide (b = 10) with
 | true => some (digS a)
 | false => none
def prFmt : List V → Option V
 | [.int .i64 a, .int .i64 b] => match fmtQ a b with
  | some z => some (.str z)
  | none => none
 | _ => none
def wordsOf : List UInt8 → List (List UInt8)
 | [] => [[]]
 | b :: l => match b == 32 with
  | true => [] :: wordsOf l
  | false => match wordsOf l with
   | [] => [[b]]
   | w :: ws => (b :: w) :: ws
def wordP (w : List UInt8) : Option (Int × Int) := match w with
 | [a, b] => match isP (IntKind.i8.wrap (Lib.indexByte [108, 114, 109] a)) (IntKind.i8.wrap (IntKind.i8.wrap (IntKind.u8.wrap (BitVec.ofInt IntKind.u8.bits b.toNat &&& BitVec.ofInt IntKind.u8.bits 127).toNat) - 48)) with
  | true => match (handS (IntKind.i8.wrap (Lib.indexByte [108, 114, 109] a)) ++ digS (IntKind.i8.wrap (IntKind.i8.wrap (IntKind.u8.wrap (BitVec.ofInt IntKind.u8.bits b.toNat &&& BitVec.ofInt IntKind.u8.bits 127).toNat) - 48))).toList == [a, b] with
   | true => some (IntKind.i8.wrap (Lib.indexByte [108, 114, 109] a), IntKind.i8.wrap (IntKind.i8.wrap (IntKind.u8.wrap (BitVec.ofInt IntKind.u8.bits b.toNat &&& BitVec.ofInt IntKind.u8.bits 127).toNat) - 48))
   | false => none
  | false => none
 | _ => none
def rpGo : List (List UInt8) → List (Int × Int) → List (Int × Int) × Int
 | [], acc => (acc, 0)
 | w :: ws, acc => match decide (acc.length = 30) with
  | true => ([], 5)
  | false => match wordP w with
   | some p => rpGo ws (acc ++ [p])
   | none => ([], 5)
def rpQ (s : ByteArray) : List (Int × Int) × Int := match decide (s.size = 0) with
 | true => ([], 0)
 | false => rpGo (wordsOf s.data.toList) []
def pcV (p : Int × Int) : V := .parts [.int .i8 p.1, .int .i8 p.2]
def prRows (s : ByteArray) : List V := (rpQ s).1.map pcV
def prCode (s : ByteArray) : Int := (rpQ s).2
def prRead : List V → Option V
 | [.str s] => match decide (s.size ≤ 1048576) with
  | true => some (.tup [.fresh 45 (prRows s), .int .i64 (prCode s)])
  | false => none
 | _ => none
theorem RFC_int {w : World} {ok : Nat → Prop} {k : IntKind} {n : Int} {vs : List V} {us : List Value} (h : RFC w ok (.int k n :: vs) us) : ∃ l, us = .int k n :: l ∧ RFC w ok vs l := by
 simp only [RFC, RF, aggOk] at h
 obtain ⟨u, l, rfl, h1, h2, h3⟩ := h
 have : u = .int k n := by cases u <;> simp [Value.oneCell', Value.cells] at h1 h2 <;> simp [h1]
 exact ⟨l, by rw [this], h3⟩
theorem RFC_str {w : World} {ok : Nat → Prop} {s : ByteArray} {vs : List V} {us : List Value} (h : RFC w ok (.str s :: vs) us) : ∃ l, us = .string s :: l ∧ RFC w ok vs l := by
 simp only [RFC, RF, aggOk] at h
 obtain ⟨u, l, rfl, h1, h2, h3⟩ := h
 have : u = .string s := by cases u <;> simp [Value.oneCell', Value.cells] at h1 h2 <;> simp [h1]
 exact ⟨l, by rw [this], h3⟩
theorem RFC_nil {w : World} {ok : Nat → Prop} {us : List Value} (h : RFC w ok [] us) : us = [] := by simpa only [RFC] using h
theorem res_one {E : Env} {no : Nat → Prop} {w w' : World} {r : V} {u : Value} (hno : ∀ b, no b → b < w.heap.size) (hb : Below w.heap.size w w') (hr : ∀ i, recv r i = (r, [])) (h : ∀ σ : Sg, RT E ent0 σ w' r u) : ResR E no w w' r u := by
 intro i _
 rw [hr i]
 refine ⟨⟨fun _ => undef, no⟩, rfl, ⟨⟨hb.os, hb.tape, hb.output, hb.size, fun k hk => hb.block k hk⟩, fun b h => h, fun _ => trivial, ?_, hno, ?_⟩, h _⟩
 ·intro id b hl; simp [updE, find, ent0, Ent.live] at hl
 ·intro i j b _ hl; simp [updE, find, ent0, Ent.live] at hl
theorem res_str {E : Env} {no : Nat → Prop} {w w' : World} {s : ByteArray} (hno : ∀ b, no b → b < w.heap.size) (hb : Below w.heap.size w w') : ResR E no w w' (.str s) (.string s) :=
 res_one hno hb (fun _ => rfl) fun σ => ⟨rfl, by simp [RO1, RF]⟩
theorem res_bool {E : Env} {no : Nat → Prop} {w w' : World} {b : Bool} (hno : ∀ b, no b → b < w.heap.size) (hb : Below w.heap.size w w') : ResR E no w w' (.bool b) (.bool b) :=
 res_one hno hb (fun _ => rfl) fun σ => ⟨rfl, by simp [RO1, RF]⟩
theorem res_int {E : Env} {no : Nat → Prop} {w w' : World} {k : IntKind} {n : Int} (hno : ∀ b, no b → b < w.heap.size) (hb : Below w.heap.size w w') : ResR E no w w' (.int k n) (.int k n) :=
 res_one hno hb (fun _ => rfl) fun σ => ⟨rfl, by simp [RO1, RF]⟩
theorem prFmt_ok (E : Env) {avs : List V} {r : V} (h : prFmt avs = some r) : FunOk Tryz.prog E 65 avs r := by
 refine ⟨⟨_, Tryz.func65, by kernel_rfl⟩, fun no w us hno hus => ?_⟩
 unfold prFmt at h
 split at h
 ·rename_i a b
  split at h
  ·rename_i z hz
   simp only [Option.some.injEq] at h
   subst h
   obtain ⟨l1, e1, h1⟩ := RFC_int hus
   obtain ⟨l2, e2, h2⟩ := RFC_int h1
   have e3 := RFC_nil h2
   subst e3
   subst e2
   subst e1
   clear h1 h2 hus
   unfold fmtQ at hz
   split at hz
   ·rename_i hc
    simp only [Bool.and_eq_true, decide_eq_true_eq] at hc
    simp only [Option.some.injEq] at hz
    subst hz
    obtain ⟨⟨c1, c2⟩, rfl⟩ := hc
    refine (format27_ok a ⟨c1, c2⟩ w).mono ?_
    rintro e w' ⟨rfl, rfl⟩
    exact res_str hno (Below.refl _ _)
   ·cases hz
  ·cases h
 ·cases h
end Go.Proofs.YthdnamhilcjnhaaGreatDoor
namespace Go.Proofs.YthdnamhilcjnhaaGreatDoor
open Go
theorem AI {a b : Prop} (x : a) (y : b) : a ∧ b := And.intro x y
set_option linter.unusedVariables false
set_option linter.unusedSimpArgs false
def as_LPi8_i8Q : V → Option (List V)
 | (V.sl (e0)) => some e0
 | _ => none
theorem as_LPi8_i8Q_some {x : Option V} {e0 : List V} (h : bnd x as_LPi8_i8Q = some e0) : x = some (V.sl (e0)) := by
 obtain ⟨v, rfl, k⟩ := bnd_some h
 unfold as_LPi8_i8Q at k
 split at k
 ·simp only [Option.some.injEq, Prod.mk.injEq] at k
  obtain rfl := k
  rfl
 ·cases k
def as_Pi8_i8Q : V → Option (Int × Int)
 | (V.parts [(V.int .i8 (e0)), (V.int .i8 (e1))]) => some (e0, e1)
 | _ => none
theorem as_Pi8_i8Q_some {x : Option V} {e0 : Int} {e1 : Int} (h : bnd x as_Pi8_i8Q = some (e0, e1)) : x = some (V.parts [(V.int .i8 (e0)), (V.int .i8 (e1))]) := by
 obtain ⟨v, rfl, k⟩ := bnd_some h
 unfold as_Pi8_i8Q at k
 split at k
 ·simp only [Option.some.injEq, Prod.mk.injEq] at k
  obtain ⟨rfl, rfl⟩ := k
  rfl
 ·cases k
def as_u8 : V → Option (Int)
 | (V.int .u8 (e0)) => some e0
 | _ => none
theorem as_u8_some {x : Option V} {e0 : Int} (h : bnd x as_u8 = some e0) : x = some (V.int .u8 (e0)) := by
 obtain ⟨v, rfl, k⟩ := bnd_some h
 unfold as_u8 at k
 split at k
 ·simp only [Option.some.injEq, Prod.mk.injEq] at k
  obtain rfl := k
  rfl
 ·cases k
def s_strconv_FormatInt (n : Nat) (a0 : Int) (a1 : Int) : Option ByteArray :=
 fmtQ a0 a1
def s_impl_dec_int8 (n : Nat) (a0 : Int) : Option (ByteArray) :=
 bnd (s_strconv_FormatInt n (IntKind.i64.wrap (a0)) 10) fun y1_0 =>
  some (y1_0)
def s_impl_pieceText (n : Nat) (a0 : Int) (a1 : Int) : Option (ByteArray) :=
 chk (decide (0 ≤ IntKind.i8.wrap ((a0) + (1))) && decide (IntKind.i8.wrap ((a0) + (1)) ≤ (((⟨#[108, 114, 109]⟩ : ByteArray)).size : Int)))
  (chk (decide (0 ≤ a0) && decide (a0 ≤ ((IntKind.i8.wrap ((a0) + (1))).toNat : Int)))
   (bnd (s_impl_dec_int8 n a1) fun y3_0 =>
    chk (decide (((((((⟨#[108, 114, 109]⟩ : ByteArray)).extract (a0).toNat (IntKind.i8.wrap ((a0) + (1))).toNat).size + (y3_0).size) : Nat) : Int) ≤ 9223372036854775807))
     (some ((((⟨#[108, 114, 109]⟩ : ByteArray)).extract (a0).toNat (IntKind.i8.wrap ((a0) + (1))).toNat) ++ y3_0))))
def s_impl_within_int8 (n : Nat) (a0 : Int) (a1 : Int) (a2 : Int) : Option (Bool) :=
 cnd (decide ((a1) ≤ (a0)))
  (some ((decide ((a0) ≤ (a2)))))
  (some (false))
def s_impl_isPiece (n : Nat) (a0 : Int) (a1 : Int) : Option (Bool) :=
 bnd (s_impl_within_int8 n a0 0 2) fun y1_0 =>
  cnd (y1_0)
   (bnd (s_impl_within_int8 n a1 1 7) fun y3_0 =>
    some ((y3_0)))
   (some (false))
def s_impl_areAll_impl_Piece_1__isPiece (n : Nat) (a0 : Int) (a1 : Int) : Option (Bool) :=
 bnd (s_impl_isPiece n a0 a1) fun y1_0 =>
  some ((!(y1_0)))
def l_ixPc_b0 : Nat → (List V) → (Int) → (Int) →  Option (Sum (Unit) (Int))
 | 0, _, _, _ => none
 | n + 1, a0, a1, a2 =>
  cnd (decide ((a2) < (a1)))
   (bnd (bnd (idx (a0) (a2)) as_Pi8_i8Q) fun (e2_0, e2_1) =>
    bnd (s_impl_areAll_impl_Piece_1__isPiece n e2_0 e2_1) fun y3_0 =>
     cnd (y3_0)
      (some (.inr (a2)))
      (l_ixPc_b0 n a0 a1 (IntKind.i64.wrap ((a2) + (1)))))
   (some (.inl (())))
def s_ixPc (n : Nat) (a0 : List V) : Option (Int) :=
 bnd (l_ixPc_b0 n a0 (((a0).length : Int)) 0) fun w => match w with
  | .inl _ =>
   some (-1)
  | .inr u6_0 =>
   some (u6_0)
def s_cnPc (n : Nat) (a0 : List V) : Option (Bool) :=
 bnd (s_ixPc n a0) fun y1_0 =>
  some ((decide ((0) ≤ (y1_0))))
def s_impl_areAll_impl_Piece__isPiece (n : Nat) (a0 : List V) : Option (Bool) :=
 bnd (s_cnPc n a0) fun y1_0 =>
  some ((!(y1_0)))
def s_impl_piecesCode_1 (n : Nat) (a0 : List V) : Option (Bool) :=
 bnd (s_impl_areAll_impl_Piece__isPiece n a0) fun y1_0 =>
  some ((y1_0))
def s_impl_areAll_Simpl_Piece_1__piecesCode_1 (n : Nat) (a0 : List V) : Option (Bool) :=
 bnd (s_impl_piecesCode_1 n a0) fun y1_0 =>
  some ((!(y1_0)))
def l_ixPa_b0 : Nat → (List V) → (Int) → (Int) →  Option (Sum (Unit) (Int))
 | 0, _, _, _ => none
 | n + 1, a0, a1, a2 =>
  cnd (decide ((a2) < (a1)))
   (bnd (bnd (idx (a0) (a2)) as_LPi8_i8Q) fun e2_0 =>
    bnd (s_impl_areAll_Simpl_Piece_1__piecesCode_1 n e2_0) fun y3_0 =>
     cnd (y3_0)
      (some (.inr (a2)))
      (l_ixPa_b0 n a0 a1 (IntKind.i64.wrap ((a2) + (1)))))
   (some (.inl (())))
def s_ixPa (n : Nat) (a0 : List V) : Option (Int) :=
 bnd (l_ixPa_b0 n a0 (((a0).length : Int)) 0) fun w => match w with
  | .inl _ =>
   some (-1)
  | .inr u6_0 =>
   some (u6_0)
def s_cnPa (n : Nat) (a0 : List V) : Option (Bool) :=
 bnd (s_ixPa n a0) fun y1_0 =>
  some ((decide ((0) ≤ (y1_0))))
def s_impl_areAll_Simpl_Piece__piecesCode_1 (n : Nat) (a0 : List V) : Option (Bool) :=
 bnd (s_cnPa n a0) fun y1_0 =>
  some ((!(y1_0)))
def s_impl_piecesCode_2 (n : Nat) (a0 : List V) : Option (Bool) :=
 some ((decide ((((a0).length : Int)) ≤ (30))))
def s_impl_areAll_Simpl_Piece_1__piecesCode_2 (n : Nat) (a0 : List V) : Option (Bool) :=
 bnd (s_impl_piecesCode_2 n a0) fun y1_0 =>
  some ((!(y1_0)))
def l_ixPb_b0 : Nat → (List V) → (Int) → (Int) →  Option (Sum (Unit) (Int))
 | 0, _, _, _ => none
 | n + 1, a0, a1, a2 =>
  cnd (decide ((a2) < (a1)))
   (bnd (bnd (idx (a0) (a2)) as_LPi8_i8Q) fun e2_0 =>
    bnd (s_impl_areAll_Simpl_Piece_1__piecesCode_2 n e2_0) fun y3_0 =>
     cnd (y3_0)
      (some (.inr (a2)))
      (l_ixPb_b0 n a0 a1 (IntKind.i64.wrap ((a2) + (1)))))
   (some (.inl (())))
def s_ixPb (n : Nat) (a0 : List V) : Option (Int) :=
 bnd (l_ixPb_b0 n a0 (((a0).length : Int)) 0) fun w => match w with
  | .inl _ =>
   some (-1)
  | .inr u6_0 =>
   some (u6_0)
def s_cnPb (n : Nat) (a0 : List V) : Option (Bool) :=
 bnd (s_ixPb n a0) fun y1_0 =>
  some ((decide ((0) ≤ (y1_0))))
def s_impl_areAll_Simpl_Piece__piecesCode_2 (n : Nat) (a0 : List V) : Option (Bool) :=
 bnd (s_cnPb n a0) fun y1_0 =>
  some ((!(y1_0)))
def s_impl_piecesCode (n : Nat) (a0 : List V) : Option (Int) :=
 bnd (s_impl_areAll_Simpl_Piece__piecesCode_1 n a0) fun y1_0 =>
  cnd (y1_0)
   (bnd (s_impl_areAll_Simpl_Piece__piecesCode_2 n a0) fun y3_0 =>
    cnd (y3_0)
     (some (0))
     (some (3)))
   (some (1))
def l_impl_each_impl_Piece_string__pieceText_b0 : Nat → (List V) → (Int) → (Int) → (List V) →  Option (List V)
 | 0, _, _, _, _ => none
 | n + 1, a0, a1, a2, a3 =>
  cnd (decide ((a2) < (a1)))
   (bnd (bnd (idx (a0) (a2)) as_Pi8_i8Q) fun (e2_0, e2_1) =>
    bnd (s_impl_pieceText n e2_0 e2_1) fun y3_0 =>
     chk (decide (((a3).length + ([(V.str y3_0)]).length) * 16 ≤ 140737488355328))
      (l_impl_each_impl_Piece_string__pieceText_b0 n a0 a1 (IntKind.i64.wrap ((a2) + (1))) (a3 ++ ([(V.str y3_0)]))))
   (some (a3))
def s_impl_each_impl_Piece_string__pieceText (n : Nat) (a0 : List V) : Option (List V) :=
 bnd (l_impl_each_impl_Piece_string__pieceText_b0 n a0 (((a0).length : Int)) 0 (([] : List V))) fun u5_0 =>
  some (u5_0)
def s_spec_l00From (n : Nat) (a0 : List V) : Option (List V × Int × Int) :=
 some ((a0, 0, 0))
def s_pspec_l00Src_next (n : Nat) (a0 : List V) (a1 : Int) (a2 : Int) : Option (Int × List V × Int × Int) :=
 cnd (decide ((a1) < (((a0).length : Int))))
  (bnd (bnd (idx (a0) (a1)) as_u8) fun e2_0 =>
   cnd (decide ((IntKind.i64.wrap ((a1) + (1))) ≤ (((a0).length : Int))))
    (some ((IntKind.i64.wrap (e2_0), a0, IntKind.i64.wrap ((a1) + (1)), IntKind.u64.wrap ((IntKind.u64.wrap ((IntKind.u64.wrap ((a2) * (6364136223846793005))) + (IntKind.u64.wrap (IntKind.i64.wrap (e2_0))))) + (1442695040888963407)))))
    (chk (decide (0 ≤ 40))
     (some ((IntKind.i64.wrap (IntKind.u64.wrap (BitVec.ofInt IntKind.u64.bits ((IntKind.u64.wrap ((IntKind.u64.wrap ((IntKind.u64.wrap ((a2) * (6364136223846793005))) + (IntKind.u64.wrap (IntKind.i64.wrap (e2_0))))) + (1442695040888963407))).fdiv (2 ^ (min ((40 : Int)).toNat IntKind.u64.bits))) &&& BitVec.ofInt IntKind.u64.bits (255)).toNat), a0, IntKind.i64.wrap ((a1) + (1)), IntKind.u64.wrap ((IntKind.u64.wrap ((IntKind.u64.wrap ((a2) * (6364136223846793005))) + (IntKind.u64.wrap (IntKind.i64.wrap (e2_0))))) + (1442695040888963407)))))))
  (cnd (decide ((IntKind.i64.wrap ((a1) + (1))) ≤ (((a0).length : Int))))
   (some ((0, a0, IntKind.i64.wrap ((a1) + (1)), IntKind.u64.wrap ((IntKind.u64.wrap ((IntKind.u64.wrap ((a2) * (6364136223846793005))) + (IntKind.u64.wrap (0)))) + (1442695040888963407)))))
   (chk (decide (0 ≤ 40))
    (some ((IntKind.i64.wrap (IntKind.u64.wrap (BitVec.ofInt IntKind.u64.bits ((IntKind.u64.wrap ((IntKind.u64.wrap ((IntKind.u64.wrap ((a2) * (6364136223846793005))) + (IntKind.u64.wrap (0)))) + (1442695040888963407))).fdiv (2 ^ (min ((40 : Int)).toNat IntKind.u64.bits))) &&& BitVec.ofInt IntKind.u64.bits (255)).toNat), a0, IntKind.i64.wrap ((a1) + (1)), IntKind.u64.wrap ((IntKind.u64.wrap ((IntKind.u64.wrap ((a2) * (6364136223846793005))) + (IntKind.u64.wrap (0)))) + (1442695040888963407)))))))
def s_pspec_l00Src_pick (n : Nat) (a0 : List V) (a1 : Int) (a2 : Int) (a3 : Int) : Option (Int × List V × Int × Int) :=
 cnd (decide ((a3) ≤ (1)))
  (some ((0, a0, a1, a2)))
  (bnd (s_pspec_l00Src_next n a0 a1 a2) fun (y2_0, y2_1, y2_2, y2_3) =>
   cnd (decide ((200) < (a3)))
    (bnd (s_pspec_l00Src_next n y2_1 y2_2 y2_3) fun (y4_0, y4_1, y4_2, y4_3) =>
     chk (!decide ((a3) = 0))
      (some (((IntKind.i64.wrap ((IntKind.i64.wrap ((y2_0) * (256))) + (y4_0))).tmod (a3), y4_1, y4_2, y4_3))))
    (chk (!decide ((a3) = 0))
     (some (((y2_0).tmod (a3), y2_1, y2_2, y2_3)))))
def s_pspec_l00Src_one (n : Nat) (a0 : List V) (a1 : Int) (a2 : Int) (a3 : Int) : Option (Bool × List V × Int × Int) :=
 bnd (s_pspec_l00Src_pick n a0 a1 a2 a3) fun (y1_0, y1_1, y1_2, y1_3) =>
  some (((decide ((y1_0) = (0))), y1_1, y1_2, y1_3))
def l_spec_A2Pieces_b0 : Nat → (Int) → (List V) → (Int) → (Int) → (List V) →  Option (List V)
 | 0, _, _, _, _, _ => none
 | n + 1, a0, a1, a2, a3, a4 =>
  cnd (decide ((0) < (a0)))
   (bnd (s_pspec_l00Src_pick n a1 a2 a3 2) fun (y4_0, y4_1, y4_2, y4_3) =>
    bnd (s_pspec_l00Src_pick n y4_1 y4_2 y4_3 7) fun (y5_0, y5_1, y5_2, y5_3) =>
     bnd (s_pspec_l00Src_one n y5_1 y5_2 y5_3 6) fun (y6_0, y6_1, y6_2, y6_3) =>
      cnd (y6_0)
       (chk (decide (((a4).length + ([(V.parts [(V.int .i8 (2)), (V.int .i8 (IntKind.i8.wrap (IntKind.i64.wrap ((1) + (y5_0)))))])]).length) * 2 ≤ 140737488355328))
        (l_spec_A2Pieces_b0 n (IntKind.i64.wrap ((a0) - (1))) y6_1 y6_2 y6_3 (a4 ++ ([(V.parts [(V.int .i8 (2)), (V.int .i8 (IntKind.i8.wrap (IntKind.i64.wrap ((1) + (y5_0)))))])]))))
       (chk (decide (((a4).length + ([(V.parts [(V.int .i8 (IntKind.i8.wrap (y4_0))), (V.int .i8 (IntKind.i8.wrap (IntKind.i64.wrap ((1) + (y5_0)))))])]).length) * 2 ≤ 140737488355328))
        (l_spec_A2Pieces_b0 n (IntKind.i64.wrap ((a0) - (1))) y6_1 y6_2 y6_3 (a4 ++ ([(V.parts [(V.int .i8 (IntKind.i8.wrap (y4_0))), (V.int .i8 (IntKind.i8.wrap (IntKind.i64.wrap ((1) + (y5_0)))))])])))))
   (some (a4))
def s_spec_A2Pieces (n : Nat) (a0 : List V) : Option (List V) :=
 bnd (s_spec_l00From n a0) fun (y1_0, y1_1, y1_2) =>
  bnd (s_pspec_l00Src_pick n y1_0 y1_1 y1_2 10) fun (y2_0, y2_1, y2_2, y2_3) =>
   bnd (l_spec_A2Pieces_b0 n y2_0 y2_1 y2_2 y2_3 ([])) fun u10_0 =>
    some (u10_0)
end Go.Proofs.YthdnamhilcjnhaaGreatDoor
namespace Go.Proofs.YthdnamhilcjnhaaGreatDoor
open Go
set_option linter.unusedVariables false
def psOf : List V → Option (List (Int × Int))
 | [] => some []
 | x :: xs => match x with
  | .parts ps => match ps with
   | [.int .i8 a, .int .i8 b] => match psOf xs with
    | some l => some ((a, b) :: l)
    | none => none
   | _ => none
  | _ => none
def txtP (p : Int × Int) : List UInt8 := (handS p.1 ++ digS p.2).data.toList
def joinP (l : List (Int × Int)) : ByteArray := ⟨(Lib.join (l.map txtP) [32]).toArray⟩
def fineP (l : List (Int × Int)) : Bool := l.all (fun p => isP p.1 p.2) && decide (l.length ≤ 30)
def ptQ (xs : List V) : Option ByteArray := match psOf xs with
 | some l => match fineP l with
  | true => some (joinP l)
  | false => none
 | none => none
def prPText : List V → Option V
 | [.sl xs] => match ptQ xs with
  | some z => some (.str z)
  | none => none
 | _ => none
open Classical in
noncomputable def a2Q (xs : List V) : Option (List V) := if h : ∃ ys, Ev (fun n => s_spec_A2Pieces n xs) ys then some h.choose else none
theorem a2Q_some {xs ys : List V} (h : a2Q xs = some ys) : Ev (fun n => s_spec_A2Pieces n xs) ys := by
 unfold a2Q at h
 split at h
 ·rename_i hx
  obtain rfl := Option.some.inj h
  exact hx.choose_spec
 ·cases h
theorem a2Q_of {xs ys : List V} (h : Ev (fun n => s_spec_A2Pieces n xs) ys) : a2Q xs = some ys := by
 unfold a2Q
 have hx : ∃ ys, Ev (fun n => s_spec_A2Pieces n xs) ys := ⟨ys, h⟩
 rw [dif_pos hx, ev_two hx.choose_spec h]
noncomputable def prA2 : List V → Option V
 | [.sl xs] => match a2Q xs with
  | some z => some (.sl z)
  | none => none
 | _ => none
end Go.Proofs.YthdnamhilcjnhaaGreatDoor
namespace Go.Proofs.YthdnamhilcjnhaaGreatDoor
open Go
set_option linter.unusedVariables false
set_option linter.unusedSimpArgs false
noncomputable section
def as_Li64 : V → Option (List V)
 | (V.sl (e0)) => some e0
 | _ => none
theorem as_Li64_some {x : Option V} {e0 : List V} (h : bnd x as_Li64 = some e0) : x = some (V.sl (e0)) := by
 obtain ⟨v, rfl, k⟩ := bnd_some h
 unfold as_Li64 at k
 split at k
 ·simp only [Option.some.injEq, Prod.mk.injEq] at k
  obtain rfl := k
  rfl
 ·cases k
def as_b : V → Option (Bool)
 | (V.bool (e0)) => some e0
 | _ => none
theorem as_b_some {x : Option V} {e0 : Bool} (h : bnd x as_b = some e0) : x = some (V.bool (e0)) := by
 obtain ⟨v, rfl, k⟩ := bnd_some h
 unfold as_b at k
 split at k
 ·simp only [Option.some.injEq, Prod.mk.injEq] at k
  obtain rfl := k
  rfl
 ·cases k
def as_i64 : V → Option (Int)
 | (V.int .i64 (e0)) => some e0
 | _ => none
theorem as_i64_some {x : Option V} {e0 : Int} (h : bnd x as_i64 = some e0) : x = some (V.int .i64 (e0)) := by
 obtain ⟨v, rfl, k⟩ := bnd_some h
 unfold as_i64 at k
 split at k
 ·simp only [Option.some.injEq, Prod.mk.injEq] at k
  obtain rfl := k
  rfl
 ·cases k
def s_laws_a2Long (n : Nat) (a0 : List V) (a1 : List V) : Option (Bool) :=
 cnd (decide ((3000) < (((a0).length : Int))))
  (some (true))
  (some ((decide ((3000) < (((a1).length : Int))))))
def s_spec_A2Pieces_c (n : Nat) (a0 : List V) : Option (List V) :=
 a2Q a0
def s_impl_PiecesText (n : Nat) (a0 : List V) : Option ByteArray :=
 ptQ a0
def s_impl_ReadPieces (n : Nat) (a0 : ByteArray) : Option (List V × Int) :=
 chk (decide (a0.size ≤ 1048576))
  (some (prRows a0, prCode a0))
def l_impl_upTo_b0 : Nat → (Int) → (Int) → (List V) →  Option (List V)
 | 0, _, _, _ => none
 | n + 1, a0, a1, a2 =>
  cnd (decide ((a1) < (a0)))
   (chk (decide (((a2).length + ([(V.int .i64 (a1))]).length) * 8 ≤ 140737488355328))
    (l_impl_upTo_b0 n a0 (IntKind.i64.wrap ((a1) + (1))) (a2 ++ ([(V.int .i64 (a1))]))))
   (some (a2))
def s_impl_upTo (n : Nat) (a0 : Int) : Option (List V) :=
 bnd (l_impl_upTo_b0 n a0 0 (([] : List V))) fun u3_0 =>
  some (u3_0)
def s_cmp_isNaN_int8 (n : Nat) (a0 : Int) : Option (Bool) :=
 some ((!(decide ((a0) = (a0)))))
def s_cmp_Compare_int8 (n : Nat) (a0 : Int) (a1 : Int) : Option (Int) :=
 bnd (s_cmp_isNaN_int8 n a0) fun y1_0 =>
  bnd (s_cmp_isNaN_int8 n a1) fun y2_0 =>
   cnd (y1_0)
    (cnd (y2_0)
     (some (0))
     (some (-1)))
    (cnd (y2_0)
     (some (1))
     (cnd (decide ((a0) < (a1)))
      (some (-1))
      (cnd (decide ((a1) < (a0)))
       (some (1))
       (some (0)))))
def s_impl_byWidth_1 (n : Nat) (a0 : Int) (a1 : Int) (a2 : List V) : Option (Int) :=
 bnd (bnd (idx (a2) (a1)) as_Pi8_i8Q) fun (e1_0, e1_1) =>
  bnd (bnd (idx (a2) (a0)) as_Pi8_i8Q) fun (e2_0, e2_1) =>
   bnd (s_cmp_Compare_int8 n e1_1 e2_1) fun y3_0 =>
    some (y3_0)
def l_insC_b2 : Nat → (Int) → (Int) → (List V) → (Int) → (Int) → (List V) →  Option (Int × Int × List V × Int × List V)
 | 0, _, _, _, _, _, _ => none
 | n + 1, a0, a1, a2, a3, a4, a5 =>
  cnd (decide ((a0) < (a4)))
   (chk (inB (a4) (a5).length)
    (bnd (bnd (nth (a5) ((a4).toNat)) as_i64) fun e4_0 =>
     chk (inB (IntKind.i64.wrap ((a4) - (1))) (a5).length)
      (bnd (bnd (nth (a5) ((IntKind.i64.wrap ((a4) - (1))).toNat)) as_i64) fun e6_0 =>
       bnd (s_impl_byWidth_1 n e4_0 e6_0 a2) fun y7_0 =>
        cnd (decide ((y7_0) < (0)))
         (bnd (bnd (nth (a5) ((IntKind.i64.wrap ((a4) - (1))).toNat)) as_i64) fun e9_0 =>
          bnd (bnd (nth (a5) ((a4).toNat)) as_i64) fun e10_0 =>
           bnd (bnd (nth (a5) ((a4).toNat)) as_i64) fun e11_0 =>
            chk (inB (IntKind.i64.wrap ((a4) - (1))) (setNth (a5) ((a4).toNat) (V.int .i64 (e9_0))).length)
             (bnd (bnd (nth (setNth (a5) ((a4).toNat) (V.int .i64 (e9_0))) ((IntKind.i64.wrap ((a4) - (1))).toNat)) as_i64) fun e13_0 =>
              l_insC_b2 n a0 a1 a2 a3 (IntKind.i64.wrap ((a4) - (1))) (setNth (setNth (a5) ((a4).toNat) (V.int .i64 (e9_0))) ((IntKind.i64.wrap ((a4) - (1))).toNat) (V.int .i64 (e10_0)))))
         (some ((a0, a1, a2, a3, a5))))))
   (some ((a0, a1, a2, a3, a5)))
def l_insC_b0 : Nat → (Int) → (Int) → (List V) → (Int) → (List V) →  Option (List V)
 | 0, _, _, _, _, _ => none
 | n + 1, a0, a1, a2, a3, a4 =>
  cnd (decide ((a3) < (a1)))
   (bnd (l_insC_b2 n a0 a1 a2 a3 a3 a4) fun (u14_0, u14_1, u14_2, u14_3, u14_4) =>
    l_insC_b0 n u14_0 u14_1 u14_2 (IntKind.i64.wrap ((u14_3) + (1))) u14_4)
   (some (a4))
def s_insC (n : Nat) (a0 : List V) (a1 : Int) (a2 : Int) (a3 : List V) : Option (List V) :=
 bnd (l_insC_b0 n a1 a2 a3 (IntKind.i64.wrap ((a1) + (1))) a0) fun u16_0 =>
  some (u16_0)
def l_swpC_b0 : Nat → (Int) → (Int) → (Int) → (Int) → (List V) →  Option (List V)
 | 0, _, _, _, _, _ => none
 | n + 1, a0, a1, a2, a3, a4 =>
  cnd (decide ((a3) < (a2)))
   (chk (inB (IntKind.i64.wrap ((a1) + (a3))) (a4).length)
    (bnd (bnd (nth (a4) ((IntKind.i64.wrap ((a1) + (a3))).toNat)) as_i64) fun e3_0 =>
     chk (inB (IntKind.i64.wrap ((a0) + (a3))) (a4).length)
      (bnd (bnd (nth (a4) ((IntKind.i64.wrap ((a0) + (a3))).toNat)) as_i64) fun e5_0 =>
       bnd (bnd (nth (a4) ((IntKind.i64.wrap ((a0) + (a3))).toNat)) as_i64) fun e6_0 =>
        chk (inB (IntKind.i64.wrap ((a1) + (a3))) (setNth (a4) ((IntKind.i64.wrap ((a0) + (a3))).toNat) (V.int .i64 (e3_0))).length)
         (bnd (bnd (nth (setNth (a4) ((IntKind.i64.wrap ((a0) + (a3))).toNat) (V.int .i64 (e3_0))) ((IntKind.i64.wrap ((a1) + (a3))).toNat)) as_i64) fun e8_0 =>
          l_swpC_b0 n a0 a1 a2 (IntKind.i64.wrap ((a3) + (1))) (setNth (setNth (a4) ((IntKind.i64.wrap ((a0) + (a3))).toNat) (V.int .i64 (e3_0))) ((IntKind.i64.wrap ((a1) + (a3))).toNat) (V.int .i64 (e5_0)))))))
   (some (a4))
def s_swpC (n : Nat) (a0 : List V) (a1 : Int) (a2 : Int) (a3 : Int) (a4 : List V) : Option (List V) :=
 bnd (l_swpC_b0 n a1 a2 a3 0 a0) fun u9_0 =>
  some (u9_0)
def l_rotC_b0 : Nat → (Int) → (List V) → (Int) → (Int) → (List V) →  Option (Int × List V × Int × List V)
 | 0, _, _, _, _, _ => none
 | n + 1, a0, a1, a2, a3, a4 =>
  cnd (decide ((a2) = (a3)))
   (some ((a0, a1, a2, a4)))
   (cnd (decide ((a3) < (a2)))
    (bnd (s_swpC n a4 (IntKind.i64.wrap ((a0) - (a2))) a0 a3 a1) fun y3_0 =>
     chk (likeRows (a4) (y3_0))
      (l_rotC_b0 n a0 a1 (IntKind.i64.wrap ((a2) - (a3))) a3 y3_0))
    (bnd (s_swpC n a4 (IntKind.i64.wrap ((a0) - (a2))) (IntKind.i64.wrap ((IntKind.i64.wrap ((a0) + (a3))) - (a2))) a2 a1) fun y5_0 =>
     chk (likeRows (a4) (y5_0))
      (l_rotC_b0 n a0 a1 a2 (IntKind.i64.wrap ((a3) - (a2))) y5_0)))
def s_rotC (n : Nat) (a0 : List V) (a1 : Int) (a2 : Int) (a3 : Int) (a4 : List V) : Option (List V) :=
 bnd (l_rotC_b0 n a2 a4 (IntKind.i64.wrap ((a2) - (a1))) (IntKind.i64.wrap ((a3) - (a2))) a0) fun (u7_0, u7_1, u7_2, u7_3) =>
  bnd (s_swpC n u7_3 (IntKind.i64.wrap ((u7_0) - (u7_2))) u7_0 u7_2 u7_1) fun y9_0 =>
   chk (likeRows (u7_3) (y9_0))
    (some (y9_0))
def l_symM_b0 (self : (List V) → (Int) → (Int) → (Int) → (List V) → Option (List V)) : Nat → (Int) → (List V) → (Int) → (Int) → (List V) →  Option (Int × Int × List V)
 | 0, _, _, _, _, _ => none
 | n + 1, a0, a1, a2, a3, a4 =>
  cnd (decide ((a2) < (a3)))
   (chk (decide (0 ≤ 1))
    (chk (inB (IntKind.i64.wrap ((IntKind.u64.wrap (IntKind.i64.wrap ((a2) + (a3)))).fdiv (2 ^ (min ((1 : Int)).toNat IntKind.u64.bits)))) (a4).length)
     (bnd (bnd (nth (a4) ((IntKind.i64.wrap ((IntKind.u64.wrap (IntKind.i64.wrap ((a2) + (a3)))).fdiv (2 ^ (min ((1 : Int)).toNat IntKind.u64.bits)))).toNat)) as_i64) fun e5_0 =>
      chk (inB (a0) (a4).length)
       (bnd (bnd (nth (a4) ((a0).toNat)) as_i64) fun e7_0 =>
        bnd (s_impl_byWidth_1 n e5_0 e7_0 a1) fun y8_0 =>
         cnd (decide ((y8_0) < (0)))
          (l_symM_b0 self n a0 a1 (IntKind.i64.wrap ((IntKind.i64.wrap ((IntKind.u64.wrap (IntKind.i64.wrap ((a2) + (a3)))).fdiv (2 ^ (min ((1 : Int)).toNat IntKind.u64.bits)))) + (1))) a3 a4)
          (l_symM_b0 self n a0 a1 a2 (IntKind.i64.wrap ((IntKind.u64.wrap (IntKind.i64.wrap ((a2) + (a3)))).fdiv (2 ^ (min ((1 : Int)).toNat IntKind.u64.bits)))) a4)))))
   (some ((a0, a2, a4)))
def l_symM_b2 (self : (List V) → (Int) → (Int) → (Int) → (List V) → Option (List V)) : Nat → (Int) → (Int) → (List V) →  Option (List V)
 | 0, _, _, _ => none
 | n + 1, a0, a1, a2 =>
  cnd (decide ((a1) < (IntKind.i64.wrap ((a0) - (1)))))
   (chk (inB (IntKind.i64.wrap ((a1) + (1))) (a2).length)
    (bnd (bnd (nth (a2) ((IntKind.i64.wrap ((a1) + (1))).toNat)) as_i64) fun e14_0 =>
     chk (inB (a1) (a2).length)
      (bnd (bnd (nth (a2) ((a1).toNat)) as_i64) fun e16_0 =>
       bnd (bnd (nth (a2) ((a1).toNat)) as_i64) fun e17_0 =>
        chk (inB (IntKind.i64.wrap ((a1) + (1))) (setNth (a2) ((a1).toNat) (V.int .i64 (e14_0))).length)
         (bnd (bnd (nth (setNth (a2) ((a1).toNat) (V.int .i64 (e14_0))) ((IntKind.i64.wrap ((a1) + (1))).toNat)) as_i64) fun e19_0 =>
          l_symM_b2 self n a0 (IntKind.i64.wrap ((a1) + (1))) (setNth (setNth (a2) ((a1).toNat) (V.int .i64 (e14_0))) ((IntKind.i64.wrap ((a1) + (1))).toNat) (V.int .i64 (e16_0)))))))
   (some (a2))
def l_symM_b4 (self : (List V) → (Int) → (Int) → (Int) → (List V) → Option (List V)) : Nat → (Int) → (List V) → (Int) → (Int) → (List V) →  Option (Int × Int × List V)
 | 0, _, _, _, _, _ => none
 | n + 1, a0, a1, a2, a3, a4 =>
  cnd (decide ((a2) < (a3)))
   (chk (decide (0 ≤ 1))
    (chk (inB (a0) (a4).length)
     (bnd (bnd (nth (a4) ((a0).toNat)) as_i64) fun e26_0 =>
      chk (inB (IntKind.i64.wrap ((IntKind.u64.wrap (IntKind.i64.wrap ((a2) + (a3)))).fdiv (2 ^ (min ((1 : Int)).toNat IntKind.u64.bits)))) (a4).length)
       (bnd (bnd (nth (a4) ((IntKind.i64.wrap ((IntKind.u64.wrap (IntKind.i64.wrap ((a2) + (a3)))).fdiv (2 ^ (min ((1 : Int)).toNat IntKind.u64.bits)))).toNat)) as_i64) fun e28_0 =>
        bnd (s_impl_byWidth_1 n e26_0 e28_0 a1) fun y29_0 =>
         cnd (decide ((y29_0) < (0)))
          (l_symM_b4 self n a0 a1 a2 (IntKind.i64.wrap ((IntKind.u64.wrap (IntKind.i64.wrap ((a2) + (a3)))).fdiv (2 ^ (min ((1 : Int)).toNat IntKind.u64.bits)))) a4)
          (l_symM_b4 self n a0 a1 (IntKind.i64.wrap ((IntKind.i64.wrap ((IntKind.u64.wrap (IntKind.i64.wrap ((a2) + (a3)))).fdiv (2 ^ (min ((1 : Int)).toNat IntKind.u64.bits)))) + (1))) a3 a4)))))
   (some ((a0, a2, a4)))
def l_symM_b6 (self : (List V) → (Int) → (Int) → (Int) → (List V) → Option (List V)) : Nat → (Int) → (Int) → (List V) →  Option (List V)
 | 0, _, _, _ => none
 | n + 1, a0, a1, a2 =>
  cnd (decide ((a0) < (a1)))
   (chk (inB (IntKind.i64.wrap ((a1) - (1))) (a2).length)
    (bnd (bnd (nth (a2) ((IntKind.i64.wrap ((a1) - (1))).toNat)) as_i64) fun e35_0 =>
     chk (inB (a1) (a2).length)
      (bnd (bnd (nth (a2) ((a1).toNat)) as_i64) fun e37_0 =>
       bnd (bnd (nth (a2) ((a1).toNat)) as_i64) fun e38_0 =>
        chk (inB (IntKind.i64.wrap ((a1) - (1))) (setNth (a2) ((a1).toNat) (V.int .i64 (e35_0))).length)
         (bnd (bnd (nth (setNth (a2) ((a1).toNat) (V.int .i64 (e35_0))) ((IntKind.i64.wrap ((a1) - (1))).toNat)) as_i64) fun e40_0 =>
          l_symM_b6 self n a0 (IntKind.i64.wrap ((a1) - (1))) (setNth (setNth (a2) ((a1).toNat) (V.int .i64 (e35_0))) ((IntKind.i64.wrap ((a1) - (1))).toNat) (V.int .i64 (e37_0)))))))
   (some (a2))
def l_symM_b8 (self : (List V) → (Int) → (Int) → (Int) → (List V) → Option (List V)) : Nat → (Int) → (Int) → (Int) → (List V) → (Int) → (Int) → (Int) → (Int) → (Int) → (List V) →  Option (Int × Int × Int × List V × Int × Int × Int × List V)
 | 0, _, _, _, _, _, _, _, _, _, _ => none
 | n + 1, a0, a1, a2, a3, a4, a5, a6, a7, a8, a9 =>
  cnd (decide ((a6) < (a7)))
   (chk (decide (0 ≤ 1))
    (chk (inB (IntKind.i64.wrap ((a8) - (IntKind.i64.wrap ((IntKind.u64.wrap (IntKind.i64.wrap ((a6) + (a7)))).fdiv (2 ^ (min ((1 : Int)).toNat IntKind.u64.bits)))))) (a9).length)
     (bnd (bnd (nth (a9) ((IntKind.i64.wrap ((a8) - (IntKind.i64.wrap ((IntKind.u64.wrap (IntKind.i64.wrap ((a6) + (a7)))).fdiv (2 ^ (min ((1 : Int)).toNat IntKind.u64.bits)))))).toNat)) as_i64) fun e48_0 =>
      chk (inB (IntKind.i64.wrap ((IntKind.u64.wrap (IntKind.i64.wrap ((a6) + (a7)))).fdiv (2 ^ (min ((1 : Int)).toNat IntKind.u64.bits)))) (a9).length)
       (bnd (bnd (nth (a9) ((IntKind.i64.wrap ((IntKind.u64.wrap (IntKind.i64.wrap ((a6) + (a7)))).fdiv (2 ^ (min ((1 : Int)).toNat IntKind.u64.bits)))).toNat)) as_i64) fun e50_0 =>
        bnd (s_impl_byWidth_1 n e48_0 e50_0 a3) fun y51_0 =>
         cnd (decide ((y51_0) < (0)))
          (l_symM_b8 self n a0 a1 a2 a3 a4 a5 a6 (IntKind.i64.wrap ((IntKind.u64.wrap (IntKind.i64.wrap ((a6) + (a7)))).fdiv (2 ^ (min ((1 : Int)).toNat IntKind.u64.bits)))) a8 a9)
          (l_symM_b8 self n a0 a1 a2 a3 a4 a5 (IntKind.i64.wrap ((IntKind.i64.wrap ((IntKind.u64.wrap (IntKind.i64.wrap ((a6) + (a7)))).fdiv (2 ^ (min ((1 : Int)).toNat IntKind.u64.bits)))) + (1))) a7 a8 a9)))))
   (some ((a0, a1, a2, a3, a4, a5, a6, a9)))
def s_symM : Nat → (List V) → (Int) → (Int) → (Int) → (List V) →  Option (List V)
 | 0, _, _, _, _, _ => none
 | n + 1, a0, a1, a2, a3, a4 =>
  cnd (decide ((IntKind.i64.wrap ((a2) - (a1))) = (1)))
   (bnd (l_symM_b0 (fun x0 x1 x2 x3 x4 => s_symM n x0 x1 x2 x3 x4) n a1 a4 a2 a3 a0) fun (u10_0, u10_1, u10_2) =>
    bnd (l_symM_b2 (fun x0 x1 x2 x3 x4 => s_symM n x0 x1 x2 x3 x4) n u10_1 u10_0 u10_2) fun u20_0 =>
     some (u20_0))
   (cnd (decide ((IntKind.i64.wrap ((a3) - (a2))) = (1)))
    (bnd (l_symM_b4 (fun x0 x1 x2 x3 x4 => s_symM n x0 x1 x2 x3 x4) n a2 a4 a1 a2 a0) fun (u31_0, u31_1, u31_2) =>
     bnd (l_symM_b6 (fun x0 x1 x2 x3 x4 => s_symM n x0 x1 x2 x3 x4) n u31_1 u31_0 u31_2) fun u41_0 =>
      some (u41_0))
    (chk (decide (0 ≤ 1))
     (cnd (decide ((IntKind.i64.wrap ((IntKind.u64.wrap (IntKind.i64.wrap ((a1) + (a3)))).fdiv (2 ^ (min ((1 : Int)).toNat IntKind.u64.bits)))) < (a2)))
      (bnd (l_symM_b8 (fun x0 x1 x2 x3 x4 => s_symM n x0 x1 x2 x3 x4) n a1 a2 a3 a4 (IntKind.i64.wrap ((IntKind.u64.wrap (IntKind.i64.wrap ((a1) + (a3)))).fdiv (2 ^ (min ((1 : Int)).toNat IntKind.u64.bits)))) (IntKind.i64.wrap ((IntKind.i64.wrap ((IntKind.u64.wrap (IntKind.i64.wrap ((a1) + (a3)))).fdiv (2 ^ (min ((1 : Int)).toNat IntKind.u64.bits)))) + (a2))) (IntKind.i64.wrap ((IntKind.i64.wrap ((IntKind.i64.wrap ((IntKind.u64.wrap (IntKind.i64.wrap ((a1) + (a3)))).fdiv (2 ^ (min ((1 : Int)).toNat IntKind.u64.bits)))) + (a2))) - (a3))) (IntKind.i64.wrap ((IntKind.u64.wrap (IntKind.i64.wrap ((a1) + (a3)))).fdiv (2 ^ (min ((1 : Int)).toNat IntKind.u64.bits)))) (IntKind.i64.wrap ((IntKind.i64.wrap ((IntKind.i64.wrap ((IntKind.u64.wrap (IntKind.i64.wrap ((a1) + (a3)))).fdiv (2 ^ (min ((1 : Int)).toNat IntKind.u64.bits)))) + (a2))) - (1))) a0) fun (u53_0, u53_1, u53_2, u53_3, u53_4, u53_5, u53_6, u53_7) =>
       cnd (decide ((u53_6) < (u53_1)))
        (cnd (decide ((u53_1) < (IntKind.i64.wrap ((u53_5) - (u53_6)))))
         (bnd (s_rotC n u53_7 u53_6 u53_1 (IntKind.i64.wrap ((u53_5) - (u53_6))) u53_3) fun y57_0 =>
          chk (likeRows (u53_7) (y57_0))
           (cnd (decide ((u53_0) < (u53_6)))
            (cnd (decide ((u53_6) < (u53_4)))
             (bnd (s_symM n y57_0 u53_0 u53_6 u53_4 u53_3) fun y61_0 =>
              chk (likeRows (y57_0) (y61_0))
               (cnd (decide ((u53_4) < (IntKind.i64.wrap ((u53_5) - (u53_6)))))
                (cnd (decide ((IntKind.i64.wrap ((u53_5) - (u53_6))) < (u53_2)))
                 (bnd (s_symM n y61_0 u53_4 (IntKind.i64.wrap ((u53_5) - (u53_6))) u53_2 u53_3) fun y65_0 =>
                  chk (likeRows (y61_0) (y65_0))
                   (some (y65_0)))
                 (some (y61_0)))
                (some (y61_0))))
             (cnd (decide ((u53_4) < (IntKind.i64.wrap ((u53_5) - (u53_6)))))
              (cnd (decide ((IntKind.i64.wrap ((u53_5) - (u53_6))) < (u53_2)))
               (bnd (s_symM n y57_0 u53_4 (IntKind.i64.wrap ((u53_5) - (u53_6))) u53_2 u53_3) fun y69_0 =>
                chk (likeRows (y57_0) (y69_0))
                 (some (y69_0)))
               (some (y57_0)))
              (some (y57_0))))
            (cnd (decide ((u53_4) < (IntKind.i64.wrap ((u53_5) - (u53_6)))))
             (cnd (decide ((IntKind.i64.wrap ((u53_5) - (u53_6))) < (u53_2)))
              (bnd (s_symM n y57_0 u53_4 (IntKind.i64.wrap ((u53_5) - (u53_6))) u53_2 u53_3) fun y73_0 =>
               chk (likeRows (y57_0) (y73_0))
                (some (y73_0)))
              (some (y57_0)))
             (some (y57_0)))))
         (cnd (decide ((u53_0) < (u53_6)))
          (cnd (decide ((u53_6) < (u53_4)))
           (bnd (s_symM n u53_7 u53_0 u53_6 u53_4 u53_3) fun y77_0 =>
            chk (likeRows (u53_7) (y77_0))
             (cnd (decide ((u53_4) < (IntKind.i64.wrap ((u53_5) - (u53_6)))))
              (cnd (decide ((IntKind.i64.wrap ((u53_5) - (u53_6))) < (u53_2)))
               (bnd (s_symM n y77_0 u53_4 (IntKind.i64.wrap ((u53_5) - (u53_6))) u53_2 u53_3) fun y81_0 =>
                chk (likeRows (y77_0) (y81_0))
                 (some (y81_0)))
               (some (y77_0)))
              (some (y77_0))))
           (cnd (decide ((u53_4) < (IntKind.i64.wrap ((u53_5) - (u53_6)))))
            (cnd (decide ((IntKind.i64.wrap ((u53_5) - (u53_6))) < (u53_2)))
             (bnd (s_symM n u53_7 u53_4 (IntKind.i64.wrap ((u53_5) - (u53_6))) u53_2 u53_3) fun y85_0 =>
              chk (likeRows (u53_7) (y85_0))
               (some (y85_0)))
             (some (u53_7)))
            (some (u53_7))))
          (cnd (decide ((u53_4) < (IntKind.i64.wrap ((u53_5) - (u53_6)))))
           (cnd (decide ((IntKind.i64.wrap ((u53_5) - (u53_6))) < (u53_2)))
            (bnd (s_symM n u53_7 u53_4 (IntKind.i64.wrap ((u53_5) - (u53_6))) u53_2 u53_3) fun y89_0 =>
             chk (likeRows (u53_7) (y89_0))
              (some (y89_0)))
            (some (u53_7)))
           (some (u53_7)))))
        (cnd (decide ((u53_0) < (u53_6)))
         (cnd (decide ((u53_6) < (u53_4)))
          (bnd (s_symM n u53_7 u53_0 u53_6 u53_4 u53_3) fun y93_0 =>
           chk (likeRows (u53_7) (y93_0))
            (cnd (decide ((u53_4) < (IntKind.i64.wrap ((u53_5) - (u53_6)))))
             (cnd (decide ((IntKind.i64.wrap ((u53_5) - (u53_6))) < (u53_2)))
              (bnd (s_symM n y93_0 u53_4 (IntKind.i64.wrap ((u53_5) - (u53_6))) u53_2 u53_3) fun y97_0 =>
               chk (likeRows (y93_0) (y97_0))
                (some (y97_0)))
              (some (y93_0)))
             (some (y93_0))))
          (cnd (decide ((u53_4) < (IntKind.i64.wrap ((u53_5) - (u53_6)))))
           (cnd (decide ((IntKind.i64.wrap ((u53_5) - (u53_6))) < (u53_2)))
            (bnd (s_symM n u53_7 u53_4 (IntKind.i64.wrap ((u53_5) - (u53_6))) u53_2 u53_3) fun y101_0 =>
             chk (likeRows (u53_7) (y101_0))
              (some (y101_0)))
            (some (u53_7)))
           (some (u53_7))))
         (cnd (decide ((u53_4) < (IntKind.i64.wrap ((u53_5) - (u53_6)))))
          (cnd (decide ((IntKind.i64.wrap ((u53_5) - (u53_6))) < (u53_2)))
           (bnd (s_symM n u53_7 u53_4 (IntKind.i64.wrap ((u53_5) - (u53_6))) u53_2 u53_3) fun y105_0 =>
            chk (likeRows (u53_7) (y105_0))
             (some (y105_0)))
           (some (u53_7)))
          (some (u53_7)))))
      (bnd (l_symM_b8 (fun x0 x1 x2 x3 x4 => s_symM n x0 x1 x2 x3 x4) n a1 a2 a3 a4 (IntKind.i64.wrap ((IntKind.u64.wrap (IntKind.i64.wrap ((a1) + (a3)))).fdiv (2 ^ (min ((1 : Int)).toNat IntKind.u64.bits)))) (IntKind.i64.wrap ((IntKind.i64.wrap ((IntKind.u64.wrap (IntKind.i64.wrap ((a1) + (a3)))).fdiv (2 ^ (min ((1 : Int)).toNat IntKind.u64.bits)))) + (a2))) a1 a2 (IntKind.i64.wrap ((IntKind.i64.wrap ((IntKind.i64.wrap ((IntKind.u64.wrap (IntKind.i64.wrap ((a1) + (a3)))).fdiv (2 ^ (min ((1 : Int)).toNat IntKind.u64.bits)))) + (a2))) - (1))) a0) fun (u107_0, u107_1, u107_2, u107_3, u107_4, u107_5, u107_6, u107_7) =>
       cnd (decide ((u107_6) < (u107_1)))
        (cnd (decide ((u107_1) < (IntKind.i64.wrap ((u107_5) - (u107_6)))))
         (bnd (s_rotC n u107_7 u107_6 u107_1 (IntKind.i64.wrap ((u107_5) - (u107_6))) u107_3) fun y111_0 =>
          chk (likeRows (u107_7) (y111_0))
           (cnd (decide ((u107_0) < (u107_6)))
            (cnd (decide ((u107_6) < (u107_4)))
             (bnd (s_symM n y111_0 u107_0 u107_6 u107_4 u107_3) fun y115_0 =>
              chk (likeRows (y111_0) (y115_0))
               (cnd (decide ((u107_4) < (IntKind.i64.wrap ((u107_5) - (u107_6)))))
                (cnd (decide ((IntKind.i64.wrap ((u107_5) - (u107_6))) < (u107_2)))
                 (bnd (s_symM n y115_0 u107_4 (IntKind.i64.wrap ((u107_5) - (u107_6))) u107_2 u107_3) fun y119_0 =>
                  chk (likeRows (y115_0) (y119_0))
                   (some (y119_0)))
                 (some (y115_0)))
                (some (y115_0))))
             (cnd (decide ((u107_4) < (IntKind.i64.wrap ((u107_5) - (u107_6)))))
              (cnd (decide ((IntKind.i64.wrap ((u107_5) - (u107_6))) < (u107_2)))
               (bnd (s_symM n y111_0 u107_4 (IntKind.i64.wrap ((u107_5) - (u107_6))) u107_2 u107_3) fun y123_0 =>
                chk (likeRows (y111_0) (y123_0))
                 (some (y123_0)))
               (some (y111_0)))
              (some (y111_0))))
            (cnd (decide ((u107_4) < (IntKind.i64.wrap ((u107_5) - (u107_6)))))
             (cnd (decide ((IntKind.i64.wrap ((u107_5) - (u107_6))) < (u107_2)))
              (bnd (s_symM n y111_0 u107_4 (IntKind.i64.wrap ((u107_5) - (u107_6))) u107_2 u107_3) fun y127_0 =>
               chk (likeRows (y111_0) (y127_0))
                (some (y127_0)))
              (some (y111_0)))
             (some (y111_0)))))
         (cnd (decide ((u107_0) < (u107_6)))
          (cnd (decide ((u107_6) < (u107_4)))
           (bnd (s_symM n u107_7 u107_0 u107_6 u107_4 u107_3) fun y131_0 =>
            chk (likeRows (u107_7) (y131_0))
             (cnd (decide ((u107_4) < (IntKind.i64.wrap ((u107_5) - (u107_6)))))
              (cnd (decide ((IntKind.i64.wrap ((u107_5) - (u107_6))) < (u107_2)))
               (bnd (s_symM n y131_0 u107_4 (IntKind.i64.wrap ((u107_5) - (u107_6))) u107_2 u107_3) fun y135_0 =>
                chk (likeRows (y131_0) (y135_0))
                 (some (y135_0)))
               (some (y131_0)))
              (some (y131_0))))
           (cnd (decide ((u107_4) < (IntKind.i64.wrap ((u107_5) - (u107_6)))))
            (cnd (decide ((IntKind.i64.wrap ((u107_5) - (u107_6))) < (u107_2)))
             (bnd (s_symM n u107_7 u107_4 (IntKind.i64.wrap ((u107_5) - (u107_6))) u107_2 u107_3) fun y139_0 =>
              chk (likeRows (u107_7) (y139_0))
               (some (y139_0)))
             (some (u107_7)))
            (some (u107_7))))
          (cnd (decide ((u107_4) < (IntKind.i64.wrap ((u107_5) - (u107_6)))))
           (cnd (decide ((IntKind.i64.wrap ((u107_5) - (u107_6))) < (u107_2)))
            (bnd (s_symM n u107_7 u107_4 (IntKind.i64.wrap ((u107_5) - (u107_6))) u107_2 u107_3) fun y143_0 =>
             chk (likeRows (u107_7) (y143_0))
              (some (y143_0)))
            (some (u107_7)))
           (some (u107_7)))))
        (cnd (decide ((u107_0) < (u107_6)))
         (cnd (decide ((u107_6) < (u107_4)))
          (bnd (s_symM n u107_7 u107_0 u107_6 u107_4 u107_3) fun y147_0 =>
           chk (likeRows (u107_7) (y147_0))
            (cnd (decide ((u107_4) < (IntKind.i64.wrap ((u107_5) - (u107_6)))))
             (cnd (decide ((IntKind.i64.wrap ((u107_5) - (u107_6))) < (u107_2)))
              (bnd (s_symM n y147_0 u107_4 (IntKind.i64.wrap ((u107_5) - (u107_6))) u107_2 u107_3) fun y151_0 =>
               chk (likeRows (y147_0) (y151_0))
                (some (y151_0)))
              (some (y147_0)))
             (some (y147_0))))
          (cnd (decide ((u107_4) < (IntKind.i64.wrap ((u107_5) - (u107_6)))))
           (cnd (decide ((IntKind.i64.wrap ((u107_5) - (u107_6))) < (u107_2)))
            (bnd (s_symM n u107_7 u107_4 (IntKind.i64.wrap ((u107_5) - (u107_6))) u107_2 u107_3) fun y155_0 =>
             chk (likeRows (u107_7) (y155_0))
              (some (y155_0)))
            (some (u107_7)))
           (some (u107_7))))
         (cnd (decide ((u107_4) < (IntKind.i64.wrap ((u107_5) - (u107_6)))))
          (cnd (decide ((IntKind.i64.wrap ((u107_5) - (u107_6))) < (u107_2)))
           (bnd (s_symM n u107_7 u107_4 (IntKind.i64.wrap ((u107_5) - (u107_6))) u107_2 u107_3) fun y159_0 =>
            chk (likeRows (u107_7) (y159_0))
             (some (y159_0)))
           (some (u107_7)))
          (some (u107_7))))))))
def l_stabC_b0 : Nat → (Int) → (List V) → (Int) → (Int) → (Int) → (List V) →  Option (Int × List V × Int × Int × List V)
 | 0, _, _, _, _, _, _ => none
 | n + 1, a0, a1, a2, a3, a4, a5 =>
  cnd (decide ((a4) ≤ (a0)))
   (bnd (s_insC n a5 a3 a4 a1) fun y2_0 =>
    chk (likeRows (a5) (y2_0))
     (l_stabC_b0 n a0 a1 a2 a4 (IntKind.i64.wrap ((a4) + (a2))) y2_0))
   (some ((a0, a1, a2, a3, a5)))
def l_stabC_b4 : Nat → (Int) → (List V) → (Int) → (Int) → (Int) → (List V) →  Option (Int × List V × Int × Int × List V)
 | 0, _, _, _, _, _, _ => none
 | n + 1, a0, a1, a2, a3, a4, a5 =>
  cnd (decide ((a4) ≤ (a0)))
   (bnd (s_symM n a5 a3 (IntKind.i64.wrap ((a3) + (a2))) a4 a1) fun y10_0 =>
    chk (likeRows (a5) (y10_0))
     (l_stabC_b4 n a0 a1 a2 a4 (IntKind.i64.wrap ((a4) + (IntKind.i64.wrap ((2) * (a2))))) y10_0))
   (some ((a0, a1, a2, a3, a5)))
def l_stabC_b2 : Nat → (Int) → (List V) → (Int) → (List V) →  Option (List V)
 | 0, _, _, _, _ => none
 | n + 1, a0, a1, a2, a3 =>
  cnd (decide ((a2) < (a0)))
   (bnd (l_stabC_b4 n a0 a1 a2 0 (IntKind.i64.wrap ((2) * (a2))) a3) fun (u12_0, u12_1, u12_2, u12_3, u12_4) =>
    cnd (decide ((IntKind.i64.wrap ((u12_3) + (u12_2))) < (u12_0)))
     (bnd (s_symM n u12_4 u12_3 (IntKind.i64.wrap ((u12_3) + (u12_2))) u12_0 u12_1) fun y15_0 =>
      chk (likeRows (u12_4) (y15_0))
       (l_stabC_b2 n u12_0 u12_1 (IntKind.i64.wrap ((u12_2) * (2))) y15_0))
     (l_stabC_b2 n u12_0 u12_1 (IntKind.i64.wrap ((u12_2) * (2))) u12_4))
   (some (a3))
def s_stabC (n : Nat) (a0 : List V) (a1 : Int) (a2 : List V) : Option (List V) :=
 bnd (l_stabC_b0 n a1 a2 20 0 20 a0) fun (u4_0, u4_1, u4_2, u4_3, u4_4) =>
  bnd (s_insC n u4_4 u4_3 u4_0 u4_1) fun y6_0 =>
   chk (likeRows (u4_4) (y6_0))
    (bnd (l_stabC_b2 n u4_0 u4_1 u4_2 y6_0) fun u17_0 =>
     some (u17_0))
def s_sortS (n : Nat) (a0 : List V) (a1 : List V) : Option (List V) :=
 bnd (s_stabC n a0 (((a0).length : Int)) a1) fun y1_0 =>
  chk (likeRows (a0) (y1_0))
   (some (y1_0))
def s_impl_byWidth (n : Nat) (a0 : List V) : Option (List V) :=
 bnd (s_impl_upTo n (((a0).length : Int))) fun y1_0 =>
  bnd (s_sortS n y1_0 a0) fun y2_0 =>
   chk (likeRows (y1_0) (y2_0))
    (some (y2_0))
def s_impl_pairs_1 (n : Nat) (a0 : Int) (a1 : List V) (a2 : List V) (a3 : List V) (a4 : Int) : Option (Bool) :=
 bnd (bnd (idx (a1) (a0)) as_Pi8_i8Q) fun (e1_0, e1_1) =>
  cnd (decide ((e1_0) = (1)))
   (chk (mapFine (false, [IntKind.i64]) (a2) (a3))
    (chk (keyIs (false, [IntKind.i64]) (V.int .i64 (a0)))
     (cnd (mapGetB (V.int .i64 (a0)) (a2) (a3))
      (some (false))
      (bnd (bnd (idx (a1) (a4)) as_Pi8_i8Q) fun (e6_0, e6_1) =>
       bnd (bnd (idx (a1) (a0)) as_Pi8_i8Q) fun (e7_0, e7_1) =>
        some ((decide ((IntKind.i8.wrap ((e6_1) + (e7_1))) ≤ (8))))))))
   (some (false))
def l_ixPr_b0 : Nat → (List V) → (List V) → (List V) → (List V) → (Int) → (Int) → (Int) →  Option (Sum (Unit) (Int))
 | 0, _, _, _, _, _, _, _ => none
 | n + 1, a0, a1, a2, a3, a4, a5, a6 =>
  cnd (decide ((a6) < (a5)))
   (bnd (bnd (idx (a0) (a6)) as_i64) fun e2_0 =>
    bnd (s_impl_pairs_1 n e2_0 a1 a2 a3 a4) fun y3_0 =>
     cnd (y3_0)
      (some (.inr (a6)))
      (l_ixPr_b0 n a0 a1 a2 a3 a4 a5 (IntKind.i64.wrap ((a6) + (1)))))
   (some (.inl (())))
def s_ixPr (n : Nat) (a0 : List V) (a1 : List V) (a2 : List V) (a3 : List V) (a4 : Int) : Option (Int) :=
 bnd (l_ixPr_b0 n a0 a1 a2 a3 a4 (((a0).length : Int)) 0) fun w => match w with
  | .inl _ =>
   some (-1)
  | .inr u6_0 =>
   some (u6_0)
def l_impl_pairs_b0 : Nat → (Int) → (Int) → (List V) → (List V) → (List V) → (List V) → (List V) →  Option (List V)
 | 0, _, _, _, _, _, _, _ => none
 | n + 1, a0, a1, a2, a3, a4, a5, a6 =>
  cnd (decide ((a1) < (a0)))
   (chk (inB (a1) (a3).length)
    (bnd (bnd (nth (a3) ((a1).toNat)) as_i64) fun e4_0 =>
     bnd (bnd (idx (a2) (e4_0)) as_Pi8_i8Q) fun (e5_0, e5_1) =>
      cnd (decide ((e5_0) = (0)))
       (bnd (s_ixPr n a3 a2 a5 a6 e4_0) fun y7_0 =>
        cnd (decide ((0) ≤ (y7_0)))
         (chk (inB (y7_0) (a3).length)
          (bnd (bnd (nth (a3) ((y7_0).toNat)) as_i64) fun e10_0 =>
           chk (mapFine (false, [IntKind.i64]) (a5) (a6))
            (chk (keyIs (false, [IntKind.i64]) (V.int .i64 (e10_0)))
             (bnd (bnd (nth (a3) ((y7_0).toNat)) as_i64) fun e13_0 =>
              chk (decide (((a4).length + ([(V.sl ([(V.int .i64 (e4_0)), (V.int .i64 (e13_0))]))]).length) * 24 ≤ 140737488355328))
               (l_impl_pairs_b0 n a0 (IntKind.i64.wrap ((a1) + (1))) a2 a3 (a4 ++ ([(V.sl ([(V.int .i64 (e4_0)), (V.int .i64 (e13_0))]))])) (mapPutK (V.int .i64 (e10_0)) (a5)) (mapPutV (V.int .i64 (e10_0)) (V.bool true) (a5) (a6)))))))
         (l_impl_pairs_b0 n a0 (IntKind.i64.wrap ((a1) + (1))) a2 a3 a4 a5 a6))
       (l_impl_pairs_b0 n a0 (IntKind.i64.wrap ((a1) + (1))) a2 a3 a4 a5 a6)))
   (some (a4))
def s_impl_pairs (n : Nat) (a0 : List V) : Option (List V) :=
 bnd (s_impl_byWidth n a0) fun y1_0 =>
  bnd (l_impl_pairs_b0 n (((y1_0).length : Int)) 0 a0 y1_0 (([] : List V)) (([] : List V)) (([] : List V))) fun u15_0 =>
   some (u15_0)
def s_impl_PairPieces (n : Nat) (a0 : List V) : Option (List V × Int) :=
 bnd (s_impl_piecesCode n ([(V.sl (a0))])) fun y1_0 =>
  cnd (decide ((y1_0) = (0)))
   (bnd (s_impl_pairs n a0) fun y3_0 =>
    some ((y3_0, 0)))
   (some ((([] : List V), y1_0)))
def s_spec_l00In (n : Nat) (a0 : Int) (a1 : Int) (a2 : Int) : Option (Bool) :=
 cnd (decide ((a1) ≤ (a0)))
  (some ((decide ((a0) ≤ (a2)))))
  (some (false))
def l_spec_l05Pieces_b0 : Nat → (List V) → (Int) →  Option (Sum (Unit) (Bool))
 | 0, _, _ => none
 | n + 1, a0, a1 =>
  cnd (decide ((a1) < (((a0).length : Int))))
   (bnd (bnd (idx (a0) (a1)) as_Pi8_i8Q) fun (e2_0, e2_1) =>
    bnd (s_spec_l00In n (IntKind.i64.wrap (e2_0)) 0 2) fun y3_0 =>
     cnd (y3_0)
      (bnd (bnd (idx (a0) (a1)) as_Pi8_i8Q) fun (e5_0, e5_1) =>
       bnd (s_spec_l00In n (IntKind.i64.wrap (e5_1)) 1 7) fun y6_0 =>
        cnd (y6_0)
         (l_spec_l05Pieces_b0 n a0 (IntKind.i64.wrap ((a1) + (1))))
         (some (.inr (false))))
      (some (.inr (false))))
   (some (.inl (())))
def s_spec_l05Pieces (n : Nat) (a0 : List V) : Option (Bool) :=
 bnd (l_spec_l05Pieces_b0 n a0 0) fun w => match w with
  | .inl _ =>
   some (true)
  | .inr u9_0 =>
   some ((u9_0))
def s_spec_l05Asked (n : Nat) (a0 : List V) : Option (Int) :=
 bnd (s_spec_l05Pieces n a0) fun y1_0 =>
  cnd (y1_0)
   (cnd (decide ((30) < (((a0).length : Int))))
    (some (3))
    (some (0)))
   (some (1))
def l_spec_l05Order_b2 : Nat → (List V) → (Int) → (Int) → (List V) →  Option (List V × Int × List V)
 | 0, _, _, _, _ => none
 | n + 1, a0, a1, a2, a3 =>
  cnd (decide ((a2) < (((a0).length : Int))))
   (bnd (bnd (idx (a0) (a2)) as_Pi8_i8Q) fun (e3_0, e3_1) =>
    cnd (decide ((e3_1) = (a1)))
     (chk (decide (((a3).length + ([(V.int .i64 (a2))]).length) * 8 ≤ 140737488355328))
      (l_spec_l05Order_b2 n a0 a1 (IntKind.i64.wrap ((a2) + (1))) (a3 ++ ([(V.int .i64 (a2))]))))
     (l_spec_l05Order_b2 n a0 a1 (IntKind.i64.wrap ((a2) + (1))) a3))
   (some ((a0, a1, a3)))
def l_spec_l05Order_b0 : Nat → (List V) → (Int) → (List V) →  Option (List V)
 | 0, _, _, _ => none
 | n + 1, a0, a1, a2 =>
  cnd (decide ((0) ≤ (a1)))
   (bnd (l_spec_l05Order_b2 n a0 a1 0 a2) fun (u6_0, u6_1, u6_2) =>
    l_spec_l05Order_b0 n u6_0 (IntKind.i8.wrap ((u6_1) - (1))) u6_2)
   (some (a2))
def s_spec_l05Order (n : Nat) (a0 : List V) : Option (List V) :=
 bnd (l_spec_l05Order_b0 n a0 8 ([])) fun u8_0 =>
  some (u8_0)
def l_spec_l05Pairs_b2 : Nat → (List V) → (Int) → (Int) → (Int) → (List V) → (List V) → (List V) →  Option (List V × Int × List V × List V × List V)
 | 0, _, _, _, _, _, _, _ => none
 | n + 1, a0, a1, a2, a3, a4, a5, a6 =>
  cnd (decide ((a3) < (((a6).length : Int))))
   (chk (inB (a3) (a6).length)
    (bnd (bnd (nth (a6) ((a3).toNat)) as_i64) fun e10_0 =>
     bnd (bnd (idx (a0) (e10_0)) as_Pi8_i8Q) fun (e11_0, e11_1) =>
      cnd (decide ((e11_0) = (1)))
       (chk (inB (e10_0) (a5).length)
        (bnd (bnd (nth (a5) ((e10_0).toNat)) as_b) fun e14_0 =>
         cnd (e14_0)
          (l_spec_l05Pairs_b2 n a0 a1 a2 (IntKind.i64.wrap ((a3) + (1))) a4 a5 a6)
          (bnd (bnd (idx (a0) (a2)) as_Pi8_i8Q) fun (e16_0, e16_1) =>
           bnd (bnd (idx (a0) (e10_0)) as_Pi8_i8Q) fun (e17_0, e17_1) =>
            cnd (decide ((IntKind.i8.wrap ((e16_1) + (e17_1))) ≤ (8)))
             (bnd (bnd (nth (a5) ((e10_0).toNat)) as_b) fun e19_0 =>
              chk (decide (((a4).length + ([(V.sl ([(V.int .i64 (a2)), (V.int .i64 (e10_0))]))]).length) * 24 ≤ 140737488355328))
               (some ((a0, a1, a4 ++ ([(V.sl ([(V.int .i64 (a2)), (V.int .i64 (e10_0))]))]), setNth (a5) ((e10_0).toNat) (V.bool true), a6))))
             (l_spec_l05Pairs_b2 n a0 a1 a2 (IntKind.i64.wrap ((a3) + (1))) a4 a5 a6))))
       (l_spec_l05Pairs_b2 n a0 a1 a2 (IntKind.i64.wrap ((a3) + (1))) a4 a5 a6)))
   (some ((a0, a1, a4, a5, a6)))
def l_spec_l05Pairs_b0 : Nat → (List V) → (Int) → (List V) → (List V) → (List V) →  Option (List V)
 | 0, _, _, _, _, _ => none
 | n + 1, a0, a1, a2, a3, a4 =>
  cnd (decide ((a1) < (((a4).length : Int))))
   (chk (inB (a1) (a4).length)
    (bnd (bnd (nth (a4) ((a1).toNat)) as_i64) fun e5_0 =>
     bnd (bnd (idx (a0) (e5_0)) as_Pi8_i8Q) fun (e6_0, e6_1) =>
      cnd (decide ((e6_0) = (0)))
       (bnd (l_spec_l05Pairs_b2 n a0 a1 e5_0 0 a2 a3 a4) fun (u21_0, u21_1, u21_2, u21_3, u21_4) =>
        l_spec_l05Pairs_b0 n u21_0 (IntKind.i64.wrap ((u21_1) + (1))) u21_2 u21_3 u21_4)
       (l_spec_l05Pairs_b0 n a0 (IntKind.i64.wrap ((a1) + (1))) a2 a3 a4)))
   (some (a2))
def s_spec_l05Pairs (n : Nat) (a0 : List V) : Option (List V) :=
 chk (decide (((a0).length : Int) = ((a0).length : Int)) && decide (0 ≤ ((a0).length : Int)) && decide ((((a0).length : Int)).toNat * 1 ≤ 140737488355328))
  (bnd (s_spec_l05Order n a0) fun y2_0 =>
   bnd (l_spec_l05Pairs_b0 n a0 0 ([]) (List.replicate (((a0).length : Int)).toNat (V.bool false)) y2_0) fun u23_0 =>
    some (u23_0))
def s_spec_PairPieces (n : Nat) (a0 : List V) : Option (List V × Int) :=
 bnd (s_spec_l05Asked n a0) fun y1_0 =>
  cnd (decide ((y1_0) = (0)))
   (bnd (s_spec_l05Pairs n a0) fun y3_0 =>
    some ((y3_0, 0)))
   (some (([], y1_0)))
def s_impl_tilesFor (n : Nat) (a0 : List V) : Option (Int) :=
 bnd (s_impl_pairs n a0) fun y1_0 =>
  some (IntKind.i64.wrap ((((a0).length : Int)) - (((y1_0).length : Int))))
def s_impl_TilesFor (n : Nat) (a0 : List V) : Option (Int × Int) :=
 bnd (s_impl_piecesCode n ([(V.sl (a0))])) fun y1_0 =>
  cnd (decide ((y1_0) = (0)))
   (bnd (s_impl_tilesFor n a0) fun y3_0 =>
    some ((y3_0, 0)))
   (some ((0, y1_0)))
def s_slices_Grow_Sint64_int64 (n : Nat) (a0 : Int) : Option (List V) :=
 cnd (decide ((a0) < (0)))
  (none)
  (cnd (decide ((0) < (IntKind.i64.wrap ((a0) - (IntKind.i64.wrap ((0) - (0)))))))
   (chk (decide (0 = 0))
    (chk (decide (0 < IntKind.i64.wrap ((a0) - (IntKind.i64.wrap ((0) - (0))))) && decide ((IntKind.i64.wrap ((a0) - (IntKind.i64.wrap ((0) - (0))))).toNat * 8 ≤ 140737488355328))
     (chk (decide (0 ≤ 0) && decide (0 ≤ ((List.replicate (IntKind.i64.wrap ((a0) - (IntKind.i64.wrap ((0) - (0))))).toNat (V.int .i64 (0))).length : Int)))
      (some (List.take ((0 : Int)).toNat (List.replicate (IntKind.i64.wrap ((a0) - (IntKind.i64.wrap ((0) - (0))))).toNat (V.int .i64 (0))))))))
   (some (([] : List V))))
def l_slices_Concat_Sint64_int64_b0 : Nat → (List V) → (Int) → (List V) → (Int) → (Int) →  Option (List V × Int)
 | 0, _, _, _, _, _ => none
 | n + 1, a0, a1, a2, a3, a4 =>
  cnd (decide ((a4) < (a3)))
   (bnd (bnd (idx (a2) (a4)) as_Li64) fun e2_0 =>
    cnd (decide ((IntKind.i64.wrap ((a1) + (((e2_0).length : Int)))) < (0)))
     (none)
     (l_slices_Concat_Sint64_int64_b0 n a0 (IntKind.i64.wrap ((a1) + (((e2_0).length : Int)))) a2 a3 (IntKind.i64.wrap ((a4) + (1)))))
   (some ((a0, a1)))
def l_slices_Concat_Sint64_int64_b2 : Nat → (List V) → (Int) → (Int) → (List V) →  Option (List V)
 | 0, _, _, _, _ => none
 | n + 1, a0, a1, a2, a3 =>
  cnd (decide ((a2) < (a1)))
   (bnd (bnd (idx (a0) (a2)) as_Li64) fun e9_0 =>
    chk (decide (((a3).length + (e9_0).length) * 8 ≤ 140737488355328))
     (chk (sizesOk 1 (e9_0))
      (l_slices_Concat_Sint64_int64_b2 n a0 a1 (IntKind.i64.wrap ((a2) + (1))) (a3 ++ e9_0))))
   (some (a3))
def s_slices_Concat_Sint64_int64 (n : Nat) (a0 : List V) : Option (List V) :=
 bnd (l_slices_Concat_Sint64_int64_b0 n a0 0 a0 (((a0).length : Int)) 0) fun (u4_0, u4_1) =>
  bnd (s_slices_Grow_Sint64_int64 n u4_1) fun y6_0 =>
   chk (plainV (V.fresh 0 y6_0))
    (bnd (l_slices_Concat_Sint64_int64_b2 n u4_0 (((u4_0).length : Int)) 0 y6_0) fun u12_0 =>
     some (u12_0))
def l_slices_Index_Sint64_int64_b0 : Nat → (List V) → (Int) → (Int) → (Int) →  Option (Sum (Unit) (Int))
 | 0, _, _, _, _ => none
 | n + 1, a0, a1, a2, a3 =>
  cnd (decide ((a3) < (a2)))
   (bnd (bnd (idx (a0) (a3)) as_i64) fun e2_0 =>
    cnd (decide ((a1) = (e2_0)))
     (some (.inr (a3)))
     (l_slices_Index_Sint64_int64_b0 n a0 a1 a2 (IntKind.i64.wrap ((a3) + (1)))))
   (some (.inl (())))
def s_slices_Index_Sint64_int64 (n : Nat) (a0 : List V) (a1 : Int) : Option (Int) :=
 bnd (l_slices_Index_Sint64_int64_b0 n a0 a1 (((a0).length : Int)) 0) fun w => match w with
  | .inl _ =>
   some (-1)
  | .inr u5_0 =>
   some (u5_0)
def s_slices_Contains_Sint64_int64 (n : Nat) (a0 : List V) (a1 : Int) : Option (Bool) :=
 bnd (s_slices_Index_Sint64_int64 n a0 a1) fun y1_0 =>
  some ((decide ((0) ≤ (y1_0))))
def l_impl_OffcutsOf_b0 : Nat → (List V) → (Int) → (Int) → (List V) → (List V) →  Option (List V)
 | 0, _, _, _, _, _ => none
 | n + 1, a0, a1, a2, a3, a4 =>
  cnd (decide ((a2) < (a1)))
   (bnd (bnd (idx (a0) (a2)) as_Pi8_i8Q) fun (e7_0, e7_1) =>
    cnd (decide ((e7_0) = (2)))
     (l_impl_OffcutsOf_b0 n a0 a1 (IntKind.i64.wrap ((a2) + (1))) a3 a4)
     (bnd (s_slices_Contains_Sint64_int64 n a3 a2) fun y9_0 =>
      cnd (y9_0)
       (l_impl_OffcutsOf_b0 n a0 a1 (IntKind.i64.wrap ((a2) + (1))) a3 a4)
       (chk (decide (((a4).length + ([(V.parts [(V.int .i8 (IntKind.i8.wrap ((1) - (e7_0)))), (V.int .i8 (IntKind.i8.wrap ((8) - (e7_1))))])]).length) * 2 ≤ 140737488355328))
        (l_impl_OffcutsOf_b0 n a0 a1 (IntKind.i64.wrap ((a2) + (1))) a3 (a4 ++ ([(V.parts [(V.int .i8 (IntKind.i8.wrap ((1) - (e7_0)))), (V.int .i8 (IntKind.i8.wrap ((8) - (e7_1))))])]))))))
   (some (a4))
def s_impl_OffcutsOf (n : Nat) (a0 : List V) : Option (List V × Int) :=
 bnd (s_impl_piecesCode n ([(V.sl (a0))])) fun y1_0 =>
  cnd (decide ((y1_0) = (0)))
   (bnd (s_impl_pairs n a0) fun y3_0 =>
    bnd (s_slices_Concat_Sint64_int64 n y3_0) fun y4_0 =>
     chk (plainV (V.fresh 0 (y4_0)))
      (bnd (l_impl_OffcutsOf_b0 n a0 (((a0).length : Int)) 0 y4_0 (([] : List V))) fun u12_0 =>
       some ((u12_0, 0))))
   (some ((([] : List V), y1_0)))
def l_spec_OffcutsOf_b0 : Nat → (List V) → (Int) → (List V) → (List V) →  Option (List V × List V)
 | 0, _, _, _, _ => none
 | n + 1, a0, a1, a2, a3 =>
  cnd (decide ((a1) < (((a3).length : Int))))
   (chk (inB (a1) (a3).length)
    (bnd (bnd (nth (a3) ((a1).toNat)) as_Li64) fun e7_0 =>
     bnd (bnd (idx (e7_0) (0)) as_i64) fun e8_0 =>
      chk (inB (e8_0) (a2).length)
       (bnd (bnd (nth (a2) ((e8_0).toNat)) as_b) fun e10_0 =>
        bnd (bnd (nth (a3) ((a1).toNat)) as_Li64) fun e11_0 =>
         bnd (bnd (idx (e11_0) (1)) as_i64) fun e12_0 =>
          chk (inB (e12_0) (setNth (a2) ((e8_0).toNat) (V.bool true)).length)
           (bnd (bnd (nth (setNth (a2) ((e8_0).toNat) (V.bool true)) ((e12_0).toNat)) as_b) fun e14_0 =>
            l_spec_OffcutsOf_b0 n a0 (IntKind.i64.wrap ((a1) + (1))) (setNth (setNth (a2) ((e8_0).toNat) (V.bool true)) ((e12_0).toNat) (V.bool true)) a3))))
   (some ((a0, a2)))
def l_spec_OffcutsOf_b2 : Nat → (List V) → (Int) → (List V) → (List V) →  Option (List V)
 | 0, _, _, _, _ => none
 | n + 1, a0, a1, a2, a3 =>
  cnd (decide ((a1) < (((a0).length : Int))))
   (chk (inB (a1) (a2).length)
    (bnd (bnd (nth (a2) ((a1).toNat)) as_b) fun e19_0 =>
     cnd (e19_0)
      (l_spec_OffcutsOf_b2 n a0 (IntKind.i64.wrap ((a1) + (1))) a2 a3)
      (bnd (bnd (idx (a0) (a1)) as_Pi8_i8Q) fun (e21_0, e21_1) =>
       cnd (decide ((e21_0) = (2)))
        (l_spec_OffcutsOf_b2 n a0 (IntKind.i64.wrap ((a1) + (1))) a2 a3)
        (bnd (bnd (idx (a0) (a1)) as_Pi8_i8Q) fun (e23_0, e23_1) =>
         cnd (decide ((e23_0) = (0)))
          (bnd (bnd (idx (a0) (a1)) as_Pi8_i8Q) fun (e25_0, e25_1) =>
           chk (decide (((a3).length + ([(V.parts [(V.int .i8 (1)), (V.int .i8 (IntKind.i8.wrap ((8) - (e25_1))))])]).length) * 2 ≤ 140737488355328))
            (l_spec_OffcutsOf_b2 n a0 (IntKind.i64.wrap ((a1) + (1))) a2 (a3 ++ ([(V.parts [(V.int .i8 (1)), (V.int .i8 (IntKind.i8.wrap ((8) - (e25_1))))])]))))
          (bnd (bnd (idx (a0) (a1)) as_Pi8_i8Q) fun (e27_0, e27_1) =>
           chk (decide (((a3).length + ([(V.parts [(V.int .i8 (0)), (V.int .i8 (IntKind.i8.wrap ((8) - (e27_1))))])]).length) * 2 ≤ 140737488355328))
            (l_spec_OffcutsOf_b2 n a0 (IntKind.i64.wrap ((a1) + (1))) a2 (a3 ++ ([(V.parts [(V.int .i8 (0)), (V.int .i8 (IntKind.i8.wrap ((8) - (e27_1))))])]))))))))
   (some (a3))
def s_spec_OffcutsOf (n : Nat) (a0 : List V) : Option (List V × Int) :=
 bnd (s_spec_l05Asked n a0) fun y1_0 =>
  cnd (decide ((y1_0) = (0)))
   (chk (decide (((a0).length : Int) = ((a0).length : Int)) && decide (0 ≤ ((a0).length : Int)) && decide ((((a0).length : Int)).toNat * 1 ≤ 140737488355328))
    (bnd (s_spec_l05Pairs n a0) fun y4_0 =>
     bnd (l_spec_OffcutsOf_b0 n a0 0 (List.replicate (((a0).length : Int)).toNat (V.bool false)) y4_0) fun (u15_0, u15_1) =>
      bnd (l_spec_OffcutsOf_b2 n u15_0 0 u15_1 ([])) fun u29_0 =>
       some ((u29_0, 0))))
   (some (([], y1_0)))
def s_impl_Piece_isCut (n : Nat) (a0 : Int) (a1 : Int) (a2 : Int) (a3 : Int) : Option (Bool) :=
 cnd (decide ((a1) ≤ (a3)))
  (cnd (decide ((a0) = (2)))
   (some (true))
   (some ((decide ((a0) = (a2))))))
  (some (false))
def l_impl_cover_b2 : Nat → (List V) → (List V) → (Int) → (Int) → (Int) → (Int) → (List V) → (Int) → (Int) → (List V) → (List V) → (List V) → (List V) →  Option (List V × List V × Int × Int × Int × Int × List V × List V × List V × List V)
 | 0, _, _, _, _, _, _, _, _, _, _, _, _, _ => none
 | n + 1, a0, a1, a2, a3, a4, a5, a6, a7, a8, a9, a10, a11, a12 =>
  cnd (decide ((a8) < (a7)))
   (bnd (bnd (idx (a6) (a8)) as_Pi8_i8Q) fun (e7_0, e7_1) =>
    chk (mapFine (false, [IntKind.i64]) (a10) (a11))
     (chk (keyIs (false, [IntKind.i64]) (V.int .i64 (a8)))
      (cnd (mapGetB (V.int .i64 (a8)) (a10) (a11))
       (l_impl_cover_b2 n a0 a1 a2 a3 a4 a5 a6 a7 (IntKind.i64.wrap ((a8) + (1))) a9 a10 a11 a12)
       (bnd (bnd (idx (a0) (a2)) as_Pi8_i8Q) fun (e11_0, e11_1) =>
        bnd (s_impl_Piece_isCut n e11_0 e11_1 e7_0 e7_1) fun y12_0 =>
         cnd (y12_0)
          (cnd (decide ((a3) = (-1)))
           (l_impl_cover_b2 n a0 a1 a2 a8 a4 a5 a6 a7 (IntKind.i64.wrap ((a8) + (1))) a9 a10 a11 a12)
           (bnd (bnd (idx (a1) (a3)) as_Pi8_i8Q) fun (e15_0, e15_1) =>
            cnd (decide ((e7_1) < (e15_1)))
             (l_impl_cover_b2 n a0 a1 a2 a8 a4 a5 a6 a7 (IntKind.i64.wrap ((a8) + (1))) a9 a10 a11 a12)
             (l_impl_cover_b2 n a0 a1 a2 a3 a4 a5 a6 a7 (IntKind.i64.wrap ((a8) + (1))) a9 a10 a11 a12)))
          (l_impl_cover_b2 n a0 a1 a2 a3 a4 a5 a6 a7 (IntKind.i64.wrap ((a8) + (1))) a9 a10 a11 a12)))))
   (some ((a0, a1, a2, a3, a4, a5, a9, a10, a11, a12)))
def l_impl_cover_b0 : Nat → (List V) → (List V) → (Int) → (Int) → (List V) → (List V) → (List V) → (List V) →  Option (List V)
 | 0, _, _, _, _, _, _, _, _ => none
 | n + 1, a0, a1, a2, a3, a4, a5, a6, a7 =>
  cnd (decide ((a3) < (a2)))
   (chk (inB (a3) (a7).length)
    (bnd (bnd (nth (a7) ((a3).toNat)) as_i64) fun e5_0 =>
     bnd (l_impl_cover_b2 n a0 a1 e5_0 (-1) a2 a3 a1 (((a1).length : Int)) 0 a4 a5 a6 a7) fun (u17_0, u17_1, u17_2, u17_3, u17_4, u17_5, u17_6, u17_7, u17_8, u17_9) =>
      cnd (decide ((u17_3) = (-1)))
       (chk (inB (u17_2) (u17_6).length)
        (bnd (bnd (nth (u17_6) ((u17_2).toNat)) as_i64) fun e21_0 =>
         l_impl_cover_b0 n u17_0 u17_1 u17_4 (IntKind.i64.wrap ((u17_5) + (1))) (setNth (u17_6) ((u17_2).toNat) (V.int .i64 (u17_3))) u17_7 u17_8 u17_9))
       (chk (mapFine (false, [IntKind.i64]) (u17_7) (u17_8))
        (chk (keyIs (false, [IntKind.i64]) (V.int .i64 (u17_3)))
         (chk (inB (u17_2) (u17_6).length)
          (bnd (bnd (nth (u17_6) ((u17_2).toNat)) as_i64) fun e25_0 =>
           l_impl_cover_b0 n u17_0 u17_1 u17_4 (IntKind.i64.wrap ((u17_5) + (1))) (setNth (u17_6) ((u17_2).toNat) (V.int .i64 (u17_3))) (mapPutK (V.int .i64 (u17_3)) (u17_7)) (mapPutV (V.int .i64 (u17_3)) (V.bool true) (u17_7) (u17_8)) u17_9))))))
   (some (a4))
def s_impl_cover (n : Nat) (a0 : List V) (a1 : List V) : Option (List V) :=
 chk (decide (((a0).length : Int) = ((a0).length : Int)) && decide (0 ≤ ((a0).length : Int)) && decide ((((a0).length : Int)).toNat * 8 ≤ 140737488355328))
  (bnd (s_impl_byWidth n a0) fun y2_0 =>
   bnd (l_impl_cover_b0 n a0 a1 (((y2_0).length : Int)) 0 (List.replicate (((a0).length : Int)).toNat (V.int .i64 (0))) (([] : List V)) (([] : List V)) y2_0) fun u26_0 =>
    some (u26_0))
def s_impl_CoverFrom (n : Nat) (a0 : List V) (a1 : List V) : Option (List V × Int) :=
 bnd (s_impl_piecesCode n ([(V.sl (a0)), (V.sl (a1))])) fun y1_0 =>
  cnd (decide ((y1_0) = (0)))
   (bnd (s_impl_cover n a0 a1) fun y3_0 =>
    some ((y3_0, 0)))
   (some ((([] : List V), y1_0)))
def s_spec_l05Two (n : Nat) (a0 : List V) (a1 : List V) : Option (Int) :=
 bnd (s_spec_l05Pieces n a0) fun y1_0 =>
  cnd (y1_0)
   (bnd (s_spec_l05Pieces n a1) fun y3_0 =>
    cnd (y3_0)
     (cnd (decide ((30) < (((a0).length : Int))))
      (some (3))
      (cnd (decide ((30) < (((a1).length : Int))))
       (some (3))
       (some (0))))
     (some (1)))
   (some (1))
def l_spec_l05Cover_b2 : Nat → (List V) → (List V) → (Int) → (Int) → (Int) → (List V) → (List V) → (List V) → (Int) → (Int) →  Option (List V × List V × Int × Int × List V × List V × List V)
 | 0, _, _, _, _, _, _, _, _, _, _ => none
 | n + 1, a0, a1, a2, a3, a4, a5, a6, a7, a8, a9 =>
  cnd (decide ((a4) < (((a1).length : Int))))
   (bnd (bnd (idx (a1) (a4)) as_Pi8_i8Q) fun (e9_0, e9_1) =>
    cnd (decide ((a9) ≤ (e9_1)))
     (bnd (bnd (idx (a1) (a4)) as_Pi8_i8Q) fun (e11_0, e11_1) =>
      cnd (decide ((e11_0) = (a8)))
       (chk (inB (a4) (a6).length)
        (bnd (bnd (nth (a6) ((a4).toNat)) as_b) fun e14_0 =>
         cnd (e14_0)
          (l_spec_l05Cover_b2 n a0 a1 a2 a3 (IntKind.i64.wrap ((a4) + (1))) a5 a6 a7 a8 a9)
          (cnd (decide ((a3) < (0)))
           (l_spec_l05Cover_b2 n a0 a1 a2 a4 (IntKind.i64.wrap ((a4) + (1))) a5 a6 a7 a8 a9)
           (bnd (bnd (idx (a1) (a4)) as_Pi8_i8Q) fun (e17_0, e17_1) =>
            bnd (bnd (idx (a1) (a3)) as_Pi8_i8Q) fun (e18_0, e18_1) =>
             cnd (decide ((e17_1) < (e18_1)))
              (l_spec_l05Cover_b2 n a0 a1 a2 a4 (IntKind.i64.wrap ((a4) + (1))) a5 a6 a7 a8 a9)
              (l_spec_l05Cover_b2 n a0 a1 a2 a3 (IntKind.i64.wrap ((a4) + (1))) a5 a6 a7 a8 a9)))))
       (cnd (decide ((a8) = (2)))
        (chk (inB (a4) (a6).length)
         (bnd (bnd (nth (a6) ((a4).toNat)) as_b) fun e22_0 =>
          cnd (e22_0)
           (l_spec_l05Cover_b2 n a0 a1 a2 a3 (IntKind.i64.wrap ((a4) + (1))) a5 a6 a7 a8 a9)
           (cnd (decide ((a3) < (0)))
            (l_spec_l05Cover_b2 n a0 a1 a2 a4 (IntKind.i64.wrap ((a4) + (1))) a5 a6 a7 a8 a9)
            (bnd (bnd (idx (a1) (a4)) as_Pi8_i8Q) fun (e25_0, e25_1) =>
             bnd (bnd (idx (a1) (a3)) as_Pi8_i8Q) fun (e26_0, e26_1) =>
              cnd (decide ((e25_1) < (e26_1)))
               (l_spec_l05Cover_b2 n a0 a1 a2 a4 (IntKind.i64.wrap ((a4) + (1))) a5 a6 a7 a8 a9)
               (l_spec_l05Cover_b2 n a0 a1 a2 a3 (IntKind.i64.wrap ((a4) + (1))) a5 a6 a7 a8 a9)))))
        (l_spec_l05Cover_b2 n a0 a1 a2 a3 (IntKind.i64.wrap ((a4) + (1))) a5 a6 a7 a8 a9)))
     (l_spec_l05Cover_b2 n a0 a1 a2 a3 (IntKind.i64.wrap ((a4) + (1))) a5 a6 a7 a8 a9))
   (some ((a0, a1, a2, a3, a5, a6, a7)))
def l_spec_l05Cover_b0 : Nat → (List V) → (List V) → (Int) → (List V) → (List V) → (List V) →  Option (List V)
 | 0, _, _, _, _, _, _ => none
 | n + 1, a0, a1, a2, a3, a4, a5 =>
  cnd (decide ((a2) < (((a5).length : Int))))
   (chk (inB (a2) (a5).length)
    (bnd (bnd (nth (a5) ((a2).toNat)) as_i64) fun e6_0 =>
     bnd (bnd (idx (a0) (e6_0)) as_Pi8_i8Q) fun (e7_0, e7_1) =>
      bnd (l_spec_l05Cover_b2 n a0 a1 a2 (-1) 0 a3 a4 a5 e7_0 e7_1) fun (u28_0, u28_1, u28_2, u28_3, u28_4, u28_5, u28_6) =>
       chk (inB (u28_2) (u28_6).length)
        (bnd (bnd (nth (u28_6) ((u28_2).toNat)) as_i64) fun e31_0 =>
         chk (inB (e31_0) (u28_4).length)
          (bnd (bnd (nth (u28_4) ((e31_0).toNat)) as_i64) fun e33_0 =>
           cnd (decide ((0) ≤ (u28_3)))
            (chk (inB (u28_3) (u28_5).length)
             (bnd (bnd (nth (u28_5) ((u28_3).toNat)) as_b) fun e36_0 =>
              l_spec_l05Cover_b0 n u28_0 u28_1 (IntKind.i64.wrap ((u28_2) + (1))) (setNth (u28_4) ((e31_0).toNat) (V.int .i64 (u28_3))) (setNth (u28_5) ((u28_3).toNat) (V.bool true)) u28_6))
            (l_spec_l05Cover_b0 n u28_0 u28_1 (IntKind.i64.wrap ((u28_2) + (1))) (setNth (u28_4) ((e31_0).toNat) (V.int .i64 (u28_3))) u28_5 u28_6)))))
   (some (a3))
def s_spec_l05Cover (n : Nat) (a0 : List V) (a1 : List V) : Option (List V) :=
 chk (decide (((a0).length : Int) = ((a0).length : Int)) && decide (0 ≤ ((a0).length : Int)) && decide ((((a0).length : Int)).toNat * 8 ≤ 140737488355328))
  (chk (decide (((a1).length : Int) = ((a1).length : Int)) && decide (0 ≤ ((a1).length : Int)) && decide ((((a1).length : Int)).toNat * 1 ≤ 140737488355328))
   (bnd (s_spec_l05Order n a0) fun y3_0 =>
    bnd (l_spec_l05Cover_b0 n a0 a1 0 (List.replicate (((a0).length : Int)).toNat (V.int .i64 (0))) (List.replicate (((a1).length : Int)).toNat (V.bool false)) y3_0) fun u37_0 =>
     some (u37_0)))
def s_spec_CoverFrom (n : Nat) (a0 : List V) (a1 : List V) : Option (List V × Int) :=
 bnd (s_spec_l05Two n a0 a1) fun y1_0 =>
  cnd (decide ((y1_0) = (0)))
   (bnd (s_spec_l05Cover n a0 a1) fun y3_0 =>
    some ((y3_0, 0)))
   (some (([], y1_0)))
def l_impl_NewTilesFor_b0 : Nat → (List V) → (Int) → (Int) → (List V) → (List V) →  Option (List V)
 | 0, _, _, _, _, _ => none
 | n + 1, a0, a1, a2, a3, a4 =>
  cnd (decide ((a2) < (a1)))
   (chk (inB (a2) (a4).length)
    (bnd (bnd (nth (a4) ((a2).toNat)) as_i64) fun e6_0 =>
     cnd (decide ((e6_0) = (-1)))
      (bnd (bnd (idx (a0) (a2)) as_Pi8_i8Q) fun (e8_0, e8_1) =>
       chk (decide (((a3).length + ([(V.parts [(V.int .i8 (e8_0)), (V.int .i8 (e8_1))])]).length) * 2 ≤ 140737488355328))
        (l_impl_NewTilesFor_b0 n a0 a1 (IntKind.i64.wrap ((a2) + (1))) (a3 ++ ([(V.parts [(V.int .i8 (e8_0)), (V.int .i8 (e8_1))])])) a4))
      (l_impl_NewTilesFor_b0 n a0 a1 (IntKind.i64.wrap ((a2) + (1))) a3 a4)))
   (some (a3))
def s_impl_NewTilesFor (n : Nat) (a0 : List V) (a1 : List V) : Option (Int × Int) :=
 bnd (s_impl_piecesCode n ([(V.sl (a0)), (V.sl (a1))])) fun y1_0 =>
  cnd (decide ((y1_0) = (0)))
   (bnd (s_impl_cover n a0 a1) fun y3_0 =>
    bnd (l_impl_NewTilesFor_b0 n a0 (((y3_0).length : Int)) 0 (([] : List V)) y3_0) fun u10_0 =>
     bnd (s_impl_tilesFor n u10_0) fun y12_0 =>
      some ((y12_0, 0)))
   (some ((0, y1_0)))
def s_spec_l05Tiles (n : Nat) (a0 : List V) : Option (Int) :=
 bnd (s_spec_l05Pairs n a0) fun y1_0 =>
  some (IntKind.i64.wrap ((((a0).length : Int)) - (((y1_0).length : Int))))
def l_spec_NewTilesFor_b0 : Nat → (List V) → (Int) → (List V) → (List V) →  Option (List V)
 | 0, _, _, _, _ => none
 | n + 1, a0, a1, a2, a3 =>
  cnd (decide ((a1) < (((a0).length : Int))))
   (chk (inB (a1) (a3).length)
    (bnd (bnd (nth (a3) ((a1).toNat)) as_i64) fun e6_0 =>
     cnd (decide ((e6_0) < (0)))
      (bnd (bnd (idx (a0) (a1)) as_Pi8_i8Q) fun (e8_0, e8_1) =>
       chk (decide (((a2).length + ([(V.parts [(V.int .i8 (e8_0)), (V.int .i8 (e8_1))])]).length) * 2 ≤ 140737488355328))
        (l_spec_NewTilesFor_b0 n a0 (IntKind.i64.wrap ((a1) + (1))) (a2 ++ ([(V.parts [(V.int .i8 (e8_0)), (V.int .i8 (e8_1))])])) a3))
      (l_spec_NewTilesFor_b0 n a0 (IntKind.i64.wrap ((a1) + (1))) a2 a3)))
   (some (a2))
def s_spec_NewTilesFor (n : Nat) (a0 : List V) (a1 : List V) : Option (Int × Int) :=
 bnd (s_spec_l05Two n a0 a1) fun y1_0 =>
  cnd (decide ((y1_0) = (0)))
   (bnd (s_spec_l05Cover n a0 a1) fun y3_0 =>
    bnd (l_spec_NewTilesFor_b0 n a0 0 ([]) y3_0) fun u10_0 =>
     bnd (s_spec_l05Tiles n u10_0) fun y12_0 =>
      some ((y12_0, 0)))
   (some ((0, y1_0)))
def l_spec_A2SamePieces_b0 : Nat → (List V) → (List V) → (Int) →  Option (Sum (Unit) (Bool))
 | 0, _, _, _ => none
 | n + 1, a0, a1, a2 =>
  cnd (decide ((a2) < (((a0).length : Int))))
   (bnd (bnd (idx (a0) (a2)) as_Pi8_i8Q) fun (e3_0, e3_1) =>
    bnd (bnd (idx (a1) (a2)) as_Pi8_i8Q) fun (e4_0, e4_1) =>
     cnd (eqParts [(V.int .i8 (e3_0)), (V.int .i8 (e3_1))] [(V.int .i8 (e4_0)), (V.int .i8 (e4_1))])
      (l_spec_A2SamePieces_b0 n a0 a1 (IntKind.i64.wrap ((a2) + (1))))
      (some (.inr (false))))
   (some (.inl (())))
def s_spec_A2SamePieces (n : Nat) (a0 : List V) (a1 : List V) : Option (Bool) :=
 cnd (decide ((((a0).length : Int)) = (((a1).length : Int))))
  (bnd (l_spec_A2SamePieces_b0 n a0 a1 0) fun w => match w with
   | .inl _ =>
    some (true)
   | .inr u7_0 =>
    some ((u7_0)))
  (some (false))
def l_spec_l00Same_b0 : Nat → (List V) → (List V) → (Int) →  Option (Sum (Unit) (Bool))
 | 0, _, _, _ => none
 | n + 1, a0, a1, a2 =>
  cnd (decide ((a2) < (((a0).length : Int))))
   (bnd (bnd (idx (a0) (a2)) as_i64) fun e3_0 =>
    bnd (bnd (idx (a1) (a2)) as_i64) fun e4_0 =>
     cnd (decide ((e3_0) = (e4_0)))
      (l_spec_l00Same_b0 n a0 a1 (IntKind.i64.wrap ((a2) + (1))))
      (some (.inr (false))))
   (some (.inl (())))
def s_spec_l00Same (n : Nat) (a0 : List V) (a1 : List V) : Option (Bool) :=
 cnd (decide ((((a0).length : Int)) = (((a1).length : Int))))
  (bnd (l_spec_l00Same_b0 n a0 a1 0) fun w => match w with
   | .inl _ =>
    some (true)
   | .inr u7_0 =>
    some ((u7_0)))
  (some (false))
def l_spec_A2SameLists_b0 : Nat → (List V) → (List V) → (Int) →  Option (Sum (Unit) (Bool))
 | 0, _, _, _ => none
 | n + 1, a0, a1, a2 =>
  cnd (decide ((a2) < (((a0).length : Int))))
   (bnd (bnd (idx (a0) (a2)) as_Li64) fun e3_0 =>
    bnd (bnd (idx (a1) (a2)) as_Li64) fun e4_0 =>
     bnd (s_spec_l00Same n e3_0 e4_0) fun y5_0 =>
      cnd (y5_0)
       (l_spec_A2SameLists_b0 n a0 a1 (IntKind.i64.wrap ((a2) + (1))))
       (some (.inr (false))))
   (some (.inl (())))
def s_spec_A2SameLists (n : Nat) (a0 : List V) (a1 : List V) : Option (Bool) :=
 cnd (decide ((((a0).length : Int)) = (((a1).length : Int))))
  (bnd (l_spec_A2SameLists_b0 n a0 a1 0) fun w => match w with
   | .inl _ =>
    some (true)
   | .inr u8_0 =>
    some ((u8_0)))
  (some (false))
def s_spec_A2Same (n : Nat) (a0 : List V) (a1 : List V) : Option (Bool) :=
 bnd (s_spec_l00Same n a0 a1) fun y1_0 =>
  some ((y1_0))
def l_laws_FnStocks_b0 : Nat → (List V) → (List V) → (Int) → (Int) → (Int) → (Int) → (Int) → (List V) → (List V) → (List V) → (List V) →  Option (Sum (List V × List V × Int × Int × Int × Int × List V × List V × List V × List V) (Bool))
 | 0, _, _, _, _, _, _, _, _, _, _, _ => none
 | n + 1, a0, a1, a2, a3, a4, a5, a6, a7, a8, a9, a10 =>
  cnd (decide ((a6) < (((a7).length : Int))))
   (chk (inB (a6) (a7).length)
    (bnd (bnd (nth (a7) ((a6).toNat)) as_Li64) fun e41_0 =>
     cnd (decide ((((e41_0).length : Int)) = (2)))
      (bnd (bnd (nth (a7) ((a6).toNat)) as_Li64) fun e43_0 =>
       bnd (bnd (idx (e43_0) (0)) as_i64) fun e44_0 =>
        bnd (bnd (idx (a0) (e44_0)) as_Pi8_i8Q) fun (e45_0, e45_1) =>
         bnd (bnd (nth (a7) ((a6).toNat)) as_Li64) fun e46_0 =>
          bnd (bnd (idx (e46_0) (1)) as_i64) fun e47_0 =>
           bnd (bnd (idx (a0) (e47_0)) as_Pi8_i8Q) fun (e48_0, e48_1) =>
            cnd (decide ((e45_0) = (0)))
             (cnd (decide ((e48_0) = (1)))
              (cnd (decide ((8) < (IntKind.i8.wrap ((e45_1) + (e48_1)))))
               (some (.inr (false)))
               (bnd (bnd (nth (a7) ((a6).toNat)) as_Li64) fun e52_0 =>
                bnd (bnd (idx (e52_0) (0)) as_i64) fun e53_0 =>
                 chk (inB (e53_0) (a10).length)
                  (bnd (bnd (nth (a10) ((e53_0).toNat)) as_b) fun e55_0 =>
                   cnd (e55_0)
                    (some (.inr (false)))
                    (bnd (bnd (nth (a7) ((a6).toNat)) as_Li64) fun e57_0 =>
                     bnd (bnd (idx (e57_0) (1)) as_i64) fun e58_0 =>
                      chk (inB (e58_0) (a10).length)
                       (bnd (bnd (nth (a10) ((e58_0).toNat)) as_b) fun e60_0 =>
                        cnd (e60_0)
                         (some (.inr (false)))
                         (bnd (bnd (nth (a7) ((a6).toNat)) as_Li64) fun e62_0 =>
                          bnd (bnd (idx (e62_0) (0)) as_i64) fun e63_0 =>
                           chk (inB (e63_0) (a10).length)
                            (bnd (bnd (nth (a10) ((e63_0).toNat)) as_b) fun e65_0 =>
                             bnd (bnd (nth (a7) ((a6).toNat)) as_Li64) fun e66_0 =>
                              bnd (bnd (idx (e66_0) (1)) as_i64) fun e67_0 =>
                               chk (inB (e67_0) (setNth (a10) ((e63_0).toNat) (V.bool true)).length)
                                (bnd (bnd (nth (setNth (a10) ((e63_0).toNat) (V.bool true)) ((e67_0).toNat)) as_b) fun e69_0 =>
                                 l_laws_FnStocks_b0 n a0 a1 a2 a3 a4 a5 (IntKind.i64.wrap ((a6) + (1))) a7 a8 a9 (setNth (setNth (a10) ((e63_0).toNat) (V.bool true)) ((e67_0).toNat) (V.bool true))))))))))
              (some (.inr (false))))
             (some (.inr (false))))
      (some (.inr (false)))))
   (some (.inl ((a0, a1, a2, a3, a4, a5, a7, a8, a9, a10))))
def l_laws_FnStocks_b4 : Nat → (List V) → (List V) → (Int) → (Int) → (Int) → (Int) → (Int) → (Int) → (List V) → (List V) → (List V) → (List V) →  Option (Sum (List V × List V × Int × Int × Int × Int × Int × List V × List V × List V × List V) (Bool))
 | 0, _, _, _, _, _, _, _, _, _, _, _, _ => none
 | n + 1, a0, a1, a2, a3, a4, a5, a6, a7, a8, a9, a10, a11 =>
  cnd (decide ((a7) < (((a0).length : Int))))
   (chk (inB (a7) (a11).length)
    (bnd (bnd (nth (a11) ((a7).toNat)) as_b) fun e81_0 =>
     cnd (e81_0)
      (l_laws_FnStocks_b4 n a0 a1 a2 a3 a4 a5 a6 (IntKind.i64.wrap ((a7) + (1))) a8 a9 a10 a11)
      (bnd (bnd (idx (a0) (a6)) as_Pi8_i8Q) fun (e83_0, e83_1) =>
       cnd (decide ((e83_0) = (0)))
        (bnd (bnd (idx (a0) (a7)) as_Pi8_i8Q) fun (e85_0, e85_1) =>
         cnd (decide ((e85_0) = (1)))
          (bnd (bnd (idx (a0) (a6)) as_Pi8_i8Q) fun (e87_0, e87_1) =>
           bnd (bnd (idx (a0) (a7)) as_Pi8_i8Q) fun (e88_0, e88_1) =>
            cnd (decide ((IntKind.i8.wrap ((e87_1) + (e88_1))) ≤ (8)))
             (some (.inr (false)))
             (l_laws_FnStocks_b4 n a0 a1 a2 a3 a4 a5 a6 (IntKind.i64.wrap ((a7) + (1))) a8 a9 a10 a11))
          (l_laws_FnStocks_b4 n a0 a1 a2 a3 a4 a5 a6 (IntKind.i64.wrap ((a7) + (1))) a8 a9 a10 a11))
        (l_laws_FnStocks_b4 n a0 a1 a2 a3 a4 a5 a6 (IntKind.i64.wrap ((a7) + (1))) a8 a9 a10 a11))))
   (some (.inl ((a0, a1, a2, a3, a4, a5, a6, a8, a9, a10, a11))))
def l_laws_FnStocks_b2 : Nat → (List V) → (List V) → (Int) → (Int) → (Int) → (Int) → (Int) → (List V) → (List V) → (List V) → (List V) →  Option (Sum (List V × List V × Int × Int × Int × Int × List V × List V × List V) (Bool))
 | 0, _, _, _, _, _, _, _, _, _, _, _ => none
 | n + 1, a0, a1, a2, a3, a4, a5, a6, a7, a8, a9, a10 =>
  cnd (decide ((a6) < (((a0).length : Int))))
   (bnd (bnd (idx (a0) (a6)) as_Pi8_i8Q) fun (e73_0, e73_1) =>
    cnd (decide ((e73_0) = (2)))
     (l_laws_FnStocks_b2 n a0 a1 a2 a3 a4 (IntKind.i64.wrap ((a5) + (1))) (IntKind.i64.wrap ((a6) + (1))) a7 a8 a9 a10)
     (chk (inB (a6) (a10).length)
      (bnd (bnd (nth (a10) ((a6).toNat)) as_b) fun e76_0 =>
       cnd (e76_0)
        (l_laws_FnStocks_b2 n a0 a1 a2 a3 a4 a5 (IntKind.i64.wrap ((a6) + (1))) a7 a8 a9 a10)
        (bnd (bnd (idx (a0) (a6)) as_Pi8_i8Q) fun (e78_0, e78_1) =>
         bnd (l_laws_FnStocks_b4 n a0 a1 a2 a3 (IntKind.i64.wrap ((a4) + (IntKind.i64.wrap (e78_1)))) a5 a6 0 a7 a8 a9 a10) fun w => match w with
          | .inl (u90_0, u90_1, u90_2, u90_3, u90_4, u90_5, u90_6, u90_7, u90_8, u90_9, u90_10) =>
           l_laws_FnStocks_b2 n u90_0 u90_1 u90_2 u90_3 u90_4 u90_5 (IntKind.i64.wrap ((u90_6) + (1))) u90_7 u90_8 u90_9 u90_10
          | .inr u91_0 =>
           some (.inr ((u91_0)))))))
   (some (.inl ((a0, a1, a2, a3, a4, a5, a7, a8, a9))))
def l_laws_FnStocks_b6 : Nat → (List V) → (List V) → (Int) → (Int) → (Int) → (Int) → (List V) → (List V) →  Option (List V × List V × Int × Int × Int × List V × List V)
 | 0, _, _, _, _, _, _, _, _ => none
 | n + 1, a0, a1, a2, a3, a4, a5, a6, a7 =>
  cnd (decide ((a5) < (((a6).length : Int))))
   (chk (inB (a5) (a6).length)
    (bnd (bnd (nth (a6) ((a5).toNat)) as_Pi8_i8Q) fun (e98_0, e98_1) =>
     bnd (bnd (nth (a6) ((a5).toNat)) as_Pi8_i8Q) fun (e99_0, e99_1) =>
      l_laws_FnStocks_b6 n a0 a1 a2 a3 (IntKind.i64.wrap ((a4) + (IntKind.i64.wrap (e99_1)))) (IntKind.i64.wrap ((a5) + (1))) a6 a7))
   (some ((a0, a1, a2, a3, a4, a6, a7)))
def l_laws_FnStocks_b10 : Nat → (List V) → (List V) → (Int) → (Int) → (Int) → (Int) → (Int) → (List V) →  Option (Sum (List V × List V × Int × Int × Int × Int × List V) (Bool))
 | 0, _, _, _, _, _, _, _, _ => none
 | n + 1, a0, a1, a2, a3, a4, a5, a6, a7 =>
  cnd (decide ((a6) < (a5)))
   (chk (inB (a6) (a7).length)
    (bnd (bnd (nth (a7) ((a6).toNat)) as_i64) fun e119_0 =>
     chk (inB (a5) (a7).length)
      (bnd (bnd (nth (a7) ((a5).toNat)) as_i64) fun e121_0 =>
       cnd (decide ((e119_0) = (e121_0)))
        (some (.inr (false)))
        (l_laws_FnStocks_b10 n a0 a1 a2 a3 a4 a5 (IntKind.i64.wrap ((a6) + (1))) a7))))
   (some (.inl ((a0, a1, a2, a3, a4, a5, a7))))
def l_laws_FnStocks_b8 : Nat → (List V) → (List V) → (Int) → (Int) → (Int) → (Int) → (List V) →  Option (Sum (List V × Int × Int × Int) (Bool))
 | 0, _, _, _, _, _, _, _ => none
 | n + 1, a0, a1, a2, a3, a4, a5, a6 =>
  cnd (decide ((a5) < (((a6).length : Int))))
   (chk (inB (a5) (a6).length)
    (bnd (bnd (nth (a6) ((a5).toNat)) as_i64) fun e105_0 =>
     cnd (decide ((e105_0) < (0)))
      (l_laws_FnStocks_b8 n a0 a1 a2 a3 (IntKind.i64.wrap ((a4) + (1))) (IntKind.i64.wrap ((a5) + (1))) a6)
      (bnd (bnd (nth (a6) ((a5).toNat)) as_i64) fun e107_0 =>
       cnd (decide ((((a1).length : Int)) ≤ (e107_0)))
        (some (.inr (false)))
        (bnd (bnd (nth (a6) ((a5).toNat)) as_i64) fun e109_0 =>
         bnd (bnd (idx (a1) (e109_0)) as_Pi8_i8Q) fun (e110_0, e110_1) =>
          bnd (bnd (idx (a0) (a5)) as_Pi8_i8Q) fun (e111_0, e111_1) =>
           cnd (decide ((e110_1) < (e111_1)))
            (some (.inr (false)))
            (bnd (bnd (nth (a6) ((a5).toNat)) as_i64) fun e113_0 =>
             bnd (bnd (idx (a1) (e113_0)) as_Pi8_i8Q) fun (e114_0, e114_1) =>
              bnd (bnd (idx (a0) (a5)) as_Pi8_i8Q) fun (e115_0, e115_1) =>
               cnd (decide ((e114_0) = (e115_0)))
                (bnd (l_laws_FnStocks_b10 n a0 a1 a2 a3 a4 a5 0 a6) fun w => match w with
                 | .inl (u123_0, u123_1, u123_2, u123_3, u123_4, u123_5, u123_6) =>
                  l_laws_FnStocks_b8 n u123_0 u123_1 u123_2 u123_3 u123_4 (IntKind.i64.wrap ((u123_5) + (1))) u123_6
                 | .inr u124_0 =>
                  some (.inr ((u124_0))))
                (bnd (bnd (idx (a0) (a5)) as_Pi8_i8Q) fun (e126_0, e126_1) =>
                 cnd (decide ((e126_0) = (2)))
                  (bnd (l_laws_FnStocks_b10 n a0 a1 a2 a3 a4 a5 0 a6) fun w => match w with
                   | .inl (u128_0, u128_1, u128_2, u128_3, u128_4, u128_5, u128_6) =>
                    l_laws_FnStocks_b8 n u128_0 u128_1 u128_2 u128_3 u128_4 (IntKind.i64.wrap ((u128_5) + (1))) u128_6
                   | .inr u129_0 =>
                    some (.inr ((u129_0))))
                  (some (.inr (false)))))))))
   (some (.inl ((a0, a2, a3, a4))))
def s_laws_FnStocks (n : Nat) (a0 : List V) (a1 : List V) : Option (Bool) :=
 bnd (s_laws_a2Long n a0 a1) fun y1_0 =>
  cnd (y1_0)
   (some (true))
   (bnd (s_spec_A2Pieces_c n a0) fun y3_0 =>
    bnd (s_spec_A2Pieces_c n a1) fun y4_0 =>
     bnd (s_impl_PiecesText n y3_0) fun y5_0 =>
      bnd (s_impl_ReadPieces n y5_0) fun (y6_0, y6_1) =>
       bnd (s_impl_PairPieces n y3_0) fun (y7_0, y7_1) =>
        bnd (s_spec_PairPieces n y3_0) fun (y8_0, y8_1) =>
         bnd (s_impl_TilesFor n y3_0) fun (y9_0, y9_1) =>
          bnd (s_impl_OffcutsOf n y3_0) fun (y10_0, y10_1) =>
           bnd (s_spec_OffcutsOf n y3_0) fun (y11_0, y11_1) =>
            bnd (s_impl_CoverFrom n y3_0 y4_0) fun (y12_0, y12_1) =>
             bnd (s_spec_CoverFrom n y3_0 y4_0) fun (y13_0, y13_1) =>
              bnd (s_impl_NewTilesFor n y3_0 y4_0) fun (y14_0, y14_1) =>
               bnd (s_spec_NewTilesFor n y3_0 y4_0) fun (y15_0, y15_1) =>
                cnd (decide ((y6_1) = (0)))
                 (cnd (decide ((((y6_0).length : Int)) = (((y3_0).length : Int))))
                  (bnd (s_spec_A2SamePieces n y6_0 y3_0) fun y18_0 =>
                   cnd (y18_0)
                    (cnd (decide ((y7_1) = (y8_1)))
                     (cnd (decide ((y7_1) = (0)))
                      (bnd (s_spec_A2SameLists n y7_0 y8_0) fun y22_0 =>
                       cnd (y22_0)
                        (cnd (decide ((y9_1) = (0)))
                         (cnd (decide ((y9_0) = (IntKind.i64.wrap ((((y3_0).length : Int)) - (((y8_0).length : Int))))))
                          (cnd (decide ((y10_1) = (y11_1)))
                           (cnd (decide ((y10_1) = (0)))
                            (bnd (s_spec_A2SamePieces n y10_0 y11_0) fun y28_0 =>
                             cnd (y28_0)
                              (cnd (decide ((y12_1) = (y13_1)))
                               (cnd (decide ((y12_1) = (0)))
                                (bnd (s_spec_A2Same n y12_0 y13_0) fun y32_0 =>
                                 cnd (y32_0)
                                  (cnd (decide ((((y13_0).length : Int)) = (((y3_0).length : Int))))
                                   (cnd (decide ((y14_1) = (y15_1)))
                                    (cnd (decide ((y14_1) = (0)))
                                     (cnd (decide ((y14_0) = (y15_0)))
                                      (chk (decide (((y3_0).length : Int) = ((y3_0).length : Int)) && decide (0 ≤ ((y3_0).length : Int)) && decide ((((y3_0).length : Int)).toNat * 1 ≤ 140737488355328))
                                       (bnd (l_laws_FnStocks_b0 n y3_0 y4_0 y9_0 y15_0 0 0 0 y8_0 y11_0 y13_0 (List.replicate (((y3_0).length : Int)).toNat (V.bool false))) fun w => match w with
                                        | .inl (u70_0, u70_1, u70_2, u70_3, u70_4, u70_5, u70_6, u70_7, u70_8, u70_9) =>
                                         bnd (l_laws_FnStocks_b2 n u70_0 u70_1 u70_2 u70_3 u70_4 u70_5 0 u70_6 u70_7 u70_8 u70_9) fun w => match w with
                                          | .inl (u93_0, u93_1, u93_2, u93_3, u93_4, u93_5, u93_6, u93_7, u93_8) =>
                                           cnd (decide ((((u93_7).length : Int)) = (IntKind.i64.wrap ((IntKind.i64.wrap ((((u93_0).length : Int)) - (u93_5))) - (IntKind.i64.wrap ((2) * (((u93_6).length : Int))))))))
                                            (bnd (l_laws_FnStocks_b6 n u93_0 u93_1 u93_2 u93_3 u93_4 0 u93_7 u93_8) fun (u100_0, u100_1, u100_2, u100_3, u100_4, u100_5, u100_6) =>
                                             cnd (decide ((u100_4) = (IntKind.i64.wrap ((8) * (((u100_5).length : Int))))))
                                              (bnd (l_laws_FnStocks_b8 n u100_0 u100_1 u100_2 u100_3 0 0 u100_6) fun w => match w with
                                               | .inl (u131_0, u131_1, u131_2, u131_3) =>
                                                bnd (s_impl_NewTilesFor n u131_0 (([] : List V))) fun (y133_0, y133_1) =>
                                                 cnd (decide ((u131_2) ≤ (u131_3)))
                                                  (cnd (decide ((u131_3) ≤ (IntKind.i64.wrap ((2) * (u131_2)))))
                                                   (cnd (decide ((y133_1) = (0)))
                                                    (some ((decide ((y133_0) = (u131_1)))))
                                                    (some (false)))
                                                   (some (false)))
                                                  (some (false))
                                               | .inr u136_0 =>
                                                some ((u136_0)))
                                              (some (false)))
                                            (some (false))
                                          | .inr u137_0 =>
                                           some ((u137_0))
                                        | .inr u138_0 =>
                                         some ((u138_0))))
                                      (some (false)))
                                     (some (false)))
                                    (some (false)))
                                   (some (false)))
                                  (some (false)))
                                (some (false)))
                               (some (false)))
                              (some (false)))
                            (some (false)))
                           (some (false)))
                          (some (false)))
                         (some (false)))
                        (some (false)))
                      (some (false)))
                     (some (false)))
                    (some (false)))
                  (some (false)))
                 (some (false)))
end
end Go.Proofs.YthdnamhilcjnhaaGreatDoor

