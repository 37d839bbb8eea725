/- What functions by contract answer, in plain Lean: a number's text; pieces read from a text. -/
import Derived.Test.YthdnamhilcjnhaaDoorMa
import Derived.Test.YthdnamhilcjnhaaDoorRs24
import Derived.Test.YthdnamhilcjnhaaDoorRg1
import Derived.Test.YthdnamhilcjnhaaDoorChecked
import Derived.Test.YthdnamhilcjnhaaDoorRg0
namespace Go.Proofs.YthdnamhilcjnhaaDoor
open Go Go.RowKit
set_option linter.unusedVariables false
set_option linter.unusedSimpArgs false
def fmtQ (a b : Int) : Option ByteArray := match decide (1 ≤ a) && decide (a ≤ 7) && decide (b = 10) with
  | true => some (digS a)
  | false => none
def prFmt : List V → Option V
  | [.int .i64 a, .int .i64 b] => match fmtQ a b with
    | some z => some (.str z)
    | none => none
  | _ => none
/-- the words of a text: what stands between its blanks -/
def wordsOf : List UInt8 → List (List UInt8)
  | [] => [[]]
  | b :: l => match b == 32 with
    | true => [] :: wordsOf l
    | false => match wordsOf l with
      | [] => [[b]]
      | w :: ws => (b :: w) :: ws
/-- the piece of a word -/
def wordP (w : List UInt8) : Option (Int × Int) := match w with
  | [a, b] => match isP (IntKind.i8.wrap (Lib.indexByte [108, 114, 109] a)) (IntKind.i8.wrap (IntKind.i8.wrap (IntKind.u8.wrap (BitVec.ofInt IntKind.u8.bits b.toNat &&& BitVec.ofInt IntKind.u8.bits 127).toNat) - 48)) with
    | true => match (handS (IntKind.i8.wrap (Lib.indexByte [108, 114, 109] a)) ++ digS (IntKind.i8.wrap (IntKind.i8.wrap (IntKind.u8.wrap (BitVec.ofInt IntKind.u8.bits b.toNat &&& BitVec.ofInt IntKind.u8.bits 127).toNat) - 48))).toList == [a, b] with
      | true => some (IntKind.i8.wrap (Lib.indexByte [108, 114, 109] a), IntKind.i8.wrap (IntKind.i8.wrap (IntKind.u8.wrap (BitVec.ofInt IntKind.u8.bits b.toNat &&& BitVec.ofInt IntKind.u8.bits 127).toNat) - 48))
      | false => none
    | false => none
  | _ => none
def rpGo : List (List UInt8) → List (Int × Int) → List (Int × Int) × Int
  | [], acc => (acc, 0)
  | w :: ws, acc => match decide (acc.length = 30) with
    | true => ([], 5)
    | false => match wordP w with
      | some p => rpGo ws (acc ++ [p])
      | none => ([], 5)
def rpQ (s : ByteArray) : List (Int × Int) × Int := match decide (s.size = 0) with
  | true => ([], 0)
  | false => rpGo (wordsOf s.data.toList) []
def pcV (p : Int × Int) : V := .parts [.int .i8 p.1, .int .i8 p.2]
def prRows (s : ByteArray) : List V := (rpQ s).1.map pcV
def prCode (s : ByteArray) : Int := (rpQ s).2
def prRead : List V → Option V
  | [.str s] => match decide (s.size ≤ 1048576) with
    | true => some (.tup [.fresh 34 (prRows s), .int .i64 (prCode s)])
    | false => none
  | _ => none
/-- a value of one cell that is a number, or a text -/
theorem RFC_int {w : World} {ok : Nat → Prop} {k : IntKind} {n : Int} {vs : List V} {us : List Value} (h : RFC w ok (.int k n :: vs) us) : ∃ l, us = .int k n :: l ∧ RFC w ok vs l := by
  simp only [RFC, RF, aggOk] at h
  obtain ⟨u, l, rfl, h1, h2, h3⟩ := h
  have : u = .int k n := by cases u <;> simp [Value.oneCell', Value.cells] at h1 h2 <;> simp [h1]
  exact ⟨l, by rw [this], h3⟩
theorem RFC_str {w : World} {ok : Nat → Prop} {s : ByteArray} {vs : List V} {us : List Value} (h : RFC w ok (.str s :: vs) us) : ∃ l, us = .string s :: l ∧ RFC w ok vs l := by
  simp only [RFC, RF, aggOk] at h
  obtain ⟨u, l, rfl, h1, h2, h3⟩ := h
  have : u = .string s := by cases u <;> simp [Value.oneCell', Value.cells] at h1 h2 <;> simp [h1]
  exact ⟨l, by rw [this], h3⟩
theorem RFC_nil {w : World} {ok : Nat → Prop} {us : List Value} (h : RFC w ok [] us) : us = [] := by simpa only [RFC] using h
theorem res_one {E : Env} {no : Nat → Prop} {w w' : World} {r : V} {u : Value} (hno : ∀ b, no b → b < w.heap.size) (hb : Below w.heap.size w w') (hr : ∀ i, recv r i = (r, [])) (h : ∀ σ : Sg, RT E ent0 σ w' r u) : ResR E no w w' r u := by
  intro i _
  rw [hr i]
  refine ⟨⟨fun _ => undef, no⟩, rfl, ⟨⟨hb.os, hb.tape, hb.output, hb.size, fun k hk => hb.block k hk⟩, fun b h => h, fun _ => trivial, ?_, hno, ?_⟩, h _⟩
  · intro id b hl; simp [updE, find, ent0, Ent.live] at hl
  · intro i j b _ hl; simp [updE, find, ent0, Ent.live] at hl
theorem res_str {E : Env} {no : Nat → Prop} {w w' : World} {s : ByteArray} (hno : ∀ b, no b → b < w.heap.size) (hb : Below w.heap.size w w') : ResR E no w w' (.str s) (.string s) :=
  res_one hno hb (fun _ => rfl) fun σ => ⟨rfl, by simp [RO1, RF]⟩
theorem res_bool {E : Env} {no : Nat → Prop} {w w' : World} {b : Bool} (hno : ∀ b, no b → b < w.heap.size) (hb : Below w.heap.size w w') : ResR E no w w' (.bool b) (.bool b) :=
  res_one hno hb (fun _ => rfl) fun σ => ⟨rfl, by simp [RO1, RF]⟩
theorem res_int {E : Env} {no : Nat → Prop} {w w' : World} {k : IntKind} {n : Int} (hno : ∀ b, no b → b < w.heap.size) (hb : Below w.heap.size w w') : ResR E no w w' (.int k n) (.int k n) :=
  res_one hno hb (fun _ => rfl) fun σ => ⟨rfl, by simp [RO1, RF]⟩
theorem prFmt_ok (E : Env) {avs : List V} {r : V} (h : prFmt avs = some r) : FunOk Tryd.prog E 27 avs r := by
  refine ⟨⟨_, Tryd.func27, by kernel_rfl⟩, fun no w us hno hus => ?_⟩
  unfold prFmt at h
  split at h
  · rename_i a b
    split at h
    · rename_i z hz
      simp only [Option.some.injEq] at h
      subst h
      obtain ⟨l1, e1, h1⟩ := RFC_int hus
      obtain ⟨l2, e2, h2⟩ := RFC_int h1
      have e3 := RFC_nil h2
      subst e3
      subst e2
      subst e1
      clear h1 h2 hus
      unfold fmtQ at hz
      split at hz
      · rename_i hc
        simp only [Bool.and_eq_true, decide_eq_true_eq] at hc
        simp only [Option.some.injEq] at hz
        subst hz
        obtain ⟨⟨c1, c2⟩, rfl⟩ := hc
        refine (format27_ok a ⟨c1, c2⟩ w).mono ?_
        rintro e w' ⟨rfl, rfl⟩
        exact res_str hno (Below.refl _ _)
      · cases hz
    · cases h
  · cases h
end Go.Proofs.YthdnamhilcjnhaaDoor
namespace Go.Proofs.YthdnamhilcjnhaaDoor
open Go
set_option linter.unusedVariables false
set_option linter.unusedSimpArgs false
def as_Pi8_i8Q : V → Option (Int × Int)
  | (V.parts [(V.int .i8 (e0)), (V.int .i8 (e1))]) => some (e0, e1)
  | _ => none
theorem as_Pi8_i8Q_some {x : Option V} {e0 : Int} {e1 : Int} (h : bnd x as_Pi8_i8Q = some (e0, e1)) : x = some (V.parts [(V.int .i8 (e0)), (V.int .i8 (e1))]) := by
  obtain ⟨v, rfl, k⟩ := bnd_some h
  unfold as_Pi8_i8Q at k
  split at k
  · simp only [Option.some.injEq, Prod.mk.injEq] at k
    obtain ⟨rfl, rfl⟩ := k
    rfl
  · cases k
def as_s : V → Option (ByteArray)
  | (V.str e0) => some e0
  | _ => none
theorem as_s_some {x : Option V} {e0 : ByteArray} (h : bnd x as_s = some e0) : x = some (V.str e0) := by
  obtain ⟨v, rfl, k⟩ := bnd_some h
  unfold as_s at k
  split at k
  · simp only [Option.some.injEq, Prod.mk.injEq] at k
    obtain rfl := k
    rfl
  · cases k
def s_strconv_FormatInt (n : Nat) (a0 : Int) (a1 : Int) : Option ByteArray :=
  fmtQ a0 a1
def s_impl_dec_int8 (n : Nat) (a0 : Int) : Option (ByteArray) :=
  bnd (s_strconv_FormatInt n (IntKind.i64.wrap (a0)) 10) fun y1_0 =>
    some (y1_0)
def s_impl_pieceText (n : Nat) (a0 : Int) (a1 : Int) : Option (ByteArray) :=
  chk (decide (0 ≤ IntKind.i8.wrap ((a0) + (1))) && decide (IntKind.i8.wrap ((a0) + (1)) ≤ (((⟨#[108, 114, 109]⟩ : ByteArray)).size : Int)))
    (chk (decide (0 ≤ a0) && decide (a0 ≤ ((IntKind.i8.wrap ((a0) + (1))).toNat : Int)))
      (bnd (s_impl_dec_int8 n a1) fun y3_0 =>
        chk (decide (((((((⟨#[108, 114, 109]⟩ : ByteArray)).extract (a0).toNat (IntKind.i8.wrap ((a0) + (1))).toNat).size + (y3_0).size) : Nat) : Int) ≤ 9223372036854775807))
          (some ((((⟨#[108, 114, 109]⟩ : ByteArray)).extract (a0).toNat (IntKind.i8.wrap ((a0) + (1))).toNat) ++ y3_0))))
def l_spec_l01Split_b0 : Nat → (ByteArray) → (Int) → (Int) → (Int) → (List V) →  Option (ByteArray × Int × List V)
  | 0, _, _, _, _, _ => none
  | n + 1, a0, a1, a2, a3, a4 =>
    cnd (decide ((a3) < (((a0).size : Int))))
      (chk (inB (a3) (a0).size)
        (cnd (decide ((strAt a0 (a3).toNat) = (a1)))
          (chk (decide (0 ≤ a3) && decide (a3 ≤ (a0.size : Int)))
            (chk (decide (0 ≤ a2) && decide (a2 ≤ ((a3).toNat : Int)))
              (chk (decide (((a4).length + ([(V.str (a0.extract (a2).toNat (a3).toNat))]).length) * 16 ≤ 140737488355328))
                (l_spec_l01Split_b0 n a0 a1 (IntKind.i64.wrap ((a3) + (1))) (IntKind.i64.wrap ((a3) + (1))) (a4 ++ ([(V.str (a0.extract (a2).toNat (a3).toNat))]))))))
          (l_spec_l01Split_b0 n a0 a1 a2 (IntKind.i64.wrap ((a3) + (1))) a4)))
      (some ((a0, a2, a4)))
def s_spec_l01Split (n : Nat) (a0 : ByteArray) (a1 : Int) : Option (List V) :=
  bnd (l_spec_l01Split_b0 n a0 a1 0 0 ([])) fun (u7_0, u7_1, u7_2) =>
    chk (decide (0 ≤ u7_1) && decide (u7_1 ≤ (u7_0.size : Int)))
      (chk (decide (((u7_2).length + ([(V.str (u7_0.extract (u7_1).toNat u7_0.size))]).length) * 16 ≤ 140737488355328))
        (some (u7_2 ++ ([(V.str (u7_0.extract (u7_1).toNat u7_0.size))]))))
def l_spec_l01Number_b0 : Nat → (ByteArray) → (Int) → (Int) →  Option (Sum (Int) (Int × Bool))
  | 0, _, _, _ => none
  | n + 1, a0, a1, a2 =>
    cnd (decide ((a2) < (((a0).size : Int))))
      (chk (inB (a2) (a0).size)
        (cnd (decide ((strAt a0 (a2).toNat) < (48)))
          (some (.inr ((0, false))))
          (cnd (decide ((57) < (strAt a0 (a2).toNat)))
            (some (.inr ((0, false))))
            (l_spec_l01Number_b0 n a0 (IntKind.i64.wrap ((IntKind.i64.wrap ((10) * (a1))) + (IntKind.i64.wrap (IntKind.u8.wrap ((strAt a0 (a2).toNat) - (48)))))) (IntKind.i64.wrap ((a2) + (1)))))))
      (some (.inl (a1)))
def s_spec_l01Number (n : Nat) (a0 : ByteArray) : Option (Int × Bool) :=
  cnd ((a0).toList == ((⟨#[]⟩ : ByteArray)).toList)
    (some ((0, false)))
    (cnd (decide ((10) < (((a0).size : Int))))
      (some ((0, false)))
      (chk (inB (0) (a0).size)
        (cnd (decide ((strAt a0 ((0 : Int)).toNat) = (48)))
          (cnd (decide ((1) < (((a0).size : Int))))
            (some ((0, false)))
            (bnd (l_spec_l01Number_b0 n a0 0 0) fun w => match w with
              | .inl u10_0 =>
                some ((u10_0, true))
              | .inr (u11_0, u11_1) =>
                some ((u11_0, (u11_1)))))
          (bnd (l_spec_l01Number_b0 n a0 0 0) fun w => match w with
            | .inl u13_0 =>
              some ((u13_0, true))
            | .inr (u14_0, u14_1) =>
              some ((u14_0, (u14_1)))))))
def s_spec_l00In (n : Nat) (a0 : Int) (a1 : Int) (a2 : Int) : Option (Bool) :=
  cnd (decide ((a1) ≤ (a0)))
    (some ((decide ((a0) ≤ (a2)))))
    (some (false))
def l_spec_l05Pieces_b0 : Nat → (List V) → (Int) →  Option (Sum (Unit) (Bool))
  | 0, _, _ => none
  | n + 1, a0, a1 =>
    cnd (decide ((a1) < (((a0).length : Int))))
      (bnd (bnd (idx (a0) (a1)) as_Pi8_i8Q) fun (e2_0, e2_1) =>
        bnd (s_spec_l00In n (IntKind.i64.wrap (e2_0)) 0 2) fun y3_0 =>
          cnd (y3_0)
            (bnd (bnd (idx (a0) (a1)) as_Pi8_i8Q) fun (e5_0, e5_1) =>
              bnd (s_spec_l00In n (IntKind.i64.wrap (e5_1)) 1 7) fun y6_0 =>
                cnd (y6_0)
                  (l_spec_l05Pieces_b0 n a0 (IntKind.i64.wrap ((a1) + (1))))
                  (some (.inr (false))))
            (some (.inr (false))))
      (some (.inl (())))
def s_spec_l05Pieces (n : Nat) (a0 : List V) : Option (Bool) :=
  bnd (l_spec_l05Pieces_b0 n a0 0) fun w => match w with
    | .inl _ =>
      some (true)
    | .inr u9_0 =>
      some ((u9_0))
def s_spec_l05Asked (n : Nat) (a0 : List V) : Option (Int) :=
  bnd (s_spec_l05Pieces n a0) fun y1_0 =>
    cnd (y1_0)
      (cnd (decide ((30) < (((a0).length : Int))))
        (some (3))
        (some (0)))
      (some (1))
def l_spec_ReadPieces_b2 : Nat → (Int) → (Int) → (Int) → (List V) → (List V) →  Option (Int × Int × List V × List V)
  | 0, _, _, _, _, _ => none
  | n + 1, a0, a1, a2, a3, a4 =>
    cnd (decide ((a2) < (3)))
      (chk (inB (a0) (a4).length)
        (bnd (bnd (nth (a4) ((a0).toNat)) as_s) fun e6_0 =>
          cnd (decide ((1) < (((e6_0).size : Int))))
            (bnd (bnd (nth (a4) ((a0).toNat)) as_s) fun e8_0 =>
              chk (inB (0) (e8_0).size)
                (chk (inB (a2) ((⟨#[108, 114, 109]⟩ : ByteArray)).size)
                  (cnd (decide ((strAt e8_0 ((0 : Int)).toNat) = (strAt ((⟨#[108, 114, 109]⟩ : ByteArray)) (a2).toNat)))
                    (l_spec_ReadPieces_b2 n a0 a2 (IntKind.i64.wrap ((a2) + (1))) a3 a4)
                    (l_spec_ReadPieces_b2 n a0 a1 (IntKind.i64.wrap ((a2) + (1))) a3 a4))))
            (l_spec_ReadPieces_b2 n a0 a1 (IntKind.i64.wrap ((a2) + (1))) a3 a4)))
      (some ((a0, a1, a3, a4)))
def l_spec_ReadPieces_b0 : Nat → (Int) → (List V) → (List V) →  Option (Sum (List V) (Int × List V))
  | 0, _, _, _ => none
  | n + 1, a0, a1, a2 =>
    cnd (decide ((a0) < (((a2).length : Int))))
      (bnd (l_spec_ReadPieces_b2 n a0 (-1) 0 a1 a2) fun (u12_0, u12_1, u12_2, u12_3) =>
        cnd (decide ((u12_1) < (0)))
          (some (.inr ((5, []))))
          (chk (inB (u12_0) (u12_3).length)
            (bnd (bnd (nth (u12_3) ((u12_0).toNat)) as_s) fun e16_0 =>
              chk (decide (0 ≤ 1) && decide (1 ≤ (e16_0.size : Int)))
                (bnd (s_spec_l01Number n (e16_0.extract ((1 : Int)).toNat e16_0.size)) fun (y18_0, y18_1) =>
                  cnd (y18_1)
                    (cnd (decide ((8) ≤ (y18_0)))
                      (some (.inr ((5, []))))
                      (chk (decide (((u12_2).length + ([(V.parts [(V.int .i8 (IntKind.i8.wrap (u12_1))), (V.int .i8 (IntKind.i8.wrap (y18_0)))])]).length) * 2 ≤ 140737488355328))
                        (l_spec_ReadPieces_b0 n (IntKind.i64.wrap ((u12_0) + (1))) (u12_2 ++ ([(V.parts [(V.int .i8 (IntKind.i8.wrap (u12_1))), (V.int .i8 (IntKind.i8.wrap (y18_0)))])])) u12_3)))
                    (some (.inr ((5, []))))))))
      (some (.inl (a1)))
def s_spec_ReadPieces (n : Nat) (a0 : ByteArray) : Option (List V × Int) :=
  cnd ((a0).toList == ((⟨#[]⟩ : ByteArray)).toList)
    (some (([], 0)))
    (bnd (s_spec_l01Split n a0 32) fun y2_0 =>
      bnd (l_spec_ReadPieces_b0 n 0 ([]) y2_0) fun w => match w with
        | .inl u22_0 =>
          bnd (s_spec_l05Asked n u22_0) fun y24_0 =>
            cnd (decide ((y24_0) = (0)))
              (some ((u22_0, 0)))
              (some (([], 5)))
        | .inr (u25_0, u25_1) =>
          some ((u25_1, u25_0)))
def s_impl_ReadPieces (n : Nat) (a0 : ByteArray) : Option (List V × Int) :=
  chk (decide (a0.size ≤ 1048576))
    (some (prRows a0, prCode a0))
def s_laws_eqPiece (n : Nat) (a0 : Int) (a1 : Int) (a2 : Int) (a3 : Int) : Option (Bool) :=
  cnd (decide ((a0) = (a2)))
    (cnd (decide ((a1) = (a3)))
      (some (true))
      (some (false)))
    (some (false))
def l_laws_eqPieceS_b0 : Nat → (List V) → (List V) → (Int) →  Option (Sum (Unit) (Bool))
  | 0, _, _, _ => none
  | n + 1, a0, a1, a2 =>
    cnd (decide ((a2) < (((a0).length : Int))))
      (bnd (bnd (idx (a0) (a2)) as_Pi8_i8Q) fun (e3_0, e3_1) =>
        bnd (bnd (idx (a1) (a2)) as_Pi8_i8Q) fun (e4_0, e4_1) =>
          bnd (s_laws_eqPiece n e3_0 e3_1 e4_0 e4_1) fun y5_0 =>
            cnd (y5_0)
              (l_laws_eqPieceS_b0 n a0 a1 (IntKind.i64.wrap ((a2) + (1))))
              (some (.inr (false))))
      (some (.inl (())))
def s_laws_eqPieceS (n : Nat) (a0 : List V) (a1 : List V) : Option (Bool) :=
  cnd (decide ((((a0).length : Int)) = (((a1).length : Int))))
    (bnd (l_laws_eqPieceS_b0 n a0 a1 0) fun w => match w with
      | .inl _ =>
        some (true)
      | .inr u8_0 =>
        some ((u8_0)))
    (some (false))
def l_laws_markPieceS_b0 : Nat → (Int) → (Int) → (List V) →  Option (Int × List V)
  | 0, _, _, _ => none
  | n + 1, a0, a1, a2 =>
    cnd (decide ((a1) < (((a2).length : Int))))
      (chk (inB (a1) (a2).length)
        (bnd (bnd (nth (a2) ((a1).toNat)) as_Pi8_i8Q) fun (e3_0, e3_1) =>
          bnd (bnd (nth (a2) ((a1).toNat)) as_Pi8_i8Q) fun (e4_0, e4_1) =>
            chk (inB (a1) (setNth (a2) ((a1).toNat) (V.parts [(V.int .i8 (IntKind.i8.wrap (a0))), (V.int .i8 (e4_1))])).length)
              (bnd (bnd (nth (setNth (a2) ((a1).toNat) (V.parts [(V.int .i8 (IntKind.i8.wrap (a0))), (V.int .i8 (e4_1))])) ((a1).toNat)) as_Pi8_i8Q) fun (e6_0, e6_1) =>
                bnd (bnd (nth (setNth (a2) ((a1).toNat) (V.parts [(V.int .i8 (IntKind.i8.wrap (a0))), (V.int .i8 (e4_1))])) ((a1).toNat)) as_Pi8_i8Q) fun (e7_0, e7_1) =>
                  l_laws_markPieceS_b0 n (IntKind.i64.wrap ((IntKind.i64.wrap ((a0) + (1))) + (1))) (IntKind.i64.wrap ((a1) + (1))) (setNth (setNth (a2) ((a1).toNat) (V.parts [(V.int .i8 (IntKind.i8.wrap (a0))), (V.int .i8 (e4_1))])) ((a1).toNat) (V.parts [(V.int .i8 (e7_0)), (V.int .i8 (IntKind.i8.wrap (IntKind.i64.wrap ((a0) + (1)))))])))))
      (some ((a0, a2)))
def s_laws_markPieceS (n : Nat) (a0 : List V) (a1 : Int) : Option (Int × List V) :=
  bnd (l_laws_markPieceS_b0 n a1 0 a0) fun (u8_0, u8_1) =>
    some ((u8_0, u8_1))
def l_laws_heldPieceS_b0 : Nat → (List V) → (Int) → (Int) →  Option (Sum (Int) (Int))
  | 0, _, _, _ => none
  | n + 1, a0, a1, a2 =>
    cnd (decide ((a2) < (((a0).length : Int))))
      (bnd (bnd (idx (a0) (a2)) as_Pi8_i8Q) fun (e2_0, e2_1) =>
        cnd (decide ((e2_0) = (IntKind.i8.wrap (a1))))
          (bnd (bnd (idx (a0) (a2)) as_Pi8_i8Q) fun (e4_0, e4_1) =>
            cnd (decide ((e4_1) = (IntKind.i8.wrap (IntKind.i64.wrap ((a1) + (1))))))
              (l_laws_heldPieceS_b0 n a0 (IntKind.i64.wrap ((IntKind.i64.wrap ((a1) + (1))) + (1))) (IntKind.i64.wrap ((a2) + (1))))
              (some (.inr (-1))))
          (some (.inr (-1))))
      (some (.inl (a1)))
def s_laws_heldPieceS (n : Nat) (a0 : List V) (a1 : Int) : Option (Int) :=
  bnd (l_laws_heldPieceS_b0 n a0 a1 0) fun w => match w with
    | .inl u6_0 =>
      some (u6_0)
    | .inr u7_0 =>
      some (u7_0)
def s_laws_FnExactReadPieces (n : Nat) (a0 : ByteArray) : Option (Bool) :=
  cnd (decide ((1048576) < (((a0).size : Int))))
    (some (true))
    (bnd (s_spec_ReadPieces n a0) fun (y2_0, y2_1) =>
      bnd (s_impl_ReadPieces n a0) fun (y3_0, y3_1) =>
        bnd (s_laws_eqPieceS n y3_0 y2_0) fun y4_0 =>
          cnd (y4_0)
            (cnd (decide ((y3_1) = (y2_1)))
              (bnd (s_laws_markPieceS n y3_0 1) fun (y7_0, y7_1) =>
                chk (likeRows (y3_0) (y7_1))
                  (bnd (s_laws_heldPieceS n y7_1 1) fun y9_0 =>
                    cnd (decide ((y9_0) < (0)))
                      (some (false))
                      (cnd (decide ((y9_0) = (y7_0)))
                        (bnd (s_impl_ReadPieces n a0) fun (y12_0, y12_1) =>
                          bnd (s_laws_eqPieceS n y12_0 y2_0) fun y13_0 =>
                            cnd (y13_0)
                              (cnd (decide ((y12_1) = (y2_1)))
                                (bnd (s_laws_heldPieceS n y7_1 1) fun y16_0 =>
                                  cnd (decide ((y16_0) < (0)))
                                    (some (false))
                                    (cnd (decide ((y16_0) = (y7_0)))
                                      (some (true))
                                      (some (false))))
                                (some (false)))
                              (some (false)))
                        (some (false)))))
              (some (false)))
            (some (false)))
end Go.Proofs.YthdnamhilcjnhaaDoor
namespace Go.Proofs.YthdnamhilcjnhaaDoor
open Go Go.RowKit
set_option maxRecDepth 100000
set_option linter.unusedVariables false
noncomputable def tt : List (Nat × TyI) := [
  (1, ⟨.fn, 1, 8, [.nilf], [], false⟩),
  (2, ⟨.int .i64, 1, 8, [.int .i64 0], [], true⟩),
  (3, ⟨.int .i64, 1, 8, [.int .i64 0], [], true⟩),
  (4, ⟨.bool, 1, 1, [.bool false], [], false⟩),
  (5, ⟨.int .u8, 1, 1, [.int .u8 0], [], true⟩),
  (9, ⟨.str, 1, 16, [.str ⟨#[]⟩], [], false⟩),
  (21, ⟨.int .i32, 1, 4, [.int .i32 0], [], true⟩),
  (22, ⟨.sl 34, 1, 24, [.nils], [34], false⟩),
  (27, ⟨.fn, 1, 8, [.nilf], [], false⟩),
  (28, ⟨.sl 9, 1, 24, [.nils], [9], false⟩),
  (32, ⟨.int .i8, 1, 1, [.int .i8 0], [], true⟩),
  (34, ⟨.st [(0, 32), (1, 32)], 2, 2, [.int .i8 0, .int .i8 0], [], true⟩),
  (36, ⟨.fn, 1, 8, [.nilf], [], false⟩),
  (37, ⟨.fn, 1, 8, [.nilf], [], false⟩),
  (52, ⟨.arr 256 5, 256, 256, [.ints .u8 256 (fun _ => 0)], [], true⟩),
  (53, ⟨.int .u64, 1, 8, [.int .u64 0], [], true⟩),
  (55, ⟨.st [(0, 5), (1, 5)], 2, 2, [.int .u8 0, .int .u8 0], [], true⟩),
  (59, ⟨.arr 24 5, 24, 24, [.ints .u8 24 (fun _ => 0)], [], true⟩),
  (60, ⟨.int .u64, 1, 8, [.int .u64 0], [], true⟩),
  (63, ⟨.sl 5, 1, 24, [.nils], [5], false⟩),
  (66, ⟨.int .u32, 1, 4, [.int .u32 0], [], true⟩),
  (70, ⟨.arr 20 60, 20, 160, [.ints .u64 20 (fun _ => 0)], [], true⟩),
  (71, ⟨.arr 65 5, 65, 65, [.ints .u8 65 (fun _ => 0)], [], true⟩),
  (75, ⟨.arr 32 5, 32, 32, [.ints .u8 32 (fun _ => 0)], [], true⟩),
  (76, ⟨.arr 64 5, 64, 64, [.ints .u8 64 (fun _ => 0)], [], true⟩)]
noncomputable def fl : List Func := [Go.Proofs.Tryd.f0, Go.Proofs.Tryd.f1, Go.Proofs.Tryd.f2, Go.Proofs.Tryd.f3, Go.Proofs.Tryd.f4, Go.Proofs.Tryd.f5, Go.Proofs.Tryd.f6, Go.Proofs.Tryd.f7, Go.Proofs.Tryd.f8, Go.Proofs.Tryd.f9, Go.Proofs.Tryd.f10, Go.Proofs.Tryd.f11, Go.Proofs.Tryd.f12, Go.Proofs.Tryd.f13, Go.Proofs.Tryd.f14, Go.Proofs.Tryd.f15, Go.Proofs.Tryd.f16, Go.Proofs.Tryd.f17, Go.Proofs.Tryd.f18, Go.Proofs.Tryd.f19, Go.Proofs.Tryd.f20, Go.Proofs.Tryd.f21, Go.Proofs.Tryd.f22, Go.Proofs.Tryd.f23, Go.Proofs.Tryd.f24, Go.Proofs.Tryd.f25, Go.Proofs.Tryd.f26, Go.Proofs.Tryd.f27, Go.Proofs.Tryd.f28, Go.Proofs.Tryd.f29, Go.Proofs.Tryd.f30, Go.Proofs.Tryd.f31, Go.Proofs.Tryd.f32, Go.Proofs.Tryd.f33, Go.Proofs.Tryd.f34, Go.Proofs.Tryd.f35, Go.Proofs.Tryd.f36, Go.Proofs.Tryd.f37, Go.Proofs.Tryd.f38, Go.Proofs.Tryd.f39, Go.Proofs.Tryd.f40, Go.Proofs.Tryd.f41, Go.Proofs.Tryd.f42, Go.Proofs.Tryd.f43, Go.Proofs.Tryd.f44, Go.Proofs.Tryd.f45, Go.Proofs.Tryd.f46, Go.Proofs.Tryd.f47, Go.Proofs.Tryd.f48, Go.Proofs.Tryd.f49, Go.Proofs.Tryd.f50, Go.Proofs.Tryd.f51, Go.Proofs.Tryd.f52, Go.Proofs.Tryd.f53, Go.Proofs.Tryd.f54, Go.Proofs.Tryd.f55, Go.Proofs.Tryd.f56, Go.Proofs.Tryd.f57, Go.Proofs.Tryd.f58, Go.Proofs.Tryd.f59, Go.Proofs.Tryd.f60, Go.Proofs.Tryd.f61, Go.Proofs.Tryd.f62, Go.Proofs.Tryd.f63, Go.Proofs.Tryd.f64, Go.Proofs.Tryd.f65, Go.Proofs.Tryd.f66, Go.Proofs.Tryd.f67, Go.Proofs.Tryd.f68, Go.Proofs.Tryd.f69, Go.Proofs.Tryd.f70]
noncomputable def fi : List (Nat × FnI) := [
  (2, ⟨[], [], 524289, false, none, false, none, false, none, false, false, none⟩),
  (3, ⟨[(2, [])], [], 66, false, none, false, none, false, none, false, false, none⟩),
  (4, ⟨[(2, [34]), (3, [])], [(0, ⟨[(4, [34]), (5, [9]), (6, [])], [(4, [34])]⟩), (2, ⟨[(4, [34]), (5, [9]), (6, []), (7, []), (8, [])], [(4, [34]), (5, [9]), (6, []), (7, [])]⟩)], 76, false, none, false, none, false, none, false, false, none⟩),
  (5, ⟨[(2, [34]), (3, [])], [(0, ⟨[(2, [34]), (3, []), (4, [34]), (10, [])], [(2, [34]), (3, []), (4, [34])]⟩)], 44, false, none, false, none, false, none, false, false, none⟩),
  (6, ⟨[(4, [])], [(0, ⟨[(0, [34]), (1, [34]), (5, [])], []⟩)], 27, false, none, false, none, false, none, false, false, none⟩),
  (7, ⟨[(0, [34]), (4, [])], [(0, ⟨[(0, [34]), (1, []), (5, [])], [(0, [34]), (1, [])]⟩)], 29, true, none, false, none, false, none, false, false, none⟩),
  (8, ⟨[(4, [])], [(0, ⟨[(0, [34]), (1, []), (5, [])], [(1, [])]⟩)], 33, false, none, false, none, false, none, false, false, none⟩),
  (9, ⟨[(4, [9])], [(0, ⟨[(0, []), (1, []), (5, [9]), (6, []), (7, [])], [(0, []), (5, [9]), (6, [])]⟩)], 35, false, none, false, none, false, none, false, false, none⟩),
  (10, ⟨[(2, []), (3, [])], [(0, ⟨[(0, []), (4, []), (5, [])], [(4, [])]⟩)], 48, false, none, false, none, false, none, false, false, none⟩),
  (11, ⟨[(2, [])], [], 9, false, none, false, none, false, none, false, false, none⟩),
  (12, ⟨[(4, [])], [], 8, false, none, false, none, false, none, false, false, none⟩),
  (13, ⟨[(4, [])], [], 8, false, none, false, none, false, none, false, false, none⟩),
  (14, ⟨[(2, [])], [], 11, false, none, false, none, false, none, false, false, none⟩),
  (15, ⟨[(2, [])], [], 13, false, none, false, none, false, none, false, false, none⟩),
  (16, ⟨[(4, [])], [], 15, false, none, false, none, false, none, false, false, none⟩),
  (17, ⟨[(2, [])], [(0, ⟨[(0, [34]), (3, [])], []⟩)], 28, false, none, false, none, false, none, false, false, none⟩),
  (18, ⟨[(6, [])], [], 8, false, none, false, none, false, none, false, false, none⟩),
  (19, ⟨[(4, [])], [], 8, false, none, false, none, false, none, false, false, none⟩),
  (20, ⟨[(6, [])], [], 15, false, none, false, none, false, none, false, false, none⟩),
  (21, ⟨[(2, [])], [], 6, false, none, false, none, false, none, false, false, none⟩),
  (22, ⟨[(6, [])], [], 15, false, none, false, none, false, none, false, false, none⟩),
  (23, ⟨[], [(0, ⟨[(0, []), (2, [])], []⟩), (2, ⟨[(0, []), (1, []), (2, []), (3, [])], [(0, []), (2, [])]⟩)], 52, false, none, false, none, false, none, false, false, none⟩),
  (24, ⟨[(2, []), (3, [])], [], 19, false, none, false, none, false, none, false, false, none⟩),
  (25, ⟨[(4, [])], [], 8, false, none, false, none, false, none, false, false, none⟩),
  (27, ⟨[(4, [])], [], 8, false, none, false, none, false, none, false, false, none⟩),
  (28, ⟨[(2, []), (3, [])], [], 117, false, none, false, none, false, none, false, false, none⟩),
  (29, ⟨[(4, [])], [(1, ⟨[(0, []), (1, []), (5, []), (6, []), (7, []), (8, []), (9, []), (10, [])], []⟩)], 143, false, none, false, none, false, none, false, false, none⟩),
  (30, ⟨[(4, [])], [], 54, false, none, false, none, false, none, false, false, none⟩),
  (32, ⟨[(2, [])], [], 6, false, none, false, none, false, none, false, false, none⟩),
  (33, ⟨[(4, [])], [(0, ⟨[(0, []), (1, []), (5, []), (6, []), (7, []), (8, []), (9, [])], [(0, []), (1, []), (5, []), (6, []), (7, []), (8, [])]⟩), (2, ⟨[(0, []), (1, []), (5, []), (6, []), (7, []), (8, []), (10, [])], []⟩)], 81, false, none, false, none, false, none, false, false, none⟩),
  (34, ⟨[(2, [])], [], 15, false, none, false, none, false, none, false, false, none⟩),
  (35, ⟨[(2, [])], [], 15, false, none, false, none, false, none, false, false, none⟩),
  (36, ⟨[], [(0, ⟨[(0, [5]), (1, []), (4, [])], [(0, [5]), (1, []), (4, [])]⟩)], 167, false, none, false, none, false, none, false, false, none⟩),
  (37, ⟨[(10, [5]), (11, [])], [(0, ⟨[(0, [5]), (1, []), (3, []), (4, []), (10, [5]), (11, []), (12, []), (13, []), (14, []), (15, []), (16, [])], [(0, [5]), (1, []), (3, []), (4, []), (10, [5]), (11, []), (12, []), (13, [])]⟩), (2, ⟨[(0, [5]), (1, []), (3, []), (4, []), (10, [5]), (11, []), (12, []), (13, []), (17, [])], [(0, [5]), (1, []), (3, []), (4, []), (10, [5]), (11, []), (12, []), (13, [])]⟩)], 102, false, none, false, none, false, none, false, false, none⟩),
  (38, ⟨[(2, []), (3, [])], [(0, ⟨[(0, []), (4, []), (5, [])], [(0, []), (4, [])]⟩), (2, ⟨[(4, []), (6, []), (7, []), (8, [])], [(4, []), (6, [])]⟩)], 39, false, none, false, none, false, none, false, false, none⟩),
  (39, ⟨[(2, [])], [], 6, false, none, false, none, false, none, false, false, none⟩),
  (40, ⟨[(2, [])], [], 2097177, false, none, false, none, false, none, false, false, none⟩),
  (41, ⟨[(2, [])], [], 4, false, none, false, none, false, none, false, false, none⟩),
  (42, ⟨[(2, [])], [], 8, false, none, false, none, false, none, false, false, none⟩),
  (43, ⟨[(2, [])], [], 8, false, none, false, none, false, none, false, false, none⟩),
  (44, ⟨[(2, [])], [], 14, false, none, false, none, false, none, false, false, none⟩),
  (45, ⟨[(2, [])], [], 14, false, none, false, none, false, none, false, false, none⟩),
  (70, ⟨[], [], 1048585, false, none, false, none, false, none, false, false, none⟩)]
theorem flOk : allFn Tryd.prog 0 fl := ⟨Tryd.func0, Tryd.func1, Tryd.func2, Tryd.func3, Tryd.func4, Tryd.func5, Tryd.func6, Tryd.func7, Tryd.func8, Tryd.func9, Tryd.func10, Tryd.func11, Tryd.func12, Tryd.func13, Tryd.func14, Tryd.func15, Tryd.func16, Tryd.func17, Tryd.func18, Tryd.func19, Tryd.func20, Tryd.func21, Tryd.func22, Tryd.func23, Tryd.func24, Tryd.func25, Tryd.func26, Tryd.func27, Tryd.func28, Tryd.func29, Tryd.func30, Tryd.func31, Tryd.func32, Tryd.func33, Tryd.func34, Tryd.func35, Tryd.func36, Tryd.func37, Tryd.func38, Tryd.func39, Tryd.func40, Tryd.func41, Tryd.func42, Tryd.func43, Tryd.func44, Tryd.func45, Tryd.func46, Tryd.func47, Tryd.func48, Tryd.func49, Tryd.func50, Tryd.func51, Tryd.func52, Tryd.func53, Tryd.func54, Tryd.func55, Tryd.func56, Tryd.func57, Tryd.func58, Tryd.func59, Tryd.func60, Tryd.func61, Tryd.func62, Tryd.func63, Tryd.func64, Tryd.func65, Tryd.func66, Tryd.func67, Tryd.func68, Tryd.func69, Tryd.func70, trivial⟩
theorem envLaid : laidOutB Tryd.prog = true := by kernel_rfl
noncomputable def E1 : Env := ⟨tt, fl, fi, [(27, prFmt)]⟩
theorem prOk_E1 : ∀ (f : Nat) (p : List V → Option V) (avs : List V) (r : V), find E1.pr f = some p → p avs = some r → FunOk Tryd.prog E1 f avs r := by
  intro f p avs r h hr
  unfold E1 at h
  try simp only [find] at h
  split at h
  · rename_i hb
    obtain rfl := Nat.eq_of_beq_eq_true hb
    obtain rfl := Option.some.inj h
    exact prFmt_ok E1 hr
  cases h
theorem ttOk_E1 : allTy E1 Tryd.prog E1.tt := ⟨⟨by kernel_rfl, by kernel_rfl, by kernel_rfl⟩, ⟨by kernel_rfl, by kernel_rfl, by kernel_rfl⟩, ⟨by kernel_rfl, by kernel_rfl, by kernel_rfl⟩, ⟨by kernel_rfl, by kernel_rfl, by kernel_rfl⟩, ⟨by kernel_rfl, by kernel_rfl, by kernel_rfl⟩, ⟨by kernel_rfl, by kernel_rfl, by kernel_rfl⟩, ⟨by kernel_rfl, by kernel_rfl, by kernel_rfl⟩, ⟨by kernel_rfl, by kernel_rfl, by kernel_rfl⟩, ⟨by kernel_rfl, by kernel_rfl, by kernel_rfl⟩, ⟨by kernel_rfl, by kernel_rfl, by kernel_rfl⟩, ⟨by kernel_rfl, by kernel_rfl, by kernel_rfl⟩, ⟨by kernel_rfl, by kernel_rfl, by kernel_rfl⟩, ⟨by kernel_rfl, by kernel_rfl, by kernel_rfl⟩, ⟨by kernel_rfl, by kernel_rfl, by kernel_rfl⟩, ⟨by kernel_rfl, by kernel_rfl, by kernel_rfl⟩, ⟨by kernel_rfl, by kernel_rfl, by kernel_rfl⟩, ⟨by kernel_rfl, by kernel_rfl, by kernel_rfl⟩, ⟨by kernel_rfl, by kernel_rfl, by kernel_rfl⟩, ⟨by kernel_rfl, by kernel_rfl, by kernel_rfl⟩, ⟨by kernel_rfl, by kernel_rfl, by kernel_rfl⟩, ⟨by kernel_rfl, by kernel_rfl, by kernel_rfl⟩, ⟨by kernel_rfl, by kernel_rfl, by kernel_rfl⟩, ⟨by kernel_rfl, by kernel_rfl, by kernel_rfl⟩, ⟨by kernel_rfl, by kernel_rfl, by kernel_rfl⟩, ⟨by kernel_rfl, by kernel_rfl, by kernel_rfl⟩, trivial⟩
theorem envOk_E1 : EnvOk E1 Tryd.prog := env_okB envLaid ttOk_E1 flOk (Checked.mixed Tryd.checked) (by kernel_rfl) (fun g F ks hf hb => (noBw_ok (by kernel_rfl) hf hb).elim) prOk_E1
end Go.Proofs.YthdnamhilcjnhaaDoor
namespace Go.Proofs.YthdnamhilcjnhaaDoor
open Go
set_option linter.unusedVariables false
set_option linter.unusedSimpArgs false
set_option maxRecDepth 100000
set_option maxHeartbeats 4000000
theorem w_strconv_FormatInt {n : Nat} {a0 a1 : Int} {z0 : ByteArray} (h : s_strconv_FormatInt n a0 a1 = some z0) : ∀ k, n + 1 ≤ k → sem E1 k 27 [V.int .i64 a0, V.int .i64 a1] = some (V.str z0) := by
  intro k hk
  obtain ⟨k, rfl⟩ : ∃ q, k = q + 1 := ⟨k - 1, by omega⟩
  unfold s_strconv_FormatInt at h
  show prFmt [V.int .i64 a0, V.int .i64 a1] = _
  show (match fmtQ a0 a1 with | some z => some (V.str z) | none => none) = _
  rw [h]
theorem w_impl_dec_int8 {n : Nat} {a0 : Int} {z0 : ByteArray} (h : s_impl_dec_int8 n a0 = some z0) : ∀ k, n + 2 ≤ k → sem E1 k 21 [(V.int .i8 (a0))] = some (V.str z0) := by
  intro k hk
  obtain ⟨k, rfl⟩ : ∃ q, k = q + 1 := ⟨k - 1, by omega⟩
  unfold s_impl_dec_int8 at h
  obtain ⟨y1_0, q1, h⟩ := bnd_some h
  replace h := Option.some.inj h
  obtain rfl := h
  refine pFun_by [.v (V.str y1_0)] rfl (And.intro (w_strconv_FormatInt q1 k (by omega)) trivial) ?_
  kernel_rfl
theorem w_impl_pieceText {n : Nat} {a0 : Int} {a1 : Int} {z0 : ByteArray} (h : s_impl_pieceText n a0 a1 = some z0) : ∀ k, n + 3 ≤ k → sem E1 k 15 [(V.parts [(V.int .i8 (a0)), (V.int .i8 (a1))])] = some (V.str z0) := by
  intro k hk
  obtain ⟨k, rfl⟩ : ∃ q, k = q + 1 := ⟨k - 1, by omega⟩
  unfold s_impl_pieceText at h
  obtain ⟨c1, h⟩ := chk_some h
  obtain ⟨c2, h⟩ := chk_some h
  obtain ⟨y3_0, q3, h⟩ := bnd_some h
  obtain ⟨c4, h⟩ := chk_some h
  replace h := Option.some.inj h
  obtain rfl := h
  refine pFun_by [.v (V.str y3_0)] rfl (And.intro c1 (And.intro c2 (And.intro (w_impl_dec_int8 q3 k (by omega)) (And.intro c4 trivial)))) ?_
  kernel_rfl
end Go.Proofs.YthdnamhilcjnhaaDoor
namespace Go.Proofs.YthdnamhilcjnhaaDoor
open Go Go.RowKit
set_option linter.unusedVariables false
set_option linter.unusedSimpArgs false
set_option maxRecDepth 100000
theorem pieceText_all : ∀ i : Fin 3, ∀ j : Fin 7, s_impl_pieceText 0 (i.val : Int) ((j.val : Int) + 1) = some (handS (i.val : Int) ++ digS ((j.val : Int) + 1)) := by decide +kernel
theorem pieceText_eq (a b : Int) (h : isP a b = true) : s_impl_pieceText 0 a b = some (handS a ++ digS b) := by
  simp only [isP, Bool.and_eq_true, decide_eq_true_eq] at h
  have := pieceText_all ⟨a.toNat, by omega⟩ ⟨(b - 1).toNat, by omega⟩
  have e1 : ((a.toNat : Nat) : Int) = a := by omega
  have e2 : (((b - 1).toNat : Nat) : Int) + 1 = b := by omega
  simp only [e1, e2] at this
  exact this
theorem below_of {w w' : World} (h : Kept (fun b => b < w.heap.size) w w') : Below w.heap.size w w' := ⟨h.os, h.tape, h.output, h.size, fun k hk => h.block k hk⟩
theorem pieceText_ok (a b : Int) (h : isP a b = true) (w : World) : Calls Tryd.prog 15 #[.agg #[.int .i8 a, .int .i8 b]] w fun e w' => e = .returned (.string (handS a ++ digS b)) ∧ Below w.heap.size w w' := by
  have h1 := w_impl_pieceText (pieceText_eq a b h) _ (Nat.le_refl _)
  have h2 := ((sem_ok envOk_E1 _ _ _ _ h1).1 rfl).2 (fun _ => False) w [.agg #[.int .i8 a, .int .i8 b]] (fun _ h => h.elim) (by
    simp only [RFC, RF, RFL, aggOk]
    refine ⟨_, [], rfl, ⟨[.int .i8 a], [.int .i8 b], rfl, rfl, rfl, [.int .i8 b], [], rfl, rfl, rfl, rfl⟩, ⟨_, rfl⟩, rfl⟩)
  refine h2.mono fun e w' he => ?_
  cases e with
  | panicked chain => exact he.elim
  | outgrown => exact he.elim
  | returned u =>
    obtain ⟨σ', _, hr, hrt⟩ := he 0 rfl
    have hu : u = .string (handS a ++ digS b) := by
      have := hrt.2; simpa [RO1, RF, recv, recvP, recv1] using this
    exact ⟨by rw [hu], below_of hr.kept⟩
/-! what the body of impl.ReadPieces's loop calls -/
def prIdx : List V → Option V
  | [.str s, .int .u8 c] => some (.int .i64 (Lib.indexByte s.data.toList c.toNat.toUInt8))
  | _ => none
def prIsP : List V → Option V
  | [.parts [.int .i8 a, .int .i8 b]] => some (.bool (isP a b))
  | _ => none
def txtQ (a b : Int) : Option ByteArray := match isP a b with
  | true => some (handS a ++ digS b)
  | false => none
def prText : List V → Option V
  | [.parts [.int .i8 a, .int .i8 b]] => match txtQ a b with
    | some z => some (.str z)
    | none => none
  | _ => none
theorem RFC_pair {w : World} {ok : Nat → Prop} {k k' : IntKind} {a b : Int} {us : List Value} (h : RFC w ok [.parts [.int k a, .int k' b]] us) : us = [.agg #[.int k a, .int k' b]] := by
  simp only [RFC, RF, RFL, aggOk] at h
  obtain ⟨u, l, rfl, h1, ⟨cs, rfl⟩, rfl⟩ := h
  obtain ⟨x, y, h2, _, rfl, z, t, rfl, _, rfl, rfl⟩ := h1
  congr 2
  cases cs
  simpa [Value.cells] using h2
theorem prIdx_ok (E : Env) {avs : List V} {r : V} (h : prIdx avs = some r) : FunOk Tryd.prog E 13 avs r := by
  refine ⟨⟨_, Tryd.func13, by kernel_rfl⟩, fun no w us hno hus => ?_⟩
  unfold prIdx at h
  split at h
  · rename_i s c
    simp only [Option.some.injEq] at h
    subst h
    obtain ⟨l1, e1, h1⟩ := RFC_str hus
    obtain ⟨l2, e2, h2⟩ := RFC_int h1
    have e3 := RFC_nil h2
    subst e3
    subst e2
    subst e1
    refine (Tryd.strings_IndexByte s c w).mono ?_
    rintro e w' ⟨rfl, rfl⟩
    exact res_int hno (Below.refl _ _)
  · cases h
theorem prIsP_ok (E : Env) {avs : List V} {r : V} (h : prIsP avs = some r) : FunOk Tryd.prog E 14 avs r := by
  refine ⟨⟨_, Tryd.func14, by kernel_rfl⟩, fun no w us hno hus => ?_⟩
  unfold prIsP at h
  split at h
  · rename_i a b
    simp only [Option.some.injEq] at h
    subst h
    obtain rfl := RFC_pair hus
    refine (isPiece_ok a b w).mono ?_
    rintro e w' ⟨rfl, hb⟩
    exact res_bool hno hb
  · cases h
theorem prText_ok (E : Env) {avs : List V} {r : V} (h : prText avs = some r) : FunOk Tryd.prog E 15 avs r := by
  refine ⟨⟨_, Tryd.func15, by kernel_rfl⟩, fun no w us hno hus => ?_⟩
  unfold prText at h
  split at h
  · rename_i a b
    split at h
    · rename_i z hz
      simp only [Option.some.injEq] at h
      subst h
      obtain rfl := RFC_pair hus
      unfold txtQ at hz
      split at hz
      · rename_i hp
        simp only [Option.some.injEq] at hz
        subst hz
        refine (pieceText_ok a b hp w).mono ?_
        rintro e w' ⟨rfl, hb⟩
        exact res_str hno hb
      · cases hz
    · cases h
  · cases h
end Go.Proofs.YthdnamhilcjnhaaDoor
namespace Go.Proofs.YthdnamhilcjnhaaDoor
open Go Go.RowKit
set_option maxRecDepth 100000
set_option linter.unusedVariables false
noncomputable def E2 : Env := ⟨tt, fl, fi, [(13, prIdx), (14, prIsP), (15, prText), (27, prFmt)]⟩
theorem prOk_E2 : ∀ (f : Nat) (p : List V → Option V) (avs : List V) (r : V), find E2.pr f = some p → p avs = some r → FunOk Tryd.prog E2 f avs r := by
  intro f p avs r h hr
  unfold E2 at h
  try simp only [find] at h
  split at h
  · rename_i hb
    obtain rfl := Nat.eq_of_beq_eq_true hb
    obtain rfl := Option.some.inj h
    exact prIdx_ok E2 hr
  try simp only [find] at h
  split at h
  · rename_i hb
    obtain rfl := Nat.eq_of_beq_eq_true hb
    obtain rfl := Option.some.inj h
    exact prIsP_ok E2 hr
  try simp only [find] at h
  split at h
  · rename_i hb
    obtain rfl := Nat.eq_of_beq_eq_true hb
    obtain rfl := Option.some.inj h
    exact prText_ok E2 hr
  try simp only [find] at h
  split at h
  · rename_i hb
    obtain rfl := Nat.eq_of_beq_eq_true hb
    obtain rfl := Option.some.inj h
    exact prFmt_ok E2 hr
  cases h
theorem ttOk_E2 : allTy E2 Tryd.prog E2.tt := ⟨⟨by kernel_rfl, by kernel_rfl, by kernel_rfl⟩, ⟨by kernel_rfl, by kernel_rfl, by kernel_rfl⟩, ⟨by kernel_rfl, by kernel_rfl, by kernel_rfl⟩, ⟨by kernel_rfl, by kernel_rfl, by kernel_rfl⟩, ⟨by kernel_rfl, by kernel_rfl, by kernel_rfl⟩, ⟨by kernel_rfl, by kernel_rfl, by kernel_rfl⟩, ⟨by kernel_rfl, by kernel_rfl, by kernel_rfl⟩, ⟨by kernel_rfl, by kernel_rfl, by kernel_rfl⟩, ⟨by kernel_rfl, by kernel_rfl, by kernel_rfl⟩, ⟨by kernel_rfl, by kernel_rfl, by kernel_rfl⟩, ⟨by kernel_rfl, by kernel_rfl, by kernel_rfl⟩, ⟨by kernel_rfl, by kernel_rfl, by kernel_rfl⟩, ⟨by kernel_rfl, by kernel_rfl, by kernel_rfl⟩, ⟨by kernel_rfl, by kernel_rfl, by kernel_rfl⟩, ⟨by kernel_rfl, by kernel_rfl, by kernel_rfl⟩, ⟨by kernel_rfl, by kernel_rfl, by kernel_rfl⟩, ⟨by kernel_rfl, by kernel_rfl, by kernel_rfl⟩, ⟨by kernel_rfl, by kernel_rfl, by kernel_rfl⟩, ⟨by kernel_rfl, by kernel_rfl, by kernel_rfl⟩, ⟨by kernel_rfl, by kernel_rfl, by kernel_rfl⟩, ⟨by kernel_rfl, by kernel_rfl, by kernel_rfl⟩, ⟨by kernel_rfl, by kernel_rfl, by kernel_rfl⟩, ⟨by kernel_rfl, by kernel_rfl, by kernel_rfl⟩, ⟨by kernel_rfl, by kernel_rfl, by kernel_rfl⟩, ⟨by kernel_rfl, by kernel_rfl, by kernel_rfl⟩, trivial⟩
theorem envOk_E2 : EnvOk E2 Tryd.prog := env_okB envLaid ttOk_E2 flOk (Checked.mixed Tryd.checked) (by kernel_rfl) (fun g F ks hf hb => (noBw_ok (by kernel_rfl) hf hb).elim) prOk_E2
end Go.Proofs.YthdnamhilcjnhaaDoor
