/- Contracts of functions of Go's library, laid by the shelf's contract.sh: strings.IndexByte, strings.Index at one byte. -/
import Derived.Test.YthdnamhilcjnhaaDoorChecked
import Derived.Lib.Strings
import Derived.Lib.Slices
import Derived.Lib.Walk
import Derived.Lib.Bytealg
import Derived.WalkKit
import Derived.Deep.RegionWith
import Derived.Deep.QuietTactic
import Derived.RangeFuncBox
import Derived.RangeFuncLeaves
import Derived.Shelf.Abstract
import Derived.OwnWalkIn
import Derived.TacticsInMore
import Derived.LoopNIn
import Derived.LoopIn
import Derived.IntWalk
namespace Go.Proofs
set_option maxHeartbeats 1000000 in
set_option maxRecDepth 100000 in
/-- internal/stringslite.IndexByte (what strings.IndexByte calls): IT RETURNS 'Lib.indexByte s c'; the world is as it was. -/
theorem Tryd.stringslite_IndexByte (s : ByteArray) (c : Int) (w : World) :
    Calls Tryd.prog 19 #[.string s, .int .u8 c] w fun e w' => e = .returned (.int .i64 (Lib.indexByte s.data.toList c.toNat.toUInt8)) ∧ w' = w := by
  go_enter Tryd.func19, Tryd.ntmps19
  go_wp2
  rw [run_callFunc_extern Tryd.func26 (by kernel_rfl) (by kernel_rfl) (by kernel_rfl) (e := Extern.BytealgIndexByte.indexByte) (by kernel_rfl), Lib.run_indexByteString]
  simp only [Result.andThen]
  rw [Oper.upon_value]
  go_wp2
  go_ret
  exact ⟨rfl, rfl⟩
set_option maxHeartbeats 1000000 in
/-- strings.IndexByte: "IndexByte returns the index of the first instance of c in s, or -1 if c is not present in s.": IT RETURNS 'Lib.indexByte s c'; the world is as it was. -/
theorem Tryd.strings_IndexByte (s : ByteArray) (c : Int) (w : World) :
    Calls Tryd.prog 13 #[.string s, .int .u8 c] w fun e w' => e = .returned (.int .i64 (Lib.indexByte s.data.toList c.toNat.toUInt8)) ∧ w' = w := by
  go_enter Tryd.func13, Tryd.ntmps13
  go_wp2_with (go_at_call 19; refine (Tryd.stringslite_IndexByte _ _ _).mono ?_; rintro e w' ⟨rfl, rfl⟩)
  go_ret
  exact ⟨rfl, rfl⟩
set_option maxHeartbeats 2000000 in
set_option maxRecDepth 100000 in
/-- internal/stringslite.Index (what strings.Index calls) AT A substr OF ONE BYTE c: IT RETURNS 'Lib.indexByte s c'; the world is as it was. -/
theorem Tryd.stringslite_Index_one (s : ByteArray) (c : UInt8) (w : World) :
    Calls Tryd.prog 29 #[.string s, .string ⟨#[c]⟩] w fun e w' => e = .returned (.int .i64 (Lib.indexByte s.data.toList c)) ∧ w' = w := by
  go_enter Tryd.func29, Tryd.ntmps29
  go_wp2_with (go_at_call 19; refine (Tryd.stringslite_IndexByte _ _ _).mono ?_; rintro e w' ⟨rfl, rfl⟩)
  · have h : ([c] == s.toList) = true := by assumption
    go_ret
    refine ⟨?_, rfl⟩
    have e : s.data.toList = [c] := by rw [← Lib.toList_data]; exact (beq_iff_eq.1 h).symm
    rw [e]
    simp [Lib.indexByte]
  · go_ret
    exact ⟨rfl, rfl⟩
set_option maxHeartbeats 1000000 in
/-- strings.Index: "Index returns the index of the first instance of substr in s, or -1 if substr is not present in s.": AT A substr OF ONE BYTE c: IT RETURNS 'Lib.indexByte s c'; the world is as it was. -/
theorem Tryd.strings_Index_one (s : ByteArray) (c : UInt8) (w : World) :
    Calls Tryd.prog 25 #[.string s, .string ⟨#[c]⟩] w fun e w' => e = .returned (.int .i64 (Lib.indexByte s.data.toList c)) ∧ w' = w := by
  go_enter Tryd.func25, Tryd.ntmps25
  go_wp2_with (go_at_call 29; refine (Tryd.stringslite_Index_one _ _ _).mono ?_; rintro e w' ⟨rfl, rfl⟩)
  go_ret
  exact ⟨rfl, rfl⟩
end Go.Proofs
namespace Go.Proofs.YthdnamhilcjnhaaDoor
open Go Go.RowKit
set_option linter.unusedVariables false
set_option linter.unusedSimpArgs false
theorem dig (d : Int) (h : 1 ≤ d ∧ d ≤ 7) : d = 1 ∨ d = 2 ∨ d = 3 ∨ d = 4 ∨ d = 5 ∨ d = 6 ∨ d = 7 := by omega
def digS (d : Int) : ByteArray := ⟨#[(48 + d.toNat).toUInt8]⟩
set_option maxHeartbeats 1000000 in
theorem small_ok (d : Int) (h : 1 ≤ d ∧ d ≤ 7) (w : World) : Calls Tryd.prog 34 #[.int .i64 d] w fun e w' => e = .returned (.string (digS d)) ∧ w' = w := by
  rcases dig d h with rfl | rfl | rfl | rfl | rfl | rfl | rfl
  all_goals
    go_enter Tryd.func34, Tryd.ntmps34
    go_wp2
    go_ret
    exact ⟨rfl, rfl⟩
set_option maxHeartbeats 1000000 in
theorem format30_ok (d : Int) (h : 1 ≤ d ∧ d ≤ 7) (w : World) : Calls Tryd.prog 30 #[.int .i64 d, .int .i64 10] w fun e w' => e = .returned (.string (digS d)) ∧ w' = w := by
  have key := small_ok d h
  rcases dig d h with rfl | rfl | rfl | rfl | rfl | rfl | rfl
  all_goals
    go_enter Tryd.func30, Tryd.ntmps30
    go_wp2_with (go_at_call 34; refine (key _).mono ?_; rintro e w' ⟨rfl, rfl⟩)
    go_ret
    exact ⟨rfl, rfl⟩
set_option maxHeartbeats 1000000 in
theorem format27_ok (d : Int) (h : 1 ≤ d ∧ d ≤ 7) (w : World) : Calls Tryd.prog 27 #[.int .i64 d, .int .i64 10] w fun e w' => e = .returned (.string (digS d)) ∧ w' = w := by
  go_enter Tryd.func27, Tryd.ntmps27
  go_wp2_with (go_at_call 30; refine (format30_ok d h _).mono ?_; rintro e w' ⟨rfl, rfl⟩)
  go_ret
  exact ⟨rfl, rfl⟩
set_option maxHeartbeats 1000000 in
theorem dec_ok (d : Int) (h : 1 ≤ d ∧ d ≤ 7) (w : World) : Calls Tryd.prog 21 #[.int .i8 d] w fun e w' => e = .returned (.string (digS d)) ∧ w' = w := by
  have key := format27_ok d h
  rcases dig d h with rfl | rfl | rfl | rfl | rfl | rfl | rfl
  all_goals
    go_enter Tryd.func21, Tryd.ntmps21
    go_wp2_with (go_at_call 27; refine (key _).mono ?_; rintro e w' ⟨rfl, rfl⟩)
    go_ret
    exact ⟨rfl, rfl⟩
def handS (h : Int) : ByteArray := (⟨#[108, 114, 109]⟩ : ByteArray).extract h.toNat (h.toNat + 1)
def isP (a b : Int) : Bool := decide (0 ≤ a) && decide (a ≤ 2) && (decide (1 ≤ b) && decide (b ≤ 7))
set_option maxHeartbeats 1000000 in
theorem isPiece_ok (a b : Int) (w : World) : Calls Tryd.prog 14 #[.agg #[.int .i8 a, .int .i8 b]] w fun e w' => e = .returned (.bool (isP a b)) ∧ Below w.heap.size w w' := by
  go_enter Tryd.func14, Tryd.ntmps14
  go_wp2
  all_goals
    go_ret
    refine ⟨?_, (Below.refl _ w).alloc (Nat.le_refl _) _⟩
    refine congrArg (fun b => Ending.returned (Value.bool b)) ?_
    simp only [isP]
    rw [Bool.eq_iff_iff]
    simp
    try omega
end Go.Proofs.YthdnamhilcjnhaaDoor
namespace Go.Proofs.YthdnamhilcjnhaaDoor
open Go Go.RowKit Go.Shelf
set_option linter.unusedVariables false
set_option linter.unusedSimpArgs false
attribute [local go_sem] Oper.semAt_some
theorem split18 (s sep : ByteArray) (w : World) : Calls Tryd.prog 18 #[.string s, .string sep, .int .i64 0] w fun e w' =>
    e = .returned (.func (.func 23) #[] #[.pointer (some ⟨w.heap.size + 1, 0, none⟩), .pointer (some ⟨w.heap.size, 0, none⟩), .pointer (some ⟨w.heap.size + 2, 0, none⟩)]) ∧
    w' = ((w.alloc (.cells #[.string s] 9)).alloc (.cells #[.string sep] 9)).alloc (.cells #[.int .i64 0] 3) := by
  go_enter Tryd.func18, Tryd.ntmps18
  go_wp2
  go_ret
  exact ⟨rfl, rfl⟩
theorem split12 (s sep : ByteArray) (w : World) : Calls Tryd.prog 12 #[.string s, .string sep] w fun e w' =>
    e = .returned (.func (.func 23) #[] #[.pointer (some ⟨w.heap.size + 1, 0, none⟩), .pointer (some ⟨w.heap.size, 0, none⟩), .pointer (some ⟨w.heap.size + 2, 0, none⟩)]) ∧
    w' = ((w.alloc (.cells #[.string s] 9)).alloc (.cells #[.string sep] 9)).alloc (.cells #[.int .i64 0] 3) := by
  go_enter Tryd.func12, Tryd.ntmps12
  go_wp2_with (go_at_call 18; refine (split18 _ _ _).mono ?_; rintro e w' ⟨rfl, rfl⟩)
  go_ret
  exact ⟨rfl, rfl⟩
/-- how much of the text is left, read off the world -/
def strLeft (Bs : Nat) (w : World) : Nat := match w.cell? ⟨Bs, 0, none⟩ with
  | some (.string b) => b.size
  | _ => 0
theorem strLeft_eq {Bs : Nat} {w : World} {r : ByteArray} (h : Boxed w Bs 9 (.string r)) : strLeft Bs w = r.size := by
  unfold strLeft; rw [h.cell]
theorem indexByte_lt (c : UInt8) : ∀ (l : List UInt8), Lib.indexByte l c < l.length ∧ -1 ≤ Lib.indexByte l c
  | [] => by simp [Lib.indexByte]
  | b :: l => by
    have ih := indexByte_lt c l
    unfold Lib.indexByte
    simp only [List.length_cons]
    split
    · omega
    · split <;> omega
set_option maxRecDepth 100000 in
set_option maxHeartbeats 2000000 in
theorem split_in (m l Bs Bp Bv : Nat) (J : ByteArray → World → Prop) (Jd Jx : World → Prop) (W : World) (r0 : ByteArray)
    (hread : ∀ r W, J r W → r.size ≤ 1048576 ∧ Boxed W Bs 9 (.string r) ∧ Boxed W Bp 9 (.string ⟨#[32]⟩) ∧ Boxed W Bv 3 (.int .i64 0))
    (hY : ∀ r W (i : Nat), J r W → Lib.indexByte r.data.toList 32 = (i : Int) → YieldAt Fence.wide m Tryd.prog l #[.string (r.extract 0 i)] W fun e W' =>
      (e = .returned (.bool true) ∧ (Boxed W' Bs 9 (.string r) ∧ Boxed W' Bp 9 (.string ⟨#[32]⟩)) ∧ J (r.extract (i + 1) r.size) (W'.setCell ⟨Bs, 0, none⟩ (.string (r.extract (i + 1) r.size)))) ∨ (e = .returned (.bool false) ∧ Jx W'))
    (hL : ∀ r W, J r W → Lib.indexByte r.data.toList 32 = -1 → YieldAt Fence.wide m Tryd.prog l #[.string r] W fun e W' => (e = .returned (.bool true) ∧ Jd W') ∨ (e = .returned (.bool false) ∧ Jx W'))
    (h0 : J r0 W) : CallsIn Fence.wide (m + 1) Tryd.prog 23 #[.func (.yield l) #[] #[], .pointer (some ⟨Bp, 0, none⟩), .pointer (some ⟨Bs, 0, none⟩), .pointer (some ⟨Bv, 0, none⟩)] W fun e W' => (∃ v, e = .returned v) ∧ (Jd W' ∨ Jx W') := by
  refine callsIn_of_wp Tryd.func23 rfl trivial ?_ rfl
  simp only [Tryd.ntmps23, List.size_toArray, List.length_cons, List.length_nil, Nat.reduceAdd, Nat.reduceSub, Array.replicate_succ, Array.replicate_zero, List.push_toArray, List.append_toArray, List.nil_append, List.cons_append]
  obtain ⟨_, hs0, hp0, hv0⟩ := hread r0 W h0
  have hcp := hp0.cell
  gi_wp2
  gi_loopw [] (fun wr => ∃ r, J r wr) (fun wr => strLeft Bs wr)
  case atStart => exact ⟨r0, h0⟩
  case round =>
    obtain ⟨r, hJ⟩ := hrel
    obtain ⟨hsz, hs, hp, hv⟩ := hread r wr hJ
    have hcs := hs.cell
    have hcp := hp.cell
    have hcv := hv.cell
    have hw : ∀ x : Int, -9223372036854775808 ≤ x ∧ x ≤ 9223372036854775807 → wrap64 x = x := fun x hx => IntWalk.wrap64_in x hx
    have hix := indexByte_lt 32 r.data.toList
    have hl : r.data.toList.length = r.size := by simp
    have hcase : Lib.indexByte r.data.toList 32 = -1 ∨ ∃ i : Nat, Lib.indexByte r.data.toList 32 = (i : Int) ∧ i < r.size := by
      by_cases h : Lib.indexByte r.data.toList 32 = -1
      · exact .inl h
      · exact .inr ⟨(Lib.indexByte r.data.toList 32).toNat, by omega, by omega⟩
    rcases hcase with hc | ⟨i, hc, hi⟩
    · obtain ⟨fn, tmps, assign, body, hy, hR⟩ := hL r wr hJ hc
      gi_wp2_with (refine ⟨trivial, ?_⟩; gi_at_call 25; refine (callsIn_wide.2 (Tryd.strings_Index_one _ _ _)).mono ?_; rintro e w' ⟨rfl, rfl⟩; simp only [hc])
      refine hR.mono ?_
      rintro e W3 (⟨rfl, hJ3⟩ | ⟨rfl, hJ3⟩)
      · gi_wp2
        go_end0
        exact ⟨⟨_, rfl⟩, .inl hJ3⟩
      · gi_wp2
        go_end0
        exact ⟨⟨_, rfl⟩, .inr hJ3⟩
    · obtain ⟨fn, tmps, assign, body, hy, hR⟩ := hY r wr i hJ hc
      gi_wp2_with (refine ⟨trivial, ?_⟩; gi_at_call 25; refine (callsIn_wide.2 (Tryd.strings_Index_one _ _ _)).mono ?_; rintro e w' ⟨rfl, rfl⟩; simp only [hc])
      refine hR.mono ?_
      rintro e W3 (⟨rfl, ⟨hs3, hp3⟩, hJ3⟩ | ⟨rfl, hJ3⟩)
      · have hcs3 := hs3.cell
        have hfs3 := hs3.frozen
        have hcp3 := hp3.cell
        gi_wp2
        refine ⟨⟨_, hJ3⟩, ?_⟩
        rw [strLeft_eq (hread _ _ hJ3).2.1, strLeft_eq hs]
        simp
        omega
      · gi_wp2
        refine bodyPost_ret (results_none rfl _ _ _) rfl ?_
        exact ⟨⟨_, rfl⟩, .inr hJ3⟩
end Go.Proofs.YthdnamhilcjnhaaDoor
