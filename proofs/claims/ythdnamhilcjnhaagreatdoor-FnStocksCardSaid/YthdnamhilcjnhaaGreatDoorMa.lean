/- Contracts of functions of Go's library, laid by the shelf's contract.sh: strings.IndexByte, strings.Index at one byte. -/
import Derived.Test.YthdnamhilcjnhaaGreatDoorChecked
import Derived.Lib.Strings
import Derived.Lib.Slices
import Derived.Lib.Walk
import Derived.Lib.Bytealg
import Derived.WalkKit
import Derived.Deep.RegionWith
import Derived.Deep.QuietTactic
import Derived.RangeFuncBox
import Derived.RangeFuncLeaves
import Derived.Shelf.Abstract
import Derived.OwnWalkIn
import Derived.TacticsInMore
import Derived.LoopNIn
import Derived.LoopIn
import Derived.IntWalk
import Derived.Shelf.Strings.OnBuilder
import Derived.Test.YthdnamhilcjnhaaGreatDoorProg
namespace Go.Proofs
set_option maxHeartbeats 1000000 in
set_option maxRecDepth 100000 in
theorem Tryz.stringslite_IndexByte (s : ByteArray) (c : Int) (w : World) :
 Calls Tryz.prog 43 #[.string s, .int .u8 c] w fun e w' => e = .returned (.int .i64 (Lib.indexByte s.data.toList c.toNat.toUInt8)) ∧ w' = w := by
 go_enter Tryz.func43, Tryz.ntmps43
 go_wp2
 rw [run_callFunc_extern Tryz.func64 (by kernel_rfl) (by kernel_rfl) (by kernel_rfl) (e := Extern.BytealgIndexByte.indexByte) (by kernel_rfl), Lib.run_indexByteString]
 simp only [Result.andThen]
 rw [Oper.upon_value]
 go_wp2
 go_ret
 exact ⟨rfl, rfl⟩
set_option maxHeartbeats 1000000 in
theorem Tryz.strings_IndexByte (s : ByteArray) (c : Int) (w : World) :
 Calls Tryz.prog 24 #[.string s, .int .u8 c] w fun e w' => e = .returned (.int .i64 (Lib.indexByte s.data.toList c.toNat.toUInt8)) ∧ w' = w := by
 go_enter Tryz.func24, Tryz.ntmps24
 go_wp2_with (go_at_call 43; refine (Tryz.stringslite_IndexByte _ _ _).mono ?_; rintro e w' ⟨rfl, rfl⟩)
 go_ret
 exact ⟨rfl, rfl⟩
set_option maxHeartbeats 2000000 in
set_option maxRecDepth 100000 in
theorem Tryz.stringslite_Index_one (s : ByteArray) (c : UInt8) (w : World) :
 Calls Tryz.prog 78 #[.string s, .string ⟨#[c]⟩] w fun e w' => e = .returned (.int .i64 (Lib.indexByte s.data.toList c)) ∧ w' = w := by
 go_enter Tryz.func78, Tryz.ntmps78
 go_wp2_with (go_at_call 43; refine (Tryz.stringslite_IndexByte _ _ _).mono ?_; rintro e w' ⟨rfl, rfl⟩)
 ·have h : ([c] == s.toList) = true := by assumption
  go_ret
  refine ⟨?_, rfl⟩
  have e : s.data.toList = [c] := by rw [← Lib.toList_data]; exact (beq_iff_eq.1 h).symm
  rw [e]
  simp [Lib.indexByte]
 ·go_ret
  exact ⟨rfl, rfl⟩
set_option maxHeartbeats 1000000 in
theorem Tryz.strings_Index_one (s : ByteArray) (c : UInt8) (w : World) :
 Calls Tryz.prog 63 #[.string s, .string ⟨#[c]⟩] w fun e w' => e = .returned (.int .i64 (Lib.indexByte s.data.toList c)) ∧ w' = w := by
 go_enter Tryz.func63, Tryz.ntmps63
 go_wp2_with (go_at_call 78; refine (Tryz.stringslite_Index_one _ _ _).mono ?_; rintro e w' ⟨rfl, rfl⟩)
 go_ret
 exact ⟨rfl, rfl⟩
end Go.Proofs
namespace Go.Proofs.YthdnamhilcjnhaaGreatDoor
open Go Go.RowKit
set_option linter.unusedVariables false
set_option linter.unusedSimpArgs false
theorem dig (d : Int) (h : 1 ≤ d ∧ d ≤ 7) : d = 1 ∨ d = 2 ∨ d = 3 ∨ d = 4 ∨ d = 5 ∨ d = 6 ∨ d = 7 := by omega
def digS (d : Int) : ByteArray := ⟨#[(48 + d.toNat).toUInt8]⟩
set_option maxHeartbeats 1000000 in
theorem small_ok (d : Int) (h : 1 ≤ d ∧ d ≤ 7) (w : World) : Calls Tryz.prog 89 #[.int .i64 d] w fun e w' => e = .returned (.string (digS d)) ∧ w' = w := by
 rcases dig d h with rfl | rfl | rfl | rfl | rfl | rfl | rfl
 all_goals
  go_enter Tryz.func89, Tryz.ntmps89
  go_wp2
  go_ret
  exact ⟨rfl, rfl⟩
set_option maxHeartbeats 1000000 in
theorem format30_ok (d : Int) (h : 1 ≤ d ∧ d ≤ 7) (w : World) : Calls Tryz.prog 79 #[.int .i64 d, .int .i64 10] w fun e w' => e = .returned (.string (digS d)) ∧ w' = w := by
 have key := small_ok d h
 rcases dig d h with rfl | rfl | rfl | rfl | rfl | rfl | rfl
 all_goals
  go_enter Tryz.func79, Tryz.ntmps79
  go_wp2_with (go_at_call 89; refine (key _).mono ?_; rintro e w' ⟨rfl, rfl⟩)
  go_ret
  exact ⟨rfl, rfl⟩
set_option maxHeartbeats 1000000 in
theorem format27_ok (d : Int) (h : 1 ≤ d ∧ d ≤ 7) (w : World) : Calls Tryz.prog 65 #[.int .i64 d, .int .i64 10] w fun e w' => e = .returned (.string (digS d)) ∧ w' = w := by
 go_enter Tryz.func65, Tryz.ntmps65
 go_wp2_with (go_at_call 79; refine (format30_ok d h _).mono ?_; rintro e w' ⟨rfl, rfl⟩)
 go_ret
 exact ⟨rfl, rfl⟩
def handS (h : Int) : ByteArray := (⟨#[108, 114, 109]⟩ : ByteArray).extract h.toNat (h.toNat + 1)
def isP (a b : Int) : Bool := decide (0 ≤ a) && decide (a ≤ 2) && (decide (1 ≤ b) && decide (b ≤ 7))
set_option maxHeartbeats 1000000 in
theorem isPiece_ok (a b : Int) (w : World) : Calls Tryz.prog 25 #[.agg #[.int .i8 a, .int .i8 b]] w fun e w' => e = .returned (.bool (isP a b)) ∧ Below w.heap.size w w' := by
 go_enter Tryz.func25, Tryz.ntmps25
 go_wp2
 all_goals
  go_ret
  refine ⟨?_, (Below.refl _ w).alloc (Nat.le_refl _) _⟩
  refine congrArg (fun b => Ending.returned (Value.bool b)) ?_
  simp only [isP]
  rw [Bool.eq_iff_iff]
  simp
  try omega
end Go.Proofs.YthdnamhilcjnhaaGreatDoor
namespace Go.Proofs.YthdnamhilcjnhaaGreatDoor
open Go Go.RowKit Go.Shelf
set_option linter.unusedVariables false
set_option linter.unusedSimpArgs false
attribute [local go_sem] Oper.semAt_some
theorem split18 (s sep : ByteArray) (w : World) : Calls Tryz.prog 42 #[.string s, .string sep, .int .i64 0] w fun e w' =>
 e = .returned (.func (.func 61) #[] #[.pointer (some ⟨w.heap.size + 1, 0, none⟩), .pointer (some ⟨w.heap.size, 0, none⟩), .pointer (some ⟨w.heap.size + 2, 0, none⟩)]) ∧
 w' = ((w.alloc (.cells #[.string s] 9)).alloc (.cells #[.string sep] 9)).alloc (.cells #[.int .i64 0] 3) := by
 go_enter Tryz.func42, Tryz.ntmps42
 go_wp2
 go_ret
 exact ⟨rfl, rfl⟩
theorem split12 (s sep : ByteArray) (w : World) : Calls Tryz.prog 23 #[.string s, .string sep] w fun e w' =>
 e = .returned (.func (.func 61) #[] #[.pointer (some ⟨w.heap.size + 1, 0, none⟩), .pointer (some ⟨w.heap.size, 0, none⟩), .pointer (some ⟨w.heap.size + 2, 0, none⟩)]) ∧
 w' = ((w.alloc (.cells #[.string s] 9)).alloc (.cells #[.string sep] 9)).alloc (.cells #[.int .i64 0] 3) := by
 go_enter Tryz.func23, Tryz.ntmps23
 go_wp2_with (go_at_call 42; refine (split18 _ _ _).mono ?_; rintro e w' ⟨rfl, rfl⟩)
 go_ret
 exact ⟨rfl, rfl⟩
def strLeft (Bs : Nat) (w : World) : Nat := match w.cell? ⟨Bs, 0, none⟩ with
 | some (.string b) => b.size
 | _ => 0
theorem strLeft_eq {Bs : Nat} {w : World} {r : ByteArray} (h : Boxed w Bs 9 (.string r)) : strLeft Bs w = r.size := by
 unfold strLeft; rw [h.cell]
theorem indexByte_lt (c : UInt8) : ∀ (l : List UInt8), Lib.indexByte l c < l.length ∧ -1 ≤ Lib.indexByte l c
 | [] => by simp [Lib.indexByte]
 | b :: l => by
  have ih := indexByte_lt c l
  unfold Lib.indexByte
  simp only [List.length_cons]
  split
  ·omega
  ·split <;> omega
set_option maxRecDepth 100000 in
set_option maxHeartbeats 2000000 in
theorem split_in (m l Bs Bp Bv : Nat) (J : ByteArray → World → Prop) (Jd Jx : World → Prop) (W : World) (r0 : ByteArray)
 (hread : ∀ r W, J r W → r.size ≤ 1048576 ∧ Boxed W Bs 9 (.string r) ∧ Boxed W Bp 9 (.string ⟨#[32]⟩) ∧ Boxed W Bv 3 (.int .i64 0))
 (hY : ∀ r W (i : Nat), J r W → Lib.indexByte r.data.toList 32 = (i : Int) → YieldAt Fence.wide m Tryz.prog l #[.string (r.extract 0 i)] W fun e W' =>
  (e = .returned (.bool true) ∧ (Boxed W' Bs 9 (.string r) ∧ Boxed W' Bp 9 (.string ⟨#[32]⟩)) ∧ J (r.extract (i + 1) r.size) (W'.setCell ⟨Bs, 0, none⟩ (.string (r.extract (i + 1) r.size)))) ∨ (e = .returned (.bool false) ∧ Jx W'))
 (hL : ∀ r W, J r W → Lib.indexByte r.data.toList 32 = -1 → YieldAt Fence.wide m Tryz.prog l #[.string r] W fun e W' => (e = .returned (.bool true) ∧ Jd W') ∨ (e = .returned (.bool false) ∧ Jx W'))
 (h0 : J r0 W) : CallsIn Fence.wide (m + 1) Tryz.prog 61 #[.func (.yield l) #[] #[], .pointer (some ⟨Bp, 0, none⟩), .pointer (some ⟨Bs, 0, none⟩), .pointer (some ⟨Bv, 0, none⟩)] W fun e W' => (∃ v, e = .returned v) ∧ (Jd W' ∨ Jx W') := by
 refine callsIn_of_wp Tryz.func61 rfl trivial ?_ rfl
 simp only [Tryz.ntmps61, List.size_toArray, List.length_cons, List.length_nil, Nat.reduceAdd, Nat.reduceSub, Array.replicate_succ, Array.replicate_zero, List.push_toArray, List.append_toArray, List.nil_append, List.cons_append]
 obtain ⟨_, hs0, hp0, hv0⟩ := hread r0 W h0
 have hcp := hp0.cell
 gi_wp2
 gi_loopw [] (fun wr => ∃ r, J r wr) (fun wr => strLeft Bs wr)
 case atStart => exact ⟨r0, h0⟩
 case round =>
  obtain ⟨r, hJ⟩ := hrel
  obtain ⟨hsz, hs, hp, hv⟩ := hread r wr hJ
  have hcs := hs.cell
  have hcp := hp.cell
  have hcv := hv.cell
  have hw : ∀ x : Int, -9223372036854775808 ≤ x ∧ x ≤ 9223372036854775807 → wrap64 x = x := fun x hx => IntWalk.wrap64_in x hx
  have hix := indexByte_lt 32 r.data.toList
  have hl : r.data.toList.length = r.size := by simp
  have hcase : Lib.indexByte r.data.toList 32 = -1 ∨ ∃ i : Nat, Lib.indexByte r.data.toList 32 = (i : Int) ∧ i < r.size := by
   by_cases h : Lib.indexByte r.data.toList 32 = -1
   ·exact .inl h
   ·exact .inr ⟨(Lib.indexByte r.data.toList 32).toNat, by omega, by omega⟩
  rcases hcase with hc | ⟨i, hc, hi⟩
  ·obtain ⟨fn, tmps, assign, body, hy, hR⟩ := hL r wr hJ hc
   gi_wp2_with (refine ⟨trivial, ?_⟩; gi_at_call 63; refine (callsIn_wide.2 (Tryz.strings_Index_one _ _ _)).mono ?_; rintro e w' ⟨rfl, rfl⟩; simp only [hc])
   refine hR.mono ?_
   rintro e W3 (⟨rfl, hJ3⟩ | ⟨rfl, hJ3⟩)
   ·gi_wp2
    go_end0
    exact ⟨⟨_, rfl⟩, .inl hJ3⟩
   ·gi_wp2
    go_end0
    exact ⟨⟨_, rfl⟩, .inr hJ3⟩
  ·obtain ⟨fn, tmps, assign, body, hy, hR⟩ := hY r wr i hJ hc
   gi_wp2_with (refine ⟨trivial, ?_⟩; gi_at_call 63; refine (callsIn_wide.2 (Tryz.strings_Index_one _ _ _)).mono ?_; rintro e w' ⟨rfl, rfl⟩; simp only [hc])
   refine hR.mono ?_
   rintro e W3 (⟨rfl, ⟨hs3, hp3⟩, hJ3⟩ | ⟨rfl, hJ3⟩)
   ·have hcs3 := hs3.cell
    have hfs3 := hs3.frozen
    have hcp3 := hp3.cell
    gi_wp2
    refine ⟨⟨_, hJ3⟩, ?_⟩
    rw [strLeft_eq (hread _ _ hJ3).2.1, strLeft_eq hs]
    simp
    omega
   ·gi_wp2
    refine bodyPost_ret (results_none rfl _ _ _) rfl ?_
    exact ⟨⟨_, rfl⟩, .inr hJ3⟩
end Go.Proofs.YthdnamhilcjnhaaGreatDoor
namespace Go.Proofs
open Go.Shelf
def Tryz.lays156_ren : Go.Shelf.Ren := ⟨fun | 156 => 28 | 165 => 50 | 166 => 51 | 169 => 52 | 240 => 70 | 241 => 71 | 276 => 82 | 277 => 83 | n => n, fun | 31 => 58 | 9 => 9 | 3 => 3 | 4 => 4 | 0 => 0 | 20 => 20 | 72 => 79 | 76 => 83 | 70 => 77 | 37 => 22 | 75 => 82 | 127 => 100 | 164 => 108 | 5 => 5 | 80 => 85 | n => n, fun | n => n⟩
theorem Tryz.lays156 : Go.Proofs.Lays.n156 Tryz.prog Tryz.lays156_ren := {
 mixed := by kernel_rfl
 f156 := Tryz.func28.trans (congrArg some (by kernel_rfl))
 f165 := Tryz.func50.trans (congrArg some (by kernel_rfl))
 f166 := Tryz.func51.trans (congrArg some (by kernel_rfl))
 f169 := Tryz.func52.trans (congrArg some (by kernel_rfl))
 f240 := Tryz.func70.trans (congrArg some (by kernel_rfl))
 f241 := Tryz.func71.trans (congrArg some (by kernel_rfl))
 f276 := Tryz.func82.trans (congrArg some (by kernel_rfl))
 f277 := Tryz.func83.trans (congrArg some (by kernel_rfl))
 t0 := Tryz.underlying0
 a0 := Tryz.isAgg0
 z0 := Tryz.sizeOf0
 v0 := Tryz.zeroValue0
 t3 := Tryz.underlying3
 a3 := Tryz.isAgg3
 z3 := Tryz.sizeOf3
 v3 := Tryz.zeroValue3
 t4 := Tryz.underlying4
 a4 := Tryz.isAgg4
 z4 := Tryz.sizeOf4
 v4 := Tryz.zeroValue4
 t9 := Tryz.underlying9
 a9 := Tryz.isAgg9
 z9 := Tryz.sizeOf9
 v9 := Tryz.zeroValue9
 t20 := Tryz.underlying20
 a20 := Tryz.isAgg20
 z20 := Tryz.sizeOf20
 v20 := Tryz.zeroValue20
 t31 := Tryz.underlying58
 a31 := Tryz.isAgg58
 z31 := Tryz.sizeOf58
 v31 := Tryz.zeroValue58
 t37 := Tryz.underlying22
 a37 := Tryz.isAgg22
 z37 := Tryz.sizeOf22
 v37 := Tryz.zeroValue22
 t70 := Tryz.underlying77
 a70 := Tryz.isAgg77
 z70 := Tryz.sizeOf77
 v70 := Tryz.zeroValue77
 t72 := Tryz.underlying79
 a72 := Tryz.isAgg79
 z72 := Tryz.sizeOf79
 v72 := Tryz.zeroValue79
 t75 := Tryz.underlying82
 a75 := Tryz.isAgg82
 z75 := Tryz.sizeOf82
 v75 := Tryz.zeroValue82
 t76 := Tryz.underlying83
 a76 := Tryz.isAgg83
 z76 := Tryz.sizeOf83
 v76 := Tryz.zeroValue83
 t127 := Tryz.underlying100
 a127 := Tryz.isAgg100
 z127 := Tryz.sizeOf100
 v127 := Tryz.zeroValue100
 t164 := Tryz.underlying108
 a164 := Tryz.isAgg108
 z164 := Tryz.sizeOf108
 v164 := Tryz.zeroValue108 }
theorem Tryz.Builder_Extra_156 : Builder.Extra Tryz.prog Tryz.lays156_ren := {
 sizeBuilder := by kernel_rfl
 liesBuilder := by kernel_rfl
 t5 := Tryz.underlying5
 a5 := Tryz.isAgg5
 z5 := Tryz.sizeOf5
 v5 := Tryz.zeroValue5
 infoByte := by kernel_rfl
 cellsByte := by kernel_rfl
 sizeByte := by kernel_rfl
 neB5 := by decide }
open Go.RowKit in
theorem Tryz.strings_Join_none (a : Option Addr) (c : Nat) (sep : ByteArray) (w : World) :
 Calls Tryz.prog 28 #[.slice a 0 c, .string sep] w fun e w' => e = .returned (.string ⟨#[]⟩) ∧ w' = w := Any.strings_Join_none Tryz.lays156 Tryz.Builder_Extra_156 a c sep w
open Go.RowKit in
theorem Tryz.strings_Join (bk o c : Nat) (xs : List ByteArray) (sep : ByteArray) (w : World) (hcells : ∀ (j : Nat) x, xs[j]? = some x → w.cell? ⟨bk, o + j, none⟩ = some (.string x)) (hbk : bk < w.heap.size) (hN : xs.length ≤ 140737488355328) (hcap : xs.length ≤ c) (hlen : (Lib.join (xs.map (·.data.toList)) sep.data.toList).length ≤ 140737488355328) :
 Calls Tryz.prog 28 #[.slice (some ⟨bk, o, none⟩) xs.length c, .string sep] w fun e w' => e = .returned (.string ⟨(Lib.join (xs.map (·.data.toList)) sep.data.toList).toArray⟩) ∧ Below w.heap.size w w' := Any.strings_Join Tryz.lays156 Tryz.Builder_Extra_156 bk o c xs sep w hcells hbk hN hcap hlen
end Go.Proofs
