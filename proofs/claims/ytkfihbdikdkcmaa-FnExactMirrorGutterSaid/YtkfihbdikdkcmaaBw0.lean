/- slices.Backward's closure: it hands the elements on from the last one. -/
import Derived.RangeFuncBox
import Derived.RangeFuncLeaves
import Derived.Shelf.Abstract
import Derived.WalkKit
import Derived.OwnWalkIn
import Derived.TacticsInMore
import Derived.LoopNIn
import Derived.LoopIn
import Derived.IntWalk
import Derived.Test.YtkfihbdikdkcmaaProg
import Derived.Test.YtkfihbdikdkcmaaRs2
namespace Go.Proofs.Ytkfihbdikdkcmaa
open Go Go.RowKit Go.Shelf
set_option linter.unusedVariables false
set_option linter.unusedSimpArgs false
attribute [local go_sem] Oper.semAt_some
set_option maxRecDepth 100000 in
set_option maxHeartbeats 2000000 in
theorem bw_in (m l Bs Bo : Nat) (lst : List (Int × Int)) (J : Nat → World → Prop) (W : World)
    (hread : ∀ k W1, J k W1 → ∃ sv, W1.cell? ⟨Bs, Bo, none⟩ = some sv ∧ PairsAt .i8 .i16 W1 sv lst)
    (hY : ∀ k W1, k < lst.length → J k W1 → YieldAt Fence.wide m Try.prog l #[.int .i64 ((lst.length - 1 - k : Nat) : Int), .agg #[.int .i8 (lst.getD (lst.length - 1 - k) (0, 0)).1, .int .i16 (lst.getD (lst.length - 1 - k) (0, 0)).2]] W1 fun e W' => e = .returned (.bool true) ∧ J (k + 1) W')
    (h0 : J 0 W) : CallsIn Fence.wide (m + 1) Try.prog 30 #[.func (.yield l) #[] #[], .pointer (some ⟨Bs, Bo, none⟩)] W fun e W' => (∃ v, e = .returned v) ∧ J lst.length W' := by
  refine callsIn_of_wp Try.func30 rfl trivial ?_ rfl
  simp only [Try.ntmps30, List.size_toArray, List.length_cons, List.length_nil, Nat.reduceAdd, Nat.reduceSub, Array.replicate_succ, Array.replicate_zero, List.push_toArray, List.append_toArray, List.nil_append, List.cons_append]
  obtain ⟨sv, hsv, A, cap, rfl, hml, hcells⟩ := hread 0 W h0
  have hml' : (lst.length : Int) ≤ 9223372036854775807 := by
    have h : lst.length ≤ 9223372036854775807 := by simpa [maxLen] using hml
    omega
  have hw : ∀ x : Int, -9223372036854775808 ≤ x ∧ x ≤ 9223372036854775807 → wrap64 x = x := fun x hx => IntWalk.wrap64_in x hx
  gi_wp2
  gi_loopw [3] (fun i wr => ∃ k : Nat, k ≤ lst.length ∧ i = .int .i64 ((lst.length : Int) - 1 - k) ∧ J k wr)
    (fun i _ => (intOf i + 1).toNat)
  case atStart => exact ⟨0, Nat.zero_le _, by simp, h0⟩
  case round =>
    obtain ⟨k, hk, rfl, hJs⟩ := hrel
    by_cases hlt : k < lst.length
    · obtain ⟨sv', hsv', A', cap', rfl, _, hc'⟩ := hread k wr hJs
      rcases hc' with h | ⟨b, o, rfl, hcells'⟩
      · subst h; simp at hlt
      · obtain ⟨c1, c2⟩ := hcells' (lst.length - 1 - k) (by omega)
        obtain ⟨fn, tmps, assign, body, hy, hR⟩ := hY k wr hlt hJs
        have ei : (lst.length : Int) - 1 - k = ((lst.length - 1 - k : Nat) : Int) := by omega
        have hj : lst.length - 1 - k < lst.length := by omega
        have hj2 : k = lst.length - 1 - (lst.length - 1 - k) := by omega
        rw [ei]
        generalize hjj : lst.length - 1 - k = j at *
        rw [Nat.mul_comm 2 j] at c1 c2
        generalize lst.getD j (0, 0) = p at c1 c2 hy
        gi_wp2
        refine hR.mono ?_
        rintro e W3 ⟨rfl, hJ3⟩
        gi_wp2
        go_roundw
        case rel => exact ⟨k + 1, by omega, by congr 1; omega, hJ3⟩
        case measure => simp [intOf]
    · obtain rfl : k = lst.length := by omega
      gi_wp2
      go_end0
      exact ⟨⟨_, rfl⟩, hJs⟩
theorem bw30 : BwOk Try.prog 30 .i8 .i16 := ⟨fun args w => enters_of Try.func30 (by kernel_rfl) rfl args w, bw_in⟩
end Go.Proofs.Ytkfihbdikdkcmaa
