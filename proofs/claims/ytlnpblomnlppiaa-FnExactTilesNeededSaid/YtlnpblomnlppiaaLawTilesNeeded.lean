/- FnExactTilesNeeded: for all arguments the law returns true, and its arguments read as they did. -/
import Derived.Test.YtlnpblomnlppiaaRows
import Derived.WalkKit
import Derived.ProofKit
import Derived.Test.YtlnpblomnlppiaaWkTilesNeeded
import Derived.Test.YtlnpblomnlppiaaPd6
namespace Go.Proofs.Ytlnpblomnlppiaa
open Go Go.RowKit Go.ChangeShapes Go.WideShapes Go.ChangeAt
set_option linter.unusedVariables false
set_option linter.unusedSimpArgs false
theorem TilesNeeded_own : ownKnob Try.prog.godebug = Option.none := by kernel_rfl
theorem TilesNeeded_laid : laidOutB Try.prog = true := by kernel_rfl
theorem TilesNeeded_sem : ∀ vs, inArgs [(true, [.int .i8, .int .i8, .int .u8, .ints .u8 64]), (false, [.sl false [.int .i64]]), (false, [.int .i64])] vs → ∃ k, sem E k 5 vs = some (.bool true) := by
  intro vs h
  obtain ⟨v1, r2, rfl, h3, h⟩ := h
  obtain ⟨l4, rfl, h5⟩ := h3
  try simp only [inL] at h5
  obtain ⟨x6, l7, e, h8, h9⟩ := h5
  subst e
  simp only [inP] at h8
  obtain ⟨c10, rfl, w11⟩ := h8
  try simp only [inL] at h9
  obtain ⟨x12, l13, e, h14, h15⟩ := h9
  subst e
  simp only [inP] at h14
  obtain ⟨c16, rfl, w17⟩ := h14
  try simp only [inL] at h15
  obtain ⟨x18, l19, e, h20, h21⟩ := h15
  subst e
  simp only [inP] at h20
  obtain ⟨c22, rfl, w23⟩ := h20
  try simp only [inL] at h21
  obtain ⟨x24, l25, e, h26, h27⟩ := h21
  subst e
  simp only [inP] at h26
  obtain ⟨c28, rfl, w29⟩ := h26
  try simp only [inL] at h27
  try subst h27
  obtain ⟨v30, r31, rfl, h32, h⟩ := h
  replace h32 := show inL _ [v30] from h32
  try simp only [inL] at h32
  obtain ⟨x33, l34, e, h35, h36⟩ := h32
  obtain ⟨rfl, rfl⟩ := List.cons.inj e; clear e
  simp only [inP] at h35
  obtain ⟨c37, rfl, w38⟩ := h35
  try simp only [inL] at h36
  try subst h36
  obtain ⟨v39, r40, rfl, h41, h⟩ := h
  replace h41 := show inL _ [v39] from h41
  try simp only [inL] at h41
  obtain ⟨x42, l43, e, h44, h45⟩ := h41
  obtain ⟨rfl, rfl⟩ := List.cons.inj e; clear e
  simp only [inP] at h44
  obtain ⟨c46, rfl, w47⟩ := h44
  try simp only [inL] at h45
  try subst h45
  have h := show _ = _ from h; subst h
  obtain ⟨n, hn⟩ := ev_run (law_FnExactTilesNeeded w11 w17 w23 w29 w38 w47)
  exact ⟨_, w_laws_FnExactTilesNeeded hn _ (Nat.le_refl _)⟩
set_option maxRecDepth 100000 in
theorem TilesNeeded_lifted (os : Os) (started : os.Started) (H : Type) (enc : TypeId × Value → H) :
    ReturnsInHanded {} Try.checked os 5 .any (Rows.fnExactTilesNeededSpec.pre6 enc Try.prog Try.f5 Rows.fnExactTilesNeededRow.domain false) (Rows.fnExactTilesNeededSpec.post enc Try.prog Try.f5 false true false false) := by
  refine returnsInHanded_of_change (C := Try.checked) TilesNeeded_own started (by kernel_rfl) Try.func5
    (ChangeSpec.witness6 (enc := enc) (C := Try.checked) false ⟨#[], #[.agg #[.int .i8 0, .int .i8 0, .int .u8 0, .int .u8 0, .int .u8 0, .int .u8 0, .int .u8 0, .int .u8 0, .int .u8 0, .int .u8 0, .int .u8 0, .int .u8 0, .int .u8 0, .int .u8 0, .int .u8 0, .int .u8 0, .int .u8 0, .int .u8 0, .int .u8 0, .int .u8 0, .int .u8 0, .int .u8 0, .int .u8 0, .int .u8 0, .int .u8 0, .int .u8 0, .int .u8 0, .int .u8 0, .int .u8 0, .int .u8 0, .int .u8 0, .int .u8 0, .int .u8 0, .int .u8 0, .int .u8 0, .int .u8 0, .int .u8 0, .int .u8 0, .int .u8 0, .int .u8 0, .int .u8 0, .int .u8 0, .int .u8 0, .int .u8 0, .int .u8 0, .int .u8 0, .int .u8 0, .int .u8 0, .int .u8 0, .int .u8 0, .int .u8 0, .int .u8 0, .int .u8 0, .int .u8 0, .int .u8 0, .int .u8 0, .int .u8 0, .int .u8 0, .int .u8 0, .int .u8 0, .int .u8 0, .int .u8 0, .int .u8 0, .int .u8 0, .int .u8 0, .int .u8 0, .int .u8 0], .slice none 0 0, .int .i64 0], []⟩ 8 (by kernel_rfl) (by kernel_rfl) (by kernel_rfl) (by kernel_rfl)) ?_
  intro W base args ds gs before hval0 hW hcnd _
  have hval : ∀ (j : Nat) t v, Try.f5.params[j]? = some t → args[j]? = some v → Value.okWide Try.prog W .any base t v := hval0
  refine law_calls (g := 8) (shs := [(true, [.int .i8, .int .i8, .int .u8, .ints .u8 64]), (false, [.sl false [.int .i64]]), (false, [.int .i64])]) (tb := 4) envOk TilesNeeded_laid rfl ?_ (by kernel_rfl) (by kernel_rfl) (by kernel_rfl) (by kernel_rfl) rfl TilesNeeded_sem hval hW
  intro ds hds
  rw [Try.params5] at hds
  match ds, hds with
  | [d0, d1, d2], _ => rfl
theorem TilesNeeded_holds : Rows.FnExactTilesNeededSaid :=
  OpenClaim.holds_of_wide 5 Try.f5 rfl rfl rfl rfl rfl rfl rfl ⟨rfl, rfl, rfl, rfl, rfl⟩ rfl rfl rfl rfl rfl (by kernel_rfl) Try.func5 (by kernel_rfl)
    (of_decide_eq_true (by kernel_rfl)) (by unfold Func.isWrapper; first | (rw [if_pos (by decide +kernel)]; kernel_rfl) | (rw [if_neg (by decide +kernel)]; exact ⟨rfl, rfl⟩))
    (fun os started H enc _ => TilesNeeded_lifted os started H enc)
end Go.Proofs.Ytlnpblomnlppiaa
