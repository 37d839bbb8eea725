/- FnExactBasinOf: for all arguments the law returns true, and its arguments read as they did. -/
import Derived.Test.YtfoojgpbgaldgaaRows
import Derived.WalkKit
import Derived.ProofKit
import Derived.Test.YtfoojgpbgaldgaaWkBasinOf
import Derived.Test.YtfoojgpbgaldgaaPr3
namespace Go.Proofs.Ytfoojgpbgaldgaa
open Go Go.RowKit Go.ChangeShapes Go.WideShapes Go.ChangeAt
set_option linter.unusedVariables false
set_option linter.unusedSimpArgs false
theorem BasinOf_own : ownKnob Try.prog.godebug = Option.none := by kernel_rfl
theorem BasinOf_laid : laidOutB Try.prog = true := by kernel_rfl
theorem BasinOf_sem : ∀ vs, inArgs [(true, [.int .i8, .int .i16, .ints .i8 17, .int .u32, .sl true [.int .i8, .int .i16]]), (false, [.int .i64])] vs → ∃ k, sem E k 13 vs = some (.bool true) := by
  intro vs h
  obtain ⟨v1, r2, rfl, h3, h⟩ := h
  obtain ⟨l4, rfl, h5⟩ := h3
  try simp only [inL] at h5
  obtain ⟨x6, l7, e, h8, h9⟩ := h5
  subst e
  simp only [inP] at h8
  obtain ⟨c10, rfl, w11⟩ := h8
  try simp only [inL] at h9
  obtain ⟨x12, l13, e, h14, h15⟩ := h9
  subst e
  simp only [inP] at h14
  obtain ⟨c16, rfl, w17⟩ := h14
  try simp only [inL] at h15
  obtain ⟨x18, l19, e, h20, h21⟩ := h15
  subst e
  simp only [inP] at h20
  obtain ⟨c22, rfl, w23⟩ := h20
  try simp only [inL] at h21
  obtain ⟨x24, l25, e, h26, h27⟩ := h21
  subst e
  simp only [inP] at h26
  obtain ⟨c28, rfl, w29⟩ := h26
  try simp only [inL] at h27
  obtain ⟨x30, l31, e, h32, h33⟩ := h27
  subst e
  simp only [inP] at h32
  obtain ⟨c34, rfl, w35⟩ := h32
  try simp only [inL] at h33
  try subst h33
  obtain ⟨v36, r37, rfl, h38, h⟩ := h
  replace h38 := show inL _ [v36] from h38
  try simp only [inL] at h38
  obtain ⟨x39, l40, e, h41, h42⟩ := h38
  obtain ⟨rfl, rfl⟩ := List.cons.inj e; clear e
  simp only [inP] at h41
  obtain ⟨c43, rfl, w44⟩ := h41
  try simp only [inL] at h42
  try subst h42
  have h := show _ = _ from h; subst h
  obtain ⟨n, hn⟩ := ev_run (law_FnExactBasinOf w11 w17 w23 w29 w35 w44)
  exact ⟨_, w_laws_FnExactBasinOf hn _ (Nat.le_refl _)⟩
set_option maxRecDepth 100000 in
theorem BasinOf_lifted (os : Os) (started : os.Started) (H : Type) (enc : TypeId × Value → H) :
    ReturnsInHanded {} Try.checked os 13 .any (Rows.fnExactBasinOfSpec.pre6 enc Try.prog Try.f13 Rows.fnExactBasinOfRow.domain false) (Rows.fnExactBasinOfSpec.post enc Try.prog Try.f13 false true false false) := by
  refine returnsInHanded_of_change (C := Try.checked) BasinOf_own started (by kernel_rfl) Try.func13
    (ChangeSpec.witness6 (enc := enc) (C := Try.checked) false ⟨#[], #[.agg #[.int .i8 0, .int .i16 0, .int .i8 0, .int .i8 0, .int .i8 0, .int .i8 0, .int .i8 0, .int .i8 0, .int .i8 0, .int .i8 0, .int .i8 0, .int .i8 0, .int .i8 0, .int .i8 0, .int .i8 0, .int .i8 0, .int .i8 0, .int .i8 0, .int .i8 0, .int .u32 0, .slice none 0 0], .int .i64 0], []⟩ 8 (by kernel_rfl) (by kernel_rfl) (by kernel_rfl) (by kernel_rfl)) ?_
  intro W base args ds gs before hval0 hW hcnd _
  have hval : ∀ (j : Nat) t v, Try.f13.params[j]? = some t → args[j]? = some v → Value.okWide Try.prog W .any base t v := hval0
  refine law_calls (g := 8) (shs := [(true, [.int .i8, .int .i16, .ints .i8 17, .int .u32, .sl true [.int .i8, .int .i16]]), (false, [.int .i64])]) (tb := 4) envOk BasinOf_laid rfl ?_ (by kernel_rfl) (by kernel_rfl) (by kernel_rfl) (by kernel_rfl) rfl BasinOf_sem hval hW
  intro ds hds
  rw [Try.params13] at hds
  match ds, hds with
  | [d0, d1], _ => rfl
theorem BasinOf_holds : Rows.FnExactBasinOfSaid :=
  OpenClaim.holds_of_wide 13 Try.f13 rfl rfl rfl rfl rfl rfl rfl ⟨rfl, rfl, rfl, rfl, rfl⟩ rfl rfl rfl rfl rfl (by kernel_rfl) Try.func13 (by kernel_rfl)
    (of_decide_eq_true (by kernel_rfl)) (by unfold Func.isWrapper; first | (rw [if_pos (by decide +kernel)]; kernel_rfl) | (rw [if_neg (by decide +kernel)]; exact ⟨rfl, rfl⟩))
    (fun os started H enc _ => BasinOf_lifted os started H enc)
end Go.Proofs.Ytfoojgpbgaldgaa
