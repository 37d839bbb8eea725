/- FnExactFirstOver: for all arguments the law returns true, and its arguments read as they did. -/
import Derived.Test.YtdhcfdiggcgmhaaRows
import Derived.WalkKit
import Derived.ProofKit
import Derived.Test.YtdhcfdiggcgmhaaEnvB
import Derived.Test.YtdhcfdiggcgmhaaWkFirstOver
import Derived.Test.YtdhcfdiggcgmhaaPe2
namespace Go.Proofs.Ytdhcfdiggcgmhaa
open Go Go.RowKit Go.ChangeShapes Go.WideShapes Go.ChangeAt
set_option linter.unusedVariables false
set_option linter.unusedSimpArgs false
theorem FirstOver_own : ownKnob Try.prog.godebug = Option.none := by kernel_rfl
theorem FirstOver_laid : laidOutB Try.prog = true := envLaid
theorem FirstOver_sem : ∀ vs, inArgs [(true, [.int .i8, .int .i16, .ints .i8 17, .int .u32, .sl true [.int .i8, .int .i16]]), (false, [.sl false [.int .i64]])] vs → ∃ k, sem E k 8 vs = some (.bool true) := by
  intro vs h
  obtain ⟨v1, r2, rfl, h3, h⟩ := h
  obtain ⟨l4, rfl, h5⟩ := h3
  try simp only [inL] at h5
  obtain ⟨x6, l7, e, h8, h9⟩ := h5
  subst e
  simp only [inP] at h8
  obtain ⟨c10, rfl, w11⟩ := h8
  try simp only [inL] at h9
  obtain ⟨x12, l13, e, h14, h15⟩ := h9
  subst e
  simp only [inP] at h14
  obtain ⟨c16, rfl, w17⟩ := h14
  try simp only [inL] at h15
  obtain ⟨x18, l19, e, h20, h21⟩ := h15
  subst e
  simp only [inP] at h20
  obtain ⟨c22, rfl, w23⟩ := h20
  try simp only [inL] at h21
  obtain ⟨x24, l25, e, h26, h27⟩ := h21
  subst e
  simp only [inP] at h26
  obtain ⟨c28, rfl, w29⟩ := h26
  try simp only [inL] at h27
  obtain ⟨x30, l31, e, h32, h33⟩ := h27
  subst e
  simp only [inP] at h32
  obtain ⟨c34, rfl, w35⟩ := h32
  try simp only [inL] at h33
  try subst h33
  obtain ⟨v36, r37, rfl, h38, h⟩ := h
  replace h38 := show inL _ [v36] from h38
  try simp only [inL] at h38
  obtain ⟨x39, l40, e, h41, h42⟩ := h38
  obtain ⟨rfl, rfl⟩ := List.cons.inj e; clear e
  simp only [inP] at h41
  obtain ⟨c43, rfl, w44⟩ := h41
  try simp only [inL] at h42
  try subst h42
  have h := show _ = _ from h; subst h
  obtain ⟨n, hn⟩ := ev_run (law_FnExactFirstOver w11 w17 w23 w29 w35 w44)
  exact ⟨_, w_laws_FnExactFirstOver hn _ (Nat.le_refl _)⟩
set_option maxRecDepth 100000 in
theorem FirstOver_lifted (os : Os) (started : os.Started) (H : Type) (enc : TypeId × Value → H) :
    ReturnsInHanded {} Try.checked os 8 .any (Rows.fnExactFirstOverSpec.pre6 enc Try.prog Try.f8 Rows.fnExactFirstOverRow.domain false) (Rows.fnExactFirstOverSpec.post enc Try.prog Try.f8 false true false false) := by
  refine returnsInHanded_of_change (C := Try.checked) FirstOver_own started (by kernel_rfl) Try.func8
    (ChangeSpec.witness6 (enc := enc) (C := Try.checked) false ⟨#[], #[.agg #[.int .i8 0, .int .i16 0, .int .i8 0, .int .i8 0, .int .i8 0, .int .i8 0, .int .i8 0, .int .i8 0, .int .i8 0, .int .i8 0, .int .i8 0, .int .i8 0, .int .i8 0, .int .i8 0, .int .i8 0, .int .i8 0, .int .i8 0, .int .i8 0, .int .i8 0, .int .u32 0, .slice none 0 0], .slice none 0 0], []⟩ 8 (by kernel_rfl) (by kernel_rfl) (by kernel_rfl) (by kernel_rfl)) ?_
  intro W base args ds gs before hval0 hW hcnd _
  have hval : ∀ (j : Nat) t v, Try.f8.params[j]? = some t → args[j]? = some v → Value.okWide Try.prog W .any base t v := hval0
  refine law_calls (g := 8) (shs := [(true, [.int .i8, .int .i16, .ints .i8 17, .int .u32, .sl true [.int .i8, .int .i16]]), (false, [.sl false [.int .i64]])]) (tb := 4) envOk FirstOver_laid rfl ?_ (by kernel_rfl) (by kernel_rfl) (by kernel_rfl) (by kernel_rfl) rfl FirstOver_sem hval hW
  intro ds hds
  rw [Try.params8] at hds
  match ds, hds with
  | [d0, d1], _ => rfl
set_option maxRecDepth 100000
theorem FirstOver_c0 : (Rows.fnExactFirstOverRow.wf (OpenSpec.ofChange Rows.fnExactFirstOverSpec)) = true := by kernel_rfl
theorem FirstOver_c3 : (Try.f8.params.all (Try.prog.readableRec ·)) = true := by kernel_rfl
theorem FirstOver_c4 : (namedTie Try.prog Rows.fnExactFirstOverRow.named Rows.fnExactFirstOverSpec.vars) = true := by kernel_rfl
theorem FirstOver_c5 : ((Rows.fnExactFirstOverRow.stops == [])) = true := by kernel_rfl
theorem FirstOver_c7 : ((Rows.fnExactFirstOverRow.knobs == [])) = true := by kernel_rfl
theorem FirstOver_c9 : ((Rows.fnExactFirstOverRow.inPlace == Try.prog.inPlace 8)) = true := by kernel_rfl
theorem FirstOver_c10 : ((Rows.fnExactFirstOverRow.unfollowed == Try.prog.unfollowed 8)) = true := by kernel_rfl
theorem FirstOver_c11 : ((Rows.fnExactFirstOverRow.recurses == Try.prog.recurses 8)) = true := by kernel_rfl
theorem FirstOver_c12 : ((Rows.fnExactFirstOverRow.named == Try.prog.varsNamed 8)) = true := by kernel_rfl
theorem FirstOver_c13 : ((Rows.fnExactFirstOverRow.maps == (Try.f8.params.toList ++ Rows.fnExactFirstOverSpec.plain.varTypes Try.prog).any (Try.prog.mapsRec ·))) = true := by kernel_rfl
theorem FirstOver_c14 : ((Rows.fnExactFirstOverRow.ifaces == (Try.f8.params.toList ++ Rows.fnExactFirstOverSpec.plain.varTypes Try.prog).any (Try.prog.ifacesRec ·))) = true := by kernel_rfl
theorem FirstOver_c15 : ((Rows.fnExactFirstOverRow.mapsOut == Try.prog.mapsAmong Try.f8.resultTypes.toList)) = true := by kernel_rfl
theorem FirstOver_c16 : ((Rows.fnExactFirstOverRow.loops == (Try.f8.params.toList ++ Rows.fnExactFirstOverSpec.plain.varTypes Try.prog).any (Try.prog.loopsFrom ·))) = true := by kernel_rfl
theorem FirstOver_c17 : ((Rows.fnExactFirstOverRow.wideKeys == (Try.f8.params.toList ++ Rows.fnExactFirstOverSpec.plain.varTypes Try.prog ++ Try.f8.resultTypes.toList).any (Try.prog.wideKeysFrom ·))) = true := by kernel_rfl
theorem FirstOver_c18 : (Rows.fnExactFirstOverSpec.vars.all (Try.prog.varReadable ·)) = true := by kernel_rfl
theorem FirstOver_c19 : (Try.f8.resultTypes.all (fun t => Try.prog.readableRec t && decide (t < Try.prog.types.size))) = true := by kernel_rfl
theorem FirstOver_c20 : ((Rows.fnExactFirstOverRow.ifacesOut == Try.f8.resultTypes.toList.any (Try.prog.ifacesRec ·))) = true := by kernel_rfl
theorem FirstOver_c21 : ((Rows.fnExactFirstOverRow.loopsOut == Try.f8.resultTypes.toList.any (Try.prog.loopsFrom ·))) = true := by kernel_rfl
theorem FirstOver_c23 : (Rows.fnExactFirstOverRow.shortTexts.isNone) = true := by kernel_rfl
theorem FirstOver_c28 : ((Rows.fnExactFirstOverRow.kinds == (if Rows.fnExactFirstOverRow.domain.isEmpty then [] else Try.f8.params.toList.map fun t => match Try.prog.underlying t with | some (.int k) => some k | _ => none))) = true := by kernel_rfl
theorem FirstOver_c29 : ((Rows.fnExactFirstOverRow.pinned == Rows.fnExactFirstOverRow.pinnedBy)) = true := by kernel_rfl
theorem FirstOver_c30 : ((Rows.fnExactFirstOverRow.veiled == (Try.f8.params.toList ++ Rows.fnExactFirstOverSpec.plain.varTypes Try.prog ++ Try.f8.resultTypes.toList).any (Try.prog.veiledRec ·))) = true := by kernel_rfl
theorem FirstOver_c31 : (Rows.fnExactFirstOverRow.veiledFits Try.prog Try.f8.params.toList (Try.f8.params.toList ++ Rows.fnExactFirstOverSpec.plain.varTypes Try.prog ++ Try.f8.resultTypes.toList)) = true := by kernel_rfl
theorem FirstOver_closed : joinedFacts Try.prog 8 Try.f8 Rows.fnExactFirstOverSpec Rows.fnExactFirstOverRow = true := by
  unfold joinedFacts
  exact (and_t (and_t (and_t (and_t (and_t (and_t (and_t (and_t (and_t (and_t (and_t (and_t (and_t (and_t (and_t (and_t (and_t (and_t (and_t (and_t (and_t (and_t (and_t (and_t (and_t (and_t (and_t (and_t (and_t (and_t (and_t FirstOver_c0 envLaid) fb_maps) FirstOver_c3) FirstOver_c4) FirstOver_c5) fb_stops) FirstOver_c7) fb_knobs) FirstOver_c9) FirstOver_c10) FirstOver_c11) FirstOver_c12) FirstOver_c13) FirstOver_c14) FirstOver_c15) FirstOver_c16) FirstOver_c17) FirstOver_c18) FirstOver_c19) FirstOver_c20) FirstOver_c21) fb_keys) FirstOver_c23) fb_heard) fb_enter) fb_lift) fb_make) FirstOver_c28) FirstOver_c29) FirstOver_c30) FirstOver_c31)
theorem FirstOver_holds : Rows.FnExactFirstOverSaid :=
  OpenClaim.holds_of_wide 8 Try.f8 rfl rfl rfl rfl rfl rfl rfl ⟨rfl, rfl, rfl, rfl, rfl⟩ rfl rfl rfl rfl rfl (by kernel_rfl) Try.func8 FirstOver_closed
    (of_decide_eq_true (by kernel_rfl)) (by unfold Func.isWrapper; first | (rw [if_pos (by decide +kernel)]; kernel_rfl) | (rw [if_neg (by decide +kernel)]; exact ⟨rfl, rfl⟩))
    (fun os started H enc _ => FirstOver_lifted os started H enc)
end Go.Proofs.Ytdhcfdiggcgmhaa
