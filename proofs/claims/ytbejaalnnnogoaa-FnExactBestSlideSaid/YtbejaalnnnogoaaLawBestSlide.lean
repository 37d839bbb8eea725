/- FnExactBestSlide: for all arguments the law returns true, and its arguments read as they did. -/
import Derived.Test.YtbejaalnnnogoaaRows
import Derived.WalkKit
import Derived.ProofKit
import Derived.Test.YtbejaalnnnogoaaEnvB
import Derived.Test.YtbejaalnnnogoaaWkBestSlidex1
import Derived.Test.YtbejaalnnnogoaaPg14
namespace Go.Proofs.Ytbejaalnnnogoaa
open Go Go.RowKit Go.ChangeShapes Go.WideShapes Go.ChangeAt
set_option linter.unusedVariables false
set_option linter.unusedSimpArgs false
theorem BestSlide_own : ownKnob Try.prog.godebug = Option.none := by kernel_rfl
theorem BestSlide_laid : laidOutB Try.prog = true := envLaid
theorem BestSlide_sem : ∀ vs, inArgs [(true, [.int .u8, .sl true [.int .i16, .int .i16]])] vs → ∃ k, sem E k 6 vs = some (.bool true) := by
  intro vs h
  obtain ⟨v1, r2, rfl, h3, h⟩ := h
  obtain ⟨l4, rfl, h5⟩ := h3
  try simp only [inL] at h5
  obtain ⟨x6, l7, e, h8, h9⟩ := h5
  subst e
  simp only [inP] at h8
  obtain ⟨c10, rfl, w11⟩ := h8
  try simp only [inL] at h9
  obtain ⟨x12, l13, e, h14, h15⟩ := h9
  subst e
  simp only [inP] at h14
  obtain ⟨c16, rfl, w17⟩ := h14
  try simp only [inL] at h15
  try subst h15
  have h := show _ = _ from h; subst h
  obtain ⟨n, hn⟩ := ev_run (law_FnExactBestSlide w11 w17)
  exact ⟨_, w_laws_FnExactBestSlide hn _ (Nat.le_refl _)⟩
set_option maxRecDepth 100000 in
theorem BestSlide_lifted (os : Os) (started : os.Started) (H : Type) (enc : TypeId × Value → H) :
    ReturnsInHanded {} Try.checked os 6 .any (Rows.fnExactBestSlideSpec.pre6 enc Try.prog Try.f6 Rows.fnExactBestSlideRow.domain false) (Rows.fnExactBestSlideSpec.post enc Try.prog Try.f6 false true false false) := by
  refine returnsInHanded_of_change (C := Try.checked) BestSlide_own started (by kernel_rfl) Try.func6
    (ChangeSpec.witness6 (enc := enc) (C := Try.checked) false ⟨#[], #[.agg #[.int .u8 0, .slice none 0 0]], []⟩ 8 (by kernel_rfl) (by kernel_rfl) (by kernel_rfl) (by kernel_rfl)) ?_
  intro W base args ds gs before hval0 hW hcnd _
  have hval : ∀ (j : Nat) t v, Try.f6.params[j]? = some t → args[j]? = some v → Value.okWide Try.prog W .any base t v := hval0
  refine law_calls (g := 8) (shs := [(true, [.int .u8, .sl true [.int .i16, .int .i16]])]) (tb := 4) envOk BestSlide_laid rfl ?_ (by kernel_rfl) (by kernel_rfl) (by kernel_rfl) (by kernel_rfl) rfl BestSlide_sem hval hW
  intro ds hds
  rw [Try.params6] at hds
  match ds, hds with
  | [d0], _ => rfl
set_option maxRecDepth 100000
theorem BestSlide_c0 : (Rows.fnExactBestSlideRow.wf (OpenSpec.ofChange Rows.fnExactBestSlideSpec)) = true := by kernel_rfl
theorem BestSlide_c3 : (Try.f6.params.all (Try.prog.readableRec ·)) = true := by kernel_rfl
theorem BestSlide_c4 : (namedTie Try.prog Rows.fnExactBestSlideRow.named Rows.fnExactBestSlideSpec.vars) = true := by kernel_rfl
theorem BestSlide_c5 : ((Rows.fnExactBestSlideRow.stops == [])) = true := by kernel_rfl
theorem BestSlide_c7 : ((Rows.fnExactBestSlideRow.knobs == [])) = true := by kernel_rfl
theorem BestSlide_c9 : ((Rows.fnExactBestSlideRow.inPlace == Try.prog.inPlace 6)) = true := by kernel_rfl
theorem BestSlide_c10 : ((Rows.fnExactBestSlideRow.unfollowed == Try.prog.unfollowed 6)) = true := by kernel_rfl
theorem BestSlide_c11 : ((Rows.fnExactBestSlideRow.recurses == Try.prog.recurses 6)) = true := by kernel_rfl
theorem BestSlide_c12 : ((Rows.fnExactBestSlideRow.named == Try.prog.varsNamed 6)) = true := by kernel_rfl
theorem BestSlide_c13 : ((Rows.fnExactBestSlideRow.maps == (Try.f6.params.toList ++ Rows.fnExactBestSlideSpec.plain.varTypes Try.prog).any (Try.prog.mapsRec ·))) = true := by kernel_rfl
theorem BestSlide_c14 : ((Rows.fnExactBestSlideRow.ifaces == (Try.f6.params.toList ++ Rows.fnExactBestSlideSpec.plain.varTypes Try.prog).any (Try.prog.ifacesRec ·))) = true := by kernel_rfl
theorem BestSlide_c15 : ((Rows.fnExactBestSlideRow.mapsOut == Try.prog.mapsAmong Try.f6.resultTypes.toList)) = true := by kernel_rfl
theorem BestSlide_c16 : ((Rows.fnExactBestSlideRow.loops == (Try.f6.params.toList ++ Rows.fnExactBestSlideSpec.plain.varTypes Try.prog).any (Try.prog.loopsFrom ·))) = true := by kernel_rfl
theorem BestSlide_c17 : ((Rows.fnExactBestSlideRow.wideKeys == (Try.f6.params.toList ++ Rows.fnExactBestSlideSpec.plain.varTypes Try.prog ++ Try.f6.resultTypes.toList).any (Try.prog.wideKeysFrom ·))) = true := by kernel_rfl
theorem BestSlide_c18 : (Rows.fnExactBestSlideSpec.vars.all (Try.prog.varReadable ·)) = true := by kernel_rfl
theorem BestSlide_c19 : (Try.f6.resultTypes.all (fun t => Try.prog.readableRec t && decide (t < Try.prog.types.size))) = true := by kernel_rfl
theorem BestSlide_c20 : ((Rows.fnExactBestSlideRow.ifacesOut == Try.f6.resultTypes.toList.any (Try.prog.ifacesRec ·))) = true := by kernel_rfl
theorem BestSlide_c21 : ((Rows.fnExactBestSlideRow.loopsOut == Try.f6.resultTypes.toList.any (Try.prog.loopsFrom ·))) = true := by kernel_rfl
theorem BestSlide_c23 : (Rows.fnExactBestSlideRow.shortTexts.isNone) = true := by kernel_rfl
theorem BestSlide_c28 : ((Rows.fnExactBestSlideRow.kinds == (if Rows.fnExactBestSlideRow.domain.isEmpty then [] else Try.f6.params.toList.map fun t => match Try.prog.underlying t with | some (.int k) => some k | _ => none))) = true := by kernel_rfl
theorem BestSlide_c29 : ((Rows.fnExactBestSlideRow.pinned == Rows.fnExactBestSlideRow.pinnedBy)) = true := by kernel_rfl
theorem BestSlide_c30 : ((Rows.fnExactBestSlideRow.veiled == (Try.f6.params.toList ++ Rows.fnExactBestSlideSpec.plain.varTypes Try.prog ++ Try.f6.resultTypes.toList).any (Try.prog.veiledRec ·))) = true := by kernel_rfl
theorem BestSlide_c31 : (Rows.fnExactBestSlideRow.veiledFits Try.prog Try.f6.params.toList (Try.f6.params.toList ++ Rows.fnExactBestSlideSpec.plain.varTypes Try.prog ++ Try.f6.resultTypes.toList)) = true := by kernel_rfl
theorem BestSlide_closed : joinedFacts Try.prog 6 Try.f6 Rows.fnExactBestSlideSpec Rows.fnExactBestSlideRow = true := by
  unfold joinedFacts
  exact (and_t (and_t (and_t (and_t (and_t (and_t (and_t (and_t (and_t (and_t (and_t (and_t (and_t (and_t (and_t (and_t (and_t (and_t (and_t (and_t (and_t (and_t (and_t (and_t (and_t (and_t (and_t (and_t (and_t (and_t (and_t BestSlide_c0 envLaid) fb_maps) BestSlide_c3) BestSlide_c4) BestSlide_c5) fb_stops) BestSlide_c7) fb_knobs) BestSlide_c9) BestSlide_c10) BestSlide_c11) BestSlide_c12) BestSlide_c13) BestSlide_c14) BestSlide_c15) BestSlide_c16) BestSlide_c17) BestSlide_c18) BestSlide_c19) BestSlide_c20) BestSlide_c21) fb_keys) BestSlide_c23) fb_heard) fb_enter) fb_lift) fb_make) BestSlide_c28) BestSlide_c29) BestSlide_c30) BestSlide_c31)
theorem BestSlide_holds : Rows.FnExactBestSlideSaid :=
  OpenClaim.holds_of_wide 6 Try.f6 rfl rfl rfl rfl rfl rfl rfl ⟨rfl, rfl, rfl, rfl, rfl⟩ rfl rfl rfl rfl rfl (by kernel_rfl) Try.func6 BestSlide_closed
    (of_decide_eq_true (by kernel_rfl)) (by unfold Func.isWrapper; first | (rw [if_pos (by decide +kernel)]; kernel_rfl) | (rw [if_neg (by decide +kernel)]; exact ⟨rfl, rfl⟩))
    (fun os started H enc _ => BestSlide_lifted os started H enc)
end Go.Proofs.Ytbejaalnnnogoaa
