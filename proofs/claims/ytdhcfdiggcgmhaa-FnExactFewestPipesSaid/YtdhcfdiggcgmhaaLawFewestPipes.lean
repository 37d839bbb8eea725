/- FnExactFewestPipes: for all arguments the law returns true, and its arguments read as they did. -/
import Derived.Test.YtdhcfdiggcgmhaaRows
import Derived.WalkKit
import Derived.ProofKit
import Derived.Test.YtdhcfdiggcgmhaaEnvB
import Derived.Test.YtdhcfdiggcgmhaaWkFewestPipes
import Derived.Test.YtdhcfdiggcgmhaaPe2
namespace Go.Proofs.Ytdhcfdiggcgmhaa
open Go Go.RowKit Go.ChangeShapes Go.WideShapes Go.ChangeAt
set_option linter.unusedVariables false
set_option linter.unusedSimpArgs false
theorem FewestPipes_own : ownKnob Try.prog.godebug = Option.none := by kernel_rfl
theorem FewestPipes_laid : laidOutB Try.prog = true := envLaid
theorem FewestPipes_sem : ∀ vs, inArgs [(true, [.int .i8, .int .i16, .ints .i8 17, .int .u32, .sl true [.int .i8, .int .i16]])] vs → ∃ k, sem E k 6 vs = some (.bool true) := by
  intro vs h
  obtain ⟨v1, r2, rfl, h3, h⟩ := h
  obtain ⟨l4, rfl, h5⟩ := h3
  try simp only [inL] at h5
  obtain ⟨x6, l7, e, h8, h9⟩ := h5
  subst e
  simp only [inP] at h8
  obtain ⟨c10, rfl, w11⟩ := h8
  try simp only [inL] at h9
  obtain ⟨x12, l13, e, h14, h15⟩ := h9
  subst e
  simp only [inP] at h14
  obtain ⟨c16, rfl, w17⟩ := h14
  try simp only [inL] at h15
  obtain ⟨x18, l19, e, h20, h21⟩ := h15
  subst e
  simp only [inP] at h20
  obtain ⟨c22, rfl, w23⟩ := h20
  try simp only [inL] at h21
  obtain ⟨x24, l25, e, h26, h27⟩ := h21
  subst e
  simp only [inP] at h26
  obtain ⟨c28, rfl, w29⟩ := h26
  try simp only [inL] at h27
  obtain ⟨x30, l31, e, h32, h33⟩ := h27
  subst e
  simp only [inP] at h32
  obtain ⟨c34, rfl, w35⟩ := h32
  try simp only [inL] at h33
  try subst h33
  have h := show _ = _ from h; subst h
  obtain ⟨n, hn⟩ := ev_run (law_FnExactFewestPipes w11 w17 w23 w29 w35)
  exact ⟨_, w_laws_FnExactFewestPipes hn _ (Nat.le_refl _)⟩
set_option maxRecDepth 100000 in
theorem FewestPipes_lifted (os : Os) (started : os.Started) (H : Type) (enc : TypeId × Value → H) :
    ReturnsInHanded {} Try.checked os 6 .any (Rows.fnExactFewestPipesSpec.pre6 enc Try.prog Try.f6 Rows.fnExactFewestPipesRow.domain false) (Rows.fnExactFewestPipesSpec.post enc Try.prog Try.f6 false true false false) := by
  refine returnsInHanded_of_change (C := Try.checked) FewestPipes_own started (by kernel_rfl) Try.func6
    (ChangeSpec.witness6 (enc := enc) (C := Try.checked) false ⟨#[], #[.agg #[.int .i8 0, .int .i16 0, .int .i8 0, .int .i8 0, .int .i8 0, .int .i8 0, .int .i8 0, .int .i8 0, .int .i8 0, .int .i8 0, .int .i8 0, .int .i8 0, .int .i8 0, .int .i8 0, .int .i8 0, .int .i8 0, .int .i8 0, .int .i8 0, .int .i8 0, .int .u32 0, .slice none 0 0]], []⟩ 8 (by kernel_rfl) (by kernel_rfl) (by kernel_rfl) (by kernel_rfl)) ?_
  intro W base args ds gs before hval0 hW hcnd _
  have hval : ∀ (j : Nat) t v, Try.f6.params[j]? = some t → args[j]? = some v → Value.okWide Try.prog W .any base t v := hval0
  refine law_calls (g := 8) (shs := [(true, [.int .i8, .int .i16, .ints .i8 17, .int .u32, .sl true [.int .i8, .int .i16]])]) (tb := 4) envOk FewestPipes_laid rfl ?_ (by kernel_rfl) (by kernel_rfl) (by kernel_rfl) (by kernel_rfl) rfl FewestPipes_sem hval hW
  intro ds hds
  rw [Try.params6] at hds
  match ds, hds with
  | [d0], _ => rfl
set_option maxRecDepth 100000
theorem FewestPipes_c0 : (Rows.fnExactFewestPipesRow.wf (OpenSpec.ofChange Rows.fnExactFewestPipesSpec)) = true := by kernel_rfl
theorem FewestPipes_c3 : (Try.f6.params.all (Try.prog.readableRec ·)) = true := by kernel_rfl
theorem FewestPipes_c4 : (namedTie Try.prog Rows.fnExactFewestPipesRow.named Rows.fnExactFewestPipesSpec.vars) = true := by kernel_rfl
theorem FewestPipes_c5 : ((Rows.fnExactFewestPipesRow.stops == [])) = true := by kernel_rfl
theorem FewestPipes_c7 : ((Rows.fnExactFewestPipesRow.knobs == [])) = true := by kernel_rfl
theorem FewestPipes_c9 : ((Rows.fnExactFewestPipesRow.inPlace == Try.prog.inPlace 6)) = true := by kernel_rfl
theorem FewestPipes_c10 : ((Rows.fnExactFewestPipesRow.unfollowed == Try.prog.unfollowed 6)) = true := by kernel_rfl
theorem FewestPipes_c11 : ((Rows.fnExactFewestPipesRow.recurses == Try.prog.recurses 6)) = true := by kernel_rfl
theorem FewestPipes_c12 : ((Rows.fnExactFewestPipesRow.named == Try.prog.varsNamed 6)) = true := by kernel_rfl
theorem FewestPipes_c13 : ((Rows.fnExactFewestPipesRow.maps == (Try.f6.params.toList ++ Rows.fnExactFewestPipesSpec.plain.varTypes Try.prog).any (Try.prog.mapsRec ·))) = true := by kernel_rfl
theorem FewestPipes_c14 : ((Rows.fnExactFewestPipesRow.ifaces == (Try.f6.params.toList ++ Rows.fnExactFewestPipesSpec.plain.varTypes Try.prog).any (Try.prog.ifacesRec ·))) = true := by kernel_rfl
theorem FewestPipes_c15 : ((Rows.fnExactFewestPipesRow.mapsOut == Try.prog.mapsAmong Try.f6.resultTypes.toList)) = true := by kernel_rfl
theorem FewestPipes_c16 : ((Rows.fnExactFewestPipesRow.loops == (Try.f6.params.toList ++ Rows.fnExactFewestPipesSpec.plain.varTypes Try.prog).any (Try.prog.loopsFrom ·))) = true := by kernel_rfl
theorem FewestPipes_c17 : ((Rows.fnExactFewestPipesRow.wideKeys == (Try.f6.params.toList ++ Rows.fnExactFewestPipesSpec.plain.varTypes Try.prog ++ Try.f6.resultTypes.toList).any (Try.prog.wideKeysFrom ·))) = true := by kernel_rfl
theorem FewestPipes_c18 : (Rows.fnExactFewestPipesSpec.vars.all (Try.prog.varReadable ·)) = true := by kernel_rfl
theorem FewestPipes_c19 : (Try.f6.resultTypes.all (fun t => Try.prog.readableRec t && decide (t < Try.prog.types.size))) = true := by kernel_rfl
theorem FewestPipes_c20 : ((Rows.fnExactFewestPipesRow.ifacesOut == Try.f6.resultTypes.toList.any (Try.prog.ifacesRec ·))) = true := by kernel_rfl
theorem FewestPipes_c21 : ((Rows.fnExactFewestPipesRow.loopsOut == Try.f6.resultTypes.toList.any (Try.prog.loopsFrom ·))) = true := by kernel_rfl
theorem FewestPipes_c23 : (Rows.fnExactFewestPipesRow.shortTexts.isNone) = true := by kernel_rfl
theorem FewestPipes_c28 : ((Rows.fnExactFewestPipesRow.kinds == (if Rows.fnExactFewestPipesRow.domain.isEmpty then [] else Try.f6.params.toList.map fun t => match Try.prog.underlying t with | some (.int k) => some k | _ => none))) = true := by kernel_rfl
theorem FewestPipes_c29 : ((Rows.fnExactFewestPipesRow.pinned == Rows.fnExactFewestPipesRow.pinnedBy)) = true := by kernel_rfl
theorem FewestPipes_c30 : ((Rows.fnExactFewestPipesRow.veiled == (Try.f6.params.toList ++ Rows.fnExactFewestPipesSpec.plain.varTypes Try.prog ++ Try.f6.resultTypes.toList).any (Try.prog.veiledRec ·))) = true := by kernel_rfl
theorem FewestPipes_c31 : (Rows.fnExactFewestPipesRow.veiledFits Try.prog Try.f6.params.toList (Try.f6.params.toList ++ Rows.fnExactFewestPipesSpec.plain.varTypes Try.prog ++ Try.f6.resultTypes.toList)) = true := by kernel_rfl
theorem FewestPipes_closed : joinedFacts Try.prog 6 Try.f6 Rows.fnExactFewestPipesSpec Rows.fnExactFewestPipesRow = true := by
  unfold joinedFacts
  exact (and_t (and_t (and_t (and_t (and_t (and_t (and_t (and_t (and_t (and_t (and_t (and_t (and_t (and_t (and_t (and_t (and_t (and_t (and_t (and_t (and_t (and_t (and_t (and_t (and_t (and_t (and_t (and_t (and_t (and_t (and_t FewestPipes_c0 envLaid) fb_maps) FewestPipes_c3) FewestPipes_c4) FewestPipes_c5) fb_stops) FewestPipes_c7) fb_knobs) FewestPipes_c9) FewestPipes_c10) FewestPipes_c11) FewestPipes_c12) FewestPipes_c13) FewestPipes_c14) FewestPipes_c15) FewestPipes_c16) FewestPipes_c17) FewestPipes_c18) FewestPipes_c19) FewestPipes_c20) FewestPipes_c21) fb_keys) FewestPipes_c23) fb_heard) fb_enter) fb_lift) fb_make) FewestPipes_c28) FewestPipes_c29) FewestPipes_c30) FewestPipes_c31)
theorem FewestPipes_holds : Rows.FnExactFewestPipesSaid :=
  OpenClaim.holds_of_wide 6 Try.f6 rfl rfl rfl rfl rfl rfl rfl ⟨rfl, rfl, rfl, rfl, rfl⟩ rfl rfl rfl rfl rfl (by kernel_rfl) Try.func6 FewestPipes_closed
    (of_decide_eq_true (by kernel_rfl)) (by unfold Func.isWrapper; first | (rw [if_pos (by decide +kernel)]; kernel_rfl) | (rw [if_neg (by decide +kernel)]; exact ⟨rfl, rfl⟩))
    (fun os started H enc _ => FewestPipes_lifted os started H enc)
end Go.Proofs.Ytdhcfdiggcgmhaa
