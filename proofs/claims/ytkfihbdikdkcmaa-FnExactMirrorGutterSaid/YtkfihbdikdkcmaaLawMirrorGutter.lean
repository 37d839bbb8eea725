/- FnExactMirrorGutter: for all arguments the law returns true, and its arguments read as they did. -/
import Derived.Test.YtkfihbdikdkcmaaRows
import Derived.WalkKit
import Derived.ProofKit
import Derived.Test.YtkfihbdikdkcmaaEnvB
import Derived.Test.YtkfihbdikdkcmaaWkMirrorGutter
import Derived.Test.YtkfihbdikdkcmaaPy1
namespace Go.Proofs.Ytkfihbdikdkcmaa
open Go Go.RowKit Go.ChangeShapes Go.WideShapes Go.ChangeAt
set_option linter.unusedVariables false
set_option linter.unusedSimpArgs false
theorem MirrorGutter_own : ownKnob Try.prog.godebug = Option.none := by kernel_rfl
theorem MirrorGutter_laid : laidOutB Try.prog = true := envLaid
theorem MirrorGutter_sem : ∀ vs, inArgs [(true, [.int .i8, .int .i16, .ints .i8 17, .int .u32, .sl true [.int .i8, .int .i16]])] vs → ∃ k, sem E k 3 vs = some (.bool true) := by
  intro vs h
  obtain ⟨v1, r2, rfl, h3, h⟩ := h
  obtain ⟨l4, rfl, h5⟩ := h3
  try simp only [inL] at h5
  obtain ⟨x6, l7, e, h8, h9⟩ := h5
  subst e
  simp only [inP] at h8
  obtain ⟨c10, rfl, w11⟩ := h8
  try simp only [inL] at h9
  obtain ⟨x12, l13, e, h14, h15⟩ := h9
  subst e
  simp only [inP] at h14
  obtain ⟨c16, rfl, w17⟩ := h14
  try simp only [inL] at h15
  obtain ⟨x18, l19, e, h20, h21⟩ := h15
  subst e
  simp only [inP] at h20
  obtain ⟨c22, rfl, w23⟩ := h20
  try simp only [inL] at h21
  obtain ⟨x24, l25, e, h26, h27⟩ := h21
  subst e
  simp only [inP] at h26
  obtain ⟨c28, rfl, w29⟩ := h26
  try simp only [inL] at h27
  obtain ⟨x30, l31, e, h32, h33⟩ := h27
  subst e
  simp only [inP] at h32
  obtain ⟨c34, rfl, w35⟩ := h32
  try simp only [inL] at h33
  try subst h33
  have h := show _ = _ from h; subst h
  obtain ⟨n, hn⟩ := ev_run (law_FnExactMirrorGutter w11 w17 w23 w29 w35)
  exact ⟨_, w_laws_FnExactMirrorGutter hn _ (Nat.le_refl _)⟩
set_option maxRecDepth 100000 in
theorem MirrorGutter_lifted (os : Os) (started : os.Started) (H : Type) (enc : TypeId × Value → H) :
    ReturnsInHanded {} Try.checked os 3 .any (Rows.fnExactMirrorGutterSpec.pre6 enc Try.prog Try.f3 Rows.fnExactMirrorGutterRow.domain false) (Rows.fnExactMirrorGutterSpec.post enc Try.prog Try.f3 false true false false) := by
  refine returnsInHanded_of_change (C := Try.checked) MirrorGutter_own started (by kernel_rfl) Try.func3
    (ChangeSpec.witness6 (enc := enc) (C := Try.checked) false ⟨#[], #[.agg #[.int .i8 0, .int .i16 0, .int .i8 0, .int .i8 0, .int .i8 0, .int .i8 0, .int .i8 0, .int .i8 0, .int .i8 0, .int .i8 0, .int .i8 0, .int .i8 0, .int .i8 0, .int .i8 0, .int .i8 0, .int .i8 0, .int .i8 0, .int .i8 0, .int .i8 0, .int .u32 0, .slice none 0 0]], []⟩ 8 (by kernel_rfl) (by kernel_rfl) (by kernel_rfl) (by kernel_rfl)) ?_
  intro W base args ds gs before hval0 hW hcnd _
  have hval : ∀ (j : Nat) t v, Try.f3.params[j]? = some t → args[j]? = some v → Value.okWide Try.prog W .any base t v := hval0
  refine law_calls (g := 8) (shs := [(true, [.int .i8, .int .i16, .ints .i8 17, .int .u32, .sl true [.int .i8, .int .i16]])]) (tb := 4) envOk MirrorGutter_laid rfl ?_ (by kernel_rfl) (by kernel_rfl) (by kernel_rfl) (by kernel_rfl) rfl MirrorGutter_sem hval hW
  intro ds hds
  rw [Try.params3] at hds
  match ds, hds with
  | [d0], _ => rfl
set_option maxRecDepth 100000
theorem MirrorGutter_c0 : (Rows.fnExactMirrorGutterRow.wf (OpenSpec.ofChange Rows.fnExactMirrorGutterSpec)) = true := by kernel_rfl
theorem MirrorGutter_c3 : (Try.f3.params.all (Try.prog.readableRec ·)) = true := by kernel_rfl
theorem MirrorGutter_c4 : (namedTie Try.prog Rows.fnExactMirrorGutterRow.named Rows.fnExactMirrorGutterSpec.vars) = true := by kernel_rfl
theorem MirrorGutter_c5 : ((Rows.fnExactMirrorGutterRow.stops == [])) = true := by kernel_rfl
theorem MirrorGutter_c7 : ((Rows.fnExactMirrorGutterRow.knobs == [])) = true := by kernel_rfl
theorem MirrorGutter_c9 : ((Rows.fnExactMirrorGutterRow.inPlace == Try.prog.inPlace 3)) = true := by kernel_rfl
theorem MirrorGutter_c10 : ((Rows.fnExactMirrorGutterRow.unfollowed == Try.prog.unfollowed 3)) = true := by kernel_rfl
theorem MirrorGutter_c11 : ((Rows.fnExactMirrorGutterRow.recurses == Try.prog.recurses 3)) = true := by kernel_rfl
theorem MirrorGutter_c12 : ((Rows.fnExactMirrorGutterRow.named == Try.prog.varsNamed 3)) = true := by kernel_rfl
theorem MirrorGutter_c13 : ((Rows.fnExactMirrorGutterRow.maps == (Try.f3.params.toList ++ Rows.fnExactMirrorGutterSpec.plain.varTypes Try.prog).any (Try.prog.mapsRec ·))) = true := by kernel_rfl
theorem MirrorGutter_c14 : ((Rows.fnExactMirrorGutterRow.ifaces == (Try.f3.params.toList ++ Rows.fnExactMirrorGutterSpec.plain.varTypes Try.prog).any (Try.prog.ifacesRec ·))) = true := by kernel_rfl
theorem MirrorGutter_c15 : ((Rows.fnExactMirrorGutterRow.mapsOut == Try.prog.mapsAmong Try.f3.resultTypes.toList)) = true := by kernel_rfl
theorem MirrorGutter_c16 : ((Rows.fnExactMirrorGutterRow.loops == (Try.f3.params.toList ++ Rows.fnExactMirrorGutterSpec.plain.varTypes Try.prog).any (Try.prog.loopsFrom ·))) = true := by kernel_rfl
theorem MirrorGutter_c17 : ((Rows.fnExactMirrorGutterRow.wideKeys == (Try.f3.params.toList ++ Rows.fnExactMirrorGutterSpec.plain.varTypes Try.prog ++ Try.f3.resultTypes.toList).any (Try.prog.wideKeysFrom ·))) = true := by kernel_rfl
theorem MirrorGutter_c18 : (Rows.fnExactMirrorGutterSpec.vars.all (Try.prog.varReadable ·)) = true := by kernel_rfl
theorem MirrorGutter_c19 : (Try.f3.resultTypes.all (fun t => Try.prog.readableRec t && decide (t < Try.prog.types.size))) = true := by kernel_rfl
theorem MirrorGutter_c20 : ((Rows.fnExactMirrorGutterRow.ifacesOut == Try.f3.resultTypes.toList.any (Try.prog.ifacesRec ·))) = true := by kernel_rfl
theorem MirrorGutter_c21 : ((Rows.fnExactMirrorGutterRow.loopsOut == Try.f3.resultTypes.toList.any (Try.prog.loopsFrom ·))) = true := by kernel_rfl
theorem MirrorGutter_c23 : (Rows.fnExactMirrorGutterRow.shortTexts.isNone) = true := by kernel_rfl
theorem MirrorGutter_c28 : ((Rows.fnExactMirrorGutterRow.kinds == (if Rows.fnExactMirrorGutterRow.domain.isEmpty then [] else Try.f3.params.toList.map fun t => match Try.prog.underlying t with | some (.int k) => some k | _ => none))) = true := by kernel_rfl
theorem MirrorGutter_c29 : ((Rows.fnExactMirrorGutterRow.pinned == Rows.fnExactMirrorGutterRow.pinnedBy)) = true := by kernel_rfl
theorem MirrorGutter_c30 : ((Rows.fnExactMirrorGutterRow.veiled == (Try.f3.params.toList ++ Rows.fnExactMirrorGutterSpec.plain.varTypes Try.prog ++ Try.f3.resultTypes.toList).any (Try.prog.veiledRec ·))) = true := by kernel_rfl
theorem MirrorGutter_c31 : (Rows.fnExactMirrorGutterRow.veiledFits Try.prog Try.f3.params.toList (Try.f3.params.toList ++ Rows.fnExactMirrorGutterSpec.plain.varTypes Try.prog ++ Try.f3.resultTypes.toList)) = true := by kernel_rfl
theorem MirrorGutter_closed : joinedFacts Try.prog 3 Try.f3 Rows.fnExactMirrorGutterSpec Rows.fnExactMirrorGutterRow = true := by
  unfold joinedFacts
  exact (and_t (and_t (and_t (and_t (and_t (and_t (and_t (and_t (and_t (and_t (and_t (and_t (and_t (and_t (and_t (and_t (and_t (and_t (and_t (and_t (and_t (and_t (and_t (and_t (and_t (and_t (and_t (and_t (and_t (and_t (and_t MirrorGutter_c0 envLaid) fb_maps) MirrorGutter_c3) MirrorGutter_c4) MirrorGutter_c5) fb_stops) MirrorGutter_c7) fb_knobs) MirrorGutter_c9) MirrorGutter_c10) MirrorGutter_c11) MirrorGutter_c12) MirrorGutter_c13) MirrorGutter_c14) MirrorGutter_c15) MirrorGutter_c16) MirrorGutter_c17) MirrorGutter_c18) MirrorGutter_c19) MirrorGutter_c20) MirrorGutter_c21) fb_keys) MirrorGutter_c23) fb_heard) fb_enter) fb_lift) fb_make) MirrorGutter_c28) MirrorGutter_c29) MirrorGutter_c30) MirrorGutter_c31)
theorem MirrorGutter_holds : Rows.FnExactMirrorGutterSaid :=
  OpenClaim.holds_of_wide 3 Try.f3 rfl rfl rfl rfl rfl rfl rfl ⟨rfl, rfl, rfl, rfl, rfl⟩ rfl rfl rfl rfl rfl (by kernel_rfl) Try.func3 MirrorGutter_closed
    (of_decide_eq_true (by kernel_rfl)) (by unfold Func.isWrapper; first | (rw [if_pos (by decide +kernel)]; kernel_rfl) | (rw [if_neg (by decide +kernel)]; exact ⟨rfl, rfl⟩))
    (fun os started H enc _ => MirrorGutter_lifted os started H enc)
end Go.Proofs.Ytkfihbdikdkcmaa
