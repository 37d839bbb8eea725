/- FnExactWasteOf: for all arguments the law returns true, and its arguments read as they did. -/
import Derived.Test.YtbejaalnnnogoaaRows
import Derived.WalkKit
import Derived.ProofKit
import Derived.Test.YtbejaalnnnogoaaEnvB
import Derived.Test.YtbejaalnnnogoaaWkWasteOfx1
import Derived.Test.YtbejaalnnnogoaaPg13
namespace Go.Proofs.Ytbejaalnnnogoaa
open Go Go.RowKit Go.ChangeShapes Go.WideShapes Go.ChangeAt
set_option linter.unusedVariables false
set_option linter.unusedSimpArgs false
theorem WasteOf_own : ownKnob Try.prog.godebug = Option.none := by kernel_rfl
theorem WasteOf_laid : laidOutB Try.prog = true := envLaid
theorem WasteOf_sem : ∀ vs, inArgs [(true, [.int .u8, .sl true [.int .i16, .int .i16]])] vs → ∃ k, sem E k 5 vs = some (.bool true) := by
  intro vs h
  obtain ⟨v1, r2, rfl, h3, h⟩ := h
  obtain ⟨l4, rfl, h5⟩ := h3
  try simp only [inL] at h5
  obtain ⟨x6, l7, e, h8, h9⟩ := h5
  subst e
  simp only [inP] at h8
  obtain ⟨c10, rfl, w11⟩ := h8
  try simp only [inL] at h9
  obtain ⟨x12, l13, e, h14, h15⟩ := h9
  subst e
  simp only [inP] at h14
  obtain ⟨c16, rfl, w17⟩ := h14
  try simp only [inL] at h15
  try subst h15
  have h := show _ = _ from h; subst h
  obtain ⟨n, hn⟩ := ev_run (law_FnExactWasteOf w11 w17)
  exact ⟨_, w_laws_FnExactWasteOf hn _ (Nat.le_refl _)⟩
set_option maxRecDepth 100000 in
theorem WasteOf_lifted (os : Os) (started : os.Started) (H : Type) (enc : TypeId × Value → H) :
    ReturnsInHanded {} Try.checked os 5 .any (Rows.fnExactWasteOfSpec.pre6 enc Try.prog Try.f5 Rows.fnExactWasteOfRow.domain false) (Rows.fnExactWasteOfSpec.post enc Try.prog Try.f5 false true false false) := by
  refine returnsInHanded_of_change (C := Try.checked) WasteOf_own started (by kernel_rfl) Try.func5
    (ChangeSpec.witness6 (enc := enc) (C := Try.checked) false ⟨#[], #[.agg #[.int .u8 0, .slice none 0 0]], []⟩ 8 (by kernel_rfl) (by kernel_rfl) (by kernel_rfl) (by kernel_rfl)) ?_
  intro W base args ds gs before hval0 hW hcnd _
  have hval : ∀ (j : Nat) t v, Try.f5.params[j]? = some t → args[j]? = some v → Value.okWide Try.prog W .any base t v := hval0
  refine law_calls (g := 8) (shs := [(true, [.int .u8, .sl true [.int .i16, .int .i16]])]) (tb := 4) envOk WasteOf_laid rfl ?_ (by kernel_rfl) (by kernel_rfl) (by kernel_rfl) (by kernel_rfl) rfl WasteOf_sem hval hW
  intro ds hds
  rw [Try.params5] at hds
  match ds, hds with
  | [d0], _ => rfl
set_option maxRecDepth 100000
theorem WasteOf_c0 : (Rows.fnExactWasteOfRow.wf (OpenSpec.ofChange Rows.fnExactWasteOfSpec)) = true := by kernel_rfl
theorem WasteOf_c3 : (Try.f5.params.all (Try.prog.readableRec ·)) = true := by kernel_rfl
theorem WasteOf_c4 : (namedTie Try.prog Rows.fnExactWasteOfRow.named Rows.fnExactWasteOfSpec.vars) = true := by kernel_rfl
theorem WasteOf_c5 : ((Rows.fnExactWasteOfRow.stops == [])) = true := by kernel_rfl
theorem WasteOf_c7 : ((Rows.fnExactWasteOfRow.knobs == [])) = true := by kernel_rfl
theorem WasteOf_c9 : ((Rows.fnExactWasteOfRow.inPlace == Try.prog.inPlace 5)) = true := by kernel_rfl
theorem WasteOf_c10 : ((Rows.fnExactWasteOfRow.unfollowed == Try.prog.unfollowed 5)) = true := by kernel_rfl
theorem WasteOf_c11 : ((Rows.fnExactWasteOfRow.recurses == Try.prog.recurses 5)) = true := by kernel_rfl
theorem WasteOf_c12 : ((Rows.fnExactWasteOfRow.named == Try.prog.varsNamed 5)) = true := by kernel_rfl
theorem WasteOf_c13 : ((Rows.fnExactWasteOfRow.maps == (Try.f5.params.toList ++ Rows.fnExactWasteOfSpec.plain.varTypes Try.prog).any (Try.prog.mapsRec ·))) = true := by kernel_rfl
theorem WasteOf_c14 : ((Rows.fnExactWasteOfRow.ifaces == (Try.f5.params.toList ++ Rows.fnExactWasteOfSpec.plain.varTypes Try.prog).any (Try.prog.ifacesRec ·))) = true := by kernel_rfl
theorem WasteOf_c15 : ((Rows.fnExactWasteOfRow.mapsOut == Try.prog.mapsAmong Try.f5.resultTypes.toList)) = true := by kernel_rfl
theorem WasteOf_c16 : ((Rows.fnExactWasteOfRow.loops == (Try.f5.params.toList ++ Rows.fnExactWasteOfSpec.plain.varTypes Try.prog).any (Try.prog.loopsFrom ·))) = true := by kernel_rfl
theorem WasteOf_c17 : ((Rows.fnExactWasteOfRow.wideKeys == (Try.f5.params.toList ++ Rows.fnExactWasteOfSpec.plain.varTypes Try.prog ++ Try.f5.resultTypes.toList).any (Try.prog.wideKeysFrom ·))) = true := by kernel_rfl
theorem WasteOf_c18 : (Rows.fnExactWasteOfSpec.vars.all (Try.prog.varReadable ·)) = true := by kernel_rfl
theorem WasteOf_c19 : (Try.f5.resultTypes.all (fun t => Try.prog.readableRec t && decide (t < Try.prog.types.size))) = true := by kernel_rfl
theorem WasteOf_c20 : ((Rows.fnExactWasteOfRow.ifacesOut == Try.f5.resultTypes.toList.any (Try.prog.ifacesRec ·))) = true := by kernel_rfl
theorem WasteOf_c21 : ((Rows.fnExactWasteOfRow.loopsOut == Try.f5.resultTypes.toList.any (Try.prog.loopsFrom ·))) = true := by kernel_rfl
theorem WasteOf_c23 : (Rows.fnExactWasteOfRow.shortTexts.isNone) = true := by kernel_rfl
theorem WasteOf_c28 : ((Rows.fnExactWasteOfRow.kinds == (if Rows.fnExactWasteOfRow.domain.isEmpty then [] else Try.f5.params.toList.map fun t => match Try.prog.underlying t with | some (.int k) => some k | _ => none))) = true := by kernel_rfl
theorem WasteOf_c29 : ((Rows.fnExactWasteOfRow.pinned == Rows.fnExactWasteOfRow.pinnedBy)) = true := by kernel_rfl
theorem WasteOf_c30 : ((Rows.fnExactWasteOfRow.veiled == (Try.f5.params.toList ++ Rows.fnExactWasteOfSpec.plain.varTypes Try.prog ++ Try.f5.resultTypes.toList).any (Try.prog.veiledRec ·))) = true := by kernel_rfl
theorem WasteOf_c31 : (Rows.fnExactWasteOfRow.veiledFits Try.prog Try.f5.params.toList (Try.f5.params.toList ++ Rows.fnExactWasteOfSpec.plain.varTypes Try.prog ++ Try.f5.resultTypes.toList)) = true := by kernel_rfl
theorem WasteOf_closed : joinedFacts Try.prog 5 Try.f5 Rows.fnExactWasteOfSpec Rows.fnExactWasteOfRow = true := by
  unfold joinedFacts
  exact (and_t (and_t (and_t (and_t (and_t (and_t (and_t (and_t (and_t (and_t (and_t (and_t (and_t (and_t (and_t (and_t (and_t (and_t (and_t (and_t (and_t (and_t (and_t (and_t (and_t (and_t (and_t (and_t (and_t (and_t (and_t WasteOf_c0 envLaid) fb_maps) WasteOf_c3) WasteOf_c4) WasteOf_c5) fb_stops) WasteOf_c7) fb_knobs) WasteOf_c9) WasteOf_c10) WasteOf_c11) WasteOf_c12) WasteOf_c13) WasteOf_c14) WasteOf_c15) WasteOf_c16) WasteOf_c17) WasteOf_c18) WasteOf_c19) WasteOf_c20) WasteOf_c21) fb_keys) WasteOf_c23) fb_heard) fb_enter) fb_lift) fb_make) WasteOf_c28) WasteOf_c29) WasteOf_c30) WasteOf_c31)
theorem WasteOf_holds : Rows.FnExactWasteOfSaid :=
  OpenClaim.holds_of_wide 5 Try.f5 rfl rfl rfl rfl rfl rfl rfl ⟨rfl, rfl, rfl, rfl, rfl⟩ rfl rfl rfl rfl rfl (by kernel_rfl) Try.func5 WasteOf_closed
    (of_decide_eq_true (by kernel_rfl)) (by unfold Func.isWrapper; first | (rw [if_pos (by decide +kernel)]; kernel_rfl) | (rw [if_neg (by decide +kernel)]; exact ⟨rfl, rfl⟩))
    (fun os started H enc _ => WasteOf_lifted os started H enc)
end Go.Proofs.Ytbejaalnnnogoaa
