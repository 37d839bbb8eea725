/- FnExactSlopeTo: for all arguments the law returns true, and its arguments read as they did. -/
import Derived.Test.YtdhcfdiggcgmhaaRows
import Derived.WalkKit
import Derived.ProofKit
import Derived.Test.YtdhcfdiggcgmhaaEnvB
import Derived.Test.YtdhcfdiggcgmhaaWkSlopeTo
import Derived.Test.YtdhcfdiggcgmhaaPe5
namespace Go.Proofs.Ytdhcfdiggcgmhaa
open Go Go.RowKit Go.ChangeShapes Go.WideShapes Go.ChangeAt
set_option linter.unusedVariables false
set_option linter.unusedSimpArgs false
theorem SlopeTo_own : ownKnob Try.prog.godebug = Option.none := by kernel_rfl
theorem SlopeTo_laid : laidOutB Try.prog = true := envLaid
theorem SlopeTo_sem : ∀ vs, inArgs [(false, [.int .i64]), (false, [.int .i64]), (false, [.sl true [.int .i8, .int .i16]])] vs → ∃ k, sem E k 3 vs = some (.bool true) := by
  intro vs h
  obtain ⟨v1, r2, rfl, h3, h⟩ := h
  replace h3 := show inL _ [v1] from h3
  try simp only [inL] at h3
  obtain ⟨x4, l5, e, h6, h7⟩ := h3
  obtain ⟨rfl, rfl⟩ := List.cons.inj e; clear e
  simp only [inP] at h6
  obtain ⟨c8, rfl, w9⟩ := h6
  try simp only [inL] at h7
  try subst h7
  obtain ⟨v10, r11, rfl, h12, h⟩ := h
  replace h12 := show inL _ [v10] from h12
  try simp only [inL] at h12
  obtain ⟨x13, l14, e, h15, h16⟩ := h12
  obtain ⟨rfl, rfl⟩ := List.cons.inj e; clear e
  simp only [inP] at h15
  obtain ⟨c17, rfl, w18⟩ := h15
  try simp only [inL] at h16
  try subst h16
  obtain ⟨v19, r20, rfl, h21, h⟩ := h
  replace h21 := show inL _ [v19] from h21
  try simp only [inL] at h21
  obtain ⟨x22, l23, e, h24, h25⟩ := h21
  obtain ⟨rfl, rfl⟩ := List.cons.inj e; clear e
  simp only [inP] at h24
  obtain ⟨c26, rfl, w27⟩ := h24
  try simp only [inL] at h25
  try subst h25
  have h := show _ = _ from h; subst h
  obtain ⟨n, hn⟩ := ev_run (law_FnExactSlopeTo w9 w18 w27)
  exact ⟨_, w_laws_FnExactSlopeTo hn _ (Nat.le_refl _)⟩
set_option maxRecDepth 100000 in
theorem SlopeTo_lifted (os : Os) (started : os.Started) (H : Type) (enc : TypeId × Value → H) :
    ReturnsInHanded {} Try.checked os 3 .any (Rows.fnExactSlopeToSpec.pre6 enc Try.prog Try.f3 Rows.fnExactSlopeToRow.domain false) (Rows.fnExactSlopeToSpec.post enc Try.prog Try.f3 false true false false) := by
  refine returnsInHanded_of_change (C := Try.checked) SlopeTo_own started (by kernel_rfl) Try.func3
    (ChangeSpec.witness6 (enc := enc) (C := Try.checked) false ⟨#[], #[.int .i64 0, .int .i64 0, .slice none 0 0], []⟩ 8 (by kernel_rfl) (by kernel_rfl) (by kernel_rfl) (by kernel_rfl)) ?_
  intro W base args ds gs before hval0 hW hcnd _
  have hval : ∀ (j : Nat) t v, Try.f3.params[j]? = some t → args[j]? = some v → Value.okWide Try.prog W .any base t v := hval0
  refine law_calls (g := 8) (shs := [(false, [.int .i64]), (false, [.int .i64]), (false, [.sl true [.int .i8, .int .i16]])]) (tb := 4) envOk SlopeTo_laid rfl ?_ (by kernel_rfl) (by kernel_rfl) (by kernel_rfl) (by kernel_rfl) rfl SlopeTo_sem hval hW
  intro ds hds
  rw [Try.params3] at hds
  match ds, hds with
  | [d0, d1, d2], _ => rfl
set_option maxRecDepth 100000
theorem SlopeTo_c0 : (Rows.fnExactSlopeToRow.wf (OpenSpec.ofChange Rows.fnExactSlopeToSpec)) = true := by kernel_rfl
theorem SlopeTo_c3 : (Try.f3.params.all (Try.prog.readableRec ·)) = true := by kernel_rfl
theorem SlopeTo_c4 : (namedTie Try.prog Rows.fnExactSlopeToRow.named Rows.fnExactSlopeToSpec.vars) = true := by kernel_rfl
theorem SlopeTo_c5 : ((Rows.fnExactSlopeToRow.stops == [])) = true := by kernel_rfl
theorem SlopeTo_c7 : ((Rows.fnExactSlopeToRow.knobs == [])) = true := by kernel_rfl
theorem SlopeTo_c9 : ((Rows.fnExactSlopeToRow.inPlace == Try.prog.inPlace 3)) = true := by kernel_rfl
theorem SlopeTo_c10 : ((Rows.fnExactSlopeToRow.unfollowed == Try.prog.unfollowed 3)) = true := by kernel_rfl
theorem SlopeTo_c11 : ((Rows.fnExactSlopeToRow.recurses == Try.prog.recurses 3)) = true := by kernel_rfl
theorem SlopeTo_c12 : ((Rows.fnExactSlopeToRow.named == Try.prog.varsNamed 3)) = true := by kernel_rfl
theorem SlopeTo_c13 : ((Rows.fnExactSlopeToRow.maps == (Try.f3.params.toList ++ Rows.fnExactSlopeToSpec.plain.varTypes Try.prog).any (Try.prog.mapsRec ·))) = true := by kernel_rfl
theorem SlopeTo_c14 : ((Rows.fnExactSlopeToRow.ifaces == (Try.f3.params.toList ++ Rows.fnExactSlopeToSpec.plain.varTypes Try.prog).any (Try.prog.ifacesRec ·))) = true := by kernel_rfl
theorem SlopeTo_c15 : ((Rows.fnExactSlopeToRow.mapsOut == Try.prog.mapsAmong Try.f3.resultTypes.toList)) = true := by kernel_rfl
theorem SlopeTo_c16 : ((Rows.fnExactSlopeToRow.loops == (Try.f3.params.toList ++ Rows.fnExactSlopeToSpec.plain.varTypes Try.prog).any (Try.prog.loopsFrom ·))) = true := by kernel_rfl
theorem SlopeTo_c17 : ((Rows.fnExactSlopeToRow.wideKeys == (Try.f3.params.toList ++ Rows.fnExactSlopeToSpec.plain.varTypes Try.prog ++ Try.f3.resultTypes.toList).any (Try.prog.wideKeysFrom ·))) = true := by kernel_rfl
theorem SlopeTo_c18 : (Rows.fnExactSlopeToSpec.vars.all (Try.prog.varReadable ·)) = true := by kernel_rfl
theorem SlopeTo_c19 : (Try.f3.resultTypes.all (fun t => Try.prog.readableRec t && decide (t < Try.prog.types.size))) = true := by kernel_rfl
theorem SlopeTo_c20 : ((Rows.fnExactSlopeToRow.ifacesOut == Try.f3.resultTypes.toList.any (Try.prog.ifacesRec ·))) = true := by kernel_rfl
theorem SlopeTo_c21 : ((Rows.fnExactSlopeToRow.loopsOut == Try.f3.resultTypes.toList.any (Try.prog.loopsFrom ·))) = true := by kernel_rfl
theorem SlopeTo_c23 : (Rows.fnExactSlopeToRow.shortTexts.isNone) = true := by kernel_rfl
theorem SlopeTo_c28 : ((Rows.fnExactSlopeToRow.kinds == (if Rows.fnExactSlopeToRow.domain.isEmpty then [] else Try.f3.params.toList.map fun t => match Try.prog.underlying t with | some (.int k) => some k | _ => none))) = true := by kernel_rfl
theorem SlopeTo_c29 : ((Rows.fnExactSlopeToRow.pinned == Rows.fnExactSlopeToRow.pinnedBy)) = true := by kernel_rfl
theorem SlopeTo_c30 : ((Rows.fnExactSlopeToRow.veiled == (Try.f3.params.toList ++ Rows.fnExactSlopeToSpec.plain.varTypes Try.prog ++ Try.f3.resultTypes.toList).any (Try.prog.veiledRec ·))) = true := by kernel_rfl
theorem SlopeTo_c31 : (Rows.fnExactSlopeToRow.veiledFits Try.prog Try.f3.params.toList (Try.f3.params.toList ++ Rows.fnExactSlopeToSpec.plain.varTypes Try.prog ++ Try.f3.resultTypes.toList)) = true := by kernel_rfl
theorem SlopeTo_closed : joinedFacts Try.prog 3 Try.f3 Rows.fnExactSlopeToSpec Rows.fnExactSlopeToRow = true := by
  unfold joinedFacts
  exact (and_t (and_t (and_t (and_t (and_t (and_t (and_t (and_t (and_t (and_t (and_t (and_t (and_t (and_t (and_t (and_t (and_t (and_t (and_t (and_t (and_t (and_t (and_t (and_t (and_t (and_t (and_t (and_t (and_t (and_t (and_t SlopeTo_c0 envLaid) fb_maps) SlopeTo_c3) SlopeTo_c4) SlopeTo_c5) fb_stops) SlopeTo_c7) fb_knobs) SlopeTo_c9) SlopeTo_c10) SlopeTo_c11) SlopeTo_c12) SlopeTo_c13) SlopeTo_c14) SlopeTo_c15) SlopeTo_c16) SlopeTo_c17) SlopeTo_c18) SlopeTo_c19) SlopeTo_c20) SlopeTo_c21) fb_keys) SlopeTo_c23) fb_heard) fb_enter) fb_lift) fb_make) SlopeTo_c28) SlopeTo_c29) SlopeTo_c30) SlopeTo_c31)
theorem SlopeTo_holds : Rows.FnExactSlopeToSaid :=
  OpenClaim.holds_of_wide 3 Try.f3 rfl rfl rfl rfl rfl rfl rfl ⟨rfl, rfl, rfl, rfl, rfl⟩ rfl rfl rfl rfl rfl (by kernel_rfl) Try.func3 SlopeTo_closed
    (of_decide_eq_true (by kernel_rfl)) (by unfold Func.isWrapper; first | (rw [if_pos (by decide +kernel)]; kernel_rfl) | (rw [if_neg (by decide +kernel)]; exact ⟨rfl, rfl⟩))
    (fun os started H enc _ => SlopeTo_lifted os started H enc)
end Go.Proofs.Ytdhcfdiggcgmhaa
