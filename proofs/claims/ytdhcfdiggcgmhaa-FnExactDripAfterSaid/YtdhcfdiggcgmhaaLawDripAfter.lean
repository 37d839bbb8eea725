/- FnExactDripAfter: for all arguments the law returns true, and its arguments read as they did. -/
import Derived.Test.YtdhcfdiggcgmhaaRows
import Derived.WalkKit
import Derived.ProofKit
import Derived.Test.YtdhcfdiggcgmhaaEnvB
import Derived.Test.YtdhcfdiggcgmhaaWkDripAfter
import Derived.Test.YtdhcfdiggcgmhaaPe1
namespace Go.Proofs.Ytdhcfdiggcgmhaa
open Go Go.RowKit Go.ChangeShapes Go.WideShapes Go.ChangeAt
set_option linter.unusedVariables false
set_option linter.unusedSimpArgs false
theorem DripAfter_own : ownKnob Try.prog.godebug = Option.none := by kernel_rfl
theorem DripAfter_laid : laidOutB Try.prog = true := envLaid
theorem DripAfter_sem : ∀ vs, inArgs [(true, [.int .i8, .int .i8, .int .u8, .ints .u8 64]), (false, [.ints .i16 17]), (false, [.sl true [.int .i8, .int .i8]])] vs → ∃ k, sem E k 11 vs = some (.bool true) := by
  intro vs h
  obtain ⟨v1, r2, rfl, h3, h⟩ := h
  obtain ⟨l4, rfl, h5⟩ := h3
  try simp only [inL] at h5
  obtain ⟨x6, l7, e, h8, h9⟩ := h5
  subst e
  simp only [inP] at h8
  obtain ⟨c10, rfl, w11⟩ := h8
  try simp only [inL] at h9
  obtain ⟨x12, l13, e, h14, h15⟩ := h9
  subst e
  simp only [inP] at h14
  obtain ⟨c16, rfl, w17⟩ := h14
  try simp only [inL] at h15
  obtain ⟨x18, l19, e, h20, h21⟩ := h15
  subst e
  simp only [inP] at h20
  obtain ⟨c22, rfl, w23⟩ := h20
  try simp only [inL] at h21
  obtain ⟨x24, l25, e, h26, h27⟩ := h21
  subst e
  simp only [inP] at h26
  obtain ⟨c28, rfl, w29⟩ := h26
  try simp only [inL] at h27
  try subst h27
  obtain ⟨v30, r31, rfl, h32, h⟩ := h
  replace h32 := show inL _ [v30] from h32
  try simp only [inL] at h32
  obtain ⟨x33, l34, e, h35, h36⟩ := h32
  obtain ⟨rfl, rfl⟩ := List.cons.inj e; clear e
  simp only [inP] at h35
  obtain ⟨c37, rfl, w38⟩ := h35
  try simp only [inL] at h36
  try subst h36
  obtain ⟨v39, r40, rfl, h41, h⟩ := h
  replace h41 := show inL _ [v39] from h41
  try simp only [inL] at h41
  obtain ⟨x42, l43, e, h44, h45⟩ := h41
  obtain ⟨rfl, rfl⟩ := List.cons.inj e; clear e
  simp only [inP] at h44
  obtain ⟨c46, rfl, w47⟩ := h44
  try simp only [inL] at h45
  try subst h45
  have h := show _ = _ from h; subst h
  obtain ⟨n, hn⟩ := ev_run (law_FnExactDripAfter w11 w17 w23 w29 w38 w47)
  exact ⟨_, w_laws_FnExactDripAfter hn _ (Nat.le_refl _)⟩
set_option maxRecDepth 100000 in
theorem DripAfter_lifted (os : Os) (started : os.Started) (H : Type) (enc : TypeId × Value → H) :
    ReturnsInHanded {} Try.checked os 11 .any (Rows.fnExactDripAfterSpec.pre6 enc Try.prog Try.f11 Rows.fnExactDripAfterRow.domain false) (Rows.fnExactDripAfterSpec.post enc Try.prog Try.f11 false true false false) := by
  refine returnsInHanded_of_change (C := Try.checked) DripAfter_own started (by kernel_rfl) Try.func11
    (ChangeSpec.witness6 (enc := enc) (C := Try.checked) false ⟨#[], #[.agg #[.int .i8 0, .int .i8 0, .int .u8 0, .int .u8 0, .int .u8 0, .int .u8 0, .int .u8 0, .int .u8 0, .int .u8 0, .int .u8 0, .int .u8 0, .int .u8 0, .int .u8 0, .int .u8 0, .int .u8 0, .int .u8 0, .int .u8 0, .int .u8 0, .int .u8 0, .int .u8 0, .int .u8 0, .int .u8 0, .int .u8 0, .int .u8 0, .int .u8 0, .int .u8 0, .int .u8 0, .int .u8 0, .int .u8 0, .int .u8 0, .int .u8 0, .int .u8 0, .int .u8 0, .int .u8 0, .int .u8 0, .int .u8 0, .int .u8 0, .int .u8 0, .int .u8 0, .int .u8 0, .int .u8 0, .int .u8 0, .int .u8 0, .int .u8 0, .int .u8 0, .int .u8 0, .int .u8 0, .int .u8 0, .int .u8 0, .int .u8 0, .int .u8 0, .int .u8 0, .int .u8 0, .int .u8 0, .int .u8 0, .int .u8 0, .int .u8 0, .int .u8 0, .int .u8 0, .int .u8 0, .int .u8 0, .int .u8 0, .int .u8 0, .int .u8 0, .int .u8 0, .int .u8 0, .int .u8 0], .agg #[.int .i16 0, .int .i16 0, .int .i16 0, .int .i16 0, .int .i16 0, .int .i16 0, .int .i16 0, .int .i16 0, .int .i16 0, .int .i16 0, .int .i16 0, .int .i16 0, .int .i16 0, .int .i16 0, .int .i16 0, .int .i16 0, .int .i16 0], .slice none 0 0], []⟩ 8 (by kernel_rfl) (by kernel_rfl) (by kernel_rfl) (by kernel_rfl)) ?_
  intro W base args ds gs before hval0 hW hcnd _
  have hval : ∀ (j : Nat) t v, Try.f11.params[j]? = some t → args[j]? = some v → Value.okWide Try.prog W .any base t v := hval0
  refine law_calls (g := 8) (shs := [(true, [.int .i8, .int .i8, .int .u8, .ints .u8 64]), (false, [.ints .i16 17]), (false, [.sl true [.int .i8, .int .i8]])]) (tb := 4) envOk DripAfter_laid rfl ?_ (by kernel_rfl) (by kernel_rfl) (by kernel_rfl) (by kernel_rfl) rfl DripAfter_sem hval hW
  intro ds hds
  rw [Try.params11] at hds
  match ds, hds with
  | [d0, d1, d2], _ => rfl
set_option maxRecDepth 100000
theorem DripAfter_c0 : (Rows.fnExactDripAfterRow.wf (OpenSpec.ofChange Rows.fnExactDripAfterSpec)) = true := by kernel_rfl
theorem DripAfter_c3 : (Try.f11.params.all (Try.prog.readableRec ·)) = true := by kernel_rfl
theorem DripAfter_c4 : (namedTie Try.prog Rows.fnExactDripAfterRow.named Rows.fnExactDripAfterSpec.vars) = true := by kernel_rfl
theorem DripAfter_c5 : ((Rows.fnExactDripAfterRow.stops == [])) = true := by kernel_rfl
theorem DripAfter_c7 : ((Rows.fnExactDripAfterRow.knobs == [])) = true := by kernel_rfl
theorem DripAfter_c9 : ((Rows.fnExactDripAfterRow.inPlace == Try.prog.inPlace 11)) = true := by kernel_rfl
theorem DripAfter_c10 : ((Rows.fnExactDripAfterRow.unfollowed == Try.prog.unfollowed 11)) = true := by kernel_rfl
theorem DripAfter_c11 : ((Rows.fnExactDripAfterRow.recurses == Try.prog.recurses 11)) = true := by kernel_rfl
theorem DripAfter_c12 : ((Rows.fnExactDripAfterRow.named == Try.prog.varsNamed 11)) = true := by kernel_rfl
theorem DripAfter_c13 : ((Rows.fnExactDripAfterRow.maps == (Try.f11.params.toList ++ Rows.fnExactDripAfterSpec.plain.varTypes Try.prog).any (Try.prog.mapsRec ·))) = true := by kernel_rfl
theorem DripAfter_c14 : ((Rows.fnExactDripAfterRow.ifaces == (Try.f11.params.toList ++ Rows.fnExactDripAfterSpec.plain.varTypes Try.prog).any (Try.prog.ifacesRec ·))) = true := by kernel_rfl
theorem DripAfter_c15 : ((Rows.fnExactDripAfterRow.mapsOut == Try.prog.mapsAmong Try.f11.resultTypes.toList)) = true := by kernel_rfl
theorem DripAfter_c16 : ((Rows.fnExactDripAfterRow.loops == (Try.f11.params.toList ++ Rows.fnExactDripAfterSpec.plain.varTypes Try.prog).any (Try.prog.loopsFrom ·))) = true := by kernel_rfl
theorem DripAfter_c17 : ((Rows.fnExactDripAfterRow.wideKeys == (Try.f11.params.toList ++ Rows.fnExactDripAfterSpec.plain.varTypes Try.prog ++ Try.f11.resultTypes.toList).any (Try.prog.wideKeysFrom ·))) = true := by kernel_rfl
theorem DripAfter_c18 : (Rows.fnExactDripAfterSpec.vars.all (Try.prog.varReadable ·)) = true := by kernel_rfl
theorem DripAfter_c19 : (Try.f11.resultTypes.all (fun t => Try.prog.readableRec t && decide (t < Try.prog.types.size))) = true := by kernel_rfl
theorem DripAfter_c20 : ((Rows.fnExactDripAfterRow.ifacesOut == Try.f11.resultTypes.toList.any (Try.prog.ifacesRec ·))) = true := by kernel_rfl
theorem DripAfter_c21 : ((Rows.fnExactDripAfterRow.loopsOut == Try.f11.resultTypes.toList.any (Try.prog.loopsFrom ·))) = true := by kernel_rfl
theorem DripAfter_c23 : (Rows.fnExactDripAfterRow.shortTexts.isNone) = true := by kernel_rfl
theorem DripAfter_c28 : ((Rows.fnExactDripAfterRow.kinds == (if Rows.fnExactDripAfterRow.domain.isEmpty then [] else Try.f11.params.toList.map fun t => match Try.prog.underlying t with | some (.int k) => some k | _ => none))) = true := by kernel_rfl
theorem DripAfter_c29 : ((Rows.fnExactDripAfterRow.pinned == Rows.fnExactDripAfterRow.pinnedBy)) = true := by kernel_rfl
theorem DripAfter_c30 : ((Rows.fnExactDripAfterRow.veiled == (Try.f11.params.toList ++ Rows.fnExactDripAfterSpec.plain.varTypes Try.prog ++ Try.f11.resultTypes.toList).any (Try.prog.veiledRec ·))) = true := by kernel_rfl
theorem DripAfter_c31 : (Rows.fnExactDripAfterRow.veiledFits Try.prog Try.f11.params.toList (Try.f11.params.toList ++ Rows.fnExactDripAfterSpec.plain.varTypes Try.prog ++ Try.f11.resultTypes.toList)) = true := by kernel_rfl
theorem DripAfter_closed : joinedFacts Try.prog 11 Try.f11 Rows.fnExactDripAfterSpec Rows.fnExactDripAfterRow = true := by
  unfold joinedFacts
  exact (and_t (and_t (and_t (and_t (and_t (and_t (and_t (and_t (and_t (and_t (and_t (and_t (and_t (and_t (and_t (and_t (and_t (and_t (and_t (and_t (and_t (and_t (and_t (and_t (and_t (and_t (and_t (and_t (and_t (and_t (and_t DripAfter_c0 envLaid) fb_maps) DripAfter_c3) DripAfter_c4) DripAfter_c5) fb_stops) DripAfter_c7) fb_knobs) DripAfter_c9) DripAfter_c10) DripAfter_c11) DripAfter_c12) DripAfter_c13) DripAfter_c14) DripAfter_c15) DripAfter_c16) DripAfter_c17) DripAfter_c18) DripAfter_c19) DripAfter_c20) DripAfter_c21) fb_keys) DripAfter_c23) fb_heard) fb_enter) fb_lift) fb_make) DripAfter_c28) DripAfter_c29) DripAfter_c30) DripAfter_c31)
theorem DripAfter_holds : Rows.FnExactDripAfterSaid :=
  OpenClaim.holds_of_wide 11 Try.f11 rfl rfl rfl rfl rfl rfl rfl ⟨rfl, rfl, rfl, rfl, rfl⟩ rfl rfl rfl rfl rfl (by kernel_rfl) Try.func11 DripAfter_closed
    (of_decide_eq_true (by kernel_rfl)) (by unfold Func.isWrapper; first | (rw [if_pos (by decide +kernel)]; kernel_rfl) | (rw [if_neg (by decide +kernel)]; exact ⟨rfl, rfl⟩))
    (fun os started H enc _ => DripAfter_lifted os started H enc)
end Go.Proofs.Ytdhcfdiggcgmhaa
