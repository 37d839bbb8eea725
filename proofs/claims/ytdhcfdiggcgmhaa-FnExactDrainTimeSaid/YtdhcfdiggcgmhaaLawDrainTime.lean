/- FnExactDrainTime: for all arguments the law returns true, and its arguments read as they did. -/
import Derived.Test.YtdhcfdiggcgmhaaRows
import Derived.WalkKit
import Derived.ProofKit
import Derived.Test.YtdhcfdiggcgmhaaEnvB
import Derived.Test.YtdhcfdiggcgmhaaWkDrainTime
import Derived.Test.YtdhcfdiggcgmhaaPe2
namespace Go.Proofs.Ytdhcfdiggcgmhaa
open Go Go.RowKit Go.ChangeShapes Go.WideShapes Go.ChangeAt
set_option linter.unusedVariables false
set_option linter.unusedSimpArgs false
theorem DrainTime_own : ownKnob Try.prog.godebug = Option.none := by kernel_rfl
theorem DrainTime_laid : laidOutB Try.prog = true := envLaid
theorem DrainTime_sem : ∀ vs, inArgs [(true, [.int .i8, .int .i16, .ints .i8 17, .int .u32, .sl true [.int .i8, .int .i16]]), (false, [.ints .i32 17])] vs → ∃ k, sem E k 7 vs = some (.bool true) := by
  intro vs h
  obtain ⟨v1, r2, rfl, h3, h⟩ := h
  obtain ⟨l4, rfl, h5⟩ := h3
  try simp only [inL] at h5
  obtain ⟨x6, l7, e, h8, h9⟩ := h5
  subst e
  simp only [inP] at h8
  obtain ⟨c10, rfl, w11⟩ := h8
  try simp only [inL] at h9
  obtain ⟨x12, l13, e, h14, h15⟩ := h9
  subst e
  simp only [inP] at h14
  obtain ⟨c16, rfl, w17⟩ := h14
  try simp only [inL] at h15
  obtain ⟨x18, l19, e, h20, h21⟩ := h15
  subst e
  simp only [inP] at h20
  obtain ⟨c22, rfl, w23⟩ := h20
  try simp only [inL] at h21
  obtain ⟨x24, l25, e, h26, h27⟩ := h21
  subst e
  simp only [inP] at h26
  obtain ⟨c28, rfl, w29⟩ := h26
  try simp only [inL] at h27
  obtain ⟨x30, l31, e, h32, h33⟩ := h27
  subst e
  simp only [inP] at h32
  obtain ⟨c34, rfl, w35⟩ := h32
  try simp only [inL] at h33
  try subst h33
  obtain ⟨v36, r37, rfl, h38, h⟩ := h
  replace h38 := show inL _ [v36] from h38
  try simp only [inL] at h38
  obtain ⟨x39, l40, e, h41, h42⟩ := h38
  obtain ⟨rfl, rfl⟩ := List.cons.inj e; clear e
  simp only [inP] at h41
  obtain ⟨c43, rfl, w44⟩ := h41
  try simp only [inL] at h42
  try subst h42
  have h := show _ = _ from h; subst h
  obtain ⟨n, hn⟩ := ev_run (law_FnExactDrainTime w11 w17 w23 w29 w35 w44)
  exact ⟨_, w_laws_FnExactDrainTime hn _ (Nat.le_refl _)⟩
set_option maxRecDepth 100000 in
theorem DrainTime_lifted (os : Os) (started : os.Started) (H : Type) (enc : TypeId × Value → H) :
    ReturnsInHanded {} Try.checked os 7 .any (Rows.fnExactDrainTimeSpec.pre6 enc Try.prog Try.f7 Rows.fnExactDrainTimeRow.domain false) (Rows.fnExactDrainTimeSpec.post enc Try.prog Try.f7 false true false false) := by
  refine returnsInHanded_of_change (C := Try.checked) DrainTime_own started (by kernel_rfl) Try.func7
    (ChangeSpec.witness6 (enc := enc) (C := Try.checked) false ⟨#[], #[.agg #[.int .i8 0, .int .i16 0, .int .i8 0, .int .i8 0, .int .i8 0, .int .i8 0, .int .i8 0, .int .i8 0, .int .i8 0, .int .i8 0, .int .i8 0, .int .i8 0, .int .i8 0, .int .i8 0, .int .i8 0, .int .i8 0, .int .i8 0, .int .i8 0, .int .i8 0, .int .u32 0, .slice none 0 0], .agg #[.int .i32 0, .int .i32 0, .int .i32 0, .int .i32 0, .int .i32 0, .int .i32 0, .int .i32 0, .int .i32 0, .int .i32 0, .int .i32 0, .int .i32 0, .int .i32 0, .int .i32 0, .int .i32 0, .int .i32 0, .int .i32 0, .int .i32 0]], []⟩ 8 (by kernel_rfl) (by kernel_rfl) (by kernel_rfl) (by kernel_rfl)) ?_
  intro W base args ds gs before hval0 hW hcnd _
  have hval : ∀ (j : Nat) t v, Try.f7.params[j]? = some t → args[j]? = some v → Value.okWide Try.prog W .any base t v := hval0
  refine law_calls (g := 8) (shs := [(true, [.int .i8, .int .i16, .ints .i8 17, .int .u32, .sl true [.int .i8, .int .i16]]), (false, [.ints .i32 17])]) (tb := 4) envOk DrainTime_laid rfl ?_ (by kernel_rfl) (by kernel_rfl) (by kernel_rfl) (by kernel_rfl) rfl DrainTime_sem hval hW
  intro ds hds
  rw [Try.params7] at hds
  match ds, hds with
  | [d0, d1], _ => rfl
set_option maxRecDepth 100000
theorem DrainTime_c0 : (Rows.fnExactDrainTimeRow.wf (OpenSpec.ofChange Rows.fnExactDrainTimeSpec)) = true := by kernel_rfl
theorem DrainTime_c3 : (Try.f7.params.all (Try.prog.readableRec ·)) = true := by kernel_rfl
theorem DrainTime_c4 : (namedTie Try.prog Rows.fnExactDrainTimeRow.named Rows.fnExactDrainTimeSpec.vars) = true := by kernel_rfl
theorem DrainTime_c5 : ((Rows.fnExactDrainTimeRow.stops == [])) = true := by kernel_rfl
theorem DrainTime_c7 : ((Rows.fnExactDrainTimeRow.knobs == [])) = true := by kernel_rfl
theorem DrainTime_c9 : ((Rows.fnExactDrainTimeRow.inPlace == Try.prog.inPlace 7)) = true := by kernel_rfl
theorem DrainTime_c10 : ((Rows.fnExactDrainTimeRow.unfollowed == Try.prog.unfollowed 7)) = true := by kernel_rfl
theorem DrainTime_c11 : ((Rows.fnExactDrainTimeRow.recurses == Try.prog.recurses 7)) = true := by kernel_rfl
theorem DrainTime_c12 : ((Rows.fnExactDrainTimeRow.named == Try.prog.varsNamed 7)) = true := by kernel_rfl
theorem DrainTime_c13 : ((Rows.fnExactDrainTimeRow.maps == (Try.f7.params.toList ++ Rows.fnExactDrainTimeSpec.plain.varTypes Try.prog).any (Try.prog.mapsRec ·))) = true := by kernel_rfl
theorem DrainTime_c14 : ((Rows.fnExactDrainTimeRow.ifaces == (Try.f7.params.toList ++ Rows.fnExactDrainTimeSpec.plain.varTypes Try.prog).any (Try.prog.ifacesRec ·))) = true := by kernel_rfl
theorem DrainTime_c15 : ((Rows.fnExactDrainTimeRow.mapsOut == Try.prog.mapsAmong Try.f7.resultTypes.toList)) = true := by kernel_rfl
theorem DrainTime_c16 : ((Rows.fnExactDrainTimeRow.loops == (Try.f7.params.toList ++ Rows.fnExactDrainTimeSpec.plain.varTypes Try.prog).any (Try.prog.loopsFrom ·))) = true := by kernel_rfl
theorem DrainTime_c17 : ((Rows.fnExactDrainTimeRow.wideKeys == (Try.f7.params.toList ++ Rows.fnExactDrainTimeSpec.plain.varTypes Try.prog ++ Try.f7.resultTypes.toList).any (Try.prog.wideKeysFrom ·))) = true := by kernel_rfl
theorem DrainTime_c18 : (Rows.fnExactDrainTimeSpec.vars.all (Try.prog.varReadable ·)) = true := by kernel_rfl
theorem DrainTime_c19 : (Try.f7.resultTypes.all (fun t => Try.prog.readableRec t && decide (t < Try.prog.types.size))) = true := by kernel_rfl
theorem DrainTime_c20 : ((Rows.fnExactDrainTimeRow.ifacesOut == Try.f7.resultTypes.toList.any (Try.prog.ifacesRec ·))) = true := by kernel_rfl
theorem DrainTime_c21 : ((Rows.fnExactDrainTimeRow.loopsOut == Try.f7.resultTypes.toList.any (Try.prog.loopsFrom ·))) = true := by kernel_rfl
theorem DrainTime_c23 : (Rows.fnExactDrainTimeRow.shortTexts.isNone) = true := by kernel_rfl
theorem DrainTime_c28 : ((Rows.fnExactDrainTimeRow.kinds == (if Rows.fnExactDrainTimeRow.domain.isEmpty then [] else Try.f7.params.toList.map fun t => match Try.prog.underlying t with | some (.int k) => some k | _ => none))) = true := by kernel_rfl
theorem DrainTime_c29 : ((Rows.fnExactDrainTimeRow.pinned == Rows.fnExactDrainTimeRow.pinnedBy)) = true := by kernel_rfl
theorem DrainTime_c30 : ((Rows.fnExactDrainTimeRow.veiled == (Try.f7.params.toList ++ Rows.fnExactDrainTimeSpec.plain.varTypes Try.prog ++ Try.f7.resultTypes.toList).any (Try.prog.veiledRec ·))) = true := by kernel_rfl
theorem DrainTime_c31 : (Rows.fnExactDrainTimeRow.veiledFits Try.prog Try.f7.params.toList (Try.f7.params.toList ++ Rows.fnExactDrainTimeSpec.plain.varTypes Try.prog ++ Try.f7.resultTypes.toList)) = true := by kernel_rfl
theorem DrainTime_closed : joinedFacts Try.prog 7 Try.f7 Rows.fnExactDrainTimeSpec Rows.fnExactDrainTimeRow = true := by
  unfold joinedFacts
  exact (and_t (and_t (and_t (and_t (and_t (and_t (and_t (and_t (and_t (and_t (and_t (and_t (and_t (and_t (and_t (and_t (and_t (and_t (and_t (and_t (and_t (and_t (and_t (and_t (and_t (and_t (and_t (and_t (and_t (and_t (and_t DrainTime_c0 envLaid) fb_maps) DrainTime_c3) DrainTime_c4) DrainTime_c5) fb_stops) DrainTime_c7) fb_knobs) DrainTime_c9) DrainTime_c10) DrainTime_c11) DrainTime_c12) DrainTime_c13) DrainTime_c14) DrainTime_c15) DrainTime_c16) DrainTime_c17) DrainTime_c18) DrainTime_c19) DrainTime_c20) DrainTime_c21) fb_keys) DrainTime_c23) fb_heard) fb_enter) fb_lift) fb_make) DrainTime_c28) DrainTime_c29) DrainTime_c30) DrainTime_c31)
theorem DrainTime_holds : Rows.FnExactDrainTimeSaid :=
  OpenClaim.holds_of_wide 7 Try.f7 rfl rfl rfl rfl rfl rfl rfl ⟨rfl, rfl, rfl, rfl, rfl⟩ rfl rfl rfl rfl rfl (by kernel_rfl) Try.func7 DrainTime_closed
    (of_decide_eq_true (by kernel_rfl)) (by unfold Func.isWrapper; first | (rw [if_pos (by decide +kernel)]; kernel_rfl) | (rw [if_neg (by decide +kernel)]; exact ⟨rfl, rfl⟩))
    (fun os started H enc _ => DrainTime_lifted os started H enc)
end Go.Proofs.Ytdhcfdiggcgmhaa
