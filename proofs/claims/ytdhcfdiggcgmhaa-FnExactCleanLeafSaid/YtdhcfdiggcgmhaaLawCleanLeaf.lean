/- FnExactCleanLeaf: for all arguments the law returns true, and its arguments read as they did. -/
import Derived.Test.YtdhcfdiggcgmhaaRows
import Derived.WalkKit
import Derived.ProofKit
import Derived.Test.YtdhcfdiggcgmhaaEnvB
import Derived.Test.YtdhcfdiggcgmhaaWkCleanLeaf
import Derived.Test.YtdhcfdiggcgmhaaPe4
namespace Go.Proofs.Ytdhcfdiggcgmhaa
open Go Go.RowKit Go.ChangeShapes Go.WideShapes Go.ChangeAt
set_option linter.unusedVariables false
set_option linter.unusedSimpArgs false
theorem CleanLeaf_own : ownKnob Try.prog.godebug = Option.none := by kernel_rfl
theorem CleanLeaf_laid : laidOutB Try.prog = true := envLaid
theorem CleanLeaf_sem : ∀ vs, inArgs [(true, [.int .i8, .int .i16, .ints .i8 17, .int .u32, .sl true [.int .i8, .int .i16]]), (false, [.int .i64])] vs → ∃ k, sem E k 5 vs = some (.bool true) := by
  intro vs h
  obtain ⟨v1, r2, rfl, h3, h⟩ := h
  obtain ⟨l4, rfl, h5⟩ := h3
  try simp only [inL] at h5
  obtain ⟨x6, l7, e, h8, h9⟩ := h5
  subst e
  simp only [inP] at h8
  obtain ⟨c10, rfl, w11⟩ := h8
  try simp only [inL] at h9
  obtain ⟨x12, l13, e, h14, h15⟩ := h9
  subst e
  simp only [inP] at h14
  obtain ⟨c16, rfl, w17⟩ := h14
  try simp only [inL] at h15
  obtain ⟨x18, l19, e, h20, h21⟩ := h15
  subst e
  simp only [inP] at h20
  obtain ⟨c22, rfl, w23⟩ := h20
  try simp only [inL] at h21
  obtain ⟨x24, l25, e, h26, h27⟩ := h21
  subst e
  simp only [inP] at h26
  obtain ⟨c28, rfl, w29⟩ := h26
  try simp only [inL] at h27
  obtain ⟨x30, l31, e, h32, h33⟩ := h27
  subst e
  simp only [inP] at h32
  obtain ⟨c34, rfl, w35⟩ := h32
  try simp only [inL] at h33
  try subst h33
  obtain ⟨v36, r37, rfl, h38, h⟩ := h
  replace h38 := show inL _ [v36] from h38
  try simp only [inL] at h38
  obtain ⟨x39, l40, e, h41, h42⟩ := h38
  obtain ⟨rfl, rfl⟩ := List.cons.inj e; clear e
  simp only [inP] at h41
  obtain ⟨c43, rfl, w44⟩ := h41
  try simp only [inL] at h42
  try subst h42
  have h := show _ = _ from h; subst h
  obtain ⟨n, hn⟩ := ev_run (law_FnExactCleanLeaf w11 w17 w23 w29 w35 w44)
  exact ⟨_, w_laws_FnExactCleanLeaf hn _ (Nat.le_refl _)⟩
set_option maxRecDepth 100000 in
theorem CleanLeaf_lifted (os : Os) (started : os.Started) (H : Type) (enc : TypeId × Value → H) :
    ReturnsInHanded {} Try.checked os 5 .any (Rows.fnExactCleanLeafSpec.pre6 enc Try.prog Try.f5 Rows.fnExactCleanLeafRow.domain false) (Rows.fnExactCleanLeafSpec.post enc Try.prog Try.f5 false true false false) := by
  refine returnsInHanded_of_change (C := Try.checked) CleanLeaf_own started (by kernel_rfl) Try.func5
    (ChangeSpec.witness6 (enc := enc) (C := Try.checked) false ⟨#[], #[.agg #[.int .i8 0, .int .i16 0, .int .i8 0, .int .i8 0, .int .i8 0, .int .i8 0, .int .i8 0, .int .i8 0, .int .i8 0, .int .i8 0, .int .i8 0, .int .i8 0, .int .i8 0, .int .i8 0, .int .i8 0, .int .i8 0, .int .i8 0, .int .i8 0, .int .i8 0, .int .u32 0, .slice none 0 0], .int .i64 0], []⟩ 8 (by kernel_rfl) (by kernel_rfl) (by kernel_rfl) (by kernel_rfl)) ?_
  intro W base args ds gs before hval0 hW hcnd _
  have hval : ∀ (j : Nat) t v, Try.f5.params[j]? = some t → args[j]? = some v → Value.okWide Try.prog W .any base t v := hval0
  refine law_calls (g := 8) (shs := [(true, [.int .i8, .int .i16, .ints .i8 17, .int .u32, .sl true [.int .i8, .int .i16]]), (false, [.int .i64])]) (tb := 4) envOk CleanLeaf_laid rfl ?_ (by kernel_rfl) (by kernel_rfl) (by kernel_rfl) (by kernel_rfl) rfl CleanLeaf_sem hval hW
  intro ds hds
  rw [Try.params5] at hds
  match ds, hds with
  | [d0, d1], _ => rfl
set_option maxRecDepth 100000
theorem CleanLeaf_c0 : (Rows.fnExactCleanLeafRow.wf (OpenSpec.ofChange Rows.fnExactCleanLeafSpec)) = true := by kernel_rfl
theorem CleanLeaf_c3 : (Try.f5.params.all (Try.prog.readableRec ·)) = true := by kernel_rfl
theorem CleanLeaf_c4 : (namedTie Try.prog Rows.fnExactCleanLeafRow.named Rows.fnExactCleanLeafSpec.vars) = true := by kernel_rfl
theorem CleanLeaf_c5 : ((Rows.fnExactCleanLeafRow.stops == [])) = true := by kernel_rfl
theorem CleanLeaf_c7 : ((Rows.fnExactCleanLeafRow.knobs == [])) = true := by kernel_rfl
theorem CleanLeaf_c9 : ((Rows.fnExactCleanLeafRow.inPlace == Try.prog.inPlace 5)) = true := by kernel_rfl
theorem CleanLeaf_c10 : ((Rows.fnExactCleanLeafRow.unfollowed == Try.prog.unfollowed 5)) = true := by kernel_rfl
theorem CleanLeaf_c11 : ((Rows.fnExactCleanLeafRow.recurses == Try.prog.recurses 5)) = true := by kernel_rfl
theorem CleanLeaf_c12 : ((Rows.fnExactCleanLeafRow.named == Try.prog.varsNamed 5)) = true := by kernel_rfl
theorem CleanLeaf_c13 : ((Rows.fnExactCleanLeafRow.maps == (Try.f5.params.toList ++ Rows.fnExactCleanLeafSpec.plain.varTypes Try.prog).any (Try.prog.mapsRec ·))) = true := by kernel_rfl
theorem CleanLeaf_c14 : ((Rows.fnExactCleanLeafRow.ifaces == (Try.f5.params.toList ++ Rows.fnExactCleanLeafSpec.plain.varTypes Try.prog).any (Try.prog.ifacesRec ·))) = true := by kernel_rfl
theorem CleanLeaf_c15 : ((Rows.fnExactCleanLeafRow.mapsOut == Try.prog.mapsAmong Try.f5.resultTypes.toList)) = true := by kernel_rfl
theorem CleanLeaf_c16 : ((Rows.fnExactCleanLeafRow.loops == (Try.f5.params.toList ++ Rows.fnExactCleanLeafSpec.plain.varTypes Try.prog).any (Try.prog.loopsFrom ·))) = true := by kernel_rfl
theorem CleanLeaf_c17 : ((Rows.fnExactCleanLeafRow.wideKeys == (Try.f5.params.toList ++ Rows.fnExactCleanLeafSpec.plain.varTypes Try.prog ++ Try.f5.resultTypes.toList).any (Try.prog.wideKeysFrom ·))) = true := by kernel_rfl
theorem CleanLeaf_c18 : (Rows.fnExactCleanLeafSpec.vars.all (Try.prog.varReadable ·)) = true := by kernel_rfl
theorem CleanLeaf_c19 : (Try.f5.resultTypes.all (fun t => Try.prog.readableRec t && decide (t < Try.prog.types.size))) = true := by kernel_rfl
theorem CleanLeaf_c20 : ((Rows.fnExactCleanLeafRow.ifacesOut == Try.f5.resultTypes.toList.any (Try.prog.ifacesRec ·))) = true := by kernel_rfl
theorem CleanLeaf_c21 : ((Rows.fnExactCleanLeafRow.loopsOut == Try.f5.resultTypes.toList.any (Try.prog.loopsFrom ·))) = true := by kernel_rfl
theorem CleanLeaf_c23 : (Rows.fnExactCleanLeafRow.shortTexts.isNone) = true := by kernel_rfl
theorem CleanLeaf_c28 : ((Rows.fnExactCleanLeafRow.kinds == (if Rows.fnExactCleanLeafRow.domain.isEmpty then [] else Try.f5.params.toList.map fun t => match Try.prog.underlying t with | some (.int k) => some k | _ => none))) = true := by kernel_rfl
theorem CleanLeaf_c29 : ((Rows.fnExactCleanLeafRow.pinned == Rows.fnExactCleanLeafRow.pinnedBy)) = true := by kernel_rfl
theorem CleanLeaf_c30 : ((Rows.fnExactCleanLeafRow.veiled == (Try.f5.params.toList ++ Rows.fnExactCleanLeafSpec.plain.varTypes Try.prog ++ Try.f5.resultTypes.toList).any (Try.prog.veiledRec ·))) = true := by kernel_rfl
theorem CleanLeaf_c31 : (Rows.fnExactCleanLeafRow.veiledFits Try.prog Try.f5.params.toList (Try.f5.params.toList ++ Rows.fnExactCleanLeafSpec.plain.varTypes Try.prog ++ Try.f5.resultTypes.toList)) = true := by kernel_rfl
theorem CleanLeaf_closed : joinedFacts Try.prog 5 Try.f5 Rows.fnExactCleanLeafSpec Rows.fnExactCleanLeafRow = true := by
  unfold joinedFacts
  exact (and_t (and_t (and_t (and_t (and_t (and_t (and_t (and_t (and_t (and_t (and_t (and_t (and_t (and_t (and_t (and_t (and_t (and_t (and_t (and_t (and_t (and_t (and_t (and_t (and_t (and_t (and_t (and_t (and_t (and_t (and_t CleanLeaf_c0 envLaid) fb_maps) CleanLeaf_c3) CleanLeaf_c4) CleanLeaf_c5) fb_stops) CleanLeaf_c7) fb_knobs) CleanLeaf_c9) CleanLeaf_c10) CleanLeaf_c11) CleanLeaf_c12) CleanLeaf_c13) CleanLeaf_c14) CleanLeaf_c15) CleanLeaf_c16) CleanLeaf_c17) CleanLeaf_c18) CleanLeaf_c19) CleanLeaf_c20) CleanLeaf_c21) fb_keys) CleanLeaf_c23) fb_heard) fb_enter) fb_lift) fb_make) CleanLeaf_c28) CleanLeaf_c29) CleanLeaf_c30) CleanLeaf_c31)
theorem CleanLeaf_holds : Rows.FnExactCleanLeafSaid :=
  OpenClaim.holds_of_wide 5 Try.f5 rfl rfl rfl rfl rfl rfl rfl ⟨rfl, rfl, rfl, rfl, rfl⟩ rfl rfl rfl rfl rfl (by kernel_rfl) Try.func5 CleanLeaf_closed
    (of_decide_eq_true (by kernel_rfl)) (by unfold Func.isWrapper; first | (rw [if_pos (by decide +kernel)]; kernel_rfl) | (rw [if_neg (by decide +kernel)]; exact ⟨rfl, rfl⟩))
    (fun os started H enc _ => CleanLeaf_lifted os started H enc)
end Go.Proofs.Ytdhcfdiggcgmhaa
