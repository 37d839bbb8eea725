/- FnExactKindsFor: for all arguments the law returns true, and its arguments read as they did. -/
import Derived.Test.YtdhcfdiggcgmhaaRows
import Derived.WalkKit
import Derived.ProofKit
import Derived.Test.YtdhcfdiggcgmhaaEnvB
import Derived.Test.YtdhcfdiggcgmhaaWkKindsFor
import Derived.Test.YtdhcfdiggcgmhaaPe3
namespace Go.Proofs.Ytdhcfdiggcgmhaa
open Go Go.RowKit Go.ChangeShapes Go.WideShapes Go.ChangeAt
set_option linter.unusedVariables false
set_option linter.unusedSimpArgs false
theorem KindsFor_own : ownKnob Try.prog.godebug = Option.none := by kernel_rfl
theorem KindsFor_laid : laidOutB Try.prog = true := envLaid
theorem KindsFor_sem : ∀ vs, inArgs [(true, [.int .i8, .int .i8, .int .u8, .ints .u8 64]), (false, [.ints .i16 17]), (false, [.ints .i32 136]), (true, [.int .i8, .int .i8])] vs → ∃ k, sem E k 10 vs = some (.bool true) := by
  intro vs h
  obtain ⟨v1, r2, rfl, h3, h⟩ := h
  obtain ⟨l4, rfl, h5⟩ := h3
  try simp only [inL] at h5
  obtain ⟨x6, l7, e, h8, h9⟩ := h5
  subst e
  simp only [inP] at h8
  obtain ⟨c10, rfl, w11⟩ := h8
  try simp only [inL] at h9
  obtain ⟨x12, l13, e, h14, h15⟩ := h9
  subst e
  simp only [inP] at h14
  obtain ⟨c16, rfl, w17⟩ := h14
  try simp only [inL] at h15
  obtain ⟨x18, l19, e, h20, h21⟩ := h15
  subst e
  simp only [inP] at h20
  obtain ⟨c22, rfl, w23⟩ := h20
  try simp only [inL] at h21
  obtain ⟨x24, l25, e, h26, h27⟩ := h21
  subst e
  simp only [inP] at h26
  obtain ⟨c28, rfl, w29⟩ := h26
  try simp only [inL] at h27
  try subst h27
  obtain ⟨v30, r31, rfl, h32, h⟩ := h
  replace h32 := show inL _ [v30] from h32
  try simp only [inL] at h32
  obtain ⟨x33, l34, e, h35, h36⟩ := h32
  obtain ⟨rfl, rfl⟩ := List.cons.inj e; clear e
  simp only [inP] at h35
  obtain ⟨c37, rfl, w38⟩ := h35
  try simp only [inL] at h36
  try subst h36
  obtain ⟨v39, r40, rfl, h41, h⟩ := h
  replace h41 := show inL _ [v39] from h41
  try simp only [inL] at h41
  obtain ⟨x42, l43, e, h44, h45⟩ := h41
  obtain ⟨rfl, rfl⟩ := List.cons.inj e; clear e
  simp only [inP] at h44
  obtain ⟨c46, rfl, w47⟩ := h44
  try simp only [inL] at h45
  try subst h45
  obtain ⟨v48, r49, rfl, h50, h⟩ := h
  obtain ⟨l51, rfl, h52⟩ := h50
  try simp only [inL] at h52
  obtain ⟨x53, l54, e, h55, h56⟩ := h52
  subst e
  simp only [inP] at h55
  obtain ⟨c57, rfl, w58⟩ := h55
  try simp only [inL] at h56
  obtain ⟨x59, l60, e, h61, h62⟩ := h56
  subst e
  simp only [inP] at h61
  obtain ⟨c63, rfl, w64⟩ := h61
  try simp only [inL] at h62
  try subst h62
  have h := show _ = _ from h; subst h
  obtain ⟨n, hn⟩ := ev_run (law_FnExactKindsFor w11 w17 w23 w29 w38 w47 w58 w64)
  exact ⟨_, w_laws_FnExactKindsFor hn _ (Nat.le_refl _)⟩
set_option maxRecDepth 100000 in
theorem KindsFor_lifted (os : Os) (started : os.Started) (H : Type) (enc : TypeId × Value → H) :
    ReturnsInHanded {} Try.checked os 10 .any (Rows.fnExactKindsForSpec.pre6 enc Try.prog Try.f10 Rows.fnExactKindsForRow.domain false) (Rows.fnExactKindsForSpec.post enc Try.prog Try.f10 false true false false) := by
  refine returnsInHanded_of_change (C := Try.checked) KindsFor_own started (by kernel_rfl) Try.func10
    (ChangeSpec.witness6 (enc := enc) (C := Try.checked) false ⟨#[], #[.agg #[.int .i8 0, .int .i8 0, .int .u8 0, .int .u8 0, .int .u8 0, .int .u8 0, .int .u8 0, .int .u8 0, .int .u8 0, .int .u8 0, .int .u8 0, .int .u8 0, .int .u8 0, .int .u8 0, .int .u8 0, .int .u8 0, .int .u8 0, .int .u8 0, .int .u8 0, .int .u8 0, .int .u8 0, .int .u8 0, .int .u8 0, .int .u8 0, .int .u8 0, .int .u8 0, .int .u8 0, .int .u8 0, .int .u8 0, .int .u8 0, .int .u8 0, .int .u8 0, .int .u8 0, .int .u8 0, .int .u8 0, .int .u8 0, .int .u8 0, .int .u8 0, .int .u8 0, .int .u8 0, .int .u8 0, .int .u8 0, .int .u8 0, .int .u8 0, .int .u8 0, .int .u8 0, .int .u8 0, .int .u8 0, .int .u8 0, .int .u8 0, .int .u8 0, .int .u8 0, .int .u8 0, .int .u8 0, .int .u8 0, .int .u8 0, .int .u8 0, .int .u8 0, .int .u8 0, .int .u8 0, .int .u8 0, .int .u8 0, .int .u8 0, .int .u8 0, .int .u8 0, .int .u8 0, .int .u8 0], .agg #[.int .i16 0, .int .i16 0, .int .i16 0, .int .i16 0, .int .i16 0, .int .i16 0, .int .i16 0, .int .i16 0, .int .i16 0, .int .i16 0, .int .i16 0, .int .i16 0, .int .i16 0, .int .i16 0, .int .i16 0, .int .i16 0, .int .i16 0], .agg #[.int .i32 0, .int .i32 0, .int .i32 0, .int .i32 0, .int .i32 0, .int .i32 0, .int .i32 0, .int .i32 0, .int .i32 0, .int .i32 0, .int .i32 0, .int .i32 0, .int .i32 0, .int .i32 0, .int .i32 0, .int .i32 0, .int .i32 0, .int .i32 0, .int .i32 0, .int .i32 0, .int .i32 0, .int .i32 0, .int .i32 0, .int .i32 0, .int .i32 0, .int .i32 0, .int .i32 0, .int .i32 0, .int .i32 0, .int .i32 0, .int .i32 0, .int .i32 0, .int .i32 0, .int .i32 0, .int .i32 0, .int .i32 0, .int .i32 0, .int .i32 0, .int .i32 0, .int .i32 0, .int .i32 0, .int .i32 0, .int .i32 0, .int .i32 0, .int .i32 0, .int .i32 0, .int .i32 0, .int .i32 0, .int .i32 0, .int .i32 0, .int .i32 0, .int .i32 0, .int .i32 0, .int .i32 0, .int .i32 0, .int .i32 0, .int .i32 0, .int .i32 0, .int .i32 0, .int .i32 0, .int .i32 0, .int .i32 0, .int .i32 0, .int .i32 0, .int .i32 0, .int .i32 0, .int .i32 0, .int .i32 0, .int .i32 0, .int .i32 0, .int .i32 0, .int .i32 0, .int .i32 0, .int .i32 0, .int .i32 0, .int .i32 0, .int .i32 0, .int .i32 0, .int .i32 0, .int .i32 0, .int .i32 0, .int .i32 0, .int .i32 0, .int .i32 0, .int .i32 0, .int .i32 0, .int .i32 0, .int .i32 0, .int .i32 0, .int .i32 0, .int .i32 0, .int .i32 0, .int .i32 0, .int .i32 0, .int .i32 0, .int .i32 0, .int .i32 0, .int .i32 0, .int .i32 0, .int .i32 0, .int .i32 0, .int .i32 0, .int .i32 0, .int .i32 0, .int .i32 0, .int .i32 0, .int .i32 0, .int .i32 0, .int .i32 0, .int .i32 0, .int .i32 0, .int .i32 0, .int .i32 0, .int .i32 0, .int .i32 0, .int .i32 0, .int .i32 0, .int .i32 0, .int .i32 0, .int .i32 0, .int .i32 0, .int .i32 0, .int .i32 0, .int .i32 0, .int .i32 0, .int .i32 0, .int .i32 0, .int .i32 0, .int .i32 0, .int .i32 0, .int .i32 0, .int .i32 0, .int .i32 0, .int .i32 0, .int .i32 0, .int .i32 0], .agg #[.int .i8 0, .int .i8 0]], []⟩ 8 (by kernel_rfl) (by kernel_rfl) (by kernel_rfl) (by kernel_rfl)) ?_
  intro W base args ds gs before hval0 hW hcnd _
  have hval : ∀ (j : Nat) t v, Try.f10.params[j]? = some t → args[j]? = some v → Value.okWide Try.prog W .any base t v := hval0
  refine law_calls (g := 8) (shs := [(true, [.int .i8, .int .i8, .int .u8, .ints .u8 64]), (false, [.ints .i16 17]), (false, [.ints .i32 136]), (true, [.int .i8, .int .i8])]) (tb := 4) envOk KindsFor_laid rfl ?_ (by kernel_rfl) (by kernel_rfl) (by kernel_rfl) (by kernel_rfl) rfl KindsFor_sem hval hW
  intro ds hds
  rw [Try.params10] at hds
  match ds, hds with
  | [d0, d1, d2, d3], _ => rfl
set_option maxRecDepth 100000
theorem KindsFor_c0 : (Rows.fnExactKindsForRow.wf (OpenSpec.ofChange Rows.fnExactKindsForSpec)) = true := by kernel_rfl
theorem KindsFor_c3 : (Try.f10.params.all (Try.prog.readableRec ·)) = true := by kernel_rfl
theorem KindsFor_c4 : (namedTie Try.prog Rows.fnExactKindsForRow.named Rows.fnExactKindsForSpec.vars) = true := by kernel_rfl
theorem KindsFor_c5 : ((Rows.fnExactKindsForRow.stops == [])) = true := by kernel_rfl
theorem KindsFor_c7 : ((Rows.fnExactKindsForRow.knobs == [])) = true := by kernel_rfl
theorem KindsFor_c9 : ((Rows.fnExactKindsForRow.inPlace == Try.prog.inPlace 10)) = true := by kernel_rfl
theorem KindsFor_c10 : ((Rows.fnExactKindsForRow.unfollowed == Try.prog.unfollowed 10)) = true := by kernel_rfl
theorem KindsFor_c11 : ((Rows.fnExactKindsForRow.recurses == Try.prog.recurses 10)) = true := by kernel_rfl
theorem KindsFor_c12 : ((Rows.fnExactKindsForRow.named == Try.prog.varsNamed 10)) = true := by kernel_rfl
theorem KindsFor_c13 : ((Rows.fnExactKindsForRow.maps == (Try.f10.params.toList ++ Rows.fnExactKindsForSpec.plain.varTypes Try.prog).any (Try.prog.mapsRec ·))) = true := by kernel_rfl
theorem KindsFor_c14 : ((Rows.fnExactKindsForRow.ifaces == (Try.f10.params.toList ++ Rows.fnExactKindsForSpec.plain.varTypes Try.prog).any (Try.prog.ifacesRec ·))) = true := by kernel_rfl
theorem KindsFor_c15 : ((Rows.fnExactKindsForRow.mapsOut == Try.prog.mapsAmong Try.f10.resultTypes.toList)) = true := by kernel_rfl
theorem KindsFor_c16 : ((Rows.fnExactKindsForRow.loops == (Try.f10.params.toList ++ Rows.fnExactKindsForSpec.plain.varTypes Try.prog).any (Try.prog.loopsFrom ·))) = true := by kernel_rfl
theorem KindsFor_c17 : ((Rows.fnExactKindsForRow.wideKeys == (Try.f10.params.toList ++ Rows.fnExactKindsForSpec.plain.varTypes Try.prog ++ Try.f10.resultTypes.toList).any (Try.prog.wideKeysFrom ·))) = true := by kernel_rfl
theorem KindsFor_c18 : (Rows.fnExactKindsForSpec.vars.all (Try.prog.varReadable ·)) = true := by kernel_rfl
theorem KindsFor_c19 : (Try.f10.resultTypes.all (fun t => Try.prog.readableRec t && decide (t < Try.prog.types.size))) = true := by kernel_rfl
theorem KindsFor_c20 : ((Rows.fnExactKindsForRow.ifacesOut == Try.f10.resultTypes.toList.any (Try.prog.ifacesRec ·))) = true := by kernel_rfl
theorem KindsFor_c21 : ((Rows.fnExactKindsForRow.loopsOut == Try.f10.resultTypes.toList.any (Try.prog.loopsFrom ·))) = true := by kernel_rfl
theorem KindsFor_c23 : (Rows.fnExactKindsForRow.shortTexts.isNone) = true := by kernel_rfl
theorem KindsFor_c28 : ((Rows.fnExactKindsForRow.kinds == (if Rows.fnExactKindsForRow.domain.isEmpty then [] else Try.f10.params.toList.map fun t => match Try.prog.underlying t with | some (.int k) => some k | _ => none))) = true := by kernel_rfl
theorem KindsFor_c29 : ((Rows.fnExactKindsForRow.pinned == Rows.fnExactKindsForRow.pinnedBy)) = true := by kernel_rfl
theorem KindsFor_c30 : ((Rows.fnExactKindsForRow.veiled == (Try.f10.params.toList ++ Rows.fnExactKindsForSpec.plain.varTypes Try.prog ++ Try.f10.resultTypes.toList).any (Try.prog.veiledRec ·))) = true := by kernel_rfl
theorem KindsFor_c31 : (Rows.fnExactKindsForRow.veiledFits Try.prog Try.f10.params.toList (Try.f10.params.toList ++ Rows.fnExactKindsForSpec.plain.varTypes Try.prog ++ Try.f10.resultTypes.toList)) = true := by kernel_rfl
theorem KindsFor_closed : joinedFacts Try.prog 10 Try.f10 Rows.fnExactKindsForSpec Rows.fnExactKindsForRow = true := by
  unfold joinedFacts
  exact (and_t (and_t (and_t (and_t (and_t (and_t (and_t (and_t (and_t (and_t (and_t (and_t (and_t (and_t (and_t (and_t (and_t (and_t (and_t (and_t (and_t (and_t (and_t (and_t (and_t (and_t (and_t (and_t (and_t (and_t (and_t KindsFor_c0 envLaid) fb_maps) KindsFor_c3) KindsFor_c4) KindsFor_c5) fb_stops) KindsFor_c7) fb_knobs) KindsFor_c9) KindsFor_c10) KindsFor_c11) KindsFor_c12) KindsFor_c13) KindsFor_c14) KindsFor_c15) KindsFor_c16) KindsFor_c17) KindsFor_c18) KindsFor_c19) KindsFor_c20) KindsFor_c21) fb_keys) KindsFor_c23) fb_heard) fb_enter) fb_lift) fb_make) KindsFor_c28) KindsFor_c29) KindsFor_c30) KindsFor_c31)
theorem KindsFor_holds : Rows.FnExactKindsForSaid :=
  OpenClaim.holds_of_wide 10 Try.f10 rfl rfl rfl rfl rfl rfl rfl ⟨rfl, rfl, rfl, rfl, rfl⟩ rfl rfl rfl rfl rfl (by kernel_rfl) Try.func10 KindsFor_closed
    (of_decide_eq_true (by kernel_rfl)) (by unfold Func.isWrapper; first | (rw [if_pos (by decide +kernel)]; kernel_rfl) | (rw [if_neg (by decide +kernel)]; exact ⟨rfl, rfl⟩))
    (fun os started H enc _ => KindsFor_lifted os started H enc)
end Go.Proofs.Ytdhcfdiggcgmhaa
