/- FnExactCheckRepairs: for all arguments the law returns true, and its arguments read as they did. -/
import Derived.Test.YtdhcfdiggcgmhaaRows
import Derived.WalkKit
import Derived.ProofKit
import Derived.Test.YtdhcfdiggcgmhaaEnvB
import Derived.Test.YtdhcfdiggcgmhaaWkCheckRepairsx1
import Derived.Test.YtdhcfdiggcgmhaaPe1
namespace Go.Proofs.Ytdhcfdiggcgmhaa
open Go Go.RowKit Go.ChangeShapes Go.WideShapes Go.ChangeAt
set_option linter.unusedVariables false
set_option linter.unusedSimpArgs false
theorem CheckRepairs_own : ownKnob Try.prog.godebug = Option.none := by kernel_rfl
theorem CheckRepairs_laid : laidOutB Try.prog = true := envLaid
theorem CheckRepairs_sem : ∀ vs, inArgs [(true, [.int .i8, .int .i8, .int .u8, .ints .u8 64]), (false, [.ints .i16 17]), (false, [.sl true [.int .i8, .int .i8]]), (false, [.int .i64])] vs → ∃ k, sem E k 12 vs = some (.bool true) := by
  intro vs h
  obtain ⟨v1, r2, rfl, h3, h⟩ := h
  obtain ⟨l4, rfl, h5⟩ := h3
  try simp only [inL] at h5
  obtain ⟨x6, l7, e, h8, h9⟩ := h5
  subst e
  simp only [inP] at h8
  obtain ⟨c10, rfl, w11⟩ := h8
  try simp only [inL] at h9
  obtain ⟨x12, l13, e, h14, h15⟩ := h9
  subst e
  simp only [inP] at h14
  obtain ⟨c16, rfl, w17⟩ := h14
  try simp only [inL] at h15
  obtain ⟨x18, l19, e, h20, h21⟩ := h15
  subst e
  simp only [inP] at h20
  obtain ⟨c22, rfl, w23⟩ := h20
  try simp only [inL] at h21
  obtain ⟨x24, l25, e, h26, h27⟩ := h21
  subst e
  simp only [inP] at h26
  obtain ⟨c28, rfl, w29⟩ := h26
  try simp only [inL] at h27
  try subst h27
  obtain ⟨v30, r31, rfl, h32, h⟩ := h
  replace h32 := show inL _ [v30] from h32
  try simp only [inL] at h32
  obtain ⟨x33, l34, e, h35, h36⟩ := h32
  obtain ⟨rfl, rfl⟩ := List.cons.inj e; clear e
  simp only [inP] at h35
  obtain ⟨c37, rfl, w38⟩ := h35
  try simp only [inL] at h36
  try subst h36
  obtain ⟨v39, r40, rfl, h41, h⟩ := h
  replace h41 := show inL _ [v39] from h41
  try simp only [inL] at h41
  obtain ⟨x42, l43, e, h44, h45⟩ := h41
  obtain ⟨rfl, rfl⟩ := List.cons.inj e; clear e
  simp only [inP] at h44
  obtain ⟨c46, rfl, w47⟩ := h44
  try simp only [inL] at h45
  try subst h45
  obtain ⟨v48, r49, rfl, h50, h⟩ := h
  replace h50 := show inL _ [v48] from h50
  try simp only [inL] at h50
  obtain ⟨x51, l52, e, h53, h54⟩ := h50
  obtain ⟨rfl, rfl⟩ := List.cons.inj e; clear e
  simp only [inP] at h53
  obtain ⟨c55, rfl, w56⟩ := h53
  try simp only [inL] at h54
  try subst h54
  have h := show _ = _ from h; subst h
  obtain ⟨n, hn⟩ := ev_run (law_FnExactCheckRepairs w11 w17 w23 w29 w38 w47 w56)
  exact ⟨_, w_laws_FnExactCheckRepairs hn _ (Nat.le_refl _)⟩
set_option maxRecDepth 100000 in
theorem CheckRepairs_lifted (os : Os) (started : os.Started) (H : Type) (enc : TypeId × Value → H) :
    ReturnsInHanded {} Try.checked os 12 .any (Rows.fnExactCheckRepairsSpec.pre6 enc Try.prog Try.f12 Rows.fnExactCheckRepairsRow.domain false) (Rows.fnExactCheckRepairsSpec.post enc Try.prog Try.f12 false true false false) := by
  refine returnsInHanded_of_change (C := Try.checked) CheckRepairs_own started (by kernel_rfl) Try.func12
    (ChangeSpec.witness6 (enc := enc) (C := Try.checked) false ⟨#[], #[.agg #[.int .i8 0, .int .i8 0, .int .u8 0, .int .u8 0, .int .u8 0, .int .u8 0, .int .u8 0, .int .u8 0, .int .u8 0, .int .u8 0, .int .u8 0, .int .u8 0, .int .u8 0, .int .u8 0, .int .u8 0, .int .u8 0, .int .u8 0, .int .u8 0, .int .u8 0, .int .u8 0, .int .u8 0, .int .u8 0, .int .u8 0, .int .u8 0, .int .u8 0, .int .u8 0, .int .u8 0, .int .u8 0, .int .u8 0, .int .u8 0, .int .u8 0, .int .u8 0, .int .u8 0, .int .u8 0, .int .u8 0, .int .u8 0, .int .u8 0, .int .u8 0, .int .u8 0, .int .u8 0, .int .u8 0, .int .u8 0, .int .u8 0, .int .u8 0, .int .u8 0, .int .u8 0, .int .u8 0, .int .u8 0, .int .u8 0, .int .u8 0, .int .u8 0, .int .u8 0, .int .u8 0, .int .u8 0, .int .u8 0, .int .u8 0, .int .u8 0, .int .u8 0, .int .u8 0, .int .u8 0, .int .u8 0, .int .u8 0, .int .u8 0, .int .u8 0, .int .u8 0, .int .u8 0, .int .u8 0], .agg #[.int .i16 0, .int .i16 0, .int .i16 0, .int .i16 0, .int .i16 0, .int .i16 0, .int .i16 0, .int .i16 0, .int .i16 0, .int .i16 0, .int .i16 0, .int .i16 0, .int .i16 0, .int .i16 0, .int .i16 0, .int .i16 0, .int .i16 0], .slice none 0 0, .int .i64 0], []⟩ 8 (by kernel_rfl) (by kernel_rfl) (by kernel_rfl) (by kernel_rfl)) ?_
  intro W base args ds gs before hval0 hW hcnd _
  have hval : ∀ (j : Nat) t v, Try.f12.params[j]? = some t → args[j]? = some v → Value.okWide Try.prog W .any base t v := hval0
  refine law_calls (g := 8) (shs := [(true, [.int .i8, .int .i8, .int .u8, .ints .u8 64]), (false, [.ints .i16 17]), (false, [.sl true [.int .i8, .int .i8]]), (false, [.int .i64])]) (tb := 4) envOk CheckRepairs_laid rfl ?_ (by kernel_rfl) (by kernel_rfl) (by kernel_rfl) (by kernel_rfl) rfl CheckRepairs_sem hval hW
  intro ds hds
  rw [Try.params12] at hds
  match ds, hds with
  | [d0, d1, d2, d3], _ => rfl
set_option maxRecDepth 100000
theorem CheckRepairs_c0 : (Rows.fnExactCheckRepairsRow.wf (OpenSpec.ofChange Rows.fnExactCheckRepairsSpec)) = true := by kernel_rfl
theorem CheckRepairs_c3 : (Try.f12.params.all (Try.prog.readableRec ·)) = true := by kernel_rfl
theorem CheckRepairs_c4 : (namedTie Try.prog Rows.fnExactCheckRepairsRow.named Rows.fnExactCheckRepairsSpec.vars) = true := by kernel_rfl
theorem CheckRepairs_c5 : ((Rows.fnExactCheckRepairsRow.stops == [])) = true := by kernel_rfl
theorem CheckRepairs_c7 : ((Rows.fnExactCheckRepairsRow.knobs == [])) = true := by kernel_rfl
theorem CheckRepairs_c9 : ((Rows.fnExactCheckRepairsRow.inPlace == Try.prog.inPlace 12)) = true := by kernel_rfl
theorem CheckRepairs_c10 : ((Rows.fnExactCheckRepairsRow.unfollowed == Try.prog.unfollowed 12)) = true := by kernel_rfl
theorem CheckRepairs_c11 : ((Rows.fnExactCheckRepairsRow.recurses == Try.prog.recurses 12)) = true := by kernel_rfl
theorem CheckRepairs_c12 : ((Rows.fnExactCheckRepairsRow.named == Try.prog.varsNamed 12)) = true := by kernel_rfl
theorem CheckRepairs_c13 : ((Rows.fnExactCheckRepairsRow.maps == (Try.f12.params.toList ++ Rows.fnExactCheckRepairsSpec.plain.varTypes Try.prog).any (Try.prog.mapsRec ·))) = true := by kernel_rfl
theorem CheckRepairs_c14 : ((Rows.fnExactCheckRepairsRow.ifaces == (Try.f12.params.toList ++ Rows.fnExactCheckRepairsSpec.plain.varTypes Try.prog).any (Try.prog.ifacesRec ·))) = true := by kernel_rfl
theorem CheckRepairs_c15 : ((Rows.fnExactCheckRepairsRow.mapsOut == Try.prog.mapsAmong Try.f12.resultTypes.toList)) = true := by kernel_rfl
theorem CheckRepairs_c16 : ((Rows.fnExactCheckRepairsRow.loops == (Try.f12.params.toList ++ Rows.fnExactCheckRepairsSpec.plain.varTypes Try.prog).any (Try.prog.loopsFrom ·))) = true := by kernel_rfl
theorem CheckRepairs_c17 : ((Rows.fnExactCheckRepairsRow.wideKeys == (Try.f12.params.toList ++ Rows.fnExactCheckRepairsSpec.plain.varTypes Try.prog ++ Try.f12.resultTypes.toList).any (Try.prog.wideKeysFrom ·))) = true := by kernel_rfl
theorem CheckRepairs_c18 : (Rows.fnExactCheckRepairsSpec.vars.all (Try.prog.varReadable ·)) = true := by kernel_rfl
theorem CheckRepairs_c19 : (Try.f12.resultTypes.all (fun t => Try.prog.readableRec t && decide (t < Try.prog.types.size))) = true := by kernel_rfl
theorem CheckRepairs_c20 : ((Rows.fnExactCheckRepairsRow.ifacesOut == Try.f12.resultTypes.toList.any (Try.prog.ifacesRec ·))) = true := by kernel_rfl
theorem CheckRepairs_c21 : ((Rows.fnExactCheckRepairsRow.loopsOut == Try.f12.resultTypes.toList.any (Try.prog.loopsFrom ·))) = true := by kernel_rfl
theorem CheckRepairs_c23 : (Rows.fnExactCheckRepairsRow.shortTexts.isNone) = true := by kernel_rfl
theorem CheckRepairs_c28 : ((Rows.fnExactCheckRepairsRow.kinds == (if Rows.fnExactCheckRepairsRow.domain.isEmpty then [] else Try.f12.params.toList.map fun t => match Try.prog.underlying t with | some (.int k) => some k | _ => none))) = true := by kernel_rfl
theorem CheckRepairs_c29 : ((Rows.fnExactCheckRepairsRow.pinned == Rows.fnExactCheckRepairsRow.pinnedBy)) = true := by kernel_rfl
theorem CheckRepairs_c30 : ((Rows.fnExactCheckRepairsRow.veiled == (Try.f12.params.toList ++ Rows.fnExactCheckRepairsSpec.plain.varTypes Try.prog ++ Try.f12.resultTypes.toList).any (Try.prog.veiledRec ·))) = true := by kernel_rfl
theorem CheckRepairs_c31 : (Rows.fnExactCheckRepairsRow.veiledFits Try.prog Try.f12.params.toList (Try.f12.params.toList ++ Rows.fnExactCheckRepairsSpec.plain.varTypes Try.prog ++ Try.f12.resultTypes.toList)) = true := by kernel_rfl
theorem CheckRepairs_closed : joinedFacts Try.prog 12 Try.f12 Rows.fnExactCheckRepairsSpec Rows.fnExactCheckRepairsRow = true := by
  unfold joinedFacts
  exact (and_t (and_t (and_t (and_t (and_t (and_t (and_t (and_t (and_t (and_t (and_t (and_t (and_t (and_t (and_t (and_t (and_t (and_t (and_t (and_t (and_t (and_t (and_t (and_t (and_t (and_t (and_t (and_t (and_t (and_t (and_t CheckRepairs_c0 envLaid) fb_maps) CheckRepairs_c3) CheckRepairs_c4) CheckRepairs_c5) fb_stops) CheckRepairs_c7) fb_knobs) CheckRepairs_c9) CheckRepairs_c10) CheckRepairs_c11) CheckRepairs_c12) CheckRepairs_c13) CheckRepairs_c14) CheckRepairs_c15) CheckRepairs_c16) CheckRepairs_c17) CheckRepairs_c18) CheckRepairs_c19) CheckRepairs_c20) CheckRepairs_c21) fb_keys) CheckRepairs_c23) fb_heard) fb_enter) fb_lift) fb_make) CheckRepairs_c28) CheckRepairs_c29) CheckRepairs_c30) CheckRepairs_c31)
theorem CheckRepairs_holds : Rows.FnExactCheckRepairsSaid :=
  OpenClaim.holds_of_wide 12 Try.f12 rfl rfl rfl rfl rfl rfl rfl ⟨rfl, rfl, rfl, rfl, rfl⟩ rfl rfl rfl rfl rfl (by kernel_rfl) Try.func12 CheckRepairs_closed
    (of_decide_eq_true (by kernel_rfl)) (by unfold Func.isWrapper; first | (rw [if_pos (by decide +kernel)]; kernel_rfl) | (rw [if_neg (by decide +kernel)]; exact ⟨rfl, rfl⟩))
    (fun os started H enc _ => CheckRepairs_lifted os started H enc)
end Go.Proofs.Ytdhcfdiggcgmhaa
