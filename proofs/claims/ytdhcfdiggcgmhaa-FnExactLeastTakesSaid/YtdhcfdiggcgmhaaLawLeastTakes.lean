/- FnExactLeastTakes: for all arguments the law returns true, and its arguments read as they did. -/
import Derived.Test.YtdhcfdiggcgmhaaRows
import Derived.WalkKit
import Derived.ProofKit
import Derived.Test.YtdhcfdiggcgmhaaEnvB
import Derived.Test.YtdhcfdiggcgmhaaWkLeastTakesx1
import Derived.Test.YtdhcfdiggcgmhaaPe4
namespace Go.Proofs.Ytdhcfdiggcgmhaa
open Go Go.RowKit Go.ChangeShapes Go.WideShapes Go.ChangeAt
set_option linter.unusedVariables false
set_option linter.unusedSimpArgs false
theorem LeastTakes_own : ownKnob Try.prog.godebug = Option.none := by kernel_rfl
theorem LeastTakes_laid : laidOutB Try.prog = true := envLaid
theorem LeastTakes_sem : ∀ vs, inArgs [(true, [.int .i8, .int .i16, .ints .i8 17, .int .u32, .sl true [.int .i8, .int .i16]]), (false, [.sl false [.int .i64]]), (false, [.int .i64])] vs → ∃ k, sem E k 9 vs = some (.bool true) := by
  intro vs h
  obtain ⟨v1, r2, rfl, h3, h⟩ := h
  obtain ⟨l4, rfl, h5⟩ := h3
  try simp only [inL] at h5
  obtain ⟨x6, l7, e, h8, h9⟩ := h5
  subst e
  simp only [inP] at h8
  obtain ⟨c10, rfl, w11⟩ := h8
  try simp only [inL] at h9
  obtain ⟨x12, l13, e, h14, h15⟩ := h9
  subst e
  simp only [inP] at h14
  obtain ⟨c16, rfl, w17⟩ := h14
  try simp only [inL] at h15
  obtain ⟨x18, l19, e, h20, h21⟩ := h15
  subst e
  simp only [inP] at h20
  obtain ⟨c22, rfl, w23⟩ := h20
  try simp only [inL] at h21
  obtain ⟨x24, l25, e, h26, h27⟩ := h21
  subst e
  simp only [inP] at h26
  obtain ⟨c28, rfl, w29⟩ := h26
  try simp only [inL] at h27
  obtain ⟨x30, l31, e, h32, h33⟩ := h27
  subst e
  simp only [inP] at h32
  obtain ⟨c34, rfl, w35⟩ := h32
  try simp only [inL] at h33
  try subst h33
  obtain ⟨v36, r37, rfl, h38, h⟩ := h
  replace h38 := show inL _ [v36] from h38
  try simp only [inL] at h38
  obtain ⟨x39, l40, e, h41, h42⟩ := h38
  obtain ⟨rfl, rfl⟩ := List.cons.inj e; clear e
  simp only [inP] at h41
  obtain ⟨c43, rfl, w44⟩ := h41
  try simp only [inL] at h42
  try subst h42
  obtain ⟨v45, r46, rfl, h47, h⟩ := h
  replace h47 := show inL _ [v45] from h47
  try simp only [inL] at h47
  obtain ⟨x48, l49, e, h50, h51⟩ := h47
  obtain ⟨rfl, rfl⟩ := List.cons.inj e; clear e
  simp only [inP] at h50
  obtain ⟨c52, rfl, w53⟩ := h50
  try simp only [inL] at h51
  try subst h51
  have h := show _ = _ from h; subst h
  obtain ⟨n, hn⟩ := ev_run (law_FnExactLeastTakes w11 w17 w23 w29 w35 w44 w53)
  exact ⟨_, w_laws_FnExactLeastTakes hn _ (Nat.le_refl _)⟩
set_option maxRecDepth 100000 in
theorem LeastTakes_lifted (os : Os) (started : os.Started) (H : Type) (enc : TypeId × Value → H) :
    ReturnsInHanded {} Try.checked os 9 .any (Rows.fnExactLeastTakesSpec.pre6 enc Try.prog Try.f9 Rows.fnExactLeastTakesRow.domain false) (Rows.fnExactLeastTakesSpec.post enc Try.prog Try.f9 false true false false) := by
  refine returnsInHanded_of_change (C := Try.checked) LeastTakes_own started (by kernel_rfl) Try.func9
    (ChangeSpec.witness6 (enc := enc) (C := Try.checked) false ⟨#[], #[.agg #[.int .i8 0, .int .i16 0, .int .i8 0, .int .i8 0, .int .i8 0, .int .i8 0, .int .i8 0, .int .i8 0, .int .i8 0, .int .i8 0, .int .i8 0, .int .i8 0, .int .i8 0, .int .i8 0, .int .i8 0, .int .i8 0, .int .i8 0, .int .i8 0, .int .i8 0, .int .u32 0, .slice none 0 0], .slice none 0 0, .int .i64 0], []⟩ 8 (by kernel_rfl) (by kernel_rfl) (by kernel_rfl) (by kernel_rfl)) ?_
  intro W base args ds gs before hval0 hW hcnd _
  have hval : ∀ (j : Nat) t v, Try.f9.params[j]? = some t → args[j]? = some v → Value.okWide Try.prog W .any base t v := hval0
  refine law_calls (g := 8) (shs := [(true, [.int .i8, .int .i16, .ints .i8 17, .int .u32, .sl true [.int .i8, .int .i16]]), (false, [.sl false [.int .i64]]), (false, [.int .i64])]) (tb := 4) envOk LeastTakes_laid rfl ?_ (by kernel_rfl) (by kernel_rfl) (by kernel_rfl) (by kernel_rfl) rfl LeastTakes_sem hval hW
  intro ds hds
  rw [Try.params9] at hds
  match ds, hds with
  | [d0, d1, d2], _ => rfl
set_option maxRecDepth 100000
theorem LeastTakes_c0 : (Rows.fnExactLeastTakesRow.wf (OpenSpec.ofChange Rows.fnExactLeastTakesSpec)) = true := by kernel_rfl
theorem LeastTakes_c3 : (Try.f9.params.all (Try.prog.readableRec ·)) = true := by kernel_rfl
theorem LeastTakes_c4 : (namedTie Try.prog Rows.fnExactLeastTakesRow.named Rows.fnExactLeastTakesSpec.vars) = true := by kernel_rfl
theorem LeastTakes_c5 : ((Rows.fnExactLeastTakesRow.stops == [])) = true := by kernel_rfl
theorem LeastTakes_c7 : ((Rows.fnExactLeastTakesRow.knobs == [])) = true := by kernel_rfl
theorem LeastTakes_c9 : ((Rows.fnExactLeastTakesRow.inPlace == Try.prog.inPlace 9)) = true := by kernel_rfl
theorem LeastTakes_c10 : ((Rows.fnExactLeastTakesRow.unfollowed == Try.prog.unfollowed 9)) = true := by kernel_rfl
theorem LeastTakes_c11 : ((Rows.fnExactLeastTakesRow.recurses == Try.prog.recurses 9)) = true := by kernel_rfl
theorem LeastTakes_c12 : ((Rows.fnExactLeastTakesRow.named == Try.prog.varsNamed 9)) = true := by kernel_rfl
theorem LeastTakes_c13 : ((Rows.fnExactLeastTakesRow.maps == (Try.f9.params.toList ++ Rows.fnExactLeastTakesSpec.plain.varTypes Try.prog).any (Try.prog.mapsRec ·))) = true := by kernel_rfl
theorem LeastTakes_c14 : ((Rows.fnExactLeastTakesRow.ifaces == (Try.f9.params.toList ++ Rows.fnExactLeastTakesSpec.plain.varTypes Try.prog).any (Try.prog.ifacesRec ·))) = true := by kernel_rfl
theorem LeastTakes_c15 : ((Rows.fnExactLeastTakesRow.mapsOut == Try.prog.mapsAmong Try.f9.resultTypes.toList)) = true := by kernel_rfl
theorem LeastTakes_c16 : ((Rows.fnExactLeastTakesRow.loops == (Try.f9.params.toList ++ Rows.fnExactLeastTakesSpec.plain.varTypes Try.prog).any (Try.prog.loopsFrom ·))) = true := by kernel_rfl
theorem LeastTakes_c17 : ((Rows.fnExactLeastTakesRow.wideKeys == (Try.f9.params.toList ++ Rows.fnExactLeastTakesSpec.plain.varTypes Try.prog ++ Try.f9.resultTypes.toList).any (Try.prog.wideKeysFrom ·))) = true := by kernel_rfl
theorem LeastTakes_c18 : (Rows.fnExactLeastTakesSpec.vars.all (Try.prog.varReadable ·)) = true := by kernel_rfl
theorem LeastTakes_c19 : (Try.f9.resultTypes.all (fun t => Try.prog.readableRec t && decide (t < Try.prog.types.size))) = true := by kernel_rfl
theorem LeastTakes_c20 : ((Rows.fnExactLeastTakesRow.ifacesOut == Try.f9.resultTypes.toList.any (Try.prog.ifacesRec ·))) = true := by kernel_rfl
theorem LeastTakes_c21 : ((Rows.fnExactLeastTakesRow.loopsOut == Try.f9.resultTypes.toList.any (Try.prog.loopsFrom ·))) = true := by kernel_rfl
theorem LeastTakes_c23 : (Rows.fnExactLeastTakesRow.shortTexts.isNone) = true := by kernel_rfl
theorem LeastTakes_c28 : ((Rows.fnExactLeastTakesRow.kinds == (if Rows.fnExactLeastTakesRow.domain.isEmpty then [] else Try.f9.params.toList.map fun t => match Try.prog.underlying t with | some (.int k) => some k | _ => none))) = true := by kernel_rfl
theorem LeastTakes_c29 : ((Rows.fnExactLeastTakesRow.pinned == Rows.fnExactLeastTakesRow.pinnedBy)) = true := by kernel_rfl
theorem LeastTakes_c30 : ((Rows.fnExactLeastTakesRow.veiled == (Try.f9.params.toList ++ Rows.fnExactLeastTakesSpec.plain.varTypes Try.prog ++ Try.f9.resultTypes.toList).any (Try.prog.veiledRec ·))) = true := by kernel_rfl
theorem LeastTakes_c31 : (Rows.fnExactLeastTakesRow.veiledFits Try.prog Try.f9.params.toList (Try.f9.params.toList ++ Rows.fnExactLeastTakesSpec.plain.varTypes Try.prog ++ Try.f9.resultTypes.toList)) = true := by kernel_rfl
theorem LeastTakes_closed : joinedFacts Try.prog 9 Try.f9 Rows.fnExactLeastTakesSpec Rows.fnExactLeastTakesRow = true := by
  unfold joinedFacts
  exact (and_t (and_t (and_t (and_t (and_t (and_t (and_t (and_t (and_t (and_t (and_t (and_t (and_t (and_t (and_t (and_t (and_t (and_t (and_t (and_t (and_t (and_t (and_t (and_t (and_t (and_t (and_t (and_t (and_t (and_t (and_t LeastTakes_c0 envLaid) fb_maps) LeastTakes_c3) LeastTakes_c4) LeastTakes_c5) fb_stops) LeastTakes_c7) fb_knobs) LeastTakes_c9) LeastTakes_c10) LeastTakes_c11) LeastTakes_c12) LeastTakes_c13) LeastTakes_c14) LeastTakes_c15) LeastTakes_c16) LeastTakes_c17) LeastTakes_c18) LeastTakes_c19) LeastTakes_c20) LeastTakes_c21) fb_keys) LeastTakes_c23) fb_heard) fb_enter) fb_lift) fb_make) LeastTakes_c28) LeastTakes_c29) LeastTakes_c30) LeastTakes_c31)
theorem LeastTakes_holds : Rows.FnExactLeastTakesSaid :=
  OpenClaim.holds_of_wide 9 Try.f9 rfl rfl rfl rfl rfl rfl rfl ⟨rfl, rfl, rfl, rfl, rfl⟩ rfl rfl rfl rfl rfl (by kernel_rfl) Try.func9 LeastTakes_closed
    (of_decide_eq_true (by kernel_rfl)) (by unfold Func.isWrapper; first | (rw [if_pos (by decide +kernel)]; kernel_rfl) | (rw [if_neg (by decide +kernel)]; exact ⟨rfl, rfl⟩))
    (fun os started H enc _ => LeastTakes_lifted os started H enc)
end Go.Proofs.Ytdhcfdiggcgmhaa
