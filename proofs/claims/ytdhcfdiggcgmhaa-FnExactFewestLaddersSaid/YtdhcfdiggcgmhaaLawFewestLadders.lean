/- FnExactFewestLadders: for all arguments the law returns true, and its arguments read as they did. -/
import Derived.Test.YtdhcfdiggcgmhaaRows
import Derived.WalkKit
import Derived.ProofKit
import Derived.Test.YtdhcfdiggcgmhaaEnvB
import Derived.Test.YtdhcfdiggcgmhaaWkFewestLaddersx1
import Derived.Test.YtdhcfdiggcgmhaaPf1
namespace Go.Proofs.Ytdhcfdiggcgmhaa
open Go Go.RowKit Go.ChangeShapes Go.WideShapes Go.ChangeAt
set_option linter.unusedVariables false
set_option linter.unusedSimpArgs false
theorem FewestLadders_own : ownKnob Try.prog.godebug = Option.none := by kernel_rfl
theorem FewestLadders_laid : laidOutB Try.prog = true := envLaid
theorem FewestLadders_sem : ∀ vs, inArgs [(true, [.int .i8, .int .i8, .int .u8, .ints .u8 64]), (false, [.int .i64]), (false, [.sl true [.int .i8, .int .i8]])] vs → ∃ k, sem E k 14 vs = some (.bool true) := by
  intro vs h
  obtain ⟨v1, r2, rfl, h3, h⟩ := h
  obtain ⟨l4, rfl, h5⟩ := h3
  try simp only [inL] at h5
  obtain ⟨x6, l7, e, h8, h9⟩ := h5
  subst e
  simp only [inP] at h8
  obtain ⟨c10, rfl, w11⟩ := h8
  try simp only [inL] at h9
  obtain ⟨x12, l13, e, h14, h15⟩ := h9
  subst e
  simp only [inP] at h14
  obtain ⟨c16, rfl, w17⟩ := h14
  try simp only [inL] at h15
  obtain ⟨x18, l19, e, h20, h21⟩ := h15
  subst e
  simp only [inP] at h20
  obtain ⟨c22, rfl, w23⟩ := h20
  try simp only [inL] at h21
  obtain ⟨x24, l25, e, h26, h27⟩ := h21
  subst e
  simp only [inP] at h26
  obtain ⟨c28, rfl, w29⟩ := h26
  try simp only [inL] at h27
  try subst h27
  obtain ⟨v30, r31, rfl, h32, h⟩ := h
  replace h32 := show inL _ [v30] from h32
  try simp only [inL] at h32
  obtain ⟨x33, l34, e, h35, h36⟩ := h32
  obtain ⟨rfl, rfl⟩ := List.cons.inj e; clear e
  simp only [inP] at h35
  obtain ⟨c37, rfl, w38⟩ := h35
  try simp only [inL] at h36
  try subst h36
  obtain ⟨v39, r40, rfl, h41, h⟩ := h
  replace h41 := show inL _ [v39] from h41
  try simp only [inL] at h41
  obtain ⟨x42, l43, e, h44, h45⟩ := h41
  obtain ⟨rfl, rfl⟩ := List.cons.inj e; clear e
  simp only [inP] at h44
  obtain ⟨c46, rfl, w47⟩ := h44
  try simp only [inL] at h45
  try subst h45
  have h := show _ = _ from h; subst h
  obtain ⟨n, hn⟩ := ev_run (law_FnExactFewestLadders w11 w17 w23 w29 w38 w47)
  exact ⟨_, w_laws_FnExactFewestLadders hn _ (Nat.le_refl _)⟩
set_option maxRecDepth 100000 in
theorem FewestLadders_lifted (os : Os) (started : os.Started) (H : Type) (enc : TypeId × Value → H) :
    ReturnsInHanded {} Try.checked os 14 .any (Rows.fnExactFewestLaddersSpec.pre6 enc Try.prog Try.f14 Rows.fnExactFewestLaddersRow.domain false) (Rows.fnExactFewestLaddersSpec.post enc Try.prog Try.f14 false true false false) := by
  refine returnsInHanded_of_change (C := Try.checked) FewestLadders_own started (by kernel_rfl) Try.func14
    (ChangeSpec.witness6 (enc := enc) (C := Try.checked) false ⟨#[], #[.agg #[.int .i8 0, .int .i8 0, .int .u8 0, .int .u8 0, .int .u8 0, .int .u8 0, .int .u8 0, .int .u8 0, .int .u8 0, .int .u8 0, .int .u8 0, .int .u8 0, .int .u8 0, .int .u8 0, .int .u8 0, .int .u8 0, .int .u8 0, .int .u8 0, .int .u8 0, .int .u8 0, .int .u8 0, .int .u8 0, .int .u8 0, .int .u8 0, .int .u8 0, .int .u8 0, .int .u8 0, .int .u8 0, .int .u8 0, .int .u8 0, .int .u8 0, .int .u8 0, .int .u8 0, .int .u8 0, .int .u8 0, .int .u8 0, .int .u8 0, .int .u8 0, .int .u8 0, .int .u8 0, .int .u8 0, .int .u8 0, .int .u8 0, .int .u8 0, .int .u8 0, .int .u8 0, .int .u8 0, .int .u8 0, .int .u8 0, .int .u8 0, .int .u8 0, .int .u8 0, .int .u8 0, .int .u8 0, .int .u8 0, .int .u8 0, .int .u8 0, .int .u8 0, .int .u8 0, .int .u8 0, .int .u8 0, .int .u8 0, .int .u8 0, .int .u8 0, .int .u8 0, .int .u8 0, .int .u8 0], .int .i64 0, .slice none 0 0], []⟩ 8 (by kernel_rfl) (by kernel_rfl) (by kernel_rfl) (by kernel_rfl)) ?_
  intro W base args ds gs before hval0 hW hcnd _
  have hval : ∀ (j : Nat) t v, Try.f14.params[j]? = some t → args[j]? = some v → Value.okWide Try.prog W .any base t v := hval0
  refine law_calls (g := 8) (shs := [(true, [.int .i8, .int .i8, .int .u8, .ints .u8 64]), (false, [.int .i64]), (false, [.sl true [.int .i8, .int .i8]])]) (tb := 4) envOk FewestLadders_laid rfl ?_ (by kernel_rfl) (by kernel_rfl) (by kernel_rfl) (by kernel_rfl) rfl FewestLadders_sem hval hW
  intro ds hds
  rw [Try.params14] at hds
  match ds, hds with
  | [d0, d1, d2], _ => rfl
set_option maxRecDepth 100000
theorem FewestLadders_c0 : (Rows.fnExactFewestLaddersRow.wf (OpenSpec.ofChange Rows.fnExactFewestLaddersSpec)) = true := by kernel_rfl
theorem FewestLadders_c3 : (Try.f14.params.all (Try.prog.readableRec ·)) = true := by kernel_rfl
theorem FewestLadders_c4 : (namedTie Try.prog Rows.fnExactFewestLaddersRow.named Rows.fnExactFewestLaddersSpec.vars) = true := by kernel_rfl
theorem FewestLadders_c5 : ((Rows.fnExactFewestLaddersRow.stops == [])) = true := by kernel_rfl
theorem FewestLadders_c7 : ((Rows.fnExactFewestLaddersRow.knobs == [])) = true := by kernel_rfl
theorem FewestLadders_c9 : ((Rows.fnExactFewestLaddersRow.inPlace == Try.prog.inPlace 14)) = true := by kernel_rfl
theorem FewestLadders_c10 : ((Rows.fnExactFewestLaddersRow.unfollowed == Try.prog.unfollowed 14)) = true := by kernel_rfl
theorem FewestLadders_c11 : ((Rows.fnExactFewestLaddersRow.recurses == Try.prog.recurses 14)) = true := by kernel_rfl
theorem FewestLadders_c12 : ((Rows.fnExactFewestLaddersRow.named == Try.prog.varsNamed 14)) = true := by kernel_rfl
theorem FewestLadders_c13 : ((Rows.fnExactFewestLaddersRow.maps == (Try.f14.params.toList ++ Rows.fnExactFewestLaddersSpec.plain.varTypes Try.prog).any (Try.prog.mapsRec ·))) = true := by kernel_rfl
theorem FewestLadders_c14 : ((Rows.fnExactFewestLaddersRow.ifaces == (Try.f14.params.toList ++ Rows.fnExactFewestLaddersSpec.plain.varTypes Try.prog).any (Try.prog.ifacesRec ·))) = true := by kernel_rfl
theorem FewestLadders_c15 : ((Rows.fnExactFewestLaddersRow.mapsOut == Try.prog.mapsAmong Try.f14.resultTypes.toList)) = true := by kernel_rfl
theorem FewestLadders_c16 : ((Rows.fnExactFewestLaddersRow.loops == (Try.f14.params.toList ++ Rows.fnExactFewestLaddersSpec.plain.varTypes Try.prog).any (Try.prog.loopsFrom ·))) = true := by kernel_rfl
theorem FewestLadders_c17 : ((Rows.fnExactFewestLaddersRow.wideKeys == (Try.f14.params.toList ++ Rows.fnExactFewestLaddersSpec.plain.varTypes Try.prog ++ Try.f14.resultTypes.toList).any (Try.prog.wideKeysFrom ·))) = true := by kernel_rfl
theorem FewestLadders_c18 : (Rows.fnExactFewestLaddersSpec.vars.all (Try.prog.varReadable ·)) = true := by kernel_rfl
theorem FewestLadders_c19 : (Try.f14.resultTypes.all (fun t => Try.prog.readableRec t && decide (t < Try.prog.types.size))) = true := by kernel_rfl
theorem FewestLadders_c20 : ((Rows.fnExactFewestLaddersRow.ifacesOut == Try.f14.resultTypes.toList.any (Try.prog.ifacesRec ·))) = true := by kernel_rfl
theorem FewestLadders_c21 : ((Rows.fnExactFewestLaddersRow.loopsOut == Try.f14.resultTypes.toList.any (Try.prog.loopsFrom ·))) = true := by kernel_rfl
theorem FewestLadders_c23 : (Rows.fnExactFewestLaddersRow.shortTexts.isNone) = true := by kernel_rfl
theorem FewestLadders_c28 : ((Rows.fnExactFewestLaddersRow.kinds == (if Rows.fnExactFewestLaddersRow.domain.isEmpty then [] else Try.f14.params.toList.map fun t => match Try.prog.underlying t with | some (.int k) => some k | _ => none))) = true := by kernel_rfl
theorem FewestLadders_c29 : ((Rows.fnExactFewestLaddersRow.pinned == Rows.fnExactFewestLaddersRow.pinnedBy)) = true := by kernel_rfl
theorem FewestLadders_c30 : ((Rows.fnExactFewestLaddersRow.veiled == (Try.f14.params.toList ++ Rows.fnExactFewestLaddersSpec.plain.varTypes Try.prog ++ Try.f14.resultTypes.toList).any (Try.prog.veiledRec ·))) = true := by kernel_rfl
theorem FewestLadders_c31 : (Rows.fnExactFewestLaddersRow.veiledFits Try.prog Try.f14.params.toList (Try.f14.params.toList ++ Rows.fnExactFewestLaddersSpec.plain.varTypes Try.prog ++ Try.f14.resultTypes.toList)) = true := by kernel_rfl
theorem FewestLadders_closed : joinedFacts Try.prog 14 Try.f14 Rows.fnExactFewestLaddersSpec Rows.fnExactFewestLaddersRow = true := by
  unfold joinedFacts
  exact (and_t (and_t (and_t (and_t (and_t (and_t (and_t (and_t (and_t (and_t (and_t (and_t (and_t (and_t (and_t (and_t (and_t (and_t (and_t (and_t (and_t (and_t (and_t (and_t (and_t (and_t (and_t (and_t (and_t (and_t (and_t FewestLadders_c0 envLaid) fb_maps) FewestLadders_c3) FewestLadders_c4) FewestLadders_c5) fb_stops) FewestLadders_c7) fb_knobs) FewestLadders_c9) FewestLadders_c10) FewestLadders_c11) FewestLadders_c12) FewestLadders_c13) FewestLadders_c14) FewestLadders_c15) FewestLadders_c16) FewestLadders_c17) FewestLadders_c18) FewestLadders_c19) FewestLadders_c20) FewestLadders_c21) fb_keys) FewestLadders_c23) fb_heard) fb_enter) fb_lift) fb_make) FewestLadders_c28) FewestLadders_c29) FewestLadders_c30) FewestLadders_c31)
theorem FewestLadders_holds : Rows.FnExactFewestLaddersSaid :=
  OpenClaim.holds_of_wide 14 Try.f14 rfl rfl rfl rfl rfl rfl rfl ⟨rfl, rfl, rfl, rfl, rfl⟩ rfl rfl rfl rfl rfl (by kernel_rfl) Try.func14 FewestLadders_closed
    (of_decide_eq_true (by kernel_rfl)) (by unfold Func.isWrapper; first | (rw [if_pos (by decide +kernel)]; kernel_rfl) | (rw [if_neg (by decide +kernel)]; exact ⟨rfl, rfl⟩))
    (fun os started H enc _ => FewestLadders_lifted os started H enc)
end Go.Proofs.Ytdhcfdiggcgmhaa
