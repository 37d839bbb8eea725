/- FnExactPushBack: for all arguments the law returns true, and its arguments read as they did. -/
import Derived.Test.YtdhcfdiggcgmhaaRows
import Derived.WalkKit
import Derived.ProofKit
import Derived.Test.YtdhcfdiggcgmhaaEnvB
import Derived.Test.YtdhcfdiggcgmhaaWkPushBackx1
import Derived.Test.YtdhcfdiggcgmhaaPd7
namespace Go.Proofs.Ytdhcfdiggcgmhaa
open Go Go.RowKit Go.ChangeShapes Go.WideShapes Go.ChangeAt
set_option linter.unusedVariables false
set_option linter.unusedSimpArgs false
theorem PushBack_own : ownKnob Try.prog.godebug = Option.none := by kernel_rfl
theorem PushBack_laid : laidOutB Try.prog = true := envLaid
theorem PushBack_sem : ∀ vs, inArgs [(true, [.int .i8, .int .i8, .int .u8, .ints .u8 64]), (false, [.sl false [.int .i64]]), (false, [.int .i64])] vs → ∃ k, sem E k 13 vs = some (.bool true) := by
  intro vs h
  obtain ⟨v1, r2, rfl, h3, h⟩ := h
  obtain ⟨l4, rfl, h5⟩ := h3
  try simp only [inL] at h5
  obtain ⟨x6, l7, e, h8, h9⟩ := h5
  subst e
  simp only [inP] at h8
  obtain ⟨c10, rfl, w11⟩ := h8
  try simp only [inL] at h9
  obtain ⟨x12, l13, e, h14, h15⟩ := h9
  subst e
  simp only [inP] at h14
  obtain ⟨c16, rfl, w17⟩ := h14
  try simp only [inL] at h15
  obtain ⟨x18, l19, e, h20, h21⟩ := h15
  subst e
  simp only [inP] at h20
  obtain ⟨c22, rfl, w23⟩ := h20
  try simp only [inL] at h21
  obtain ⟨x24, l25, e, h26, h27⟩ := h21
  subst e
  simp only [inP] at h26
  obtain ⟨c28, rfl, w29⟩ := h26
  try simp only [inL] at h27
  try subst h27
  obtain ⟨v30, r31, rfl, h32, h⟩ := h
  replace h32 := show inL _ [v30] from h32
  try simp only [inL] at h32
  obtain ⟨x33, l34, e, h35, h36⟩ := h32
  obtain ⟨rfl, rfl⟩ := List.cons.inj e; clear e
  simp only [inP] at h35
  obtain ⟨c37, rfl, w38⟩ := h35
  try simp only [inL] at h36
  try subst h36
  obtain ⟨v39, r40, rfl, h41, h⟩ := h
  replace h41 := show inL _ [v39] from h41
  try simp only [inL] at h41
  obtain ⟨x42, l43, e, h44, h45⟩ := h41
  obtain ⟨rfl, rfl⟩ := List.cons.inj e; clear e
  simp only [inP] at h44
  obtain ⟨c46, rfl, w47⟩ := h44
  try simp only [inL] at h45
  try subst h45
  have h := show _ = _ from h; subst h
  obtain ⟨n, hn⟩ := ev_run (law_FnExactPushBack w11 w17 w23 w29 w38 w47)
  exact ⟨_, w_laws_FnExactPushBack hn _ (Nat.le_refl _)⟩
set_option maxRecDepth 100000 in
theorem PushBack_lifted (os : Os) (started : os.Started) (H : Type) (enc : TypeId × Value → H) :
    ReturnsInHanded {} Try.checked os 13 .any (Rows.fnExactPushBackSpec.pre6 enc Try.prog Try.f13 Rows.fnExactPushBackRow.domain false) (Rows.fnExactPushBackSpec.post enc Try.prog Try.f13 false true false false) := by
  refine returnsInHanded_of_change (C := Try.checked) PushBack_own started (by kernel_rfl) Try.func13
    (ChangeSpec.witness6 (enc := enc) (C := Try.checked) false ⟨#[], #[.agg #[.int .i8 0, .int .i8 0, .int .u8 0, .int .u8 0, .int .u8 0, .int .u8 0, .int .u8 0, .int .u8 0, .int .u8 0, .int .u8 0, .int .u8 0, .int .u8 0, .int .u8 0, .int .u8 0, .int .u8 0, .int .u8 0, .int .u8 0, .int .u8 0, .int .u8 0, .int .u8 0, .int .u8 0, .int .u8 0, .int .u8 0, .int .u8 0, .int .u8 0, .int .u8 0, .int .u8 0, .int .u8 0, .int .u8 0, .int .u8 0, .int .u8 0, .int .u8 0, .int .u8 0, .int .u8 0, .int .u8 0, .int .u8 0, .int .u8 0, .int .u8 0, .int .u8 0, .int .u8 0, .int .u8 0, .int .u8 0, .int .u8 0, .int .u8 0, .int .u8 0, .int .u8 0, .int .u8 0, .int .u8 0, .int .u8 0, .int .u8 0, .int .u8 0, .int .u8 0, .int .u8 0, .int .u8 0, .int .u8 0, .int .u8 0, .int .u8 0, .int .u8 0, .int .u8 0, .int .u8 0, .int .u8 0, .int .u8 0, .int .u8 0, .int .u8 0, .int .u8 0, .int .u8 0, .int .u8 0], .slice none 0 0, .int .i64 0], []⟩ 8 (by kernel_rfl) (by kernel_rfl) (by kernel_rfl) (by kernel_rfl)) ?_
  intro W base args ds gs before hval0 hW hcnd _
  have hval : ∀ (j : Nat) t v, Try.f13.params[j]? = some t → args[j]? = some v → Value.okWide Try.prog W .any base t v := hval0
  refine law_calls (g := 8) (shs := [(true, [.int .i8, .int .i8, .int .u8, .ints .u8 64]), (false, [.sl false [.int .i64]]), (false, [.int .i64])]) (tb := 4) envOk PushBack_laid rfl ?_ (by kernel_rfl) (by kernel_rfl) (by kernel_rfl) (by kernel_rfl) rfl PushBack_sem hval hW
  intro ds hds
  rw [Try.params13] at hds
  match ds, hds with
  | [d0, d1, d2], _ => rfl
set_option maxRecDepth 100000
theorem PushBack_c0 : (Rows.fnExactPushBackRow.wf (OpenSpec.ofChange Rows.fnExactPushBackSpec)) = true := by kernel_rfl
theorem PushBack_c3 : (Try.f13.params.all (Try.prog.readableRec ·)) = true := by kernel_rfl
theorem PushBack_c4 : (namedTie Try.prog Rows.fnExactPushBackRow.named Rows.fnExactPushBackSpec.vars) = true := by kernel_rfl
theorem PushBack_c5 : ((Rows.fnExactPushBackRow.stops == [])) = true := by kernel_rfl
theorem PushBack_c7 : ((Rows.fnExactPushBackRow.knobs == [])) = true := by kernel_rfl
theorem PushBack_c9 : ((Rows.fnExactPushBackRow.inPlace == Try.prog.inPlace 13)) = true := by kernel_rfl
theorem PushBack_c10 : ((Rows.fnExactPushBackRow.unfollowed == Try.prog.unfollowed 13)) = true := by kernel_rfl
theorem PushBack_c11 : ((Rows.fnExactPushBackRow.recurses == Try.prog.recurses 13)) = true := by kernel_rfl
theorem PushBack_c12 : ((Rows.fnExactPushBackRow.named == Try.prog.varsNamed 13)) = true := by kernel_rfl
theorem PushBack_c13 : ((Rows.fnExactPushBackRow.maps == (Try.f13.params.toList ++ Rows.fnExactPushBackSpec.plain.varTypes Try.prog).any (Try.prog.mapsRec ·))) = true := by kernel_rfl
theorem PushBack_c14 : ((Rows.fnExactPushBackRow.ifaces == (Try.f13.params.toList ++ Rows.fnExactPushBackSpec.plain.varTypes Try.prog).any (Try.prog.ifacesRec ·))) = true := by kernel_rfl
theorem PushBack_c15 : ((Rows.fnExactPushBackRow.mapsOut == Try.prog.mapsAmong Try.f13.resultTypes.toList)) = true := by kernel_rfl
theorem PushBack_c16 : ((Rows.fnExactPushBackRow.loops == (Try.f13.params.toList ++ Rows.fnExactPushBackSpec.plain.varTypes Try.prog).any (Try.prog.loopsFrom ·))) = true := by kernel_rfl
theorem PushBack_c17 : ((Rows.fnExactPushBackRow.wideKeys == (Try.f13.params.toList ++ Rows.fnExactPushBackSpec.plain.varTypes Try.prog ++ Try.f13.resultTypes.toList).any (Try.prog.wideKeysFrom ·))) = true := by kernel_rfl
theorem PushBack_c18 : (Rows.fnExactPushBackSpec.vars.all (Try.prog.varReadable ·)) = true := by kernel_rfl
theorem PushBack_c19 : (Try.f13.resultTypes.all (fun t => Try.prog.readableRec t && decide (t < Try.prog.types.size))) = true := by kernel_rfl
theorem PushBack_c20 : ((Rows.fnExactPushBackRow.ifacesOut == Try.f13.resultTypes.toList.any (Try.prog.ifacesRec ·))) = true := by kernel_rfl
theorem PushBack_c21 : ((Rows.fnExactPushBackRow.loopsOut == Try.f13.resultTypes.toList.any (Try.prog.loopsFrom ·))) = true := by kernel_rfl
theorem PushBack_c23 : (Rows.fnExactPushBackRow.shortTexts.isNone) = true := by kernel_rfl
theorem PushBack_c28 : ((Rows.fnExactPushBackRow.kinds == (if Rows.fnExactPushBackRow.domain.isEmpty then [] else Try.f13.params.toList.map fun t => match Try.prog.underlying t with | some (.int k) => some k | _ => none))) = true := by kernel_rfl
theorem PushBack_c29 : ((Rows.fnExactPushBackRow.pinned == Rows.fnExactPushBackRow.pinnedBy)) = true := by kernel_rfl
theorem PushBack_c30 : ((Rows.fnExactPushBackRow.veiled == (Try.f13.params.toList ++ Rows.fnExactPushBackSpec.plain.varTypes Try.prog ++ Try.f13.resultTypes.toList).any (Try.prog.veiledRec ·))) = true := by kernel_rfl
theorem PushBack_c31 : (Rows.fnExactPushBackRow.veiledFits Try.prog Try.f13.params.toList (Try.f13.params.toList ++ Rows.fnExactPushBackSpec.plain.varTypes Try.prog ++ Try.f13.resultTypes.toList)) = true := by kernel_rfl
theorem PushBack_closed : joinedFacts Try.prog 13 Try.f13 Rows.fnExactPushBackSpec Rows.fnExactPushBackRow = true := by
  unfold joinedFacts
  exact (and_t (and_t (and_t (and_t (and_t (and_t (and_t (and_t (and_t (and_t (and_t (and_t (and_t (and_t (and_t (and_t (and_t (and_t (and_t (and_t (and_t (and_t (and_t (and_t (and_t (and_t (and_t (and_t (and_t (and_t (and_t PushBack_c0 envLaid) fb_maps) PushBack_c3) PushBack_c4) PushBack_c5) fb_stops) PushBack_c7) fb_knobs) PushBack_c9) PushBack_c10) PushBack_c11) PushBack_c12) PushBack_c13) PushBack_c14) PushBack_c15) PushBack_c16) PushBack_c17) PushBack_c18) PushBack_c19) PushBack_c20) PushBack_c21) fb_keys) PushBack_c23) fb_heard) fb_enter) fb_lift) fb_make) PushBack_c28) PushBack_c29) PushBack_c30) PushBack_c31)
theorem PushBack_holds : Rows.FnExactPushBackSaid :=
  OpenClaim.holds_of_wide 13 Try.f13 rfl rfl rfl rfl rfl rfl rfl ⟨rfl, rfl, rfl, rfl, rfl⟩ rfl rfl rfl rfl rfl (by kernel_rfl) Try.func13 PushBack_closed
    (of_decide_eq_true (by kernel_rfl)) (by unfold Func.isWrapper; first | (rw [if_pos (by decide +kernel)]; kernel_rfl) | (rw [if_neg (by decide +kernel)]; exact ⟨rfl, rfl⟩))
    (fun os started H enc _ => PushBack_lifted os started H enc)
end Go.Proofs.Ytdhcfdiggcgmhaa
