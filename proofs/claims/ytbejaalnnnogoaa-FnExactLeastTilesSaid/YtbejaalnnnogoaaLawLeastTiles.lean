/- FnExactLeastTiles: for all arguments the law returns true, and its arguments read as they did. -/
import Derived.Test.YtbejaalnnnogoaaRows
import Derived.WalkKit
import Derived.ProofKit
import Derived.Test.YtbejaalnnnogoaaEnvB
import Derived.Test.YtbejaalnnnogoaaWkLeastTilesx1
import Derived.Test.YtbejaalnnnogoaaPg12
namespace Go.Proofs.Ytbejaalnnnogoaa
open Go Go.RowKit Go.ChangeShapes Go.WideShapes Go.ChangeAt
set_option linter.unusedVariables false
set_option linter.unusedSimpArgs false
theorem LeastTiles_own : ownKnob Try.prog.godebug = Option.none := by kernel_rfl
theorem LeastTiles_laid : laidOutB Try.prog = true := envLaid
theorem LeastTiles_sem : ∀ vs, inArgs [(true, [.int .u8, .sl true [.int .i16, .int .i16]])] vs → ∃ k, sem E k 4 vs = some (.bool true) := by
  intro vs h
  obtain ⟨v1, r2, rfl, h3, h⟩ := h
  obtain ⟨l4, rfl, h5⟩ := h3
  try simp only [inL] at h5
  obtain ⟨x6, l7, e, h8, h9⟩ := h5
  subst e
  simp only [inP] at h8
  obtain ⟨c10, rfl, w11⟩ := h8
  try simp only [inL] at h9
  obtain ⟨x12, l13, e, h14, h15⟩ := h9
  subst e
  simp only [inP] at h14
  obtain ⟨c16, rfl, w17⟩ := h14
  try simp only [inL] at h15
  try subst h15
  have h := show _ = _ from h; subst h
  obtain ⟨n, hn⟩ := ev_run (law_FnExactLeastTiles w11 w17)
  exact ⟨_, w_laws_FnExactLeastTiles hn _ (Nat.le_refl _)⟩
set_option maxRecDepth 100000 in
theorem LeastTiles_lifted (os : Os) (started : os.Started) (H : Type) (enc : TypeId × Value → H) :
    ReturnsInHanded {} Try.checked os 4 .any (Rows.fnExactLeastTilesSpec.pre6 enc Try.prog Try.f4 Rows.fnExactLeastTilesRow.domain false) (Rows.fnExactLeastTilesSpec.post enc Try.prog Try.f4 false true false false) := by
  refine returnsInHanded_of_change (C := Try.checked) LeastTiles_own started (by kernel_rfl) Try.func4
    (ChangeSpec.witness6 (enc := enc) (C := Try.checked) false ⟨#[], #[.agg #[.int .u8 0, .slice none 0 0]], []⟩ 8 (by kernel_rfl) (by kernel_rfl) (by kernel_rfl) (by kernel_rfl)) ?_
  intro W base args ds gs before hval0 hW hcnd _
  have hval : ∀ (j : Nat) t v, Try.f4.params[j]? = some t → args[j]? = some v → Value.okWide Try.prog W .any base t v := hval0
  refine law_calls (g := 8) (shs := [(true, [.int .u8, .sl true [.int .i16, .int .i16]])]) (tb := 4) envOk LeastTiles_laid rfl ?_ (by kernel_rfl) (by kernel_rfl) (by kernel_rfl) (by kernel_rfl) rfl LeastTiles_sem hval hW
  intro ds hds
  rw [Try.params4] at hds
  match ds, hds with
  | [d0], _ => rfl
set_option maxRecDepth 100000
theorem LeastTiles_c0 : (Rows.fnExactLeastTilesRow.wf (OpenSpec.ofChange Rows.fnExactLeastTilesSpec)) = true := by kernel_rfl
theorem LeastTiles_c3 : (Try.f4.params.all (Try.prog.readableRec ·)) = true := by kernel_rfl
theorem LeastTiles_c4 : (namedTie Try.prog Rows.fnExactLeastTilesRow.named Rows.fnExactLeastTilesSpec.vars) = true := by kernel_rfl
theorem LeastTiles_c5 : ((Rows.fnExactLeastTilesRow.stops == [])) = true := by kernel_rfl
theorem LeastTiles_c7 : ((Rows.fnExactLeastTilesRow.knobs == [])) = true := by kernel_rfl
theorem LeastTiles_c9 : ((Rows.fnExactLeastTilesRow.inPlace == Try.prog.inPlace 4)) = true := by kernel_rfl
theorem LeastTiles_c10 : ((Rows.fnExactLeastTilesRow.unfollowed == Try.prog.unfollowed 4)) = true := by kernel_rfl
theorem LeastTiles_c11 : ((Rows.fnExactLeastTilesRow.recurses == Try.prog.recurses 4)) = true := by kernel_rfl
theorem LeastTiles_c12 : ((Rows.fnExactLeastTilesRow.named == Try.prog.varsNamed 4)) = true := by kernel_rfl
theorem LeastTiles_c13 : ((Rows.fnExactLeastTilesRow.maps == (Try.f4.params.toList ++ Rows.fnExactLeastTilesSpec.plain.varTypes Try.prog).any (Try.prog.mapsRec ·))) = true := by kernel_rfl
theorem LeastTiles_c14 : ((Rows.fnExactLeastTilesRow.ifaces == (Try.f4.params.toList ++ Rows.fnExactLeastTilesSpec.plain.varTypes Try.prog).any (Try.prog.ifacesRec ·))) = true := by kernel_rfl
theorem LeastTiles_c15 : ((Rows.fnExactLeastTilesRow.mapsOut == Try.prog.mapsAmong Try.f4.resultTypes.toList)) = true := by kernel_rfl
theorem LeastTiles_c16 : ((Rows.fnExactLeastTilesRow.loops == (Try.f4.params.toList ++ Rows.fnExactLeastTilesSpec.plain.varTypes Try.prog).any (Try.prog.loopsFrom ·))) = true := by kernel_rfl
theorem LeastTiles_c17 : ((Rows.fnExactLeastTilesRow.wideKeys == (Try.f4.params.toList ++ Rows.fnExactLeastTilesSpec.plain.varTypes Try.prog ++ Try.f4.resultTypes.toList).any (Try.prog.wideKeysFrom ·))) = true := by kernel_rfl
theorem LeastTiles_c18 : (Rows.fnExactLeastTilesSpec.vars.all (Try.prog.varReadable ·)) = true := by kernel_rfl
theorem LeastTiles_c19 : (Try.f4.resultTypes.all (fun t => Try.prog.readableRec t && decide (t < Try.prog.types.size))) = true := by kernel_rfl
theorem LeastTiles_c20 : ((Rows.fnExactLeastTilesRow.ifacesOut == Try.f4.resultTypes.toList.any (Try.prog.ifacesRec ·))) = true := by kernel_rfl
theorem LeastTiles_c21 : ((Rows.fnExactLeastTilesRow.loopsOut == Try.f4.resultTypes.toList.any (Try.prog.loopsFrom ·))) = true := by kernel_rfl
theorem LeastTiles_c23 : (Rows.fnExactLeastTilesRow.shortTexts.isNone) = true := by kernel_rfl
theorem LeastTiles_c28 : ((Rows.fnExactLeastTilesRow.kinds == (if Rows.fnExactLeastTilesRow.domain.isEmpty then [] else Try.f4.params.toList.map fun t => match Try.prog.underlying t with | some (.int k) => some k | _ => none))) = true := by kernel_rfl
theorem LeastTiles_c29 : ((Rows.fnExactLeastTilesRow.pinned == Rows.fnExactLeastTilesRow.pinnedBy)) = true := by kernel_rfl
theorem LeastTiles_c30 : ((Rows.fnExactLeastTilesRow.veiled == (Try.f4.params.toList ++ Rows.fnExactLeastTilesSpec.plain.varTypes Try.prog ++ Try.f4.resultTypes.toList).any (Try.prog.veiledRec ·))) = true := by kernel_rfl
theorem LeastTiles_c31 : (Rows.fnExactLeastTilesRow.veiledFits Try.prog Try.f4.params.toList (Try.f4.params.toList ++ Rows.fnExactLeastTilesSpec.plain.varTypes Try.prog ++ Try.f4.resultTypes.toList)) = true := by kernel_rfl
theorem LeastTiles_closed : joinedFacts Try.prog 4 Try.f4 Rows.fnExactLeastTilesSpec Rows.fnExactLeastTilesRow = true := by
  unfold joinedFacts
  exact (and_t (and_t (and_t (and_t (and_t (and_t (and_t (and_t (and_t (and_t (and_t (and_t (and_t (and_t (and_t (and_t (and_t (and_t (and_t (and_t (and_t (and_t (and_t (and_t (and_t (and_t (and_t (and_t (and_t (and_t (and_t LeastTiles_c0 envLaid) fb_maps) LeastTiles_c3) LeastTiles_c4) LeastTiles_c5) fb_stops) LeastTiles_c7) fb_knobs) LeastTiles_c9) LeastTiles_c10) LeastTiles_c11) LeastTiles_c12) LeastTiles_c13) LeastTiles_c14) LeastTiles_c15) LeastTiles_c16) LeastTiles_c17) LeastTiles_c18) LeastTiles_c19) LeastTiles_c20) LeastTiles_c21) fb_keys) LeastTiles_c23) fb_heard) fb_enter) fb_lift) fb_make) LeastTiles_c28) LeastTiles_c29) LeastTiles_c30) LeastTiles_c31)
theorem LeastTiles_holds : Rows.FnExactLeastTilesSaid :=
  OpenClaim.holds_of_wide 4 Try.f4 rfl rfl rfl rfl rfl rfl rfl ⟨rfl, rfl, rfl, rfl, rfl⟩ rfl rfl rfl rfl rfl (by kernel_rfl) Try.func4 LeastTiles_closed
    (of_decide_eq_true (by kernel_rfl)) (by unfold Func.isWrapper; first | (rw [if_pos (by decide +kernel)]; kernel_rfl) | (rw [if_neg (by decide +kernel)]; exact ⟨rfl, rfl⟩))
    (fun os started H enc _ => LeastTiles_lifted os started H enc)
end Go.Proofs.Ytbejaalnnnogoaa
