/- FnCuts: for all arguments the law returns true, and its arguments read as they did. -/
import Derived.Test.YtbejaalnnnogoaaRows
import Derived.WalkKit
import Derived.ProofKit
import Derived.Test.YtbejaalnnnogoaaEnvB
import Derived.Test.YtbejaalnnnogoaaWkCutsx3
import Derived.Test.YtbejaalnnnogoaaPx6
namespace Go.Proofs.Ytbejaalnnnogoaa
open Go Go.RowKit Go.ChangeShapes Go.WideShapes Go.ChangeAt
set_option linter.unusedVariables false
set_option linter.unusedSimpArgs false
theorem Cuts_own : ownKnob Try.prog.godebug = Option.none := by kernel_rfl
theorem Cuts_laid : laidOutB Try.prog = true := envLaid
theorem Cuts_sem : ∀ vs, inArgs [(false, [.sl false [.int .u8]]), (false, [.sl false [.int .u8]])] vs → ∃ k, sem E k 3 vs = some (.bool true) := by
  intro vs h
  obtain ⟨v1, r2, rfl, h3, h⟩ := h
  replace h3 := show inL _ [v1] from h3
  try simp only [inL] at h3
  obtain ⟨x4, l5, e, h6, h7⟩ := h3
  obtain ⟨rfl, rfl⟩ := List.cons.inj e; clear e
  simp only [inP] at h6
  obtain ⟨c8, rfl, w9⟩ := h6
  try simp only [inL] at h7
  try subst h7
  obtain ⟨v10, r11, rfl, h12, h⟩ := h
  replace h12 := show inL _ [v10] from h12
  try simp only [inL] at h12
  obtain ⟨x13, l14, e, h15, h16⟩ := h12
  obtain ⟨rfl, rfl⟩ := List.cons.inj e; clear e
  simp only [inP] at h15
  obtain ⟨c17, rfl, w18⟩ := h15
  try simp only [inL] at h16
  try subst h16
  have h := show _ = _ from h; subst h
  obtain ⟨n, hn⟩ := ev_run (law_FnCuts w9 w18)
  exact ⟨_, w_laws_FnCuts hn _ (Nat.le_refl _)⟩
set_option maxRecDepth 100000 in
theorem Cuts_lifted (os : Os) (started : os.Started) (H : Type) (enc : TypeId × Value → H) :
    ReturnsInHanded {} Try.checked os 3 .any (Rows.fnCutsSpec.pre6 enc Try.prog Try.f3 Rows.fnCutsRow.domain false) (Rows.fnCutsSpec.post enc Try.prog Try.f3 false true false false) := by
  refine returnsInHanded_of_change (C := Try.checked) Cuts_own started (by kernel_rfl) Try.func3
    (ChangeSpec.witness6 (enc := enc) (C := Try.checked) false ⟨#[], #[.slice none 0 0, .slice none 0 0], []⟩ 8 (by kernel_rfl) (by kernel_rfl) (by kernel_rfl) (by kernel_rfl)) ?_
  intro W base args ds gs before hval0 hW hcnd _
  have hval : ∀ (j : Nat) t v, Try.f3.params[j]? = some t → args[j]? = some v → Value.okWide Try.prog W .any base t v := hval0
  refine law_calls (g := 8) (shs := [(false, [.sl false [.int .u8]]), (false, [.sl false [.int .u8]])]) (tb := 4) envOk Cuts_laid rfl ?_ (by kernel_rfl) (by kernel_rfl) (by kernel_rfl) (by kernel_rfl) rfl Cuts_sem hval hW
  intro ds hds
  rw [Try.params3] at hds
  match ds, hds with
  | [d0, d1], _ => rfl
set_option maxRecDepth 100000
theorem Cuts_c0 : (Rows.fnCutsRow.wf (OpenSpec.ofChange Rows.fnCutsSpec)) = true := by kernel_rfl
theorem Cuts_c3 : (Try.f3.params.all (Try.prog.readableRec ·)) = true := by kernel_rfl
theorem Cuts_c4 : (namedTie Try.prog Rows.fnCutsRow.named Rows.fnCutsSpec.vars) = true := by kernel_rfl
theorem Cuts_c5 : ((Rows.fnCutsRow.stops == [])) = true := by kernel_rfl
theorem Cuts_c7 : ((Rows.fnCutsRow.knobs == [])) = true := by kernel_rfl
theorem Cuts_c9 : ((Rows.fnCutsRow.inPlace == Try.prog.inPlace 3)) = true := by kernel_rfl
theorem Cuts_c10 : ((Rows.fnCutsRow.unfollowed == Try.prog.unfollowed 3)) = true := by kernel_rfl
theorem Cuts_c11 : ((Rows.fnCutsRow.recurses == Try.prog.recurses 3)) = true := by kernel_rfl
theorem Cuts_c12 : ((Rows.fnCutsRow.named == Try.prog.varsNamed 3)) = true := by kernel_rfl
theorem Cuts_c13 : ((Rows.fnCutsRow.maps == (Try.f3.params.toList ++ Rows.fnCutsSpec.plain.varTypes Try.prog).any (Try.prog.mapsRec ·))) = true := by kernel_rfl
theorem Cuts_c14 : ((Rows.fnCutsRow.ifaces == (Try.f3.params.toList ++ Rows.fnCutsSpec.plain.varTypes Try.prog).any (Try.prog.ifacesRec ·))) = true := by kernel_rfl
theorem Cuts_c15 : ((Rows.fnCutsRow.mapsOut == Try.prog.mapsAmong Try.f3.resultTypes.toList)) = true := by kernel_rfl
theorem Cuts_c16 : ((Rows.fnCutsRow.loops == (Try.f3.params.toList ++ Rows.fnCutsSpec.plain.varTypes Try.prog).any (Try.prog.loopsFrom ·))) = true := by kernel_rfl
theorem Cuts_c17 : ((Rows.fnCutsRow.wideKeys == (Try.f3.params.toList ++ Rows.fnCutsSpec.plain.varTypes Try.prog ++ Try.f3.resultTypes.toList).any (Try.prog.wideKeysFrom ·))) = true := by kernel_rfl
theorem Cuts_c18 : (Rows.fnCutsSpec.vars.all (Try.prog.varReadable ·)) = true := by kernel_rfl
theorem Cuts_c19 : (Try.f3.resultTypes.all (fun t => Try.prog.readableRec t && decide (t < Try.prog.types.size))) = true := by kernel_rfl
theorem Cuts_c20 : ((Rows.fnCutsRow.ifacesOut == Try.f3.resultTypes.toList.any (Try.prog.ifacesRec ·))) = true := by kernel_rfl
theorem Cuts_c21 : ((Rows.fnCutsRow.loopsOut == Try.f3.resultTypes.toList.any (Try.prog.loopsFrom ·))) = true := by kernel_rfl
theorem Cuts_c23 : (Rows.fnCutsRow.shortTexts.isNone) = true := by kernel_rfl
theorem Cuts_c28 : ((Rows.fnCutsRow.kinds == (if Rows.fnCutsRow.domain.isEmpty then [] else Try.f3.params.toList.map fun t => match Try.prog.underlying t with | some (.int k) => some k | _ => none))) = true := by kernel_rfl
theorem Cuts_c29 : ((Rows.fnCutsRow.pinned == Rows.fnCutsRow.pinnedBy)) = true := by kernel_rfl
theorem Cuts_c30 : ((Rows.fnCutsRow.veiled == (Try.f3.params.toList ++ Rows.fnCutsSpec.plain.varTypes Try.prog ++ Try.f3.resultTypes.toList).any (Try.prog.veiledRec ·))) = true := by kernel_rfl
theorem Cuts_c31 : (Rows.fnCutsRow.veiledFits Try.prog Try.f3.params.toList (Try.f3.params.toList ++ Rows.fnCutsSpec.plain.varTypes Try.prog ++ Try.f3.resultTypes.toList)) = true := by kernel_rfl
theorem Cuts_closed : joinedFacts Try.prog 3 Try.f3 Rows.fnCutsSpec Rows.fnCutsRow = true := by
  unfold joinedFacts
  exact (and_t (and_t (and_t (and_t (and_t (and_t (and_t (and_t (and_t (and_t (and_t (and_t (and_t (and_t (and_t (and_t (and_t (and_t (and_t (and_t (and_t (and_t (and_t (and_t (and_t (and_t (and_t (and_t (and_t (and_t (and_t Cuts_c0 envLaid) fb_maps) Cuts_c3) Cuts_c4) Cuts_c5) fb_stops) Cuts_c7) fb_knobs) Cuts_c9) Cuts_c10) Cuts_c11) Cuts_c12) Cuts_c13) Cuts_c14) Cuts_c15) Cuts_c16) Cuts_c17) Cuts_c18) Cuts_c19) Cuts_c20) Cuts_c21) fb_keys) Cuts_c23) fb_heard) fb_enter) fb_lift) fb_make) Cuts_c28) Cuts_c29) Cuts_c30) Cuts_c31)
theorem Cuts_holds : Rows.FnCutsSaid :=
  OpenClaim.holds_of_wide 3 Try.f3 rfl rfl rfl rfl rfl rfl rfl ⟨rfl, rfl, rfl, rfl, rfl⟩ rfl rfl rfl rfl rfl (by kernel_rfl) Try.func3 Cuts_closed
    (of_decide_eq_true (by kernel_rfl)) (by unfold Func.isWrapper; first | (rw [if_pos (by decide +kernel)]; kernel_rfl) | (rw [if_neg (by decide +kernel)]; exact ⟨rfl, rfl⟩))
    (fun os started H enc _ => Cuts_lifted os started H enc)
end Go.Proofs.Ytbejaalnnnogoaa
