/- FnLaps: for all arguments the law returns true, and its arguments read as they did. -/
import Derived.Test.YtdhcfdiggcgmhaaRows
import Derived.WalkKit
import Derived.ProofKit
import Derived.Test.YtdhcfdiggcgmhaaEnvB
import Derived.Test.YtdhcfdiggcgmhaaWkLapsx1
import Derived.Test.YtdhcfdiggcgmhaaPf5
namespace Go.Proofs.Ytdhcfdiggcgmhaa
open Go Go.RowKit Go.ChangeShapes Go.WideShapes Go.ChangeAt
set_option linter.unusedVariables false
set_option linter.unusedSimpArgs false
theorem Laps_own : ownKnob Try.prog.godebug = Option.none := by kernel_rfl
theorem Laps_laid : laidOutB Try.prog = true := envLaid
theorem Laps_sem : ∀ vs, inArgs [(false, [.sl false [.int .u8]]), (false, [.sl false [.int .u8]])] vs → ∃ k, sem E k 15 vs = some (.bool true) := by
  intro vs h
  obtain ⟨v1, r2, rfl, h3, h⟩ := h
  replace h3 := show inL _ [v1] from h3
  try simp only [inL] at h3
  obtain ⟨x4, l5, e, h6, h7⟩ := h3
  obtain ⟨rfl, rfl⟩ := List.cons.inj e; clear e
  simp only [inP] at h6
  obtain ⟨c8, rfl, w9⟩ := h6
  try simp only [inL] at h7
  try subst h7
  obtain ⟨v10, r11, rfl, h12, h⟩ := h
  replace h12 := show inL _ [v10] from h12
  try simp only [inL] at h12
  obtain ⟨x13, l14, e, h15, h16⟩ := h12
  obtain ⟨rfl, rfl⟩ := List.cons.inj e; clear e
  simp only [inP] at h15
  obtain ⟨c17, rfl, w18⟩ := h15
  try simp only [inL] at h16
  try subst h16
  have h := show _ = _ from h; subst h
  obtain ⟨n, hn⟩ := ev_run (law_FnLaps w9 w18)
  exact ⟨_, w_laws_FnLaps hn _ (Nat.le_refl _)⟩
set_option maxRecDepth 100000 in
theorem Laps_lifted (os : Os) (started : os.Started) (H : Type) (enc : TypeId × Value → H) :
    ReturnsInHanded {} Try.checked os 15 .any (Rows.fnLapsSpec.pre6 enc Try.prog Try.f15 Rows.fnLapsRow.domain false) (Rows.fnLapsSpec.post enc Try.prog Try.f15 false true false false) := by
  refine returnsInHanded_of_change (C := Try.checked) Laps_own started (by kernel_rfl) Try.func15
    (ChangeSpec.witness6 (enc := enc) (C := Try.checked) false ⟨#[], #[.slice none 0 0, .slice none 0 0], []⟩ 8 (by kernel_rfl) (by kernel_rfl) (by kernel_rfl) (by kernel_rfl)) ?_
  intro W base args ds gs before hval0 hW hcnd _
  have hval : ∀ (j : Nat) t v, Try.f15.params[j]? = some t → args[j]? = some v → Value.okWide Try.prog W .any base t v := hval0
  refine law_calls (g := 8) (shs := [(false, [.sl false [.int .u8]]), (false, [.sl false [.int .u8]])]) (tb := 4) envOk Laps_laid rfl ?_ (by kernel_rfl) (by kernel_rfl) (by kernel_rfl) (by kernel_rfl) rfl Laps_sem hval hW
  intro ds hds
  rw [Try.params15] at hds
  match ds, hds with
  | [d0, d1], _ => rfl
set_option maxRecDepth 100000
theorem Laps_c0 : (Rows.fnLapsRow.wf (OpenSpec.ofChange Rows.fnLapsSpec)) = true := by kernel_rfl
theorem Laps_c3 : (Try.f15.params.all (Try.prog.readableRec ·)) = true := by kernel_rfl
theorem Laps_c4 : (namedTie Try.prog Rows.fnLapsRow.named Rows.fnLapsSpec.vars) = true := by kernel_rfl
theorem Laps_c5 : ((Rows.fnLapsRow.stops == [])) = true := by kernel_rfl
theorem Laps_c7 : ((Rows.fnLapsRow.knobs == [])) = true := by kernel_rfl
theorem Laps_c9 : ((Rows.fnLapsRow.inPlace == Try.prog.inPlace 15)) = true := by kernel_rfl
theorem Laps_c10 : ((Rows.fnLapsRow.unfollowed == Try.prog.unfollowed 15)) = true := by kernel_rfl
theorem Laps_c11 : ((Rows.fnLapsRow.recurses == Try.prog.recurses 15)) = true := by kernel_rfl
theorem Laps_c12 : ((Rows.fnLapsRow.named == Try.prog.varsNamed 15)) = true := by kernel_rfl
theorem Laps_c13 : ((Rows.fnLapsRow.maps == (Try.f15.params.toList ++ Rows.fnLapsSpec.plain.varTypes Try.prog).any (Try.prog.mapsRec ·))) = true := by kernel_rfl
theorem Laps_c14 : ((Rows.fnLapsRow.ifaces == (Try.f15.params.toList ++ Rows.fnLapsSpec.plain.varTypes Try.prog).any (Try.prog.ifacesRec ·))) = true := by kernel_rfl
theorem Laps_c15 : ((Rows.fnLapsRow.mapsOut == Try.prog.mapsAmong Try.f15.resultTypes.toList)) = true := by kernel_rfl
theorem Laps_c16 : ((Rows.fnLapsRow.loops == (Try.f15.params.toList ++ Rows.fnLapsSpec.plain.varTypes Try.prog).any (Try.prog.loopsFrom ·))) = true := by kernel_rfl
theorem Laps_c17 : ((Rows.fnLapsRow.wideKeys == (Try.f15.params.toList ++ Rows.fnLapsSpec.plain.varTypes Try.prog ++ Try.f15.resultTypes.toList).any (Try.prog.wideKeysFrom ·))) = true := by kernel_rfl
theorem Laps_c18 : (Rows.fnLapsSpec.vars.all (Try.prog.varReadable ·)) = true := by kernel_rfl
theorem Laps_c19 : (Try.f15.resultTypes.all (fun t => Try.prog.readableRec t && decide (t < Try.prog.types.size))) = true := by kernel_rfl
theorem Laps_c20 : ((Rows.fnLapsRow.ifacesOut == Try.f15.resultTypes.toList.any (Try.prog.ifacesRec ·))) = true := by kernel_rfl
theorem Laps_c21 : ((Rows.fnLapsRow.loopsOut == Try.f15.resultTypes.toList.any (Try.prog.loopsFrom ·))) = true := by kernel_rfl
theorem Laps_c23 : (Rows.fnLapsRow.shortTexts.isNone) = true := by kernel_rfl
theorem Laps_c28 : ((Rows.fnLapsRow.kinds == (if Rows.fnLapsRow.domain.isEmpty then [] else Try.f15.params.toList.map fun t => match Try.prog.underlying t with | some (.int k) => some k | _ => none))) = true := by kernel_rfl
theorem Laps_c29 : ((Rows.fnLapsRow.pinned == Rows.fnLapsRow.pinnedBy)) = true := by kernel_rfl
theorem Laps_c30 : ((Rows.fnLapsRow.veiled == (Try.f15.params.toList ++ Rows.fnLapsSpec.plain.varTypes Try.prog ++ Try.f15.resultTypes.toList).any (Try.prog.veiledRec ·))) = true := by kernel_rfl
theorem Laps_c31 : (Rows.fnLapsRow.veiledFits Try.prog Try.f15.params.toList (Try.f15.params.toList ++ Rows.fnLapsSpec.plain.varTypes Try.prog ++ Try.f15.resultTypes.toList)) = true := by kernel_rfl
theorem Laps_closed : joinedFacts Try.prog 15 Try.f15 Rows.fnLapsSpec Rows.fnLapsRow = true := by
  unfold joinedFacts
  exact (and_t (and_t (and_t (and_t (and_t (and_t (and_t (and_t (and_t (and_t (and_t (and_t (and_t (and_t (and_t (and_t (and_t (and_t (and_t (and_t (and_t (and_t (and_t (and_t (and_t (and_t (and_t (and_t (and_t (and_t (and_t Laps_c0 envLaid) fb_maps) Laps_c3) Laps_c4) Laps_c5) fb_stops) Laps_c7) fb_knobs) Laps_c9) Laps_c10) Laps_c11) Laps_c12) Laps_c13) Laps_c14) Laps_c15) Laps_c16) Laps_c17) Laps_c18) Laps_c19) Laps_c20) Laps_c21) fb_keys) Laps_c23) fb_heard) fb_enter) fb_lift) fb_make) Laps_c28) Laps_c29) Laps_c30) Laps_c31)
theorem Laps_holds : Rows.FnLapsSaid :=
  OpenClaim.holds_of_wide 15 Try.f15 rfl rfl rfl rfl rfl rfl rfl ⟨rfl, rfl, rfl, rfl, rfl⟩ rfl rfl rfl rfl rfl (by kernel_rfl) Try.func15 Laps_closed
    (of_decide_eq_true (by kernel_rfl)) (by unfold Func.isWrapper; first | (rw [if_pos (by decide +kernel)]; kernel_rfl) | (rw [if_neg (by decide +kernel)]; exact ⟨rfl, rfl⟩))
    (fun os started H enc _ => Laps_lifted os started H enc)
end Go.Proofs.Ytdhcfdiggcgmhaa
