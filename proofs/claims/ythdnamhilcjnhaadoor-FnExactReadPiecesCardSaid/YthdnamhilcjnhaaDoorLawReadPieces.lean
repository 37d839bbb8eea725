/- FnExactReadPieces: for all arguments the law returns true, and its arguments read as they did. -/
import Derived.Test.YthdnamhilcjnhaaDoorRows
import Derived.WalkKit
import Derived.ProofKit
import Derived.Test.YthdnamhilcjnhaaDoorEnvB
import Derived.Test.YthdnamhilcjnhaaDoorCards
import Derived.Test.YthdnamhilcjnhaaDoorTie
import Derived.OpenShut
import Derived.LaidMore
import Derived.Lay
import Derived.SevenTiedAt
import Derived.Stop.Joined
import Derived.Test.YthdnamhilcjnhaaDoorWkReadPieces
import Derived.Test.YthdnamhilcjnhaaDoorMd
namespace Go.Proofs.YthdnamhilcjnhaaDoor
open Go Go.RowKit Go.ChangeShapes Go.WideShapes Go.ChangeAt
set_option linter.unusedVariables false
set_option linter.unusedSimpArgs false
theorem ReadPieces_own : ownKnob Tryd.prog.godebug = Option.none := by kernel_rfl
theorem ReadPieces_laid : laidOutB Tryd.prog = true := envLaid
theorem ReadPieces_sem : ∀ vs, inArgs [(false, [.str])] vs → ∃ k, sem E k 3 vs = some (.bool true) := by
  intro vs h
  obtain ⟨v1, r2, rfl, h3, h⟩ := h
  replace h3 := show inL _ [v1] from h3
  try simp only [inL] at h3
  obtain ⟨x4, l5, e, h6, h7⟩ := h3
  obtain ⟨rfl, rfl⟩ := List.cons.inj e; clear e
  simp only [inP] at h6
  obtain ⟨c8, rfl, w9⟩ := h6
  try simp only [inL] at h7
  try subst h7
  have h := show _ = _ from h; subst h
  obtain ⟨n, hn⟩ := ev_run (law_FnExactReadPieces w9)
  exact ⟨_, w_laws_FnExactReadPieces hn _ (Nat.le_refl _)⟩
set_option maxRecDepth 100000 in
theorem ReadPieces_lifted (os : Os) (started : os.Started) (H : Type) (enc : TypeId × Value → H) :
    ReturnsInHanded {} Tryd.checked os 3 .any (fun w args => (Rows.fnExactReadPiecesSpec.pre enc Tryd.prog Tryd.f3 Rows.fnExactReadPiecesRow.domain false w args ∧ laidMetH Tryd.prog Rows.fnExactReadPiecesRow.laid w) ∧ sizedMet enc Tryd.prog Tryd.f3 (OpenSpec.ofChange Rows.fnExactReadPiecesSpec) false w args) (Rows.fnExactReadPiecesSpec.post enc Tryd.prog Tryd.f3 false true false false) := by
  refine returnsInHanded_of_change_and (C := Tryd.checked) (X := fun w _ => laidMetH Tryd.prog Rows.fnExactReadPiecesRow.laid w) (fun _ _ _ hh h => h.of_heap hh) ReadPieces_own started (by kernel_rfl) Tryd.func3
    (ChangeSpec.witness_shaped (enc := enc) (C := Tryd.checked) (os := os) (X := fun w _ => laidMetH Tryd.prog Rows.fnExactReadPiecesRow.laid w) false (World.laidAll Tryd.prog os Rows.fnExactReadPiecesRow.laid) #[.string ⟨#[]⟩] 8 (World.laidAll_os _ _ _)
      (World.shaped_of_ZipB (by kernel_rfl) (by kernel_rfl)) (by kernel_rfl) (by kernel_rfl) (by kernel_rfl)
      (by rw [MakeChecks.laidMetH_plain _ _ _ (by kernel_rfl)]; exact laidMet_laidAll _ (by kernel_rfl) (by kernel_rfl))) ?_
  intro W base args ds gs before hval0 hW hcnd _ _ _
  have hval : ∀ (j : Nat) t v, Tryd.f3.params[j]? = some t → args[j]? = some v → Value.okWide Tryd.prog W .any base t v := hval0
  refine law_calls (g := 8) (shs := [(false, [.str])]) (tb := 4) envOk ReadPieces_laid rfl ?_ (by kernel_rfl) (by kernel_rfl) (by kernel_rfl) (by kernel_rfl) rfl ReadPieces_sem hval hW
  intro ds hds
  rw [Tryd.params3] at hds
  match ds, hds with
  | [d0], _ => rfl
set_option maxRecDepth 100000
theorem ReadPieces_c0 : (Rows.fnExactReadPiecesRow.wf (OpenSpec.ofChange Rows.fnExactReadPiecesSpec)) = true := by kernel_rfl
theorem ReadPieces_c3 : (Tryd.f3.params.all (Tryd.prog.readableRec ·)) = true := by kernel_rfl
theorem ReadPieces_c4 : (namedTie Tryd.prog Rows.fnExactReadPiecesRow.named Rows.fnExactReadPiecesSpec.vars) = true := by kernel_rfl
theorem ReadPieces_c5 : ((Rows.fnExactReadPiecesRow.stops == [])) = true := by kernel_rfl
theorem ReadPieces_c7 : ((Rows.fnExactReadPiecesRow.knobs == [])) = true := by kernel_rfl
theorem ReadPieces_c9 : ((Rows.fnExactReadPiecesRow.inPlace == Tryd.prog.inPlace 3)) = true := by kernel_rfl
theorem ReadPieces_c10 : ((Rows.fnExactReadPiecesRow.unfollowed == Tryd.prog.unfollowed 3)) = true := by kernel_rfl
theorem ReadPieces_c11 : ((Rows.fnExactReadPiecesRow.recurses == Tryd.prog.recurses 3)) = true := by kernel_rfl
theorem ReadPieces_c12 : ((Rows.fnExactReadPiecesRow.named == Tryd.prog.varsNamed 3)) = true := by kernel_rfl
theorem ReadPieces_c13 : ((Rows.fnExactReadPiecesRow.maps == (Tryd.f3.params.toList ++ Rows.fnExactReadPiecesSpec.plain.varTypes Tryd.prog).any (Tryd.prog.mapsRec ·))) = true := by kernel_rfl
theorem ReadPieces_c14 : ((Rows.fnExactReadPiecesRow.ifaces == (Tryd.f3.params.toList ++ Rows.fnExactReadPiecesSpec.plain.varTypes Tryd.prog).any (Tryd.prog.ifacesRec ·))) = true := by kernel_rfl
theorem ReadPieces_c15 : ((Rows.fnExactReadPiecesRow.mapsOut == Tryd.prog.mapsAmong Tryd.f3.resultTypes.toList)) = true := by kernel_rfl
theorem ReadPieces_c16 : ((Rows.fnExactReadPiecesRow.loops == (Tryd.f3.params.toList ++ Rows.fnExactReadPiecesSpec.plain.varTypes Tryd.prog).any (Tryd.prog.loopsFrom ·))) = true := by kernel_rfl
theorem ReadPieces_c17 : ((Rows.fnExactReadPiecesRow.wideKeys == (Tryd.f3.params.toList ++ Rows.fnExactReadPiecesSpec.plain.varTypes Tryd.prog ++ Tryd.f3.resultTypes.toList).any (Tryd.prog.wideKeysFrom ·))) = true := by kernel_rfl
theorem ReadPieces_c18 : (Rows.fnExactReadPiecesSpec.vars.all (Tryd.prog.varReadable ·)) = true := by kernel_rfl
theorem ReadPieces_c19 : (Tryd.f3.resultTypes.all (fun t => Tryd.prog.readableRec t && decide (t < Tryd.prog.types.size))) = true := by kernel_rfl
theorem ReadPieces_c20 : ((Rows.fnExactReadPiecesRow.ifacesOut == Tryd.f3.resultTypes.toList.any (Tryd.prog.ifacesRec ·))) = true := by kernel_rfl
theorem ReadPieces_c21 : ((Rows.fnExactReadPiecesRow.loopsOut == Tryd.f3.resultTypes.toList.any (Tryd.prog.loopsFrom ·))) = true := by kernel_rfl
theorem ReadPieces_c23 : (Rows.fnExactReadPiecesRow.shortTexts.isNone) = true := by kernel_rfl
theorem ReadPieces_c28 : ((Rows.fnExactReadPiecesRow.kinds == (if Rows.fnExactReadPiecesRow.domain.isEmpty then [] else Tryd.f3.params.toList.map fun t => match Tryd.prog.underlying t with | some (.int k) => some k | _ => none))) = true := by kernel_rfl
theorem ReadPieces_c29 : ((Rows.fnExactReadPiecesRow.pinned == Rows.fnExactReadPiecesRow.pinnedBy)) = true := by kernel_rfl
theorem ReadPieces_c30 : ((Rows.fnExactReadPiecesRow.veiled == (Tryd.f3.params.toList ++ Rows.fnExactReadPiecesSpec.plain.varTypes Tryd.prog ++ Tryd.f3.resultTypes.toList).any (Tryd.prog.veiledRec ·))) = true := by kernel_rfl
theorem ReadPieces_c31 : (Rows.fnExactReadPiecesRow.veiledFits Tryd.prog Tryd.f3.params.toList (Tryd.f3.params.toList ++ Rows.fnExactReadPiecesSpec.plain.varTypes Tryd.prog ++ Tryd.f3.resultTypes.toList)) = true := by kernel_rfl
theorem ReadPieces_closed : joinedFacts Tryd.prog 3 Tryd.f3 Rows.fnExactReadPiecesSpec Rows.fnExactReadPiecesRow = true := by
  unfold joinedFacts
  exact (and_t (and_t (and_t (and_t (and_t (and_t (and_t (and_t (and_t (and_t (and_t (and_t (and_t (and_t (and_t (and_t (and_t (and_t (and_t (and_t (and_t (and_t (and_t (and_t (and_t (and_t (and_t (and_t (and_t (and_t (and_t ReadPieces_c0 envLaid) fb_maps) ReadPieces_c3) ReadPieces_c4) ReadPieces_c5) fb_stops) ReadPieces_c7) fb_knobs) ReadPieces_c9) ReadPieces_c10) ReadPieces_c11) ReadPieces_c12) ReadPieces_c13) ReadPieces_c14) ReadPieces_c15) ReadPieces_c16) ReadPieces_c17) ReadPieces_c18) ReadPieces_c19) ReadPieces_c20) ReadPieces_c21) fb_keys) ReadPieces_c23) fb_heard) fb_enter) fb_lift) fb_make) ReadPieces_c28) ReadPieces_c29) ReadPieces_c30) ReadPieces_c31)
theorem ReadPieces_row : Rows.FnExactReadPiecesSaid :=
  OpenClaim.holds_of_wide 3 Tryd.f3 rfl rfl rfl rfl rfl rfl rfl ⟨rfl, rfl, rfl, rfl, rfl⟩ rfl rfl rfl rfl rfl (by kernel_rfl) Tryd.func3 ReadPieces_closed
    (of_decide_eq_true (by kernel_rfl)) (by unfold Func.isWrapper; first | (rw [if_pos (by decide +kernel)]; kernel_rfl) | (rw [if_neg (by decide +kernel)]; exact ⟨rfl, rfl⟩))
    (fun os started H enc _ => ReadPieces_lifted os started H enc)
theorem ReadPieces_holds : Rows.FnExactReadPiecesCardSaid :=
  Claim7.holds_tied_plain_at .later [] [.data, .data, .data, .data, .pinned] true (true, "4467808140852e1a3e2946dd009af7a0325da70a5ca0d2e69095395b2966d1ad") false
    ReadPieces_row (fun _ h => by cases h) (by kernel_rfl) (fun _ h => by cases h) fnExactReadPieces_row_tie rfl ⟨rfl, rfl⟩ (by kernel_rfl) rfl
    (fun f fn hf hfn => by
      obtain rfl : f = 3 := Option.some.inj ((show Tryd.prog.funcNamed "loop.example/g01376/laws.FnExactReadPieces" = some 3 by kernel_rfl).symm.trans hf) |>.symm
      obtain rfl : fn = Tryd.f3 := (Option.some.inj (Tryd.func3.symm.trans hfn)).symm
      exact ⟨by kernel_rfl, fun j t ht => by
        rw [Tryd.params3] at ht
        have hm : t ∈ [9] := by simpa using Array.mem_of_getElem? ht
        have hall : ([9].all fun u => !Tryd.prog.wantsStandIn u) = true := by kernel_rfl
        exact (show Tryd.prog.wantsStandIn t = false by simpa using List.all_eq_true.1 hall t hm)⟩)
    (by kernel_rfl)
end Go.Proofs.YthdnamhilcjnhaaDoor
