/- FnStocks: for all arguments the law returns true, and its arguments read as they did. -/
import Derived.Test.YthdnamhilcjnhaaGreatDoorRows
import Derived.WalkKit
import Derived.ProofKit
import Derived.Test.YthdnamhilcjnhaaGreatDoorEnvB
import Derived.Test.YthdnamhilcjnhaaGreatDoorCards
import Derived.Test.YthdnamhilcjnhaaGreatDoorTie
import Derived.OpenShut
import Derived.LaidMore
import Derived.Lay
import Derived.SevenTiedAt
import Derived.Stop.Joined
import Derived.Test.YthdnamhilcjnhaaGreatDoorWkStocksx2
import Derived.Test.YthdnamhilcjnhaaGreatDoorMq
namespace Go.Proofs.YthdnamhilcjnhaaGreatDoor
open Go Go.RowKit Go.ChangeShapes Go.WideShapes Go.ChangeAt
set_option linter.unusedVariables false
set_option linter.unusedSimpArgs false
theorem Stocks_own : ownKnob Tryz.prog.godebug = Option.none := by kernel_rfl
theorem Stocks_laid : laidOutB Tryz.prog = true := envLaid
theorem Stocks_sem : ∀ vs, inArgs [(false, [.sl false [.int .u8]]), (false, [.sl false [.int .u8]])] vs → ∃ k, sem E k 3 vs = some (.bool true) := by
 intro vs h
 obtain ⟨v1, r2, rfl, h3, h⟩ := h
 replace h3 := show inL _ [v1] from h3
 try simp only [inL] at h3
 obtain ⟨x4, l5, e, h6, h7⟩ := h3
 obtain ⟨rfl, rfl⟩ := List.cons.inj e; clear e
 simp only [inP] at h6
 obtain ⟨c8, rfl, w9⟩ := h6
 try simp only [inL] at h7
 try subst h7
 obtain ⟨v10, r11, rfl, h12, h⟩ := h
 replace h12 := show inL _ [v10] from h12
 try simp only [inL] at h12
 obtain ⟨x13, l14, e, h15, h16⟩ := h12
 obtain ⟨rfl, rfl⟩ := List.cons.inj e; clear e
 simp only [inP] at h15
 obtain ⟨c17, rfl, w18⟩ := h15
 try simp only [inL] at h16
 try subst h16
 have h := show _ = _ from h; subst h
 obtain ⟨n, hn⟩ := ev_run (law_FnStocks w9 w18)
 exact ⟨_, w_laws_FnStocks hn _ (Nat.le_refl _)⟩
set_option maxRecDepth 100000 in
theorem Stocks_lifted (os : Os) (started : os.Started) (H : Type) (enc : TypeId × Value → H) :
 ReturnsInHanded {} Tryz.checked os 3 .any (fun w args => (Rows.fnStocksSpec.pre enc Tryz.prog Tryz.f3 Rows.fnStocksRow.domain false w args ∧ laidMetH Tryz.prog Rows.fnStocksRow.laid w) ∧ sizedMet enc Tryz.prog Tryz.f3 (OpenSpec.ofChange Rows.fnStocksSpec) false w args) (Rows.fnStocksSpec.post enc Tryz.prog Tryz.f3 false true false false) := by
 refine returnsInHanded_of_change_and (C := Tryz.checked) (X := fun w _ => laidMetH Tryz.prog Rows.fnStocksRow.laid w) (fun _ _ _ hh h => h.of_heap hh) Stocks_own started (by kernel_rfl) Tryz.func3
  (ChangeSpec.witness_shaped (enc := enc) (C := Tryz.checked) (os := os) (X := fun w _ => laidMetH Tryz.prog Rows.fnStocksRow.laid w) false (World.laidAll Tryz.prog os Rows.fnStocksRow.laid) #[.slice none 0 0, .slice none 0 0] 8 (World.laidAll_os _ _ _)
   (World.shaped_of_ZipB (by kernel_rfl) (by kernel_rfl)) (by kernel_rfl) (by kernel_rfl) (by kernel_rfl)
   (by rw [MakeChecks.laidMetH_plain _ _ _ (by kernel_rfl)]; exact laidMet_laidAll _ (by kernel_rfl) (by kernel_rfl))) ?_
 intro W base args ds gs before hval0 hW hcnd _ _ _
 have hval : ∀ (j : Nat) t v, Tryz.f3.params[j]? = some t → args[j]? = some v → Value.okWide Tryz.prog W .any base t v := hval0
 refine law_calls (g := 8) (shs := [(false, [.sl false [.int .u8]]), (false, [.sl false [.int .u8]])]) (tb := 4) envOk Stocks_laid rfl ?_ (by kernel_rfl) (by kernel_rfl) (by kernel_rfl) (by kernel_rfl) rfl Stocks_sem hval hW
 intro ds hds
 rw [Tryz.params3] at hds
 match ds, hds with
 | [d0, d1], _ => rfl
set_option maxRecDepth 100000
theorem Stocks_c0 : (Rows.fnStocksRow.wf (OpenSpec.ofChange Rows.fnStocksSpec)) = true := by kernel_rfl
theorem Stocks_c3 : (Tryz.f3.params.all (Tryz.prog.readableRec ·)) = true := by kernel_rfl
theorem Stocks_c4 : (namedTie Tryz.prog Rows.fnStocksRow.named Rows.fnStocksSpec.vars) = true := by kernel_rfl
theorem Stocks_c5 : ((Rows.fnStocksRow.stops == [])) = true := by kernel_rfl
theorem Stocks_c7 : ((Rows.fnStocksRow.knobs == [])) = true := by kernel_rfl
theorem Stocks_c9 : ((Rows.fnStocksRow.inPlace == Tryz.prog.inPlace 3)) = true := by kernel_rfl
theorem Stocks_c10 : ((Rows.fnStocksRow.unfollowed == Tryz.prog.unfollowed 3)) = true := by kernel_rfl
theorem Stocks_c11 : ((Rows.fnStocksRow.recurses == Tryz.prog.recurses 3)) = true := by kernel_rfl
theorem Stocks_c12 : ((Rows.fnStocksRow.named == Tryz.prog.varsNamed 3)) = true := by kernel_rfl
theorem Stocks_c13 : ((Rows.fnStocksRow.maps == (Tryz.f3.params.toList ++ Rows.fnStocksSpec.plain.varTypes Tryz.prog).any (Tryz.prog.mapsRec ·))) = true := by kernel_rfl
theorem Stocks_c14 : ((Rows.fnStocksRow.ifaces == (Tryz.f3.params.toList ++ Rows.fnStocksSpec.plain.varTypes Tryz.prog).any (Tryz.prog.ifacesRec ·))) = true := by kernel_rfl
theorem Stocks_c15 : ((Rows.fnStocksRow.mapsOut == Tryz.prog.mapsAmong Tryz.f3.resultTypes.toList)) = true := by kernel_rfl
theorem Stocks_c16 : ((Rows.fnStocksRow.loops == (Tryz.f3.params.toList ++ Rows.fnStocksSpec.plain.varTypes Tryz.prog).any (Tryz.prog.loopsFrom ·))) = true := by kernel_rfl
theorem Stocks_c17 : ((Rows.fnStocksRow.wideKeys == (Tryz.f3.params.toList ++ Rows.fnStocksSpec.plain.varTypes Tryz.prog ++ Tryz.f3.resultTypes.toList).any (Tryz.prog.wideKeysFrom ·))) = true := by kernel_rfl
theorem Stocks_c18 : (Rows.fnStocksSpec.vars.all (Tryz.prog.varReadable ·)) = true := by kernel_rfl
theorem Stocks_c19 : (Tryz.f3.resultTypes.all (fun t => Tryz.prog.readableRec t && decide (t < Tryz.prog.types.size))) = true := by kernel_rfl
theorem Stocks_c20 : ((Rows.fnStocksRow.ifacesOut == Tryz.f3.resultTypes.toList.any (Tryz.prog.ifacesRec ·))) = true := by kernel_rfl
theorem Stocks_c21 : ((Rows.fnStocksRow.loopsOut == Tryz.f3.resultTypes.toList.any (Tryz.prog.loopsFrom ·))) = true := by kernel_rfl
theorem Stocks_c23 : (Rows.fnStocksRow.shortTexts.isNone) = true := by kernel_rfl
theorem Stocks_c28 : ((Rows.fnStocksRow.kinds == (if Rows.fnStocksRow.domain.isEmpty then [] else Tryz.f3.params.toList.map fun t => match Tryz.prog.underlying t with | some (.int k) => some k | _ => none))) = true := by kernel_rfl
theorem Stocks_c29 : ((Rows.fnStocksRow.pinned == Rows.fnStocksRow.pinnedBy)) = true := by kernel_rfl
theorem Stocks_c30 : ((Rows.fnStocksRow.veiled == (Tryz.f3.params.toList ++ Rows.fnStocksSpec.plain.varTypes Tryz.prog ++ Tryz.f3.resultTypes.toList).any (Tryz.prog.veiledRec ·))) = true := by kernel_rfl
theorem Stocks_c31 : (Rows.fnStocksRow.veiledFits Tryz.prog Tryz.f3.params.toList (Tryz.f3.params.toList ++ Rows.fnStocksSpec.plain.varTypes Tryz.prog ++ Tryz.f3.resultTypes.toList)) = true := by kernel_rfl
theorem Stocks_closed : joinedFacts Tryz.prog 3 Tryz.f3 Rows.fnStocksSpec Rows.fnStocksRow = true := by
 unfold joinedFacts
 exact (and_t (and_t (and_t (and_t (and_t (and_t (and_t (and_t (and_t (and_t (and_t (and_t (and_t (and_t (and_t (and_t (and_t (and_t (and_t (and_t (and_t (and_t (and_t (and_t (and_t (and_t (and_t (and_t (and_t (and_t (and_t Stocks_c0 envLaid) fb_maps) Stocks_c3) Stocks_c4) Stocks_c5) fb_stops) Stocks_c7) fb_knobs) Stocks_c9) Stocks_c10) Stocks_c11) Stocks_c12) Stocks_c13) Stocks_c14) Stocks_c15) Stocks_c16) Stocks_c17) Stocks_c18) Stocks_c19) Stocks_c20) Stocks_c21) fb_keys) Stocks_c23) fb_heard) fb_enter) fb_lift) fb_make) Stocks_c28) Stocks_c29) Stocks_c30) Stocks_c31)
theorem Stocks_row : Rows.FnStocksSaid :=
 OpenClaim.holds_of_wide 3 Tryz.f3 rfl rfl rfl rfl rfl rfl rfl ⟨rfl, rfl, rfl, rfl, rfl⟩ rfl rfl rfl rfl rfl (by kernel_rfl) Tryz.func3 Stocks_closed
  (of_decide_eq_true (by kernel_rfl)) (by unfold Func.isWrapper; first | (rw [if_pos (by decide +kernel)]; kernel_rfl) | (rw [if_neg (by decide +kernel)]; exact ⟨rfl, rfl⟩))
  (fun os started H enc _ => Stocks_lifted os started H enc)
theorem Stocks_holds : Rows.FnStocksCardSaid :=
 Claim7.holds_tied_plain_at .later [] [.data, .data, .data, .data, .pinned] true (true, "3e9554f57b1d1b8739de4c2d9f8bf9a5482964de49dd0aa789b2e272e4922b37") false
  Stocks_row (fun _ h => by cases h) (by kernel_rfl) (fun _ h => by cases h) fnStocks_row_tie rfl ⟨rfl, rfl⟩ (by kernel_rfl) rfl
  (fun f fn hf hfn => by
   obtain rfl : f = 3 := Option.some.inj ((show Tryz.prog.funcNamed "loop.example/g01376/laws.FnStocks" = some 3 by kernel_rfl).symm.trans hf) |>.symm
   obtain rfl : fn = Tryz.f3 := (Option.some.inj (Tryz.func3.symm.trans hfn)).symm
   exact ⟨by kernel_rfl, fun j t ht => by
    rw [Tryz.params3] at ht
    have hm : t ∈ [22, 22] := by simpa using Array.mem_of_getElem? ht
    have hall : ([22, 22].all fun u => !Tryz.prog.wantsStandIn u) = true := by kernel_rfl
    exact (show Tryz.prog.wantsStandIn t = false by simpa using List.all_eq_true.1 hall t hm)⟩)
  (by kernel_rfl)
end Go.Proofs.YthdnamhilcjnhaaGreatDoor
