/- What every row of this seat asks of the program as a whole: each fact once. -/
import Derived.Test.YthdnamhilcjnhaaDoorRows
import Derived.Test.YthdnamhilcjnhaaDoorMc
import Derived.JoinedOf
namespace Go.Proofs.YthdnamhilcjnhaaDoor
open Go
set_option maxRecDepth 100000
theorem and_t {a b : Bool} (ha : a = true) (hb : b = true) : (a && b) = true := by rw [ha, hb]; rfl
theorem fb_maps : mapsRowed Tryd.prog = true := by kernel_rfl
theorem fb_stops : (Tryd.prog.stops == []) = true := by kernel_rfl
theorem fb_knobs : (Tryd.prog.stopKnobs == []) = true := by kernel_rfl
theorem fb_keys : (Rows.fnExactReadPiecesRow.plainKeys == Tryd.prog.plainKeys) = true := by kernel_rfl
theorem fb_heard : Tryd.prog.stopsHeard = true := by kernel_rfl
theorem fb_enter : Tryd.prog.mayEnter = true := by kernel_rfl
theorem fb_lift : (Rows.fnExactReadPiecesRow.lifted == Tryd.prog.liftsFinal) = true := by kernel_rfl
theorem fb_make : (Tryd.prog.make == some Rows.fnExactReadPiecesRow.make) = true := by kernel_rfl
end Go.Proofs.YthdnamhilcjnhaaDoor
