/- What every row of this seat asks of the program as a whole: each fact once. -/
import Derived.Test.YthdnamhilcjnhaaGreatDoorRows
import Derived.Test.YthdnamhilcjnhaaGreatDoorMk
import Derived.JoinedOf
namespace Go.Proofs.YthdnamhilcjnhaaGreatDoor
open Go
set_option maxRecDepth 100000
theorem and_t {a b : Bool} (ha : a = true) (hb : b = true) : (a && b) = true := by rw [ha, hb]; rfl
theorem fb_maps : mapsRowed Tryz.prog = true := by kernel_rfl
theorem fb_stops : (Tryz.prog.stops == []) = true := by kernel_rfl
theorem fb_knobs : (Tryz.prog.stopKnobs == []) = true := by kernel_rfl
theorem fb_keys : (Rows.fnStocksRow.plainKeys == Tryz.prog.plainKeys) = true := by kernel_rfl
theorem fb_heard : Tryz.prog.stopsHeard = true := by kernel_rfl
theorem fb_enter : Tryz.prog.mayEnter = true := by kernel_rfl
theorem fb_lift : (Rows.fnStocksRow.lifted == Tryz.prog.liftsFinal) = true := by kernel_rfl
theorem fb_make : (Tryz.prog.make == some Rows.fnStocksRow.make) = true := by kernel_rfl
end Go.Proofs.YthdnamhilcjnhaaGreatDoor
