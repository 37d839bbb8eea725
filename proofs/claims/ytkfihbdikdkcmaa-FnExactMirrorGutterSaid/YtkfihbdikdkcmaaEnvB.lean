/- What every row of this seat asks of the program as a whole: each fact once. -/
import Derived.Test.YtkfihbdikdkcmaaRows
import Derived.Test.YtkfihbdikdkcmaaEnvA
import Derived.JoinedOf
namespace Go.Proofs.Ytkfihbdikdkcmaa
open Go
set_option maxRecDepth 100000
theorem and_t {a b : Bool} (ha : a = true) (hb : b = true) : (a && b) = true := by rw [ha, hb]; rfl
theorem fb_maps : mapsRowed Try.prog = true := by kernel_rfl
theorem fb_stops : (Try.prog.stops == []) = true := by kernel_rfl
theorem fb_knobs : (Try.prog.stopKnobs == []) = true := by kernel_rfl
theorem fb_keys : (Rows.fnExactMirrorGutterRow.plainKeys == Try.prog.plainKeys) = true := by kernel_rfl
theorem fb_heard : Try.prog.stopsHeard = true := by kernel_rfl
theorem fb_enter : Try.prog.mayEnter = true := by kernel_rfl
theorem fb_lift : (Rows.fnExactMirrorGutterRow.lifted == Try.prog.liftsFinal) = true := by kernel_rfl
theorem fb_make : (Try.prog.make == some Rows.fnExactMirrorGutterRow.make) = true := by kernel_rfl
end Go.Proofs.Ytkfihbdikdkcmaa
