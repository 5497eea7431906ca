/-
  Closed facts on the whole program, which all rows of the seat share.
-/
import Derived.Test.YtbbecboihmmllaaRows
import Derived.Test.YtbbecboihmmllaaChecked
import Derived.WalkKit
import Derived.ProofKit
namespace Go.Proofs.Ytbbecboihmmllaa

set_option maxRecDepth 100000 in
theorem seat_laid : laidOutB Try.prog = true := by kernel_rfl
set_option maxRecDepth 100000 in
theorem seat_maps : mapsRowed Try.prog = true := by kernel_rfl
set_option maxRecDepth 100000 in
theorem seat_stops : Try.prog.stops = [] := by kernel_rfl
set_option maxRecDepth 100000 in
theorem seat_knobs : Try.prog.stopKnobs = [] := by kernel_rfl
set_option maxRecDepth 100000 in
theorem seat_keys : Try.prog.plainKeys = Rows.fnHoursRow.plainKeys := by kernel_rfl
set_option maxRecDepth 100000 in
theorem seat_heard : Try.prog.stopsHeard = true := by kernel_rfl
set_option maxRecDepth 100000 in
theorem seat_enter : Try.prog.mayEnter = true := by kernel_rfl
set_option maxRecDepth 100000 in
theorem seat_final : Try.prog.liftsFinal = Rows.fnHoursRow.lifted := by kernel_rfl
set_option maxRecDepth 100000 in
theorem seat_make : Try.prog.make = some Rows.fnHoursRow.make := by kernel_rfl
end Go.Proofs.Ytbbecboihmmllaa
