/-
  Closed facts on the whole program, which all rows of the seat share.
-/
import Derived.Test.YthhmhigddmimjaaGreatRows
import Derived.Test.YthhmhigddmimjaaGreatChecked
import Derived.WalkKit
import Derived.ProofKit
namespace Go.Proofs.YthhmhigddmimjaaGreat

set_option maxRecDepth 100000 in
theorem seat_laid : laidOutB Tryz.prog = true := by kernel_rfl
set_option maxRecDepth 100000 in
theorem seat_maps : mapsRowed Tryz.prog = true := by kernel_rfl
set_option maxRecDepth 100000 in
theorem seat_stops : Tryz.prog.stops = [] := by kernel_rfl
set_option maxRecDepth 100000 in
theorem seat_knobs : Tryz.prog.stopKnobs = [] := by kernel_rfl
set_option maxRecDepth 100000 in
theorem seat_keys : Tryz.prog.plainKeys = Rows.fnExactAreGoodRow.plainKeys := by kernel_rfl
set_option maxRecDepth 100000 in
theorem seat_heard : Tryz.prog.stopsHeard = true := by kernel_rfl
set_option maxRecDepth 100000 in
theorem seat_enter : Tryz.prog.mayEnter = true := by kernel_rfl
set_option maxRecDepth 100000 in
theorem seat_final : Tryz.prog.liftsFinal = Rows.fnExactAreGoodRow.lifted := by kernel_rfl
set_option maxRecDepth 100000 in
theorem seat_make : Tryz.prog.make = some Rows.fnExactAreGoodRow.make := by kernel_rfl
end Go.Proofs.YthhmhigddmimjaaGreat
