/-
  Capacities of sets of nodes.
-/
import Derived.Test.YthhmhigddmimjaaGreatFlowB
import Derived.Test.YthhmhigddmimjaaGreatSwitches
import Derived.Deep.CutRange
set_option linter.unusedSimpArgs false
set_option linter.unusedVariables false
namespace Go.Proofs.YthhmhigddmimjaaGreat
open Go.ChangeShapes Go.WideShapes Go.ChangeAt Go.RowKit

def capAt (s : List Int) (p : GPipe) : Int := if (decide (p.src ∈ s) != decide (p.dst ∈ s)) = true then p.lim else 0
def capTo (n : GNet) (s : List Int) (k : Nat) : Int := ((n.pipes.take k).map (capAt s)).sum
def caCode (n : GNet) (s : List Int) : Int := if netOk n = true then (if setOk ((n.nodes.length : Int) - 1) s = true then 0 else 2) else 1
def capVal (n : GNet) (s : List Int) : Int := if caCode n s = 0 then capTo n s n.pipes.length else 0
end Go.Proofs.YthhmhigddmimjaaGreat
