/-
  Blocking sets: BlockingSet of both sides. Printed by gen_block.py.
-/
import Derived.Test.YthhmhigddmimjaaGreatCutM
import Derived.Test.YthhmhigddmimjaaGreatRouteA
import Derived.Test.YthhmhigddmimjaaGreatRouteA
set_option linter.unusedSimpArgs false
set_option linter.unusedVariables false
namespace Go.Proofs.YthhmhigddmimjaaGreat
open Go.ChangeShapes Go.WideShapes Go.ChangeAt Go.RowKit

def mrk (N : Nat) (l : List Nat) : List Bool := (List.range N).map fun v => decide (v ∈ l)
end Go.Proofs.YthhmhigddmimjaaGreat
