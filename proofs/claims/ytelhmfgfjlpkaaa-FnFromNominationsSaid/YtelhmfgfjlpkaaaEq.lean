/-
  The comparisons: eqX and eqXS say true of equal things. Printed by gen.py.
-/
import Derived.Test.YtelhmfgfjlpkaaaRows
import Derived.Test.YtelhmfgfjlpkaaaBase
import Derived.WalkKit
import Derived.ProofKit
import Derived.LoopTactic
import Derived.WalkLawsBesides
import Derived.WalkSpells
import Derived.Deep.RegionHeld3
namespace Go.Proofs.Ytelhmfgfjlpkaaa
open Go.ChangeShapes Go.WideShapes Go.ChangeAt Go.RowKit








end Go.Proofs.Ytelhmfgfjlpkaaa
