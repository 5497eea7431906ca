/-
  The comparisons: eqX and eqXS say true of equal things. Printed by gen.py.
-/
import Derived.Test.YtejfpajbkgfiaaaRows
import Derived.Test.YtejfpajbkgfiaaaBase
import Derived.WalkKit
import Derived.ProofKit
import Derived.LoopTactic
import Derived.WalkLawsBesides
import Derived.WalkSpells
import Derived.Deep.RegionHeld3
namespace Go.Proofs.Ytejfpajbkgfiaaa
open Go.ChangeShapes Go.WideShapes Go.ChangeAt Go.RowKit








end Go.Proofs.Ytejfpajbkgfiaaa
