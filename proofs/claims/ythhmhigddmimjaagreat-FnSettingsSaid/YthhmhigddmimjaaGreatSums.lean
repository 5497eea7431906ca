/-
  Sums of numbers: the program.
-/
import Derived.Test.YthhmhigddmimjaaGreatWts
namespace Go.Proofs.YthhmhigddmimjaaGreat
open Go.ChangeShapes Go.WideShapes Go.ChangeAt Go.RowKit

end Go.Proofs.YthhmhigddmimjaaGreat
