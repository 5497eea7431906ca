import Derived.Test.YthhmhigddmimjaaGreatWts
import Derived.Test.YthhmhigddmimjaaGreatDrawA
import Derived.Test.YthhmhigddmimjaaGreatOpen
import Derived.Laws.StructEq
/-
  The laws' own helpers: likeness of lists, sums, membership.
-/
namespace Go.Proofs.YthhmhigddmimjaaGreat
open Go.ChangeShapes Go.WideShapes Go.ChangeAt Go.RowKit

end Go.Proofs.YthhmhigddmimjaaGreat
/-
  What the laws of one []byte argument share: the argument opened; 'big'.
-/
set_option linter.unusedSimpArgs false
set_option linter.unusedVariables false
namespace Go.Proofs.YthhmhigddmimjaaGreat
open Go.ChangeShapes Go.WideShapes Go.ChangeAt Go.RowKit Go.Deep Go.Joins

section
variable {H : Type} {enc : TypeId × Value → H} {w : World} {base : Nat} {spare : Nat → Bool} {held : Bool}
end
end Go.Proofs.YthhmhigddmimjaaGreat
/-
  What the laws' walks share.
-/
set_option linter.unusedSimpArgs false
set_option linter.unusedVariables false
namespace Go.Proofs.YthhmhigddmimjaaGreat
open Go.ChangeShapes Go.WideShapes Go.ChangeAt Go.RowKit

end Go.Proofs.YthhmhigddmimjaaGreat
/-
  The laws' own helpers: likeness of transports and of readings. Printed by gen_like2.py.
-/
set_option linter.unusedSimpArgs false
set_option linter.unusedVariables false
namespace Go.Proofs.YthhmhigddmimjaaGreat
open Go.ChangeShapes Go.WideShapes Go.ChangeAt Go.RowKit

noncomputable instance decTransport : DecidableEq GTr := fun x y => Classical.propDecidable _
end Go.Proofs.YthhmhigddmimjaaGreat
