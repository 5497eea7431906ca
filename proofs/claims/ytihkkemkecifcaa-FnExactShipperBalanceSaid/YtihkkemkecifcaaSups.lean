import Derived.Test.YtihkkemkecifcaaTrs
/-
  The supplies of transports: the program and the reference. Printed by gen_sup.py.
-/
namespace Go.Proofs.Ytihkkemkecifcaa
open Go.ChangeShapes Go.WideShapes Go.ChangeAt Go.RowKit

def supOk (nn : Nat) (zs : List Int) : Bool := decide (zs.length = nn) && zs.all fun z => inB (-30000) z 30000
end Go.Proofs.Ytihkkemkecifcaa
/-
  TransportSupplies: the program and the reference. Printed by gen_sup2.py.
-/
namespace Go.Proofs.Ytihkkemkecifcaa
open Go.ChangeShapes Go.WideShapes Go.ChangeAt Go.RowKit

def supCode (n : GNet) (l : List GTr) : Int := if trCode n l = 0 then (if supOk n.nodes.length (supplies n.nodes.length l) then 0 else 7) else trCode n l
def supRes (n : GNet) (l : List GTr) : List Int := if supCode n l = 0 then supplies n.nodes.length l else []
end Go.Proofs.Ytihkkemkecifcaa
