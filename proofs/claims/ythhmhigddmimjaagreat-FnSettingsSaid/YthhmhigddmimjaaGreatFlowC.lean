import Derived.Test.YthhmhigddmimjaaGreatFlowB
import Derived.Test.YthhmhigddmimjaaGreatFlowMs
import Derived.Deep.OwnRows
/-
  One sending of the program's routing.
-/
namespace Go.Proofs.YthhmhigddmimjaaGreat
open Go.ChangeShapes Go.WideShapes Go.ChangeAt Go.RowKit

def ngI (lf : List Int) (z : Int) : Bool := ng lf z.toNat
end Go.Proofs.YthhmhigddmimjaaGreat
/-
  The routing of the program.
-/
namespace Go.Proofs.YthhmhigddmimjaaGreat
open Go.ChangeShapes Go.WideShapes Go.ChangeAt Go.RowKit

def posW (w : World) (G n : Nat) : Nat := ((List.range n).map fun k => (w.cell? ⟨G, k, none⟩).elim 0 fun v => (intOf v).toNat).sum
end Go.Proofs.YthhmhigddmimjaaGreat
/-
  The routing of the reference.
-/
namespace Go.Proofs.YthhmhigddmimjaaGreat
open Go.ChangeShapes Go.WideShapes Go.ChangeAt Go.RowKit

def bN (v : Value) : Nat := match v with
  | .bool true => 1
  | _ => 0
end Go.Proofs.YthhmhigddmimjaaGreat
