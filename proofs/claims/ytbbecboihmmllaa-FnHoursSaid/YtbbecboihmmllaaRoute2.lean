/-
  The codes and the routing of the program: componentsOf, isEven, checkSupplies, checkEven, RouteSupplies, IsRoutable.
-/
import Derived.Test.YtbbecboihmmllaaRouteM
import Derived.Test.YtbbecboihmmllaaFlow17
namespace Go.Proofs.Ytbbecboihmmllaa
open Go.ChangeShapes Go.WideShapes Go.ChangeAt Go.RowKit

theorem allZero_any {A : Option Addr} {n c : Nat} (zs : List Int) (w : World) (hL : SlAt w 1 A n c (ints zs)) :
    Calls Try.prog 54 #[.slice A n c, .int .i64 0, .int .i64 0] w fun e w' => e = .returned (.bool (zeroB zs)) ∧ w = w' := allWithin_any zs 0 0 w hL
end Go.Proofs.Ytbbecboihmmllaa
