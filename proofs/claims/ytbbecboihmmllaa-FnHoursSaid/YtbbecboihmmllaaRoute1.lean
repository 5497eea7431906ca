/-
  The codes and the routing of the reference: l05Zero, l06Even, l06Code, l23Code, RouteSupplies, IsRoutable.
-/
import Derived.Test.YtbbecboihmmllaaRouteM
import Derived.Test.YtbbecboihmmllaaFlowD
namespace Go.Proofs.Ytbbecboihmmllaa
open Go.ChangeShapes Go.WideShapes Go.ChangeAt Go.RowKit

end Go.Proofs.Ytbbecboihmmllaa
