/-
  The codes and the routing of the reference: l05Zero, l06Even, l06Code, l23Code, RouteSupplies, IsRoutable.
-/
import Derived.Test.YtkfelnfgiijmkaaRouteM
import Derived.Test.YtkfelnfgiijmkaaFlowD
namespace Go.Proofs.Ytkfelnfgiijmkaa
open Go.ChangeShapes Go.WideShapes Go.ChangeAt Go.RowKit

end Go.Proofs.Ytkfelnfgiijmkaa
