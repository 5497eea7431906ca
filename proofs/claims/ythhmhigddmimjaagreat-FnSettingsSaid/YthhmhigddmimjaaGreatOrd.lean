/-
  Orders: the tests of the program and of the reference. Printed by gen_ord.py.
-/
import Derived.Test.YthhmhigddmimjaaGreatTrs
namespace Go.Proofs.YthhmhigddmimjaaGreat
open Go.ChangeShapes Go.WideShapes Go.ChangeAt Go.RowKit

def ordOk (nn : Int) (x : GOrd) : Bool := inB 0 x.shipper 15 && inB 0 x.node (nn - 1) && inB (-30000) x.amount 30000 && inB 0 x.cls 3
def ordsOk (nn : Int) (l : List GOrd) : Bool := decide (l.length ≤ 40) && l.all (ordOk nn)
def ordCode (n : GNet) (l : List GOrd) : Int := if netOk n then (if ordsOk n.nodes.length l then 0 else 3) else 1
theorem l05Flow_any (x : Int) (w : World) : Calls Tryz.prog 162 #[.int .i64 x] w fun e w' => e = .returned (.bool (inB (-30000) x 30000)) ∧ w = w' := by
  go_enter Tryz.func162, Tryz.ntmps162
  go_wp2_with fail
  refine (l01In_any _ _ _ _).mono ?_
  rintro e w' ⟨rfl, rfl⟩
  go_wp2_with fail
  go_ret
  exact ⟨rfl, rfl⟩
end Go.Proofs.YthhmhigddmimjaaGreat
