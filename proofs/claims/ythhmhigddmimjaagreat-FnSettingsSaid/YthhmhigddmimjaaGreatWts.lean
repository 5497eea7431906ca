/-
  Weights of orders at a reading, and sums.
-/
import Derived.Test.YthhmhigddmimjaaGreatOrd
import Derived.Test.YthhmhigddmimjaaGreatScales
import Derived.BigQuiet
namespace Go.Proofs.YthhmhigddmimjaaGreat
open Go.ChangeShapes Go.WideShapes Go.ChangeAt Go.RowKit

def sgn (a : Int) : Int := if a < 0 then -1 else 1
def wt (node sg : Int) (x : GOrd) : Int := if x.node = node then max 0 (sg * x.amount) else 0
def wts (os : List GOrd) (node sg : Int) : List Int := os.map (wt node sg)
theorem own_cells_eq {w : World} {base : Nat} {e : TypeId} {size n : Nat} {v : Value} {xs ys : List Value} (h : w.ownsRow base e size v n xs) (he : xs = ys) : w.ownsRow base e size v n ys := he ▸ h
end Go.Proofs.YthhmhigddmimjaaGreat
