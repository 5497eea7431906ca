import Derived.Test.YthhmhigddmimjaaGreatSups
import Derived.Test.YthhmhigddmimjaaGreatOrd
import Derived.Test.YthhmhigddmimjaaGreatText
import Derived.Deep.RegionHeld3
import Derived.Test.YthhmhigddmimjaaGreatIndex
import Derived.Test.YthhmhigddmimjaaGreatNetOk
/-
  Plain functions: books of contracts, nominations, the transports of nominations. No program here.
-/
namespace Go.Proofs.YthhmhigddmimjaaGreat

def conOk (nn : Int) (x : GCon) : Bool := inB 0 x.shipper 15 && inB 0 x.entry (nn - 1) && inB 0 x.exit (nn - 1) && !(x.entry == x.exit) && inB 1 x.amount 30000 && inB 0 x.cls 3 && decide (0 ≤ x.src) && decide (x.src ≤ x.dst) && decide (x.dst < 48) && inB 0 x.price 1000000
def bookOk (nn : Int) (l : List GCon) : Bool := decide (l.length ≤ 32) && l.all (conOk nn)
def coCode (n : GNet) (l : List GCon) : Int := if netOk n then (if bookOk n.nodes.length l then 0 else 3) else 1
def GCon.d0 : GCon := ⟨0, 0, 0, 0, 0, 0, 0, 0⟩
def GNom.d0 : GNom := ⟨0, 0, 0, 0⟩
/-- The contract of a nomination. -/
def conAt (b : List GCon) (k : Int) : GCon := b.getD k.toNat GCon.d0
def nomOk (b : List GCon) (x : GNom) : Bool := inB 0 x.contract ((b.length : Int) - 1) && inB (conAt b x.contract).src x.hour (conAt b x.contract).dst && inB (-48) x.sent (x.hour - 2) && inB 0 x.amount (conAt b x.contract).amount
def nomAt (b : List GCon) (l : List GNom) (i : Nat) : Bool := nomOk b (l.getD i GNom.d0) && (decide (i = 0) || decide ((l.getD (i - 1) GNom.d0).sent ≤ (l.getD i GNom.d0).sent))
def nomsOk (b : List GCon) (l : List GNom) : Bool := decide (l.length ≤ 200) && (List.range l.length).all (nomAt b l)
def nmCode (n : GNet) (b : List GCon) (l : List GNom) : Int := if coCode n b = 0 then (if nomsOk b l then 0 else 5) else coCode n b
def amCode (n : GNet) (b : List GCon) (l : List GNom) (h : Int) : Int := if nmCode n b l = 0 then (if inB 0 h 47 then 0 else 2) else nmCode n b l
/-- The amounts of the first nominations of a list. -/
def amStep (h : Int) (a : List Int) (x : GNom) : List Int := if x.hour = h then a.set x.contract.toNat x.amount else a
def amTo (b : List GCon) (l : List GNom) (h : Int) (k : Nat) : List Int := (l.take k).foldl (amStep h) (List.replicate b.length 0)
def amL (b : List GCon) (l : List GNom) (h : Int) : List Int := amTo b l h l.length
/-- The transports of nominations. -/
def fnAt (b : List GCon) (a : List Int) (i : Nat) : GTr := ⟨(b.getD i GCon.d0).entry, (b.getD i GCon.d0).exit, a.getD i 0, (b.getD i GCon.d0).cls⟩
def fnTo (b : List GCon) (a : List Int) (k : Nat) : List GTr := (List.range k).map (fnAt b a)
def fnRes (n : GNet) (b : List GCon) (l : List GNom) (h : Int) : List GTr := if amCode n b l h = 0 then fnTo b (amL b l h) b.length else []
/-- The codes of the supplies of nominations. -/
def nsCode (n : GNet) (b : List GCon) (l : List GNom) (h : Int) : Int := if amCode n b l h = 0 then (if supOk n.nodes.length (supplies n.nodes.length (fnRes n b l h)) then 0 else 7) else amCode n b l h
def nsRes (n : GNet) (b : List GCon) (l : List GNom) (h : Int) : List Int := if nsCode n b l h = 0 then supplies n.nodes.length (fnRes n b l h) else []
end Go.Proofs.YthhmhigddmimjaaGreat
/-
  Contracts of both sides. Printed by gen_nom.py.
-/
set_option linter.unusedSimpArgs false
set_option linter.unusedVariables false
namespace Go.Proofs.YthhmhigddmimjaaGreat
open Go.ChangeShapes Go.WideShapes Go.ChangeAt Go.RowKit

end Go.Proofs.YthhmhigddmimjaaGreat
/-
  Books of both sides. Printed by gen_nom.py.
-/
set_option linter.unusedSimpArgs false
set_option linter.unusedVariables false
namespace Go.Proofs.YthhmhigddmimjaaGreat
open Go.ChangeShapes Go.WideShapes Go.ChangeAt Go.RowKit

end Go.Proofs.YthhmhigddmimjaaGreat
/-
  One nomination, both sides. Printed by gen_nom.py.
-/
set_option linter.unusedSimpArgs false
set_option linter.unusedVariables false
namespace Go.Proofs.YthhmhigddmimjaaGreat
open Go.ChangeShapes Go.WideShapes Go.ChangeAt Go.RowKit

end Go.Proofs.YthhmhigddmimjaaGreat
