/-
  markXS overwrites a row of the caller, heldXS says that it still holds what was written. Printed by gen.py.
-/
import Derived.Test.YtelhmfgfjlpkaaaRows
import Derived.Test.YtelhmfgfjlpkaaaBase
import Derived.WalkKit
import Derived.ProofKit
import Derived.LoopTactic
import Derived.WalkLawsBesides
import Derived.WalkSpells
namespace Go.Proofs.Ytelhmfgfjlpkaaa
open Go.ChangeShapes Go.WideShapes Go.ChangeAt Go.RowKit

def GPipe.mark (c : Int) (i : Nat) : GPipe := ⟨c + 5 * i + 0, c + 5 * i + 1, c + 5 * i + 2, c + 5 * i + 3, c + 5 * i + 4⟩

def GTr.mark (c : Int) (i : Nat) : GTr := ⟨c + 4 * i + 0, c + 4 * i + 1, c + 4 * i + 2, c + 4 * i + 3⟩

def GRd.mark (c : Int) (i : Nat) : GRd := ⟨c + 2 * i + 0, c + 2 * i + 1⟩

def GOrd.mark (c : Int) (i : Nat) : GOrd := ⟨c + 4 * i + 0, c + 4 * i + 1, c + 4 * i + 2, c + 4 * i + 3⟩

def GCon.mark (c : Int) (i : Nat) : GCon := ⟨c + 8 * i + 0, c + 8 * i + 1, c + 8 * i + 2, c + 8 * i + 3, c + 8 * i + 4, c + 8 * i + 5, c + 8 * i + 6, c + 8 * i + 7⟩

def GNom.mark (c : Int) (i : Nat) : GNom := ⟨c + 4 * i + 0, c + 4 * i + 1, c + 4 * i + 2, c + 4 * i + 3⟩

end Go.Proofs.Ytelhmfgfjlpkaaa
