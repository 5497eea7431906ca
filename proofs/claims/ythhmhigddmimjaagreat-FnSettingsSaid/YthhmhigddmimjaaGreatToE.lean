import Derived.Test.YthhmhigddmimjaaGreatRows
import Derived.Test.YthhmhigddmimjaaGreatBase
import Derived.WalkKit
import Derived.ProofKit
import Derived.LoopTactic
import Derived.WalkLawsBesides
import Derived.WalkSpells
import Derived.Deep.RegionHeld3
/-
  The copies: toX and toXS return what they are given, in new memory. Printed by gen.py.
-/
namespace Go.Proofs.YthhmhigddmimjaaGreat
open Go.ChangeShapes Go.WideShapes Go.ChangeAt Go.RowKit

theorem infoNode : (Tryz.prog.info? 62).map (fun i => (i.zero, i.size, i.bytes)) = some (some (.agg #[.string ByteArray.empty, .int .i64 0, .int .i64 0]), 3, 32) := by kernel_rfl
theorem infoPipe : (Tryz.prog.info? 95).map (fun i => (i.zero, i.size, i.bytes)) = some (some (.agg #[.int .i64 0, .int .i64 0, .int .i64 0, .int .i64 0, .int .i64 0]), 5, 40) := by kernel_rfl
end Go.Proofs.YthhmhigddmimjaaGreat
/-
  The comparisons: eqX and eqXS say true of equal things. Printed by gen.py.
-/
namespace Go.Proofs.YthhmhigddmimjaaGreat
open Go.ChangeShapes Go.WideShapes Go.ChangeAt Go.RowKit

end Go.Proofs.YthhmhigddmimjaaGreat
/-
  markXS overwrites a row of the caller, heldXS says that it still holds what was written. Printed by gen.py.
-/
namespace Go.Proofs.YthhmhigddmimjaaGreat
open Go.ChangeShapes Go.WideShapes Go.ChangeAt Go.RowKit

def GPipe.mark (c : Int) (i : Nat) : GPipe := ⟨c + 5 * i + 0, c + 5 * i + 1, c + 5 * i + 2, c + 5 * i + 3, c + 5 * i + 4⟩
def GTr.mark (c : Int) (i : Nat) : GTr := ⟨c + 4 * i + 0, c + 4 * i + 1, c + 4 * i + 2, c + 4 * i + 3⟩

def GRd.mark (c : Int) (i : Nat) : GRd := ⟨c + 2 * i + 0, c + 2 * i + 1⟩

def GOrd.mark (c : Int) (i : Nat) : GOrd := ⟨c + 4 * i + 0, c + 4 * i + 1, c + 4 * i + 2, c + 4 * i + 3⟩

def GCon.mark (c : Int) (i : Nat) : GCon := ⟨c + 8 * i + 0, c + 8 * i + 1, c + 8 * i + 2, c + 8 * i + 3, c + 8 * i + 4, c + 8 * i + 5, c + 8 * i + 6, c + 8 * i + 7⟩

def GNom.mark (c : Int) (i : Nat) : GNom := ⟨c + 4 * i + 0, c + 4 * i + 1, c + 4 * i + 2, c + 4 * i + 3⟩

end Go.Proofs.YthhmhigddmimjaaGreat
