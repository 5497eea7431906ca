/-
  No cell of these rows narrows 'for every input' (looked for: loops, veiled, ifaces, maps, wideKeys, modest, calm, conditions, laid).
  DERIVED. THE GIVEN ROWS OF THIS SEAT. 7 by the template 'for every input the law returns true; each argument reads behind the call as it read before'; 0 by the template 'total and deterministic' (their statements: YthhmhigddmimjaaGreatTotals.lean).
  GIVEN WITH THE SEED: the statements are not yours to turn. If you find one false, say at which input.
  Laid BY PROGRAM, IN A SANDBOX (cutbox-rows.mjs): the forced cells as the released guide's own fill.sh prints them over the translation 2138453f0a59d6de… (all of the seat's roots in one cut). By AI agents, Wed Nov 11 2026. No macro, syntax, notation, axiom, sorry.
-/
import Derived.Test.YthhmhigddmimjaaGreatChecked
import GoSem.Claim
import GoSem.ClaimJoined
import GoSem.ClaimMapViews
import Derived.JoinedTies
import Derived.KernelRfl
namespace Go.Proofs.YthhmhigddmimjaaGreat
/- THE CELL 'sum', in the pinned program and in every row, IS THE sha256 OF THE DUMP (.gsa) THAT YthhmhigddmimjaaGreatProg.lean LOADS. Nothing in Lean hashes anything: it is a label: what it is worth is what the hold of that sum in a sandbox is worth. -/
noncomputable def Tryz.pinned : Pinned := { name := "ythhmhigddmimjaagreat", sum := "2138453f0a59d6deac6ce19cb6fe1988aefe924afb692628eb23df9e5c4b8233", checked := Tryz.checked }
namespace Rows
def none {H : Type} : Left H := { results := [], args := [] }

/-- 'laws.FnExactAreGood': WHATEVER THE INPUT: true; the input reads as it did. -/
def fnExactAreGoodSpec : ChangeSpec := { name := "fnExactAreGood", fn := fun _ => fun
  | [d1, d2, d3] => { results := [.lit (.bool true)], args := [d1, d2, d3] }
  | _ => none }
def fnExactAreGoodRow : OpenClaim := { program := "ythhmhigddmimjaagreat", sum := "2138453f0a59d6deac6ce19cb6fe1988aefe924afb692628eb23df9e5c4b8233", func := "loop.example/g00852/laws.FnExactAreGood", spec := "fnExactAreGood", unfollowed := true, recurses := true, apart := false }
def FnExactAreGoodSaid : Prop := fnExactAreGoodRow.holds Tryz.pinned (OpenSpec.ofChange fnExactAreGoodSpec)

/-- ITS FALSE NEIGHBOUR: 'it returns false'. Refute it at one input. -/
def fnExactAreGoodWrong : ChangeSpec := { name := "fnExactAreGood", fn := fun _ => fun
  | [d1, d2, d3] => { results := [.lit (.bool false)], args := [d1, d2, d3] }
  | _ => none }
def FnExactAreGoodWrongFalsely : Prop := fnExactAreGoodRow.holds Tryz.pinned (OpenSpec.ofChange fnExactAreGoodWrong)

/-- 'laws.FnExactRootLevel': WHATEVER THE INPUT: true; the input reads as it did. -/
def fnExactRootLevelSpec : ChangeSpec := { name := "fnExactRootLevel", fn := fun _ => fun
  | [d1, d2, d3] => { results := [.lit (.bool true)], args := [d1, d2, d3] }
  | _ => none }
def fnExactRootLevelRow : OpenClaim := { program := "ythhmhigddmimjaagreat", sum := "2138453f0a59d6deac6ce19cb6fe1988aefe924afb692628eb23df9e5c4b8233", func := "loop.example/g00852/laws.FnExactRootLevel", spec := "fnExactRootLevel", unfollowed := true, recurses := true, apart := false }
def FnExactRootLevelSaid : Prop := fnExactRootLevelRow.holds Tryz.pinned (OpenSpec.ofChange fnExactRootLevelSpec)

/-- ITS FALSE NEIGHBOUR: 'it returns false'. Refute it at one input. -/
def fnExactRootLevelWrong : ChangeSpec := { name := "fnExactRootLevel", fn := fun _ => fun
  | [d1, d2, d3] => { results := [.lit (.bool false)], args := [d1, d2, d3] }
  | _ => none }
def FnExactRootLevelWrongFalsely : Prop := fnExactRootLevelRow.holds Tryz.pinned (OpenSpec.ofChange fnExactRootLevelWrong)

/-- 'laws.FnExactFindSettings': WHATEVER THE INPUT: true; the input reads as it did. -/
def fnExactFindSettingsSpec : ChangeSpec := { name := "fnExactFindSettings", fn := fun _ => fun
  | [d1, d2, d3, d4] => { results := [.lit (.bool true)], args := [d1, d2, d3, d4] }
  | _ => none }
def fnExactFindSettingsRow : OpenClaim := { program := "ythhmhigddmimjaagreat", sum := "2138453f0a59d6deac6ce19cb6fe1988aefe924afb692628eb23df9e5c4b8233", func := "loop.example/g00852/laws.FnExactFindSettings", spec := "fnExactFindSettings", unfollowed := true, recurses := true, apart := false }
def FnExactFindSettingsSaid : Prop := fnExactFindSettingsRow.holds Tryz.pinned (OpenSpec.ofChange fnExactFindSettingsSpec)

/-- ITS FALSE NEIGHBOUR: 'it returns false'. Refute it at one input. -/
def fnExactFindSettingsWrong : ChangeSpec := { name := "fnExactFindSettings", fn := fun _ => fun
  | [d1, d2, d3, d4] => { results := [.lit (.bool false)], args := [d1, d2, d3, d4] }
  | _ => none }
def FnExactFindSettingsWrongFalsely : Prop := fnExactFindSettingsRow.holds Tryz.pinned (OpenSpec.ofChange fnExactFindSettingsWrong)

/-- 'laws.FnExactGoodNumbers': WHATEVER THE INPUT: true; the input reads as it did. -/
def fnExactGoodNumbersSpec : ChangeSpec := { name := "fnExactGoodNumbers", fn := fun _ => fun
  | [d1, d2, d3, d4] => { results := [.lit (.bool true)], args := [d1, d2, d3, d4] }
  | _ => none }
def fnExactGoodNumbersRow : OpenClaim := { program := "ythhmhigddmimjaagreat", sum := "2138453f0a59d6deac6ce19cb6fe1988aefe924afb692628eb23df9e5c4b8233", func := "loop.example/g00852/laws.FnExactGoodNumbers", spec := "fnExactGoodNumbers", unfollowed := true, recurses := true, apart := false }
def FnExactGoodNumbersSaid : Prop := fnExactGoodNumbersRow.holds Tryz.pinned (OpenSpec.ofChange fnExactGoodNumbersSpec)

/-- ITS FALSE NEIGHBOUR: 'it returns false'. Refute it at one input. -/
def fnExactGoodNumbersWrong : ChangeSpec := { name := "fnExactGoodNumbers", fn := fun _ => fun
  | [d1, d2, d3, d4] => { results := [.lit (.bool false)], args := [d1, d2, d3, d4] }
  | _ => none }
def FnExactGoodNumbersWrongFalsely : Prop := fnExactGoodNumbersRow.holds Tryz.pinned (OpenSpec.ofChange fnExactGoodNumbersWrong)

/-- 'laws.FnSettings': WHATEVER THE INPUT: true; the input reads as it did. -/
def fnSettingsSpec : ChangeSpec := { name := "fnSettings", fn := fun _ => fun
  | [d] => { results := [.lit (.bool true)], args := [d] }
  | _ => none }
def fnSettingsRow : OpenClaim := { program := "ythhmhigddmimjaagreat", sum := "2138453f0a59d6deac6ce19cb6fe1988aefe924afb692628eb23df9e5c4b8233", func := "loop.example/g00852/laws.FnSettings", spec := "fnSettings", unfollowed := true, recurses := true, apart := false }
def FnSettingsSaid : Prop := fnSettingsRow.holds Tryz.pinned (OpenSpec.ofChange fnSettingsSpec)

/-- ITS FALSE NEIGHBOUR: 'it returns false'. Refute it at one input. -/
def fnSettingsWrong : ChangeSpec := { name := "fnSettings", fn := fun _ => fun
  | [d] => { results := [.lit (.bool false)], args := [d] }
  | _ => none }
def FnSettingsWrongFalsely : Prop := fnSettingsRow.holds Tryz.pinned (OpenSpec.ofChange fnSettingsWrong)

/-- 'laws.FnPoints': WHATEVER THE INPUT: true; the input reads as it did. -/
def fnPointsSpec : ChangeSpec := { name := "fnPoints", fn := fun _ => fun
  | [d] => { results := [.lit (.bool true)], args := [d] }
  | _ => none }
def fnPointsRow : OpenClaim := { program := "ythhmhigddmimjaagreat", sum := "2138453f0a59d6deac6ce19cb6fe1988aefe924afb692628eb23df9e5c4b8233", func := "loop.example/g00852/laws.FnPoints", spec := "fnPoints", unfollowed := true, recurses := true, apart := false }
def FnPointsSaid : Prop := fnPointsRow.holds Tryz.pinned (OpenSpec.ofChange fnPointsSpec)

/-- ITS FALSE NEIGHBOUR: 'it returns false'. Refute it at one input. -/
def fnPointsWrong : ChangeSpec := { name := "fnPoints", fn := fun _ => fun
  | [d] => { results := [.lit (.bool false)], args := [d] }
  | _ => none }
def FnPointsWrongFalsely : Prop := fnPointsRow.holds Tryz.pinned (OpenSpec.ofChange fnPointsWrong)

/-- 'laws.FnRootLevels': WHATEVER THE INPUT: true; the input reads as it did. -/
def fnRootLevelsSpec : ChangeSpec := { name := "fnRootLevels", fn := fun _ => fun
  | [d] => { results := [.lit (.bool true)], args := [d] }
  | _ => none }
def fnRootLevelsRow : OpenClaim := { program := "ythhmhigddmimjaagreat", sum := "2138453f0a59d6deac6ce19cb6fe1988aefe924afb692628eb23df9e5c4b8233", func := "loop.example/g00852/laws.FnRootLevels", spec := "fnRootLevels", unfollowed := true, recurses := true, apart := false }
def FnRootLevelsSaid : Prop := fnRootLevelsRow.holds Tryz.pinned (OpenSpec.ofChange fnRootLevelsSpec)

/-- ITS FALSE NEIGHBOUR: 'it returns false'. Refute it at one input. -/
def fnRootLevelsWrong : ChangeSpec := { name := "fnRootLevels", fn := fun _ => fun
  | [d] => { results := [.lit (.bool false)], args := [d] }
  | _ => none }
def FnRootLevelsWrongFalsely : Prop := fnRootLevelsRow.holds Tryz.pinned (OpenSpec.ofChange fnRootLevelsWrong)

/- THE SECOND FORM. 'bulk': how many values and letters a reading holds, each counted each time it is reached (what is shared counts as often as it is met; a slice's spare places count too). A statement '..UptoSaid' is the law's where the arguments, and the package variables that the reading takes, are together of bulk at most 1048576: NARROWER than '..Said'. Prove '..Said' where nothing that the law and all that it calls make is longer than what came in: it says more and counts as full. Else prove '..UptoSaid'. A law counts once. -/
mutual
def uptoBulk {H : Type} : DataW H → Nat
  | .lit (.string bytes) => bytes.length + 1
  | .lit _ => 1
  | .nil => 1
  | .ptr d => uptoBulk d + 1
  | .slice elems spare => uptoBulkAll elems + uptoBulkAll spare + 1
  | .agg parts => uptoBulkAll parts + 1
  | .iface _ d => uptoBulk d + 1
  | .map entries => uptoBulkEntries entries + 1
  | .held _ => 1
def uptoBulkAll {H : Type} : List (DataW H) → Nat
  | [] => 0
  | d :: r => uptoBulk d + uptoBulkAll r
def uptoBulkEntries {H : Type} : List (Lit × DataW H) → Nat
  | [] => 0
  | x :: r => uptoBulkEntry x + uptoBulkEntries r
def uptoBulkEntry {H : Type} : Lit × DataW H → Nat
  | (.string bytes, d) => bytes.length + uptoBulk d + 1
  | (_, d) => uptoBulk d + 1
 end
def uptoSmall : (H : Type) → List (DataW H) → Bool := fun _ ds => decide (uptoBulkAll ds ≤ 1048576)
def OpenSpec.upto (s : _root_.Go.ChangeSpec) : _root_.Go.OpenSpec := { _root_.Go.OpenSpec.ofChange s with cond := some uptoSmall }

/-- 'laws.FnExactAreGood', WHERE WHAT IT READS IS OF BULK AT MOST 1048576: true; the input reads as it did. -/
def fnExactAreGoodUptoRow : OpenClaim := { program := "ythhmhigddmimjaagreat", sum := "2138453f0a59d6deac6ce19cb6fe1988aefe924afb692628eb23df9e5c4b8233", func := "loop.example/g00852/laws.FnExactAreGood", spec := "fnExactAreGood", unfollowed := true, recurses := true, apart := false, narrowed := true }
def FnExactAreGoodUptoSaid : Prop := fnExactAreGoodUptoRow.holds Tryz.pinned (OpenSpec.upto fnExactAreGoodSpec)

/-- 'laws.FnExactRootLevel', WHERE WHAT IT READS IS OF BULK AT MOST 1048576: true; the input reads as it did. -/
def fnExactRootLevelUptoRow : OpenClaim := { program := "ythhmhigddmimjaagreat", sum := "2138453f0a59d6deac6ce19cb6fe1988aefe924afb692628eb23df9e5c4b8233", func := "loop.example/g00852/laws.FnExactRootLevel", spec := "fnExactRootLevel", unfollowed := true, recurses := true, apart := false, narrowed := true }
def FnExactRootLevelUptoSaid : Prop := fnExactRootLevelUptoRow.holds Tryz.pinned (OpenSpec.upto fnExactRootLevelSpec)

/-- 'laws.FnExactFindSettings', WHERE WHAT IT READS IS OF BULK AT MOST 1048576: true; the input reads as it did. -/
def fnExactFindSettingsUptoRow : OpenClaim := { program := "ythhmhigddmimjaagreat", sum := "2138453f0a59d6deac6ce19cb6fe1988aefe924afb692628eb23df9e5c4b8233", func := "loop.example/g00852/laws.FnExactFindSettings", spec := "fnExactFindSettings", unfollowed := true, recurses := true, apart := false, narrowed := true }
def FnExactFindSettingsUptoSaid : Prop := fnExactFindSettingsUptoRow.holds Tryz.pinned (OpenSpec.upto fnExactFindSettingsSpec)

/-- 'laws.FnExactGoodNumbers', WHERE WHAT IT READS IS OF BULK AT MOST 1048576: true; the input reads as it did. -/
def fnExactGoodNumbersUptoRow : OpenClaim := { program := "ythhmhigddmimjaagreat", sum := "2138453f0a59d6deac6ce19cb6fe1988aefe924afb692628eb23df9e5c4b8233", func := "loop.example/g00852/laws.FnExactGoodNumbers", spec := "fnExactGoodNumbers", unfollowed := true, recurses := true, apart := false, narrowed := true }
def FnExactGoodNumbersUptoSaid : Prop := fnExactGoodNumbersUptoRow.holds Tryz.pinned (OpenSpec.upto fnExactGoodNumbersSpec)

/-- 'laws.FnSettings', WHERE WHAT IT READS IS OF BULK AT MOST 1048576: true; the input reads as it did. -/
def fnSettingsUptoRow : OpenClaim := { program := "ythhmhigddmimjaagreat", sum := "2138453f0a59d6deac6ce19cb6fe1988aefe924afb692628eb23df9e5c4b8233", func := "loop.example/g00852/laws.FnSettings", spec := "fnSettings", unfollowed := true, recurses := true, apart := false, narrowed := true }
def FnSettingsUptoSaid : Prop := fnSettingsUptoRow.holds Tryz.pinned (OpenSpec.upto fnSettingsSpec)

/-- 'laws.FnPoints', WHERE WHAT IT READS IS OF BULK AT MOST 1048576: true; the input reads as it did. -/
def fnPointsUptoRow : OpenClaim := { program := "ythhmhigddmimjaagreat", sum := "2138453f0a59d6deac6ce19cb6fe1988aefe924afb692628eb23df9e5c4b8233", func := "loop.example/g00852/laws.FnPoints", spec := "fnPoints", unfollowed := true, recurses := true, apart := false, narrowed := true }
def FnPointsUptoSaid : Prop := fnPointsUptoRow.holds Tryz.pinned (OpenSpec.upto fnPointsSpec)

/-- 'laws.FnRootLevels', WHERE WHAT IT READS IS OF BULK AT MOST 1048576: true; the input reads as it did. -/
def fnRootLevelsUptoRow : OpenClaim := { program := "ythhmhigddmimjaagreat", sum := "2138453f0a59d6deac6ce19cb6fe1988aefe924afb692628eb23df9e5c4b8233", func := "loop.example/g00852/laws.FnRootLevels", spec := "fnRootLevels", unfollowed := true, recurses := true, apart := false, narrowed := true }
def FnRootLevelsUptoSaid : Prop := fnRootLevelsUptoRow.holds Tryz.pinned (OpenSpec.upto fnRootLevelsSpec)

end Rows
end Go.Proofs.YthhmhigddmimjaaGreat
