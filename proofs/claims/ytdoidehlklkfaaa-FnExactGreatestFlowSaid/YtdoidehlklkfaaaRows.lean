/-
  No cell of these rows narrows 'for every input' (looked for: loops, veiled, ifaces, maps, wideKeys, modest, calm, conditions, laid).
  DERIVED. THE GIVEN ROWS OF THIS SEAT. 12 by the template 'for every input the law returns true; each argument reads behind the call as it read before'; 0 by the template 'total and deterministic' (their statements: YtdoidehlklkfaaaTotals.lean).
  GIVEN WITH THE SEED: the statements are not yours to turn. If you find one false, say at which input.
  Laid BY PROGRAM, IN A SANDBOX (cutbox-rows.mjs): the forced cells as the released guide's own fill.sh prints them over the translation d9bc575b7fd7f258… (all of the seat's roots in one cut). By AI agents, Wed Nov 11 2026. No macro, syntax, notation, axiom, sorry.
-/
import Derived.Test.YtdoidehlklkfaaaChecked
import GoSem.Claim
import GoSem.ClaimJoined
import GoSem.ClaimMapViews
import Derived.JoinedTies
import Derived.KernelRfl
namespace Go.Proofs.Ytdoidehlklkfaaa
/- THE CELL 'sum', in the pinned program and in every row, IS THE sha256 OF THE DUMP (.gsa) THAT YtdoidehlklkfaaaProg.lean LOADS. Nothing in Lean hashes anything: it is a label: what it is worth is what the hold of that sum in a sandbox is worth. -/
noncomputable def Try.pinned : Pinned := { name := "ytdoidehlklkfaaa", sum := "d9bc575b7fd7f25841d729b18562a8e5e0058303de8eb319f01fe8564d119989", checked := Try.checked }
namespace Rows
def none {H : Type} : Left H := { results := [], args := [] }

/-- 'laws.FnExactAreTransports': WHATEVER THE INPUT: true; the input reads as it did. -/
def fnExactAreTransportsSpec : ChangeSpec := { name := "fnExactAreTransports", fn := fun _ => fun
  | [d1, d2] => { results := [.lit (.bool true)], args := [d1, d2] }
  | _ => none }
def fnExactAreTransportsRow : OpenClaim := { program := "ytdoidehlklkfaaa", sum := "d9bc575b7fd7f25841d729b18562a8e5e0058303de8eb319f01fe8564d119989", func := "loop.example/g00852/laws.FnExactAreTransports", spec := "fnExactAreTransports", unfollowed := true, recurses := true, apart := false }
def FnExactAreTransportsSaid : Prop := fnExactAreTransportsRow.holds Try.pinned (OpenSpec.ofChange fnExactAreTransportsSpec)

/-- ITS FALSE NEIGHBOUR: 'it returns false'. Refute it at one input. -/
def fnExactAreTransportsWrong : ChangeSpec := { name := "fnExactAreTransports", fn := fun _ => fun
  | [d1, d2] => { results := [.lit (.bool false)], args := [d1, d2] }
  | _ => none }
def FnExactAreTransportsWrongFalsely : Prop := fnExactAreTransportsRow.holds Try.pinned (OpenSpec.ofChange fnExactAreTransportsWrong)

/-- 'laws.FnExactAreReadings': WHATEVER THE INPUT: true; the input reads as it did. -/
def fnExactAreReadingsSpec : ChangeSpec := { name := "fnExactAreReadings", fn := fun _ => fun
  | [d1, d2] => { results := [.lit (.bool true)], args := [d1, d2] }
  | _ => none }
def fnExactAreReadingsRow : OpenClaim := { program := "ytdoidehlklkfaaa", sum := "d9bc575b7fd7f25841d729b18562a8e5e0058303de8eb319f01fe8564d119989", func := "loop.example/g00852/laws.FnExactAreReadings", spec := "fnExactAreReadings", unfollowed := true, recurses := true, apart := false }
def FnExactAreReadingsSaid : Prop := fnExactAreReadingsRow.holds Try.pinned (OpenSpec.ofChange fnExactAreReadingsSpec)

/-- ITS FALSE NEIGHBOUR: 'it returns false'. Refute it at one input. -/
def fnExactAreReadingsWrong : ChangeSpec := { name := "fnExactAreReadings", fn := fun _ => fun
  | [d1, d2] => { results := [.lit (.bool false)], args := [d1, d2] }
  | _ => none }
def FnExactAreReadingsWrongFalsely : Prop := fnExactAreReadingsRow.holds Try.pinned (OpenSpec.ofChange fnExactAreReadingsWrong)

/-- 'laws.FnExactMeasuredTotal': WHATEVER THE INPUT: true; the input reads as it did. -/
def fnExactMeasuredTotalSpec : ChangeSpec := { name := "fnExactMeasuredTotal", fn := fun _ => fun
  | [d1, d2] => { results := [.lit (.bool true)], args := [d1, d2] }
  | _ => none }
def fnExactMeasuredTotalRow : OpenClaim := { program := "ytdoidehlklkfaaa", sum := "d9bc575b7fd7f25841d729b18562a8e5e0058303de8eb319f01fe8564d119989", func := "loop.example/g00852/laws.FnExactMeasuredTotal", spec := "fnExactMeasuredTotal", unfollowed := true, recurses := true, apart := false }
def FnExactMeasuredTotalSaid : Prop := fnExactMeasuredTotalRow.holds Try.pinned (OpenSpec.ofChange fnExactMeasuredTotalSpec)

/-- ITS FALSE NEIGHBOUR: 'it returns false'. Refute it at one input. -/
def fnExactMeasuredTotalWrong : ChangeSpec := { name := "fnExactMeasuredTotal", fn := fun _ => fun
  | [d1, d2] => { results := [.lit (.bool false)], args := [d1, d2] }
  | _ => none }
def FnExactMeasuredTotalWrongFalsely : Prop := fnExactMeasuredTotalRow.holds Try.pinned (OpenSpec.ofChange fnExactMeasuredTotalWrong)

/-- 'laws.FnExactAmountsByClass': WHATEVER THE INPUT: true; the input reads as it did. -/
def fnExactAmountsByClassSpec : ChangeSpec := { name := "fnExactAmountsByClass", fn := fun _ => fun
  | [d1, d2] => { results := [.lit (.bool true)], args := [d1, d2] }
  | _ => none }
def fnExactAmountsByClassRow : OpenClaim := { program := "ytdoidehlklkfaaa", sum := "d9bc575b7fd7f25841d729b18562a8e5e0058303de8eb319f01fe8564d119989", func := "loop.example/g00852/laws.FnExactAmountsByClass", spec := "fnExactAmountsByClass", unfollowed := true, recurses := true, apart := false }
def FnExactAmountsByClassSaid : Prop := fnExactAmountsByClassRow.holds Try.pinned (OpenSpec.ofChange fnExactAmountsByClassSpec)

/-- ITS FALSE NEIGHBOUR: 'it returns false'. Refute it at one input. -/
def fnExactAmountsByClassWrong : ChangeSpec := { name := "fnExactAmountsByClass", fn := fun _ => fun
  | [d1, d2] => { results := [.lit (.bool false)], args := [d1, d2] }
  | _ => none }
def FnExactAmountsByClassWrongFalsely : Prop := fnExactAmountsByClassRow.holds Try.pinned (OpenSpec.ofChange fnExactAmountsByClassWrong)

/-- 'laws.FnExactSwitchPipes': WHATEVER THE INPUT: true; the input reads as it did. -/
def fnExactSwitchPipesSpec : ChangeSpec := { name := "fnExactSwitchPipes", fn := fun _ => fun
  | [d1, d2, d3, d4] => { results := [.lit (.bool true)], args := [d1, d2, d3, d4] }
  | _ => none }
def fnExactSwitchPipesRow : OpenClaim := { program := "ytdoidehlklkfaaa", sum := "d9bc575b7fd7f25841d729b18562a8e5e0058303de8eb319f01fe8564d119989", func := "loop.example/g00852/laws.FnExactSwitchPipes", spec := "fnExactSwitchPipes", unfollowed := true, recurses := true, apart := false }
def FnExactSwitchPipesSaid : Prop := fnExactSwitchPipesRow.holds Try.pinned (OpenSpec.ofChange fnExactSwitchPipesSpec)

/-- ITS FALSE NEIGHBOUR: 'it returns false'. Refute it at one input. -/
def fnExactSwitchPipesWrong : ChangeSpec := { name := "fnExactSwitchPipes", fn := fun _ => fun
  | [d1, d2, d3, d4] => { results := [.lit (.bool false)], args := [d1, d2, d3, d4] }
  | _ => none }
def FnExactSwitchPipesWrongFalsely : Prop := fnExactSwitchPipesRow.holds Try.pinned (OpenSpec.ofChange fnExactSwitchPipesWrong)

/-- 'laws.FnExactGreatestFlow': WHATEVER THE INPUT: true; the input reads as it did. -/
def fnExactGreatestFlowSpec : ChangeSpec := { name := "fnExactGreatestFlow", fn := fun _ => fun
  | [d1, d2, d3] => { results := [.lit (.bool true)], args := [d1, d2, d3] }
  | _ => none }
def fnExactGreatestFlowRow : OpenClaim := { program := "ytdoidehlklkfaaa", sum := "d9bc575b7fd7f25841d729b18562a8e5e0058303de8eb319f01fe8564d119989", func := "loop.example/g00852/laws.FnExactGreatestFlow", spec := "fnExactGreatestFlow", unfollowed := true, recurses := true, apart := false }
def FnExactGreatestFlowSaid : Prop := fnExactGreatestFlowRow.holds Try.pinned (OpenSpec.ofChange fnExactGreatestFlowSpec)

/-- ITS FALSE NEIGHBOUR: 'it returns false'. Refute it at one input. -/
def fnExactGreatestFlowWrong : ChangeSpec := { name := "fnExactGreatestFlow", fn := fun _ => fun
  | [d1, d2, d3] => { results := [.lit (.bool false)], args := [d1, d2, d3] }
  | _ => none }
def FnExactGreatestFlowWrongFalsely : Prop := fnExactGreatestFlowRow.holds Try.pinned (OpenSpec.ofChange fnExactGreatestFlowWrong)

/-- 'laws.FnExactOnlyClasses': WHATEVER THE INPUT: true; the input reads as it did. -/
def fnExactOnlyClassesSpec : ChangeSpec := { name := "fnExactOnlyClasses", fn := fun _ => fun
  | [d1, d2, d3] => { results := [.lit (.bool true)], args := [d1, d2, d3] }
  | _ => none }
def fnExactOnlyClassesRow : OpenClaim := { program := "ytdoidehlklkfaaa", sum := "d9bc575b7fd7f25841d729b18562a8e5e0058303de8eb319f01fe8564d119989", func := "loop.example/g00852/laws.FnExactOnlyClasses", spec := "fnExactOnlyClasses", unfollowed := true, recurses := true, apart := false }
def FnExactOnlyClassesSaid : Prop := fnExactOnlyClassesRow.holds Try.pinned (OpenSpec.ofChange fnExactOnlyClassesSpec)

/-- ITS FALSE NEIGHBOUR: 'it returns false'. Refute it at one input. -/
def fnExactOnlyClassesWrong : ChangeSpec := { name := "fnExactOnlyClasses", fn := fun _ => fun
  | [d1, d2, d3] => { results := [.lit (.bool false)], args := [d1, d2, d3] }
  | _ => none }
def FnExactOnlyClassesWrongFalsely : Prop := fnExactOnlyClassesRow.holds Try.pinned (OpenSpec.ofChange fnExactOnlyClassesWrong)

/-- 'laws.FnExactTransportSupplies': WHATEVER THE INPUT: true; the input reads as it did. -/
def fnExactTransportSuppliesSpec : ChangeSpec := { name := "fnExactTransportSupplies", fn := fun _ => fun
  | [d1, d2] => { results := [.lit (.bool true)], args := [d1, d2] }
  | _ => none }
def fnExactTransportSuppliesRow : OpenClaim := { program := "ytdoidehlklkfaaa", sum := "d9bc575b7fd7f25841d729b18562a8e5e0058303de8eb319f01fe8564d119989", func := "loop.example/g00852/laws.FnExactTransportSupplies", spec := "fnExactTransportSupplies", unfollowed := true, recurses := true, apart := false }
def FnExactTransportSuppliesSaid : Prop := fnExactTransportSuppliesRow.holds Try.pinned (OpenSpec.ofChange fnExactTransportSuppliesSpec)

/-- ITS FALSE NEIGHBOUR: 'it returns false'. Refute it at one input. -/
def fnExactTransportSuppliesWrong : ChangeSpec := { name := "fnExactTransportSupplies", fn := fun _ => fun
  | [d1, d2] => { results := [.lit (.bool false)], args := [d1, d2] }
  | _ => none }
def FnExactTransportSuppliesWrongFalsely : Prop := fnExactTransportSuppliesRow.holds Try.pinned (OpenSpec.ofChange fnExactTransportSuppliesWrong)

/-- 'laws.FnExactScaleTransports': WHATEVER THE INPUT: true; the input reads as it did. -/
def fnExactScaleTransportsSpec : ChangeSpec := { name := "fnExactScaleTransports", fn := fun _ => fun
  | [d1, d2, d3] => { results := [.lit (.bool true)], args := [d1, d2, d3] }
  | _ => none }
def fnExactScaleTransportsRow : OpenClaim := { program := "ytdoidehlklkfaaa", sum := "d9bc575b7fd7f25841d729b18562a8e5e0058303de8eb319f01fe8564d119989", func := "loop.example/g00852/laws.FnExactScaleTransports", spec := "fnExactScaleTransports", unfollowed := true, recurses := true, apart := false }
def FnExactScaleTransportsSaid : Prop := fnExactScaleTransportsRow.holds Try.pinned (OpenSpec.ofChange fnExactScaleTransportsSpec)

/-- ITS FALSE NEIGHBOUR: 'it returns false'. Refute it at one input. -/
def fnExactScaleTransportsWrong : ChangeSpec := { name := "fnExactScaleTransports", fn := fun _ => fun
  | [d1, d2, d3] => { results := [.lit (.bool false)], args := [d1, d2, d3] }
  | _ => none }
def FnExactScaleTransportsWrongFalsely : Prop := fnExactScaleTransportsRow.holds Try.pinned (OpenSpec.ofChange fnExactScaleTransportsWrong)

/-- 'laws.FnExactReadingsFor': WHATEVER THE INPUT: true; the input reads as it did. -/
def fnExactReadingsForSpec : ChangeSpec := { name := "fnExactReadingsFor", fn := fun _ => fun
  | [d1, d2] => { results := [.lit (.bool true)], args := [d1, d2] }
  | _ => none }
def fnExactReadingsForRow : OpenClaim := { program := "ytdoidehlklkfaaa", sum := "d9bc575b7fd7f25841d729b18562a8e5e0058303de8eb319f01fe8564d119989", func := "loop.example/g00852/laws.FnExactReadingsFor", spec := "fnExactReadingsFor", unfollowed := true, recurses := true, apart := false }
def FnExactReadingsForSaid : Prop := fnExactReadingsForRow.holds Try.pinned (OpenSpec.ofChange fnExactReadingsForSpec)

/-- ITS FALSE NEIGHBOUR: 'it returns false'. Refute it at one input. -/
def fnExactReadingsForWrong : ChangeSpec := { name := "fnExactReadingsFor", fn := fun _ => fun
  | [d1, d2] => { results := [.lit (.bool false)], args := [d1, d2] }
  | _ => none }
def FnExactReadingsForWrongFalsely : Prop := fnExactReadingsForRow.holds Try.pinned (OpenSpec.ofChange fnExactReadingsForWrong)

/-- 'laws.FnExactIsRoutable': WHATEVER THE INPUT: true; the input reads as it did. -/
def fnExactIsRoutableSpec : ChangeSpec := { name := "fnExactIsRoutable", fn := fun _ => fun
  | [d1, d2] => { results := [.lit (.bool true)], args := [d1, d2] }
  | _ => none }
def fnExactIsRoutableRow : OpenClaim := { program := "ytdoidehlklkfaaa", sum := "d9bc575b7fd7f25841d729b18562a8e5e0058303de8eb319f01fe8564d119989", func := "loop.example/g00852/laws.FnExactIsRoutable", spec := "fnExactIsRoutable", unfollowed := true, recurses := true, apart := false }
def FnExactIsRoutableSaid : Prop := fnExactIsRoutableRow.holds Try.pinned (OpenSpec.ofChange fnExactIsRoutableSpec)

/-- ITS FALSE NEIGHBOUR: 'it returns false'. Refute it at one input. -/
def fnExactIsRoutableWrong : ChangeSpec := { name := "fnExactIsRoutable", fn := fun _ => fun
  | [d1, d2] => { results := [.lit (.bool false)], args := [d1, d2] }
  | _ => none }
def FnExactIsRoutableWrongFalsely : Prop := fnExactIsRoutableRow.holds Try.pinned (OpenSpec.ofChange fnExactIsRoutableWrong)

/-- 'laws.FnExactUnallocatedOf': WHATEVER THE INPUT: true; the input reads as it did. -/
def fnExactUnallocatedOfSpec : ChangeSpec := { name := "fnExactUnallocatedOf", fn := fun _ => fun
  | [d1, d2, d3] => { results := [.lit (.bool true)], args := [d1, d2, d3] }
  | _ => none }
def fnExactUnallocatedOfRow : OpenClaim := { program := "ytdoidehlklkfaaa", sum := "d9bc575b7fd7f25841d729b18562a8e5e0058303de8eb319f01fe8564d119989", func := "loop.example/g00852/laws.FnExactUnallocatedOf", spec := "fnExactUnallocatedOf", unfollowed := true, recurses := true, apart := false }
def FnExactUnallocatedOfSaid : Prop := fnExactUnallocatedOfRow.holds Try.pinned (OpenSpec.ofChange fnExactUnallocatedOfSpec)

/-- ITS FALSE NEIGHBOUR: 'it returns false'. Refute it at one input. -/
def fnExactUnallocatedOfWrong : ChangeSpec := { name := "fnExactUnallocatedOf", fn := fun _ => fun
  | [d1, d2, d3] => { results := [.lit (.bool false)], args := [d1, d2, d3] }
  | _ => none }
def FnExactUnallocatedOfWrongFalsely : Prop := fnExactUnallocatedOfRow.holds Try.pinned (OpenSpec.ofChange fnExactUnallocatedOfWrong)

/- THE SECOND FORM. 'bulk': how many values and letters a reading holds, each counted each time it is reached (what is shared counts as often as it is met; a slice's spare places count too). A statement '..UptoSaid' is the law's where the arguments, and the package variables that the reading takes, are together of bulk at most 1048576: NARROWER than '..Said'. Prove '..Said' where nothing that the law and all that it calls make is longer than what came in: it says more and counts as full. Else prove '..UptoSaid'. A law counts once. -/
mutual
def uptoBulk {H : Type} : DataW H → Nat
  | .lit (.string bytes) => bytes.length + 1
  | .lit _ => 1
  | .nil => 1
  | .ptr d => uptoBulk d + 1
  | .slice elems spare => uptoBulkAll elems + uptoBulkAll spare + 1
  | .agg parts => uptoBulkAll parts + 1
  | .iface _ d => uptoBulk d + 1
  | .map entries => uptoBulkEntries entries + 1
  | .held _ => 1
def uptoBulkAll {H : Type} : List (DataW H) → Nat
  | [] => 0
  | d :: r => uptoBulk d + uptoBulkAll r
def uptoBulkEntries {H : Type} : List (Lit × DataW H) → Nat
  | [] => 0
  | x :: r => uptoBulkEntry x + uptoBulkEntries r
def uptoBulkEntry {H : Type} : Lit × DataW H → Nat
  | (.string bytes, d) => bytes.length + uptoBulk d + 1
  | (_, d) => uptoBulk d + 1
 end
def uptoSmall : (H : Type) → List (DataW H) → Bool := fun _ ds => decide (uptoBulkAll ds ≤ 1048576)
def OpenSpec.upto (s : _root_.Go.ChangeSpec) : _root_.Go.OpenSpec := { _root_.Go.OpenSpec.ofChange s with cond := some uptoSmall }

/-- 'laws.FnExactAreTransports', WHERE WHAT IT READS IS OF BULK AT MOST 1048576: true; the input reads as it did. -/
def fnExactAreTransportsUptoRow : OpenClaim := { program := "ytdoidehlklkfaaa", sum := "d9bc575b7fd7f25841d729b18562a8e5e0058303de8eb319f01fe8564d119989", func := "loop.example/g00852/laws.FnExactAreTransports", spec := "fnExactAreTransports", unfollowed := true, recurses := true, apart := false, narrowed := true }
def FnExactAreTransportsUptoSaid : Prop := fnExactAreTransportsUptoRow.holds Try.pinned (OpenSpec.upto fnExactAreTransportsSpec)

/-- 'laws.FnExactAreReadings', WHERE WHAT IT READS IS OF BULK AT MOST 1048576: true; the input reads as it did. -/
def fnExactAreReadingsUptoRow : OpenClaim := { program := "ytdoidehlklkfaaa", sum := "d9bc575b7fd7f25841d729b18562a8e5e0058303de8eb319f01fe8564d119989", func := "loop.example/g00852/laws.FnExactAreReadings", spec := "fnExactAreReadings", unfollowed := true, recurses := true, apart := false, narrowed := true }
def FnExactAreReadingsUptoSaid : Prop := fnExactAreReadingsUptoRow.holds Try.pinned (OpenSpec.upto fnExactAreReadingsSpec)

/-- 'laws.FnExactMeasuredTotal', WHERE WHAT IT READS IS OF BULK AT MOST 1048576: true; the input reads as it did. -/
def fnExactMeasuredTotalUptoRow : OpenClaim := { program := "ytdoidehlklkfaaa", sum := "d9bc575b7fd7f25841d729b18562a8e5e0058303de8eb319f01fe8564d119989", func := "loop.example/g00852/laws.FnExactMeasuredTotal", spec := "fnExactMeasuredTotal", unfollowed := true, recurses := true, apart := false, narrowed := true }
def FnExactMeasuredTotalUptoSaid : Prop := fnExactMeasuredTotalUptoRow.holds Try.pinned (OpenSpec.upto fnExactMeasuredTotalSpec)

/-- 'laws.FnExactAmountsByClass', WHERE WHAT IT READS IS OF BULK AT MOST 1048576: true; the input reads as it did. -/
def fnExactAmountsByClassUptoRow : OpenClaim := { program := "ytdoidehlklkfaaa", sum := "d9bc575b7fd7f25841d729b18562a8e5e0058303de8eb319f01fe8564d119989", func := "loop.example/g00852/laws.FnExactAmountsByClass", spec := "fnExactAmountsByClass", unfollowed := true, recurses := true, apart := false, narrowed := true }
def FnExactAmountsByClassUptoSaid : Prop := fnExactAmountsByClassUptoRow.holds Try.pinned (OpenSpec.upto fnExactAmountsByClassSpec)

/-- 'laws.FnExactSwitchPipes', WHERE WHAT IT READS IS OF BULK AT MOST 1048576: true; the input reads as it did. -/
def fnExactSwitchPipesUptoRow : OpenClaim := { program := "ytdoidehlklkfaaa", sum := "d9bc575b7fd7f25841d729b18562a8e5e0058303de8eb319f01fe8564d119989", func := "loop.example/g00852/laws.FnExactSwitchPipes", spec := "fnExactSwitchPipes", unfollowed := true, recurses := true, apart := false, narrowed := true }
def FnExactSwitchPipesUptoSaid : Prop := fnExactSwitchPipesUptoRow.holds Try.pinned (OpenSpec.upto fnExactSwitchPipesSpec)

/-- 'laws.FnExactGreatestFlow', WHERE WHAT IT READS IS OF BULK AT MOST 1048576: true; the input reads as it did. -/
def fnExactGreatestFlowUptoRow : OpenClaim := { program := "ytdoidehlklkfaaa", sum := "d9bc575b7fd7f25841d729b18562a8e5e0058303de8eb319f01fe8564d119989", func := "loop.example/g00852/laws.FnExactGreatestFlow", spec := "fnExactGreatestFlow", unfollowed := true, recurses := true, apart := false, narrowed := true }
def FnExactGreatestFlowUptoSaid : Prop := fnExactGreatestFlowUptoRow.holds Try.pinned (OpenSpec.upto fnExactGreatestFlowSpec)

/-- 'laws.FnExactOnlyClasses', WHERE WHAT IT READS IS OF BULK AT MOST 1048576: true; the input reads as it did. -/
def fnExactOnlyClassesUptoRow : OpenClaim := { program := "ytdoidehlklkfaaa", sum := "d9bc575b7fd7f25841d729b18562a8e5e0058303de8eb319f01fe8564d119989", func := "loop.example/g00852/laws.FnExactOnlyClasses", spec := "fnExactOnlyClasses", unfollowed := true, recurses := true, apart := false, narrowed := true }
def FnExactOnlyClassesUptoSaid : Prop := fnExactOnlyClassesUptoRow.holds Try.pinned (OpenSpec.upto fnExactOnlyClassesSpec)

/-- 'laws.FnExactTransportSupplies', WHERE WHAT IT READS IS OF BULK AT MOST 1048576: true; the input reads as it did. -/
def fnExactTransportSuppliesUptoRow : OpenClaim := { program := "ytdoidehlklkfaaa", sum := "d9bc575b7fd7f25841d729b18562a8e5e0058303de8eb319f01fe8564d119989", func := "loop.example/g00852/laws.FnExactTransportSupplies", spec := "fnExactTransportSupplies", unfollowed := true, recurses := true, apart := false, narrowed := true }
def FnExactTransportSuppliesUptoSaid : Prop := fnExactTransportSuppliesUptoRow.holds Try.pinned (OpenSpec.upto fnExactTransportSuppliesSpec)

/-- 'laws.FnExactScaleTransports', WHERE WHAT IT READS IS OF BULK AT MOST 1048576: true; the input reads as it did. -/
def fnExactScaleTransportsUptoRow : OpenClaim := { program := "ytdoidehlklkfaaa", sum := "d9bc575b7fd7f25841d729b18562a8e5e0058303de8eb319f01fe8564d119989", func := "loop.example/g00852/laws.FnExactScaleTransports", spec := "fnExactScaleTransports", unfollowed := true, recurses := true, apart := false, narrowed := true }
def FnExactScaleTransportsUptoSaid : Prop := fnExactScaleTransportsUptoRow.holds Try.pinned (OpenSpec.upto fnExactScaleTransportsSpec)

/-- 'laws.FnExactReadingsFor', WHERE WHAT IT READS IS OF BULK AT MOST 1048576: true; the input reads as it did. -/
def fnExactReadingsForUptoRow : OpenClaim := { program := "ytdoidehlklkfaaa", sum := "d9bc575b7fd7f25841d729b18562a8e5e0058303de8eb319f01fe8564d119989", func := "loop.example/g00852/laws.FnExactReadingsFor", spec := "fnExactReadingsFor", unfollowed := true, recurses := true, apart := false, narrowed := true }
def FnExactReadingsForUptoSaid : Prop := fnExactReadingsForUptoRow.holds Try.pinned (OpenSpec.upto fnExactReadingsForSpec)

/-- 'laws.FnExactIsRoutable', WHERE WHAT IT READS IS OF BULK AT MOST 1048576: true; the input reads as it did. -/
def fnExactIsRoutableUptoRow : OpenClaim := { program := "ytdoidehlklkfaaa", sum := "d9bc575b7fd7f25841d729b18562a8e5e0058303de8eb319f01fe8564d119989", func := "loop.example/g00852/laws.FnExactIsRoutable", spec := "fnExactIsRoutable", unfollowed := true, recurses := true, apart := false, narrowed := true }
def FnExactIsRoutableUptoSaid : Prop := fnExactIsRoutableUptoRow.holds Try.pinned (OpenSpec.upto fnExactIsRoutableSpec)

/-- 'laws.FnExactUnallocatedOf', WHERE WHAT IT READS IS OF BULK AT MOST 1048576: true; the input reads as it did. -/
def fnExactUnallocatedOfUptoRow : OpenClaim := { program := "ytdoidehlklkfaaa", sum := "d9bc575b7fd7f25841d729b18562a8e5e0058303de8eb319f01fe8564d119989", func := "loop.example/g00852/laws.FnExactUnallocatedOf", spec := "fnExactUnallocatedOf", unfollowed := true, recurses := true, apart := false, narrowed := true }
def FnExactUnallocatedOfUptoSaid : Prop := fnExactUnallocatedOfUptoRow.holds Try.pinned (OpenSpec.upto fnExactUnallocatedOfSpec)

end Rows
end Go.Proofs.Ytdoidehlklkfaaa
