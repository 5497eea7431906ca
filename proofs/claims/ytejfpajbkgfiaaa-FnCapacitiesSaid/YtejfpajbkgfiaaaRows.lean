/-
  No cell of these rows narrows 'for every input' (looked for: loops, veiled, ifaces, maps, wideKeys, modest, calm, conditions, laid).
  DERIVED. THE GIVEN ROWS OF THIS SEAT. 12 by the template 'for every input the law returns true; each argument reads behind the call as it read before'; 0 by the template 'total and deterministic' (their statements: YtejfpajbkgfiaaaTotals.lean).
  GIVEN WITH THE SEED: the statements are not yours to turn. If you find one false, say at which input.
  Laid BY PROGRAM, IN A SANDBOX (cutbox-rows.mjs): the forced cells as the released guide's own fill.sh prints them over the translation 513906fd961e22f2… (all of the seat's roots in one cut). By AI agents, Wed Nov 11 2026. No macro, syntax, notation, axiom, sorry.
-/
import Derived.Test.YtejfpajbkgfiaaaChecked
import GoSem.Claim
import GoSem.ClaimJoined
import GoSem.ClaimMapViews
import Derived.JoinedTies
import Derived.KernelRfl
namespace Go.Proofs.Ytejfpajbkgfiaaa
/- THE CELL 'sum', in the pinned program and in every row, IS THE sha256 OF THE DUMP (.gsa) THAT YtejfpajbkgfiaaaProg.lean LOADS. Nothing in Lean hashes anything: it is a label: what it is worth is what the hold of that sum in a sandbox is worth. -/
noncomputable def Try.pinned : Pinned := { name := "ytejfpajbkgfiaaa", sum := "513906fd961e22f2bf541ff1187cec46ed920014c851e99b8672df34934f7beb", checked := Try.checked }
namespace Rows
def none {H : Type} : Left H := { results := [], args := [] }

/-- 'laws.FnClasses': WHATEVER THE INPUT: true; the input reads as it did. -/
def fnClassesSpec : ChangeSpec := { name := "fnClasses", fn := fun _ => fun
  | [d] => { results := [.lit (.bool true)], args := [d] }
  | _ => none }
def fnClassesRow : OpenClaim := { program := "ytejfpajbkgfiaaa", sum := "513906fd961e22f2bf541ff1187cec46ed920014c851e99b8672df34934f7beb", func := "loop.example/g00852/laws.FnClasses", spec := "fnClasses", unfollowed := true, recurses := true, apart := false }
def FnClassesSaid : Prop := fnClassesRow.holds Try.pinned (OpenSpec.ofChange fnClassesSpec)

/-- ITS FALSE NEIGHBOUR: 'it returns false'. Refute it at one input. -/
def fnClassesWrong : ChangeSpec := { name := "fnClasses", fn := fun _ => fun
  | [d] => { results := [.lit (.bool false)], args := [d] }
  | _ => none }
def FnClassesWrongFalsely : Prop := fnClassesRow.holds Try.pinned (OpenSpec.ofChange fnClassesWrong)

/-- 'laws.FnScaled': WHATEVER THE INPUT: true; the input reads as it did. -/
def fnScaledSpec : ChangeSpec := { name := "fnScaled", fn := fun _ => fun
  | [d] => { results := [.lit (.bool true)], args := [d] }
  | _ => none }
def fnScaledRow : OpenClaim := { program := "ytejfpajbkgfiaaa", sum := "513906fd961e22f2bf541ff1187cec46ed920014c851e99b8672df34934f7beb", func := "loop.example/g00852/laws.FnScaled", spec := "fnScaled", unfollowed := true, recurses := true, apart := false }
def FnScaledSaid : Prop := fnScaledRow.holds Try.pinned (OpenSpec.ofChange fnScaledSpec)

/-- ITS FALSE NEIGHBOUR: 'it returns false'. Refute it at one input. -/
def fnScaledWrong : ChangeSpec := { name := "fnScaled", fn := fun _ => fun
  | [d] => { results := [.lit (.bool false)], args := [d] }
  | _ => none }
def FnScaledWrongFalsely : Prop := fnScaledRow.holds Try.pinned (OpenSpec.ofChange fnScaledWrong)

/-- 'laws.FnTransportSupplies': WHATEVER THE INPUT: true; the input reads as it did. -/
def fnTransportSuppliesSpec : ChangeSpec := { name := "fnTransportSupplies", fn := fun _ => fun
  | [d] => { results := [.lit (.bool true)], args := [d] }
  | _ => none }
def fnTransportSuppliesRow : OpenClaim := { program := "ytejfpajbkgfiaaa", sum := "513906fd961e22f2bf541ff1187cec46ed920014c851e99b8672df34934f7beb", func := "loop.example/g00852/laws.FnTransportSupplies", spec := "fnTransportSupplies", unfollowed := true, recurses := true, apart := false }
def FnTransportSuppliesSaid : Prop := fnTransportSuppliesRow.holds Try.pinned (OpenSpec.ofChange fnTransportSuppliesSpec)

/-- ITS FALSE NEIGHBOUR: 'it returns false'. Refute it at one input. -/
def fnTransportSuppliesWrong : ChangeSpec := { name := "fnTransportSupplies", fn := fun _ => fun
  | [d] => { results := [.lit (.bool false)], args := [d] }
  | _ => none }
def FnTransportSuppliesWrongFalsely : Prop := fnTransportSuppliesRow.holds Try.pinned (OpenSpec.ofChange fnTransportSuppliesWrong)

/-- 'laws.FnCheckedScales': WHATEVER THE INPUT: true; the input reads as it did. -/
def fnCheckedScalesSpec : ChangeSpec := { name := "fnCheckedScales", fn := fun _ => fun
  | [d] => { results := [.lit (.bool true)], args := [d] }
  | _ => none }
def fnCheckedScalesRow : OpenClaim := { program := "ytejfpajbkgfiaaa", sum := "513906fd961e22f2bf541ff1187cec46ed920014c851e99b8672df34934f7beb", func := "loop.example/g00852/laws.FnCheckedScales", spec := "fnCheckedScales", unfollowed := true, recurses := true, apart := false }
def FnCheckedScalesSaid : Prop := fnCheckedScalesRow.holds Try.pinned (OpenSpec.ofChange fnCheckedScalesSpec)

/-- ITS FALSE NEIGHBOUR: 'it returns false'. Refute it at one input. -/
def fnCheckedScalesWrong : ChangeSpec := { name := "fnCheckedScales", fn := fun _ => fun
  | [d] => { results := [.lit (.bool false)], args := [d] }
  | _ => none }
def FnCheckedScalesWrongFalsely : Prop := fnCheckedScalesRow.holds Try.pinned (OpenSpec.ofChange fnCheckedScalesWrong)

/-- 'laws.FnCurtailed': WHATEVER THE INPUT: true; the input reads as it did. -/
def fnCurtailedSpec : ChangeSpec := { name := "fnCurtailed", fn := fun _ => fun
  | [d] => { results := [.lit (.bool true)], args := [d] }
  | _ => none }
def fnCurtailedRow : OpenClaim := { program := "ytejfpajbkgfiaaa", sum := "513906fd961e22f2bf541ff1187cec46ed920014c851e99b8672df34934f7beb", func := "loop.example/g00852/laws.FnCurtailed", spec := "fnCurtailed", unfollowed := true, recurses := true, apart := false }
def FnCurtailedSaid : Prop := fnCurtailedRow.holds Try.pinned (OpenSpec.ofChange fnCurtailedSpec)

/-- ITS FALSE NEIGHBOUR: 'it returns false'. Refute it at one input. -/
def fnCurtailedWrong : ChangeSpec := { name := "fnCurtailed", fn := fun _ => fun
  | [d] => { results := [.lit (.bool false)], args := [d] }
  | _ => none }
def FnCurtailedWrongFalsely : Prop := fnCurtailedRow.holds Try.pinned (OpenSpec.ofChange fnCurtailedWrong)

/-- 'laws.FnCurtailedAmounts': WHATEVER THE INPUT: true; the input reads as it did. -/
def fnCurtailedAmountsSpec : ChangeSpec := { name := "fnCurtailedAmounts", fn := fun _ => fun
  | [d] => { results := [.lit (.bool true)], args := [d] }
  | _ => none }
def fnCurtailedAmountsRow : OpenClaim := { program := "ytejfpajbkgfiaaa", sum := "513906fd961e22f2bf541ff1187cec46ed920014c851e99b8672df34934f7beb", func := "loop.example/g00852/laws.FnCurtailedAmounts", spec := "fnCurtailedAmounts", unfollowed := true, recurses := true, apart := false }
def FnCurtailedAmountsSaid : Prop := fnCurtailedAmountsRow.holds Try.pinned (OpenSpec.ofChange fnCurtailedAmountsSpec)

/-- ITS FALSE NEIGHBOUR: 'it returns false'. Refute it at one input. -/
def fnCurtailedAmountsWrong : ChangeSpec := { name := "fnCurtailedAmounts", fn := fun _ => fun
  | [d] => { results := [.lit (.bool false)], args := [d] }
  | _ => none }
def FnCurtailedAmountsWrongFalsely : Prop := fnCurtailedAmountsRow.holds Try.pinned (OpenSpec.ofChange fnCurtailedAmountsWrong)

/-- 'laws.FnFoundConflicts': WHATEVER THE INPUT: true; the input reads as it did. -/
def fnFoundConflictsSpec : ChangeSpec := { name := "fnFoundConflicts", fn := fun _ => fun
  | [d] => { results := [.lit (.bool true)], args := [d] }
  | _ => none }
def fnFoundConflictsRow : OpenClaim := { program := "ytejfpajbkgfiaaa", sum := "513906fd961e22f2bf541ff1187cec46ed920014c851e99b8672df34934f7beb", func := "loop.example/g00852/laws.FnFoundConflicts", spec := "fnFoundConflicts", unfollowed := true, recurses := true, apart := false }
def FnFoundConflictsSaid : Prop := fnFoundConflictsRow.holds Try.pinned (OpenSpec.ofChange fnFoundConflictsSpec)

/-- ITS FALSE NEIGHBOUR: 'it returns false'. Refute it at one input. -/
def fnFoundConflictsWrong : ChangeSpec := { name := "fnFoundConflicts", fn := fun _ => fun
  | [d] => { results := [.lit (.bool false)], args := [d] }
  | _ => none }
def FnFoundConflictsWrongFalsely : Prop := fnFoundConflictsRow.holds Try.pinned (OpenSpec.ofChange fnFoundConflictsWrong)

/-- 'laws.FnConflicts': WHATEVER THE INPUT: true; the input reads as it did. -/
def fnConflictsSpec : ChangeSpec := { name := "fnConflicts", fn := fun _ => fun
  | [d] => { results := [.lit (.bool true)], args := [d] }
  | _ => none }
def fnConflictsRow : OpenClaim := { program := "ytejfpajbkgfiaaa", sum := "513906fd961e22f2bf541ff1187cec46ed920014c851e99b8672df34934f7beb", func := "loop.example/g00852/laws.FnConflicts", spec := "fnConflicts", unfollowed := true, recurses := true, apart := false }
def FnConflictsSaid : Prop := fnConflictsRow.holds Try.pinned (OpenSpec.ofChange fnConflictsSpec)

/-- ITS FALSE NEIGHBOUR: 'it returns false'. Refute it at one input. -/
def fnConflictsWrong : ChangeSpec := { name := "fnConflicts", fn := fun _ => fun
  | [d] => { results := [.lit (.bool false)], args := [d] }
  | _ => none }
def FnConflictsWrongFalsely : Prop := fnConflictsRow.holds Try.pinned (OpenSpec.ofChange fnConflictsWrong)

/-- 'laws.FnRelievers': WHATEVER THE INPUT: true; the input reads as it did. -/
def fnRelieversSpec : ChangeSpec := { name := "fnRelievers", fn := fun _ => fun
  | [d] => { results := [.lit (.bool true)], args := [d] }
  | _ => none }
def fnRelieversRow : OpenClaim := { program := "ytejfpajbkgfiaaa", sum := "513906fd961e22f2bf541ff1187cec46ed920014c851e99b8672df34934f7beb", func := "loop.example/g00852/laws.FnRelievers", spec := "fnRelievers", unfollowed := true, recurses := true, apart := false }
def FnRelieversSaid : Prop := fnRelieversRow.holds Try.pinned (OpenSpec.ofChange fnRelieversSpec)

/-- ITS FALSE NEIGHBOUR: 'it returns false'. Refute it at one input. -/
def fnRelieversWrong : ChangeSpec := { name := "fnRelievers", fn := fun _ => fun
  | [d] => { results := [.lit (.bool false)], args := [d] }
  | _ => none }
def FnRelieversWrongFalsely : Prop := fnRelieversRow.holds Try.pinned (OpenSpec.ofChange fnRelieversWrong)

/-- 'laws.FnDeviations': WHATEVER THE INPUT: true; the input reads as it did. -/
def fnDeviationsSpec : ChangeSpec := { name := "fnDeviations", fn := fun _ => fun
  | [d] => { results := [.lit (.bool true)], args := [d] }
  | _ => none }
def fnDeviationsRow : OpenClaim := { program := "ytejfpajbkgfiaaa", sum := "513906fd961e22f2bf541ff1187cec46ed920014c851e99b8672df34934f7beb", func := "loop.example/g00852/laws.FnDeviations", spec := "fnDeviations", unfollowed := true, recurses := true, apart := false }
def FnDeviationsSaid : Prop := fnDeviationsRow.holds Try.pinned (OpenSpec.ofChange fnDeviationsSpec)

/-- ITS FALSE NEIGHBOUR: 'it returns false'. Refute it at one input. -/
def fnDeviationsWrong : ChangeSpec := { name := "fnDeviations", fn := fun _ => fun
  | [d] => { results := [.lit (.bool false)], args := [d] }
  | _ => none }
def FnDeviationsWrongFalsely : Prop := fnDeviationsRow.holds Try.pinned (OpenSpec.ofChange fnDeviationsWrong)

/-- 'laws.FnExactReadings': WHATEVER THE INPUT: true; the input reads as it did. -/
def fnExactReadingsSpec : ChangeSpec := { name := "fnExactReadings", fn := fun _ => fun
  | [d] => { results := [.lit (.bool true)], args := [d] }
  | _ => none }
def fnExactReadingsRow : OpenClaim := { program := "ytejfpajbkgfiaaa", sum := "513906fd961e22f2bf541ff1187cec46ed920014c851e99b8672df34934f7beb", func := "loop.example/g00852/laws.FnExactReadings", spec := "fnExactReadings", unfollowed := true, recurses := true, apart := false }
def FnExactReadingsSaid : Prop := fnExactReadingsRow.holds Try.pinned (OpenSpec.ofChange fnExactReadingsSpec)

/-- ITS FALSE NEIGHBOUR: 'it returns false'. Refute it at one input. -/
def fnExactReadingsWrong : ChangeSpec := { name := "fnExactReadings", fn := fun _ => fun
  | [d] => { results := [.lit (.bool false)], args := [d] }
  | _ => none }
def FnExactReadingsWrongFalsely : Prop := fnExactReadingsRow.holds Try.pinned (OpenSpec.ofChange fnExactReadingsWrong)

/-- 'laws.FnCapacities': WHATEVER THE INPUT: true; the input reads as it did. -/
def fnCapacitiesSpec : ChangeSpec := { name := "fnCapacities", fn := fun _ => fun
  | [d] => { results := [.lit (.bool true)], args := [d] }
  | _ => none }
def fnCapacitiesRow : OpenClaim := { program := "ytejfpajbkgfiaaa", sum := "513906fd961e22f2bf541ff1187cec46ed920014c851e99b8672df34934f7beb", func := "loop.example/g00852/laws.FnCapacities", spec := "fnCapacities", unfollowed := true, recurses := true, apart := false }
def FnCapacitiesSaid : Prop := fnCapacitiesRow.holds Try.pinned (OpenSpec.ofChange fnCapacitiesSpec)

/-- ITS FALSE NEIGHBOUR: 'it returns false'. Refute it at one input. -/
def fnCapacitiesWrong : ChangeSpec := { name := "fnCapacities", fn := fun _ => fun
  | [d] => { results := [.lit (.bool false)], args := [d] }
  | _ => none }
def FnCapacitiesWrongFalsely : Prop := fnCapacitiesRow.holds Try.pinned (OpenSpec.ofChange fnCapacitiesWrong)

/- THE SECOND FORM. 'bulk': how many values and letters a reading holds, each counted each time it is reached (what is shared counts as often as it is met; a slice's spare places count too). A statement '..UptoSaid' is the law's where the arguments, and the package variables that the reading takes, are together of bulk at most 1048576: NARROWER than '..Said'. Prove '..Said' where nothing that the law and all that it calls make is longer than what came in: it says more and counts as full. Else prove '..UptoSaid'. A law counts once. -/
mutual
def uptoBulk {H : Type} : DataW H → Nat
  | .lit (.string bytes) => bytes.length + 1
  | .lit _ => 1
  | .nil => 1
  | .ptr d => uptoBulk d + 1
  | .slice elems spare => uptoBulkAll elems + uptoBulkAll spare + 1
  | .agg parts => uptoBulkAll parts + 1
  | .iface _ d => uptoBulk d + 1
  | .map entries => uptoBulkEntries entries + 1
  | .held _ => 1
def uptoBulkAll {H : Type} : List (DataW H) → Nat
  | [] => 0
  | d :: r => uptoBulk d + uptoBulkAll r
def uptoBulkEntries {H : Type} : List (Lit × DataW H) → Nat
  | [] => 0
  | x :: r => uptoBulkEntry x + uptoBulkEntries r
def uptoBulkEntry {H : Type} : Lit × DataW H → Nat
  | (.string bytes, d) => bytes.length + uptoBulk d + 1
  | (_, d) => uptoBulk d + 1
 end
def uptoSmall : (H : Type) → List (DataW H) → Bool := fun _ ds => decide (uptoBulkAll ds ≤ 1048576)
def OpenSpec.upto (s : _root_.Go.ChangeSpec) : _root_.Go.OpenSpec := { _root_.Go.OpenSpec.ofChange s with cond := some uptoSmall }

/-- 'laws.FnClasses', WHERE WHAT IT READS IS OF BULK AT MOST 1048576: true; the input reads as it did. -/
def fnClassesUptoRow : OpenClaim := { program := "ytejfpajbkgfiaaa", sum := "513906fd961e22f2bf541ff1187cec46ed920014c851e99b8672df34934f7beb", func := "loop.example/g00852/laws.FnClasses", spec := "fnClasses", unfollowed := true, recurses := true, apart := false, narrowed := true }
def FnClassesUptoSaid : Prop := fnClassesUptoRow.holds Try.pinned (OpenSpec.upto fnClassesSpec)

/-- 'laws.FnScaled', WHERE WHAT IT READS IS OF BULK AT MOST 1048576: true; the input reads as it did. -/
def fnScaledUptoRow : OpenClaim := { program := "ytejfpajbkgfiaaa", sum := "513906fd961e22f2bf541ff1187cec46ed920014c851e99b8672df34934f7beb", func := "loop.example/g00852/laws.FnScaled", spec := "fnScaled", unfollowed := true, recurses := true, apart := false, narrowed := true }
def FnScaledUptoSaid : Prop := fnScaledUptoRow.holds Try.pinned (OpenSpec.upto fnScaledSpec)

/-- 'laws.FnTransportSupplies', WHERE WHAT IT READS IS OF BULK AT MOST 1048576: true; the input reads as it did. -/
def fnTransportSuppliesUptoRow : OpenClaim := { program := "ytejfpajbkgfiaaa", sum := "513906fd961e22f2bf541ff1187cec46ed920014c851e99b8672df34934f7beb", func := "loop.example/g00852/laws.FnTransportSupplies", spec := "fnTransportSupplies", unfollowed := true, recurses := true, apart := false, narrowed := true }
def FnTransportSuppliesUptoSaid : Prop := fnTransportSuppliesUptoRow.holds Try.pinned (OpenSpec.upto fnTransportSuppliesSpec)

/-- 'laws.FnCheckedScales', WHERE WHAT IT READS IS OF BULK AT MOST 1048576: true; the input reads as it did. -/
def fnCheckedScalesUptoRow : OpenClaim := { program := "ytejfpajbkgfiaaa", sum := "513906fd961e22f2bf541ff1187cec46ed920014c851e99b8672df34934f7beb", func := "loop.example/g00852/laws.FnCheckedScales", spec := "fnCheckedScales", unfollowed := true, recurses := true, apart := false, narrowed := true }
def FnCheckedScalesUptoSaid : Prop := fnCheckedScalesUptoRow.holds Try.pinned (OpenSpec.upto fnCheckedScalesSpec)

/-- 'laws.FnCurtailed', WHERE WHAT IT READS IS OF BULK AT MOST 1048576: true; the input reads as it did. -/
def fnCurtailedUptoRow : OpenClaim := { program := "ytejfpajbkgfiaaa", sum := "513906fd961e22f2bf541ff1187cec46ed920014c851e99b8672df34934f7beb", func := "loop.example/g00852/laws.FnCurtailed", spec := "fnCurtailed", unfollowed := true, recurses := true, apart := false, narrowed := true }
def FnCurtailedUptoSaid : Prop := fnCurtailedUptoRow.holds Try.pinned (OpenSpec.upto fnCurtailedSpec)

/-- 'laws.FnCurtailedAmounts', WHERE WHAT IT READS IS OF BULK AT MOST 1048576: true; the input reads as it did. -/
def fnCurtailedAmountsUptoRow : OpenClaim := { program := "ytejfpajbkgfiaaa", sum := "513906fd961e22f2bf541ff1187cec46ed920014c851e99b8672df34934f7beb", func := "loop.example/g00852/laws.FnCurtailedAmounts", spec := "fnCurtailedAmounts", unfollowed := true, recurses := true, apart := false, narrowed := true }
def FnCurtailedAmountsUptoSaid : Prop := fnCurtailedAmountsUptoRow.holds Try.pinned (OpenSpec.upto fnCurtailedAmountsSpec)

/-- 'laws.FnFoundConflicts', WHERE WHAT IT READS IS OF BULK AT MOST 1048576: true; the input reads as it did. -/
def fnFoundConflictsUptoRow : OpenClaim := { program := "ytejfpajbkgfiaaa", sum := "513906fd961e22f2bf541ff1187cec46ed920014c851e99b8672df34934f7beb", func := "loop.example/g00852/laws.FnFoundConflicts", spec := "fnFoundConflicts", unfollowed := true, recurses := true, apart := false, narrowed := true }
def FnFoundConflictsUptoSaid : Prop := fnFoundConflictsUptoRow.holds Try.pinned (OpenSpec.upto fnFoundConflictsSpec)

/-- 'laws.FnConflicts', WHERE WHAT IT READS IS OF BULK AT MOST 1048576: true; the input reads as it did. -/
def fnConflictsUptoRow : OpenClaim := { program := "ytejfpajbkgfiaaa", sum := "513906fd961e22f2bf541ff1187cec46ed920014c851e99b8672df34934f7beb", func := "loop.example/g00852/laws.FnConflicts", spec := "fnConflicts", unfollowed := true, recurses := true, apart := false, narrowed := true }
def FnConflictsUptoSaid : Prop := fnConflictsUptoRow.holds Try.pinned (OpenSpec.upto fnConflictsSpec)

/-- 'laws.FnRelievers', WHERE WHAT IT READS IS OF BULK AT MOST 1048576: true; the input reads as it did. -/
def fnRelieversUptoRow : OpenClaim := { program := "ytejfpajbkgfiaaa", sum := "513906fd961e22f2bf541ff1187cec46ed920014c851e99b8672df34934f7beb", func := "loop.example/g00852/laws.FnRelievers", spec := "fnRelievers", unfollowed := true, recurses := true, apart := false, narrowed := true }
def FnRelieversUptoSaid : Prop := fnRelieversUptoRow.holds Try.pinned (OpenSpec.upto fnRelieversSpec)

/-- 'laws.FnDeviations', WHERE WHAT IT READS IS OF BULK AT MOST 1048576: true; the input reads as it did. -/
def fnDeviationsUptoRow : OpenClaim := { program := "ytejfpajbkgfiaaa", sum := "513906fd961e22f2bf541ff1187cec46ed920014c851e99b8672df34934f7beb", func := "loop.example/g00852/laws.FnDeviations", spec := "fnDeviations", unfollowed := true, recurses := true, apart := false, narrowed := true }
def FnDeviationsUptoSaid : Prop := fnDeviationsUptoRow.holds Try.pinned (OpenSpec.upto fnDeviationsSpec)

/-- 'laws.FnExactReadings', WHERE WHAT IT READS IS OF BULK AT MOST 1048576: true; the input reads as it did. -/
def fnExactReadingsUptoRow : OpenClaim := { program := "ytejfpajbkgfiaaa", sum := "513906fd961e22f2bf541ff1187cec46ed920014c851e99b8672df34934f7beb", func := "loop.example/g00852/laws.FnExactReadings", spec := "fnExactReadings", unfollowed := true, recurses := true, apart := false, narrowed := true }
def FnExactReadingsUptoSaid : Prop := fnExactReadingsUptoRow.holds Try.pinned (OpenSpec.upto fnExactReadingsSpec)

/-- 'laws.FnCapacities', WHERE WHAT IT READS IS OF BULK AT MOST 1048576: true; the input reads as it did. -/
def fnCapacitiesUptoRow : OpenClaim := { program := "ytejfpajbkgfiaaa", sum := "513906fd961e22f2bf541ff1187cec46ed920014c851e99b8672df34934f7beb", func := "loop.example/g00852/laws.FnCapacities", spec := "fnCapacities", unfollowed := true, recurses := true, apart := false, narrowed := true }
def FnCapacitiesUptoSaid : Prop := fnCapacitiesUptoRow.holds Try.pinned (OpenSpec.upto fnCapacitiesSpec)

end Rows
end Go.Proofs.Ytejfpajbkgfiaaa
