/-
  No cell of these rows narrows 'for every input' (looked for: loops, veiled, ifaces, maps, wideKeys, modest, calm, conditions, laid).
  DERIVED. THE GIVEN ROWS OF THIS SEAT. 9 by the template 'for every input the law returns true; each argument reads behind the call as it read before'; 0 by the template 'total and deterministic' (their statements: YtbckjlejkedonaaTotals.lean).
  GIVEN WITH THE SEED: the statements are not yours to turn. If you find one false, say at which input.
  Laid BY PROGRAM, IN A SANDBOX (cutbox-rows.mjs): the forced cells as the released guide's own fill.sh prints them over the translation 89d51175032014cc… (all of the seat's roots in one cut). By AI agents, Wed Nov 11 2026. No macro, syntax, notation, axiom, sorry.
-/
import Derived.Test.YtbckjlejkedonaaChecked
import GoSem.Claim
import GoSem.ClaimJoined
import GoSem.ClaimMapViews
import Derived.JoinedTies
import Derived.KernelRfl
namespace Go.Proofs.Ytbckjlejkedonaa
/- THE CELL 'sum', in the pinned program and in every row, IS THE sha256 OF THE DUMP (.gsa) THAT YtbckjlejkedonaaProg.lean LOADS. Nothing in Lean hashes anything: it is a label: what it is worth is what the hold of that sum in a sandbox is worth. -/
noncomputable def Try.pinned : Pinned := { name := "ytbckjlejkedonaa", sum := "89d51175032014ccafc2f570cc3dee7013e40ee4610d6b3981b162f6640f4bd1", checked := Try.checked }
namespace Rows
def none {H : Type} : Left H := { results := [], args := [] }

/-- 'laws.FnExactLeastCut': WHATEVER THE INPUT: true; the input reads as it did. -/
def fnExactLeastCutSpec : ChangeSpec := { name := "fnExactLeastCut", fn := fun _ => fun
  | [d1, d2, d3] => { results := [.lit (.bool true)], args := [d1, d2, d3] }
  | _ => none }
def fnExactLeastCutRow : OpenClaim := { program := "ytbckjlejkedonaa", sum := "89d51175032014ccafc2f570cc3dee7013e40ee4610d6b3981b162f6640f4bd1", func := "loop.example/g00852/laws.FnExactLeastCut", spec := "fnExactLeastCut", unfollowed := true, recurses := true, apart := false }
def FnExactLeastCutSaid : Prop := fnExactLeastCutRow.holds Try.pinned (OpenSpec.ofChange fnExactLeastCutSpec)

/-- ITS FALSE NEIGHBOUR: 'it returns false'. Refute it at one input. -/
def fnExactLeastCutWrong : ChangeSpec := { name := "fnExactLeastCut", fn := fun _ => fun
  | [d1, d2, d3] => { results := [.lit (.bool false)], args := [d1, d2, d3] }
  | _ => none }
def FnExactLeastCutWrongFalsely : Prop := fnExactLeastCutRow.holds Try.pinned (OpenSpec.ofChange fnExactLeastCutWrong)

/-- 'laws.FnExactBlockingSet': WHATEVER THE INPUT: true; the input reads as it did. -/
def fnExactBlockingSetSpec : ChangeSpec := { name := "fnExactBlockingSet", fn := fun _ => fun
  | [d1, d2] => { results := [.lit (.bool true)], args := [d1, d2] }
  | _ => none }
def fnExactBlockingSetRow : OpenClaim := { program := "ytbckjlejkedonaa", sum := "89d51175032014ccafc2f570cc3dee7013e40ee4610d6b3981b162f6640f4bd1", func := "loop.example/g00852/laws.FnExactBlockingSet", spec := "fnExactBlockingSet", unfollowed := true, recurses := true, apart := false }
def FnExactBlockingSetSaid : Prop := fnExactBlockingSetRow.holds Try.pinned (OpenSpec.ofChange fnExactBlockingSetSpec)

/-- ITS FALSE NEIGHBOUR: 'it returns false'. Refute it at one input. -/
def fnExactBlockingSetWrong : ChangeSpec := { name := "fnExactBlockingSet", fn := fun _ => fun
  | [d1, d2] => { results := [.lit (.bool false)], args := [d1, d2] }
  | _ => none }
def FnExactBlockingSetWrongFalsely : Prop := fnExactBlockingSetRow.holds Try.pinned (OpenSpec.ofChange fnExactBlockingSetWrong)

/-- 'laws.FnCuts': WHATEVER THE INPUT: true; the input reads as it did. -/
def fnCutsSpec : ChangeSpec := { name := "fnCuts", fn := fun _ => fun
  | [d] => { results := [.lit (.bool true)], args := [d] }
  | _ => none }
def fnCutsRow : OpenClaim := { program := "ytbckjlejkedonaa", sum := "89d51175032014ccafc2f570cc3dee7013e40ee4610d6b3981b162f6640f4bd1", func := "loop.example/g00852/laws.FnCuts", spec := "fnCuts", unfollowed := true, recurses := true, apart := false }
def FnCutsSaid : Prop := fnCutsRow.holds Try.pinned (OpenSpec.ofChange fnCutsSpec)

/-- ITS FALSE NEIGHBOUR: 'it returns false'. Refute it at one input. -/
def fnCutsWrong : ChangeSpec := { name := "fnCuts", fn := fun _ => fun
  | [d] => { results := [.lit (.bool false)], args := [d] }
  | _ => none }
def FnCutsWrongFalsely : Prop := fnCutsRow.holds Try.pinned (OpenSpec.ofChange fnCutsWrong)

/-- 'laws.FnRouted': WHATEVER THE INPUT: true; the input reads as it did. -/
def fnRoutedSpec : ChangeSpec := { name := "fnRouted", fn := fun _ => fun
  | [d] => { results := [.lit (.bool true)], args := [d] }
  | _ => none }
def fnRoutedRow : OpenClaim := { program := "ytbckjlejkedonaa", sum := "89d51175032014ccafc2f570cc3dee7013e40ee4610d6b3981b162f6640f4bd1", func := "loop.example/g00852/laws.FnRouted", spec := "fnRouted", unfollowed := true, recurses := true, apart := false }
def FnRoutedSaid : Prop := fnRoutedRow.holds Try.pinned (OpenSpec.ofChange fnRoutedSpec)

/-- ITS FALSE NEIGHBOUR: 'it returns false'. Refute it at one input. -/
def fnRoutedWrong : ChangeSpec := { name := "fnRouted", fn := fun _ => fun
  | [d] => { results := [.lit (.bool false)], args := [d] }
  | _ => none }
def FnRoutedWrongFalsely : Prop := fnRoutedRow.holds Try.pinned (OpenSpec.ofChange fnRoutedWrong)

/-- 'laws.FnSwitched': WHATEVER THE INPUT: true; the input reads as it did. -/
def fnSwitchedSpec : ChangeSpec := { name := "fnSwitched", fn := fun _ => fun
  | [d] => { results := [.lit (.bool true)], args := [d] }
  | _ => none }
def fnSwitchedRow : OpenClaim := { program := "ytbckjlejkedonaa", sum := "89d51175032014ccafc2f570cc3dee7013e40ee4610d6b3981b162f6640f4bd1", func := "loop.example/g00852/laws.FnSwitched", spec := "fnSwitched", unfollowed := true, recurses := true, apart := false }
def FnSwitchedSaid : Prop := fnSwitchedRow.holds Try.pinned (OpenSpec.ofChange fnSwitchedSpec)

/-- ITS FALSE NEIGHBOUR: 'it returns false'. Refute it at one input. -/
def fnSwitchedWrong : ChangeSpec := { name := "fnSwitched", fn := fun _ => fun
  | [d] => { results := [.lit (.bool false)], args := [d] }
  | _ => none }
def FnSwitchedWrongFalsely : Prop := fnSwitchedRow.holds Try.pinned (OpenSpec.ofChange fnSwitchedWrong)

/-- 'laws.FnTransits': WHATEVER THE INPUT: true; the input reads as it did. -/
def fnTransitsSpec : ChangeSpec := { name := "fnTransits", fn := fun _ => fun
  | [d] => { results := [.lit (.bool true)], args := [d] }
  | _ => none }
def fnTransitsRow : OpenClaim := { program := "ytbckjlejkedonaa", sum := "89d51175032014ccafc2f570cc3dee7013e40ee4610d6b3981b162f6640f4bd1", func := "loop.example/g00852/laws.FnTransits", spec := "fnTransits", unfollowed := true, recurses := true, apart := false }
def FnTransitsSaid : Prop := fnTransitsRow.holds Try.pinned (OpenSpec.ofChange fnTransitsSpec)

/-- ITS FALSE NEIGHBOUR: 'it returns false'. Refute it at one input. -/
def fnTransitsWrong : ChangeSpec := { name := "fnTransits", fn := fun _ => fun
  | [d] => { results := [.lit (.bool false)], args := [d] }
  | _ => none }
def FnTransitsWrongFalsely : Prop := fnTransitsRow.holds Try.pinned (OpenSpec.ofChange fnTransitsWrong)

/-- 'laws.FnHours': WHATEVER THE INPUT: true; the input reads as it did. -/
def fnHoursSpec : ChangeSpec := { name := "fnHours", fn := fun _ => fun
  | [d] => { results := [.lit (.bool true)], args := [d] }
  | _ => none }
def fnHoursRow : OpenClaim := { program := "ytbckjlejkedonaa", sum := "89d51175032014ccafc2f570cc3dee7013e40ee4610d6b3981b162f6640f4bd1", func := "loop.example/g00852/laws.FnHours", spec := "fnHours", unfollowed := true, recurses := true, apart := false }
def FnHoursSaid : Prop := fnHoursRow.holds Try.pinned (OpenSpec.ofChange fnHoursSpec)

/-- ITS FALSE NEIGHBOUR: 'it returns false'. Refute it at one input. -/
def fnHoursWrong : ChangeSpec := { name := "fnHours", fn := fun _ => fun
  | [d] => { results := [.lit (.bool false)], args := [d] }
  | _ => none }
def FnHoursWrongFalsely : Prop := fnHoursRow.holds Try.pinned (OpenSpec.ofChange fnHoursWrong)

/-- 'laws.FnFromNominations': WHATEVER THE INPUT: true; the input reads as it did. -/
def fnFromNominationsSpec : ChangeSpec := { name := "fnFromNominations", fn := fun _ => fun
  | [d] => { results := [.lit (.bool true)], args := [d] }
  | _ => none }
def fnFromNominationsRow : OpenClaim := { program := "ytbckjlejkedonaa", sum := "89d51175032014ccafc2f570cc3dee7013e40ee4610d6b3981b162f6640f4bd1", func := "loop.example/g00852/laws.FnFromNominations", spec := "fnFromNominations", unfollowed := true, recurses := true, apart := false }
def FnFromNominationsSaid : Prop := fnFromNominationsRow.holds Try.pinned (OpenSpec.ofChange fnFromNominationsSpec)

/-- ITS FALSE NEIGHBOUR: 'it returns false'. Refute it at one input. -/
def fnFromNominationsWrong : ChangeSpec := { name := "fnFromNominations", fn := fun _ => fun
  | [d] => { results := [.lit (.bool false)], args := [d] }
  | _ => none }
def FnFromNominationsWrongFalsely : Prop := fnFromNominationsRow.holds Try.pinned (OpenSpec.ofChange fnFromNominationsWrong)

/-- 'laws.FnExactFromNominations': WHATEVER THE INPUT: true; the input reads as it did. -/
def fnExactFromNominationsSpec : ChangeSpec := { name := "fnExactFromNominations", fn := fun _ => fun
  | [d1, d2, d3, d4] => { results := [.lit (.bool true)], args := [d1, d2, d3, d4] }
  | _ => none }
def fnExactFromNominationsRow : OpenClaim := { program := "ytbckjlejkedonaa", sum := "89d51175032014ccafc2f570cc3dee7013e40ee4610d6b3981b162f6640f4bd1", func := "loop.example/g00852/laws.FnExactFromNominations", spec := "fnExactFromNominations", unfollowed := true, recurses := true, apart := false }
def FnExactFromNominationsSaid : Prop := fnExactFromNominationsRow.holds Try.pinned (OpenSpec.ofChange fnExactFromNominationsSpec)

/-- ITS FALSE NEIGHBOUR: 'it returns false'. Refute it at one input. -/
def fnExactFromNominationsWrong : ChangeSpec := { name := "fnExactFromNominations", fn := fun _ => fun
  | [d1, d2, d3, d4] => { results := [.lit (.bool false)], args := [d1, d2, d3, d4] }
  | _ => none }
def FnExactFromNominationsWrongFalsely : Prop := fnExactFromNominationsRow.holds Try.pinned (OpenSpec.ofChange fnExactFromNominationsWrong)

/- THE SECOND FORM. 'bulk': how many values and letters a reading holds, each counted each time it is reached (what is shared counts as often as it is met; a slice's spare places count too). A statement '..UptoSaid' is the law's where the arguments, and the package variables that the reading takes, are together of bulk at most 1048576: NARROWER than '..Said'. Prove '..Said' where nothing that the law and all that it calls make is longer than what came in: it says more and counts as full. Else prove '..UptoSaid'. A law counts once. -/
mutual
def uptoBulk {H : Type} : DataW H → Nat
  | .lit (.string bytes) => bytes.length + 1
  | .lit _ => 1
  | .nil => 1
  | .ptr d => uptoBulk d + 1
  | .slice elems spare => uptoBulkAll elems + uptoBulkAll spare + 1
  | .agg parts => uptoBulkAll parts + 1
  | .iface _ d => uptoBulk d + 1
  | .map entries => uptoBulkEntries entries + 1
  | .held _ => 1
def uptoBulkAll {H : Type} : List (DataW H) → Nat
  | [] => 0
  | d :: r => uptoBulk d + uptoBulkAll r
def uptoBulkEntries {H : Type} : List (Lit × DataW H) → Nat
  | [] => 0
  | x :: r => uptoBulkEntry x + uptoBulkEntries r
def uptoBulkEntry {H : Type} : Lit × DataW H → Nat
  | (.string bytes, d) => bytes.length + uptoBulk d + 1
  | (_, d) => uptoBulk d + 1
 end
def uptoSmall : (H : Type) → List (DataW H) → Bool := fun _ ds => decide (uptoBulkAll ds ≤ 1048576)
def OpenSpec.upto (s : _root_.Go.ChangeSpec) : _root_.Go.OpenSpec := { _root_.Go.OpenSpec.ofChange s with cond := some uptoSmall }

/-- 'laws.FnExactLeastCut', WHERE WHAT IT READS IS OF BULK AT MOST 1048576: true; the input reads as it did. -/
def fnExactLeastCutUptoRow : OpenClaim := { program := "ytbckjlejkedonaa", sum := "89d51175032014ccafc2f570cc3dee7013e40ee4610d6b3981b162f6640f4bd1", func := "loop.example/g00852/laws.FnExactLeastCut", spec := "fnExactLeastCut", unfollowed := true, recurses := true, apart := false, narrowed := true }
def FnExactLeastCutUptoSaid : Prop := fnExactLeastCutUptoRow.holds Try.pinned (OpenSpec.upto fnExactLeastCutSpec)

/-- 'laws.FnExactBlockingSet', WHERE WHAT IT READS IS OF BULK AT MOST 1048576: true; the input reads as it did. -/
def fnExactBlockingSetUptoRow : OpenClaim := { program := "ytbckjlejkedonaa", sum := "89d51175032014ccafc2f570cc3dee7013e40ee4610d6b3981b162f6640f4bd1", func := "loop.example/g00852/laws.FnExactBlockingSet", spec := "fnExactBlockingSet", unfollowed := true, recurses := true, apart := false, narrowed := true }
def FnExactBlockingSetUptoSaid : Prop := fnExactBlockingSetUptoRow.holds Try.pinned (OpenSpec.upto fnExactBlockingSetSpec)

/-- 'laws.FnCuts', WHERE WHAT IT READS IS OF BULK AT MOST 1048576: true; the input reads as it did. -/
def fnCutsUptoRow : OpenClaim := { program := "ytbckjlejkedonaa", sum := "89d51175032014ccafc2f570cc3dee7013e40ee4610d6b3981b162f6640f4bd1", func := "loop.example/g00852/laws.FnCuts", spec := "fnCuts", unfollowed := true, recurses := true, apart := false, narrowed := true }
def FnCutsUptoSaid : Prop := fnCutsUptoRow.holds Try.pinned (OpenSpec.upto fnCutsSpec)

/-- 'laws.FnRouted', WHERE WHAT IT READS IS OF BULK AT MOST 1048576: true; the input reads as it did. -/
def fnRoutedUptoRow : OpenClaim := { program := "ytbckjlejkedonaa", sum := "89d51175032014ccafc2f570cc3dee7013e40ee4610d6b3981b162f6640f4bd1", func := "loop.example/g00852/laws.FnRouted", spec := "fnRouted", unfollowed := true, recurses := true, apart := false, narrowed := true }
def FnRoutedUptoSaid : Prop := fnRoutedUptoRow.holds Try.pinned (OpenSpec.upto fnRoutedSpec)

/-- 'laws.FnSwitched', WHERE WHAT IT READS IS OF BULK AT MOST 1048576: true; the input reads as it did. -/
def fnSwitchedUptoRow : OpenClaim := { program := "ytbckjlejkedonaa", sum := "89d51175032014ccafc2f570cc3dee7013e40ee4610d6b3981b162f6640f4bd1", func := "loop.example/g00852/laws.FnSwitched", spec := "fnSwitched", unfollowed := true, recurses := true, apart := false, narrowed := true }
def FnSwitchedUptoSaid : Prop := fnSwitchedUptoRow.holds Try.pinned (OpenSpec.upto fnSwitchedSpec)

/-- 'laws.FnTransits', WHERE WHAT IT READS IS OF BULK AT MOST 1048576: true; the input reads as it did. -/
def fnTransitsUptoRow : OpenClaim := { program := "ytbckjlejkedonaa", sum := "89d51175032014ccafc2f570cc3dee7013e40ee4610d6b3981b162f6640f4bd1", func := "loop.example/g00852/laws.FnTransits", spec := "fnTransits", unfollowed := true, recurses := true, apart := false, narrowed := true }
def FnTransitsUptoSaid : Prop := fnTransitsUptoRow.holds Try.pinned (OpenSpec.upto fnTransitsSpec)

/-- 'laws.FnHours', WHERE WHAT IT READS IS OF BULK AT MOST 1048576: true; the input reads as it did. -/
def fnHoursUptoRow : OpenClaim := { program := "ytbckjlejkedonaa", sum := "89d51175032014ccafc2f570cc3dee7013e40ee4610d6b3981b162f6640f4bd1", func := "loop.example/g00852/laws.FnHours", spec := "fnHours", unfollowed := true, recurses := true, apart := false, narrowed := true }
def FnHoursUptoSaid : Prop := fnHoursUptoRow.holds Try.pinned (OpenSpec.upto fnHoursSpec)

/-- 'laws.FnFromNominations', WHERE WHAT IT READS IS OF BULK AT MOST 1048576: true; the input reads as it did. -/
def fnFromNominationsUptoRow : OpenClaim := { program := "ytbckjlejkedonaa", sum := "89d51175032014ccafc2f570cc3dee7013e40ee4610d6b3981b162f6640f4bd1", func := "loop.example/g00852/laws.FnFromNominations", spec := "fnFromNominations", unfollowed := true, recurses := true, apart := false, narrowed := true }
def FnFromNominationsUptoSaid : Prop := fnFromNominationsUptoRow.holds Try.pinned (OpenSpec.upto fnFromNominationsSpec)

/-- 'laws.FnExactFromNominations', WHERE WHAT IT READS IS OF BULK AT MOST 1048576: true; the input reads as it did. -/
def fnExactFromNominationsUptoRow : OpenClaim := { program := "ytbckjlejkedonaa", sum := "89d51175032014ccafc2f570cc3dee7013e40ee4610d6b3981b162f6640f4bd1", func := "loop.example/g00852/laws.FnExactFromNominations", spec := "fnExactFromNominations", unfollowed := true, recurses := true, apart := false, narrowed := true }
def FnExactFromNominationsUptoSaid : Prop := fnExactFromNominationsUptoRow.holds Try.pinned (OpenSpec.upto fnExactFromNominationsSpec)

end Rows
end Go.Proofs.Ytbckjlejkedonaa
