/-
  No cell of these rows narrows 'for every input' (looked for: loops, veiled, ifaces, maps, wideKeys, modest, calm, conditions, laid).
  DERIVED. THE GIVEN ROWS OF THIS SEAT. 15 by the template 'for every input the law returns true; each argument reads behind the call as it read before'; 0 by the template 'total and deterministic' (their statements: YtaicmgbmlkhagaaTotals.lean).
  GIVEN WITH THE SEED: the statements are not yours to turn. If you find one false, say at which input.
  Laid BY PROGRAM, IN A SANDBOX (cutbox-rows.mjs): the forced cells as the released guide's own fill.sh prints them over the translation f70bd68dcaab8260… (all of the seat's roots in one cut). By AI agents, Wed Nov 11 2026. No macro, syntax, notation, axiom, sorry.
-/
import Derived.Test.YtaicmgbmlkhagaaChecked
import GoSem.Claim
import GoSem.ClaimJoined
import GoSem.ClaimMapViews
import Derived.JoinedTies
import Derived.KernelRfl
namespace Go.Proofs.Ytaicmgbmlkhagaa
/- THE CELL 'sum', in the pinned program and in every row, IS THE sha256 OF THE DUMP (.gsa) THAT YtaicmgbmlkhagaaProg.lean LOADS. Nothing in Lean hashes anything: it is a label: what it is worth is what the hold of that sum in a sandbox is worth. -/
noncomputable def Try.pinned : Pinned := { name := "ytaicmgbmlkhagaa", sum := "f70bd68dcaab826070d80d14d5523bcf1ed3145c8119cc3114b0fdb622d5b2ed", checked := Try.checked }
namespace Rows
def none {H : Type} : Left H := { results := [], args := [] }

/-- 'laws.FnExactIsRoutable': WHATEVER THE INPUT: true; the input reads as it did. -/
def fnExactIsRoutableSpec : ChangeSpec := { name := "fnExactIsRoutable", fn := fun _ => fun
  | [d1, d2] => { results := [.lit (.bool true)], args := [d1, d2] }
  | _ => none }
def fnExactIsRoutableRow : OpenClaim := { program := "ytaicmgbmlkhagaa", sum := "f70bd68dcaab826070d80d14d5523bcf1ed3145c8119cc3114b0fdb622d5b2ed", func := "loop.example/g00852/laws.FnExactIsRoutable", spec := "fnExactIsRoutable", unfollowed := true, recurses := true, apart := false }
def FnExactIsRoutableSaid : Prop := fnExactIsRoutableRow.holds Try.pinned (OpenSpec.ofChange fnExactIsRoutableSpec)

/-- ITS FALSE NEIGHBOUR: 'it returns false'. Refute it at one input. -/
def fnExactIsRoutableWrong : ChangeSpec := { name := "fnExactIsRoutable", fn := fun _ => fun
  | [d1, d2] => { results := [.lit (.bool false)], args := [d1, d2] }
  | _ => none }
def FnExactIsRoutableWrongFalsely : Prop := fnExactIsRoutableRow.holds Try.pinned (OpenSpec.ofChange fnExactIsRoutableWrong)

/-- 'laws.FnExactRouteSupplies': WHATEVER THE INPUT: true; the input reads as it did. -/
def fnExactRouteSuppliesSpec : ChangeSpec := { name := "fnExactRouteSupplies", fn := fun _ => fun
  | [d1, d2] => { results := [.lit (.bool true)], args := [d1, d2] }
  | _ => none }
def fnExactRouteSuppliesRow : OpenClaim := { program := "ytaicmgbmlkhagaa", sum := "f70bd68dcaab826070d80d14d5523bcf1ed3145c8119cc3114b0fdb622d5b2ed", func := "loop.example/g00852/laws.FnExactRouteSupplies", spec := "fnExactRouteSupplies", unfollowed := true, recurses := true, apart := false }
def FnExactRouteSuppliesSaid : Prop := fnExactRouteSuppliesRow.holds Try.pinned (OpenSpec.ofChange fnExactRouteSuppliesSpec)

/-- ITS FALSE NEIGHBOUR: 'it returns false'. Refute it at one input. -/
def fnExactRouteSuppliesWrong : ChangeSpec := { name := "fnExactRouteSupplies", fn := fun _ => fun
  | [d1, d2] => { results := [.lit (.bool false)], args := [d1, d2] }
  | _ => none }
def FnExactRouteSuppliesWrongFalsely : Prop := fnExactRouteSuppliesRow.holds Try.pinned (OpenSpec.ofChange fnExactRouteSuppliesWrong)

/-- 'laws.FnExactDoFit': WHATEVER THE INPUT: true; the input reads as it did. -/
def fnExactDoFitSpec : ChangeSpec := { name := "fnExactDoFit", fn := fun _ => fun
  | [d1, d2] => { results := [.lit (.bool true)], args := [d1, d2] }
  | _ => none }
def fnExactDoFitRow : OpenClaim := { program := "ytaicmgbmlkhagaa", sum := "f70bd68dcaab826070d80d14d5523bcf1ed3145c8119cc3114b0fdb622d5b2ed", func := "loop.example/g00852/laws.FnExactDoFit", spec := "fnExactDoFit", unfollowed := true, recurses := true, apart := false }
def FnExactDoFitSaid : Prop := fnExactDoFitRow.holds Try.pinned (OpenSpec.ofChange fnExactDoFitSpec)

/-- ITS FALSE NEIGHBOUR: 'it returns false'. Refute it at one input. -/
def fnExactDoFitWrong : ChangeSpec := { name := "fnExactDoFit", fn := fun _ => fun
  | [d1, d2] => { results := [.lit (.bool false)], args := [d1, d2] }
  | _ => none }
def FnExactDoFitWrongFalsely : Prop := fnExactDoFitRow.holds Try.pinned (OpenSpec.ofChange fnExactDoFitWrong)

/-- 'laws.FnExactFirstCurtailed': WHATEVER THE INPUT: true; the input reads as it did. -/
def fnExactFirstCurtailedSpec : ChangeSpec := { name := "fnExactFirstCurtailed", fn := fun _ => fun
  | [d1, d2] => { results := [.lit (.bool true)], args := [d1, d2] }
  | _ => none }
def fnExactFirstCurtailedRow : OpenClaim := { program := "ytaicmgbmlkhagaa", sum := "f70bd68dcaab826070d80d14d5523bcf1ed3145c8119cc3114b0fdb622d5b2ed", func := "loop.example/g00852/laws.FnExactFirstCurtailed", spec := "fnExactFirstCurtailed", unfollowed := true, recurses := true, apart := false }
def FnExactFirstCurtailedSaid : Prop := fnExactFirstCurtailedRow.holds Try.pinned (OpenSpec.ofChange fnExactFirstCurtailedSpec)

/-- ITS FALSE NEIGHBOUR: 'it returns false'. Refute it at one input. -/
def fnExactFirstCurtailedWrong : ChangeSpec := { name := "fnExactFirstCurtailed", fn := fun _ => fun
  | [d1, d2] => { results := [.lit (.bool false)], args := [d1, d2] }
  | _ => none }
def FnExactFirstCurtailedWrongFalsely : Prop := fnExactFirstCurtailedRow.holds Try.pinned (OpenSpec.ofChange fnExactFirstCurtailedWrong)

/-- 'laws.FnExactServedShare': WHATEVER THE INPUT: true; the input reads as it did. -/
def fnExactServedShareSpec : ChangeSpec := { name := "fnExactServedShare", fn := fun _ => fun
  | [d1, d2] => { results := [.lit (.bool true)], args := [d1, d2] }
  | _ => none }
def fnExactServedShareRow : OpenClaim := { program := "ytaicmgbmlkhagaa", sum := "f70bd68dcaab826070d80d14d5523bcf1ed3145c8119cc3114b0fdb622d5b2ed", func := "loop.example/g00852/laws.FnExactServedShare", spec := "fnExactServedShare", unfollowed := true, recurses := true, apart := false }
def FnExactServedShareSaid : Prop := fnExactServedShareRow.holds Try.pinned (OpenSpec.ofChange fnExactServedShareSpec)

/-- ITS FALSE NEIGHBOUR: 'it returns false'. Refute it at one input. -/
def fnExactServedShareWrong : ChangeSpec := { name := "fnExactServedShare", fn := fun _ => fun
  | [d1, d2] => { results := [.lit (.bool false)], args := [d1, d2] }
  | _ => none }
def FnExactServedShareWrongFalsely : Prop := fnExactServedShareRow.holds Try.pinned (OpenSpec.ofChange fnExactServedShareWrong)

/-- 'laws.FnExactCheckScales': WHATEVER THE INPUT: true; the input reads as it did. -/
def fnExactCheckScalesSpec : ChangeSpec := { name := "fnExactCheckScales", fn := fun _ => fun
  | [d1, d2, d3] => { results := [.lit (.bool true)], args := [d1, d2, d3] }
  | _ => none }
def fnExactCheckScalesRow : OpenClaim := { program := "ytaicmgbmlkhagaa", sum := "f70bd68dcaab826070d80d14d5523bcf1ed3145c8119cc3114b0fdb622d5b2ed", func := "loop.example/g00852/laws.FnExactCheckScales", spec := "fnExactCheckScales", unfollowed := true, recurses := true, apart := false }
def FnExactCheckScalesSaid : Prop := fnExactCheckScalesRow.holds Try.pinned (OpenSpec.ofChange fnExactCheckScalesSpec)

/-- ITS FALSE NEIGHBOUR: 'it returns false'. Refute it at one input. -/
def fnExactCheckScalesWrong : ChangeSpec := { name := "fnExactCheckScales", fn := fun _ => fun
  | [d1, d2, d3] => { results := [.lit (.bool false)], args := [d1, d2, d3] }
  | _ => none }
def FnExactCheckScalesWrongFalsely : Prop := fnExactCheckScalesRow.holds Try.pinned (OpenSpec.ofChange fnExactCheckScalesWrong)

/-- 'laws.FnExactCurtailTransports': WHATEVER THE INPUT: true; the input reads as it did. -/
def fnExactCurtailTransportsSpec : ChangeSpec := { name := "fnExactCurtailTransports", fn := fun _ => fun
  | [d1, d2] => { results := [.lit (.bool true)], args := [d1, d2] }
  | _ => none }
def fnExactCurtailTransportsRow : OpenClaim := { program := "ytaicmgbmlkhagaa", sum := "f70bd68dcaab826070d80d14d5523bcf1ed3145c8119cc3114b0fdb622d5b2ed", func := "loop.example/g00852/laws.FnExactCurtailTransports", spec := "fnExactCurtailTransports", unfollowed := true, recurses := true, apart := false }
def FnExactCurtailTransportsSaid : Prop := fnExactCurtailTransportsRow.holds Try.pinned (OpenSpec.ofChange fnExactCurtailTransportsSpec)

/-- ITS FALSE NEIGHBOUR: 'it returns false'. Refute it at one input. -/
def fnExactCurtailTransportsWrong : ChangeSpec := { name := "fnExactCurtailTransports", fn := fun _ => fun
  | [d1, d2] => { results := [.lit (.bool false)], args := [d1, d2] }
  | _ => none }
def FnExactCurtailTransportsWrongFalsely : Prop := fnExactCurtailTransportsRow.holds Try.pinned (OpenSpec.ofChange fnExactCurtailTransportsWrong)

/-- 'laws.FnExactCurtailScales': WHATEVER THE INPUT: true; the input reads as it did. -/
def fnExactCurtailScalesSpec : ChangeSpec := { name := "fnExactCurtailScales", fn := fun _ => fun
  | [d1, d2] => { results := [.lit (.bool true)], args := [d1, d2] }
  | _ => none }
def fnExactCurtailScalesRow : OpenClaim := { program := "ytaicmgbmlkhagaa", sum := "f70bd68dcaab826070d80d14d5523bcf1ed3145c8119cc3114b0fdb622d5b2ed", func := "loop.example/g00852/laws.FnExactCurtailScales", spec := "fnExactCurtailScales", unfollowed := true, recurses := true, apart := false }
def FnExactCurtailScalesSaid : Prop := fnExactCurtailScalesRow.holds Try.pinned (OpenSpec.ofChange fnExactCurtailScalesSpec)

/-- ITS FALSE NEIGHBOUR: 'it returns false'. Refute it at one input. -/
def fnExactCurtailScalesWrong : ChangeSpec := { name := "fnExactCurtailScales", fn := fun _ => fun
  | [d1, d2] => { results := [.lit (.bool false)], args := [d1, d2] }
  | _ => none }
def FnExactCurtailScalesWrongFalsely : Prop := fnExactCurtailScalesRow.holds Try.pinned (OpenSpec.ofChange fnExactCurtailScalesWrong)

/-- 'laws.FnExactCurtailedAmounts': WHATEVER THE INPUT: true; the input reads as it did. -/
def fnExactCurtailedAmountsSpec : ChangeSpec := { name := "fnExactCurtailedAmounts", fn := fun _ => fun
  | [d1, d2] => { results := [.lit (.bool true)], args := [d1, d2] }
  | _ => none }
def fnExactCurtailedAmountsRow : OpenClaim := { program := "ytaicmgbmlkhagaa", sum := "f70bd68dcaab826070d80d14d5523bcf1ed3145c8119cc3114b0fdb622d5b2ed", func := "loop.example/g00852/laws.FnExactCurtailedAmounts", spec := "fnExactCurtailedAmounts", unfollowed := true, recurses := true, apart := false }
def FnExactCurtailedAmountsSaid : Prop := fnExactCurtailedAmountsRow.holds Try.pinned (OpenSpec.ofChange fnExactCurtailedAmountsSpec)

/-- ITS FALSE NEIGHBOUR: 'it returns false'. Refute it at one input. -/
def fnExactCurtailedAmountsWrong : ChangeSpec := { name := "fnExactCurtailedAmounts", fn := fun _ => fun
  | [d1, d2] => { results := [.lit (.bool false)], args := [d1, d2] }
  | _ => none }
def FnExactCurtailedAmountsWrongFalsely : Prop := fnExactCurtailedAmountsRow.holds Try.pinned (OpenSpec.ofChange fnExactCurtailedAmountsWrong)

/-- 'laws.FnExactIsConflict': WHATEVER THE INPUT: true; the input reads as it did. -/
def fnExactIsConflictSpec : ChangeSpec := { name := "fnExactIsConflict", fn := fun _ => fun
  | [d1, d2, d3] => { results := [.lit (.bool true)], args := [d1, d2, d3] }
  | _ => none }
def fnExactIsConflictRow : OpenClaim := { program := "ytaicmgbmlkhagaa", sum := "f70bd68dcaab826070d80d14d5523bcf1ed3145c8119cc3114b0fdb622d5b2ed", func := "loop.example/g00852/laws.FnExactIsConflict", spec := "fnExactIsConflict", unfollowed := true, recurses := true, apart := false }
def FnExactIsConflictSaid : Prop := fnExactIsConflictRow.holds Try.pinned (OpenSpec.ofChange fnExactIsConflictSpec)

/-- ITS FALSE NEIGHBOUR: 'it returns false'. Refute it at one input. -/
def fnExactIsConflictWrong : ChangeSpec := { name := "fnExactIsConflict", fn := fun _ => fun
  | [d1, d2, d3] => { results := [.lit (.bool false)], args := [d1, d2, d3] }
  | _ => none }
def FnExactIsConflictWrongFalsely : Prop := fnExactIsConflictRow.holds Try.pinned (OpenSpec.ofChange fnExactIsConflictWrong)

/-- 'laws.FnExactIsMinimal': WHATEVER THE INPUT: true; the input reads as it did. -/
def fnExactIsMinimalSpec : ChangeSpec := { name := "fnExactIsMinimal", fn := fun _ => fun
  | [d1, d2, d3] => { results := [.lit (.bool true)], args := [d1, d2, d3] }
  | _ => none }
def fnExactIsMinimalRow : OpenClaim := { program := "ytaicmgbmlkhagaa", sum := "f70bd68dcaab826070d80d14d5523bcf1ed3145c8119cc3114b0fdb622d5b2ed", func := "loop.example/g00852/laws.FnExactIsMinimal", spec := "fnExactIsMinimal", unfollowed := true, recurses := true, apart := false }
def FnExactIsMinimalSaid : Prop := fnExactIsMinimalRow.holds Try.pinned (OpenSpec.ofChange fnExactIsMinimalSpec)

/-- ITS FALSE NEIGHBOUR: 'it returns false'. Refute it at one input. -/
def fnExactIsMinimalWrong : ChangeSpec := { name := "fnExactIsMinimal", fn := fun _ => fun
  | [d1, d2, d3] => { results := [.lit (.bool false)], args := [d1, d2, d3] }
  | _ => none }
def FnExactIsMinimalWrongFalsely : Prop := fnExactIsMinimalRow.holds Try.pinned (OpenSpec.ofChange fnExactIsMinimalWrong)

/-- 'laws.FnExactAcceptInOrder': WHATEVER THE INPUT: true; the input reads as it did. -/
def fnExactAcceptInOrderSpec : ChangeSpec := { name := "fnExactAcceptInOrder", fn := fun _ => fun
  | [d1, d2] => { results := [.lit (.bool true)], args := [d1, d2] }
  | _ => none }
def fnExactAcceptInOrderRow : OpenClaim := { program := "ytaicmgbmlkhagaa", sum := "f70bd68dcaab826070d80d14d5523bcf1ed3145c8119cc3114b0fdb622d5b2ed", func := "loop.example/g00852/laws.FnExactAcceptInOrder", spec := "fnExactAcceptInOrder", unfollowed := true, recurses := true, apart := false }
def FnExactAcceptInOrderSaid : Prop := fnExactAcceptInOrderRow.holds Try.pinned (OpenSpec.ofChange fnExactAcceptInOrderSpec)

/-- ITS FALSE NEIGHBOUR: 'it returns false'. Refute it at one input. -/
def fnExactAcceptInOrderWrong : ChangeSpec := { name := "fnExactAcceptInOrder", fn := fun _ => fun
  | [d1, d2] => { results := [.lit (.bool false)], args := [d1, d2] }
  | _ => none }
def FnExactAcceptInOrderWrongFalsely : Prop := fnExactAcceptInOrderRow.holds Try.pinned (OpenSpec.ofChange fnExactAcceptInOrderWrong)

/-- 'laws.FnExactRelievers': WHATEVER THE INPUT: true; the input reads as it did. -/
def fnExactRelieversSpec : ChangeSpec := { name := "fnExactRelievers", fn := fun _ => fun
  | [d1, d2, d3] => { results := [.lit (.bool true)], args := [d1, d2, d3] }
  | _ => none }
def fnExactRelieversRow : OpenClaim := { program := "ytaicmgbmlkhagaa", sum := "f70bd68dcaab826070d80d14d5523bcf1ed3145c8119cc3114b0fdb622d5b2ed", func := "loop.example/g00852/laws.FnExactRelievers", spec := "fnExactRelievers", unfollowed := true, recurses := true, apart := false }
def FnExactRelieversSaid : Prop := fnExactRelieversRow.holds Try.pinned (OpenSpec.ofChange fnExactRelieversSpec)

/-- ITS FALSE NEIGHBOUR: 'it returns false'. Refute it at one input. -/
def fnExactRelieversWrong : ChangeSpec := { name := "fnExactRelievers", fn := fun _ => fun
  | [d1, d2, d3] => { results := [.lit (.bool false)], args := [d1, d2, d3] }
  | _ => none }
def FnExactRelieversWrongFalsely : Prop := fnExactRelieversRow.holds Try.pinned (OpenSpec.ofChange fnExactRelieversWrong)

/-- 'laws.FnExactFindConflict': WHATEVER THE INPUT: true; the input reads as it did. -/
def fnExactFindConflictSpec : ChangeSpec := { name := "fnExactFindConflict", fn := fun _ => fun
  | [d1, d2] => { results := [.lit (.bool true)], args := [d1, d2] }
  | _ => none }
def fnExactFindConflictRow : OpenClaim := { program := "ytaicmgbmlkhagaa", sum := "f70bd68dcaab826070d80d14d5523bcf1ed3145c8119cc3114b0fdb622d5b2ed", func := "loop.example/g00852/laws.FnExactFindConflict", spec := "fnExactFindConflict", unfollowed := true, recurses := true, apart := false }
def FnExactFindConflictSaid : Prop := fnExactFindConflictRow.holds Try.pinned (OpenSpec.ofChange fnExactFindConflictSpec)

/-- ITS FALSE NEIGHBOUR: 'it returns false'. Refute it at one input. -/
def fnExactFindConflictWrong : ChangeSpec := { name := "fnExactFindConflict", fn := fun _ => fun
  | [d1, d2] => { results := [.lit (.bool false)], args := [d1, d2] }
  | _ => none }
def FnExactFindConflictWrongFalsely : Prop := fnExactFindConflictRow.holds Try.pinned (OpenSpec.ofChange fnExactFindConflictWrong)

/-- 'laws.FnExactThinConflict': WHATEVER THE INPUT: true; the input reads as it did. -/
def fnExactThinConflictSpec : ChangeSpec := { name := "fnExactThinConflict", fn := fun _ => fun
  | [d1, d2, d3] => { results := [.lit (.bool true)], args := [d1, d2, d3] }
  | _ => none }
def fnExactThinConflictRow : OpenClaim := { program := "ytaicmgbmlkhagaa", sum := "f70bd68dcaab826070d80d14d5523bcf1ed3145c8119cc3114b0fdb622d5b2ed", func := "loop.example/g00852/laws.FnExactThinConflict", spec := "fnExactThinConflict", unfollowed := true, recurses := true, apart := false }
def FnExactThinConflictSaid : Prop := fnExactThinConflictRow.holds Try.pinned (OpenSpec.ofChange fnExactThinConflictSpec)

/-- ITS FALSE NEIGHBOUR: 'it returns false'. Refute it at one input. -/
def fnExactThinConflictWrong : ChangeSpec := { name := "fnExactThinConflict", fn := fun _ => fun
  | [d1, d2, d3] => { results := [.lit (.bool false)], args := [d1, d2, d3] }
  | _ => none }
def FnExactThinConflictWrongFalsely : Prop := fnExactThinConflictRow.holds Try.pinned (OpenSpec.ofChange fnExactThinConflictWrong)

/- THE SECOND FORM. 'bulk': how many values and letters a reading holds, each counted each time it is reached (what is shared counts as often as it is met; a slice's spare places count too). A statement '..UptoSaid' is the law's where the arguments, and the package variables that the reading takes, are together of bulk at most 1048576: NARROWER than '..Said'. Prove '..Said' where nothing that the law and all that it calls make is longer than what came in: it says more and counts as full. Else prove '..UptoSaid'. A law counts once. -/
mutual
def uptoBulk {H : Type} : DataW H → Nat
  | .lit (.string bytes) => bytes.length + 1
  | .lit _ => 1
  | .nil => 1
  | .ptr d => uptoBulk d + 1
  | .slice elems spare => uptoBulkAll elems + uptoBulkAll spare + 1
  | .agg parts => uptoBulkAll parts + 1
  | .iface _ d => uptoBulk d + 1
  | .map entries => uptoBulkEntries entries + 1
  | .held _ => 1
def uptoBulkAll {H : Type} : List (DataW H) → Nat
  | [] => 0
  | d :: r => uptoBulk d + uptoBulkAll r
def uptoBulkEntries {H : Type} : List (Lit × DataW H) → Nat
  | [] => 0
  | x :: r => uptoBulkEntry x + uptoBulkEntries r
def uptoBulkEntry {H : Type} : Lit × DataW H → Nat
  | (.string bytes, d) => bytes.length + uptoBulk d + 1
  | (_, d) => uptoBulk d + 1
 end
def uptoSmall : (H : Type) → List (DataW H) → Bool := fun _ ds => decide (uptoBulkAll ds ≤ 1048576)
def OpenSpec.upto (s : _root_.Go.ChangeSpec) : _root_.Go.OpenSpec := { _root_.Go.OpenSpec.ofChange s with cond := some uptoSmall }

/-- 'laws.FnExactIsRoutable', WHERE WHAT IT READS IS OF BULK AT MOST 1048576: true; the input reads as it did. -/
def fnExactIsRoutableUptoRow : OpenClaim := { program := "ytaicmgbmlkhagaa", sum := "f70bd68dcaab826070d80d14d5523bcf1ed3145c8119cc3114b0fdb622d5b2ed", func := "loop.example/g00852/laws.FnExactIsRoutable", spec := "fnExactIsRoutable", unfollowed := true, recurses := true, apart := false, narrowed := true }
def FnExactIsRoutableUptoSaid : Prop := fnExactIsRoutableUptoRow.holds Try.pinned (OpenSpec.upto fnExactIsRoutableSpec)

/-- 'laws.FnExactRouteSupplies', WHERE WHAT IT READS IS OF BULK AT MOST 1048576: true; the input reads as it did. -/
def fnExactRouteSuppliesUptoRow : OpenClaim := { program := "ytaicmgbmlkhagaa", sum := "f70bd68dcaab826070d80d14d5523bcf1ed3145c8119cc3114b0fdb622d5b2ed", func := "loop.example/g00852/laws.FnExactRouteSupplies", spec := "fnExactRouteSupplies", unfollowed := true, recurses := true, apart := false, narrowed := true }
def FnExactRouteSuppliesUptoSaid : Prop := fnExactRouteSuppliesUptoRow.holds Try.pinned (OpenSpec.upto fnExactRouteSuppliesSpec)

/-- 'laws.FnExactDoFit', WHERE WHAT IT READS IS OF BULK AT MOST 1048576: true; the input reads as it did. -/
def fnExactDoFitUptoRow : OpenClaim := { program := "ytaicmgbmlkhagaa", sum := "f70bd68dcaab826070d80d14d5523bcf1ed3145c8119cc3114b0fdb622d5b2ed", func := "loop.example/g00852/laws.FnExactDoFit", spec := "fnExactDoFit", unfollowed := true, recurses := true, apart := false, narrowed := true }
def FnExactDoFitUptoSaid : Prop := fnExactDoFitUptoRow.holds Try.pinned (OpenSpec.upto fnExactDoFitSpec)

/-- 'laws.FnExactFirstCurtailed', WHERE WHAT IT READS IS OF BULK AT MOST 1048576: true; the input reads as it did. -/
def fnExactFirstCurtailedUptoRow : OpenClaim := { program := "ytaicmgbmlkhagaa", sum := "f70bd68dcaab826070d80d14d5523bcf1ed3145c8119cc3114b0fdb622d5b2ed", func := "loop.example/g00852/laws.FnExactFirstCurtailed", spec := "fnExactFirstCurtailed", unfollowed := true, recurses := true, apart := false, narrowed := true }
def FnExactFirstCurtailedUptoSaid : Prop := fnExactFirstCurtailedUptoRow.holds Try.pinned (OpenSpec.upto fnExactFirstCurtailedSpec)

/-- 'laws.FnExactServedShare', WHERE WHAT IT READS IS OF BULK AT MOST 1048576: true; the input reads as it did. -/
def fnExactServedShareUptoRow : OpenClaim := { program := "ytaicmgbmlkhagaa", sum := "f70bd68dcaab826070d80d14d5523bcf1ed3145c8119cc3114b0fdb622d5b2ed", func := "loop.example/g00852/laws.FnExactServedShare", spec := "fnExactServedShare", unfollowed := true, recurses := true, apart := false, narrowed := true }
def FnExactServedShareUptoSaid : Prop := fnExactServedShareUptoRow.holds Try.pinned (OpenSpec.upto fnExactServedShareSpec)

/-- 'laws.FnExactCheckScales', WHERE WHAT IT READS IS OF BULK AT MOST 1048576: true; the input reads as it did. -/
def fnExactCheckScalesUptoRow : OpenClaim := { program := "ytaicmgbmlkhagaa", sum := "f70bd68dcaab826070d80d14d5523bcf1ed3145c8119cc3114b0fdb622d5b2ed", func := "loop.example/g00852/laws.FnExactCheckScales", spec := "fnExactCheckScales", unfollowed := true, recurses := true, apart := false, narrowed := true }
def FnExactCheckScalesUptoSaid : Prop := fnExactCheckScalesUptoRow.holds Try.pinned (OpenSpec.upto fnExactCheckScalesSpec)

/-- 'laws.FnExactCurtailTransports', WHERE WHAT IT READS IS OF BULK AT MOST 1048576: true; the input reads as it did. -/
def fnExactCurtailTransportsUptoRow : OpenClaim := { program := "ytaicmgbmlkhagaa", sum := "f70bd68dcaab826070d80d14d5523bcf1ed3145c8119cc3114b0fdb622d5b2ed", func := "loop.example/g00852/laws.FnExactCurtailTransports", spec := "fnExactCurtailTransports", unfollowed := true, recurses := true, apart := false, narrowed := true }
def FnExactCurtailTransportsUptoSaid : Prop := fnExactCurtailTransportsUptoRow.holds Try.pinned (OpenSpec.upto fnExactCurtailTransportsSpec)

/-- 'laws.FnExactCurtailScales', WHERE WHAT IT READS IS OF BULK AT MOST 1048576: true; the input reads as it did. -/
def fnExactCurtailScalesUptoRow : OpenClaim := { program := "ytaicmgbmlkhagaa", sum := "f70bd68dcaab826070d80d14d5523bcf1ed3145c8119cc3114b0fdb622d5b2ed", func := "loop.example/g00852/laws.FnExactCurtailScales", spec := "fnExactCurtailScales", unfollowed := true, recurses := true, apart := false, narrowed := true }
def FnExactCurtailScalesUptoSaid : Prop := fnExactCurtailScalesUptoRow.holds Try.pinned (OpenSpec.upto fnExactCurtailScalesSpec)

/-- 'laws.FnExactCurtailedAmounts', WHERE WHAT IT READS IS OF BULK AT MOST 1048576: true; the input reads as it did. -/
def fnExactCurtailedAmountsUptoRow : OpenClaim := { program := "ytaicmgbmlkhagaa", sum := "f70bd68dcaab826070d80d14d5523bcf1ed3145c8119cc3114b0fdb622d5b2ed", func := "loop.example/g00852/laws.FnExactCurtailedAmounts", spec := "fnExactCurtailedAmounts", unfollowed := true, recurses := true, apart := false, narrowed := true }
def FnExactCurtailedAmountsUptoSaid : Prop := fnExactCurtailedAmountsUptoRow.holds Try.pinned (OpenSpec.upto fnExactCurtailedAmountsSpec)

/-- 'laws.FnExactIsConflict', WHERE WHAT IT READS IS OF BULK AT MOST 1048576: true; the input reads as it did. -/
def fnExactIsConflictUptoRow : OpenClaim := { program := "ytaicmgbmlkhagaa", sum := "f70bd68dcaab826070d80d14d5523bcf1ed3145c8119cc3114b0fdb622d5b2ed", func := "loop.example/g00852/laws.FnExactIsConflict", spec := "fnExactIsConflict", unfollowed := true, recurses := true, apart := false, narrowed := true }
def FnExactIsConflictUptoSaid : Prop := fnExactIsConflictUptoRow.holds Try.pinned (OpenSpec.upto fnExactIsConflictSpec)

/-- 'laws.FnExactIsMinimal', WHERE WHAT IT READS IS OF BULK AT MOST 1048576: true; the input reads as it did. -/
def fnExactIsMinimalUptoRow : OpenClaim := { program := "ytaicmgbmlkhagaa", sum := "f70bd68dcaab826070d80d14d5523bcf1ed3145c8119cc3114b0fdb622d5b2ed", func := "loop.example/g00852/laws.FnExactIsMinimal", spec := "fnExactIsMinimal", unfollowed := true, recurses := true, apart := false, narrowed := true }
def FnExactIsMinimalUptoSaid : Prop := fnExactIsMinimalUptoRow.holds Try.pinned (OpenSpec.upto fnExactIsMinimalSpec)

/-- 'laws.FnExactAcceptInOrder', WHERE WHAT IT READS IS OF BULK AT MOST 1048576: true; the input reads as it did. -/
def fnExactAcceptInOrderUptoRow : OpenClaim := { program := "ytaicmgbmlkhagaa", sum := "f70bd68dcaab826070d80d14d5523bcf1ed3145c8119cc3114b0fdb622d5b2ed", func := "loop.example/g00852/laws.FnExactAcceptInOrder", spec := "fnExactAcceptInOrder", unfollowed := true, recurses := true, apart := false, narrowed := true }
def FnExactAcceptInOrderUptoSaid : Prop := fnExactAcceptInOrderUptoRow.holds Try.pinned (OpenSpec.upto fnExactAcceptInOrderSpec)

/-- 'laws.FnExactRelievers', WHERE WHAT IT READS IS OF BULK AT MOST 1048576: true; the input reads as it did. -/
def fnExactRelieversUptoRow : OpenClaim := { program := "ytaicmgbmlkhagaa", sum := "f70bd68dcaab826070d80d14d5523bcf1ed3145c8119cc3114b0fdb622d5b2ed", func := "loop.example/g00852/laws.FnExactRelievers", spec := "fnExactRelievers", unfollowed := true, recurses := true, apart := false, narrowed := true }
def FnExactRelieversUptoSaid : Prop := fnExactRelieversUptoRow.holds Try.pinned (OpenSpec.upto fnExactRelieversSpec)

/-- 'laws.FnExactFindConflict', WHERE WHAT IT READS IS OF BULK AT MOST 1048576: true; the input reads as it did. -/
def fnExactFindConflictUptoRow : OpenClaim := { program := "ytaicmgbmlkhagaa", sum := "f70bd68dcaab826070d80d14d5523bcf1ed3145c8119cc3114b0fdb622d5b2ed", func := "loop.example/g00852/laws.FnExactFindConflict", spec := "fnExactFindConflict", unfollowed := true, recurses := true, apart := false, narrowed := true }
def FnExactFindConflictUptoSaid : Prop := fnExactFindConflictUptoRow.holds Try.pinned (OpenSpec.upto fnExactFindConflictSpec)

/-- 'laws.FnExactThinConflict', WHERE WHAT IT READS IS OF BULK AT MOST 1048576: true; the input reads as it did. -/
def fnExactThinConflictUptoRow : OpenClaim := { program := "ytaicmgbmlkhagaa", sum := "f70bd68dcaab826070d80d14d5523bcf1ed3145c8119cc3114b0fdb622d5b2ed", func := "loop.example/g00852/laws.FnExactThinConflict", spec := "fnExactThinConflict", unfollowed := true, recurses := true, apart := false, narrowed := true }
def FnExactThinConflictUptoSaid : Prop := fnExactThinConflictUptoRow.holds Try.pinned (OpenSpec.upto fnExactThinConflictSpec)

end Rows
end Go.Proofs.Ytaicmgbmlkhagaa
