/-
  No cell of these rows narrows 'for every input' (looked for: loops, veiled, ifaces, maps, wideKeys, modest, calm, conditions, laid).
  DERIVED. THE GIVEN ROWS OF THIS SEAT. 4 by the template 'for every input the law returns true; each argument reads behind the call as it read before'; 0 by the template 'total and deterministic' (their statements: YtihkkemkecifcaaTotals.lean).
  GIVEN WITH THE SEED: the statements are not yours to turn. If you find one false, say at which input.
  Laid BY PROGRAM, IN A SANDBOX (cutbox-rows.mjs): the forced cells as the released guide's own fill.sh prints them over the translation a88cbd2d96770cb7… (all of the seat's roots in one cut). By AI agents, Wed Nov 11 2026. No macro, syntax, notation, axiom, sorry.
-/
import Derived.Test.YtihkkemkecifcaaChecked
import GoSem.Claim
import GoSem.ClaimJoined
import GoSem.ClaimMapViews
import Derived.JoinedTies
import Derived.KernelRfl
namespace Go.Proofs.Ytihkkemkecifcaa
/- THE CELL 'sum', in the pinned program and in every row, IS THE sha256 OF THE DUMP (.gsa) THAT YtihkkemkecifcaaProg.lean LOADS. Nothing in Lean hashes anything: it is a label: what it is worth is what the hold of that sum in a sandbox is worth. -/
noncomputable def Try.pinned : Pinned := { name := "ytihkkemkecifcaa", sum := "a88cbd2d96770cb79bc56710aa9cef31996b8430d76e4b7bbc77aa23d1408db4", checked := Try.checked }
namespace Rows
def none {H : Type} : Left H := { results := [], args := [] }

/-- 'laws.FnExactUnallocatedOf': WHATEVER THE INPUT: true; the input reads as it did. -/
def fnExactUnallocatedOfSpec : ChangeSpec := { name := "fnExactUnallocatedOf", fn := fun _ => fun
  | [d1, d2, d3] => { results := [.lit (.bool true)], args := [d1, d2, d3] }
  | _ => none }
def fnExactUnallocatedOfRow : OpenClaim := { program := "ytihkkemkecifcaa", sum := "a88cbd2d96770cb79bc56710aa9cef31996b8430d76e4b7bbc77aa23d1408db4", func := "loop.example/g00852/laws.FnExactUnallocatedOf", spec := "fnExactUnallocatedOf", unfollowed := true, recurses := true, apart := false }
def FnExactUnallocatedOfSaid : Prop := fnExactUnallocatedOfRow.holds Try.pinned (OpenSpec.ofChange fnExactUnallocatedOfSpec)

/-- ITS FALSE NEIGHBOUR: 'it returns false'. Refute it at one input. -/
def fnExactUnallocatedOfWrong : ChangeSpec := { name := "fnExactUnallocatedOf", fn := fun _ => fun
  | [d1, d2, d3] => { results := [.lit (.bool false)], args := [d1, d2, d3] }
  | _ => none }
def FnExactUnallocatedOfWrongFalsely : Prop := fnExactUnallocatedOfRow.holds Try.pinned (OpenSpec.ofChange fnExactUnallocatedOfWrong)

/-- 'laws.FnExactAllocate': WHATEVER THE INPUT: true; the input reads as it did. -/
def fnExactAllocateSpec : ChangeSpec := { name := "fnExactAllocate", fn := fun _ => fun
  | [d1, d2, d3] => { results := [.lit (.bool true)], args := [d1, d2, d3] }
  | _ => none }
def fnExactAllocateRow : OpenClaim := { program := "ytihkkemkecifcaa", sum := "a88cbd2d96770cb79bc56710aa9cef31996b8430d76e4b7bbc77aa23d1408db4", func := "loop.example/g00852/laws.FnExactAllocate", spec := "fnExactAllocate", unfollowed := true, recurses := true, apart := false }
def FnExactAllocateSaid : Prop := fnExactAllocateRow.holds Try.pinned (OpenSpec.ofChange fnExactAllocateSpec)

/-- ITS FALSE NEIGHBOUR: 'it returns false'. Refute it at one input. -/
def fnExactAllocateWrong : ChangeSpec := { name := "fnExactAllocate", fn := fun _ => fun
  | [d1, d2, d3] => { results := [.lit (.bool false)], args := [d1, d2, d3] }
  | _ => none }
def FnExactAllocateWrongFalsely : Prop := fnExactAllocateRow.holds Try.pinned (OpenSpec.ofChange fnExactAllocateWrong)

/-- 'laws.FnExactDeviationsOf': WHATEVER THE INPUT: true; the input reads as it did. -/
def fnExactDeviationsOfSpec : ChangeSpec := { name := "fnExactDeviationsOf", fn := fun _ => fun
  | [d1, d2, d3] => { results := [.lit (.bool true)], args := [d1, d2, d3] }
  | _ => none }
def fnExactDeviationsOfRow : OpenClaim := { program := "ytihkkemkecifcaa", sum := "a88cbd2d96770cb79bc56710aa9cef31996b8430d76e4b7bbc77aa23d1408db4", func := "loop.example/g00852/laws.FnExactDeviationsOf", spec := "fnExactDeviationsOf", unfollowed := true, recurses := true, apart := false }
def FnExactDeviationsOfSaid : Prop := fnExactDeviationsOfRow.holds Try.pinned (OpenSpec.ofChange fnExactDeviationsOfSpec)

/-- ITS FALSE NEIGHBOUR: 'it returns false'. Refute it at one input. -/
def fnExactDeviationsOfWrong : ChangeSpec := { name := "fnExactDeviationsOf", fn := fun _ => fun
  | [d1, d2, d3] => { results := [.lit (.bool false)], args := [d1, d2, d3] }
  | _ => none }
def FnExactDeviationsOfWrongFalsely : Prop := fnExactDeviationsOfRow.holds Try.pinned (OpenSpec.ofChange fnExactDeviationsOfWrong)

/-- 'laws.FnExactShipperBalance': WHATEVER THE INPUT: true; the input reads as it did. -/
def fnExactShipperBalanceSpec : ChangeSpec := { name := "fnExactShipperBalance", fn := fun _ => fun
  | [d1, d2, d3] => { results := [.lit (.bool true)], args := [d1, d2, d3] }
  | _ => none }
def fnExactShipperBalanceRow : OpenClaim := { program := "ytihkkemkecifcaa", sum := "a88cbd2d96770cb79bc56710aa9cef31996b8430d76e4b7bbc77aa23d1408db4", func := "loop.example/g00852/laws.FnExactShipperBalance", spec := "fnExactShipperBalance", unfollowed := true, recurses := true, apart := false }
def FnExactShipperBalanceSaid : Prop := fnExactShipperBalanceRow.holds Try.pinned (OpenSpec.ofChange fnExactShipperBalanceSpec)

/-- ITS FALSE NEIGHBOUR: 'it returns false'. Refute it at one input. -/
def fnExactShipperBalanceWrong : ChangeSpec := { name := "fnExactShipperBalance", fn := fun _ => fun
  | [d1, d2, d3] => { results := [.lit (.bool false)], args := [d1, d2, d3] }
  | _ => none }
def FnExactShipperBalanceWrongFalsely : Prop := fnExactShipperBalanceRow.holds Try.pinned (OpenSpec.ofChange fnExactShipperBalanceWrong)

/- THE SECOND FORM. 'bulk': how many values and letters a reading holds, each counted each time it is reached (what is shared counts as often as it is met; a slice's spare places count too). A statement '..UptoSaid' is the law's where the arguments, and the package variables that the reading takes, are together of bulk at most 1048576: NARROWER than '..Said'. Prove '..Said' where nothing that the law and all that it calls make is longer than what came in: it says more and counts as full. Else prove '..UptoSaid'. A law counts once. -/
mutual
def uptoBulk {H : Type} : DataW H → Nat
  | .lit (.string bytes) => bytes.length + 1
  | .lit _ => 1
  | .nil => 1
  | .ptr d => uptoBulk d + 1
  | .slice elems spare => uptoBulkAll elems + uptoBulkAll spare + 1
  | .agg parts => uptoBulkAll parts + 1
  | .iface _ d => uptoBulk d + 1
  | .map entries => uptoBulkEntries entries + 1
  | .held _ => 1
def uptoBulkAll {H : Type} : List (DataW H) → Nat
  | [] => 0
  | d :: r => uptoBulk d + uptoBulkAll r
def uptoBulkEntries {H : Type} : List (Lit × DataW H) → Nat
  | [] => 0
  | x :: r => uptoBulkEntry x + uptoBulkEntries r
def uptoBulkEntry {H : Type} : Lit × DataW H → Nat
  | (.string bytes, d) => bytes.length + uptoBulk d + 1
  | (_, d) => uptoBulk d + 1
 end
def uptoSmall : (H : Type) → List (DataW H) → Bool := fun _ ds => decide (uptoBulkAll ds ≤ 1048576)
def OpenSpec.upto (s : _root_.Go.ChangeSpec) : _root_.Go.OpenSpec := { _root_.Go.OpenSpec.ofChange s with cond := some uptoSmall }

/-- 'laws.FnExactUnallocatedOf', WHERE WHAT IT READS IS OF BULK AT MOST 1048576: true; the input reads as it did. -/
def fnExactUnallocatedOfUptoRow : OpenClaim := { program := "ytihkkemkecifcaa", sum := "a88cbd2d96770cb79bc56710aa9cef31996b8430d76e4b7bbc77aa23d1408db4", func := "loop.example/g00852/laws.FnExactUnallocatedOf", spec := "fnExactUnallocatedOf", unfollowed := true, recurses := true, apart := false, narrowed := true }
def FnExactUnallocatedOfUptoSaid : Prop := fnExactUnallocatedOfUptoRow.holds Try.pinned (OpenSpec.upto fnExactUnallocatedOfSpec)

/-- 'laws.FnExactAllocate', WHERE WHAT IT READS IS OF BULK AT MOST 1048576: true; the input reads as it did. -/
def fnExactAllocateUptoRow : OpenClaim := { program := "ytihkkemkecifcaa", sum := "a88cbd2d96770cb79bc56710aa9cef31996b8430d76e4b7bbc77aa23d1408db4", func := "loop.example/g00852/laws.FnExactAllocate", spec := "fnExactAllocate", unfollowed := true, recurses := true, apart := false, narrowed := true }
def FnExactAllocateUptoSaid : Prop := fnExactAllocateUptoRow.holds Try.pinned (OpenSpec.upto fnExactAllocateSpec)

/-- 'laws.FnExactDeviationsOf', WHERE WHAT IT READS IS OF BULK AT MOST 1048576: true; the input reads as it did. -/
def fnExactDeviationsOfUptoRow : OpenClaim := { program := "ytihkkemkecifcaa", sum := "a88cbd2d96770cb79bc56710aa9cef31996b8430d76e4b7bbc77aa23d1408db4", func := "loop.example/g00852/laws.FnExactDeviationsOf", spec := "fnExactDeviationsOf", unfollowed := true, recurses := true, apart := false, narrowed := true }
def FnExactDeviationsOfUptoSaid : Prop := fnExactDeviationsOfUptoRow.holds Try.pinned (OpenSpec.upto fnExactDeviationsOfSpec)

/-- 'laws.FnExactShipperBalance', WHERE WHAT IT READS IS OF BULK AT MOST 1048576: true; the input reads as it did. -/
def fnExactShipperBalanceUptoRow : OpenClaim := { program := "ytihkkemkecifcaa", sum := "a88cbd2d96770cb79bc56710aa9cef31996b8430d76e4b7bbc77aa23d1408db4", func := "loop.example/g00852/laws.FnExactShipperBalance", spec := "fnExactShipperBalance", unfollowed := true, recurses := true, apart := false, narrowed := true }
def FnExactShipperBalanceUptoSaid : Prop := fnExactShipperBalanceUptoRow.holds Try.pinned (OpenSpec.upto fnExactShipperBalanceSpec)

end Rows
end Go.Proofs.Ytihkkemkecifcaa
