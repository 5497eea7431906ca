/-
  Capacities of sets of nodes.
-/
import Derived.Test.YtbbecboihmmllaaFlowB
import Derived.Test.YtbbecboihmmllaaSwitches
import Derived.Deep.CutRange
set_option linter.unusedSimpArgs false
set_option linter.unusedVariables false
namespace Go.Proofs.Ytbbecboihmmllaa
open Go.ChangeShapes Go.WideShapes Go.ChangeAt Go.RowKit

def capAt (s : List Int) (p : GPipe) : Int := if (decide (p.src ∈ s) != decide (p.dst ∈ s)) = true then p.lim else 0
def capTo (n : GNet) (s : List Int) (k : Nat) : Int := ((n.pipes.take k).map (capAt s)).sum
def caCode (n : GNet) (s : List Int) : Int := if netOk n = true then (if setOk ((n.nodes.length : Int) - 1) s = true then 0 else 2) else 1
def capVal (n : GNet) (s : List Int) : Int := if caCode n s = 0 then capTo n s n.pipes.length else 0
theorem capTo_step {n : GNet} {s : List Int} {k : Nat} {p : GPipe} (h : n.pipes[k]? = some p) : capTo n s (k + 1) = capTo n s k + capAt s p := by
  unfold capTo
  rw [List.take_add_one, h]
  simp
theorem capTo_bnd {n : GNet} (hn : netOk n = true) (s : List Int) (k : Nat) : 0 ≤ capTo n s k ∧ capTo n s k ≤ 30000 * (k : Int) := by
  induction k with
  | zero => simp [capTo]
  | succ k ih =>
    by_cases hk : k < n.pipes.length
    · have hx : n.pipes[k]? = some n.pipes[k] := List.getElem?_eq_getElem hk
      rw [capTo_step hx]
      have hp := pipeOk_all ((netOk_all hn).2 k _ hx)
      have hl : 1 ≤ n.pipes[k].lim ∧ n.pipes[k].lim ≤ 30000 := hp.2.2.2.2.2
      unfold capAt
      split <;> omega
    · have e : capTo n s (k + 1) = capTo n s k := by
        unfold capTo
        rw [List.take_of_length_le (by omega), List.take_of_length_le (by omega)]
      rw [e]
      omega
theorem ca_parts {n : GNet} {s : List Int} (hn : netOk n = true) : setOk ((n.nodes.length : Int) - 1) s = (s.all (inN n) && incOk s) := by
  rw [setOk_eq]
  rfl
theorem SetCap_aux {n : GNet} {s : List Int} (hn : netOk n = true) (ha : setOk ((n.nodes.length : Int) - 1) s = true) : caCode n s = 0 := by
  rw [caCode, if_pos hn, if_pos ha]
theorem SetCap_auy {n : GNet} {s : List Int} (hn : netOk n = true) (ha : setOk ((n.nodes.length : Int) - 1) s = false) : caCode n s = 2 := by
  rw [caCode, if_pos hn, if_neg (by rw [ha]; decide)]
end Go.Proofs.Ytbbecboihmmllaa
