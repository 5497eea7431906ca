/-
  The sending of the reference.
-/
import Derived.Test.YtbbecboihmmllaaFlow7
import Derived.Test.YtbbecboihmmllaaFlowMs
namespace Go.Proofs.Ytbbecboihmmllaa
open Go.ChangeShapes Go.WideShapes Go.ChangeAt Go.RowKit

/-- Numbers of a row that is not great. -/
def BndL (M : Int) (l : List Int) : Prop := ∀ (k : Nat) (z : Int), l[k]? = some z → -M ≤ z ∧ z ≤ M
theorem get_int {l : List Int} {k : Nat} (h : k < l.length) : l[k]? = some (l.getD k 0) := by simp [h]
theorem own_chg2 {w w' : World} {base n : Nat} {e : TypeId} {size : Nat} {v : Value} {xs : List Value} {S : Nat → Prop} (h : w.ownsRow base e size v n xs) (hc : Chg S w w') (hs : ∀ k, v.ownBlock = some k → ¬ S k) : w'.ownsRow base e size v n xs := own_chg h hc hs
theorem cell_chg {w w' : World} {S : Nat → Prop} {a : Addr} {v : Value} (h : w.cell? a = some v) (hc : Chg S w w') (hs : ¬ S a.block) : w'.cell? a = some v := (World.cell?_of_block (hc.block a.block (lt_of_cell h) hs)).trans h
theorem chg_set {S : Nat → Prop} (w : World) (a : Addr) (v : Value) (h : S a.block) : Chg S w (w.setCell a v) := chg_of_grown (grown_set w a v) (fun k e => by injection e with e; rw [← e]; exact h)
theorem grown_drewR {w w' : World} {row : Option Nat} (h : w.grownBy w' row) : w.grownBy w'.drew row := ⟨h.os, h.tape, h.output, h.size, h.block⟩
theorem Chg.drew {S : Nat → Prop} {a b : World} (h : Chg S a b) : Chg S a b.drew := ⟨h.os, h.tape, h.output, h.size, h.block⟩

end Go.Proofs.Ytbbecboihmmllaa
