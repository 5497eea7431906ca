/-
  The search of the program.
-/
import Derived.Test.YtbbecboihmmllaaFlow5
import Derived.BigRegion
import Derived.ChangeAlike
namespace Go.Proofs.Ytbbecboihmmllaa
open Go.ChangeShapes Go.WideShapes Go.ChangeAt Go.RowKit

theorem blk_cell {w : World} {b : Nat} {cs : Array Value} {t : TypeId} {fr : Nat × Nat} (h : w.heap[b]? = some (.cells cs t fr)) {j : Nat} {v : Value} (hj : cs[j]? = some v) : w.cell? ⟨b, j, none⟩ = some v := by
  rw [cell_of_row w b j cs t fr h, hj]
theorem blk_frozen {w : World} {b : Nat} {cs : Array Value} {t : TypeId} (h : w.heap[b]? = some (.cells cs t (0, 0))) (j : Nat) : w.frozen? ⟨b, j, none⟩ = false := by
  simp [World.frozen?, h]
theorem blk_lt {w : World} {b : Nat} {ob : Obj} (h : w.heap[b]? = some ob) : b < w.heap.size := (Array.getElem?_eq_some_iff.1 h).1
theorem blk_gr {w w' : World} {b : Nat} {ob : Obj} (h : w.heap[b]? = some ob) (g : Gr w w') : w'.heap[b]? = some ob := (g.below.block b (blk_lt h)).trans h
theorem blk_grown {w w' : World} {b : Nat} {ob : Obj} {row : Option Nat} (h : w.heap[b]? = some ob) (g : w.grownBy w' row) (hne : row ≠ some b) : w'.heap[b]? = some ob := (g.block b (blk_lt h) (fun e => hne e.symm)).trans h
theorem blk_set {w : World} {b : Nat} {ob : Obj} (h : w.heap[b]? = some ob) {a : Addr} (hne : a.block ≠ b) (v : Value) : (w.setCell a v).heap[b]? = some ob := by
  simp [World.setCell, Array.getElem?_modify, hne, h]
theorem grown_drew {w w' : World} {ob : Obj} {row : Option Nat} (h : (w.drew.alloc ob).grownBy w' row) : (w.alloc ob).grownBy w' row := ⟨h.os, h.tape, h.output, h.size, h.block⟩
theorem grown_set (w : World) (a : Addr) (v : Value) : w.grownBy (w.setCell a v) (some a.block) :=
  ⟨rfl, rfl, rfl, by simp, fun k _ hne => by
    have : a.block ≠ k := fun e => hne (by rw [e])
    simp [World.setCell, Array.getElem?_modify, this]⟩
end Go.Proofs.Ytbbecboihmmllaa
