/-
  The plain search of the program.
-/
import Derived.Test.YtbbecboihmmllaaFlowD
import Derived.Deep.Cut
namespace Go.Proofs.Ytbbecboihmmllaa
open Go.ChangeShapes Go.WideShapes Go.ChangeAt Go.RowKit

theorem blk_own {w : World} {b base n : Nat} {cs : Array Value} {t : TypeId} (h : w.heap[b]? = some (.cells cs t (0, 0))) (hb : base ≤ b) (hn : cs.size = n) (hm : n ≤ 1048576) : w.ownsRow base t 1 (.slice (some ⟨b, 0, none⟩) n n) n cs.toList := by
  refine ⟨by simp [hn], Or.inr ⟨b, n, cs, rfl, hb, h, Nat.le_refl _, by unfold maxLen; omega, by omega, ?_⟩⟩
  rw [List.take_of_length_le (by simp; omega)]
theorem chg_blk {w w' : World} {S : Nat → Prop} {b : Nat} {ob : Obj} (h : w.heap[b]? = some ob) (hc : Chg S w w') (hs : ¬ S b) : w'.heap[b]? = some ob := (hc.block b (blk_lt h) hs).trans h
theorem h4d (w : World) (a b c d : Obj) : ((((w.alloc a).alloc b).alloc c).alloc d).drew.heap[w.heap.size + 1 + 1 + 1]? = some d := by
  have h : ((((w.alloc a).alloc b).alloc c).alloc d).heap[w.heap.size + 1 + 1 + 1]? = some d := by
    have := heap_alloc_new (((w.alloc a).alloc b).alloc c) d
    simpa using this
  exact h
theorem h4c (w : World) (a b c d : Obj) : ((((w.alloc a).alloc b).alloc c).alloc d).drew.heap[w.heap.size + 1 + 1]? = some c := by
  have h : (((w.alloc a).alloc b).alloc c).heap[w.heap.size + 1 + 1]? = some c := by
    have := heap_alloc_new ((w.alloc a).alloc b) c
    simpa using this
  exact blk_gr h ((Gr.refl _).alloc d).drew
theorem h4b (w : World) (a b c d : Obj) : ((((w.alloc a).alloc b).alloc c).alloc d).drew.heap[w.heap.size + 1]? = some b := by
  have h : ((w.alloc a).alloc b).heap[w.heap.size + 1]? = some b := by
    have := heap_alloc_new (w.alloc a) b
    simpa using this
  exact blk_gr h (((Gr.refl _).alloc c).alloc d).drew
theorem h4a (w : World) (a b c d : Obj) : ((((w.alloc a).alloc b).alloc c).alloc d).drew.heap[w.heap.size]? = some a :=
  blk_gr (heap_alloc_new w a) ((((Gr.refl _).alloc b).alloc c).alloc d).drew
end Go.Proofs.Ytbbecboihmmllaa
