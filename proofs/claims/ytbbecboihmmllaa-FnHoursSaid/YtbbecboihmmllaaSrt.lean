/-
  slices.Sort and slices.Compact at the numbers of the program: what they leave of a row that the call itself made.
-/
import Derived.Test.YtbbecboihmmllaaCore
import Derived.Test.YtbbecboihmmllaaInts
import Derived.Shelf.SortG.Plain
import Derived.Shelf.SlicesG.CompactI
import Derived.Lib.OwnBridge
import Derived.Lib.SlicesCompact
namespace Go.Proofs.Ytbbecboihmmllaa
open Go.ChangeShapes Go.WideShapes Go.ChangeAt Go.RowKit Go.Sort

theorem chg_putRow {enc : Int → Value} {w : World} {g q : Nat} {d : Array Int} (os : Array Obj) : Chg (fun k => k = g) w (grow (putRow enc (Sort.ahead w q) g 0 d) os) := by
  have h1 : (putRow enc (Sort.ahead w q) g 0 d).heap.size = w.heap.size := by simp [putRow, mapBlock, Sort.ahead]
  refine ⟨rfl, rfl, rfl, ?_, fun k hk hn => ?_⟩
  · show _ ≤ (_ ++ _ : Array Obj).size
    rw [Array.size_append, h1]
    omega
  · rw [heap_grow_old _ os (by omega)]
    simp [putRow, mapBlock, Sort.ahead, Array.getElem?_modify, show g ≠ k by omega]
theorem own_grow {w : World} {base : Nat} {e : TypeId} {size n : Nat} {v : Value} {xs : List Value} (h : w.ownsRow base e size v n xs) (os : Array Obj) : (grow w os).ownsRow base e size v n xs := by
  refine ⟨h.1, ?_⟩
  rcases h.2 with h2 | ⟨k, cap, cur, rfl, hb, hk, r⟩
  · exact .inl h2
  · have hlt : k < w.heap.size := by
      rcases Nat.lt_or_ge k w.heap.size with h' | h'
      · exact h'
      · rw [Array.getElem?_eq_none h'] at hk; cases hk
    exact .inr ⟨k, cap, cur, rfl, hb, by rw [heap_grow_old _ os hlt]; exact hk, r⟩
/-- A row of numbers, sorted. -/
def srt (zs : List Int) : List Int := zs.mergeSort fun x y => decide (x ≤ y)
theorem srt_len (zs : List Int) : (srt zs).length = zs.length := by simp [srt]
theorem srt_mem {zs : List Int} {x : Int} : x ∈ srt zs ↔ x ∈ zs := by simp [srt]
theorem srt_pw (zs : List Int) : (srt zs).Pairwise (· ≤ ·) := by
  have h : ((zs.mergeSort fun x y => decide (x ≤ y))).Pairwise (fun a b => decide (a ≤ b) = true) := by
    refine List.pairwise_mergeSort ?_ ?_ zs
    · intro a b c h1 h2; simp at h1 h2 ⊢; omega
    · intro a b; simp; omega
  exact h.imp (fun h => by simpa using h)
theorem srt_perm (zs : List Int) : (srt zs).Perm zs := List.mergeSort_perm zs _

theorem compact_len (zs : List Int) : (Lib.compact zs).length ≤ zs.length := by
  unfold Lib.compact Lib.compactUpTo
  rw [List.length_map]
  have := List.length_filter_le (Lib.keeps zs.toArray) (List.range zs.length)
  simpa using this
end Go.Proofs.Ytbbecboihmmllaa
