/-
  slices.Sort and slices.Compact at the numbers of the program: what they leave of a row that the call itself made.
-/
import Derived.Test.YthhmhigddmimjaaGreatShl
import Derived.Test.YthhmhigddmimjaaGreatCore
import Derived.Test.YthhmhigddmimjaaGreatInts
import Derived.Shelf.SortG.Plain
import Derived.Shelf.SlicesG.CompactI
import Derived.Lib.OwnBridge
import Derived.Lib.SlicesCompact
namespace Go.Proofs.YthhmhigddmimjaaGreat
open Go.ChangeShapes Go.WideShapes Go.ChangeAt Go.RowKit Go.Sort

theorem chg_putRow {enc : Int → Value} {w : World} {g q : Nat} {d : Array Int} (os : Array Obj) : Chg (fun k => k = g) w (grow (putRow enc (Sort.ahead w q) g 0 d) os) := by
  have h1 : (putRow enc (Sort.ahead w q) g 0 d).heap.size = w.heap.size := by simp [putRow, mapBlock, Sort.ahead]
  refine ⟨rfl, rfl, rfl, ?_, fun k hk hn => ?_⟩
  · show _ ≤ (_ ++ _ : Array Obj).size
    rw [Array.size_append, h1]
    omega
  · rw [heap_grow_old _ os (by omega)]
    simp [putRow, mapBlock, Sort.ahead, Array.getElem?_modify, show g ≠ k by omega]
theorem own_grow {w : World} {base : Nat} {e : TypeId} {size n : Nat} {v : Value} {xs : List Value} (h : w.ownsRow base e size v n xs) (os : Array Obj) : (grow w os).ownsRow base e size v n xs := by
  refine ⟨h.1, ?_⟩
  rcases h.2 with h2 | ⟨k, cap, cur, rfl, hb, hk, r⟩
  · exact .inl h2
  · have hlt : k < w.heap.size := by
      rcases Nat.lt_or_ge k w.heap.size with h' | h'
      · exact h'
      · rw [Array.getElem?_eq_none h'] at hk; cases hk
    exact .inr ⟨k, cap, cur, rfl, hb, by rw [heap_grow_old _ os hlt]; exact hk, r⟩
/-- A row of numbers, sorted. -/
def srt (zs : List Int) : List Int := zs.mergeSort fun x y => decide (x ≤ y)
theorem srt_len (zs : List Int) : (srt zs).length = zs.length := by simp [srt]
theorem srt_mem {zs : List Int} {x : Int} : x ∈ srt zs ↔ x ∈ zs := by simp [srt]
theorem srt_pw (zs : List Int) : (srt zs).Pairwise (· ≤ ·) := by
  have h : ((zs.mergeSort fun x y => decide (x ≤ y))).Pairwise (fun a b => decide (a ≤ b) = true) := by
    refine List.pairwise_mergeSort ?_ ?_ zs
    · intro a b c h1 h2; simp at h1 h2 ⊢; omega
    · intro a b; simp; omega
  exact h.imp (fun h => by simpa using h)
theorem srt_perm (zs : List Int) : (srt zs).Perm zs := List.mergeSort_perm zs _

theorem sortInt_any {A : Option Addr} {m c base : Nat} (zs : List Int) (w : World) (h : w.ownsRow base 2 1 (.slice A m c) m (ints zs)) (h0 : 0 < m) (hm : m ≤ 1048576) :
    Calls Tryz.prog 169 #[.slice A m c] w fun e w' => e = .returned (.tuple #[]) ∧ w'.ownsRow base 2 1 (.slice A m c) m (ints (srt zs)) ∧ Chg (fun k => A = some ⟨k, 0, none⟩) w w' := by
  obtain ⟨g, cap, hv, hb, hg, hn, hcm, hl, hH⟩ := Lib.holds_of_ownsRow (enc := Value.int .i64) (zs := zs) h (by intro e; injection e with e1 e2 e3; omega)
  injection hv with e1 _ e3
  subst e1; subst e3
  have hs := AnyG.slices_Sort_int sort64 g 0 c zs w hH hg (by omega)
  rw [hl] at hs
  refine hs.mono ?_
  rintro e w' ⟨rfl, q, os, rfl⟩
  refine ⟨rfl, own_grow ?_ os, ?_⟩
  · have := Lib.ownsRow_putRow (enc := Value.int .i64) (q := q) (k := m) (ys := srt zs) (zs := zs) h (by rw [srt_len]; exact hl) (Nat.le_refl _)
    rw [List.take_of_length_le (by rw [srt_len]; omega)] at this
    exact this
  · have := chg_putRow (enc := Value.int .i64) (w := w) (g := g) (q := q) (d := (srt zs).toArray) os
    exact ⟨this.os, this.tape, this.output, this.size, fun k hk hn => this.block k hk (fun e => hn (by rw [e]))⟩
end Go.Proofs.YthhmhigddmimjaaGreat
