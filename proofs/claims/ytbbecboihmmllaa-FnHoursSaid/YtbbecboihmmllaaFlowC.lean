import Derived.Test.YtbbecboihmmllaaFlowB
import Derived.Test.YtbbecboihmmllaaFlowMs
import Derived.Deep.OwnRows
/-
  One sending of the program's routing.
-/
namespace Go.Proofs.Ytbbecboihmmllaa
open Go.ChangeShapes Go.WideShapes Go.ChangeAt Go.RowKit

def ngI (lf : List Int) (z : Int) : Bool := ng lf z.toNat
theorem idx_none {lf : List Int} {l : List Nat} (h : l.find? (ng lf) = none) : idxOf (ngI lf) (l.map fun (x : Nat) => (x : Int)) = -1 := by
  refine idxOf_none fun j hj y hy => ?_
  simp only [List.getElem?_map, Option.map_eq_some_iff] at hy
  obtain ⟨v, hv, rfl⟩ := hy
  rw [List.find?_eq_none] at h
  have := h v (List.mem_of_getElem? hv)
  simpa [ngI] using this
theorem idx_some {lf : List Int} {l : List Nat} {t : Nat} (h : l.find? (ng lf) = some t) : ∃ j : Nat, l[j]? = some t ∧ idxOf (ngI lf) (l.map fun (x : Nat) => (x : Int)) = j := by
  rw [List.find?_eq_some_iff_getElem] at h
  obtain ⟨hp, j, hj, hjt, hb⟩ := h
  have hj' : l[j]? = some t := by rw [List.getElem?_eq_getElem hj, hjt]
  refine ⟨j, hj', idxOf_hit (x := (t : Int)) (by simp [hj']) (by simpa [ngI] using hp) ?_⟩
  intro i hi y hy
  simp only [List.getElem?_map, Option.map_eq_some_iff] at hy
  obtain ⟨v, hv, rfl⟩ := hy
  have hil : i < l.length := (List.getElem?_eq_some_iff.1 hv).1
  have := hb i hi
  rw [List.getElem?_eq_getElem hil] at hv
  injection hv with hv
  rw [hv] at this
  simpa [ngI] using this

end Go.Proofs.Ytbbecboihmmllaa
/-
  The routing of the program.
-/
namespace Go.Proofs.Ytbbecboihmmllaa
open Go.ChangeShapes Go.WideShapes Go.ChangeAt Go.RowKit

theorem rt_next {es : List Ed} {N : Nat} (hE : EsOk es N) {p : List Int × List Int} (h : RtOk es N p) (hg : rtGo es N p) : RtOk es N (rtN es N p) ∧ posS (rtN es N p).2 < posS p.2 := by
  obtain ⟨fl, lf⟩ := p
  rw [rtGo, Option.isSome_iff_exists] at hg
  obtain ⟨i, hi⟩ := hg
  have h1 := List.find?_some hi
  have h2 := List.mem_of_find?_eq_some hi
  rw [List.mem_range] at h2
  simp only [rtAt, Bool.and_eq_true, decide_eq_true_eq, Option.isSome_iff_exists] at h1
  obtain ⟨h3, t, ht⟩ := h1
  rw [rtN_eq hi ht]
  exact rt_step hE h h2 h3 ht
theorem rt_stay {es : List Ed} {N : Nat} {p : List Int × List Int} (hg : ¬ rtGo es N p) : rtN es N p = p := by
  have : rtF es N p = none := by
    cases h : rtF es N p with
    | none => rfl
    | some i => exact absurd (by rw [rtGo, h]; rfl) hg
  rw [rtN, this]
def posW (w : World) (G n : Nat) : Nat := ((List.range n).map fun k => (w.cell? ⟨G, k, none⟩).elim 0 fun v => (intOf v).toNat).sum
theorem posW_eq {w : World} {base n c G : Nat} {e : TypeId} {lf : List Int} (h : w.ownsRow base e 1 (.slice (some ⟨G, 0, none⟩) n c) n (ints lf)) : posW w G n = posS lf := by
  have hl := own_ilen h
  unfold posW posS
  congr 1
  apply List.ext_getElem?
  intro k
  rw [List.getElem?_map, List.getElem?_map]
  by_cases hk : k < n
  · rw [List.getElem?_range hk, get_int (l := lf) (k := k) (by omega)]
    simp only [Option.map_some, Option.some.injEq]
    rw [(own_int h (get_int (l := lf) (k := k) (by omega))).1]
    rfl
  · rw [List.getElem?_eq_none (by simp; omega), List.getElem?_eq_none (by omega)]; rfl
theorem made_own (w : World) (n : Nat) (hn : n ≤ 1048576) : (w.alloc (.cells (madeCells #[.int .i64 0] n) 2)).ownsRow w.heap.size 2 1 (.slice (some ⟨w.heap.size, 0, none⟩) n n) n (ints (List.replicate n 0)) := by
  have h1 : (madeCells #[.int .i64 0] n).size = n * 1 := by rw [← Array.length_toList, toList_madeCells_one]; simp
  have h2 := World.ownsRow_lit w (e := 2) (size := 1) (madeCells #[.int .i64 0] n) n (Nat.le_refl _) (by unfold maxLen; omega) h1
  exact own_cells_eq h2 (by rw [toList_madeCells_one]; simp [ints])

end Go.Proofs.Ytbbecboihmmllaa
/-
  The routing of the reference.
-/
namespace Go.Proofs.Ytbbecboihmmllaa
open Go.ChangeShapes Go.WideShapes Go.ChangeAt Go.RowKit

def bN (v : Value) : Nat := match v with
  | .bool true => 1
  | _ => 0
theorem bN_true : bN (.bool true) = 1 := rfl
theorem bN_false : bN (.bool false) = 0 := rfl

end Go.Proofs.Ytbbecboihmmllaa
