/-
  Weights of orders at a reading, and sums.
-/
import Derived.Test.YtbbecboihmmllaaOrd
import Derived.Test.YtbbecboihmmllaaScales
import Derived.BigQuiet
namespace Go.Proofs.Ytbbecboihmmllaa
open Go.ChangeShapes Go.WideShapes Go.ChangeAt Go.RowKit

def sgn (a : Int) : Int := if a < 0 then -1 else 1
def wt (node sg : Int) (x : GOrd) : Int := if x.node = node then max 0 (sg * x.amount) else 0
def wts (os : List GOrd) (node sg : Int) : List Int := os.map (wt node sg)
theorem wt_bnd {nn node sg : Int} {x : GOrd} (h : ordOk nn x = true) (hs : sg = 1 ∨ sg = -1) : 0 ≤ wt node sg x ∧ wt node sg x ≤ 30000 := by
  have := (ordOk_all h).2.2.1
  unfold wt
  split
  · rcases hs with rfl | rfl <;> omega
  · omega
theorem wts_bnd {nn node sg : Int} {os : List GOrd} (h : ordsOk nn os = true) (hs : sg = 1 ∨ sg = -1) : ∀ z ∈ wts os node sg, 0 ≤ z ∧ z ≤ 30000 := by
  intro z hz
  obtain ⟨x, hx, rfl⟩ := List.mem_map.1 hz
  obtain ⟨k, hk⟩ := List.mem_iff_getElem?.1 hx
  exact wt_bnd ((ordsOk_all h).2 k x hk) hs
theorem own_cells_eq {w : World} {base : Nat} {e : TypeId} {size n : Nat} {v : Value} {xs ys : List Value} (h : w.ownsRow base e size v n xs) (he : xs = ys) : w.ownsRow base e size v n ys := he ▸ h
theorem sum_take_step {l : List Int} {k : Nat} {x : Int} (hx : l[k]? = some x) : (l.take (k + 1)).sum = (l.take k).sum + x := by
  rw [List.take_add_one, hx]; simp
theorem sum_take_bnd {M : Int} (_hM : 0 ≤ M) {l : List Int} (h : ∀ z ∈ l, -M ≤ z ∧ z ≤ M) (k : Nat) : -(M * (k : Int)) ≤ (l.take k).sum ∧ (l.take k).sum ≤ M * (k : Int) := by
  induction k with
  | zero => simp
  | succ k ih =>
    cases hx : l[k]? with
    | none =>
      have hl : l.length ≤ k := List.getElem?_eq_none_iff.1 hx
      rw [List.take_of_length_le (by omega)]
      rw [List.take_of_length_le hl] at ih
      have e : M * ((k + 1 : Nat) : Int) = M * (k : Int) + M := by push_cast; rw [Int.mul_add, Int.mul_one]
      omega
    | some x =>
      rw [sum_take_step hx]
      have := h x (List.mem_of_getElem? hx)
      have e : M * ((k + 1 : Nat) : Int) = M * (k : Int) + M := by push_cast; rw [Int.mul_add, Int.mul_one]
      omega
end Go.Proofs.Ytbbecboihmmllaa
