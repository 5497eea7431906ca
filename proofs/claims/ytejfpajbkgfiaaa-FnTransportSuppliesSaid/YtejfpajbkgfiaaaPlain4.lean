/-
  Plain laws: sizes of results, for the laws' sums.
-/
import Derived.Test.YtejfpajbkgfiaaaPlain2
namespace Go.Proofs.Ytejfpajbkgfiaaa

theorem bndMem4 {B : Int} {l : List Int} (h : Bnd B l) (hB : B ≤ 1000000000000) : ∀ z ∈ l, -1000000000000 ≤ z ∧ z ≤ 1000000000000 := by
  intro z hz
  obtain ⟨i, hi⟩ := List.getElem?_of_mem hz
  have := h i z hi
  omega
theorem sup_small {n : GNet} {l : List GTr} (h : supCode n l = 0) : ∀ z ∈ supRes n l, -1000000000000 ≤ z ∧ z ≤ 1000000000000 := by
  have h1 := supCode_zero h
  rw [supRes, if_pos h]
  have := (sup_at (trCode_zero h1).2 n.nodes.length l.length).2
  rw [List.take_length] at this
  exact bndMem4 this (by omega)
end Go.Proofs.Ytejfpajbkgfiaaa
