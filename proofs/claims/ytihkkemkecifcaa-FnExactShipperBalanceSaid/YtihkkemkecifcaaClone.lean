/-
  slices.Clone at the program's own element types. Printed by gen_clone.py.
-/
import Derived.Test.YtihkkemkecifcaaInts
import Derived.Test.YtihkkemkecifcaaTo
import Derived.Lib.SliceRun
namespace Go.Proofs.Ytihkkemkecifcaa
open Go.ChangeShapes Go.WideShapes Go.ChangeAt Go.RowKit

theorem own_shape {w : World} {base : Nat} {e : TypeId} {size n : Nat} {v : Value} {xs : List Value} (h : w.ownsRow base e size v n xs) : ∃ A c, v = .slice A n c := by
  rcases h.2 with ⟨rfl, rfl⟩ | ⟨g, cap, cur, rfl, _⟩
  · exact ⟨none, 0, rfl⟩
  · exact ⟨_, cap, rfl⟩
theorem Sl.cells {w : World} {size n : Nat} {ad : Addr} {xs : List Value} (hA : Sl w size (some ad) n xs) : ∀ j u, xs[j]? = some u → w.cell? (ad.add j) = some u := by
  intro j u hu
  have hj := (List.getElem?_eq_some_iff.1 hu).1
  have hl := hA.1
  have hn0 : 0 < n := by
    rcases Nat.eq_zero_or_pos n with h | h
    · rw [h, Nat.zero_mul] at hl; omega
    · exact h
  obtain ⟨b, o, e, _, hr⟩ := hA.2 hn0
  injection e with e
  subst e
  rw [add_plain]
  exact hr j u hu
theorem ints_one (zs : List Int) : ∀ u ∈ ints zs, u.oneCell' = true := by
  intro u hu
  simp only [ints, List.mem_map] at hu
  obtain ⟨z, _, rfl⟩ := hu
  rfl
theorem flat_one {α : Type} {f : α → List Value} (hf : ∀ x, ∀ u ∈ f x, u.oneCell' = true) (l : List α) : ∀ u ∈ l.flatMap f, u.oneCell' = true := by
  intro u hu
  obtain ⟨x, _, hx⟩ := List.mem_flatMap.1 hu
  exact hf x u hx
theorem GTr.one (x : GTr) : ∀ u ∈ x.cells, u.oneCell' = true := by intro u hu; simp [GTr.cells] at hu; rcases hu with rfl | rfl | rfl | rfl <;> rfl
theorem GNode.one (x : GNode) : ∀ u ∈ x.cells, u.oneCell' = true := by intro u hu; simp [GNode.cells] at hu; rcases hu with rfl | rfl | rfl <;> rfl
theorem GPipe.one (x : GPipe) : ∀ u ∈ x.cells, u.oneCell' = true := by intro u hu; simp [GPipe.cells] at hu; rcases hu with rfl | rfl | rfl | rfl | rfl <;> rfl
theorem GRd.one (x : GRd) : ∀ u ∈ x.cells, u.oneCell' = true := by intro u hu; simp [GRd.cells] at hu; rcases hu with rfl | rfl <;> rfl
theorem GOrd.one (x : GOrd) : ∀ u ∈ x.cells, u.oneCell' = true := by intro u hu; simp [GOrd.cells] at hu; rcases hu with rfl | rfl | rfl | rfl <;> rfl
end Go.Proofs.Ytihkkemkecifcaa
