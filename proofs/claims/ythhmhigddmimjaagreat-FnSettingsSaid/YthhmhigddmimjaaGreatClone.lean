/-
  slices.Clone at the program's own element types. Printed by gen_clone.py.
-/
import Derived.Test.YthhmhigddmimjaaGreatInts
import Derived.Test.YthhmhigddmimjaaGreatToE
import Derived.Lib.SliceRun
namespace Go.Proofs.YthhmhigddmimjaaGreat
open Go.ChangeShapes Go.WideShapes Go.ChangeAt Go.RowKit

theorem own_shape {w : World} {base : Nat} {e : TypeId} {size n : Nat} {v : Value} {xs : List Value} (h : w.ownsRow base e size v n xs) : ∃ A c, v = .slice A n c := by
  rcases h.2 with ⟨rfl, rfl⟩ | ⟨g, cap, cur, rfl, _⟩
  · exact ⟨none, 0, rfl⟩
  · exact ⟨_, cap, rfl⟩
theorem Sl.cells {w : World} {size n : Nat} {ad : Addr} {xs : List Value} (hA : Sl w size (some ad) n xs) : ∀ j u, xs[j]? = some u → w.cell? (ad.add j) = some u := by
  intro j u hu
  have hj := (List.getElem?_eq_some_iff.1 hu).1
  have hl := hA.1
  have hn0 : 0 < n := by
    rcases Nat.eq_zero_or_pos n with h | h
    · rw [h, Nat.zero_mul] at hl; omega
    · exact h
  obtain ⟨b, o, e, _, hr⟩ := hA.2 hn0
  injection e with e
  subst e
  rw [add_plain]
  exact hr j u hu
theorem ints_one (zs : List Int) : ∀ u ∈ ints zs, u.oneCell' = true := by
  intro u hu
  simp only [ints, List.mem_map] at hu
  obtain ⟨z, _, rfl⟩ := hu
  rfl
theorem flat_one {α : Type} {f : α → List Value} (hf : ∀ x, ∀ u ∈ f x, u.oneCell' = true) (l : List α) : ∀ u ∈ l.flatMap f, u.oneCell' = true := by
  intro u hu
  obtain ⟨x, _, hx⟩ := List.mem_flatMap.1 hu
  exact hf x u hx
theorem GTr.one (x : GTr) : ∀ u ∈ x.cells, u.oneCell' = true := by intro u hu; simp [GTr.cells] at hu; rcases hu with rfl | rfl | rfl | rfl <;> rfl
theorem GNode.one (x : GNode) : ∀ u ∈ x.cells, u.oneCell' = true := by intro u hu; simp [GNode.cells] at hu; rcases hu with rfl | rfl | rfl <;> rfl
theorem GPipe.one (x : GPipe) : ∀ u ∈ x.cells, u.oneCell' = true := by intro u hu; simp [GPipe.cells] at hu; rcases hu with rfl | rfl | rfl | rfl | rfl <;> rfl
theorem GRd.one (x : GRd) : ∀ u ∈ x.cells, u.oneCell' = true := by intro u hu; simp [GRd.cells] at hu; rcases hu with rfl | rfl <;> rfl
theorem GOrd.one (x : GOrd) : ∀ u ∈ x.cells, u.oneCell' = true := by intro u hu; simp [GOrd.cells] at hu; rcases hu with rfl | rfl | rfl | rfl <;> rfl
theorem cloneInt_any {A : Option Addr} {n c : Nat} (xs : List Value) (w : World) (hn : n ≤ 1048576) (hA : Sl w 1 A n xs) (h1 : ∀ u ∈ xs, u.oneCell' = true) :
    Calls Tryz.prog 99 #[.slice A n c] w fun e w' => ∃ A' c', e = .returned (.slice A' n c') ∧ w'.ownsRow w.heap.size 2 1 (.slice A' n c') n xs ∧ Gr w w' := by
  obtain ⟨i0, hi0, hz0, hz1, hz2⟩ := info_parts infoInt64
  have hnil := fun W => Lib.run_eql_slice_nil (P := Tryz.prog) W 26 2 A n c 0 0 Tryz.underlying26
  cases A with
  | none =>
    have h0 : n = 0 := by
      rcases Nat.eq_zero_or_pos n with h | h
      · exact h
      · obtain ⟨_, _, e, _⟩ := hA.2 h; cases e
    subst h0
    have hx : xs = [] := List.eq_nil_of_length_eq_zero (by simpa using hA.1)
    subst hx
    clear hA h1
    go_enter Tryz.func99, Tryz.ntmps99
    go_wp2_with fail
    go_ret
    exact ⟨none, 0, rfl, World.ownsRow_nil _ _ _ _, Gr.refl _⟩
  | some ad =>
    have hcells := hA.cells
    have Hcells := Lib.hid hcells
    have H1 := Lib.hid h1
    have Hl := Lib.hid hA.1
    clear hcells h1 hA
    go_enter Tryz.func99, Tryz.ntmps99
    go_wp2_with (at_builtin; refine wpList_append_own _ rfl _ _ _ rfl w.heap.size 2 i0 _ 1 8 Tryz.underlying26 hi0 hz0 hz1 hz2 rfl (by omega) _ 0 [] rfl (World.ownsRow_lit w #[] 0 (Nat.le_refl _) (by unfold maxLen; omega) rfl) ad n c xs rfl Hl.out (fun j u hu => ((Gr.refl w).alloc _).has (Hcells.out j u hu)) H1.out (by unfold maxLen; omega) (by omega) (by simp) ?_; intro v' w1 hown hg _)
    have hsh := own_shape hown
    obtain ⟨A', c', rfl⟩ := hsh
    have Hown := Lib.hid hown
    clear hown
    go_wp2_with fail
    go_ret
    refine ⟨A', c', by simp, by simpa using Hown.out, ((Gr.refl w).alloc _).grown hg (fun k hk => by injection hk with hk; exact Nat.le_of_eq hk)⟩
theorem cloneNode_any {A : Option Addr} {n c : Nat} (xs : List Value) (w : World) (hn : n ≤ 1048576) (hA : Sl w 3 A n xs) (h1 : ∀ u ∈ xs, u.oneCell' = true) :
    Calls Tryz.prog 97 #[.slice A n c] w fun e w' => ∃ A' c', e = .returned (.slice A' n c') ∧ w'.ownsRow w.heap.size 62 3 (.slice A' n c') n xs ∧ Gr w w' := by
  obtain ⟨i0, hi0, hz0, hz1, hz2⟩ := info_parts infoNode
  have hnil := fun W => Lib.run_eql_slice_nil (P := Tryz.prog) W 29 62 A n c 0 0 Tryz.underlying29
  cases A with
  | none =>
    have h0 : n = 0 := by
      rcases Nat.eq_zero_or_pos n with h | h
      · exact h
      · obtain ⟨_, _, e, _⟩ := hA.2 h; cases e
    subst h0
    have hx : xs = [] := List.eq_nil_of_length_eq_zero (by simpa using hA.1)
    subst hx
    clear hA h1
    go_enter Tryz.func97, Tryz.ntmps97
    go_wp2_with fail
    go_ret
    exact ⟨none, 0, rfl, World.ownsRow_nil _ _ _ _, Gr.refl _⟩
  | some ad =>
    have hcells := hA.cells
    have Hcells := Lib.hid hcells
    have H1 := Lib.hid h1
    have Hl := Lib.hid hA.1
    clear hcells h1 hA
    go_enter Tryz.func97, Tryz.ntmps97
    go_wp2_with (at_builtin; refine wpList_append_own _ rfl _ _ _ rfl w.heap.size 62 i0 _ 3 32 Tryz.underlying29 hi0 hz0 hz1 hz2 rfl (by omega) _ 0 [] rfl (World.ownsRow_lit w #[] 0 (Nat.le_refl _) (by unfold maxLen; omega) rfl) ad n c xs rfl Hl.out (fun j u hu => ((Gr.refl w).alloc _).has (Hcells.out j u hu)) H1.out (by unfold maxLen; omega) (by omega) (by simp) ?_; intro v' w1 hown hg _)
    have hsh := own_shape hown
    obtain ⟨A', c', rfl⟩ := hsh
    have Hown := Lib.hid hown
    clear hown
    go_wp2_with fail
    go_ret
    refine ⟨A', c', by simp, by simpa using Hown.out, ((Gr.refl w).alloc _).grown hg (fun k hk => by injection hk with hk; exact Nat.le_of_eq hk)⟩
end Go.Proofs.YthhmhigddmimjaaGreat
