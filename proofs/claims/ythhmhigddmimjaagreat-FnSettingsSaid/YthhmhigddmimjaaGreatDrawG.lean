/-
  Draws: what stands when a law's draw has its network.
-/
import Derived.Test.YthhmhigddmimjaaGreatDrawC
import Derived.Deep.RegionWith
set_option linter.unusedSimpArgs false
set_option linter.unusedVariables false
namespace Go.Proofs.YthhmhigddmimjaaGreat
open Go.ChangeShapes Go.WideShapes Go.ChangeAt Go.RowKit

theorem flat_int (l : List Int) : l.flatMap (fun z : Int => [Value.int .i64 z]) = ints l := by
  induction l with
  | nil => rfl
  | cons x l ih => simp only [List.flatMap_cons, ih, ints, List.map_cons, List.cons_append, List.nil_append]
/-- A row of numbers that is the call's own takes the list's place. -/
theorem RowSt.take {w0 w4 wr w' : World} {S : Nat} {A A' : Option Addr} {u c u' c' : Nat} {zs : List Int} (q : RowSt (fun z : Int => [Value.int .i64 z]) 2 1 w0 w4 wr S A u c) (hS : S < w4.heap.size) (hg : Gr wr w') (ho : w'.ownsRow wr.heap.size 2 1 (.slice A' u' c') u' (ints zs)) : RowSt (fun z : Int => [Value.int .i64 z]) 2 1 w0 w4 w' S A' u' c' :=
  ⟨⟨zs, own_base (own_eq' ho (flat_int zs).symm) q.ch.size⟩, q.dr.grow hg, q.ch.trans (hg.chg _)⟩
section
variable {w w1 w4 wz : World} {S R M B : Nat} {A1 A2 A3 : Option Addr} {n1 c1 n2 c2 n3 c3 : Nat} {n : GNet} {l : List GTr}
end
theorem RowSt.put {w0 w4 wr : World} {S b u c : Nat} (q : RowSt (fun z : Int => [Value.int .i64 z]) 2 1 w0 w4 wr S (some ⟨b, 0, none⟩) u c) (hS : S < w4.heap.size) (h0 : w0.heap.size ≤ w4.heap.size) (j : Nat) (v : Int) : RowSt (fun z : Int => [Value.int .i64 z]) 2 1 w0 w4 (wr.setCell ⟨b, j, none⟩ (.int .i64 v)) S (some ⟨b, 0, none⟩) u c := by
  obtain ⟨ls, hl⟩ := q.row
  have hb := own_low hl (k := b) rfl
  have h2 := (hl.stored j (.int .i64 v)).1
  refine ⟨⟨ls.set j v, own_eq' h2 ?_⟩, q.dr.set (by omega) (by omega), q.ch.fresh (by omega)⟩
  rw [flat_int, flat_int]
  simp [ints, List.map_set]
theorem wf_small {q : Int} (h : -1000 ≤ q ∧ q ≤ 1000) : (Lit.int .i64 q).wf = true := by
  have e1 : IntKind.i64.min = -9223372036854775808 := by decide
  have e2 : IntKind.i64.max = 9223372036854775807 := by decide
  simp only [Lit.wf, Bool.and_eq_true, decide_eq_true_eq, e1, e2]
  omega
end Go.Proofs.YthhmhigddmimjaaGreat
