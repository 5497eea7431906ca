import Derived.Test.YthhmhigddmimjaaGreatDrawC
import Derived.Deep.Cut
import Derived.Deep.CutRange
import Derived.Deep.CutBlock
import Derived.Test.YthhmhigddmimjaaGreatNomA
import Derived.Deep.RegionHeld3
/-
  Draws: an hour, one contract. Printed by gen_draw21.py.
-/
set_option linter.unusedSimpArgs false
set_option linter.unusedVariables false
namespace Go.Proofs.YthhmhigddmimjaaGreat
open Go.ChangeShapes Go.WideShapes Go.ChangeAt Go.RowKit

/-- One block X is being filled beside the source; the result's block at R is still empty. -/
structure FillSt (t : TypeId) (w0 w wx : World) (S R X : Nat) (rs cs : Array Value) : Prop where
  dr : Drw w0 wx S
  ch : Chg (fun k => k = S) w wx
  res : wx.heap[R]? = some (.cells rs t (0, 0))
  blk : wx.heap[X]? = some (.cells cs t (0, 0))
section
variable {t : TypeId} {w0 w wx w' : World} {S R X : Nat} {rs cs cs' : Array Value}
theorem FillSt.next (q : FillSt t w0 w wx S R X rs cs) (hR : R ≠ S) (hX : X ≠ S) (hd : Drw w0 w' S) (hc : Chg (fun k => k = S) wx w') : FillSt t w0 w w' S R X rs cs :=
  ⟨hd, q.ch.trans hc, rb_chg q.res hc hR, rb_chg q.blk hc hX⟩
theorem FillSt.gr (q : FillSt t w0 w wx S R X rs cs) (hg : Gr wx w') : FillSt t w0 w w' S R X rs cs :=
  ⟨q.dr.grow hg, q.ch.trans (hg.chg _), (hg.below.block R (rb_lt q.res)).trans q.res, (hg.below.block X (rb_lt q.blk)).trans q.blk⟩
theorem FillSt.put (q : FillSt t w0 w wx S R X rs cs) (hX : X ≠ S) (hXR : X ≠ R) (hw : w.heap.size ≤ X) (hw0 : w0.heap.size ≤ X) (j : Nat) (v : Value) (hcs : cs' = cs.setIfInBounds j v) : FillSt t w0 w (wx.setCell ⟨X, j, none⟩ v) S R X rs cs' := by
  subst hcs
  refine ⟨q.dr.set hw0 hX, q.ch.fresh hw, rb_chg (P := fun k => k = X) q.res (chg_put _ _) (fun e => hXR e.symm), ?_⟩
  simp [World.setCell, Array.getElem?_modify, q.blk]
end
theorem Upto.top {n x m : Int} (h : Upto n x) (hn : n ≤ m) (h0 : 0 ≤ m) : 0 ≤ x ∧ x ≤ m := by
  refine ⟨h.1, ?_⟩
  by_cases h1 : 1 < n
  · have := h.2.1 h1; omega
  · have := h.2.2 (by omega); omega
def DrB (y : GCon) : Prop := (0 ≤ y.src ∧ y.src ≤ 6) ∧ (-1 ≤ y.dst ∧ y.dst ≤ 48) ∧ (0 ≤ y.amount ∧ y.amount ≤ 30001)
end Go.Proofs.YthhmhigddmimjaaGreat
/-
  Draws: a book. Printed by gen_draw22.py.
-/
set_option linter.unusedSimpArgs false
set_option linter.unusedVariables false
namespace Go.Proofs.YthhmhigddmimjaaGreat
open Go.ChangeShapes Go.WideShapes Go.ChangeAt Go.RowKit

end Go.Proofs.YthhmhigddmimjaaGreat
/-
  Draws: one nomination. Printed by gen_draw23.py.
-/
set_option linter.unusedSimpArgs false
set_option linter.unusedVariables false
namespace Go.Proofs.YthhmhigddmimjaaGreat
open Go.ChangeShapes Go.WideShapes Go.ChangeAt Go.RowKit

section
variable {w0 w wx w' : World} {S R C X : Nat} {ccs rs cs cs' : Array Value}
end
end Go.Proofs.YthhmhigddmimjaaGreat
/-
  Draws: nominations. Printed by gen_draw25.py.
-/
set_option linter.unusedSimpArgs false
set_option linter.unusedVariables false
namespace Go.Proofs.YthhmhigddmimjaaGreat
open Go.ChangeShapes Go.WideShapes Go.ChangeAt Go.RowKit

theorem list_end3 {α : Type} {f : α → List Value} {e e2 : TypeId} {sz sz2 : Nat} {w0 w w4 wz : World} {S R M : Nat} {A1 A2 A B : Option Addr} {n1 c1 n2 c2 u c m d : Nat} {xs : List Value} (hN : NetM w0 w w4 S R M A1 n1 c1 A2 n2 c2) (hl : w4.ownsRow (R + 1) e2 sz2 (.slice B m d) m xs) (q : RowSt f e sz w0 w4 wz S A u c) (hRw : w.heap.size ≤ R) (hRw0 : w0.heap.size ≤ R) (hSR : S < R) (hMR : R < M) :
    (wz.heap[M]? = some (.cells #[.slice A1 n1 c1, .slice A2 n2 c2] 32 (0, 0)) ∧ wz.heap[R]? = some (.cells #[.slice none 0 0, .slice none 0 0] 32 (0, 0))) ∧
    ((wz.setCell ⟨R, 0, none⟩ (.slice A1 n1 c1)).setCell ⟨R, 1, none⟩ (.slice A2 n2 c2)).heap[R]? = some (.cells #[.slice A1 n1 c1, .slice A2 n2 c2] 32 (0, 0)) ∧
    (∃ n, OwnNet ((wz.setCell ⟨R, 0, none⟩ (.slice A1 n1 c1)).setCell ⟨R, 1, none⟩ (.slice A2 n2 c2)) w.heap.size A1 n1 c1 A2 n2 c2 n) ∧
    (∃ ls : List α, ((wz.setCell ⟨R, 0, none⟩ (.slice A1 n1 c1)).setCell ⟨R, 1, none⟩ (.slice A2 n2 c2)).ownsRow w.heap.size e sz (.slice A u c) u (ls.flatMap f)) ∧
    ((wz.setCell ⟨R, 0, none⟩ (.slice A1 n1 c1)).setCell ⟨R, 1, none⟩ (.slice A2 n2 c2)).ownsRow w.heap.size e2 sz2 (.slice B m d) m xs ∧
    Drw w0 ((wz.setCell ⟨R, 0, none⟩ (.slice A1 n1 c1)).setCell ⟨R, 1, none⟩ (.slice A2 n2 c2)) S ∧ Chg (fun j => j = S) w ((wz.setCell ⟨R, 0, none⟩ (.slice A1 n1 c1)).setCell ⟨R, 1, none⟩ (.slice A2 n2 c2)) := by
  obtain ⟨a1, a2, a3, a4, a5, a6⟩ := list_end hN q hRw hRw0 hSR hMR
  have hcc : Chg (fun j => j = R) wz ((wz.setCell ⟨R, 0, none⟩ (.slice A1 n1 c1)).setCell ⟨R, 1, none⟩ (.slice A2 n2 c2)) := (chg_put _ _).trans (chg_put _ _)
  have h1 := own_chg hl q.ch (fun j hj e => by have := own_low hl hj; omega)
  exact ⟨a1, a2, a3, a4, own_base (own_chg h1 hcc (fun j hj e => by have := own_low hl hj; omega)) (by omega), a5, a6⟩
end Go.Proofs.YthhmhigddmimjaaGreat
/-
  Draws: nominations, a contract, an hour. Printed by gen_draw26.py.
-/
set_option linter.unusedSimpArgs false
set_option linter.unusedVariables false
namespace Go.Proofs.YthhmhigddmimjaaGreat
open Go.ChangeShapes Go.WideShapes Go.ChangeAt Go.RowKit

theorem results_row_tmp3 {P : Program} {fn : Func} {p u v x : Tmp} {ty : TypeId} (h : fn.results = #[.cell p ty, .tmp u, .tmp v, .tmp x]) (tmps : Array Value) (w : World) (g : Nat) (t : TypeId) (cs : Array Value) (fr : Nat × Nat) (d : TypeDesc)
    (hp : tmps.getD p undef = .pointer (some ⟨g, 0, none⟩)) (hg : w.heap[g]? = some (.cells cs t fr))
    (hu : P.underlying ty = some d) (hd : (match d with | .struct _ | .array _ _ => true | _ => false) = true) (hi : (P.info? ty).map (·.size) = some cs.size) :
    (results fn tmps).run P w = .ok (.tuple #[.agg cs, tmps.getD u undef, tmps.getD v undef, tmps.getD x undef]) w := by
  have hp' : tmps[p]?.getD undef = .pointer (some ⟨g, 0, none⟩) := by simpa using hp
  simp [results, h, hp', asAddr, run_loadVar_row w g t ty cs fr d hg hu hd hi]
end Go.Proofs.YthhmhigddmimjaaGreat
