/-
  Draws: what stands when a law's draw has its network.
-/
import Derived.Test.YtbckjlejkedonaaDrawC
import Derived.Deep.RegionWith
set_option linter.unusedSimpArgs false
set_option linter.unusedVariables false
namespace Go.Proofs.Ytbckjlejkedonaa
open Go.ChangeShapes Go.WideShapes Go.ChangeAt Go.RowKit

theorem flat_int (l : List Int) : l.flatMap (fun z : Int => [Value.int .i64 z]) = ints l := by
  induction l with
  | nil => rfl
  | cons x l ih => simp only [List.flatMap_cons, ih, ints, List.map_cons, List.cons_append, List.nil_append]
/-- A row of numbers that is the call's own takes the list's place. -/
theorem RowSt.take {w0 w4 wr w' : World} {S : Nat} {A A' : Option Addr} {u c u' c' : Nat} {zs : List Int} (q : RowSt (fun z : Int => [Value.int .i64 z]) 2 1 w0 w4 wr S A u c) (hS : S < w4.heap.size) (hg : Gr wr w') (ho : w'.ownsRow wr.heap.size 2 1 (.slice A' u' c') u' (ints zs)) : RowSt (fun z : Int => [Value.int .i64 z]) 2 1 w0 w4 w' S A' u' c' :=
  ⟨⟨zs, own_base (own_eq' ho (flat_int zs).symm) q.ch.size⟩, q.dr.grow hg, q.ch.trans (hg.chg _)⟩
/-- What stands when a law's draw has its network: the result's block at R, the network's at M, all rows behind B. -/
structure Got (w w1 w4 : World) (S R M B : Nat) (A1 : Option Addr) (n1 c1 : Nat) (A2 : Option Addr) (n2 c2 : Nat) (n : GNet) (A3 : Option Addr) (n3 c3 : Nat) (l : List GTr) : Prop where
  g1 : Gr w w1
  rw : w.heap.size ≤ R
  r1 : w1.heap.size = R + 1
  s1 : w1.heap.size ≤ S
  sb : S < B
  bm : B ≤ M
  ml : M < w4.heap.size
  m : w4.heap[M]? = some (.cells #[.slice A1 n1 c1, .slice A2 n2 c2] 33 (0, 0))
  r : w4.heap[R]? = some (.cells #[.slice none 0 0, .slice none 0 0] 33 (0, 0))
  net : OwnNet w4 B A1 n1 c1 A2 n2 c2 n
  n3s : n3 ≤ 40
  list : w4.ownsRow B 161 4 (.slice A3 n3 c3) n3 (l.flatMap GTr.cells)
  dr : Drw w1 w4 S
section
variable {w w1 w4 wz : World} {S R M B : Nat} {A1 A2 A3 : Option Addr} {n1 c1 n2 c2 n3 c3 : Nat} {n : GNet} {l : List GTr}
theorem Got.next (g : Got w w1 w4 S R M B A1 n1 c1 A2 n2 c2 n A3 n3 c3 l) (hd : Drw w1 wz S) (hc : Chg (fun j => j = S) w4 wz) : Got w w1 wz S R M B A1 n1 c1 A2 n2 c2 n A3 n3 c3 l := by
  have h1 := g.sb
  have h2 := g.s1
  have h3 := g.r1
  have h4 := g.bm
  have h5 := g.ml
  have h6 := hc.size
  exact ⟨g.g1, g.rw, g.r1, g.s1, g.sb, g.bm, by omega, rb_chg g.m hc (by omega), rb_chg g.r hc (by omega), ⟨own_chg g.net.nodes hc (fun j hj e => by have := own_low g.net.nodes hj; omega), own_chg g.net.pipes hc (fun j hj e => by have := own_low g.net.pipes hj; omega), g.net.names, g.net.m1, g.net.m2⟩, g.n3s, own_chg g.list hc (fun j hj e => by have := own_low g.list hj; omega), hd⟩
theorem Got.gr (g : Got w w1 w4 S R M B A1 n1 c1 A2 n2 c2 n A3 n3 c3 l) (hg : Gr w4 wz) : Got w w1 wz S R M B A1 n1 c1 A2 n2 c2 n A3 n3 c3 l := g.next (g.dr.grow hg) (hg.chg _)
/-- The network's block is read into the result's. -/
theorem Got.fin (g : Got w w1 w4 S R M B A1 n1 c1 A2 n2 c2 n A3 n3 c3 l) :
    ((w4.setCell ⟨R, 0, none⟩ (.slice A1 n1 c1)).setCell ⟨R, 1, none⟩ (.slice A2 n2 c2)).heap[R]? = some (.cells #[.slice A1 n1 c1, .slice A2 n2 c2] 33 (0, 0)) ∧
    NetAt ((w4.setCell ⟨R, 0, none⟩ (.slice A1 n1 c1)).setCell ⟨R, 1, none⟩ (.slice A2 n2 c2)) A1 n1 c1 A2 n2 c2 n ∧
    SlAt ((w4.setCell ⟨R, 0, none⟩ (.slice A1 n1 c1)).setCell ⟨R, 1, none⟩ (.slice A2 n2 c2)) 4 A3 n3 c3 (l.flatMap GTr.cells) ∧
    Gr w ((w4.setCell ⟨R, 0, none⟩ (.slice A1 n1 c1)).setCell ⟨R, 1, none⟩ (.slice A2 n2 c2)) ∧ Chg (fun j => j = R) w4 ((w4.setCell ⟨R, 0, none⟩ (.slice A1 n1 c1)).setCell ⟨R, 1, none⟩ (.slice A2 n2 c2)) := by
  have h1 := g.sb
  have h2 := g.s1
  have h3 := g.r1
  have h4 := g.bm
  have h5 := g.ml
  have h6 := g.n3s
  have hcc : Chg (fun j => j = R) w4 ((w4.setCell ⟨R, 0, none⟩ (.slice A1 n1 c1)).setCell ⟨R, 1, none⟩ (.slice A2 n2 c2)) := (chg_put _ _).trans (chg_put _ _)
  have hO : OwnNet ((w4.setCell ⟨R, 0, none⟩ (.slice A1 n1 c1)).setCell ⟨R, 1, none⟩ (.slice A2 n2 c2)) B A1 n1 c1 A2 n2 c2 n := ⟨own_chg g.net.nodes hcc (fun j hj e => by have := own_low g.net.nodes hj; omega), own_chg g.net.pipes hcc (fun j hj e => by have := own_low g.net.pipes hj; omega), g.net.names, g.net.m1, g.net.m2⟩
  exact ⟨by simp [World.setCell, Array.getElem?_modify, g.r], hO.at_, SlAt.of_own (own_chg g.list hcc (fun j hj e => by have := own_low g.list hj; omega)) (by omega), ((g.g1.trans g.dr.gr).setCell g.rw _).setCell g.rw _, hcc⟩
end
theorem RowSt.put {w0 w4 wr : World} {S b u c : Nat} (q : RowSt (fun z : Int => [Value.int .i64 z]) 2 1 w0 w4 wr S (some ⟨b, 0, none⟩) u c) (hS : S < w4.heap.size) (h0 : w0.heap.size ≤ w4.heap.size) (j : Nat) (v : Int) : RowSt (fun z : Int => [Value.int .i64 z]) 2 1 w0 w4 (wr.setCell ⟨b, j, none⟩ (.int .i64 v)) S (some ⟨b, 0, none⟩) u c := by
  obtain ⟨ls, hl⟩ := q.row
  have hb := own_low hl (k := b) rfl
  have h2 := (hl.stored j (.int .i64 v)).1
  refine ⟨⟨ls.set j v, own_eq' h2 ?_⟩, q.dr.set (by omega) (by omega), q.ch.fresh (by omega)⟩
  rw [flat_int, flat_int]
  simp [ints, List.map_set]
theorem wf_small {q : Int} (h : -1000 ≤ q ∧ q ≤ 1000) : (Lit.int .i64 q).wf = true := by
  have e1 : IntKind.i64.min = -9223372036854775808 := by decide
  have e2 : IntKind.i64.max = 9223372036854775807 := by decide
  simp only [Lit.wf, Bool.and_eq_true, decide_eq_true_eq, e1, e2]
  omega
theorem div_small {y : Int} (h0 : 0 ≤ y) (h1 : y < 12) : ∃ p, y.tdiv 11 = p ∧ 0 ≤ p ∧ p ≤ 1 := by
  refine ⟨_, rfl, ?_⟩
  rw [Int.tdiv_eq_ediv_of_nonneg h0]
  omega
theorem wf_mid {q : Int} (h : -1000000000 ≤ q ∧ q ≤ 1000000000) : (Lit.int .i64 q).wf = true := by
  have e1 : IntKind.i64.min = -9223372036854775808 := by decide
  have e2 : IntKind.i64.max = 9223372036854775807 := by decide
  simp only [Lit.wf, Bool.and_eq_true, decide_eq_true_eq, e1, e2]
  omega
end Go.Proofs.Ytbckjlejkedonaa
