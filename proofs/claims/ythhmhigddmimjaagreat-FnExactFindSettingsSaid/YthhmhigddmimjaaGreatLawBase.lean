/-
  What the law texts share: a network argument opened; a slice with its bounds; cells over marks.
-/
import Derived.Test.YthhmhigddmimjaaGreatCore
import Derived.Test.YthhmhigddmimjaaGreatOpen
namespace Go.Proofs.YthhmhigddmimjaaGreat
open Go.ChangeShapes Go.WideShapes Go.ChangeAt Go.RowKit Go.Deep Go.Joins

set_option maxRecDepth 100000 in
theorem open_Network {H : Type} {enc : TypeId × Value → H} {w : World} {base : Nat} {spare : Nat → Bool} {held : Bool} {r : Reach} {b0 : Nat} {v : Value} {d : DataW H} {p : List MemPlace} (hv : Value.okWide Tryz.prog w r b0 25 v) (h : DataW.Trod enc Tryz.prog w base spare held 25 v d p) :
    ∃ (A1 : Option Addr) (n1 c1 : Nat) (A2 : Option Addr) (n2 c2 : Nat) (n : GNet), v = .agg #[.slice A1 n1 c1, .slice A2 n2 c2] ∧ n1 ≤ maxLen ∧ n2 ≤ maxLen ∧ NetRaw w A1 n1 A2 n2 n := by
  obtain ⟨v0, v1, y0, y1, m, rfl, _, _, h0, h1⟩ := open_agg2 Tryz.underlying25 (by kernel_rfl) (by kernel_rfl) hv h
  obtain ⟨A1, n1, c1, l1, rfl, a1, a2, hq, hs1⟩ := open_Node h0
  obtain ⟨A2, n2, c2, l2, rfl, b1, b2, _, hs2⟩ := open_Pipe h1
  exact ⟨A1, n1, c1, A2, n2, c2, ⟨l1, l2⟩, rfl, Nat.le_trans a1 a2, Nat.le_trans b1 b2, hs1, hs2, hq⟩
theorem chg_cell {S : Nat → Prop} {w w' : World} {p : Addr} {v : Value} (h : Chg S w w') (hc : w.cell? p = some v) (hn : ¬ S p.block) : w'.cell? p = some v :=
  (World.cell?_of_block (h.block p.block (lt_of_cell hc) hn)).trans hc
end Go.Proofs.YthhmhigddmimjaaGreat
