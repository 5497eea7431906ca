import Derived.Test.YthhmhigddmimjaaGreatCore
import Derived.Test.YthhmhigddmimjaaGreatText
import Derived.BigRegion
import Derived.Laws.BytesArg
import Derived.Deep.AppendLies
import Derived.Test.YthhmhigddmimjaaGreatClone
import Derived.Deep.Upon
import Derived.Test.YthhmhigddmimjaaGreatFlowD
/-
  Draws: the source of numbers.
-/
namespace Go.Proofs.YthhmhigddmimjaaGreat
open Go.ChangeShapes Go.WideShapes Go.ChangeAt Go.RowKit

def byts (bs : List UInt8) : List Value := bs.map fun b => .int .u8 (b.toNat : Int)
/-- The block of a source. -/
def SrcBlk (w : World) (S : Nat) (C : Value) (a d : Int) : Prop := w.heap[S]? = some (.cells #[C, .int .i64 a, .int .i64 d] 115 (0, 0))
theorem SrcBlk.lt {w : World} {S : Nat} {C : Value} {a d : Int} (h : SrcBlk w S C a d) : S < w.heap.size := (Array.getElem?_eq_some_iff.1 h).1
theorem SrcBlk.k0 {w : World} {S : Nat} {C : Value} {a d : Int} (h : SrcBlk w S C a d) : w.cell? ⟨S, 0, none⟩ = some C := by rw [cell_of_row w S 0 _ _ _ h]; rfl
theorem SrcBlk.k1 {w : World} {S : Nat} {C : Value} {a d : Int} (h : SrcBlk w S C a d) : w.cell? ⟨S, 1, none⟩ = some (.int .i64 a) := by rw [cell_of_row w S 1 _ _ _ h]; rfl
theorem SrcBlk.k2 {w : World} {S : Nat} {C : Value} {a d : Int} (h : SrcBlk w S C a d) : w.cell? ⟨S, 2, none⟩ = some (.int .i64 d) := by rw [cell_of_row w S 2 _ _ _ h]; rfl
theorem SrcBlk.fr {w : World} {S : Nat} {C : Value} {a d : Int} (h : SrcBlk w S C a d) (j : Nat) : w.frozen? ⟨S, j, none⟩ = false := by
  unfold SrcBlk at h
  simp [World.frozen?, h]
theorem SrcBlk.gr {w w' : World} {S : Nat} {C : Value} {a d : Int} (h : SrcBlk w S C a d) (g : Gr w w') : SrcBlk w' S C a d := (g.below.block S h.lt).trans h
theorem chg_put {w : World} {S : Nat} (j : Nat) (v : Value) : Chg (fun k => k = S) w (w.setCell ⟨S, j, none⟩ v) :=
  ⟨rfl, rfl, rfl, by simp, fun k _ hne => by
    have : ¬ S = k := fun e => hne e.symm
    simp [World.setCell, Array.getElem?_modify, this]⟩
theorem chg_cell' {S : Nat → Prop} {w w' : World} {p : Addr} {v : Value} (h : Chg S w w') (hc : w.cell? p = some v) (hn : ¬ S p.block) : w'.cell? p = some v := by
  exact (World.cell?_of_block (h.block p.block (lt_of_cell hc) hn)).trans hc
/-- A source stands at S; nothing of w0 has turned. -/
structure Drw (w0 w : World) (S : Nat) : Prop where
  gr : Gr w0 w
  base : w0.heap.size ≤ S
  blk : ∃ A m c bs, ∃ a d : Int, SlAt w0 1 A m c (byts bs) ∧ SrcBlk w S (.slice A m c) a d ∧ (0 ≤ a ∧ a ≤ m) ∧ 0 ≤ d ∧ d ≤ 2147483646
theorem Drw.grow {w0 w w' : World} {S : Nat} (h : Drw w0 w S) (g : Gr w w') : Drw w0 w' S := by
  obtain ⟨A, m, c, bs, a, d, h1, h2, h3, h4⟩ := h.blk
  exact ⟨h.gr.trans g, h.base, A, m, c, bs, a, d, h1, h2.gr g, h3, h4⟩
theorem Drw.lt {w0 w : World} {S : Nat} (h : Drw w0 w S) : S < w.heap.size := by
  obtain ⟨A, m, c, bs, a, d, h1, h2, h3, h4⟩ := h.blk
  exact h2.lt
/-- A number from 0 to n - 1, and 0 if n is 1 or less. -/
def Upto (n x : Int) : Prop := 0 ≤ x ∧ (1 < n → x < n) ∧ (n ≤ 1 → x = 0)
end Go.Proofs.YthhmhigddmimjaaGreat
/-
  Draws: nodes and pipes.
-/
namespace Go.Proofs.YthhmhigddmimjaaGreat
open Go.ChangeShapes Go.WideShapes Go.ChangeAt Go.RowKit

theorem rb_cell {w : World} {b j : Nat} {cs : Array Value} {t : TypeId} {v : Value} (h : w.heap[b]? = some (.cells cs t (0, 0))) (hj : cs[j]? = some v) : w.cell? ⟨b, j, none⟩ = some v := by
  rw [cell_of_row w b j cs t _ h, hj]
theorem rb_frozen {w : World} {b : Nat} {cs : Array Value} {t : TypeId} (h : w.heap[b]? = some (.cells cs t (0, 0))) (j : Nat) : w.frozen? ⟨b, j, none⟩ = false := by
  simp [World.frozen?, h]
theorem rb_lt {w : World} {b : Nat} {ob : Obj} (h : w.heap[b]? = some ob) : b < w.heap.size := (Array.getElem?_eq_some_iff.1 h).1
theorem rb_chg {w w' : World} {P : Nat → Prop} {b : Nat} {ob : Obj} (h : w.heap[b]? = some ob) (hc : Chg P w w') (hn : ¬ P b) : w'.heap[b]? = some ob := (hc.block b (rb_lt h) hn).trans h
theorem Drw.set {w0 w : World} {S R j : Nat} {v : Value} (h : Drw w0 w S) (hR : w0.heap.size ≤ R) (hne : R ≠ S) : Drw w0 (w.setCell ⟨R, j, none⟩ v) S := by
  obtain ⟨A, m, c, bs, a, d, h1, h2, h3, h4⟩ := h.blk
  refine ⟨h.gr.setCell hR _, h.base, A, m, c, bs, a, d, h1, ?_, h3, h4⟩
  exact rb_chg (P := fun k => k = R) h2 (chg_put _ _) (fun e => hne e.symm)
theorem Chg.fresh {P : Nat → Prop} {w w1 : World} {R j : Nat} {v : Value} (h : Chg P w w1) (hR : w.heap.size ≤ R) : Chg P w (w1.setCell ⟨R, j, none⟩ v) :=
  ⟨h.os, h.tape, h.output, by simp; exact h.size, fun k hk hn => by
    have : ¬ R = k := by omega
    have e : (w1.setCell ⟨R, j, none⟩ v).heap[k]? = w1.heap[k]? := by simp [World.setCell, Array.getElem?_modify, this]
    exact e.trans (h.block k hk hn)⟩
theorem Upto.lt {n x : Int} (h : Upto n x) (hn : 1 < n) : 0 ≤ x ∧ x < n := ⟨h.1, h.2.1 hn⟩
end Go.Proofs.YthhmhigddmimjaaGreat
/-
  Draws: numbers in decimal, nodes.
-/
namespace Go.Proofs.YthhmhigddmimjaaGreat
open Go.ChangeShapes Go.WideShapes Go.ChangeAt Go.RowKit

end Go.Proofs.YthhmhigddmimjaaGreat
/-
  Draws: valid networks.
-/
namespace Go.Proofs.YthhmhigddmimjaaGreat
open Go.ChangeShapes Go.WideShapes Go.ChangeAt Go.RowKit

theorem Drw.grown {w0 w w' : World} {S : Nat} {row : Option Nat} (h : Drw w0 w S) (hg : w.grownBy w' row) (hr : ∀ j, row = some j → w0.heap.size ≤ j ∧ j ≠ S) : Drw w0 w' S := by
  obtain ⟨A, m, c, bs, a, d, h1, h2, h3, h4⟩ := h.blk
  refine ⟨h.gr.grown hg (fun j hj => (hr j hj).1), h.base, A, m, c, bs, a, d, h1, ?_, h3, h4⟩
  exact (hg.block S h2.lt (fun e => (hr S e.symm).2 rfl)).trans h2
theorem Chg.grown' {P : Nat → Prop} {w w1 w2 : World} {row : Option Nat} (h : Chg P w w1) (hg : w1.grownBy w2 row) (hr : ∀ j, row = some j → w.heap.size ≤ j) : Chg P w w2 :=
  ⟨hg.os.trans h.os, hg.tape.trans h.tape, hg.output.trans h.output, Nat.le_trans h.size hg.size, fun k hk hn =>
    (hg.block k (Nat.lt_of_lt_of_le hk h.size) (fun e => by have := hr k e.symm; omega)).trans (h.block k hk hn)⟩
theorem flat_snoc' {α : Type} (f : α → List Value) (l : List α) (x : α) : (l ++ [x]).flatMap f = l.flatMap f ++ f x := by simp
theorem own_eq' {w : World} {base : Nat} {e : TypeId} {size n : Nat} {v : Value} {xs ys : List Value} (h : w.ownsRow base e size v n xs) (he : xs = ys) : w.ownsRow base e size v n ys := he ▸ h
theorem own_low {w : World} {base : Nat} {e : TypeId} {size n k : Nat} {v : Value} {xs : List Value} (h : w.ownsRow base e size v n xs) (hk : v.ownBlock = some k) : base ≤ k := by
  rcases h.2 with ⟨hv, _⟩ | ⟨g, cap, cur, hv, hb, _⟩
  · rw [hv] at hk; simp [Value.ownBlock] at hk
  · rw [hv] at hk; simp [Value.ownBlock] at hk; omega
/-- The rows of a network that is being drawn; the result's block stands at R, still empty. -/
structure NetSt (w0 w wr : World) (S R g c k h d u : Nat) : Prop where
  ne : g ≠ h
  nodes : ∃ ns : List GNode, wr.ownsRow (R + 1) 62 3 (.slice (some ⟨g, 0, none⟩) k c) k (ns.flatMap GNode.cells) ∧ ∀ x ∈ ns, x.name.size ≤ maxLen
  pipes : ∃ ps : List GPipe, wr.ownsRow (R + 1) 95 5 (.slice (some ⟨h, 0, none⟩) u d) u (ps.flatMap GPipe.cells)
  dr : Drw w0 wr S
  ch : Chg (fun j => j = S) w wr
  res : wr.heap[R]? = some (.cells #[.slice none 0 0, .slice none 0 0] 32 (0, 0))
section
variable {w0 w wr w' : World} {S R g c k h d u : Nat}
theorem NetSt.next (q : NetSt w0 w wr S R g c k h d u) (hSR : S < R) (hd : Drw w0 w' S) (hc : Chg (fun j => j = S) wr w') : NetSt w0 w w' S R g c k h d u := by
  obtain ⟨ns, hn, hs⟩ := q.nodes
  obtain ⟨ps, hp⟩ := q.pipes
  exact ⟨q.ne, ⟨ns, own_chg hn hc (fun j hj e => by have := own_low hn hj; omega), hs⟩, ⟨ps, own_chg hp hc (fun j hj e => by have := own_low hp hj; omega)⟩, hd, q.ch.trans hc, rb_chg q.res hc (by omega)⟩
end
end Go.Proofs.YthhmhigddmimjaaGreat
/-
  Draws: networks with more pipes than a tree.
-/
namespace Go.Proofs.YthhmhigddmimjaaGreat
open Go.ChangeShapes Go.WideShapes Go.ChangeAt Go.RowKit

end Go.Proofs.YthhmhigddmimjaaGreat
/-
  Draws: chords: the reference's forest ends and leaves numbers.
-/
namespace Go.Proofs.YthhmhigddmimjaaGreat
open Go.ChangeShapes Go.WideShapes Go.ChangeAt Go.RowKit

theorem bools_len (l : List Bool) : (bools l).length = l.length := by simp [bools]
theorem own_blen {w : World} {base : Nat} {e : TypeId} {n : Nat} {v : Value} {zs : List Bool} (h : w.ownsRow base e 1 v n (bools zs)) : zs.length = n := by
  have h1 := h.1; rw [bools_len] at h1; omega
end Go.Proofs.YthhmhigddmimjaaGreat
