import Derived.Test.YthhmhigddmimjaaGreatDrawB
import Derived.Deep.Cut
import Derived.Deep.CutRange
/-
  Draws: what stands while a list is drawn beside a network.
-/
set_option linter.unusedSimpArgs false
set_option linter.unusedVariables false
namespace Go.Proofs.YthhmhigddmimjaaGreat
open Go.ChangeShapes Go.WideShapes Go.ChangeAt Go.RowKit

theorem pp_lim (ys : List GPipe) (k : Nat) (x : GPipe) (v : Int) (hx : ys[k]? = some x) : (ys.flatMap GPipe.cells).set (k * 5 + 4) (.int .i64 v) = (ys.set k ⟨x.src, x.dst, x.k, x.vol, v⟩).flatMap GPipe.cells := by
  induction ys generalizing k with
  | nil => simp at hx
  | cons y ys ih =>
    cases k with
    | zero =>
      simp at hx
      subst hx
      simp [GPipe.cells]
    | succ k =>
      have hx' : ys[k]? = some x := by simpa using hx
      rw [List.set_cons_succ, List.flatMap_cons, List.flatMap_cons, ← ih k hx']
      have e : (k + 1) * 5 + 4 = y.cells.length + (k * 5 + 4) := by rw [GPipe.cells_len]; omega
      rw [e, List.set_append_right _ _ (by omega), Nat.add_sub_cancel_left]
/-- A network's block stands at M, its rows are the call's own; the result's block at R is still empty. -/
def NetM (w0 w wx : World) (S R M : Nat) (A1 : Option Addr) (n1 c1 : Nat) (A2 : Option Addr) (n2 c2 : Nat) : Prop :=
  ∃ q : GNet, wx.heap[M]? = some (.cells #[.slice A1 n1 c1, .slice A2 n2 c2] 32 (0, 0)) ∧ OwnNet wx (R + 1) A1 n1 c1 A2 n2 c2 q ∧ Drw w0 wx S ∧ Chg (fun j => j = S) w wx ∧ wx.heap[R]? = some (.cells #[.slice none 0 0, .slice none 0 0] 32 (0, 0))
section
variable {w0 w wx wy : World} {S R M : Nat} {A1 A2 : Option Addr} {n1 c1 n2 c2 : Nat}
theorem NetM.gr (h : NetM w0 w wx S R M A1 n1 c1 A2 n2 c2) (hg : Gr wx wy) : NetM w0 w wy S R M A1 n1 c1 A2 n2 c2 := by
  obtain ⟨q, hM, hO, hD, hC, hR⟩ := h
  exact ⟨q, (hg.below.block M (rb_lt hM)).trans hM, hO.gr hg, hD.grow hg, hC.trans (hg.chg _), (hg.below.block R (rb_lt hR)).trans hR⟩
theorem NetM.next (h : NetM w0 w wx S R M A1 n1 c1 A2 n2 c2) (hSR : S < R) (hMR : R < M) (hd : Drw w0 wy S) (hc : Chg (fun j => j = S) wx wy) : NetM w0 w wy S R M A1 n1 c1 A2 n2 c2 := by
  obtain ⟨q, hM, hO, hD, hC, hR⟩ := h
  exact ⟨q, rb_chg hM hc (by omega), ⟨own_chg hO.nodes hc (fun j hj e => by have := own_low hO.nodes hj; omega), own_chg hO.pipes hc (fun j hj e => by have := own_low hO.pipes hj; omega), hO.names, hO.m1, hO.m2⟩, hd, hC.trans hc, rb_chg hR hc (by omega)⟩
theorem NetM.lim {b k : Nat} (h : NetM w0 w wx S R M A1 n1 c1 (some ⟨b, 0, none⟩) n2 c2) (hg : Gr wx wy) (hRw : w.heap.size ≤ R) (hRw0 : w0.heap.size ≤ R) (hSR : S < R) (hMR : R < M) (hk : k < n2) (v : Int) : NetM w0 w (wy.setCell ⟨b, k * 5 + 4, none⟩ (.int .i64 v)) S R M A1 n1 c1 (some ⟨b, 0, none⟩) n2 c2 := by
  obtain ⟨q, hM, hO, hD, hC, hR⟩ := h.gr hg
  have hl := hO.at_.l2
  obtain ⟨x, hx⟩ : ∃ x, q.pipes[k]? = some x := ⟨_, List.getElem?_eq_getElem (by omega)⟩
  have hcs : Chg (fun j => j = b) wy (wy.setCell ⟨b, k * 5 + 4, none⟩ (.int .i64 v)) := chg_put _ _
  have hb := own_low hO.pipes (k := b) rfl
  have hp := own_eq' (hO.pipes.stored (k * 5 + 4) (.int .i64 v)).1 (pp_lim _ _ _ v hx)
  refine ⟨⟨q.nodes, q.pipes.set k ⟨x.src, x.dst, x.k, x.vol, v⟩⟩, rb_chg hM hcs (fun e => ?_), ⟨own_chg hO.nodes hcs (fun j hj e => ?_), hp, hO.names, hO.m1, hO.m2⟩, hD.set (by omega) (by omega), hC.fresh (by omega), rb_chg hR hcs (by omega)⟩
  · subst e; exact own_type_blk' hO.pipes hM (by decide)
  · have hA := own_blk_at hO.nodes hj
    subst hA
    subst e
    exact own_types' hO.nodes hO.pipes (by decide)
end
/-- A list that is being drawn: its row is younger than w4. -/
structure RowSt {α : Type} (f : α → List Value) (e : TypeId) (sz : Nat) (w0 w4 wr : World) (S : Nat) (A : Option Addr) (u c : Nat) : Prop where
  row : ∃ ls : List α, wr.ownsRow w4.heap.size e sz (.slice A u c) u (ls.flatMap f)
  dr : Drw w0 wr S
  ch : Chg (fun j => j = S) w4 wr
section
variable {α : Type} {f : α → List Value} {e : TypeId} {sz : Nat} {w0 w4 wr w' : World} {S : Nat} {A A' : Option Addr} {u c c' : Nat}
theorem RowSt.next (q : RowSt f e sz w0 w4 wr S A u c) (hS : S < w4.heap.size) (hd : Drw w0 w' S) (hc : Chg (fun j => j = S) wr w') : RowSt f e sz w0 w4 w' S A u c := by
  obtain ⟨ls, hl⟩ := q.row
  exact ⟨⟨ls, own_chg hl hc (fun j hj e => by have := own_low hl hj; omega)⟩, hd, q.ch.trans hc⟩
theorem RowSt.add (q : RowSt f e sz w0 w4 wr S A u c) (hS : S < w4.heap.size) (h0 : w0.heap.size ≤ w4.heap.size) {ls : List α} {x : α} {ob : Obj} (hown : w'.ownsRow w4.heap.size e sz (.slice A' (u + 1) c') (u + 1) (ls.flatMap f ++ f x)) (hg : (wr.alloc ob).grownBy w' (Value.slice A u c).ownBlock) : RowSt f e sz w0 w4 w' S A' (u + 1) c' := by
  obtain ⟨ls0, hl⟩ := q.row
  exact ⟨⟨ls ++ [x], own_eq' hown (flat_snoc' _ _ _).symm⟩, (q.dr.grow ((Gr.refl _).alloc _)).grown hg (fun j hj => by have := own_low hl hj; omega), (q.ch.trans (((Gr.refl _).alloc _).chg _)).grown' hg (fun j hj => own_low hl hj)⟩
theorem RowSt.init (hd : Drw w0 w4 S) (hs : sz ≠ 0) : RowSt f e sz w0 w4 (w4.alloc (.cells #[] e)) S (some ⟨w4.heap.size, 0, none⟩) 0 0 :=
  ⟨⟨[], World.ownsRow_lit w4 (e := e) (size := sz) #[] 0 (Nat.le_refl _) (by unfold maxLen; omega) (by simp)⟩, hd.grow ((Gr.refl _).alloc _), ((Gr.refl _).alloc _).chg _⟩
end
/-- The same, beside a block at X that is being filled. -/
structure BlkSt {α : Type} (f : α → List Value) (e : TypeId) (sz : Nat) (w0 w4 wz : World) (S : Nat) (A : Option Addr) (u c X : Nat) (cs : Array Value) : Prop where
  st : RowSt f e sz w0 w4 wz S A u c
  blk : wz.heap[X]? = some (.cells cs e (0, 0))
  lt : ∀ k, (Value.slice A u c).ownBlock = some k → k < X
  low : w4.heap.size ≤ X
section
variable {α : Type} {f : α → List Value} {e : TypeId} {sz : Nat} {w0 w4 wr wz w' : World} {S : Nat} {A A' : Option Addr} {u c c' X : Nat} {cs cs' : Array Value}
theorem RowSt.blk (q : RowSt f e sz w0 w4 wr S A u c) (hS : S < w4.heap.size) (cs : Array Value) : BlkSt f e sz w0 w4 (wr.alloc (.cells cs e)) S A u c wr.heap.size cs := by
  obtain ⟨ls, hl⟩ := q.row
  exact ⟨q.next hS (q.dr.grow ((Gr.refl _).alloc _)) (((Gr.refl _).alloc _).chg _), heap_alloc_new wr _, fun k hk => (World.ownsRow.lt hl k hk).2, q.ch.size⟩
theorem BlkSt.next (q : BlkSt f e sz w0 w4 wz S A u c X cs) (hS : S < w4.heap.size) (hd : Drw w0 w' S) (hc : Chg (fun j => j = S) wz w') : BlkSt f e sz w0 w4 w' S A u c X cs :=
  ⟨q.st.next hS hd hc, rb_chg q.blk hc (by have := q.low; omega), q.lt, q.low⟩
theorem BlkSt.gr (q : BlkSt f e sz w0 w4 wz S A u c X cs) (hS : S < w4.heap.size) (hg : Gr wz w') : BlkSt f e sz w0 w4 w' S A u c X cs := q.next hS (q.st.dr.grow hg) (hg.chg _)
theorem BlkSt.put (q : BlkSt f e sz w0 w4 wz S A u c X cs) (hS : S < w4.heap.size) (h0 : w0.heap.size ≤ w4.heap.size) (j : Nat) (v : Value) (hcs : cs' = cs.setIfInBounds j v) : BlkSt f e sz w0 w4 (wz.setCell ⟨X, j, none⟩ v) S A u c X cs' := by
  subst hcs
  obtain ⟨ls, hl⟩ := q.st.row
  have hx := q.low
  have hcc : Chg (fun k => k = X) wz (wz.setCell ⟨X, j, none⟩ v) := chg_put _ _
  refine ⟨⟨⟨ls, own_chg hl hcc (fun k hk e => by have := q.lt k hk; omega)⟩, q.st.dr.set (by omega) (by omega), q.st.ch.fresh (by omega)⟩, ?_, q.lt, q.low⟩
  simp [World.setCell, Array.getElem?_modify, q.blk]
end
/-- The end: the network's block is read into the result's. -/
theorem list_end {α : Type} {f : α → List Value} {e : TypeId} {sz : Nat} {w0 w w4 wz : World} {S R M : Nat} {A1 A2 A : Option Addr} {n1 c1 n2 c2 u c : Nat} (hN : NetM w0 w w4 S R M A1 n1 c1 A2 n2 c2) (q : RowSt f e sz w0 w4 wz S A u c) (hRw : w.heap.size ≤ R) (hRw0 : w0.heap.size ≤ R) (hSR : S < R) (hMR : R < M) :
    (wz.heap[M]? = some (.cells #[.slice A1 n1 c1, .slice A2 n2 c2] 32 (0, 0)) ∧ wz.heap[R]? = some (.cells #[.slice none 0 0, .slice none 0 0] 32 (0, 0))) ∧
    ((wz.setCell ⟨R, 0, none⟩ (.slice A1 n1 c1)).setCell ⟨R, 1, none⟩ (.slice A2 n2 c2)).heap[R]? = some (.cells #[.slice A1 n1 c1, .slice A2 n2 c2] 32 (0, 0)) ∧
    (∃ n, OwnNet ((wz.setCell ⟨R, 0, none⟩ (.slice A1 n1 c1)).setCell ⟨R, 1, none⟩ (.slice A2 n2 c2)) w.heap.size A1 n1 c1 A2 n2 c2 n) ∧
    (∃ ls : List α, ((wz.setCell ⟨R, 0, none⟩ (.slice A1 n1 c1)).setCell ⟨R, 1, none⟩ (.slice A2 n2 c2)).ownsRow w.heap.size e sz (.slice A u c) u (ls.flatMap f)) ∧
    Drw w0 ((wz.setCell ⟨R, 0, none⟩ (.slice A1 n1 c1)).setCell ⟨R, 1, none⟩ (.slice A2 n2 c2)) S ∧ Chg (fun j => j = S) w ((wz.setCell ⟨R, 0, none⟩ (.slice A1 n1 c1)).setCell ⟨R, 1, none⟩ (.slice A2 n2 c2)) := by
  obtain ⟨n, hM, hO, hD, hC, hR⟩ := hN
  obtain ⟨ls, hl⟩ := q.row
  have hMl := rb_lt hM
  have hMz := rb_chg hM q.ch (by omega)
  have hRz := rb_chg hR q.ch (by omega)
  have hOz : OwnNet wz (R + 1) A1 n1 c1 A2 n2 c2 n := ⟨own_chg hO.nodes q.ch (fun j hj e => by have := own_low hO.nodes hj; omega), own_chg hO.pipes q.ch (fun j hj e => by have := own_low hO.pipes hj; omega), hO.names, hO.m1, hO.m2⟩
  obtain ⟨h1, h2, h3, h4, h5⟩ := res_net rfl hRw hRw0 hSR hRz hOz q.dr (hC.trans q.ch)
  exact ⟨⟨hMz, hRz⟩, h1, ⟨n, h2⟩, ⟨ls, own_base (own_chg hl h5 (fun j hj e => by have := own_low hl hj; omega)) (by omega)⟩, h3, h4⟩
def lenOf : Value → Nat
  | .slice _ n _ => n
  | _ => 0
end Go.Proofs.YthhmhigddmimjaaGreat
/-
  Draws: transports. Printed by gen_draw24.py.
-/
set_option linter.unusedSimpArgs false
set_option linter.unusedVariables false
namespace Go.Proofs.YthhmhigddmimjaaGreat
open Go.ChangeShapes Go.WideShapes Go.ChangeAt Go.RowKit

end Go.Proofs.YthhmhigddmimjaaGreat
/-
  Draws: a network and transports, for the laws.
-/
set_option linter.unusedSimpArgs false
set_option linter.unusedVariables false
namespace Go.Proofs.YthhmhigddmimjaaGreat
open Go.ChangeShapes Go.WideShapes Go.ChangeAt Go.RowKit

end Go.Proofs.YthhmhigddmimjaaGreat
