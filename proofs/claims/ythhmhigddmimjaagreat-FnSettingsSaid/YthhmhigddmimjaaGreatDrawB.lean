import Derived.Test.YthhmhigddmimjaaGreatDrawA
import Derived.Deep.RegionWith
import Derived.Deep.Cut
import Derived.Deep.CutRange
/-
  Draws: networks, valid or not.
-/
set_option linter.unusedSimpArgs false
set_option linter.unusedVariables false
namespace Go.Proofs.YthhmhigddmimjaaGreat
open Go.ChangeShapes Go.WideShapes Go.ChangeAt Go.RowKit

theorem own_type_blk {w : World} {base g s n c : Nat} {e e' : TypeId} {xs : List Value} {cs : Array Value} (h : w.ownsRow base e s (.slice (some ⟨g, 0, none⟩) n c) n xs) (h' : w.heap[g]? = some (.cells cs e' (0, 0))) (hne : e ≠ e') (_hn : 0 < n) : False := by
  rcases h.2 with ⟨hv, _⟩ | ⟨k, cap, cur, hv, _, hk, _⟩
  · cases hv
  · injection hv with h1
    injection h1 with h1
    injection h1 with h1
    subst h1
    rw [hk] at h'
    injection h' with h'
    injection h' with _ h2
    exact hne h2
theorem own_type_blk' {w : World} {base g s n c : Nat} {e e' : TypeId} {xs : List Value} {cs : Array Value} (h : w.ownsRow base e s (.slice (some ⟨g, 0, none⟩) n c) n xs) (h' : w.heap[g]? = some (.cells cs e' (0, 0))) (hne : e ≠ e') : False := by
  rcases h.2 with ⟨hv, _⟩ | ⟨k, cap, cur, hv, _, hk, _⟩
  · cases hv
  · injection hv with h1
    injection h1 with h1
    injection h1 with h1
    subst h1
    rw [hk] at h'
    injection h' with h'
    injection h' with _ h2
    exact hne h2
theorem own_types' {w : World} {base g s s' n c n' c' : Nat} {e e' : TypeId} {xs ys : List Value} (h : w.ownsRow base e s (.slice (some ⟨g, 0, none⟩) n c) n xs) (h' : w.ownsRow base e' s' (.slice (some ⟨g, 0, none⟩) n' c') n' ys) (hne : e ≠ e') : False := by
  rcases h'.2 with ⟨hv, _⟩ | ⟨k, cap, cur, hv, _, hk, _⟩
  · cases hv
  · injection hv with h1
    injection h1 with h1
    injection h1 with h1
    subst h1
    exact own_type_blk' h hk hne
theorem own_types {w : World} {base g s s' n c n' c' : Nat} {e e' : TypeId} {xs ys : List Value} (h : w.ownsRow base e s (.slice (some ⟨g, 0, none⟩) n c) n xs) (h' : w.ownsRow base e' s' (.slice (some ⟨g, 0, none⟩) n' c') n' ys) (hne : e ≠ e') (hn : 0 < n) (_hn' : 0 < n') : False := by
  rcases h'.2 with ⟨hv, _⟩ | ⟨k, cap, cur, hv, _, hk, _⟩
  · cases hv
  · injection hv with h1
    injection h1 with h1
    injection h1 with h1
    subst h1
    exact own_type_blk h hk hne hn
theorem put_far {w : World} {b j g i : Nat} {v u : Value} (h : w.cell? ⟨b, j, none⟩ = some v) (hn : b ≠ g ∨ j ≠ i) : (w.setCell ⟨g, i, none⟩ u).cell? ⟨b, j, none⟩ = some v := by
  exact (World.cell?_setCell_other w ⟨g, i, none⟩ ⟨b, j, none⟩ u (by simp only [ne_eq, Addr.mk.injEq, and_true]; omega)).trans h
theorem pk_cells {w : World} {base : Nat} {e : TypeId} {n c g j : Nat} {ys : List GPipe} (h : w.ownsRow base e 5 (.slice (some ⟨g, 0, none⟩) n c) n (ys.flatMap GPipe.cells)) (hn : 0 < n) (hj : j < 5) :
    (∃ z : Int, w.cell? ⟨g, j, none⟩ = some (.int .i64 z)) ∧ w.frozen? ⟨g, j, none⟩ = false := by
  have hl := own_len h GPipe.cells_len (by omega)
  refine ⟨?_, h.frozenAt j⟩
  rw [h.cellAt j (by omega)]
  cases ys with
  | nil => simp at hl; omega
  | cons y ys =>
    have : j = 0 ∨ j = 1 ∨ j = 2 ∨ j = 3 ∨ j = 4 := by omega
    rcases this with rfl | rfl | rfl | rfl | rfl <;> exact ⟨_, rfl⟩
theorem pk_set {w : World} {base : Nat} {e : TypeId} {n c g j : Nat} {ys : List GPipe} (h : w.ownsRow base e 5 (.slice (some ⟨g, 0, none⟩) n c) n (ys.flatMap GPipe.cells)) (hn : 0 < n) (hj : j < 5) (z : Int) :
    ∃ zs : List GPipe, (w.setCell ⟨g, j, none⟩ (.int .i64 z)).ownsRow base e 5 (.slice (some ⟨g, 0, none⟩) n c) n (zs.flatMap GPipe.cells) := by
  have hl := own_len h GPipe.cells_len (by omega)
  have hs := (h.stored j (.int .i64 z)).1
  cases ys with
  | nil => simp at hl; omega
  | cons y ys =>
    have : j = 0 ∨ j = 1 ∨ j = 2 ∨ j = 3 ∨ j = 4 := by omega
    rcases this with rfl | rfl | rfl | rfl | rfl
    · exact ⟨⟨z, y.dst, y.k, y.vol, y.lim⟩ :: ys, hs⟩
    · exact ⟨⟨y.src, z, y.k, y.vol, y.lim⟩ :: ys, hs⟩
    · exact ⟨⟨y.src, y.dst, z, y.vol, y.lim⟩ :: ys, hs⟩
    · exact ⟨⟨y.src, y.dst, y.k, z, y.lim⟩ :: ys, hs⟩
    · exact ⟨⟨y.src, y.dst, y.k, y.vol, z⟩ :: ys, hs⟩
theorem nd_name (ys : List GNode) (k : Nat) (x : GNode) (s : ByteArray) (hx : ys[k]? = some x) : (ys.flatMap GNode.cells).set (k * 3) (.string s) = (ys.set k ⟨s, x.low, x.high⟩).flatMap GNode.cells := by
  induction ys generalizing k with
  | nil => simp at hx
  | cons y ys ih =>
    cases k with
    | zero =>
      simp at hx
      subst hx
      simp [GNode.cells]
    | succ k =>
      have hx' : ys[k]? = some x := by simpa using hx
      rw [List.set_cons_succ, List.flatMap_cons, List.flatMap_cons, ← ih k hx']
      have e : (k + 1) * 3 = y.cells.length + k * 3 := by rw [GNode.cells_len]; omega
      rw [e, List.set_append_right _ _ (by omega), Nat.add_sub_cancel_left]
theorem nd_high (ys : List GNode) (k : Nat) (x : GNode) (v : Int) (hx : ys[k]? = some x) : (ys.flatMap GNode.cells).set (k * 3 + 2) (.int .i64 v) = (ys.set k ⟨x.name, x.low, v⟩).flatMap GNode.cells := by
  induction ys generalizing k with
  | nil => simp at hx
  | cons y ys ih =>
    cases k with
    | zero =>
      simp at hx
      subst hx
      simp [GNode.cells]
    | succ k =>
      have hx' : ys[k]? = some x := by simpa using hx
      rw [List.set_cons_succ, List.flatMap_cons, List.flatMap_cons, ← ih k hx']
      have e : (k + 1) * 3 + 2 = y.cells.length + (k * 3 + 2) := by rw [GNode.cells_len]; omega
      rw [e, List.set_append_right _ _ (by omega), Nat.add_sub_cancel_left]
theorem nd_names {ys : List GNode} {k : Nat} {x : GNode} (h : ∀ y ∈ ys, y.name.size ≤ maxLen) (hx : x.name.size ≤ maxLen) : ∀ y ∈ ys.set k x, y.name.size ≤ maxLen := by
  intro y hy
  rcases List.mem_or_eq_of_mem_set hy with e | e
  · exact h y e
  · rw [e]; exact hx
/-- A network stands at M, its rows are the call's own; the result's block at R is still empty. -/
def EndAt (w0 w wx : World) (S R M : Nat) : Prop := ∃ A1 n1 c1 A2 n2 c2, ∃ n : GNet, wx.heap[M]? = some (.cells #[.slice A1 n1 c1, .slice A2 n2 c2] 32 (0, 0)) ∧ OwnNet wx (R + 1) A1 n1 c1 A2 n2 c2 n ∧ (n1 ≤ 7 ∧ n2 ≤ 12) ∧ Drw w0 wx S ∧ Chg (fun j => j = S) w wx ∧ wx.heap[R]? = some (.cells #[.slice none 0 0, .slice none 0 0] 32 (0, 0))
theorem end_pipe {w0 w w5 w5' W : World} {S R M g n1 c1 bq n2 c2 j : Nat} {n : GNet} {v : Int} (hRw : w.heap.size ≤ R) (hRw0 : w0.heap.size ≤ R) (hSR : S < R) (hMR : R < M) (hb : R < bq) (_hgM : g < M) (hbM : bq ≠ M) (hn : 0 < n2) (hj : j < 5) (hnn : n1 ≤ 7 ∧ n2 ≤ 12)
    (hcc : Chg (fun j => j = S) w w5) (hg : Gr w5 w5') (hd : Drw w0 W S) (hc : Chg (fun j => j = S) w5' W) (hM : w5.heap[M]? = some (.cells #[.slice (some ⟨g, 0, none⟩) n1 c1, .slice (some ⟨bq, 0, none⟩) n2 c2] 32 (0, 0))) (hR : w5.heap[R]? = some (.cells #[.slice none 0 0, .slice none 0 0] 32 (0, 0)))
    (hO : OwnNet w5 (R + 1) (some ⟨g, 0, none⟩) n1 c1 (some ⟨bq, 0, none⟩) n2 c2 n) (hgb : g ≠ bq) : EndAt w0 w (W.setCell ⟨bq, j, none⟩ (.int .i64 v)) S R M := by
  have hcs : Chg (fun k => k = bq) W (W.setCell ⟨bq, j, none⟩ (.int .i64 v)) := chg_put _ _
  have hp : W.ownsRow (R + 1) 95 5 (.slice (some ⟨bq, 0, none⟩) n2 c2) n2 (n.pipes.flatMap GPipe.cells) := own_chg (own_gr hO.pipes hg) hc (fun j hj e => by have := own_low hO.pipes hj; omega)
  have hN : W.ownsRow (R + 1) 62 3 (.slice (some ⟨g, 0, none⟩) n1 c1) n1 (n.nodes.flatMap GNode.cells) := own_chg (own_gr hO.nodes hg) hc (fun j hj e => by have := own_low hO.nodes hj; omega)
  obtain ⟨zs, hz⟩ := pk_set hp hn hj v
  have hM' := (hg.below.block M (rb_lt hM)).trans hM
  have hR' := (hg.below.block R (rb_lt hR)).trans hR
  refine ⟨_, _, _, _, _, _, ⟨n.nodes, zs⟩, rb_chg (rb_chg hM' hc (by omega)) hcs (fun e => hbM e.symm), ⟨own_chg hN hcs (fun j hj e => hgb ((Option.some.inj hj).trans e)), hz, hO.names, hO.m1, hO.m2⟩, hnn, hd.set (by omega) (by omega), ((hcc.trans (hg.chg _)).trans hc).fresh (by omega), rb_chg (rb_chg hR' hc (by omega)) hcs (by omega)⟩
theorem own_blk_at {w : World} {base b s n c : Nat} {A : Option Addr} {e : TypeId} {xs : List Value} (h : w.ownsRow base e s (.slice A n c) n xs) (hb : (Value.slice A n c).ownBlock = some b) : A = some ⟨b, 0, none⟩ := by
  rcases h.2 with ⟨hv, _⟩ | ⟨k, cap, cur, hv, _⟩
  · rw [hv] at hb; cases hb
  · rw [hv] at hb
    injection hv with h1
    have e1 : k = b := Option.some.inj hb
    rw [h1, e1]
theorem end_nil {w0 w w5 : World} {S R M g n1 c1 n2 c2 : Nat} {A2 : Option Addr} {n : GNet} (hRw : w.heap.size ≤ R) (hRw0 : w0.heap.size ≤ R) (hSR : S < R) (hMR : R < M) (hnn : n1 ≤ 7 ∧ n2 ≤ 12)
    (hcc : Chg (fun j => j = S) w w5) (hd : Drw w0 w5 S) (hM : w5.heap[M]? = some (.cells #[.slice (some ⟨g, 0, none⟩) n1 c1, .slice A2 n2 c2] 32 (0, 0))) (hR : w5.heap[R]? = some (.cells #[.slice none 0 0, .slice none 0 0] 32 (0, 0)))
    (hO : OwnNet w5 (R + 1) (some ⟨g, 0, none⟩) n1 c1 A2 n2 c2 n) : EndAt w0 w (w5.setCell ⟨M, 0, none⟩ (.slice none 0 0)) S R M := by
  have hcs : Chg (fun k => k = M) w5 (w5.setCell ⟨M, 0, none⟩ (.slice none 0 0)) := chg_put _ _
  refine ⟨none, 0, 0, A2, n2, c2, ⟨[], n.pipes⟩, ?_, ⟨World.ownsRow_nil _ _ _ _, own_chg hO.pipes hcs (fun j hj e => ?_), (fun x hx => by cases hx), by omega, hO.m2⟩, ⟨by omega, hnn.2⟩, hd.set (by omega) (by omega), hcc.fresh (by omega), rb_chg hR hcs (by omega)⟩
  · simp [World.setCell, Array.getElem?_modify, hM]
  · have hA := own_blk_at hO.pipes hj
    subst hA
    subst e
    exact own_type_blk' hO.pipes hM (by decide)
theorem end_app {w0 w w5 w9 : World} {S R M g n1 c1 n2 c2 g9 cap : Nat} {A2 : Option Addr} {n : GNet} {p : GPipe} {ob : Obj} (hRw : w.heap.size ≤ R) (hRw0 : w0.heap.size ≤ R) (hSR : S < R) (hMR : R < M) (hnn : n1 ≤ 7 ∧ n2 ≤ 11)
    (hcc : Chg (fun j => j = S) w w5) (hd : Drw w0 w5 S) (hM : w5.heap[M]? = some (.cells #[.slice (some ⟨g, 0, none⟩) n1 c1, .slice A2 n2 c2] 32 (0, 0))) (hR : w5.heap[R]? = some (.cells #[.slice none 0 0, .slice none 0 0] 32 (0, 0)))
    (hO : OwnNet w5 (R + 1) (some ⟨g, 0, none⟩) n1 c1 A2 n2 c2 n) (ho : w9.ownsRow (R + 1) 95 5 (.slice (some ⟨g9, 0, none⟩) (n2 + 1) cap) (n2 + 1) (n.pipes.flatMap GPipe.cells ++ p.cells)) (hg : (w5.alloc ob).grownBy w9 (Value.slice A2 n2 c2).ownBlock) :
    w9.heap[M]? = some (.cells #[.slice (some ⟨g, 0, none⟩) n1 c1, .slice A2 n2 c2] 32 (0, 0)) ∧ EndAt w0 w (w9.setCell ⟨M, 1, none⟩ (.slice (some ⟨g9, 0, none⟩) (n2 + 1) cap)) S R M := by
  have hne : ∀ j, (Value.slice A2 n2 c2).ownBlock = some j → R < j ∧ j ≠ M ∧ j ≠ g := fun j hj => by
    have h1 := own_low hO.pipes hj
    have hA := own_blk_at hO.pipes hj
    subst hA
    refine ⟨by omega, fun e => ?_, fun e => ?_⟩
    · subst e; exact own_type_blk' hO.pipes hM (by decide)
    · subst e; exact own_types' hO.nodes hO.pipes (by decide)
  have hga : Gr w5 (w5.alloc ob) := (Gr.refl _).alloc _
  have hM1 := (hga.below.block M (rb_lt hM)).trans hM
  have hR1 := (hga.below.block R (rb_lt hR)).trans hR
  have hM9 := (hg.block M (rb_lt hM1) (fun e => (hne M e.symm).2.1 rfl)).trans hM1
  have hR9 := (hg.block R (rb_lt hR1) (fun e => by have := (hne R e.symm).1; omega)).trans hR1
  have hcs : Chg (fun k => k = M) w9 (w9.setCell ⟨M, 1, none⟩ (.slice (some ⟨g9, 0, none⟩) (n2 + 1) cap)) := chg_put _ _
  have hn9 := (hO.nodes.alloc ob).kept hg (Or.inr fun e => (hne g e.symm).2.2 rfl)
  refine ⟨hM9, ⟨_, _, _, _, _, _, ⟨n.nodes, n.pipes ++ [p]⟩, by simp [World.setCell, Array.getElem?_modify, hM9], ⟨own_chg hn9 hcs (fun j hj e => ?_), own_chg (own_eq' ho (flat_snoc' _ _ _).symm) hcs (fun j hj e => ?_), hO.names, hO.m1, by omega⟩, ⟨hnn.1, by omega⟩, ((hd.grow hga).grown hg (fun j hj => by have := (hne j hj).1; omega)).set (by omega) (by omega), ((hcc.trans (hga.chg _)).grown' hg (fun j hj => by have := (hne j hj).1; omega)).fresh (by omega), rb_chg hR9 hcs (by omega)⟩⟩
  · have e1 : g = j := Option.some.inj hj
    subst e1; subst e
    exact own_type_blk' hn9 hM9 (by decide)
  · have e1 : g9 = j := Option.some.inj hj
    subst e1; subst e
    exact own_type_blk' ho hM9 (by decide)
theorem end_node {w0 w w5 w5' W : World} {S R M g n1 c1 n2 c2 j : Nat} {A2 : Option Addr} {n : GNet} {v : Value} {zs : List GNode} (hRw : w.heap.size ≤ R) (hRw0 : w0.heap.size ≤ R) (hSR : S < R) (hMR : R < M) (hgR : R < g) (hgM : g ≠ M) (hnn : n1 ≤ 7 ∧ n2 ≤ 12)
    (hcc : Chg (fun j => j = S) w w5) (hg : Gr w5 w5') (hd : Drw w0 W S) (hc : Chg (fun j => j = S) w5' W) (hM : w5.heap[M]? = some (.cells #[.slice (some ⟨g, 0, none⟩) n1 c1, .slice A2 n2 c2] 32 (0, 0))) (hR : w5.heap[R]? = some (.cells #[.slice none 0 0, .slice none 0 0] 32 (0, 0)))
    (hO : OwnNet w5 (R + 1) (some ⟨g, 0, none⟩) n1 c1 A2 n2 c2 n) (hz : (n.nodes.flatMap GNode.cells).set j v = zs.flatMap GNode.cells) (hs : ∀ x ∈ zs, x.name.size ≤ maxLen) : EndAt w0 w (W.setCell ⟨g, j, none⟩ v) S R M := by
  have hcs : Chg (fun k => k = g) W (W.setCell ⟨g, j, none⟩ v) := chg_put _ _
  have hp : W.ownsRow (R + 1) 95 5 (.slice A2 n2 c2) n2 (n.pipes.flatMap GPipe.cells) := own_chg (own_gr hO.pipes hg) hc (fun j hj e => by have := own_low hO.pipes hj; omega)
  have hN : W.ownsRow (R + 1) 62 3 (.slice (some ⟨g, 0, none⟩) n1 c1) n1 (n.nodes.flatMap GNode.cells) := own_chg (own_gr hO.nodes hg) hc (fun j hj e => by have := own_low hO.nodes hj; omega)
  have hN2 := own_eq' (hN.stored j v).1 hz
  have hM' := (hg.below.block M (rb_lt hM)).trans hM
  have hR' := (hg.below.block R (rb_lt hR)).trans hR
  refine ⟨_, _, _, _, _, _, ⟨zs, n.pipes⟩, rb_chg (rb_chg hM' hc (by omega)) hcs (fun e => hgM e.symm), ⟨hN2, own_chg hp hcs (fun j hj e => ?_), hs, hO.m1, hO.m2⟩, hnn, hd.set (by omega) (by omega), ((hcc.trans (hg.chg _)).trans hc).fresh (by omega), rb_chg (rb_chg hR' hc (by omega)) hcs (by omega)⟩
  have hA := own_blk_at hp hj
  subst hA
  subst e
  exact own_types' hN hp (by decide)
set_option maxHeartbeats 6400000 in
set_option maxRecDepth 100000 in
theorem l02DrawAny_any {w0 w : World} {S : Nat} (h : Drw w0 w S) :
    Calls Tryz.prog 123 #[.pointer (some ⟨S, 0, none⟩)] w fun e w' => ∃ A1 n1 c1 A2 n2 c2 n, e = .returned (.agg #[.slice A1 n1 c1, .slice A2 n2 c2]) ∧ OwnNet w' w.heap.size A1 n1 c1 A2 n2 c2 n ∧ (n1 ≤ 7 ∧ n2 ≤ 12) ∧ Drw w0 w' S ∧ Chg (fun k => k = S) w w' := by
  obtain ⟨i1, hi1, hv0, hv1, hv2⟩ := info_parts infoPipe
  have hlt := h.lt
  have hbw := h.gr.size
  have H := Lib.hid h
  clear h
  go_enter Tryz.func123, Tryz.ntmps123
  go_wp2_with fail
  generalize hw1 : World.alloc w _ = w1
  have hR : w1.heap[w.heap.size]? = some (.cells #[.slice none 0 0, .slice none 0 0] 32 (0, 0)) := by rw [← hw1]; exact heap_alloc_new w _
  have hg1 : Gr w w1 := by rw [← hw1]; exact (Gr.refl _).alloc _
  have hs1 : w1.heap.size = w.heap.size + 1 := by rw [← hw1]; simp
  obtain ⟨R, hRe⟩ : ∃ R, R = w.heap.size := ⟨_, rfl⟩
  rw [← hRe] at hR ⊢
  have hSR : S < R := by omega
  have hRw : w.heap.size ≤ R := by omega
  have hR1 : w1.heap.size = R + 1 := by omega
  have hRw0 : w0.heap.size ≤ R := by omega
  have HR := Lib.hid hR
  clear hw1 hRe hR
  refine (l02Draw_any (H.out.grow hg1)).mono ?_
  rintro e w2 ⟨A1, n1, c1, A2, n2, c2, n, rfl, hown, ⟨hn1, hn7, hn9⟩, hd2, hc2⟩
  obtain ⟨g, rfl, hgb, hgl⟩ := own_form hown.nodes (by omega)
  have hR2 := rb_chg HR.out hc2 (by omega)
  have hcc2 := (hg1.chg (fun k => k = S)).trans hc2
  have hs2 := rb_lt hR2
  have c11 := hown.at_.c1
  have c12 := hown.at_.c2
  generalize hw3 : World.alloc w2 (.cells #[.slice (some ⟨g, 0, none⟩) n1 c1, .slice A2 n2 c2] 32) = w3
  have hg3 : Gr w2 w3 := by rw [← hw3]; exact (Gr.refl _).alloc _
  have hM3 : w3.heap[w2.heap.size]? = some (.cells #[.slice (some ⟨g, 0, none⟩) n1 c1, .slice A2 n2 c2] 32 (0, 0)) := by rw [← hw3]; exact heap_alloc_new w2 _
  obtain ⟨M, hM⟩ : ∃ M, M = w2.heap.size := ⟨_, rfl⟩
  rw [← hM] at hM3
  have Hw3 := Lib.hid hw3
  have HMe := Lib.hid hM
  have hMR : R < M := by omega
  have hgM : g < M := by omega
  have HO := Lib.hid (hown.gr hg3)
  have HD3 := Lib.hid (hd2.grow hg3)
  have HR3 := Lib.hid ((hg3.below.block R hs2).trans hR2)
  have hcc3 := hcc2.trans (hg3.chg (fun k => k = S))
  have HM3 := Lib.hid hM3
  clear hw3 hM hM3 HR hc2 hown hd2 hR2 hcc2 hs2
  go_wp2_with fail
  rw [Hw3.out, ← HMe.out]
  refine (l01Next_any (n1 : Int) HD3.out (by omega)).mono ?_
  rintro e w4 ⟨k, rfl, hk, hd4, hc4⟩
  have hk0 := hk.1
  have hk1 : k < (n1 : Int) := by
    rcases Int.lt_or_le 1 (n1 : Int) with h | h
    · exact hk.2.1 h
    · have := hk.2.2 h; omega
  have HD4 := Lib.hid hd4
  have HM4 := Lib.hid (rb_chg HM3.out hc4 (by omega))
  have HR4 := Lib.hid (rb_chg HR3.out hc4 (by omega))
  have hcc4 := hcc3.trans hc4
  have hnod4 := own_chg HO.out.nodes hc4 (fun j hj e => by have := own_low HO.out.nodes hj; omega)
  have hpip4 := own_chg HO.out.pipes hc4 (fun j hj e => by have := own_low HO.out.pipes hj; omega)
  have Hnod4 := Lib.hid hnod4
  have Hpip4 := Lib.hid hpip4
  have Hnm := Lib.hid HO.out.names
  clear hk hd4 hc4 HM3 HR3 hcc3 hnod4 hpip4 HD3 HO
  go_upto_region 3 with fail
  go_cut [13] from 5 (fun s13 wx => ∃ t : Int, s13 = .int .i64 t ∧ 0 ≤ t ∧ Drw w0 wx S ∧ Chg (fun j => j = S) w wx ∧ wx.heap[M]? = some (.cells #[.slice (some ⟨g, 0, none⟩) n1 c1, .slice A2 n2 c2] 32 (0, 0)) ∧ wx.heap[R]? = some (.cells #[.slice none 0 0, .slice none 0 0] 32 (0, 0)) ∧ OwnNet wx (R + 1) (some ⟨g, 0, none⟩) n1 c1 A2 n2 c2 n)
  case first =>
    go_wp2_with fail
    refine (l01Next_any 30 HD4.out (by omega)).mono ?_
    rintro e w5 ⟨t, rfl, ht, hd5, hc5⟩
    have HD5 := Lib.hid hd5
    have HM5 := Lib.hid (rb_chg HM4.out hc5 (by omega))
    have HR5 := Lib.hid (rb_chg HR4.out hc5 (by omega))
    have Hcc5 := Lib.hid (hcc4.trans hc5)
    have hnod5 := own_chg Hnod4.out hc5 (fun j hj e => by have := own_low Hnod4.out hj; omega)
    have hpip5 := own_chg Hpip4.out hc5 (fun j hj e => by have := own_low Hpip4.out hj; omega)
    have Hnet5 : Hid (OwnNet w5 (R + 1) (some ⟨g, 0, none⟩) n1 c1 A2 n2 c2 n) := Lib.hid ⟨own_base hnod5 (by omega), own_base hpip5 (by omega), Hnm.out, by omega, by omega⟩
    have ht0 := ht.1
    clear ht hd5 hc5 hnod5 hpip5
    go_wp2_with fail
    go_meet
    case rel => exact ⟨t, rfl, ht0, HD5.out, Hcc5.out, HM5.out, HR5.out, Hnet5.out⟩
  obtain ⟨t, rfl, ht0, hd5, hcc5, hM5, hR5, hnet5⟩ := hcut
  have hrow : ∀ wz : World, Drw w0 wz S → Chg (fun j => j = S) w wz → wz.heap[M]? = some (.cells #[.slice (some ⟨g, 0, none⟩) n1 c1, .slice A2 n2 c2] 32 (0, 0)) → wz.heap[R]? = some (.cells #[.slice none 0 0, .slice none 0 0] 32 (0, 0)) → ∀ q : GNet, OwnNet wz (R + 1) (some ⟨g, 0, none⟩) n1 c1 A2 n2 c2 q → EndAt w0 w wz S R M := fun wz h1 h2 h3 h4 q h5 => ⟨_, _, _, _, _, _, q, h3, h5, ⟨by omega, by omega⟩, h1, h2, h4⟩
  have Hrow := Lib.hid hrow
  have HD5 := Lib.hid hd5
  have HM5 := Lib.hid hM5
  have HR5 := Lib.hid hR5
  have Hnet5 := Lib.hid hnet5
  have m0 := rb_cell (j := 0) hM5 rfl
  have m1 := rb_cell (j := 1) hM5 rfl
  have n0 := rb_frozen hM5 0
  have n1' := rb_frozen hM5 1
  clear hrow hd5 hM5 hR5 hnet5 HD4 HM4 HR4 hcc4 Hnod4 Hpip4
  rename World => w5
  by_cases h4 : t = 4
  · subst h4
    by_cases hz : n2 = 0
    · subst hz
      have r0 := rb_cell (j := 0) HR5.out rfl
      have r1 := rb_cell (j := 1) HR5.out rfl
      have f0 := rb_frozen HR5.out 0
      have f1 := rb_frozen HR5.out 1
      have hcc : Chg (fun j => j = R) w5 ((w5.setCell ⟨R, 0, none⟩ (.slice (some ⟨g, 0, none⟩) n1 c1)).setCell ⟨R, 1, none⟩ (.slice A2 0 c2)) := (chg_put _ _).trans (chg_put _ _)
      have hO2 : OwnNet ((w5.setCell ⟨R, 0, none⟩ (.slice (some ⟨g, 0, none⟩) n1 c1)).setCell ⟨R, 1, none⟩ (.slice A2 0 c2)) w.heap.size (some ⟨g, 0, none⟩) n1 c1 A2 0 c2 n := ⟨own_base (own_chg Hnet5.out.nodes hcc (fun j hj e => by have := own_low Hnet5.out.nodes hj; omega)) (by omega), own_base (own_chg Hnet5.out.pipes hcc (fun j hj e => by have := own_low Hnet5.out.pipes hj; omega)) (by omega), Hnet5.out.names, Hnet5.out.m1, Hnet5.out.m2⟩
      have hbp : ((w5.setCell ⟨R, 0, none⟩ (.slice (some ⟨g, 0, none⟩) n1 c1)).setCell ⟨R, 1, none⟩ (.slice A2 0 c2)).heap[R]? = some (.cells #[.slice (some ⟨g, 0, none⟩) n1 c1, .slice A2 0 c2] 32 (0, 0)) := by simp [World.setCell, Array.getElem?_modify, HR5.out]
      have Hbp := Lib.hid hbp
      have HO2 := Lib.hid hO2
      have Hd := Lib.hid ((HD5.out.set (j := 0) (v := .slice (some ⟨g, 0, none⟩) n1 c1) hRw0 (by omega)).set (j := 1) (v := .slice A2 0 c2) hRw0 (by omega))
      have Hc := Lib.hid ((hcc5.fresh (j := 0) (v := .slice (some ⟨g, 0, none⟩) n1 c1) hRw).fresh (j := 1) (v := .slice A2 0 c2) hRw)
      clear hbp hO2 hcc
      go_wp2_with fail
      (try simp only [Exit.inBlock, Exit.then])
      refine bodyPost_ret (results_cell_row Tryz.results123 _ _ R 32 #[.slice (some ⟨g, 0, none⟩) n1 c1, .slice A2 0 c2] (0, 0) _ ?_ Hbp.out Tryz.underlying32 rfl (by kernel_rfl)) ?_ ?_
      · rfl
      · rfl
      first | exact ⟨_, _, _, _, _, _, rfl, ⟨n, HO2.out⟩, ⟨by omega, by omega⟩, Hd.out, Hc.out⟩ | exact ⟨_, _, _, _, _, _, n, rfl, HO2.out, ⟨by omega, by omega⟩, Hd.out, Hc.out⟩

    · obtain ⟨bq, hbq, hbb, hbl⟩ := own_form Hnet5.out.pipes (by omega)
      subst hbq
      have hgbq : g ≠ bq := fun e => by subst e; exact own_types Hnet5.out.nodes Hnet5.out.pipes (by decide) (by omega) (by omega)
      have hbR := own_low Hnet5.out.pipes (k := bq) rfl
      have hbM : bq ≠ M := fun e => by subst e; exact own_type_blk Hnet5.out.pipes HM5.out (by decide) (by omega)
      have Hpip5 := Lib.hid Hnet5.out.pipes
      have tp : 0 < n2 := by omega
      clear hz
      go_wp2_with fail
      have lit : ∀ x : Int, 0 ≤ x → x < 3 → ∃ v : Int, (#[.int .i64 0, .int .i64 1000, .int .i64 1001] : Array Value)[x.toNat]? = some (.int .i64 v) := by
        intro x h0 h1
        have : x = 0 ∨ x = 1 ∨ x = 2 := by omega
        rcases this with rfl | rfl | rfl
        · exact ⟨0, rfl⟩
        · exact ⟨1000, rfl⟩
        · exact ⟨1001, rfl⟩
      have Lit := Lib.hid lit
      have da : ∀ o, Drw w0 (w5.alloc o).drew S := fun o => HD5.out.grow ((Gr.refl _).alloc o).drew
      have db : Drw w0 w5.drew S := HD5.out.grow (Gr.refl _).drew
      have Da := Lib.hid da
      have Db := Lib.hid db
      have ma : ∀ o, (w5.alloc o).cell? ⟨M, 1, none⟩ = some (.slice (some ⟨bq, 0, none⟩) n2 c2) := fun o => ((Gr.refl _).alloc o).has m1
      clear lit da db
      have mb : ∀ W : World, Chg (fun j => j = S) w5.drew W → W.cell? ⟨M, 1, none⟩ = some (.slice (some ⟨bq, 0, none⟩) n2 c2) := fun W hc => chg_cell' hc ((Gr.refl w5).drew.has m1) (by simp only; omega)
      have mc : ∀ (o : Obj) (W : World), Chg (fun j => j = S) (w5.alloc o).drew W → W.cell? ⟨M, 1, none⟩ = some (.slice (some ⟨bq, 0, none⟩) n2 c2) := fun o W hc => chg_cell' hc (((Gr.refl w5).alloc o).drew.has m1) (by simp only; omega)
      have hw5S : S < w5.heap.size := HD5.out.lt
      have la : ∀ (x v : Int) (W : World), (#[.int .i64 0, .int .i64 1000, .int .i64 1001] : Array Value)[x.toNat]? = some (.int .i64 v) → Chg (fun j => j = S) (w5.alloc (.cells #[.int .i64 0, .int .i64 1000, .int .i64 1001] 2)).drew W → W.cell? ⟨w5.heap.size, x.toNat, none⟩ = some (.int .i64 v) := fun x v W hv hc => by
        refine chg_cell' hc ?_ (by simp only; omega)
        exact ((Gr.refl _).drew).has (rb_cell (heap_alloc_new w5 _) hv)
      have lb : ∀ (x v : Int) (W : World), (#[.int .i64 0, .int .i64 1000, .int .i64 1001] : Array Value)[x.toNat]? = some (.int .i64 v) → (W.alloc (.cells #[.int .i64 0, .int .i64 1000, .int .i64 1001] 2)).cell? ⟨W.heap.size, x.toNat, none⟩ = some (.int .i64 v) := fun x v W hv => rb_cell (heap_alloc_new W _) hv
      have mbA : ∀ (W : World) (o : Obj), W.cell? ⟨M, 1, none⟩ = some (.slice (some ⟨bq, 0, none⟩) n2 c2) → (W.alloc o).cell? ⟨M, 1, none⟩ = some (.slice (some ⟨bq, 0, none⟩) n2 c2) := fun W o h => ((Gr.refl W).alloc o).has h
      have pa : ∀ W : World, Chg (fun j => j = S) w5.drew W → (∃ z : Int, W.cell? ⟨bq, 2, none⟩ = some (.int .i64 z)) ∧ W.frozen? ⟨bq, 2, none⟩ = false := fun W hc => pk_cells (own_chg (own_gr Hpip5.out (Gr.refl w5).drew) hc (fun j hj e => by have := own_low Hpip5.out hj; omega)) (by omega) (by omega)
      have pb : ∀ (o : Obj) (W : World), Chg (fun j => j = S) (w5.alloc o).drew W → (∃ z : Int, W.cell? ⟨bq, 2, none⟩ = some (.int .i64 z)) ∧ W.frozen? ⟨bq, 2, none⟩ = false := fun o W hc => pk_cells (own_chg (own_gr Hpip5.out ((Gr.refl w5).alloc o).drew) hc (fun j hj e => by have := own_low Hpip5.out hj; omega)) (by omega) (by omega)
      have pc : ∀ (o : Obj) (W : World) (z : Int), W.cell? ⟨bq, 2, none⟩ = some (.int .i64 z) → (W.alloc o).cell? ⟨bq, 2, none⟩ = some (.int .i64 z) := fun o W z h => ((Gr.refl W).alloc o).has h
      have pd : ∀ (o : Obj) (W : World) (z : Int), W.cell? ⟨bq, 2, none⟩ = some (.int .i64 z) → W.frozen? ⟨bq, 2, none⟩ = false → (W.alloc o).frozen? ⟨bq, 2, none⟩ = false := fun o W z h h2 => (((Gr.refl W).alloc o).frozen (lt_of_cell h)).trans h2
      have Pa := Lib.hid pa
      have Pb := Lib.hid pb
      have Pc := Lib.hid pc
      have Pd := Lib.hid pd
      clear pa pb pc pd
      have ea : ∀ (v : Int) (W : World), Drw w0 W S → Chg (fun j => j = S) (w5.alloc (.cells #[.int .i64 0, .int .i64 1000, .int .i64 1001] 2)).drew W → EndAt w0 w (W.setCell ⟨bq, 2, none⟩ (.int .i64 v)) S R M := fun v W h1 h2 => end_pipe hRw hRw0 hSR hMR (by omega) hgM (by omega) (by omega) (by omega) (by omega) hcc5 (((Gr.refl w5).alloc _).drew) h1 h2 HM5.out HR5.out Hnet5.out hgbq
      have eb : ∀ (v : Int) (W : World), Drw w0 W S → Chg (fun j => j = S) w5.drew W → EndAt w0 w ((W.alloc (.cells #[.int .i64 0, .int .i64 1000, .int .i64 1001] 2)).setCell ⟨bq, 2, none⟩ (.int .i64 v)) S R M := fun v W h1 h2 => end_pipe (W := W.alloc _) hRw hRw0 hSR hMR (by omega) hgM (by omega) (by omega) (by omega) (by omega) hcc5 (Gr.refl w5).drew (h1.grow ((Gr.refl _).alloc _)) (h2.trans (((Gr.refl _).alloc _).chg _)) HM5.out HR5.out Hnet5.out hgbq
      have EndA := Lib.hid ea
      have EndB := Lib.hid eb
      clear ea eb
      have Mb := Lib.hid mb
      have Mc := Lib.hid mc
      have La := Lib.hid la
      have Lb := Lib.hid lb
      have MbA := Lib.hid mbA
      clear mb mc la lb mbA
      go_region_with (first
        | (go_at_call 102; with_reducible refine (l01Next_any 3 (Da.out _) (by omega)).mono ?_; rintro e w6 ⟨x, rfl, hx, hd6, hc6⟩; obtain ⟨x0, x1⟩ := hx.lt (by omega); obtain ⟨v, hv⟩ := Lit.out x x0 x1; have q1 := Mc.out _ w6 hc6; have q2 := La.out x v w6 hv hc6; obtain ⟨⟨z, q4⟩, q5⟩ := Pb.out _ w6 hc6; clear hv)
        | (go_at_call 102; with_reducible refine (l01Next_any 3 Db.out (by omega)).mono ?_; rintro e w6 ⟨x, rfl, hx, hd6, hc6⟩; obtain ⟨x0, x1⟩ := hx.lt (by omega); obtain ⟨v, hv⟩ := Lit.out x x0 x1; have q1 := Mb.out w6 hc6; have q2 := Lb.out x v w6 hv; have q3 := MbA.out w6 (.cells #[.int .i64 0, .int .i64 1000, .int .i64 1001] 2) q1; obtain ⟨⟨z, q4⟩, q5⟩ := Pa.out w6 hc6; have q6 := Pc.out (.cells #[.int .i64 0, .int .i64 1000, .int .i64 1001] 2) w6 z q4; have q7 := Pd.out (.cells #[.int .i64 0, .int .i64 1000, .int .i64 1001] 2) w6 z q4 q5; clear hv))

      all_goals
        (first
          | (have hend := EndA.out v w6 hd6 hc6)
          | (have hend := EndB.out v w6 hd6 hc6))
        clear q1 q2 q4 q5 m0 m1 n0 n1'
        (try clear q3 q6 q7)
        generalize World.setCell _ _ _ = w9 at hend ⊢
        obtain ⟨A1', n1', c1', A2', n2', c2', n', hM, hO, ⟨q1, q2⟩, hD, hC, hR⟩ := hend
        have m0 := rb_cell (j := 0) hM rfl
        have m1 := rb_cell (j := 1) hM rfl
        have r0 := rb_cell (j := 0) hR rfl
        have r1 := rb_cell (j := 1) hR rfl
        have f0 := rb_frozen hR 0
        have f1 := rb_frozen hR 1
        have hcc : Chg (fun j => j = R) w9 ((w9.setCell ⟨R, 0, none⟩ (.slice A1' n1' c1')).setCell ⟨R, 1, none⟩ (.slice A2' n2' c2')) := (chg_put _ _).trans (chg_put _ _)
        have hO2 : OwnNet ((w9.setCell ⟨R, 0, none⟩ (.slice A1' n1' c1')).setCell ⟨R, 1, none⟩ (.slice A2' n2' c2')) w.heap.size A1' n1' c1' A2' n2' c2' n' := ⟨own_base (own_chg hO.nodes hcc (fun j hj e => by have := own_low hO.nodes hj; omega)) (by omega), own_base (own_chg hO.pipes hcc (fun j hj e => by have := own_low hO.pipes hj; omega)) (by omega), hO.names, hO.m1, hO.m2⟩
        have hbp : ((w9.setCell ⟨R, 0, none⟩ (.slice A1' n1' c1')).setCell ⟨R, 1, none⟩ (.slice A2' n2' c2')).heap[R]? = some (.cells #[.slice A1' n1' c1', .slice A2' n2' c2'] 32 (0, 0)) := by simp [World.setCell, Array.getElem?_modify, hR]
        have Hbp := Lib.hid hbp
        have HO2 := Lib.hid hO2
        have Hd := Lib.hid ((hD.set (j := 0) (v := .slice A1' n1' c1') hRw0 (by omega)).set (j := 1) (v := .slice A2' n2' c2') hRw0 (by omega))
        have Hc := Lib.hid ((hC.fresh (j := 0) (v := .slice A1' n1' c1') hRw).fresh (j := 1) (v := .slice A2' n2' c2') hRw)
        clear hbp hO2 hO hD hC hcc hM hR
        go_wp2_with fail
        (try simp only [Exit.inBlock, Exit.then])
        refine bodyPost_ret (results_cell_row Tryz.results123 _ _ R 32 #[.slice A1' n1' c1', .slice A2' n2' c2'] (0, 0) _ ?_ Hbp.out Tryz.underlying32 rfl (by kernel_rfl)) ?_ ?_
        · rfl
        · rfl
        first | exact ⟨_, _, _, _, _, _, rfl, ⟨n', HO2.out⟩, ⟨q1, q2⟩, Hd.out, Hc.out⟩ | exact ⟨_, _, _, _, _, _, n', rfl, HO2.out, ⟨q1, q2⟩, Hd.out, Hc.out⟩

  by_cases h5 : t = 5
  · subst h5
    by_cases hz : n2 = 0
    · subst hz
      have r0 := rb_cell (j := 0) HR5.out rfl
      have r1 := rb_cell (j := 1) HR5.out rfl
      have f0 := rb_frozen HR5.out 0
      have f1 := rb_frozen HR5.out 1
      have hcc : Chg (fun j => j = R) w5 ((w5.setCell ⟨R, 0, none⟩ (.slice (some ⟨g, 0, none⟩) n1 c1)).setCell ⟨R, 1, none⟩ (.slice A2 0 c2)) := (chg_put _ _).trans (chg_put _ _)
      have hO2 : OwnNet ((w5.setCell ⟨R, 0, none⟩ (.slice (some ⟨g, 0, none⟩) n1 c1)).setCell ⟨R, 1, none⟩ (.slice A2 0 c2)) w.heap.size (some ⟨g, 0, none⟩) n1 c1 A2 0 c2 n := ⟨own_base (own_chg Hnet5.out.nodes hcc (fun j hj e => by have := own_low Hnet5.out.nodes hj; omega)) (by omega), own_base (own_chg Hnet5.out.pipes hcc (fun j hj e => by have := own_low Hnet5.out.pipes hj; omega)) (by omega), Hnet5.out.names, Hnet5.out.m1, Hnet5.out.m2⟩
      have hbp : ((w5.setCell ⟨R, 0, none⟩ (.slice (some ⟨g, 0, none⟩) n1 c1)).setCell ⟨R, 1, none⟩ (.slice A2 0 c2)).heap[R]? = some (.cells #[.slice (some ⟨g, 0, none⟩) n1 c1, .slice A2 0 c2] 32 (0, 0)) := by simp [World.setCell, Array.getElem?_modify, HR5.out]
      have Hbp := Lib.hid hbp
      have HO2 := Lib.hid hO2
      have Hd := Lib.hid ((HD5.out.set (j := 0) (v := .slice (some ⟨g, 0, none⟩) n1 c1) hRw0 (by omega)).set (j := 1) (v := .slice A2 0 c2) hRw0 (by omega))
      have Hc := Lib.hid ((hcc5.fresh (j := 0) (v := .slice (some ⟨g, 0, none⟩) n1 c1) hRw).fresh (j := 1) (v := .slice A2 0 c2) hRw)
      clear hbp hO2 hcc
      go_wp2_with fail
      (try simp only [Exit.inBlock, Exit.then])
      refine bodyPost_ret (results_cell_row Tryz.results123 _ _ R 32 #[.slice (some ⟨g, 0, none⟩) n1 c1, .slice A2 0 c2] (0, 0) _ ?_ Hbp.out Tryz.underlying32 rfl (by kernel_rfl)) ?_ ?_
      · rfl
      · rfl
      first | exact ⟨_, _, _, _, _, _, rfl, ⟨n, HO2.out⟩, ⟨by omega, by omega⟩, Hd.out, Hc.out⟩ | exact ⟨_, _, _, _, _, _, n, rfl, HO2.out, ⟨by omega, by omega⟩, Hd.out, Hc.out⟩

    · obtain ⟨bq, hbq, hbb, hbl⟩ := own_form Hnet5.out.pipes (by omega)
      subst hbq
      have hgbq : g ≠ bq := fun e => by subst e; exact own_types Hnet5.out.nodes Hnet5.out.pipes (by decide) (by omega) (by omega)
      have hbR := own_low Hnet5.out.pipes (k := bq) rfl
      have hbM : bq ≠ M := fun e => by subst e; exact own_type_blk Hnet5.out.pipes HM5.out (by decide) (by omega)
      have Hpip5 := Lib.hid Hnet5.out.pipes
      have tp : 0 < n2 := by omega
      clear hz
      go_wp2_with fail
      have lit : ∀ x : Int, 0 ≤ x → x < 3 → ∃ v : Int, (#[.int .i64 0, .int .i64 30000, .int .i64 30001] : Array Value)[x.toNat]? = some (.int .i64 v) := by
        intro x h0 h1
        have : x = 0 ∨ x = 1 ∨ x = 2 := by omega
        rcases this with rfl | rfl | rfl
        · exact ⟨0, rfl⟩
        · exact ⟨30000, rfl⟩
        · exact ⟨30001, rfl⟩
      have Lit := Lib.hid lit
      have da : ∀ o, Drw w0 (w5.alloc o).drew S := fun o => HD5.out.grow ((Gr.refl _).alloc o).drew
      have db : Drw w0 w5.drew S := HD5.out.grow (Gr.refl _).drew
      have Da := Lib.hid da
      have Db := Lib.hid db
      have ma : ∀ o, (w5.alloc o).cell? ⟨M, 1, none⟩ = some (.slice (some ⟨bq, 0, none⟩) n2 c2) := fun o => ((Gr.refl _).alloc o).has m1
      clear lit da db
      have mb : ∀ W : World, Chg (fun j => j = S) w5.drew W → W.cell? ⟨M, 1, none⟩ = some (.slice (some ⟨bq, 0, none⟩) n2 c2) := fun W hc => chg_cell' hc ((Gr.refl w5).drew.has m1) (by simp only; omega)
      have mc : ∀ (o : Obj) (W : World), Chg (fun j => j = S) (w5.alloc o).drew W → W.cell? ⟨M, 1, none⟩ = some (.slice (some ⟨bq, 0, none⟩) n2 c2) := fun o W hc => chg_cell' hc (((Gr.refl w5).alloc o).drew.has m1) (by simp only; omega)
      have hw5S : S < w5.heap.size := HD5.out.lt
      have la : ∀ (x v : Int) (W : World), (#[.int .i64 0, .int .i64 30000, .int .i64 30001] : Array Value)[x.toNat]? = some (.int .i64 v) → Chg (fun j => j = S) (w5.alloc (.cells #[.int .i64 0, .int .i64 30000, .int .i64 30001] 2)).drew W → W.cell? ⟨w5.heap.size, x.toNat, none⟩ = some (.int .i64 v) := fun x v W hv hc => by
        refine chg_cell' hc ?_ (by simp only; omega)
        exact ((Gr.refl _).drew).has (rb_cell (heap_alloc_new w5 _) hv)
      have lb : ∀ (x v : Int) (W : World), (#[.int .i64 0, .int .i64 30000, .int .i64 30001] : Array Value)[x.toNat]? = some (.int .i64 v) → (W.alloc (.cells #[.int .i64 0, .int .i64 30000, .int .i64 30001] 2)).cell? ⟨W.heap.size, x.toNat, none⟩ = some (.int .i64 v) := fun x v W hv => rb_cell (heap_alloc_new W _) hv
      have mbA : ∀ (W : World) (o : Obj), W.cell? ⟨M, 1, none⟩ = some (.slice (some ⟨bq, 0, none⟩) n2 c2) → (W.alloc o).cell? ⟨M, 1, none⟩ = some (.slice (some ⟨bq, 0, none⟩) n2 c2) := fun W o h => ((Gr.refl W).alloc o).has h
      have pa : ∀ W : World, Chg (fun j => j = S) w5.drew W → (∃ z : Int, W.cell? ⟨bq, 4, none⟩ = some (.int .i64 z)) ∧ W.frozen? ⟨bq, 4, none⟩ = false := fun W hc => pk_cells (own_chg (own_gr Hpip5.out (Gr.refl w5).drew) hc (fun j hj e => by have := own_low Hpip5.out hj; omega)) (by omega) (by omega)
      have pb : ∀ (o : Obj) (W : World), Chg (fun j => j = S) (w5.alloc o).drew W → (∃ z : Int, W.cell? ⟨bq, 4, none⟩ = some (.int .i64 z)) ∧ W.frozen? ⟨bq, 4, none⟩ = false := fun o W hc => pk_cells (own_chg (own_gr Hpip5.out ((Gr.refl w5).alloc o).drew) hc (fun j hj e => by have := own_low Hpip5.out hj; omega)) (by omega) (by omega)
      have pc : ∀ (o : Obj) (W : World) (z : Int), W.cell? ⟨bq, 4, none⟩ = some (.int .i64 z) → (W.alloc o).cell? ⟨bq, 4, none⟩ = some (.int .i64 z) := fun o W z h => ((Gr.refl W).alloc o).has h
      have pd : ∀ (o : Obj) (W : World) (z : Int), W.cell? ⟨bq, 4, none⟩ = some (.int .i64 z) → W.frozen? ⟨bq, 4, none⟩ = false → (W.alloc o).frozen? ⟨bq, 4, none⟩ = false := fun o W z h h2 => (((Gr.refl W).alloc o).frozen (lt_of_cell h)).trans h2
      have Pa := Lib.hid pa
      have Pb := Lib.hid pb
      have Pc := Lib.hid pc
      have Pd := Lib.hid pd
      clear pa pb pc pd
      have ea : ∀ (v : Int) (W : World), Drw w0 W S → Chg (fun j => j = S) (w5.alloc (.cells #[.int .i64 0, .int .i64 30000, .int .i64 30001] 2)).drew W → EndAt w0 w (W.setCell ⟨bq, 4, none⟩ (.int .i64 v)) S R M := fun v W h1 h2 => end_pipe hRw hRw0 hSR hMR (by omega) hgM (by omega) (by omega) (by omega) (by omega) hcc5 (((Gr.refl w5).alloc _).drew) h1 h2 HM5.out HR5.out Hnet5.out hgbq
      have eb : ∀ (v : Int) (W : World), Drw w0 W S → Chg (fun j => j = S) w5.drew W → EndAt w0 w ((W.alloc (.cells #[.int .i64 0, .int .i64 30000, .int .i64 30001] 2)).setCell ⟨bq, 4, none⟩ (.int .i64 v)) S R M := fun v W h1 h2 => end_pipe (W := W.alloc _) hRw hRw0 hSR hMR (by omega) hgM (by omega) (by omega) (by omega) (by omega) hcc5 (Gr.refl w5).drew (h1.grow ((Gr.refl _).alloc _)) (h2.trans (((Gr.refl _).alloc _).chg _)) HM5.out HR5.out Hnet5.out hgbq
      have EndA := Lib.hid ea
      have EndB := Lib.hid eb
      clear ea eb
      have Mb := Lib.hid mb
      have Mc := Lib.hid mc
      have La := Lib.hid la
      have Lb := Lib.hid lb
      have MbA := Lib.hid mbA
      clear mb mc la lb mbA
      go_region_with (first
        | (go_at_call 102; with_reducible refine (l01Next_any 3 (Da.out _) (by omega)).mono ?_; rintro e w6 ⟨x, rfl, hx, hd6, hc6⟩; obtain ⟨x0, x1⟩ := hx.lt (by omega); obtain ⟨v, hv⟩ := Lit.out x x0 x1; have q1 := Mc.out _ w6 hc6; have q2 := La.out x v w6 hv hc6; obtain ⟨⟨z, q4⟩, q5⟩ := Pb.out _ w6 hc6; clear hv)
        | (go_at_call 102; with_reducible refine (l01Next_any 3 Db.out (by omega)).mono ?_; rintro e w6 ⟨x, rfl, hx, hd6, hc6⟩; obtain ⟨x0, x1⟩ := hx.lt (by omega); obtain ⟨v, hv⟩ := Lit.out x x0 x1; have q1 := Mb.out w6 hc6; have q2 := Lb.out x v w6 hv; have q3 := MbA.out w6 (.cells #[.int .i64 0, .int .i64 30000, .int .i64 30001] 2) q1; obtain ⟨⟨z, q4⟩, q5⟩ := Pa.out w6 hc6; have q6 := Pc.out (.cells #[.int .i64 0, .int .i64 30000, .int .i64 30001] 2) w6 z q4; have q7 := Pd.out (.cells #[.int .i64 0, .int .i64 30000, .int .i64 30001] 2) w6 z q4 q5; clear hv))

      all_goals
        (first
          | (have hend := EndA.out v w6 hd6 hc6)
          | (have hend := EndB.out v w6 hd6 hc6))
        clear q1 q2 q4 q5 m0 m1 n0 n1'
        (try clear q3 q6 q7)
        generalize World.setCell _ _ _ = w9 at hend ⊢
        obtain ⟨A1', n1', c1', A2', n2', c2', n', hM, hO, ⟨q1, q2⟩, hD, hC, hR⟩ := hend
        have m0 := rb_cell (j := 0) hM rfl
        have m1 := rb_cell (j := 1) hM rfl
        have r0 := rb_cell (j := 0) hR rfl
        have r1 := rb_cell (j := 1) hR rfl
        have f0 := rb_frozen hR 0
        have f1 := rb_frozen hR 1
        have hcc : Chg (fun j => j = R) w9 ((w9.setCell ⟨R, 0, none⟩ (.slice A1' n1' c1')).setCell ⟨R, 1, none⟩ (.slice A2' n2' c2')) := (chg_put _ _).trans (chg_put _ _)
        have hO2 : OwnNet ((w9.setCell ⟨R, 0, none⟩ (.slice A1' n1' c1')).setCell ⟨R, 1, none⟩ (.slice A2' n2' c2')) w.heap.size A1' n1' c1' A2' n2' c2' n' := ⟨own_base (own_chg hO.nodes hcc (fun j hj e => by have := own_low hO.nodes hj; omega)) (by omega), own_base (own_chg hO.pipes hcc (fun j hj e => by have := own_low hO.pipes hj; omega)) (by omega), hO.names, hO.m1, hO.m2⟩
        have hbp : ((w9.setCell ⟨R, 0, none⟩ (.slice A1' n1' c1')).setCell ⟨R, 1, none⟩ (.slice A2' n2' c2')).heap[R]? = some (.cells #[.slice A1' n1' c1', .slice A2' n2' c2'] 32 (0, 0)) := by simp [World.setCell, Array.getElem?_modify, hR]
        have Hbp := Lib.hid hbp
        have HO2 := Lib.hid hO2
        have Hd := Lib.hid ((hD.set (j := 0) (v := .slice A1' n1' c1') hRw0 (by omega)).set (j := 1) (v := .slice A2' n2' c2') hRw0 (by omega))
        have Hc := Lib.hid ((hC.fresh (j := 0) (v := .slice A1' n1' c1') hRw).fresh (j := 1) (v := .slice A2' n2' c2') hRw)
        clear hbp hO2 hO hD hC hcc hM hR
        go_wp2_with fail
        (try simp only [Exit.inBlock, Exit.then])
        refine bodyPost_ret (results_cell_row Tryz.results123 _ _ R 32 #[.slice A1' n1' c1', .slice A2' n2' c2'] (0, 0) _ ?_ Hbp.out Tryz.underlying32 rfl (by kernel_rfl)) ?_ ?_
        · rfl
        · rfl
        first | exact ⟨_, _, _, _, _, _, rfl, ⟨n', HO2.out⟩, ⟨q1, q2⟩, Hd.out, Hc.out⟩ | exact ⟨_, _, _, _, _, _, n', rfl, HO2.out, ⟨q1, q2⟩, Hd.out, Hc.out⟩

  by_cases h6 : t = 6
  · subst h6
    have hend : EndAt w0 w (w5.setCell ⟨M, 0, none⟩ (.slice none 0 0)) S R M := end_nil hRw hRw0 hSR hMR (by omega) hcc5 HD5.out HM5.out HR5.out Hnet5.out
    go_upto_region 20 with fail
    generalize World.setCell w5 _ _ = wx at hend ⊢
    clear m0 m1 n0 n1'
    obtain ⟨A1', n1', c1', A2', n2', c2', n', hM, hO, ⟨q1, q2⟩, hD, hC, hR⟩ := hend
    have m0 := rb_cell (j := 0) hM rfl
    have m1 := rb_cell (j := 1) hM rfl
    have r0 := rb_cell (j := 0) hR rfl
    have r1 := rb_cell (j := 1) hR rfl
    have f0 := rb_frozen hR 0
    have f1 := rb_frozen hR 1
    have hcc : Chg (fun j => j = R) wx ((wx.setCell ⟨R, 0, none⟩ (.slice A1' n1' c1')).setCell ⟨R, 1, none⟩ (.slice A2' n2' c2')) := (chg_put _ _).trans (chg_put _ _)
    have hO2 : OwnNet ((wx.setCell ⟨R, 0, none⟩ (.slice A1' n1' c1')).setCell ⟨R, 1, none⟩ (.slice A2' n2' c2')) w.heap.size A1' n1' c1' A2' n2' c2' n' := ⟨own_base (own_chg hO.nodes hcc (fun j hj e => by have := own_low hO.nodes hj; omega)) (by omega), own_base (own_chg hO.pipes hcc (fun j hj e => by have := own_low hO.pipes hj; omega)) (by omega), hO.names, hO.m1, hO.m2⟩
    have hbp : ((wx.setCell ⟨R, 0, none⟩ (.slice A1' n1' c1')).setCell ⟨R, 1, none⟩ (.slice A2' n2' c2')).heap[R]? = some (.cells #[.slice A1' n1' c1', .slice A2' n2' c2'] 32 (0, 0)) := by simp [World.setCell, Array.getElem?_modify, hR]
    have Hbp := Lib.hid hbp
    have HO2 := Lib.hid hO2
    have Hd := Lib.hid ((hD.set (j := 0) (v := .slice A1' n1' c1') hRw0 (by omega)).set (j := 1) (v := .slice A2' n2' c2') hRw0 (by omega))
    have Hc := Lib.hid ((hC.fresh (j := 0) (v := .slice A1' n1' c1') hRw).fresh (j := 1) (v := .slice A2' n2' c2') hRw)
    clear hbp hO2 hO hD hC hcc hM hR
    go_wp2_with fail
    (try simp only [Exit.inBlock, Exit.then])
    refine bodyPost_ret (results_cell_row Tryz.results123 _ _ R 32 #[.slice A1' n1' c1', .slice A2' n2' c2'] (0, 0) _ ?_ Hbp.out Tryz.underlying32 rfl (by kernel_rfl)) ?_ ?_
    · rfl
    · rfl
    first | exact ⟨_, _, _, _, _, _, rfl, ⟨n', HO2.out⟩, ⟨q1, q2⟩, Hd.out, Hc.out⟩ | exact ⟨_, _, _, _, _, _, n', rfl, HO2.out, ⟨q1, q2⟩, Hd.out, Hc.out⟩

  by_cases h0 : t = 0
  · subst h0
    obtain ⟨K, hK⟩ : ∃ K : Nat, k = (K : Int) := ⟨k.toNat, by omega⟩
    subst hK
    have hKn : K < n1 := by omega
    obtain ⟨x0, hx0⟩ : ∃ x, n.nodes[K]? = some x := ⟨_, List.getElem?_eq_getElem (by have := Hnet5.out.at_.l1; omega)⟩
    have Hx0 := Lib.hid hx0
    have t1 : (K : Int) < (n1 : Int) := by omega
    have t0 : (0 : Int) ≤ (K : Int) := by omega
    have hgR := own_low Hnet5.out.nodes (k := g) rfl
    have lit : ∀ x : Int, 0 ≤ x → x < 5 → ∃ s : ByteArray, (#[.string ⟨#[]⟩, .string ⟨#[110, 48]⟩, .string ⟨#[110, 105, 110, 101, 99, 104, 97, 114, 115]⟩, .string ⟨#[101, 105, 103, 104, 116, 99, 104, 97]⟩, .string ⟨#[78]⟩] : Array Value)[x.toNat]? = some (.string s) ∧ s.size ≤ maxLen := by
      intro x h0 h1
      have : x = 0 ∨ x = 1 ∨ x = 2 ∨ x = 3 ∨ x = 4 := by omega
      rcases this with rfl | rfl | rfl | rfl | rfl <;> exact ⟨_, rfl, by decide⟩
    have Lit := Lib.hid lit
    have hw5S : S < w5.heap.size := HD5.out.lt
    have hnd : ∀ W : World, W.ownsRow (R + 1) 62 3 (.slice (some ⟨g, 0, none⟩) n1 c1) n1 (n.nodes.flatMap GNode.cells) → W.cell? ⟨g, K * 3, none⟩ = some (.string x0.name) ∧ W.frozen? ⟨g, K * 3, none⟩ = false := fun W h => by
      obtain ⟨a, _, _, b, _⟩ := own_nd h Hx0.out
      exact ⟨a, b⟩
    have da : ∀ o, Drw w0 (w5.alloc o).drew S := fun o => HD5.out.grow ((Gr.refl _).alloc o).drew
    have db : Drw w0 w5.drew S := HD5.out.grow (Gr.refl _).drew
    have ma : ∀ o, (w5.alloc o).cell? ⟨M, 0, none⟩ = some (.slice (some ⟨g, 0, none⟩) n1 c1) := fun o => ((Gr.refl _).alloc o).has m0
    have mb : ∀ W : World, Chg (fun j => j = S) w5.drew W → W.cell? ⟨M, 0, none⟩ = some (.slice (some ⟨g, 0, none⟩) n1 c1) := fun W hc => chg_cell' hc ((Gr.refl w5).drew.has m0) (by simp only; omega)
    have mc : ∀ (o : Obj) (W : World), Chg (fun j => j = S) (w5.alloc o).drew W → W.cell? ⟨M, 0, none⟩ = some (.slice (some ⟨g, 0, none⟩) n1 c1) := fun o W hc => chg_cell' hc (((Gr.refl w5).alloc o).drew.has m0) (by simp only; omega)
    have la : ∀ (x : Int) (v : ByteArray) (W : World), (#[.string ⟨#[]⟩, .string ⟨#[110, 48]⟩, .string ⟨#[110, 105, 110, 101, 99, 104, 97, 114, 115]⟩, .string ⟨#[101, 105, 103, 104, 116, 99, 104, 97]⟩, .string ⟨#[78]⟩] : Array Value)[x.toNat]? = some (.string v) → Chg (fun j => j = S) (w5.alloc (.cells #[.string ⟨#[]⟩, .string ⟨#[110, 48]⟩, .string ⟨#[110, 105, 110, 101, 99, 104, 97, 114, 115]⟩, .string ⟨#[101, 105, 103, 104, 116, 99, 104, 97]⟩, .string ⟨#[78]⟩] 9)).drew W → W.cell? ⟨w5.heap.size, x.toNat, none⟩ = some (.string v) := fun x v W hv hc => by
      refine chg_cell' hc ?_ (by simp only; omega)
      exact ((Gr.refl _).drew).has (rb_cell (heap_alloc_new w5 _) hv)
    have lb : ∀ (x : Int) (v : ByteArray) (W : World), (#[.string ⟨#[]⟩, .string ⟨#[110, 48]⟩, .string ⟨#[110, 105, 110, 101, 99, 104, 97, 114, 115]⟩, .string ⟨#[101, 105, 103, 104, 116, 99, 104, 97]⟩, .string ⟨#[78]⟩] : Array Value)[x.toNat]? = some (.string v) → (W.alloc (.cells #[.string ⟨#[]⟩, .string ⟨#[110, 48]⟩, .string ⟨#[110, 105, 110, 101, 99, 104, 97, 114, 115]⟩, .string ⟨#[101, 105, 103, 104, 116, 99, 104, 97]⟩, .string ⟨#[78]⟩] 9)).cell? ⟨W.heap.size, x.toNat, none⟩ = some (.string v) := fun x v W hv => rb_cell (heap_alloc_new W _) hv
    have mbA : ∀ (W : World) (o : Obj), W.cell? ⟨M, 0, none⟩ = some (.slice (some ⟨g, 0, none⟩) n1 c1) → (W.alloc o).cell? ⟨M, 0, none⟩ = some (.slice (some ⟨g, 0, none⟩) n1 c1) := fun W o h => ((Gr.refl W).alloc o).has h
    have pa : ∀ W : World, Chg (fun j => j = S) w5.drew W → W.cell? ⟨g, K * 3, none⟩ = some (.string x0.name) ∧ W.frozen? ⟨g, K * 3, none⟩ = false := fun W hc => hnd W (own_chg (own_gr Hnet5.out.nodes (Gr.refl w5).drew) hc (fun j hj e => by have := own_low Hnet5.out.nodes hj; omega))
    have pb : ∀ (o : Obj) (W : World), Chg (fun j => j = S) (w5.alloc o).drew W → W.cell? ⟨g, K * 3, none⟩ = some (.string x0.name) ∧ W.frozen? ⟨g, K * 3, none⟩ = false := fun o W hc => hnd W (own_chg (own_gr Hnet5.out.nodes ((Gr.refl w5).alloc o).drew) hc (fun j hj e => by have := own_low Hnet5.out.nodes hj; omega))
    have pc : ∀ (o : Obj) (W : World), W.cell? ⟨g, K * 3, none⟩ = some (.string x0.name) → (W.alloc o).cell? ⟨g, K * 3, none⟩ = some (.string x0.name) := fun o W h => ((Gr.refl W).alloc o).has h
    have pd : ∀ (o : Obj) (W : World), W.cell? ⟨g, K * 3, none⟩ = some (.string x0.name) → W.frozen? ⟨g, K * 3, none⟩ = false → (W.alloc o).frozen? ⟨g, K * 3, none⟩ = false := fun o W h h2 => (((Gr.refl W).alloc o).frozen (lt_of_cell h)).trans h2
    have ea : ∀ (v : ByteArray) (W : World), v.size ≤ maxLen → Drw w0 W S → Chg (fun j => j = S) (w5.alloc (.cells #[.string ⟨#[]⟩, .string ⟨#[110, 48]⟩, .string ⟨#[110, 105, 110, 101, 99, 104, 97, 114, 115]⟩, .string ⟨#[101, 105, 103, 104, 116, 99, 104, 97]⟩, .string ⟨#[78]⟩] 9)).drew W → EndAt w0 w (W.setCell ⟨g, K * 3, none⟩ (.string v)) S R M := fun v W hs h1 h2 => end_node hRw hRw0 hSR hMR (by omega) (by omega) (by omega) hcc5 (((Gr.refl w5).alloc _).drew) h1 h2 HM5.out HR5.out Hnet5.out (nd_name _ K x0 v Hx0.out) (nd_names Hnet5.out.names hs)
    have eb : ∀ (v : ByteArray) (W : World), v.size ≤ maxLen → Drw w0 W S → Chg (fun j => j = S) w5.drew W → EndAt w0 w ((W.alloc (.cells #[.string ⟨#[]⟩, .string ⟨#[110, 48]⟩, .string ⟨#[110, 105, 110, 101, 99, 104, 97, 114, 115]⟩, .string ⟨#[101, 105, 103, 104, 116, 99, 104, 97]⟩, .string ⟨#[78]⟩] 9)).setCell ⟨g, K * 3, none⟩ (.string v)) S R M := fun v W hs h1 h2 => end_node (W := W.alloc _) hRw hRw0 hSR hMR (by omega) (by omega) (by omega) hcc5 (Gr.refl w5).drew (h1.grow ((Gr.refl _).alloc _)) (h2.trans (((Gr.refl _).alloc _).chg _)) HM5.out HR5.out Hnet5.out (nd_name _ K x0 v Hx0.out) (nd_names Hnet5.out.names hs)
    have Da := Lib.hid da
    have Db := Lib.hid db
    have Mb := Lib.hid mb
    have Mc := Lib.hid mc
    have La := Lib.hid la
    have Lb := Lib.hid lb
    have MbA := Lib.hid mbA
    have Pa := Lib.hid pa
    have Pb := Lib.hid pb
    have Pc := Lib.hid pc
    have Pd := Lib.hid pd
    have EndA := Lib.hid ea
    have EndB := Lib.hid eb
    clear lit da db mb mc la lb mbA pa pb pc pd ea eb hnd hx0
    go_wp2_with fail
    go_region_with (first
      | (go_at_call 102; with_reducible refine (l01Next_any 5 (Da.out _) (by omega)).mono ?_; rintro e w6 ⟨x, rfl, hx, hd6, hc6⟩; obtain ⟨xa, xb⟩ := hx.lt (by omega); obtain ⟨v, hv, hvs⟩ := Lit.out x xa xb; have q1 := Mc.out _ w6 hc6; have q2 := La.out x v w6 hv hc6; obtain ⟨q4, q5⟩ := Pb.out _ w6 hc6; clear hv)
      | (go_at_call 102; with_reducible refine (l01Next_any 5 Db.out (by omega)).mono ?_; rintro e w6 ⟨x, rfl, hx, hd6, hc6⟩; obtain ⟨xa, xb⟩ := hx.lt (by omega); obtain ⟨v, hv, hvs⟩ := Lit.out x xa xb; have q1 := Mb.out w6 hc6; have q2 := Lb.out x v w6 hv; have q3 := MbA.out w6 (.cells #[.string ⟨#[]⟩, .string ⟨#[110, 48]⟩, .string ⟨#[110, 105, 110, 101, 99, 104, 97, 114, 115]⟩, .string ⟨#[101, 105, 103, 104, 116, 99, 104, 97]⟩, .string ⟨#[78]⟩] 9) q1; obtain ⟨q4, q5⟩ := Pa.out w6 hc6; have q6 := Pc.out (.cells #[.string ⟨#[]⟩, .string ⟨#[110, 48]⟩, .string ⟨#[110, 105, 110, 101, 99, 104, 97, 114, 115]⟩, .string ⟨#[101, 105, 103, 104, 116, 99, 104, 97]⟩, .string ⟨#[78]⟩] 9) w6 q4; have q7 := Pd.out (.cells #[.string ⟨#[]⟩, .string ⟨#[110, 48]⟩, .string ⟨#[110, 105, 110, 101, 99, 104, 97, 114, 115]⟩, .string ⟨#[101, 105, 103, 104, 116, 99, 104, 97]⟩, .string ⟨#[78]⟩] 9) w6 q4 q5; clear hv))
    all_goals
      (first
        | (have hend := EndA.out v w6 hvs hd6 hc6)
        | (have hend := EndB.out v w6 hvs hd6 hc6))
      clear q1 q2 q4 q5 m0 m1 n0 n1' ma
      (try clear q3 q6 q7)
      generalize World.setCell _ _ _ = w9 at hend ⊢
      obtain ⟨A1', n1', c1', A2', n2', c2', n', hM, hO, ⟨q1, q2⟩, hD, hC, hR⟩ := hend
      have m0 := rb_cell (j := 0) hM rfl
      have m1 := rb_cell (j := 1) hM rfl
      have r0 := rb_cell (j := 0) hR rfl
      have r1 := rb_cell (j := 1) hR rfl
      have f0 := rb_frozen hR 0
      have f1 := rb_frozen hR 1
      have hcc : Chg (fun j => j = R) w9 ((w9.setCell ⟨R, 0, none⟩ (.slice A1' n1' c1')).setCell ⟨R, 1, none⟩ (.slice A2' n2' c2')) := (chg_put _ _).trans (chg_put _ _)
      have hO2 : OwnNet ((w9.setCell ⟨R, 0, none⟩ (.slice A1' n1' c1')).setCell ⟨R, 1, none⟩ (.slice A2' n2' c2')) w.heap.size A1' n1' c1' A2' n2' c2' n' := ⟨own_base (own_chg hO.nodes hcc (fun j hj e => by have := own_low hO.nodes hj; omega)) (by omega), own_base (own_chg hO.pipes hcc (fun j hj e => by have := own_low hO.pipes hj; omega)) (by omega), hO.names, hO.m1, hO.m2⟩
      have hbp : ((w9.setCell ⟨R, 0, none⟩ (.slice A1' n1' c1')).setCell ⟨R, 1, none⟩ (.slice A2' n2' c2')).heap[R]? = some (.cells #[.slice A1' n1' c1', .slice A2' n2' c2'] 32 (0, 0)) := by simp [World.setCell, Array.getElem?_modify, hR]
      have Hbp := Lib.hid hbp
      have HO2 := Lib.hid hO2
      have Hd := Lib.hid ((hD.set (j := 0) (v := .slice A1' n1' c1') hRw0 (by omega)).set (j := 1) (v := .slice A2' n2' c2') hRw0 (by omega))
      have Hc := Lib.hid ((hC.fresh (j := 0) (v := .slice A1' n1' c1') hRw).fresh (j := 1) (v := .slice A2' n2' c2') hRw)
      clear hbp hO2 hO hD hC hcc hM hR
      go_wp2_with fail
      (try simp only [Exit.inBlock, Exit.then])
      refine bodyPost_ret (results_cell_row Tryz.results123 _ _ R 32 #[.slice A1' n1' c1', .slice A2' n2' c2'] (0, 0) _ ?_ Hbp.out Tryz.underlying32 rfl (by kernel_rfl)) ?_ ?_
      · rfl
      · rfl
      first | exact ⟨_, _, _, _, _, _, rfl, ⟨n', HO2.out⟩, ⟨q1, q2⟩, Hd.out, Hc.out⟩ | exact ⟨_, _, _, _, _, _, n', rfl, HO2.out, ⟨q1, q2⟩, Hd.out, Hc.out⟩

  by_cases h2 : t = 2
  · subst h2
    have hMl := rb_lt HM5.out
    go_upto_region 20 with (at_builtin; (refine wpList_append_lies _ rfl _ _ _ rfl (R + 1) 95 i1 _ 5 40 Tryz.underlying30 hi1 hv0 hv1 hv2 rfl (by omega) _ n2 _ rfl (Hnet5.out.pipes.alloc _) ⟨w5.heap.size, 0, none⟩ 1 1 [.int .i64 k, .int .i64 k, .int .i64 1, .int .i64 0, .int .i64 1] rfl rfl (World.news_of_block (cs := #[.int .i64 k, .int .i64 k, .int .i64 1, .int .i64 0, .int .i64 1]) (t := 95) (fr := (0, 0)) (heap_alloc_new w5 _)) (by simp [Value.oneCell']) (by omega) (by unfold maxLen; omega) (by omega) (by simp; omega) (w5.heap.size + 1) (by simp) ?_; intro g9 cap9 w9 ho9 hg9 hat9 hlt9; obtain ⟨hM9, hend⟩ := end_app (p := ⟨k, k, 1, 0, 1⟩) hRw hRw0 hSR hMR (by omega) hcc5 HD5.out HM5.out HR5.out Hnet5.out ho9 hg9; have m9 := rb_cell (j := 1) hM9 rfl; have n9 := rb_frozen hM9 1; have Hend := Lib.hid hend; clear hend ho9 hg9 hM9))
    have hend := Hend.out
    generalize World.setCell w9 _ _ = wx at hend ⊢
    clear m0 m1 n0 n1' m9 n9 Hend
    obtain ⟨A1', n1', c1', A2', n2', c2', n', hM, hO, ⟨q1, q2⟩, hD, hC, hR⟩ := hend
    have m0 := rb_cell (j := 0) hM rfl
    have m1 := rb_cell (j := 1) hM rfl
    have r0 := rb_cell (j := 0) hR rfl
    have r1 := rb_cell (j := 1) hR rfl
    have f0 := rb_frozen hR 0
    have f1 := rb_frozen hR 1
    have hcc : Chg (fun j => j = R) wx ((wx.setCell ⟨R, 0, none⟩ (.slice A1' n1' c1')).setCell ⟨R, 1, none⟩ (.slice A2' n2' c2')) := (chg_put _ _).trans (chg_put _ _)
    have hO2 : OwnNet ((wx.setCell ⟨R, 0, none⟩ (.slice A1' n1' c1')).setCell ⟨R, 1, none⟩ (.slice A2' n2' c2')) w.heap.size A1' n1' c1' A2' n2' c2' n' := ⟨own_base (own_chg hO.nodes hcc (fun j hj e => by have := own_low hO.nodes hj; omega)) (by omega), own_base (own_chg hO.pipes hcc (fun j hj e => by have := own_low hO.pipes hj; omega)) (by omega), hO.names, hO.m1, hO.m2⟩
    have hbp : ((wx.setCell ⟨R, 0, none⟩ (.slice A1' n1' c1')).setCell ⟨R, 1, none⟩ (.slice A2' n2' c2')).heap[R]? = some (.cells #[.slice A1' n1' c1', .slice A2' n2' c2'] 32 (0, 0)) := by simp [World.setCell, Array.getElem?_modify, hR]
    have Hbp := Lib.hid hbp
    have HO2 := Lib.hid hO2
    have Hd := Lib.hid ((hD.set (j := 0) (v := .slice A1' n1' c1') hRw0 (by omega)).set (j := 1) (v := .slice A2' n2' c2') hRw0 (by omega))
    have Hc := Lib.hid ((hC.fresh (j := 0) (v := .slice A1' n1' c1') hRw).fresh (j := 1) (v := .slice A2' n2' c2') hRw)
    clear hbp hO2 hO hD hC hcc hM hR
    go_wp2_with fail
    (try simp only [Exit.inBlock, Exit.then])
    refine bodyPost_ret (results_cell_row Tryz.results123 _ _ R 32 #[.slice A1' n1' c1', .slice A2' n2' c2'] (0, 0) _ ?_ Hbp.out Tryz.underlying32 rfl (by kernel_rfl)) ?_ ?_
    · rfl
    · rfl
    first | exact ⟨_, _, _, _, _, _, rfl, ⟨n', HO2.out⟩, ⟨q1, q2⟩, Hd.out, Hc.out⟩ | exact ⟨_, _, _, _, _, _, n', rfl, HO2.out, ⟨q1, q2⟩, Hd.out, Hc.out⟩

  by_cases h3 : t = 3
  · subst h3
    have hMl := rb_lt HM5.out
    go_upto_region 20 with (at_builtin; (refine wpList_append_lies _ rfl _ _ _ rfl (R + 1) 95 i1 _ 5 40 Tryz.underlying30 hi1 hv0 hv1 hv2 rfl (by omega) _ n2 _ rfl (Hnet5.out.pipes.alloc _) ⟨w5.heap.size, 0, none⟩ 1 1 [.int .i64 k, .int .i64 (n1 : Int), .int .i64 1, .int .i64 0, .int .i64 1] rfl rfl (World.news_of_block (cs := #[.int .i64 k, .int .i64 (n1 : Int), .int .i64 1, .int .i64 0, .int .i64 1]) (t := 95) (fr := (0, 0)) (heap_alloc_new w5 _)) (by simp [Value.oneCell']) (by omega) (by unfold maxLen; omega) (by omega) (by simp; omega) (w5.heap.size + 1) (by simp) ?_; intro g9 cap9 w9 ho9 hg9 hat9 hlt9; obtain ⟨hM9, hend⟩ := end_app (p := ⟨k, (n1 : Int), 1, 0, 1⟩) hRw hRw0 hSR hMR (by omega) hcc5 HD5.out HM5.out HR5.out Hnet5.out ho9 hg9; have m9 := rb_cell (j := 1) hM9 rfl; have n9 := rb_frozen hM9 1; have Hend := Lib.hid hend; clear hend ho9 hg9 hM9))
    have hend := Hend.out
    generalize World.setCell w9 _ _ = wx at hend ⊢
    clear m0 m1 n0 n1' m9 n9 Hend
    obtain ⟨A1', n1', c1', A2', n2', c2', n', hM, hO, ⟨q1, q2⟩, hD, hC, hR⟩ := hend
    have m0 := rb_cell (j := 0) hM rfl
    have m1 := rb_cell (j := 1) hM rfl
    have r0 := rb_cell (j := 0) hR rfl
    have r1 := rb_cell (j := 1) hR rfl
    have f0 := rb_frozen hR 0
    have f1 := rb_frozen hR 1
    have hcc : Chg (fun j => j = R) wx ((wx.setCell ⟨R, 0, none⟩ (.slice A1' n1' c1')).setCell ⟨R, 1, none⟩ (.slice A2' n2' c2')) := (chg_put _ _).trans (chg_put _ _)
    have hO2 : OwnNet ((wx.setCell ⟨R, 0, none⟩ (.slice A1' n1' c1')).setCell ⟨R, 1, none⟩ (.slice A2' n2' c2')) w.heap.size A1' n1' c1' A2' n2' c2' n' := ⟨own_base (own_chg hO.nodes hcc (fun j hj e => by have := own_low hO.nodes hj; omega)) (by omega), own_base (own_chg hO.pipes hcc (fun j hj e => by have := own_low hO.pipes hj; omega)) (by omega), hO.names, hO.m1, hO.m2⟩
    have hbp : ((wx.setCell ⟨R, 0, none⟩ (.slice A1' n1' c1')).setCell ⟨R, 1, none⟩ (.slice A2' n2' c2')).heap[R]? = some (.cells #[.slice A1' n1' c1', .slice A2' n2' c2'] 32 (0, 0)) := by simp [World.setCell, Array.getElem?_modify, hR]
    have Hbp := Lib.hid hbp
    have HO2 := Lib.hid hO2
    have Hd := Lib.hid ((hD.set (j := 0) (v := .slice A1' n1' c1') hRw0 (by omega)).set (j := 1) (v := .slice A2' n2' c2') hRw0 (by omega))
    have Hc := Lib.hid ((hC.fresh (j := 0) (v := .slice A1' n1' c1') hRw).fresh (j := 1) (v := .slice A2' n2' c2') hRw)
    clear hbp hO2 hO hD hC hcc hM hR
    go_wp2_with fail
    (try simp only [Exit.inBlock, Exit.then])
    refine bodyPost_ret (results_cell_row Tryz.results123 _ _ R 32 #[.slice A1' n1' c1', .slice A2' n2' c2'] (0, 0) _ ?_ Hbp.out Tryz.underlying32 rfl (by kernel_rfl)) ?_ ?_
    · rfl
    · rfl
    first | exact ⟨_, _, _, _, _, _, rfl, ⟨n', HO2.out⟩, ⟨q1, q2⟩, Hd.out, Hc.out⟩ | exact ⟨_, _, _, _, _, _, n', rfl, HO2.out, ⟨q1, q2⟩, Hd.out, Hc.out⟩

  by_cases h1 : t = 1
  · subst h1
    obtain ⟨K, hK⟩ : ∃ K : Nat, k = (K : Int) := ⟨k.toNat, by omega⟩
    subst hK
    have hKn : K < n1 := by omega
    obtain ⟨x0, hx0⟩ : ∃ x, n.nodes[K]? = some x := ⟨_, List.getElem?_eq_getElem (by have := Hnet5.out.at_.l1; omega)⟩
    have Hx0 := Lib.hid hx0
    have t1 : (K : Int) < (n1 : Int) := by omega
    have t0 : (0 : Int) ≤ (K : Int) := by omega
    have hgR := own_low Hnet5.out.nodes (k := g) rfl
    obtain ⟨LM, hLM⟩ : ∃ z, IntKind.i64.wrap (x0.low - 1) = z := ⟨_, rfl⟩
    have lit : ∀ x : Int, 0 ≤ x → x < 4 → ∃ v : Int, (#[.int .i64 LM, .int .i64 x0.low, .int .i64 100000000, .int .i64 100000001] : Array Value)[x.toNat]? = some (.int .i64 v) := by
      intro x h0 h1
      have : x = 0 ∨ x = 1 ∨ x = 2 ∨ x = 3 := by omega
      rcases this with rfl | rfl | rfl | rfl <;> exact ⟨_, rfl⟩
    have Lit := Lib.hid lit
    have hw5S : S < w5.heap.size := HD5.out.lt
    have hnd : ∀ W : World, Chg (fun j => j = S) w5 W → W.cell? ⟨g, K * 3 + 1, none⟩ = some (.int .i64 x0.low) ∧ W.cell? ⟨g, K * 3 + 2, none⟩ = some (.int .i64 x0.high) ∧ W.frozen? ⟨g, K * 3 + 2, none⟩ = false ∧ W.cell? ⟨M, 0, none⟩ = some (.slice (some ⟨g, 0, none⟩) n1 c1) := fun W hc => by
      obtain ⟨_, a1, a2, _, _, a5⟩ := own_nd (own_chg Hnet5.out.nodes hc (fun j hj e => by have := own_low Hnet5.out.nodes hj; omega)) Hx0.out
      exact ⟨a1, a2, a5, chg_cell' hc m0 (by simp only; omega)⟩
    have Hnd := Lib.hid hnd
    have sd : Drw w0 w5.drew S ∧ Chg (fun j => j = S) w5 w5.drew := ⟨HD5.out.grow (Gr.refl _).drew, (Gr.refl _).drew.chg _⟩
    have z0 := (Hnd.out _ sd.2).2.2.2
    have z1 := (Hnd.out _ sd.2).1
    have sd1 := sd.1
    have sd2 := sd.2
    have ea : ∀ (v : Int) (W : World), Drw w0 W S → Chg (fun j => j = S) w5 W → EndAt w0 w (W.setCell ⟨g, K * 3 + 2, none⟩ (.int .i64 v)) S R M := fun v W h1 h2 => end_node hRw hRw0 hSR hMR (by omega) (by omega) (by omega) hcc5 (Gr.refl _) h1 h2 HM5.out HR5.out Hnet5.out (nd_high _ K x0 v Hx0.out) (fun y hy => by
      rcases List.mem_or_eq_of_mem_set hy with e | e
      · exact Hnet5.out.names y e
      · rw [e]; exact Hnet5.out.names x0 (List.mem_of_getElem? Hx0.out))
    have Ea := Lib.hid ea
    have Da := Lib.hid (fun o => HD5.out.grow ((Gr.refl w5).alloc o).drew)
    have Da2 := Lib.hid (fun o => HD5.out.grow ((Gr.refl w5).drew.alloc o))
    have Db := Lib.hid sd1
    have la : ∀ (x v : Int) (W : World), (#[.int .i64 LM, .int .i64 x0.low, .int .i64 100000000, .int .i64 100000001] : Array Value)[x.toNat]? = some (.int .i64 v) → Chg (fun j => j = S) (w5.alloc (.cells #[.int .i64 LM, .int .i64 x0.low, .int .i64 100000000, .int .i64 100000001] 2)).drew W → W.cell? ⟨w5.heap.size, x.toNat, none⟩ = some (.int .i64 v) := fun x v W hv hc => by
      refine chg_cell' hc ?_ (by simp only; omega)
      exact ((Gr.refl _).drew).has (rb_cell (heap_alloc_new w5 _) hv)
    have lb : ∀ (x v : Int) (W : World), (#[.int .i64 LM, .int .i64 x0.low, .int .i64 100000000, .int .i64 100000001] : Array Value)[x.toNat]? = some (.int .i64 v) → (W.alloc (.cells #[.int .i64 LM, .int .i64 x0.low, .int .i64 100000000, .int .i64 100000001] 2)).cell? ⟨W.heap.size, x.toNat, none⟩ = some (.int .i64 v) := fun x v W hv => rb_cell (heap_alloc_new W _) hv
    have la2 : ∀ (x v : Int) (W : World), (#[.int .i64 LM, .int .i64 x0.low, .int .i64 100000000, .int .i64 100000001] : Array Value)[x.toNat]? = some (.int .i64 v) → Chg (fun j => j = S) (w5.drew.alloc (.cells #[.int .i64 LM, .int .i64 x0.low, .int .i64 100000000, .int .i64 100000001] 2)) W → W.cell? ⟨w5.heap.size, x.toNat, none⟩ = some (.int .i64 v) := fun x v W hv hc => chg_cell' hc (lb x v w5.drew hv) (by simp only; omega)
    have La := Lib.hid la
    have Lb := Lib.hid lb
    have La2 := Lib.hid la2
    clear lit hx0 hnd sd ea la lb la2
    go_wp2_with fail
    refine wp_region_noPanic ?_
    refine wp_region_held_drew (S := (fun w' : World => w'.cell? ⟨M, 0, none⟩ = some (.slice (some ⟨g, 0, none⟩) n1 c1) ∧ w'.cell? ⟨g, K * 3 + 1, none⟩ = some (.int .i64 x0.low))) (by kernel_rfl) ?_ (fun hHeld => ?_)
    · exact ⟨z0, z1⟩
    refine wpAnyH_take (i := 0) (oi := _) (v := ?v1) rfl (by kernel_rfl) (by kernel_rfl) (by kernel_rfl) (fun _ _ _ h => h) (Or.inl ⟨by rfl, ?hy1⟩) (by assumption) ?rest1
    case hy1 => (intro W hSw; (try dsimp only at hSw); first | (go_simp; done) | (go_simp; with_reducible rfl))
    try simp only [Act.put, List.setIfInBounds_toArray, List.set_cons_zero, List.set_cons_succ]
    refine wpAnyH_take (i := 1) (oi := _) (v := ?v2) rfl (by kernel_rfl) (by kernel_rfl) (by kernel_rfl) (fun _ _ _ h => h) (Or.inl ⟨by rfl, ?hy2⟩) (by assumption) ?rest2
    case hy2 => (intro W hSw; (try dsimp only at hSw); first | (go_simp; done) | (go_simp; with_reducible rfl))
    try simp only [Act.put, List.setIfInBounds_toArray, List.set_cons_zero, List.set_cons_succ]
    refine wpAnyH_take (i := 2) (oi := _) (v := ?v3) rfl (by kernel_rfl) (by kernel_rfl) (by kernel_rfl) (fun _ _ _ h => h) (Or.inl ⟨by rfl, ?hy3⟩) (by assumption) ?rest3
    case hy3 => (intro W hSw; (try dsimp only at hSw); first | (go_simp; done) | (go_simp; with_reducible rfl))
    try simp only [Act.put, List.setIfInBounds_toArray, List.set_cons_zero, List.set_cons_succ]
    refine wpAnyH_take (i := 3) (oi := _) (v := ?v4) rfl (by kernel_rfl) (by kernel_rfl) (by kernel_rfl) (fun _ _ _ h => h) (Or.inl ⟨by rfl, ?hy4⟩) (by assumption) ?rest4
    case hy4 => (intro W hSw; (try dsimp only at hSw); first | (go_simp; done) | (go_simp; with_reducible rfl))
    try simp only [Act.put, List.setIfInBounds_toArray, List.set_cons_zero, List.set_cons_succ]
    refine wpAnyH_take (i := 4) (oi := _) (v := ?v5) rfl (by kernel_rfl) (by kernel_rfl) (by kernel_rfl) (fun _ _ _ h => h) (Or.inl ⟨by rfl, ?hy5⟩) (by assumption) ?rest5
    case hy5 => (intro W hSw; (try dsimp only at hSw); first | (go_simp; done) | (go_simp; with_reducible rfl))
    try simp only [Act.put, List.setIfInBounds_toArray, List.set_cons_zero, List.set_cons_succ]
    refine wpAnyH_take (i := 5) (oi := _) (v := ?v6) rfl (by kernel_rfl) (by kernel_rfl) (by kernel_rfl) (fun _ _ _ h => h) (Or.inl ⟨by rfl, ?hy6⟩) (by assumption) ?rest6
    case hy6 => (intro W hSw; (try dsimp only at hSw); first | (go_simp; done) | (go_simp; with_reducible rfl))
    try simp only [Act.put, List.setIfInBounds_toArray, List.set_cons_zero, List.set_cons_succ]
    refine wpAnyH_take (i := 6) (oi := _) (v := ?v7) rfl (by kernel_rfl) (by kernel_rfl) (by kernel_rfl) (fun _ _ _ h => h) (Or.inl ⟨by rfl, ?hy7⟩) (by assumption) ?rest7
    case hy7 => (intro W hSw; (try dsimp only at hSw); first | (go_simp; done) | (go_simp; with_reducible rfl))
    try simp only [Act.put, List.setIfInBounds_toArray, List.set_cons_zero, List.set_cons_succ]
    refine wpAnyH_take (i := 7) (oi := _) (v := ?v8) rfl (by kernel_rfl) (by kernel_rfl) (by kernel_rfl) (fun _ _ _ h => h) (Or.inl ⟨by rfl, ?hy8⟩) (by assumption) ?rest8
    case hy8 => (intro W hSw; (try dsimp only at hSw); first | (go_simp; done) | (go_simp; with_reducible rfl))
    try simp only [Act.put, List.setIfInBounds_toArray, List.set_cons_zero, List.set_cons_succ]
    refine wpAnyH_take (i := 8) (oi := _) (v := ?v9) rfl (by kernel_rfl) (by kernel_rfl) (by kernel_rfl) (fun _ _ _ h => h) (Or.inl ⟨by rfl, ?hy9⟩) (by assumption) ?rest9
    case hy9 => (intro W hSw; (try dsimp only at hSw); first | (go_simp; done) | (go_simp; with_reducible rfl))
    try simp only [Act.put, List.setIfInBounds_toArray, List.set_cons_zero, List.set_cons_succ]
    refine wpAnyH_take (i := 9) (oi := _) (v := ?v10) rfl (by kernel_rfl) (by kernel_rfl) (by kernel_rfl) (fun _ _ _ h => h) (Or.inl ⟨by rfl, ?hy10⟩) (by assumption) ?rest10
    case hy10 => (intro W hSw; (try dsimp only at hSw); first | (go_simp; done) | (go_simp; with_reducible rfl))
    try simp only [Act.put, List.setIfInBounds_toArray, List.set_cons_zero, List.set_cons_succ]
    refine wpAnyH_take (i := 10) (oi := _) (v := ?v11) rfl (by kernel_rfl) (by kernel_rfl) (by kernel_rfl) (fun _ _ _ h => h) (Or.inl ⟨by rfl, ?hy11⟩) (by assumption) ?rest11
    case hy11 => (intro W hSw; (try dsimp only at hSw); first | (go_simp; done) | (go_simp; with_reducible rfl))
    try simp only [Act.put, List.setIfInBounds_toArray, List.set_cons_zero, List.set_cons_succ]
    refine wpAnyH_take (i := 11) (oi := _) (v := ?v12) rfl (by kernel_rfl) (by kernel_rfl) (by kernel_rfl) (fun _ _ _ h => h) (Or.inl ⟨by rfl, ?hy12⟩) (by assumption) ?rest12
    case hy12 => (intro W hSw; (try dsimp only at hSw); first | (go_simp; done) | (go_simp; with_reducible rfl))
    try simp only [Act.put, List.setIfInBounds_toArray, List.set_cons_zero, List.set_cons_succ]
    refine wpAnyH_take (i := 12) (oi := _) (v := ?v13) rfl (by kernel_rfl) (by kernel_rfl) (by kernel_rfl) (fun _ _ _ h => h) (Or.inl ⟨by rfl, ?hy13⟩) (by assumption) ?rest13
    case hy13 => (intro W hSw; (try dsimp only at hSw); first | (go_simp; done) | (go_simp; with_reducible rfl))
    try simp only [Act.put, List.setIfInBounds_toArray, List.set_cons_zero, List.set_cons_succ]
    refine wpAnyH_take (i := 13) (oi := _) (v := ?v14) rfl (by kernel_rfl) (by kernel_rfl) (by kernel_rfl) (fun _ _ _ h => h) (Or.inl ⟨by rfl, ?hy14⟩) (by assumption) ?rest14
    case hy14 => (intro W hSw; (try dsimp only at hSw); first | (go_simp; done) | (go_simp; with_reducible rfl))
    try simp only [Act.put, List.setIfInBounds_toArray, List.set_cons_zero, List.set_cons_succ]
    refine wpAnyH_take (i := 14) (oi := _) (v := ?v15) rfl (by kernel_rfl) (by kernel_rfl) (by kernel_rfl) (fun _ _ _ h => h) (Or.inl ⟨by rfl, ?hy15⟩) (by assumption) ?rest15
    case hy15 => (intro W hSw; (try dsimp only at hSw); first | (go_simp; done) | (go_simp; with_reducible rfl))
    try simp only [Act.put, List.setIfInBounds_toArray, List.set_cons_zero, List.set_cons_succ]
    refine wpAnyH_take (i := 15) (oi := _) (v := ?v16) rfl (by kernel_rfl) (by kernel_rfl) (by kernel_rfl) (fun _ _ _ h => h) (Or.inl ⟨by rfl, ?hy16⟩) (by assumption) ?rest16
    case hy16 => (intro W hSw; (try dsimp only at hSw); first | (go_simp; done) | (go_simp; with_reducible rfl))
    try simp only [Act.put, List.setIfInBounds_toArray, List.set_cons_zero, List.set_cons_succ]
    refine wpAnyH_take (i := 17) (oi := _) (v := ?v17) rfl (by kernel_rfl) (by kernel_rfl) (by kernel_rfl) (fun _ _ _ h => h) (Or.inl ⟨by rfl, ?hy17⟩) (by assumption) ?rest17
    case hy17 => (intro W hSw; (try dsimp only at hSw); first | (go_simp; done) | (go_simp; with_reducible rfl))
    try simp only [Act.put, List.setIfInBounds_toArray, List.set_cons_zero, List.set_cons_succ]
    refine wpAnyH_ready (rs := [16, 18]) (by kernel_rfl) (by simp) ?_
    refine AllReadyH.cons rfl (fun K hK => ?_) (AllReadyH.cons rfl (fun K hK => ?_) AllReadyH.nil)
    · go_simp
      refine hK.out _ _ ?_ (fun hHeld => ?_)
      · (first | exact ⟨by assumption, by assumption⟩ | exact ⟨((Gr.refl _).alloc _).has (by assumption), ((Gr.refl _).alloc _).has (by assumption)⟩ | exact ⟨put_far (by assumption) (Or.inl (by omega)), put_far (by assumption) (Or.inr (by omega))⟩)
      clear hK K
      obtain ⟨z0, z1⟩ := hHeld
      have hHeld : (fun w' : World => w'.cell? ⟨M, 0, none⟩ = some (.slice (some ⟨g, 0, none⟩) n1 c1) ∧ w'.cell? ⟨g, K * 3 + 1, none⟩ = some (.int .i64 x0.low)) _ := ⟨z0, z1⟩
      try simp only [Act.put, List.setIfInBounds_toArray, List.set_cons_zero, List.set_cons_succ]
      refine wpAnyH_ready (rs := [18]) (by kernel_rfl) (by simp) ?_
      refine AllReadyH.cons rfl (fun K hK => ?_) AllReadyH.nil
      go_simp
      (first | (go_at_call 102; with_reducible refine (l01Next_any 4 (Da.out _) (by omega)).mono ?_; rintro e w6 ⟨x, rfl, hx, hd6, hc6⟩; have hc56 : Chg (fun j => j = S) w5 w6 := ((((Gr.refl w5).alloc _).drew).chg _).trans hc6; obtain ⟨xa, xb⟩ := hx.lt (by omega); obtain ⟨v, hv⟩ := Lit.out x xa xb; obtain ⟨q1, q2, q3, q4⟩ := Hnd.out w6 hc56; have q5 := La.out x v w6 hv hc6; clear hv) | (go_at_call 102; with_reducible refine (l01Next_any 4 (Da2.out _) (by omega)).mono ?_; rintro e w6 ⟨x, rfl, hx, hd6, hc6⟩; have hc56 : Chg (fun j => j = S) w5 w6 := ((((Gr.refl w5).drew).alloc _).chg _).trans hc6; obtain ⟨xa, xb⟩ := hx.lt (by omega); obtain ⟨v, hv⟩ := Lit.out x xa xb; obtain ⟨q1, q2, q3, q4⟩ := Hnd.out w6 hc56; have q5 := La2.out x v w6 hv hc6; clear hv))
      go_wp2_with fail
      refine hK.out _ _ ?_ (fun hHeld => ?_)
      · (first | exact ⟨by assumption, by assumption⟩ | exact ⟨((Gr.refl _).alloc _).has (by assumption), ((Gr.refl _).alloc _).has (by assumption)⟩ | exact ⟨put_far (by assumption) (Or.inl (by omega)), put_far (by assumption) (Or.inr (by omega))⟩)
      clear hK K
      obtain ⟨z0, z1⟩ := hHeld
      have hHeld : (fun w' : World => w'.cell? ⟨M, 0, none⟩ = some (.slice (some ⟨g, 0, none⟩) n1 c1) ∧ w'.cell? ⟨g, K * 3 + 1, none⟩ = some (.int .i64 x0.low)) _ := ⟨z0, z1⟩
      try simp only [Act.put, List.setIfInBounds_toArray, List.set_cons_zero, List.set_cons_succ]
      refine wpAnyH_take (i := 19) (oi := _) (v := ?v18) rfl (by kernel_rfl) (by kernel_rfl) (by kernel_rfl) (fun _ _ _ h => h) (Or.inl ⟨by rfl, ?hy18⟩) (by assumption) ?rest18
      case hy18 => (intro W hSw; (try dsimp only at hSw); first | (go_simp; done) | (go_simp; with_reducible rfl))
      try simp only [Act.put, List.setIfInBounds_toArray, List.set_cons_zero, List.set_cons_succ]
      refine wpAnyH_ready (rs := [20]) (by kernel_rfl) (by simp) ?_
      refine AllReadyH.cons rfl (fun K hK => ?_) AllReadyH.nil
      go_simp
      refine hK.out _ _ ?_ (fun hHeld => ?_)
      · (first | exact ⟨by assumption, by assumption⟩ | exact ⟨((Gr.refl _).alloc _).has (by assumption), ((Gr.refl _).alloc _).has (by assumption)⟩ | exact ⟨put_far (by assumption) (Or.inl (by omega)), put_far (by assumption) (Or.inr (by omega))⟩)
      clear hK K
      obtain ⟨z0, z1⟩ := hHeld
      have hHeld : (fun w' : World => w'.cell? ⟨M, 0, none⟩ = some (.slice (some ⟨g, 0, none⟩) n1 c1) ∧ w'.cell? ⟨g, K * 3 + 1, none⟩ = some (.int .i64 x0.low)) _ := ⟨z0, z1⟩
      try simp only [Act.put, List.setIfInBounds_toArray, List.set_cons_zero, List.set_cons_succ]
      refine wpAnyH_take (i := 21) (oi := _) (v := ?v19) rfl (by kernel_rfl) (by kernel_rfl) (by kernel_rfl) (fun _ _ _ h => h) (Or.inl ⟨by rfl, ?hy19⟩) (by assumption) ?rest19
      case hy19 => (intro W hSw; (try dsimp only at hSw); first | (go_simp; done) | (go_simp; with_reducible rfl))
      try simp only [Act.put, List.setIfInBounds_toArray, List.set_cons_zero, List.set_cons_succ]
      refine wpAnyH_take (i := 22) (oi := _) (v := ?v20) rfl (by kernel_rfl) (by kernel_rfl) (by kernel_rfl) (fun _ _ _ h => h) (Or.inl ⟨by rfl, ?hy20⟩) (by assumption) ?rest20
      case hy20 => (intro W hSw; (try dsimp only at hSw); first | (go_simp; done) | (go_simp; with_reducible rfl))
      try simp only [Act.put, List.setIfInBounds_toArray, List.set_cons_zero, List.set_cons_succ]
      refine wpAnyH_ready (rs := [23]) (by kernel_rfl) (by simp) ?_
      refine AllReadyH.cons rfl (fun K hK => ?_) AllReadyH.nil
      go_simp
      refine hK.out _ _ ?_ (fun hHeld => ?_)
      · (first | exact ⟨by assumption, by assumption⟩ | exact ⟨((Gr.refl _).alloc _).has (by assumption), ((Gr.refl _).alloc _).has (by assumption)⟩ | exact ⟨put_far (by assumption) (Or.inl (by omega)), put_far (by assumption) (Or.inr (by omega))⟩)
      clear hK K
      obtain ⟨z0, z1⟩ := hHeld
      have hHeld : (fun w' : World => w'.cell? ⟨M, 0, none⟩ = some (.slice (some ⟨g, 0, none⟩) n1 c1) ∧ w'.cell? ⟨g, K * 3 + 1, none⟩ = some (.int .i64 x0.low)) _ := ⟨z0, z1⟩
      try simp only [Act.put, List.setIfInBounds_toArray, List.set_cons_zero, List.set_cons_succ]
      refine wpAnyH_done (by kernel_rfl) ?_ _
      refine NoPanic.normal ?_
      generalize hW : World.setCell _ _ _ = w9
      have hend : EndAt w0 w w9 S R M := by
        rw [← hW]
        first
          | exact Ea.out v w6 hd6 hc56
          | exact Ea.out v _ (hd6.grow ((Gr.refl w6).alloc (.cells #[.int .i64 LM, .int .i64 x0.low, .int .i64 100000000, .int .i64 100000001] 2))) (hc56.trans (((Gr.refl w6).alloc (.cells #[.int .i64 LM, .int .i64 x0.low, .int .i64 100000000, .int .i64 100000001] 2)).chg _))
      clear q1 q2 q3 q4 q5 m0 m1 n0 n1' hW
      (try clear q6 q7 q8 q9)
      obtain ⟨A1', n1', c1', A2', n2', c2', n', hM, hO, ⟨q1, q2⟩, hD, hC, hR⟩ := hend
      have m0 := rb_cell (j := 0) hM rfl
      have m1 := rb_cell (j := 1) hM rfl
      have r0 := rb_cell (j := 0) hR rfl
      have r1 := rb_cell (j := 1) hR rfl
      have f0 := rb_frozen hR 0
      have f1 := rb_frozen hR 1
      have hcc : Chg (fun j => j = R) w9 ((w9.setCell ⟨R, 0, none⟩ (.slice A1' n1' c1')).setCell ⟨R, 1, none⟩ (.slice A2' n2' c2')) := (chg_put _ _).trans (chg_put _ _)
      have hO2 : OwnNet ((w9.setCell ⟨R, 0, none⟩ (.slice A1' n1' c1')).setCell ⟨R, 1, none⟩ (.slice A2' n2' c2')) w.heap.size A1' n1' c1' A2' n2' c2' n' := ⟨own_base (own_chg hO.nodes hcc (fun j hj e => by have := own_low hO.nodes hj; omega)) (by omega), own_base (own_chg hO.pipes hcc (fun j hj e => by have := own_low hO.pipes hj; omega)) (by omega), hO.names, hO.m1, hO.m2⟩
      have hbp : ((w9.setCell ⟨R, 0, none⟩ (.slice A1' n1' c1')).setCell ⟨R, 1, none⟩ (.slice A2' n2' c2')).heap[R]? = some (.cells #[.slice A1' n1' c1', .slice A2' n2' c2'] 32 (0, 0)) := by simp [World.setCell, Array.getElem?_modify, hR]
      have Hbp := Lib.hid hbp
      have HO2 := Lib.hid hO2
      have Hd := Lib.hid ((hD.set (j := 0) (v := .slice A1' n1' c1') hRw0 (by omega)).set (j := 1) (v := .slice A2' n2' c2') hRw0 (by omega))
      have Hc := Lib.hid ((hC.fresh (j := 0) (v := .slice A1' n1' c1') hRw).fresh (j := 1) (v := .slice A2' n2' c2') hRw)
      clear hbp hO2 hO hD hC hcc hM hR
      go_wp2_with fail
      (try simp only [Exit.inBlock, Exit.then])
      refine bodyPost_ret (results_cell_row Tryz.results123 _ _ R 32 #[.slice A1' n1' c1', .slice A2' n2' c2'] (0, 0) _ ?_ Hbp.out Tryz.underlying32 rfl (by kernel_rfl)) ?_ ?_
      · rfl
      · rfl
      first | exact ⟨_, _, _, _, _, _, rfl, ⟨n', HO2.out⟩, ⟨q1, q2⟩, Hd.out, Hc.out⟩ | exact ⟨_, _, _, _, _, _, n', rfl, HO2.out, ⟨q1, q2⟩, Hd.out, Hc.out⟩

    · go_simp
      (go_at_call 102; with_reducible refine (l01Next_any 4 (Db.out) (by omega)).mono ?_; rintro e w6 ⟨x, rfl, hx, hd6, hc6⟩; have hc56 : Chg (fun j => j = S) w5 w6 := (((Gr.refl w5).drew).chg _).trans hc6; obtain ⟨xa, xb⟩ := hx.lt (by omega); obtain ⟨v, hv⟩ := Lit.out x xa xb; obtain ⟨q1, q2, q3, q4⟩ := Hnd.out w6 hc56; have q5 := Lb.out x v w6 hv; obtain ⟨q6, q7, q8, q9⟩ := Hnd.out _ (hc56.trans (((Gr.refl w6).alloc (.cells #[.int .i64 LM, .int .i64 x0.low, .int .i64 100000000, .int .i64 100000001] 2)).chg _)); clear hv)
      go_wp2_with fail
      refine hK.out _ _ ?_ (fun hHeld => ?_)
      · (first | exact ⟨by assumption, by assumption⟩ | exact ⟨((Gr.refl _).alloc _).has (by assumption), ((Gr.refl _).alloc _).has (by assumption)⟩ | exact ⟨put_far (by assumption) (Or.inl (by omega)), put_far (by assumption) (Or.inr (by omega))⟩)
      clear hK K
      obtain ⟨z0, z1⟩ := hHeld
      have hHeld : (fun w' : World => w'.cell? ⟨M, 0, none⟩ = some (.slice (some ⟨g, 0, none⟩) n1 c1) ∧ w'.cell? ⟨g, K * 3 + 1, none⟩ = some (.int .i64 x0.low)) _ := ⟨z0, z1⟩
      try simp only [Act.put, List.setIfInBounds_toArray, List.set_cons_zero, List.set_cons_succ]
      refine wpAnyH_ready (rs := [16]) (by kernel_rfl) (by simp) ?_
      refine AllReadyH.cons rfl (fun K hK => ?_) AllReadyH.nil
      go_simp
      refine hK.out _ _ ?_ (fun hHeld => ?_)
      · (first | exact ⟨by assumption, by assumption⟩ | exact ⟨((Gr.refl _).alloc _).has (by assumption), ((Gr.refl _).alloc _).has (by assumption)⟩ | exact ⟨put_far (by assumption) (Or.inl (by omega)), put_far (by assumption) (Or.inr (by omega))⟩)
      clear hK K
      obtain ⟨z0, z1⟩ := hHeld
      have hHeld : (fun w' : World => w'.cell? ⟨M, 0, none⟩ = some (.slice (some ⟨g, 0, none⟩) n1 c1) ∧ w'.cell? ⟨g, K * 3 + 1, none⟩ = some (.int .i64 x0.low)) _ := ⟨z0, z1⟩
      try simp only [Act.put, List.setIfInBounds_toArray, List.set_cons_zero, List.set_cons_succ]
      refine wpAnyH_take (i := 19) (oi := _) (v := ?v21) rfl (by kernel_rfl) (by kernel_rfl) (by kernel_rfl) (fun _ _ _ h => h) (Or.inl ⟨by rfl, ?hy21⟩) (by assumption) ?rest21
      case hy21 => (intro W hSw; (try dsimp only at hSw); first | (go_simp; done) | (go_simp; with_reducible rfl))
      try simp only [Act.put, List.setIfInBounds_toArray, List.set_cons_zero, List.set_cons_succ]
      refine wpAnyH_ready (rs := [20]) (by kernel_rfl) (by simp) ?_
      refine AllReadyH.cons rfl (fun K hK => ?_) AllReadyH.nil
      go_simp
      refine hK.out _ _ ?_ (fun hHeld => ?_)
      · (first | exact ⟨by assumption, by assumption⟩ | exact ⟨((Gr.refl _).alloc _).has (by assumption), ((Gr.refl _).alloc _).has (by assumption)⟩ | exact ⟨put_far (by assumption) (Or.inl (by omega)), put_far (by assumption) (Or.inr (by omega))⟩)
      clear hK K
      obtain ⟨z0, z1⟩ := hHeld
      have hHeld : (fun w' : World => w'.cell? ⟨M, 0, none⟩ = some (.slice (some ⟨g, 0, none⟩) n1 c1) ∧ w'.cell? ⟨g, K * 3 + 1, none⟩ = some (.int .i64 x0.low)) _ := ⟨z0, z1⟩
      try simp only [Act.put, List.setIfInBounds_toArray, List.set_cons_zero, List.set_cons_succ]
      refine wpAnyH_take (i := 21) (oi := _) (v := ?v22) rfl (by kernel_rfl) (by kernel_rfl) (by kernel_rfl) (fun _ _ _ h => h) (Or.inl ⟨by rfl, ?hy22⟩) (by assumption) ?rest22
      case hy22 => (intro W hSw; (try dsimp only at hSw); first | (go_simp; done) | (go_simp; with_reducible rfl))
      try simp only [Act.put, List.setIfInBounds_toArray, List.set_cons_zero, List.set_cons_succ]
      refine wpAnyH_take (i := 22) (oi := _) (v := ?v23) rfl (by kernel_rfl) (by kernel_rfl) (by kernel_rfl) (fun _ _ _ h => h) (Or.inl ⟨by rfl, ?hy23⟩) (by assumption) ?rest23
      case hy23 => (intro W hSw; (try dsimp only at hSw); first | (go_simp; done) | (go_simp; with_reducible rfl))
      try simp only [Act.put, List.setIfInBounds_toArray, List.set_cons_zero, List.set_cons_succ]
      refine wpAnyH_ready (rs := [23]) (by kernel_rfl) (by simp) ?_
      refine AllReadyH.cons rfl (fun K hK => ?_) AllReadyH.nil
      go_simp
      refine hK.out _ _ ?_ (fun hHeld => ?_)
      · (first | exact ⟨by assumption, by assumption⟩ | exact ⟨((Gr.refl _).alloc _).has (by assumption), ((Gr.refl _).alloc _).has (by assumption)⟩ | exact ⟨put_far (by assumption) (Or.inl (by omega)), put_far (by assumption) (Or.inr (by omega))⟩)
      clear hK K
      obtain ⟨z0, z1⟩ := hHeld
      have hHeld : (fun w' : World => w'.cell? ⟨M, 0, none⟩ = some (.slice (some ⟨g, 0, none⟩) n1 c1) ∧ w'.cell? ⟨g, K * 3 + 1, none⟩ = some (.int .i64 x0.low)) _ := ⟨z0, z1⟩
      try simp only [Act.put, List.setIfInBounds_toArray, List.set_cons_zero, List.set_cons_succ]
      refine wpAnyH_done (by kernel_rfl) ?_ _
      refine NoPanic.normal ?_
      generalize hW : World.setCell _ _ _ = w9
      have hend : EndAt w0 w w9 S R M := by
        rw [← hW]
        first
          | exact Ea.out v w6 hd6 hc56
          | exact Ea.out v _ (hd6.grow ((Gr.refl w6).alloc (.cells #[.int .i64 LM, .int .i64 x0.low, .int .i64 100000000, .int .i64 100000001] 2))) (hc56.trans (((Gr.refl w6).alloc (.cells #[.int .i64 LM, .int .i64 x0.low, .int .i64 100000000, .int .i64 100000001] 2)).chg _))
      clear q1 q2 q3 q4 q5 m0 m1 n0 n1' hW
      (try clear q6 q7 q8 q9)
      obtain ⟨A1', n1', c1', A2', n2', c2', n', hM, hO, ⟨q1, q2⟩, hD, hC, hR⟩ := hend
      have m0 := rb_cell (j := 0) hM rfl
      have m1 := rb_cell (j := 1) hM rfl
      have r0 := rb_cell (j := 0) hR rfl
      have r1 := rb_cell (j := 1) hR rfl
      have f0 := rb_frozen hR 0
      have f1 := rb_frozen hR 1
      have hcc : Chg (fun j => j = R) w9 ((w9.setCell ⟨R, 0, none⟩ (.slice A1' n1' c1')).setCell ⟨R, 1, none⟩ (.slice A2' n2' c2')) := (chg_put _ _).trans (chg_put _ _)
      have hO2 : OwnNet ((w9.setCell ⟨R, 0, none⟩ (.slice A1' n1' c1')).setCell ⟨R, 1, none⟩ (.slice A2' n2' c2')) w.heap.size A1' n1' c1' A2' n2' c2' n' := ⟨own_base (own_chg hO.nodes hcc (fun j hj e => by have := own_low hO.nodes hj; omega)) (by omega), own_base (own_chg hO.pipes hcc (fun j hj e => by have := own_low hO.pipes hj; omega)) (by omega), hO.names, hO.m1, hO.m2⟩
      have hbp : ((w9.setCell ⟨R, 0, none⟩ (.slice A1' n1' c1')).setCell ⟨R, 1, none⟩ (.slice A2' n2' c2')).heap[R]? = some (.cells #[.slice A1' n1' c1', .slice A2' n2' c2'] 32 (0, 0)) := by simp [World.setCell, Array.getElem?_modify, hR]
      have Hbp := Lib.hid hbp
      have HO2 := Lib.hid hO2
      have Hd := Lib.hid ((hD.set (j := 0) (v := .slice A1' n1' c1') hRw0 (by omega)).set (j := 1) (v := .slice A2' n2' c2') hRw0 (by omega))
      have Hc := Lib.hid ((hC.fresh (j := 0) (v := .slice A1' n1' c1') hRw).fresh (j := 1) (v := .slice A2' n2' c2') hRw)
      clear hbp hO2 hO hD hC hcc hM hR
      go_wp2_with fail
      (try simp only [Exit.inBlock, Exit.then])
      refine bodyPost_ret (results_cell_row Tryz.results123 _ _ R 32 #[.slice A1' n1' c1', .slice A2' n2' c2'] (0, 0) _ ?_ Hbp.out Tryz.underlying32 rfl (by kernel_rfl)) ?_ ?_
      · rfl
      · rfl
      first | exact ⟨_, _, _, _, _, _, rfl, ⟨n', HO2.out⟩, ⟨q1, q2⟩, Hd.out, Hc.out⟩ | exact ⟨_, _, _, _, _, _, n', rfl, HO2.out, ⟨q1, q2⟩, Hd.out, Hc.out⟩


  · have h7 : ¬ t < 7 := by omega
    have e0 : (t == 0) = false := by simp; omega
    have e1 : (t == 1) = false := by simp; omega
    have e2 : (t == 2) = false := by simp; omega
    have e3 : (t == 3) = false := by simp; omega
    have e4 : (t == 4) = false := by simp; omega
    have e5 : (t == 5) = false := by simp; omega
    have e6 : (t == 6) = false := by simp; omega
    have hend : EndAt w0 w w5 S R M := Hrow.out _ HD5.out hcc5 HM5.out HR5.out n Hnet5.out
    clear m0 m1 n0 n1'
    obtain ⟨A1', n1', c1', A2', n2', c2', n', hM, hO, ⟨q1, q2⟩, hD, hC, hR⟩ := hend
    have m0 := rb_cell (j := 0) hM rfl
    have m1 := rb_cell (j := 1) hM rfl
    have r0 := rb_cell (j := 0) hR rfl
    have r1 := rb_cell (j := 1) hR rfl
    have f0 := rb_frozen hR 0
    have f1 := rb_frozen hR 1
    have hcc : Chg (fun j => j = R) w5 ((w5.setCell ⟨R, 0, none⟩ (.slice A1' n1' c1')).setCell ⟨R, 1, none⟩ (.slice A2' n2' c2')) := (chg_put _ _).trans (chg_put _ _)
    have hO2 : OwnNet ((w5.setCell ⟨R, 0, none⟩ (.slice A1' n1' c1')).setCell ⟨R, 1, none⟩ (.slice A2' n2' c2')) w.heap.size A1' n1' c1' A2' n2' c2' n' := ⟨own_base (own_chg hO.nodes hcc (fun j hj e => by have := own_low hO.nodes hj; omega)) (by omega), own_base (own_chg hO.pipes hcc (fun j hj e => by have := own_low hO.pipes hj; omega)) (by omega), hO.names, hO.m1, hO.m2⟩
    have hbp : ((w5.setCell ⟨R, 0, none⟩ (.slice A1' n1' c1')).setCell ⟨R, 1, none⟩ (.slice A2' n2' c2')).heap[R]? = some (.cells #[.slice A1' n1' c1', .slice A2' n2' c2'] 32 (0, 0)) := by simp [World.setCell, Array.getElem?_modify, hR]
    have Hbp := Lib.hid hbp
    have HO2 := Lib.hid hO2
    have Hd := Lib.hid ((hD.set (j := 0) (v := .slice A1' n1' c1') hRw0 (by omega)).set (j := 1) (v := .slice A2' n2' c2') hRw0 (by omega))
    have Hc := Lib.hid ((hC.fresh (j := 0) (v := .slice A1' n1' c1') hRw).fresh (j := 1) (v := .slice A2' n2' c2') hRw)
    clear hbp hO2 hO hD hC hcc hM hR
    go_wp2_with fail
    (try simp only [Exit.inBlock, Exit.then])
    refine bodyPost_ret (results_cell_row Tryz.results123 _ _ R 32 #[.slice A1' n1' c1', .slice A2' n2' c2'] (0, 0) _ ?_ Hbp.out Tryz.underlying32 rfl (by kernel_rfl)) ?_ ?_
    · rfl
    · rfl
    first | exact ⟨_, _, _, _, _, _, rfl, ⟨n', HO2.out⟩, ⟨q1, q2⟩, Hd.out, Hc.out⟩ | exact ⟨_, _, _, _, _, _, n', rfl, HO2.out, ⟨q1, q2⟩, Hd.out, Hc.out⟩
end Go.Proofs.YthhmhigddmimjaaGreat
/-
  Draws: a network and a chord.
-/
set_option linter.unusedSimpArgs false
set_option linter.unusedVariables false
namespace Go.Proofs.YthhmhigddmimjaaGreat
open Go.ChangeShapes Go.WideShapes Go.ChangeAt Go.RowKit

theorem results_row_tmp {P : Program} {fn : Func} {p u : Tmp} {ty : TypeId} (h : fn.results = #[.cell p ty, .tmp u]) (tmps : Array Value) (w : World) (g : Nat) (t : TypeId) (cs : Array Value) (fr : Nat × Nat) (d : TypeDesc)
    (hp : tmps.getD p undef = .pointer (some ⟨g, 0, none⟩)) (hg : w.heap[g]? = some (.cells cs t fr))
    (hu : P.underlying ty = some d) (hd : (match d with | .struct _ | .array _ _ => true | _ => false) = true) (hi : (P.info? ty).map (·.size) = some cs.size) :
    (results fn tmps).run P w = .ok (.tuple #[.agg cs, tmps.getD u undef]) w := by
  have hp' : tmps[p]?.getD undef = .pointer (some ⟨g, 0, none⟩) := by simpa using hp
  simp [results, h, hp', asAddr, run_loadVar_row w g t ty cs fr d hg hu hd hi]
theorem results_row_tmp2 {P : Program} {fn : Func} {p u v : Tmp} {ty : TypeId} (h : fn.results = #[.cell p ty, .tmp u, .tmp v]) (tmps : Array Value) (w : World) (g : Nat) (t : TypeId) (cs : Array Value) (fr : Nat × Nat) (d : TypeDesc)
    (hp : tmps.getD p undef = .pointer (some ⟨g, 0, none⟩)) (hg : w.heap[g]? = some (.cells cs t fr))
    (hu : P.underlying ty = some d) (hd : (match d with | .struct _ | .array _ _ => true | _ => false) = true) (hi : (P.info? ty).map (·.size) = some cs.size) :
    (results fn tmps).run P w = .ok (.tuple #[.agg cs, tmps.getD u undef, tmps.getD v undef]) w := by
  have hp' : tmps[p]?.getD undef = .pointer (some ⟨g, 0, none⟩) := by simpa using hp
  simp [results, h, hp', asAddr, run_loadVar_row w g t ty cs fr d hg hu hd hi]
/-- The result's block is written: nothing else has turned. -/
theorem res_net {w0 w W : World} {S R n1 c1 n2 c2 : Nat} {A1 A2 : Option Addr} {n : GNet} {cs : Array Value} (hcs : cs = #[.slice none 0 0, .slice none 0 0]) (hRw : w.heap.size ≤ R) (hRw0 : w0.heap.size ≤ R) (hSR : S < R) (hR : W.heap[R]? = some (.cells cs 32 (0, 0)))
    (hO : OwnNet W (R + 1) A1 n1 c1 A2 n2 c2 n) (hD : Drw w0 W S) (hC : Chg (fun j => j = S) w W) :
    let W' := (W.setCell ⟨R, 0, none⟩ (.slice A1 n1 c1)).setCell ⟨R, 1, none⟩ (.slice A2 n2 c2)
    W'.heap[R]? = some (.cells #[.slice A1 n1 c1, .slice A2 n2 c2] 32 (0, 0)) ∧ OwnNet W' w.heap.size A1 n1 c1 A2 n2 c2 n ∧ Drw w0 W' S ∧ Chg (fun j => j = S) w W' ∧ Chg (fun j => j = R) W W' := by
  subst hcs
  have hcc : Chg (fun j => j = R) W ((W.setCell ⟨R, 0, none⟩ (.slice A1 n1 c1)).setCell ⟨R, 1, none⟩ (.slice A2 n2 c2)) := (chg_put _ _).trans (chg_put _ _)
  exact ⟨by simp [World.setCell, Array.getElem?_modify, hR], ⟨own_base (own_chg hO.nodes hcc (fun j hj e => by have := own_low hO.nodes hj; omega)) (by omega), own_base (own_chg hO.pipes hcc (fun j hj e => by have := own_low hO.pipes hj; omega)) (by omega), hO.names, hO.m1, hO.m2⟩, (hD.set hRw0 (by omega)).set hRw0 (by omega), (hC.fresh hRw).fresh hRw, hcc⟩
theorem own_pick {w : World} {base : Nat} {e : TypeId} {n c g : Nat} {zs : List Int} (h : w.ownsRow base e 1 (.slice (some ⟨g, 0, none⟩) n c) n (ints zs)) {y : Int} (h0 : 0 ≤ y) (h1 : y < (n : Int)) : ∃ v : Int, w.cell? ⟨g, y.toNat, none⟩ = some (.int .i64 v) := by
  have hl := own_ilen h
  exact ⟨_, (own_int h (get_int (l := zs) (k := y.toNat) (by omega))).1⟩
theorem Upto.below {n x : Int} (h : Upto n x) (hn : 0 < n) : 0 ≤ x ∧ x < n := by
  refine ⟨h.1, ?_⟩
  rcases Int.lt_or_le 1 n with h1 | h1
  · exact h.2.1 h1
  · have := h.2.2 h1; omega
theorem EndAt.gr {w0 w wx wy : World} {S R M : Nat} (h : EndAt w0 w wx S R M) (hg : Gr wx wy) : EndAt w0 w wy S R M := by
  obtain ⟨A1, n1, c1, A2, n2, c2, n, hM, hO, hb, hD, hC, hR⟩ := h
  exact ⟨A1, n1, c1, A2, n2, c2, n, (hg.below.block M (rb_lt hM)).trans hM, hO.gr hg, hb, hD.grow hg, hC.trans (hg.chg _), (hg.below.block R (rb_lt hR)).trans hR⟩
end Go.Proofs.YthhmhigddmimjaaGreat
