import Derived.Test.YthhmhigddmimjaaGreatDrawG
import Derived.Test.YthhmhigddmimjaaGreatDraw20
import Derived.Test.YthhmhigddmimjaaGreatDrawC
import Derived.Deep.RegionHeld3
import Derived.Test.YthhmhigddmimjaaGreatDrawN
/-
  Draws: settings. Printed by gen_draw28.py.
-/
set_option linter.unusedSimpArgs false
set_option linter.unusedVariables false
namespace Go.Proofs.YthhmhigddmimjaaGreat
open Go.ChangeShapes Go.WideShapes Go.ChangeAt Go.RowKit

set_option maxHeartbeats 6400000 in
set_option maxRecDepth 100000 in
theorem l16Draw_any {w0 w : World} {S : Nat} {A1 A2 : Option Addr} {n1 c1 n2 c2 : Nat} (h : Drw w0 w S) (hn : n2 ≤ 1000) :
    Calls Tryz.prog 101 #[.pointer (some ⟨S, 0, none⟩), .agg #[.slice A1 n1 c1, .slice A2 n2 c2]] w fun e w' => ∃ A m c, ∃ zs : List Int, e = .returned (.slice A m c) ∧ m ≤ n2 + 1 ∧ w'.ownsRow w.heap.size 2 1 (.slice A m c) m (ints zs) ∧ Drw w0 w' S ∧ Chg (fun k => k = S) w w' := by
  obtain ⟨i0, hi0, hz0, hz1, hz2⟩ := info_parts infoInt64
  have hlt := h.lt
  have hbw := h.gr.size
  have H := Lib.hid h
  clear h
  go_enter Tryz.func101, Tryz.ntmps101
  go_wp2_with fail
  obtain ⟨w4, hw4⟩ : ∃ W, W = w.alloc (.cells #[.slice A1 n1 c1, .slice A2 n2 c2] 32) := ⟨_, rfl⟩
  have hg4 : Gr w w4 := by rw [hw4]; exact (Gr.refl _).alloc _
  have b1 : w4.cell? ⟨w.heap.size, 1, none⟩ = some (.slice A2 n2 c2) := by rw [hw4]; simp [go_sem]
  have hs4 : w4.heap.size = w.heap.size + 1 := by rw [hw4]; simp
  rw [← hw4]
  obtain ⟨B, hB⟩ : ∃ B, B = w.heap.size := ⟨_, rfl⟩
  rw [← hB] at b1 hs4
  rw [← hB]
  have hBS : S < B := by omega
  have hS4 : S < w4.heap.size := by omega
  have h04 : w0.heap.size ≤ w4.heap.size := by omega
  have Hd4 := Lib.hid (H.out.grow hg4)
  have Q5 : Hid (RowSt (fun z : Int => [Value.int .i64 z]) 2 1 w0 w4 (w4.alloc (.cells #[] 2)) S (some ⟨B + 1, 0, none⟩) 0 0) := Lib.hid (by have := RowSt.init (f := fun z : Int => [Value.int .i64 z]) (e := 2) (sz := 1) Hd4.out (by omega); rw [hs4] at this; exact this)
  have HB := Lib.hid hB
  have Hw4 := Lib.hid hw4
  clear hw4 hB
  have Hend : Hid (∀ (wz : World) (A' : Option Addr) (u' c' : Nat), RowSt (fun z : Int => [Value.int .i64 z]) 2 1 w0 w4 wz S A' u' c' → ∃ zs : List Int, wz.ownsRow w.heap.size 2 1 (.slice A' u' c') u' (ints zs) ∧ Drw w0 wz S ∧ Chg (fun k => k = S) w wz) := Lib.hid (fun wz A' u' c' q => by
    obtain ⟨ls, hls⟩ := q.row
    have hb := HB.out
    exact ⟨ls, own_base (own_eq' hls (flat_int ls)) (by omega), q.dr, (hg4.chg _).trans q.ch⟩)
  clear hg4
  go_loopw [5, 6] (fun o i wq => ∃ k : Nat, k ≤ n2 ∧ i = .int .i64 k ∧ ∃ A c, o = .slice A k c ∧ RowSt (fun z : Int => [Value.int .i64 z]) 2 1 w0 w4 wq S A k c) (fun _ i _ => n2 - (intOf i).toNat)
  case atStart => exact ⟨0, Nat.zero_le _, rfl, _, _, rfl, Q5.out⟩
  case round =>
    obtain ⟨u, hk, rfl, A, cc, rfl, q⟩ := hrel
    rename World => wq
    have QQ := Lib.hid q
    have m1 := chg_cell' QQ.out.ch b1 (by simp only; omega)
    clear q Q5
    by_cases hkn : u < n2
    · have t1 : (u : Int) < (n2 : Int) := by omega
      have lo := World.ownsRow_lit wq (e := 2) (size := 1) #[.int .i64 1, .int .i64 1, .int .i64 1, .int .i64 2, .int .i64 0] 5 (Nat.le_refl _) (by unfold maxLen; omega) rfl
      have LO := Lib.hid lo
      have Q7 := Lib.hid (QQ.out.next hS4 (QQ.out.dr.grow ((Gr.refl _).alloc (.cells #[.int .i64 1, .int .i64 1, .int .i64 1, .int .i64 2, .int .i64 0] 2))) (((Gr.refl _).alloc (.cells #[.int .i64 1, .int .i64 1, .int .i64 1, .int .i64 2, .int .i64 0] 2)).chg _))
      have hSq : S < wq.heap.size := QQ.out.dr.lt
      clear lo
      go_wp2_with fail
      refine (l01Next_any 5 Q7.out.dr (by omega)).mono ?_
      rintro e w5 ⟨x, rfl, hx, hd5, hc5⟩
      obtain ⟨x0, x1⟩ := hx.lt (by omega)
      have lo2 := own_chg LO.out hc5 (fun j hj e => by have := own_low LO.out hj; omega)
      obtain ⟨z, hz⟩ := own_pick (zs := [1, 1, 1, 2, 0]) lo2 x0 x1
      have Q := Lib.hid (Q7.out.next hS4 hd5 hc5)
      clear hx hd5 hc5 lo2 LO Q7 QQ m1
      obtain ⟨ls, hls⟩ := Q.out.row
      have Hls := Lib.hid hls
      have hws := Q.out.ch.size
      clear hls
      go_wp2_with (at_builtin; (refine wpList_append_own _ rfl _ _ _ rfl w4.heap.size 2 i0 _ 1 8 Tryz.underlying26 hi0 hz0 hz1 hz2 rfl (by omega) _ u _ rfl (Hls.out.alloc _) ⟨w5.heap.size, 0, none⟩ 1 1 [.int .i64 z] rfl rfl (World.news_of_block (cs := #[.int .i64 z]) (t := 2) (fr := (0, 0)) (heap_alloc_new w5 _)) (by simp [Value.oneCell']) (by unfold maxLen; omega) (by omega) (by simp; omega) ?_; intro v' w20 hown20 hg20 _; obtain ⟨A', c', rfl⟩ := own_shape hown20; have Q20 := Lib.hid (Q.out.add (x := z) hS4 h04 hown20 hg20); clear hown20 hg20 Hls))
      go_wp2_with fail
      go_roundw
      case rel => exact ⟨u + 1, by omega, by go_num, _, _, rfl, Q20.out⟩
      case measure => simp [intOf]; omega
    · obtain rfl : n2 = u := by omega
      go_wp2_with fail
      refine (l01Next_any 30 QQ.out.dr (by omega)).mono ?_
      rintro e w5 ⟨t, rfl, ht, hd5, hc5⟩
      have Q := Lib.hid (QQ.out.next hS4 hd5 hc5)
      clear ht hd5 hc5 QQ m1
      by_cases h0 : t = 0
      · subst h0
        obtain ⟨ls, hls⟩ := Q.out.row
        have Hls := Lib.hid hls
        have hws := Q.out.ch.size
        clear hls
        go_wp2_with (at_builtin; (refine wpList_append_own _ rfl _ _ _ rfl w4.heap.size 2 i0 _ 1 8 Tryz.underlying26 hi0 hz0 hz1 hz2 rfl (by omega) _ n2 _ rfl (Hls.out.alloc _) ⟨w5.heap.size, 0, none⟩ 1 1 [.int .i64 1] rfl rfl (World.news_of_block (cs := #[.int .i64 1]) (t := 2) (fr := (0, 0)) (heap_alloc_new w5 _)) (by simp [Value.oneCell']) (by unfold maxLen; omega) (by omega) (by simp; omega) ?_; intro v' w20 hown20 hg20 _; obtain ⟨A', c', rfl⟩ := own_shape hown20; have Q20 := Lib.hid (Q.out.add (x := 1) hS4 h04 hown20 hg20); clear hown20 hg20 Hls))
        go_wp2_with fail
        go_ret
        obtain ⟨zs, e1, e2, e3⟩ := Hend.out _ _ _ _ Q20.out
        exact ⟨_, _, _, zs, rfl, by omega, e1, e2, e3⟩
      by_cases h1 : t = 1
      · subst h1
        by_cases hu0 : n2 = 0
        · subst hu0
          go_wp2_with fail
          go_ret
          obtain ⟨zs, e1, e2, e3⟩ := Hend.out _ _ _ _ Q.out
          exact ⟨_, _, _, zs, rfl, by omega, e1, e2, e3⟩
        have tu : decide ((0 : Int) < (n2 : Int)) = true := by simp; omega
        have lo := World.ownsRow_lit w5 (e := 2) (size := 1) #[.int .i64 (-1), .int .i64 3] 2 (Nat.le_refl _) (by unfold maxLen; omega) rfl
        have LO := Lib.hid lo
        have Q7 := Lib.hid (Q.out.next hS4 (Q.out.dr.grow ((Gr.refl _).alloc (.cells #[.int .i64 (-1), .int .i64 3] 2))) (((Gr.refl _).alloc (.cells #[.int .i64 (-1), .int .i64 3] 2)).chg _))
        have hS5 : S < w5.heap.size := Q.out.dr.lt
        clear lo
        go_wp2_with fail
        refine (l01Next_any 2 Q7.out.dr (by omega)).mono ?_
        rintro e w6 ⟨z, rfl, hz, hd6, hc6⟩
        obtain ⟨z0, z1⟩ := hz.lt (by omega)
        have lo2 := own_chg LO.out hc6 (fun j hj e => by have := own_low LO.out hj; omega)
        obtain ⟨v, hv⟩ := own_pick (zs := [-1, 3]) lo2 z0 z1
        have Q8 := Lib.hid (Q7.out.next hS4 hd6 hc6)
        obtain ⟨ls, hls⟩ := Q8.out.row
        obtain ⟨b, rfl, hbb, hbl⟩ := own_form hls (by omega)
        obtain ⟨x, hx⟩ : ∃ x, ls[0]? = some x := ⟨_, List.getElem?_eq_getElem (by have := own_ilen (own_eq' hls (flat_int ls)); omega)⟩
        obtain ⟨p0, p1⟩ := own_int (own_eq' hls (flat_int ls)) hx
        have t0 : (0 : Int) < (n2 : Int) := by omega
        have Q20 := Lib.hid (Q8.out.put hS4 h04 0 v)
        clear hz hd6 hc6 lo2 LO Q7 Q hls hx
        go_wp2_with fail
        go_ret
        obtain ⟨zs, e1, e2, e3⟩ := Hend.out _ _ _ _ Q20.out
        exact ⟨_, _, _, zs, rfl, by omega, e1, e2, e3⟩
      have tt0 : (t == 0) = false := by simp [h0]
      have tt1 : (t == 1) = false := by simp [h1]
      clear h0 h1
      go_wp2_with fail
      go_ret
      obtain ⟨zs, e1, e2, e3⟩ := Hend.out _ _ _ _ Q.out
      exact ⟨_, _, _, zs, rfl, by omega, e1, e2, e3⟩
end Go.Proofs.YthhmhigddmimjaaGreat
/-
  Draws: a network with wide bounds and supplies.
-/
set_option linter.unusedSimpArgs false
set_option linter.unusedVariables false
namespace Go.Proofs.YthhmhigddmimjaaGreat
open Go.ChangeShapes Go.WideShapes Go.ChangeAt Go.RowKit

theorem nd_low (ys : List GNode) (k : Nat) (x : GNode) (v : Int) (hx : ys[k]? = some x) : (ys.flatMap GNode.cells).set (k * 3 + 1) (.int .i64 v) = (ys.set k ⟨x.name, v, x.high⟩).flatMap GNode.cells := by
  induction ys generalizing k with
  | nil => simp at hx
  | cons y ys ih =>
    cases k with
    | zero =>
      simp at hx
      subst hx
      simp [GNode.cells]
    | succ k =>
      have hx' : ys[k]? = some x := by simpa using hx
      rw [List.set_cons_succ, List.flatMap_cons, List.flatMap_cons, ← ih k hx']
      have e : (k + 1) * 3 + 1 = y.cells.length + (k * 3 + 1) := by rw [GNode.cells_len]; omega
      rw [e, List.set_append_right _ _ (by omega), Nat.add_sub_cancel_left]
section
variable {w0 w wx wy : World} {S R M : Nat} {A1 A2 : Option Addr} {n1 c1 n2 c2 : Nat}
theorem NetM.node {g k j : Nat} (h : NetM w0 w wx S R M (some ⟨g, 0, none⟩) n1 c1 A2 n2 c2) (hRw : w.heap.size ≤ R) (hRw0 : w0.heap.size ≤ R) (hSR : S < R) (hMR : R < M) (hk : k < n1) (hj : j = 1 ∨ j = 2) (v : Int) : NetM w0 w (wx.setCell ⟨g, k * 3 + j, none⟩ (.int .i64 v)) S R M (some ⟨g, 0, none⟩) n1 c1 A2 n2 c2 := by
  obtain ⟨q, hM, hO, hD, hC, hR⟩ := h
  have hl := hO.at_.l1
  obtain ⟨x, hx⟩ : ∃ x, q.nodes[k]? = some x := ⟨_, List.getElem?_eq_getElem (by omega)⟩
  have hcs : Chg (fun j => j = g) wx (wx.setCell ⟨g, k * 3 + j, none⟩ (.int .i64 v)) := chg_put _ _
  have hb := own_low hO.nodes (k := g) rfl
  obtain ⟨x', hx', hnm⟩ : ∃ x' : GNode, (q.nodes.flatMap GNode.cells).set (k * 3 + j) (.int .i64 v) = (q.nodes.set k x').flatMap GNode.cells ∧ x'.name = x.name := by
    rcases hj with rfl | rfl
    · exact ⟨_, nd_low _ _ _ v hx, rfl⟩
    · exact ⟨_, nd_high _ _ _ v hx, rfl⟩
  have hp := own_eq' (hO.nodes.stored (k * 3 + j) (.int .i64 v)).1 hx'
  refine ⟨⟨q.nodes.set k x', q.pipes⟩, rb_chg hM hcs (fun e => ?_), ⟨hp, own_chg hO.pipes hcs (fun j hj e => ?_), nd_names hO.names (by rw [hnm]; exact hO.names x (List.mem_of_getElem? hx)), hO.m1, hO.m2⟩, hD.set (by omega) (by omega), hC.fresh (by omega), rb_chg hR hcs (by omega)⟩
  · subst e; exact own_type_blk' hO.nodes hM (by decide)
  · have hA := own_blk_at hO.pipes hj
    subst hA
    subst e
    exact own_types' hO.nodes hO.pipes (by decide)
theorem sup_keep {base g i s n c n' c' : Nat} {A : Option Addr} {e : TypeId} {xs ys : List Value} {v : Value} (h : wx.ownsRow base e s (.slice (some ⟨g, 0, none⟩) n c) n xs) (hs : wx.ownsRow base 2 1 (.slice A n' c') n' ys) (hne : e ≠ 2) : (wx.setCell ⟨g, i, none⟩ v).ownsRow base 2 1 (.slice A n' c') n' ys :=
  own_chg hs (chg_put _ _) (fun j hj e => by
    have hA := own_blk_at hs hj
    subst hA
    subst e
    exact own_types' h hs hne)
end
/-- A network and a row of numbers stand. -/
structure NetS (w0 w wx : World) (S R M : Nat) (A1 : Option Addr) (n1 c1 : Nat) (A2 : Option Addr) (n2 c2 : Nat) (A3 : Option Addr) (n3 c3 : Nat) (zs : List Int) : Prop where
  net : NetM w0 w wx S R M A1 n1 c1 A2 n2 c2
  sup : wx.ownsRow (R + 1) 2 1 (.slice A3 n3 c3) n3 (ints zs)
section
variable {w0 w wx wy : World} {S R M : Nat} {A1 A2 A3 : Option Addr} {n1 c1 n2 c2 n3 c3 : Nat} {zs : List Int}
theorem NetS.next (h : NetS w0 w wx S R M A1 n1 c1 A2 n2 c2 A3 n3 c3 zs) (hSR : S < R) (hMR : R < M) (hd : Drw w0 wy S) (hc : Chg (fun j => j = S) wx wy) : NetS w0 w wy S R M A1 n1 c1 A2 n2 c2 A3 n3 c3 zs :=
  ⟨h.net.next hSR hMR hd hc, own_chg h.sup hc (fun j hj e => by have := own_low h.sup hj; omega)⟩
theorem NetS.gr (h : NetS w0 w wx S R M A1 n1 c1 A2 n2 c2 A3 n3 c3 zs) (hg : Gr wx wy) : NetS w0 w wy S R M A1 n1 c1 A2 n2 c2 A3 n3 c3 zs := ⟨h.net.gr hg, own_gr h.sup hg⟩
theorem NetS.dr (h : NetS w0 w wx S R M A1 n1 c1 A2 n2 c2 A3 n3 c3 zs) : Drw w0 wx S := by obtain ⟨_, _, _, hD, _⟩ := h.net; exact hD
theorem NetS.node {g k j : Nat} (h : NetS w0 w wx S R M (some ⟨g, 0, none⟩) n1 c1 A2 n2 c2 A3 n3 c3 zs) (hRw : w.heap.size ≤ R) (hRw0 : w0.heap.size ≤ R) (hSR : S < R) (hMR : R < M) (hk : k < n1) (hj : j = 1 ∨ j = 2) (v : Int) : NetS w0 w (wx.setCell ⟨g, k * 3 + j, none⟩ (.int .i64 v)) S R M (some ⟨g, 0, none⟩) n1 c1 A2 n2 c2 A3 n3 c3 zs := by
  obtain ⟨q, hM, hO, hD, hC, hR⟩ := h.net
  exact ⟨NetM.node ⟨q, hM, hO, hD, hC, hR⟩ hRw hRw0 hSR hMR hk hj v, sup_keep hO.nodes h.sup (by decide)⟩
theorem NetS.lim {b k : Nat} (h : NetS w0 w wx S R M A1 n1 c1 (some ⟨b, 0, none⟩) n2 c2 A3 n3 c3 zs) (hRw : w.heap.size ≤ R) (hRw0 : w0.heap.size ≤ R) (hSR : S < R) (hMR : R < M) (hk : k < n2) (v : Int) : NetS w0 w (wx.setCell ⟨b, k * 5 + 4, none⟩ (.int .i64 v)) S R M A1 n1 c1 (some ⟨b, 0, none⟩) n2 c2 A3 n3 c3 zs := by
  obtain ⟨q, hM, hO, hD, hC, hR⟩ := h.net
  exact ⟨NetM.lim ⟨q, hM, hO, hD, hC, hR⟩ (Gr.refl _) hRw hRw0 hSR hMR hk v, sup_keep hO.pipes h.sup (by decide)⟩
theorem NetS.m0 (h : NetS w0 w wx S R M A1 n1 c1 A2 n2 c2 A3 n3 c3 zs) : wx.cell? ⟨M, 0, none⟩ = some (.slice A1 n1 c1) := by obtain ⟨q, hM, _⟩ := h.net; exact rb_cell (j := 0) hM rfl
theorem NetS.m1 (h : NetS w0 w wx S R M A1 n1 c1 A2 n2 c2 A3 n3 c3 zs) : wx.cell? ⟨M, 1, none⟩ = some (.slice A2 n2 c2) := by obtain ⟨q, hM, _⟩ := h.net; exact rb_cell (j := 1) hM rfl
theorem NetS.fn {g k j : Nat} (h : NetS w0 w wx S R M (some ⟨g, 0, none⟩) n1 c1 A2 n2 c2 A3 n3 c3 zs) (hk : k < n1) (hj : j = 1 ∨ j = 2) : (∃ z : Int, wx.cell? ⟨g, k * 3 + j, none⟩ = some (.int .i64 z)) ∧ wx.frozen? ⟨g, k * 3 + j, none⟩ = false := by
  obtain ⟨q, hM, hO, _⟩ := h.net
  have hl := hO.at_.l1
  obtain ⟨x, hx⟩ : ∃ x, q.nodes[k]? = some x := ⟨_, List.getElem?_eq_getElem (by omega)⟩
  obtain ⟨_, a, b, _, c, d⟩ := own_nd hO.nodes hx
  rcases hj with rfl | rfl
  · exact ⟨⟨_, a⟩, c⟩
  · exact ⟨⟨_, b⟩, d⟩
theorem NetS.fp {b k : Nat} (h : NetS w0 w wx S R M A1 n1 c1 (some ⟨b, 0, none⟩) n2 c2 A3 n3 c3 zs) (hk : k < n2) : (∃ z : Int, wx.cell? ⟨b, k * 5 + 4, none⟩ = some (.int .i64 z)) ∧ wx.frozen? ⟨b, k * 5 + 4, none⟩ = false := by
  obtain ⟨q, hM, hO, _⟩ := h.net
  have hl := hO.at_.l2
  obtain ⟨x, hx⟩ : ∃ x, q.pipes[k]? = some x := ⟨_, List.getElem?_eq_getElem (by omega)⟩
  obtain ⟨_, _, _, _, a, _, _, _, _, c⟩ := own_pp hO.pipes hx
  exact ⟨⟨_, a⟩, c⟩
theorem NetS.g1 (h : NetS w0 w wx S R M A1 n1 c1 A2 n2 c2 A3 n3 c3 zs) (h0 : 0 < n1) : ∃ g, A1 = some ⟨g, 0, none⟩ ∧ R < g := by
  obtain ⟨q, hM, hO, _⟩ := h.net
  obtain ⟨g, e, _⟩ := own_form hO.nodes h0
  subst e
  exact ⟨g, rfl, by have := own_low hO.nodes (k := g) rfl; omega⟩
theorem NetS.g2 (h : NetS w0 w wx S R M A1 n1 c1 A2 n2 c2 A3 n3 c3 zs) (h0 : 0 < n2) : ∃ g, A2 = some ⟨g, 0, none⟩ ∧ R < g := by
  obtain ⟨q, hM, hO, _⟩ := h.net
  obtain ⟨g, e, _⟩ := own_form hO.pipes h0
  subst e
  exact ⟨g, rfl, by have := own_low hO.pipes (k := g) rfl; omega⟩
/-- The end: the network's block is read into the result's. -/
theorem NetS.fin (h : NetS w0 w wx S R M A1 n1 c1 A2 n2 c2 A3 n3 c3 zs) (hRw : w.heap.size ≤ R) (hRw0 : w0.heap.size ≤ R) (hSR : S < R) (hMR : R < M) :
    (wx.heap[M]? = some (.cells #[.slice A1 n1 c1, .slice A2 n2 c2] 32 (0, 0)) ∧ wx.heap[R]? = some (.cells #[.slice none 0 0, .slice none 0 0] 32 (0, 0))) ∧
    ((wx.setCell ⟨R, 0, none⟩ (.slice A1 n1 c1)).setCell ⟨R, 1, none⟩ (.slice A2 n2 c2)).heap[R]? = some (.cells #[.slice A1 n1 c1, .slice A2 n2 c2] 32 (0, 0)) ∧
    (∃ n, OwnNet ((wx.setCell ⟨R, 0, none⟩ (.slice A1 n1 c1)).setCell ⟨R, 1, none⟩ (.slice A2 n2 c2)) w.heap.size A1 n1 c1 A2 n2 c2 n) ∧
    ((wx.setCell ⟨R, 0, none⟩ (.slice A1 n1 c1)).setCell ⟨R, 1, none⟩ (.slice A2 n2 c2)).ownsRow w.heap.size 2 1 (.slice A3 n3 c3) n3 (ints zs) ∧
    Drw w0 ((wx.setCell ⟨R, 0, none⟩ (.slice A1 n1 c1)).setCell ⟨R, 1, none⟩ (.slice A2 n2 c2)) S ∧ Chg (fun j => j = S) w ((wx.setCell ⟨R, 0, none⟩ (.slice A1 n1 c1)).setCell ⟨R, 1, none⟩ (.slice A2 n2 c2)) := by
  obtain ⟨n, hM, hO, hD, hC, hR⟩ := h.net
  have hcc : Chg (fun j => j = R) wx ((wx.setCell ⟨R, 0, none⟩ (.slice A1 n1 c1)).setCell ⟨R, 1, none⟩ (.slice A2 n2 c2)) := (chg_put _ _).trans (chg_put _ _)
  obtain ⟨h1, h2, h3, h4, h5⟩ := res_net rfl hRw hRw0 hSR hR hO hD hC
  exact ⟨⟨hM, hR⟩, h1, ⟨n, h2⟩, own_base (own_chg h.sup hcc (fun j hj e => by have := own_low h.sup hj; omega)) (by omega), h3, h4⟩
end
set_option maxHeartbeats 6400000 in
set_option maxRecDepth 100000 in
theorem l13Draw_any {w0 w : World} {S : Nat} (h : Drw w0 w S) :
    Calls Tryz.prog 71 #[.pointer (some ⟨S, 0, none⟩)] w fun e w' => ∃ A1 n1 c1 A2 n2 c2 n A3 n3 c3, ∃ zs : List Int, e = .returned (.tuple #[.agg #[.slice A1 n1 c1, .slice A2 n2 c2], .slice A3 n3 c3]) ∧ OwnNet w' w.heap.size A1 n1 c1 A2 n2 c2 n ∧ (n1 ≤ 7 ∧ n2 ≤ 12 ∧ n3 ≤ 30) ∧ w'.ownsRow w.heap.size 2 1 (.slice A3 n3 c3) n3 (ints zs) ∧ Drw w0 w' S ∧ Chg (fun k => k = S) w w' := by
  have hlt := h.lt
  have hbw := h.gr.size
  have H := Lib.hid h
  clear h
  go_enter Tryz.func71, Tryz.ntmps71
  go_wp2_with fail
  generalize hw1 : World.alloc w _ = w1
  have hR : w1.heap[w.heap.size]? = some (.cells #[.slice none 0 0, .slice none 0 0] 32 (0, 0)) := by rw [← hw1]; exact heap_alloc_new w _
  have hg1 : Gr w w1 := by rw [← hw1]; exact (Gr.refl _).alloc _
  have hs1 : w1.heap.size = w.heap.size + 1 := by rw [← hw1]; simp
  obtain ⟨R, hRe⟩ : ∃ R, R = w.heap.size := ⟨_, rfl⟩
  rw [← hRe] at hR ⊢
  have hSR : S < R := by omega
  have hRw : w.heap.size ≤ R := by omega
  have hR1 : w1.heap.size = R + 1 := by omega
  have hRw0 : w0.heap.size ≤ R := by omega
  have HR := Lib.hid hR
  clear hw1 hRe hR
  refine (l06Draw_any (H.out.grow hg1)).mono ?_
  rintro e w2 ⟨A1, n1, c1, A2, n2, c2, n, A3, n3, c3, zs, rfl, hown, ⟨hn7, hn9, hn3⟩, hsup, hd2, hc2⟩
  have hR2 := rb_chg HR.out hc2 (by omega)
  have hcc2 := (hg1.chg (fun k => k = S)).trans hc2
  have hs2 := rb_lt hR2
  generalize hw3 : World.alloc w2 (.cells #[.slice A1 n1 c1, .slice A2 n2 c2] 32) = w3
  have hg3 : Gr w2 w3 := by rw [← hw3]; exact (Gr.refl _).alloc _
  have hM3 : w3.heap[w2.heap.size]? = some (.cells #[.slice A1 n1 c1, .slice A2 n2 c2] 32 (0, 0)) := by rw [← hw3]; exact heap_alloc_new w2 _
  obtain ⟨M, hM⟩ : ∃ M, M = w2.heap.size := ⟨_, rfl⟩
  rw [← hM] at hM3
  have hMR : R < M := by omega
  have HS3 : Hid (NetS w0 w w3 S R M A1 n1 c1 A2 n2 c2 A3 n3 c3 zs) := Lib.hid ⟨⟨n, hM3, by rw [← hR1]; exact hown.gr hg3, hd2.grow hg3, hcc2.trans (hg3.chg _), (hg3.below.block R hs2).trans hR2⟩, by rw [← hR1]; exact own_gr hsup hg3⟩
  have Hw3 := Lib.hid hw3
  have HMe := Lib.hid hM
  clear hw3 hM hM3 HR hc2 hown hsup hd2 hR2 hcc2 hs2
  go_wp2_with fail
  rw [Hw3.out, ← HMe.out]
  refine (l01Next_any 3 HS3.out.dr (by omega)).mono ?_
  rintro e w4 ⟨t, rfl, ht, hd4, hc4⟩
  have HS4 := Lib.hid (HS3.out.next hSR hMR hd4 hc4)
  clear ht hd4 hc4 HS3
  by_cases ht0 : t = 0
  · subst ht0
    obtain ⟨⟨hMz, hRz⟩, h1, ⟨nf, h2⟩, h3, h4, h5⟩ := NetS.fin HS4.out hRw hRw0 hSR hMR
    have m0 := rb_cell (j := 0) hMz rfl
    have m1 := rb_cell (j := 1) hMz rfl
    have r0 := rb_cell (j := 0) hRz rfl
    have r1 := rb_cell (j := 1) hRz rfl
    have f0 := rb_frozen hRz 0
    have f1 := rb_frozen hRz 1
    have H1 := Lib.hid h1
    have H2 := Lib.hid h2
    have H3 := Lib.hid h3
    have H4 := Lib.hid h4
    have H5 := Lib.hid h5
    clear h1 h2 h3 h4 h5 hMz hRz
    go_wp2_with fail
    (try simp only [Exit.inBlock, Exit.then])
    refine bodyPost_ret (results_row_tmp Tryz.results71 _ _ R 32 #[.slice A1 n1 c1, .slice A2 n2 c2] (0, 0) _ ?_ H1.out Tryz.underlying32 rfl (by kernel_rfl)) ?_ ?_
    · rfl
    · rfl
    exact ⟨_, _, _, _, _, _, nf, _, _, _, zs, rfl, H2.out, ⟨hn7, hn9, hn3⟩, H3.out, H4.out, H5.out⟩
  have tt : (t == 0) = false := by simp [ht0]
  clear ht0
  go_wp2_with fail
  go_loopw [6] (fun i wr => ∃ k : Nat, k ≤ n1 ∧ i = .int .i64 k ∧ NetS w0 w wr S R M A1 n1 c1 A2 n2 c2 A3 n3 c3 zs) (fun i _ => n1 - (intOf i).toNat)
  case atStart => exact ⟨0, Nat.zero_le _, rfl, HS4.out⟩
  case round =>
    obtain ⟨k, hk, rfl, hN⟩ := hrel
    have HN := Lib.hid hN
    have m0 := hN.m0
    clear hN HS4
    by_cases hkn : k < n1
    · obtain ⟨g, hg, hgR⟩ := NetS.g1 HN.out (by omega)
      subst hg
      have t1 : (k : Int) < (n1 : Int) := by omega
      have t0 : (0 : Int) ≤ (k : Int) := by omega
      rename World => wr
      have m0 := NetS.m0 HN.out
      have m0d := (Gr.refl wr).drew.has m0
      obtain ⟨⟨z0, hz0⟩, hzf⟩ := NetS.fn HN.out hkn (j := 1) (by omega)
      have Dd := Lib.hid ((NetS.dr HN.out).grow (Gr.refl _).drew)
      have Ex : Hid (∀ (W : World) (x : Int), Drw w0 W S → Chg (fun j => j = S) (World.drew wr) W → (NetS w0 w (W.setCell ⟨g, k * 3 + 1, none⟩ (.int .i64 x)) S R M (some ⟨g, 0, none⟩) n1 c1 A2 n2 c2 A3 n3 c3 zs) ∧ (∃ z : Int, W.cell? ⟨g, k * 3 + 1, none⟩ = some (.int .i64 z)) ∧ W.frozen? ⟨g, k * 3 + 1, none⟩ = false) := Lib.hid (fun W x hd hc => by
        have q := NetS.next (NetS.gr HN.out (Gr.refl _).drew) hSR hMR hd hc
        obtain ⟨a, b⟩ := NetS.fn q hkn (j := 1) (by omega)
        exact ⟨NetS.node q hRw hRw0 hSR hMR hkn (by omega) x, a, b⟩)
      clear hz0 hzf
      go_wp2_with fail
      go_region_held3 (fun w' => w'.cell? ⟨M, 0, none⟩ = some (.slice (some ⟨g, 0, none⟩) n1 c1))
        (first | with_reducible exact m0d | with_reducible assumption)
        (first | (go_at_call 102; with_reducible refine (l01Next_any 900 Dd.out (by omega)).mono ?_; rintro e v6 ⟨x, rfl, hx, hd6, hc6⟩; have p0 := chg_cell' hc6 m0d (by simp only; omega); obtain ⟨q1, ⟨z1, q2⟩, q3⟩ := Ex.out v6 x hd6 hc6; have q4 := NetS.m0 q1; clear hx hd6))
      have HN2 := Lib.hid q1
      clear q1 q2 q3 q4 p0 hc6 Ex Dd HN m0 m0d
      generalize World.setCell v6 _ _ = w7 at HN2 ⊢
      have m0 := NetS.m0 HN2.out
      have m0d := (Gr.refl w7).drew.has m0
      obtain ⟨⟨z0, hz0⟩, hzf⟩ := NetS.fn HN2.out hkn (j := 2) (by omega)
      have Dd := Lib.hid ((NetS.dr HN2.out).grow (Gr.refl _).drew)
      have Ex : Hid (∀ (W : World) (x : Int), Drw w0 W S → Chg (fun j => j = S) (World.drew w7) W → (NetS w0 w (W.setCell ⟨g, k * 3 + 2, none⟩ (.int .i64 x)) S R M (some ⟨g, 0, none⟩) n1 c1 A2 n2 c2 A3 n3 c3 zs) ∧ (∃ z : Int, W.cell? ⟨g, k * 3 + 2, none⟩ = some (.int .i64 z)) ∧ W.frozen? ⟨g, k * 3 + 2, none⟩ = false) := Lib.hid (fun W x hd hc => by
        have q := NetS.next (NetS.gr HN2.out (Gr.refl _).drew) hSR hMR hd hc
        obtain ⟨a, b⟩ := NetS.fn q hkn (j := 2) (by omega)
        exact ⟨NetS.node q hRw hRw0 hSR hMR hkn (by omega) x, a, b⟩)
      clear hz0 hzf
      go_wp2_with fail
      go_region_held3 (fun w' => w'.cell? ⟨M, 0, none⟩ = some (.slice (some ⟨g, 0, none⟩) n1 c1))
        (first | with_reducible exact m0d | with_reducible assumption)
        (first | (go_at_call 102; with_reducible refine (l01Next_any 90000 Dd.out (by omega)).mono ?_; rintro e v8 ⟨x, rfl, hx, hd6, hc6⟩; obtain ⟨xa, xb⟩ := hx.lt (by omega); have hwx : IntKind.i64.wrap (60000 + x) = 60000 + x := IntWalk.i64_in _ (by omega); have p0 := chg_cell' hc6 m0d (by simp only; omega); obtain ⟨q1, ⟨z1, q2⟩, q3⟩ := Ex.out v8 (60000 + x) hd6 hc6; have q4 := NetS.m0 q1; clear hx hd6))
      have HN3 := Lib.hid q1
      clear q1 q2 q3 q4 p0 hc6 Ex Dd HN2 m0 m0d
      go_wp2_with fail
      go_roundw
      case rel => exact ⟨k + 1, by omega, by go_num, HN3.out⟩
      case measure => simp [intOf]; omega
    · obtain rfl : n1 = k := by omega
      go_wp2_with fail
      go_loopw [7] (fun i wr => ∃ k : Nat, k ≤ n2 ∧ i = .int .i64 k ∧ NetS w0 w wr S R M A1 n1 c1 A2 n2 c2 A3 n3 c3 zs) (fun i _ => n2 - (intOf i).toNat)
      case atStart => exact ⟨0, Nat.zero_le _, rfl, HN.out⟩
      case round =>
        obtain ⟨k, hk, rfl, hN⟩ := hrel
        have HNp := Lib.hid hN
        have m1 := hN.m1
        clear hN HN m0
        by_cases hkn : k < n2
        · obtain ⟨g, hg, hgR⟩ := NetS.g2 HNp.out (by omega)
          subst hg
          have t1 : (k : Int) < (n2 : Int) := by omega
          have t0 : (0 : Int) ≤ (k : Int) := by omega
          rename World => wr
          have m1d := (Gr.refl wr).drew.has m1
          have Dd := Lib.hid ((NetS.dr HNp.out).grow (Gr.refl _).drew)
          have Ex : Hid (∀ (W : World) (x : Int), Drw w0 W S → Chg (fun j => j = S) (World.drew wr) W → (NetS w0 w (W.setCell ⟨g, k * 5 + 4, none⟩ (.int .i64 x)) S R M A1 n1 c1 (some ⟨g, 0, none⟩) n2 c2 A3 n3 c3 zs) ∧ (∃ z : Int, W.cell? ⟨g, k * 5 + 4, none⟩ = some (.int .i64 z)) ∧ W.frozen? ⟨g, k * 5 + 4, none⟩ = false) := Lib.hid (fun W x hd hc => by
            have q := NetS.next (NetS.gr HNp.out (Gr.refl _).drew) hSR hMR hd hc
            obtain ⟨a, b⟩ := NetS.fp q hkn
            exact ⟨NetS.lim q hRw hRw0 hSR hMR hkn x, a, b⟩)
          go_wp2_with fail
          go_region_held3 (fun w' => w'.cell? ⟨M, 1, none⟩ = some (.slice (some ⟨g, 0, none⟩) n2 c2))
            (first | with_reducible exact m1d | with_reducible assumption)
            (first | (go_at_call 102; with_reducible refine (l01Next_any 200 Dd.out (by omega)).mono ?_; rintro e v8 ⟨x, rfl, hx, hd6, hc6⟩; obtain ⟨xa, xb⟩ := hx.lt (by omega); have hwx : IntKind.i64.wrap (40 + x) = 40 + x := IntWalk.i64_in _ (by omega); have p0 := chg_cell' hc6 m1d (by simp only; omega); obtain ⟨q1, ⟨z1, q2⟩, q3⟩ := Ex.out v8 (40 + x) hd6 hc6; have q4 := NetS.m1 q1; clear hx hd6))
          have HN3 := Lib.hid q1
          clear q1 q2 q3 q4 p0 hc6 Ex Dd HNp m1 m1d
          go_wp2_with fail
          go_roundw
          case rel => exact ⟨k + 1, by omega, by go_num, HN3.out⟩
          case measure => simp [intOf]; omega
        · obtain rfl : n2 = k := by omega
          obtain ⟨⟨hMz, hRz⟩, h1, ⟨nf, h2⟩, h3, h4, h5⟩ := NetS.fin HNp.out hRw hRw0 hSR hMR
          have m0 := rb_cell (j := 0) hMz rfl
          have m1 := rb_cell (j := 1) hMz rfl
          have r0 := rb_cell (j := 0) hRz rfl
          have r1 := rb_cell (j := 1) hRz rfl
          have f0 := rb_frozen hRz 0
          have f1 := rb_frozen hRz 1
          have H1 := Lib.hid h1
          have H2 := Lib.hid h2
          have H3 := Lib.hid h3
          have H4 := Lib.hid h4
          have H5 := Lib.hid h5
          clear h1 h2 h3 h4 h5 hMz hRz
          go_wp2_with fail
          (try simp only [Exit.inBlock, Exit.then])
          refine bodyPost_ret (results_row_tmp Tryz.results71 _ _ R 32 #[.slice A1 n1 c1, .slice A2 n2 c2] (0, 0) _ ?_ H1.out Tryz.underlying32 rfl (by kernel_rfl)) ?_ ?_
          · rfl
          · rfl
          exact ⟨_, _, _, _, _, _, nf, _, _, _, zs, rfl, H2.out, ⟨hn7, hn9, hn3⟩, H3.out, H4.out, H5.out⟩
end Go.Proofs.YthhmhigddmimjaaGreat
/-
  Draws: a network, settings, switches and supplies. Printed by gen_draw30.py.
-/
set_option linter.unusedSimpArgs false
set_option linter.unusedVariables false
namespace Go.Proofs.YthhmhigddmimjaaGreat
open Go.ChangeShapes Go.WideShapes Go.ChangeAt Go.RowKit

/-- The end with three rows: the network's block is read into the result's. -/
theorem end27 {w0 w w4 wz : World} {S R M : Nat} {A1 A2 A3 A4 A : Option Addr} {n1 c1 n2 c2 n3 c3 n4 c4 u c : Nat} {sup : List Int} (hN : NetS w0 w w4 S R M A1 n1 c1 A2 n2 c2 A3 n3 c3 sup) (hl : ∃ zs : List Int, w4.ownsRow (R + 1) 2 1 (.slice A4 n4 c4) n4 (ints zs)) (q : RowSt (fun z : Int => [Value.int .i64 z]) 2 1 w0 w4 wz S A u c) (hRw : w.heap.size ≤ R) (hRw0 : w0.heap.size ≤ R) (hSR : S < R) (hMR : R < M) :
    (wz.heap[M]? = some (.cells #[.slice A1 n1 c1, .slice A2 n2 c2] 32 (0, 0)) ∧ wz.heap[R]? = some (.cells #[.slice none 0 0, .slice none 0 0] 32 (0, 0))) ∧
    ((wz.setCell ⟨R, 0, none⟩ (.slice A1 n1 c1)).setCell ⟨R, 1, none⟩ (.slice A2 n2 c2)).heap[R]? = some (.cells #[.slice A1 n1 c1, .slice A2 n2 c2] 32 (0, 0)) ∧
    (∃ n, OwnNet ((wz.setCell ⟨R, 0, none⟩ (.slice A1 n1 c1)).setCell ⟨R, 1, none⟩ (.slice A2 n2 c2)) w.heap.size A1 n1 c1 A2 n2 c2 n) ∧ ((wz.setCell ⟨R, 0, none⟩ (.slice A1 n1 c1)).setCell ⟨R, 1, none⟩ (.slice A2 n2 c2)).ownsRow w.heap.size 2 1 (.slice A3 n3 c3) n3 (ints sup) ∧ (∃ zs : List Int, ((wz.setCell ⟨R, 0, none⟩ (.slice A1 n1 c1)).setCell ⟨R, 1, none⟩ (.slice A2 n2 c2)).ownsRow w.heap.size 2 1 (.slice A4 n4 c4) n4 (ints zs)) ∧ (∃ zs : List Int, ((wz.setCell ⟨R, 0, none⟩ (.slice A1 n1 c1)).setCell ⟨R, 1, none⟩ (.slice A2 n2 c2)).ownsRow w.heap.size 2 1 (.slice A u c) u (ints zs)) ∧ Drw w0 ((wz.setCell ⟨R, 0, none⟩ (.slice A1 n1 c1)).setCell ⟨R, 1, none⟩ (.slice A2 n2 c2)) S ∧ Chg (fun j => j = S) w ((wz.setCell ⟨R, 0, none⟩ (.slice A1 n1 c1)).setCell ⟨R, 1, none⟩ (.slice A2 n2 c2)) := by
  obtain ⟨zs, hl⟩ := hl
  obtain ⟨a1, a2, a3, ⟨ls, a4⟩, a5, a6, a7⟩ := list_end3 hN.net hN.sup q hRw hRw0 hSR hMR
  obtain ⟨_, _, _, _, b5, _, _⟩ := list_end3 hN.net hl q hRw hRw0 hSR hMR
  exact ⟨a1, a2, a3, a5, ⟨zs, b5⟩, ⟨ls, own_eq' a4 (flat_int ls)⟩, a6, a7⟩
set_option maxHeartbeats 6400000 in
set_option maxRecDepth 100000 in
theorem l27Draw_any {w0 w : World} {S : Nat} (h : Drw w0 w S) :
    Calls Tryz.prog 67 #[.pointer (some ⟨S, 0, none⟩)] w fun e w' => ∃ A1 n1 c1 A2 n2 c2 n A3 n3 c3 A4 n4 c4 A5 n5 c5, ∃ zs ss sup : List Int, e = .returned (.tuple #[.agg #[.slice A1 n1 c1, .slice A2 n2 c2], .slice A3 n3 c3, .slice A4 n4 c4, .slice A5 n5 c5]) ∧ OwnNet w' w.heap.size A1 n1 c1 A2 n2 c2 n ∧ (n3 ≤ 100 ∧ n4 ≤ 6 ∧ n5 ≤ 100) ∧ w'.ownsRow w.heap.size 2 1 (.slice A3 n3 c3) n3 (ints zs) ∧ w'.ownsRow w.heap.size 2 1 (.slice A4 n4 c4) n4 (ints ss) ∧ w'.ownsRow w.heap.size 2 1 (.slice A5 n5 c5) n5 (ints sup) ∧ Drw w0 w' S ∧ Chg (fun k => k = S) w w' := by
  obtain ⟨i0, hi0, hz0, hz1, hz2⟩ := info_parts infoInt64
  have hlt := h.lt
  have hbw := h.gr.size
  have H := Lib.hid h
  clear h
  go_enter Tryz.func67, Tryz.ntmps67
  go_wp2_with fail
  generalize hw1 : World.alloc w _ = w1
  have hR : w1.heap[w.heap.size]? = some (.cells #[.slice none 0 0, .slice none 0 0] 32 (0, 0)) := by rw [← hw1]; exact heap_alloc_new w _
  have hg1 : Gr w w1 := by rw [← hw1]; exact (Gr.refl _).alloc _
  have hs1 : w1.heap.size = w.heap.size + 1 := by rw [← hw1]; simp
  obtain ⟨R, hRe⟩ : ∃ R, R = w.heap.size := ⟨_, rfl⟩
  rw [← hRe] at hR ⊢
  have hSR : S < R := by omega
  have hRw : w.heap.size ≤ R := by omega
  have hR1 : w1.heap.size = R + 1 := by omega
  have hRw0 : w0.heap.size ≤ R := by omega
  have HR := Lib.hid hR
  clear hw1 hRe hR
  refine (l13Draw_any (H.out.grow hg1)).mono ?_
  rintro e w2 ⟨A1, n1, c1, A2, n2, c2, n, A3, n3, c3, sup, rfl, hown, ⟨hn7, hn9, hn3⟩, hsup, hd2, hc2⟩
  have hR2 := rb_chg HR.out hc2 (by omega)
  have hcc2 := (hg1.chg (fun k => k = S)).trans hc2
  have hs2 := rb_lt hR2
  generalize hw3 : World.alloc w2 (.cells #[.slice A1 n1 c1, .slice A2 n2 c2] 32) = w3
  have hg3 : Gr w2 w3 := by rw [← hw3]; exact (Gr.refl _).alloc _
  have hM3 : w3.heap[w2.heap.size]? = some (.cells #[.slice A1 n1 c1, .slice A2 n2 c2] 32 (0, 0)) := by rw [← hw3]; exact heap_alloc_new w2 _
  obtain ⟨M, hM⟩ : ∃ M, M = w2.heap.size := ⟨_, rfl⟩
  rw [← hM] at hM3
  have hMR : R < M := by omega
  have HS3 : Hid (NetS w0 w w3 S R M A1 n1 c1 A2 n2 c2 A3 n3 c3 sup) := Lib.hid ⟨⟨n, hM3, by rw [← hR1]; exact hown.gr hg3, hd2.grow hg3, hcc2.trans (hg3.chg _), (hg3.below.block R hs2).trans hR2⟩, by rw [← hR1]; exact own_gr hsup hg3⟩
  have Hw3 := Lib.hid hw3
  have HMe := Lib.hid hM
  clear hw3 hM hM3 HR hc2 hown hsup hd2 hR2 hcc2 hs2
  go_wp2_with fail
  rw [Hw3.out, ← HMe.out]
  refine (l16Draw_any HS3.out.dr (by omega)).mono ?_
  rintro e w4 ⟨A4, n4, c4, z4, rfl, hn4, ho4, hd4, hc4⟩
  have hS3 : S < w3.heap.size := HS3.out.dr.lt
  have h03 : w0.heap.size ≤ w3.heap.size := HS3.out.dr.gr.size
  have hR3 : R + 1 ≤ w3.heap.size := by obtain ⟨_, hM, _⟩ := HS3.out.net; have := rb_lt hM; omega
  have Q4 : Hid (RowSt (fun z : Int => [Value.int .i64 z]) 2 1 w0 w3 w4 S A4 n4 c4) := Lib.hid ⟨⟨z4, own_eq' ho4 (flat_int z4).symm⟩, hd4, hc4⟩
  clear ho4 hd4 hc4
  go_wp2_with fail
  go_loopw [9] (fun i wr => ∃ k : Nat, k ≤ n4 ∧ i = .int .i64 k ∧ RowSt (fun z : Int => [Value.int .i64 z]) 2 1 w0 w3 wr S A4 n4 c4) (fun i _ => n4 - (intOf i).toNat)
  case atStart => exact ⟨0, Nat.zero_le _, rfl, Q4.out⟩
  case round =>
    obtain ⟨k, hk, rfl, hq⟩ := hrel
    rename World => wr
    have QR := Lib.hid hq
    clear hq Q4
    by_cases hkn : k < n4
    · obtain ⟨ls, hls⟩ := QR.out.row
      obtain ⟨b, rfl, hbb, hbl⟩ := own_form hls (by omega)
      obtain ⟨z, hz⟩ : ∃ z, ls[k]? = some z := ⟨_, List.getElem?_eq_getElem (by have := own_ilen (own_eq' hls (flat_int ls)); omega)⟩
      obtain ⟨p0, p1⟩ := own_int (own_eq' hls (flat_int ls)) hz
      have t1 : (k : Int) < (n4 : Int) := by omega
      have t0 : (0 : Int) ≤ (k : Int) := by omega
      clear hls hz
      by_cases hz0' : z = 0
      · subst hz0'
        go_wp2_with fail
        refine (l01Next_any 3 QR.out.dr (by omega)).mono ?_
        rintro e w5 ⟨t, rfl, ht, hd5, hc5⟩
        have Q5 := Lib.hid (QR.out.next hS3 hd5 hc5)
        clear ht hd5 hc5 QR p0 p1
        by_cases htp : 0 < t
        · have tp : decide (0 < t) = true := decide_eq_true htp
          obtain ⟨ls, hls⟩ := Q5.out.row
          obtain ⟨z, hz⟩ : ∃ z, ls[k]? = some z := ⟨_, List.getElem?_eq_getElem (by have := own_ilen (own_eq' hls (flat_int ls)); omega)⟩
          obtain ⟨p0, p1⟩ := own_int (own_eq' hls (flat_int ls)) hz
          have Q6 := Lib.hid (Q5.out.put hS3 h03 k 1)
          clear hls hz htp
          go_wp2_with fail
          go_roundw
          case rel => exact ⟨k + 1, by omega, by go_num, Q6.out⟩
          case measure => simp [intOf]; omega
        · have tp : decide (0 < t) = false := decide_eq_false htp
          clear htp
          go_wp2_with fail
          go_roundw
          case rel => exact ⟨k + 1, by omega, by go_num, Q5.out⟩
          case measure => simp [intOf]; omega
      · have tz : (z == 0) = false := by simp [hz0']
        clear hz0'
        go_wp2_with fail
        go_roundw
        case rel => exact ⟨k + 1, by omega, by go_num, QR.out⟩
        case measure => simp [intOf]; omega
    · obtain rfl : n4 = k := by omega
      obtain ⟨w6, hw6⟩ : ∃ W, W = wr := ⟨_, rfl⟩
      have hN6 : NetS w0 w wr S R M A1 n1 c1 A2 n2 c2 A3 n3 c3 sup := HS3.out.next hSR hMR QR.out.dr QR.out.ch
      have hl6 : ∃ zs : List Int, wr.ownsRow (R + 1) 2 1 (.slice A4 n4 c4) n4 (ints zs) := by obtain ⟨ls, hls⟩ := QR.out.row; exact ⟨ls, own_base (own_eq' hls (flat_int ls)) hR3⟩
      have Q7 : Hid (RowSt (fun z : Int => [Value.int .i64 z]) 2 1 w0 wr (wr.alloc (.cells #[] 2)) S (some ⟨wr.heap.size, 0, none⟩) 0 0) := Lib.hid (RowSt.init QR.out.dr (by omega))
      have hS6 : S < wr.heap.size := QR.out.dr.lt
      have h06 : w0.heap.size ≤ wr.heap.size := QR.out.dr.gr.size
      have m1' := hN6.m1
      have HN6 := Lib.hid hN6
      have HL6 := Lib.hid hl6
      clear hN6 hl6 QR HS3
      rw [← hw6] at Q7 hS6 h06 m1' HN6 HL6 ⊢
      clear hw6
      go_wp2_with fail
      go_loopw [10, 11] (fun o i wq => ∃ k : Nat, k ≤ n2 ∧ i = .int .i64 k ∧ ∃ A u c, u ≤ 4 ∧ o = .slice A u c ∧ RowSt (fun z : Int => [Value.int .i64 z]) 2 1 w0 w6 wq S A u c) (fun _ i _ => n2 - (intOf i).toNat)
      case atStart => exact ⟨0, Nat.zero_le _, rfl, _, _, _, Nat.zero_le _, rfl, Q7.out⟩
      case round =>
        obtain ⟨k, hk, rfl, A, u, c, hu, rfl, hq⟩ := hrel
        rename World => wq
        have QQ := Lib.hid hq
        have m1 := chg_cell' QQ.out.ch m1' (by simp only; omega)
        clear hq Q7
        by_cases hgo : k < n2 ∧ u < 4
        · obtain ⟨g1, g2⟩ := hgo
          have t1 : decide ((k : Int) < (n2 : Int)) = true := by simp; omega
          have t2 : decide ((u : Int) < 4) = true := by simp; omega
          go_wp2_with fail
          refine (l01Next_any 3 QQ.out.dr (by omega)).mono ?_
          rintro e w9 ⟨t, rfl, ht, hd9, hc9⟩
          have Q9 := Lib.hid (QQ.out.next hS6 hd9 hc9)
          clear ht hd9 hc9 QQ m1
          by_cases ht0 : t = 0
          · subst ht0
            obtain ⟨ls, hls⟩ := Q9.out.row
            have Hls := Lib.hid hls
            have hws := Q9.out.ch.size
            clear hls
            go_wp2_with (at_builtin; (refine wpList_append_own _ rfl _ _ _ rfl w6.heap.size 2 i0 _ 1 8 Tryz.underlying26 hi0 hz0 hz1 hz2 rfl (by omega) _ u _ rfl (Hls.out.alloc _) ⟨w9.heap.size, 0, none⟩ 1 1 [.int .i64 ((k : Int))] rfl rfl (World.news_of_block (cs := #[.int .i64 ((k : Int))]) (t := 2) (fr := (0, 0)) (heap_alloc_new w9 _)) (by simp [Value.oneCell']) (by unfold maxLen; omega) (by omega) (by simp; omega) ?_; intro v' w20 hown20 hg20 _; obtain ⟨A', c', rfl⟩ := own_shape hown20; have Q20 := Lib.hid (Q9.out.add (x := ((k : Int))) hS6 h06 hown20 hg20); clear hown20 hg20 Hls))
            go_wp2_with fail
            go_roundw
            case rel => exact ⟨k + 1, by omega, by go_num, _, _, _, by omega, rfl, Q20.out⟩
            case measure => simp [intOf]; omega
          · have tt : (t == 0) = false := by simp [ht0]
            clear ht0
            go_wp2_with fail
            go_roundw
            case rel => exact ⟨k + 1, by omega, by go_num, _, _, _, by omega, rfl, Q9.out⟩
            case measure => simp [intOf]; omega
        · by_cases hkk : k < n2
          case' pos =>
            have hu4 : u = 4 := by omega
            have t1 : decide ((k : Int) < (n2 : Int)) = true := by simp; omega
            have t2 : decide ((u : Int) < 4) = false := by simp; omega
            have hu5 : ¬ u < 4 := by omega
            clear hu4
          case' neg =>
            have t1 : decide ((k : Int) < (n2 : Int)) = false := by simp; omega
          all_goals
            clear hgo
            go_wp2_with fail
            refine (l01Next_any 30 QQ.out.dr (by omega)).mono ?_
            rintro e w11 ⟨t, rfl, ht, hd9, hc9⟩
            have Q11 := Lib.hid (QQ.out.next hS6 hd9 hc9)
            have m1 := chg_cell' Q11.out.ch m1' (by simp only; omega)
            clear ht hd9 hc9 QQ
            by_cases h0 : t = 0
            · subst h0
              obtain ⟨ls, hls⟩ := Q11.out.row
              have Hls := Lib.hid hls
              have hws := Q11.out.ch.size
              clear hls
              go_upto_region 25 with (at_builtin; (refine wpList_append_own _ rfl _ _ _ rfl w6.heap.size 2 i0 _ 1 8 Tryz.underlying26 hi0 hz0 hz1 hz2 rfl (by omega) _ u _ rfl (Hls.out.alloc _) ⟨w11.heap.size, 0, none⟩ 1 1 [.int .i64 ((n2 : Int))] rfl rfl (World.news_of_block (cs := #[.int .i64 ((n2 : Int))]) (t := 2) (fr := (0, 0)) (heap_alloc_new w11 _)) (by simp [Value.oneCell']) (by unfold maxLen; omega) (by omega) (by simp; omega) ?_; intro v' w20 hown20 hg20 _; obtain ⟨A', c', rfl⟩ := own_shape hown20; have Q20 := Lib.hid (Q11.out.add (x := ((n2 : Int))) hS6 h06 hown20 hg20); clear hown20 hg20 Hls))
              obtain ⟨⟨hMz, hRz⟩, h1, ⟨nf, h2⟩, h3, ⟨zf, h4⟩, ⟨sf, h5⟩, h6, h7⟩ := end27 HN6.out HL6.out Q20.out hRw hRw0 hSR hMR
              have m0 := rb_cell (j := 0) hMz rfl
              have m1 := rb_cell (j := 1) hMz rfl
              have r0 := rb_cell (j := 0) hRz rfl
              have r1 := rb_cell (j := 1) hRz rfl
              have f0 := rb_frozen hRz 0
              have f1 := rb_frozen hRz 1
              have H1 := Lib.hid h1
              have H2 := Lib.hid h2
              have H3 := Lib.hid h3
              have H4 := Lib.hid h4
              have H5 := Lib.hid h5
              have H6 := Lib.hid h6
              have H7 := Lib.hid h7
              clear h1 h2 h3 h4 h5 h6 h7 hMz hRz
              go_wp2_with fail
              (try simp only [Exit.inBlock, Exit.then])
              refine bodyPost_ret (results_row_tmp3 Tryz.results67 _ _ R 32 #[.slice A1 n1 c1, .slice A2 n2 c2] (0, 0) _ ?_ H1.out Tryz.underlying32 rfl (by kernel_rfl)) ?_ ?_
              · rfl
              · rfl
              exact ⟨_, _, _, _, _, _, nf, _, _, _, _, _, _, _, _, _, zf, sf, sup, rfl, H2.out, ⟨by omega, by omega, by omega⟩, H4.out, H5.out, H3.out, H6.out, H7.out⟩
            by_cases h1 : t = 1
            · subst h1
              obtain ⟨ls, hls⟩ := Q11.out.row
              have Hls := Lib.hid hls
              have hws := Q11.out.ch.size
              clear hls
              go_upto_region 25 with (at_builtin; (refine wpList_append_own _ rfl _ _ _ rfl w6.heap.size 2 i0 _ 1 8 Tryz.underlying26 hi0 hz0 hz1 hz2 rfl (by omega) _ u _ rfl (Hls.out.alloc _) ⟨w11.heap.size, 0, none⟩ 1 1 [.int .i64 (0)] rfl rfl (World.news_of_block (cs := #[.int .i64 (0)]) (t := 2) (fr := (0, 0)) (heap_alloc_new w11 _)) (by simp [Value.oneCell']) (by unfold maxLen; omega) (by omega) (by simp; omega) ?_; intro v' w20 hown20 hg20 _; obtain ⟨A', c', rfl⟩ := own_shape hown20; have Q20 := Lib.hid (Q11.out.add (x := (0)) hS6 h06 hown20 hg20); clear hown20 hg20 Hls))
              obtain ⟨⟨hMz, hRz⟩, h1, ⟨nf, h2⟩, h3, ⟨zf, h4⟩, ⟨sf, h5⟩, h6, h7⟩ := end27 HN6.out HL6.out Q20.out hRw hRw0 hSR hMR
              have m0 := rb_cell (j := 0) hMz rfl
              have m1 := rb_cell (j := 1) hMz rfl
              have r0 := rb_cell (j := 0) hRz rfl
              have r1 := rb_cell (j := 1) hRz rfl
              have f0 := rb_frozen hRz 0
              have f1 := rb_frozen hRz 1
              have H1 := Lib.hid h1
              have H2 := Lib.hid h2
              have H3 := Lib.hid h3
              have H4 := Lib.hid h4
              have H5 := Lib.hid h5
              have H6 := Lib.hid h6
              have H7 := Lib.hid h7
              clear h1 h2 h3 h4 h5 h6 h7 hMz hRz
              go_wp2_with fail
              (try simp only [Exit.inBlock, Exit.then])
              refine bodyPost_ret (results_row_tmp3 Tryz.results67 _ _ R 32 #[.slice A1 n1 c1, .slice A2 n2 c2] (0, 0) _ ?_ H1.out Tryz.underlying32 rfl (by kernel_rfl)) ?_ ?_
              · rfl
              · rfl
              exact ⟨_, _, _, _, _, _, nf, _, _, _, _, _, _, _, _, _, zf, sf, sup, rfl, H2.out, ⟨by omega, by omega, by omega⟩, H4.out, H5.out, H3.out, H6.out, H7.out⟩
            by_cases h2 : t = 2
            · subst h2
              obtain ⟨w8, hw8⟩ : ∃ W, W = w11 := ⟨_, rfl⟩
              have hN8 : NetS w0 w w11 S R M A1 n1 c1 A2 n2 c2 A3 n3 c3 sup := HN6.out.next hSR hMR Q11.out.dr Q11.out.ch
              have hl8 : ∃ zs : List Int, w11.ownsRow (R + 1) 2 1 (.slice A4 n4 c4) n4 (ints zs) := by obtain ⟨zs, hl⟩ := HL6.out; exact ⟨zs, own_chg hl Q11.out.ch (fun j hj e => by have := own_low hl hj; omega)⟩
              have QX : Hid (RowSt (fun z : Int => [Value.int .i64 z]) 2 1 w0 w11 (w11.alloc (.cells #[] 2)) S (some ⟨w11.heap.size, 0, none⟩) 0 0) := Lib.hid (RowSt.init Q11.out.dr (by omega))
              have hS8 : S < w11.heap.size := Q11.out.dr.lt
              have h08 : w0.heap.size ≤ w11.heap.size := Q11.out.dr.gr.size
              have HN8 := Lib.hid hN8
              have HL8 := Lib.hid hl8
              clear hN8 hl8 Q11 HN6 HL6
              rw [← hw8] at QX hS8 h08 m1 HN8 HL8 ⊢
              clear hw8
              go_wp2_with fail
              go_loopw [10, 12] (fun o i wq => ∃ q : Nat, q ≤ n2 ∧ q ≤ 6 ∧ i = .int .i64 q ∧ ∃ A c, o = .slice A q c ∧ RowSt (fun z : Int => [Value.int .i64 z]) 2 1 w0 w8 wq S A q c) (fun _ i _ => n2 - (intOf i).toNat)
              case atStart => exact ⟨0, Nat.zero_le _, Nat.zero_le _, rfl, _, _, rfl, QX.out⟩
              case round =>
                obtain ⟨q, hq1, hq6, rfl, AY, cY, rfl, hq⟩ := hrel
                rename World => wy
                have QY := Lib.hid hq
                have m2 := chg_cell' QY.out.ch m1 (by simp only; omega)
                clear hq QX
                by_cases hq2 : q < n2
                · have t3 : decide ((q : Int) < (n2 : Int)) = true := by simp; omega
                  by_cases hq3 : q < 6
                  · have t4 : decide ((q : Int) < 6) = true := by simp; omega
                    obtain ⟨ls, hls⟩ := QY.out.row
                    have Hls := Lib.hid hls
                    have hws := QY.out.ch.size
                    clear hls
                    go_wp2_with (at_builtin; (refine wpList_append_own _ rfl _ _ _ rfl w8.heap.size 2 i0 _ 1 8 Tryz.underlying26 hi0 hz0 hz1 hz2 rfl (by omega) _ q _ rfl (Hls.out.alloc _) ⟨wy.heap.size, 0, none⟩ 1 1 [.int .i64 ((q : Int))] rfl rfl (World.news_of_block (cs := #[.int .i64 ((q : Int))]) (t := 2) (fr := (0, 0)) (heap_alloc_new wy _)) (by simp [Value.oneCell']) (by unfold maxLen; omega) (by omega) (by simp; omega) ?_; intro v' w20 hown20 hg20 _; obtain ⟨A', c', rfl⟩ := own_shape hown20; have Q20 := Lib.hid (QY.out.add (x := ((q : Int))) hS8 h08 hown20 hg20); clear hown20 hg20 Hls))
                    go_wp2_with fail
                    go_roundw
                    case rel => exact ⟨q + 1, by omega, by omega, by go_num, _, _, rfl, Q20.out⟩
                    case measure => simp [intOf]; omega
                  · have t4 : decide ((q : Int) < 6) = false := by simp; omega
                    go_upto_region 25 with fail
                    clear m2
                    obtain ⟨⟨hMz, hRz⟩, h1, ⟨nf, h2⟩, h3, ⟨zf, h4⟩, ⟨sf, h5⟩, h6, h7⟩ := end27 HN8.out HL8.out QY.out hRw hRw0 hSR hMR
                    have m0 := rb_cell (j := 0) hMz rfl
                    have m1 := rb_cell (j := 1) hMz rfl
                    have r0 := rb_cell (j := 0) hRz rfl
                    have r1 := rb_cell (j := 1) hRz rfl
                    have f0 := rb_frozen hRz 0
                    have f1 := rb_frozen hRz 1
                    have H1 := Lib.hid h1
                    have H2 := Lib.hid h2
                    have H3 := Lib.hid h3
                    have H4 := Lib.hid h4
                    have H5 := Lib.hid h5
                    have H6 := Lib.hid h6
                    have H7 := Lib.hid h7
                    clear h1 h2 h3 h4 h5 h6 h7 hMz hRz
                    go_wp2_with fail
                    (try simp only [Exit.inBlock, Exit.then])
                    refine bodyPost_ret (results_row_tmp3 Tryz.results67 _ _ R 32 #[.slice A1 n1 c1, .slice A2 n2 c2] (0, 0) _ ?_ H1.out Tryz.underlying32 rfl (by kernel_rfl)) ?_ ?_
                    · rfl
                    · rfl
                    exact ⟨_, _, _, _, _, _, nf, _, _, _, _, _, _, _, _, _, zf, sf, sup, rfl, H2.out, ⟨by omega, by omega, by omega⟩, H4.out, H5.out, H3.out, H6.out, H7.out⟩
                · have t3 : decide ((q : Int) < (n2 : Int)) = false := by simp; omega
                  go_upto_region 25 with fail
                  clear m2
                  obtain ⟨⟨hMz, hRz⟩, h1, ⟨nf, h2⟩, h3, ⟨zf, h4⟩, ⟨sf, h5⟩, h6, h7⟩ := end27 HN8.out HL8.out QY.out hRw hRw0 hSR hMR
                  have m0 := rb_cell (j := 0) hMz rfl
                  have m1 := rb_cell (j := 1) hMz rfl
                  have r0 := rb_cell (j := 0) hRz rfl
                  have r1 := rb_cell (j := 1) hRz rfl
                  have f0 := rb_frozen hRz 0
                  have f1 := rb_frozen hRz 1
                  have H1 := Lib.hid h1
                  have H2 := Lib.hid h2
                  have H3 := Lib.hid h3
                  have H4 := Lib.hid h4
                  have H5 := Lib.hid h5
                  have H6 := Lib.hid h6
                  have H7 := Lib.hid h7
                  clear h1 h2 h3 h4 h5 h6 h7 hMz hRz
                  go_wp2_with fail
                  (try simp only [Exit.inBlock, Exit.then])
                  refine bodyPost_ret (results_row_tmp3 Tryz.results67 _ _ R 32 #[.slice A1 n1 c1, .slice A2 n2 c2] (0, 0) _ ?_ H1.out Tryz.underlying32 rfl (by kernel_rfl)) ?_ ?_
                  · rfl
                  · rfl
                  exact ⟨_, _, _, _, _, _, nf, _, _, _, _, _, _, _, _, _, zf, sf, sup, rfl, H2.out, ⟨by omega, by omega, by omega⟩, H4.out, H5.out, H3.out, H6.out, H7.out⟩
            have tt0 : (t == 0) = false := by simp [h0]
            have tt1 : (t == 1) = false := by simp [h1]
            have tt2 : (t == 2) = false := by simp [h2]
            clear h0 h1 h2 m1
            go_upto_region 25 with fail
            obtain ⟨⟨hMz, hRz⟩, h1, ⟨nf, h2⟩, h3, ⟨zf, h4⟩, ⟨sf, h5⟩, h6, h7⟩ := end27 HN6.out HL6.out Q11.out hRw hRw0 hSR hMR
            have m0 := rb_cell (j := 0) hMz rfl
            have m1 := rb_cell (j := 1) hMz rfl
            have r0 := rb_cell (j := 0) hRz rfl
            have r1 := rb_cell (j := 1) hRz rfl
            have f0 := rb_frozen hRz 0
            have f1 := rb_frozen hRz 1
            have H1 := Lib.hid h1
            have H2 := Lib.hid h2
            have H3 := Lib.hid h3
            have H4 := Lib.hid h4
            have H5 := Lib.hid h5
            have H6 := Lib.hid h6
            have H7 := Lib.hid h7
            clear h1 h2 h3 h4 h5 h6 h7 hMz hRz
            go_wp2_with fail
            (try simp only [Exit.inBlock, Exit.then])
            refine bodyPost_ret (results_row_tmp3 Tryz.results67 _ _ R 32 #[.slice A1 n1 c1, .slice A2 n2 c2] (0, 0) _ ?_ H1.out Tryz.underlying32 rfl (by kernel_rfl)) ?_ ?_
            · rfl
            · rfl
            exact ⟨_, _, _, _, _, _, nf, _, _, _, _, _, _, _, _, _, zf, sf, sup, rfl, H2.out, ⟨by omega, by omega, by omega⟩, H4.out, H5.out, H3.out, H6.out, H7.out⟩
end Go.Proofs.YthhmhigddmimjaaGreat
/-
  Draws: the arguments of SwitchPipes. Printed by gen_draw31.py.
-/
set_option linter.unusedSimpArgs false
set_option linter.unusedVariables false
namespace Go.Proofs.YthhmhigddmimjaaGreat
open Go.ChangeShapes Go.WideShapes Go.ChangeAt Go.RowKit

end Go.Proofs.YthhmhigddmimjaaGreat
/-
  The draws of the operating point and of settings. Printed by gen_draw32.py.
-/
set_option linter.unusedSimpArgs false
set_option linter.unusedVariables false
namespace Go.Proofs.YthhmhigddmimjaaGreat
open Go.ChangeShapes Go.WideShapes Go.ChangeAt Go.RowKit

theorem OwnNet.low {w : World} {base base' : Nat} {A1 A2 : Option Addr} {n1 c1 n2 c2 : Nat} {n : GNet} (h : OwnNet w base A1 n1 c1 A2 n2 c2 n) (hb : base' ≤ base) : OwnNet w base' A1 n1 c1 A2 n2 c2 n := ⟨own_base h.nodes hb, own_base h.pipes hb, h.names, h.m1, h.m2⟩
theorem OwnNet.put {w w' : World} {base R : Nat} {A1 A2 : Option Addr} {n1 c1 n2 c2 : Nat} {n : GNet} (h : OwnNet w base A1 n1 c1 A2 n2 c2 n) (hc : Chg (fun j => j = R) w w') (hR : R < base) : OwnNet w' base A1 n1 c1 A2 n2 c2 n := ⟨own_chg h.nodes hc (fun j hj e => by have := own_low h.nodes hj; omega), own_chg h.pipes hc (fun j hj e => by have := own_low h.pipes hj; omega), h.names, h.m1, h.m2⟩
theorem own_put {w w' : World} {base R s n : Nat} {e : TypeId} {v : Value} {xs : List Value} (h : w.ownsRow base e s v n xs) (hc : Chg (fun j => j = R) w w') (hR : R < base) : w'.ownsRow base e s v n xs := own_chg h hc (fun j hj e => by have := own_low h hj; omega)
theorem cells_two {W : World} {R : Nat} {t : TypeId} {fr : Nat × Nat} {u v a b : Value} (h : W.heap[R]? = some (.cells #[u, v] t fr)) : ((W.setCell ⟨R, 0, none⟩ a).setCell ⟨R, 1, none⟩ b).heap[R]? = some (.cells #[a, b] t fr) := by simp [World.setCell, Array.getElem?_modify, h]
set_option maxHeartbeats 6400000 in
set_option maxRecDepth 100000 in
theorem DrawOperatingPoint_any {A : Option Addr} {m c : Nat} (bs : List UInt8) (w : World) (hC : SlAt w 1 A m c (byts bs)) :
    Calls Tryz.prog 33 #[.slice A m c] w fun e w' => ∃ A1 n1 c1 A2 n2 c2 n A3 n3 c3, ∃ sup : List Int, e = .returned (.tuple #[.agg #[.slice A1 n1 c1, .slice A2 n2 c2], .slice A3 n3 c3]) ∧ NetAt w' A1 n1 c1 A2 n2 c2 n ∧ SlAt w' 1 A3 n3 c3 (ints sup) ∧ Gr w w' := by
  have HC := Lib.hid hC
  clear hC
  go_enter Tryz.func33, Tryz.ntmps33
  go_wp2_with fail
  obtain ⟨w1, hw1⟩ : ∃ W, W = w.alloc (.cells #[.slice none 0 0, .slice none 0 0] 32) := ⟨_, rfl⟩
  have hR : w1.heap[w.heap.size]? = some (.cells #[.slice none 0 0, .slice none 0 0] 32 (0, 0)) := by rw [hw1]; exact heap_alloc_new w _
  have hg1 : Gr w w1 := by rw [hw1]; exact (Gr.refl _).alloc _
  have hs1 : w1.heap.size = w.heap.size + 1 := by rw [hw1]; simp
  obtain ⟨R, hRe⟩ : ∃ R, R = w.heap.size := ⟨_, rfl⟩
  rw [← hw1, ← hRe]
  rw [← hRe] at hR hs1
  have hRw : w.heap.size ≤ R := by omega
  have hRs := rb_lt hR
  have HR := Lib.hid hR
  clear hw1 hRe hR
  refine (l01From_any bs _ (HC.out.gr hg1)).mono ?_
  rintro e w2 ⟨S, rfl, hS, hd2⟩
  have HD2 := Lib.hid hd2
  have hz2 := hd2.gr.size
  clear hd2
  go_wp2_with fail
  refine (l13Draw_any HD2.out).mono ?_
  rintro e w3 ⟨A1, n1, c1, A2, n2, c2, n, A3, n3, c3, zs, rfl, hO, ⟨_, _, hn3⟩, hz, hd3, _⟩
  have hg13 := hd3.gr
  have hRw3 := (hg13.below.block _ hRs).trans HR.out
  have r0 := rb_cell (j := 0) hRw3 rfl
  have r1 := rb_cell (j := 1) hRw3 rfl
  have f0 := rb_frozen hRw3 0
  have f1 := rb_frozen hRw3 1
  obtain ⟨W9, hW9⟩ : ∃ W, W = (w3.setCell ⟨R, 0, none⟩ (.slice A1 n1 c1)).setCell ⟨R, 1, none⟩ (.slice A2 n2 c2) := ⟨_, rfl⟩
  have hP : W9.heap[R]? = some (.cells #[.slice A1 n1 c1, .slice A2 n2 c2] 32 (0, 0)) := by rw [hW9]; exact cells_two hRw3
  have hcc : Chg (fun j => j = R) w3 W9 := by rw [hW9]; exact (chg_put _ _).trans (chg_put _ _)
  have hgx : Gr w W9 := by rw [hW9]; exact ((hg1.trans hg13).setCell (p := ⟨R, 0, none⟩) hRw _).setCell (p := ⟨R, 1, none⟩) hRw _
  have HP := Lib.hid hP
  have HW9 := Lib.hid hW9
  have HO := Lib.hid (hO.put hcc (by omega))
  have HZ := Lib.hid (own_put hz hcc (by omega))
  clear hO hz hd3
  clear hW9 hP hRw3
  go_wp2_with fail
  rw [← HW9.out]
  (try simp only [Exit.inBlock, Exit.then])
  refine bodyPost_ret (results_row_tmp Tryz.results33 _ _ R 32 #[.slice A1 n1 c1, .slice A2 n2 c2] (0, 0) _ ?_ HP.out Tryz.underlying32 rfl (by kernel_rfl)) ?_ ?_
  · rfl
  · rfl
  exact ⟨_, _, _, _, _, _, n, _, _, _, zs, rfl, HO.out.at_, SlAt.of_own HZ.out (by omega), hgx⟩
set_option maxHeartbeats 6400000 in
set_option maxRecDepth 100000 in
theorem DrawFindSettings_any {A : Option Addr} {m c : Nat} (bs : List UInt8) (w : World) (hC : SlAt w 1 A m c (byts bs)) :
    Calls Tryz.prog 27 #[.slice A m c] w fun e w' => ∃ A1 n1 c1 A2 n2 c2 n A3 n3 c3, ∃ zs : List Int, ∃ A4 n4 c4, ∃ ss : List Int, ∃ A5 n5 c5, ∃ sup : List Int, e = .returned (.tuple #[.agg #[.slice A1 n1 c1, .slice A2 n2 c2], .slice A3 n3 c3, .slice A4 n4 c4, .slice A5 n5 c5]) ∧ NetAt w' A1 n1 c1 A2 n2 c2 n ∧ SlAt w' 1 A3 n3 c3 (ints zs) ∧ SlAt w' 1 A4 n4 c4 (ints ss) ∧ SlAt w' 1 A5 n5 c5 (ints sup) ∧ Gr w w' := by
  have HC := Lib.hid hC
  clear hC
  go_enter Tryz.func27, Tryz.ntmps27
  go_wp2_with fail
  obtain ⟨w1, hw1⟩ : ∃ W, W = w.alloc (.cells #[.slice none 0 0, .slice none 0 0] 32) := ⟨_, rfl⟩
  have hR : w1.heap[w.heap.size]? = some (.cells #[.slice none 0 0, .slice none 0 0] 32 (0, 0)) := by rw [hw1]; exact heap_alloc_new w _
  have hg1 : Gr w w1 := by rw [hw1]; exact (Gr.refl _).alloc _
  have hs1 : w1.heap.size = w.heap.size + 1 := by rw [hw1]; simp
  obtain ⟨R, hRe⟩ : ∃ R, R = w.heap.size := ⟨_, rfl⟩
  rw [← hw1, ← hRe]
  rw [← hRe] at hR hs1
  have hRw : w.heap.size ≤ R := by omega
  have hRs := rb_lt hR
  have HR := Lib.hid hR
  clear hw1 hRe hR
  refine (l01From_any bs _ (HC.out.gr hg1)).mono ?_
  rintro e w2 ⟨S, rfl, hS, hd2⟩
  have HD2 := Lib.hid hd2
  have hz2 := hd2.gr.size
  clear hd2
  go_wp2_with fail
  refine (l27Draw_any HD2.out).mono ?_
  rintro e w3 ⟨A1, n1, c1, A2, n2, c2, n, A3, n3, c3, A4, n4, c4, A5, n5, c5, zs, ss, sup, rfl, hO, ⟨hn3, hn4, hn5⟩, hz, hs, hu, hd3, _⟩
  have hg13 := hd3.gr
  have hRw3 := (hg13.below.block _ hRs).trans HR.out
  have r0 := rb_cell (j := 0) hRw3 rfl
  have r1 := rb_cell (j := 1) hRw3 rfl
  have f0 := rb_frozen hRw3 0
  have f1 := rb_frozen hRw3 1
  obtain ⟨W9, hW9⟩ : ∃ W, W = (w3.setCell ⟨R, 0, none⟩ (.slice A1 n1 c1)).setCell ⟨R, 1, none⟩ (.slice A2 n2 c2) := ⟨_, rfl⟩
  have hP : W9.heap[R]? = some (.cells #[.slice A1 n1 c1, .slice A2 n2 c2] 32 (0, 0)) := by rw [hW9]; exact cells_two hRw3
  have hcc : Chg (fun j => j = R) w3 W9 := by rw [hW9]; exact (chg_put _ _).trans (chg_put _ _)
  have hgx : Gr w W9 := by rw [hW9]; exact ((hg1.trans hg13).setCell (p := ⟨R, 0, none⟩) hRw _).setCell (p := ⟨R, 1, none⟩) hRw _
  have HP := Lib.hid hP
  have HW9 := Lib.hid hW9
  have HO := Lib.hid (hO.put hcc (by omega))
  have HZ := Lib.hid (own_put hz hcc (by omega))
  have HS := Lib.hid (own_put hs hcc (by omega))
  have HU := Lib.hid (own_put hu hcc (by omega))
  clear hO hz hs hu hd3
  clear hW9 hP hRw3
  go_wp2_with fail
  rw [← HW9.out]
  (try simp only [Exit.inBlock, Exit.then])
  refine bodyPost_ret (results_row_tmp3 Tryz.results27 _ _ R 32 #[.slice A1 n1 c1, .slice A2 n2 c2] (0, 0) _ ?_ HP.out Tryz.underlying32 rfl (by kernel_rfl)) ?_ ?_
  · rfl
  · rfl
  exact ⟨_, _, _, _, _, _, n, _, _, _, zs, _, _, _, ss, _, _, _, sup, rfl, HO.out.at_, SlAt.of_own HZ.out (by omega), SlAt.of_own HS.out (by omega), SlAt.of_own HU.out (by omega), hgx⟩
set_option maxHeartbeats 6400000 in
set_option maxRecDepth 100000 in
theorem DrawAreGood_any {A : Option Addr} {m c : Nat} (bs : List UInt8) (w : World) (hC : SlAt w 1 A m c (byts bs)) :
    Calls Tryz.prog 78 #[.slice A m c] w fun e w' => ∃ A1 n1 c1 A2 n2 c2 n A3 n3 c3, ∃ zs : List Int, ∃ A5 n5 c5, ∃ sup : List Int, e = .returned (.tuple #[.agg #[.slice A1 n1 c1, .slice A2 n2 c2], .slice A3 n3 c3, .slice A5 n5 c5]) ∧ OwnNet w' w.heap.size A1 n1 c1 A2 n2 c2 n ∧ (n3 ≤ 100 ∧ n5 ≤ 100) ∧ w'.ownsRow w.heap.size 2 1 (.slice A3 n3 c3) n3 (ints zs) ∧ w'.ownsRow w.heap.size 2 1 (.slice A5 n5 c5) n5 (ints sup) ∧ Gr w w' := by
  have HC := Lib.hid hC
  clear hC
  go_enter Tryz.func78, Tryz.ntmps78
  go_wp2_with fail
  obtain ⟨w1, hw1⟩ : ∃ W, W = w.alloc (.cells #[.slice none 0 0, .slice none 0 0] 32) := ⟨_, rfl⟩
  have hR : w1.heap[w.heap.size]? = some (.cells #[.slice none 0 0, .slice none 0 0] 32 (0, 0)) := by rw [hw1]; exact heap_alloc_new w _
  have hg1 : Gr w w1 := by rw [hw1]; exact (Gr.refl _).alloc _
  have hs1 : w1.heap.size = w.heap.size + 1 := by rw [hw1]; simp
  obtain ⟨R, hRe⟩ : ∃ R, R = w.heap.size := ⟨_, rfl⟩
  rw [← hw1, ← hRe]
  rw [← hRe] at hR hs1
  have hRw : w.heap.size ≤ R := by omega
  have hRs := rb_lt hR
  have HR := Lib.hid hR
  clear hw1 hRe hR
  refine (l01From_any bs _ (HC.out.gr hg1)).mono ?_
  rintro e w2 ⟨S, rfl, hS, hd2⟩
  have HD2 := Lib.hid hd2
  have hz2 := hd2.gr.size
  clear hd2
  go_wp2_with fail
  refine (l27Draw_any HD2.out).mono ?_
  rintro e w3 ⟨A1, n1, c1, A2, n2, c2, n, A3, n3, c3, A4, n4, c4, A5, n5, c5, zs, ss, sup, rfl, hO, ⟨hn3, hn4, hn5⟩, hz, hs, hu, hd3, _⟩
  have hg13 := hd3.gr
  go_upto_region 2 with fail
  obtain ⟨w4, hw4⟩ : ∃ W, W = w3.alloc (.cells #[.slice A1 n1 c1, .slice A2 n2 c2] 32) := ⟨_, rfl⟩
  have h34 : Gr w3 w4 := by rw [hw4]; exact (Gr.refl _).alloc _
  have o0 : w4.cell? ⟨w3.heap.size, 0, none⟩ = some (.slice A1 n1 c1) := by rw [hw4]; simp [go_sem]
  have o1 : w4.cell? ⟨w3.heap.size, 1, none⟩ = some (.slice A2 n2 c2) := by rw [hw4]; simp [go_sem]
  have hR3 : R < w3.heap.size := by have := hg13.size; omega
  replace hO := hO.gr h34
  replace hz := own_gr hz h34
  replace hs := own_gr hs h34
  replace hu := own_gr hu h34
  have hg14 := hg13.trans h34
  rw [← hw4]
  clear hw4
  have hRw3 := (hg14.below.block _ hRs).trans HR.out
  have r0 := rb_cell (j := 0) hRw3 rfl
  have r1 := rb_cell (j := 1) hRw3 rfl
  have f0 := rb_frozen hRw3 0
  have f1 := rb_frozen hRw3 1
  obtain ⟨W9, hW9⟩ : ∃ W, W = (w4.setCell ⟨R, 0, none⟩ (.slice A1 n1 c1)).setCell ⟨R, 1, none⟩ (.slice A2 n2 c2) := ⟨_, rfl⟩
  have hP : W9.heap[R]? = some (.cells #[.slice A1 n1 c1, .slice A2 n2 c2] 32 (0, 0)) := by rw [hW9]; exact cells_two hRw3
  have hcc : Chg (fun j => j = R) w4 W9 := by rw [hW9]; exact (chg_put _ _).trans (chg_put _ _)
  have hgx : Gr w W9 := by rw [hW9]; exact ((hg1.trans hg14).setCell (p := ⟨R, 0, none⟩) hRw _).setCell (p := ⟨R, 1, none⟩) hRw _
  have HP := Lib.hid hP
  have HW9 := Lib.hid hW9
  have HO := Lib.hid (hO.put hcc (by omega))
  have HZ := Lib.hid (own_put hz hcc (by omega))
  have HS := Lib.hid (own_put hs hcc (by omega))
  have HU := Lib.hid (own_put hu hcc (by omega))
  clear hO hz hs hu hd3
  clear hW9 hP hRw3
  go_wp2_with fail
  rw [← HW9.out]
  (try simp only [Exit.inBlock, Exit.then])
  refine bodyPost_ret (results_row_tmp2 Tryz.results78 _ _ R 32 #[.slice A1 n1 c1, .slice A2 n2 c2] (0, 0) _ ?_ HP.out Tryz.underlying32 rfl (by kernel_rfl)) ?_ ?_
  · rfl
  · rfl
  exact ⟨_, _, _, _, _, _, n, _, _, _, zs, _, _, _, sup, rfl, HO.out.low (by omega), ⟨hn3, hn5⟩, own_base HZ.out (by omega), own_base HU.out (by omega), hgx⟩
set_option maxHeartbeats 6400000 in
set_option maxRecDepth 100000 in
theorem DrawRootLevel_any {A : Option Addr} {m c : Nat} (bs : List UInt8) (w : World) (hC : SlAt w 1 A m c (byts bs)) :
    Calls Tryz.prog 43 #[.slice A m c] w fun e w' => ∃ A1 n1 c1 A2 n2 c2 n A3 n3 c3, ∃ zs : List Int, ∃ A5 n5 c5, ∃ sup : List Int, e = .returned (.tuple #[.agg #[.slice A1 n1 c1, .slice A2 n2 c2], .slice A3 n3 c3, .slice A5 n5 c5]) ∧ NetAt w' A1 n1 c1 A2 n2 c2 n ∧ SlAt w' 1 A3 n3 c3 (ints zs) ∧ SlAt w' 1 A5 n5 c5 (ints sup) ∧ Gr w w' := by
  have HC := Lib.hid hC
  clear hC
  go_enter Tryz.func43, Tryz.ntmps43
  go_wp2_with fail
  obtain ⟨w1, hw1⟩ : ∃ W, W = w.alloc (.cells #[.slice none 0 0, .slice none 0 0] 32) := ⟨_, rfl⟩
  have hR : w1.heap[w.heap.size]? = some (.cells #[.slice none 0 0, .slice none 0 0] 32 (0, 0)) := by rw [hw1]; exact heap_alloc_new w _
  have hg1 : Gr w w1 := by rw [hw1]; exact (Gr.refl _).alloc _
  have hs1 : w1.heap.size = w.heap.size + 1 := by rw [hw1]; simp
  obtain ⟨R, hRe⟩ : ∃ R, R = w.heap.size := ⟨_, rfl⟩
  rw [← hw1, ← hRe]
  rw [← hRe] at hR hs1
  have hRw : w.heap.size ≤ R := by omega
  have hRs := rb_lt hR
  have HR := Lib.hid hR
  clear hw1 hRe hR
  refine (DrawAreGood_any bs _ (HC.out.gr hg1)).mono ?_
  rintro e w3 ⟨A1, n1, c1, A2, n2, c2, n, A3, n3, c3, zs, A5, n5, c5, sup, rfl, hO, ⟨hn3, hn5⟩, hz, hu, hg13⟩
  have hRw3 := (hg13.below.block _ hRs).trans HR.out
  have r0 := rb_cell (j := 0) hRw3 rfl
  have r1 := rb_cell (j := 1) hRw3 rfl
  have f0 := rb_frozen hRw3 0
  have f1 := rb_frozen hRw3 1
  obtain ⟨W9, hW9⟩ : ∃ W, W = (w3.setCell ⟨R, 0, none⟩ (.slice A1 n1 c1)).setCell ⟨R, 1, none⟩ (.slice A2 n2 c2) := ⟨_, rfl⟩
  have hP : W9.heap[R]? = some (.cells #[.slice A1 n1 c1, .slice A2 n2 c2] 32 (0, 0)) := by rw [hW9]; exact cells_two hRw3
  have hcc : Chg (fun j => j = R) w3 W9 := by rw [hW9]; exact (chg_put _ _).trans (chg_put _ _)
  have hgx : Gr w W9 := by rw [hW9]; exact ((hg1.trans hg13).setCell (p := ⟨R, 0, none⟩) hRw _).setCell (p := ⟨R, 1, none⟩) hRw _
  have HP := Lib.hid hP
  have HW9 := Lib.hid hW9
  have HO := Lib.hid (hO.put hcc (by omega))
  have HZ := Lib.hid (own_put hz hcc (by omega))
  have HU := Lib.hid (own_put hu hcc (by omega))
  clear hO hz hu
  clear hW9 hP hRw3
  go_wp2_with fail
  rw [← HW9.out]
  (try simp only [Exit.inBlock, Exit.then])
  refine bodyPost_ret (results_row_tmp2 Tryz.results43 _ _ R 32 #[.slice A1 n1 c1, .slice A2 n2 c2] (0, 0) _ ?_ HP.out Tryz.underlying32 rfl (by kernel_rfl)) ?_ ?_
  · rfl
  · rfl
  exact ⟨_, _, _, _, _, _, n, _, _, _, zs, _, _, _, sup, rfl, HO.out.at_, SlAt.of_own HZ.out (by omega), SlAt.of_own HU.out (by omega), hgx⟩
end Go.Proofs.YthhmhigddmimjaaGreat
