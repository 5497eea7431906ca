import Derived.Test.YtejfpajbkgfiaaaDraw8
import Derived.Deep.Cut
import Derived.Deep.CutRange
/-
  Draws: what stands while a list is drawn beside a network.
-/
set_option linter.unusedSimpArgs false
set_option linter.unusedVariables false
namespace Go.Proofs.Ytejfpajbkgfiaaa
open Go.ChangeShapes Go.WideShapes Go.ChangeAt Go.RowKit

theorem pp_lim (ys : List GPipe) (k : Nat) (x : GPipe) (v : Int) (hx : ys[k]? = some x) : (ys.flatMap GPipe.cells).set (k * 5 + 4) (.int .i64 v) = (ys.set k ⟨x.src, x.dst, x.k, x.vol, v⟩).flatMap GPipe.cells := by
  induction ys generalizing k with
  | nil => simp at hx
  | cons y ys ih =>
    cases k with
    | zero =>
      simp at hx
      subst hx
      simp [GPipe.cells]
    | succ k =>
      have hx' : ys[k]? = some x := by simpa using hx
      rw [List.set_cons_succ, List.flatMap_cons, List.flatMap_cons, ← ih k hx']
      have e : (k + 1) * 5 + 4 = y.cells.length + (k * 5 + 4) := by rw [GPipe.cells_len]; omega
      rw [e, List.set_append_right _ _ (by omega), Nat.add_sub_cancel_left]
/-- A network's block stands at M, its rows are the call's own; the result's block at R is still empty. -/
def NetM (w0 w wx : World) (S R M : Nat) (A1 : Option Addr) (n1 c1 : Nat) (A2 : Option Addr) (n2 c2 : Nat) : Prop :=
  ∃ q : GNet, wx.heap[M]? = some (.cells #[.slice A1 n1 c1, .slice A2 n2 c2] 27 (0, 0)) ∧ OwnNet wx (R + 1) A1 n1 c1 A2 n2 c2 q ∧ Drw w0 wx S ∧ Chg (fun j => j = S) w wx ∧ wx.heap[R]? = some (.cells #[.slice none 0 0, .slice none 0 0] 27 (0, 0))
section
variable {w0 w wx wy : World} {S R M : Nat} {A1 A2 : Option Addr} {n1 c1 n2 c2 : Nat}
theorem NetM.gr (h : NetM w0 w wx S R M A1 n1 c1 A2 n2 c2) (hg : Gr wx wy) : NetM w0 w wy S R M A1 n1 c1 A2 n2 c2 := by
  obtain ⟨q, hM, hO, hD, hC, hR⟩ := h
  exact ⟨q, (hg.below.block M (rb_lt hM)).trans hM, hO.gr hg, hD.grow hg, hC.trans (hg.chg _), (hg.below.block R (rb_lt hR)).trans hR⟩
theorem NetM.next (h : NetM w0 w wx S R M A1 n1 c1 A2 n2 c2) (hSR : S < R) (hMR : R < M) (hd : Drw w0 wy S) (hc : Chg (fun j => j = S) wx wy) : NetM w0 w wy S R M A1 n1 c1 A2 n2 c2 := by
  obtain ⟨q, hM, hO, hD, hC, hR⟩ := h
  exact ⟨q, rb_chg hM hc (by omega), ⟨own_chg hO.nodes hc (fun j hj e => by have := own_low hO.nodes hj; omega), own_chg hO.pipes hc (fun j hj e => by have := own_low hO.pipes hj; omega), hO.names, hO.m1, hO.m2⟩, hd, hC.trans hc, rb_chg hR hc (by omega)⟩
theorem NetM.lim {b k : Nat} (h : NetM w0 w wx S R M A1 n1 c1 (some ⟨b, 0, none⟩) n2 c2) (hg : Gr wx wy) (hRw : w.heap.size ≤ R) (hRw0 : w0.heap.size ≤ R) (hSR : S < R) (hMR : R < M) (hk : k < n2) (v : Int) : NetM w0 w (wy.setCell ⟨b, k * 5 + 4, none⟩ (.int .i64 v)) S R M A1 n1 c1 (some ⟨b, 0, none⟩) n2 c2 := by
  obtain ⟨q, hM, hO, hD, hC, hR⟩ := h.gr hg
  have hl := hO.at_.l2
  obtain ⟨x, hx⟩ : ∃ x, q.pipes[k]? = some x := ⟨_, List.getElem?_eq_getElem (by omega)⟩
  have hcs : Chg (fun j => j = b) wy (wy.setCell ⟨b, k * 5 + 4, none⟩ (.int .i64 v)) := chg_put _ _
  have hb := own_low hO.pipes (k := b) rfl
  have hp := own_eq' (hO.pipes.stored (k * 5 + 4) (.int .i64 v)).1 (pp_lim _ _ _ v hx)
  refine ⟨⟨q.nodes, q.pipes.set k ⟨x.src, x.dst, x.k, x.vol, v⟩⟩, rb_chg hM hcs (fun e => ?_), ⟨own_chg hO.nodes hcs (fun j hj e => ?_), hp, hO.names, hO.m1, hO.m2⟩, hD.set (by omega) (by omega), hC.fresh (by omega), rb_chg hR hcs (by omega)⟩
  · subst e; exact own_type_blk' hO.pipes hM (by decide)
  · have hA := own_blk_at hO.nodes hj
    subst hA
    subst e
    exact own_types' hO.nodes hO.pipes (by decide)
end
/-- A list that is being drawn: its row is younger than w4. -/
structure RowSt {α : Type} (f : α → List Value) (e : TypeId) (sz : Nat) (w0 w4 wr : World) (S : Nat) (A : Option Addr) (u c : Nat) : Prop where
  row : ∃ ls : List α, wr.ownsRow w4.heap.size e sz (.slice A u c) u (ls.flatMap f)
  dr : Drw w0 wr S
  ch : Chg (fun j => j = S) w4 wr
section
variable {α : Type} {f : α → List Value} {e : TypeId} {sz : Nat} {w0 w4 wr w' : World} {S : Nat} {A A' : Option Addr} {u c c' : Nat}
theorem RowSt.next (q : RowSt f e sz w0 w4 wr S A u c) (hS : S < w4.heap.size) (hd : Drw w0 w' S) (hc : Chg (fun j => j = S) wr w') : RowSt f e sz w0 w4 w' S A u c := by
  obtain ⟨ls, hl⟩ := q.row
  exact ⟨⟨ls, own_chg hl hc (fun j hj e => by have := own_low hl hj; omega)⟩, hd, q.ch.trans hc⟩
theorem RowSt.add (q : RowSt f e sz w0 w4 wr S A u c) (hS : S < w4.heap.size) (h0 : w0.heap.size ≤ w4.heap.size) {ls : List α} {x : α} {ob : Obj} (hown : w'.ownsRow w4.heap.size e sz (.slice A' (u + 1) c') (u + 1) (ls.flatMap f ++ f x)) (hg : (wr.alloc ob).grownBy w' (Value.slice A u c).ownBlock) : RowSt f e sz w0 w4 w' S A' (u + 1) c' := by
  obtain ⟨ls0, hl⟩ := q.row
  exact ⟨⟨ls ++ [x], own_eq' hown (flat_snoc' _ _ _).symm⟩, (q.dr.grow ((Gr.refl _).alloc _)).grown hg (fun j hj => by have := own_low hl hj; omega), (q.ch.trans (((Gr.refl _).alloc _).chg _)).grown' hg (fun j hj => own_low hl hj)⟩
theorem RowSt.init (hd : Drw w0 w4 S) (hs : sz ≠ 0) : RowSt f e sz w0 w4 (w4.alloc (.cells #[] e)) S (some ⟨w4.heap.size, 0, none⟩) 0 0 :=
  ⟨⟨[], World.ownsRow_lit w4 (e := e) (size := sz) #[] 0 (Nat.le_refl _) (by unfold maxLen; omega) (by simp)⟩, hd.grow ((Gr.refl _).alloc _), ((Gr.refl _).alloc _).chg _⟩
end
/-- The same, beside a block at X that is being filled. -/
structure BlkSt {α : Type} (f : α → List Value) (e : TypeId) (sz : Nat) (w0 w4 wz : World) (S : Nat) (A : Option Addr) (u c X : Nat) (cs : Array Value) : Prop where
  st : RowSt f e sz w0 w4 wz S A u c
  blk : wz.heap[X]? = some (.cells cs e (0, 0))
  lt : ∀ k, (Value.slice A u c).ownBlock = some k → k < X
  low : w4.heap.size ≤ X
section
variable {α : Type} {f : α → List Value} {e : TypeId} {sz : Nat} {w0 w4 wr wz w' : World} {S : Nat} {A A' : Option Addr} {u c c' X : Nat} {cs cs' : Array Value}
theorem RowSt.blk (q : RowSt f e sz w0 w4 wr S A u c) (hS : S < w4.heap.size) (cs : Array Value) : BlkSt f e sz w0 w4 (wr.alloc (.cells cs e)) S A u c wr.heap.size cs := by
  obtain ⟨ls, hl⟩ := q.row
  exact ⟨q.next hS (q.dr.grow ((Gr.refl _).alloc _)) (((Gr.refl _).alloc _).chg _), heap_alloc_new wr _, fun k hk => (World.ownsRow.lt hl k hk).2, q.ch.size⟩
theorem BlkSt.next (q : BlkSt f e sz w0 w4 wz S A u c X cs) (hS : S < w4.heap.size) (hd : Drw w0 w' S) (hc : Chg (fun j => j = S) wz w') : BlkSt f e sz w0 w4 w' S A u c X cs :=
  ⟨q.st.next hS hd hc, rb_chg q.blk hc (by have := q.low; omega), q.lt, q.low⟩
theorem BlkSt.gr (q : BlkSt f e sz w0 w4 wz S A u c X cs) (hS : S < w4.heap.size) (hg : Gr wz w') : BlkSt f e sz w0 w4 w' S A u c X cs := q.next hS (q.st.dr.grow hg) (hg.chg _)
theorem BlkSt.put (q : BlkSt f e sz w0 w4 wz S A u c X cs) (hS : S < w4.heap.size) (h0 : w0.heap.size ≤ w4.heap.size) (j : Nat) (v : Value) (hcs : cs' = cs.setIfInBounds j v) : BlkSt f e sz w0 w4 (wz.setCell ⟨X, j, none⟩ v) S A u c X cs' := by
  subst hcs
  obtain ⟨ls, hl⟩ := q.st.row
  have hx := q.low
  have hcc : Chg (fun k => k = X) wz (wz.setCell ⟨X, j, none⟩ v) := chg_put _ _
  refine ⟨⟨⟨ls, own_chg hl hcc (fun k hk e => by have := q.lt k hk; omega)⟩, q.st.dr.set (by omega) (by omega), q.st.ch.fresh (by omega)⟩, ?_, q.lt, q.low⟩
  simp [World.setCell, Array.getElem?_modify, q.blk]
end
/-- The end: the network's block is read into the result's. -/
theorem list_end {α : Type} {f : α → List Value} {e : TypeId} {sz : Nat} {w0 w w4 wz : World} {S R M : Nat} {A1 A2 A : Option Addr} {n1 c1 n2 c2 u c : Nat} (hN : NetM w0 w w4 S R M A1 n1 c1 A2 n2 c2) (q : RowSt f e sz w0 w4 wz S A u c) (hRw : w.heap.size ≤ R) (hRw0 : w0.heap.size ≤ R) (hSR : S < R) (hMR : R < M) :
    (wz.heap[M]? = some (.cells #[.slice A1 n1 c1, .slice A2 n2 c2] 27 (0, 0)) ∧ wz.heap[R]? = some (.cells #[.slice none 0 0, .slice none 0 0] 27 (0, 0))) ∧
    ((wz.setCell ⟨R, 0, none⟩ (.slice A1 n1 c1)).setCell ⟨R, 1, none⟩ (.slice A2 n2 c2)).heap[R]? = some (.cells #[.slice A1 n1 c1, .slice A2 n2 c2] 27 (0, 0)) ∧
    (∃ n, OwnNet ((wz.setCell ⟨R, 0, none⟩ (.slice A1 n1 c1)).setCell ⟨R, 1, none⟩ (.slice A2 n2 c2)) w.heap.size A1 n1 c1 A2 n2 c2 n) ∧
    (∃ ls : List α, ((wz.setCell ⟨R, 0, none⟩ (.slice A1 n1 c1)).setCell ⟨R, 1, none⟩ (.slice A2 n2 c2)).ownsRow w.heap.size e sz (.slice A u c) u (ls.flatMap f)) ∧
    Drw w0 ((wz.setCell ⟨R, 0, none⟩ (.slice A1 n1 c1)).setCell ⟨R, 1, none⟩ (.slice A2 n2 c2)) S ∧ Chg (fun j => j = S) w ((wz.setCell ⟨R, 0, none⟩ (.slice A1 n1 c1)).setCell ⟨R, 1, none⟩ (.slice A2 n2 c2)) := by
  obtain ⟨n, hM, hO, hD, hC, hR⟩ := hN
  obtain ⟨ls, hl⟩ := q.row
  have hMl := rb_lt hM
  have hMz := rb_chg hM q.ch (by omega)
  have hRz := rb_chg hR q.ch (by omega)
  have hOz : OwnNet wz (R + 1) A1 n1 c1 A2 n2 c2 n := ⟨own_chg hO.nodes q.ch (fun j hj e => by have := own_low hO.nodes hj; omega), own_chg hO.pipes q.ch (fun j hj e => by have := own_low hO.pipes hj; omega), hO.names, hO.m1, hO.m2⟩
  obtain ⟨h1, h2, h3, h4, h5⟩ := res_net rfl hRw hRw0 hSR hRz hOz q.dr (hC.trans q.ch)
  exact ⟨⟨hMz, hRz⟩, h1, ⟨n, h2⟩, ⟨ls, own_base (own_chg hl h5 (fun j hj e => by have := own_low hl hj; omega)) (by omega)⟩, h3, h4⟩
def lenOf : Value → Nat
  | .slice _ n _ => n
  | _ => 0
end Go.Proofs.Ytejfpajbkgfiaaa
/-
  Draws: transports. Printed by gen_draw24.py.
-/
set_option linter.unusedSimpArgs false
set_option linter.unusedVariables false
namespace Go.Proofs.Ytejfpajbkgfiaaa
open Go.ChangeShapes Go.WideShapes Go.ChangeAt Go.RowKit

set_option maxHeartbeats 6400000 in
set_option maxRecDepth 100000 in
theorem l24Draw_any {w0 w : World} {S : Nat} (h : Drw w0 w S) :
    Calls Try.prog 85 #[.pointer (some ⟨S, 0, none⟩)] w fun e w' => ∃ A1 n1 c1 A2 n2 c2 n A3 n3 c3, ∃ ls : List GTr, e = .returned (.tuple #[.agg #[.slice A1 n1 c1, .slice A2 n2 c2], .slice A3 n3 c3]) ∧ OwnNet w' w.heap.size A1 n1 c1 A2 n2 c2 n ∧ n3 ≤ 40 ∧ w'.ownsRow w.heap.size 39 4 (.slice A3 n3 c3) n3 (ls.flatMap GTr.cells) ∧ Drw w0 w' S ∧ Chg (fun k => k = S) w w' := by
  obtain ⟨i0, hi0, hz0, hz1, hz2⟩ := info_parts infoTransport
  have hlt := h.lt
  have hbw := h.gr.size
  have H := Lib.hid h
  clear h
  go_enter Try.func85, Try.ntmps85
  go_wp2_with fail
  generalize hw1 : World.alloc w _ = w1
  have hR : w1.heap[w.heap.size]? = some (.cells #[.slice none 0 0, .slice none 0 0] 27 (0, 0)) := by rw [← hw1]; exact heap_alloc_new w _
  have hg1 : Gr w w1 := by rw [← hw1]; exact (Gr.refl _).alloc _
  have hs1 : w1.heap.size = w.heap.size + 1 := by rw [← hw1]; simp
  obtain ⟨R, hRe⟩ : ∃ R, R = w.heap.size := ⟨_, rfl⟩
  rw [← hRe] at hR ⊢
  have hSR : S < R := by omega
  have hRw : w.heap.size ≤ R := by omega
  have hR1 : w1.heap.size = R + 1 := by omega
  have hRw0 : w0.heap.size ≤ R := by omega
  have HR := Lib.hid hR
  clear hw1 hRe hR
  refine (l05DrawChord_any (H.out.grow hg1)).mono ?_
  rintro e w2 ⟨A1, n1, c1, A2, n2, c2, n, xx, rfl, hown, ⟨hn7, hn9⟩, hd2, hc2⟩
  have hR2 := rb_chg HR.out hc2 (by omega)
  have hcc2 := (hg1.chg (fun k => k = S)).trans hc2
  have hs2 := rb_lt hR2
  have hM3 : (w2.alloc (.cells #[.slice A1 n1 c1, .slice A2 n2 c2] 27)).heap[w2.heap.size]? = some (.cells #[.slice A1 n1 c1, .slice A2 n2 c2] 27 (0, 0)) := heap_alloc_new w2 _
  obtain ⟨w3, hw3⟩ : ∃ W, W = w2.alloc (.cells #[.slice A1 n1 c1, .slice A2 n2 c2] 27) := ⟨_, rfl⟩
  have hg3 : Gr w2 w3 := by rw [hw3]; exact (Gr.refl _).alloc _
  obtain ⟨M, hM⟩ : ∃ M, M = w2.heap.size := ⟨_, rfl⟩
  rw [← hM, ← hw3] at hM3
  have hMR : R < M := by omega
  have hO3 : OwnNet w3 (R + 1) A1 n1 c1 A2 n2 c2 n := by rw [← hR1]; exact hown.gr hg3
  have hN3 : NetM w0 w w3 S R M A1 n1 c1 A2 n2 c2 := ⟨n, hM3, hO3, hd2.grow hg3, hcc2.trans (hg3.chg _), (hg3.below.block R hs2).trans hR2⟩
  have hform : 0 < n2 → ∃ b, A2 = some ⟨b, 0, none⟩ := fun h => by obtain ⟨b, hb, _⟩ := own_form hO3.pipes h; exact ⟨b, hb⟩
  have Hw3 := Lib.hid hw3
  have HMe := Lib.hid hM
  have HN3 := Lib.hid hN3
  have Hform := Lib.hid hform
  clear hw3 hM hM3 HR hc2 hown hd2 hR2 hcc2 hs2 hO3 hN3 hform
  go_wp2_with fail
  rw [← Hw3.out, ← HMe.out]
  go_loopw [6] (fun i wr => ∃ k : Nat, k ≤ n2 ∧ i = .int .i64 k ∧ NetM w0 w wr S R M A1 n1 c1 A2 n2 c2) (fun i _ => n2 - (intOf i).toNat)
  case atStart => exact ⟨0, Nat.zero_le _, rfl, HN3.out⟩
  case round =>
    obtain ⟨k, hk, rfl, hN⟩ := hrel
    have m0 := rb_cell (j := 0) hN.choose_spec.1 rfl
    have m1 := rb_cell (j := 1) hN.choose_spec.1 rfl
    have hdr := hN.choose_spec.2.2.1
    have HN := Lib.hid hN
    have HD := Lib.hid hdr
    clear hN hdr HN3
    by_cases hkn : k < n2
    · obtain ⟨b, hb⟩ := Hform.out (by omega)
      subst hb
      have t1 : (k : Int) < (n2 : Int) := by omega
      have t0 : (0 : Int) ≤ (k : Int) := by omega
      go_wp2_with fail
      refine (l01Next_any 2 HD.out (by omega)).mono ?_
      rintro e w5 ⟨x, rfl, hx, hd5, hc5⟩
      have hN5 := HN.out.next hSR hMR hd5 hc5
      have HN5 := Lib.hid hN5
      clear hx hd5 hc5 HN HD m0 m1
      by_cases hx0 : x = 0
      · subst hx0
        obtain ⟨q, hM5, hO5, _⟩ := hN5
        have hql := hO5.at_.l2
        obtain ⟨y, hy⟩ : ∃ y, q.pipes[k]? = some y := ⟨_, List.getElem?_eq_getElem (by omega)⟩
        obtain ⟨_, _, _, _, p4, _, _, _, _, f4⟩ := own_pp hO5.pipes hy
        have m1 := rb_cell (j := 1) hM5 rfl
        have ex : ∀ v : Int, NetM w0 w (w5.drew.setCell ⟨b, k * 5 + 4, none⟩ (.int .i64 v)) S R M A1 n1 c1 (some ⟨b, 0, none⟩) n2 c2 := fun v => HN5.out.lim (Gr.refl _).drew hRw hRw0 hSR hMR hkn v
        have Ex := Lib.hid ex
        clear ex hM5 hO5 hy hql
        go_wp2_with fail
        go_region
        go_wp2_with fail
        go_roundw
        case rel => exact ⟨k + 1, by omega, by go_num, Ex.out _⟩
        case measure => simp [intOf]; omega
      · have tx : (x == 0) = false := by simp [hx0]
        clear hN5
        go_wp2_with fail
        go_roundw
        case rel => exact ⟨k + 1, by omega, by go_num, HN5.out⟩
        case measure => simp [intOf]; omega
    · obtain rfl : n2 = k := by omega
      rename World => w4
      have hS4 : S < w4.heap.size := HD.out.lt
      have h04 : w0.heap.size ≤ w4.heap.size := HD.out.gr.size
      have hM4 : M < w4.heap.size := rb_lt HN.out.choose_spec.1
      have q5 : RowSt GTr.cells 39 4 w0 w4 (w4.alloc (.cells #[] 39)) S (some ⟨w4.heap.size, 0, none⟩) 0 0 := RowSt.init HD.out (by omega)
      have Q5 := Lib.hid q5
      clear q5
      by_cases hn1 : 1 < n1
      · have tn : (1 : Int) < (n1 : Int) := by omega
        go_wp2_with fail
        refine (l01Next_any 7 Q5.out.dr (by omega)).mono ?_
        rintro e w6 ⟨x, rfl, hx, hd6, hc6⟩
        obtain ⟨x0, x1⟩ := hx.lt (by omega)
        have Q6 := Lib.hid (Q5.out.next hS4 hd6 hc6)
        obtain ⟨J, hJ⟩ : ∃ J : Nat, x = (J : Int) := ⟨x.toNat, by omega⟩
        subst hJ
        clear hx hd6 hc6 Q5 m0 m1
        go_wp2_with fail
        go_loopw [8, 9] (fun o i wq => ∃ j : Nat, j ≤ J ∧ i = .int .i64 j ∧ ∃ A u c, u + j ≤ 7 ∧ o = .slice A u c ∧ RowSt GTr.cells 39 4 w0 w4 wq S A u c) (fun _ i _ => (intOf i).toNat)
        case atStart => exact ⟨J, Nat.le_refl _, rfl, _, _, _, by omega, rfl, Q6.out⟩
        case round =>
          obtain ⟨j, hj, rfl, A, u, c, hu, rfl, q⟩ := hrel
          have Q := Lib.hid q
          clear q Q6
          by_cases hgo : 0 < j ∧ 1 < n1
          · have t1 : decide ((0 : Int) < (j : Int)) = true := by simp; omega
            have t2 : decide ((1 : Int) < (n1 : Int)) = true := by simp; omega
            have hj1 : 0 < j := hgo.1
            have hk1 : 1 < n1 := hn1
            have hk0 : ¬ ((n1 : Int) = 0) := by omega
            clear hgo
            go_wp2_with fail
            refine (l01Next_any (n1 : Int) Q.out.dr (by omega)).mono ?_
            rintro e w7 ⟨a, rfl, ha, hd7, hc7⟩
            obtain ⟨a0, a1⟩ := ha.lt (by omega)
            have Q7 := Lib.hid (Q.out.next hS4 hd7 hc7)
            clear ha hd7 hc7 Q
            go_wp2_with fail
            refine (l01Next_any 70 Q7.out.dr (by omega)).mono ?_
            rintro e w8 ⟨b, rfl, hb, hd8, hc8⟩
            have Q8 := Lib.hid (Q7.out.next hS4 hd8 hc8)
            clear hb hd8 hc8 Q7
            go_wp2_with fail
            refine (l01Next_any 4 Q8.out.dr (by omega)).mono ?_
            rintro e w9 ⟨d, rfl, hdd, hd9, hc9⟩
            have Q9 := Lib.hid (Q8.out.next hS4 hd9 hc9)
            clear hdd hd9 hc9 Q8
            have qb := Q9.out.blk hS4 #[.int .i64 a, .int .i64 0, .int .i64 b, .int .i64 d]
            obtain ⟨w10, hw10⟩ : ∃ W, W = w9.alloc (.cells #[.int .i64 a, .int .i64 0, .int .i64 b, .int .i64 d] 39) := ⟨_, rfl⟩
            obtain ⟨X, hX⟩ : ∃ X, X = w9.heap.size := ⟨_, rfl⟩
            rw [← hw10, ← hX] at qb
            have Hw10 := Lib.hid hw10
            have HX := Lib.hid hX
            have QB := Lib.hid (qb.gr hS4 (Gr.refl _).drew)
            have x0 := rb_cell (j := 0) qb.blk rfl
            have hXl := qb.low
            clear hw10 hX qb Q9
            go_upto_region 13 with fail
            rw [← Hw10.out, ← HX.out]
            go_cut [10] from 47 to 100 (fun p wx => p = .pointer (some ⟨X, 0, none⟩) ∧ ∃ v : Int, BlkSt GTr.cells 39 4 w0 w4 wx S A u c X #[.int .i64 a, .int .i64 v, .int .i64 b, .int .i64 d])
            case first =>
              go_wp2_with fail
              have hwa : IntKind.i64.wrap ((n1 : Int) - 1) = (n1 : Int) - 1 := IntWalk.i64_in _ (by omega)
              have hwb : IntKind.i64.wrap (a + 1) = a + 1 := IntWalk.i64_in _ (by omega)
              go_region_with ((go_at_call 86; with_reducible refine (l01Next_any ((n1 : Int) - 1) QB.out.st.dr (by omega)).mono ?_; rintro e w11 ⟨y, rfl, hy, hd11, hc11⟩; obtain ⟨y0, y1⟩ := hy.below (by omega); have hwc : IntKind.i64.wrap (a + 1 + y) = a + 1 + y := IntWalk.i64_in _ (by omega); have qc := QB.out.next hS4 hd11 hc11; have k0 := rb_cell (j := 0) qc.blk rfl; have k1 := rb_cell (j := 1) qc.blk rfl; have f1 := rb_frozen qc.blk 1; have QC := Lib.hid qc; clear qc hd11 hc11 hy))
              all_goals
                have QD := Lib.hid (QC.out.put hS4 h04 1 (.int .i64 ((a + 1 + y) % (n1 : Int))) (cs' := #[.int .i64 a, .int .i64 ((a + 1 + y) % (n1 : Int)), .int .i64 b, .int .i64 d]) rfl)
                generalize (a + 1 + y) % (n1 : Int) = v12 at QD ⊢
                clear k0 k1 f1 QC QB x0 hwa hwb hwc
                generalize World.setCell _ _ _ = w12 at QD ⊢
                go_wp2_with fail
                go_meet
                case rel => exact ⟨rfl, v12, QD.out⟩
            obtain ⟨rfl, v12, qd⟩ := hcut
            have QD := Lib.hid qd
            clear qd QB x0
            rename World => w12
            go_wp2_with fail
            refine (l01Next_any 120 QD.out.st.dr (by omega)).mono ?_
            rintro e w13 ⟨t, rfl, ht, hd13, hc13⟩
            have QE := Lib.hid (QD.out.next hS4 hd13 hc13)
            have k0 := rb_cell (j := 0) QE.out.blk rfl
            have k1 := rb_cell (j := 1) QE.out.blk rfl
            have f1 := rb_frozen QE.out.blk 1
            clear ht hd13 hc13 QD
            by_cases h0 : t = 0
            · subst h0
              go_upto_region 21 with fail
              obtain ⟨x, QF0⟩ : ∃ x : GTr, Hid (BlkSt GTr.cells 39 4 w0 w4 (w13.setCell ⟨X, 1, none⟩ (.int .i64 a)) S A u c X #[.int .i64 x.entry, .int .i64 x.exit, .int .i64 x.amount, .int .i64 x.cls]) := ⟨⟨a, a, b, d⟩, Lib.hid (QE.out.put hS4 h04 1 (.int .i64 a) rfl)⟩
              clear k0 k1 f1 QE
              generalize World.setCell _ _ _ = wf at QF0 ⊢
              have QF : Hid (BlkSt GTr.cells 39 4 w0 w4 wf S A u c X #[.int .i64 x.entry, .int .i64 x.exit, .int .i64 x.amount, .int .i64 x.cls]) := QF0
              clear QF0
              obtain ⟨ls, hls⟩ := QF.out.st.row
              have Hls := Lib.hid hls
              have hws := QF.out.st.ch.size
              have k0 := rb_cell (j := 0) QF.out.blk rfl
              have k1 := rb_cell (j := 1) QF.out.blk rfl
              have k2 := rb_cell (j := 2) QF.out.blk rfl
              have k3 := rb_cell (j := 3) QF.out.blk rfl
              clear hls
              go_wp2_with (at_builtin; (refine wpList_append_own _ rfl _ _ _ rfl w4.heap.size 39 i0 _ 4 32 Try.underlying28 hi0 hz0 hz1 hz2 rfl (by omega) _ u _ rfl (Hls.out.alloc _) ⟨wf.heap.size, 0, none⟩ 1 1 [.int .i64 x.entry, .int .i64 x.exit, .int .i64 x.amount, .int .i64 x.cls] rfl rfl (World.news_of_block (cs := #[.int .i64 x.entry, .int .i64 x.exit, .int .i64 x.amount, .int .i64 x.cls]) (t := 39) (fr := (0, 0)) (heap_alloc_new wf _)) (by simp [Value.oneCell']) (by unfold maxLen; omega) (by omega) (by simp; omega) ?_; intro v' w20 hown20 hg20 _))
              obtain ⟨A', c', rfl⟩ := own_shape hown20
              have Q20 := Lib.hid (QF.out.st.add hS4 h04 (x := x) hown20 hg20)
              clear hown20 hg20
              go_wp2_with fail
              go_roundw
              case rel => first | exact ⟨j - 1, by omega, by go_num, _, _, _, by omega, rfl, Q20.out⟩ | ((repeat apply Exists.intro); exact ⟨⟨j - 1, by omega, by go_num, _, _, _, by omega, rfl, Q20.out⟩, rfl⟩)
              case measure => simp [intOf]; omega
            by_cases h1 : t = 1
            · subst h1
              clear f1 h0
              have lo := World.ownsRow_lit w13 (e := 2) (size := 1) #[.int .i64 (-1), .int .i64 30000, .int .i64 30001] 3 (Nat.le_refl _) (by unfold maxLen; omega) rfl
              have QG := Lib.hid (QE.out.gr hS4 ((Gr.refl _).alloc (.cells #[.int .i64 (-1), .int .i64 30000, .int .i64 30001] 2)))
              have hS13 : S < w13.heap.size := QE.out.st.dr.lt
              have LO := Lib.hid lo
              clear lo k0 k1
              go_wp2_with fail
              refine (l01Next_any 3 QG.out.st.dr (by omega)).mono ?_
              rintro e w14 ⟨z, rfl, hz, hd14, hc14⟩
              obtain ⟨z0, z1⟩ := hz.lt (by omega)
              have lo2 := own_chg LO.out hc14 (fun j hj e => by have := own_low LO.out hj; omega)
              obtain ⟨v, hv⟩ := own_pick (zs := [-1, 30000, 30001]) lo2 z0 z1
              have QH := Lib.hid (QG.out.next hS4 hd14 hc14)
              have k2 := rb_cell (j := 2) QH.out.blk rfl
              have f2 := rb_frozen QH.out.blk 2
              clear hz hd14 hc14 lo2 QG LO QE
              go_upto_region 21 with fail
              obtain ⟨x, QF0⟩ : ∃ x : GTr, Hid (BlkSt GTr.cells 39 4 w0 w4 (w14.setCell ⟨X, 2, none⟩ (.int .i64 v)) S A u c X #[.int .i64 x.entry, .int .i64 x.exit, .int .i64 x.amount, .int .i64 x.cls]) := ⟨⟨a, v12, v, d⟩, Lib.hid (QH.out.put hS4 h04 2 (.int .i64 v) rfl)⟩
              clear k2 f2 hv QH
              generalize World.setCell _ _ _ = wf at QF0 ⊢
              have QF : Hid (BlkSt GTr.cells 39 4 w0 w4 wf S A u c X #[.int .i64 x.entry, .int .i64 x.exit, .int .i64 x.amount, .int .i64 x.cls]) := QF0
              clear QF0
              obtain ⟨ls, hls⟩ := QF.out.st.row
              have Hls := Lib.hid hls
              have hws := QF.out.st.ch.size
              have k0 := rb_cell (j := 0) QF.out.blk rfl
              have k1 := rb_cell (j := 1) QF.out.blk rfl
              have k2 := rb_cell (j := 2) QF.out.blk rfl
              have k3 := rb_cell (j := 3) QF.out.blk rfl
              clear hls
              go_wp2_with (at_builtin; (refine wpList_append_own _ rfl _ _ _ rfl w4.heap.size 39 i0 _ 4 32 Try.underlying28 hi0 hz0 hz1 hz2 rfl (by omega) _ u _ rfl (Hls.out.alloc _) ⟨wf.heap.size, 0, none⟩ 1 1 [.int .i64 x.entry, .int .i64 x.exit, .int .i64 x.amount, .int .i64 x.cls] rfl rfl (World.news_of_block (cs := #[.int .i64 x.entry, .int .i64 x.exit, .int .i64 x.amount, .int .i64 x.cls]) (t := 39) (fr := (0, 0)) (heap_alloc_new wf _)) (by simp [Value.oneCell']) (by unfold maxLen; omega) (by omega) (by simp; omega) ?_; intro v' w20 hown20 hg20 _))
              obtain ⟨A', c', rfl⟩ := own_shape hown20
              have Q20 := Lib.hid (QF.out.st.add hS4 h04 (x := x) hown20 hg20)
              clear hown20 hg20
              go_wp2_with fail
              go_roundw
              case rel => first | exact ⟨j - 1, by omega, by go_num, _, _, _, by omega, rfl, Q20.out⟩ | ((repeat apply Exists.intro); exact ⟨⟨j - 1, by omega, by go_num, _, _, _, by omega, rfl, Q20.out⟩, rfl⟩)
              case measure => simp [intOf]; omega
            by_cases h2 : t = 2
            · subst h2
              clear f1 h0 h1
              have lo := World.ownsRow_lit w13 (e := 2) (size := 1) #[.int .i64 (-1), .int .i64 4] 2 (Nat.le_refl _) (by unfold maxLen; omega) rfl
              have QG := Lib.hid (QE.out.gr hS4 ((Gr.refl _).alloc (.cells #[.int .i64 (-1), .int .i64 4] 2)))
              have hS13 : S < w13.heap.size := QE.out.st.dr.lt
              have LO := Lib.hid lo
              clear lo k0 k1
              go_wp2_with fail
              refine (l01Next_any 2 QG.out.st.dr (by omega)).mono ?_
              rintro e w14 ⟨z, rfl, hz, hd14, hc14⟩
              obtain ⟨z0, z1⟩ := hz.lt (by omega)
              have lo2 := own_chg LO.out hc14 (fun j hj e => by have := own_low LO.out hj; omega)
              obtain ⟨v, hv⟩ := own_pick (zs := [-1, 4]) lo2 z0 z1
              have QH := Lib.hid (QG.out.next hS4 hd14 hc14)
              have k2 := rb_cell (j := 3) QH.out.blk rfl
              have f2 := rb_frozen QH.out.blk 3
              clear hz hd14 hc14 lo2 QG LO QE
              go_upto_region 21 with fail
              obtain ⟨x, QF0⟩ : ∃ x : GTr, Hid (BlkSt GTr.cells 39 4 w0 w4 (w14.setCell ⟨X, 3, none⟩ (.int .i64 v)) S A u c X #[.int .i64 x.entry, .int .i64 x.exit, .int .i64 x.amount, .int .i64 x.cls]) := ⟨⟨a, v12, b, v⟩, Lib.hid (QH.out.put hS4 h04 3 (.int .i64 v) rfl)⟩
              clear k2 f2 hv QH
              generalize World.setCell _ _ _ = wf at QF0 ⊢
              have QF : Hid (BlkSt GTr.cells 39 4 w0 w4 wf S A u c X #[.int .i64 x.entry, .int .i64 x.exit, .int .i64 x.amount, .int .i64 x.cls]) := QF0
              clear QF0
              obtain ⟨ls, hls⟩ := QF.out.st.row
              have Hls := Lib.hid hls
              have hws := QF.out.st.ch.size
              have k0 := rb_cell (j := 0) QF.out.blk rfl
              have k1 := rb_cell (j := 1) QF.out.blk rfl
              have k2 := rb_cell (j := 2) QF.out.blk rfl
              have k3 := rb_cell (j := 3) QF.out.blk rfl
              clear hls
              go_wp2_with (at_builtin; (refine wpList_append_own _ rfl _ _ _ rfl w4.heap.size 39 i0 _ 4 32 Try.underlying28 hi0 hz0 hz1 hz2 rfl (by omega) _ u _ rfl (Hls.out.alloc _) ⟨wf.heap.size, 0, none⟩ 1 1 [.int .i64 x.entry, .int .i64 x.exit, .int .i64 x.amount, .int .i64 x.cls] rfl rfl (World.news_of_block (cs := #[.int .i64 x.entry, .int .i64 x.exit, .int .i64 x.amount, .int .i64 x.cls]) (t := 39) (fr := (0, 0)) (heap_alloc_new wf _)) (by simp [Value.oneCell']) (by unfold maxLen; omega) (by omega) (by simp; omega) ?_; intro v' w20 hown20 hg20 _))
              obtain ⟨A', c', rfl⟩ := own_shape hown20
              have Q20 := Lib.hid (QF.out.st.add hS4 h04 (x := x) hown20 hg20)
              clear hown20 hg20
              go_wp2_with fail
              go_roundw
              case rel => first | exact ⟨j - 1, by omega, by go_num, _, _, _, by omega, rfl, Q20.out⟩ | ((repeat apply Exists.intro); exact ⟨⟨j - 1, by omega, by go_num, _, _, _, by omega, rfl, Q20.out⟩, rfl⟩)
              case measure => simp [intOf]; omega
            have tt0 : (t == 0) = false := by simp [h0]
            have tt1 : (t == 1) = false := by simp [h1]
            have tt2 : (t == 2) = false := by simp [h2]
            clear h0 h1 h2 k0 k1 f1
            go_upto_region 21 with fail
            obtain ⟨x, QF0⟩ : ∃ x : GTr, Hid (BlkSt GTr.cells 39 4 w0 w4 (w13) S A u c X #[.int .i64 x.entry, .int .i64 x.exit, .int .i64 x.amount, .int .i64 x.cls]) := ⟨⟨a, v12, b, d⟩, QE⟩
            clear QE
            have QF : Hid (BlkSt GTr.cells 39 4 w0 w4 w13 S A u c X #[.int .i64 x.entry, .int .i64 x.exit, .int .i64 x.amount, .int .i64 x.cls]) := QF0
            clear QF0
            obtain ⟨ls, hls⟩ := QF.out.st.row
            have Hls := Lib.hid hls
            have hws := QF.out.st.ch.size
            have k0 := rb_cell (j := 0) QF.out.blk rfl
            have k1 := rb_cell (j := 1) QF.out.blk rfl
            have k2 := rb_cell (j := 2) QF.out.blk rfl
            have k3 := rb_cell (j := 3) QF.out.blk rfl
            clear hls
            go_wp2_with (at_builtin; (refine wpList_append_own _ rfl _ _ _ rfl w4.heap.size 39 i0 _ 4 32 Try.underlying28 hi0 hz0 hz1 hz2 rfl (by omega) _ u _ rfl (Hls.out.alloc _) ⟨w13.heap.size, 0, none⟩ 1 1 [.int .i64 x.entry, .int .i64 x.exit, .int .i64 x.amount, .int .i64 x.cls] rfl rfl (World.news_of_block (cs := #[.int .i64 x.entry, .int .i64 x.exit, .int .i64 x.amount, .int .i64 x.cls]) (t := 39) (fr := (0, 0)) (heap_alloc_new w13 _)) (by simp [Value.oneCell']) (by unfold maxLen; omega) (by omega) (by simp; omega) ?_; intro v' w20 hown20 hg20 _))
            obtain ⟨A', c', rfl⟩ := own_shape hown20
            have Q20 := Lib.hid (QF.out.st.add hS4 h04 (x := x) hown20 hg20)
            clear hown20 hg20
            go_wp2_with fail
            go_roundw
            case rel => first | exact ⟨j - 1, by omega, by go_num, _, _, _, by omega, rfl, Q20.out⟩ | ((repeat apply Exists.intro); exact ⟨⟨j - 1, by omega, by go_num, _, _, _, by omega, rfl, Q20.out⟩, rfl⟩)
            case measure => simp [intOf]; omega
          · obtain rfl : j = 0 := by omega
            clear hgo
            go_wp2_with fail
            refine (l01Next_any 60 Q.out.dr (by omega)).mono ?_
            rintro e w15 ⟨t, rfl, ht, hd15, hc15⟩
            have QZ := Lib.hid (Q.out.next hS4 hd15 hc15)
            clear ht hd15 hc15 Q
            by_cases ht0 : t = 0
            · subst ht0
              go_wp2_with fail
              go_loopw [8] (fun o wq => ∃ A u c, u ≤ 33 ∧ o = .slice A u c ∧ RowSt GTr.cells 39 4 w0 w4 wq S A u c) (fun o _ => 34 - lenOf o)
              case atStart => exact ⟨_, _, _, by omega, rfl, QZ.out⟩
              case round =>
                obtain ⟨A, u, c, hu, rfl, q⟩ := hrel
                have Q := Lib.hid q
                clear q QZ
                have t2 : decide ((1 : Int) < (n1 : Int)) = true := by simp; omega
                go_wp2_with fail
                refine (l01Next_any 2 Q.out.dr (by omega)).mono ?_
                rintro e w16 ⟨y, rfl, hy, hd16, hc16⟩
                obtain ⟨y0, y1⟩ := hy.lt (by omega)
                have QZ := Lib.hid (Q.out.next hS4 hd16 hc16)
                have hwy : IntKind.i64.wrap (32 + y) = 32 + y := IntWalk.i64_in _ (by omega)
                clear hy hd16 hc16 Q
                by_cases hlu : (u : Int) < 32 + y
                · have tu : decide ((u : Int) < 32 + y) = true := decide_eq_true hlu
                  obtain ⟨ls, hls⟩ := QZ.out.row
                  have Hls := Lib.hid hls
                  have hws := QZ.out.ch.size
                  clear hls
                  go_wp2_with (at_builtin; (refine wpList_append_own _ rfl _ _ _ rfl w4.heap.size 39 i0 _ 4 32 Try.underlying28 hi0 hz0 hz1 hz2 rfl (by omega) _ u _ rfl (Hls.out.alloc _) ⟨w16.heap.size, 0, none⟩ 1 1 [.int .i64 0, .int .i64 1, .int .i64 1, .int .i64 0] rfl rfl (World.news_of_block (cs := #[.int .i64 0, .int .i64 1, .int .i64 1, .int .i64 0]) (t := 39) (fr := (0, 0)) (heap_alloc_new w16 _)) (by simp [Value.oneCell']) (by unfold maxLen; omega) (by omega) (by simp; omega) ?_; intro v' w20 hown20 hg20 _))
                  obtain ⟨A', c', rfl⟩ := own_shape hown20
                  have Q20 := Lib.hid (QZ.out.add hS4 h04 (x := ⟨0, 1, 1, 0⟩) hown20 hg20)
                  clear hown20 hg20
                  go_wp2_with fail
                  go_roundw
                  case rel => exact ⟨_, _, _, by omega, rfl, Q20.out⟩
                  case measure => simp [lenOf]; omega
                · have tu : decide ((u : Int) < 32 + y) = false := decide_eq_false hlu
                  obtain ⟨⟨hMz, hRz⟩, h1, ⟨n', h2⟩, ⟨ls, h3⟩, h4, h5⟩ := list_end HN.out QZ.out hRw hRw0 hSR hMR
                  have m0 := rb_cell (j := 0) hMz rfl
                  have m1 := rb_cell (j := 1) hMz rfl
                  have r0 := rb_cell (j := 0) hRz rfl
                  have r1 := rb_cell (j := 1) hRz rfl
                  have f0 := rb_frozen hRz 0
                  have f1 := rb_frozen hRz 1
                  have H1 := Lib.hid h1
                  have H2 := Lib.hid h2
                  have H3 := Lib.hid h3
                  have H4 := Lib.hid h4
                  have H5 := Lib.hid h5
                  clear h1 h2 h3 h4 h5 hMz hRz
                  go_wp2_with fail
                  (try simp only [Exit.inBlock, Exit.then])
                  refine bodyPost_ret (results_row_tmp Try.results85 _ _ R 27 #[.slice A1 n1 c1, .slice A2 n2 c2] (0, 0) _ ?_ H1.out Try.underlying27 rfl (by kernel_rfl)) ?_ ?_
                  · rfl
                  · rfl
                  exact ⟨_, _, _, _, _, _, n', _, _, _, ls, rfl, H2.out, by omega, H3.out, H4.out, H5.out⟩
            · have tt : (t == 0) = false := by simp [ht0]
              obtain ⟨⟨hMz, hRz⟩, h1, ⟨n', h2⟩, ⟨ls, h3⟩, h4, h5⟩ := list_end HN.out QZ.out hRw hRw0 hSR hMR
              have m0 := rb_cell (j := 0) hMz rfl
              have m1 := rb_cell (j := 1) hMz rfl
              have r0 := rb_cell (j := 0) hRz rfl
              have r1 := rb_cell (j := 1) hRz rfl
              have f0 := rb_frozen hRz 0
              have f1 := rb_frozen hRz 1
              have H1 := Lib.hid h1
              have H2 := Lib.hid h2
              have H3 := Lib.hid h3
              have H4 := Lib.hid h4
              have H5 := Lib.hid h5
              clear h1 h2 h3 h4 h5 hMz hRz
              go_wp2_with fail
              (try simp only [Exit.inBlock, Exit.then])
              refine bodyPost_ret (results_row_tmp Try.results85 _ _ R 27 #[.slice A1 n1 c1, .slice A2 n2 c2] (0, 0) _ ?_ H1.out Try.underlying27 rfl (by kernel_rfl)) ?_ ?_
              · rfl
              · rfl
              exact ⟨_, _, _, _, _, _, n', _, _, _, ls, rfl, H2.out, by omega, H3.out, H4.out, H5.out⟩
      · have tn : ¬ (1 : Int) < (n1 : Int) := by omega
        have tn' : (n1 : Int) ≤ 1 := by omega
        go_wp2_with fail
        refine (l01Next_any 7 Q5.out.dr (by omega)).mono ?_
        rintro e w6 ⟨x, rfl, hx, hd6, hc6⟩
        obtain ⟨x0, x1⟩ := hx.lt (by omega)
        have Q6 := Lib.hid (Q5.out.next hS4 hd6 hc6)
        obtain ⟨J, hJ⟩ : ∃ J : Nat, x = (J : Int) := ⟨x.toNat, by omega⟩
        subst hJ
        clear hx hd6 hc6 Q5 m0 m1
        go_wp2_with fail
        go_loopw [8, 9] (fun o i wq => ∃ j : Nat, i = .int .i64 j ∧ ∃ A u c, u ≤ 7 ∧ o = .slice A u c ∧ RowSt GTr.cells 39 4 w0 w4 wq S A u c) (fun _ i _ => (intOf i).toNat)
        case atStart => exact ⟨J, rfl, _, _, _, by omega, rfl, Q6.out⟩
        case round =>
          obtain ⟨j, rfl, A, u, c, hu, rfl, q⟩ := hrel
          have Q := Lib.hid q
          clear q Q6
          by_cases hj0 : 0 < j
          all_goals
            (first
              | (have t1 : decide (0 < j) = true := decide_eq_true (by omega))
              | (have t1 : decide (0 < j) = false := decide_eq_false (by omega)
                 have t3 : j = 0 := by omega
                 subst t3))
            clear hj0
            go_wp2_with fail
            refine (l01Next_any 60 Q.out.dr (by omega)).mono ?_
            rintro e w15 ⟨t, rfl, ht, hd15, hc15⟩
            have QZ := Lib.hid (Q.out.next hS4 hd15 hc15)
            clear ht hd15 hc15 Q
            by_cases ht0 : t = 0
            · subst ht0
              go_wp2_with fail
              go_loopw [8] (fun o wq => ∃ A u c, u ≤ 33 ∧ o = .slice A u c ∧ RowSt GTr.cells 39 4 w0 w4 wq S A u c) (fun o _ => 34 - lenOf o)
              case atStart => exact ⟨_, _, _, by omega, rfl, QZ.out⟩
              case round =>
                obtain ⟨A, u, c, hu, rfl, q⟩ := hrel
                have Q := Lib.hid q
                clear q QZ
                have QZ := Q
                obtain ⟨⟨hMz, hRz⟩, h1, ⟨n', h2⟩, ⟨ls, h3⟩, h4, h5⟩ := list_end HN.out QZ.out hRw hRw0 hSR hMR
                have m0 := rb_cell (j := 0) hMz rfl
                have m1 := rb_cell (j := 1) hMz rfl
                have r0 := rb_cell (j := 0) hRz rfl
                have r1 := rb_cell (j := 1) hRz rfl
                have f0 := rb_frozen hRz 0
                have f1 := rb_frozen hRz 1
                have H1 := Lib.hid h1
                have H2 := Lib.hid h2
                have H3 := Lib.hid h3
                have H4 := Lib.hid h4
                have H5 := Lib.hid h5
                clear h1 h2 h3 h4 h5 hMz hRz
                go_wp2_with fail
                (try simp only [Exit.inBlock, Exit.then])
                refine bodyPost_ret (results_row_tmp Try.results85 _ _ R 27 #[.slice A1 n1 c1, .slice A2 n2 c2] (0, 0) _ ?_ H1.out Try.underlying27 rfl (by kernel_rfl)) ?_ ?_
                · rfl
                · rfl
                exact ⟨_, _, _, _, _, _, n', _, _, _, ls, rfl, H2.out, by omega, H3.out, H4.out, H5.out⟩
            · have tt : (t == 0) = false := by simp [ht0]
              obtain ⟨⟨hMz, hRz⟩, h1, ⟨n', h2⟩, ⟨ls, h3⟩, h4, h5⟩ := list_end HN.out QZ.out hRw hRw0 hSR hMR
              have m0 := rb_cell (j := 0) hMz rfl
              have m1 := rb_cell (j := 1) hMz rfl
              have r0 := rb_cell (j := 0) hRz rfl
              have r1 := rb_cell (j := 1) hRz rfl
              have f0 := rb_frozen hRz 0
              have f1 := rb_frozen hRz 1
              have H1 := Lib.hid h1
              have H2 := Lib.hid h2
              have H3 := Lib.hid h3
              have H4 := Lib.hid h4
              have H5 := Lib.hid h5
              clear h1 h2 h3 h4 h5 hMz hRz
              go_wp2_with fail
              (try simp only [Exit.inBlock, Exit.then])
              refine bodyPost_ret (results_row_tmp Try.results85 _ _ R 27 #[.slice A1 n1 c1, .slice A2 n2 c2] (0, 0) _ ?_ H1.out Try.underlying27 rfl (by kernel_rfl)) ?_ ?_
              · rfl
              · rfl
              exact ⟨_, _, _, _, _, _, n', _, _, _, ls, rfl, H2.out, by omega, H3.out, H4.out, H5.out⟩
end Go.Proofs.Ytejfpajbkgfiaaa
/-
  Draws: a network and transports, for the laws.
-/
set_option linter.unusedSimpArgs false
set_option linter.unusedVariables false
namespace Go.Proofs.Ytejfpajbkgfiaaa
open Go.ChangeShapes Go.WideShapes Go.ChangeAt Go.RowKit

theorem Drw.gr' {w0 w : World} {S : Nat} (h : Drw w0 w S) : Gr w0 w := h.gr
/-- A draw's result, for the law that asked for it. -/
theorem law_end {α : Type} {f : α → List Value} {e : TypeId} {sz : Nat} {w w1 w2 w3 : World} {S R n1 c1 n2 c2 n3 c3 : Nat} {A1 A2 A3 : Option Addr} {n : GNet} {ls : List α} (hg1 : Gr w w1) (hR1 : w1.heap.size = R + 1) (hRw : w.heap.size ≤ R) (hR : w1.heap[R]? = some (.cells #[.slice none 0 0, .slice none 0 0] 27 (0, 0)))
    (hd2 : Gr w1 w2) (hd3 : Drw w1 w3 S) (hO : OwnNet w3 w2.heap.size A1 n1 c1 A2 n2 c2 n) (hl : w3.ownsRow w2.heap.size e sz (.slice A3 n3 c3) n3 (ls.flatMap f)) (h3 : n3 ≤ 1048576) :
    w3.heap[R]? = some (.cells #[.slice none 0 0, .slice none 0 0] 27 (0, 0)) ∧
    ((w3.setCell ⟨R, 0, none⟩ (.slice A1 n1 c1)).setCell ⟨R, 1, none⟩ (.slice A2 n2 c2)).heap[R]? = some (.cells #[.slice A1 n1 c1, .slice A2 n2 c2] 27 (0, 0)) ∧
    NetAt ((w3.setCell ⟨R, 0, none⟩ (.slice A1 n1 c1)).setCell ⟨R, 1, none⟩ (.slice A2 n2 c2)) A1 n1 c1 A2 n2 c2 n ∧
    SlAt ((w3.setCell ⟨R, 0, none⟩ (.slice A1 n1 c1)).setCell ⟨R, 1, none⟩ (.slice A2 n2 c2)) sz A3 n3 c3 (ls.flatMap f) ∧
    Gr w ((w3.setCell ⟨R, 0, none⟩ (.slice A1 n1 c1)).setCell ⟨R, 1, none⟩ (.slice A2 n2 c2)) := by
  have hs2 := hd2.size
  have hR3 := (hd3.gr.below.block R (rb_lt hR)).trans hR
  have hcc : Chg (fun j => j = R) w3 ((w3.setCell ⟨R, 0, none⟩ (.slice A1 n1 c1)).setCell ⟨R, 1, none⟩ (.slice A2 n2 c2)) := (chg_put _ _).trans (chg_put _ _)
  refine ⟨hR3, by simp [World.setCell, Array.getElem?_modify, hR3], ?_, SlAt.of_own (own_chg hl hcc (fun j hj e => by have := own_low hl hj; omega)) h3, ((hg1.trans hd3.gr).setCell hRw _).setCell hRw _⟩
  have : OwnNet ((w3.setCell ⟨R, 0, none⟩ (.slice A1 n1 c1)).setCell ⟨R, 1, none⟩ (.slice A2 n2 c2)) w2.heap.size A1 n1 c1 A2 n2 c2 n := ⟨own_chg hO.nodes hcc (fun j hj e => by have := own_low hO.nodes hj; omega), own_chg hO.pipes hcc (fun j hj e => by have := own_low hO.pipes hj; omega), hO.names, hO.m1, hO.m2⟩
  exact this.at_
set_option maxHeartbeats 1600000 in
theorem DrawTransportSupplies_any {A : Option Addr} {m c : Nat} (bs : List UInt8) (w : World) (hC : SlAt w 1 A m c (byts bs)) :
    Calls Try.prog 27 #[.slice A m c] w fun e w' => ∃ A1 n1 c1 A2 n2 c2 n A3 n3 c3, ∃ ls : List GTr, e = .returned (.tuple #[.agg #[.slice A1 n1 c1, .slice A2 n2 c2], .slice A3 n3 c3]) ∧ NetAt w' A1 n1 c1 A2 n2 c2 n ∧ SlAt w' 4 A3 n3 c3 (ls.flatMap GTr.cells) ∧ Gr w w' := by
  have HC := Lib.hid hC
  clear hC
  go_enter Try.func27, Try.ntmps27
  go_wp2_with fail
  obtain ⟨w1, hw1⟩ : ∃ W, W = w.alloc (.cells #[.slice none 0 0, .slice none 0 0] 27) := ⟨_, rfl⟩
  have hR : w1.heap[w.heap.size]? = some (.cells #[.slice none 0 0, .slice none 0 0] 27 (0, 0)) := by rw [hw1]; exact heap_alloc_new w _
  have hg1 : Gr w w1 := by rw [hw1]; exact (Gr.refl _).alloc _
  have hs1 : w1.heap.size = w.heap.size + 1 := by rw [hw1]; simp
  obtain ⟨R, hRe⟩ : ∃ R, R = w.heap.size := ⟨_, rfl⟩
  rw [← hw1, ← hRe]
  rw [← hRe] at hR hs1
  have hRw : w.heap.size ≤ R := by omega
  have HR := Lib.hid hR
  have Hs1 := Lib.hid hs1
  clear hw1 hRe hR hs1
  refine (l01From_any bs _ (HC.out.gr hg1)).mono ?_
  rintro e w2 ⟨S, rfl, hS, hd2⟩
  have HD2 := Lib.hid hd2
  clear hd2
  go_wp2_with fail
  refine (l24Draw_any HD2.out).mono ?_
  rintro e w3 ⟨A1, n1, c1, A2, n2, c2, n, A3, n3, c3, ls, rfl, hO, h3, hl, hd3, _⟩
  obtain ⟨hR3, h1, h2, h4, h5⟩ := law_end hg1 Hs1.out hRw HR.out HD2.out.gr hd3 hO hl (by omega)
  have m0 := rb_cell (j := 0) hR3 rfl
  have m1 := rb_cell (j := 1) hR3 rfl
  have f0 := rb_frozen hR3 0
  have f1 := rb_frozen hR3 1
  have H1 := Lib.hid h1
  have H2 := Lib.hid h2
  have H4 := Lib.hid h4
  have H5 := Lib.hid h5
  clear hO hl hd3 hR3 h1 h2 h4 h5
  go_wp2_with fail
  (try simp only [Exit.inBlock, Exit.then])
  refine bodyPost_ret (results_row_tmp Try.results27 _ _ R 27 #[.slice A1 n1 c1, .slice A2 n2 c2] (0, 0) _ ?_ H1.out Try.underlying27 rfl (by kernel_rfl)) ?_ ?_
  · rfl
  · rfl
  exact ⟨_, _, _, _, _, _, n, _, _, _, ls, rfl, H2.out, H4.out, H5.out⟩
set_option maxHeartbeats 1600000 in
theorem DrawCurtailTransports_any {A : Option Addr} {m c : Nat} (bs : List UInt8) (w : World) (hC : SlAt w 1 A m c (byts bs)) :
    Calls Try.prog 39 #[.slice A m c] w fun e w' => ∃ A1 n1 c1 A2 n2 c2 n A3 n3 c3, ∃ ls : List GTr, e = .returned (.tuple #[.agg #[.slice A1 n1 c1, .slice A2 n2 c2], .slice A3 n3 c3]) ∧ NetAt w' A1 n1 c1 A2 n2 c2 n ∧ SlAt w' 4 A3 n3 c3 (ls.flatMap GTr.cells) ∧ Gr w w' := by
  have HC := Lib.hid hC
  clear hC
  go_enter Try.func39, Try.ntmps39
  go_wp2_with fail
  obtain ⟨w1, hw1⟩ : ∃ W, W = w.alloc (.cells #[.slice none 0 0, .slice none 0 0] 27) := ⟨_, rfl⟩
  have hR : w1.heap[w.heap.size]? = some (.cells #[.slice none 0 0, .slice none 0 0] 27 (0, 0)) := by rw [hw1]; exact heap_alloc_new w _
  have hg1 : Gr w w1 := by rw [hw1]; exact (Gr.refl _).alloc _
  have hs1 : w1.heap.size = w.heap.size + 1 := by rw [hw1]; simp
  obtain ⟨R, hRe⟩ : ∃ R, R = w.heap.size := ⟨_, rfl⟩
  rw [← hw1, ← hRe]
  rw [← hRe] at hR hs1
  have hRw : w.heap.size ≤ R := by omega
  have HR := Lib.hid hR
  have Hs1 := Lib.hid hs1
  clear hw1 hRe hR hs1
  refine (l01From_any bs _ (HC.out.gr hg1)).mono ?_
  rintro e w2 ⟨S, rfl, hS, hd2⟩
  have HD2 := Lib.hid hd2
  clear hd2
  go_wp2_with fail
  refine (l24Draw_any HD2.out).mono ?_
  rintro e w3 ⟨A1, n1, c1, A2, n2, c2, n, A3, n3, c3, ls, rfl, hO, h3, hl, hd3, _⟩
  obtain ⟨hR3, h1, h2, h4, h5⟩ := law_end hg1 Hs1.out hRw HR.out HD2.out.gr hd3 hO hl (by omega)
  have m0 := rb_cell (j := 0) hR3 rfl
  have m1 := rb_cell (j := 1) hR3 rfl
  have f0 := rb_frozen hR3 0
  have f1 := rb_frozen hR3 1
  have H1 := Lib.hid h1
  have H2 := Lib.hid h2
  have H4 := Lib.hid h4
  have H5 := Lib.hid h5
  clear hO hl hd3 hR3 h1 h2 h4 h5
  go_wp2_with fail
  (try simp only [Exit.inBlock, Exit.then])
  refine bodyPost_ret (results_row_tmp Try.results39 _ _ R 27 #[.slice A1 n1 c1, .slice A2 n2 c2] (0, 0) _ ?_ H1.out Try.underlying27 rfl (by kernel_rfl)) ?_ ?_
  · rfl
  · rfl
  exact ⟨_, _, _, _, _, _, n, _, _, _, ls, rfl, H2.out, H4.out, H5.out⟩
set_option maxHeartbeats 1600000 in
theorem DrawCurtailedAmounts_any {A : Option Addr} {m c : Nat} (bs : List UInt8) (w : World) (hC : SlAt w 1 A m c (byts bs)) :
    Calls Try.prog 45 #[.slice A m c] w fun e w' => ∃ A1 n1 c1 A2 n2 c2 n A3 n3 c3, ∃ ls : List GTr, e = .returned (.tuple #[.agg #[.slice A1 n1 c1, .slice A2 n2 c2], .slice A3 n3 c3]) ∧ NetAt w' A1 n1 c1 A2 n2 c2 n ∧ SlAt w' 4 A3 n3 c3 (ls.flatMap GTr.cells) ∧ Gr w w' := by
  have HC := Lib.hid hC
  clear hC
  go_enter Try.func45, Try.ntmps45
  go_wp2_with fail
  obtain ⟨w1, hw1⟩ : ∃ W, W = w.alloc (.cells #[.slice none 0 0, .slice none 0 0] 27) := ⟨_, rfl⟩
  have hR : w1.heap[w.heap.size]? = some (.cells #[.slice none 0 0, .slice none 0 0] 27 (0, 0)) := by rw [hw1]; exact heap_alloc_new w _
  have hg1 : Gr w w1 := by rw [hw1]; exact (Gr.refl _).alloc _
  have hs1 : w1.heap.size = w.heap.size + 1 := by rw [hw1]; simp
  obtain ⟨R, hRe⟩ : ∃ R, R = w.heap.size := ⟨_, rfl⟩
  rw [← hw1, ← hRe]
  rw [← hRe] at hR hs1
  have hRw : w.heap.size ≤ R := by omega
  have HR := Lib.hid hR
  have Hs1 := Lib.hid hs1
  clear hw1 hRe hR hs1
  refine (l01From_any bs _ (HC.out.gr hg1)).mono ?_
  rintro e w2 ⟨S, rfl, hS, hd2⟩
  have HD2 := Lib.hid hd2
  clear hd2
  go_wp2_with fail
  refine (l24Draw_any HD2.out).mono ?_
  rintro e w3 ⟨A1, n1, c1, A2, n2, c2, n, A3, n3, c3, ls, rfl, hO, h3, hl, hd3, _⟩
  obtain ⟨hR3, h1, h2, h4, h5⟩ := law_end hg1 Hs1.out hRw HR.out HD2.out.gr hd3 hO hl (by omega)
  have m0 := rb_cell (j := 0) hR3 rfl
  have m1 := rb_cell (j := 1) hR3 rfl
  have f0 := rb_frozen hR3 0
  have f1 := rb_frozen hR3 1
  have H1 := Lib.hid h1
  have H2 := Lib.hid h2
  have H4 := Lib.hid h4
  have H5 := Lib.hid h5
  clear hO hl hd3 hR3 h1 h2 h4 h5
  go_wp2_with fail
  (try simp only [Exit.inBlock, Exit.then])
  refine bodyPost_ret (results_row_tmp Try.results45 _ _ R 27 #[.slice A1 n1 c1, .slice A2 n2 c2] (0, 0) _ ?_ H1.out Try.underlying27 rfl (by kernel_rfl)) ?_ ?_
  · rfl
  · rfl
  exact ⟨_, _, _, _, _, _, n, _, _, _, ls, rfl, H2.out, H4.out, H5.out⟩
set_option maxHeartbeats 1600000 in
theorem DrawFindConflict_any {A : Option Addr} {m c : Nat} (bs : List UInt8) (w : World) (hC : SlAt w 1 A m c (byts bs)) :
    Calls Try.prog 52 #[.slice A m c] w fun e w' => ∃ A1 n1 c1 A2 n2 c2 n A3 n3 c3, ∃ ls : List GTr, e = .returned (.tuple #[.agg #[.slice A1 n1 c1, .slice A2 n2 c2], .slice A3 n3 c3]) ∧ NetAt w' A1 n1 c1 A2 n2 c2 n ∧ SlAt w' 4 A3 n3 c3 (ls.flatMap GTr.cells) ∧ Gr w w' := by
  have HC := Lib.hid hC
  clear hC
  go_enter Try.func52, Try.ntmps52
  go_wp2_with fail
  obtain ⟨w1, hw1⟩ : ∃ W, W = w.alloc (.cells #[.slice none 0 0, .slice none 0 0] 27) := ⟨_, rfl⟩
  have hR : w1.heap[w.heap.size]? = some (.cells #[.slice none 0 0, .slice none 0 0] 27 (0, 0)) := by rw [hw1]; exact heap_alloc_new w _
  have hg1 : Gr w w1 := by rw [hw1]; exact (Gr.refl _).alloc _
  have hs1 : w1.heap.size = w.heap.size + 1 := by rw [hw1]; simp
  obtain ⟨R, hRe⟩ : ∃ R, R = w.heap.size := ⟨_, rfl⟩
  rw [← hw1, ← hRe]
  rw [← hRe] at hR hs1
  have hRw : w.heap.size ≤ R := by omega
  have HR := Lib.hid hR
  have Hs1 := Lib.hid hs1
  clear hw1 hRe hR hs1
  refine (l01From_any bs _ (HC.out.gr hg1)).mono ?_
  rintro e w2 ⟨S, rfl, hS, hd2⟩
  have HD2 := Lib.hid hd2
  clear hd2
  go_wp2_with fail
  refine (l24Draw_any HD2.out).mono ?_
  rintro e w3 ⟨A1, n1, c1, A2, n2, c2, n, A3, n3, c3, ls, rfl, hO, h3, hl, hd3, _⟩
  obtain ⟨hR3, h1, h2, h4, h5⟩ := law_end hg1 Hs1.out hRw HR.out HD2.out.gr hd3 hO hl (by omega)
  have m0 := rb_cell (j := 0) hR3 rfl
  have m1 := rb_cell (j := 1) hR3 rfl
  have f0 := rb_frozen hR3 0
  have f1 := rb_frozen hR3 1
  have H1 := Lib.hid h1
  have H2 := Lib.hid h2
  have H4 := Lib.hid h4
  have H5 := Lib.hid h5
  clear hO hl hd3 hR3 h1 h2 h4 h5
  go_wp2_with fail
  (try simp only [Exit.inBlock, Exit.then])
  refine bodyPost_ret (results_row_tmp Try.results52 _ _ R 27 #[.slice A1 n1 c1, .slice A2 n2 c2] (0, 0) _ ?_ H1.out Try.underlying27 rfl (by kernel_rfl)) ?_ ?_
  · rfl
  · rfl
  exact ⟨_, _, _, _, _, _, n, _, _, _, ls, rfl, H2.out, H4.out, H5.out⟩
end Go.Proofs.Ytejfpajbkgfiaaa
