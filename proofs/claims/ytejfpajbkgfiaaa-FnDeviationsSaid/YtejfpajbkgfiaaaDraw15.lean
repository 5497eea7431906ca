/-
  Draws: orders and readings. Printed by gen_draw15.py.
-/
import Derived.Test.YtejfpajbkgfiaaaDraw14
import Derived.Test.YtejfpajbkgfiaaaReadFors
import Derived.Test.YtejfpajbkgfiaaaPlain3
import Derived.Deep.RegionWith
set_option linter.unusedSimpArgs false
set_option linter.unusedVariables false
namespace Go.Proofs.Ytejfpajbkgfiaaa
open Go.ChangeShapes Go.WideShapes Go.ChangeAt Go.RowKit

/-- A slice value whose memory is younger than base. -/
def SlOver (w : World) (base sz : Nat) (A : Option Addr) (n c : Nat) (xs : List Value) : Prop := SlAt w sz A n c xs ∧ ∀ a, A = some a → base ≤ a.block
theorem SlOver.of_own {w : World} {base sz n c : Nat} {A : Option Addr} {e : TypeId} {xs : List Value} (h : w.ownsRow base e sz (.slice A n c) n xs) (hn : n ≤ 1048576) : SlOver w base sz A n c xs :=
  ⟨SlAt.of_own h hn, fun a ha => by subst ha; exact own_low h (k := a.block) rfl⟩
theorem SlOver.chg {w w' : World} {base sz n c R : Nat} {A : Option Addr} {xs : List Value} (h : SlOver w base sz A n c xs) (hc : Chg (fun k => k = R) w w') (hR : R < base) : SlOver w' base sz A n c xs :=
  ⟨⟨⟨h.1.sl.1, fun hn => by
    obtain ⟨b, o, e, hb, hr⟩ := h.1.sl.2 hn
    have h2 := h.2 _ e
    refine ⟨b, o, e, Nat.lt_of_lt_of_le hb hc.size, fun j u hu => chg_cell' hc (hr j u hu) ?_⟩
    simp only at h2 ⊢
    omega⟩, h.1.cap, h.1.small⟩, h.2⟩
theorem SlOver.base {w : World} {base base' sz n c : Nat} {A : Option Addr} {xs : List Value} (h : SlOver w base sz A n c xs) (hb : base' ≤ base) : SlOver w base' sz A n c xs := ⟨h.1, fun a ha => Nat.le_trans hb (h.2 a ha)⟩
/-- The end of a draw with two lists. -/
theorem list_end2b {α : Type} {f : α → List Value} {e e2 : TypeId} {sz sz2 : Nat} {w0 w w4 wz : World} {S R M : Nat} {A1 A2 A B : Option Addr} {n1 c1 n2 c2 u c m d : Nat} {xs : List Value} (hN : NetM w0 w w4 S R M A1 n1 c1 A2 n2 c2) (hl : w4.ownsRow (R + 1) e2 sz2 (.slice B m d) m xs) (q : RowSt f e sz w0 w4 wz S A u c) (hRw : w.heap.size ≤ R) (hRw0 : w0.heap.size ≤ R) (hSR : S < R) (hMR : R < M) :
    (wz.heap[M]? = some (.cells #[.slice A1 n1 c1, .slice A2 n2 c2] 27 (0, 0)) ∧ wz.heap[R]? = some (.cells #[.slice none 0 0, .slice none 0 0] 27 (0, 0))) ∧
    ((wz.setCell ⟨R, 0, none⟩ (.slice A1 n1 c1)).setCell ⟨R, 1, none⟩ (.slice A2 n2 c2)).heap[R]? = some (.cells #[.slice A1 n1 c1, .slice A2 n2 c2] 27 (0, 0)) ∧
    (∃ n, OwnNet ((wz.setCell ⟨R, 0, none⟩ (.slice A1 n1 c1)).setCell ⟨R, 1, none⟩ (.slice A2 n2 c2)) w.heap.size A1 n1 c1 A2 n2 c2 n) ∧
    (∃ ls : List α, ((wz.setCell ⟨R, 0, none⟩ (.slice A1 n1 c1)).setCell ⟨R, 1, none⟩ (.slice A2 n2 c2)).ownsRow w.heap.size e sz (.slice A u c) u (ls.flatMap f)) ∧
    ((wz.setCell ⟨R, 0, none⟩ (.slice A1 n1 c1)).setCell ⟨R, 1, none⟩ (.slice A2 n2 c2)).ownsRow w.heap.size e2 sz2 (.slice B m d) m xs ∧
    Drw w0 ((wz.setCell ⟨R, 0, none⟩ (.slice A1 n1 c1)).setCell ⟨R, 1, none⟩ (.slice A2 n2 c2)) S ∧ Chg (fun j => j = S) w ((wz.setCell ⟨R, 0, none⟩ (.slice A1 n1 c1)).setCell ⟨R, 1, none⟩ (.slice A2 n2 c2)) := by
  obtain ⟨a1, a2, a3, a4, a5, a6⟩ := list_end hN q hRw hRw0 hSR hMR
  have hcc : Chg (fun j => j = R) wz ((wz.setCell ⟨R, 0, none⟩ (.slice A1 n1 c1)).setCell ⟨R, 1, none⟩ (.slice A2 n2 c2)) := (chg_put _ _).trans (chg_put _ _)
  have h1 := own_chg hl q.ch (fun j hj e => by have := own_low hl hj; omega)
  exact ⟨a1, a2, a3, a4, own_base (own_chg h1 hcc (fun j hj e => by have := own_low hl hj; omega)) (by omega), a5, a6⟩
theorem end28 {e2 : TypeId} {sz2 : Nat} {w0 w w4 wz : World} {S R M : Nat} {A1 A2 A B : Option Addr} {n1 c1 n2 c2 u c m d : Nat} {xs ys : List Value} (hN : NetM w0 w w4 S R M A1 n1 c1 A2 n2 c2) (hl : w4.ownsRow (R + 1) e2 sz2 (.slice B m d) m xs) (hd : Drw w0 wz S) (hc : Chg (fun j => j = S) w4 wz) (hs : SlOver wz (R + 1) 2 A u c ys) (hRw : w.heap.size ≤ R) (hRw0 : w0.heap.size ≤ R) (hSR : S < R) (hMR : R < M) :
    (wz.heap[M]? = some (.cells #[.slice A1 n1 c1, .slice A2 n2 c2] 27 (0, 0)) ∧ wz.heap[R]? = some (.cells #[.slice none 0 0, .slice none 0 0] 27 (0, 0))) ∧
    ((wz.setCell ⟨R, 0, none⟩ (.slice A1 n1 c1)).setCell ⟨R, 1, none⟩ (.slice A2 n2 c2)).heap[R]? = some (.cells #[.slice A1 n1 c1, .slice A2 n2 c2] 27 (0, 0)) ∧
    (∃ n, OwnNet ((wz.setCell ⟨R, 0, none⟩ (.slice A1 n1 c1)).setCell ⟨R, 1, none⟩ (.slice A2 n2 c2)) w.heap.size A1 n1 c1 A2 n2 c2 n) ∧
    ((wz.setCell ⟨R, 0, none⟩ (.slice A1 n1 c1)).setCell ⟨R, 1, none⟩ (.slice A2 n2 c2)).ownsRow w.heap.size e2 sz2 (.slice B m d) m xs ∧
    SlOver ((wz.setCell ⟨R, 0, none⟩ (.slice A1 n1 c1)).setCell ⟨R, 1, none⟩ (.slice A2 n2 c2)) w.heap.size 2 A u c ys ∧
    Drw w0 ((wz.setCell ⟨R, 0, none⟩ (.slice A1 n1 c1)).setCell ⟨R, 1, none⟩ (.slice A2 n2 c2)) S ∧ Chg (fun j => j = S) w ((wz.setCell ⟨R, 0, none⟩ (.slice A1 n1 c1)).setCell ⟨R, 1, none⟩ (.slice A2 n2 c2)) := by
  have q0 : RowSt GRd.cells 113 2 w0 w4 wz S none 0 0 := ⟨⟨[], World.ownsRow_nil _ _ _ _⟩, hd, hc⟩
  obtain ⟨a1, a2, a3, _, a5, a6, a7⟩ := list_end2b hN hl q0 hRw hRw0 hSR hMR
  have hcc : Chg (fun j => j = R) wz ((wz.setCell ⟨R, 0, none⟩ (.slice A1 n1 c1)).setCell ⟨R, 1, none⟩ (.slice A2 n2 c2)) := (chg_put _ _).trans (chg_put _ _)
  exact ⟨a1, a2, a3, a5, (hs.chg hcc (by omega)).base (by omega), a6, a7⟩
theorem rd_amt (ys : List GRd) (k : Nat) (x : GRd) (v : Int) (hx : ys[k]? = some x) : (ys.flatMap GRd.cells).set (k * 2 + 1) (.int .i64 v) = (ys.set k ⟨x.node, v⟩).flatMap GRd.cells := by
  induction ys generalizing k with
  | nil => simp at hx
  | cons y ys ih =>
    cases k with
    | zero =>
      simp at hx
      subst hx
      simp [GRd.cells]
    | succ k =>
      have hx' : ys[k]? = some x := by simpa using hx
      rw [List.set_cons_succ, List.flatMap_cons, List.flatMap_cons, ← ih k hx']
      have e : (k + 1) * 2 + 1 = y.cells.length + (k * 2 + 1) := by rw [GRd.cells_len]; omega
      rw [e, List.set_append_right _ _ (by omega), Nat.add_sub_cancel_left]
theorem rd_node0 (x : GRd) (ys : List GRd) (v : Int) : ((x :: ys).flatMap GRd.cells).set 0 (.int .i64 v) = ((⟨v, x.amount⟩ : GRd) :: ys).flatMap GRd.cells := by simp [GRd.cells]
section
variable {w0 w4 wr : World} {S b u c : Nat}
theorem RowSt.amt (q : RowSt GRd.cells 113 2 w0 w4 wr S (some ⟨b, 0, none⟩) u c) (hS : S < w4.heap.size) (h0 : w0.heap.size ≤ w4.heap.size) {k : Nat} (hk : k < u) (v : Int) : RowSt GRd.cells 113 2 w0 w4 (wr.setCell ⟨b, k * 2 + 1, none⟩ (.int .i64 v)) S (some ⟨b, 0, none⟩) u c := by
  obtain ⟨ls, hl⟩ := q.row
  have hb := own_low hl (k := b) rfl
  have hlen := own_len hl GRd.cells_len (by omega)
  obtain ⟨x, hx⟩ : ∃ x, ls[k]? = some x := ⟨_, List.getElem?_eq_getElem (by omega)⟩
  exact ⟨⟨ls.set k ⟨x.node, v⟩, own_eq' (hl.stored _ _).1 (rd_amt ls k x v hx)⟩, q.dr.set (by omega) (by omega), q.ch.fresh (by omega)⟩
theorem RowSt.node0 (q : RowSt GRd.cells 113 2 w0 w4 wr S (some ⟨b, 0, none⟩) u c) (hS : S < w4.heap.size) (h0 : w0.heap.size ≤ w4.heap.size) (hu : 0 < u) (v : Int) : RowSt GRd.cells 113 2 w0 w4 (wr.setCell ⟨b, 0, none⟩ (.int .i64 v)) S (some ⟨b, 0, none⟩) u c := by
  obtain ⟨ls, hl⟩ := q.row
  have hb := own_low hl (k := b) rfl
  have hlen := own_len hl GRd.cells_len (by omega)
  cases ls with
  | nil => simp at hlen; omega
  | cons x ls => exact ⟨⟨⟨v, x.amount⟩ :: ls, own_eq' (hl.stored _ _).1 (rd_node0 x ls v)⟩, q.dr.set (by omega) (by omega), q.ch.fresh (by omega)⟩
theorem RowSt.over {A : Option Addr} (q : RowSt GRd.cells 113 2 w0 w4 wr S A u c) (hu : u ≤ 1048576) : ∃ ls : List GRd, SlOver wr w4.heap.size 2 A u c (ls.flatMap GRd.cells) := by
  obtain ⟨ls, hl⟩ := q.row
  exact ⟨ls, SlOver.of_own hl hu⟩
end
theorem over_tail {w : World} {base b n c : Nat} {x : GRd} {ls : List GRd} (h : SlOver w base 2 (some ⟨b, 0, none⟩) (n + 1) c ((x :: ls).flatMap GRd.cells)) : SlOver w base 2 (some ⟨b, 2, none⟩) n (c - 1) (ls.flatMap GRd.cells) := by
  have hlen := h.1.sl.len GRd.cells_len (by omega)
  have hl' : ls.length = n := by simpa using hlen
  have hcap := h.1.cap
  have hsm := h.1.small
  refine ⟨⟨⟨?_, fun hn => ?_⟩, by omega, by omega⟩, fun a ha => ?_⟩
  · rw [flat_length GRd.cells 2 GRd.cells_len, hl']
  · obtain ⟨b2, o2, e, hb, hr⟩ := h.1.sl.2 (by omega)
    injection e with e
    injection e with e1 e2
    subst e1
    subst e2
    refine ⟨_, _, rfl, hb, fun j u hu => ?_⟩
    have := hr (j + 2) u (by rw [List.flatMap_cons, List.getElem?_append_right (by rw [GRd.cells_len]; omega), GRd.cells_len]; simpa using hu)
    rw [show 0 + (j + 2) = 2 + j by omega] at this
    exact this
  · have := h.2 _ rfl
    injection ha with ha
    subst ha
    exact this
set_option maxHeartbeats 6400000 in
set_option maxRecDepth 100000 in
theorem l28Draw_any {w0 w : World} {S : Nat} (h : Drw w0 w S) :
    Calls Try.prog 126 #[.pointer (some ⟨S, 0, none⟩)] w fun e w' => ∃ A1 n1 c1 A2 n2 c2 n A3 n3 c3, ∃ os : List GOrd, ∃ A4 n4 c4, ∃ rs : List GRd, e = .returned (.tuple #[.agg #[.slice A1 n1 c1, .slice A2 n2 c2], .slice A3 n3 c3, .slice A4 n4 c4]) ∧ OwnNet w' w.heap.size A1 n1 c1 A2 n2 c2 n ∧ n3 ≤ 50 ∧ w'.ownsRow w.heap.size 65 4 (.slice A3 n3 c3) n3 (os.flatMap GOrd.cells) ∧ SlOver w' w.heap.size 2 A4 n4 c4 (rs.flatMap GRd.cells) ∧ Drw w0 w' S ∧ Chg (fun k => k = S) w w' := by
  obtain ⟨i0, hi0, hz0, hz1, hz2⟩ := info_parts infoReading
  have hlt := h.lt
  have hbw := h.gr.size
  have H := Lib.hid h
  clear h
  go_enter Try.func126, Try.ntmps126
  go_wp2_with fail
  generalize hw1 : World.alloc w _ = w1
  have hR : w1.heap[w.heap.size]? = some (.cells #[.slice none 0 0, .slice none 0 0] 27 (0, 0)) := by rw [← hw1]; exact heap_alloc_new w _
  have hg1 : Gr w w1 := by rw [← hw1]; exact (Gr.refl _).alloc _
  have hs1 : w1.heap.size = w.heap.size + 1 := by rw [← hw1]; simp
  obtain ⟨R, hRe⟩ : ∃ R, R = w.heap.size := ⟨_, rfl⟩
  rw [← hRe] at hR ⊢
  have hSR : S < R := by omega
  have hRw : w.heap.size ≤ R := by omega
  have hR1 : w1.heap.size = R + 1 := by omega
  have hRw0 : w0.heap.size ≤ R := by omega
  have HR := Lib.hid hR
  clear hw1 hRe hR
  refine (l22Draw_any (H.out.grow hg1)).mono ?_
  rintro e w2 ⟨A1, n1, c1, A2, n2, c2, n, A3, n3, c3, tr, rfl, hown, hn3, hl3, hd2, hc2⟩
  have hR2 := rb_chg HR.out hc2 (by omega)
  have hcc2 := (hg1.chg (fun k => k = S)).trans hc2
  have hs2 := rb_lt hR2
  have hM3 : (w2.alloc (.cells #[.slice A1 n1 c1, .slice A2 n2 c2] 27)).heap[w2.heap.size]? = some (.cells #[.slice A1 n1 c1, .slice A2 n2 c2] 27 (0, 0)) := heap_alloc_new w2 _
  obtain ⟨w4, hw4⟩ : ∃ W, W = w2.alloc (.cells #[.slice A1 n1 c1, .slice A2 n2 c2] 27) := ⟨_, rfl⟩
  have hg3 : Gr w2 w4 := by rw [hw4]; exact (Gr.refl _).alloc _
  obtain ⟨M, hM⟩ : ∃ M, M = w2.heap.size := ⟨_, rfl⟩
  rw [← hM, ← hw4] at hM3
  have hMR : R < M := by omega
  have hO3 : OwnNet w4 (R + 1) A1 n1 c1 A2 n2 c2 n := by rw [← hR1]; exact hown.gr hg3
  have hl4 : w4.ownsRow (R + 1) 65 4 (.slice A3 n3 c3) n3 (tr.flatMap GOrd.cells) := by rw [← hR1]; exact own_gr hl3 hg3
  have hN3 : NetM w0 w w4 S R M A1 n1 c1 A2 n2 c2 := ⟨n, hM3, hO3, hd2.grow hg3, hcc2.trans (hg3.chg _), (hg3.below.block R hs2).trans hR2⟩
  have hM4 := rb_lt hM3
  have hS4 : S < w4.heap.size := by omega
  have h04 : w0.heap.size ≤ w4.heap.size := by omega
  have HAt := Lib.hid hO3.at_
  have HLs := Lib.hid (SlAt.of_own hl4 (by omega))
  have Hd4 := Lib.hid (hd2.grow hg3)
  have hMS : M ≠ S := by omega
  have HMb := Lib.hid hM3
  have Hw4 := Lib.hid hw4
  have HMe := Lib.hid hM
  have HN := Lib.hid hN3
  have HL := Lib.hid hl4
  have m0 := rb_cell (j := 0) hM3 rfl
  have m1 := rb_cell (j := 1) hM3 rfl
  clear hw4 hM hM3 HR hc2 hown hd2 hR2 hcc2 hs2 hO3 hN3 hl3 hl4
  go_wp2_with fail
  rw [← Hw4.out, ← HMe.out]
  refine (spReadingsFor_any n tr _ HAt.out HLs.out).mono ?_
  rintro e w5 ⟨B4, m, c4, rfl, hm, ho, hg5⟩
  have hrl := own_len ho GRd.cells_len (by omega)
  have Q5 : Hid (RowSt GRd.cells 113 2 w0 w4 w5 S B4 m c4) := Lib.hid ⟨⟨_, ho⟩, Hd4.out.grow hg5, hg5.chg _⟩
  have hs5 := hg5.size
  have hn1m := HAt.out.m1
  clear ho hg5 m0 m1
  by_cases hc : rfCode n tr = 0
  · have tc : (rfCode n tr != 0) = false := by simp [hc]
    have hm2 : m ≤ 1000 := by
      have := (rdsOk_all (rd_parts (rf_ok hc).1).2).1
      omega
    clear hc hrl
    go_wp2_with fail
    go_loopw [9] (fun i wq => ∃ k : Nat, k ≤ m ∧ i = .int .i64 k ∧ RowSt GRd.cells 113 2 w0 w4 wq S B4 m c4) (fun i _ => m - (intOf i).toNat)
    case atStart => exact ⟨0, Nat.zero_le _, rfl, Q5.out⟩
    case round =>
      obtain ⟨k, hk, rfl, q⟩ := hrel
      have Q := Lib.hid q
      clear q Q5
      by_cases hkm : k < m
      · obtain ⟨ls, hls⟩ := Q.out.row
        obtain ⟨b, rfl, hbb, hbl⟩ := own_form hls (by omega)
        obtain ⟨y, hy⟩ : ∃ y, ls[k]? = some y := ⟨_, List.getElem?_eq_getElem (by have := own_len hls GRd.cells_len (by omega); omega)⟩
        obtain ⟨p0, p1, p2, p3⟩ := own_rd hls hy
        have Qd := Lib.hid (Q.out.next hS4 (Q.out.dr.grow (Gr.refl _).drew) ((Gr.refl _).drew.chg _))
        have Hls := Lib.hid (own_gr hls (Gr.refl wr).drew)
        have Hy := Lib.hid hy
        have hn9 : (9 : Int) ≤ 1000000000 := by decide
        have t1 : (k : Int) < (m : Int) := by omega
        have t0 : (0 : Int) ≤ (k : Int) := by omega
        clear hls hy
        go_wp2_with fail
        go_region_with ((go_at_call 86; with_reducible refine (l01Next_any 9 Qd.out.dr hn9).mono ?_; rintro e w6 ⟨x, rfl, hx, hd6, hc6⟩; have Q6 := Lib.hid (Qd.out.next hS4 hd6 hc6); obtain ⟨q0, q1, q2, q3⟩ := own_rd (own_chg Hls.out hc6 (fun j hj e => by have := own_low Hls.out hj; omega)) Hy.out; obtain ⟨e1, he1⟩ : ∃ e, IntKind.i64.wrap (y.amount + x) = e := ⟨_, rfl⟩; obtain ⟨a, ha⟩ : ∃ e, IntKind.i64.wrap (e1 - 4) = e := ⟨_, rfl⟩; clear hd6 hc6 hx))
        all_goals
          clear he1 ha p0 p1 p2 p3 Qd Hls Q
          have Q7 := Lib.hid (Q6.out.amt hS4 h04 hkm a)
          by_cases d1 : 0 < a
          all_goals
            (first
              | (have g1 : decide (0 < a) = true := decide_eq_true d1
                 have g3 : (a != 0) = true := by simp; omega)
              | (have g1 : decide (0 < a) = false := decide_eq_false d1))
            by_cases d2 : 0 < y.amount
            all_goals
              (first
                | (have g2 : decide (0 < y.amount) = true := decide_eq_true d2)
                | (have g2 : decide (0 < y.amount) = false := decide_eq_false d2))
              by_cases d3 : a = 0
              all_goals
                (first
                  | (exfalso; omega)
                  | ((first
                      | (have g4 : (a != 0) = true := by simp [d3])
                      | (have g4 : (a != 0) = false := by simp [d3]))
                     clear d1 d2 d3
                     go_wp2_with fail
                     go_roundw
                     case rel => first | exact ⟨k + 1, by omega, by go_num, Q6.out⟩ | exact ⟨k + 1, by omega, by go_num, Q7.out⟩
                     case measure => simp [intOf]; omega))
      · obtain rfl : m = k := by omega
        rename World => w6
        have m0 : w6.cell? ⟨M, 0, none⟩ = some (.slice A1 n1 c1) := rb_cell (j := 0) (rb_chg HMb.out Q.out.ch hMS) rfl
        by_cases hm0 : m = 0
        · subst hm0
          by_cases hn0 : n1 = 0
          · have tn : decide ((0 : Int) < (n1 : Int)) = false := by simp; omega
            have tn' : decide (0 < n1) = false := decide_eq_false (by omega)
            clear hn0
            go_upto_region 23 with fail
            clear m0
            obtain ⟨ls, hso⟩ := Q.out.over (by omega)
            obtain ⟨⟨hMz, hRz⟩, h1, ⟨n', h2⟩, h3, h6, h4, h5⟩ := end28 HN.out HL.out Q.out.dr Q.out.ch (hso.base (by omega)) hRw hRw0 hSR hMR
            have m0 := rb_cell (j := 0) hMz rfl
            have m1 := rb_cell (j := 1) hMz rfl
            have r0 := rb_cell (j := 0) hRz rfl
            have r1 := rb_cell (j := 1) hRz rfl
            have f0 := rb_frozen hRz 0
            have f1 := rb_frozen hRz 1
            have H1 := Lib.hid h1
            have H2 := Lib.hid h2
            have H3 := Lib.hid h3
            have H4 := Lib.hid h4
            have H5 := Lib.hid h5
            have H6 := Lib.hid h6
            clear h1 h2 h3 h4 h5 h6 hMz hRz
            go_wp2_with fail
            (try simp only [Exit.inBlock, Exit.then])
            refine bodyPost_ret (results_row_tmp2 Try.results126 _ _ R 27 #[.slice A1 n1 c1, .slice A2 n2 c2] (0, 0) _ ?_ H1.out Try.underlying27 rfl (by kernel_rfl)) ?_ ?_
            · rfl
            · rfl
            first
              | exact ⟨_, _, _, _, _, _, n', _, _, _, tr, _, _, _, ls, rfl, H2.out, by omega, H3.out, H6.out, H4.out, H5.out⟩
              | exact ⟨_, _, _, _, _, _, n', _, _, _, tr, _, _, _, rfl, H2.out, by omega, H3.out, ⟨ls, H6.out⟩, H4.out, H5.out⟩
          · have tn : decide ((0 : Int) < (n1 : Int)) = true := by simp; omega
            go_wp2_with fail
            refine (l01Next_any (n1 : Int) Q.out.dr (by omega)).mono ?_
            rintro e w7 ⟨x, rfl, hx, hd7, hc7⟩
            have Q7 := Lib.hid (Q.out.next hS4 hd7 hc7)
            obtain ⟨ls, hls⟩ := Q7.out.row
            have Hls := Lib.hid hls
            have hws := Q7.out.ch.size
            clear hls hx hd7 hc7 m0
            go_upto_region 23 with (at_builtin; (refine wpList_append_own _ rfl _ _ _ rfl w4.heap.size 113 i0 _ 2 16 Try.underlying60 hi0 hz0 hz1 hz2 rfl (by omega) _ 0 _ rfl (Hls.out.alloc _) ⟨w7.heap.size, 0, none⟩ 1 1 [.int .i64 x, .int .i64 7] rfl rfl (World.news_of_block (cs := #[.int .i64 x, .int .i64 7]) (t := 113) (fr := (0, 0)) (heap_alloc_new w7 _)) (by simp [Value.oneCell']) (by unfold maxLen; omega) (by omega) (by simp; omega) ?_; intro v' w20 hown20 hg20 _; obtain ⟨A', c', rfl⟩ := own_shape hown20; have Q20 := Lib.hid (Q7.out.add hS4 h04 (x := ⟨x, 7⟩) hown20 hg20); clear hown20 hg20))
            obtain ⟨ls, hso⟩ := Q20.out.over (by omega)
            obtain ⟨⟨hMz, hRz⟩, h1, ⟨n', h2⟩, h3, h6, h4, h5⟩ := end28 HN.out HL.out Q20.out.dr Q20.out.ch (hso.base (by omega)) hRw hRw0 hSR hMR
            have m0 := rb_cell (j := 0) hMz rfl
            have m1 := rb_cell (j := 1) hMz rfl
            have r0 := rb_cell (j := 0) hRz rfl
            have r1 := rb_cell (j := 1) hRz rfl
            have f0 := rb_frozen hRz 0
            have f1 := rb_frozen hRz 1
            have H1 := Lib.hid h1
            have H2 := Lib.hid h2
            have H3 := Lib.hid h3
            have H4 := Lib.hid h4
            have H5 := Lib.hid h5
            have H6 := Lib.hid h6
            clear h1 h2 h3 h4 h5 h6 hMz hRz
            go_wp2_with fail
            (try simp only [Exit.inBlock, Exit.then])
            refine bodyPost_ret (results_row_tmp2 Try.results126 _ _ R 27 #[.slice A1 n1 c1, .slice A2 n2 c2] (0, 0) _ ?_ H1.out Try.underlying27 rfl (by kernel_rfl)) ?_ ?_
            · rfl
            · rfl
            first
              | exact ⟨_, _, _, _, _, _, n', _, _, _, tr, _, _, _, ls, rfl, H2.out, by omega, H3.out, H6.out, H4.out, H5.out⟩
              | exact ⟨_, _, _, _, _, _, n', _, _, _, tr, _, _, _, rfl, H2.out, by omega, H3.out, ⟨ls, H6.out⟩, H4.out, H5.out⟩
        · have tm : decide ((0 : Int) < (m : Int)) = true := by simp; omega
          have tm' : (0 : Int) < (m : Int) := by omega
          clear m0
          go_wp2_with fail
          refine (l01Next_any 16 Q.out.dr (by omega)).mono ?_
          rintro e w7 ⟨t, rfl, ht, hd7, hc7⟩
          have Q7 := Lib.hid (Q.out.next hS4 hd7 hc7)
          obtain ⟨ls, hls⟩ := Q7.out.row
          obtain ⟨b, rfl, hbb, hbl⟩ := own_form hls (by omega)
          have hlen := own_len hls GRd.cells_len (by omega)
          obtain ⟨y, hy⟩ : ∃ y, ls[0]? = some y := ⟨_, List.getElem?_eq_getElem (by omega)⟩
          have Hls := Lib.hid hls
          have Hy := Lib.hid hy
          have hS7 : S < w7.heap.size := Q7.out.dr.lt
          have hws := Q7.out.ch.size
          have hb4 := own_low hls (k := b) rfl
          clear ht hd7 hc7 hls hy Q
          by_cases h0 : t = 0
          · subst h0
            have lo := World.ownsRow_lit w7 (e := 2) (size := 1) #[.int .i64 0, .int .i64 30000, .int .i64 30001] 3 (Nat.le_refl _) (by unfold maxLen; omega) rfl
            have Q8 := Lib.hid (Q7.out.next hS4 (Q7.out.dr.grow ((Gr.refl _).alloc (.cells #[.int .i64 0, .int .i64 30000, .int .i64 30001] 2))) (((Gr.refl _).alloc (.cells #[.int .i64 0, .int .i64 30000, .int .i64 30001] 2)).chg _))
            have LO := Lib.hid lo
            clear lo
            go_wp2_with fail
            refine (l01Next_any 3 Q8.out.dr (by omega)).mono ?_
            rintro e w9 ⟨z, rfl, hz, hd9, hc9⟩
            obtain ⟨z0, z1⟩ := hz.lt (by omega)
            have lo2 := own_chg LO.out hc9 (fun j hj e => by have := own_low LO.out hj; omega)
            obtain ⟨v, hv⟩ := own_pick (zs := [0, 30000, 30001]) lo2 z0 z1
            have Q9 := Lib.hid (Q8.out.next hS4 hd9 hc9)
            obtain ⟨p0, p1, p2, p3⟩ := own_rd (own_chg (Hls.out.alloc (.cells #[.int .i64 0, .int .i64 30000, .int .i64 30001] 2)) hc9 (fun j hj e => by have := own_low Hls.out hj; omega)) Hy.out
            clear hz hd9 hc9 lo2 LO Q8
            go_upto_region 23 with fail
            generalize hW : World.setCell w9 _ _ = wf
            have Q20 : Hid (RowSt GRd.cells 113 2 w0 w4 wf S (some ⟨b, 0, none⟩) m c4) := Lib.hid (by rw [← hW]; exact Q9.out.amt hS4 h04 (k := 0) (by omega) v)
            clear hW p0 p1 p2 p3 hv
            obtain ⟨ls2, hso⟩ := Q20.out.over (by omega)
            obtain ⟨⟨hMz, hRz⟩, h1, ⟨n', h2⟩, h3, h6, h4, h5⟩ := end28 HN.out HL.out Q20.out.dr Q20.out.ch (hso.base (by omega)) hRw hRw0 hSR hMR
            have m0 := rb_cell (j := 0) hMz rfl
            have m1 := rb_cell (j := 1) hMz rfl
            have r0 := rb_cell (j := 0) hRz rfl
            have r1 := rb_cell (j := 1) hRz rfl
            have f0 := rb_frozen hRz 0
            have f1 := rb_frozen hRz 1
            have H1 := Lib.hid h1
            have H2 := Lib.hid h2
            have H3 := Lib.hid h3
            have H4 := Lib.hid h4
            have H5 := Lib.hid h5
            have H6 := Lib.hid h6
            clear h1 h2 h3 h4 h5 h6 hMz hRz
            go_wp2_with fail
            (try simp only [Exit.inBlock, Exit.then])
            refine bodyPost_ret (results_row_tmp2 Try.results126 _ _ R 27 #[.slice A1 n1 c1, .slice A2 n2 c2] (0, 0) _ ?_ H1.out Try.underlying27 rfl (by kernel_rfl)) ?_ ?_
            · rfl
            · rfl
            first
              | exact ⟨_, _, _, _, _, _, n', _, _, _, tr, _, _, _, ls2, rfl, H2.out, by omega, H3.out, H6.out, H4.out, H5.out⟩
              | exact ⟨_, _, _, _, _, _, n', _, _, _, tr, _, _, _, rfl, H2.out, by omega, H3.out, ⟨ls2, H6.out⟩, H4.out, H5.out⟩
          by_cases h1 : t = 1
          · subst h1
            obtain ⟨p0, p1, p2, p3⟩ := own_rd Hls.out Hy.out
            clear h0
            go_upto_region 23 with (at_builtin; (refine wpList_append_own _ rfl _ _ _ rfl w4.heap.size 113 i0 _ 2 16 Try.underlying60 hi0 hz0 hz1 hz2 rfl (by omega) _ m _ rfl (Hls.out.alloc _) ⟨w7.heap.size, 0, none⟩ 1 1 [.int .i64 y.node, .int .i64 y.amount] rfl rfl (World.news_of_block (cs := #[.int .i64 y.node, .int .i64 y.amount]) (t := 113) (fr := (0, 0)) (heap_alloc_new w7 _)) (by simp [Value.oneCell']) (by unfold maxLen; omega) (by omega) (by simp; omega) ?_; intro v' w20 hown20 hg20 _; obtain ⟨A', c', rfl⟩ := own_shape hown20; have Q20 := Lib.hid (Q7.out.add hS4 h04 (x := y) hown20 hg20); clear hown20 hg20))
            obtain ⟨ls2, hso⟩ := Q20.out.over (by omega)
            obtain ⟨⟨hMz, hRz⟩, h1, ⟨n', h2⟩, h3, h6, h4, h5⟩ := end28 HN.out HL.out Q20.out.dr Q20.out.ch (hso.base (by omega)) hRw hRw0 hSR hMR
            have m0 := rb_cell (j := 0) hMz rfl
            have m1 := rb_cell (j := 1) hMz rfl
            have r0 := rb_cell (j := 0) hRz rfl
            have r1 := rb_cell (j := 1) hRz rfl
            have f0 := rb_frozen hRz 0
            have f1 := rb_frozen hRz 1
            have H1 := Lib.hid h1
            have H2 := Lib.hid h2
            have H3 := Lib.hid h3
            have H4 := Lib.hid h4
            have H5 := Lib.hid h5
            have H6 := Lib.hid h6
            clear h1 h2 h3 h4 h5 h6 hMz hRz
            go_wp2_with fail
            (try simp only [Exit.inBlock, Exit.then])
            refine bodyPost_ret (results_row_tmp2 Try.results126 _ _ R 27 #[.slice A1 n1 c1, .slice A2 n2 c2] (0, 0) _ ?_ H1.out Try.underlying27 rfl (by kernel_rfl)) ?_ ?_
            · rfl
            · rfl
            first
              | exact ⟨_, _, _, _, _, _, n', _, _, _, tr, _, _, _, ls2, rfl, H2.out, by omega, H3.out, H6.out, H4.out, H5.out⟩
              | exact ⟨_, _, _, _, _, _, n', _, _, _, tr, _, _, _, rfl, H2.out, by omega, H3.out, ⟨ls2, H6.out⟩, H4.out, H5.out⟩
          by_cases h2 : t = 2
          · subst h2
            clear h0 h1
            obtain ⟨m', rfl⟩ : ∃ m', m = m' + 1 := ⟨m - 1, by omega⟩
            obtain ⟨ls2, hso2⟩ := Q7.out.over (by omega)
            have hl2 := hso2.1.sl.len GRd.cells_len (by omega)
            cases ls2 with
            | nil => simp at hl2
            | cons x ls3 =>
              have hso := over_tail hso2
              have hcap := hso2.1.cap
              by_cases hc1 : c4 = 1
              · subst hc1
                obtain rfl : m' = 0 := by omega
                have hsz : SlOver w7 w4.heap.size 2 (some ⟨b, 0, none⟩) 0 0 (([] : List GRd).flatMap GRd.cells) := ⟨⟨Sl.zero _, by omega, by omega⟩, fun a ha => by injection ha with ha; subst ha; exact hb4⟩
                clear hso hso2 hcap
                go_upto_region 23 with fail
                obtain ⟨⟨hMz, hRz⟩, h1, ⟨n', h2⟩, h3, h6, h4, h5⟩ := end28 HN.out HL.out Q7.out.dr Q7.out.ch (hsz.base (by omega)) hRw hRw0 hSR hMR
                have m0 := rb_cell (j := 0) hMz rfl
                have m1 := rb_cell (j := 1) hMz rfl
                have r0 := rb_cell (j := 0) hRz rfl
                have r1 := rb_cell (j := 1) hRz rfl
                have f0 := rb_frozen hRz 0
                have f1 := rb_frozen hRz 1
                have H1 := Lib.hid h1
                have H2 := Lib.hid h2
                have H3 := Lib.hid h3
                have H4 := Lib.hid h4
                have H5 := Lib.hid h5
                have H6 := Lib.hid h6
                clear h1 h2 h3 h4 h5 h6 hMz hRz
                go_wp2_with fail
                (try simp only [Exit.inBlock, Exit.then])
                refine bodyPost_ret (results_row_tmp2 Try.results126 _ _ R 27 #[.slice A1 n1 c1, .slice A2 n2 c2] (0, 0) _ ?_ H1.out Try.underlying27 rfl (by kernel_rfl)) ?_ ?_
                · rfl
                · rfl
                first
                  | exact ⟨_, _, _, _, _, _, n', _, _, _, tr, _, _, _, [], rfl, H2.out, by omega, H3.out, H6.out, H4.out, H5.out⟩
                  | exact ⟨_, _, _, _, _, _, n', _, _, _, tr, _, _, _, rfl, H2.out, by omega, H3.out, ⟨[], H6.out⟩, H4.out, H5.out⟩
              · have Hc1 := Lib.hid hc1
                clear hso2 hcap
                go_upto_region 23 with fail
                obtain ⟨⟨hMz, hRz⟩, h1, ⟨n', h2⟩, h3, h6, h4, h5⟩ := end28 HN.out HL.out Q7.out.dr Q7.out.ch (hso.base (by omega)) hRw hRw0 hSR hMR
                have m0 := rb_cell (j := 0) hMz rfl
                have m1 := rb_cell (j := 1) hMz rfl
                have r0 := rb_cell (j := 0) hRz rfl
                have r1 := rb_cell (j := 1) hRz rfl
                have f0 := rb_frozen hRz 0
                have f1 := rb_frozen hRz 1
                have H1 := Lib.hid h1
                have H2 := Lib.hid h2
                have H3 := Lib.hid h3
                have H4 := Lib.hid h4
                have H5 := Lib.hid h5
                have H6 := Lib.hid h6
                clear h1 h2 h3 h4 h5 h6 hMz hRz
                go_wp2_with fail
                (try simp only [Exit.inBlock, Exit.then])
                refine bodyPost_ret (results_row_tmp2 Try.results126 _ _ R 27 #[.slice A1 n1 c1, .slice A2 n2 c2] (0, 0) _ ?_ H1.out Try.underlying27 rfl (by kernel_rfl)) ?_ ?_
                · rfl
                · rfl
                first
                  | exact ⟨_, _, _, _, _, _, n', _, _, _, tr, _, _, _, ls3, rfl, H2.out, by omega, H3.out, H6.out, H4.out, H5.out⟩
                  | exact ⟨_, _, _, _, _, _, n', _, _, _, tr, _, _, _, rfl, H2.out, by omega, H3.out, ⟨ls3, H6.out⟩, H4.out, H5.out⟩
          by_cases h3 : t = 3
          · subst h3
            clear h0 h1 h2
            have lit : ∀ x : Int, 0 ≤ x → x < 2 → ∃ v : Int, (#[.int .i64 (-1), .int .i64 (n1 : Int)] : Array Value)[x.toNat]? = some (.int .i64 v) := by
              intro x h0 h1
              have : x = 0 ∨ x = 1 := by omega
              rcases this with rfl | rfl <;> exact ⟨_, rfl⟩
            have Lit := Lib.hid lit
            have m0 : w7.cell? ⟨M, 0, none⟩ = some (.slice A1 n1 c1) := rb_cell (j := 0) (rb_chg HMb.out Q7.out.ch hMS) rfl
            have hm : ∀ W : World, Chg (fun j => j = S) w7 W → W.cell? ⟨M, 0, none⟩ = some (.slice A1 n1 c1) := fun W hc => chg_cell' hc m0 hMS
            have hp : ∀ W : World, Chg (fun j => j = S) w7 W → W.cell? ⟨b, 0, none⟩ = some (.int .i64 y.node) ∧ W.frozen? ⟨b, 0, none⟩ = false := fun W hc => by
              obtain ⟨p0, _, p2, _⟩ := own_rd (own_chg Hls.out hc (fun j hj e => by have := own_low Hls.out hj; omega)) Hy.out
              exact ⟨p0, p2⟩
            have Hm := Lib.hid hm
            have Hp := Lib.hid hp
            have qa := Q7.out.next hS4 (Q7.out.dr.grow ((Gr.refl w7).alloc (.cells #[.int .i64 (-1), .int .i64 (n1 : Int)] 2)).drew) (((Gr.refl w7).alloc (.cells #[.int .i64 (-1), .int .i64 (n1 : Int)] 2)).drew.chg _)
            have qb := Q7.out.next hS4 (Q7.out.dr.grow (Gr.refl w7).drew) ((Gr.refl w7).drew.chg _)
            have la : ∀ (x v : Int) (W : World), (#[.int .i64 (-1), .int .i64 (n1 : Int)] : Array Value)[x.toNat]? = some (.int .i64 v) → Chg (fun j => j = S) (w7.alloc (.cells #[.int .i64 (-1), .int .i64 (n1 : Int)] 2)).drew W → W.cell? ⟨w7.heap.size, x.toNat, none⟩ = some (.int .i64 v) := fun x v W hv hc => by
              refine chg_cell' hc ?_ (by simp only; omega)
              exact ((Gr.refl _).drew).has (rb_cell (heap_alloc_new w7 _) hv)
            have lb : ∀ (x v : Int) (W : World), (#[.int .i64 (-1), .int .i64 (n1 : Int)] : Array Value)[x.toNat]? = some (.int .i64 v) → (W.alloc (.cells #[.int .i64 (-1), .int .i64 (n1 : Int)] 2)).cell? ⟨W.heap.size, x.toNat, none⟩ = some (.int .i64 v) := fun x v W hv => rb_cell (heap_alloc_new W _) hv
            have Qa := Lib.hid qa
            have Qb := Lib.hid qb
            have La := Lib.hid la
            have Lb := Lib.hid lb
            have hn2 : (2 : Int) ≤ 1000000000 := by decide
            clear lit hm hp qa qb la lb
            go_wp2_with fail
            go_region_with (first
              | (go_at_call 86; with_reducible refine (l01Next_any 2 Qa.out.dr hn2).mono ?_; rintro e w8 ⟨x, rfl, hx, hd8, hc8⟩; obtain ⟨xa, xb⟩ := hx.lt (by decide); obtain ⟨v, hv⟩ := Lit.out x xa xb; have Q8 := Lib.hid (Qa.out.next hS4 hd8 hc8); have hcc := (((Gr.refl w7).alloc (.cells #[.int .i64 (-1), .int .i64 (n1 : Int)] 2)).drew.chg (fun j => j = S)).trans hc8; have q1 := Hm.out w8 hcc; have q2 := La.out x v w8 hv hc8; obtain ⟨q4, q5⟩ := Hp.out w8 hcc; clear hv)
              | (go_at_call 86; with_reducible refine (l01Next_any 2 Qb.out.dr hn2).mono ?_; rintro e w8 ⟨x, rfl, hx, hd8, hc8⟩; obtain ⟨xa, xb⟩ := hx.lt (by decide); obtain ⟨v, hv⟩ := Lit.out x xa xb; have Q8 := Lib.hid (Qb.out.next hS4 hd8 hc8); have hcc := ((Gr.refl w7).drew.chg (fun j => j = S)).trans hc8; have q1 := Hm.out w8 hcc; have q2 := Lb.out x v w8 hv; obtain ⟨q4, q5⟩ := Hp.out w8 hcc; obtain ⟨q6, q7⟩ := Hp.out _ (hcc.trans (((Gr.refl w8).alloc (.cells #[.int .i64 (-1), .int .i64 (n1 : Int)] 2)).chg _)); clear hv))
            all_goals
              generalize hW : World.setCell _ _ _ = wf
              have Q20 : Hid (RowSt GRd.cells 113 2 w0 w4 wf S (some ⟨b, 0, none⟩) m c4) := Lib.hid (by
                rw [← hW]
                first
                  | exact Q8.out.node0 hS4 h04 (by omega) v
                  | exact (Q8.out.next hS4 (Q8.out.dr.grow ((Gr.refl w8).alloc (.cells #[.int .i64 (-1), .int .i64 (n1 : Int)] 2))) (((Gr.refl w8).alloc (.cells #[.int .i64 (-1), .int .i64 (n1 : Int)] 2)).chg _)).node0 hS4 h04 (by omega) v)
              clear q1 q2 q4 q5 m0 hW
              (try clear q6 q7)
              go_upto_region 23 with fail
              obtain ⟨ls2, hso⟩ := Q20.out.over (by omega)
              obtain ⟨⟨hMz, hRz⟩, h1, ⟨n', h2⟩, h3, h6, h4, h5⟩ := end28 HN.out HL.out Q20.out.dr Q20.out.ch (hso.base (by omega)) hRw hRw0 hSR hMR
              have m0 := rb_cell (j := 0) hMz rfl
              have m1 := rb_cell (j := 1) hMz rfl
              have r0 := rb_cell (j := 0) hRz rfl
              have r1 := rb_cell (j := 1) hRz rfl
              have f0 := rb_frozen hRz 0
              have f1 := rb_frozen hRz 1
              have H1 := Lib.hid h1
              have H2 := Lib.hid h2
              have H3 := Lib.hid h3
              have H4 := Lib.hid h4
              have H5 := Lib.hid h5
              have H6 := Lib.hid h6
              clear h1 h2 h3 h4 h5 h6 hMz hRz
              go_wp2_with fail
              (try simp only [Exit.inBlock, Exit.then])
              refine bodyPost_ret (results_row_tmp2 Try.results126 _ _ R 27 #[.slice A1 n1 c1, .slice A2 n2 c2] (0, 0) _ ?_ H1.out Try.underlying27 rfl (by kernel_rfl)) ?_ ?_
              · rfl
              · rfl
              first
                | exact ⟨_, _, _, _, _, _, n', _, _, _, tr, _, _, _, ls2, rfl, H2.out, by omega, H3.out, H6.out, H4.out, H5.out⟩
                | exact ⟨_, _, _, _, _, _, n', _, _, _, tr, _, _, _, rfl, H2.out, by omega, H3.out, ⟨ls2, H6.out⟩, H4.out, H5.out⟩
          have tt0 : (t == 0) = false := by simp [h0]
          have tt1 : (t == 1) = false := by simp [h1]
          have tt2 : (t == 2) = false := by simp [h2]
          have tt3 : (t == 3) = false := by simp [h3]
          clear h0 h1 h2 h3
          go_upto_region 23 with fail
          obtain ⟨ls2, hso⟩ := Q7.out.over (by omega)
          obtain ⟨⟨hMz, hRz⟩, h1, ⟨n', h2⟩, h3, h6, h4, h5⟩ := end28 HN.out HL.out Q7.out.dr Q7.out.ch (hso.base (by omega)) hRw hRw0 hSR hMR
          have m0 := rb_cell (j := 0) hMz rfl
          have m1 := rb_cell (j := 1) hMz rfl
          have r0 := rb_cell (j := 0) hRz rfl
          have r1 := rb_cell (j := 1) hRz rfl
          have f0 := rb_frozen hRz 0
          have f1 := rb_frozen hRz 1
          have H1 := Lib.hid h1
          have H2 := Lib.hid h2
          have H3 := Lib.hid h3
          have H4 := Lib.hid h4
          have H5 := Lib.hid h5
          have H6 := Lib.hid h6
          clear h1 h2 h3 h4 h5 h6 hMz hRz
          go_wp2_with fail
          (try simp only [Exit.inBlock, Exit.then])
          refine bodyPost_ret (results_row_tmp2 Try.results126 _ _ R 27 #[.slice A1 n1 c1, .slice A2 n2 c2] (0, 0) _ ?_ H1.out Try.underlying27 rfl (by kernel_rfl)) ?_ ?_
          · rfl
          · rfl
          first
            | exact ⟨_, _, _, _, _, _, n', _, _, _, tr, _, _, _, ls2, rfl, H2.out, by omega, H3.out, H6.out, H4.out, H5.out⟩
            | exact ⟨_, _, _, _, _, _, n', _, _, _, tr, _, _, _, rfl, H2.out, by omega, H3.out, ⟨ls2, H6.out⟩, H4.out, H5.out⟩
  · have tc : (rfCode n tr != 0) = true := by simp [hc]
    clear hc
    have hlit := World.ownsRow_lit w5 (e := 113) (size := 2) #[.int .i64 0, .int .i64 5] 1 (Nat.le_refl _) (by unfold maxLen; omega) rfl
    have hso := SlOver.of_own (xs := ([⟨0, 5⟩] : List GRd).flatMap GRd.cells) hlit (by omega)
    have hgl : Gr w5 (w5.alloc (.cells #[.int .i64 0, .int .i64 5] 113)) := (Gr.refl _).alloc _
    obtain ⟨⟨hMz, hRz⟩, h1, ⟨n', h2⟩, h3, h6, h4, h5⟩ := end28 HN.out HL.out (Q5.out.dr.grow hgl) (Q5.out.ch.trans (hgl.chg _)) (hso.base (by omega)) hRw hRw0 hSR hMR
    have m0 := rb_cell (j := 0) hMz rfl
    have m1 := rb_cell (j := 1) hMz rfl
    have r0 := rb_cell (j := 0) hRz rfl
    have r1 := rb_cell (j := 1) hRz rfl
    have f0 := rb_frozen hRz 0
    have f1 := rb_frozen hRz 1
    have H1 := Lib.hid h1
    have H2 := Lib.hid h2
    have H3 := Lib.hid h3
    have H4 := Lib.hid h4
    have H5 := Lib.hid h5
    have H6 := Lib.hid h6
    clear h1 h2 h3 h4 h5 h6 hMz hRz
    have hM5 := rb_chg HMb.out Q5.out.ch hMS
    have u0 := rb_cell (j := 0) hM5 rfl
    have u1 := rb_cell (j := 1) hM5 rfl
    clear hM5 hlit hso hgl
    go_wp2_with fail
    (try simp only [Exit.inBlock, Exit.then])
    refine bodyPost_ret (results_row_tmp2 Try.results126 _ _ R 27 #[.slice A1 n1 c1, .slice A2 n2 c2] (0, 0) _ ?_ H1.out Try.underlying27 rfl (by kernel_rfl)) ?_ ?_
    · rfl
    · rfl
    first
      | exact ⟨_, _, _, _, _, _, n', _, _, _, tr, _, _, _, [⟨0, 5⟩], rfl, H2.out, by omega, H3.out, H6.out, H4.out, H5.out⟩
      | exact ⟨_, _, _, _, _, _, n', _, _, _, tr, _, _, _, rfl, H2.out, by omega, H3.out, ⟨[⟨0, 5⟩], H6.out⟩, H4.out, H5.out⟩
theorem law_end3 {α : Type} {f : α → List Value} {e : TypeId} {sz : Nat} {w w1 w2 w3 : World} {S R n1 c1 n2 c2 n3 c3 n4 c4 : Nat} {A1 A2 A3 A4 : Option Addr} {n : GNet} {ls : List α} {xs : List Value} (hg1 : Gr w w1) (hR1 : w1.heap.size = R + 1) (hRw : w.heap.size ≤ R) (hR : w1.heap[R]? = some (.cells #[.slice none 0 0, .slice none 0 0] 27 (0, 0)))
    (hd2 : Gr w1 w2) (hd3 : Drw w1 w3 S) (hO : OwnNet w3 w2.heap.size A1 n1 c1 A2 n2 c2 n) (hl : w3.ownsRow w2.heap.size e sz (.slice A3 n3 c3) n3 (ls.flatMap f)) (h3 : n3 ≤ 1048576) (hl4 : SlOver w3 w2.heap.size 2 A4 n4 c4 xs) :
    w3.heap[R]? = some (.cells #[.slice none 0 0, .slice none 0 0] 27 (0, 0)) ∧
    ((w3.setCell ⟨R, 0, none⟩ (.slice A1 n1 c1)).setCell ⟨R, 1, none⟩ (.slice A2 n2 c2)).heap[R]? = some (.cells #[.slice A1 n1 c1, .slice A2 n2 c2] 27 (0, 0)) ∧
    NetAt ((w3.setCell ⟨R, 0, none⟩ (.slice A1 n1 c1)).setCell ⟨R, 1, none⟩ (.slice A2 n2 c2)) A1 n1 c1 A2 n2 c2 n ∧
    SlAt ((w3.setCell ⟨R, 0, none⟩ (.slice A1 n1 c1)).setCell ⟨R, 1, none⟩ (.slice A2 n2 c2)) sz A3 n3 c3 (ls.flatMap f) ∧
    SlAt ((w3.setCell ⟨R, 0, none⟩ (.slice A1 n1 c1)).setCell ⟨R, 1, none⟩ (.slice A2 n2 c2)) 2 A4 n4 c4 xs ∧
    Gr w ((w3.setCell ⟨R, 0, none⟩ (.slice A1 n1 c1)).setCell ⟨R, 1, none⟩ (.slice A2 n2 c2)) := by
  obtain ⟨a1, a2, a3, a4, a5⟩ := law_end hg1 hR1 hRw hR hd2 hd3 hO hl h3
  have hs2 := hd2.size
  have hcc : Chg (fun j => j = R) w3 ((w3.setCell ⟨R, 0, none⟩ (.slice A1 n1 c1)).setCell ⟨R, 1, none⟩ (.slice A2 n2 c2)) := (chg_put _ _).trans (chg_put _ _)
  exact ⟨a1, a2, a3, a4, (hl4.chg hcc (by omega)).1, a5⟩
set_option maxHeartbeats 1600000 in
theorem DrawDeviationsOf_any {A : Option Addr} {m c : Nat} (bs : List UInt8) (w : World) (hC : SlAt w 1 A m c (byts bs)) :
    Calls Try.prog 68 #[.slice A m c] w fun e w' => ∃ A1 n1 c1 A2 n2 c2 n A3 n3 c3, ∃ ls : List GOrd, ∃ A4 n4 c4, ∃ zs : List GRd, e = .returned (.tuple #[.agg #[.slice A1 n1 c1, .slice A2 n2 c2], .slice A3 n3 c3, .slice A4 n4 c4]) ∧ NetAt w' A1 n1 c1 A2 n2 c2 n ∧ SlAt w' 4 A3 n3 c3 (ls.flatMap GOrd.cells) ∧ SlAt w' 2 A4 n4 c4 (zs.flatMap GRd.cells) ∧ Gr w w' := by
  have HC := Lib.hid hC
  clear hC
  go_enter Try.func68, Try.ntmps68
  go_wp2_with fail
  obtain ⟨w1, hw1⟩ : ∃ W, W = w.alloc (.cells #[.slice none 0 0, .slice none 0 0] 27) := ⟨_, rfl⟩
  have hR : w1.heap[w.heap.size]? = some (.cells #[.slice none 0 0, .slice none 0 0] 27 (0, 0)) := by rw [hw1]; exact heap_alloc_new w _
  have hg1 : Gr w w1 := by rw [hw1]; exact (Gr.refl _).alloc _
  have hs1 : w1.heap.size = w.heap.size + 1 := by rw [hw1]; simp
  obtain ⟨R, hRe⟩ : ∃ R, R = w.heap.size := ⟨_, rfl⟩
  rw [← hw1, ← hRe]
  rw [← hRe] at hR hs1
  have hRw : w.heap.size ≤ R := by omega
  have HR := Lib.hid hR
  have Hs1 := Lib.hid hs1
  clear hw1 hRe hR hs1
  refine (l01From_any bs _ (HC.out.gr hg1)).mono ?_
  rintro e w2 ⟨S, rfl, hS, hd2⟩
  have HD2 := Lib.hid hd2
  clear hd2
  go_wp2_with fail
  refine (l28Draw_any HD2.out).mono ?_
  rintro e w3 ⟨A1, n1, c1, A2, n2, c2, n, A3, n3, c3, ls, A4, n4, c4, zs, rfl, hO, h3, hl, hl4, hd3, _⟩
  obtain ⟨hR3, h1, h2, h5, h6, h7⟩ := law_end3 hg1 Hs1.out hRw HR.out HD2.out.gr hd3 hO hl (by omega) hl4
  have m0 := rb_cell (j := 0) hR3 rfl
  have m1 := rb_cell (j := 1) hR3 rfl
  have f0 := rb_frozen hR3 0
  have f1 := rb_frozen hR3 1
  have H1 := Lib.hid h1
  have H2 := Lib.hid h2
  have H5 := Lib.hid h5
  have H6 := Lib.hid h6
  have H7 := Lib.hid h7
  clear hO hl hl4 hd3 hR3 h1 h2 h5 h6 h7
  go_wp2_with fail
  (try simp only [Exit.inBlock, Exit.then])
  refine bodyPost_ret (results_row_tmp2 Try.results68 _ _ R 27 #[.slice A1 n1 c1, .slice A2 n2 c2] (0, 0) _ ?_ H1.out Try.underlying27 rfl (by kernel_rfl)) ?_ ?_
  · rfl
  · rfl
  exact ⟨_, _, _, _, _, _, n, _, _, _, ls, _, _, _, zs, rfl, H2.out, H5.out, H6.out, H7.out⟩
end Go.Proofs.Ytejfpajbkgfiaaa
