/-
  Draws: nodes and pipes.
-/
import Derived.Test.YtbbecboihmmllaaDraw1
namespace Go.Proofs.Ytbbecboihmmllaa
open Go.ChangeShapes Go.WideShapes Go.ChangeAt Go.RowKit

theorem rb_cell {w : World} {b j : Nat} {cs : Array Value} {t : TypeId} {v : Value} (h : w.heap[b]? = some (.cells cs t (0, 0))) (hj : cs[j]? = some v) : w.cell? ⟨b, j, none⟩ = some v := by
  rw [cell_of_row w b j cs t _ h, hj]
theorem rb_frozen {w : World} {b : Nat} {cs : Array Value} {t : TypeId} (h : w.heap[b]? = some (.cells cs t (0, 0))) (j : Nat) : w.frozen? ⟨b, j, none⟩ = false := by
  simp [World.frozen?, h]
theorem rb_lt {w : World} {b : Nat} {ob : Obj} (h : w.heap[b]? = some ob) : b < w.heap.size := (Array.getElem?_eq_some_iff.1 h).1
theorem rb_chg {w w' : World} {P : Nat → Prop} {b : Nat} {ob : Obj} (h : w.heap[b]? = some ob) (hc : Chg P w w') (hn : ¬ P b) : w'.heap[b]? = some ob := (hc.block b (rb_lt h) hn).trans h
theorem Drw.set {w0 w : World} {S R j : Nat} {v : Value} (h : Drw w0 w S) (hR : w0.heap.size ≤ R) (hne : R ≠ S) : Drw w0 (w.setCell ⟨R, j, none⟩ v) S := by
  obtain ⟨A, m, c, bs, a, d, h1, h2, h3, h4⟩ := h.blk
  refine ⟨h.gr.setCell hR _, h.base, A, m, c, bs, a, d, h1, ?_, h3, h4⟩
  exact rb_chg (P := fun k => k = R) h2 (chg_put _ _) (fun e => hne e.symm)
theorem Chg.fresh {P : Nat → Prop} {w w1 : World} {R j : Nat} {v : Value} (h : Chg P w w1) (hR : w.heap.size ≤ R) : Chg P w (w1.setCell ⟨R, j, none⟩ v) :=
  ⟨h.os, h.tape, h.output, by simp; exact h.size, fun k hk hn => by
    have : ¬ R = k := by omega
    have e : (w1.setCell ⟨R, j, none⟩ v).heap[k]? = w1.heap[k]? := by simp [World.setCell, Array.getElem?_modify, this]
    exact e.trans (h.block k hk hn)⟩
theorem Upto.lt {n x : Int} (h : Upto n x) (hn : 1 < n) : 0 ≤ x ∧ x < n := ⟨h.1, h.2.1 hn⟩
theorem l02DrawIndex_any {w0 w : World} {S : Nat} (n : Int) (h : Drw w0 w S) (hn : 0 ≤ n ∧ n ≤ 1000000) :
    Calls Try.prog 58 #[.pointer (some ⟨S, 0, none⟩), .int .i64 n] w fun e w' => ∃ x : Int, e = .returned (.int .i64 x) ∧ (-1 ≤ x ∧ x ≤ 2 * n) ∧ Drw w0 w' S ∧ Chg (fun k => k = S) w w' := by
  have H := Lib.hid h
  clear h
  go_enter Try.func58, Try.ntmps58
  go_wp2_with fail
  refine (l01Next_any n H.out (by omega)).mono ?_
  rintro e w1 ⟨x, rfl, hx, hd1, hc1⟩
  have hx0 := hx.1
  have hx1 : x ≤ n := by
    rcases Int.lt_or_le 1 n with h | h
    · have := hx.2.1 h; omega
    · have := hx.2.2 h; omega
  have Hd1 := Lib.hid hd1
  clear hx hd1
  go_wp2_with fail
  refine (l01Next_any 16 Hd1.out (by omega)).mono ?_
  rintro e w2 ⟨y, rfl, hy, hd2, hc2⟩
  obtain ⟨y0, y1⟩ := hy.lt (by omega)
  have Hd2 := Lib.hid hd2
  obtain ⟨p, hp⟩ : ∃ p, p = y.tdiv 15 := ⟨_, rfl⟩
  have hpb : p = 0 ∨ p = 1 := by rw [hp, Int.tdiv_eq_ediv_of_nonneg y0]; omega
  have hp' := hp.symm
  obtain ⟨q, hq⟩ : ∃ q, q = p * n := ⟨_, rfl⟩
  have hqb : 0 ≤ q ∧ q ≤ n := by rw [hq]; rcases hpb with rfl | rfl <;> omega
  have hq' : p * n = q := hq.symm
  have hw1 : IntKind.i64.wrap q = q := IntWalk.i64_in _ (by omega)
  clear hy hd2 hp hq
  go_wp2_with fail
  refine (l01Next_any 24 Hd2.out (by omega)).mono ?_
  rintro e w3 ⟨z, rfl, hz, hd3, hc3⟩
  obtain ⟨z0, z1⟩ := hz.lt (by omega)
  obtain ⟨r, hr⟩ : ∃ r, r = z.tdiv 23 := ⟨_, rfl⟩
  have hrb : 0 ≤ r ∧ r ≤ 1 := by rw [hr, Int.tdiv_eq_ediv_of_nonneg z0]; omega
  have hr' := hr.symm
  clear hz hr
  go_wp2_with fail
  go_ret
  exact ⟨_, rfl, by omega, hd3, (hc1.trans hc2).trans hc3⟩
set_option maxHeartbeats 1600000 in
theorem l02DrawPipe_any {w0 w : World} {S : Nat} (a b : Int) (h : Drw w0 w S) :
    Calls Try.prog 66 #[.pointer (some ⟨S, 0, none⟩), .int .i64 a, .int .i64 b] w fun e w' => ∃ p : GPipe, e = .returned (.agg #[.int .i64 p.src, .int .i64 p.dst, .int .i64 p.k, .int .i64 p.vol, .int .i64 p.lim]) ∧ Drw w0 w' S ∧ Chg (fun k => k = S) w w' := by
  have hlt := h.lt
  have hbw := h.gr.size
  have H := Lib.hid h
  clear h
  go_enter Try.func66, Try.ntmps66
  go_wp2_with fail
  generalize hw1 : World.alloc w _ = w1
  have hR : w1.heap[w.heap.size]? = some (.cells #[.int .i64 0, .int .i64 0, .int .i64 0, .int .i64 0, .int .i64 0] 59 (0, 0)) := by rw [← hw1]; exact heap_alloc_new w _
  have hg1 : Gr w w1 := by rw [← hw1]; exact (Gr.refl _).alloc _
  obtain ⟨R, hRe⟩ : ∃ R, R = w.heap.size := ⟨_, rfl⟩
  rw [← hRe] at hR ⊢
  have hRS : R ≠ S := by omega
  have hRw : w.heap.size ≤ R := by omega
  have hRw0 : w0.heap.size ≤ R := by omega
  have HR := Lib.hid hR
  clear hw1 hRe hR
  refine (l01Next_any 2 (H.out.grow hg1) (by omega)).mono ?_
  rintro e w2 ⟨x, rfl, hx, hd2, hc2⟩
  obtain ⟨x0, x1⟩ := hx.lt (by omega)
  have Hd2 := Lib.hid hd2
  have HR2 := Lib.hid (rb_chg HR.out hc2 hRS)
  have hcc2 := (hg1.chg (fun k => k = S)).trans hc2
  clear hx hd2 HR hc2
  by_cases hx2 : x = 0
  all_goals
    (first | (have hxb : (x == 0) = true := by simp [hx2]) | (have hxb : (x == 0) = false := by simp [hx2]))
    go_wp2_with fail
    refine (l01Next_any 9 Hd2.out (by omega)).mono ?_
    rintro e w3 ⟨y, rfl, hy, hd3, hc3⟩
    obtain ⟨y0, y1⟩ := hy.lt (by omega)
    have Hd3 := Lib.hid hd3
    have HR3 := Lib.hid (rb_chg HR2.out hc3 hRS)
    clear hy hd3
    go_wp2_with fail
    refine (l01Next_any 100 Hd3.out (by omega)).mono ?_
    rintro e w4 ⟨z, rfl, hz, hd4, hc4⟩
    obtain ⟨z0, z1⟩ := hz.lt (by omega)
    have Hd4 := Lib.hid hd4
    have HR4 := Lib.hid (rb_chg HR3.out hc4 hRS)
    clear hz hd4
    go_wp2_with fail
    refine (l01Next_any 200 Hd4.out (by omega)).mono ?_
    rintro e w5 ⟨u, rfl, hu, hd5, hc5⟩
    obtain ⟨u0, u1⟩ := hu.lt (by omega)
    have Hd5 := Lib.hid hd5
    have hR5 := rb_chg HR4.out hc5 hRS
    have hcc5 := ((hcc2.trans hc3).trans hc4).trans hc5
    have c0 := rb_cell (j := 0) hR5 rfl
    have c1 := rb_cell (j := 1) hR5 rfl
    have c2 := rb_cell (j := 2) hR5 rfl
    have c3 := rb_cell (j := 3) hR5 rfl
    have c4 := rb_cell (j := 4) hR5 rfl
    have f0 := rb_frozen hR5 0
    have f1 := rb_frozen hR5 1
    have f2 := rb_frozen hR5 2
    have f3 := rb_frozen hR5 3
    have f4 := rb_frozen hR5 4
    have HR5 := Lib.hid hR5
    clear hu hd5 hR5 hc3 hc4 hc5 hcc2
    go_wp2_with fail
    refine bodyPost_ret (results_cell_row Try.results66 _ _ R 59 #[.int .i64 _, .int .i64 _, .int .i64 _, .int .i64 _, .int .i64 _] (0, 0) _ rfl (by simp [World.setCell, Array.getElem?_modify, HR5.out]; exact ⟨rfl, rfl, rfl, rfl, rfl⟩) Try.underlying59 rfl (by kernel_rfl)) rfl ⟨⟨_, _, _, _, _⟩, rfl, ?_, ?_⟩
    · exact ((((Hd5.out.set hRw0 hRS).set hRw0 hRS).set hRw0 hRS).set hRw0 hRS).set hRw0 hRS
    · exact ((((hcc5.fresh hRw).fresh hRw).fresh hRw).fresh hRw).fresh hRw
end Go.Proofs.Ytbbecboihmmllaa
