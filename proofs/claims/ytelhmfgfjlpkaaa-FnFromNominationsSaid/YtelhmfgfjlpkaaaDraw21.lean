/-
  Draws: an hour, one contract. Printed by gen_draw21.py.
-/
import Derived.Test.YtelhmfgfjlpkaaaDrawC
import Derived.Deep.Cut
import Derived.Deep.CutRange
import Derived.Deep.CutBlock
set_option linter.unusedSimpArgs false
set_option linter.unusedVariables false
namespace Go.Proofs.Ytelhmfgfjlpkaaa
open Go.ChangeShapes Go.WideShapes Go.ChangeAt Go.RowKit

/-- One block X is being filled beside the source; the result's block at R is still empty. -/
structure FillSt (t : TypeId) (w0 w wx : World) (S R X : Nat) (rs cs : Array Value) : Prop where
  dr : Drw w0 wx S
  ch : Chg (fun k => k = S) w wx
  res : wx.heap[R]? = some (.cells rs t (0, 0))
  blk : wx.heap[X]? = some (.cells cs t (0, 0))
section
variable {t : TypeId} {w0 w wx w' : World} {S R X : Nat} {rs cs cs' : Array Value}
theorem FillSt.next (q : FillSt t w0 w wx S R X rs cs) (hR : R ≠ S) (hX : X ≠ S) (hd : Drw w0 w' S) (hc : Chg (fun k => k = S) wx w') : FillSt t w0 w w' S R X rs cs :=
  ⟨hd, q.ch.trans hc, rb_chg q.res hc hR, rb_chg q.blk hc hX⟩
theorem FillSt.gr (q : FillSt t w0 w wx S R X rs cs) (hg : Gr wx w') : FillSt t w0 w w' S R X rs cs :=
  ⟨q.dr.grow hg, q.ch.trans (hg.chg _), (hg.below.block R (rb_lt q.res)).trans q.res, (hg.below.block X (rb_lt q.blk)).trans q.blk⟩
theorem FillSt.put (q : FillSt t w0 w wx S R X rs cs) (hX : X ≠ S) (hXR : X ≠ R) (hw : w.heap.size ≤ X) (hw0 : w0.heap.size ≤ X) (j : Nat) (v : Value) (hcs : cs' = cs.setIfInBounds j v) : FillSt t w0 w (wx.setCell ⟨X, j, none⟩ v) S R X rs cs' := by
  subst hcs
  refine ⟨q.dr.set hw0 hX, q.ch.fresh hw, rb_chg (P := fun k => k = X) q.res (chg_put _ _) (fun e => hXR e.symm), ?_⟩
  simp [World.setCell, Array.getElem?_modify, q.blk]
end
theorem Upto.top {n x m : Int} (h : Upto n x) (hn : n ≤ m) (h0 : 0 ≤ m) : 0 ≤ x ∧ x ≤ m := by
  refine ⟨h.1, ?_⟩
  by_cases h1 : 1 < n
  · have := h.2.1 h1; omega
  · have := h.2.2 (by omega); omega
theorem lit_mem (zs : List Int) {y : Int} (h0 : 0 ≤ y) (h1 : y < (zs.length : Int)) : zs.getD y.toNat 0 ∈ zs := by
  have hk : y.toNat < zs.length := by omega
  rw [List.getD_eq_getElem?_getD, List.getElem?_eq_getElem hk]
  exact List.getElem_mem hk
theorem lit_cell (w : World) (l : List Value) (zs : List Int) (hl : l = ints zs) {y : Int} (h0 : 0 ≤ y) (h1 : y < (zs.length : Int)) : (w.alloc (.cells l.toArray 2)).cell? ⟨w.heap.size, y.toNat, none⟩ = some (.int .i64 (zs.getD y.toNat 0)) := by
  subst hl
  have hk : y.toNat < zs.length := by omega
  exact rb_cell (heap_alloc_new w _) (by simp [ints, hk])
def DrB (y : GCon) : Prop := (0 ≤ y.src ∧ y.src ≤ 6) ∧ (-1 ≤ y.dst ∧ y.dst ≤ 48) ∧ (0 ≤ y.amount ∧ y.amount ≤ 30001)
theorem lit_pick {w w' : World} {P : Nat → Prop} (l : List Value) {zs : List Int} (hl : l = ints zs) {y : Int} (hc : Chg P (w.alloc (.cells l.toArray 2)) w') (hn : ¬ P w.heap.size) (h0 : 0 ≤ y) (h1 : y < (l.length : Int)) : ∃ v : Int, v ∈ zs ∧ w'.cell? ⟨w.heap.size, y.toNat, none⟩ = some (.int .i64 v) := by
  have hb := rb_chg (heap_alloc_new w (.cells l.toArray 2)) hc hn
  subst hl
  have hk : y.toNat < zs.length := by rw [ints_length] at h1; omega
  exact ⟨zs[y.toNat], List.getElem_mem hk, rb_cell hb (by simp [ints, hk])⟩
theorem l20DrawHour_any {w0 w : World} {S : Nat} (h : Drw w0 w S) :
    Calls Try.prog 97 #[.pointer (some ⟨S, 0, none⟩)] w fun e w' => ∃ x : Int, e = .returned (.int .i64 x) ∧ Drw w0 w' S ∧ Chg (fun k => k = S) w w' := by
  have H := Lib.hid h
  clear h
  go_enter Try.func97, Try.ntmps97
  go_wp2_with fail
  refine (l01Next_any 20 H.out (by omega)).mono ?_
  rintro e w1 ⟨x, rfl, hx, hd1, hc1⟩
  have Hd1 := Lib.hid hd1
  clear hx hd1
  have hS1 := Hd1.out.lt
  by_cases hx0 : x = 0
  · have hxb : (x == 0) = true := by simp [hx0]
    go_wp2_with fail
    have hg : Gr w1 (w1.alloc (.cells #[.int .i64 (-1), .int .i64 47, .int .i64 48] 2)) := (Gr.refl _).alloc _
    refine (l01Next_any 3 (Hd1.out.grow hg) (by omega)).mono ?_
    rintro e w2 ⟨y, rfl, hy, hd2, hc2⟩
    obtain ⟨y0, y1⟩ := hy.lt (by omega)
    obtain ⟨v, hvm, hv⟩ := lit_pick [.int .i64 (-1), .int .i64 47, .int .i64 48] (zs := [-1, 47, 48]) rfl hc2 (by omega) y0 (by simpa using y1)
    have Hc := Lib.hid ((hc1.trans (hg.chg _)).trans hc2)
    have Hd2 := Lib.hid hd2
    clear hc1 hc2 hd2 hy hg
    go_wp2_with fail
    go_ret
    exact ⟨_, rfl, Hd2.out, Hc.out⟩
  · have hxb : (x == 0) = false := by simp [hx0]
    go_wp2_with fail
    refine (l01Next_any 14 Hd1.out (by omega)).mono ?_
    rintro e w2 ⟨y, rfl, hy, hd2, hc2⟩
    go_wp2_with fail
    go_ret
    exact ⟨_, rfl, hd2, hc1.trans hc2⟩
set_option maxHeartbeats 6400000 in
set_option maxRecDepth 100000 in
theorem l20DrawOne_any {w0 w : World} {S : Nat} (A1 : Option Addr) (n1 c1 : Nat) (A2 : Option Addr) (n2 c2 : Nat) (h : Drw w0 w S) (hn : n1 ≤ 7) :
    Calls Try.prog 122 #[.pointer (some ⟨S, 0, none⟩), .agg #[.slice A1 n1 c1, .slice A2 n2 c2]] w fun e w' => ∃ y : GCon, e = .returned (.agg #[.int .i64 y.shipper, .int .i64 y.entry, .int .i64 y.exit, .int .i64 y.amount, .int .i64 y.cls, .int .i64 y.src, .int .i64 y.dst, .int .i64 y.price]) ∧ DrB y ∧ Drw w0 w' S ∧ Chg (fun k => k = S) w w' := by
  have hlt := h.lt
  have hbw := h.gr.size
  have H := Lib.hid h
  clear h
  go_enter Try.func122, Try.ntmps122
  go_upto_region 1 with fail
  generalize hw1 : World.alloc (World.alloc w _) _ = w1
  have hR : w1.heap[w.heap.size + 1]? = some (.cells #[.int .i64 0, .int .i64 0, .int .i64 0, .int .i64 0, .int .i64 0, .int .i64 0, .int .i64 0, .int .i64 0] 61 (0, 0)) := by rw [← hw1]; have := heap_alloc_new (w.alloc (.cells #[.slice A1 n1 c1, .slice A2 n2 c2] 27)) (.cells #[.int .i64 0, .int .i64 0, .int .i64 0, .int .i64 0, .int .i64 0, .int .i64 0, .int .i64 0, .int .i64 0] 61); simpa using this
  have b0 : w1.cell? ⟨w.heap.size, 0, none⟩ = some (.slice A1 n1 c1) := by rw [← hw1]; simp [go_sem]
  have hg1 : Gr w w1 := by rw [← hw1]; exact ((Gr.refl _).alloc _).alloc _
  obtain ⟨R, hRe⟩ : ∃ R, R = w.heap.size + 1 := ⟨_, rfl⟩
  rw [← hRe] at hR ⊢
  have hRS : R ≠ S := by omega
  have hRw : w.heap.size ≤ R := by omega
  have hRw0 : w0.heap.size ≤ R := by omega
  have HR0 := Lib.hid hR
  have Hd0 := Lib.hid (H.out.grow hg1)
  have Hc0 : Hid (Chg (fun k => k = S) w w1) := Lib.hid (hg1.chg _)
  have Hre := Lib.hid hRe
  clear hw1 hRe hR hg1
  go_cut [5] from 7 to 11 (fun p wx => wx = w1 ∧ ∃ nv : Int, p = .int .i64 nv ∧ 1 ≤ nv ∧ nv ≤ 7)
  case first =>
    by_cases tn : (1 : Int) < (n1 : Int)
    · go_wp2_with fail
      go_meet
      case rel => refine ⟨rfl, _, rfl, ?_, ?_⟩ <;> omega
    · go_wp2_with fail
      go_meet
      case rel => refine ⟨rfl, _, rfl, ?_, ?_⟩ <;> omega
  obtain ⟨rfl, nv, rfl, nv0, nv1⟩ := hcut
  clear b0
  go_wp2_with fail
  refine (l01Next_any 4 Hd0.out (by omega)).mono ?_
  rintro e v1 ⟨x1, rfl, hx1, hd1, hc1⟩
  have Hb1 := Lib.hid hx1
  have Hd1 := Lib.hid hd1
  have Hc1 := Lib.hid (Hc0.out.trans hc1)
  have HR1 := Lib.hid (rb_chg HR0.out hc1 hRS)
  clear hx1 hd1 hc1
  go_wp2_with fail
  refine (l01Next_any nv Hd1.out (by omega)).mono ?_
  rintro e v2 ⟨x2, rfl, hx2, hd2, hc2⟩
  have Hb2 := Lib.hid hx2
  have Hd2 := Lib.hid hd2
  have Hc2 := Lib.hid (Hc1.out.trans hc2)
  have HR2 := Lib.hid (rb_chg HR1.out hc2 hRS)
  clear hx2 hd2 hc2
  go_wp2_with fail
  refine (l01Next_any 60 Hd2.out (by omega)).mono ?_
  rintro e v3 ⟨x3, rfl, hx3, hd3, hc3⟩
  have Hb3 := Lib.hid hx3
  have Hd3 := Lib.hid hd3
  have Hc3 := Lib.hid (Hc2.out.trans hc3)
  have HR3 := Lib.hid (rb_chg HR2.out hc3 hRS)
  clear hx3 hd3 hc3
  obtain ⟨p3, r3⟩ := Hb3.out.top (m := 60) (by omega) (by omega)
  have hw3 : IntKind.i64.wrap (1 + x3) = 1 + x3 := IntWalk.i64_in _ (by omega)
  go_wp2_with fail
  refine (l01Next_any 4 Hd3.out (by omega)).mono ?_
  rintro e v4 ⟨x4, rfl, hx4, hd4, hc4⟩
  have Hb4 := Lib.hid hx4
  have Hd4 := Lib.hid hd4
  have Hc4 := Lib.hid (Hc3.out.trans hc4)
  have HR4 := Lib.hid (rb_chg HR3.out hc4 hRS)
  clear hx4 hd4 hc4
  go_wp2_with fail
  refine (l01Next_any 6 Hd4.out (by omega)).mono ?_
  rintro e v5 ⟨x5, rfl, hx5, hd5, hc5⟩
  have Hb5 := Lib.hid hx5
  have Hd5 := Lib.hid hd5
  have Hc5 := Lib.hid (Hc4.out.trans hc5)
  have HR5 := Lib.hid (rb_chg HR4.out hc5 hRS)
  clear hx5 hd5 hc5
  go_wp2_with fail
  refine (l01Next_any 20 Hd5.out (by omega)).mono ?_
  rintro e v6 ⟨x6, rfl, hx6, hd6, hc6⟩
  have Hb6 := Lib.hid hx6
  have Hd6 := Lib.hid hd6
  have Hc6 := Lib.hid (Hc5.out.trans hc6)
  have HR6 := Lib.hid (rb_chg HR5.out hc6 hRS)
  clear hx6 hd6 hc6
  obtain ⟨p5, r5⟩ := Hb5.out.top (m := 6) (by omega) (by omega)
  obtain ⟨p2, r2⟩ := Hb2.out.top (m := 7) (by omega) (by omega)
  go_upto_region 3 with fail
  obtain ⟨w7, hw7⟩ : ∃ W, W = v6.alloc (.cells #[.int .i64 x1, .int .i64 x2, .int .i64 0, .int .i64 (1 + x3), .int .i64 x4, .int .i64 x5, .int .i64 0, .int .i64 x6] 61) := ⟨_, rfl⟩
  obtain ⟨X, hX⟩ : ∃ X, X = v6.heap.size := ⟨_, rfl⟩
  have hRX : R < X := by rw [hX]; exact rb_lt HR6.out
  have hXS : X ≠ S := by have := Hd6.out.lt; omega
  have q7 : FillSt 61 w0 w w7 S R X #[.int .i64 0, .int .i64 0, .int .i64 0, .int .i64 0, .int .i64 0, .int .i64 0, .int .i64 0, .int .i64 0] #[.int .i64 x1, .int .i64 x2, .int .i64 0, .int .i64 (1 + x3), .int .i64 x4, .int .i64 x5, .int .i64 0, .int .i64 x6] := by
    rw [hw7, hX]
    exact ⟨Hd6.out.grow ((Gr.refl _).alloc _), Hc6.out.trans (((Gr.refl _).alloc _).chg _), by have := ((Gr.refl v6).alloc (.cells #[.int .i64 x1, .int .i64 x2, .int .i64 0, .int .i64 (1 + x3), .int .i64 x4, .int .i64 x5, .int .i64 0, .int .i64 x6] 61)).below.block R (rb_lt HR6.out); exact this.trans HR6.out, heap_alloc_new v6 _⟩
  rw [← hw7, ← hX]
  have Q7 := Lib.hid (q7.gr (Gr.refl _).drew)
  have x0 := rb_cell (j := 1) (Q7.out).blk rfl
  clear hw7 hX q7 hw3 Hd1 Hd2 Hd3 Hd4 Hd5 Hd6 Hc1 Hc2 Hc3 Hc4 Hc5 Hc6 HR1 HR2 HR3 HR4 HR5 HR6 Hd0 Hc0 HR0
  go_cut [] from 26 to 37 (fun wx => ∃ v : Int, FillSt 61 w0 w wx S R X #[.int .i64 0, .int .i64 0, .int .i64 0, .int .i64 0, .int .i64 0, .int .i64 0, .int .i64 0, .int .i64 0] #[.int .i64 x1, .int .i64 x2, .int .i64 v, .int .i64 (1 + x3), .int .i64 x4, .int .i64 x5, .int .i64 0, .int .i64 x6])
  case first =>
    go_wp2_with fail
    have hwa : IntKind.i64.wrap (nv - 1) = nv - 1 := IntWalk.i64_in _ (by omega)
    have hwb : IntKind.i64.wrap (x2 + 1) = x2 + 1 := IntWalk.i64_in _ (by omega)
    have hnz : ¬ (nv = 0) := by omega
    go_region_with ((go_at_call 38; with_reducible refine (l01Next_any (nv - 1) Q7.out.dr (by omega)).mono ?_; rintro e w8 ⟨y, rfl, hy, hd8, hc8⟩; obtain ⟨y0, y1⟩ := hy.top (m := 7) (by omega) (by omega); have hwc : IntKind.i64.wrap (x2 + 1 + y) = x2 + 1 + y := IntWalk.i64_in _ (by omega); have qc := Q7.out.next (by omega) hXS hd8 hc8; have k1 := rb_cell (j := 1) qc.blk rfl; have k2 := rb_cell (j := 2) qc.blk rfl; have f2 := rb_frozen qc.blk 2; have Q8 := Lib.hid qc; clear qc hd8 hc8 hy))
    all_goals
      go_wp2_with fail
      go_meet
      case rel => exact ⟨_, Q8.out.put hXS (by omega) (by omega) (by omega) 2 _ rfl⟩
  obtain ⟨v, q9⟩ := hcut
  clear Q7 x0
  have Q9 := Lib.hid (q9.gr (Gr.refl _).drew)
  have x0 := rb_cell (j := 5) (Q9.out).blk rfl
  clear q9
  go_upto_region 4 with fail
  go_cut [] from 37 to 43 (fun wx => ∃ d : Int, (0 ≤ d ∧ d ≤ 18) ∧ FillSt 61 w0 w wx S R X #[.int .i64 0, .int .i64 0, .int .i64 0, .int .i64 0, .int .i64 0, .int .i64 0, .int .i64 0, .int .i64 0] #[.int .i64 x1, .int .i64 x2, .int .i64 v, .int .i64 (1 + x3), .int .i64 x4, .int .i64 x5, .int .i64 d, .int .i64 x6])
  case first =>
    go_wp2_with fail
    go_region_with ((go_at_call 38; with_reducible refine (l01Next_any 12 Q9.out.dr (by omega)).mono ?_; rintro e w8 ⟨y, rfl, hy, hd8, hc8⟩; obtain ⟨y0, y1⟩ := hy.lt (by omega); have hwc : IntKind.i64.wrap (x5 + y) = x5 + y := IntWalk.i64_in _ (by omega); have qc := Q9.out.next (by omega) hXS hd8 hc8; have k1 := rb_cell (j := 5) qc.blk rfl; have k2 := rb_cell (j := 6) qc.blk rfl; have f2 := rb_frozen qc.blk 6; have Q8 := Lib.hid qc; clear qc hd8 hc8 hy))
    all_goals
      go_wp2_with fail
      go_meet
      case rel => exact ⟨_, ⟨by omega, by omega⟩, Q8.out.put hXS (by omega) (by omega) (by omega) 6 (.int .i64 (x5 + y)) rfl⟩
  obtain ⟨d, ⟨d0, d1⟩, q10⟩ := hcut
  clear Q9 x0
  rename World => w10
  have Q10 : Hid (∃ y : GCon, DrB y ∧ FillSt 61 w0 w w10 S R X #[.int .i64 0, .int .i64 0, .int .i64 0, .int .i64 0, .int .i64 0, .int .i64 0, .int .i64 0, .int .i64 0] #[.int .i64 y.shipper, .int .i64 y.entry, .int .i64 y.exit, .int .i64 y.amount, .int .i64 y.cls, .int .i64 y.src, .int .i64 y.dst, .int .i64 y.price]) := Lib.hid ⟨⟨x1, x2, v, 1 + x3, x4, x5, d, x6⟩, ⟨⟨p5, r5⟩, ⟨by show -1 ≤ d; omega, by show d ≤ 48; omega⟩, by show 0 ≤ 1 + x3; omega, by show 1 + x3 ≤ 30001; omega⟩, q10⟩
  clear q10
  go_upto_region 5 with fail
  obtain ⟨y, hb, q10⟩ := Q10.out
  obtain ⟨⟨s0, s1⟩, _⟩ := id hb
  have Hb := Lib.hid hb
  clear hb
  have Q := Lib.hid q10
  clear q10 Q10
  go_wp2_with fail
  refine (l01Next_any 60 Q.out.dr (by omega)).mono ?_
  rintro e w11 ⟨tt, rfl, htt, hd11, hc11⟩
  have Q11 := Lib.hid (Q.out.next (by omega) hXS hd11 hc11)
  have hS11 := Q11.out.dr.lt
  have hX11 := rb_lt Q11.out.blk
  clear htt hd11 hc11 Q
  go_upto_block 0 with fail
  go_cut [] from 45 to 88 (fun wx => ∃ y : GCon, DrB y ∧ FillSt 61 w0 w wx S R X #[.int .i64 0, .int .i64 0, .int .i64 0, .int .i64 0, .int .i64 0, .int .i64 0, .int .i64 0, .int .i64 0] #[.int .i64 y.shipper, .int .i64 y.entry, .int .i64 y.exit, .int .i64 y.amount, .int .i64 y.cls, .int .i64 y.src, .int .i64 y.dst, .int .i64 y.price])
  case first =>
    by_cases h0 : tt = 0
    · subst h0
      clear s0 s1
      go_wp2_with fail
      have hg : Gr w11 (w11.alloc (.cells #[.int .i64 (-1), .int .i64 15, .int .i64 16] 2)) := (Gr.refl _).alloc _
      have QG := Lib.hid (Q11.out.gr hg)
      refine (l01Next_any 3 QG.out.dr (by omega)).mono ?_
      rintro e w12 ⟨z, rfl, hz, hd12, hc12⟩
      obtain ⟨z0, z1⟩ := hz.lt (by omega)
      obtain ⟨v, hvm, hv⟩ := lit_pick [.int .i64 (-1), .int .i64 15, .int .i64 16] (zs := [-1, 15, 16]) rfl hc12 (by omega) z0 (by simpa using z1)
      have QH := Lib.hid (QG.out.next (by omega) hXS hd12 hc12)
      have k2 := rb_cell (j := 0) QH.out.blk rfl
      have f2 := rb_frozen QH.out.blk 0
      clear hz hd12 hc12 QG hg
      go_wp2_with fail
      go_meet
      case rel => exact ⟨⟨v, y.entry, y.exit, y.amount, y.cls, y.src, y.dst, y.price⟩, ⟨Hb.out.1, Hb.out.2.1, Hb.out.2.2⟩, QH.out.put hXS (by omega) (by omega) (by omega) 0 _ rfl⟩
    have g0 : (tt == 0) = false := by simp [h0]
    by_cases h1 : tt = 1
    · subst h1
      have k5 := rb_cell (j := 5) (Q11.out.gr (Gr.refl _).drew).blk rfl
      have hws : IntKind.i64.wrap (y.src - 1) = y.src - 1 := IntWalk.i64_in _ (by omega)
      have QG := Lib.hid ((Q11.out.gr ((Gr.refl _).alloc (.cells #[.int .i64 (y.src - 1), .int .i64 47, .int .i64 48] 2))).gr (Gr.refl _).drew)
      have k5b := rb_cell (j := 5) QG.out.blk rfl
      have QE := Lib.hid (Q11.out.gr (Gr.refl _).drew)
      go_wp2_with fail
      go_region_with (first | (go_at_call 38; with_reducible refine (l01Next_any 3 QG.out.dr (by omega)).mono ?_; rintro e w12 ⟨z, rfl, hz, hd12, hc12⟩; obtain ⟨z0, z1⟩ := hz.lt (by omega); obtain ⟨v, hvm, hv⟩ := lit_pick [.int .i64 (y.src - 1), .int .i64 47, .int .i64 48] (zs := [y.src - 1, 47, 48]) rfl (((Gr.refl _).drew.chg _).trans hc12) (by omega) z0 (by simpa using z1); have qh := QG.out.next (by omega) hXS hd12 hc12; have k2 := rb_cell (j := 6) qh.blk rfl; have f2 := rb_frozen qh.blk 6; have QH := Lib.hid qh; clear hz hd12 hc12 qh) | (go_at_call 38; with_reducible refine (l01Next_any 3 QE.out.dr (by omega)).mono ?_; rintro e w12 ⟨z, rfl, hz, hd12, hc12⟩; obtain ⟨z0, z1⟩ := hz.lt (by omega); have qh := QE.out.next (by omega) hXS hd12 hc12; have k5c := rb_cell (j := 5) qh.blk rfl; obtain ⟨v, hvm, kv⟩ : ∃ v : Int, v ∈ [y.src - 1, 47, 48] ∧ (w12.alloc (.cells #[.int .i64 (y.src - 1), .int .i64 47, .int .i64 48] 2)).cell? ⟨w12.heap.size, z.toNat, none⟩ = some (.int .i64 v) := ⟨_, lit_mem [y.src - 1, 47, 48] z0 (by simpa using z1), lit_cell w12 [.int .i64 (y.src - 1), .int .i64 47, .int .i64 48] [y.src - 1, 47, 48] rfl z0 (by simpa using z1)⟩; have QH := Lib.hid (qh.gr ((Gr.refl _).alloc (.cells #[.int .i64 (y.src - 1), .int .i64 47, .int .i64 48] 2))); have k2 := rb_cell (j := 6) QH.out.blk rfl; have f2 := rb_frozen QH.out.blk 6; clear hz hd12 hc12 qh))
      all_goals
        go_wp2_with fail
        go_meet
        case rel => exact ⟨⟨y.shipper, y.entry, y.exit, y.amount, y.cls, y.src, v, y.price⟩, ⟨Hb.out.1, by (show -1 ≤ v ∧ v ≤ 48); simp at hvm; omega, Hb.out.2.2⟩, QH.out.put hXS (by omega) (by omega) (by omega) 6 _ rfl⟩
    have g1 : (tt == 1) = false := by simp [h1]
    by_cases h2 : tt = 2
    · subst h2
      clear s0 s1
      go_wp2_with fail
      have hg : Gr w11 (w11.alloc (.cells #[.int .i64 0, .int .i64 30000, .int .i64 30001] 2)) := (Gr.refl _).alloc _
      have QG := Lib.hid (Q11.out.gr hg)
      refine (l01Next_any 3 QG.out.dr (by omega)).mono ?_
      rintro e w12 ⟨z, rfl, hz, hd12, hc12⟩
      obtain ⟨z0, z1⟩ := hz.lt (by omega)
      obtain ⟨v, hvm, hv⟩ := lit_pick [.int .i64 0, .int .i64 30000, .int .i64 30001] (zs := [0, 30000, 30001]) rfl hc12 (by omega) z0 (by simpa using z1)
      have QH := Lib.hid (QG.out.next (by omega) hXS hd12 hc12)
      have k2 := rb_cell (j := 3) QH.out.blk rfl
      have f2 := rb_frozen QH.out.blk 3
      clear hz hd12 hc12 QG hg
      go_wp2_with fail
      go_meet
      case rel => exact ⟨⟨y.shipper, y.entry, y.exit, v, y.cls, y.src, y.dst, y.price⟩, ⟨Hb.out.1, Hb.out.2.1, by (show 0 ≤ v ∧ v ≤ 30001); simp at hvm; omega⟩, QH.out.put hXS (by omega) (by omega) (by omega) 3 _ rfl⟩
    have g2 : (tt == 2) = false := by simp [h2]
    by_cases h3 : tt = 3
    · subst h3
      clear s0 s1
      go_wp2_with fail
      have hg : Gr w11 (w11.alloc (.cells #[.int .i64 (-1), .int .i64 4] 2)) := (Gr.refl _).alloc _
      have QG := Lib.hid (Q11.out.gr hg)
      refine (l01Next_any 2 QG.out.dr (by omega)).mono ?_
      rintro e w12 ⟨z, rfl, hz, hd12, hc12⟩
      obtain ⟨z0, z1⟩ := hz.lt (by omega)
      obtain ⟨v, hvm, hv⟩ := lit_pick [.int .i64 (-1), .int .i64 4] (zs := [-1, 4]) rfl hc12 (by omega) z0 (by simpa using z1)
      have QH := Lib.hid (QG.out.next (by omega) hXS hd12 hc12)
      have k2 := rb_cell (j := 4) QH.out.blk rfl
      have f2 := rb_frozen QH.out.blk 4
      clear hz hd12 hc12 QG hg
      go_wp2_with fail
      go_meet
      case rel => exact ⟨⟨y.shipper, y.entry, y.exit, y.amount, v, y.src, y.dst, y.price⟩, ⟨Hb.out.1, Hb.out.2.1, Hb.out.2.2⟩, QH.out.put hXS (by omega) (by omega) (by omega) 4 _ rfl⟩
    have g3 : (tt == 3) = false := by simp [h3]
    by_cases h4 : tt = 4
    · subst h4
      clear s0 s1
      go_wp2_with fail
      have hg : Gr w11 (w11.alloc (.cells #[.int .i64 (-1), .int .i64 1000000, .int .i64 1000001] 2)) := (Gr.refl _).alloc _
      have QG := Lib.hid (Q11.out.gr hg)
      refine (l01Next_any 3 QG.out.dr (by omega)).mono ?_
      rintro e w12 ⟨z, rfl, hz, hd12, hc12⟩
      obtain ⟨z0, z1⟩ := hz.lt (by omega)
      obtain ⟨v, hvm, hv⟩ := lit_pick [.int .i64 (-1), .int .i64 1000000, .int .i64 1000001] (zs := [-1, 1000000, 1000001]) rfl hc12 (by omega) z0 (by simpa using z1)
      have QH := Lib.hid (QG.out.next (by omega) hXS hd12 hc12)
      have k2 := rb_cell (j := 7) QH.out.blk rfl
      have f2 := rb_frozen QH.out.blk 7
      clear hz hd12 hc12 QG hg
      go_wp2_with fail
      go_meet
      case rel => exact ⟨⟨y.shipper, y.entry, y.exit, y.amount, y.cls, y.src, y.dst, v⟩, ⟨Hb.out.1, Hb.out.2.1, Hb.out.2.2⟩, QH.out.put hXS (by omega) (by omega) (by omega) 7 _ rfl⟩
    have g4 : (tt == 4) = false := by simp [h4]
    go_wp2_with fail
    go_meet
    case rel => exact ⟨y, Hb.out, Q11.out⟩
  obtain ⟨y, hb, q16⟩ := hcut
  clear Q11
  rename World => w16
  have Q16 := Lib.hid q16
  have k0 := rb_cell (j := 0) q16.blk rfl
  have k1 := rb_cell (j := 1) q16.blk rfl
  have k2 := rb_cell (j := 2) q16.blk rfl
  have k3 := rb_cell (j := 3) q16.blk rfl
  have k4 := rb_cell (j := 4) q16.blk rfl
  have k5 := rb_cell (j := 5) q16.blk rfl
  have k6 := rb_cell (j := 6) q16.blk rfl
  have k7 := rb_cell (j := 7) q16.blk rfl
  have r0 := rb_cell (j := 0) q16.res rfl
  have f0 := rb_frozen q16.res 0
  have r1 := rb_cell (j := 1) q16.res rfl
  have f1 := rb_frozen q16.res 1
  have r2 := rb_cell (j := 2) q16.res rfl
  have f2 := rb_frozen q16.res 2
  have r3 := rb_cell (j := 3) q16.res rfl
  have f3 := rb_frozen q16.res 3
  have r4 := rb_cell (j := 4) q16.res rfl
  have f4 := rb_frozen q16.res 4
  have r5 := rb_cell (j := 5) q16.res rfl
  have f5 := rb_frozen q16.res 5
  have r6 := rb_cell (j := 6) q16.res rfl
  have f6 := rb_frozen q16.res 6
  have r7 := rb_cell (j := 7) q16.res rfl
  have f7 := rb_frozen q16.res 7
  clear q16
  go_wp2_with fail
  refine bodyPost_ret (results_cell_row Try.results122 _ _ R 61 #[.int .i64 _, .int .i64 _, .int .i64 _, .int .i64 _, .int .i64 _, .int .i64 _, .int .i64 _, .int .i64 _] (0, 0) _ rfl (by first | (simp [World.setCell, Array.getElem?_modify, Q16.out.res]; done) | (simp [World.setCell, Array.getElem?_modify, Q16.out.res]; exact ⟨rfl, rfl, rfl, rfl, rfl, rfl, rfl, rfl⟩)) Try.underlying61 rfl (by kernel_rfl)) rfl ⟨y, rfl, hb, ?_, ?_⟩
  · exact ((((((((Q16.out.dr.set hRw0 hRS).set hRw0 hRS).set hRw0 hRS).set hRw0 hRS).set hRw0 hRS).set hRw0 hRS).set hRw0 hRS).set hRw0 hRS)
  · exact ((((((((Q16.out.ch.fresh hRw).fresh hRw).fresh hRw).fresh hRw).fresh hRw).fresh hRw).fresh hRw).fresh hRw)
end Go.Proofs.Ytelhmfgfjlpkaaa
