/-
  Draws: one nomination. Printed by gen_draw23.py.
-/
import Derived.Test.YtelhmfgfjlpkaaaDraw22
import Derived.Deep.Cut
import Derived.Deep.CutRange
import Derived.Deep.CutBlock
import Derived.Deep.RegionHeld3
set_option linter.unusedSimpArgs false
set_option linter.unusedVariables false
namespace Go.Proofs.Ytelhmfgfjlpkaaa
open Go.ChangeShapes Go.WideShapes Go.ChangeAt Go.RowKit

/-- The nomination's block X is being filled; the contract's box stands at C, the result's block at R is still empty. -/
structure Fill2 (w0 w wx : World) (S R C X : Nat) (ccs rs cs : Array Value) : Prop where
  st : FillSt 120 w0 w wx S R X rs cs
  con : wx.heap[C]? = some (.cells ccs 61 (0, 0))
/-- The same, ahead of the nomination's block. -/
structure Fill1 (w0 w wx : World) (S R C : Nat) (ccs rs : Array Value) : Prop where
  dr : Drw w0 wx S
  ch : Chg (fun k => k = S) w wx
  res : wx.heap[R]? = some (.cells rs 120 (0, 0))
  con : wx.heap[C]? = some (.cells ccs 61 (0, 0))
section
variable {w0 w wx w' : World} {S R C X : Nat} {ccs rs cs cs' : Array Value}
theorem Fill1.next (q : Fill1 w0 w wx S R C ccs rs) (hR : R ≠ S) (hC : C ≠ S) (hd : Drw w0 w' S) (hc : Chg (fun k => k = S) wx w') : Fill1 w0 w w' S R C ccs rs :=
  ⟨hd, q.ch.trans hc, rb_chg q.res hc hR, rb_chg q.con hc hC⟩
theorem Fill1.gr (q : Fill1 w0 w wx S R C ccs rs) (hg : Gr wx w') : Fill1 w0 w w' S R C ccs rs :=
  ⟨q.dr.grow hg, q.ch.trans (hg.chg _), (hg.below.block R (rb_lt q.res)).trans q.res, (hg.below.block C (rb_lt q.con)).trans q.con⟩
theorem Fill1.blk (q : Fill1 w0 w wx S R C ccs rs) (cs : Array Value) : Fill2 w0 w (wx.alloc (.cells cs 120)) S R C wx.heap.size ccs rs cs :=
  ⟨⟨(q.gr ((Gr.refl _).alloc _)).dr, (q.gr ((Gr.refl _).alloc _)).ch, (q.gr ((Gr.refl _).alloc _)).res, heap_alloc_new wx _⟩, (q.gr ((Gr.refl _).alloc _)).con⟩
theorem Fill2.next (q : Fill2 w0 w wx S R C X ccs rs cs) (hR : R ≠ S) (hC : C ≠ S) (hX : X ≠ S) (hd : Drw w0 w' S) (hc : Chg (fun k => k = S) wx w') : Fill2 w0 w w' S R C X ccs rs cs :=
  ⟨q.st.next hR hX hd hc, rb_chg q.con hc hC⟩
theorem Fill2.gr (q : Fill2 w0 w wx S R C X ccs rs cs) (hg : Gr wx w') : Fill2 w0 w w' S R C X ccs rs cs :=
  ⟨q.st.gr hg, (hg.below.block C (rb_lt q.con)).trans q.con⟩
theorem Fill2.put (q : Fill2 w0 w wx S R C X ccs rs cs) (hX : X ≠ S) (hXR : X ≠ R) (hXC : X ≠ C) (hw : w.heap.size ≤ X) (hw0 : w0.heap.size ≤ X) (j : Nat) (v : Value) (hcs : cs' = cs.setIfInBounds j v) : Fill2 w0 w (wx.setCell ⟨X, j, none⟩ v) S R C X ccs rs cs' :=
  ⟨q.st.put hX hXR hw hw0 j v hcs, rb_chg (P := fun k => k = X) q.con (chg_put _ _) (fun e => hXC e.symm)⟩
end
set_option maxHeartbeats 6400000 in
set_option maxRecDepth 100000 in
theorem l21DrawOne_any {w0 w : World} {S base : Nat} {A3 : Option Addr} {n3 c3 : Nat} (ls : List {y : GCon // DrB y}) (from_ : Int) (h : Drw w0 w S) (hSb : S < base) (hn : n3 ≤ 40) (ho : w.ownsRow base 61 8 (.slice A3 n3 c3) n3 (ls.flatMap (fun z : {y : GCon // DrB y} => z.1.cells))) :
    Calls Try.prog 113 #[.pointer (some ⟨S, 0, none⟩), .slice A3 n3 c3, .int .i64 from_] w fun e w' => ∃ x : GNom, e = .returned (.agg #[.int .i64 x.contract, .int .i64 x.hour, .int .i64 x.sent, .int .i64 x.amount]) ∧ Drw w0 w' S ∧ Chg (fun k => k = S) w w' := by
  have hlt := h.lt
  have hbw := h.gr.size
  have H := Lib.hid h
  have Ho := Lib.hid ho
  clear h ho
  go_enter Try.func113, Try.ntmps113
  go_upto_region 1 with fail
  generalize hw1 : World.alloc w _ = w1
  have hR : w1.heap[w.heap.size]? = some (.cells #[.int .i64 0, .int .i64 0, .int .i64 0, .int .i64 0] 120 (0, 0)) := by rw [← hw1]; exact heap_alloc_new w _
  have hg1 : Gr w w1 := by rw [← hw1]; exact (Gr.refl _).alloc _
  obtain ⟨R, hRe⟩ : ∃ R, R = w.heap.size := ⟨_, rfl⟩
  rw [← hRe] at hR ⊢
  have hRS : R ≠ S := by omega
  have hRw : w.heap.size ≤ R := by omega
  have hRw0 : w0.heap.size ≤ R := by omega
  have HR := Lib.hid hR
  have Hd1 := Lib.hid (H.out.grow hg1)
  have Hc1 : Hid (Chg (fun k => k = S) w w1) := Lib.hid (hg1.chg _)
  have Ho1 := Lib.hid (own_gr Ho.out hg1)
  clear hw1 hRe hR hg1
  by_cases hn0 : n3 = 0
  · subst hn0
    go_wp2_with fail
    refine (l01Next_any 5 Hd1.out (by omega)).mono ?_
    rintro e w2 ⟨x, rfl, hx, hd2, hc2⟩
    have hR2 := rb_chg HR.out hc2 hRS
    have HR2 := Lib.hid hR2
    have Hd2 := Lib.hid hd2
    have Hc2 := Lib.hid (Hc1.out.trans hc2)
    have r0 := rb_cell (j := 0) hR2 rfl
    have f0 := rb_frozen hR2 0
    have r1 := rb_cell (j := 1) hR2 rfl
    have f1 := rb_frozen hR2 1
    have r2 := rb_cell (j := 2) hR2 rfl
    have f2 := rb_frozen hR2 2
    have r3 := rb_cell (j := 3) hR2 rfl
    have f3 := rb_frozen hR2 3
    clear hx hd2 hc2 hR2
    go_wp2_with fail
    refine bodyPost_ret (results_cell_row Try.results113 _ _ R 120 #[.int .i64 _, .int .i64 _, .int .i64 _, .int .i64 _] (0, 0) _ rfl (by first | (simp [World.setCell, Array.getElem?_modify, HR2.out]; done) | (simp [World.setCell, Array.getElem?_modify, HR2.out]; exact ⟨rfl, rfl, rfl, rfl⟩)) Try.underlying120 rfl (by kernel_rfl)) rfl ⟨⟨_, _, _, _⟩, rfl, ?_, ?_⟩
    · exact ((((Hd2.out.set hRw0 hRS).set hRw0 hRS).set hRw0 hRS).set hRw0 hRS)
    · exact ((((Hc2.out.fresh hRw).fresh hRw).fresh hRw).fresh hRw)
  have tn0 : ((n3 : Int) == 0) = false := by simp [hn0]
  go_wp2_with fail
  refine (l01Next_any (n3 : Int) Hd1.out (by omega)).mono ?_
  rintro e w2 ⟨k, rfl, hk, hd2, hc2⟩
  obtain ⟨k0, k1⟩ := hk.below (by omega)
  have ho2 := own_chg Ho1.out hc2 (fun j hj e => by have := own_low Ho1.out hj; omega)
  have HR2 := Lib.hid (rb_chg HR.out hc2 hRS)
  have Hd2 := Lib.hid hd2
  have Hc2 := Lib.hid (Hc1.out.trans hc2)
  have hlr := ho2
  rw [drawn_book] at hlr
  have hll := own_len hlr GCon.cells_len (by omega)
  obtain ⟨b, rfl, _, _⟩ := own_form ho2 (by omega)
  obtain ⟨z, hz⟩ : ∃ z, ls[k.toNat]? = some z := ⟨_, List.getElem?_eq_getElem (by simp at hll; omega)⟩
  obtain ⟨e0, e1, e2, e3, e4, e5, e6, e7, _⟩ := own_con (k := k.toNat) (x := z.1) hlr (by rw [List.getElem?_map, hz]; rfl)
  obtain ⟨y, hyb⟩ := z
  obtain ⟨⟨s0, s1⟩, ⟨d0, d1⟩, a0, a1⟩ := id hyb
  simp only at e0 e1 e2 e3 e4 e5 e6 e7
  clear hk hd2 hc2 ho2 hlr hll hz hyb Ho Ho1 HR Hd1 Hc1
  go_upto_region 5 with fail
  obtain ⟨w5, hw5⟩ : ∃ W, W = w2.alloc (.cells #[.int .i64 y.shipper, .int .i64 y.entry, .int .i64 y.exit, .int .i64 y.amount, .int .i64 y.cls, .int .i64 y.src, .int .i64 y.dst, .int .i64 y.price] 61) := ⟨_, rfl⟩
  obtain ⟨C, hC⟩ : ∃ C, C = w2.heap.size := ⟨_, rfl⟩
  have hSw2 := Hd2.out.lt
  have hRw2 := rb_lt HR2.out
  have hg5 : Gr w2 w5 := by rw [hw5]; exact (Gr.refl _).alloc _
  have q5 : Fill1 w0 w w5 S R C #[.int .i64 y.shipper, .int .i64 y.entry, .int .i64 y.exit, .int .i64 y.amount, .int .i64 y.cls, .int .i64 y.src, .int .i64 y.dst, .int .i64 y.price] #[.int .i64 0, .int .i64 0, .int .i64 0, .int .i64 0] := ⟨Hd2.out.grow hg5, Hc2.out.trans (hg5.chg _), (hg5.below.block R hRw2).trans HR2.out, by rw [hw5, hC]; exact heap_alloc_new w2 _⟩
  have hCl := rb_lt q5.con
  have hCS : C ≠ S := by omega
  have hCR : C ≠ R := by omega
  have hS5 := q5.dr.lt
  have hR5 := rb_lt q5.res
  have Q := Lib.hid q5
  rw [← hw5, ← hC]
  clear hw5 hC hg5 q5 Hd2 Hc2 HR2 e0 e1 e2 e3 e4 e5 e6 e7
  go_cut [9] from 24 to 39 (fun p wx => ∃ X, ∃ x : GNom, p = .pointer (some ⟨X, 0, none⟩) ∧ (R < X ∧ C < X ∧ S < X) ∧ Fill2 w0 w wx S R C X #[.int .i64 y.shipper, .int .i64 y.entry, .int .i64 y.exit, .int .i64 y.amount, .int .i64 y.cls, .int .i64 y.src, .int .i64 y.dst, .int .i64 y.price] #[.int .i64 0, .int .i64 0, .int .i64 0, .int .i64 0] #[.int .i64 x.contract, .int .i64 x.hour, .int .i64 x.sent, .int .i64 x.amount])
  case first =>
    have Q5 := Lib.hid (Q.out.gr (Gr.refl _).drew)
    have QB := Lib.hid ((Q.out.blk #[.int .i64 0, .int .i64 0, .int .i64 0, .int .i64 0]).gr (Gr.refl _).drew)
    have k5 : w5.drew.cell? ⟨C, 5, none⟩ = some (.int .i64 y.src) := rb_cell (j := 5) Q5.out.con rfl
    have k6 : w5.drew.cell? ⟨C, 6, none⟩ = some (.int .i64 y.dst) := rb_cell (j := 6) Q5.out.con rfl
    have l5 : ((w5.alloc (.cells #[.int .i64 0, .int .i64 0, .int .i64 0, .int .i64 0] 120)).drew).cell? ⟨C, 5, none⟩ = some (.int .i64 y.src) := rb_cell (j := 5) QB.out.con rfl
    have l6 : ((w5.alloc (.cells #[.int .i64 0, .int .i64 0, .int .i64 0, .int .i64 0] 120)).drew).cell? ⟨C, 6, none⟩ = some (.int .i64 y.dst) := rb_cell (j := 6) QB.out.con rfl
    have hw1 : IntKind.i64.wrap (y.dst - y.src) = y.dst - y.src := IntWalk.i64_in _ (by omega)
    obtain ⟨v, hv⟩ : ∃ v, v = y.dst - y.src + 1 := ⟨_, rfl⟩
    have hw2 : IntKind.i64.wrap (y.dst - y.src + 1) = v := by rw [hv]; exact IntWalk.i64_in _ (by omega)
    obtain ⟨m1, hm1⟩ : ∃ m1, (if v < 3 then v else 3) = m1 := ⟨_, rfl⟩
    obtain ⟨m2, hm2⟩ : ∃ m2, (if 1 < m1 then m1 else 1) = m2 := ⟨_, rfl⟩
    have u1 : m1 ≤ 3 := by rw [← hm1]; split <;> omega
    have u2 : m2 ≤ 3 := by rw [← hm2]; split <;> omega
    clear hv
    go_wp2_with fail
    have nq := Nat.ne_of_lt hCl
    go_region_held3 (fun w' => w'.cell? ⟨C, 5, none⟩ = some (.int .i64 y.src) ∧ w'.cell? ⟨C, 6, none⟩ = some (.int .i64 y.dst))
      (first
        | with_reducible exact ⟨k5, k6⟩
        | with_reducible exact ⟨l5, l6⟩
        | with_reducible exact ⟨g5, g6⟩
        | with_reducible exact ⟨((Gr.refl _).alloc _).has (by with_reducible assumption), ((Gr.refl _).alloc _).has (by with_reducible assumption)⟩
        | with_reducible exact ⟨put_far (put_far (put_far (put_far (by with_reducible assumption) (Or.inl nq)) (Or.inl nq)) (Or.inl nq)) (Or.inl nq), put_far (put_far (put_far (put_far (by with_reducible assumption) (Or.inl nq)) (Or.inl nq)) (Or.inl nq)) (Or.inl nq)⟩
        | with_reducible exact ⟨put_far (put_far (put_far (put_far (((Gr.refl _).alloc _).has (by with_reducible assumption)) (Or.inl nr)) (Or.inl nr)) (Or.inl nr)) (Or.inl nr), put_far (put_far (put_far (put_far (((Gr.refl _).alloc _).has (by with_reducible assumption)) (Or.inl nr)) (Or.inl nr)) (Or.inl nr)) (Or.inl nr)⟩
        | go_keep)
      (first
      | (go_at_call 38; with_reducible refine (l01Next_any _ Q5.out.dr (by omega)).mono ?_; rintro e w6 ⟨t, rfl, ht, hd6, hc6⟩; obtain ⟨t0, t1⟩ := ht.top (m := 3) (by omega) (by omega); have hwt : IntKind.i64.wrap (y.src + t) = y.src + t := IntWalk.i64_in _ (by omega); have qh := Q5.out.next hRS hCS hd6 hc6; have g5 : w6.cell? ⟨C, 5, none⟩ = some (.int .i64 y.src) := rb_cell (j := 5) qh.con rfl; have g6 : w6.cell? ⟨C, 6, none⟩ = some (.int .i64 y.dst) := rb_cell (j := 6) qh.con rfl; have nr := Nat.ne_of_lt (rb_lt qh.con); have Q6 := Lib.hid qh; clear qh ht hd6 hc6)
      | (go_at_call 38; with_reducible refine (l01Next_any _ QB.out.st.dr (by omega)).mono ?_; rintro e w6 ⟨t, rfl, ht, hd6, hc6⟩; obtain ⟨t0, t1⟩ := ht.top (m := 3) (by omega) (by omega); have hwt : IntKind.i64.wrap (y.src + t) = y.src + t := IntWalk.i64_in _ (by omega); have qh := QB.out.next hRS hCS (by omega) hd6 hc6; have g5 : w6.cell? ⟨C, 5, none⟩ = some (.int .i64 y.src) := rb_cell (j := 5) qh.con rfl; have g6 : w6.cell? ⟨C, 6, none⟩ = some (.int .i64 y.dst) := rb_cell (j := 6) qh.con rfl; have h0 := rb_cell (j := 0) qh.st.blk rfl; have h1 := rb_cell (j := 1) qh.st.blk rfl; have h2 := rb_cell (j := 2) qh.st.blk rfl; have h3 := rb_cell (j := 3) qh.st.blk rfl; have p0 := rb_frozen qh.st.blk 0; have p1 := rb_frozen qh.st.blk 1; have p2 := rb_frozen qh.st.blk 2; have p3 := rb_frozen qh.st.blk 3; have Q6 := Lib.hid qh; clear qh ht hd6 hc6))
    all_goals
      go_wp2_with fail
      go_meet
      case rel =>
        first
          | exact ⟨_, ⟨k, y.src + t, 0, 0⟩, rfl, ⟨by omega, by omega, by omega⟩, (((Q6.out.put (by omega) (by omega) (by omega) (by omega) (by omega) 0 (.int .i64 k) rfl).put (by omega) (by omega) (by omega) (by omega) (by omega) 1 (.int .i64 (y.src + t)) rfl).put (by omega) (by omega) (by omega) (by omega) (by omega) 2 (.int .i64 0) rfl).put (by omega) (by omega) (by omega) (by omega) (by omega) 3 (.int .i64 0) rfl⟩
          | exact ⟨_, ⟨k, y.src + t, 0, 0⟩, rfl, ⟨rb_lt Q6.out.res, rb_lt Q6.out.con, Q6.out.dr.lt⟩, Q6.out.blk _⟩
  obtain ⟨X, x, rfl, ⟨hRX, hCX, hSX⟩, q⟩ := hcut
  clear Q
  have HY := Lib.hid q
  clear q
  go_upto_region 6 with fail
  go_cut [] from 39 to 48 (fun wx => ∃ x : GNom, Fill2 w0 w wx S R C X #[.int .i64 y.shipper, .int .i64 y.entry, .int .i64 y.exit, .int .i64 y.amount, .int .i64 y.cls, .int .i64 y.src, .int .i64 y.dst, .int .i64 y.price] #[.int .i64 0, .int .i64 0, .int .i64 0, .int .i64 0] #[.int .i64 x.contract, .int .i64 x.hour, .int .i64 x.sent, .int .i64 x.amount])
  case first =>
    have Q5 := Lib.hid (HY.out.gr (Gr.refl _).drew)
    have k1 := rb_cell (j := 1) Q5.out.st.blk rfl
    obtain ⟨a', hwa⟩ : ∃ a', IntKind.i64.wrap (x.hour - 2) = a' := ⟨_, rfl⟩
    go_wp2_with fail
    go_region_with (go_at_call 38; with_reducible refine (l01Next_any 9 Q5.out.st.dr (by omega)).mono ?_; rintro e w6 ⟨t, rfl, ht, hd6, hc6⟩; obtain ⟨t', hwt⟩ : ∃ t', IntKind.i64.wrap (a' - t) = t' := ⟨_, rfl⟩; obtain ⟨m, hm⟩ : ∃ m, (if from_ < t' then t' else from_) = m := ⟨_, rfl⟩; have qh := Q5.out.next hRS hCS (by omega) hd6 hc6; have g1 := rb_cell (j := 1) qh.st.blk rfl; have g2 := rb_cell (j := 2) qh.st.blk rfl; have p2 := rb_frozen qh.st.blk 2; have Q6 := Lib.hid qh; clear qh ht hd6 hc6)
    all_goals
      go_wp2_with fail
      go_meet
      case rel => exact ⟨⟨x.contract, x.hour, m, x.amount⟩, Q6.out.put (by omega) (by omega) (by omega) (by omega) (by omega) 2 (.int .i64 m) rfl⟩
  obtain ⟨x', q⟩ := hcut
  clear HY
  have HX := Lib.hid q
  have c3 := rb_cell (j := 3) q.con rfl
  clear q
  obtain ⟨a', hwa⟩ : ∃ a', IntKind.i64.wrap (y.amount + 1) = a' := ⟨_, rfl⟩
  obtain ⟨m', hm⟩ : ∃ m', (if 1 < a' then a' else 1) = m' := ⟨_, rfl⟩
  have hmb : m' ≤ 1000000000 := by
    have : a' = y.amount + 1 := by rw [← hwa]; exact IntWalk.i64_in _ (by omega)
    rw [← hm]; split <;> omega
  go_upto_region 7 with fail
  go_wp2_with fail
  refine (l01Next_any m' HX.out.st.dr hmb).mono ?_
  rintro e w7 ⟨t, rfl, ht, hd7, hc7⟩
  have q := HX.out.next hRS hCS (by omega) hd7 hc7
  have k3 := rb_cell (j := 3) q.st.blk rfl
  have f3 := rb_frozen q.st.blk 3
  have HZ := Lib.hid (q.put (by omega) (by omega) (by omega) (by omega) (by omega) 3 (.int .i64 t) (cs' := #[.int .i64 x'.contract, .int .i64 x'.hour, .int .i64 x'.sent, .int .i64 t]) rfl)
  clear q ht hd7 hc7 HX
  go_upto_region 8 with fail
  generalize World.setCell _ _ _ = w8 at HZ ⊢
  obtain ⟨x, HW⟩ : ∃ x : GNom, Hid (Fill2 w0 w w8 S R C X #[.int .i64 y.shipper, .int .i64 y.entry, .int .i64 y.exit, .int .i64 y.amount, .int .i64 y.cls, .int .i64 y.src, .int .i64 y.dst, .int .i64 y.price] #[.int .i64 0, .int .i64 0, .int .i64 0, .int .i64 0] #[.int .i64 x.contract, .int .i64 x.hour, .int .i64 x.sent, .int .i64 x.amount]) := ⟨⟨x'.contract, x'.hour, x'.sent, t⟩, HZ⟩
  clear HZ hwa hm hmb
  go_wp2_with fail
  refine (l01Next_any 40 HW.out.st.dr (by omega)).mono ?_
  rintro e w11 ⟨tt, rfl, htt, hd11, hc11⟩
  have Q11 := Lib.hid (HW.out.next hRS hCS (by omega) hd11 hc11)
  have hS11 := Q11.out.st.dr.lt
  have hX11 := rb_lt Q11.out.st.blk
  have hC11 := rb_lt Q11.out.con
  clear htt hd11 hc11 HW
  go_upto_block 0 with fail
  go_cut [] from 57 to 105 (fun wx => ∃ x : GNom, Fill2 w0 w wx S R C X #[.int .i64 y.shipper, .int .i64 y.entry, .int .i64 y.exit, .int .i64 y.amount, .int .i64 y.cls, .int .i64 y.src, .int .i64 y.dst, .int .i64 y.price] #[.int .i64 0, .int .i64 0, .int .i64 0, .int .i64 0] #[.int .i64 x.contract, .int .i64 x.hour, .int .i64 x.sent, .int .i64 x.amount])
  case first =>
    by_cases h0 : tt = 0
    · subst h0
      go_wp2_with fail
      have hg : Gr w11 (w11.alloc (.cells #[.int .i64 (-1), .int .i64 (n3 : Int)] 2)) := (Gr.refl _).alloc _
      have QG := Lib.hid (Q11.out.gr hg)
      refine (l01Next_any 2 QG.out.st.dr (by omega)).mono ?_
      rintro e w12 ⟨z, rfl, hz, hd12, hc12⟩
      obtain ⟨z0, z1⟩ := hz.lt (by omega)
      obtain ⟨v, _, hv⟩ := lit_pick [.int .i64 (-1), .int .i64 (n3 : Int)] (zs := [-1, (n3 : Int)]) rfl hc12 (by omega) z0 (by simpa using z1)
      have QH := Lib.hid (QG.out.next hRS hCS (by omega) hd12 hc12)
      have k2 := rb_cell (j := 0) QH.out.st.blk rfl
      have f2 := rb_frozen QH.out.st.blk 0
      clear hz hd12 hc12 QG hg
      go_wp2_with fail
      go_meet
      case rel => exact ⟨⟨v, x.hour, x.sent, x.amount⟩, QH.out.put (by omega) (by omega) (by omega) (by omega) (by omega) 0 (.int .i64 v) rfl⟩
    have g0 : (tt == 0) = false := by simp [h0]
    by_cases h1 : tt = 1
    · subst h1
      obtain ⟨d', hwd⟩ : ∃ d', IntKind.i64.wrap (y.dst + 1) = d' := ⟨_, rfl⟩
      have QE := Lib.hid (Q11.out.gr (Gr.refl _).drew)
      have QG := Lib.hid ((Q11.out.gr ((Gr.refl _).alloc (.cells #[.int .i64 (-1), .int .i64 d', .int .i64 48] 2))).gr (Gr.refl _).drew)
      have kE6n := rb_cell (j := 6) QE.out.con rfl
      have kG6n := rb_cell (j := 6) QG.out.con rfl
      go_wp2_with fail
      go_region_with (first | (go_at_call 38; with_reducible refine (l01Next_any 3 QG.out.st.dr (by omega)).mono ?_; rintro e w12 ⟨z, rfl, hz, hd12, hc12⟩; obtain ⟨z0, z1⟩ := hz.lt (by omega); obtain ⟨v, _, hv⟩ := lit_pick [.int .i64 (-1), .int .i64 d', .int .i64 48] (zs := [-1, d', 48]) rfl (((Gr.refl _).drew.chg _).trans hc12) (by omega) z0 (by simpa using z1); have qh := QG.out.next hRS hCS (by omega) hd12 hc12; have kC6n := rb_cell (j := 6) qh.con rfl; have k2 := rb_cell (j := 1) qh.st.blk rfl; have f2 := rb_frozen qh.st.blk 1; have QH := Lib.hid qh; clear hz hd12 hc12 qh) | (go_at_call 38; with_reducible refine (l01Next_any 3 QE.out.st.dr (by omega)).mono ?_; rintro e w12 ⟨z, rfl, hz, hd12, hc12⟩; obtain ⟨z0, z1⟩ := hz.lt (by omega); have qh := QE.out.next hRS hCS (by omega) hd12 hc12; have kC6n := rb_cell (j := 6) qh.con rfl; obtain ⟨v, kv⟩ : ∃ v : Int, (w12.alloc (.cells #[.int .i64 (-1), .int .i64 d', .int .i64 48] 2)).cell? ⟨w12.heap.size, z.toNat, none⟩ = some (.int .i64 v) := ⟨_, lit_cell w12 [.int .i64 (-1), .int .i64 d', .int .i64 48] [-1, d', 48] rfl z0 (by simpa using z1)⟩; have QH := Lib.hid (qh.gr ((Gr.refl _).alloc (.cells #[.int .i64 (-1), .int .i64 d', .int .i64 48] 2))); have kD6n := rb_cell (j := 6) QH.out.con rfl; have k2 := rb_cell (j := 1) QH.out.st.blk rfl; have f2 := rb_frozen QH.out.st.blk 1; clear hz hd12 hc12 qh))
      all_goals
        go_wp2_with fail
        go_meet
        case rel => exact ⟨⟨x.contract, v, x.sent, x.amount⟩, QH.out.put (by omega) (by omega) (by omega) (by omega) (by omega) 1 (.int .i64 v) rfl⟩
    have g1 : (tt == 1) = false := by simp [h1]
    by_cases h2 : tt = 2
    · subst h2
      obtain ⟨d', hwd⟩ : ∃ d', IntKind.i64.wrap (x.hour - 1) = d' := ⟨_, rfl⟩
      obtain ⟨d2', hwd2⟩ : ∃ d', IntKind.i64.wrap (x.hour - 2) = d' := ⟨_, rfl⟩
      have QE := Lib.hid (Q11.out.gr (Gr.refl _).drew)
      have QG := Lib.hid ((Q11.out.gr ((Gr.refl _).alloc (.cells #[.int .i64 d', .int .i64 d2', .int .i64 (-48), .int .i64 (-49)] 2))).gr (Gr.refl _).drew)
      have kE1k := rb_cell (j := 1) QE.out.st.blk rfl
      have kG1k := rb_cell (j := 1) QG.out.st.blk rfl
      go_wp2_with fail
      go_region_with (first | (go_at_call 38; with_reducible refine (l01Next_any 4 QG.out.st.dr (by omega)).mono ?_; rintro e w12 ⟨z, rfl, hz, hd12, hc12⟩; obtain ⟨z0, z1⟩ := hz.lt (by omega); obtain ⟨v, _, hv⟩ := lit_pick [.int .i64 d', .int .i64 d2', .int .i64 (-48), .int .i64 (-49)] (zs := [d', d2', -48, -49]) rfl (((Gr.refl _).drew.chg _).trans hc12) (by omega) z0 (by simpa using z1); have qh := QG.out.next hRS hCS (by omega) hd12 hc12; have kC1k := rb_cell (j := 1) qh.st.blk rfl; have k2 := rb_cell (j := 2) qh.st.blk rfl; have f2 := rb_frozen qh.st.blk 2; have QH := Lib.hid qh; clear hz hd12 hc12 qh) | (go_at_call 38; with_reducible refine (l01Next_any 4 QE.out.st.dr (by omega)).mono ?_; rintro e w12 ⟨z, rfl, hz, hd12, hc12⟩; obtain ⟨z0, z1⟩ := hz.lt (by omega); have qh := QE.out.next hRS hCS (by omega) hd12 hc12; have kC1k := rb_cell (j := 1) qh.st.blk rfl; obtain ⟨v, kv⟩ : ∃ v : Int, (w12.alloc (.cells #[.int .i64 d', .int .i64 d2', .int .i64 (-48), .int .i64 (-49)] 2)).cell? ⟨w12.heap.size, z.toNat, none⟩ = some (.int .i64 v) := ⟨_, lit_cell w12 [.int .i64 d', .int .i64 d2', .int .i64 (-48), .int .i64 (-49)] [d', d2', -48, -49] rfl z0 (by simpa using z1)⟩; have QH := Lib.hid (qh.gr ((Gr.refl _).alloc (.cells #[.int .i64 d', .int .i64 d2', .int .i64 (-48), .int .i64 (-49)] 2))); have kD1k := rb_cell (j := 1) QH.out.st.blk rfl; have k2 := rb_cell (j := 2) QH.out.st.blk rfl; have f2 := rb_frozen QH.out.st.blk 2; clear hz hd12 hc12 qh))
      all_goals
        go_wp2_with fail
        go_meet
        case rel => exact ⟨⟨x.contract, x.hour, v, x.amount⟩, QH.out.put (by omega) (by omega) (by omega) (by omega) (by omega) 2 (.int .i64 v) rfl⟩
    have g2 : (tt == 2) = false := by simp [h2]
    by_cases h3 : tt = 3
    · subst h3
      obtain ⟨d', hwd⟩ : ∃ d', IntKind.i64.wrap (y.amount + 1) = d' := ⟨_, rfl⟩
      have QE := Lib.hid (Q11.out.gr (Gr.refl _).drew)
      have QG := Lib.hid ((Q11.out.gr ((Gr.refl _).alloc (.cells #[.int .i64 (-1), .int .i64 y.amount, .int .i64 d'] 2))).gr (Gr.refl _).drew)
      have kE3n := rb_cell (j := 3) QE.out.con rfl
      have kG3n := rb_cell (j := 3) QG.out.con rfl
      go_wp2_with fail
      go_region_with (first | (go_at_call 38; with_reducible refine (l01Next_any 3 QG.out.st.dr (by omega)).mono ?_; rintro e w12 ⟨z, rfl, hz, hd12, hc12⟩; obtain ⟨z0, z1⟩ := hz.lt (by omega); obtain ⟨v, _, hv⟩ := lit_pick [.int .i64 (-1), .int .i64 y.amount, .int .i64 d'] (zs := [-1, y.amount, d']) rfl (((Gr.refl _).drew.chg _).trans hc12) (by omega) z0 (by simpa using z1); have qh := QG.out.next hRS hCS (by omega) hd12 hc12; have kC3n := rb_cell (j := 3) qh.con rfl; have k2 := rb_cell (j := 3) qh.st.blk rfl; have f2 := rb_frozen qh.st.blk 3; have QH := Lib.hid qh; clear hz hd12 hc12 qh) | (go_at_call 38; with_reducible refine (l01Next_any 3 QE.out.st.dr (by omega)).mono ?_; rintro e w12 ⟨z, rfl, hz, hd12, hc12⟩; obtain ⟨z0, z1⟩ := hz.lt (by omega); have qh := QE.out.next hRS hCS (by omega) hd12 hc12; have kC3n := rb_cell (j := 3) qh.con rfl; obtain ⟨v, kv⟩ : ∃ v : Int, (w12.alloc (.cells #[.int .i64 (-1), .int .i64 y.amount, .int .i64 d'] 2)).cell? ⟨w12.heap.size, z.toNat, none⟩ = some (.int .i64 v) := ⟨_, lit_cell w12 [.int .i64 (-1), .int .i64 y.amount, .int .i64 d'] [-1, y.amount, d'] rfl z0 (by simpa using z1)⟩; have QH := Lib.hid (qh.gr ((Gr.refl _).alloc (.cells #[.int .i64 (-1), .int .i64 y.amount, .int .i64 d'] 2))); have kD3n := rb_cell (j := 3) QH.out.con rfl; have k2 := rb_cell (j := 3) QH.out.st.blk rfl; have f2 := rb_frozen QH.out.st.blk 3; clear hz hd12 hc12 qh))
      all_goals
        go_wp2_with fail
        go_meet
        case rel => exact ⟨⟨x.contract, x.hour, x.sent, v⟩, QH.out.put (by omega) (by omega) (by omega) (by omega) (by omega) 3 (.int .i64 v) rfl⟩
    have g3 : (tt == 3) = false := by simp [h3]
    go_wp2_with fail
    go_meet
    case rel => exact ⟨x, Q11.out⟩
  obtain ⟨x, q16⟩ := hcut
  clear Q11
  rename World => w16
  have Q16 := Lib.hid q16
  have k0 := rb_cell (j := 0) q16.st.blk rfl
  have r0 := rb_cell (j := 0) q16.st.res rfl
  have f0 := rb_frozen q16.st.res 0
  have k1 := rb_cell (j := 1) q16.st.blk rfl
  have r1 := rb_cell (j := 1) q16.st.res rfl
  have f1 := rb_frozen q16.st.res 1
  have k2 := rb_cell (j := 2) q16.st.blk rfl
  have r2 := rb_cell (j := 2) q16.st.res rfl
  have f2 := rb_frozen q16.st.res 2
  have k3 := rb_cell (j := 3) q16.st.blk rfl
  have r3 := rb_cell (j := 3) q16.st.res rfl
  have f3 := rb_frozen q16.st.res 3
  clear q16
  go_wp2_with fail
  refine bodyPost_ret (results_cell_row Try.results113 _ _ R 120 #[.int .i64 _, .int .i64 _, .int .i64 _, .int .i64 _] (0, 0) _ rfl (by first | (simp [World.setCell, Array.getElem?_modify, Q16.out.st.res]; done) | (simp [World.setCell, Array.getElem?_modify, Q16.out.st.res]; exact ⟨rfl, rfl, rfl, rfl⟩)) Try.underlying120 rfl (by kernel_rfl)) rfl ⟨x, rfl, ?_, ?_⟩
  · exact ((((Q16.out.st.dr.set hRw0 hRS).set hRw0 hRS).set hRw0 hRS).set hRw0 hRS)
  · exact ((((Q16.out.st.ch.fresh hRw).fresh hRw).fresh hRw).fresh hRw)
end Go.Proofs.Ytelhmfgfjlpkaaa
