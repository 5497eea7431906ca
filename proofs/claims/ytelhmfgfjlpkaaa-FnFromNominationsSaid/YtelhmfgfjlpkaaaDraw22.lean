/-
  Draws: a book. Printed by gen_draw22.py.
-/
import Derived.Test.YtelhmfgfjlpkaaaDrawC
import Derived.Test.YtelhmfgfjlpkaaaDraw21
import Derived.Test.YtelhmfgfjlpkaaaNom3
import Derived.Deep.Cut
import Derived.Deep.CutRange
import Derived.Deep.RegionHeld3
set_option linter.unusedSimpArgs false
set_option linter.unusedVariables false
namespace Go.Proofs.Ytelhmfgfjlpkaaa
open Go.ChangeShapes Go.WideShapes Go.ChangeAt Go.RowKit

theorem spIsContract_any {A1 A2 : Option Addr} {n1 c1 n2 c2 : Nat} (n : GNet) (y : GCon) (w : World) (hA : NetAt w A1 n1 c1 A2 n2 c2 n) :
    Calls Try.prog 123 #[.agg #[.slice A1 n1 c1, .slice A2 n2 c2], .agg #[.int .i64 y.shipper, .int .i64 y.entry, .int .i64 y.exit, .int .i64 y.amount, .int .i64 y.cls, .int .i64 y.src, .int .i64 y.dst, .int .i64 y.price]] w fun e w' => e = .returned (.bool (netOk n && conOk n1 y)) ∧ Gr w w' := by
  have hm1 := hA.m1
  have HA := Lib.hid hA
  clear hA
  go_enter Try.func123, Try.ntmps123
  go_wp2_with fail
  have hg0 : Gr w ((w.alloc (.cells #[.slice A1 n1 c1, .slice A2 n2 c2] 27)).alloc (.cells #[.int .i64 y.shipper, .int .i64 y.entry, .int .i64 y.exit, .int .i64 y.amount, .int .i64 y.cls, .int .i64 y.src, .int .i64 y.dst, .int .i64 y.price] 61)) := ((Gr.refl _).alloc _).alloc _
  obtain ⟨w1, hw1⟩ : ∃ W, W = (w.alloc (.cells #[.slice A1 n1 c1, .slice A2 n2 c2] 27)).alloc (.cells #[.int .i64 y.shipper, .int .i64 y.entry, .int .i64 y.exit, .int .i64 y.amount, .int .i64 y.cls, .int .i64 y.src, .int .i64 y.dst, .int .i64 y.price] 61) := ⟨_, rfl⟩
  rw [← hw1] at hg0 ⊢
  have b0 : w1.cell? ⟨w.heap.size, 0, none⟩ = some (.slice A1 n1 c1) := by rw [hw1]; simp [go_sem]
  have b1 : w1.cell? ⟨w.heap.size, 1, none⟩ = some (.slice A2 n2 c2) := by rw [hw1]; simp [go_sem]
  have z0 : w1.cell? ⟨w.heap.size + 1, 0, none⟩ = some (.int .i64 y.shipper) := by rw [hw1]; simp [go_sem]
  have z1 : w1.cell? ⟨w.heap.size + 1, 1, none⟩ = some (.int .i64 y.entry) := by rw [hw1]; simp [go_sem]
  have z2 : w1.cell? ⟨w.heap.size + 1, 2, none⟩ = some (.int .i64 y.exit) := by rw [hw1]; simp [go_sem]
  have z3 : w1.cell? ⟨w.heap.size + 1, 3, none⟩ = some (.int .i64 y.amount) := by rw [hw1]; simp [go_sem]
  have z4 : w1.cell? ⟨w.heap.size + 1, 4, none⟩ = some (.int .i64 y.cls) := by rw [hw1]; simp [go_sem]
  have z5 : w1.cell? ⟨w.heap.size + 1, 5, none⟩ = some (.int .i64 y.src) := by rw [hw1]; simp [go_sem]
  have z6 : w1.cell? ⟨w.heap.size + 1, 6, none⟩ = some (.int .i64 y.dst) := by rw [hw1]; simp [go_sem]
  have z7 : w1.cell? ⟨w.heap.size + 1, 7, none⟩ = some (.int .i64 y.price) := by rw [hw1]; simp [go_sem]
  clear hw1
  refine (spIsNetwork_any _ _ _ _ _ _ n _ (HA.out.gr hg0)).mono ?_
  rintro e w2 ⟨rfl, hg2⟩
  have Hg2 := Lib.hid (hg0.trans hg2)
  replace b0 := hg2.has b0
  replace b1 := hg2.has b1
  replace z0 := hg2.has z0
  replace z1 := hg2.has z1
  replace z2 := hg2.has z2
  replace z3 := hg2.has z3
  replace z4 := hg2.has z4
  replace z5 := hg2.has z5
  replace z6 := hg2.has z6
  replace z7 := hg2.has z7
  clear hg0 hg2
  cases hn : netOk n with
  | false =>
    have Hn := Lib.hid hn
    clear hn
    go_wp2_with fail
    go_ret
    exact ⟨ret_bool (by rw [Hn.out]; rfl), Hg2.out⟩
  | true =>
    have Hn := Lib.hid hn
    clear hn
    go_wp2_with fail
    refine (l20Is_any y _ hm1).mono ?_
    rintro e w3 ⟨rfl, hg3⟩
    go_wp2_with fail
    go_ret
    exact ⟨ret_bool (by rw [Hn.out, Bool.true_and]), Hg2.out.trans hg3⟩
theorem spIsBook_any {A1 A2 A3 : Option Addr} {n1 c1 n2 c2 n3 c3 : Nat} (n : GNet) (l : List GCon) (w : World) (hA : NetAt w A1 n1 c1 A2 n2 c2 n) (hS : SlAt w 8 A3 n3 c3 (l.flatMap GCon.cells)) :
    Calls Try.prog 124 #[.agg #[.slice A1 n1 c1, .slice A2 n2 c2], .slice A3 n3 c3] w fun e w' => e = .returned (.bool (netOk n && bookOk n1 l)) ∧ Gr w w' := by
  have hm1 := hA.m1
  have HA := Lib.hid hA
  have HS := Lib.hid hS
  clear hA hS
  go_enter Try.func124, Try.ntmps124
  go_wp2_with fail
  have hg0 : Gr w (w.alloc (.cells #[.slice A1 n1 c1, .slice A2 n2 c2] 27)) := (Gr.refl _).alloc _
  obtain ⟨w1, hw1⟩ : ∃ W, W = w.alloc (.cells #[.slice A1 n1 c1, .slice A2 n2 c2] 27) := ⟨_, rfl⟩
  rw [← hw1] at hg0 ⊢
  have b0 : w1.cell? ⟨w.heap.size, 0, none⟩ = some (.slice A1 n1 c1) := by rw [hw1]; simp [go_sem]
  have b1 : w1.cell? ⟨w.heap.size, 1, none⟩ = some (.slice A2 n2 c2) := by rw [hw1]; simp [go_sem]
  clear hw1
  refine (spIsNetwork_any _ _ _ _ _ _ n _ (HA.out.gr hg0)).mono ?_
  rintro e w2 ⟨rfl, hg2⟩
  have Hg2 := Lib.hid (hg0.trans hg2)
  replace b0 := hg2.has b0
  replace b1 := hg2.has b1
  clear hg0 hg2
  cases hn : netOk n with
  | false =>
    have Hn := Lib.hid hn
    clear hn
    go_wp2_with fail
    go_ret
    exact ⟨ret_bool (by rw [Hn.out]; rfl), Hg2.out⟩
  | true =>
    have Hn := Lib.hid hn
    clear hn
    go_wp2_with fail
    refine (l20Book_any l _ (HS.out.gr Hg2.out) hm1).mono ?_
    rintro e w3 ⟨rfl, hg3⟩
    go_wp2_with fail
    go_ret
    exact ⟨ret_bool (by rw [Hn.out, Bool.true_and]), Hg2.out.trans hg3⟩
theorem spIsNomination_any {A1 A2 A3 : Option Addr} {n1 c1 n2 c2 n3 c3 : Nat} (n : GNet) (l : List GCon) (x : GNom) (w : World) (hA : NetAt w A1 n1 c1 A2 n2 c2 n) (hS : SlAt w 8 A3 n3 c3 (l.flatMap GCon.cells)) :
    Calls Try.prog 114 #[.agg #[.slice A1 n1 c1, .slice A2 n2 c2], .slice A3 n3 c3, .agg #[.int .i64 x.contract, .int .i64 x.hour, .int .i64 x.sent, .int .i64 x.amount]] w fun e w' => e = .returned (.bool (netOk n && bookOk n1 l && nomOk l x)) ∧ Gr w w' := by
  have HA := Lib.hid hA
  have HS := Lib.hid hS
  clear hA hS
  go_enter Try.func114, Try.ntmps114
  go_wp2_with fail
  have hg0 : Gr w ((w.alloc (.cells #[.slice A1 n1 c1, .slice A2 n2 c2] 27)).alloc (.cells #[.int .i64 x.contract, .int .i64 x.hour, .int .i64 x.sent, .int .i64 x.amount] 120)) := ((Gr.refl _).alloc _).alloc _
  obtain ⟨w1, hw1⟩ : ∃ W, W = (w.alloc (.cells #[.slice A1 n1 c1, .slice A2 n2 c2] 27)).alloc (.cells #[.int .i64 x.contract, .int .i64 x.hour, .int .i64 x.sent, .int .i64 x.amount] 120) := ⟨_, rfl⟩
  rw [← hw1] at hg0 ⊢
  have b0 : w1.cell? ⟨w.heap.size, 0, none⟩ = some (.slice A1 n1 c1) := by rw [hw1]; simp [go_sem]
  have b1 : w1.cell? ⟨w.heap.size, 1, none⟩ = some (.slice A2 n2 c2) := by rw [hw1]; simp [go_sem]
  have z0 : w1.cell? ⟨w.heap.size + 1, 0, none⟩ = some (.int .i64 x.contract) := by rw [hw1]; simp [go_sem]
  have z1 : w1.cell? ⟨w.heap.size + 1, 1, none⟩ = some (.int .i64 x.hour) := by rw [hw1]; simp [go_sem]
  have z2 : w1.cell? ⟨w.heap.size + 1, 2, none⟩ = some (.int .i64 x.sent) := by rw [hw1]; simp [go_sem]
  have z3 : w1.cell? ⟨w.heap.size + 1, 3, none⟩ = some (.int .i64 x.amount) := by rw [hw1]; simp [go_sem]
  clear hw1
  refine (spIsBook_any n l _ (HA.out.gr hg0) (HS.out.gr hg0)).mono ?_
  rintro e w2 ⟨rfl, hg2⟩
  have Hg2 := Lib.hid (hg0.trans hg2)
  replace z0 := hg2.has z0
  replace z1 := hg2.has z1
  replace z2 := hg2.has z2
  replace z3 := hg2.has z3
  clear hg0 hg2 b0 b1
  cases hn : (netOk n && bookOk n1 l) with
  | false =>
    have Hn := Lib.hid hn
    clear hn
    go_wp2_with fail
    go_ret
    exact ⟨ret_bool (by rw [Hn.out]; rfl), Hg2.out⟩
  | true =>
    have Hn := Lib.hid hn
    have Hb : Hid (bookOk n1 l = true) := Lib.hid (by simp at hn; exact hn.2)
    clear hn
    go_wp2_with fail
    refine (l21Is_any n1 l x _ (HS.out.gr Hg2.out) Hb.out).mono ?_
    rintro e w3 ⟨rfl, hg3⟩
    go_wp2_with fail
    go_ret
    exact ⟨ret_bool (by rw [Hn.out, Bool.true_and]), Hg2.out.trans hg3⟩
/-- The contracts of a drawn book. -/
theorem drawn_book (ls : List {y : GCon // DrB y}) : ls.flatMap (fun z : {y : GCon // DrB y} => z.1.cells) = (ls.map (·.1)).flatMap GCon.cells := by
  induction ls with
  | nil => rfl
  | cons x ls ih => rw [List.flatMap_cons, List.map_cons, List.flatMap_cons, ih]
set_option maxHeartbeats 6400000 in
set_option maxRecDepth 100000 in
theorem l20Draw_any {w0 w : World} {S : Nat} (h : Drw w0 w S) :
    Calls Try.prog 112 #[.pointer (some ⟨S, 0, none⟩)] w fun e w' => ∃ A1 n1 c1 A2 n2 c2 n A3 n3 c3, ∃ ls : List {y : GCon // DrB y}, e = .returned (.tuple #[.agg #[.slice A1 n1 c1, .slice A2 n2 c2], .slice A3 n3 c3]) ∧ OwnNet w' w.heap.size A1 n1 c1 A2 n2 c2 n ∧ n3 ≤ 40 ∧ w'.ownsRow w.heap.size 61 8 (.slice A3 n3 c3) n3 (ls.flatMap (fun z : {y : GCon // DrB y} => z.1.cells)) ∧ Drw w0 w' S ∧ Chg (fun k => k = S) w w' := by
  obtain ⟨i0, hi0, hz0, hz1, hz2⟩ := info_parts infoContract
  have hlt := h.lt
  have hbw := h.gr.size
  have H := Lib.hid h
  clear h
  go_enter Try.func112, Try.ntmps112
  go_wp2_with fail
  generalize hw1 : World.alloc w _ = w1
  have hR : w1.heap[w.heap.size]? = some (.cells #[.slice none 0 0, .slice none 0 0] 27 (0, 0)) := by rw [← hw1]; exact heap_alloc_new w _
  have hg1 : Gr w w1 := by rw [← hw1]; exact (Gr.refl _).alloc _
  have hs1 : w1.heap.size = w.heap.size + 1 := by rw [← hw1]; simp
  obtain ⟨R, hRe⟩ : ∃ R, R = w.heap.size := ⟨_, rfl⟩
  rw [← hRe] at hR ⊢
  have hSR : S < R := by omega
  have hRw : w.heap.size ≤ R := by omega
  have hR1 : w1.heap.size = R + 1 := by omega
  have hRw0 : w0.heap.size ≤ R := by omega
  have HR := Lib.hid hR
  clear hw1 hRe hR
  refine (l05DrawChord_any (H.out.grow hg1)).mono ?_
  rintro e w2 ⟨A1, n1, c1, A2, n2, c2, n, xx, rfl, hown, ⟨hn7, hn9⟩, hd2, hc2⟩
  have hR2 := rb_chg HR.out hc2 (by omega)
  have hcc2 := (hg1.chg (fun k => k = S)).trans hc2
  have hs2 := rb_lt hR2
  have hM3 : (w2.alloc (.cells #[.slice A1 n1 c1, .slice A2 n2 c2] 27)).heap[w2.heap.size]? = some (.cells #[.slice A1 n1 c1, .slice A2 n2 c2] 27 (0, 0)) := heap_alloc_new w2 _
  obtain ⟨w4, hw4⟩ : ∃ W, W = w2.alloc (.cells #[.slice A1 n1 c1, .slice A2 n2 c2] 27) := ⟨_, rfl⟩
  have hg3 : Gr w2 w4 := by rw [hw4]; exact (Gr.refl _).alloc _
  obtain ⟨M, hM⟩ : ∃ M, M = w2.heap.size := ⟨_, rfl⟩
  rw [← hM, ← hw4] at hM3
  have hMR : R < M := by omega
  have hO3 : OwnNet w4 (R + 1) A1 n1 c1 A2 n2 c2 n := by rw [← hR1]; exact hown.gr hg3
  have hN3 : NetM w0 w w4 S R M A1 n1 c1 A2 n2 c2 := ⟨n, hM3, hO3, hd2.grow hg3, hcc2.trans (hg3.chg _), (hg3.below.block R hs2).trans hR2⟩
  have q5 : RowSt (fun z : {y : GCon // DrB y} => z.1.cells) 61 8 w0 w4 (w4.alloc (.cells #[] 61)) S (some ⟨w4.heap.size, 0, none⟩) 0 0 := RowSt.init (hd2.grow hg3) (by omega)
  have hM4 := rb_lt hM3
  have hS4 : S < w4.heap.size := by omega
  have h04 : w0.heap.size ≤ w4.heap.size := by omega
  have Hs4 : Hid (w4.heap.size = M + 1) := Lib.hid (by rw [hw4, hM]; simp)
  have Hw4 := Lib.hid hw4
  have HMe := Lib.hid hM
  have HN := Lib.hid hN3
  have HMb := Lib.hid hM3
  have Q5 := Lib.hid q5
  have hMS : M ≠ S := by omega
  clear hw4 hM hM3 HR hc2 hown hd2 hR2 hcc2 hs2 hO3 hN3 q5
  go_wp2_with fail
  rw [← Hw4.out, ← HMe.out]
  refine (l01Next_any 6 Q5.out.dr (by omega)).mono ?_
  rintro e w6 ⟨x, rfl, hx, hd6, hc6⟩
  obtain ⟨x0, x1⟩ := hx.lt (by omega)
  have Q6 : Hid (RowSt (fun z : {y : GCon // DrB y} => z.1.cells) 61 8 w0 w4 w6 S (some ⟨M + 1, 0, none⟩) 0 0) := Lib.hid (by have := Q5.out.next hS4 hd6 hc6; rw [Hs4.out] at this; exact this)
  obtain ⟨J, hJ⟩ : ∃ J : Nat, x = (J : Int) := ⟨x.toNat, by omega⟩
  subst hJ
  clear hx hd6 hc6 Q5
  go_wp2_with fail
  go_loopw [6, 7] (fun o i wq => ∃ j : Nat, j ≤ J ∧ i = .int .i64 j ∧ ∃ A u c, u + j ≤ 6 ∧ o = .slice A u c ∧ RowSt (fun z : {y : GCon // DrB y} => z.1.cells) 61 8 w0 w4 wq S A u c) (fun _ i _ => (intOf i).toNat)
  case atStart => exact ⟨J, Nat.le_refl _, rfl, _, _, _, by omega, rfl, Q6.out⟩
  case round =>
    obtain ⟨j, hj, rfl, A, u, c, hu, rfl, q⟩ := hrel
    have Q := Lib.hid q
    clear q Q6
    by_cases hgo : 0 < j
    · have t1 : decide ((0 : Int) < (j : Int)) = true := by simp; omega
      have m0 : wr.cell? ⟨M, 0, none⟩ = some (.slice A1 n1 c1) := rb_cell (j := 0) (rb_chg HMb.out Q.out.ch hMS) rfl
      have m1 : wr.cell? ⟨M, 1, none⟩ = some (.slice A2 n2 c2) := rb_cell (j := 1) (rb_chg HMb.out Q.out.ch hMS) rfl
      go_wp2_with fail
      refine (l20DrawOne_any A1 n1 c1 A2 n2 c2 Q.out.dr hn7).mono ?_
      rintro e w7 ⟨y, rfl, hyb, hd7, hc7⟩
      have Q7 := Lib.hid (Q.out.next hS4 hd7 hc7)
      have Hyb := Lib.hid hyb
      clear hd7 hc7 hyb m0 m1 Q
      go_upto_region 7 with fail
      have qb := Q7.out.blk hS4 #[.int .i64 y.shipper, .int .i64 y.entry, .int .i64 y.exit, .int .i64 y.amount, .int .i64 y.cls, .int .i64 y.src, .int .i64 y.dst, .int .i64 y.price]
      obtain ⟨w8, hw8⟩ : ∃ W, W = w7.alloc (.cells #[.int .i64 y.shipper, .int .i64 y.entry, .int .i64 y.exit, .int .i64 y.amount, .int .i64 y.cls, .int .i64 y.src, .int .i64 y.dst, .int .i64 y.price] 61) := ⟨_, rfl⟩
      obtain ⟨X, hX⟩ : ∃ X, X = w7.heap.size := ⟨_, rfl⟩
      rw [← hw8, ← hX] at qb
      rw [← hw8, ← hX]
      have hN8 := HN.out.next hSR hMR qb.st.dr qb.st.ch
      have m0 : w8.cell? ⟨M, 0, none⟩ = some (.slice A1 n1 c1) := rb_cell (j := 0) (rb_chg HMb.out qb.st.ch hMS) rfl
      have m1 : w8.cell? ⟨M, 1, none⟩ = some (.slice A2 n2 c2) := rb_cell (j := 1) (rb_chg HMb.out qb.st.ch hMS) rfl
      have k0 := rb_cell (j := 0) qb.blk rfl
      have k1 := rb_cell (j := 1) qb.blk rfl
      have k2 := rb_cell (j := 2) qb.blk rfl
      have k3 := rb_cell (j := 3) qb.blk rfl
      have k4 := rb_cell (j := 4) qb.blk rfl
      have k5 := rb_cell (j := 5) qb.blk rfl
      have k6 := rb_cell (j := 6) qb.blk rfl
      have k7 := rb_cell (j := 7) qb.blk rfl
      have Q8 := Lib.hid qb
      have HN8 := Lib.hid hN8
      clear hw8 hX hN8 Q7 qb
      go_wp2_with fail
      obtain ⟨q, _, hO, _⟩ := HN8.out
      refine (spIsContract_any q y _ hO.at_).mono ?_
      rintro e w9 ⟨rfl, hg9⟩
      have Q9 := Lib.hid (Q8.out.gr hS4 hg9)
      clear hO hg9 Q8 HN8 m0 m1 k0 k1 k2 k3 k4 k5 k6 k7
      cases hb : (netOk q && conOk n1 y) with
      | true =>
        have Hb := Lib.hid hb
        clear hb
        go_upto_region 8 with fail
        have QF := Q9
        obtain ⟨ls, hls⟩ := QF.out.st.row
        have Hls := Lib.hid hls
        have hws := QF.out.st.ch.size
        have k0 := rb_cell (j := 0) QF.out.blk rfl
        have k1 := rb_cell (j := 1) QF.out.blk rfl
        have k2 := rb_cell (j := 2) QF.out.blk rfl
        have k3 := rb_cell (j := 3) QF.out.blk rfl
        have k4 := rb_cell (j := 4) QF.out.blk rfl
        have k5 := rb_cell (j := 5) QF.out.blk rfl
        have k6 := rb_cell (j := 6) QF.out.blk rfl
        have k7 := rb_cell (j := 7) QF.out.blk rfl
        clear hls
        go_wp2_with (at_builtin; (refine wpList_append_own _ rfl _ _ _ rfl w4.heap.size 61 i0 _ 8 64 Try.underlying28 hi0 hz0 hz1 hz2 rfl (by omega) _ u _ rfl (Hls.out.alloc _) ⟨w9.heap.size, 0, none⟩ 1 1 [.int .i64 y.shipper, .int .i64 y.entry, .int .i64 y.exit, .int .i64 y.amount, .int .i64 y.cls, .int .i64 y.src, .int .i64 y.dst, .int .i64 y.price] rfl rfl (World.news_of_block (cs := #[.int .i64 y.shipper, .int .i64 y.entry, .int .i64 y.exit, .int .i64 y.amount, .int .i64 y.cls, .int .i64 y.src, .int .i64 y.dst, .int .i64 y.price]) (t := 61) (fr := (0, 0)) (heap_alloc_new w9 _)) (by simp [Value.oneCell']) (by unfold maxLen; omega) (by omega) (by simp; omega) ?_; intro v' w20 hown20 hg20 _))
        obtain ⟨A', c', rfl⟩ := own_shape hown20
        have Q20 := Lib.hid (QF.out.st.add hS4 h04 (x := ⟨y, Hyb.out⟩) hown20 hg20)
        clear hown20 hg20
        go_wp2_with fail
        go_roundw
        case rel => exact ⟨j - 1, by omega, by go_num, _, _, _, by omega, rfl, Q20.out⟩
        case measure => simp [intOf]; omega
      | false =>
        have Hb := Lib.hid hb
        clear hb
        go_wp2_with fail
        refine (l01Next_any 10 Q9.out.st.dr (by omega)).mono ?_
        rintro e w10 ⟨t, rfl, ht, hd10, hc10⟩
        have Q10 := Lib.hid (Q9.out.next hS4 hd10 hc10)
        clear ht hd10 hc10 Q9
        by_cases ht0 : t = 0
        · subst ht0
          go_upto_region 8 with fail
          have QF := Q10
          obtain ⟨ls, hls⟩ := QF.out.st.row
          have Hls := Lib.hid hls
          have hws := QF.out.st.ch.size
          have k0 := rb_cell (j := 0) QF.out.blk rfl
          have k1 := rb_cell (j := 1) QF.out.blk rfl
          have k2 := rb_cell (j := 2) QF.out.blk rfl
          have k3 := rb_cell (j := 3) QF.out.blk rfl
          have k4 := rb_cell (j := 4) QF.out.blk rfl
          have k5 := rb_cell (j := 5) QF.out.blk rfl
          have k6 := rb_cell (j := 6) QF.out.blk rfl
          have k7 := rb_cell (j := 7) QF.out.blk rfl
          clear hls
          go_wp2_with (at_builtin; (refine wpList_append_own _ rfl _ _ _ rfl w4.heap.size 61 i0 _ 8 64 Try.underlying28 hi0 hz0 hz1 hz2 rfl (by omega) _ u _ rfl (Hls.out.alloc _) ⟨w10.heap.size, 0, none⟩ 1 1 [.int .i64 y.shipper, .int .i64 y.entry, .int .i64 y.exit, .int .i64 y.amount, .int .i64 y.cls, .int .i64 y.src, .int .i64 y.dst, .int .i64 y.price] rfl rfl (World.news_of_block (cs := #[.int .i64 y.shipper, .int .i64 y.entry, .int .i64 y.exit, .int .i64 y.amount, .int .i64 y.cls, .int .i64 y.src, .int .i64 y.dst, .int .i64 y.price]) (t := 61) (fr := (0, 0)) (heap_alloc_new w10 _)) (by simp [Value.oneCell']) (by unfold maxLen; omega) (by omega) (by simp; omega) ?_; intro v' w20 hown20 hg20 _))
          obtain ⟨A', c', rfl⟩ := own_shape hown20
          have Q20 := Lib.hid (QF.out.st.add hS4 h04 (x := ⟨y, Hyb.out⟩) hown20 hg20)
          clear hown20 hg20
          go_wp2_with fail
          go_roundw
          case rel => exact ⟨j - 1, by omega, by go_num, _, _, _, by omega, rfl, Q20.out⟩
          case measure => simp [intOf]; omega
        · have tt : (t == 0) = false := by simp [ht0]
          go_wp2_with fail
          go_roundw
          case rel => exact ⟨j - 1, by omega, by go_num, _, _, _, by omega, rfl, Q10.out.st⟩
          case measure => simp [intOf]; omega
    · obtain rfl : j = 0 := by omega
      by_cases hu0 : 0 < u
      · have tu0 : decide ((0 : Int) < (u : Int)) = true := by simp; omega
        go_wp2_with fail
        refine (l01Next_any 60 Q.out.dr (by omega)).mono ?_
        rintro e w15 ⟨t, rfl, ht, hd15, hc15⟩
        have QZ := Lib.hid (Q.out.next hS4 hd15 hc15)
        clear ht hd15 hc15 Q
        by_cases ht0 : t = 0
        · subst ht0
          go_wp2_with fail
          go_loopw [6] (fun o wq => ∃ A u c, 0 < u ∧ u ≤ 33 ∧ o = .slice A u c ∧ RowSt (fun z : {y : GCon // DrB y} => z.1.cells) 61 8 w0 w4 wq S A u c) (fun o _ => 34 - lenOf o)
          case atStart => exact ⟨_, _, _, hu0, by omega, rfl, QZ.out⟩
          case round =>
            clear hu0 tu0
            obtain ⟨A, u, c, hu0, hu, rfl, q⟩ := hrel
            have Q := Lib.hid q
            clear q QZ
            go_wp2_with fail
            refine (l01Next_any 2 Q.out.dr (by omega)).mono ?_
            rintro e w16 ⟨y, rfl, hy, hd16, hc16⟩
            obtain ⟨y0, y1⟩ := hy.lt (by omega)
            have QZ := Lib.hid (Q.out.next hS4 hd16 hc16)
            have hwy : IntKind.i64.wrap (32 + y) = 32 + y := IntWalk.i64_in _ (by omega)
            clear hy hd16 hc16 Q
            by_cases hlu : (u : Int) < 32 + y
            · have tu : decide ((u : Int) < 32 + y) = true := decide_eq_true hlu
              obtain ⟨ls, hls⟩ := QZ.out.row
              have hlr := hls
              rw [drawn_book] at hlr
              have hll := own_len hlr GCon.cells_len (by omega)
              obtain ⟨b, rfl, _, _⟩ := own_form hls (by omega)
              obtain ⟨z, hz⟩ : ∃ z, ls[0]? = some z := ⟨_, List.getElem?_eq_getElem (by simp at hll; omega)⟩
              obtain ⟨k0, k1, k2, k3, k4, k5, k6, k7, _⟩ := own_con (k := 0) (x := z.1) hlr (by rw [List.getElem?_map, hz]; rfl)
              simp only [Nat.zero_mul, Nat.zero_add] at k0 k1 k2 k3 k4 k5 k6 k7
              have tu1 : (0 : Int) < (u : Int) := by omega
              have Hls := Lib.hid hls
              have hws := QZ.out.ch.size
              clear hls hlr hll hz
              go_wp2_with (at_builtin; (refine wpList_append_own _ rfl _ _ _ rfl w4.heap.size 61 i0 _ 8 64 Try.underlying28 hi0 hz0 hz1 hz2 rfl (by omega) _ u _ rfl (Hls.out.alloc _) ⟨w16.heap.size, 0, none⟩ 1 1 [.int .i64 z.1.shipper, .int .i64 z.1.entry, .int .i64 z.1.exit, .int .i64 z.1.amount, .int .i64 z.1.cls, .int .i64 z.1.src, .int .i64 z.1.dst, .int .i64 z.1.price] rfl rfl (World.news_of_block (cs := #[.int .i64 z.1.shipper, .int .i64 z.1.entry, .int .i64 z.1.exit, .int .i64 z.1.amount, .int .i64 z.1.cls, .int .i64 z.1.src, .int .i64 z.1.dst, .int .i64 z.1.price]) (t := 61) (fr := (0, 0)) (heap_alloc_new w16 _)) (by simp [Value.oneCell']) (by unfold maxLen; omega) (by omega) (by simp; omega) ?_; intro v' w20 hown20 hg20 _))
              obtain ⟨A', c', rfl⟩ := own_shape hown20
              have Q20 := Lib.hid (QZ.out.add hS4 h04 (x := z) hown20 hg20)
              clear hown20 hg20
              go_wp2_with fail
              go_roundw
              case rel => exact ⟨_, _, _, by omega, by omega, rfl, Q20.out⟩
              case measure => simp [lenOf]; omega
            · have tu : decide ((u : Int) < 32 + y) = false := decide_eq_false hlu
              obtain ⟨⟨hMz, hRz⟩, h1, ⟨n', h2⟩, ⟨ls, h3⟩, h4, h5⟩ := list_end HN.out QZ.out hRw hRw0 hSR hMR
              have m0 := rb_cell (j := 0) hMz rfl
              have m1 := rb_cell (j := 1) hMz rfl
              have r0 := rb_cell (j := 0) hRz rfl
              have r1 := rb_cell (j := 1) hRz rfl
              have f0 := rb_frozen hRz 0
              have f1 := rb_frozen hRz 1
              have H1 := Lib.hid h1
              have H2 := Lib.hid h2
              have H3 := Lib.hid h3
              have H4 := Lib.hid h4
              have H5 := Lib.hid h5
              clear h1 h2 h3 h4 h5 hMz hRz
              go_wp2_with fail
              (try simp only [Exit.inBlock, Exit.then])
              refine bodyPost_ret (results_row_tmp Try.results112 _ _ R 27 #[.slice A1 n1 c1, .slice A2 n2 c2] (0, 0) _ ?_ H1.out Try.underlying27 rfl (by kernel_rfl)) ?_ ?_
              · rfl
              · rfl
              exact ⟨_, _, _, _, _, _, n', _, _, _, ls, rfl, H2.out, by omega, H3.out, H4.out, H5.out⟩
        · have tt : (t == 0) = false := by simp [ht0]
          obtain ⟨⟨hMz, hRz⟩, h1, ⟨n', h2⟩, ⟨ls, h3⟩, h4, h5⟩ := list_end HN.out QZ.out hRw hRw0 hSR hMR
          have m0 := rb_cell (j := 0) hMz rfl
          have m1 := rb_cell (j := 1) hMz rfl
          have r0 := rb_cell (j := 0) hRz rfl
          have r1 := rb_cell (j := 1) hRz rfl
          have f0 := rb_frozen hRz 0
          have f1 := rb_frozen hRz 1
          have H1 := Lib.hid h1
          have H2 := Lib.hid h2
          have H3 := Lib.hid h3
          have H4 := Lib.hid h4
          have H5 := Lib.hid h5
          clear h1 h2 h3 h4 h5 hMz hRz
          go_wp2_with fail
          (try simp only [Exit.inBlock, Exit.then])
          refine bodyPost_ret (results_row_tmp Try.results112 _ _ R 27 #[.slice A1 n1 c1, .slice A2 n2 c2] (0, 0) _ ?_ H1.out Try.underlying27 rfl (by kernel_rfl)) ?_ ?_
          · rfl
          · rfl
          exact ⟨_, _, _, _, _, _, n', _, _, _, ls, rfl, H2.out, by omega, H3.out, H4.out, H5.out⟩
      · have tu0 : decide ((0 : Int) < (u : Int)) = false := by simp; omega
        have QZ := Q
        obtain ⟨⟨hMz, hRz⟩, h1, ⟨n', h2⟩, ⟨ls, h3⟩, h4, h5⟩ := list_end HN.out QZ.out hRw hRw0 hSR hMR
        have m0 := rb_cell (j := 0) hMz rfl
        have m1 := rb_cell (j := 1) hMz rfl
        have r0 := rb_cell (j := 0) hRz rfl
        have r1 := rb_cell (j := 1) hRz rfl
        have f0 := rb_frozen hRz 0
        have f1 := rb_frozen hRz 1
        have H1 := Lib.hid h1
        have H2 := Lib.hid h2
        have H3 := Lib.hid h3
        have H4 := Lib.hid h4
        have H5 := Lib.hid h5
        clear h1 h2 h3 h4 h5 hMz hRz
        go_wp2_with fail
        (try simp only [Exit.inBlock, Exit.then])
        refine bodyPost_ret (results_row_tmp Try.results112 _ _ R 27 #[.slice A1 n1 c1, .slice A2 n2 c2] (0, 0) _ ?_ H1.out Try.underlying27 rfl (by kernel_rfl)) ?_ ?_
        · rfl
        · rfl
        exact ⟨_, _, _, _, _, _, n', _, _, _, ls, rfl, H2.out, by omega, H3.out, H4.out, H5.out⟩
end Go.Proofs.Ytelhmfgfjlpkaaa
