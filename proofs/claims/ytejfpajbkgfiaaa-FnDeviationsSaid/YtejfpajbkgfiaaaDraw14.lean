/-
  Draws: orders. Printed by gen_draw14.py.
-/
import Derived.Test.YtejfpajbkgfiaaaDrawC
import Derived.Deep.Cut
import Derived.Deep.CutRange
import Derived.Deep.RegionHeld3
set_option linter.unusedSimpArgs false
set_option linter.unusedVariables false
namespace Go.Proofs.Ytejfpajbkgfiaaa
open Go.ChangeShapes Go.WideShapes Go.ChangeAt Go.RowKit

theorem wrap30 {x : Int} (h : Upto 60 x) : IntKind.i64.wrap (x - 30) = x - 30 := by
  have h1 := h.1
  have h2 := h.2.1 (by decide)
  exact IntWalk.i64_in _ (by omega)
set_option maxHeartbeats 6400000 in
set_option maxRecDepth 100000 in
theorem l22Draw_any {w0 w : World} {S : Nat} (h : Drw w0 w S) :
    Calls Try.prog 131 #[.pointer (some ⟨S, 0, none⟩)] w fun e w' => ∃ A1 n1 c1 A2 n2 c2 n A3 n3 c3, ∃ ls : List GOrd, e = .returned (.tuple #[.agg #[.slice A1 n1 c1, .slice A2 n2 c2], .slice A3 n3 c3]) ∧ OwnNet w' w.heap.size A1 n1 c1 A2 n2 c2 n ∧ n3 ≤ 50 ∧ w'.ownsRow w.heap.size 65 4 (.slice A3 n3 c3) n3 (ls.flatMap GOrd.cells) ∧ Drw w0 w' S ∧ Chg (fun k => k = S) w w' := by
  obtain ⟨i0, hi0, hz0, hz1, hz2⟩ := info_parts infoOrder
  have hlt := h.lt
  have hbw := h.gr.size
  have H := Lib.hid h
  clear h
  go_enter Try.func131, Try.ntmps131
  go_wp2_with fail
  generalize hw1 : World.alloc w _ = w1
  have hR : w1.heap[w.heap.size]? = some (.cells #[.slice none 0 0, .slice none 0 0] 27 (0, 0)) := by rw [← hw1]; exact heap_alloc_new w _
  have hg1 : Gr w w1 := by rw [← hw1]; exact (Gr.refl _).alloc _
  have hs1 : w1.heap.size = w.heap.size + 1 := by rw [← hw1]; simp
  obtain ⟨R, hRe⟩ : ∃ R, R = w.heap.size := ⟨_, rfl⟩
  rw [← hRe] at hR ⊢
  have hSR : S < R := by omega
  have hRw : w.heap.size ≤ R := by omega
  have hR1 : w1.heap.size = R + 1 := by omega
  have hRw0 : w0.heap.size ≤ R := by omega
  have HR := Lib.hid hR
  clear hw1 hRe hR
  refine (l05DrawChord_any (H.out.grow hg1)).mono ?_
  rintro e w2 ⟨A1, n1, c1, A2, n2, c2, n, xx, rfl, hown, ⟨hn7, hn9⟩, hd2, hc2⟩
  have hR2 := rb_chg HR.out hc2 (by omega)
  have hcc2 := (hg1.chg (fun k => k = S)).trans hc2
  have hs2 := rb_lt hR2
  have hM3 : (w2.alloc (.cells #[.slice A1 n1 c1, .slice A2 n2 c2] 27)).heap[w2.heap.size]? = some (.cells #[.slice A1 n1 c1, .slice A2 n2 c2] 27 (0, 0)) := heap_alloc_new w2 _
  obtain ⟨w4, hw4⟩ : ∃ W, W = w2.alloc (.cells #[.slice A1 n1 c1, .slice A2 n2 c2] 27) := ⟨_, rfl⟩
  have hg3 : Gr w2 w4 := by rw [hw4]; exact (Gr.refl _).alloc _
  obtain ⟨M, hM⟩ : ∃ M, M = w2.heap.size := ⟨_, rfl⟩
  rw [← hM, ← hw4] at hM3
  have hMR : R < M := by omega
  have hO3 : OwnNet w4 (R + 1) A1 n1 c1 A2 n2 c2 n := by rw [← hR1]; exact hown.gr hg3
  have hN3 : NetM w0 w w4 S R M A1 n1 c1 A2 n2 c2 := ⟨n, hM3, hO3, hd2.grow hg3, hcc2.trans (hg3.chg _), (hg3.below.block R hs2).trans hR2⟩
  have q5 : RowSt GOrd.cells 65 4 w0 w4 (w4.alloc (.cells #[] 65)) S (some ⟨w4.heap.size, 0, none⟩) 0 0 := RowSt.init (hd2.grow hg3) (by omega)
  have hM4 := rb_lt hM3
  have hS4 : S < w4.heap.size := by omega
  have h04 : w0.heap.size ≤ w4.heap.size := by omega
  have Hs4 : Hid (w4.heap.size = M + 1) := Lib.hid (by rw [hw4, hM]; simp)
  have Hw4 := Lib.hid hw4
  have HMe := Lib.hid hM
  have HN := Lib.hid hN3
  have HMb := Lib.hid hM3
  have Q5 := Lib.hid q5
  have hMS : M ≠ S := by omega
  clear hw4 hM hM3 HR hc2 hown hd2 hR2 hcc2 hs2 hO3 hN3 q5
  go_wp2_with fail
  rw [← Hw4.out, ← HMe.out]
  refine (l01Next_any 10 Q5.out.dr (by omega)).mono ?_
  rintro e w6 ⟨x, rfl, hx, hd6, hc6⟩
  obtain ⟨x0, x1⟩ := hx.lt (by omega)
  have Q6 : Hid (RowSt GOrd.cells 65 4 w0 w4 w6 S (some ⟨M + 1, 0, none⟩) 0 0) := Lib.hid (by have := Q5.out.next hS4 hd6 hc6; rw [Hs4.out] at this; exact this)
  obtain ⟨J, hJ⟩ : ∃ J : Nat, x = (J : Int) := ⟨x.toNat, by omega⟩
  subst hJ
  clear hx hd6 hc6 Q5
  go_wp2_with fail
  go_loopw [6, 7] (fun o i wq => ∃ j : Nat, j ≤ J ∧ i = .int .i64 j ∧ ∃ A u c, u + j ≤ 10 ∧ o = .slice A u c ∧ RowSt GOrd.cells 65 4 w0 w4 wq S A u c) (fun _ i _ => (intOf i).toNat)
  case atStart => exact ⟨J, Nat.le_refl _, rfl, _, _, _, by omega, rfl, Q6.out⟩
  case round =>
    obtain ⟨j, hj, rfl, A, u, c, hu, rfl, q⟩ := hrel
    have Q := Lib.hid q
    clear q Q6
    by_cases hgo : 0 < j
    · have t1 : decide ((0 : Int) < (j : Int)) = true := by simp; omega
      have mr : wr.cell? ⟨M, 0, none⟩ = some (.slice A1 n1 c1) := rb_cell (j := 0) (rb_chg HMb.out Q.out.ch hMS) rfl
      have m0d : wr.drew.cell? ⟨M, 0, none⟩ = some (.slice A1 n1 c1) := rb_cell (j := 0) (rb_chg HMb.out (Q.out.ch.trans ((Gr.refl wr).drew.chg _)) hMS) rfl
      have Q0 := Lib.hid (Q.out.next hS4 (Q.out.dr.grow (Gr.refl _).drew) ((Gr.refl _).drew.chg _))
      have hn1 : (3 : Int) ≤ 1000000000 := by decide
      have hn2 : (n1 : Int) ≤ 1000000000 := by omega
      have hn3 : (60 : Int) ≤ 1000000000 := by decide
      have hn4 : (4 : Int) ≤ 1000000000 := by decide
      go_upto_region 6 with fail
      go_cut [8] from 17 to 64 (fun p wx => ∃ X, ∃ x : GOrd, p = .pointer (some ⟨X, 0, none⟩) ∧ BlkSt GOrd.cells 65 4 w0 w4 wx S A u c X #[.int .i64 x.shipper, .int .i64 x.node, .int .i64 x.amount, .int .i64 x.cls])
      case first =>
        go_wp2_with fail
        go_region_held3 (fun w' => w'.cell? ⟨M, 0, none⟩ = some (.slice A1 n1 c1))
          (first
            | with_reducible exact m0d
            | with_reducible exact (((Gr.refl _).alloc _).drew).has mr
            | with_reducible assumption
            | with_reducible exact ((Gr.refl _).alloc _).has (by with_reducible assumption)
            | with_reducible exact put_far (put_far (put_far (put_far (by with_reducible assumption) (Or.inl ne4)) (Or.inl ne4)) (Or.inl ne4)) (Or.inl ne4)
            | with_reducible exact put_far (put_far (put_far (put_far (by with_reducible assumption) (Or.inl nq4)) (Or.inl nq4)) (Or.inl nq4)) (Or.inl nq4))
          (first
            | (go_at_call 86; with_reducible refine (l01Next_any 3 ((Q.out.blk hS4 #[.int .i64 0, .int .i64 0, .int .i64 0, .int .i64 0]).gr hS4 (Gr.refl _).drew).st.dr hn1).mono ?_; rintro e v1 ⟨x1, rfl, hx1, hd1, hc1⟩; have m1 : v1.cell? ⟨M, 0, none⟩ = some (.slice A1 n1 c1) := chg_cell' hc1 ((((Gr.refl _).alloc _).drew).has mr) hMS; have B1 := Lib.hid (((Q.out.blk hS4 #[.int .i64 0, .int .i64 0, .int .i64 0, .int .i64 0]).gr hS4 (Gr.refl _).drew).next hS4 hd1 hc1); have ne1 := Nat.ne_of_lt (Nat.lt_of_lt_of_le hM4 B1.out.low); clear hd1 hc1 hx1)
            | (go_at_call 86; with_reducible refine (l01Next_any 3 Q0.out.dr hn1).mono ?_; rintro e v1 ⟨x1, rfl, hx1, hd1, hc1⟩; have m1 : v1.cell? ⟨M, 0, none⟩ = some (.slice A1 n1 c1) := chg_cell' hc1 (m0d) hMS; have Q1 := Lib.hid (Q0.out.next hS4 hd1 hc1); have nq1 := Nat.ne_of_lt (Nat.lt_of_lt_of_le hM4 Q1.out.ch.size); clear hd1 hc1 hx1)
            | (go_at_call 86; with_reducible refine (l01Next_any (n1 : Int) B1.out.st.dr hn2).mono ?_; rintro e v2 ⟨x2, rfl, hx2, hd2, hc2⟩; have m2 : v2.cell? ⟨M, 0, none⟩ = some (.slice A1 n1 c1) := chg_cell' hc2 (m1) hMS; have B2 := Lib.hid (B1.out.next hS4 hd2 hc2); have ne2 := Nat.ne_of_lt (Nat.lt_of_lt_of_le hM4 B2.out.low); clear hd2 hc2 hx2)
            | (go_at_call 86; with_reducible refine (l01Next_any (n1 : Int) (Q1.out.blk hS4 #[.int .i64 0, .int .i64 0, .int .i64 0, .int .i64 0]).st.dr hn2).mono ?_; rintro e v2 ⟨x2, rfl, hx2, hd2, hc2⟩; have m2 : v2.cell? ⟨M, 0, none⟩ = some (.slice A1 n1 c1) := chg_cell' hc2 (((Gr.refl _).alloc _).has m1) hMS; have B2 := Lib.hid ((Q1.out.blk hS4 #[.int .i64 0, .int .i64 0, .int .i64 0, .int .i64 0]).next hS4 hd2 hc2); have ne2 := Nat.ne_of_lt (Nat.lt_of_lt_of_le hM4 B2.out.low); clear hd2 hc2 hx2)
            | (go_at_call 86; with_reducible refine (l01Next_any (n1 : Int) Q1.out.dr hn2).mono ?_; rintro e v2 ⟨x2, rfl, hx2, hd2, hc2⟩; have m2 : v2.cell? ⟨M, 0, none⟩ = some (.slice A1 n1 c1) := chg_cell' hc2 (m1) hMS; have Q2 := Lib.hid (Q1.out.next hS4 hd2 hc2); have nq2 := Nat.ne_of_lt (Nat.lt_of_lt_of_le hM4 Q2.out.ch.size); clear hd2 hc2 hx2)
            | (go_at_call 86; with_reducible refine (l01Next_any 60 B2.out.st.dr hn3).mono ?_; rintro e v3 ⟨x3, rfl, hx3, hd3, hc3⟩; have hw3 := wrap30 hx3; have m3 : v3.cell? ⟨M, 0, none⟩ = some (.slice A1 n1 c1) := chg_cell' hc3 (m2) hMS; have B3 := Lib.hid (B2.out.next hS4 hd3 hc3); have ne3 := Nat.ne_of_lt (Nat.lt_of_lt_of_le hM4 B3.out.low); clear hd3 hc3 hx3)
            | (go_at_call 86; with_reducible refine (l01Next_any 60 (Q2.out.blk hS4 #[.int .i64 0, .int .i64 0, .int .i64 0, .int .i64 0]).st.dr hn3).mono ?_; rintro e v3 ⟨x3, rfl, hx3, hd3, hc3⟩; have hw3 := wrap30 hx3; have m3 : v3.cell? ⟨M, 0, none⟩ = some (.slice A1 n1 c1) := chg_cell' hc3 (((Gr.refl _).alloc _).has m2) hMS; have B3 := Lib.hid ((Q2.out.blk hS4 #[.int .i64 0, .int .i64 0, .int .i64 0, .int .i64 0]).next hS4 hd3 hc3); have ne3 := Nat.ne_of_lt (Nat.lt_of_lt_of_le hM4 B3.out.low); clear hd3 hc3 hx3)
            | (go_at_call 86; with_reducible refine (l01Next_any 60 Q2.out.dr hn3).mono ?_; rintro e v3 ⟨x3, rfl, hx3, hd3, hc3⟩; have hw3 := wrap30 hx3; have m3 : v3.cell? ⟨M, 0, none⟩ = some (.slice A1 n1 c1) := chg_cell' hc3 (m2) hMS; have Q3 := Lib.hid (Q2.out.next hS4 hd3 hc3); have nq3 := Nat.ne_of_lt (Nat.lt_of_lt_of_le hM4 Q3.out.ch.size); clear hd3 hc3 hx3)
            | (go_at_call 86; with_reducible refine (l01Next_any 4 B3.out.st.dr hn4).mono ?_; rintro e v4 ⟨x4, rfl, hx4, hd4, hc4⟩; have m4 : v4.cell? ⟨M, 0, none⟩ = some (.slice A1 n1 c1) := chg_cell' hc4 (m3) hMS; have B4 := Lib.hid (B3.out.next hS4 hd4 hc4); have ne4 := Nat.ne_of_lt (Nat.lt_of_lt_of_le hM4 B4.out.low); have c0 := rb_cell (j := 0) B4.out.blk rfl; have c1' := rb_cell (j := 1) B4.out.blk rfl; have c2' := rb_cell (j := 2) B4.out.blk rfl; have c3' := rb_cell (j := 3) B4.out.blk rfl; have g0 := rb_frozen B4.out.blk 0; have g1 := rb_frozen B4.out.blk 1; have g2 := rb_frozen B4.out.blk 2; have g3 := rb_frozen B4.out.blk 3; clear hd4 hc4 hx4)
            | (go_at_call 86; with_reducible refine (l01Next_any 4 (Q3.out.blk hS4 #[.int .i64 0, .int .i64 0, .int .i64 0, .int .i64 0]).st.dr hn4).mono ?_; rintro e v4 ⟨x4, rfl, hx4, hd4, hc4⟩; have m4 : v4.cell? ⟨M, 0, none⟩ = some (.slice A1 n1 c1) := chg_cell' hc4 (((Gr.refl _).alloc _).has m3) hMS; have B4 := Lib.hid ((Q3.out.blk hS4 #[.int .i64 0, .int .i64 0, .int .i64 0, .int .i64 0]).next hS4 hd4 hc4); have ne4 := Nat.ne_of_lt (Nat.lt_of_lt_of_le hM4 B4.out.low); have c0 := rb_cell (j := 0) B4.out.blk rfl; have c1' := rb_cell (j := 1) B4.out.blk rfl; have c2' := rb_cell (j := 2) B4.out.blk rfl; have c3' := rb_cell (j := 3) B4.out.blk rfl; have g0 := rb_frozen B4.out.blk 0; have g1 := rb_frozen B4.out.blk 1; have g2 := rb_frozen B4.out.blk 2; have g3 := rb_frozen B4.out.blk 3; clear hd4 hc4 hx4)
            | (go_at_call 86; with_reducible refine (l01Next_any 4 Q3.out.dr hn4).mono ?_; rintro e v4 ⟨x4, rfl, hx4, hd4, hc4⟩; have m4 : v4.cell? ⟨M, 0, none⟩ = some (.slice A1 n1 c1) := chg_cell' hc4 (m3) hMS; have Q4 := Lib.hid (Q3.out.next hS4 hd4 hc4); have nq4 := Nat.ne_of_lt (Nat.lt_of_lt_of_le hM4 Q4.out.ch.size); clear hd4 hc4 hx4))
        all_goals
          go_wp2_with fail
          go_meet
          case rel =>
            first
              | exact ⟨_, ⟨x1, x2, x3 - 30, x4⟩, rfl, (((B4.out.put hS4 h04 0 (.int .i64 x1) rfl).put hS4 h04 1 (.int .i64 x2) rfl).put hS4 h04 2 (.int .i64 (x3 - 30)) rfl).put hS4 h04 3 (.int .i64 x4) rfl⟩
              | exact ⟨_, ⟨x1, x2, x3 - 30, x4⟩, rfl, Q4.out.blk hS4 #[.int .i64 x1, .int .i64 x2, .int .i64 (x3 - 30), .int .i64 x4]⟩
      obtain ⟨X, x, rfl, qd⟩ := hcut
      have QD := Lib.hid qd
      clear qd Q0 m0d mr
      rename World => w12
      go_wp2_with fail
      refine (l01Next_any 120 QD.out.st.dr (by omega)).mono ?_
      rintro e w13 ⟨t, rfl, ht, hd13, hc13⟩
      have QE := Lib.hid (QD.out.next hS4 hd13 hc13)
      have k1 := rb_cell (j := 1) QE.out.blk rfl
      have f1 := rb_frozen QE.out.blk 1
      have k3 := rb_cell (j := 3) QE.out.blk rfl
      have f3 := rb_frozen QE.out.blk 3
      have m0 : w13.cell? ⟨M, 0, none⟩ = some (.slice A1 n1 c1) := rb_cell (j := 0) (rb_chg HMb.out QE.out.st.ch hMS) rfl
      clear ht hd13 hc13 QD
      by_cases h0 : t = 0
      · subst h0
        have lo := World.ownsRow_lit w13 (e := 2) (size := 1) #[.int .i64 (-1), .int .i64 16] 2 (Nat.le_refl _) (by unfold maxLen; omega) rfl
        have QG := Lib.hid (QE.out.gr hS4 ((Gr.refl _).alloc (.cells #[.int .i64 (-1), .int .i64 16] 2)))
        have hS13 : S < w13.heap.size := QE.out.st.dr.lt
        have LO := Lib.hid lo
        clear lo k1 k3 f1 f3
        go_wp2_with fail
        refine (l01Next_any 2 QG.out.st.dr (by omega)).mono ?_
        rintro e w14 ⟨z, rfl, hz, hd14, hc14⟩
        obtain ⟨z0, z1⟩ := hz.lt (by omega)
        have lo2 := own_chg LO.out hc14 (fun j hj e => by have := own_low LO.out hj; omega)
        obtain ⟨v, hv⟩ := own_pick (zs := [-1, 16]) lo2 z0 z1
        have QH := Lib.hid (QG.out.next hS4 hd14 hc14)
        have k2 := rb_cell (j := 0) QH.out.blk rfl
        have f2 := rb_frozen QH.out.blk 0
        clear hz hd14 hc14 lo2 QG LO QE m0
        go_upto_region 16 with fail
        obtain ⟨y, QF⟩ : ∃ y : GOrd, Hid (BlkSt GOrd.cells 65 4 w0 w4 (w14.setCell ⟨X, 0, none⟩ (.int .i64 v)) S A u c X #[.int .i64 y.shipper, .int .i64 y.node, .int .i64 y.amount, .int .i64 y.cls]) := ⟨⟨v, x.node, x.amount, x.cls⟩, Lib.hid (QH.out.put hS4 h04 0 (.int .i64 v) rfl)⟩
        clear k2 f2 hv QH
        generalize World.setCell _ _ _ = wf at QF ⊢
        obtain ⟨ls, hls⟩ := QF.out.st.row
        have Hls := Lib.hid hls
        have hws := QF.out.st.ch.size
        have k0 := rb_cell (j := 0) QF.out.blk rfl
        have k1 := rb_cell (j := 1) QF.out.blk rfl
        have k2 := rb_cell (j := 2) QF.out.blk rfl
        have k3 := rb_cell (j := 3) QF.out.blk rfl
        clear hls
        go_wp2_with (at_builtin; (refine wpList_append_own _ rfl _ _ _ rfl w4.heap.size 65 i0 _ 4 32 Try.underlying59 hi0 hz0 hz1 hz2 rfl (by omega) _ u _ rfl (Hls.out.alloc _) ⟨wf.heap.size, 0, none⟩ 1 1 [.int .i64 y.shipper, .int .i64 y.node, .int .i64 y.amount, .int .i64 y.cls] rfl rfl (World.news_of_block (cs := #[.int .i64 y.shipper, .int .i64 y.node, .int .i64 y.amount, .int .i64 y.cls]) (t := 65) (fr := (0, 0)) (heap_alloc_new wf _)) (by simp [Value.oneCell']) (by unfold maxLen; omega) (by omega) (by simp; omega) ?_; intro v' w20 hown20 hg20 _))
        obtain ⟨A', c', rfl⟩ := own_shape hown20
        have Q20 := Lib.hid (QF.out.st.add hS4 h04 (x := y) hown20 hg20)
        clear hown20 hg20
        go_wp2_with fail
        go_roundw
        case rel => first | exact ⟨j - 1, by omega, by go_num, _, _, _, by omega, rfl, Q20.out⟩ | ((repeat apply Exists.intro); exact ⟨⟨j - 1, by omega, by go_num, _, _, _, by omega, rfl, Q20.out⟩, rfl⟩)
        case measure => simp [intOf]; omega
      by_cases h1 : t = 1
      · subst h1
        clear h0 k3 f3
        go_upto_region 16 with fail
        obtain ⟨y, QF⟩ : ∃ y : GOrd, Hid (BlkSt GOrd.cells 65 4 w0 w4 (w13.setCell ⟨X, 1, none⟩ (.int .i64 (n1 : Int))) S A u c X #[.int .i64 y.shipper, .int .i64 y.node, .int .i64 y.amount, .int .i64 y.cls]) := ⟨⟨x.shipper, (n1 : Int), x.amount, x.cls⟩, Lib.hid (QE.out.put hS4 h04 1 (.int .i64 (n1 : Int)) rfl)⟩
        clear k1 f1 m0 QE
        generalize World.setCell _ _ _ = wf at QF ⊢
        obtain ⟨ls, hls⟩ := QF.out.st.row
        have Hls := Lib.hid hls
        have hws := QF.out.st.ch.size
        have k0 := rb_cell (j := 0) QF.out.blk rfl
        have k1 := rb_cell (j := 1) QF.out.blk rfl
        have k2 := rb_cell (j := 2) QF.out.blk rfl
        have k3 := rb_cell (j := 3) QF.out.blk rfl
        clear hls
        go_wp2_with (at_builtin; (refine wpList_append_own _ rfl _ _ _ rfl w4.heap.size 65 i0 _ 4 32 Try.underlying59 hi0 hz0 hz1 hz2 rfl (by omega) _ u _ rfl (Hls.out.alloc _) ⟨wf.heap.size, 0, none⟩ 1 1 [.int .i64 y.shipper, .int .i64 y.node, .int .i64 y.amount, .int .i64 y.cls] rfl rfl (World.news_of_block (cs := #[.int .i64 y.shipper, .int .i64 y.node, .int .i64 y.amount, .int .i64 y.cls]) (t := 65) (fr := (0, 0)) (heap_alloc_new wf _)) (by simp [Value.oneCell']) (by unfold maxLen; omega) (by omega) (by simp; omega) ?_; intro v' w20 hown20 hg20 _))
        obtain ⟨A', c', rfl⟩ := own_shape hown20
        have Q20 := Lib.hid (QF.out.st.add hS4 h04 (x := y) hown20 hg20)
        clear hown20 hg20
        go_wp2_with fail
        go_roundw
        case rel => first | exact ⟨j - 1, by omega, by go_num, _, _, _, by omega, rfl, Q20.out⟩ | ((repeat apply Exists.intro); exact ⟨⟨j - 1, by omega, by go_num, _, _, _, by omega, rfl, Q20.out⟩, rfl⟩)
        case measure => simp [intOf]; omega
      by_cases h2 : t = 2
      · subst h2
        clear h0 h1
        have lo := World.ownsRow_lit w13 (e := 2) (size := 1) #[.int .i64 30000, .int .i64 30001, .int .i64 (-30000)] 3 (Nat.le_refl _) (by unfold maxLen; omega) rfl
        have QG := Lib.hid (QE.out.gr hS4 ((Gr.refl _).alloc (.cells #[.int .i64 30000, .int .i64 30001, .int .i64 (-30000)] 2)))
        have hS13 : S < w13.heap.size := QE.out.st.dr.lt
        have LO := Lib.hid lo
        clear lo k1 k3 f1 f3
        go_wp2_with fail
        refine (l01Next_any 3 QG.out.st.dr (by omega)).mono ?_
        rintro e w14 ⟨z, rfl, hz, hd14, hc14⟩
        obtain ⟨z0, z1⟩ := hz.lt (by omega)
        have lo2 := own_chg LO.out hc14 (fun j hj e => by have := own_low LO.out hj; omega)
        obtain ⟨v, hv⟩ := own_pick (zs := [30000, 30001, -30000]) lo2 z0 z1
        have QH := Lib.hid (QG.out.next hS4 hd14 hc14)
        have k2 := rb_cell (j := 2) QH.out.blk rfl
        have f2 := rb_frozen QH.out.blk 2
        clear hz hd14 hc14 lo2 QG LO QE m0
        go_upto_region 16 with fail
        obtain ⟨y, QF⟩ : ∃ y : GOrd, Hid (BlkSt GOrd.cells 65 4 w0 w4 (w14.setCell ⟨X, 2, none⟩ (.int .i64 v)) S A u c X #[.int .i64 y.shipper, .int .i64 y.node, .int .i64 y.amount, .int .i64 y.cls]) := ⟨⟨x.shipper, x.node, v, x.cls⟩, Lib.hid (QH.out.put hS4 h04 2 (.int .i64 v) rfl)⟩
        clear k2 f2 hv QH
        generalize World.setCell _ _ _ = wf at QF ⊢
        obtain ⟨ls, hls⟩ := QF.out.st.row
        have Hls := Lib.hid hls
        have hws := QF.out.st.ch.size
        have k0 := rb_cell (j := 0) QF.out.blk rfl
        have k1 := rb_cell (j := 1) QF.out.blk rfl
        have k2 := rb_cell (j := 2) QF.out.blk rfl
        have k3 := rb_cell (j := 3) QF.out.blk rfl
        clear hls
        go_wp2_with (at_builtin; (refine wpList_append_own _ rfl _ _ _ rfl w4.heap.size 65 i0 _ 4 32 Try.underlying59 hi0 hz0 hz1 hz2 rfl (by omega) _ u _ rfl (Hls.out.alloc _) ⟨wf.heap.size, 0, none⟩ 1 1 [.int .i64 y.shipper, .int .i64 y.node, .int .i64 y.amount, .int .i64 y.cls] rfl rfl (World.news_of_block (cs := #[.int .i64 y.shipper, .int .i64 y.node, .int .i64 y.amount, .int .i64 y.cls]) (t := 65) (fr := (0, 0)) (heap_alloc_new wf _)) (by simp [Value.oneCell']) (by unfold maxLen; omega) (by omega) (by simp; omega) ?_; intro v' w20 hown20 hg20 _))
        obtain ⟨A', c', rfl⟩ := own_shape hown20
        have Q20 := Lib.hid (QF.out.st.add hS4 h04 (x := y) hown20 hg20)
        clear hown20 hg20
        go_wp2_with fail
        go_roundw
        case rel => first | exact ⟨j - 1, by omega, by go_num, _, _, _, by omega, rfl, Q20.out⟩ | ((repeat apply Exists.intro); exact ⟨⟨j - 1, by omega, by go_num, _, _, _, by omega, rfl, Q20.out⟩, rfl⟩)
        case measure => simp [intOf]; omega
      by_cases h3 : t = 3
      · subst h3
        clear h0 h1 h2 k1 f1
        go_upto_region 16 with fail
        obtain ⟨y, QF⟩ : ∃ y : GOrd, Hid (BlkSt GOrd.cells 65 4 w0 w4 (w13.setCell ⟨X, 3, none⟩ (.int .i64 4)) S A u c X #[.int .i64 y.shipper, .int .i64 y.node, .int .i64 y.amount, .int .i64 y.cls]) := ⟨⟨x.shipper, x.node, x.amount, 4⟩, Lib.hid (QE.out.put hS4 h04 3 (.int .i64 4) rfl)⟩
        clear k3 f3 m0 QE
        generalize World.setCell _ _ _ = wf at QF ⊢
        obtain ⟨ls, hls⟩ := QF.out.st.row
        have Hls := Lib.hid hls
        have hws := QF.out.st.ch.size
        have k0 := rb_cell (j := 0) QF.out.blk rfl
        have k1 := rb_cell (j := 1) QF.out.blk rfl
        have k2 := rb_cell (j := 2) QF.out.blk rfl
        have k3 := rb_cell (j := 3) QF.out.blk rfl
        clear hls
        go_wp2_with (at_builtin; (refine wpList_append_own _ rfl _ _ _ rfl w4.heap.size 65 i0 _ 4 32 Try.underlying59 hi0 hz0 hz1 hz2 rfl (by omega) _ u _ rfl (Hls.out.alloc _) ⟨wf.heap.size, 0, none⟩ 1 1 [.int .i64 y.shipper, .int .i64 y.node, .int .i64 y.amount, .int .i64 y.cls] rfl rfl (World.news_of_block (cs := #[.int .i64 y.shipper, .int .i64 y.node, .int .i64 y.amount, .int .i64 y.cls]) (t := 65) (fr := (0, 0)) (heap_alloc_new wf _)) (by simp [Value.oneCell']) (by unfold maxLen; omega) (by omega) (by simp; omega) ?_; intro v' w20 hown20 hg20 _))
        obtain ⟨A', c', rfl⟩ := own_shape hown20
        have Q20 := Lib.hid (QF.out.st.add hS4 h04 (x := y) hown20 hg20)
        clear hown20 hg20
        go_wp2_with fail
        go_roundw
        case rel => first | exact ⟨j - 1, by omega, by go_num, _, _, _, by omega, rfl, Q20.out⟩ | ((repeat apply Exists.intro); exact ⟨⟨j - 1, by omega, by go_num, _, _, _, by omega, rfl, Q20.out⟩, rfl⟩)
        case measure => simp [intOf]; omega
      have tt0 : (t == 0) = false := by simp [h0]
      have tt1 : (t == 1) = false := by simp [h1]
      have tt2 : (t == 2) = false := by simp [h2]
      have tt3 : (t == 3) = false := by simp [h3]
      clear h0 h1 h2 h3 k1 f1 k3 f3 m0
      go_upto_region 16 with fail
      obtain ⟨y, QF⟩ : ∃ y : GOrd, Hid (BlkSt GOrd.cells 65 4 w0 w4 (w13) S A u c X #[.int .i64 y.shipper, .int .i64 y.node, .int .i64 y.amount, .int .i64 y.cls]) := ⟨x, QE⟩
      clear QE
      obtain ⟨ls, hls⟩ := QF.out.st.row
      have Hls := Lib.hid hls
      have hws := QF.out.st.ch.size
      have k0 := rb_cell (j := 0) QF.out.blk rfl
      have k1 := rb_cell (j := 1) QF.out.blk rfl
      have k2 := rb_cell (j := 2) QF.out.blk rfl
      have k3 := rb_cell (j := 3) QF.out.blk rfl
      clear hls
      go_wp2_with (at_builtin; (refine wpList_append_own _ rfl _ _ _ rfl w4.heap.size 65 i0 _ 4 32 Try.underlying59 hi0 hz0 hz1 hz2 rfl (by omega) _ u _ rfl (Hls.out.alloc _) ⟨w13.heap.size, 0, none⟩ 1 1 [.int .i64 y.shipper, .int .i64 y.node, .int .i64 y.amount, .int .i64 y.cls] rfl rfl (World.news_of_block (cs := #[.int .i64 y.shipper, .int .i64 y.node, .int .i64 y.amount, .int .i64 y.cls]) (t := 65) (fr := (0, 0)) (heap_alloc_new w13 _)) (by simp [Value.oneCell']) (by unfold maxLen; omega) (by omega) (by simp; omega) ?_; intro v' w20 hown20 hg20 _))
      obtain ⟨A', c', rfl⟩ := own_shape hown20
      have Q20 := Lib.hid (QF.out.st.add hS4 h04 (x := y) hown20 hg20)
      clear hown20 hg20
      go_wp2_with fail
      go_roundw
      case rel => first | exact ⟨j - 1, by omega, by go_num, _, _, _, by omega, rfl, Q20.out⟩ | ((repeat apply Exists.intro); exact ⟨⟨j - 1, by omega, by go_num, _, _, _, by omega, rfl, Q20.out⟩, rfl⟩)
      case measure => simp [intOf]; omega
    · obtain rfl : j = 0 := by omega
      go_wp2_with fail
      refine (l01Next_any 60 Q.out.dr (by omega)).mono ?_
      rintro e w15 ⟨t, rfl, ht, hd15, hc15⟩
      have Q15 := Lib.hid (Q.out.next hS4 hd15 hc15)
      clear ht hd15 hc15 Q
      by_cases ht0 : t = 0
      · subst ht0
        go_wp2_with fail
        refine (l01Next_any 2 Q15.out.dr (by omega)).mono ?_
        rintro e w16 ⟨y, rfl, hy, hd16, hc16⟩
        obtain ⟨y0, y1⟩ := hy.lt (by omega)
        have Q16 := Lib.hid (Q15.out.next hS4 hd16 hc16)
        obtain ⟨N, hN⟩ : ∃ N : Nat, (40 : Int) + y = (N : Int) := ⟨(40 + y).toNat, by omega⟩
        have hN40 : N ≤ 41 := by omega
        have hz16 := Q16.out.ch.size
        clear hy hd16 hc16 Q15
        go_wp2_with (at_make; refine wpList_make_full _ rfl _ _ _ rfl w16.heap.size 65 i0 _ 4 Try.underlying59 hi0 hz0 hz1 .i64 .i64 _ _ N rfl rfl rfl rfl (by rw [hz2]; omega) (by unfold maxLen; omega) (by simp) ?_; intro w17 hown17 hg17; have QZ : Hid (RowSt GOrd.cells 65 4 w0 w4 w17 S (some ⟨w16.heap.size, 0, none⟩) N N) := Lib.hid ⟨⟨List.replicate N ⟨0, 0, 0, 0⟩, own_base (own_cells_eq hown17 (made_flat GOrd.cells ⟨0, 0, 0, 0⟩ #[.int .i64 0, .int .i64 0, .int .i64 0, .int .i64 0] 4 rfl rfl (by omega) N)) hz16⟩, Q16.out.dr.grow (Gr.of_grown hg17), Q16.out.ch.trans ((Gr.of_grown hg17).chg _)⟩; clear hown17 hg17; obtain ⟨⟨hMz, hRz⟩, h1, ⟨n', h2⟩, ⟨ls, h3⟩, h4, h5⟩ := list_end HN.out QZ.out hRw hRw0 hSR hMR; have m0 := rb_cell (j := 0) hMz rfl; have m1 := rb_cell (j := 1) hMz rfl; have r0 := rb_cell (j := 0) hRz rfl; have r1 := rb_cell (j := 1) hRz rfl; have f0 := rb_frozen hRz 0; have f1 := rb_frozen hRz 1; have H1 := Lib.hid h1; have H2 := Lib.hid h2; have H3 := Lib.hid h3; have H4 := Lib.hid h4; have H5 := Lib.hid h5; clear h1 h2 h3 h4 h5 hMz hRz)
        (try simp only [Exit.inBlock, Exit.then])
        refine bodyPost_ret (results_row_tmp Try.results131 _ _ R 27 #[.slice A1 n1 c1, .slice A2 n2 c2] (0, 0) _ ?_ H1.out Try.underlying27 rfl (by kernel_rfl)) ?_ ?_
        · rfl
        · rfl
        exact ⟨_, _, _, _, _, _, n', _, _, _, ls, rfl, H2.out, by omega, H3.out, H4.out, H5.out⟩
      · have tt : (t == 0) = false := by simp [ht0]
        have QZ := Q15
        obtain ⟨⟨hMz, hRz⟩, h1, ⟨n', h2⟩, ⟨ls, h3⟩, h4, h5⟩ := list_end HN.out QZ.out hRw hRw0 hSR hMR
        have m0 := rb_cell (j := 0) hMz rfl
        have m1 := rb_cell (j := 1) hMz rfl
        have r0 := rb_cell (j := 0) hRz rfl
        have r1 := rb_cell (j := 1) hRz rfl
        have f0 := rb_frozen hRz 0
        have f1 := rb_frozen hRz 1
        have H1 := Lib.hid h1
        have H2 := Lib.hid h2
        have H3 := Lib.hid h3
        have H4 := Lib.hid h4
        have H5 := Lib.hid h5
        clear h1 h2 h3 h4 h5 hMz hRz
        go_wp2_with fail
        (try simp only [Exit.inBlock, Exit.then])
        refine bodyPost_ret (results_row_tmp Try.results131 _ _ R 27 #[.slice A1 n1 c1, .slice A2 n2 c2] (0, 0) _ ?_ H1.out Try.underlying27 rfl (by kernel_rfl)) ?_ ?_
        · rfl
        · rfl
        exact ⟨_, _, _, _, _, _, n', _, _, _, ls, rfl, H2.out, by omega, H3.out, H4.out, H5.out⟩
set_option maxHeartbeats 1600000 in
theorem DrawReadingsFor_any {A : Option Addr} {m c : Nat} (bs : List UInt8) (w : World) (hC : SlAt w 1 A m c (byts bs)) :
    Calls Try.prog 75 #[.slice A m c] w fun e w' => ∃ A1 n1 c1 A2 n2 c2 n A3 n3 c3, ∃ ls : List GOrd, e = .returned (.tuple #[.agg #[.slice A1 n1 c1, .slice A2 n2 c2], .slice A3 n3 c3]) ∧ NetAt w' A1 n1 c1 A2 n2 c2 n ∧ SlAt w' 4 A3 n3 c3 (ls.flatMap GOrd.cells) ∧ Gr w w' := by
  have HC := Lib.hid hC
  clear hC
  go_enter Try.func75, Try.ntmps75
  go_wp2_with fail
  obtain ⟨w1, hw1⟩ : ∃ W, W = w.alloc (.cells #[.slice none 0 0, .slice none 0 0] 27) := ⟨_, rfl⟩
  have hR : w1.heap[w.heap.size]? = some (.cells #[.slice none 0 0, .slice none 0 0] 27 (0, 0)) := by rw [hw1]; exact heap_alloc_new w _
  have hg1 : Gr w w1 := by rw [hw1]; exact (Gr.refl _).alloc _
  have hs1 : w1.heap.size = w.heap.size + 1 := by rw [hw1]; simp
  obtain ⟨R, hRe⟩ : ∃ R, R = w.heap.size := ⟨_, rfl⟩
  rw [← hw1, ← hRe]
  rw [← hRe] at hR hs1
  have hRw : w.heap.size ≤ R := by omega
  have HR := Lib.hid hR
  have Hs1 := Lib.hid hs1
  clear hw1 hRe hR hs1
  refine (l01From_any bs _ (HC.out.gr hg1)).mono ?_
  rintro e w2 ⟨S, rfl, hS, hd2⟩
  have HD2 := Lib.hid hd2
  clear hd2
  go_wp2_with fail
  refine (l22Draw_any HD2.out).mono ?_
  rintro e w3 ⟨A1, n1, c1, A2, n2, c2, n, A3, n3, c3, ls, rfl, hO, h3, hl, hd3, _⟩
  obtain ⟨hR3, h1, h2, h4, h5⟩ := law_end hg1 Hs1.out hRw HR.out HD2.out.gr hd3 hO hl (by omega)
  have m0 := rb_cell (j := 0) hR3 rfl
  have m1 := rb_cell (j := 1) hR3 rfl
  have f0 := rb_frozen hR3 0
  have f1 := rb_frozen hR3 1
  have H1 := Lib.hid h1
  have H2 := Lib.hid h2
  have H4 := Lib.hid h4
  have H5 := Lib.hid h5
  clear hO hl hd3 hR3 h1 h2 h4 h5
  go_wp2_with fail
  (try simp only [Exit.inBlock, Exit.then])
  refine bodyPost_ret (results_row_tmp Try.results75 _ _ R 27 #[.slice A1 n1 c1, .slice A2 n2 c2] (0, 0) _ ?_ H1.out Try.underlying27 rfl (by kernel_rfl)) ?_ ?_
  · rfl
  · rfl
  exact ⟨_, _, _, _, _, _, n, _, _, _, ls, rfl, H2.out, H4.out, H5.out⟩
end Go.Proofs.Ytejfpajbkgfiaaa
