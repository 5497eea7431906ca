/-
  Draws: transports with a set or with scales. Printed by gen_draw12.py.
-/
import Derived.Test.YtejfpajbkgfiaaaDrawC
import Derived.Test.YtejfpajbkgfiaaaConfA
import Derived.Test.YtejfpajbkgfiaaaCurtA
set_option linter.unusedSimpArgs false
set_option linter.unusedVariables false
namespace Go.Proofs.Ytejfpajbkgfiaaa
open Go.ChangeShapes Go.WideShapes Go.ChangeAt Go.RowKit

/-- The end of a draw with two lists. -/
theorem list_end2 {α : Type} {f : α → List Value} {e e2 : TypeId} {sz sz2 : Nat} {w0 w w4 wz : World} {S R M : Nat} {A1 A2 A B : Option Addr} {n1 c1 n2 c2 u c m d : Nat} {xs : List Value} (hN : NetM w0 w w4 S R M A1 n1 c1 A2 n2 c2) (hl : w4.ownsRow (R + 1) e2 sz2 (.slice B m d) m xs) (q : RowSt f e sz w0 w4 wz S A u c) (hRw : w.heap.size ≤ R) (hRw0 : w0.heap.size ≤ R) (hSR : S < R) (hMR : R < M) :
    (wz.heap[M]? = some (.cells #[.slice A1 n1 c1, .slice A2 n2 c2] 27 (0, 0)) ∧ wz.heap[R]? = some (.cells #[.slice none 0 0, .slice none 0 0] 27 (0, 0))) ∧
    ((wz.setCell ⟨R, 0, none⟩ (.slice A1 n1 c1)).setCell ⟨R, 1, none⟩ (.slice A2 n2 c2)).heap[R]? = some (.cells #[.slice A1 n1 c1, .slice A2 n2 c2] 27 (0, 0)) ∧
    (∃ n, OwnNet ((wz.setCell ⟨R, 0, none⟩ (.slice A1 n1 c1)).setCell ⟨R, 1, none⟩ (.slice A2 n2 c2)) w.heap.size A1 n1 c1 A2 n2 c2 n) ∧
    (∃ ls : List α, ((wz.setCell ⟨R, 0, none⟩ (.slice A1 n1 c1)).setCell ⟨R, 1, none⟩ (.slice A2 n2 c2)).ownsRow w.heap.size e sz (.slice A u c) u (ls.flatMap f)) ∧
    ((wz.setCell ⟨R, 0, none⟩ (.slice A1 n1 c1)).setCell ⟨R, 1, none⟩ (.slice A2 n2 c2)).ownsRow w.heap.size e2 sz2 (.slice B m d) m xs ∧
    Drw w0 ((wz.setCell ⟨R, 0, none⟩ (.slice A1 n1 c1)).setCell ⟨R, 1, none⟩ (.slice A2 n2 c2)) S ∧ Chg (fun j => j = S) w ((wz.setCell ⟨R, 0, none⟩ (.slice A1 n1 c1)).setCell ⟨R, 1, none⟩ (.slice A2 n2 c2)) := by
  obtain ⟨a1, a2, a3, a4, a5, a6⟩ := list_end hN q hRw hRw0 hSR hMR
  have hcc : Chg (fun j => j = R) wz ((wz.setCell ⟨R, 0, none⟩ (.slice A1 n1 c1)).setCell ⟨R, 1, none⟩ (.slice A2 n2 c2)) := (chg_put _ _).trans (chg_put _ _)
  have h1 := own_chg hl q.ch (fun j hj e => by have := own_low hl hj; omega)
  exact ⟨a1, a2, a3, a4, own_base (own_chg h1 hcc (fun j hj e => by have := own_low hl hj; omega)) (by omega), a5, a6⟩
theorem flat_int (l : List Int) : l.flatMap (fun z : Int => [Value.int .i64 z]) = ints l := by
  induction l with
  | nil => rfl
  | cons x l ih => simp only [List.flatMap_cons, ih, ints, List.map_cons, List.cons_append, List.nil_append]
/-- A row of numbers that is the call's own takes the list's place. -/
theorem RowSt.take {w0 w4 wr w' : World} {S : Nat} {A A' : Option Addr} {u c u' c' : Nat} {zs : List Int} (q : RowSt (fun z : Int => [Value.int .i64 z]) 2 1 w0 w4 wr S A u c) (hS : S < w4.heap.size) (hg : Gr wr w') (ho : w'.ownsRow wr.heap.size 2 1 (.slice A' u' c') u' (ints zs)) : RowSt (fun z : Int => [Value.int .i64 z]) 2 1 w0 w4 w' S A' u' c' :=
  ⟨⟨zs, own_base (own_eq' ho (flat_int zs).symm) q.ch.size⟩, q.dr.grow hg, q.ch.trans (hg.chg _)⟩
theorem NetM.at_ {w0 w wx : World} {S R M : Nat} {A1 A2 : Option Addr} {n1 c1 n2 c2 : Nat} (h : NetM w0 w wx S R M A1 n1 c1 A2 n2 c2) : ∃ q, NetAt wx A1 n1 c1 A2 n2 c2 q := by
  obtain ⟨q, _, hO, _⟩ := h
  exact ⟨q, hO.at_⟩
set_option maxHeartbeats 6400000 in
set_option maxRecDepth 100000 in
theorem l26Draw_any {w0 w : World} {S : Nat} (h : Drw w0 w S) :
    Calls Try.prog 120 #[.pointer (some ⟨S, 0, none⟩)] w fun e w' => ∃ A1 n1 c1 A2 n2 c2 n A3 n3 c3, ∃ ls : List GTr, ∃ A4 n4 c4, ∃ zs : List Int, e = .returned (.tuple #[.agg #[.slice A1 n1 c1, .slice A2 n2 c2], .slice A3 n3 c3, .slice A4 n4 c4]) ∧ OwnNet w' w.heap.size A1 n1 c1 A2 n2 c2 n ∧ n3 ≤ 40 ∧ w'.ownsRow w.heap.size 39 4 (.slice A3 n3 c3) n3 (ls.flatMap GTr.cells) ∧ n4 ≤ 1048576 ∧ w'.ownsRow w.heap.size 2 1 (.slice A4 n4 c4) n4 (ints zs) ∧ Drw w0 w' S ∧ Chg (fun k => k = S) w w' := by
  obtain ⟨i0, hi0, hz0, hz1, hz2⟩ := info_parts infoInt64
  have hlt := h.lt
  have hbw := h.gr.size
  have H := Lib.hid h
  clear h
  go_enter Try.func120, Try.ntmps120
  go_wp2_with fail
  generalize hw1 : World.alloc w _ = w1
  have hR : w1.heap[w.heap.size]? = some (.cells #[.slice none 0 0, .slice none 0 0] 27 (0, 0)) := by rw [← hw1]; exact heap_alloc_new w _
  have hg1 : Gr w w1 := by rw [← hw1]; exact (Gr.refl _).alloc _
  have hs1 : w1.heap.size = w.heap.size + 1 := by rw [← hw1]; simp
  obtain ⟨R, hRe⟩ : ∃ R, R = w.heap.size := ⟨_, rfl⟩
  rw [← hRe] at hR ⊢
  have hSR : S < R := by omega
  have hRw : w.heap.size ≤ R := by omega
  have hR1 : w1.heap.size = R + 1 := by omega
  have hRw0 : w0.heap.size ≤ R := by omega
  have HR := Lib.hid hR
  clear hw1 hRe hR
  refine (l24Draw_any (H.out.grow hg1)).mono ?_
  rintro e w2 ⟨A1, n1, c1, A2, n2, c2, n, A3, n3, c3, tr, rfl, hown, hn3, hl3, hd2, hc2⟩
  have hR2 := rb_chg HR.out hc2 (by omega)
  have hcc2 := (hg1.chg (fun k => k = S)).trans hc2
  have hs2 := rb_lt hR2
  have hM3 : (w2.alloc (.cells #[.slice A1 n1 c1, .slice A2 n2 c2] 27)).heap[w2.heap.size]? = some (.cells #[.slice A1 n1 c1, .slice A2 n2 c2] 27 (0, 0)) := heap_alloc_new w2 _
  obtain ⟨w4, hw4⟩ : ∃ W, W = w2.alloc (.cells #[.slice A1 n1 c1, .slice A2 n2 c2] 27) := ⟨_, rfl⟩
  have hg3 : Gr w2 w4 := by rw [hw4]; exact (Gr.refl _).alloc _
  obtain ⟨M, hM⟩ : ∃ M, M = w2.heap.size := ⟨_, rfl⟩
  rw [← hM, ← hw4] at hM3
  have hMR : R < M := by omega
  have hO3 : OwnNet w4 (R + 1) A1 n1 c1 A2 n2 c2 n := by rw [← hR1]; exact hown.gr hg3
  have hl4 : w4.ownsRow (R + 1) 39 4 (.slice A3 n3 c3) n3 (tr.flatMap GTr.cells) := by rw [← hR1]; exact own_gr hl3 hg3
  have hN3 : NetM w0 w w4 S R M A1 n1 c1 A2 n2 c2 := ⟨n, hM3, hO3, hd2.grow hg3, hcc2.trans (hg3.chg _), (hg3.below.block R hs2).trans hR2⟩
  have q5 : RowSt (fun z : Int => [Value.int .i64 z]) 2 1 w0 w4 (w4.alloc (.cells #[] 2)) S (some ⟨w4.heap.size, 0, none⟩) 0 0 := RowSt.init (hd2.grow hg3) (by omega)
  have hM4 := rb_lt hM3
  have hS4 : S < w4.heap.size := by omega
  have h04 : w0.heap.size ≤ w4.heap.size := by omega
  have Hs4 : Hid (w4.heap.size = M + 1) := Lib.hid (by rw [hw4, hM]; simp)
  have Hw4 := Lib.hid hw4
  have HMe := Lib.hid hM
  have HN := Lib.hid hN3
  have HL := Lib.hid hl4
  have Q5 := Lib.hid q5
  clear hw4 hM hM3 HR hc2 hown hd2 hR2 hcc2 hs2 hO3 hN3 hl3 hl4 q5
  go_wp2_with fail
  rw [← Hw4.out, ← HMe.out]
  go_loopw [7, 8] (fun o i wq => ∃ k : Nat, k ≤ n3 ∧ i = .int .i64 k ∧ ∃ A u c, u ≤ k ∧ o = .slice A u c ∧ RowSt (fun z : Int => [Value.int .i64 z]) 2 1 w0 w4 wq S A u c) (fun _ i _ => n3 - (intOf i).toNat)
  case atStart => exact ⟨0, Nat.zero_le _, rfl, _, _, _, Nat.le_refl _, rfl, by have := Q5.out; rw [Hs4.out] at this; exact this⟩
  case round =>
    obtain ⟨k, hk, rfl, A, u, c, hu, rfl, q⟩ := hrel
    have QQ := Lib.hid q
    clear q Q5
    by_cases hkn : k < n3
    · have t1 : (k : Int) < (n3 : Int) := by omega
      go_wp2_with fail
      refine (l01Next_any 4 QQ.out.dr (by omega)).mono ?_
      rintro e w5 ⟨x, rfl, hx, hd5, hc5⟩
      have Q := Lib.hid (QQ.out.next hS4 hd5 hc5)
      have hx0 := hx.1
      clear hx hd5 hc5 QQ
      by_cases hxz : x = 0
      · have tx : decide ((0 : Int) < x) = false := by simp; omega
        go_wp2_with fail
        go_roundw
        case rel => exact ⟨k + 1, by omega, by go_num, _, _, _, by omega, rfl, Q.out⟩
        case measure => simp [intOf]; omega
      · have tx : decide ((0 : Int) < x) = true := by simp; omega
        obtain ⟨ls, hls⟩ := Q.out.row
        have Hls := Lib.hid hls
        have hws := Q.out.ch.size
        clear hls
        go_wp2_with (at_builtin; (refine wpList_append_own _ rfl _ _ _ rfl w4.heap.size 2 i0 _ 1 8 Try.underlying33 hi0 hz0 hz1 hz2 rfl (by omega) _ u _ rfl (Hls.out.alloc _) ⟨w5.heap.size, 0, none⟩ 1 1 [.int .i64 (k : Int)] rfl rfl (World.news_of_block (cs := #[.int .i64 (k : Int)]) (t := 2) (fr := (0, 0)) (heap_alloc_new w5 _)) (by simp [Value.oneCell']) (by unfold maxLen; omega) (by omega) (by simp; omega) ?_; intro v' w20 hown20 hg20 _; obtain ⟨A', c', rfl⟩ := own_shape hown20; have Q20 := Lib.hid (Q.out.add (x := (k : Int)) hS4 h04 hown20 hg20); clear hown20 hg20 Hls))
        go_wp2_with fail
        go_roundw
        case rel => exact ⟨k + 1, by omega, by go_num, _, _, _, by omega, rfl, Q20.out⟩
        case measure => simp [intOf]; omega
    · obtain rfl : n3 = k := by omega
      go_wp2_with fail
      refine (l01Next_any 20 QQ.out.dr (by omega)).mono ?_
      rintro e w5 ⟨t, rfl, ht, hd5, hc5⟩
      have Q := Lib.hid (QQ.out.next hS4 hd5 hc5)
      clear ht hd5 hc5 QQ
      by_cases h0 : t = 0
      · subst h0
        obtain ⟨ls, hls⟩ := Q.out.row
        have Hls := Lib.hid hls
        have hws := Q.out.ch.size
        clear hls
        go_upto_region 18 with (at_builtin; (refine wpList_append_own _ rfl _ _ _ rfl w4.heap.size 2 i0 _ 1 8 Try.underlying33 hi0 hz0 hz1 hz2 rfl (by omega) _ u _ rfl (Hls.out.alloc _) ⟨w5.heap.size, 0, none⟩ 1 1 [.int .i64 (n3 : Int)] rfl rfl (World.news_of_block (cs := #[.int .i64 (n3 : Int)]) (t := 2) (fr := (0, 0)) (heap_alloc_new w5 _)) (by simp [Value.oneCell']) (by unfold maxLen; omega) (by omega) (by simp; omega) ?_; intro v' w20 hown20 hg20 _; obtain ⟨A', c', rfl⟩ := own_shape hown20; have Q20 := Lib.hid (Q.out.add (x := (n3 : Int)) hS4 h04 hown20 hg20); clear hown20 hg20 Hls))
        obtain ⟨⟨hMz, hRz⟩, h1, ⟨n', h2⟩, ⟨ls, h3⟩, h6, h4, h5⟩ := list_end2 HN.out HL.out Q20.out hRw hRw0 hSR hMR
        have m0 := rb_cell (j := 0) hMz rfl
        have m1 := rb_cell (j := 1) hMz rfl
        have r0 := rb_cell (j := 0) hRz rfl
        have r1 := rb_cell (j := 1) hRz rfl
        have f0 := rb_frozen hRz 0
        have f1 := rb_frozen hRz 1
        have H1 := Lib.hid h1
        have H2 := Lib.hid h2
        have H3 := Lib.hid (own_eq' h3 (flat_int ls))
        have H4 := Lib.hid h4
        have H5 := Lib.hid h5
        have H6 := Lib.hid h6
        clear h1 h2 h3 h4 h5 h6 hMz hRz
        go_wp2_with fail
        (try simp only [Exit.inBlock, Exit.then])
        refine bodyPost_ret (results_row_tmp2 Try.results120 _ _ R 27 #[.slice A1 n1 c1, .slice A2 n2 c2] (0, 0) _ ?_ H1.out Try.underlying27 rfl (by kernel_rfl)) ?_ ?_
        · rfl
        · rfl
        exact ⟨_, _, _, _, _, _, n', _, _, _, tr, _, _, _, ls, rfl, H2.out, by omega, H6.out, by omega, H3.out, H4.out, H5.out⟩
      by_cases h1' : t = 1
      · subst h1'
        obtain ⟨ls, hls⟩ := Q.out.row
        have Hls := Lib.hid hls
        have hws := Q.out.ch.size
        clear hls
        go_upto_region 18 with (at_builtin; (refine wpList_append_own _ rfl _ _ _ rfl w4.heap.size 2 i0 _ 1 8 Try.underlying33 hi0 hz0 hz1 hz2 rfl (by omega) _ u _ rfl (Hls.out.alloc _) ⟨w5.heap.size, 0, none⟩ 1 1 [.int .i64 0] rfl rfl (World.news_of_block (cs := #[.int .i64 0]) (t := 2) (fr := (0, 0)) (heap_alloc_new w5 _)) (by simp [Value.oneCell']) (by unfold maxLen; omega) (by omega) (by simp; omega) ?_; intro v' w20 hown20 hg20 _; obtain ⟨A', c', rfl⟩ := own_shape hown20; have Q20 := Lib.hid (Q.out.add (x := 0) hS4 h04 hown20 hg20); clear hown20 hg20 Hls))
        obtain ⟨⟨hMz, hRz⟩, h1, ⟨n', h2⟩, ⟨ls, h3⟩, h6, h4, h5⟩ := list_end2 HN.out HL.out Q20.out hRw hRw0 hSR hMR
        have m0 := rb_cell (j := 0) hMz rfl
        have m1 := rb_cell (j := 1) hMz rfl
        have r0 := rb_cell (j := 0) hRz rfl
        have r1 := rb_cell (j := 1) hRz rfl
        have f0 := rb_frozen hRz 0
        have f1 := rb_frozen hRz 1
        have H1 := Lib.hid h1
        have H2 := Lib.hid h2
        have H3 := Lib.hid (own_eq' h3 (flat_int ls))
        have H4 := Lib.hid h4
        have H5 := Lib.hid h5
        have H6 := Lib.hid h6
        clear h1 h2 h3 h4 h5 h6 hMz hRz
        go_wp2_with fail
        (try simp only [Exit.inBlock, Exit.then])
        refine bodyPost_ret (results_row_tmp2 Try.results120 _ _ R 27 #[.slice A1 n1 c1, .slice A2 n2 c2] (0, 0) _ ?_ H1.out Try.underlying27 rfl (by kernel_rfl)) ?_ ?_
        · rfl
        · rfl
        exact ⟨_, _, _, _, _, _, n', _, _, _, tr, _, _, _, ls, rfl, H2.out, by omega, H6.out, by omega, H3.out, H4.out, H5.out⟩
      have tt0 : (t == 0) = false := by simp [h0]
      have tt1 : (t == 1) = false := by simp [h1']
      by_cases h23 : t = 2 ∨ t = 3
      · have hNM := HN.out.next hSR hMR Q.out.dr Q.out.ch
        obtain ⟨q', hat⟩ := hNM.at_
        have hMz := hNM.choose_spec.1
        have m0 := rb_cell (j := 0) hMz rfl
        have m1 := rb_cell (j := 1) hMz rfl
        have hsl : SlAt w5 4 A3 n3 c3 (tr.flatMap GTr.cells) := SlAt.of_own (own_chg HL.out Q.out.ch (fun j hj e => by have := own_low HL.out hj; omega)) (by omega)
        have Hat := Lib.hid hat
        have Hsl := Lib.hid hsl
        clear hNM hat hMz hsl
        rcases h23 with rfl | rfl
        all_goals
          clear h0 h1' tt0 tt1
          go_wp2_with fail
          refine (spFindConflict_any q' tr _ Hat.out Hsl.out).mono ?_
          rintro e w6 ⟨B, bm, bc, rfl, hbm, ho, hg6⟩
          have Q6 := Lib.hid (Q.out.take hS4 hg6 ho)
          have Q7 := Lib.hid (Q.out.next hS4 (Q.out.dr.grow hg6) (hg6.chg _))
          clear hg6 ho m0 m1
          by_cases hcf : cfCode q' tr (idx tr.length) = 0
          · have tc : (cfCode q' tr (idx tr.length) == 0) = true := by simp [hcf]
            clear hcf
            go_upto_region 18 with fail
            obtain ⟨⟨hMz, hRz⟩, h1, ⟨n', h2⟩, ⟨ls, h3⟩, h6, h4, h5⟩ := list_end2 HN.out HL.out Q6.out hRw hRw0 hSR hMR
            have m0 := rb_cell (j := 0) hMz rfl
            have m1 := rb_cell (j := 1) hMz rfl
            have r0 := rb_cell (j := 0) hRz rfl
            have r1 := rb_cell (j := 1) hRz rfl
            have f0 := rb_frozen hRz 0
            have f1 := rb_frozen hRz 1
            have H1 := Lib.hid h1
            have H2 := Lib.hid h2
            have H3 := Lib.hid (own_eq' h3 (flat_int ls))
            have H4 := Lib.hid h4
            have H5 := Lib.hid h5
            have H6 := Lib.hid h6
            clear h1 h2 h3 h4 h5 h6 hMz hRz
            go_wp2_with fail
            (try simp only [Exit.inBlock, Exit.then])
            refine bodyPost_ret (results_row_tmp2 Try.results120 _ _ R 27 #[.slice A1 n1 c1, .slice A2 n2 c2] (0, 0) _ ?_ H1.out Try.underlying27 rfl (by kernel_rfl)) ?_ ?_
            · rfl
            · rfl
            exact ⟨_, _, _, _, _, _, n', _, _, _, tr, _, _, _, ls, rfl, H2.out, by omega, H6.out, by omega, H3.out, H4.out, H5.out⟩
          · have tc : (cfCode q' tr (idx tr.length) == 0) = false := by simp [hcf]
            clear hcf
            go_upto_region 18 with fail
            obtain ⟨⟨hMz, hRz⟩, h1, ⟨n', h2⟩, ⟨ls, h3⟩, h6, h4, h5⟩ := list_end2 HN.out HL.out Q7.out hRw hRw0 hSR hMR
            have m0 := rb_cell (j := 0) hMz rfl
            have m1 := rb_cell (j := 1) hMz rfl
            have r0 := rb_cell (j := 0) hRz rfl
            have r1 := rb_cell (j := 1) hRz rfl
            have f0 := rb_frozen hRz 0
            have f1 := rb_frozen hRz 1
            have H1 := Lib.hid h1
            have H2 := Lib.hid h2
            have H3 := Lib.hid (own_eq' h3 (flat_int ls))
            have H4 := Lib.hid h4
            have H5 := Lib.hid h5
            have H6 := Lib.hid h6
            clear h1 h2 h3 h4 h5 h6 hMz hRz
            go_wp2_with fail
            (try simp only [Exit.inBlock, Exit.then])
            refine bodyPost_ret (results_row_tmp2 Try.results120 _ _ R 27 #[.slice A1 n1 c1, .slice A2 n2 c2] (0, 0) _ ?_ H1.out Try.underlying27 rfl (by kernel_rfl)) ?_ ?_
            · rfl
            · rfl
            exact ⟨_, _, _, _, _, _, n', _, _, _, tr, _, _, _, ls, rfl, H2.out, by omega, H6.out, by omega, H3.out, H4.out, H5.out⟩
      · have tt2 : (t == 2) = false := by simp; omega
        have tt3 : (t == 3) = false := by simp; omega
        clear h0 h1' h23
        go_upto_region 18 with fail
        obtain ⟨⟨hMz, hRz⟩, h1, ⟨n', h2⟩, ⟨ls, h3⟩, h6, h4, h5⟩ := list_end2 HN.out HL.out Q.out hRw hRw0 hSR hMR
        have m0 := rb_cell (j := 0) hMz rfl
        have m1 := rb_cell (j := 1) hMz rfl
        have r0 := rb_cell (j := 0) hRz rfl
        have r1 := rb_cell (j := 1) hRz rfl
        have f0 := rb_frozen hRz 0
        have f1 := rb_frozen hRz 1
        have H1 := Lib.hid h1
        have H2 := Lib.hid h2
        have H3 := Lib.hid (own_eq' h3 (flat_int ls))
        have H4 := Lib.hid h4
        have H5 := Lib.hid h5
        have H6 := Lib.hid h6
        clear h1 h2 h3 h4 h5 h6 hMz hRz
        go_wp2_with fail
        (try simp only [Exit.inBlock, Exit.then])
        refine bodyPost_ret (results_row_tmp2 Try.results120 _ _ R 27 #[.slice A1 n1 c1, .slice A2 n2 c2] (0, 0) _ ?_ H1.out Try.underlying27 rfl (by kernel_rfl)) ?_ ?_
        · rfl
        · rfl
        exact ⟨_, _, _, _, _, _, n', _, _, _, tr, _, _, _, ls, rfl, H2.out, by omega, H6.out, by omega, H3.out, H4.out, H5.out⟩
theorem law_end2 {α : Type} {f : α → List Value} {e e2 : TypeId} {sz sz2 : Nat} {w w1 w2 w3 : World} {S R n1 c1 n2 c2 n3 c3 n4 c4 : Nat} {A1 A2 A3 A4 : Option Addr} {n : GNet} {ls : List α} {xs : List Value} (hg1 : Gr w w1) (hR1 : w1.heap.size = R + 1) (hRw : w.heap.size ≤ R) (hR : w1.heap[R]? = some (.cells #[.slice none 0 0, .slice none 0 0] 27 (0, 0)))
    (hd2 : Gr w1 w2) (hd3 : Drw w1 w3 S) (hO : OwnNet w3 w2.heap.size A1 n1 c1 A2 n2 c2 n) (hl : w3.ownsRow w2.heap.size e sz (.slice A3 n3 c3) n3 (ls.flatMap f)) (h3 : n3 ≤ 1048576) (hl4 : w3.ownsRow w2.heap.size e2 sz2 (.slice A4 n4 c4) n4 xs) (h4 : n4 ≤ 1048576) :
    w3.heap[R]? = some (.cells #[.slice none 0 0, .slice none 0 0] 27 (0, 0)) ∧
    ((w3.setCell ⟨R, 0, none⟩ (.slice A1 n1 c1)).setCell ⟨R, 1, none⟩ (.slice A2 n2 c2)).heap[R]? = some (.cells #[.slice A1 n1 c1, .slice A2 n2 c2] 27 (0, 0)) ∧
    NetAt ((w3.setCell ⟨R, 0, none⟩ (.slice A1 n1 c1)).setCell ⟨R, 1, none⟩ (.slice A2 n2 c2)) A1 n1 c1 A2 n2 c2 n ∧
    SlAt ((w3.setCell ⟨R, 0, none⟩ (.slice A1 n1 c1)).setCell ⟨R, 1, none⟩ (.slice A2 n2 c2)) sz A3 n3 c3 (ls.flatMap f) ∧
    SlAt ((w3.setCell ⟨R, 0, none⟩ (.slice A1 n1 c1)).setCell ⟨R, 1, none⟩ (.slice A2 n2 c2)) sz2 A4 n4 c4 xs ∧
    Gr w ((w3.setCell ⟨R, 0, none⟩ (.slice A1 n1 c1)).setCell ⟨R, 1, none⟩ (.slice A2 n2 c2)) := by
  obtain ⟨a1, a2, a3, a4, a5⟩ := law_end hg1 hR1 hRw hR hd2 hd3 hO hl h3
  have hs2 := hd2.size
  have hcc : Chg (fun j => j = R) w3 ((w3.setCell ⟨R, 0, none⟩ (.slice A1 n1 c1)).setCell ⟨R, 1, none⟩ (.slice A2 n2 c2)) := (chg_put _ _).trans (chg_put _ _)
  exact ⟨a1, a2, a3, a4, SlAt.of_own (own_chg hl4 hcc (fun j hj e => by have := own_low hl4 hj; omega)) h4, a5⟩
set_option maxHeartbeats 1600000 in
theorem DrawThinConflict_any {A : Option Addr} {m c : Nat} (bs : List UInt8) (w : World) (hC : SlAt w 1 A m c (byts bs)) :
    Calls Try.prog 59 #[.slice A m c] w fun e w' => ∃ A1 n1 c1 A2 n2 c2 n A3 n3 c3, ∃ ls : List GTr, ∃ A4 n4 c4, ∃ zs : List Int, e = .returned (.tuple #[.agg #[.slice A1 n1 c1, .slice A2 n2 c2], .slice A3 n3 c3, .slice A4 n4 c4]) ∧ NetAt w' A1 n1 c1 A2 n2 c2 n ∧ SlAt w' 4 A3 n3 c3 (ls.flatMap GTr.cells) ∧ SlAt w' 1 A4 n4 c4 (ints zs) ∧ Gr w w' := by
  have HC := Lib.hid hC
  clear hC
  go_enter Try.func59, Try.ntmps59
  go_wp2_with fail
  obtain ⟨w1, hw1⟩ : ∃ W, W = w.alloc (.cells #[.slice none 0 0, .slice none 0 0] 27) := ⟨_, rfl⟩
  have hR : w1.heap[w.heap.size]? = some (.cells #[.slice none 0 0, .slice none 0 0] 27 (0, 0)) := by rw [hw1]; exact heap_alloc_new w _
  have hg1 : Gr w w1 := by rw [hw1]; exact (Gr.refl _).alloc _
  have hs1 : w1.heap.size = w.heap.size + 1 := by rw [hw1]; simp
  obtain ⟨R, hRe⟩ : ∃ R, R = w.heap.size := ⟨_, rfl⟩
  rw [← hw1, ← hRe]
  rw [← hRe] at hR hs1
  have hRw : w.heap.size ≤ R := by omega
  have HR := Lib.hid hR
  have Hs1 := Lib.hid hs1
  clear hw1 hRe hR hs1
  refine (l01From_any bs _ (HC.out.gr hg1)).mono ?_
  rintro e w2 ⟨S, rfl, hS, hd2⟩
  have HD2 := Lib.hid hd2
  clear hd2
  go_wp2_with fail
  refine (l26Draw_any HD2.out).mono ?_
  rintro e w3 ⟨A1, n1, c1, A2, n2, c2, n, A3, n3, c3, ls, A4, n4, c4, zs, rfl, hO, h3, hl, h4, hl4, hd3, _⟩
  obtain ⟨hR3, h1, h2, h5, h6, h7⟩ := law_end2 hg1 Hs1.out hRw HR.out HD2.out.gr hd3 hO hl (by omega) hl4 h4
  have m0 := rb_cell (j := 0) hR3 rfl
  have m1 := rb_cell (j := 1) hR3 rfl
  have f0 := rb_frozen hR3 0
  have f1 := rb_frozen hR3 1
  have H1 := Lib.hid h1
  have H2 := Lib.hid h2
  have H5 := Lib.hid h5
  have H6 := Lib.hid h6
  have H7 := Lib.hid h7
  clear hO hl hl4 hd3 hR3 h1 h2 h5 h6 h7
  go_wp2_with fail
  (try simp only [Exit.inBlock, Exit.then])
  refine bodyPost_ret (results_row_tmp2 Try.results59 _ _ R 27 #[.slice A1 n1 c1, .slice A2 n2 c2] (0, 0) _ ?_ H1.out Try.underlying27 rfl (by kernel_rfl)) ?_ ?_
  · rfl
  · rfl
  exact ⟨_, _, _, _, _, _, n, _, _, _, ls, _, _, _, zs, rfl, H2.out, H5.out, H6.out, H7.out⟩
set_option maxHeartbeats 1600000 in
theorem DrawRelievers_any {A : Option Addr} {m c : Nat} (bs : List UInt8) (w : World) (hC : SlAt w 1 A m c (byts bs)) :
    Calls Try.prog 64 #[.slice A m c] w fun e w' => ∃ A1 n1 c1 A2 n2 c2 n A3 n3 c3, ∃ ls : List GTr, ∃ A4 n4 c4, ∃ zs : List Int, e = .returned (.tuple #[.agg #[.slice A1 n1 c1, .slice A2 n2 c2], .slice A3 n3 c3, .slice A4 n4 c4]) ∧ NetAt w' A1 n1 c1 A2 n2 c2 n ∧ SlAt w' 4 A3 n3 c3 (ls.flatMap GTr.cells) ∧ SlAt w' 1 A4 n4 c4 (ints zs) ∧ Gr w w' := by
  have HC := Lib.hid hC
  clear hC
  go_enter Try.func64, Try.ntmps64
  go_wp2_with fail
  obtain ⟨w1, hw1⟩ : ∃ W, W = w.alloc (.cells #[.slice none 0 0, .slice none 0 0] 27) := ⟨_, rfl⟩
  have hR : w1.heap[w.heap.size]? = some (.cells #[.slice none 0 0, .slice none 0 0] 27 (0, 0)) := by rw [hw1]; exact heap_alloc_new w _
  have hg1 : Gr w w1 := by rw [hw1]; exact (Gr.refl _).alloc _
  have hs1 : w1.heap.size = w.heap.size + 1 := by rw [hw1]; simp
  obtain ⟨R, hRe⟩ : ∃ R, R = w.heap.size := ⟨_, rfl⟩
  rw [← hw1, ← hRe]
  rw [← hRe] at hR hs1
  have hRw : w.heap.size ≤ R := by omega
  have HR := Lib.hid hR
  have Hs1 := Lib.hid hs1
  clear hw1 hRe hR hs1
  refine (l01From_any bs _ (HC.out.gr hg1)).mono ?_
  rintro e w2 ⟨S, rfl, hS, hd2⟩
  have HD2 := Lib.hid hd2
  clear hd2
  go_wp2_with fail
  refine (l26Draw_any HD2.out).mono ?_
  rintro e w3 ⟨A1, n1, c1, A2, n2, c2, n, A3, n3, c3, ls, A4, n4, c4, zs, rfl, hO, h3, hl, h4, hl4, hd3, _⟩
  obtain ⟨hR3, h1, h2, h5, h6, h7⟩ := law_end2 hg1 Hs1.out hRw HR.out HD2.out.gr hd3 hO hl (by omega) hl4 h4
  have m0 := rb_cell (j := 0) hR3 rfl
  have m1 := rb_cell (j := 1) hR3 rfl
  have f0 := rb_frozen hR3 0
  have f1 := rb_frozen hR3 1
  have H1 := Lib.hid h1
  have H2 := Lib.hid h2
  have H5 := Lib.hid h5
  have H6 := Lib.hid h6
  have H7 := Lib.hid h7
  clear hO hl hl4 hd3 hR3 h1 h2 h5 h6 h7
  go_wp2_with fail
  (try simp only [Exit.inBlock, Exit.then])
  refine bodyPost_ret (results_row_tmp2 Try.results64 _ _ R 27 #[.slice A1 n1 c1, .slice A2 n2 c2] (0, 0) _ ?_ H1.out Try.underlying27 rfl (by kernel_rfl)) ?_ ?_
  · rfl
  · rfl
  exact ⟨_, _, _, _, _, _, n, _, _, _, ls, _, _, _, zs, rfl, H2.out, H5.out, H6.out, H7.out⟩
end Go.Proofs.Ytejfpajbkgfiaaa
