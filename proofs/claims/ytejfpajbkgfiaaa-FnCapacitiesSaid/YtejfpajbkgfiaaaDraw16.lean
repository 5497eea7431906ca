/-
  Draws: a network and a set of nodes. Printed by gen_draw16.py.
-/
import Derived.Test.YtejfpajbkgfiaaaDraw13
set_option linter.unusedSimpArgs false
set_option linter.unusedVariables false
namespace Go.Proofs.Ytejfpajbkgfiaaa
open Go.ChangeShapes Go.WideShapes Go.ChangeAt Go.RowKit

set_option maxHeartbeats 6400000 in
set_option maxRecDepth 100000 in
theorem DrawSetCapacity_any {A : Option Addr} {m c : Nat} (bs : List UInt8) (w : World) (hC : SlAt w 1 A m c (byts bs)) :
    Calls Try.prog 81 #[.slice A m c] w fun e w' => ∃ A1 n1 c1 A2 n2 c2 n A4 n4 c4, ∃ zs : List Int, e = .returned (.tuple #[.agg #[.slice A1 n1 c1, .slice A2 n2 c2], .slice A4 n4 c4]) ∧ NetAt w' A1 n1 c1 A2 n2 c2 n ∧ n4 ≤ 1048576 ∧ w'.ownsRow w.heap.size 2 1 (.slice A4 n4 c4) n4 (ints zs) ∧ Gr w w' := by
  obtain ⟨i0, hi0, hz0, hz1, hz2⟩ := info_parts infoInt64
  have HC := Lib.hid hC
  clear hC
  go_enter Try.func81, Try.ntmps81
  go_wp2_with fail
  obtain ⟨w1, hw1⟩ : ∃ W, W = w.alloc (.cells #[.slice none 0 0, .slice none 0 0] 27) := ⟨_, rfl⟩
  have hR : w1.heap[w.heap.size]? = some (.cells #[.slice none 0 0, .slice none 0 0] 27 (0, 0)) := by rw [hw1]; exact heap_alloc_new w _
  have hg1 : Gr w w1 := by rw [hw1]; exact (Gr.refl _).alloc _
  have hs1 : w1.heap.size = w.heap.size + 1 := by rw [hw1]; simp
  obtain ⟨R, hRe⟩ : ∃ R, R = w.heap.size := ⟨_, rfl⟩
  rw [← hw1, ← hRe]
  rw [← hRe] at hR hs1
  have hRw : w.heap.size ≤ R := by omega
  have HR := Lib.hid hR
  have Hs1 := Lib.hid hs1
  clear hw1 hRe hR hs1
  refine (l01From_any bs _ (HC.out.gr hg1)).mono ?_
  rintro e w2 ⟨S, rfl, hS, hd2⟩
  have HD2 := Lib.hid hd2
  clear hd2
  go_wp2_with fail
  refine (l05DrawChord_any HD2.out).mono ?_
  rintro e w3 ⟨A1, n1, c1, A2, n2, c2, n, x0, rfl, hO, ⟨hn17, -⟩, hd3, hcS⟩
  obtain ⟨w4, hw4⟩ : ∃ W, W = w3.alloc (.cells #[.slice A1 n1 c1, .slice A2 n2 c2] 27) := ⟨_, rfl⟩
  have hg4 : Gr w3 w4 := by rw [hw4]; exact (Gr.refl _).alloc _
  have hM4 : w4.heap[w3.heap.size]? = some (.cells #[.slice A1 n1 c1, .slice A2 n2 c2] 27 (0, 0)) := by rw [hw4]; exact heap_alloc_new w3 _
  obtain ⟨M, hM⟩ : ∃ M, M = w3.heap.size := ⟨_, rfl⟩
  have hs4 : w4.heap.size = M + 1 := by rw [hw4, hM]; simp
  rw [← hM] at hM4
  have hSl := HD2.out.lt
  have hd23 := hd3.lt
  have hR3 := (hd3.gr.below.block R (rb_lt HR.out)).trans HR.out
  have hB : w2.heap.size ≤ M := by have := hcS.size; omega
  have G4 := Lib.hid (Got.mk (B := w2.heap.size) hg1 hRw Hs1.out hS hSl hB (by omega) hM4 ((hg4.below.block R (rb_lt hR3)).trans hR3) (hO.gr hg4) (A3 := none) (n3 := 0) (c3 := 0) (l := []) (Nat.zero_le _) (World.ownsRow_nil _ _ _ _) (hd3.grow hg4))
  have Hw4 := Lib.hid hw4
  have HMe := Lib.hid hM
  have Hs4 := Lib.hid hs4
  have hS4 : S < w4.heap.size := by omega
  have h04 : w1.heap.size ≤ w4.heap.size := by have := G4.out.s1; omega
  clear hw4 hM hs4 hg4 hM4 hSl hd23 hR3 hB hO hd3 hg1 hRw HR Hs1 HD2
  go_wp2_with fail
  rw [← Hw4.out, ← HMe.out]
  have Q5 : Hid (RowSt (fun z : Int => [Value.int .i64 z]) 2 1 w1 w4 (w4.alloc (.cells #[] 2)) S (some ⟨M + 1, 0, none⟩) 0 0) := Lib.hid (by have := RowSt.init (f := fun z : Int => [Value.int .i64 z]) (e := 2) (sz := 1) G4.out.dr (by omega); rw [Hs4.out] at this; exact this)
  go_loopw [7, 8] (fun o i wq => ∃ k : Nat, k ≤ n1 ∧ i = .int .i64 k ∧ ∃ A u c, u ≤ k ∧ o = .slice A u c ∧ RowSt (fun z : Int => [Value.int .i64 z]) 2 1 w1 w4 wq S A u c) (fun _ i _ => n1 - (intOf i).toNat)
  case atStart => exact ⟨0, Nat.zero_le _, rfl, _, _, _, Nat.le_refl _, rfl, Q5.out⟩
  case round =>
    obtain ⟨k, hk, rfl, A, u, cc, hu, rfl, q⟩ := hrel
    have QQ := Lib.hid q
    have GQ := G4.out.next QQ.out.dr QQ.out.ch
    have m0 := rb_cell (j := 0) GQ.m rfl
    clear q Q5 GQ
    by_cases hkn : k < n1
    · have t1 : (k : Int) < (n1 : Int) := by omega
      go_wp2_with fail
      refine (l01Next_any 2 QQ.out.dr (by omega)).mono ?_
      rintro e w5 ⟨x, rfl, hx, hd5, hc5⟩
      have Q := Lib.hid (QQ.out.next hS4 hd5 hc5)
      clear hx hd5 hc5 QQ m0
      by_cases hxz : x = 0
      · subst hxz
        obtain ⟨ls, hls⟩ := Q.out.row
        have Hls := Lib.hid hls
        have hws := Q.out.ch.size
        clear hls
        go_wp2_with (at_builtin; (refine wpList_append_own _ rfl _ _ _ rfl w4.heap.size 2 i0 _ 1 8 Try.underlying33 hi0 hz0 hz1 hz2 rfl (by omega) _ u _ rfl (Hls.out.alloc _) ⟨w5.heap.size, 0, none⟩ 1 1 [.int .i64 (k : Int)] rfl rfl (World.news_of_block (cs := #[.int .i64 (k : Int)]) (t := 2) (fr := (0, 0)) (heap_alloc_new w5 _)) (by simp [Value.oneCell']) (by unfold maxLen; omega) (by omega) (by simp; omega) ?_; intro v' w20 hown20 hg20 _; obtain ⟨A', c', rfl⟩ := own_shape hown20; have Q20 := Lib.hid (Q.out.add (x := (k : Int)) hS4 h04 hown20 hg20); clear hown20 hg20 Hls))
        go_wp2_with fail
        go_roundw
        case rel => exact ⟨k + 1, by omega, by go_num, _, _, _, by omega, rfl, Q20.out⟩
        case measure => simp [intOf]; omega
      · have tx : (x == 0) = false := by simp [hxz]
        go_wp2_with fail
        go_roundw
        case rel => exact ⟨k + 1, by omega, by go_num, _, _, _, by omega, rfl, Q.out⟩
        case measure => simp [intOf]; omega
    · obtain rfl : n1 = k := by omega
      go_wp2_with fail
      refine (l01Next_any 16 QQ.out.dr (by omega)).mono ?_
      rintro e w5 ⟨t, rfl, ht, hd5, hc5⟩
      have Q := Lib.hid (QQ.out.next hS4 hd5 hc5)
      clear m0
      have GQ := G4.out.next Q.out.dr Q.out.ch
      have m0 := rb_cell (j := 0) GQ.m rfl
      clear ht hd5 hc5 QQ GQ
      by_cases h0 : t = 0
      · subst h0
        obtain ⟨ls, hls⟩ := Q.out.row
        have Hls := Lib.hid hls
        have hws := Q.out.ch.size
        clear hls
        go_upto_region 14 with (at_builtin; (refine wpList_append_own _ rfl _ _ _ rfl w4.heap.size 2 i0 _ 1 8 Try.underlying33 hi0 hz0 hz1 hz2 rfl (by omega) _ u _ rfl (Hls.out.alloc _) ⟨w5.heap.size, 0, none⟩ 1 1 [.int .i64 (n1 : Int)] rfl rfl (World.news_of_block (cs := #[.int .i64 (n1 : Int)]) (t := 2) (fr := (0, 0)) (heap_alloc_new w5 _)) (by simp [Value.oneCell']) (by unfold maxLen; omega) (by omega) (by simp; omega) ?_; intro v' w20 hown20 hg20 _; obtain ⟨A', c', rfl⟩ := own_shape hown20; have Q20 := Lib.hid (Q.out.add (x := (n1 : Int)) hS4 h04 hown20 hg20); clear hown20 hg20 Hls))
        have G20 := Lib.hid (G4.out.next Q20.out.dr Q20.out.ch)
        clear m0
        obtain ⟨h1, h2, h3', h4, hcR⟩ := G20.out.fin
        obtain ⟨ls, hls⟩ := Q20.out.row
        have hlow := fun j hj => own_low hls (k := j) hj
        have H6 := Lib.hid (own_base (own_eq' (own_chg hls hcR (fun j hj e => by have := hlow j hj; have := G20.out.r1; have := G20.out.s1; have := G20.out.sb; have := G20.out.bm; omega)) (flat_int ls)) (base' := w.heap.size) (by have := G20.out.rw; have := G20.out.r1; have := G20.out.s1; omega))
        clear hls hlow
        have m0 := rb_cell (j := 0) G20.out.m rfl
        have m1 := rb_cell (j := 1) G20.out.m rfl
        have r0 := rb_cell (j := 0) G20.out.r rfl
        have r1 := rb_cell (j := 1) G20.out.r rfl
        have f0 := rb_frozen G20.out.r 0
        have f1 := rb_frozen G20.out.r 1
        have H1 := Lib.hid h1
        have H2 := Lib.hid h2
        have H3 := Lib.hid h3'
        have H4 := Lib.hid h4
        clear h1 h2 h3' h4 hcR
        go_wp2_with fail
        (try simp only [Exit.inBlock, Exit.then])
        refine bodyPost_ret (results_row_tmp Try.results81 _ _ R 27 #[.slice A1 n1 c1, .slice A2 n2 c2] (0, 0) _ ?_ H1.out Try.underlying27 rfl (by kernel_rfl)) ?_ ?_
        · rfl
        · rfl
        exact ⟨_, _, _, _, _, _, n, _, _, _, ls, rfl, H2.out, by omega, H6.out, H4.out⟩
      by_cases h1 : t = 1
      · subst h1
        clear m0
        obtain ⟨ls, hls⟩ := Q.out.row
        have Hls := Lib.hid hls
        have hws := Q.out.ch.size
        clear hls
        go_upto_region 14 with (at_builtin; (refine wpList_append_own _ rfl _ _ _ rfl w4.heap.size 2 i0 _ 1 8 Try.underlying33 hi0 hz0 hz1 hz2 rfl (by omega) _ u _ rfl (Hls.out.alloc _) ⟨w5.heap.size, 0, none⟩ 1 1 [.int .i64 0] rfl rfl (World.news_of_block (cs := #[.int .i64 0]) (t := 2) (fr := (0, 0)) (heap_alloc_new w5 _)) (by simp [Value.oneCell']) (by unfold maxLen; omega) (by omega) (by simp; omega) ?_; intro v' w20 hown20 hg20 _; obtain ⟨A', c', rfl⟩ := own_shape hown20; have Q20 := Lib.hid (Q.out.add (x := 0) hS4 h04 hown20 hg20); clear hown20 hg20 Hls))
        have G20 := Lib.hid (G4.out.next Q20.out.dr Q20.out.ch)
        obtain ⟨h1, h2, h3', h4, hcR⟩ := G20.out.fin
        obtain ⟨ls, hls⟩ := Q20.out.row
        have hlow := fun j hj => own_low hls (k := j) hj
        have H6 := Lib.hid (own_base (own_eq' (own_chg hls hcR (fun j hj e => by have := hlow j hj; have := G20.out.r1; have := G20.out.s1; have := G20.out.sb; have := G20.out.bm; omega)) (flat_int ls)) (base' := w.heap.size) (by have := G20.out.rw; have := G20.out.r1; have := G20.out.s1; omega))
        clear hls hlow
        have m0 := rb_cell (j := 0) G20.out.m rfl
        have m1 := rb_cell (j := 1) G20.out.m rfl
        have r0 := rb_cell (j := 0) G20.out.r rfl
        have r1 := rb_cell (j := 1) G20.out.r rfl
        have f0 := rb_frozen G20.out.r 0
        have f1 := rb_frozen G20.out.r 1
        have H1 := Lib.hid h1
        have H2 := Lib.hid h2
        have H3 := Lib.hid h3'
        have H4 := Lib.hid h4
        clear h1 h2 h3' h4 hcR
        go_wp2_with fail
        (try simp only [Exit.inBlock, Exit.then])
        refine bodyPost_ret (results_row_tmp Try.results81 _ _ R 27 #[.slice A1 n1 c1, .slice A2 n2 c2] (0, 0) _ ?_ H1.out Try.underlying27 rfl (by kernel_rfl)) ?_ ?_
        · rfl
        · rfl
        exact ⟨_, _, _, _, _, _, n, _, _, _, ls, rfl, H2.out, by omega, H6.out, H4.out⟩
      have tt0 : (t == 0) = false := by simp [h0]
      have tt1 : (t == 1) = false := by simp [h1]
      clear h0 h1 m0
      go_upto_region 14 with fail
      have G20 := Lib.hid (G4.out.next Q.out.dr Q.out.ch)
      obtain ⟨h1, h2, h3', h4, hcR⟩ := G20.out.fin
      obtain ⟨ls, hls⟩ := Q.out.row
      have hlow := fun j hj => own_low hls (k := j) hj
      have H6 := Lib.hid (own_base (own_eq' (own_chg hls hcR (fun j hj e => by have := hlow j hj; have := G20.out.r1; have := G20.out.s1; have := G20.out.sb; have := G20.out.bm; omega)) (flat_int ls)) (base' := w.heap.size) (by have := G20.out.rw; have := G20.out.r1; have := G20.out.s1; omega))
      clear hls hlow
      have m0 := rb_cell (j := 0) G20.out.m rfl
      have m1 := rb_cell (j := 1) G20.out.m rfl
      have r0 := rb_cell (j := 0) G20.out.r rfl
      have r1 := rb_cell (j := 1) G20.out.r rfl
      have f0 := rb_frozen G20.out.r 0
      have f1 := rb_frozen G20.out.r 1
      have H1 := Lib.hid h1
      have H2 := Lib.hid h2
      have H3 := Lib.hid h3'
      have H4 := Lib.hid h4
      clear h1 h2 h3' h4 hcR
      go_wp2_with fail
      (try simp only [Exit.inBlock, Exit.then])
      refine bodyPost_ret (results_row_tmp Try.results81 _ _ R 27 #[.slice A1 n1 c1, .slice A2 n2 c2] (0, 0) _ ?_ H1.out Try.underlying27 rfl (by kernel_rfl)) ?_ ?_
      · rfl
      · rfl
      exact ⟨_, _, _, _, _, _, n, _, _, _, ls, rfl, H2.out, by omega, H6.out, H4.out⟩
end Go.Proofs.Ytejfpajbkgfiaaa
