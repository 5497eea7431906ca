/-
  Draws: a network and two nodes; flow lists; a network, a flow list and a node. Printed by gen_draw17.py.
-/
import Derived.Test.YtbckjlejkedonaaDrawG
set_option linter.unusedSimpArgs false
set_option linter.unusedVariables false
namespace Go.Proofs.Ytbckjlejkedonaa
open Go.ChangeShapes Go.WideShapes Go.ChangeAt Go.RowKit

theorem Got.own {w w1 w4 : World} {S R M B : Nat} {A1 A2 A3 : Option Addr} {n1 c1 n2 c2 n3 c3 : Nat} {n : GNet} {l : List GTr} (g : Got w w1 w4 S R M B A1 n1 c1 A2 n2 c2 n A3 n3 c3 l) : OwnNet ((w4.setCell ⟨R, 0, none⟩ (.slice A1 n1 c1)).setCell ⟨R, 1, none⟩ (.slice A2 n2 c2)) w.heap.size A1 n1 c1 A2 n2 c2 n := by
  have h1 := g.sb
  have h2 := g.s1
  have h3 := g.r1
  have h5 := g.rw
  have hcc : Chg (fun j => j = R) w4 ((w4.setCell ⟨R, 0, none⟩ (.slice A1 n1 c1)).setCell ⟨R, 1, none⟩ (.slice A2 n2 c2)) := (chg_put _ _).trans (chg_put _ _)
  exact ⟨own_base (own_chg g.net.nodes hcc (fun j hj e => by have := own_low g.net.nodes hj; omega)) (by omega), own_base (own_chg g.net.pipes hcc (fun j hj e => by have := own_low g.net.pipes hj; omega)) (by omega), g.net.names, g.net.m1, g.net.m2⟩
set_option maxHeartbeats 6400000 in
set_option maxRecDepth 100000 in
theorem DrawGreatestFlow_any {A : Option Addr} {m c : Nat} (bs : List UInt8) (w : World) (hC : SlAt w 1 A m c (byts bs)) :
    Calls Try.prog 95 #[.slice A m c] w fun e w' => ∃ A1 n1 c1 A2 n2 c2 n, ∃ p q : Int, e = .returned (.tuple #[.agg #[.slice A1 n1 c1, .slice A2 n2 c2], .int .i64 p, .int .i64 q]) ∧ (Lit.int .i64 p).wf = true ∧ (Lit.int .i64 q).wf = true ∧ OwnNet w' w.heap.size A1 n1 c1 A2 n2 c2 n ∧ Gr w w' := by
  have HC := Lib.hid hC
  clear hC
  go_enter Try.func95, Try.ntmps95
  go_wp2_with fail
  obtain ⟨w1, hw1⟩ : ∃ W, W = w.alloc (.cells #[.slice none 0 0, .slice none 0 0] 33) := ⟨_, rfl⟩
  have hR : w1.heap[w.heap.size]? = some (.cells #[.slice none 0 0, .slice none 0 0] 33 (0, 0)) := by rw [hw1]; exact heap_alloc_new w _
  have hg1 : Gr w w1 := by rw [hw1]; exact (Gr.refl _).alloc _
  have hs1 : w1.heap.size = w.heap.size + 1 := by rw [hw1]; simp
  obtain ⟨R, hRe⟩ : ∃ R, R = w.heap.size := ⟨_, rfl⟩
  rw [← hw1, ← hRe]
  rw [← hRe] at hR hs1
  have hRw : w.heap.size ≤ R := by omega
  have HR := Lib.hid hR
  have Hs1 := Lib.hid hs1
  clear hw1 hRe hR hs1
  refine (l01From_any bs _ (HC.out.gr hg1)).mono ?_
  rintro e w2 ⟨S, rfl, hS, hd2⟩
  have HD2 := Lib.hid hd2
  clear hd2
  go_wp2_with fail
  refine (l05DrawChord_any HD2.out).mono ?_
  rintro e w3 ⟨A1, n1, c1, A2, n2, c2, n, x0, rfl, hO, ⟨hn17, hn27⟩, hd3, hcS⟩
  obtain ⟨w4, hw4⟩ : ∃ W, W = w3.alloc (.cells #[.slice A1 n1 c1, .slice A2 n2 c2] 33) := ⟨_, rfl⟩
  have hg4 : Gr w3 w4 := by rw [hw4]; exact (Gr.refl _).alloc _
  have hM4 : w4.heap[w3.heap.size]? = some (.cells #[.slice A1 n1 c1, .slice A2 n2 c2] 33 (0, 0)) := by rw [hw4]; exact heap_alloc_new w3 _
  obtain ⟨M, hM⟩ : ∃ M, M = w3.heap.size := ⟨_, rfl⟩
  have hs4 : w4.heap.size = M + 1 := by rw [hw4, hM]; simp
  rw [← hM] at hM4
  have hSl := HD2.out.lt
  have hd23 := hd3.lt
  have hR3 := (hd3.gr.below.block R (rb_lt HR.out)).trans HR.out
  have hB : w2.heap.size ≤ M := by have := hcS.size; omega
  have G4 := Lib.hid (Got.mk (B := w2.heap.size) hg1 hRw Hs1.out hS hSl hB (by omega) hM4 ((hg4.below.block R (rb_lt hR3)).trans hR3) (hO.gr hg4) (A3 := none) (n3 := 0) (c3 := 0) (l := []) (Nat.zero_le _) (World.ownsRow_nil _ _ _ _) (hd3.grow hg4))
  have Hw4 := Lib.hid hw4
  have HMe := Lib.hid hM
  have Hs4 := Lib.hid hs4
  have hS4 : S < w4.heap.size := by omega
  have h04 : w1.heap.size ≤ w4.heap.size := by have := G4.out.s1; omega
  clear hw4 hM hs4 hg4 hM4 hSl hd23 hR3 hB hO hd3 hg1 hRw HR Hs1 HD2
  go_wp2_with fail
  rw [← Hw4.out, ← HMe.out]
  have m0 := rb_cell (j := 0) G4.out.m rfl
  have m1 := rb_cell (j := 1) G4.out.m rfl
  have r0 := rb_cell (j := 0) G4.out.r rfl
  have r1 := rb_cell (j := 1) G4.out.r rfl
  have f0 := rb_frozen G4.out.r 0
  have f1 := rb_frozen G4.out.r 1
  have GD := Lib.hid (G4.out.gr (Gr.refl w4).drew)
  go_region_with (first
    | (go_at_call 122; with_reducible refine (l02DrawIndex_any (n1 : Int) GD.out.dr (by omega)).mono ?_; rintro e w5 ⟨p, rfl, hp, hd5, hc5⟩; have G5 := Lib.hid (GD.out.next hd5 hc5); have m0 := rb_cell (j := 0) G5.out.m rfl; have m1 := rb_cell (j := 1) G5.out.m rfl; have r0 := rb_cell (j := 0) G5.out.r rfl; have r1 := rb_cell (j := 1) G5.out.r rfl; have f0 := rb_frozen G5.out.r 0; have f1 := rb_frozen G5.out.r 1; clear hd5 hc5)
    | (go_at_call 122; with_reducible refine (l02DrawIndex_any (n1 : Int) G5.out.dr (by omega)).mono ?_; rintro e w6 ⟨q, rfl, hq, hd6, hc6⟩; have G6 := Lib.hid (G5.out.next hd6 hc6); have m0 := rb_cell (j := 0) G6.out.m rfl; have m1 := rb_cell (j := 1) G6.out.m rfl; have r0 := rb_cell (j := 0) G6.out.r rfl; have r1 := rb_cell (j := 1) G6.out.r rfl; have f0 := rb_frozen G6.out.r 0; have f1 := rb_frozen G6.out.r 1; clear hd6 hc6))
  all_goals
    have hown := G6.out.own
    have Hown := Lib.hid hown
    clear hown
    obtain ⟨h1, h2, h3', h4, hcR⟩ := G6.out.fin
    have H1 := Lib.hid h1
    have H2 := Lib.hid h2
    have H4 := Lib.hid h4
    clear h1 h2 h3' h4 hcR
    go_wp2_with fail
    (try simp only [Exit.inBlock, Exit.then])
    refine bodyPost_ret (results_row_tmp2 Try.results95 _ _ R 33 #[.slice A1 n1 c1, .slice A2 n2 c2] (0, 0) _ ?_ H1.out Try.underlying33 rfl (by kernel_rfl)) ?_ ?_
    · rfl
    · rfl
    exact ⟨_, _, _, _, _, _, n, _, _, rfl, wf_mid (by omega), wf_mid (by omega), Hown.out, H4.out⟩
set_option maxHeartbeats 6400000 in
set_option maxRecDepth 100000 in
theorem DrawLeastCut_any {A : Option Addr} {m c : Nat} (bs : List UInt8) (w : World) (hC : SlAt w 1 A m c (byts bs)) :
    Calls Try.prog 25 #[.slice A m c] w fun e w' => ∃ A1 n1 c1 A2 n2 c2 n, ∃ p q : Int, e = .returned (.tuple #[.agg #[.slice A1 n1 c1, .slice A2 n2 c2], .int .i64 p, .int .i64 q]) ∧ (Lit.int .i64 p).wf = true ∧ (Lit.int .i64 q).wf = true ∧ NetAt w' A1 n1 c1 A2 n2 c2 n ∧ Gr w w' := by
  have HC := Lib.hid hC
  clear hC
  go_enter Try.func25, Try.ntmps25
  go_wp2_with fail
  obtain ⟨w1, hw1⟩ : ∃ W, W = w.alloc (.cells #[.slice none 0 0, .slice none 0 0] 33) := ⟨_, rfl⟩
  have hR : w1.heap[w.heap.size]? = some (.cells #[.slice none 0 0, .slice none 0 0] 33 (0, 0)) := by rw [hw1]; exact heap_alloc_new w _
  have hg1 : Gr w w1 := by rw [hw1]; exact (Gr.refl _).alloc _
  obtain ⟨R, hRe⟩ : ∃ R, R = w.heap.size := ⟨_, rfl⟩
  rw [← hw1, ← hRe]
  rw [← hRe] at hR
  have hRw : w.heap.size ≤ R := by omega
  have HR := Lib.hid hR
  clear hw1 hRe hR
  refine (DrawGreatestFlow_any bs _ (HC.out.gr hg1)).mono ?_
  rintro e w3 ⟨A1, n1, c1, A2, n2, c2, n, p, q, rfl, wp, wq, hN, hg3⟩
  have hR3 := (hg3.below.block R (rb_lt HR.out)).trans HR.out
  have m0 := rb_cell (j := 0) hR3 rfl
  have m1 := rb_cell (j := 1) hR3 rfl
  have f0 := rb_frozen hR3 0
  have f1 := rb_frozen hR3 1
  have hcc : Chg (fun j => j = R) w3 ((w3.setCell ⟨R, 0, none⟩ (.slice A1 n1 c1)).setCell ⟨R, 1, none⟩ (.slice A2 n2 c2)) := (chg_put _ _).trans (chg_put _ _)
  have hRl := rb_lt HR.out
  have hN9 : NetAt ((w3.setCell ⟨R, 0, none⟩ (.slice A1 n1 c1)).setCell ⟨R, 1, none⟩ (.slice A2 n2 c2)) A1 n1 c1 A2 n2 c2 n := OwnNet.at_ ⟨own_chg hN.nodes hcc (fun j hj e => by have := own_low hN.nodes hj; omega), own_chg hN.pipes hcc (fun j hj e => by have := own_low hN.pipes hj; omega), hN.names, hN.m1, hN.m2⟩
  have h1 : ((w3.setCell ⟨R, 0, none⟩ (.slice A1 n1 c1)).setCell ⟨R, 1, none⟩ (.slice A2 n2 c2)).heap[R]? = some (.cells #[.slice A1 n1 c1, .slice A2 n2 c2] 33 (0, 0)) := by simp [World.setCell, Array.getElem?_modify, hR3]
  have h4 : Gr w ((w3.setCell ⟨R, 0, none⟩ (.slice A1 n1 c1)).setCell ⟨R, 1, none⟩ (.slice A2 n2 c2)) := ((hg1.trans hg3).setCell hRw _).setCell hRw _
  have H1 := Lib.hid h1
  have H2 := Lib.hid hN9
  have H4 := Lib.hid h4
  clear hN hg3 hR3 h1 hN9 h4 hcc
  go_wp2_with fail
  (try simp only [Exit.inBlock, Exit.then])
  refine bodyPost_ret (results_row_tmp2 Try.results25 _ _ R 33 #[.slice A1 n1 c1, .slice A2 n2 c2] (0, 0) _ ?_ H1.out Try.underlying33 rfl (by kernel_rfl)) ?_ ?_
  · rfl
  · rfl
  exact ⟨_, _, _, _, _, _, n, _, _, rfl, wp, wq, H2.out, H4.out⟩
end Go.Proofs.Ytbckjlejkedonaa
