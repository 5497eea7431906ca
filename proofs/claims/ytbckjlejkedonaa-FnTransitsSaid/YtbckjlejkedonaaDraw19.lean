/-
  Draws: a network, a flow list and a node. Printed by gen_draw17.py.
-/
import Derived.Test.YtbckjlejkedonaaDraw18
set_option linter.unusedSimpArgs false
set_option linter.unusedVariables false
namespace Go.Proofs.Ytbckjlejkedonaa
open Go.ChangeShapes Go.WideShapes Go.ChangeAt Go.RowKit

set_option maxHeartbeats 6400000 in
set_option maxRecDepth 100000 in
theorem DrawTransitOf_any {A : Option Addr} {m c : Nat} (bs : List UInt8) (w : World) (hC : SlAt w 1 A m c (byts bs)) :
    Calls Try.prog 43 #[.slice A m c] w fun e w' => ∃ A1 n1 c1 A2 n2 c2 n A4 n4 c4, ∃ zs : List Int, ∃ q : Int, e = .returned (.tuple #[.agg #[.slice A1 n1 c1, .slice A2 n2 c2], .slice A4 n4 c4, .int .i64 q]) ∧ (Lit.int .i64 q).wf = true ∧ NetAt w' A1 n1 c1 A2 n2 c2 n ∧ n4 ≤ 1048576 ∧ w'.ownsRow w.heap.size 2 1 (.slice A4 n4 c4) n4 (ints zs) ∧ Gr w w' := by
  have HC := Lib.hid hC
  clear hC
  go_enter Try.func43, Try.ntmps43
  go_wp2_with fail
  obtain ⟨w1, hw1⟩ : ∃ W, W = w.alloc (.cells #[.slice none 0 0, .slice none 0 0] 33) := ⟨_, rfl⟩
  have hR : w1.heap[w.heap.size]? = some (.cells #[.slice none 0 0, .slice none 0 0] 33 (0, 0)) := by rw [hw1]; exact heap_alloc_new w _
  have hg1 : Gr w w1 := by rw [hw1]; exact (Gr.refl _).alloc _
  have hs1 : w1.heap.size = w.heap.size + 1 := by rw [hw1]; simp
  obtain ⟨R, hRe⟩ : ∃ R, R = w.heap.size := ⟨_, rfl⟩
  rw [← hw1, ← hRe]
  rw [← hRe] at hR hs1
  have hRw : w.heap.size ≤ R := by omega
  have HR := Lib.hid hR
  have Hs1 := Lib.hid hs1
  clear hw1 hRe hR hs1
  refine (l01From_any bs _ (HC.out.gr hg1)).mono ?_
  rintro e w2 ⟨S, rfl, hS, hd2⟩
  have HD2 := Lib.hid hd2
  clear hd2
  go_wp2_with fail
  refine (l05DrawChord_any HD2.out).mono ?_
  rintro e w3 ⟨A1, n1, c1, A2, n2, c2, n, x0, rfl, hO, ⟨hn17, hn27⟩, hd3, hcS⟩
  obtain ⟨w4, hw4⟩ : ∃ W, W = w3.alloc (.cells #[.slice A1 n1 c1, .slice A2 n2 c2] 33) := ⟨_, rfl⟩
  have hg4 : Gr w3 w4 := by rw [hw4]; exact (Gr.refl _).alloc _
  have hM4 : w4.heap[w3.heap.size]? = some (.cells #[.slice A1 n1 c1, .slice A2 n2 c2] 33 (0, 0)) := by rw [hw4]; exact heap_alloc_new w3 _
  obtain ⟨M, hM⟩ : ∃ M, M = w3.heap.size := ⟨_, rfl⟩
  have hs4 : w4.heap.size = M + 1 := by rw [hw4, hM]; simp
  rw [← hM] at hM4
  have hSl := HD2.out.lt
  have hd23 := hd3.lt
  have hR3 := (hd3.gr.below.block R (rb_lt HR.out)).trans HR.out
  have hB : w2.heap.size ≤ M := by have := hcS.size; omega
  have G4 := Lib.hid (Got.mk (B := w2.heap.size) hg1 hRw Hs1.out hS hSl hB (by omega) hM4 ((hg4.below.block R (rb_lt hR3)).trans hR3) (hO.gr hg4) (A3 := none) (n3 := 0) (c3 := 0) (l := []) (Nat.zero_le _) (World.ownsRow_nil _ _ _ _) (hd3.grow hg4))
  have Hw4 := Lib.hid hw4
  have HMe := Lib.hid hM
  have Hs4 := Lib.hid hs4
  have hS4 : S < w4.heap.size := by omega
  have h04 : w1.heap.size ≤ w4.heap.size := by have := G4.out.s1; omega
  clear hw4 hM hs4 hg4 hM4 hSl hd23 hR3 hB hO hd3 hg1 hRw HR Hs1 HD2
  go_wp2_with fail
  rw [← Hw4.out, ← HMe.out]
  have m0 := rb_cell (j := 0) G4.out.m rfl
  have m1 := rb_cell (j := 1) G4.out.m rfl
  have r0 := rb_cell (j := 0) G4.out.r rfl
  have r1 := rb_cell (j := 1) G4.out.r rfl
  have f0 := rb_frozen G4.out.r 0
  have f1 := rb_frozen G4.out.r 1
  refine (l05DrawFlows_any G4.out.dr (by omega)).mono ?_
  rintro e w5 ⟨A4, n4, c4, zs, rfl, hn4, ho4, hd5, hc5⟩
  have G5 := Lib.hid (G4.out.next hd5 hc5)
  have GD := Lib.hid (G5.out.gr (Gr.refl w5).drew)
  have O5 := Lib.hid (own_gr ho4 (Gr.refl w5).drew)
  clear m0 m1 r0 r1 f0 f1 hd5 hc5 ho4
  have m0 := rb_cell (j := 0) G5.out.m rfl
  have m1 := rb_cell (j := 1) G5.out.m rfl
  have r0 := rb_cell (j := 0) G5.out.r rfl
  have r1 := rb_cell (j := 1) G5.out.r rfl
  have f0 := rb_frozen G5.out.r 0
  have f1 := rb_frozen G5.out.r 1
  go_wp2_with fail
  go_region_with (go_at_call 122; with_reducible refine (l02DrawIndex_any (n1 : Int) GD.out.dr (by omega)).mono ?_; rintro e w6 ⟨q, rfl, hq, hd6, hc6⟩; have O6 := Lib.hid (own_chg O5.out hc6 (fun j hj e => by have := own_low O5.out hj; omega)); have G6 := Lib.hid (GD.out.next hd6 hc6); have m0 := rb_cell (j := 0) G6.out.m rfl; have m1 := rb_cell (j := 1) G6.out.m rfl; have r0 := rb_cell (j := 0) G6.out.r rfl; have r1 := rb_cell (j := 1) G6.out.r rfl; have f0 := rb_frozen G6.out.r 0; have f1 := rb_frozen G6.out.r 1; clear hd6 hc6)
  all_goals
    have hcR' := G6.out.fin.2.2.2.2
    have H6 := Lib.hid (own_base (own_chg O6.out hcR' (fun j hj e => by have := own_low O6.out hj; have := G6.out.r1; have := G6.out.s1; have := G6.out.sb; have := G6.out.bm; omega)) (base' := w.heap.size) (by have := G6.out.rw; have := G6.out.r1; have := G6.out.s1; omega))
    clear hcR'
    obtain ⟨h1, h2, h3', h4, hcR⟩ := G6.out.fin
    have H1 := Lib.hid h1
    have H2 := Lib.hid h2
    have H4 := Lib.hid h4
    clear h1 h2 h3' h4 hcR
    go_wp2_with fail
    (try simp only [Exit.inBlock, Exit.then])
    refine bodyPost_ret (results_row_tmp2 Try.results43 _ _ R 33 #[.slice A1 n1 c1, .slice A2 n2 c2] (0, 0) _ ?_ H1.out Try.underlying33 rfl (by kernel_rfl)) ?_ ?_
    · rfl
    · rfl
    exact ⟨_, _, _, _, _, _, n, _, _, _, zs, _, rfl, wf_mid (by omega), H2.out, by omega, H6.out, H4.out⟩
end Go.Proofs.Ytbckjlejkedonaa
