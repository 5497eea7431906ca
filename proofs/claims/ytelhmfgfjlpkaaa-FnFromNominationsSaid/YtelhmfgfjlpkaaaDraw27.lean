/-
  Draws: the arguments of FromNominations. Printed by gen_draw27.py.
-/
import Derived.Test.YtelhmfgfjlpkaaaDraw26
import Derived.Deep.Cut
set_option linter.unusedSimpArgs false
set_option linter.unusedVariables false
namespace Go.Proofs.Ytelhmfgfjlpkaaa
open Go.ChangeShapes Go.WideShapes Go.ChangeAt Go.RowKit

theorem res_chg {w3 : World} {R n1 c1 n2 c2 : Nat} {A1 A2 : Option Addr} : Chg (fun j => j = R) w3 ((w3.setCell ⟨R, 0, none⟩ (.slice A1 n1 c1)).setCell ⟨R, 1, none⟩ (.slice A2 n2 c2)) := (chg_put _ _).trans (chg_put _ _)
theorem res_own {w3 : World} {R n1 c1 n2 c2 n3 base : Nat} {A1 A2 : Option Addr} {v : Value} {e : TypeId} {sz : Nat} {xs : List Value} (hl : w3.ownsRow base e sz v n3 xs) (hb : R < base) : ((w3.setCell ⟨R, 0, none⟩ (.slice A1 n1 c1)).setCell ⟨R, 1, none⟩ (.slice A2 n2 c2)).ownsRow base e sz v n3 xs :=
  own_chg hl res_chg (fun j hj e => by have := own_low hl hj; omega)
theorem res_onet {w3 : World} {R n1 c1 n2 c2 base : Nat} {A1 A2 : Option Addr} {n : GNet} (hO : OwnNet w3 base A1 n1 c1 A2 n2 c2 n) (hb : R < base) : OwnNet ((w3.setCell ⟨R, 0, none⟩ (.slice A1 n1 c1)).setCell ⟨R, 1, none⟩ (.slice A2 n2 c2)) base A1 n1 c1 A2 n2 c2 n :=
  ⟨res_own hO.nodes hb, res_own hO.pipes hb, hO.names, hO.m1, hO.m2⟩
theorem onet_base {w : World} {base base' n1 c1 n2 c2 : Nat} {A1 A2 : Option Addr} {n : GNet} (hO : OwnNet w base A1 n1 c1 A2 n2 c2 n) (hb : base' ≤ base) : OwnNet w base' A1 n1 c1 A2 n2 c2 n :=
  ⟨own_base hO.nodes hb, own_base hO.pipes hb, hO.names, hO.m1, hO.m2⟩
theorem res_blk {w3 : World} {R n1 c1 n2 c2 : Nat} {A1 A2 : Option Addr} (hR : w3.heap[R]? = some (.cells #[.slice none 0 0, .slice none 0 0] 27 (0, 0))) : ((w3.setCell ⟨R, 0, none⟩ (.slice A1 n1 c1)).setCell ⟨R, 1, none⟩ (.slice A2 n2 c2)).heap[R]? = some (.cells #[.slice A1 n1 c1, .slice A2 n2 c2] 27 (0, 0)) := by simp [World.setCell, Array.getElem?_modify, hR]
set_option maxHeartbeats 3200000 in
theorem DrawAmountsIn_any {A : Option Addr} {m c : Nat} (bs : List UInt8) (w : World) (hC : SlAt w 1 A m c (byts bs)) :
    Calls Try.prog 30 #[.slice A m c] w fun e w' => ∃ A1 n1 c1 A2 n2 c2 n A3 n3 c3, ∃ bk : List {y : GCon // DrB y}, ∃ A4 n4 c4, ∃ ls : List GNom, ∃ b : Int, e = .returned (.tuple #[.agg #[.slice A1 n1 c1, .slice A2 n2 c2], .slice A3 n3 c3, .slice A4 n4 c4, .int .i64 b]) ∧ OwnNet w' w.heap.size A1 n1 c1 A2 n2 c2 n ∧ n3 ≤ 40 ∧ w'.ownsRow w.heap.size 61 8 (.slice A3 n3 c3) n3 (bk.flatMap (fun z : {y : GCon // DrB y} => z.1.cells)) ∧ n4 ≤ 210 ∧ w'.ownsRow w.heap.size 120 4 (.slice A4 n4 c4) n4 (ls.flatMap GNom.cells) ∧ Gr w w' := by
  have HC := Lib.hid hC
  clear hC
  go_enter Try.func30, Try.ntmps30
  go_wp2_with fail
  obtain ⟨w1, hw1⟩ : ∃ W, W = w.alloc (.cells #[.slice none 0 0, .slice none 0 0] 27) := ⟨_, rfl⟩
  have hR : w1.heap[w.heap.size]? = some (.cells #[.slice none 0 0, .slice none 0 0] 27 (0, 0)) := by rw [hw1]; exact heap_alloc_new w _
  have hg1 : Gr w w1 := by rw [hw1]; exact (Gr.refl _).alloc _
  have hs1 : w1.heap.size = w.heap.size + 1 := by rw [hw1]; simp
  obtain ⟨R, hRe⟩ : ∃ R, R = w.heap.size := ⟨_, rfl⟩
  rw [← hw1, ← hRe]
  rw [← hRe] at hR hs1
  have hRw : w.heap.size ≤ R := by omega
  have HR := Lib.hid hR
  have Hs1 := Lib.hid hs1
  clear hw1 hRe hR hs1
  refine (l01From_any bs _ (HC.out.gr hg1)).mono ?_
  rintro e w2 ⟨S, rfl, hS, hd2⟩
  have HD2 := Lib.hid hd2
  clear hd2
  go_wp2_with fail
  refine (l21DrawAsk_any HD2.out).mono ?_
  rintro e w3 ⟨A1, n1, c1, A2, n2, c2, n, A3, n3, c3, bk, A4, n4, c4, ls, a, b, rfl, hO, h3, hl, h4, hk, hd3, _⟩
  have hz2 := HD2.out.gr.size
  have hz3 := hd3.gr.size
  obtain ⟨w4, hw4⟩ : ∃ W, W = w3.alloc (.cells #[.slice A1 n1 c1, .slice A2 n2 c2] 27) := ⟨_, rfl⟩
  obtain ⟨M, hM⟩ : ∃ M, M = w3.heap.size := ⟨_, rfl⟩
  have hM4 : w4.heap[M]? = some (.cells #[.slice A1 n1 c1, .slice A2 n2 c2] 27 (0, 0)) := by rw [hw4, hM]; exact heap_alloc_new w3 _
  have hg34 : Gr w3 w4 := by rw [hw4]; exact (Gr.refl _).alloc _
  have hg4 : Gr w w4 := (hg1.trans hd3.gr).trans hg34
  have hR4 := ((hd3.gr.trans hg34).below.block R (rb_lt HR.out)).trans HR.out
  have hO4 := hO.gr hg34
  have hl4 := own_gr hl hg34
  have hk4 := own_gr hk hg34
  have hs1 := Hs1.out
  have k0 : w4.cell? ⟨M, 0, none⟩ = some (.slice A1 n1 c1) := rb_cell (j := 0) hM4 rfl
  have k1 : w4.cell? ⟨M, 1, none⟩ = some (.slice A2 n2 c2) := rb_cell (j := 1) hM4 rfl
  have m0 : w4.cell? ⟨R, 0, none⟩ = some (.slice none 0 0) := rb_cell (j := 0) hR4 rfl
  have m1 : w4.cell? ⟨R, 1, none⟩ = some (.slice none 0 0) := rb_cell (j := 1) hR4 rfl
  have f0 := rb_frozen hR4 0
  have f1 := rb_frozen hR4 1
  have H1 := Lib.hid (res_blk (n1 := n1) (c1 := c1) (n2 := n2) (c2 := c2) (A1 := A1) (A2 := A2) hR4)
  have H2 := Lib.hid (onet_base (res_onet (R := R) hO4 (by omega)) (show w.heap.size ≤ _ by omega))
  have H3 := Lib.hid (own_base (res_own (R := R) (n1 := n1) (c1 := c1) (n2 := n2) (c2 := c2) (A1 := A1) (A2 := A2) hl4 (by omega)) (show w.heap.size ≤ _ by omega))
  have H4 := Lib.hid (own_base (res_own (R := R) (n1 := n1) (c1 := c1) (n2 := n2) (c2 := c2) (A1 := A1) (A2 := A2) hk4 (by omega)) (show w.heap.size ≤ _ by omega))
  have H5 : Hid (Gr w ((w4.setCell ⟨R, 0, none⟩ (.slice A1 n1 c1)).setCell ⟨R, 1, none⟩ (.slice A2 n2 c2))) := Lib.hid ((hg4.setCell hRw _).setCell hRw _)
  have Hw4 := Lib.hid hw4
  have HM := Lib.hid hM
  clear hO hl hk hd3 hR4 hO4 hl4 hk4 hg34 hg4 hw4 hM hM4 hs1 hz2 hz3
  go_upto_region 2 with fail
  rw [← Hw4.out, ← HM.out]
  go_wp2_with fail
  (try simp only [Exit.inBlock, Exit.then])
  refine bodyPost_ret (results_row_tmp3 Try.results30 _ _ R 27 #[.slice A1 n1 c1, .slice A2 n2 c2] (0, 0) _ ?_ H1.out Try.underlying27 rfl (by kernel_rfl)) ?_ ?_
  · rfl
  · rfl
  exact ⟨_, _, _, _, _, _, n, _, _, _, bk, _, _, _, ls, _, rfl, H2.out, h3, H3.out, h4, H4.out, H5.out⟩
set_option maxHeartbeats 3200000 in
theorem DrawFromNominations_any {A : Option Addr} {m c : Nat} (bs : List UInt8) (w : World) (hC : SlAt w 1 A m c (byts bs)) :
    Calls Try.prog 7 #[.slice A m c] w fun e w' => ∃ A1 n1 c1 A2 n2 c2 n A3 n3 c3, ∃ bk : List {y : GCon // DrB y}, ∃ A4 n4 c4, ∃ ls : List GNom, ∃ b : Int, e = .returned (.tuple #[.agg #[.slice A1 n1 c1, .slice A2 n2 c2], .slice A3 n3 c3, .slice A4 n4 c4, .int .i64 b]) ∧ OwnNet w' w.heap.size A1 n1 c1 A2 n2 c2 n ∧ n3 ≤ 40 ∧ w'.ownsRow w.heap.size 61 8 (.slice A3 n3 c3) n3 (bk.flatMap (fun z : {y : GCon // DrB y} => z.1.cells)) ∧ n4 ≤ 210 ∧ w'.ownsRow w.heap.size 120 4 (.slice A4 n4 c4) n4 (ls.flatMap GNom.cells) ∧ Gr w w' := by
  have HC := Lib.hid hC
  clear hC
  go_enter Try.func7, Try.ntmps7
  go_wp2_with fail
  obtain ⟨w1, hw1⟩ : ∃ W, W = w.alloc (.cells #[.slice none 0 0, .slice none 0 0] 27) := ⟨_, rfl⟩
  have hR : w1.heap[w.heap.size]? = some (.cells #[.slice none 0 0, .slice none 0 0] 27 (0, 0)) := by rw [hw1]; exact heap_alloc_new w _
  have hg1 : Gr w w1 := by rw [hw1]; exact (Gr.refl _).alloc _
  have hs1 : w1.heap.size = w.heap.size + 1 := by rw [hw1]; simp
  obtain ⟨R, hRe⟩ : ∃ R, R = w.heap.size := ⟨_, rfl⟩
  rw [← hw1, ← hRe]
  rw [← hRe] at hR hs1
  have hRw : w.heap.size ≤ R := by omega
  have HR := Lib.hid hR
  have Hs1 := Lib.hid hs1
  clear hw1 hRe hR hs1
  refine (DrawAmountsIn_any bs _ (HC.out.gr hg1)).mono ?_
  rintro e w4 ⟨A1, n1, c1, A2, n2, c2, n, A3, n3, c3, bk, A4, n4, c4, ls, b, rfl, hO4, h3, hl4, h4, hk4, hgx⟩
  have hg4 : Gr w w4 := hg1.trans hgx
  have hR4 := (hgx.below.block R (rb_lt HR.out)).trans HR.out
  have hs1 := Hs1.out
  have m0 : w4.cell? ⟨R, 0, none⟩ = some (.slice none 0 0) := rb_cell (j := 0) hR4 rfl
  have m1 : w4.cell? ⟨R, 1, none⟩ = some (.slice none 0 0) := rb_cell (j := 1) hR4 rfl
  have f0 := rb_frozen hR4 0
  have f1 := rb_frozen hR4 1
  have H1 := Lib.hid (res_blk (n1 := n1) (c1 := c1) (n2 := n2) (c2 := c2) (A1 := A1) (A2 := A2) hR4)
  have H2 := Lib.hid (onet_base (res_onet (R := R) hO4 (by omega)) (show w.heap.size ≤ _ by omega))
  have H3 := Lib.hid (own_base (res_own (R := R) (n1 := n1) (c1 := c1) (n2 := n2) (c2 := c2) (A1 := A1) (A2 := A2) hl4 (by omega)) (show w.heap.size ≤ _ by omega))
  have H4 := Lib.hid (own_base (res_own (R := R) (n1 := n1) (c1 := c1) (n2 := n2) (c2 := c2) (A1 := A1) (A2 := A2) hk4 (by omega)) (show w.heap.size ≤ _ by omega))
  have H5 : Hid (Gr w ((w4.setCell ⟨R, 0, none⟩ (.slice A1 n1 c1)).setCell ⟨R, 1, none⟩ (.slice A2 n2 c2))) := Lib.hid ((hg4.setCell hRw _).setCell hRw _)
  clear hR4 hO4 hl4 hk4 hg4 hgx hs1
  go_wp2_with fail
  (try simp only [Exit.inBlock, Exit.then])
  refine bodyPost_ret (results_row_tmp3 Try.results7 _ _ R 27 #[.slice A1 n1 c1, .slice A2 n2 c2] (0, 0) _ ?_ H1.out Try.underlying27 rfl (by kernel_rfl)) ?_ ?_
  · rfl
  · rfl
  exact ⟨_, _, _, _, _, _, n, _, _, _, bk, _, _, _, ls, _, rfl, H2.out, h3, H3.out, h4, H4.out, H5.out⟩
end Go.Proofs.Ytelhmfgfjlpkaaa
