/-
  Draws: transports with classes or with scales. Printed by gen_draw13.py.
-/
import Derived.Test.YtejfpajbkgfiaaaDraw12
import Derived.Test.YtejfpajbkgfiaaaCurtA
import Derived.Deep.RegionWith
set_option linter.unusedSimpArgs false
set_option linter.unusedVariables false
namespace Go.Proofs.Ytejfpajbkgfiaaa
open Go.ChangeShapes Go.WideShapes Go.ChangeAt Go.RowKit

/-- What stands when a law's draw has its network: the result's block at R, the network's at M, all rows behind B. -/
structure Got (w w1 w4 : World) (S R M B : Nat) (A1 : Option Addr) (n1 c1 : Nat) (A2 : Option Addr) (n2 c2 : Nat) (n : GNet) (A3 : Option Addr) (n3 c3 : Nat) (l : List GTr) : Prop where
  g1 : Gr w w1
  rw : w.heap.size ≤ R
  r1 : w1.heap.size = R + 1
  s1 : w1.heap.size ≤ S
  sb : S < B
  bm : B ≤ M
  ml : M < w4.heap.size
  m : w4.heap[M]? = some (.cells #[.slice A1 n1 c1, .slice A2 n2 c2] 27 (0, 0))
  r : w4.heap[R]? = some (.cells #[.slice none 0 0, .slice none 0 0] 27 (0, 0))
  net : OwnNet w4 B A1 n1 c1 A2 n2 c2 n
  n3s : n3 ≤ 40
  list : w4.ownsRow B 39 4 (.slice A3 n3 c3) n3 (l.flatMap GTr.cells)
  dr : Drw w1 w4 S
section
variable {w w1 w4 wz : World} {S R M B : Nat} {A1 A2 A3 : Option Addr} {n1 c1 n2 c2 n3 c3 : Nat} {n : GNet} {l : List GTr}
theorem Got.next (g : Got w w1 w4 S R M B A1 n1 c1 A2 n2 c2 n A3 n3 c3 l) (hd : Drw w1 wz S) (hc : Chg (fun j => j = S) w4 wz) : Got w w1 wz S R M B A1 n1 c1 A2 n2 c2 n A3 n3 c3 l := by
  have h1 := g.sb
  have h2 := g.s1
  have h3 := g.r1
  have h4 := g.bm
  have h5 := g.ml
  have h6 := hc.size
  exact ⟨g.g1, g.rw, g.r1, g.s1, g.sb, g.bm, by omega, rb_chg g.m hc (by omega), rb_chg g.r hc (by omega), ⟨own_chg g.net.nodes hc (fun j hj e => by have := own_low g.net.nodes hj; omega), own_chg g.net.pipes hc (fun j hj e => by have := own_low g.net.pipes hj; omega), g.net.names, g.net.m1, g.net.m2⟩, g.n3s, own_chg g.list hc (fun j hj e => by have := own_low g.list hj; omega), hd⟩
theorem Got.gr (g : Got w w1 w4 S R M B A1 n1 c1 A2 n2 c2 n A3 n3 c3 l) (hg : Gr w4 wz) : Got w w1 wz S R M B A1 n1 c1 A2 n2 c2 n A3 n3 c3 l := g.next (g.dr.grow hg) (hg.chg _)
/-- The network's block is read into the result's. -/
theorem Got.fin (g : Got w w1 w4 S R M B A1 n1 c1 A2 n2 c2 n A3 n3 c3 l) :
    ((w4.setCell ⟨R, 0, none⟩ (.slice A1 n1 c1)).setCell ⟨R, 1, none⟩ (.slice A2 n2 c2)).heap[R]? = some (.cells #[.slice A1 n1 c1, .slice A2 n2 c2] 27 (0, 0)) ∧
    NetAt ((w4.setCell ⟨R, 0, none⟩ (.slice A1 n1 c1)).setCell ⟨R, 1, none⟩ (.slice A2 n2 c2)) A1 n1 c1 A2 n2 c2 n ∧
    SlAt ((w4.setCell ⟨R, 0, none⟩ (.slice A1 n1 c1)).setCell ⟨R, 1, none⟩ (.slice A2 n2 c2)) 4 A3 n3 c3 (l.flatMap GTr.cells) ∧
    Gr w ((w4.setCell ⟨R, 0, none⟩ (.slice A1 n1 c1)).setCell ⟨R, 1, none⟩ (.slice A2 n2 c2)) ∧ Chg (fun j => j = R) w4 ((w4.setCell ⟨R, 0, none⟩ (.slice A1 n1 c1)).setCell ⟨R, 1, none⟩ (.slice A2 n2 c2)) := by
  have h1 := g.sb
  have h2 := g.s1
  have h3 := g.r1
  have h4 := g.bm
  have h5 := g.ml
  have h6 := g.n3s
  have hcc : Chg (fun j => j = R) w4 ((w4.setCell ⟨R, 0, none⟩ (.slice A1 n1 c1)).setCell ⟨R, 1, none⟩ (.slice A2 n2 c2)) := (chg_put _ _).trans (chg_put _ _)
  have hO : OwnNet ((w4.setCell ⟨R, 0, none⟩ (.slice A1 n1 c1)).setCell ⟨R, 1, none⟩ (.slice A2 n2 c2)) B A1 n1 c1 A2 n2 c2 n := ⟨own_chg g.net.nodes hcc (fun j hj e => by have := own_low g.net.nodes hj; omega), own_chg g.net.pipes hcc (fun j hj e => by have := own_low g.net.pipes hj; omega), g.net.names, g.net.m1, g.net.m2⟩
  exact ⟨by simp [World.setCell, Array.getElem?_modify, g.r], hO.at_, SlAt.of_own (own_chg g.list hcc (fun j hj e => by have := own_low g.list hj; omega)) (by omega), ((g.g1.trans g.dr.gr).setCell g.rw _).setCell g.rw _, hcc⟩
end
theorem RowSt.put {w0 w4 wr : World} {S b u c : Nat} (q : RowSt (fun z : Int => [Value.int .i64 z]) 2 1 w0 w4 wr S (some ⟨b, 0, none⟩) u c) (hS : S < w4.heap.size) (h0 : w0.heap.size ≤ w4.heap.size) (j : Nat) (v : Int) : RowSt (fun z : Int => [Value.int .i64 z]) 2 1 w0 w4 (wr.setCell ⟨b, j, none⟩ (.int .i64 v)) S (some ⟨b, 0, none⟩) u c := by
  obtain ⟨ls, hl⟩ := q.row
  have hb := own_low hl (k := b) rfl
  have h2 := (hl.stored j (.int .i64 v)).1
  refine ⟨⟨ls.set j v, own_eq' h2 ?_⟩, q.dr.set (by omega) (by omega), q.ch.fresh (by omega)⟩
  rw [flat_int, flat_int]
  simp [ints, List.map_set]
theorem wf_small {q : Int} (h : -1000 ≤ q ∧ q ≤ 1000) : (Lit.int .i64 q).wf = true := by
  have e1 : IntKind.i64.min = -9223372036854775808 := by decide
  have e2 : IntKind.i64.max = 9223372036854775807 := by decide
  simp only [Lit.wf, Bool.and_eq_true, decide_eq_true_eq, e1, e2]
  omega
theorem div_small {y : Int} (h0 : 0 ≤ y) (h1 : y < 12) : ∃ p, y.tdiv 11 = p ∧ 0 ≤ p ∧ p ≤ 1 := by
  refine ⟨_, rfl, ?_⟩
  rw [Int.tdiv_eq_ediv_of_nonneg h0]
  omega
set_option maxHeartbeats 6400000 in
set_option maxRecDepth 100000 in
theorem DrawOnlyClasses_any {A : Option Addr} {m c : Nat} (bs : List UInt8) (w : World) (hC : SlAt w 1 A m c (byts bs)) :
    Calls Try.prog 16 #[.slice A m c] w fun e w' => ∃ A1 n1 c1 A2 n2 c2 n A3 n3 c3, ∃ ls : List GTr, ∃ q : Int, e = .returned (.tuple #[.agg #[.slice A1 n1 c1, .slice A2 n2 c2], .slice A3 n3 c3, .int .i64 q]) ∧ (Lit.int .i64 q).wf = true ∧ NetAt w' A1 n1 c1 A2 n2 c2 n ∧ SlAt w' 4 A3 n3 c3 (ls.flatMap GTr.cells) ∧ Gr w w' := by
  have HC := Lib.hid hC
  clear hC
  go_enter Try.func16, Try.ntmps16
  go_wp2_with fail
  obtain ⟨w1, hw1⟩ : ∃ W, W = w.alloc (.cells #[.slice none 0 0, .slice none 0 0] 27) := ⟨_, rfl⟩
  have hR : w1.heap[w.heap.size]? = some (.cells #[.slice none 0 0, .slice none 0 0] 27 (0, 0)) := by rw [hw1]; exact heap_alloc_new w _
  have hg1 : Gr w w1 := by rw [hw1]; exact (Gr.refl _).alloc _
  have hs1 : w1.heap.size = w.heap.size + 1 := by rw [hw1]; simp
  obtain ⟨R, hRe⟩ : ∃ R, R = w.heap.size := ⟨_, rfl⟩
  rw [← hw1, ← hRe]
  rw [← hRe] at hR hs1
  have hRw : w.heap.size ≤ R := by omega
  have HR := Lib.hid hR
  have Hs1 := Lib.hid hs1
  clear hw1 hRe hR hs1
  refine (l01From_any bs _ (HC.out.gr hg1)).mono ?_
  rintro e w2 ⟨S, rfl, hS, hd2⟩
  have HD2 := Lib.hid hd2
  clear hd2
  go_wp2_with fail
  refine (l24Draw_any HD2.out).mono ?_
  rintro e w3 ⟨A1, n1, c1, A2, n2, c2, n, A3, n3, c3, l, rfl, hO, h3, hl, hd3, hcS⟩
  obtain ⟨w4, hw4⟩ : ∃ W, W = w3.alloc (.cells #[.slice A1 n1 c1, .slice A2 n2 c2] 27) := ⟨_, rfl⟩
  have hg4 : Gr w3 w4 := by rw [hw4]; exact (Gr.refl _).alloc _
  have hM4 : w4.heap[w3.heap.size]? = some (.cells #[.slice A1 n1 c1, .slice A2 n2 c2] 27 (0, 0)) := by rw [hw4]; exact heap_alloc_new w3 _
  obtain ⟨M, hM⟩ : ∃ M, M = w3.heap.size := ⟨_, rfl⟩
  have hs4 : w4.heap.size = M + 1 := by rw [hw4, hM]; simp
  rw [← hM] at hM4
  have hSl := HD2.out.lt
  have hd23 := hd3.lt
  have hR3 := (hd3.gr.below.block R (rb_lt HR.out)).trans HR.out
  have hB : w2.heap.size ≤ M := by have := hcS.size; omega
  have G4 := Lib.hid (Got.mk (B := w2.heap.size) hg1 hRw Hs1.out hS hSl hB (by omega) hM4 ((hg4.below.block R (rb_lt hR3)).trans hR3) (hO.gr hg4) h3 (own_gr hl hg4) (hd3.grow hg4))
  have Hw4 := Lib.hid hw4
  have HMe := Lib.hid hM
  have Hs4 := Lib.hid hs4
  have hS4 : S < w4.heap.size := by omega
  have h04 : w1.heap.size ≤ w4.heap.size := by have := G4.out.s1; omega
  clear hw4 hM hs4 hg4 hM4 hSl hd23 hR3 hB hO hl hd3 hg1 hRw HR Hs1 HD2
  go_wp2_with fail
  rw [← Hw4.out, ← HMe.out]
  have m0 := rb_cell (j := 0) G4.out.m rfl
  have m1 := rb_cell (j := 1) G4.out.m rfl
  have r0 := rb_cell (j := 0) G4.out.r rfl
  have r1 := rb_cell (j := 1) G4.out.r rfl
  have f0 := rb_frozen G4.out.r 0
  have f1 := rb_frozen G4.out.r 1
  have GD := Lib.hid (G4.out.gr (Gr.refl w4).drew)
  go_region_with (first
    | (go_at_call 86; with_reducible refine (l01Next_any 6 GD.out.dr (by omega)).mono ?_; rintro e w5 ⟨x, rfl, hx, hd5, hc5⟩; obtain ⟨x0, x1⟩ := hx.lt (by omega); have G5 := Lib.hid (GD.out.next hd5 hc5); have m0 := rb_cell (j := 0) G5.out.m rfl; have m1 := rb_cell (j := 1) G5.out.m rfl; have r0 := rb_cell (j := 0) G5.out.r rfl; have r1 := rb_cell (j := 1) G5.out.r rfl; have f0 := rb_frozen G5.out.r 0; have f1 := rb_frozen G5.out.r 1; clear hd5 hc5)
    | (go_at_call 86; with_reducible refine (l01Next_any 12 G5.out.dr (by omega)).mono ?_; rintro e w6 ⟨y, rfl, hy, hd6, hc6⟩; obtain ⟨y0, y1⟩ := hy.lt (by omega); obtain ⟨p, hp, p0, p1⟩ := div_small y0 y1; have hwp : IntKind.i64.wrap p = p := IntWalk.i64_in _ (by omega); have hwx : IntKind.i64.wrap (x - p) = x - p := IntWalk.i64_in _ (by omega); have G6 := Lib.hid (G5.out.next hd6 hc6); have m0 := rb_cell (j := 0) G6.out.m rfl; have m1 := rb_cell (j := 1) G6.out.m rfl; have r0 := rb_cell (j := 0) G6.out.r rfl; have r1 := rb_cell (j := 1) G6.out.r rfl; have f0 := rb_frozen G6.out.r 0; have f1 := rb_frozen G6.out.r 1; clear hd6 hc6))
  all_goals
    obtain ⟨h1, h2, h3', h4, hcR⟩ := G6.out.fin
    have H1 := Lib.hid h1
    have H2 := Lib.hid h2
    have H3 := Lib.hid h3'
    have H4 := Lib.hid h4
    clear h1 h2 h3' h4 hcR
    go_wp2_with fail
    (try simp only [Exit.inBlock, Exit.then])
    refine bodyPost_ret (results_row_tmp2 Try.results16 _ _ R 27 #[.slice A1 n1 c1, .slice A2 n2 c2] (0, 0) _ ?_ H1.out Try.underlying27 rfl (by kernel_rfl)) ?_ ?_
    · rfl
    · rfl
    have hq := wf_small (q := x - p) (by omega)
    exact ⟨_, _, _, _, _, _, n, _, _, _, l, _, rfl, hq, H2.out, H3.out, H4.out⟩
set_option maxHeartbeats 6400000 in
set_option maxRecDepth 100000 in
theorem DrawScaleTransports_any {A : Option Addr} {m c : Nat} (bs : List UInt8) (w : World) (hC : SlAt w 1 A m c (byts bs)) :
    Calls Try.prog 24 #[.slice A m c] w fun e w' => ∃ A1 n1 c1 A2 n2 c2 n A3 n3 c3, ∃ ls : List GTr, ∃ A4 n4 c4, ∃ zs : List Int, e = .returned (.tuple #[.agg #[.slice A1 n1 c1, .slice A2 n2 c2], .slice A3 n3 c3, .slice A4 n4 c4]) ∧ NetAt w' A1 n1 c1 A2 n2 c2 n ∧ SlAt w' 4 A3 n3 c3 (ls.flatMap GTr.cells) ∧ n4 ≤ 1048576 ∧ w'.ownsRow w.heap.size 2 1 (.slice A4 n4 c4) n4 (ints zs) ∧ Gr w w' := by
  obtain ⟨i0, hi0, hz0, hz1, hz2⟩ := info_parts infoInt64
  have HC := Lib.hid hC
  clear hC
  go_enter Try.func24, Try.ntmps24
  go_wp2_with fail
  obtain ⟨w1, hw1⟩ : ∃ W, W = w.alloc (.cells #[.slice none 0 0, .slice none 0 0] 27) := ⟨_, rfl⟩
  have hR : w1.heap[w.heap.size]? = some (.cells #[.slice none 0 0, .slice none 0 0] 27 (0, 0)) := by rw [hw1]; exact heap_alloc_new w _
  have hg1 : Gr w w1 := by rw [hw1]; exact (Gr.refl _).alloc _
  have hs1 : w1.heap.size = w.heap.size + 1 := by rw [hw1]; simp
  obtain ⟨R, hRe⟩ : ∃ R, R = w.heap.size := ⟨_, rfl⟩
  rw [← hw1, ← hRe]
  rw [← hRe] at hR hs1
  have hRw : w.heap.size ≤ R := by omega
  have HR := Lib.hid hR
  have Hs1 := Lib.hid hs1
  clear hw1 hRe hR hs1
  refine (l01From_any bs _ (HC.out.gr hg1)).mono ?_
  rintro e w2 ⟨S, rfl, hS, hd2⟩
  have HD2 := Lib.hid hd2
  clear hd2
  go_wp2_with fail
  refine (l24Draw_any HD2.out).mono ?_
  rintro e w3 ⟨A1, n1, c1, A2, n2, c2, n, A3, n3, c3, l, rfl, hO, h3, hl, hd3, hcS⟩
  obtain ⟨w4, hw4⟩ : ∃ W, W = w3.alloc (.cells #[.slice A1 n1 c1, .slice A2 n2 c2] 27) := ⟨_, rfl⟩
  have hg4 : Gr w3 w4 := by rw [hw4]; exact (Gr.refl _).alloc _
  have hM4 : w4.heap[w3.heap.size]? = some (.cells #[.slice A1 n1 c1, .slice A2 n2 c2] 27 (0, 0)) := by rw [hw4]; exact heap_alloc_new w3 _
  obtain ⟨M, hM⟩ : ∃ M, M = w3.heap.size := ⟨_, rfl⟩
  have hs4 : w4.heap.size = M + 1 := by rw [hw4, hM]; simp
  rw [← hM] at hM4
  have hSl := HD2.out.lt
  have hd23 := hd3.lt
  have hR3 := (hd3.gr.below.block R (rb_lt HR.out)).trans HR.out
  have hB : w2.heap.size ≤ M := by have := hcS.size; omega
  have G4 := Lib.hid (Got.mk (B := w2.heap.size) hg1 hRw Hs1.out hS hSl hB (by omega) hM4 ((hg4.below.block R (rb_lt hR3)).trans hR3) (hO.gr hg4) h3 (own_gr hl hg4) (hd3.grow hg4))
  have Hw4 := Lib.hid hw4
  have HMe := Lib.hid hM
  have Hs4 := Lib.hid hs4
  have hS4 : S < w4.heap.size := by omega
  have h04 : w1.heap.size ≤ w4.heap.size := by have := G4.out.s1; omega
  clear hw4 hM hs4 hg4 hM4 hSl hd23 hR3 hB hO hl hd3 hg1 hRw HR Hs1 HD2
  go_wp2_with fail
  rw [← Hw4.out, ← HMe.out]
  have Q5 : Hid (RowSt (fun z : Int => [Value.int .i64 z]) 2 1 w1 w4 (w4.alloc (.cells #[] 2)) S (some ⟨M + 1, 0, none⟩) 0 0) := Lib.hid (by have := RowSt.init (f := fun z : Int => [Value.int .i64 z]) (e := 2) (sz := 1) G4.out.dr (by omega); rw [Hs4.out] at this; exact this)
  go_loopw [8, 9] (fun o i wq => ∃ k : Nat, k ≤ 4 ∧ i = .int .i64 k ∧ ∃ A c, o = .slice A k c ∧ RowSt (fun z : Int => [Value.int .i64 z]) 2 1 w1 w4 wq S A k c) (fun _ i _ => 4 - (intOf i).toNat)
  case atStart => exact ⟨0, Nat.zero_le _, rfl, _, _, rfl, Q5.out⟩
  case round =>
    obtain ⟨u, hk, rfl, A, cc, rfl, q⟩ := hrel
    have QQ := Lib.hid q
    clear q Q5
    by_cases hkn : u < 4
    · have t1 : (u : Int) < 4 := by omega
      go_wp2_with fail
      refine (l01Next_any 101 QQ.out.dr (by omega)).mono ?_
      rintro e w5 ⟨a, rfl, ha, hd5, hc5⟩
      have Q6 := Lib.hid (QQ.out.next hS4 hd5 hc5)
      have lo := World.ownsRow_lit w5 (e := 2) (size := 1) #[.int .i64 0, .int .i64 100, .int .i64 a] 3 (Nat.le_refl _) (by unfold maxLen; omega) rfl
      have LO := Lib.hid lo
      have Q7 := Lib.hid (Q6.out.next hS4 (Q6.out.dr.grow ((Gr.refl _).alloc (.cells #[.int .i64 0, .int .i64 100, .int .i64 a] 2))) (((Gr.refl _).alloc (.cells #[.int .i64 0, .int .i64 100, .int .i64 a] 2)).chg _))
      have hS5 : S < w5.heap.size := Q6.out.dr.lt
      clear ha hd5 hc5 lo QQ Q6
      go_wp2_with fail
      refine (l01Next_any 3 Q7.out.dr (by omega)).mono ?_
      rintro e w6 ⟨z, rfl, hz, hd6, hc6⟩
      obtain ⟨z0, z1⟩ := hz.lt (by omega)
      have lo2 := own_chg LO.out hc6 (fun j hj e => by have := own_low LO.out hj; omega)
      obtain ⟨v, hv⟩ := own_pick (zs := [0, 100, a]) lo2 z0 z1
      have Q8 := Lib.hid (Q7.out.next hS4 hd6 hc6)
      clear hz hd6 hc6 lo2 LO Q7
      obtain ⟨ls, hls⟩ := Q8.out.row
      have Hls := Lib.hid hls
      have hws := Q8.out.ch.size
      clear hls
      go_wp2_with (at_builtin; (refine wpList_append_own _ rfl _ _ _ rfl w4.heap.size 2 i0 _ 1 8 Try.underlying33 hi0 hz0 hz1 hz2 rfl (by omega) _ u _ rfl (Hls.out.alloc _) ⟨w6.heap.size, 0, none⟩ 1 1 [.int .i64 v] rfl rfl (World.news_of_block (cs := #[.int .i64 v]) (t := 2) (fr := (0, 0)) (heap_alloc_new w6 _)) (by simp [Value.oneCell']) (by unfold maxLen; omega) (by omega) (by simp; omega) ?_; intro v' w20 hown20 hg20 _; obtain ⟨A', c', rfl⟩ := own_shape hown20; have Q20 := Lib.hid (Q8.out.add (x := v) hS4 h04 hown20 hg20); clear hown20 hg20 Hls))
      go_wp2_with fail
      go_roundw
      case rel => exact ⟨u + 1, by omega, by go_num, _, _, rfl, Q20.out⟩
      case measure => simp [intOf]; omega
    · obtain rfl : u = 4 := by omega
      go_wp2_with fail
      refine (l01Next_any 20 QQ.out.dr (by omega)).mono ?_
      rintro e w5 ⟨t, rfl, ht, hd5, hc5⟩
      have Q := Lib.hid (QQ.out.next hS4 hd5 hc5)
      clear ht hd5 hc5 QQ
      obtain ⟨u, hu⟩ : ∃ u, u = 4 := ⟨_, rfl⟩
      by_cases h0 : t = 0
      · subst h0
        obtain ⟨ls, hls⟩ := Q.out.row
        have Hls := Lib.hid hls
        have hws := Q.out.ch.size
        clear hls
        go_upto_region 13 with (at_builtin; (refine wpList_append_own _ rfl _ _ _ rfl w4.heap.size 2 i0 _ 1 8 Try.underlying33 hi0 hz0 hz1 hz2 rfl (by omega) _ 4 _ rfl (Hls.out.alloc _) ⟨w5.heap.size, 0, none⟩ 1 1 [.int .i64 0] rfl rfl (World.news_of_block (cs := #[.int .i64 0]) (t := 2) (fr := (0, 0)) (heap_alloc_new w5 _)) (by simp [Value.oneCell']) (by unfold maxLen; omega) (by omega) (by simp; omega) ?_; intro v' w20 hown20 hg20 _; obtain ⟨A', c', rfl⟩ := own_shape hown20; have Q20 := Lib.hid (Q.out.add (x := 0) hS4 h04 hown20 hg20); clear hown20 hg20 Hls))
        have G20 := Lib.hid (G4.out.next Q20.out.dr Q20.out.ch)
        obtain ⟨h1, h2, h3', h4, hcR⟩ := G20.out.fin
        obtain ⟨ls, hls⟩ := Q20.out.row
        have hlow := fun j hj => own_low hls (k := j) hj
        have H6 := Lib.hid (own_base (own_eq' (own_chg hls hcR (fun j hj e => by have := hlow j hj; have := G20.out.r1; have := G20.out.s1; have := G20.out.sb; have := G20.out.bm; omega)) (flat_int ls)) (base' := w.heap.size) (by have := G20.out.rw; have := G20.out.r1; have := G20.out.s1; omega))
        clear hls hlow
        have m0 := rb_cell (j := 0) G20.out.m rfl
        have m1 := rb_cell (j := 1) G20.out.m rfl
        have r0 := rb_cell (j := 0) G20.out.r rfl
        have r1 := rb_cell (j := 1) G20.out.r rfl
        have f0 := rb_frozen G20.out.r 0
        have f1 := rb_frozen G20.out.r 1
        have H1 := Lib.hid h1
        have H2 := Lib.hid h2
        have H3 := Lib.hid h3'
        have H4 := Lib.hid h4
        clear h1 h2 h3' h4 hcR
        go_wp2_with fail
        (try simp only [Exit.inBlock, Exit.then])
        refine bodyPost_ret (results_row_tmp2 Try.results24 _ _ R 27 #[.slice A1 n1 c1, .slice A2 n2 c2] (0, 0) _ ?_ H1.out Try.underlying27 rfl (by kernel_rfl)) ?_ ?_
        · rfl
        · rfl
        exact ⟨_, _, _, _, _, _, n, _, _, _, l, _, _, _, ls, rfl, H2.out, H3.out, by omega, H6.out, H4.out⟩
      by_cases h1 : t = 1
      · subst h1
        have lo := World.ownsRow_lit w5 (e := 2) (size := 1) #[.int .i64 (-1), .int .i64 101] 2 (Nat.le_refl _) (by unfold maxLen; omega) rfl
        have LO := Lib.hid lo
        have Q7 := Lib.hid (Q.out.next hS4 (Q.out.dr.grow ((Gr.refl _).alloc (.cells #[.int .i64 (-1), .int .i64 101] 2))) (((Gr.refl _).alloc (.cells #[.int .i64 (-1), .int .i64 101] 2)).chg _))
        have hS5 : S < w5.heap.size := Q.out.dr.lt
        clear lo
        go_wp2_with fail
        refine (l01Next_any 2 Q7.out.dr (by omega)).mono ?_
        rintro e w6 ⟨z, rfl, hz, hd6, hc6⟩
        obtain ⟨z0, z1⟩ := hz.lt (by omega)
        have lo2 := own_chg LO.out hc6 (fun j hj e => by have := own_low LO.out hj; omega)
        obtain ⟨v, hv⟩ := own_pick (zs := [-1, 101]) lo2 z0 z1
        have Q8 := Lib.hid (Q7.out.next hS4 hd6 hc6)
        obtain ⟨ls, hls⟩ := Q8.out.row
        obtain ⟨b, rfl, hbb, hbl⟩ := own_form hls (by omega)
        obtain ⟨x, hx⟩ : ∃ x, ls[0]? = some x := ⟨_, List.getElem?_eq_getElem (by have := own_ilen (own_eq' hls (flat_int ls)); omega)⟩
        obtain ⟨p0, p1⟩ := own_int (own_eq' hls (flat_int ls)) hx
        clear hz hd6 hc6 lo2 LO Q7 Q hls hx
        go_upto_region 13 with fail
        have Q20 := Lib.hid (Q8.out.put hS4 h04 0 v)
        clear p0 p1 Q8
        generalize World.setCell _ _ _ = w7 at Q20 ⊢
        have G20 := Lib.hid (G4.out.next Q20.out.dr Q20.out.ch)
        obtain ⟨h1, h2, h3', h4, hcR⟩ := G20.out.fin
        obtain ⟨ls, hls⟩ := Q20.out.row
        have hlow := fun j hj => own_low hls (k := j) hj
        have H6 := Lib.hid (own_base (own_eq' (own_chg hls hcR (fun j hj e => by have := hlow j hj; have := G20.out.r1; have := G20.out.s1; have := G20.out.sb; have := G20.out.bm; omega)) (flat_int ls)) (base' := w.heap.size) (by have := G20.out.rw; have := G20.out.r1; have := G20.out.s1; omega))
        clear hls hlow
        have m0 := rb_cell (j := 0) G20.out.m rfl
        have m1 := rb_cell (j := 1) G20.out.m rfl
        have r0 := rb_cell (j := 0) G20.out.r rfl
        have r1 := rb_cell (j := 1) G20.out.r rfl
        have f0 := rb_frozen G20.out.r 0
        have f1 := rb_frozen G20.out.r 1
        have H1 := Lib.hid h1
        have H2 := Lib.hid h2
        have H3 := Lib.hid h3'
        have H4 := Lib.hid h4
        clear h1 h2 h3' h4 hcR
        go_wp2_with fail
        (try simp only [Exit.inBlock, Exit.then])
        refine bodyPost_ret (results_row_tmp2 Try.results24 _ _ R 27 #[.slice A1 n1 c1, .slice A2 n2 c2] (0, 0) _ ?_ H1.out Try.underlying27 rfl (by kernel_rfl)) ?_ ?_
        · rfl
        · rfl
        exact ⟨_, _, _, _, _, _, n, _, _, _, l, _, _, _, ls, rfl, H2.out, H3.out, by omega, H6.out, H4.out⟩
      have tt0 : (t == 0) = false := by simp [h0]
      have tt1 : (t == 1) = false := by simp [h1]
      clear h0 h1
      go_upto_region 13 with fail
      have G20 := Lib.hid (G4.out.next Q.out.dr Q.out.ch)
      obtain ⟨h1, h2, h3', h4, hcR⟩ := G20.out.fin
      obtain ⟨ls, hls⟩ := Q.out.row
      have hlow := fun j hj => own_low hls (k := j) hj
      have H6 := Lib.hid (own_base (own_eq' (own_chg hls hcR (fun j hj e => by have := hlow j hj; have := G20.out.r1; have := G20.out.s1; have := G20.out.sb; have := G20.out.bm; omega)) (flat_int ls)) (base' := w.heap.size) (by have := G20.out.rw; have := G20.out.r1; have := G20.out.s1; omega))
      clear hls hlow
      have m0 := rb_cell (j := 0) G20.out.m rfl
      have m1 := rb_cell (j := 1) G20.out.m rfl
      have r0 := rb_cell (j := 0) G20.out.r rfl
      have r1 := rb_cell (j := 1) G20.out.r rfl
      have f0 := rb_frozen G20.out.r 0
      have f1 := rb_frozen G20.out.r 1
      have H1 := Lib.hid h1
      have H2 := Lib.hid h2
      have H3 := Lib.hid h3'
      have H4 := Lib.hid h4
      clear h1 h2 h3' h4 hcR
      go_wp2_with fail
      (try simp only [Exit.inBlock, Exit.then])
      refine bodyPost_ret (results_row_tmp2 Try.results24 _ _ R 27 #[.slice A1 n1 c1, .slice A2 n2 c2] (0, 0) _ ?_ H1.out Try.underlying27 rfl (by kernel_rfl)) ?_ ?_
      · rfl
      · rfl
      exact ⟨_, _, _, _, _, _, n, _, _, _, l, _, _, _, ls, rfl, H2.out, H3.out, by omega, H6.out, H4.out⟩
set_option maxHeartbeats 6400000 in
set_option maxRecDepth 100000 in
theorem DrawCheckScales_any {A : Option Addr} {m c : Nat} (bs : List UInt8) (w : World) (hC : SlAt w 1 A m c (byts bs)) :
    Calls Try.prog 35 #[.slice A m c] w fun e w' => ∃ A1 n1 c1 A2 n2 c2 n A3 n3 c3, ∃ ls : List GTr, ∃ A4 n4 c4, ∃ zs : List Int, e = .returned (.tuple #[.agg #[.slice A1 n1 c1, .slice A2 n2 c2], .slice A3 n3 c3, .slice A4 n4 c4]) ∧ NetAt w' A1 n1 c1 A2 n2 c2 n ∧ SlAt w' 4 A3 n3 c3 (ls.flatMap GTr.cells) ∧ n4 ≤ 1048576 ∧ w'.ownsRow w.heap.size 2 1 (.slice A4 n4 c4) n4 (ints zs) ∧ Gr w w' := by
  have HC := Lib.hid hC
  clear hC
  go_enter Try.func35, Try.ntmps35
  go_wp2_with fail
  obtain ⟨w1, hw1⟩ : ∃ W, W = w.alloc (.cells #[.slice none 0 0, .slice none 0 0] 27) := ⟨_, rfl⟩
  have hR : w1.heap[w.heap.size]? = some (.cells #[.slice none 0 0, .slice none 0 0] 27 (0, 0)) := by rw [hw1]; exact heap_alloc_new w _
  have hg1 : Gr w w1 := by rw [hw1]; exact (Gr.refl _).alloc _
  have hs1 : w1.heap.size = w.heap.size + 1 := by rw [hw1]; simp
  obtain ⟨R, hRe⟩ : ∃ R, R = w.heap.size := ⟨_, rfl⟩
  rw [← hw1, ← hRe]
  rw [← hRe] at hR hs1
  have hRw : w.heap.size ≤ R := by omega
  have HR := Lib.hid hR
  have Hs1 := Lib.hid hs1
  clear hw1 hRe hR hs1
  refine (l01From_any bs _ (HC.out.gr hg1)).mono ?_
  rintro e w2 ⟨S, rfl, hS, hd2⟩
  have HD2 := Lib.hid hd2
  clear hd2
  go_wp2_with fail
  refine (l24Draw_any HD2.out).mono ?_
  rintro e w3 ⟨A1, n1, c1, A2, n2, c2, n, A3, n3, c3, l, rfl, hO, h3, hl, hd3, hcS⟩
  obtain ⟨w4, hw4⟩ : ∃ W, W = w3.alloc (.cells #[.slice A1 n1 c1, .slice A2 n2 c2] 27) := ⟨_, rfl⟩
  have hg4 : Gr w3 w4 := by rw [hw4]; exact (Gr.refl _).alloc _
  have hM4 : w4.heap[w3.heap.size]? = some (.cells #[.slice A1 n1 c1, .slice A2 n2 c2] 27 (0, 0)) := by rw [hw4]; exact heap_alloc_new w3 _
  obtain ⟨M, hM⟩ : ∃ M, M = w3.heap.size := ⟨_, rfl⟩
  have hs4 : w4.heap.size = M + 1 := by rw [hw4, hM]; simp
  rw [← hM] at hM4
  have hSl := HD2.out.lt
  have hd23 := hd3.lt
  have hR3 := (hd3.gr.below.block R (rb_lt HR.out)).trans HR.out
  have hB : w2.heap.size ≤ M := by have := hcS.size; omega
  have G4 := Lib.hid (Got.mk (B := w2.heap.size) hg1 hRw Hs1.out hS hSl hB (by omega) hM4 ((hg4.below.block R (rb_lt hR3)).trans hR3) (hO.gr hg4) h3 (own_gr hl hg4) (hd3.grow hg4))
  have Hw4 := Lib.hid hw4
  have HMe := Lib.hid hM
  have Hs4 := Lib.hid hs4
  have hS4 : S < w4.heap.size := by omega
  have h04 : w1.heap.size ≤ w4.heap.size := by have := G4.out.s1; omega
  have hc14 := hg1.trans (hd3.gr.trans hg4)
  have Hc4 := Lib.hid (HC.out.gr hc14)
  clear hw4 hM hs4 hg4 hM4 hSl hd23 hR3 hB hO hl hd3 hg1 hRw HR Hs1 HD2
  go_wp2_with fail
  rw [← Hw4.out, ← HMe.out]
  have m0 := rb_cell (j := 0) G4.out.m rfl
  have m1 := rb_cell (j := 1) G4.out.m rfl
  have r0 := rb_cell (j := 0) G4.out.r rfl
  have r1 := rb_cell (j := 1) G4.out.r rfl
  have f0 := rb_frozen G4.out.r 0
  have f1 := rb_frozen G4.out.r 1
  refine (spCurtailScales_any n l _ G4.out.net.at_ (SlAt.of_own G4.out.list (by omega))).mono ?_
  rintro e w5 ⟨B4, u, d4, rfl, hu, ho, hg5⟩
  have Q5 : Hid (RowSt (fun z : Int => [Value.int .i64 z]) 2 1 w1 w4 w5 S B4 u d4) := Lib.hid ⟨⟨cuRes n l, own_eq' ho (flat_int _).symm⟩, G4.out.dr.grow hg5, hg5.chg _⟩
  have hul := own_ilen ho
  have HcR : Hid (∀ wx : World, Gr w1 wx → SlAt wx 1 A m c (byts bs)) := Lib.hid (fun wx hx => HC.out.gr (G4.out.g1.trans hx))
  clear hg5 ho m0 m1 r0 r1 f0 f1
  by_cases hc : trCode n l = 0
  · have tc : (trCode n l != 0) = false := by simp [hc]
    have hu4 : 4 ≤ u := by
      have e := curs_len (trCode_zero hc).1 l
      rw [cuRes, if_pos hc] at hul
      omega
    clear hc hul
    go_wp2_with fail
    refine (l01Next_any 6 Q5.out.dr (by omega)).mono ?_
    rintro e w6 ⟨t, rfl, ht, hd6, hc6⟩
    have Q6 := Lib.hid (Q5.out.next hS4 hd6 hc6)
    clear ht hd6 hc6 Q5
    by_cases ht0 : t = 0
    · have tt : (t == 0) = true := by simp [ht0]
      clear ht0
      go_wp2_with fail
      refine (DrawScaleTransports_any bs _ (HcR.out _ Q6.out.dr.gr)).mono ?_
      rintro e w8 ⟨B1, b1, d1, B2, b2, d2, nn, B3, b3, d3, l2, B5, b5, d5, zs5, rfl, _, _, h55, ho5, hg8⟩
      obtain ⟨w9, hw9⟩ : ∃ W, W = w8.alloc (.cells #[.slice B1 b1 d1, .slice B2 b2 d2] 27) := ⟨_, rfl⟩
      have hg9 : Gr w8 w9 := by rw [hw9]; exact (Gr.refl _).alloc _
      have Q9 := Lib.hid (Q6.out.take hS4 (hg8.trans hg9) (own_gr ho5 hg9))
      have Hw9 := Lib.hid hw9
      clear hg8 ho5 hg9 hw9
      go_upto_region 6 with fail
      rw [← Hw9.out]
      have G20 := Lib.hid (G4.out.next Q9.out.dr Q9.out.ch)
      obtain ⟨h1, h2, h3', h4, hcR⟩ := G20.out.fin
      obtain ⟨ls, hls⟩ := Q9.out.row
      have hlow := fun j hj => own_low hls (k := j) hj
      have H6 := Lib.hid (own_base (own_eq' (own_chg hls hcR (fun j hj e => by have := hlow j hj; have := G20.out.r1; have := G20.out.s1; have := G20.out.sb; have := G20.out.bm; omega)) (flat_int ls)) (base' := w.heap.size) (by have := G20.out.rw; have := G20.out.r1; have := G20.out.s1; omega))
      clear hls hlow
      have m0 := rb_cell (j := 0) G20.out.m rfl
      have m1 := rb_cell (j := 1) G20.out.m rfl
      have r0 := rb_cell (j := 0) G20.out.r rfl
      have r1 := rb_cell (j := 1) G20.out.r rfl
      have f0 := rb_frozen G20.out.r 0
      have f1 := rb_frozen G20.out.r 1
      have H1 := Lib.hid h1
      have H2 := Lib.hid h2
      have H3 := Lib.hid h3'
      have H4 := Lib.hid h4
      clear h1 h2 h3' h4 hcR
      go_wp2_with fail
      (try simp only [Exit.inBlock, Exit.then])
      refine bodyPost_ret (results_row_tmp2 Try.results35 _ _ R 27 #[.slice A1 n1 c1, .slice A2 n2 c2] (0, 0) _ ?_ H1.out Try.underlying27 rfl (by kernel_rfl)) ?_ ?_
      · rfl
      · rfl
      exact ⟨_, _, _, _, _, _, n, _, _, _, l, _, _, _, ls, rfl, H2.out, H3.out, by omega, H6.out, H4.out⟩
    · have tt : (t == 0) = false := by simp [ht0]
      clear ht0
      go_wp2_with fail
      refine (l01Next_any 3 Q6.out.dr (by omega)).mono ?_
      rintro e w7 ⟨t2, rfl, ht2, hd7, hc7⟩
      have Q7 := Lib.hid (Q6.out.next hS4 hd7 hc7)
      clear ht2 hd7 hc7 Q6
      by_cases h20 : t2 = 0
      · have tt2 : (t2 == 0) = true := by simp [h20]
        clear h20
        go_wp2_with fail
        refine (l01Next_any 4 Q7.out.dr (by omega)).mono ?_
        rintro e w8 ⟨k, rfl, hk, hd8, hc8⟩
        obtain ⟨k0, k1⟩ := hk.lt (by omega)
        obtain ⟨K, hK⟩ : ∃ K : Nat, k = (K : Int) := ⟨k.toNat, by omega⟩
        subst hK
        have Q8 := Lib.hid (Q7.out.next hS4 hd8 hc8)
        clear hk hd8 hc8 Q7
        obtain ⟨ls, hls⟩ := Q8.out.row
        obtain ⟨b, rfl, hbb, hbl⟩ := own_form hls (by omega)
        obtain ⟨x, hx⟩ : ∃ x, ls[K]? = some x := ⟨_, List.getElem?_eq_getElem (by have := own_ilen (own_eq' hls (flat_int ls)); omega)⟩
        obtain ⟨p0, p1⟩ := own_int (own_eq' hls (flat_int ls)) hx
        have Q8d := Lib.hid (Q8.out.next hS4 (Q8.out.dr.grow (Gr.refl _).drew) ((Gr.refl _).drew.chg _))
        have Hls := Lib.hid (own_gr hls (Gr.refl w8).drew)
        have Hx := Lib.hid hx
        have u1 : (K : Int) < (u : Int) := by omega
        have u0 : (0 : Int) ≤ (K : Int) := by omega
        clear hls hx
        go_wp2_with fail
        go_region_with ((go_at_call 86; with_reducible refine (l01Next_any 3 Q8d.out.dr (by omega)).mono ?_; rintro e w9 ⟨y, rfl, hy, hd9, hc9⟩; have Q9 := Lib.hid (Q8d.out.next hS4 hd9 hc9); obtain ⟨p2, p3⟩ := own_int (own_eq' (own_chg Hls.out hc9 (fun j hj e => by have := own_low Hls.out hj; omega)) (flat_int ls)) Hx.out; obtain ⟨e9, he9⟩ : ∃ e, IntKind.i64.wrap (x - y) = e := ⟨_, rfl⟩; clear hy hd9 hc9))
        all_goals
          generalize hW : World.setCell w9 _ _ = w10
          have Q10 : Hid (RowSt (fun z : Int => [Value.int .i64 z]) 2 1 w1 w4 w10 S (some ⟨b, 0, none⟩) u d4) := Lib.hid (by rw [← hW]; exact Q9.out.put hS4 h04 K _)
          clear p0 p1 p2 p3 he9 Q8 Q8d Hls Hx Q9 hW
          have G20 := Lib.hid (G4.out.next Q10.out.dr Q10.out.ch)
          obtain ⟨h1, h2, h3', h4, hcR⟩ := G20.out.fin
          obtain ⟨ls, hls⟩ := Q10.out.row
          have hlow := fun j hj => own_low hls (k := j) hj
          have H6 := Lib.hid (own_base (own_eq' (own_chg hls hcR (fun j hj e => by have := hlow j hj; have := G20.out.r1; have := G20.out.s1; have := G20.out.sb; have := G20.out.bm; omega)) (flat_int ls)) (base' := w.heap.size) (by have := G20.out.rw; have := G20.out.r1; have := G20.out.s1; omega))
          clear hls hlow
          have m0 := rb_cell (j := 0) G20.out.m rfl
          have m1 := rb_cell (j := 1) G20.out.m rfl
          have r0 := rb_cell (j := 0) G20.out.r rfl
          have r1 := rb_cell (j := 1) G20.out.r rfl
          have f0 := rb_frozen G20.out.r 0
          have f1 := rb_frozen G20.out.r 1
          have H1 := Lib.hid h1
          have H2 := Lib.hid h2
          have H3 := Lib.hid h3'
          have H4 := Lib.hid h4
          clear h1 h2 h3' h4 hcR
          go_wp2_with fail
          all_goals
            (try simp only [Exit.inBlock, Exit.then])
            refine bodyPost_ret (results_row_tmp2 Try.results35 _ _ R 27 #[.slice A1 n1 c1, .slice A2 n2 c2] (0, 0) _ ?_ H1.out Try.underlying27 rfl (by kernel_rfl)) ?_ ?_
            · rfl
            · rfl
            exact ⟨_, _, _, _, _, _, n, _, _, _, l, _, _, _, rfl, H2.out, H3.out, by omega, ⟨ls, H6.out⟩, H4.out⟩
      · have tt2 : (t2 == 0) = false := by simp [h20]
        clear h20
        go_upto_region 10 with fail
        have G20 := Lib.hid (G4.out.next Q7.out.dr Q7.out.ch)
        obtain ⟨h1, h2, h3', h4, hcR⟩ := G20.out.fin
        obtain ⟨ls, hls⟩ := Q7.out.row
        have hlow := fun j hj => own_low hls (k := j) hj
        have H6 := Lib.hid (own_base (own_eq' (own_chg hls hcR (fun j hj e => by have := hlow j hj; have := G20.out.r1; have := G20.out.s1; have := G20.out.sb; have := G20.out.bm; omega)) (flat_int ls)) (base' := w.heap.size) (by have := G20.out.rw; have := G20.out.r1; have := G20.out.s1; omega))
        clear hls hlow
        have m0 := rb_cell (j := 0) G20.out.m rfl
        have m1 := rb_cell (j := 1) G20.out.m rfl
        have r0 := rb_cell (j := 0) G20.out.r rfl
        have r1 := rb_cell (j := 1) G20.out.r rfl
        have f0 := rb_frozen G20.out.r 0
        have f1 := rb_frozen G20.out.r 1
        have H1 := Lib.hid h1
        have H2 := Lib.hid h2
        have H3 := Lib.hid h3'
        have H4 := Lib.hid h4
        clear h1 h2 h3' h4 hcR
        go_wp2_with fail
        (try simp only [Exit.inBlock, Exit.then])
        refine bodyPost_ret (results_row_tmp2 Try.results35 _ _ R 27 #[.slice A1 n1 c1, .slice A2 n2 c2] (0, 0) _ ?_ H1.out Try.underlying27 rfl (by kernel_rfl)) ?_ ?_
        · rfl
        · rfl
        exact ⟨_, _, _, _, _, _, n, _, _, _, l, _, _, _, ls, rfl, H2.out, H3.out, by omega, H6.out, H4.out⟩
  · have tc : (trCode n l != 0) = true := by simp [hc]
    clear hc hul
    go_wp2_with fail
    refine (DrawScaleTransports_any bs _ (HcR.out _ Q5.out.dr.gr)).mono ?_
    rintro e w8 ⟨B1, b1, d1, B2, b2, d2, nn, B3, b3, d3, l2, B5, b5, d5, zs5, rfl, _, _, h55, ho5, hg8⟩
    obtain ⟨w9, hw9⟩ : ∃ W, W = w8.alloc (.cells #[.slice B1 b1 d1, .slice B2 b2 d2] 27) := ⟨_, rfl⟩
    have hg9 : Gr w8 w9 := by rw [hw9]; exact (Gr.refl _).alloc _
    have Q9 := Lib.hid (Q5.out.take hS4 (hg8.trans hg9) (own_gr ho5 hg9))
    have Hw9 := Lib.hid hw9
    clear hg8 ho5 hg9 hw9
    go_upto_region 6 with fail
    rw [← Hw9.out]
    have G20 := Lib.hid (G4.out.next Q9.out.dr Q9.out.ch)
    obtain ⟨h1, h2, h3', h4, hcR⟩ := G20.out.fin
    obtain ⟨ls, hls⟩ := Q9.out.row
    have hlow := fun j hj => own_low hls (k := j) hj
    have H6 := Lib.hid (own_base (own_eq' (own_chg hls hcR (fun j hj e => by have := hlow j hj; have := G20.out.r1; have := G20.out.s1; have := G20.out.sb; have := G20.out.bm; omega)) (flat_int ls)) (base' := w.heap.size) (by have := G20.out.rw; have := G20.out.r1; have := G20.out.s1; omega))
    clear hls hlow
    have m0 := rb_cell (j := 0) G20.out.m rfl
    have m1 := rb_cell (j := 1) G20.out.m rfl
    have r0 := rb_cell (j := 0) G20.out.r rfl
    have r1 := rb_cell (j := 1) G20.out.r rfl
    have f0 := rb_frozen G20.out.r 0
    have f1 := rb_frozen G20.out.r 1
    have H1 := Lib.hid h1
    have H2 := Lib.hid h2
    have H3 := Lib.hid h3'
    have H4 := Lib.hid h4
    clear h1 h2 h3' h4 hcR
    go_wp2_with fail
    (try simp only [Exit.inBlock, Exit.then])
    refine bodyPost_ret (results_row_tmp2 Try.results35 _ _ R 27 #[.slice A1 n1 c1, .slice A2 n2 c2] (0, 0) _ ?_ H1.out Try.underlying27 rfl (by kernel_rfl)) ?_ ?_
    · rfl
    · rfl
    exact ⟨_, _, _, _, _, _, n, _, _, _, l, _, _, _, ls, rfl, H2.out, H3.out, by omega, H6.out, H4.out⟩
end Go.Proofs.Ytejfpajbkgfiaaa
