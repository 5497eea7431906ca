/-
  Draws: nominations, a contract, an hour. Printed by gen_draw26.py.
-/
import Derived.Test.YtelhmfgfjlpkaaaDraw25
import Derived.Deep.RegionHeld3
set_option linter.unusedSimpArgs false
set_option linter.unusedVariables false
namespace Go.Proofs.Ytelhmfgfjlpkaaa
open Go.ChangeShapes Go.WideShapes Go.ChangeAt Go.RowKit

theorem results_row_tmp4 {P : Program} {fn : Func} {p u v x y : Tmp} {ty : TypeId} (h : fn.results = #[.cell p ty, .tmp u, .tmp v, .tmp x, .tmp y]) (tmps : Array Value) (w : World) (g : Nat) (t : TypeId) (cs : Array Value) (fr : Nat × Nat) (d : TypeDesc)
    (hp : tmps.getD p undef = .pointer (some ⟨g, 0, none⟩)) (hg : w.heap[g]? = some (.cells cs t fr))
    (hu : P.underlying ty = some d) (hd : (match d with | .struct _ | .array _ _ => true | _ => false) = true) (hi : (P.info? ty).map (·.size) = some cs.size) :
    (results fn tmps).run P w = .ok (.tuple #[.agg cs, tmps.getD u undef, tmps.getD v undef, tmps.getD x undef, tmps.getD y undef]) w := by
  have hp' : tmps[p]?.getD undef = .pointer (some ⟨g, 0, none⟩) := by simpa using hp
  simp [results, h, hp', asAddr, run_loadVar_row w g t ty cs fr d hg hu hd hi]
theorem results_row_tmp3 {P : Program} {fn : Func} {p u v x : Tmp} {ty : TypeId} (h : fn.results = #[.cell p ty, .tmp u, .tmp v, .tmp x]) (tmps : Array Value) (w : World) (g : Nat) (t : TypeId) (cs : Array Value) (fr : Nat × Nat) (d : TypeDesc)
    (hp : tmps.getD p undef = .pointer (some ⟨g, 0, none⟩)) (hg : w.heap[g]? = some (.cells cs t fr))
    (hu : P.underlying ty = some d) (hd : (match d with | .struct _ | .array _ _ => true | _ => false) = true) (hi : (P.info? ty).map (·.size) = some cs.size) :
    (results fn tmps).run P w = .ok (.tuple #[.agg cs, tmps.getD u undef, tmps.getD v undef, tmps.getD x undef]) w := by
  have hp' : tmps[p]?.getD undef = .pointer (some ⟨g, 0, none⟩) := by simpa using hp
  simp [results, h, hp', asAddr, run_loadVar_row w g t ty cs fr d hg hu hd hi]
/-- The end with two rows: the network's block is read into the result's. -/
theorem ask_end {e2 e3 : TypeId} {sz2 sz3 : Nat} {w0 w w4 wz : World} {S R M : Nat} {A1 A2 B B' : Option Addr} {n1 c1 n2 c2 m d m' d' : Nat} {xs xs' : List Value} (hN : NetM w0 w w4 S R M A1 n1 c1 A2 n2 c2) (hl : w4.ownsRow (R + 1) e2 sz2 (.slice B m d) m xs) (hk : w4.ownsRow (R + 1) e3 sz3 (.slice B' m' d') m' xs') (hd : Drw w0 wz S) (hc : Chg (fun j => j = S) w4 wz) (hRw : w.heap.size ≤ R) (hRw0 : w0.heap.size ≤ R) (hSR : S < R) (hMR : R < M) :
    (wz.heap[M]? = some (.cells #[.slice A1 n1 c1, .slice A2 n2 c2] 27 (0, 0)) ∧ wz.heap[R]? = some (.cells #[.slice none 0 0, .slice none 0 0] 27 (0, 0))) ∧
    ((wz.setCell ⟨R, 0, none⟩ (.slice A1 n1 c1)).setCell ⟨R, 1, none⟩ (.slice A2 n2 c2)).heap[R]? = some (.cells #[.slice A1 n1 c1, .slice A2 n2 c2] 27 (0, 0)) ∧
    (∃ n, OwnNet ((wz.setCell ⟨R, 0, none⟩ (.slice A1 n1 c1)).setCell ⟨R, 1, none⟩ (.slice A2 n2 c2)) w.heap.size A1 n1 c1 A2 n2 c2 n) ∧ ((wz.setCell ⟨R, 0, none⟩ (.slice A1 n1 c1)).setCell ⟨R, 1, none⟩ (.slice A2 n2 c2)).ownsRow w.heap.size e2 sz2 (.slice B m d) m xs ∧ ((wz.setCell ⟨R, 0, none⟩ (.slice A1 n1 c1)).setCell ⟨R, 1, none⟩ (.slice A2 n2 c2)).ownsRow w.heap.size e3 sz3 (.slice B' m' d') m' xs' ∧ Drw w0 ((wz.setCell ⟨R, 0, none⟩ (.slice A1 n1 c1)).setCell ⟨R, 1, none⟩ (.slice A2 n2 c2)) S ∧ Chg (fun j => j = S) w ((wz.setCell ⟨R, 0, none⟩ (.slice A1 n1 c1)).setCell ⟨R, 1, none⟩ (.slice A2 n2 c2)) := by
  have q : RowSt GNom.cells 120 4 w0 w4 wz S none 0 0 := ⟨⟨[], World.ownsRow_nil _ _ _ _⟩, hd, hc⟩
  obtain ⟨a1, a2, a3, _, a4, a5, a6⟩ := list_end3 hN hl q hRw hRw0 hSR hMR
  obtain ⟨_, _, _, _, b4, _, _⟩ := list_end3 hN hk q hRw hRw0 hSR hMR
  exact ⟨a1, a2, a3, a4, b4, a5, a6⟩
set_option maxHeartbeats 6400000 in
set_option maxRecDepth 100000 in
theorem l21DrawAsk_any {w0 w : World} {S : Nat} (h : Drw w0 w S) :
    Calls Try.prog 66 #[.pointer (some ⟨S, 0, none⟩)] w fun e w' => ∃ A1 n1 c1 A2 n2 c2 n A3 n3 c3, ∃ bk : List {y : GCon // DrB y}, ∃ A4 n4 c4, ∃ ls : List GNom, ∃ a b : Int, e = .returned (.tuple #[.agg #[.slice A1 n1 c1, .slice A2 n2 c2], .slice A3 n3 c3, .slice A4 n4 c4, .int .i64 a, .int .i64 b]) ∧ OwnNet w' w.heap.size A1 n1 c1 A2 n2 c2 n ∧ n3 ≤ 40 ∧ w'.ownsRow w.heap.size 61 8 (.slice A3 n3 c3) n3 (bk.flatMap (fun z : {y : GCon // DrB y} => z.1.cells)) ∧ n4 ≤ 210 ∧ w'.ownsRow w.heap.size 120 4 (.slice A4 n4 c4) n4 (ls.flatMap GNom.cells) ∧ Drw w0 w' S ∧ Chg (fun k => k = S) w w' := by
  have hlt := h.lt
  have hbw := h.gr.size
  have H := Lib.hid h
  clear h
  go_enter Try.func66, Try.ntmps66
  go_wp2_with fail
  generalize hw1 : World.alloc w _ = w1
  have hR : w1.heap[w.heap.size]? = some (.cells #[.slice none 0 0, .slice none 0 0] 27 (0, 0)) := by rw [← hw1]; exact heap_alloc_new w _
  have hg1 : Gr w w1 := by rw [← hw1]; exact (Gr.refl _).alloc _
  have hs1 : w1.heap.size = w.heap.size + 1 := by rw [← hw1]; simp
  obtain ⟨R, hRe⟩ : ∃ R, R = w.heap.size := ⟨_, rfl⟩
  rw [← hRe] at hR ⊢
  have hSR : S < R := by omega
  have hRw : w.heap.size ≤ R := by omega
  have hR1 : w1.heap.size = R + 1 := by omega
  have hRw0 : w0.heap.size ≤ R := by omega
  have HR := Lib.hid hR
  clear hw1 hRe hR
  refine (l21Draw_any (H.out.grow hg1)).mono ?_
  rintro e w2 ⟨A1, n1, c1, A2, n2, c2, n, A3, n3, c3, bk, A4, n4, c4, ls, rfl, hown, hn3, hl3, hn4, hk3, hd2, hc2⟩
  have hR2 := rb_chg HR.out hc2 (by omega)
  have hcc2 := (hg1.chg (fun k => k = S)).trans hc2
  have hs2 := rb_lt hR2
  have hM3 : (w2.alloc (.cells #[.slice A1 n1 c1, .slice A2 n2 c2] 27)).heap[w2.heap.size]? = some (.cells #[.slice A1 n1 c1, .slice A2 n2 c2] 27 (0, 0)) := heap_alloc_new w2 _
  obtain ⟨w4, hw4⟩ : ∃ W, W = w2.alloc (.cells #[.slice A1 n1 c1, .slice A2 n2 c2] 27) := ⟨_, rfl⟩
  have hg3 : Gr w2 w4 := by rw [hw4]; exact (Gr.refl _).alloc _
  obtain ⟨M, hM⟩ : ∃ M, M = w2.heap.size := ⟨_, rfl⟩
  rw [← hM, ← hw4] at hM3
  have hMR : R < M := by omega
  have hO3 : OwnNet w4 (R + 1) A1 n1 c1 A2 n2 c2 n := by rw [← hR1]; exact hown.gr hg3
  have hl4 : w4.ownsRow (R + 1) 61 8 (.slice A3 n3 c3) n3 (bk.flatMap (fun z : {y : GCon // DrB y} => z.1.cells)) := by rw [← hR1]; exact own_gr hl3 hg3
  have hk4 : w4.ownsRow (R + 1) 120 4 (.slice A4 n4 c4) n4 (ls.flatMap GNom.cells) := by rw [← hR1]; exact own_gr hk3 hg3
  have hN3 : NetM w0 w w4 S R M A1 n1 c1 A2 n2 c2 := ⟨n, hM3, hO3, hd2.grow hg3, hcc2.trans (hg3.chg _), (hg3.below.block R hs2).trans hR2⟩
  have hM4 := rb_lt hM3
  have hS4 : S < w4.heap.size := by omega
  have Hw4 := Lib.hid hw4
  have HMe := Lib.hid hM
  have HN := Lib.hid hN3
  have HL := Lib.hid hl4
  have HK := Lib.hid hk4
  have HMb := Lib.hid hM3
  have HD4 := Lib.hid (hd2.grow hg3)
  have hMS : M ≠ S := by omega
  clear hw4 hM hM3 HR hc2 hown hd2 hR2 hcc2 hs2 hO3 hN3 hl3 hl4 hk3 hk4
  by_cases hn0 : n4 = 0
  · subst hn0
    go_upto_region 2 with fail
    rw [← Hw4.out, ← HMe.out]
    have QD := HD4
    have QC : Hid (Chg (fun k => k = S) w4 w4) := Lib.hid ((Gr.refl w4).chg _)
    go_upto_region 5 with fail
    have hM5 := rb_chg HMb.out (QC.out.trans ((Gr.refl w4).drew.chg _)) hMS
    have m0 : w4.drew.cell? ⟨M, 0, none⟩ = some (.slice A1 n1 c1) := rb_cell (j := 0) hM5 rfl
    have m1 : w4.drew.cell? ⟨M, 1, none⟩ = some (.slice A2 n2 c2) := rb_cell (j := 1) hM5 rfl
    clear hM5
    have QE := Lib.hid (QD.out.grow (Gr.refl _).drew)
    have QF : Hid (Chg (fun k => k = S) w4 w4.drew) := Lib.hid (QC.out.trans ((Gr.refl _).drew.chg _))
    have nq : M ≠ R := by omega
    go_wp2_with fail
    go_region_held3 (fun w' => w'.cell? ⟨M, 0, none⟩ = some (.slice A1 n1 c1) ∧ w'.cell? ⟨M, 1, none⟩ = some (.slice A2 n2 c2))
      (first
        | with_reducible exact ⟨m0, m1⟩
        | with_reducible exact ⟨by with_reducible assumption, by with_reducible assumption⟩
        | with_reducible exact ⟨put_far (put_far (by with_reducible assumption) (Or.inl nq)) (Or.inl nq), put_far (put_far (by with_reducible assumption) (Or.inl nq)) (Or.inl nq)⟩
        | go_keep)
      (first
        | (go_at_call 96; with_reducible refine (l02DrawIndex_any (n3 : Int) QE.out (by omega)).mono ?_; rintro e w6 ⟨ix, rfl, _, hd6, hc6⟩; have m2 : w6.cell? ⟨M, 0, none⟩ = some (.slice A1 n1 c1) := chg_cell' hc6 (by with_reducible assumption) hMS; have m3 : w6.cell? ⟨M, 1, none⟩ = some (.slice A2 n2 c2) := chg_cell' hc6 (by with_reducible assumption) hMS; have QG := Lib.hid hd6; have QH := Lib.hid (QF.out.trans hc6); clear hd6 hc6)
        | (go_at_call 97; with_reducible refine (l20DrawHour_any QG.out).mono ?_; rintro e w7 ⟨hr, rfl, hd7, hc7⟩; have m4 : w7.cell? ⟨M, 0, none⟩ = some (.slice A1 n1 c1) := chg_cell' hc7 (by with_reducible assumption) hMS; have m5 : w7.cell? ⟨M, 1, none⟩ = some (.slice A2 n2 c2) := chg_cell' hc7 (by with_reducible assumption) hMS; have QI := Lib.hid hd7; have QJ := Lib.hid (QH.out.trans hc7); obtain ⟨⟨hMz, hRz⟩, h1, ⟨n', h2⟩, h3, h4, h5, h6⟩ := ask_end HN.out HL.out HK.out QI.out QJ.out hRw hRw0 hSR hMR; have H1 := Lib.hid h1; have H2 := Lib.hid h2; have H3 := Lib.hid h3; have H4 := Lib.hid h4; have H5 := Lib.hid h5; have H6 := Lib.hid h6; have r0 := rb_cell (j := 0) hRz rfl; have r1 := rb_cell (j := 1) hRz rfl; have f0 := rb_frozen hRz 0; have f1 := rb_frozen hRz 1; clear hd7 hc7 h1 h2 h3 h4 h5 h6 hMz hRz))
    all_goals
      go_wp2_with fail
      (try simp only [Exit.inBlock, Exit.then])
      refine bodyPost_ret (results_row_tmp4 Try.results66 _ _ R 27 #[.slice A1 n1 c1, .slice A2 n2 c2] (0, 0) _ ?_ H1.out Try.underlying27 rfl (by kernel_rfl)) ?_ ?_
      · rfl
      · rfl
      exact ⟨_, _, _, _, _, _, n', _, _, _, bk, _, _, _, ls, _, _, rfl, H2.out, by omega, H3.out, by omega, H4.out, H5.out, H6.out⟩
  have tn0 : decide ((0 : Int) < (n4 : Int)) = true := by simp; omega
  go_upto_region 2 with fail
  rw [← Hw4.out, ← HMe.out]
  go_wp2_with fail
  refine (l01Next_any 3 HD4.out (by omega)).mono ?_
  rintro e w5 ⟨t, rfl, ht, hd5, hc5⟩
  have QD := Lib.hid hd5
  have QC := Lib.hid hc5
  clear hd5 hc5
  by_cases ht0 : 0 < t
  case neg =>
    have tt : decide (0 < t) = false := decide_eq_false ht0
    clear ht
    go_upto_region 5 with fail
    have hM5 := rb_chg HMb.out (QC.out.trans ((Gr.refl w5).drew.chg _)) hMS
    have m0 : w5.drew.cell? ⟨M, 0, none⟩ = some (.slice A1 n1 c1) := rb_cell (j := 0) hM5 rfl
    have m1 : w5.drew.cell? ⟨M, 1, none⟩ = some (.slice A2 n2 c2) := rb_cell (j := 1) hM5 rfl
    clear hM5
    have QE := Lib.hid (QD.out.grow (Gr.refl _).drew)
    have QF : Hid (Chg (fun k => k = S) w4 w5.drew) := Lib.hid (QC.out.trans ((Gr.refl _).drew.chg _))
    have nq : M ≠ R := by omega
    go_wp2_with fail
    go_region_held3 (fun w' => w'.cell? ⟨M, 0, none⟩ = some (.slice A1 n1 c1) ∧ w'.cell? ⟨M, 1, none⟩ = some (.slice A2 n2 c2))
      (first
        | with_reducible exact ⟨m0, m1⟩
        | with_reducible exact ⟨by with_reducible assumption, by with_reducible assumption⟩
        | with_reducible exact ⟨put_far (put_far (by with_reducible assumption) (Or.inl nq)) (Or.inl nq), put_far (put_far (by with_reducible assumption) (Or.inl nq)) (Or.inl nq)⟩
        | go_keep)
      (first
        | (go_at_call 96; with_reducible refine (l02DrawIndex_any (n3 : Int) QE.out (by omega)).mono ?_; rintro e w6 ⟨ix, rfl, _, hd6, hc6⟩; have m2 : w6.cell? ⟨M, 0, none⟩ = some (.slice A1 n1 c1) := chg_cell' hc6 (by with_reducible assumption) hMS; have m3 : w6.cell? ⟨M, 1, none⟩ = some (.slice A2 n2 c2) := chg_cell' hc6 (by with_reducible assumption) hMS; have QG := Lib.hid hd6; have QH := Lib.hid (QF.out.trans hc6); clear hd6 hc6)
        | (go_at_call 97; with_reducible refine (l20DrawHour_any QG.out).mono ?_; rintro e w7 ⟨hr, rfl, hd7, hc7⟩; have m4 : w7.cell? ⟨M, 0, none⟩ = some (.slice A1 n1 c1) := chg_cell' hc7 (by with_reducible assumption) hMS; have m5 : w7.cell? ⟨M, 1, none⟩ = some (.slice A2 n2 c2) := chg_cell' hc7 (by with_reducible assumption) hMS; have QI := Lib.hid hd7; have QJ := Lib.hid (QH.out.trans hc7); obtain ⟨⟨hMz, hRz⟩, h1, ⟨n', h2⟩, h3, h4, h5, h6⟩ := ask_end HN.out HL.out HK.out QI.out QJ.out hRw hRw0 hSR hMR; have H1 := Lib.hid h1; have H2 := Lib.hid h2; have H3 := Lib.hid h3; have H4 := Lib.hid h4; have H5 := Lib.hid h5; have H6 := Lib.hid h6; have r0 := rb_cell (j := 0) hRz rfl; have r1 := rb_cell (j := 1) hRz rfl; have f0 := rb_frozen hRz 0; have f1 := rb_frozen hRz 1; clear hd7 hc7 h1 h2 h3 h4 h5 h6 hMz hRz))
    all_goals
      go_wp2_with fail
      (try simp only [Exit.inBlock, Exit.then])
      refine bodyPost_ret (results_row_tmp4 Try.results66 _ _ R 27 #[.slice A1 n1 c1, .slice A2 n2 c2] (0, 0) _ ?_ H1.out Try.underlying27 rfl (by kernel_rfl)) ?_ ?_
      · rfl
      · rfl
      exact ⟨_, _, _, _, _, _, n', _, _, _, bk, _, _, _, ls, _, _, rfl, H2.out, by omega, H3.out, by omega, H4.out, H5.out, H6.out⟩
  have tt : decide (0 < t) = true := decide_eq_true ht0
  clear ht
  go_wp2_with fail
  refine (l01Next_any (n4 : Int) QD.out (by omega)).mono ?_
  rintro e w6 ⟨k, rfl, hk, hd6, hc6⟩
  obtain ⟨k0, k1⟩ := hk.below (by omega)
  have hk6 := own_chg HK.out (QC.out.trans hc6) (fun j hj e => by have := own_low HK.out hj; omega)
  have hll := own_len hk6 GNom.cells_len (by omega)
  obtain ⟨b, rfl, _, _⟩ := own_form hk6 (by omega)
  obtain ⟨x, hx⟩ : ∃ x, ls[k.toNat]? = some x := ⟨_, List.getElem?_eq_getElem (by omega)⟩
  obtain ⟨e0, e1, e2, e3, _⟩ := own_nom hk6 hx
  have QE := Lib.hid hd6
  have QF := Lib.hid (QC.out.trans hc6)
  clear hk hd6 hc6 hk6 hll hx
  go_upto_region 4 with fail
  obtain ⟨w7, hw7⟩ : ∃ W, W = w6.alloc (.cells #[.int .i64 x.contract, .int .i64 x.hour, .int .i64 x.sent, .int .i64 x.amount] 120) := ⟨_, rfl⟩
  obtain ⟨X, hX⟩ : ∃ X, X = w6.heap.size := ⟨_, rfl⟩
  rw [← hw7, ← hX]
  have hg7 : Gr w6 w7 := by rw [hw7]; exact (Gr.refl _).alloc _
  have hXb : w7.heap[X]? = some (.cells #[.int .i64 x.contract, .int .i64 x.hour, .int .i64 x.sent, .int .i64 x.amount] 120 (0, 0)) := by rw [hw7, hX]; exact heap_alloc_new w6 _
  have QG := Lib.hid (QE.out.grow (hg7.trans (Gr.refl _).drew))
  have QH := Lib.hid (QF.out.trans ((hg7.trans (Gr.refl _).drew).chg _))
  have hM7 := rb_chg HMb.out QH.out hMS
  have hMX : M < X := by rw [hX]; exact rb_lt (rb_chg HMb.out QF.out hMS)
  have m0 : w7.drew.cell? ⟨M, 0, none⟩ = some (.slice A1 n1 c1) := rb_cell (j := 0) hM7 rfl
  have m1 : w7.drew.cell? ⟨M, 1, none⟩ = some (.slice A2 n2 c2) := rb_cell (j := 1) hM7 rfl
  have x0 : w7.drew.cell? ⟨X, 0, none⟩ = some (.int .i64 x.contract) := ((Gr.refl _).drew).has (rb_cell (j := 0) hXb rfl)
  have x1 : w7.drew.cell? ⟨X, 1, none⟩ = some (.int .i64 x.hour) := ((Gr.refl _).drew).has (rb_cell (j := 1) hXb rfl)
  have nq : M ≠ R := by omega
  have nx : X ≠ R := by omega
  obtain ⟨⟨hMz, hRz⟩, h1, ⟨n', h2⟩, h3, h4, h5, h6⟩ := ask_end HN.out HL.out HK.out QG.out QH.out hRw hRw0 hSR hMR
  have H1 := Lib.hid h1
  have H2 := Lib.hid h2
  have H3 := Lib.hid h3
  have H4 := Lib.hid h4
  have H5 := Lib.hid h5
  have H6 := Lib.hid h6
  have r0 := rb_cell (j := 0) hRz rfl
  have r1 := rb_cell (j := 1) hRz rfl
  have f0 := rb_frozen hRz 0
  have f1 := rb_frozen hRz 1
  have hRz' : w7.heap[R]? = some (.cells #[.slice none 0 0, .slice none 0 0] 27 (0, 0)) := hRz
  have s0 : w7.cell? ⟨R, 0, none⟩ = some (.slice none 0 0) := rb_cell (j := 0) hRz' rfl
  have s1 : w7.cell? ⟨R, 1, none⟩ = some (.slice none 0 0) := rb_cell (j := 1) hRz' rfl
  have t0 := rb_frozen hRz' 0
  have t1 := rb_frozen hRz' 1
  have y0 : w7.cell? ⟨X, 0, none⟩ = some (.int .i64 x.contract) := rb_cell (j := 0) hXb rfl
  have y1 : w7.cell? ⟨X, 1, none⟩ = some (.int .i64 x.hour) := rb_cell (j := 1) hXb rfl
  clear hRz' hw7 hX hg7 hXb hM7 h1 h2 h3 h4 h5 h6 hMz hRz e0 e1 e2 e3
  go_wp2_with fail
  have xr0 : ((w7.drew.setCell ⟨R, 0, none⟩ (.slice A1 n1 c1)).setCell ⟨R, 1, none⟩ (.slice A2 n2 c2)).cell? ⟨X, 0, none⟩ = some (.int .i64 x.contract) := put_far (put_far x0 (Or.inl nx)) (Or.inl nx)
  have xr1 : ((w7.drew.setCell ⟨R, 0, none⟩ (.slice A1 n1 c1)).setCell ⟨R, 1, none⟩ (.slice A2 n2 c2)).cell? ⟨X, 1, none⟩ = some (.int .i64 x.hour) := put_far (put_far x1 (Or.inl nx)) (Or.inl nx)
  go_region
  all_goals
    go_wp2_with fail
    (try simp only [Exit.inBlock, Exit.then])
    refine bodyPost_ret (results_row_tmp4 Try.results66 _ _ R 27 #[.slice A1 n1 c1, .slice A2 n2 c2] (0, 0) _ ?_ H1.out Try.underlying27 rfl (by kernel_rfl)) ?_ ?_
    · rfl
    · rfl
    exact ⟨_, _, _, _, _, _, n', _, _, _, bk, _, _, _, ls, _, _, rfl, H2.out, by omega, H3.out, by omega, H4.out, H5.out, H6.out⟩
end Go.Proofs.Ytelhmfgfjlpkaaa
