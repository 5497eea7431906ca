import Derived.Test.YthhmhigddmimjaaGreatPtF
import Derived.Deep.RegionHeld3
/-
  Open networks (both sides). Printed by gen_pt20.py.
-/
set_option linter.unusedSimpArgs false
set_option linter.unusedVariables false
namespace Go.Proofs.YthhmhigddmimjaaGreat
open Go.ChangeShapes Go.WideShapes Go.ChangeAt Go.RowKit

theorem put_one {W : World} {R : Nat} {t : TypeId} {fr : Nat × Nat} {u v b : Value} (h : W.heap[R]? = some (.cells #[u, v] t fr)) : (W.setCell ⟨R, 1, none⟩ b).heap[R]? = some (.cells #[u, b] t fr) := by simp [World.setCell, Array.getElem?_modify, h]
/-- A row stays where another of another type grows. -/
theorem own_beside {w w' : World} {base n c n' c' s s' : Nat} {A A' : Option Addr} {e e' : TypeId} {xs ys : List Value} (ho : w.ownsRow base e s (.slice A n c) n xs) (hp : w.ownsRow base e' s' (.slice A' n' c') n' ys) (hne : e ≠ e') (hg : w.grownBy w' (Value.slice A' n' c').ownBlock) : w'.ownsRow base e s (.slice A n c) n xs :=
  own_chg (S := fun k => (Value.slice A' n' c').ownBlock = some k) ho (chg_of_grown hg (fun k e => e)) (fun j hj e => by
    have h1 := own_blk_at ho hj
    have h2 := own_blk_at hp e
    subst h1
    subst h2
    exact own_types' ho hp hne)
theorem opPs_flat {n : GNet} {ss : List Int} {k : Nat} {x : GPipe} (h : ss.getD k 0 ≠ 0) (hx : n.pipes[k]? = some x) : (opPs n ss (k + 1)).flatMap GPipe.cells = (opPs n ss k).flatMap GPipe.cells ++ [.int .i64 x.src, .int .i64 x.dst, .int .i64 x.k, .int .i64 x.vol, .int .i64 x.lim] := by
  rw [opPs_yes h hx, List.flatMap_append]; rfl
set_option maxHeartbeats 6400000 in
set_option maxRecDepth 100000 in
theorem openNetwork_any {A1 A2 A3 : Option Addr} {n1 c1 n2 c2 c3 : Nat} (n : GNet) (ss : List Int) (w : World) (hA : NetAt w A1 n1 c1 A2 n2 c2 n) (hS : SlAt w 1 A3 n2 c3 (ints ss)) (hok : netOk n = true) :
    Calls Tryz.prog 60 #[.agg #[.slice A1 n1 c1, .slice A2 n2 c2], .slice A3 n2 c3] w fun e w' => ∃ B1 d1 B2 m d2 A c, e = .returned (.tuple #[.agg #[.slice B1 n1 d1, .slice B2 m d2], .slice A m c]) ∧ NetAt w' B1 n1 d1 B2 m d2 (opNet n ss) ∧ SlAt w' 1 A m c (nats (opIx ss n2)) ∧ Gr w w' := by
  obtain ⟨i0, hi0, hz0, hz1, hz2⟩ := info_parts infoInt64
  obtain ⟨i5, hi5, h50, h51, h52⟩ := info_parts infoPipe
  obtain ⟨i3, hi3, h30, h31, h32⟩ := info_parts infoNode
  have hm1 := hA.m1
  have hm2 := hA.m2
  have hl2 := hA.l2
  have h40 : n2 ≤ 40 := by have := (netOk_all hok).1.2.2; rw [hA.l2] at this; exact this
  have h01 : 0 < n1 := by have := (netOk_all hok).1.1; rw [hA.l1] at this; exact this
  have hlen := hS.sl.ilen
  have HA := Lib.hid hA
  have HS := Lib.hid hS
  have Hl2 := Lib.hid hl2
  have Hlen := Lib.hid hlen
  clear hA hS hl2 hlen hok
  go_enter Tryz.func60, Tryz.ntmps60
  go_upto_region 1 with fail
  obtain ⟨w1, hw1⟩ : ∃ W, W = (w.alloc (.cells #[.slice A1 n1 c1, .slice A2 n2 c2] 32)).alloc (.cells #[.slice none 0 0, .slice none 0 0] 32) := ⟨_, rfl⟩
  have hg1 : Gr w w1 := by rw [hw1]; exact ((Gr.refl _).alloc _).alloc _
  have y0 : w1.cell? ⟨w.heap.size, 0, none⟩ = some (.slice A1 n1 c1) := by rw [hw1]; simp [go_sem]
  have y1 : w1.cell? ⟨w.heap.size, 1, none⟩ = some (.slice A2 n2 c2) := by rw [hw1]; simp [go_sem]
  obtain ⟨R, hRe⟩ : ∃ R, R = w.heap.size + 1 := ⟨_, rfl⟩
  have hR : w1.heap[R]? = some (.cells #[.slice none 0 0, .slice none 0 0] 32 (0, 0)) := by
    have e : R = (w.alloc (.cells #[.slice A1 n1 c1, .slice A2 n2 c2] 32)).heap.size := by simp [hRe]
    rw [hw1, e]; exact heap_alloc_new _ _
  have hRb : w.heap.size ≤ R := by omega
  have HRs := rb_lt hR
  rw [← hw1, ← hRe]
  have HR := Lib.hid hR
  clear hw1 hR hRe
  go_wp2_with fail
  refine (cloneNode_any (n.nodes.flatMap GNode.cells) _ hm1 (HA.out.gr hg1).nodes (flat_one GNode.one n.nodes)).mono ?_
  rintro e w2 ⟨B1, d1, rfl, hB1, hg2⟩
  have HB1 := Lib.hid hB1
  have hgw2 := hg1.trans hg2
  replace y1 := hg2.has y1
  clear hB1
  go_upto_region 2 with fail
  obtain ⟨w3, hw3⟩ : ∃ W, W = w2.alloc (.cells #[.slice B1 n1 d1, .slice none 0 0] 32) := ⟨_, rfl⟩
  obtain ⟨Q, hQe⟩ : ∃ Q, Q = w2.heap.size := ⟨_, rfl⟩
  have hQ : w3.heap[Q]? = some (.cells #[.slice B1 n1 d1, .slice none 0 0] 32 (0, 0)) := by rw [hw3, hQe]; exact heap_alloc_new _ _
  have hg23 : Gr w2 w3 := by rw [hw3]; exact (Gr.refl _).alloc _
  have hQ3 := rb_lt hQ
  have hQ2 : w2.heap.size ≤ Q := by omega
  have hs3 : w3.heap.size = Q + 1 := by rw [hw3, hQe]; simp
  rw [← hw3, ← hQe]
  have HQ := Lib.hid hQ
  replace y1 := hg23.has y1
  clear hw3 hQe hQ y0
  go_wp2_with fail
  go_loopw [7, 17] (fun px i wr => ∃ k : Nat, k ≤ n2 ∧ i = .int .i64 k ∧ ∃ A c P d, px = .slice A (opIx ss k).length c ∧ wr.ownsRow w3.heap.size 2 1 (.slice A (opIx ss k).length c) (opIx ss k).length (nats (opIx ss k)) ∧ wr.heap[Q]? = some (.cells #[.slice B1 n1 d1, .slice P (opIx ss k).length d] 32 (0, 0)) ∧ wr.ownsRow w3.heap.size 95 5 (.slice P (opIx ss k).length d) (opIx ss k).length ((opPs n ss k).flatMap GPipe.cells) ∧ Gr w2 wr) (fun _ i _ => n2 - (intOf i).toNat)
  case atStart => exact ⟨0, Nat.zero_le _, rfl, none, 0, none, 0, rfl, World.ownsRow_nil _ _ _ _, HQ.out, World.ownsRow_nil _ _ _ _, hg23⟩
  case round =>
    obtain ⟨k, hk, rfl, A, c, P, d, rfl, hX, hQ, hP, hgr⟩ := hrel
    have hul := opIx_len ss k
    obtain ⟨u, hu⟩ : ∃ u, u = (opIx ss k).length := ⟨_, rfl⟩
    rw [← hu] at hX hQ hP hul ⊢
    have hgw := hgw2.trans hgr
    have HX := Lib.hid hX
    have HP := Lib.hid hP
    replace HQ := Lib.hid hQ
    have Hu := Lib.hid hu
    have hQr := rb_lt hQ
    clear hX hP hQ hu y1
    by_cases hlt : k < n2
    · obtain ⟨p, hp⟩ : ∃ p, n.pipes[k]? = some p := ⟨_, List.getElem?_eq_getElem (by have := Hl2.out; omega)⟩
      obtain ⟨z, hz⟩ : ∃ z, ss[k]? = some z := ⟨_, List.getElem?_eq_getElem (by have := Hlen.out; omega)⟩
      have hze : ss.getD k 0 = z := by rw [List.getD_eq_getElem?_getD, hz]; rfl
      obtain ⟨b, o, hAA, hb, e0, e1, e2, e3, e4⟩ := (HA.out.gr hgw).pipes.pp hp
      subst hAA
      obtain ⟨b', o', hAB, hb', x0⟩ := (HS.out.gr hgw).sl.int hz
      subst hAB
      have t1 : (k : Int) < (n2 : Int) := by omega
      have t0 : (0 : Int) ≤ (k : Int) := by omega
      have Hp := Lib.hid hp
      have Hze := Lib.hid hze
      rename World => wr
      clear hp hz hze
      go_upto_region 6 with fail
      obtain ⟨w4, hw4⟩ : ∃ W, W = wr.alloc (.cells #[.int .i64 p.src, .int .i64 p.dst, .int .i64 p.k, .int .i64 p.vol, .int .i64 p.lim] 95) := ⟨_, rfl⟩
      have hg4 : Gr wr w4 := by rw [hw4]; exact (Gr.refl _).alloc _
      have s0 : w4.cell? ⟨wr.heap.size, 0, none⟩ = some (.int .i64 p.src) := by rw [hw4]; simp [go_sem]
      have s1 : w4.cell? ⟨wr.heap.size, 1, none⟩ = some (.int .i64 p.dst) := by rw [hw4]; simp [go_sem]
      have s2 : w4.cell? ⟨wr.heap.size, 2, none⟩ = some (.int .i64 p.k) := by rw [hw4]; simp [go_sem]
      have s3 : w4.cell? ⟨wr.heap.size, 3, none⟩ = some (.int .i64 p.vol) := by rw [hw4]; simp [go_sem]
      have s4 : w4.cell? ⟨wr.heap.size, 4, none⟩ = some (.int .i64 p.lim) := by rw [hw4]; simp [go_sem]
      replace x0 := hg4.has x0
      have hgr4 := hgr.trans hg4
      have hs4 := hg4.size
      have HX4 := Lib.hid (own_gr HX.out hg4)
      have HP4 := Lib.hid (own_gr HP.out hg4)
      have hQ4 := (hg4.below.block _ hQr).trans HQ.out
      have HQ4 := Lib.hid hQ4
      rw [← hw4]
      clear hw4 e0 e1 e2 e3 e4 HX HP HQ
      by_cases hz0' : z = 0
      · subst hz0'
        have Hix := Lib.hid (opIx_no Hze.out)
        have Hps := Lib.hid (opPs_no (n := n) Hze.out)
        clear s0 s1 s2 s3 s4 hQ4
        go_wp2_with fail
        go_roundw
        case rel => exact ⟨k + 1, by omega, by go_num, A, c, P, d, by rw [Hix.out, Hu.out], by rw [Hix.out, ← Hu.out]; exact HX4.out, by rw [Hix.out, ← Hu.out]; exact HQ4.out, by rw [Hix.out, ← Hu.out, Hps.out]; exact HP4.out, hgr4⟩
        case measure => simp [intOf]; omega
      have tz : (z != 0) = true := by simp [hz0']
      have Hix := Lib.hid (opIx_yes (ss := ss) (k := k) (by rw [Hze.out]; exact hz0'))
      have Hps := Lib.hid (opPs_flat (n := n) (ss := ss) (k := k) (by rw [Hze.out]; exact hz0') Hp.out)
      have q1 := rb_cell (j := 1) hQ4 rfl
      have hQ4s := rb_lt hQ4
      clear hQ4
      go_upto_region 8 with (at_builtin; (refine wpList_append_own _ rfl _ _ _ rfl w3.heap.size 95 i5 _ 5 40 Tryz.underlying30 hi5 h50 h51 h52 rfl (by omega) _ u _ rfl (HP4.out.alloc _) ⟨w4.heap.size, 0, none⟩ 1 1 [.int .i64 p.src, .int .i64 p.dst, .int .i64 p.k, .int .i64 p.vol, .int .i64 p.lim] rfl rfl (World.news_of_block (cs := #[.int .i64 p.src, .int .i64 p.dst, .int .i64 p.k, .int .i64 p.vol, .int .i64 p.lim]) (t := 95) (fr := (0, 0)) (heap_alloc_new w4 _)) (by simp [Value.oneCell']) (by unfold maxLen; omega) (by omega) (by simp; omega) ?_; intro v' w9 hown9 hg9 _; obtain ⟨A9, c9, rfl⟩ := own_shape hown9; have HP9 := Lib.hid hown9; have Hg9 := Lib.hid hg9; have hQ9 := rb_chg (((((Gr.refl w4).alloc _).below.block Q hQ4s)).trans HQ4.out) (chg_of_grown hg9 (S := fun j => (Value.slice P u d).ownBlock = some j) (fun j e => e)) (fun e => by have := own_low HP4.out e; omega); have q9 := rb_cell (j := 1) hQ9 rfl; have r9 := rb_frozen hQ9 1; have HQ9 := Lib.hid hQ9; clear hown9 hg9 hQ9))
      have HX9 := Lib.hid (own_beside (own_gr HX4.out ((Gr.refl _).alloc _)) (HP4.out.alloc _) (by decide) Hg9.out)
      have hgr9 : Gr w2 w9 := (hgr4.alloc _).grown Hg9.out (fun j hj => by have := own_low HP4.out hj; omega)
      obtain ⟨w10, hw10⟩ : ∃ W, W = w9.setCell ⟨Q, 1, none⟩ (.slice A9 (u + 1) c9) := ⟨_, rfl⟩
      have hc10 : Chg (fun j => j = Q) w9 w10 := by rw [hw10]; exact chg_put _ _
      have hQ10 : w10.heap[Q]? = some (.cells #[.slice B1 n1 d1, .slice A9 (u + 1) c9] 32 (0, 0)) := by rw [hw10]; exact put_one HQ9.out
      have hgr10 : Gr w2 w10 := by rw [hw10]; exact hgr9.setCell (by simpa using hQ2) _
      have HP10 := Lib.hid (own_chg HP9.out hc10 (fun j hj e => by have := own_low HP9.out hj; omega))
      have HX10 := Lib.hid (own_chg HX9.out hc10 (fun j hj e => by have := own_low HX9.out hj; omega))
      have HQ10 := Lib.hid hQ10
      have hQ10s := rb_lt hQ10
      have hs10 := hgr10.size
      rw [← hw10]
      clear hw10 hQ10 q1 q9 r9 HP9 HX9 HX4 HP4 HQ4
      go_wp2_with (at_builtin; (refine wpList_append_own _ rfl _ _ _ rfl w3.heap.size 2 i0 _ 1 8 Tryz.underlying26 hi0 hz0 hz1 hz2 rfl (by omega) _ u _ rfl (HX10.out.alloc _) ⟨w10.heap.size, 0, none⟩ 1 1 [.int .i64 (k : Int)] rfl rfl (World.news_of_block (cs := #[.int .i64 (k : Int)]) (t := 2) (fr := (0, 0)) (heap_alloc_new w10 _)) (by simp [Value.oneCell']) (by unfold maxLen; omega) (by omega) (by simp; omega) ?_; intro v' w12 hown12 hg12 _))
      obtain ⟨A12, c12, rfl⟩ := own_shape hown12
      have HX12 := Lib.hid (own_cells_eq hown12 (nats_snoc _ k).symm)
      have HP12 := Lib.hid (own_beside (own_gr HP10.out ((Gr.refl _).alloc _)) (HX10.out.alloc _) (by decide) hg12)
      have HQ12 := Lib.hid (rb_chg (((((Gr.refl w10).alloc _).below.block Q hQ10s)).trans HQ10.out) (chg_of_grown hg12 (S := fun j => (Value.slice A u c).ownBlock = some j) (fun j e => e)) (fun e => by have := own_low HX10.out e; omega))
      have hgr12 : Gr w2 w12 := (hgr10.alloc _).grown hg12 (fun j hj => by have := own_low HX10.out hj; omega)
      have Hl : Hid ((opIx ss (k + 1)).length = u + 1) := Lib.hid (by rw [Hix.out, List.length_append, ← Hu.out]; rfl)
      clear hown12 hg12
      go_wp2_with fail
      go_roundw
      case rel => exact ⟨k + 1, by omega, by go_num, A12, c12, A9, c9, by rw [Hl.out], by rw [Hl.out, Hix.out]; exact HX12.out, by rw [Hl.out]; exact HQ12.out, by rw [Hl.out, Hps.out]; exact HP12.out, hgr12⟩
      case measure => simp [intOf]; omega
    · obtain rfl : k = n2 := by omega
      rename World => wr
      have q0 := rb_cell (j := 0) HQ.out rfl
      have q1 := rb_cell (j := 1) HQ.out rfl
      have hgr1 := hg2.trans hgr
      have HB1r := Lib.hid (own_gr HB1.out hgr)
      have hRw := (hgr1.below.block _ HRs).trans HR.out
      have r0 := rb_cell (j := 0) hRw rfl
      have r1 := rb_cell (j := 1) hRw rfl
      have f0 := rb_frozen hRw 0
      have f1 := rb_frozen hRw 1
      obtain ⟨W9, hW9⟩ : ∃ W, W = (wr.setCell ⟨R, 0, none⟩ (.slice B1 n1 d1)).setCell ⟨R, 1, none⟩ (.slice P u d) := ⟨_, rfl⟩
      have hP : W9.heap[R]? = some (.cells #[.slice B1 n1 d1, .slice P u d] 32 (0, 0)) := by rw [hW9]; exact put_two hRw
      have hcc : Chg (fun j => j = R) wr W9 := by rw [hW9]; exact (chg_put _ _).trans (chg_put _ _)
      have hgx : Gr w W9 := by rw [hW9]; exact (hgw.setCell (p := ⟨R, 0, none⟩) hRb _).setCell (p := ⟨R, 1, none⟩) hRb _
      have HPP := Lib.hid hP
      have HW9 := Lib.hid hW9
      clear hW9 hP hRw
      go_wp2_with fail
      rw [← HW9.out]
      (try simp only [Exit.inBlock, Exit.then])
      refine bodyPost_ret (results_row_tmp Tryz.results60 _ _ R 32 #[.slice B1 n1 d1, .slice P u d] (0, 0) _ ?_ HPP.out Tryz.underlying32 rfl (by kernel_rfl)) ?_ ?_
      · rfl
      · rfl
      have o1 := own_chg HB1r.out hcc (fun j hj e => by have := own_low HB1r.out hj; omega)
      have o2 := own_chg HP.out hcc (fun j hj e => by have := own_low HP.out hj; have := hg2.size; have := hg23.size; omega)
      have o3 := own_chg HX.out hcc (fun j hj e => by have := own_low HX.out hj; have := hg2.size; have := hg23.size; omega)
      exact ⟨B1, d1, P, u, d, A, c, rfl, ⟨⟨Sl.of_own o1, by have h := Sl.of_own o2; rw [opNet, Hl2.out]; exact h, HA.out.names⟩, (own_cap o1).1, (own_cap o2).1, hm1, by omega⟩, SlAt.of_own o3 (by omega), hgx⟩
set_option maxHeartbeats 6400000 in
set_option maxRecDepth 100000 in
theorem l16Open_any {A1 A2 A3 : Option Addr} {n1 c1 n2 c2 c3 : Nat} (n : GNet) (ss : List Int) (w : World) (hA : NetAt w A1 n1 c1 A2 n2 c2 n) (hS : SlAt w 1 A3 n2 c3 (ints ss)) (hok : netOk n = true) :
    Calls Tryz.prog 86 #[.agg #[.slice A1 n1 c1, .slice A2 n2 c2], .slice A3 n2 c3] w fun e w' => ∃ B1 d1 B2 m d2 A c, e = .returned (.tuple #[.agg #[.slice B1 n1 d1, .slice B2 m d2], .slice A m c]) ∧ NetAt w' B1 n1 d1 B2 m d2 (opNet n ss) ∧ SlAt w' 1 A m c (nats (opIx ss n2)) ∧ Gr w w' := by
  obtain ⟨i0, hi0, hz0, hz1, hz2⟩ := info_parts infoInt64
  obtain ⟨i5, hi5, h50, h51, h52⟩ := info_parts infoPipe
  obtain ⟨i3, hi3, h30, h31, h32⟩ := info_parts infoNode
  have hm1 := hA.m1
  have hm2 := hA.m2
  have hl2 := hA.l2
  have h40 : n2 ≤ 40 := by have := (netOk_all hok).1.2.2; rw [hA.l2] at this; exact this
  have h01 : 0 < n1 := by have := (netOk_all hok).1.1; rw [hA.l1] at this; exact this
  have hlen := hS.sl.ilen
  have HA := Lib.hid hA
  have HS := Lib.hid hS
  have Hl2 := Lib.hid hl2
  have Hlen := Lib.hid hlen
  clear hA hS hl2 hlen hok
  go_enter Tryz.func86, Tryz.ntmps86
  go_upto_region 1 with fail
  obtain ⟨w1, hw1⟩ : ∃ W, W = (w.alloc (.cells #[.slice A1 n1 c1, .slice A2 n2 c2] 32)).alloc (.cells #[.slice none 0 0, .slice none 0 0] 32) := ⟨_, rfl⟩
  have hg1 : Gr w w1 := by rw [hw1]; exact ((Gr.refl _).alloc _).alloc _
  have y0 : w1.cell? ⟨w.heap.size, 0, none⟩ = some (.slice A1 n1 c1) := by rw [hw1]; simp [go_sem]
  have y1 : w1.cell? ⟨w.heap.size, 1, none⟩ = some (.slice A2 n2 c2) := by rw [hw1]; simp [go_sem]
  obtain ⟨R, hRe⟩ : ∃ R, R = w.heap.size + 1 := ⟨_, rfl⟩
  have hR : w1.heap[R]? = some (.cells #[.slice none 0 0, .slice none 0 0] 32 (0, 0)) := by
    have e : R = (w.alloc (.cells #[.slice A1 n1 c1, .slice A2 n2 c2] 32)).heap.size := by simp [hRe]
    rw [hw1, e]; exact heap_alloc_new _ _
  have hRb : w.heap.size ≤ R := by omega
  have HRs := rb_lt hR
  rw [← hw1, ← hRe]
  have HR := Lib.hid hR
  clear hw1 hR hRe
  have L1 := Lib.hid (World.ownsRow_lit w1 (base := w1.heap.size) (e := 95) (size := 5) #[] 0 (Nat.le_refl _) (by unfold maxLen; omega) rfl)
  have L2 : Hid (((w1.alloc (.cells #[] 95)).alloc (.cells #[] 2)).ownsRow w1.heap.size 2 1 (.slice (some ⟨w1.heap.size + 1, 0, none⟩) 0 0) 0 []) := Lib.hid (by
    have h := World.ownsRow_lit (w1.alloc (.cells #[] 95)) (base := w1.heap.size) (e := 2) (size := 1) #[] 0 (by simp) (by unfold maxLen; omega) rfl
    have e : (w1.alloc (.cells #[] 95)).heap.size = w1.heap.size + 1 := by simp
    rw [e] at h
    exact h)
  have Hg2 : Hid (Gr w1 ((w1.alloc (.cells #[] 95)).alloc (.cells #[] 2))) := Lib.hid (((Gr.refl _).alloc _).alloc _)
  go_wp2_with fail
  go_loopw [6, 7, 8] (fun pp px i wr => ∃ k : Nat, k ≤ n2 ∧ i = .int .i64 k ∧ ∃ A c P d, px = .slice A (opIx ss k).length c ∧ pp = .slice P (opIx ss k).length d ∧ wr.ownsRow w1.heap.size 2 1 (.slice A (opIx ss k).length c) (opIx ss k).length (nats (opIx ss k)) ∧ wr.ownsRow w1.heap.size 95 5 (.slice P (opIx ss k).length d) (opIx ss k).length ((opPs n ss k).flatMap GPipe.cells) ∧ Gr w1 wr) (fun _ _ i _ => n2 - (intOf i).toNat)
  case atStart => exact ⟨0, Nat.zero_le _, rfl, _, _, _, _, rfl, rfl, L2.out, own_gr L1.out ((Gr.refl _).alloc _), Hg2.out⟩
  case round =>
    obtain ⟨k, hk, rfl, A, c, P, d, rfl, rfl, hX, hP, hgr⟩ := hrel
    have hul := opIx_len ss k
    obtain ⟨u, hu⟩ : ∃ u, u = (opIx ss k).length := ⟨_, rfl⟩
    rw [← hu] at hX hP hul ⊢
    have hgw := hg1.trans hgr
    have hgs := hgr.size
    have HX := Lib.hid hX
    have HP := Lib.hid hP
    have Hu := Lib.hid hu
    have u0 := hgr.has y0
    have u1 := hgr.has y1
    clear hX hP hu L1 L2 Hg2
    by_cases hlt : k < n2
    · obtain ⟨p, hp⟩ : ∃ p, n.pipes[k]? = some p := ⟨_, List.getElem?_eq_getElem (by have := Hl2.out; omega)⟩
      obtain ⟨z, hz⟩ : ∃ z, ss[k]? = some z := ⟨_, List.getElem?_eq_getElem (by have := Hlen.out; omega)⟩
      have hze : ss.getD k 0 = z := by rw [List.getD_eq_getElem?_getD, hz]; rfl
      obtain ⟨b, o, hAA, hb, e0, e1, e2, e3, e4⟩ := (HA.out.gr hgw).pipes.pp hp
      subst hAA
      obtain ⟨b', o', hAB, hb', x0⟩ := (HS.out.gr hgw).sl.int hz
      subst hAB
      have t1 : (k : Int) < (n2 : Int) := by omega
      have t0 : (0 : Int) ≤ (k : Int) := by omega
      have Hp := Lib.hid hp
      have Hze := Lib.hid hze
      rename World => wr
      clear hp hz hze
      by_cases hz0' : z = 0
      · subst hz0'
        have Hix := Lib.hid (opIx_no Hze.out)
        have Hps := Lib.hid (opPs_no (n := n) Hze.out)
        clear e0 e1 e2 e3 e4
        go_wp2_with fail
        go_roundw
        case rel => exact ⟨k + 1, by omega, by go_num, A, c, P, d, by rw [Hix.out, Hu.out], by rw [Hix.out, Hu.out], by rw [Hix.out, ← Hu.out]; exact HX.out, by rw [Hix.out, ← Hu.out, Hps.out]; exact HP.out, hgr⟩
        case measure => simp [intOf]; omega
      have tz : (z != 0) = true := by simp [hz0']
      have Hix := Lib.hid (opIx_yes (ss := ss) (k := k) (by rw [Hze.out]; exact hz0'))
      have Hps := Lib.hid (opPs_flat (n := n) (ss := ss) (k := k) (by rw [Hze.out]; exact hz0') Hp.out)
      go_upto_region 7 with (at_builtin; (refine wpList_append_own _ rfl _ _ _ rfl w1.heap.size 95 i5 _ 5 40 Tryz.underlying30 hi5 h50 h51 h52 rfl (by omega) _ u _ rfl (HP.out.alloc _) ⟨wr.heap.size, 0, none⟩ 1 1 [.int .i64 p.src, .int .i64 p.dst, .int .i64 p.k, .int .i64 p.vol, .int .i64 p.lim] rfl rfl (World.news_of_block (cs := #[.int .i64 p.src, .int .i64 p.dst, .int .i64 p.k, .int .i64 p.vol, .int .i64 p.lim]) (t := 95) (fr := (0, 0)) (heap_alloc_new wr _)) (by simp [Value.oneCell']) (by unfold maxLen; omega) (by omega) (by simp; omega) ?_; intro v' w9 hown9 hg9 _))
      obtain ⟨A9, c9, rfl⟩ := own_shape hown9
      have HP9 := Lib.hid hown9
      have HX9 := Lib.hid (own_beside (own_gr HX.out ((Gr.refl _).alloc _)) (HP.out.alloc _) (by decide) hg9)
      have hgr9 : Gr w1 w9 := (hgr.alloc _).grown hg9 (fun j hj => by have := own_low HP.out hj; omega)
      have hs9 := hgr9.size
      clear hown9 hg9 e0 e1 e2 e3 e4 x0 u0 u1 HP HX
      go_wp2_with (at_builtin; (refine wpList_append_own _ rfl _ _ _ rfl w1.heap.size 2 i0 _ 1 8 Tryz.underlying26 hi0 hz0 hz1 hz2 rfl (by omega) _ u _ rfl (HX9.out.alloc _) ⟨w9.heap.size, 0, none⟩ 1 1 [.int .i64 (k : Int)] rfl rfl (World.news_of_block (cs := #[.int .i64 (k : Int)]) (t := 2) (fr := (0, 0)) (heap_alloc_new w9 _)) (by simp [Value.oneCell']) (by unfold maxLen; omega) (by omega) (by simp; omega) ?_; intro v' w12 hown12 hg12 _))
      obtain ⟨A12, c12, rfl⟩ := own_shape hown12
      have HX12 := Lib.hid (own_cells_eq hown12 (nats_snoc _ k).symm)
      have HP12 := Lib.hid (own_beside (own_gr HP9.out ((Gr.refl _).alloc _)) (HX9.out.alloc _) (by decide) hg12)
      have hgr12 : Gr w1 w12 := (hgr9.alloc _).grown hg12 (fun j hj => by have := own_low HX9.out hj; omega)
      have Hl : Hid ((opIx ss (k + 1)).length = u + 1) := Lib.hid (by rw [Hix.out, List.length_append, ← Hu.out]; rfl)
      clear hown12 hg12
      go_wp2_with fail
      go_roundw
      case rel => exact ⟨k + 1, by omega, by go_num, A12, c12, A9, c9, by rw [Hl.out], by rw [Hl.out], by rw [Hl.out, Hix.out]; exact HX12.out, by rw [Hl.out, Hps.out]; exact HP12.out, hgr12⟩
      case measure => simp [intOf]; omega
    · obtain rfl : k = n2 := by omega
      rename World => wr
      obtain ⟨bN, oN, hAA, _⟩ := HA.out.nodes.2 h01
      subst hAA
      have Hcells := Lib.hid (HA.out.gr hgw).nodes.cells
      have Hll := Lib.hid HA.out.nodes.1
      have Hone := Lib.hid (flat_one GNode.one n.nodes)
      have u0n := ((Gr.refl wr).alloc (.cells #[] 62)).has u0
      go_wp2_with (at_builtin; refine wpList_append_own _ rfl _ _ _ rfl wr.heap.size 62 i3 _ 3 32 Tryz.underlying29 hi3 h30 h31 h32 rfl (by omega) _ 0 [] rfl (World.ownsRow_lit wr #[] 0 (Nat.le_refl _) (by unfold maxLen; omega) rfl) ⟨bN, oN, none⟩ n1 c1 (n.nodes.flatMap GNode.cells) rfl Hll.out (fun j u hu => ((Gr.refl wr).alloc _).has (Hcells.out j u hu)) Hone.out (by unfold maxLen; omega) (by omega) (by simp) ?_; intro v' w9 hown hg _; obtain ⟨B1, d1, rfl⟩ := own_shape hown; have hB1 : w9.ownsRow wr.heap.size 62 3 (.slice B1 n1 d1) n1 (n.nodes.flatMap GNode.cells) := (by simpa using hown); (try rw [Nat.zero_add]); have h39 : Gr wr w9 := ((Gr.refl wr).alloc _).grown hg (fun k hk => by injection hk with hk; exact Nat.le_of_eq hk); have HB1 := Lib.hid hB1; clear hown hg hB1; have hgr9 := hgr.trans h39; have hgw9 := hgw.trans h39; have hRw := (hgr9.below.block _ HRs).trans HR.out; have r0 := rb_cell (j := 0) hRw rfl; have r1 := rb_cell (j := 1) hRw rfl; have f0 := rb_frozen hRw 0; have f1 := rb_frozen hRw 1; have HRw := Lib.hid hRw; clear hRw)
      obtain ⟨W9, hW9⟩ : ∃ W, W = (w9.setCell ⟨R, 0, none⟩ (.slice B1 n1 d1)).setCell ⟨R, 1, none⟩ (.slice P u d) := ⟨_, rfl⟩
      have hP9 : W9.heap[R]? = some (.cells #[.slice B1 n1 d1, .slice P u d] 32 (0, 0)) := by rw [hW9]; exact put_two HRw.out
      have hcc : Chg (fun j => j = R) w9 W9 := by rw [hW9]; exact (chg_put _ _).trans (chg_put _ _)
      have hgx : Gr w W9 := by rw [hW9]; exact (hgw9.setCell (p := ⟨R, 0, none⟩) hRb _).setCell (p := ⟨R, 1, none⟩) hRb _
      have HPP := Lib.hid hP9
      have HW9 := Lib.hid hW9
      clear hW9 hP9
      rw [← HW9.out]
      (try simp only [Exit.inBlock, Exit.then])
      refine bodyPost_ret (results_row_tmp Tryz.results86 _ _ R 32 #[.slice B1 n1 d1, .slice P u d] (0, 0) _ ?_ HPP.out Tryz.underlying32 rfl (by kernel_rfl)) ?_ ?_
      · rfl
      · rfl
      have o1 := own_chg HB1.out hcc (fun j hj e => by have := own_low HB1.out hj; omega)
      have o2 := own_chg (own_gr HP.out h39) hcc (fun j hj e => by have := own_low HP.out hj; omega)
      have o3 := own_chg (own_gr HX.out h39) hcc (fun j hj e => by have := own_low HX.out hj; omega)
      exact ⟨B1, d1, P, u, d, A, c, rfl, ⟨⟨Sl.of_own o1, by have h := Sl.of_own o2; rw [opNet, Hl2.out]; exact h, HA.out.names⟩, (own_cap o1).1, (own_cap o2).1, hm1, by omega⟩, SlAt.of_own o3 (by omega), hgx⟩
end Go.Proofs.YthhmhigddmimjaaGreat
/-
  Spread flows and allowed flows (both sides). Printed by gen_pt21.py.
-/
set_option linter.unusedSimpArgs false
set_option linter.unusedVariables false
namespace Go.Proofs.YthhmhigddmimjaaGreat
open Go.ChangeShapes Go.WideShapes Go.ChangeAt Go.RowKit

set_option maxHeartbeats 6400000 in
set_option maxRecDepth 100000 in
theorem spreadFlows_any {A1 A2 A3 A4 : Option Addr} {n1 c1 n2 c2 q c3 c4 : Nat} (n : GNet) (ss fl : List Int) (w : World) (hA : NetAt w A1 n1 c1 A2 n2 c2 n) (hP : SlAt w 1 A3 q c3 (nats (opIx ss n2))) (hF : SlAt w 1 A4 q c4 (ints fl)) :
    Calls Tryz.prog 79 #[.agg #[.slice A1 n1 c1, .slice A2 n2 c2], .slice A3 q c3, .slice A4 q c4] w fun e w' => ∃ F, e = .returned (.slice (some ⟨F, 0, none⟩) n2 n2) ∧ w'.ownsRow w.heap.size 2 1 (.slice (some ⟨F, 0, none⟩) n2 n2) n2 (ints (spL n ss fl)) ∧ Gr w w' := by
  obtain ⟨i0, hi0, hz0, hz1, hz2⟩ := info_parts infoInt64
  have hm2 := hA.m2
  have hl2 := hA.l2
  have hqm := hP.small
  have hpl : (opIx ss n2).length = q := by have := hP.sl.ilen; rwa [List.length_map] at this
  have hfl := hF.sl.ilen
  have HP := Lib.hid hP
  have HF := Lib.hid hF
  have Hl2 := Lib.hid hl2
  have Hpl := Lib.hid hpl
  have Hfl := Lib.hid hfl
  clear hA hP hF hl2 hpl hfl
  go_enter Tryz.func79, Tryz.ntmps79
  go_wp2_with (first
    | (at_make; refine wpList_make_full _ rfl _ _ _ rfl w.heap.size 2 i0 _ 1 Tryz.underlying26 hi0 hz0 hz1 .i64 .i64 _ _ n2 rfl rfl rfl rfl (by rw [hz2]; omega) (by unfold maxLen; omega) (by simp) ?_; intro w1 hown1 hg1; have hq1 : Gr (w.alloc (.cells #[.slice A1 n1 c1, .slice A2 n2 c2] 32)) w1 := Gr.of_grown hg1; have hgw1 : Gr w w1 := ((Gr.refl _).alloc _).trans hq1; have Ho1 := Lib.hid hown1; clear hown1)
    | fail)
  obtain ⟨F, hFe⟩ : ∃ F, F = w.heap.size + 1 := ⟨_, rfl⟩
  have o1 : w1.ownsRow w.heap.size 2 1 (.slice (some ⟨F, 0, none⟩) n2 n2) n2 (ints (spTo (opIx ss n2) fl n2 0)) := by
    rw [hFe]
    have := own_cells_eq Ho1.out (made_ints n2)
    simpa [spTo] using this
  rw [← hFe]
  have hFw : w.heap.size ≤ F := by omega
  have O1 := Lib.hid o1
  clear Ho1 hFe o1 hq1 hg1
  go_loopw [16] (fun i wr => ∃ k : Nat, k ≤ q ∧ i = .int .i64 k ∧ wr.ownsRow w.heap.size 2 1 (.slice (some ⟨F, 0, none⟩) n2 n2) n2 (ints (spTo (opIx ss n2) fl n2 k)) ∧ Gr w wr) (fun i _ => q - (intOf i).toNat)
  case atStart => exact ⟨0, Nat.zero_le _, rfl, O1.out, hgw1⟩
  case round =>
    obtain ⟨k, hk, rfl, hO, hgr⟩ := hrel
    have HO := Lib.hid hO
    clear hO O1
    by_cases hlt : k < q
    · obtain ⟨i, hi⟩ : ∃ i, (opIx ss n2)[k]? = some i := ⟨_, List.getElem?_eq_getElem (by have := Hpl.out; omega)⟩
      have hil : i < n2 := opIx_lt (List.mem_of_getElem? hi)
      obtain ⟨x, hx⟩ : ∃ x, fl[k]? = some x := ⟨_, List.getElem?_eq_getElem (by have := Hfl.out; omega)⟩
      have hie : (opIx ss n2).getD k 0 = i := by rw [List.getD_eq_getElem?_getD, hi]; rfl
      have hxe : fl.getD k 0 = x := by rw [List.getD_eq_getElem?_getD, hx]; rfl
      obtain ⟨b, o, hAA, hb, p0⟩ := (HP.out.gr hgr).sl.int (k := k) (x := (i : Int)) (by rw [List.getElem?_map, hi]; rfl)
      subst hAA
      obtain ⟨b', o', hAB, hb', x0⟩ := (HF.out.gr hgr).sl.int hx
      subst hAB
      obtain ⟨m0, m1⟩ := own_int HO.out (get_int (l := spTo (opIx ss n2) fl n2 k) (k := i) (by rw [spTo_len]; exact hil))
      have Hst : Hid (spTo (opIx ss n2) fl n2 (k + 1) = (spTo (opIx ss n2) fl n2 k).set i x) := Lib.hid (by rw [spTo, hie, hxe])
      have t1 : (k : Int) < (q : Int) := by omega
      have t0 : (0 : Int) ≤ (k : Int) := by omega
      have s1 : (i : Int) < (n2 : Int) := by omega
      have s0 : (0 : Int) ≤ (i : Int) := by omega
      obtain ⟨o2, hgS⟩ := own_set_int HO.out i x
      have Ho2 := Lib.hid o2
      rename World => wr
      have hgr2 := hgr.setCell (p := ⟨F, i, none⟩) hFw (.int .i64 x)
      clear hi hx hie hxe o2 hgS
      go_wp2_with fail
      go_roundw
      case rel => exact ⟨k + 1, by omega, by go_num, by rw [Hst.out]; exact Ho2.out, hgr2⟩
      case measure => simp [intOf]; omega
    · obtain rfl : k = q := by omega
      go_wp2_with fail
      go_ret
      exact ⟨F, rfl, by rw [spL, Hl2.out, Hpl.out]; exact HO.out, hgr⟩
set_option maxHeartbeats 6400000 in
set_option maxRecDepth 100000 in
theorem l16Spread_any {A1 A2 A3 A4 : Option Addr} {n1 c1 n2 c2 q c3 c4 : Nat} (n : GNet) (ss fl : List Int) (w : World) (hA : NetAt w A1 n1 c1 A2 n2 c2 n) (hP : SlAt w 1 A3 q c3 (nats (opIx ss n2))) (hF : SlAt w 1 A4 q c4 (ints fl)) :
    Calls Tryz.prog 88 #[.agg #[.slice A1 n1 c1, .slice A2 n2 c2], .slice A3 q c3, .slice A4 q c4] w fun e w' => ∃ F, e = .returned (.slice (some ⟨F, 0, none⟩) n2 n2) ∧ w'.ownsRow w.heap.size 2 1 (.slice (some ⟨F, 0, none⟩) n2 n2) n2 (ints (spL n ss fl)) ∧ Gr w w' := by
  obtain ⟨i0, hi0, hz0, hz1, hz2⟩ := info_parts infoInt64
  have hm2 := hA.m2
  have hl2 := hA.l2
  have hqm := hP.small
  have hpl : (opIx ss n2).length = q := by have := hP.sl.ilen; rwa [List.length_map] at this
  have hfl := hF.sl.ilen
  have HP := Lib.hid hP
  have HF := Lib.hid hF
  have Hl2 := Lib.hid hl2
  have Hpl := Lib.hid hpl
  have Hfl := Lib.hid hfl
  clear hA hP hF hl2 hpl hfl
  go_enter Tryz.func88, Tryz.ntmps88
  go_wp2_with (first
    | (at_make; refine wpList_make_full _ rfl _ _ _ rfl w.heap.size 2 i0 _ 1 Tryz.underlying26 hi0 hz0 hz1 .i64 .i64 _ _ n2 rfl rfl rfl rfl (by rw [hz2]; omega) (by unfold maxLen; omega) (by simp) ?_; intro w1 hown1 hg1; have hq1 : Gr (w.alloc (.cells #[.slice A1 n1 c1, .slice A2 n2 c2] 32)) w1 := Gr.of_grown hg1; have hgw1 : Gr w w1 := ((Gr.refl _).alloc _).trans hq1; have Ho1 := Lib.hid hown1; clear hown1)
    | fail)
  obtain ⟨F, hFe⟩ : ∃ F, F = w.heap.size + 1 := ⟨_, rfl⟩
  have o1 : w1.ownsRow w.heap.size 2 1 (.slice (some ⟨F, 0, none⟩) n2 n2) n2 (ints (spTo (opIx ss n2) fl n2 0)) := by
    rw [hFe]
    have := own_cells_eq Ho1.out (made_ints n2)
    simpa [spTo] using this
  rw [← hFe]
  have hFw : w.heap.size ≤ F := by omega
  have O1 := Lib.hid o1
  clear Ho1 hFe o1 hq1 hg1
  go_loopw [8] (fun i wr => ∃ k : Nat, k ≤ q ∧ i = .int .i64 k ∧ wr.ownsRow w.heap.size 2 1 (.slice (some ⟨F, 0, none⟩) n2 n2) n2 (ints (spTo (opIx ss n2) fl n2 k)) ∧ Gr w wr) (fun i _ => q - (intOf i).toNat)
  case atStart => exact ⟨0, Nat.zero_le _, rfl, O1.out, hgw1⟩
  case round =>
    obtain ⟨k, hk, rfl, hO, hgr⟩ := hrel
    have HO := Lib.hid hO
    clear hO O1
    by_cases hlt : k < q
    · obtain ⟨i, hi⟩ : ∃ i, (opIx ss n2)[k]? = some i := ⟨_, List.getElem?_eq_getElem (by have := Hpl.out; omega)⟩
      have hil : i < n2 := opIx_lt (List.mem_of_getElem? hi)
      obtain ⟨x, hx⟩ : ∃ x, fl[k]? = some x := ⟨_, List.getElem?_eq_getElem (by have := Hfl.out; omega)⟩
      have hie : (opIx ss n2).getD k 0 = i := by rw [List.getD_eq_getElem?_getD, hi]; rfl
      have hxe : fl.getD k 0 = x := by rw [List.getD_eq_getElem?_getD, hx]; rfl
      obtain ⟨b, o, hAA, hb, p0⟩ := (HP.out.gr hgr).sl.int (k := k) (x := (i : Int)) (by rw [List.getElem?_map, hi]; rfl)
      subst hAA
      obtain ⟨b', o', hAB, hb', x0⟩ := (HF.out.gr hgr).sl.int hx
      subst hAB
      obtain ⟨m0, m1⟩ := own_int HO.out (get_int (l := spTo (opIx ss n2) fl n2 k) (k := i) (by rw [spTo_len]; exact hil))
      have Hst : Hid (spTo (opIx ss n2) fl n2 (k + 1) = (spTo (opIx ss n2) fl n2 k).set i x) := Lib.hid (by rw [spTo, hie, hxe])
      have t1 : (k : Int) < (q : Int) := by omega
      have t0 : (0 : Int) ≤ (k : Int) := by omega
      have s1 : (i : Int) < (n2 : Int) := by omega
      have s0 : (0 : Int) ≤ (i : Int) := by omega
      obtain ⟨o2, hgS⟩ := own_set_int HO.out i x
      have Ho2 := Lib.hid o2
      rename World => wr
      have hgr2 := hgr.setCell (p := ⟨F, i, none⟩) hFw (.int .i64 x)
      clear hi hx hie hxe o2 hgS
      go_upto_region 5 with fail
      refine wp_region_last (fun w' => w' = wr.drew) (fun w' => w' = (wr.setCell ⟨F, i, none⟩ (.int .i64 x)).drew) (by kernel_rfl) (by kernel_rfl) (by decide) rfl ?_
      repeat (first
            | ((with_reducible refine wpText_skip ?_ ?_)
               · rfl
               simp only [Act.put, List.setIfInBounds_toArray, List.set_cons_zero, List.set_cons_succ])
            | ((with_reducible refine wpText_yield (v := ?_) ?_ ?_ ?_)
               rotate_left
               · rfl
               · intro W hW; first | (go_simp; done) | (go_simp; with_reducible rfl)
               simp only [Act.put, List.setIfInBounds_toArray, List.set_cons_zero, List.set_cons_succ])
            | ((with_reducible refine wpText_yield1 (v := ?_) ?_ ?_ ?_)
               rotate_left
               · rfl
               · intro W hW; first | (go_simp; done) | (go_simp; with_reducible rfl)
               simp only [Act.put, List.setIfInBounds_toArray, List.set_cons_zero, List.set_cons_succ]))
      (first
            | ((with_reducible refine wpText_do1 undef ?_ ?_ ?_)
               · rfl
               · intro W hW K hK
                 subst hW
                 go_simp
                 exact hK _ rfl
               simp only [Act.put]))
      rintro wC hwC
      have hOC : wC.ownsRow w.heap.size 2 1 (.slice (some ⟨F, 0, none⟩) n2 n2) n2 (ints ((spTo (opIx ss n2) fl n2 k).set i x)) := by rw [hwC]; exact Ho2.out.drew
      have hgC : Gr w wC := by rw [hwC]; exact hgr2.drew
      have HOC := Lib.hid hOC
      clear hwC hOC p0 x0 m0 m1
      go_wp2_with fail
      go_roundw
      case rel => exact ⟨k + 1, by omega, by go_num, by rw [Hst.out]; exact HOC.out, hgC⟩
      case measure => simp [intOf]; omega
    · obtain rfl : k = q := by omega
      go_wp2_with fail
      go_ret
      exact ⟨F, rfl, by rw [spL, Hl2.out, Hpl.out]; exact HO.out, hgr⟩
set_option maxHeartbeats 6400000 in
set_option maxRecDepth 100000 in
theorem isAllowed_any {A3 A4 : Option Addr} {m c3 c4 : Nat} (ss fl : List Int) (w : World) (hS : SlAt w 1 A3 m c3 (ints ss)) (hF : SlAt w 1 A4 m c4 (ints fl)) :
    Calls Tryz.prog 80 #[.slice A3 m c3, .slice A4 m c4] w fun e w' => e = .returned (.bool (alB ss fl)) ∧ Gr w w' := by
  have hmm := hS.small
  have hsl := hS.sl.ilen
  have hfl := hF.sl.ilen
  have HS := Lib.hid hS
  have HF := Lib.hid hF
  have Hsl := Lib.hid hsl
  have Hfl := Lib.hid hfl
  clear hS hF hsl hfl
  go_enter Tryz.func80, Tryz.ntmps80
  go_wp2_with fail
  go_loopw [9] (fun i wr => ∃ k : Nat, k ≤ m ∧ i = .int .i64 k ∧ (∀ j, j < k → badAt ss fl j = false) ∧ Gr w wr) (fun i _ => m - (intOf i).toNat)
  case atStart => exact ⟨0, Nat.zero_le _, rfl, fun j h => absurd h (by omega), Gr.refl _⟩
  case round =>
    obtain ⟨k, hk, rfl, hno, hgr⟩ := hrel
    have Hno := Lib.hid hno
    clear hno
    by_cases hlt : k < m
    · obtain ⟨z, hz⟩ : ∃ z, ss[k]? = some z := ⟨_, List.getElem?_eq_getElem (by have := Hsl.out; omega)⟩
      obtain ⟨x, hx⟩ : ∃ x, fl[k]? = some x := ⟨_, List.getElem?_eq_getElem (by have := Hfl.out; omega)⟩
      have hze : ss.getD k 0 = z := by rw [List.getD_eq_getElem?_getD, hz]; rfl
      have hxe : fl.getD k 0 = x := by rw [List.getD_eq_getElem?_getD, hx]; rfl
      obtain ⟨b, o, hAA, hb, p0⟩ := (HS.out.gr hgr).sl.int hz
      subst hAA
      obtain ⟨b', o', hAB, hb', x0⟩ := (HF.out.gr hgr).sl.int hx
      subst hAB
      have t1 : (k : Int) < (m : Int) := by omega
      have t0 : (0 : Int) ≤ (k : Int) := by omega
      by_cases z0 : z = 0
      · subst z0
        by_cases x00 : x = 0
        · subst x00
          have Hb : Hid (badAt ss fl k = false) := Lib.hid (by rw [badAt, hze, hxe]; rfl)
          clear hz hx
          go_wp2_with fail
          go_roundw
          case rel => exact ⟨k + 1, by omega, by go_num, fun j hj => (by by_cases e : j = k; (· subst e; exact Hb.out); exact Hno.out j (by omega)), hgr⟩
          case measure => simp [intOf]; omega
        · have tx : (x != 0) = true := by simp [x00]
          have Hb : Hid (badAt ss fl k = true) := Lib.hid (by rw [badAt, hze, hxe]; rw [decide_eq_false x00]; rfl)
          clear hz hx
          go_wp2_with fail
          go_ret
          exact ⟨ret_bool (al_no (by rw [Hfl.out]; exact hlt) Hb.out).symm, hgr⟩
      · have tz : (z == 0) = false := by simp [z0]
        by_cases z2 : z = 2
        · subst z2
          by_cases xn : x < 0
          · have tx : decide (x < 0) = true := by simp [xn]
            have Hb : Hid (badAt ss fl k = true) := Lib.hid (by rw [badAt, hze, hxe]; rw [decide_eq_true xn]; rfl)
            clear hz hx
            go_wp2_with fail
            go_ret
            exact ⟨ret_bool (al_no (by rw [Hfl.out]; exact hlt) Hb.out).symm, hgr⟩
          · have tx : decide (x < 0) = false := by simp [xn]
            have Hb : Hid (badAt ss fl k = false) := Lib.hid (by rw [badAt, hze, hxe]; rw [decide_eq_false xn]; rfl)
            clear hz hx
            go_wp2_with fail
            go_roundw
            case rel => exact ⟨k + 1, by omega, by go_num, fun j hj => (by by_cases e : j = k; (· subst e; exact Hb.out); exact Hno.out j (by omega)), hgr⟩
            case measure => simp [intOf]; omega
        · have tz2 : (z == 2) = false := by simp [z2]
          have Hb : Hid (badAt ss fl k = false) := Lib.hid (by rw [badAt, hze, hxe]; rw [decide_eq_false z0, decide_eq_false z2]; rfl)
          clear hz hx
          go_wp2_with fail
          go_roundw
          case rel => exact ⟨k + 1, by omega, by go_num, fun j hj => (by by_cases e : j = k; (· subst e; exact Hb.out); exact Hno.out j (by omega)), hgr⟩
          case measure => simp [intOf]; omega
    · obtain rfl : k = m := by omega
      go_wp2_with fail
      go_ret
      exact ⟨ret_bool (al_yes (by rw [Hfl.out]; exact Hno.out)).symm, hgr⟩
set_option maxHeartbeats 6400000 in
set_option maxRecDepth 100000 in
theorem l16Allowed_any {A3 A4 : Option Addr} {m c3 c4 : Nat} (ss fl : List Int) (w : World) (hS : SlAt w 1 A3 m c3 (ints ss)) (hF : SlAt w 1 A4 m c4 (ints fl)) :
    Calls Tryz.prog 87 #[.slice A3 m c3, .slice A4 m c4] w fun e w' => e = .returned (.bool (alB ss fl)) ∧ Gr w w' := by
  have hmm := hS.small
  have hsl := hS.sl.ilen
  have hfl := hF.sl.ilen
  have HS := Lib.hid hS
  have HF := Lib.hid hF
  have Hsl := Lib.hid hsl
  have Hfl := Lib.hid hfl
  clear hS hF hsl hfl
  go_enter Tryz.func87, Tryz.ntmps87
  go_wp2_with fail
  go_loopw [5] (fun i wr => ∃ k : Nat, k ≤ m ∧ i = .int .i64 k ∧ (∀ j, j < k → badAt ss fl j = false) ∧ Gr w wr) (fun i _ => m - (intOf i).toNat)
  case atStart => exact ⟨0, Nat.zero_le _, rfl, fun j h => absurd h (by omega), Gr.refl _⟩
  case round =>
    obtain ⟨k, hk, rfl, hno, hgr⟩ := hrel
    have Hno := Lib.hid hno
    clear hno
    by_cases hlt : k < m
    · obtain ⟨z, hz⟩ : ∃ z, ss[k]? = some z := ⟨_, List.getElem?_eq_getElem (by have := Hsl.out; omega)⟩
      obtain ⟨x, hx⟩ : ∃ x, fl[k]? = some x := ⟨_, List.getElem?_eq_getElem (by have := Hfl.out; omega)⟩
      have hze : ss.getD k 0 = z := by rw [List.getD_eq_getElem?_getD, hz]; rfl
      have hxe : fl.getD k 0 = x := by rw [List.getD_eq_getElem?_getD, hx]; rfl
      obtain ⟨b, o, hAA, hb, p0⟩ := (HS.out.gr hgr).sl.int hz
      subst hAA
      obtain ⟨b', o', hAB, hb', x0⟩ := (HF.out.gr hgr).sl.int hx
      subst hAB
      have t1 : (k : Int) < (m : Int) := by omega
      have t0 : (0 : Int) ≤ (k : Int) := by omega
      by_cases z0 : z = 0
      · subst z0
        by_cases x00 : x = 0
        · subst x00
          have Hb : Hid (badAt ss fl k = false) := Lib.hid (by rw [badAt, hze, hxe]; rfl)
          clear hz hx
          go_wp2_with fail
          go_roundw
          case rel => exact ⟨k + 1, by omega, by go_num, fun j hj => (by by_cases e : j = k; (· subst e; exact Hb.out); exact Hno.out j (by omega)), hgr⟩
          case measure => simp [intOf]; omega
        · have tx : (x != 0) = true := by simp [x00]
          have Hb : Hid (badAt ss fl k = true) := Lib.hid (by rw [badAt, hze, hxe]; rw [decide_eq_false x00]; rfl)
          clear hz hx
          go_wp2_with fail
          go_ret
          exact ⟨ret_bool (al_no (by rw [Hfl.out]; exact hlt) Hb.out).symm, hgr⟩
      · have tz : (z == 0) = false := by simp [z0]
        by_cases z2 : z = 2
        · subst z2
          by_cases xn : x < 0
          · have tx : decide (x < 0) = true := by simp [xn]
            have Hb : Hid (badAt ss fl k = true) := Lib.hid (by rw [badAt, hze, hxe]; rw [decide_eq_true xn]; rfl)
            clear hz hx
            go_wp2_with fail
            go_ret
            exact ⟨ret_bool (al_no (by rw [Hfl.out]; exact hlt) Hb.out).symm, hgr⟩
          · have tx : decide (x < 0) = false := by simp [xn]
            have Hb : Hid (badAt ss fl k = false) := Lib.hid (by rw [badAt, hze, hxe]; rw [decide_eq_false xn]; rfl)
            clear hz hx
            go_wp2_with fail
            go_roundw
            case rel => exact ⟨k + 1, by omega, by go_num, fun j hj => (by by_cases e : j = k; (· subst e; exact Hb.out); exact Hno.out j (by omega)), hgr⟩
            case measure => simp [intOf]; omega
        · have tz2 : (z == 2) = false := by simp [z2]
          have Hb : Hid (badAt ss fl k = false) := Lib.hid (by rw [badAt, hze, hxe]; rw [decide_eq_false z0, decide_eq_false z2]; rfl)
          clear hz hx
          go_wp2_with fail
          go_roundw
          case rel => exact ⟨k + 1, by omega, by go_num, fun j hj => (by by_cases e : j = k; (· subst e; exact Hb.out); exact Hno.out j (by omega)), hgr⟩
          case measure => simp [intOf]; omega
    · obtain rfl : k = m := by omega
      go_wp2_with fail
      go_ret
      exact ⟨ret_bool (al_yes (by rw [Hfl.out]; exact Hno.out)).symm, hgr⟩
end Go.Proofs.YthhmhigddmimjaaGreat
/-
  Good settings, the level of the root (both sides). Printed by gen_pt22.py.
-/
set_option linter.unusedSimpArgs false
set_option linter.unusedVariables false
namespace Go.Proofs.YthhmhigddmimjaaGreat
open Go.ChangeShapes Go.WideShapes Go.ChangeAt Go.RowKit

theorem sol_len {n : GNet} {ss sup : List Int} {w : World} {B1 B2 A : Option Addr} {n1 d1 m d2 m' c : Nat} (hN : NetAt w B1 n1 d1 B2 m d2 (opNet n ss)) (hc : opCode (opNet n ss) sup = 0) (hF : SlAt w 1 A m' c (ints (solF (opNet n ss) sup))) : m' = m := by
  have h1 := (flOk_all (sol_ok (op_zero hc).2.1)).1
  have h2 := hN.l2
  have h3 := hF.sl.ilen
  omega
theorem code27 {n : GNet} {zs us : List Int} {N : Nat} : l27Val n zs [] us N = if netOk n = true then (if stOk n.pipes.length zs = true then (if supOk N us = true then 0 else 3) else 3) else 1 := by
  have h : setOk ((n.pipes.length : Int) - 1) [] = true := rfl
  unfold l27Val swCode
  rw [h]
  cases netOk n <;> cases stOk n.pipes.length zs <;> cases supOk N us <;> rfl
theorem code27_ag {n : GNet} {zs us : List Int} {N : Nat} (hN : n.nodes.length = N) (h : l27Val n zs [] us N ≠ 0) : agB n zs us = false := by
  subst hN
  rw [code27] at h
  unfold agB
  cases h1 : netOk n
  · rfl
  · cases h2 : stOk n.pipes.length zs
    · rfl
    · cases h3 : supOk n.nodes.length us
      · rfl
      · rw [h1, h2, h3] at h; exact absurd rfl h
theorem code27_yes {n : GNet} {zs us : List Int} {N : Nat} (hN : n.nodes.length = N) (h : l27Val n zs [] us N = 0) : netOk n = true ∧ stOk n.pipes.length zs = true ∧ supOk n.nodes.length us = true := by
  subst hN
  rw [code27] at h
  cases h1 : netOk n
  · rw [h1, if_neg (by decide)] at h; exact absurd h (by decide)
  · cases h2 : stOk n.pipes.length zs
    · rw [h1, h2, if_pos rfl, if_neg (by decide)] at h; exact absurd h (by decide)
    · cases h3 : supOk n.nodes.length us
      · rw [h1, h2, h3, if_pos rfl, if_pos rfl, if_neg (by decide)] at h; exact absurd h (by decide)
      · exact ⟨rfl, rfl, rfl⟩
theorem code27_rt {n : GNet} {zs us : List Int} {N : Nat} (hN : n.nodes.length = N) (h : l27Val n zs [] us N ≠ 0) : rtCode n zs us = l27Val n zs [] us N := by
  subst hN
  rw [code27] at h ⊢
  unfold rtCode stCode
  cases h1 : netOk n
  · rfl
  · cases h2 : stOk n.pipes.length zs
    · rfl
    · cases h3 : supOk n.nodes.length us
      · rfl
      · rw [h1, h2, h3] at h; exact absurd rfl h
theorem st_len {n : GNet} {zs : List Int} {N : Nat} (hN : n.pipes.length = N) (h : stOk n.pipes.length zs = true) : zs.length = N := by
  rw [stOk, Bool.and_eq_true, decide_eq_true_eq] at h; omega
theorem ag_yes {n : GNet} {zs us : List Int} (h1 : netOk n = true) (h2 : stOk n.pipes.length zs = true) (h3 : supOk n.nodes.length us = true) : agB n zs us = gdB n zs us := by rw [agB, h1, h2, h3]; rfl
theorem st_zero {n : GNet} {zs : List Int} (h : stCode n zs = 0) : netOk n = true ∧ stOk n.pipes.length zs = true := by
  unfold stCode at h
  cases h1 : netOk n
  · rw [h1, if_neg (by decide)] at h; exact absurd h (by decide)
  · cases h2 : stOk n.pipes.length zs
    · rw [h1, h2, if_pos rfl, if_neg (by decide)] at h; exact absurd h (by decide)
    · exact ⟨rfl, rfl⟩
theorem rt_good {n : GNet} {zs us : List Int} (h1 : netOk n = true) (h2 : stOk n.pipes.length zs = true) (h3 : supOk n.nodes.length us = true) (h4 : gdB n zs us = true) : rtCode n zs us = 0 := by rw [rtCode, stCode, if_pos h1, if_pos h2, if_pos rfl, if_pos h3, if_pos h4]
theorem rt_bad {n : GNet} {zs us : List Int} (h1 : netOk n = true) (h2 : stOk n.pipes.length zs = true) (h3 : supOk n.nodes.length us = true) (h4 : gdB n zs us = false) : rtCode n zs us = 7 := by rw [rtCode, stCode, if_pos h1, if_pos h2, if_pos rfl, if_pos h3, h4]; rfl
theorem rt_sup {n : GNet} {zs us : List Int} (h1 : stCode n zs = 0) (h3 : supOk n.nodes.length us = false) : rtCode n zs us = 3 := by rw [rtCode, if_pos h1, h3]; rfl
theorem rt_st {n : GNet} {zs us : List Int} (h1 : stCode n zs ≠ 0) : rtCode n zs us = stCode n zs := by rw [rtCode, if_neg h1]
theorem lev_no {n : GNet} {zs us : List Int} (h : rtCode n zs us ≠ 0) : rtLev n zs us = 0 := by rw [rtLev, if_neg h]
theorem gd_code {n : GNet} {zs us : List Int} (h : gdB n zs us = true) : opCode (opNet n zs) us = 0 := by rw [gdB, Bool.and_eq_true, decide_eq_true_eq] at h; exact h.1
set_option maxHeartbeats 6400000 in
set_option maxRecDepth 100000 in
theorem areGood_any {A1 A2 A3 A4 : Option Addr} {n1 c1 n2 c2 c3 n4 c4 : Nat} (n : GNet) (ss sup : List Int) (w : World) (hA : NetAt w A1 n1 c1 A2 n2 c2 n) (hS : SlAt w 1 A3 n2 c3 (ints ss)) (hU : SlAt w 1 A4 n4 c4 (ints sup)) (hok : netOk n = true) :
    Calls Tryz.prog 56 #[.agg #[.slice A1 n1 c1, .slice A2 n2 c2], .slice A3 n2 c3, .slice A4 n4 c4] w fun e w' => e = .returned (.bool (gdB n ss sup)) ∧ Gr w w' := by
  have Hok := Lib.hid hok
  clear hok
  have hl1 := hA.l1
  have hl2 := hA.l2
  have hm1 := hA.m1
  have hm2 := hA.m2
  have HA := Lib.hid hA
  have HS := Lib.hid hS
  have HU := Lib.hid hU
  have Hl1 := Lib.hid hl1
  have Hl2 := Lib.hid hl2
  clear hA hS hU hl1 hl2
  go_enter Tryz.func56, Tryz.ntmps56
  go_wp2_with fail
  obtain ⟨w1, hw1⟩ : ∃ W, W = w.alloc (.cells #[.slice A1 n1 c1, .slice A2 n2 c2] 32) := ⟨_, rfl⟩
  have hg1 : Gr w w1 := by rw [hw1]; exact (Gr.refl _).alloc _
  have y0 : w1.cell? ⟨w.heap.size, 0, none⟩ = some (.slice A1 n1 c1) := by rw [hw1]; simp [go_sem]
  have y1 : w1.cell? ⟨w.heap.size, 1, none⟩ = some (.slice A2 n2 c2) := by rw [hw1]; simp [go_sem]
  rw [← hw1]
  clear hw1
  refine (openNetwork_any n ss _ (HA.out.gr hg1) (HS.out.gr hg1) Hok.out).mono ?_
  rintro e w2 ⟨B1, d1, B2, m, d2, X, c, rfl, hN, hX, hg2⟩
  have hgw2 := hg1.trans hg2
  replace y0 := hg2.has y0
  replace y1 := hg2.has y1
  go_upto_region 2 with fail
  obtain ⟨w3, hw3⟩ : ∃ W, W = w2.alloc (.cells #[.slice B1 n1 d1, .slice B2 m d2] 32) := ⟨_, rfl⟩
  have h23 : Gr w2 w3 := by rw [hw3]; exact (Gr.refl _).alloc _
  have o0 : w3.cell? ⟨w2.heap.size, 0, none⟩ = some (.slice B1 n1 d1) := by rw [hw3]; simp [go_sem]
  have o1 : w3.cell? ⟨w2.heap.size, 1, none⟩ = some (.slice B2 m d2) := by rw [hw3]; simp [go_sem]
  have HN := Lib.hid (hN.gr h23)
  have HX := Lib.hid (hX.gr h23)
  have hgw3 := hgw2.trans h23
  replace y0 := h23.has y0
  replace y1 := h23.has y1
  rw [← hw3]
  clear hw3 hN hX
  go_wp2_with fail
  refine (OperatingPoint_any (opNet n ss) sup _ HN.out (HU.out.gr hgw3)).mono ?_
  rintro e w4 ⟨A, m', c', B, k, d, rfl, hF, hL, hg4⟩
  have hgw4 := hgw3.trans hg4
  have h34 := hg4
  replace y0 := hg4.has y0
  replace y1 := hg4.has y1
  go_upto_region 3 with fail
  obtain ⟨w5, hw5⟩ : ∃ W, W = w4.alloc (.cells #[.slice A m' c', .slice B k d] 56) := ⟨_, rfl⟩
  have h45 : Gr w4 w5 := by rw [hw5]; exact (Gr.refl _).alloc _
  have q0 : w5.cell? ⟨w4.heap.size, 0, none⟩ = some (.slice A m' c') := by rw [hw5]; simp [go_sem]
  have q1 : w5.cell? ⟨w4.heap.size, 1, none⟩ = some (.slice B k d) := by rw [hw5]; simp [go_sem]
  replace HN := Lib.hid ((HN.out.gr hg4).gr h45)
  replace HX := Lib.hid ((HX.out.gr hg4).gr h45)
  have HF := Lib.hid (hF.gr h45)
  have HL := Lib.hid (hL.gr h45)
  have hgw5 := hgw4.trans h45
  replace y0 := h45.has y0
  replace y1 := h45.has y1
  rw [← hw5]
  clear hw5 hF hL o0 o1
  by_cases hc : opCode (opNet n ss) sup = 0
  rotate_left
  · have tc : (opCode (opNet n ss) sup == 0) = false := by simp [hc]
    have Hc := Lib.hid hc
    clear hc
    go_wp2_with fail
    go_ret
    exact ⟨ret_bool (gd_no Hc.out).symm, hgw5⟩
  rw [opFl_yes hc] at HF
  obtain rfl := sol_len HN.out hc HF.out
  have Hc := Lib.hid hc
  have tc : (opCode (opNet n ss) sup == 0) = true := by simp [hc]
  clear hc
  go_wp2_with fail
  refine (spreadFlows_any n ss _ _ (HA.out.gr hgw5) HX.out HF.out).mono ?_
  rintro e w6 ⟨F, rfl, hO, h6⟩
  have HO := Lib.hid (SlAt.of_own hO hm2)
  have hgw6 := hgw5.trans h6
  clear hO q0 q1 y0 y1
  go_wp2_with fail
  refine (isAllowed_any ss _ _ (HS.out.gr hgw6) HO.out).mono ?_
  rintro e w7 ⟨rfl, h7⟩
  have hgw7 := hgw6.trans h7
  go_wp2_with fail
  go_ret
  exact ⟨ret_bool (gd_yes Hc.out).symm, hgw7⟩
set_option maxHeartbeats 6400000 in
set_option maxRecDepth 100000 in
theorem l27Point_any {A1 A2 A3 A4 : Option Addr} {n1 c1 n2 c2 c3 n4 c4 : Nat} (n : GNet) (ss sup : List Int) (w : World) (hA : NetAt w A1 n1 c1 A2 n2 c2 n) (hS : SlAt w 1 A3 n2 c3 (ints ss)) (hU : SlAt w 1 A4 n4 c4 (ints sup)) (hok : netOk n = true) :
    Calls Tryz.prog 50 #[.agg #[.slice A1 n1 c1, .slice A2 n2 c2], .slice A3 n2 c3, .slice A4 n4 c4] w fun e w' => ∃ A m c B k d, e = .returned (.tuple #[.agg #[.slice A m c, .slice B k d], .bool (gdB n ss sup)]) ∧ (gdB n ss sup = true → SlAt w' 1 B k d (ints (opLv (opNet n ss) sup true))) ∧ Gr w w' := by
  have Hok := Lib.hid hok
  clear hok
  have hl1 := hA.l1
  have hl2 := hA.l2
  have hm1 := hA.m1
  have hm2 := hA.m2
  have HA := Lib.hid hA
  have HS := Lib.hid hS
  have HU := Lib.hid hU
  have Hl1 := Lib.hid hl1
  have Hl2 := Lib.hid hl2
  clear hA hS hU hl1 hl2
  go_enter Tryz.func50, Tryz.ntmps50
  go_upto_region 1 with fail
  obtain ⟨w1, hw1⟩ : ∃ W, W = (w.alloc (.cells #[.slice A1 n1 c1, .slice A2 n2 c2] 32)).alloc (.cells #[.slice none 0 0, .slice none 0 0] 56) := ⟨_, rfl⟩
  have hg1 : Gr w w1 := by rw [hw1]; exact ((Gr.refl _).alloc _).alloc _
  have y0 : w1.cell? ⟨w.heap.size, 0, none⟩ = some (.slice A1 n1 c1) := by rw [hw1]; simp [go_sem]
  have y1 : w1.cell? ⟨w.heap.size, 1, none⟩ = some (.slice A2 n2 c2) := by rw [hw1]; simp [go_sem]
  obtain ⟨R, hRe⟩ : ∃ R, R = w.heap.size + 1 := ⟨_, rfl⟩
  have hR : w1.heap[R]? = some (.cells #[.slice none 0 0, .slice none 0 0] 56 (0, 0)) := by
    have e : R = (w.alloc (.cells #[.slice A1 n1 c1, .slice A2 n2 c2] 32)).heap.size := by simp [hRe]
    rw [hw1, e]; exact heap_alloc_new _ _
  have hRb : w.heap.size ≤ R := by omega
  have hNR0 : ¬ w.heap.size = R := by omega
  have HRs := rb_lt hR
  rw [← hw1, ← hRe]
  have HR := Lib.hid hR
  clear hw1 hR hRe
  go_wp2_with fail
  refine (l16Open_any n ss _ (HA.out.gr hg1) (HS.out.gr hg1) Hok.out).mono ?_
  rintro e w2 ⟨B1, d1, B2, m, d2, X, c, rfl, hN, hX, hg2⟩
  have hgw2 := hg1.trans hg2
  replace y0 := hg2.has y0
  replace y1 := hg2.has y1
  go_upto_region 2 with fail
  obtain ⟨w3, hw3⟩ : ∃ W, W = w2.alloc (.cells #[.slice B1 n1 d1, .slice B2 m d2] 32) := ⟨_, rfl⟩
  have h23 : Gr w2 w3 := by rw [hw3]; exact (Gr.refl _).alloc _
  have o0 : w3.cell? ⟨w2.heap.size, 0, none⟩ = some (.slice B1 n1 d1) := by rw [hw3]; simp [go_sem]
  have o1 : w3.cell? ⟨w2.heap.size, 1, none⟩ = some (.slice B2 m d2) := by rw [hw3]; simp [go_sem]
  have HN := Lib.hid (hN.gr h23)
  have HX := Lib.hid (hX.gr h23)
  have hgw3 := hgw2.trans h23
  replace y0 := h23.has y0
  replace y1 := h23.has y1
  rw [← hw3]
  clear hw3 hN hX
  go_wp2_with fail
  refine (spOperatingPoint_any (opNet n ss) sup _ HN.out (HU.out.gr hgw3)).mono ?_
  rintro e w4 ⟨A, m', c', B, k, d, rfl, hF, hL, hg4⟩
  have hgw4 := hgw3.trans hg4
  have h34 := hg4
  replace y0 := hg4.has y0
  replace y1 := hg4.has y1
  go_upto_region 3 with fail
  obtain ⟨w5, hw5⟩ : ∃ W, W = w4.alloc (.cells #[.slice A m' c', .slice B k d] 56) := ⟨_, rfl⟩
  have h45 : Gr w4 w5 := by rw [hw5]; exact (Gr.refl _).alloc _
  have q0 : w5.cell? ⟨w4.heap.size, 0, none⟩ = some (.slice A m' c') := by rw [hw5]; simp [go_sem]
  have q1 : w5.cell? ⟨w4.heap.size, 1, none⟩ = some (.slice B k d) := by rw [hw5]; simp [go_sem]
  replace HN := Lib.hid ((HN.out.gr hg4).gr h45)
  replace HX := Lib.hid ((HX.out.gr hg4).gr h45)
  have HF := Lib.hid (hF.gr h45)
  have HL := Lib.hid (hL.gr h45)
  have hgw5 := hgw4.trans h45
  replace y0 := h45.has y0
  replace y1 := h45.has y1
  rw [← hw5]
  clear hw5 hF hL o0 o1
  have hgr5 := ((hg2.trans h23).trans h34).trans h45
  by_cases hc : opCode (opNet n ss) sup = 0
  rotate_left
  · have tc : (opCode (opNet n ss) sup != 0) = true := by simp [hc]
    have Hc := Lib.hid hc
    clear hc
    have hRw := (hgr5.below.block _ HRs).trans HR.out
    have r0 := rb_cell (j := 0) hRw rfl
    have r1 := rb_cell (j := 1) hRw rfl
    have f0 := rb_frozen hRw 0
    have f1 := rb_frozen hRw 1
    obtain ⟨W9, hW9⟩ : ∃ W, W = (w5.setCell ⟨R, 0, none⟩ (.slice none 0 0)).setCell ⟨R, 1, none⟩ (.slice none 0 0) := ⟨_, rfl⟩
    have hP : W9.heap[R]? = some (.cells #[.slice none 0 0, .slice none 0 0] 56 (0, 0)) := by rw [hW9]; exact put_two hRw
    have hgx : Gr w W9 := by rw [hW9]; exact (hgw5.setCell (p := ⟨R, 0, none⟩) hRb _).setCell (p := ⟨R, 1, none⟩) hRb _
    have HP := Lib.hid hP
    have HW9 := Lib.hid hW9
    clear hW9 hP hRw
    go_wp2_with fail
    rw [← HW9.out]
    (try simp only [Exit.inBlock, Exit.then])
    refine bodyPost_ret (results_row_tmp Tryz.results50 _ _ R 56 #[.slice none 0 0, .slice none 0 0] (0, 0) _ ?_ HP.out Tryz.underlying56 rfl (by kernel_rfl)) ?_ ?_
    · rfl
    · rfl
    exact ⟨none, 0, 0, none, 0, 0, by rw [gd_no Hc.out]; rfl, fun h => absurd h (by rw [gd_no Hc.out]; decide), hgx⟩
  rw [opFl_yes hc] at HF
  obtain rfl := sol_len HN.out hc HF.out
  have Hc := Lib.hid hc
  have tc : (opCode (opNet n ss) sup != 0) = false := by simp [hc]
  rw [hc]
  clear hc
  go_upto_region 5 with fail
  have kp : ∀ W, Gr w5 W → (W.cell? ⟨w.heap.size, 0, none⟩ = some (.slice A1 n1 c1) ∧ W.cell? ⟨w.heap.size, 1, none⟩ = some (.slice A2 n2 c2) ∧ W.cell? ⟨w4.heap.size, 0, none⟩ = some (.slice A m' c') ∧ W.cell? ⟨w4.heap.size, 1, none⟩ = some (.slice B k d)) := fun W h => ⟨h.has y0, h.has y1, h.has q0, h.has q1⟩
  have hNR : ¬ w.heap.size = R := hNR0
  have hPR : ¬ w4.heap.size = R := by have := ((hg2.trans h23).trans h34).size; omega
  have kp2 : ∀ W, Gr w5 W → ∀ a b, (((W.setCell ⟨R, 0, none⟩ a).setCell ⟨R, 1, none⟩ b).cell? ⟨w.heap.size, 0, none⟩ = some (.slice A1 n1 c1) ∧ ((W.setCell ⟨R, 0, none⟩ a).setCell ⟨R, 1, none⟩ b).cell? ⟨w.heap.size, 1, none⟩ = some (.slice A2 n2 c2) ∧ ((W.setCell ⟨R, 0, none⟩ a).setCell ⟨R, 1, none⟩ b).cell? ⟨w4.heap.size, 0, none⟩ = some (.slice A m' c') ∧ ((W.setCell ⟨R, 0, none⟩ a).setCell ⟨R, 1, none⟩ b).cell? ⟨w4.heap.size, 1, none⟩ = some (.slice B k d)) := fun W h a b => by
    have hcc : Chg (fun j => j = R) W ((W.setCell ⟨R, 0, none⟩ a).setCell ⟨R, 1, none⟩ b) := (chg_put _ _).trans (chg_put _ _)
    exact ⟨chg_cell' hcc (h.has y0) hNR, chg_cell' hcc (h.has y1) hNR, chg_cell' hcc (h.has q0) hPR, chg_cell' hcc (h.has q1) hPR⟩
  clear y0 y1 q0 q1
  go_region_held3 (fun W => W.cell? ⟨w.heap.size, 0, none⟩ = some (.slice A1 n1 c1) ∧ W.cell? ⟨w.heap.size, 1, none⟩ = some (.slice A2 n2 c2) ∧ W.cell? ⟨w4.heap.size, 0, none⟩ = some (.slice A m' c') ∧ W.cell? ⟨w4.heap.size, 1, none⟩ = some (.slice B k d))
    (first | with_reducible exact kp _ (Gr.refl _).drew | with_reducible exact kp _ hg6 | with_reducible exact kp _ hg7 | with_reducible exact kp2 _ hg7 _ _)
    (first
      | (go_at_call 88; with_reducible refine (l16Spread_any n ss _ _ (HA.out.gr (hgw5.trans (Gr.refl _).drew)) (HX.out.gr (Gr.refl _).drew) (HF.out.gr (Gr.refl _).drew)).mono ?_; rintro e w6 ⟨F, rfl, hO, h6⟩; have hg6 : Gr w5 w6 := (Gr.refl _).drew.trans h6; have HO := Lib.hid (SlAt.of_own hO hm2); clear hO)
      | (go_at_call 87; with_reducible refine (l16Allowed_any ss _ _ (HS.out.gr (hgw5.trans hg6)) HO.out).mono ?_; rintro e w7 ⟨rfl, h7⟩; have hg7 : Gr w5 w7 := hg6.trans h7; have hRw := ((hgr5.trans hg7).below.block _ HRs).trans HR.out; have r0 := rb_cell (j := 0) hRw rfl; have r1 := rb_cell (j := 1) hRw rfl; have f0 := rb_frozen hRw 0; have f1 := rb_frozen hRw 1; have HRw := Lib.hid hRw; clear hRw))
  obtain ⟨W9, hW9⟩ : ∃ W, W = (w7.setCell ⟨R, 0, none⟩ (.slice A m' c')).setCell ⟨R, 1, none⟩ (.slice B k d) := ⟨_, rfl⟩
  have hP : W9.heap[R]? = some (.cells #[.slice A m' c', .slice B k d] 56 (0, 0)) := by rw [hW9]; exact put_two HRw.out
  have hcc : Chg (fun j => j = R) w7 W9 := by rw [hW9]; exact (chg_put _ _).trans (chg_put _ _)
  have hgx : Gr w W9 := by rw [hW9]; exact ((hgw5.trans hg7).setCell (p := ⟨R, 0, none⟩) hRb _).setCell (p := ⟨R, 1, none⟩) hRb _
  have hLk := SlAt.keep (HL.out.gr hg7) hcc HRw.out (slice_no _ _ _) (slice_no _ _ _)
  have HLk := Lib.hid hLk
  have HP := Lib.hid hP
  have HW9 := Lib.hid hW9
  rw [← hW9]
  clear hW9 hP hLk kp kp2
  go_wp2_with fail
  (try simp only [Exit.inBlock, Exit.then])
  refine bodyPost_ret (results_row_tmp Tryz.results50 _ _ R 56 #[.slice A m' c', .slice B k d] (0, 0) _ ?_ HP.out Tryz.underlying56 rfl (by kernel_rfl)) ?_ ?_
  · rfl
  · rfl
  exact ⟨A, m', c', B, k, d, by rw [gd_yes Hc.out] <;> rfl, fun _ => HLk.out, hgx⟩
end Go.Proofs.YthhmhigddmimjaaGreat
/-
  AreGood and RootLevel (both sides). Printed by gen_pt23.py.
-/
set_option linter.unusedSimpArgs false
set_option linter.unusedVariables false
namespace Go.Proofs.YthhmhigddmimjaaGreat
open Go.ChangeShapes Go.WideShapes Go.ChangeAt Go.RowKit

set_option maxHeartbeats 6400000 in
set_option maxRecDepth 100000 in
theorem AreGood_any {A1 A2 A3 A4 : Option Addr} {n1 c1 n2 c2 n3 c3 n4 c4 : Nat} (n : GNet) (ss sup : List Int) (w : World) (hA : NetAt w A1 n1 c1 A2 n2 c2 n) (hS : SlAt w 1 A3 n3 c3 (ints ss)) (hU : SlAt w 1 A4 n4 c4 (ints sup)) :
    Calls Tryz.prog 14 #[.agg #[.slice A1 n1 c1, .slice A2 n2 c2], .slice A3 n3 c3, .slice A4 n4 c4] w fun e w' => e = .returned (.bool (agB n ss sup)) ∧ Gr w w' := by
  have hl1 := hA.l1
  have hl2 := hA.l2
  have hm1 := hA.m1
  have hm2 := hA.m2
  have HA := Lib.hid hA
  have HS := Lib.hid hS
  have HU := Lib.hid hU
  have Hl1 := Lib.hid hl1
  have Hl2 := Lib.hid hl2
  clear hA hS hU hl1 hl2
  go_enter Tryz.func14, Tryz.ntmps14
  go_wp2_with fail
  obtain ⟨w1, hw1⟩ : ∃ W, W = w.alloc (.cells #[.slice A1 n1 c1, .slice A2 n2 c2] 32) := ⟨_, rfl⟩
  have hg1 : Gr w w1 := by rw [hw1]; exact (Gr.refl _).alloc _
  have y0 : w1.cell? ⟨w.heap.size, 0, none⟩ = some (.slice A1 n1 c1) := by rw [hw1]; simp [go_sem]
  have y1 : w1.cell? ⟨w.heap.size, 1, none⟩ = some (.slice A2 n2 c2) := by rw [hw1]; simp [go_sem]
  rw [← hw1]
  clear hw1
  have hgw := hg1
  refine (IsNetwork_any _ _ _ _ _ _ n _ (HA.out.gr hgw)).mono ?_
  rintro e w2 ⟨rfl, h2⟩
  replace hgw := hgw.trans h2
  replace y0 := h2.has y0
  replace y1 := h2.has y1
  cases hn : netOk n with
  | false =>
    have Hn := Lib.hid hn
    clear hn
    go_wp2_with fail
    go_ret
    exact ⟨ret_bool (by rw [agB, Hn.out]; rfl), hgw⟩
  | true =>
    have Hn := Lib.hid hn
    clear hn
    go_wp2_with fail
    refine (areSettings_any (A1 := A1) (n1 := n1) (c1 := c1) (A2 := A2) (c2 := c2) (n2 := n2) ss _ (HS.out.gr hgw) hm2).mono ?_
    rintro e w3 ⟨rfl, h3⟩
    replace hgw := hgw.trans h3
    replace y0 := h3.has y0
    replace y1 := h3.has y1
    cases hs : stOk n2 ss with
    | false =>
      have Hs : Hid (stOk n.pipes.length ss = false) := Lib.hid (by rw [Hl2.out]; exact hs)
      clear hs
      go_wp2_with fail
      go_ret
      exact ⟨ret_bool (by rw [agB, Hn.out, Hs.out]; rfl), hgw⟩
    | true =>
      have Hs : Hid (stOk n.pipes.length ss = true) := Lib.hid (by rw [Hl2.out]; exact hs)
      obtain rfl : n3 = n2 := by rw [← st_len Hl2.out Hs.out]; exact HS.out.sl.ilen.symm
      clear hs
      go_wp2_with fail
      refine (areSupplies_any (A1 := A1) (n1 := n1) (c1 := c1) (A2 := A2) (c2 := c2) (n2 := n3) sup _ (HU.out.gr hgw) hm1).mono ?_
      rintro e w4 ⟨rfl, h4⟩
      replace hgw := hgw.trans h4
      replace y0 := h4.has y0
      replace y1 := h4.has y1
      cases hu : supOk n1 sup with
      | false =>
        have Hu : Hid (supOk n.nodes.length sup = false) := Lib.hid (by rw [Hl1.out]; exact hu)
        clear hu
        go_wp2_with fail
        go_ret
        exact ⟨ret_bool (by rw [agB, Hn.out, Hs.out, Hu.out]; rfl), hgw⟩
      | true =>
        have Hu : Hid (supOk n.nodes.length sup = true) := Lib.hid (by rw [Hl1.out]; exact hu)
        clear hu
        go_wp2_with fail
        refine (areGood_any n ss sup _ (HA.out.gr hgw) (HS.out.gr hgw) (HU.out.gr hgw) Hn.out).mono ?_
        rintro e w5 ⟨rfl, h5⟩
        have hgx := hgw.trans h5
        go_wp2_with fail
        go_ret
        exact ⟨ret_bool (ag_yes Hn.out Hs.out Hu.out).symm, hgx⟩
set_option maxHeartbeats 6400000 in
set_option maxRecDepth 100000 in
theorem spAreGood_any {A1 A2 A3 A4 : Option Addr} {n1 c1 n2 c2 n3 c3 n4 c4 : Nat} (n : GNet) (ss sup : List Int) (w : World) (hA : NetAt w A1 n1 c1 A2 n2 c2 n) (hS : SlAt w 1 A3 n3 c3 (ints ss)) (hU : SlAt w 1 A4 n4 c4 (ints sup)) :
    Calls Tryz.prog 11 #[.agg #[.slice A1 n1 c1, .slice A2 n2 c2], .slice A3 n3 c3, .slice A4 n4 c4] w fun e w' => e = .returned (.bool (agB n ss sup)) ∧ Gr w w' := by
  have hl1 := hA.l1
  have hl2 := hA.l2
  have hm1 := hA.m1
  have hm2 := hA.m2
  have HA := Lib.hid hA
  have HS := Lib.hid hS
  have HU := Lib.hid hU
  have Hl1 := Lib.hid hl1
  have Hl2 := Lib.hid hl2
  clear hA hS hU hl1 hl2
  go_enter Tryz.func11, Tryz.ntmps11
  go_wp2_with fail
  obtain ⟨w1, hw1⟩ : ∃ W, W = w.alloc (.cells #[.slice A1 n1 c1, .slice A2 n2 c2] 32) := ⟨_, rfl⟩
  have hg1 : Gr w w1 := by rw [hw1]; exact (Gr.refl _).alloc _
  have y0 : w1.cell? ⟨w.heap.size, 0, none⟩ = some (.slice A1 n1 c1) := by rw [hw1]; simp [go_sem]
  have y1 : w1.cell? ⟨w.heap.size, 1, none⟩ = some (.slice A2 n2 c2) := by rw [hw1]; simp [go_sem]
  rw [← hw1]
  clear hw1
  have hgw := hg1
  refine (l27Code_any n ss [] sup _ (HA.out.gr hgw) (HS.out.gr hgw) (nilAt _) (HU.out.gr hgw)).mono ?_
  rintro e w2 ⟨rfl, h2⟩
  replace hgw := hgw.trans h2
  replace y0 := h2.has y0
  replace y1 := h2.has y1
  by_cases hc : l27Val n ss [] sup n1 = 0
  rotate_left
  · have tc : (l27Val n ss [] sup n1 != 0) = true := by simp [hc]
    have Hc := Lib.hid hc
    clear hc
    go_wp2_with fail
    go_ret
    exact ⟨ret_bool (code27_ag Hl1.out Hc.out).symm, hgw⟩
  obtain ⟨hn, hs, hu⟩ := code27_yes Hl1.out hc
  obtain rfl : n3 = n2 := by rw [← st_len Hl2.out hs]; exact HS.out.sl.ilen.symm
  have tc : (l27Val n ss [] sup n1 != 0) = false := by simp [hc]
  have Hn := Lib.hid hn
  have Hs := Lib.hid hs
  have Hu := Lib.hid hu
  clear hc hn hs hu
  go_wp2_with fail
  refine (l27Point_any n ss sup _ (HA.out.gr hgw) (HS.out.gr hgw) (HU.out.gr hgw) Hn.out).mono ?_
  rintro e w3 ⟨A, m, c, B, k, d, rfl, hL, h3⟩
  have hgx := hgw.trans h3
  go_upto_region 4 with fail
  generalize hw4 : w3.alloc _ = w4
  have h34 : Gr w3 w4 := by rw [← hw4]; exact (Gr.refl _).alloc _
  have hgx4 := hgx.trans h34
  clear hw4 hL
  go_wp2_with fail
  go_ret
  exact ⟨ret_bool (ag_yes Hn.out Hs.out Hu.out).symm, hgx4⟩
set_option maxHeartbeats 6400000 in
set_option maxRecDepth 100000 in
theorem RootLevel_any {A1 A2 A3 A4 : Option Addr} {n1 c1 n2 c2 n3 c3 n4 c4 : Nat} (n : GNet) (ss sup : List Int) (w : World) (hA : NetAt w A1 n1 c1 A2 n2 c2 n) (hS : SlAt w 1 A3 n3 c3 (ints ss)) (hU : SlAt w 1 A4 n4 c4 (ints sup)) :
    Calls Tryz.prog 18 #[.agg #[.slice A1 n1 c1, .slice A2 n2 c2], .slice A3 n3 c3, .slice A4 n4 c4] w fun e w' => e = .returned (.tuple #[.int .i64 (rtLev n ss sup), .int .i64 (rtCode n ss sup)]) ∧ Gr w w' := by
  have hl1 := hA.l1
  have hl2 := hA.l2
  have hm1 := hA.m1
  have hm2 := hA.m2
  have HA := Lib.hid hA
  have HS := Lib.hid hS
  have HU := Lib.hid hU
  have Hl1 := Lib.hid hl1
  have Hl2 := Lib.hid hl2
  clear hA hS hU hl1 hl2
  go_enter Tryz.func18, Tryz.ntmps18
  go_wp2_with fail
  obtain ⟨w1, hw1⟩ : ∃ W, W = w.alloc (.cells #[.slice A1 n1 c1, .slice A2 n2 c2] 32) := ⟨_, rfl⟩
  have hg1 : Gr w w1 := by rw [hw1]; exact (Gr.refl _).alloc _
  have y0 : w1.cell? ⟨w.heap.size, 0, none⟩ = some (.slice A1 n1 c1) := by rw [hw1]; simp [go_sem]
  have y1 : w1.cell? ⟨w.heap.size, 1, none⟩ = some (.slice A2 n2 c2) := by rw [hw1]; simp [go_sem]
  rw [← hw1]
  clear hw1
  have hgw := hg1
  refine (checkSettings_any n ss _ (HA.out.gr hgw) (HS.out.gr hgw)).mono ?_
  rintro e w2 ⟨rfl, h2⟩
  replace hgw := hgw.trans h2
  replace y0 := h2.has y0
  replace y1 := h2.has y1
  by_cases hc : stCode n ss = 0
  rotate_left
  · have tc : (stCode n ss != 0) = true := by simp [hc]
    have Hc := Lib.hid hc
    clear hc
    go_wp2_with fail
    go_ret2
    exact ⟨by rw [lev_no (by rw [rt_st Hc.out]; exact Hc.out), rt_st Hc.out] <;> rfl, hgw⟩
  obtain ⟨hn, hs⟩ := st_zero hc
  obtain rfl : n3 = n2 := by rw [← st_len Hl2.out hs]; exact HS.out.sl.ilen.symm
  have Hn := Lib.hid hn
  have Hs := Lib.hid hs
  have Hc := Lib.hid hc
  rw [hc]
  clear hc hn hs
  go_wp2_with fail
  refine (areSupplies_any (A1 := A1) (n1 := n1) (c1 := c1) (A2 := A2) (c2 := c2) (n2 := n3) sup _ (HU.out.gr hgw) hm1).mono ?_
  rintro e w4 ⟨rfl, h4⟩
  replace hgw := hgw.trans h4
  replace y0 := h4.has y0
  replace y1 := h4.has y1
  cases hu : supOk n1 sup with
  | false =>
    have Hr : Hid (rtCode n ss sup = 3) := Lib.hid (rt_sup Hc.out (by rw [Hl1.out]; exact hu))
    clear hu
    go_wp2_with fail
    go_ret2
    exact ⟨by rw [lev_no (by rw [Hr.out]; decide), Hr.out] <;> rfl, hgw⟩
  | true =>
    have Hu : Hid (supOk n.nodes.length sup = true) := Lib.hid (by rw [Hl1.out]; exact hu)
    clear hu
    go_wp2_with fail
    refine (areGood_any n ss sup _ (HA.out.gr hgw) (HS.out.gr hgw) (HU.out.gr hgw) Hn.out).mono ?_
    rintro e w5 ⟨rfl, h5⟩
    replace hgw := hgw.trans h5
    replace y0 := h5.has y0
    replace y1 := h5.has y1
    cases hg : gdB n ss sup with
    | false =>
      have Hr : Hid (rtCode n ss sup = 7) := Lib.hid (rt_bad Hn.out Hs.out Hu.out hg)
      clear hg
      go_wp2_with fail
      go_ret2
      exact ⟨by rw [lev_no (by rw [Hr.out]; decide), Hr.out] <;> rfl, hgw⟩
    | true =>
      have Hr : Hid (rtCode n ss sup = 0) := Lib.hid (rt_good Hn.out Hs.out Hu.out hg)
      have Hoc := Lib.hid (gd_code hg)
      clear hg hg1 h2 h4 h5
      go_wp2_with fail
      refine (openNetwork_any n ss _ (HA.out.gr hgw) (HS.out.gr hgw) Hn.out).mono ?_
      rintro e w2 ⟨B1, d1, B2, m, d2, X, c, rfl, hN, hX, hg2⟩
      have hgw2 := hgw.trans hg2
      replace y0 := hg2.has y0
      replace y1 := hg2.has y1
      go_upto_region 9 with fail
      obtain ⟨w3, hw3⟩ : ∃ W, W = w2.alloc (.cells #[.slice B1 n1 d1, .slice B2 m d2] 32) := ⟨_, rfl⟩
      have h23 : Gr w2 w3 := by rw [hw3]; exact (Gr.refl _).alloc _
      have o0 : w3.cell? ⟨w2.heap.size, 0, none⟩ = some (.slice B1 n1 d1) := by rw [hw3]; simp [go_sem]
      have o1 : w3.cell? ⟨w2.heap.size, 1, none⟩ = some (.slice B2 m d2) := by rw [hw3]; simp [go_sem]
      have HN := Lib.hid (hN.gr h23)
      have HX := Lib.hid (hX.gr h23)
      have hgw3 := hgw2.trans h23
      replace y0 := h23.has y0
      replace y1 := h23.has y1
      rw [← hw3]
      clear hw3 hN hX
      go_wp2_with fail
      refine (OperatingPoint_any (opNet n ss) sup _ HN.out (HU.out.gr hgw3)).mono ?_
      rintro e w4 ⟨A, m', c', B, k, d, rfl, hF, hL, hg4⟩
      have hgw4 := hgw3.trans hg4
      have h34 := hg4
      replace y0 := hg4.has y0
      replace y1 := hg4.has y1
      go_upto_region 10 with fail
      obtain ⟨w5, hw5⟩ : ∃ W, W = w4.alloc (.cells #[.slice A m' c', .slice B k d] 56) := ⟨_, rfl⟩
      have h45 : Gr w4 w5 := by rw [hw5]; exact (Gr.refl _).alloc _
      have q0 : w5.cell? ⟨w4.heap.size, 0, none⟩ = some (.slice A m' c') := by rw [hw5]; simp [go_sem]
      have q1 : w5.cell? ⟨w4.heap.size, 1, none⟩ = some (.slice B k d) := by rw [hw5]; simp [go_sem]
      replace HN := Lib.hid ((HN.out.gr hg4).gr h45)
      replace HX := Lib.hid ((HX.out.gr hg4).gr h45)
      have HF := Lib.hid (hF.gr h45)
      have HL := Lib.hid (hL.gr h45)
      have hgw5 := hgw4.trans h45
      replace y0 := h45.has y0
      replace y1 := h45.has y1
      rw [← hw5]
      clear hw5 hF hL o0 o1
      obtain ⟨z, hz⟩ : ∃ z, z = (opLv (opNet n ss) sup true).getD 0 0 := ⟨_, rfl⟩
      have hll : (opLv (opNet n ss) sup true).length = n1 := by rw [op_lv_len Hoc.out]; exact Hl1.out
      have h01 : 0 < n1 := by have := (netOk_all Hn.out).1.1; have := Hl1.out; omega
      have hk1 : k = n1 := by rw [← hll]; exact HL.out.sl.ilen.symm
      have tk : (0 : Int) < (k : Int) := by omega
      have tk' : 0 < k := by omega
      obtain ⟨bz, oz, hAz, hbz, z0⟩ := HL.out.sl.int (k := 0) (x := z) (by rw [hz]; exact get_int (by omega))
      subst hAz
      rw [Nat.add_zero] at z0
      have Hz : Hid (rtLev n ss sup = z) := Lib.hid (by rw [rtLev, if_pos Hr.out, hz])
      clear hz hll hk1
      go_wp2_with fail
      go_ret2
      exact ⟨by rw [Hz.out, Hr.out] <;> rfl, hgw5⟩
set_option maxHeartbeats 6400000 in
set_option maxRecDepth 100000 in
theorem spRootLevel_any {A1 A2 A3 A4 : Option Addr} {n1 c1 n2 c2 n3 c3 n4 c4 : Nat} (n : GNet) (ss sup : List Int) (w : World) (hA : NetAt w A1 n1 c1 A2 n2 c2 n) (hS : SlAt w 1 A3 n3 c3 (ints ss)) (hU : SlAt w 1 A4 n4 c4 (ints sup)) :
    Calls Tryz.prog 17 #[.agg #[.slice A1 n1 c1, .slice A2 n2 c2], .slice A3 n3 c3, .slice A4 n4 c4] w fun e w' => e = .returned (.tuple #[.int .i64 (rtLev n ss sup), .int .i64 (rtCode n ss sup)]) ∧ Gr w w' := by
  have hl1 := hA.l1
  have hl2 := hA.l2
  have hm1 := hA.m1
  have hm2 := hA.m2
  have HA := Lib.hid hA
  have HS := Lib.hid hS
  have HU := Lib.hid hU
  have Hl1 := Lib.hid hl1
  have Hl2 := Lib.hid hl2
  clear hA hS hU hl1 hl2
  go_enter Tryz.func17, Tryz.ntmps17
  go_wp2_with fail
  obtain ⟨w1, hw1⟩ : ∃ W, W = w.alloc (.cells #[.slice A1 n1 c1, .slice A2 n2 c2] 32) := ⟨_, rfl⟩
  have hg1 : Gr w w1 := by rw [hw1]; exact (Gr.refl _).alloc _
  have y0 : w1.cell? ⟨w.heap.size, 0, none⟩ = some (.slice A1 n1 c1) := by rw [hw1]; simp [go_sem]
  have y1 : w1.cell? ⟨w.heap.size, 1, none⟩ = some (.slice A2 n2 c2) := by rw [hw1]; simp [go_sem]
  rw [← hw1]
  clear hw1
  have hgw := hg1
  refine (l27Code_any n ss [] sup _ (HA.out.gr hgw) (HS.out.gr hgw) (nilAt _) (HU.out.gr hgw)).mono ?_
  rintro e w2 ⟨rfl, h2⟩
  replace hgw := hgw.trans h2
  replace y0 := h2.has y0
  replace y1 := h2.has y1
  by_cases hc : l27Val n ss [] sup n1 = 0
  rotate_left
  · have tc : (l27Val n ss [] sup n1 != 0) = true := by simp [hc]
    have Hc := Lib.hid hc
    clear hc
    go_wp2_with fail
    go_ret2
    exact ⟨by rw [lev_no (by rw [code27_rt Hl1.out Hc.out]; exact Hc.out), code27_rt Hl1.out Hc.out] <;> rfl, hgw⟩
  obtain ⟨hn, hs, hu⟩ := code27_yes Hl1.out hc
  obtain rfl : n3 = n2 := by rw [← st_len Hl2.out hs]; exact HS.out.sl.ilen.symm
  have tc : (l27Val n ss [] sup n1 != 0) = false := by simp [hc]
  have Hn := Lib.hid hn
  have Hs := Lib.hid hs
  have Hu := Lib.hid hu
  clear hc hn hs hu
  go_wp2_with fail
  refine (l27Point_any n ss sup _ (HA.out.gr hgw) (HS.out.gr hgw) (HU.out.gr hgw) Hn.out).mono ?_
  rintro e w3 ⟨A, m, c, B, k, d, rfl, hL, h3⟩
  have hgx := hgw.trans h3
  go_upto_region 5 with fail
  obtain ⟨w4, hw4⟩ : ∃ W, W = w3.alloc (.cells #[.slice A m c, .slice B k d] 56) := ⟨_, rfl⟩
  have h34 : Gr w3 w4 := by rw [hw4]; exact (Gr.refl _).alloc _
  have q1 : w4.cell? ⟨w3.heap.size, 1, none⟩ = some (.slice B k d) := by rw [hw4]; simp [go_sem]
  have hgx4 := hgx.trans h34
  rw [← hw4]
  clear hw4
  cases hg : gdB n ss sup with
  | false =>
    have Hr : Hid (rtCode n ss sup = 7) := Lib.hid (rt_bad Hn.out Hs.out Hu.out hg)
    clear hg hL
    go_wp2_with fail
    go_ret2
    exact ⟨by rw [lev_no (by rw [Hr.out]; decide), Hr.out] <;> rfl, hgx4⟩
  | true =>
    have Hr : Hid (rtCode n ss sup = 0) := Lib.hid (rt_good Hn.out Hs.out Hu.out hg)
    have HL := Lib.hid ((hL hg).gr h34)
    have Hoc := Lib.hid (gd_code hg)
    obtain ⟨z, hz⟩ : ∃ z, z = (opLv (opNet n ss) sup true).getD 0 0 := ⟨_, rfl⟩
    have hll : (opLv (opNet n ss) sup true).length = n1 := by rw [op_lv_len Hoc.out]; exact Hl1.out
    have h01 : 0 < n1 := by have := (netOk_all Hn.out).1.1; have := Hl1.out; omega
    have hk1 : k = n1 := by rw [← hll]; exact HL.out.sl.ilen.symm
    have tk : (0 : Int) < (k : Int) := by omega
    have tk' : 0 < k := by omega
    obtain ⟨bz, oz, hAz, hbz, z0⟩ := HL.out.sl.int (k := 0) (x := z) (by rw [hz]; exact get_int (by omega))
    subst hAz
    rw [Nat.add_zero] at z0
    have Hz : Hid (rtLev n ss sup = z) := Lib.hid (by rw [rtLev, if_pos Hr.out, hz])
    clear hz hll hk1 hg hL
    go_wp2_with fail
    go_ret2
    exact ⟨by rw [Hz.out, Hr.out] <;> rfl, hgx4⟩
end Go.Proofs.YthhmhigddmimjaaGreat
