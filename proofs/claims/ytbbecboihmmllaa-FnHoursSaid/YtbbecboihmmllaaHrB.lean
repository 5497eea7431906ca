import Derived.Test.YtbbecboihmmllaaHrA
import Derived.Deep.RegionHeld3
/-
  An hour of the reference. Printed by gen_hr7.py.
-/
set_option linter.unusedSimpArgs false
set_option linter.unusedVariables false
namespace Go.Proofs.Ytbbecboihmmllaa
open Go.ChangeShapes Go.WideShapes Go.ChangeAt Go.RowKit

theorem spAbs_any (a : Int) (w : World) (h : -1000000000000000 ≤ a ∧ a ≤ 1000000000000000) : Calls Try.prog 44 #[.int .i64 a] w fun e w' => e = .returned (.int .i64 (sgO a * a)) ∧ w = w' := by
  have e : max a (-a) = sgO a * a := by rw [sgO]; by_cases h0 : a < 0 <;> simp only [h0, if_true, if_false] <;> omega
  have E := Lib.hid e
  clear e
  go_enter Try.func44, Try.ntmps44
  go_wp2_with fail
  go_ret
  exact ⟨ret_int E.out, rfl⟩
theorem lit_b {w2 X : World} {L : Nat} (h : Gr w2 X) (hL : X.heap.size = L) : (X.alloc (.cells #[] 2)).ownsRow w2.heap.size 2 1 (.slice (some ⟨L, 0, none⟩) 0 0) 0 [] := by
  subst hL
  exact own_base (World.ownsRow_lit X (e := 2) (size := 1) #[] 0 (Nat.le_refl _) (by unfold maxLen; omega) rfl) h.size
theorem blk_b {X : World} {L : Nat} {ob : Obj} (hL : X.heap.size = L) : (X.alloc ob).heap[L]? = some ob := by
  subst hL
  exact heap_alloc_new X _
theorem blk_up {X : World} {k : Nat} {o ob : Obj} (h : X.heap[k]? = some o) : (X.alloc ob).heap[k]? = some o := ((Gr.refl X).alloc ob).below.block k (rb_lt h) |>.trans h
theorem blk_far {X Y : World} {k : Nat} {o : Obj} {row : Option Nat} (h : X.heap[k]? = some o) (hg : X.grownBy Y row) (hne : row ≠ some k) : Y.heap[k]? = some o := (hg.block k (rb_lt h) hne.symm).trans h
theorem own_far {X Y : World} {base n s : Nat} {e : TypeId} {v : Value} {xs : List Value} {row : Option Nat} (h : X.ownsRow base e s v n xs) (hg : X.grownBy Y row) (hne : ∀ k, v.ownBlock = some k → row ≠ some k) : Y.ownsRow base e s v n xs :=
  own_chg h (S := fun k => row = some k) (chg_of_grown hg (fun k e => e)) (fun k hk e => hne k hk e)
theorem gr_far {w2 X Y : World} {l : Nat} (h : Gr w2 X) (hg : X.grownBy Y (some l)) (hl : w2.heap.size ≤ l) : Gr w2 Y := h.grown hg (fun j e => by injection e with e; omega)
theorem gr_set3 {w2 X : World} {f : Nat} {v0 v1 v2 : Value} (h : Gr w2 X) (hf : w2.heap.size ≤ f) : Gr w2 (((X.setCell ⟨f, 0, none⟩ v0).setCell ⟨f, 1, none⟩ v1).setCell ⟨f, 2, none⟩ v2) := ((h.setCell hf _).setCell hf _).setCell hf _
/-- The block that was made for the result is filled: what the rest needs of it. -/
theorem fin_set {w2 X : World} {f n1 k1 k2 k3 : Nat} {E1 E2 E3 : Option Addr} {b : GBuf} (hf : X.heap[f]? = some (.cells #[.slice none 0 0, .slice none 0 0, .slice none 0 0] 30 (0, 0))) (hlo : X.ownsRow w2.heap.size 2 1 (.slice E1 n1 k1) n1 (ints b.lo)) (hhi : X.ownsRow w2.heap.size 2 1 (.slice E2 n1 k2) n1 (ints b.hi)) (hnw : X.ownsRow w2.heap.size 2 1 (.slice E3 n1 k3) n1 (ints b.nw)) (hn : n1 ≤ 1048576) (hg : Gr w2 X) (h2 : w2.heap.size ≤ f) :
    (((X.setCell ⟨f, 0, none⟩ (.slice E1 n1 k1)).setCell ⟨f, 1, none⟩ (.slice E2 n1 k2)).setCell ⟨f, 2, none⟩ (.slice E3 n1 k3)).heap[f]? = some (.cells #[.slice E1 n1 k1, .slice E2 n1 k2, .slice E3 n1 k3] 30 (0, 0)) ∧
    BufOwn (((X.setCell ⟨f, 0, none⟩ (.slice E1 n1 k1)).setCell ⟨f, 1, none⟩ (.slice E2 n1 k2)).setCell ⟨f, 2, none⟩ (.slice E3 n1 k3)) w2.heap.size E1 n1 k1 E2 n1 k2 E3 n1 k3 b ∧
    Gr w2 (((X.setCell ⟨f, 0, none⟩ (.slice E1 n1 k1)).setCell ⟨f, 1, none⟩ (.slice E2 n1 k2)).setCell ⟨f, 2, none⟩ (.slice E3 n1 k3)) := by
  have hcc : Chg (fun k => k = f) X (((X.setCell ⟨f, 0, none⟩ (.slice E1 n1 k1)).setCell ⟨f, 1, none⟩ (.slice E2 n1 k2)).setCell ⟨f, 2, none⟩ (.slice E3 n1 k3)) := ((chg_put _ _).trans (chg_put _ _)).trans (chg_put _ _)
  have hk : ∀ {A : Option Addr} {c : Nat} {xs : List Value}, X.ownsRow w2.heap.size 2 1 (.slice A n1 c) n1 xs → ∀ k, (Value.slice A n1 c).ownBlock = some k → ¬ k = f := by
    intro A c xs h k hk e
    have := own_blk_at h hk
    subst this
    subst e
    exact own_type_blk' h hf (by decide)
  exact ⟨by simp [World.setCell, Array.getElem?_modify, hf], ⟨own_chg hlo hcc (hk hlo), own_chg hhi hcc (hk hhi), own_chg hnw hcc (hk hnw), hn, hn, hn⟩, gr_set3 hg h2⟩
theorem fin_new {w2 X : World} {n1 k1 k2 k3 : Nat} {E1 E2 E3 : Option Addr} {b : GBuf} (hlo : X.ownsRow w2.heap.size 2 1 (.slice E1 n1 k1) n1 (ints b.lo)) (hhi : X.ownsRow w2.heap.size 2 1 (.slice E2 n1 k2) n1 (ints b.hi)) (hnw : X.ownsRow w2.heap.size 2 1 (.slice E3 n1 k3) n1 (ints b.nw)) (hn : n1 ≤ 1048576) (hg : Gr w2 X) :
    (X.alloc (.cells #[.slice E1 n1 k1, .slice E2 n1 k2, .slice E3 n1 k3] 30)).heap[X.heap.size]? = some (.cells #[.slice E1 n1 k1, .slice E2 n1 k2, .slice E3 n1 k3] 30 (0, 0)) ∧ BufOwn (X.alloc (.cells #[.slice E1 n1 k1, .slice E2 n1 k2, .slice E3 n1 k3] 30)) w2.heap.size E1 n1 k1 E2 n1 k2 E3 n1 k3 b ∧ Gr w2 (X.alloc (.cells #[.slice E1 n1 k1, .slice E2 n1 k2, .slice E3 n1 k3] 30)) :=
  have h := (Gr.refl X).alloc (.cells #[.slice E1 n1 k1, .slice E2 n1 k2, .slice E3 n1 k3] 30)
  ⟨heap_alloc_new X _, ⟨own_gr hlo h, own_gr hhi h, own_gr hnw h, hn, hn, hn⟩, hg.trans h⟩
set_option maxHeartbeats 6400000 in
set_option maxRecDepth 100000 in
theorem l19Step_any {A1 A2 : Option Addr} {n1 c1 n2 c2 : Nat} {B1 B2 B3 : Option Addr} {m1 d1 m2 d2 m3 d3 : Nat} {G1 G2 : Option Addr} {q1 r1 q2 r2 : Nat} (n : GNet) (b : GBuf) (fl sup : List Int) (w : World) (hN : NetAt w A1 n1 c1 A2 n2 c2 n) (hB : BufAt w B1 m1 d1 B2 m2 d2 B3 m3 d3 b) (hF : SlAt w 1 G1 q1 r1 (ints fl)) (hS : SlAt w 1 G2 q2 r2 (ints sup)) (hc : hrCode n b fl sup = 0) :
    Calls Try.prog 21 #[.agg #[.slice A1 n1 c1, .slice A2 n2 c2], .agg #[.slice B1 m1 d1, .slice B2 m2 d2, .slice B3 m3 d3], .agg #[.slice G1 q1 r1, .slice G2 q2 r2]] w fun e w' => ∃ E1 e1 k1 E2 e2 k2 E3 e3 k3, e = .returned (.tuple #[.agg #[.slice E1 e1 k1, .slice E2 e2 k2, .slice E3 e3 k3], .bool (hsOk n b fl sup)]) ∧ (hsOk n b fl sup = true → BufOwn w' w.heap.size E1 e1 k1 E2 e2 k2 E3 e3 k3 (nxB n b fl sup)) ∧ Gr w w' := by
  obtain ⟨i0, hi0, hz0, hz1, hz2⟩ := info_parts infoInt64
  have hpos := (netOk_all (hr_lens hc).1).1.1
  have hbl := bfOk_all (hr_lens hc).2.1
  obtain ⟨g1, g2, g3, g4, g5, g6, g7⟩ := hr_lens hc
  have hq1 : n2 = q1 := by have := hF.sl.ilen; have := hN.l2; omega
  subst hq1
  have Hf := Lib.hid g3
  have Hc := Lib.hid hc
  have hm1x : n1 = m1 := by have := hB.lo.sl.ilen; have := hbl.1.1; have := hN.l1; omega
  have hm2x : n1 = m2 := by have := hB.hi.sl.ilen; have := hbl.1.2.1; have := hN.l1; omega
  subst hm1x
  subst hm2x
  rw [hN.l1] at hpos
  clear hbl
  clear hc g1 g2 g3 g4 g5 g6 g7
  have hl1 := hN.l1
  have hl2 := hN.l2
  have hm1 := hN.m1
  have hm2 := hN.m2
  obtain ⟨w2, hw2⟩ : ∃ W, W = (((w.alloc (.cells #[.slice A1 n1 c1, .slice A2 n2 c2] 27)).alloc (.cells #[.slice B1 n1 d1, .slice B2 n1 d2, .slice B3 m3 d3] 30)).alloc (.cells #[.slice G1 n2 r1, .slice G2 q2 r2] 32)).alloc (.cells #[.slice none 0 0, .slice none 0 0, .slice none 0 0] 30) := ⟨_, rfl⟩
  have hg2 : Gr w w2 := by rw [hw2]; exact ((((Gr.refl _).alloc _).alloc _).alloc _).alloc _
  have y0 : w2.cell? ⟨w.heap.size, 0, none⟩ = some (.slice A1 n1 c1) := by rw [hw2]; simp [go_sem]
  have y1 : w2.cell? ⟨w.heap.size, 1, none⟩ = some (.slice A2 n2 c2) := by rw [hw2]; simp [go_sem]
  have z0 : w2.cell? ⟨w.heap.size + 1, 0, none⟩ = some (.slice B1 n1 d1) := by rw [hw2]; simp [go_sem]
  have z1 : w2.cell? ⟨w.heap.size + 1, 1, none⟩ = some (.slice B2 n1 d2) := by rw [hw2]; simp [go_sem]
  have z2 : w2.cell? ⟨w.heap.size + 1, 2, none⟩ = some (.slice B3 m3 d3) := by rw [hw2]; simp [go_sem]
  have u0 : w2.cell? ⟨w.heap.size + 2, 0, none⟩ = some (.slice G1 n2 r1) := by rw [hw2]; simp [go_sem]
  have u1 : w2.cell? ⟨w.heap.size + 2, 1, none⟩ = some (.slice G2 q2 r2) := by rw [hw2]; simp [go_sem]
  have hR : w2.heap[w.heap.size + 3]? = some (.cells #[.slice none 0 0, .slice none 0 0, .slice none 0 0] 30 (0, 0)) := by
    have e : w.heap.size + 3 = (((w.alloc (.cells #[.slice A1 n1 c1, .slice A2 n2 c2] 27)).alloc (.cells #[.slice B1 n1 d1, .slice B2 n1 d2, .slice B3 m3 d3] 30)).alloc (.cells #[.slice G1 n2 r1, .slice G2 q2 r2] 32)).heap.size := by simp
    rw [hw2, e]; exact heap_alloc_new _ _
  have HR := Lib.hid hR
  have hsw := rb_lt hR
  clear hR
  have HN := Lib.hid (hN.gr hg2)
  have HB := Lib.hid (hB.gr hg2)
  have Hl1 := Lib.hid hl1
  have Hl2 := Lib.hid hl2
  have HF := Lib.hid (hF.gr hg2)
  have HS := Lib.hid (hS.gr hg2)
  clear hN hB hl1 hl2 hF hS
  go_enter Try.func21, Try.ntmps21
  go_upto_region 1 with fail
  rw [← hw2]
  clear hw2
  go_wp2_with fail
  go_loopw [8] (fun i wr => ∃ k : Nat, k ≤ n2 ∧ i = .int .i64 k ∧ (∀ j, j < k → ovAt n fl j = false) ∧ Gr w2 wr) (fun i _ => n2 - (intOf i).toNat)
  case atStart => exact ⟨0, Nat.zero_le _, rfl, fun j h => absurd h (by omega), Gr.refl _⟩
  case round =>
    obtain ⟨k, hk, rfl, hno, hgr⟩ := hrel
    have Hno := Lib.hid hno
    clear hno
    replace y0 := hgr.has y0
    replace y1 := hgr.has y1
    replace z0 := hgr.has z0
    replace z1 := hgr.has z1
    replace z2 := hgr.has z2
    replace u0 := hgr.has u0
    replace u1 := hgr.has u1
    by_cases hlt : k < n2
    · obtain ⟨p, hp⟩ : ∃ p, n.pipes[k]? = some p := ⟨_, List.getElem?_eq_getElem (by have := Hl2.out; omega)⟩
      obtain ⟨x, hx⟩ : ∃ x, fl[k]? = some x := ⟨_, List.getElem?_eq_getElem (by have := HF.out.sl.ilen; omega)⟩
      obtain ⟨bp, op, hAA, hbp, e0, e1, e2, e3, e4⟩ := (HN.out.gr hgr).pipes.pp hp
      subst hAA
      obtain ⟨b', o', hAA, hb', x0⟩ := (HF.out.gr hgr).sl.int hx
      subst hAA
      have hxb : -30000 ≤ x ∧ x ≤ 30000 := (flOk_all Hf.out).2 x (List.mem_of_getElem? hx)
      have hov : ovAt n fl k = decide (p.lim < sgO x * x) := by
        have e1 : n.pipes.getD k dP = p := by rw [List.getD_eq_getElem?_getD, hp]; rfl
        have e2 : fl.getD k 0 = x := by rw [List.getD_eq_getElem?_getD, hx]; rfl
        rw [ovAt, e1, e2, Bool.eq_iff_iff, Bool.not_eq_true', decide_eq_false_iff_not, decide_eq_true_eq]
        exact abs_lim.symm
      have Hov := Lib.hid hov
      have t1 : (k : Int) < (n2 : Int) := by omega
      have t0 : (0 : Int) ≤ (k : Int) := by omega
      clear hp hx hov
      go_upto_region 4 with fail
      refine wp_region_text (fun w' => Gr wr w') (by kernel_rfl) (by kernel_rfl) (by decide) (Gr.refl _).drew ?_
      repeat (first
        | ((with_reducible refine wpText_skip ?_ ?_)
           · rfl
           simp only [Act.put, List.setIfInBounds_toArray, List.set_cons_zero, List.set_cons_succ])
        | ((with_reducible refine wpText_yield (v := ?_) ?_ ?_ ?_)
           rotate_left
           · rfl
           · (intro W hW; have ke4 := hW.has e4; have kx0 := hW.has x0; have ku0 := hW.has u0; have ky1 := hW.has y1; first | (go_simp; done) | (go_simp; with_reducible rfl))
           simp only [Act.put, List.setIfInBounds_toArray, List.set_cons_zero, List.set_cons_succ])
        | ((with_reducible refine wpText_yield1 (v := ?_) ?_ ?_ ?_)
           rotate_left
           · rfl
           · (intro W hW; have ke4 := hW.has e4; have kx0 := hW.has x0; have ku0 := hW.has u0; have ky1 := hW.has y1; first | (go_simp; done) | (go_simp; with_reducible rfl))
           simp only [Act.put, List.setIfInBounds_toArray, List.set_cons_zero, List.set_cons_succ]))
      refine wpText_do (.int .i64 (sgO x * x)) (by rfl) (fun W hW K hK => ?_) ?_
      ·
        have ke4 := hW.has e4
        have kx0 := hW.has x0
        have ku0 := hW.has u0
        have ky1 := hW.has y1
        go_simp
        refine (spAbs_any x _ (by omega)).mono ?_
        rintro e w' ⟨rfl, rfl⟩
        exact hK _ hW
      simp only [Act.put, List.setIfInBounds_toArray, List.set_cons_zero, List.set_cons_succ]
      repeat (first
        | ((with_reducible refine wpText_skip ?_ ?_)
           · rfl
           simp only [Act.put, List.setIfInBounds_toArray, List.set_cons_zero, List.set_cons_succ])
        | ((with_reducible refine wpText_yield (v := ?_) ?_ ?_ ?_)
           rotate_left
           · rfl
           · (intro W hW; have ke4 := hW.has e4; have kx0 := hW.has x0; have ku0 := hW.has u0; have ky1 := hW.has y1; first | (go_simp; done) | (go_simp; with_reducible rfl))
           simp only [Act.put, List.setIfInBounds_toArray, List.set_cons_zero, List.set_cons_succ])
        | ((with_reducible refine wpText_yield1 (v := ?_) ?_ ?_ ?_)
           rotate_left
           · rfl
           · (intro W hW; have ke4 := hW.has e4; have kx0 := hW.has x0; have ku0 := hW.has u0; have ky1 := hW.has y1; first | (go_simp; done) | (go_simp; with_reducible rfl))
           simp only [Act.put, List.setIfInBounds_toArray, List.set_cons_zero, List.set_cons_succ]))
      intro w6 hS6
      have hgr6 := hgr.trans hS6
      clear e0 e1 e2 e3 e4 x0 hS6
      by_cases hq : p.lim < sgO x * x
      · have tq : decide (p.lim < sgO x * x) = true := by simp [hq]
        have Hq : Hid (ovAt n fl k = true) := Lib.hid (Hov.out.trans tq)
        have Hh : Hid (hsOk n b fl sup = false) := Lib.hid (hs_no (lim_no Hl2.out hlt Hq.out))
        have hRw := (hgr6.below.block _ (rb_lt HR.out)).trans HR.out
        have r0 := rb_cell (j := 0) hRw rfl
        have r1' := rb_cell (j := 1) hRw rfl
        have r2' := rb_cell (j := 2) hRw rfl
        have f0 := rb_frozen hRw 0
        have f1 := rb_frozen hRw 1
        have f2 := rb_frozen hRw 2
        have hP : (((w6.setCell ⟨w.heap.size + 3, 0, none⟩ (.slice none 0 0)).setCell ⟨w.heap.size + 3, 1, none⟩ (.slice none 0 0)).setCell ⟨w.heap.size + 3, 2, none⟩ (.slice none 0 0)).heap[w.heap.size + 3]? = some (.cells #[.slice none 0 0, .slice none 0 0, .slice none 0 0] 30 (0, 0)) := by simp [World.setCell, Array.getElem?_modify, hRw]
        have HP := Lib.hid hP
        (try have hq := Int.not_lt.1 hq)
        clear hP hRw
        go_wp2_with fail
        (try simp only [Exit.inBlock, Exit.then])
        refine bodyPost_ret (results_row_tmp Try.results21 _ _ (w.heap.size + 3) 30 #[.slice none 0 0, .slice none 0 0, .slice none 0 0] (0, 0) _ ?_ HP.out Try.underlying30 rfl (by kernel_rfl)) ?_ ?_
        · rfl
        · rfl
        exact ⟨none, 0, 0, none, 0, 0, none, 0, 0, by rw [Hh.out]; rfl, (fun h => by rw [Hh.out] at h; cases h), (((hg2.trans hgr6).setCell (Nat.le_add_right _ 3) _).setCell (Nat.le_add_right _ 3) _).setCell (Nat.le_add_right _ 3) _⟩
      · have tq : decide (p.lim < sgO x * x) = false := by simp [hq]
        have Hq : Hid (ovAt n fl k = false) := Lib.hid (Hov.out.trans tq)
        (try have hq := Int.not_lt.1 hq)
        go_wp2_with fail
        go_roundw
        case rel => exact ⟨k + 1, by omega, by go_num, fun j hj => (by by_cases e : j = k; (· subst e; exact Hq.out); exact Hno.out j (by omega)), hgr6⟩
        case measure => simp [intOf]; omega
    · obtain rfl : n2 = k := by omega
      have Hlim := Lib.hid (lim_yes Hl2.out Hno.out)
      have Hhs := Lib.hid (hs_is (b := b) (sup := sup) Hl1.out Hlim.out)
      replace HN := Lib.hid (HN.out.gr hgr)
      replace HB := Lib.hid (HB.out.gr hgr)
      replace HF := Lib.hid (HF.out.gr hgr)
      replace HS := Lib.hid (HS.out.gr hgr)
      replace HR := Lib.hid ((hgr.below.block _ (rb_lt HR.out)).trans HR.out)
      replace hg2 := hg2.trans hgr
      replace hsw := rb_lt HR.out
      clear hgr Hno hm2
      obtain ⟨bl, ol, rfl, _, HcL'⟩ := HB.out.lo.sl.2 hpos
      obtain ⟨bh, oh, rfl, _, HcH'⟩ := HB.out.hi.sl.2 hpos
      have HcL : Hid (∀ j u, (ints b.lo)[j]? = some u → wr.cell? ((⟨bl, ol, none⟩ : Addr).add j) = some u) := Lib.hid (Sl.cells HB.out.lo.sl)
      have HcH : Hid (∀ j u, (ints b.hi)[j]? = some u → wr.cell? ((⟨bh, oh, none⟩ : Addr).add j) = some u) := Lib.hid (Sl.cells HB.out.hi.sl)
      have HlenL : Hid ((ints b.lo).length = n1 * 1) := Lib.hid HB.out.lo.sl.1
      have HlenH : Hid ((ints b.hi).length = n1 * 1) := Lib.hid HB.out.hi.sl.1
      clear HcL' HcH'
      have kp : ∀ W, Gr wr W → (W.cell? ⟨w.heap.size, 0, none⟩ = some (.slice A1 n1 c1) ∧ W.cell? ⟨w.heap.size, 1, none⟩ = some (.slice A2 n2 c2) ∧ W.cell? ⟨w.heap.size + 1, 0, none⟩ = some (.slice (some ⟨bl, ol, none⟩) n1 d1) ∧ W.cell? ⟨w.heap.size + 1, 1, none⟩ = some (.slice (some ⟨bh, oh, none⟩) n1 d2) ∧ W.cell? ⟨w.heap.size + 1, 2, none⟩ = some (.slice B3 m3 d3) ∧ W.cell? ⟨w.heap.size + 2, 0, none⟩ = some (.slice G1 n2 r1) ∧ W.cell? ⟨w.heap.size + 2, 1, none⟩ = some (.slice G2 q2 r2)) := fun W h => ⟨h.has y0, h.has y1, h.has z0, h.has z1, h.has z2, h.has u0, h.has u1⟩
      go_upto_region 6 with fail
      have A_a : Hid ((wr.alloc (.cells #[] 2)).drew.ownsRow wr.heap.size 2 1 (.slice (some ⟨wr.heap.size, 0, none⟩) 0 0) 0 []) := Lib.hid ((lit_b (Gr.refl wr) (rfl : wr.heap.size = wr.heap.size))).drew
      have G_a : Hid (Gr wr (wr.alloc (.cells #[] 2)).drew) := Lib.hid ((Gr.refl wr).alloc (.cells #[] 2)).drew
      have Z_a : Hid ((wr.alloc (.cells #[] 2)).drew.heap.size = wr.heap.size + 1) := Lib.hid (by simp [World.drew] <;> rfl)
      have A_ac : Hid (((wr.alloc (.cells #[] 2)).alloc (.cells #[] 2)).drew.ownsRow wr.heap.size 2 1 (.slice (some ⟨wr.heap.size, 0, none⟩) 0 0) 0 []) := Lib.hid ((own_gr (lit_b (Gr.refl wr) (rfl : wr.heap.size = wr.heap.size)) ((Gr.refl _).alloc _))).drew
      have G_ac : Hid (Gr wr ((wr.alloc (.cells #[] 2)).alloc (.cells #[] 2)).drew) := Lib.hid (((Gr.refl wr).alloc (.cells #[] 2)).alloc (.cells #[] 2)).drew
      have Z_ac : Hid (((wr.alloc (.cells #[] 2)).alloc (.cells #[] 2)).drew.heap.size = wr.heap.size + 2) := Lib.hid (by simp [World.drew] <;> rfl)
      have C_ac : Hid (((wr.alloc (.cells #[] 2)).alloc (.cells #[] 2)).drew.ownsRow wr.heap.size 2 1 (.slice (some ⟨wr.heap.size + 1, 0, none⟩) 0 0) 0 []) := Lib.hid ((lit_b ((Gr.refl wr).alloc (.cells #[] 2)) (show (wr.alloc (.cells #[] 2)).heap.size = wr.heap.size + 1 by simp <;> rfl))).drew
      have A_af : Hid (((wr.alloc (.cells #[] 2)).alloc (.cells #[.slice none 0 0, .slice none 0 0, .slice none 0 0] 30)).drew.ownsRow wr.heap.size 2 1 (.slice (some ⟨wr.heap.size, 0, none⟩) 0 0) 0 []) := Lib.hid ((own_gr (lit_b (Gr.refl wr) (rfl : wr.heap.size = wr.heap.size)) ((Gr.refl _).alloc _))).drew
      have G_af : Hid (Gr wr ((wr.alloc (.cells #[] 2)).alloc (.cells #[.slice none 0 0, .slice none 0 0, .slice none 0 0] 30)).drew) := Lib.hid (((Gr.refl wr).alloc (.cells #[] 2)).alloc (.cells #[.slice none 0 0, .slice none 0 0, .slice none 0 0] 30)).drew
      have Z_af : Hid (((wr.alloc (.cells #[] 2)).alloc (.cells #[.slice none 0 0, .slice none 0 0, .slice none 0 0] 30)).drew.heap.size = wr.heap.size + 2) := Lib.hid (by simp [World.drew] <;> rfl)
      have F_af : Hid (((wr.alloc (.cells #[] 2)).alloc (.cells #[.slice none 0 0, .slice none 0 0, .slice none 0 0] 30)).drew.heap[wr.heap.size + 1]? = some (.cells #[.slice none 0 0, .slice none 0 0, .slice none 0 0] 30 (0, 0))) := Lib.hid (blk_b (show (wr.alloc (.cells #[] 2)).heap.size = wr.heap.size + 1 by simp <;> rfl))
      have A_ca : Hid (((wr.alloc (.cells #[] 2)).alloc (.cells #[] 2)).drew.ownsRow wr.heap.size 2 1 (.slice (some ⟨wr.heap.size + 1, 0, none⟩) 0 0) 0 []) := Lib.hid ((lit_b ((Gr.refl wr).alloc (.cells #[] 2)) (show (wr.alloc (.cells #[] 2)).heap.size = wr.heap.size + 1 by simp <;> rfl))).drew
      have G_ca : Hid (Gr wr ((wr.alloc (.cells #[] 2)).alloc (.cells #[] 2)).drew) := Lib.hid (((Gr.refl wr).alloc (.cells #[] 2)).alloc (.cells #[] 2)).drew
      have Z_ca : Hid (((wr.alloc (.cells #[] 2)).alloc (.cells #[] 2)).drew.heap.size = wr.heap.size + 2) := Lib.hid (by simp [World.drew] <;> rfl)
      have C_ca : Hid (((wr.alloc (.cells #[] 2)).alloc (.cells #[] 2)).drew.ownsRow wr.heap.size 2 1 (.slice (some ⟨wr.heap.size, 0, none⟩) 0 0) 0 []) := Lib.hid ((own_gr (lit_b (Gr.refl wr) (rfl : wr.heap.size = wr.heap.size)) ((Gr.refl _).alloc _))).drew
      have A_fa : Hid (((wr.alloc (.cells #[.slice none 0 0, .slice none 0 0, .slice none 0 0] 30)).alloc (.cells #[] 2)).drew.ownsRow wr.heap.size 2 1 (.slice (some ⟨wr.heap.size + 1, 0, none⟩) 0 0) 0 []) := Lib.hid ((lit_b ((Gr.refl wr).alloc (.cells #[.slice none 0 0, .slice none 0 0, .slice none 0 0] 30)) (show (wr.alloc (.cells #[.slice none 0 0, .slice none 0 0, .slice none 0 0] 30)).heap.size = wr.heap.size + 1 by simp <;> rfl))).drew
      have G_fa : Hid (Gr wr ((wr.alloc (.cells #[.slice none 0 0, .slice none 0 0, .slice none 0 0] 30)).alloc (.cells #[] 2)).drew) := Lib.hid (((Gr.refl wr).alloc (.cells #[.slice none 0 0, .slice none 0 0, .slice none 0 0] 30)).alloc (.cells #[] 2)).drew
      have Z_fa : Hid (((wr.alloc (.cells #[.slice none 0 0, .slice none 0 0, .slice none 0 0] 30)).alloc (.cells #[] 2)).drew.heap.size = wr.heap.size + 2) := Lib.hid (by simp [World.drew] <;> rfl)
      have F_fa : Hid (((wr.alloc (.cells #[.slice none 0 0, .slice none 0 0, .slice none 0 0] 30)).alloc (.cells #[] 2)).drew.heap[wr.heap.size]? = some (.cells #[.slice none 0 0, .slice none 0 0, .slice none 0 0] 30 (0, 0))) := Lib.hid (blk_up (blk_b (rfl : wr.heap.size = wr.heap.size)))
      have A_acf : Hid ((((wr.alloc (.cells #[] 2)).alloc (.cells #[] 2)).alloc (.cells #[.slice none 0 0, .slice none 0 0, .slice none 0 0] 30)).drew.ownsRow wr.heap.size 2 1 (.slice (some ⟨wr.heap.size, 0, none⟩) 0 0) 0 []) := Lib.hid ((own_gr (own_gr (lit_b (Gr.refl wr) (rfl : wr.heap.size = wr.heap.size)) ((Gr.refl _).alloc _)) ((Gr.refl _).alloc _))).drew
      have G_acf : Hid (Gr wr (((wr.alloc (.cells #[] 2)).alloc (.cells #[] 2)).alloc (.cells #[.slice none 0 0, .slice none 0 0, .slice none 0 0] 30)).drew) := Lib.hid ((((Gr.refl wr).alloc (.cells #[] 2)).alloc (.cells #[] 2)).alloc (.cells #[.slice none 0 0, .slice none 0 0, .slice none 0 0] 30)).drew
      have Z_acf : Hid ((((wr.alloc (.cells #[] 2)).alloc (.cells #[] 2)).alloc (.cells #[.slice none 0 0, .slice none 0 0, .slice none 0 0] 30)).drew.heap.size = wr.heap.size + 3) := Lib.hid (by simp [World.drew] <;> rfl)
      have C_acf : Hid ((((wr.alloc (.cells #[] 2)).alloc (.cells #[] 2)).alloc (.cells #[.slice none 0 0, .slice none 0 0, .slice none 0 0] 30)).drew.ownsRow wr.heap.size 2 1 (.slice (some ⟨wr.heap.size + 1, 0, none⟩) 0 0) 0 []) := Lib.hid ((own_gr (lit_b ((Gr.refl wr).alloc (.cells #[] 2)) (show (wr.alloc (.cells #[] 2)).heap.size = wr.heap.size + 1 by simp <;> rfl)) ((Gr.refl _).alloc _))).drew
      have F_acf : Hid ((((wr.alloc (.cells #[] 2)).alloc (.cells #[] 2)).alloc (.cells #[.slice none 0 0, .slice none 0 0, .slice none 0 0] 30)).drew.heap[wr.heap.size + 2]? = some (.cells #[.slice none 0 0, .slice none 0 0, .slice none 0 0] 30 (0, 0))) := Lib.hid (blk_b (show ((wr.alloc (.cells #[] 2)).alloc (.cells #[] 2)).heap.size = wr.heap.size + 2 by simp <;> rfl))
      have A_afc : Hid ((((wr.alloc (.cells #[] 2)).alloc (.cells #[.slice none 0 0, .slice none 0 0, .slice none 0 0] 30)).alloc (.cells #[] 2)).drew.ownsRow wr.heap.size 2 1 (.slice (some ⟨wr.heap.size, 0, none⟩) 0 0) 0 []) := Lib.hid ((own_gr (own_gr (lit_b (Gr.refl wr) (rfl : wr.heap.size = wr.heap.size)) ((Gr.refl _).alloc _)) ((Gr.refl _).alloc _))).drew
      have G_afc : Hid (Gr wr (((wr.alloc (.cells #[] 2)).alloc (.cells #[.slice none 0 0, .slice none 0 0, .slice none 0 0] 30)).alloc (.cells #[] 2)).drew) := Lib.hid ((((Gr.refl wr).alloc (.cells #[] 2)).alloc (.cells #[.slice none 0 0, .slice none 0 0, .slice none 0 0] 30)).alloc (.cells #[] 2)).drew
      have Z_afc : Hid ((((wr.alloc (.cells #[] 2)).alloc (.cells #[.slice none 0 0, .slice none 0 0, .slice none 0 0] 30)).alloc (.cells #[] 2)).drew.heap.size = wr.heap.size + 3) := Lib.hid (by simp [World.drew] <;> rfl)
      have C_afc : Hid ((((wr.alloc (.cells #[] 2)).alloc (.cells #[.slice none 0 0, .slice none 0 0, .slice none 0 0] 30)).alloc (.cells #[] 2)).drew.ownsRow wr.heap.size 2 1 (.slice (some ⟨wr.heap.size + 2, 0, none⟩) 0 0) 0 []) := Lib.hid ((lit_b (((Gr.refl wr).alloc (.cells #[] 2)).alloc (.cells #[.slice none 0 0, .slice none 0 0, .slice none 0 0] 30)) (show ((wr.alloc (.cells #[] 2)).alloc (.cells #[.slice none 0 0, .slice none 0 0, .slice none 0 0] 30)).heap.size = wr.heap.size + 2 by simp <;> rfl))).drew
      have F_afc : Hid ((((wr.alloc (.cells #[] 2)).alloc (.cells #[.slice none 0 0, .slice none 0 0, .slice none 0 0] 30)).alloc (.cells #[] 2)).drew.heap[wr.heap.size + 1]? = some (.cells #[.slice none 0 0, .slice none 0 0, .slice none 0 0] 30 (0, 0))) := Lib.hid (blk_up (blk_b (show (wr.alloc (.cells #[] 2)).heap.size = wr.heap.size + 1 by simp <;> rfl)))
      have A_caf : Hid ((((wr.alloc (.cells #[] 2)).alloc (.cells #[] 2)).alloc (.cells #[.slice none 0 0, .slice none 0 0, .slice none 0 0] 30)).drew.ownsRow wr.heap.size 2 1 (.slice (some ⟨wr.heap.size + 1, 0, none⟩) 0 0) 0 []) := Lib.hid ((own_gr (lit_b ((Gr.refl wr).alloc (.cells #[] 2)) (show (wr.alloc (.cells #[] 2)).heap.size = wr.heap.size + 1 by simp <;> rfl)) ((Gr.refl _).alloc _))).drew
      have G_caf : Hid (Gr wr (((wr.alloc (.cells #[] 2)).alloc (.cells #[] 2)).alloc (.cells #[.slice none 0 0, .slice none 0 0, .slice none 0 0] 30)).drew) := Lib.hid ((((Gr.refl wr).alloc (.cells #[] 2)).alloc (.cells #[] 2)).alloc (.cells #[.slice none 0 0, .slice none 0 0, .slice none 0 0] 30)).drew
      have Z_caf : Hid ((((wr.alloc (.cells #[] 2)).alloc (.cells #[] 2)).alloc (.cells #[.slice none 0 0, .slice none 0 0, .slice none 0 0] 30)).drew.heap.size = wr.heap.size + 3) := Lib.hid (by simp [World.drew] <;> rfl)
      have C_caf : Hid ((((wr.alloc (.cells #[] 2)).alloc (.cells #[] 2)).alloc (.cells #[.slice none 0 0, .slice none 0 0, .slice none 0 0] 30)).drew.ownsRow wr.heap.size 2 1 (.slice (some ⟨wr.heap.size, 0, none⟩) 0 0) 0 []) := Lib.hid ((own_gr (own_gr (lit_b (Gr.refl wr) (rfl : wr.heap.size = wr.heap.size)) ((Gr.refl _).alloc _)) ((Gr.refl _).alloc _))).drew
      have F_caf : Hid ((((wr.alloc (.cells #[] 2)).alloc (.cells #[] 2)).alloc (.cells #[.slice none 0 0, .slice none 0 0, .slice none 0 0] 30)).drew.heap[wr.heap.size + 2]? = some (.cells #[.slice none 0 0, .slice none 0 0, .slice none 0 0] 30 (0, 0))) := Lib.hid (blk_b (show ((wr.alloc (.cells #[] 2)).alloc (.cells #[] 2)).heap.size = wr.heap.size + 2 by simp <;> rfl))
      have A_cfa : Hid ((((wr.alloc (.cells #[] 2)).alloc (.cells #[.slice none 0 0, .slice none 0 0, .slice none 0 0] 30)).alloc (.cells #[] 2)).drew.ownsRow wr.heap.size 2 1 (.slice (some ⟨wr.heap.size + 2, 0, none⟩) 0 0) 0 []) := Lib.hid ((lit_b (((Gr.refl wr).alloc (.cells #[] 2)).alloc (.cells #[.slice none 0 0, .slice none 0 0, .slice none 0 0] 30)) (show ((wr.alloc (.cells #[] 2)).alloc (.cells #[.slice none 0 0, .slice none 0 0, .slice none 0 0] 30)).heap.size = wr.heap.size + 2 by simp <;> rfl))).drew
      have G_cfa : Hid (Gr wr (((wr.alloc (.cells #[] 2)).alloc (.cells #[.slice none 0 0, .slice none 0 0, .slice none 0 0] 30)).alloc (.cells #[] 2)).drew) := Lib.hid ((((Gr.refl wr).alloc (.cells #[] 2)).alloc (.cells #[.slice none 0 0, .slice none 0 0, .slice none 0 0] 30)).alloc (.cells #[] 2)).drew
      have Z_cfa : Hid ((((wr.alloc (.cells #[] 2)).alloc (.cells #[.slice none 0 0, .slice none 0 0, .slice none 0 0] 30)).alloc (.cells #[] 2)).drew.heap.size = wr.heap.size + 3) := Lib.hid (by simp [World.drew] <;> rfl)
      have C_cfa : Hid ((((wr.alloc (.cells #[] 2)).alloc (.cells #[.slice none 0 0, .slice none 0 0, .slice none 0 0] 30)).alloc (.cells #[] 2)).drew.ownsRow wr.heap.size 2 1 (.slice (some ⟨wr.heap.size, 0, none⟩) 0 0) 0 []) := Lib.hid ((own_gr (own_gr (lit_b (Gr.refl wr) (rfl : wr.heap.size = wr.heap.size)) ((Gr.refl _).alloc _)) ((Gr.refl _).alloc _))).drew
      have F_cfa : Hid ((((wr.alloc (.cells #[] 2)).alloc (.cells #[.slice none 0 0, .slice none 0 0, .slice none 0 0] 30)).alloc (.cells #[] 2)).drew.heap[wr.heap.size + 1]? = some (.cells #[.slice none 0 0, .slice none 0 0, .slice none 0 0] 30 (0, 0))) := Lib.hid (blk_up (blk_b (show (wr.alloc (.cells #[] 2)).heap.size = wr.heap.size + 1 by simp <;> rfl)))
      have A_fac : Hid ((((wr.alloc (.cells #[.slice none 0 0, .slice none 0 0, .slice none 0 0] 30)).alloc (.cells #[] 2)).alloc (.cells #[] 2)).drew.ownsRow wr.heap.size 2 1 (.slice (some ⟨wr.heap.size + 1, 0, none⟩) 0 0) 0 []) := Lib.hid ((own_gr (lit_b ((Gr.refl wr).alloc (.cells #[.slice none 0 0, .slice none 0 0, .slice none 0 0] 30)) (show (wr.alloc (.cells #[.slice none 0 0, .slice none 0 0, .slice none 0 0] 30)).heap.size = wr.heap.size + 1 by simp <;> rfl)) ((Gr.refl _).alloc _))).drew
      have G_fac : Hid (Gr wr (((wr.alloc (.cells #[.slice none 0 0, .slice none 0 0, .slice none 0 0] 30)).alloc (.cells #[] 2)).alloc (.cells #[] 2)).drew) := Lib.hid ((((Gr.refl wr).alloc (.cells #[.slice none 0 0, .slice none 0 0, .slice none 0 0] 30)).alloc (.cells #[] 2)).alloc (.cells #[] 2)).drew
      have Z_fac : Hid ((((wr.alloc (.cells #[.slice none 0 0, .slice none 0 0, .slice none 0 0] 30)).alloc (.cells #[] 2)).alloc (.cells #[] 2)).drew.heap.size = wr.heap.size + 3) := Lib.hid (by simp [World.drew] <;> rfl)
      have C_fac : Hid ((((wr.alloc (.cells #[.slice none 0 0, .slice none 0 0, .slice none 0 0] 30)).alloc (.cells #[] 2)).alloc (.cells #[] 2)).drew.ownsRow wr.heap.size 2 1 (.slice (some ⟨wr.heap.size + 2, 0, none⟩) 0 0) 0 []) := Lib.hid ((lit_b (((Gr.refl wr).alloc (.cells #[.slice none 0 0, .slice none 0 0, .slice none 0 0] 30)).alloc (.cells #[] 2)) (show ((wr.alloc (.cells #[.slice none 0 0, .slice none 0 0, .slice none 0 0] 30)).alloc (.cells #[] 2)).heap.size = wr.heap.size + 2 by simp <;> rfl))).drew
      have F_fac : Hid ((((wr.alloc (.cells #[.slice none 0 0, .slice none 0 0, .slice none 0 0] 30)).alloc (.cells #[] 2)).alloc (.cells #[] 2)).drew.heap[wr.heap.size]? = some (.cells #[.slice none 0 0, .slice none 0 0, .slice none 0 0] 30 (0, 0))) := Lib.hid (blk_up (blk_up (blk_b (rfl : wr.heap.size = wr.heap.size))))
      have A_fca : Hid ((((wr.alloc (.cells #[.slice none 0 0, .slice none 0 0, .slice none 0 0] 30)).alloc (.cells #[] 2)).alloc (.cells #[] 2)).drew.ownsRow wr.heap.size 2 1 (.slice (some ⟨wr.heap.size + 2, 0, none⟩) 0 0) 0 []) := Lib.hid ((lit_b (((Gr.refl wr).alloc (.cells #[.slice none 0 0, .slice none 0 0, .slice none 0 0] 30)).alloc (.cells #[] 2)) (show ((wr.alloc (.cells #[.slice none 0 0, .slice none 0 0, .slice none 0 0] 30)).alloc (.cells #[] 2)).heap.size = wr.heap.size + 2 by simp <;> rfl))).drew
      have G_fca : Hid (Gr wr (((wr.alloc (.cells #[.slice none 0 0, .slice none 0 0, .slice none 0 0] 30)).alloc (.cells #[] 2)).alloc (.cells #[] 2)).drew) := Lib.hid ((((Gr.refl wr).alloc (.cells #[.slice none 0 0, .slice none 0 0, .slice none 0 0] 30)).alloc (.cells #[] 2)).alloc (.cells #[] 2)).drew
      have Z_fca : Hid ((((wr.alloc (.cells #[.slice none 0 0, .slice none 0 0, .slice none 0 0] 30)).alloc (.cells #[] 2)).alloc (.cells #[] 2)).drew.heap.size = wr.heap.size + 3) := Lib.hid (by simp [World.drew] <;> rfl)
      have C_fca : Hid ((((wr.alloc (.cells #[.slice none 0 0, .slice none 0 0, .slice none 0 0] 30)).alloc (.cells #[] 2)).alloc (.cells #[] 2)).drew.ownsRow wr.heap.size 2 1 (.slice (some ⟨wr.heap.size + 1, 0, none⟩) 0 0) 0 []) := Lib.hid ((own_gr (lit_b ((Gr.refl wr).alloc (.cells #[.slice none 0 0, .slice none 0 0, .slice none 0 0] 30)) (show (wr.alloc (.cells #[.slice none 0 0, .slice none 0 0, .slice none 0 0] 30)).heap.size = wr.heap.size + 1 by simp <;> rfl)) ((Gr.refl _).alloc _))).drew
      have F_fca : Hid ((((wr.alloc (.cells #[.slice none 0 0, .slice none 0 0, .slice none 0 0] 30)).alloc (.cells #[] 2)).alloc (.cells #[] 2)).drew.heap[wr.heap.size]? = some (.cells #[.slice none 0 0, .slice none 0 0, .slice none 0 0] 30 (0, 0))) := Lib.hid (blk_up (blk_up (blk_b (rfl : wr.heap.size = wr.heap.size))))
      go_cut [9] from 10 to 49 (fun p wx => ∃ X E1 k1 E2 k2 E3 k3, p = .pointer (some ⟨X, 0, none⟩) ∧ wr.heap.size ≤ X ∧ wx.heap[X]? = some (.cells #[.slice E1 n1 k1, .slice E2 n1 k2, .slice E3 n1 k3] 30 (0, 0)) ∧ BufOwn wx wr.heap.size E1 n1 k1 E2 n1 k2 E3 n1 k3 (nxB n b fl sup) ∧ Gr wr wx)
      case first =>
        go_wp2_with fail
        go_region_held3 (fun W => W.cell? ⟨w.heap.size, 0, none⟩ = some (.slice A1 n1 c1) ∧ W.cell? ⟨w.heap.size, 1, none⟩ = some (.slice A2 n2 c2) ∧ W.cell? ⟨w.heap.size + 1, 0, none⟩ = some (.slice (some ⟨bl, ol, none⟩) n1 d1) ∧ W.cell? ⟨w.heap.size + 1, 1, none⟩ = some (.slice (some ⟨bh, oh, none⟩) n1 d2) ∧ W.cell? ⟨w.heap.size + 1, 2, none⟩ = some (.slice B3 m3 d3) ∧ W.cell? ⟨w.heap.size + 2, 0, none⟩ = some (.slice G1 n2 r1) ∧ W.cell? ⟨w.heap.size + 2, 1, none⟩ = some (.slice G2 q2 r2))
          (first
              | with_reducible exact kp _ (Gr.refl _).drew
              | with_reducible exact kp _ ((Gr.refl _).alloc _).drew
              | with_reducible exact kp _ (((Gr.refl _).alloc _).alloc _).drew
              | with_reducible exact kp _ ((((Gr.refl _).alloc _).alloc _).alloc _).drew
              | with_reducible exact kp _ gA
              | with_reducible exact kp _ (gA.alloc _)
              | with_reducible exact kp _ ((gA.alloc _).alloc _)
              | with_reducible exact kp _ gB
              | with_reducible exact kp _ (gB.alloc _)
              | with_reducible exact kp _ ((gB.alloc _).alloc _)
              | with_reducible exact kp _ gE
              | with_reducible exact kp _ (gE.alloc _)
              | with_reducible exact kp _ ((gE.alloc _).alloc _)
              | with_reducible exact kp _ (gr_set3 gE (by omega)))
          (first
            | (refine step_append_lies _ (by rfl) _ _ _ (by rfl) wr.heap.size 2 i0 _ 1 8 Try.underlying28 hi0 hz0 hz1 hz2 rfl (by omega) _ 0 [] (by rfl) A_a.out ⟨bl, ol, none⟩ n1 d1 (ints b.lo) (by rfl) HlenL.out (fun j u hu => (G_a.out).has (HcL.out j u hu)) (ints_one _) hpos (by unfold maxLen; omega) (by omega) (G_a.out).size _ rfl ?_; intro g1 k1 wA hoA hgA hatA hltA; rw [List.nil_append, Nat.zero_add n1] at hoA; rw [Nat.zero_add n1]; have gA : Gr wr wA := gr_far G_a.out hgA (by (try dsimp only); omega); have HE1 := Lib.hid hoA; have hszA := gA.size; have hzA := Z_a.out; have hsA := hgA.size; rw [hzA] at hsA hatA; simp only [Value.ownBlock, Option.some.injEq] at hatA; clear hoA hgA hatA hzA)
            | (refine step_append_lies _ (by rfl) _ _ _ (by rfl) wr.heap.size 2 i0 _ 1 8 Try.underlying28 hi0 hz0 hz1 hz2 rfl (by omega) _ 0 [] (by rfl) A_ac.out ⟨bl, ol, none⟩ n1 d1 (ints b.lo) (by rfl) HlenL.out (fun j u hu => (G_ac.out).has (HcL.out j u hu)) (ints_one _) hpos (by unfold maxLen; omega) (by omega) (G_ac.out).size _ rfl ?_; intro g1 k1 wA hoA hgA hatA hltA; rw [List.nil_append, Nat.zero_add n1] at hoA; rw [Nat.zero_add n1]; have gA : Gr wr wA := gr_far G_ac.out hgA (by (try dsimp only); omega); have HE1 := Lib.hid hoA; have hszA := gA.size; have hzA := Z_ac.out; have hsA := hgA.size; rw [hzA] at hsA hatA; simp only [Value.ownBlock, Option.some.injEq] at hatA; have HL2 := Lib.hid (own_far C_ac.out hgA (fun k hk e => by simp only [Value.ownBlock, Option.some.injEq] at hk e; omega)); have hl2 : ¬ g1 = wr.heap.size + 1 := (by omega); clear hoA hgA hatA hzA)
            | (refine step_append_lies _ (by rfl) _ _ _ (by rfl) wr.heap.size 2 i0 _ 1 8 Try.underlying28 hi0 hz0 hz1 hz2 rfl (by omega) _ 0 [] (by rfl) A_af.out ⟨bl, ol, none⟩ n1 d1 (ints b.lo) (by rfl) HlenL.out (fun j u hu => (G_af.out).has (HcL.out j u hu)) (ints_one _) hpos (by unfold maxLen; omega) (by omega) (G_af.out).size _ rfl ?_; intro g1 k1 wA hoA hgA hatA hltA; rw [List.nil_append, Nat.zero_add n1] at hoA; rw [Nat.zero_add n1]; have gA : Gr wr wA := gr_far G_af.out hgA (by (try dsimp only); omega); have HE1 := Lib.hid hoA; have hszA := gA.size; have hzA := Z_af.out; have hsA := hgA.size; rw [hzA] at hsA hatA; simp only [Value.ownBlock, Option.some.injEq] at hatA; have HFb := Lib.hid (blk_far F_af.out hgA (by simp only [Value.ownBlock, ne_eq, Option.some.injEq]; omega)); clear hoA hgA hatA hzA)
            | (refine step_append_lies _ (by rfl) _ _ _ (by rfl) wr.heap.size 2 i0 _ 1 8 Try.underlying28 hi0 hz0 hz1 hz2 rfl (by omega) _ 0 [] (by rfl) A_ca.out ⟨bl, ol, none⟩ n1 d1 (ints b.lo) (by rfl) HlenL.out (fun j u hu => (G_ca.out).has (HcL.out j u hu)) (ints_one _) hpos (by unfold maxLen; omega) (by omega) (G_ca.out).size _ rfl ?_; intro g1 k1 wA hoA hgA hatA hltA; rw [List.nil_append, Nat.zero_add n1] at hoA; rw [Nat.zero_add n1]; have gA : Gr wr wA := gr_far G_ca.out hgA (by (try dsimp only); omega); have HE1 := Lib.hid hoA; have hszA := gA.size; have hzA := Z_ca.out; have hsA := hgA.size; rw [hzA] at hsA hatA; simp only [Value.ownBlock, Option.some.injEq] at hatA; have HL2 := Lib.hid (own_far C_ca.out hgA (fun k hk e => by simp only [Value.ownBlock, Option.some.injEq] at hk e; omega)); have hl2 : ¬ g1 = wr.heap.size := (by omega); clear hoA hgA hatA hzA)
            | (refine step_append_lies _ (by rfl) _ _ _ (by rfl) wr.heap.size 2 i0 _ 1 8 Try.underlying28 hi0 hz0 hz1 hz2 rfl (by omega) _ 0 [] (by rfl) A_fa.out ⟨bl, ol, none⟩ n1 d1 (ints b.lo) (by rfl) HlenL.out (fun j u hu => (G_fa.out).has (HcL.out j u hu)) (ints_one _) hpos (by unfold maxLen; omega) (by omega) (G_fa.out).size _ rfl ?_; intro g1 k1 wA hoA hgA hatA hltA; rw [List.nil_append, Nat.zero_add n1] at hoA; rw [Nat.zero_add n1]; have gA : Gr wr wA := gr_far G_fa.out hgA (by (try dsimp only); omega); have HE1 := Lib.hid hoA; have hszA := gA.size; have hzA := Z_fa.out; have hsA := hgA.size; rw [hzA] at hsA hatA; simp only [Value.ownBlock, Option.some.injEq] at hatA; have HFb := Lib.hid (blk_far F_fa.out hgA (by simp only [Value.ownBlock, ne_eq, Option.some.injEq]; omega)); clear hoA hgA hatA hzA)
            | (refine step_append_lies _ (by rfl) _ _ _ (by rfl) wr.heap.size 2 i0 _ 1 8 Try.underlying28 hi0 hz0 hz1 hz2 rfl (by omega) _ 0 [] (by rfl) A_acf.out ⟨bl, ol, none⟩ n1 d1 (ints b.lo) (by rfl) HlenL.out (fun j u hu => (G_acf.out).has (HcL.out j u hu)) (ints_one _) hpos (by unfold maxLen; omega) (by omega) (G_acf.out).size _ rfl ?_; intro g1 k1 wA hoA hgA hatA hltA; rw [List.nil_append, Nat.zero_add n1] at hoA; rw [Nat.zero_add n1]; have gA : Gr wr wA := gr_far G_acf.out hgA (by (try dsimp only); omega); have HE1 := Lib.hid hoA; have hszA := gA.size; have hzA := Z_acf.out; have hsA := hgA.size; rw [hzA] at hsA hatA; simp only [Value.ownBlock, Option.some.injEq] at hatA; have HL2 := Lib.hid (own_far C_acf.out hgA (fun k hk e => by simp only [Value.ownBlock, Option.some.injEq] at hk e; omega)); have hl2 : ¬ g1 = wr.heap.size + 1 := (by omega); have HFb := Lib.hid (blk_far F_acf.out hgA (by simp only [Value.ownBlock, ne_eq, Option.some.injEq]; omega)); clear hoA hgA hatA hzA)
            | (refine step_append_lies _ (by rfl) _ _ _ (by rfl) wr.heap.size 2 i0 _ 1 8 Try.underlying28 hi0 hz0 hz1 hz2 rfl (by omega) _ 0 [] (by rfl) A_afc.out ⟨bl, ol, none⟩ n1 d1 (ints b.lo) (by rfl) HlenL.out (fun j u hu => (G_afc.out).has (HcL.out j u hu)) (ints_one _) hpos (by unfold maxLen; omega) (by omega) (G_afc.out).size _ rfl ?_; intro g1 k1 wA hoA hgA hatA hltA; rw [List.nil_append, Nat.zero_add n1] at hoA; rw [Nat.zero_add n1]; have gA : Gr wr wA := gr_far G_afc.out hgA (by (try dsimp only); omega); have HE1 := Lib.hid hoA; have hszA := gA.size; have hzA := Z_afc.out; have hsA := hgA.size; rw [hzA] at hsA hatA; simp only [Value.ownBlock, Option.some.injEq] at hatA; have HL2 := Lib.hid (own_far C_afc.out hgA (fun k hk e => by simp only [Value.ownBlock, Option.some.injEq] at hk e; omega)); have hl2 : ¬ g1 = wr.heap.size + 2 := (by omega); have HFb := Lib.hid (blk_far F_afc.out hgA (by simp only [Value.ownBlock, ne_eq, Option.some.injEq]; omega)); clear hoA hgA hatA hzA)
            | (refine step_append_lies _ (by rfl) _ _ _ (by rfl) wr.heap.size 2 i0 _ 1 8 Try.underlying28 hi0 hz0 hz1 hz2 rfl (by omega) _ 0 [] (by rfl) A_caf.out ⟨bl, ol, none⟩ n1 d1 (ints b.lo) (by rfl) HlenL.out (fun j u hu => (G_caf.out).has (HcL.out j u hu)) (ints_one _) hpos (by unfold maxLen; omega) (by omega) (G_caf.out).size _ rfl ?_; intro g1 k1 wA hoA hgA hatA hltA; rw [List.nil_append, Nat.zero_add n1] at hoA; rw [Nat.zero_add n1]; have gA : Gr wr wA := gr_far G_caf.out hgA (by (try dsimp only); omega); have HE1 := Lib.hid hoA; have hszA := gA.size; have hzA := Z_caf.out; have hsA := hgA.size; rw [hzA] at hsA hatA; simp only [Value.ownBlock, Option.some.injEq] at hatA; have HL2 := Lib.hid (own_far C_caf.out hgA (fun k hk e => by simp only [Value.ownBlock, Option.some.injEq] at hk e; omega)); have hl2 : ¬ g1 = wr.heap.size := (by omega); have HFb := Lib.hid (blk_far F_caf.out hgA (by simp only [Value.ownBlock, ne_eq, Option.some.injEq]; omega)); clear hoA hgA hatA hzA)
            | (refine step_append_lies _ (by rfl) _ _ _ (by rfl) wr.heap.size 2 i0 _ 1 8 Try.underlying28 hi0 hz0 hz1 hz2 rfl (by omega) _ 0 [] (by rfl) A_cfa.out ⟨bl, ol, none⟩ n1 d1 (ints b.lo) (by rfl) HlenL.out (fun j u hu => (G_cfa.out).has (HcL.out j u hu)) (ints_one _) hpos (by unfold maxLen; omega) (by omega) (G_cfa.out).size _ rfl ?_; intro g1 k1 wA hoA hgA hatA hltA; rw [List.nil_append, Nat.zero_add n1] at hoA; rw [Nat.zero_add n1]; have gA : Gr wr wA := gr_far G_cfa.out hgA (by (try dsimp only); omega); have HE1 := Lib.hid hoA; have hszA := gA.size; have hzA := Z_cfa.out; have hsA := hgA.size; rw [hzA] at hsA hatA; simp only [Value.ownBlock, Option.some.injEq] at hatA; have HL2 := Lib.hid (own_far C_cfa.out hgA (fun k hk e => by simp only [Value.ownBlock, Option.some.injEq] at hk e; omega)); have hl2 : ¬ g1 = wr.heap.size := (by omega); have HFb := Lib.hid (blk_far F_cfa.out hgA (by simp only [Value.ownBlock, ne_eq, Option.some.injEq]; omega)); clear hoA hgA hatA hzA)
            | (refine step_append_lies _ (by rfl) _ _ _ (by rfl) wr.heap.size 2 i0 _ 1 8 Try.underlying28 hi0 hz0 hz1 hz2 rfl (by omega) _ 0 [] (by rfl) A_fac.out ⟨bl, ol, none⟩ n1 d1 (ints b.lo) (by rfl) HlenL.out (fun j u hu => (G_fac.out).has (HcL.out j u hu)) (ints_one _) hpos (by unfold maxLen; omega) (by omega) (G_fac.out).size _ rfl ?_; intro g1 k1 wA hoA hgA hatA hltA; rw [List.nil_append, Nat.zero_add n1] at hoA; rw [Nat.zero_add n1]; have gA : Gr wr wA := gr_far G_fac.out hgA (by (try dsimp only); omega); have HE1 := Lib.hid hoA; have hszA := gA.size; have hzA := Z_fac.out; have hsA := hgA.size; rw [hzA] at hsA hatA; simp only [Value.ownBlock, Option.some.injEq] at hatA; have HL2 := Lib.hid (own_far C_fac.out hgA (fun k hk e => by simp only [Value.ownBlock, Option.some.injEq] at hk e; omega)); have hl2 : ¬ g1 = wr.heap.size + 2 := (by omega); have HFb := Lib.hid (blk_far F_fac.out hgA (by simp only [Value.ownBlock, ne_eq, Option.some.injEq]; omega)); clear hoA hgA hatA hzA)
            | (refine step_append_lies _ (by rfl) _ _ _ (by rfl) wr.heap.size 2 i0 _ 1 8 Try.underlying28 hi0 hz0 hz1 hz2 rfl (by omega) _ 0 [] (by rfl) A_fca.out ⟨bl, ol, none⟩ n1 d1 (ints b.lo) (by rfl) HlenL.out (fun j u hu => (G_fca.out).has (HcL.out j u hu)) (ints_one _) hpos (by unfold maxLen; omega) (by omega) (G_fca.out).size _ rfl ?_; intro g1 k1 wA hoA hgA hatA hltA; rw [List.nil_append, Nat.zero_add n1] at hoA; rw [Nat.zero_add n1]; have gA : Gr wr wA := gr_far G_fca.out hgA (by (try dsimp only); omega); have HE1 := Lib.hid hoA; have hszA := gA.size; have hzA := Z_fca.out; have hsA := hgA.size; rw [hzA] at hsA hatA; simp only [Value.ownBlock, Option.some.injEq] at hatA; have HL2 := Lib.hid (own_far C_fca.out hgA (fun k hk e => by simp only [Value.ownBlock, Option.some.injEq] at hk e; omega)); have hl2 : ¬ g1 = wr.heap.size + 1 := (by omega); have HFb := Lib.hid (blk_far F_fca.out hgA (by simp only [Value.ownBlock, ne_eq, Option.some.injEq]; omega)); clear hoA hgA hatA hzA)
            | (refine step_append_lies _ (by rfl) _ _ _ (by rfl) wr.heap.size 2 i0 _ 1 8 Try.underlying28 hi0 hz0 hz1 hz2 rfl (by omega) _ 0 [] (by rfl) HL2.out ⟨bh, oh, none⟩ n1 d2 (ints b.hi) (by rfl) HlenH.out (fun j u hu => (gA).has (HcH.out j u hu)) (ints_one _) hpos (by unfold maxLen; omega) (by omega) (gA).size _ rfl ?_; intro g2 k2 wB hoB hgB hatB hltB; rw [List.nil_append, Nat.zero_add n1] at hoB; rw [Nat.zero_add n1]; have gB : Gr wr wB := gr_far gA hgB (by (try dsimp only); omega); have HE2 := Lib.hid hoB; have hszB := gB.size; have hsB := hgB.size; (try simp at hsB); replace HE1 := Lib.hid (own_far HE1.out hgB (fun k hk e => by simp only [Value.ownBlock, Option.some.injEq] at hk e; omega)); (try replace HFb := Lib.hid (blk_far HFb.out hgB (by simp only [Value.ownBlock, ne_eq, Option.some.injEq]; omega))); clear hoB hgB hatB)
            | (refine step_append_lies _ (by rfl) _ _ _ (by rfl) wr.heap.size 2 i0 _ 1 8 Try.underlying28 hi0 hz0 hz1 hz2 rfl (by omega) _ 0 [] (by rfl) (own_gr HL2.out ((Gr.refl _).alloc _)) ⟨bh, oh, none⟩ n1 d2 (ints b.hi) (by rfl) HlenH.out (fun j u hu => ((gA.alloc (.cells #[.slice none 0 0, .slice none 0 0, .slice none 0 0] 30))).has (HcH.out j u hu)) (ints_one _) hpos (by unfold maxLen; omega) (by omega) ((gA.alloc (.cells #[.slice none 0 0, .slice none 0 0, .slice none 0 0] 30))).size _ rfl ?_; intro g2 k2 wB hoB hgB hatB hltB; rw [List.nil_append, Nat.zero_add n1] at hoB; rw [Nat.zero_add n1]; have gB : Gr wr wB := gr_far (gA.alloc (.cells #[.slice none 0 0, .slice none 0 0, .slice none 0 0] 30)) hgB (by (try dsimp only); omega); have HE2 := Lib.hid hoB; have hszB := gB.size; have hsB := hgB.size; (try simp at hsB); replace HE1 := Lib.hid (own_far (own_gr HE1.out ((Gr.refl _).alloc _)) hgB (fun k hk e => by simp only [Value.ownBlock, Option.some.injEq] at hk e; omega)); have HFb := Lib.hid (blk_far (blk_b (rfl : wA.heap.size = wA.heap.size)) hgB (by simp only [Value.ownBlock, ne_eq, Option.some.injEq]; omega)); clear hoB hgB hatB)
            | (refine step_append_lies _ (by rfl) _ _ _ (by rfl) wr.heap.size 2 i0 _ 1 8 Try.underlying28 hi0 hz0 hz1 hz2 rfl (by omega) _ 0 [] (by rfl) (lit_b gA rfl) ⟨bh, oh, none⟩ n1 d2 (ints b.hi) (by rfl) HlenH.out (fun j u hu => ((gA.alloc (.cells #[] 2))).has (HcH.out j u hu)) (ints_one _) hpos (by unfold maxLen; omega) (by omega) ((gA.alloc (.cells #[] 2))).size _ rfl ?_; intro g2 k2 wB hoB hgB hatB hltB; rw [List.nil_append, Nat.zero_add n1] at hoB; rw [Nat.zero_add n1]; have gB : Gr wr wB := gr_far (gA.alloc (.cells #[] 2)) hgB (by (try dsimp only); omega); have HE2 := Lib.hid hoB; have hszB := gB.size; have hsB := hgB.size; (try simp at hsB); replace HE1 := Lib.hid (own_far (own_gr HE1.out ((Gr.refl _).alloc _)) hgB (fun k hk e => by simp only [Value.ownBlock, Option.some.injEq] at hk e; omega)); (try replace HFb := Lib.hid (blk_far (blk_up HFb.out) hgB (by simp only [Value.ownBlock, ne_eq, Option.some.injEq]; omega))); clear hoB hgB hatB)
            | (refine step_append_lies _ (by rfl) _ _ _ (by rfl) wr.heap.size 2 i0 _ 1 8 Try.underlying28 hi0 hz0 hz1 hz2 rfl (by omega) _ 0 [] (by rfl) (own_gr (lit_b gA rfl) ((Gr.refl _).alloc _)) ⟨bh, oh, none⟩ n1 d2 (ints b.hi) (by rfl) HlenH.out (fun j u hu => (((gA.alloc (.cells #[] 2)).alloc (.cells #[.slice none 0 0, .slice none 0 0, .slice none 0 0] 30))).has (HcH.out j u hu)) (ints_one _) hpos (by unfold maxLen; omega) (by omega) (((gA.alloc (.cells #[] 2)).alloc (.cells #[.slice none 0 0, .slice none 0 0, .slice none 0 0] 30))).size _ rfl ?_; intro g2 k2 wB hoB hgB hatB hltB; rw [List.nil_append, Nat.zero_add n1] at hoB; rw [Nat.zero_add n1]; have gB : Gr wr wB := gr_far ((gA.alloc (.cells #[] 2)).alloc (.cells #[.slice none 0 0, .slice none 0 0, .slice none 0 0] 30)) hgB (by (try dsimp only); omega); have HE2 := Lib.hid hoB; have hszB := gB.size; have hsB := hgB.size; (try simp at hsB); replace HE1 := Lib.hid (own_far (own_gr (own_gr HE1.out ((Gr.refl _).alloc _)) ((Gr.refl _).alloc _)) hgB (fun k hk e => by simp only [Value.ownBlock, Option.some.injEq] at hk e; omega)); have HFb := Lib.hid (blk_far (blk_b (by simp : (wA.alloc (.cells #[] 2)).heap.size = wA.heap.size + 1)) hgB (by simp only [Value.ownBlock, ne_eq, Option.some.injEq]; omega)); clear hoB hgB hatB)
            | (refine step_append_lies _ (by rfl) _ _ _ (by rfl) wr.heap.size 2 i0 _ 1 8 Try.underlying28 hi0 hz0 hz1 hz2 rfl (by omega) _ 0 [] (by rfl) (lit_b (gA.alloc (.cells #[.slice none 0 0, .slice none 0 0, .slice none 0 0] 30)) (by simp)) ⟨bh, oh, none⟩ n1 d2 (ints b.hi) (by rfl) HlenH.out (fun j u hu => (((gA.alloc (.cells #[.slice none 0 0, .slice none 0 0, .slice none 0 0] 30)).alloc (.cells #[] 2))).has (HcH.out j u hu)) (ints_one _) hpos (by unfold maxLen; omega) (by omega) (((gA.alloc (.cells #[.slice none 0 0, .slice none 0 0, .slice none 0 0] 30)).alloc (.cells #[] 2))).size _ rfl ?_; intro g2 k2 wB hoB hgB hatB hltB; rw [List.nil_append, Nat.zero_add n1] at hoB; rw [Nat.zero_add n1]; have gB : Gr wr wB := gr_far ((gA.alloc (.cells #[.slice none 0 0, .slice none 0 0, .slice none 0 0] 30)).alloc (.cells #[] 2)) hgB (by (try dsimp only); omega); have HE2 := Lib.hid hoB; have hszB := gB.size; have hsB := hgB.size; (try simp at hsB); replace HE1 := Lib.hid (own_far (own_gr (own_gr HE1.out ((Gr.refl _).alloc _)) ((Gr.refl _).alloc _)) hgB (fun k hk e => by simp only [Value.ownBlock, Option.some.injEq] at hk e; omega)); have HFb := Lib.hid (blk_far (blk_up (blk_b (rfl : wA.heap.size = wA.heap.size))) hgB (by simp only [Value.ownBlock, ne_eq, Option.some.injEq]; omega)); clear hoB hgB hatB)
            | (go_at_call 27; with_reducible refine (l19Next_any n b fl sup _ (HN.out.gr gB) (HB.out.nw.gr gB) (HF.out.gr gB) (HS.out.gr gB) Hc.out).mono ?_; rintro e wE ⟨E3, k3, rfl, hoE, hE⟩; have gE : Gr wr wE := (gB).trans hE; have HE3 := Lib.hid (own_base hoE (gB).size); replace HE1 := Lib.hid (own_gr HE1.out hE); replace HE2 := Lib.hid (own_gr HE2.out hE); (try replace HFb := Lib.hid ((hE.below.block _ (rb_lt HFb.out)).trans HFb.out)); (try (have r0 := rb_cell (j := 0) HFb.out rfl; have r1' := rb_cell (j := 1) HFb.out rfl; have r2' := rb_cell (j := 2) HFb.out rfl; have f0 := rb_frozen HFb.out 0; have f1 := rb_frozen HFb.out 1; have f2 := rb_frozen HFb.out 2)); clear hoE hE)
            | (go_at_call 27; with_reducible refine (l19Next_any n b fl sup _ (HN.out.gr (gB.alloc (.cells #[.slice none 0 0, .slice none 0 0, .slice none 0 0] 30))) (HB.out.nw.gr (gB.alloc (.cells #[.slice none 0 0, .slice none 0 0, .slice none 0 0] 30))) (HF.out.gr (gB.alloc (.cells #[.slice none 0 0, .slice none 0 0, .slice none 0 0] 30))) (HS.out.gr (gB.alloc (.cells #[.slice none 0 0, .slice none 0 0, .slice none 0 0] 30))) Hc.out).mono ?_; rintro e wE ⟨E3, k3, rfl, hoE, hE⟩; have gE : Gr wr wE := ((gB.alloc (.cells #[.slice none 0 0, .slice none 0 0, .slice none 0 0] 30))).trans hE; have HE3 := Lib.hid (own_base hoE ((gB.alloc (.cells #[.slice none 0 0, .slice none 0 0, .slice none 0 0] 30))).size); replace HE1 := Lib.hid (own_gr (own_gr HE1.out ((Gr.refl _).alloc _)) hE); replace HE2 := Lib.hid (own_gr (own_gr HE2.out ((Gr.refl _).alloc _)) hE); have HFb := Lib.hid ((hE.below.block _ (rb_lt (blk_b (rfl : wB.heap.size = wB.heap.size)))).trans (blk_b rfl)); (try (have r0 := rb_cell (j := 0) HFb.out rfl; have r1' := rb_cell (j := 1) HFb.out rfl; have r2' := rb_cell (j := 2) HFb.out rfl; have f0 := rb_frozen HFb.out 0; have f1 := rb_frozen HFb.out 1; have f2 := rb_frozen HFb.out 2)); clear hoE hE))
        all_goals
          clear kp
          go_wp2_with fail
          go_meet
          case rel =>
            first
              | (obtain ⟨p1, p2, p3⟩ := fin_set (b := nxB n b fl sup) HFb.out HE1.out HE2.out HE3.out hm1 gE (by omega); exact ⟨_, _, _, _, _, _, _, rfl, by omega, p1, p2, p3⟩)
              | (obtain ⟨p1, p2, p3⟩ := fin_new (b := nxB n b fl sup) HE1.out HE2.out HE3.out hm1 gE; exact ⟨_, _, _, _, _, _, _, rfl, gE.size, p1, p2, p3⟩)
      obtain ⟨X, E1, k1, E2, k2, E3, k3, rfl, hX, hN8, hB8, hg8⟩ := hcut
      rename World => w8
      have HB8 := Lib.hid hB8
      replace y0 := hg8.has y0
      replace y1 := hg8.has y1
      clear hB8
      go_upto_region 7 with fail
      have q0 := rb_cell (j := 0) hN8 rfl
      have q1' := rb_cell (j := 1) hN8 rfl
      have q2' := rb_cell (j := 2) hN8 rfl
      have kp : ∀ W, Gr w8 W → (W.cell? ⟨X, 0, none⟩ = some (.slice E1 n1 k1) ∧ W.cell? ⟨X, 1, none⟩ = some (.slice E2 n1 k2) ∧ W.cell? ⟨X, 2, none⟩ = some (.slice E3 n1 k3) ∧ W.cell? ⟨w.heap.size, 0, none⟩ = some (.slice A1 n1 c1) ∧ W.cell? ⟨w.heap.size, 1, none⟩ = some (.slice A2 n2 c2)) := fun W h => ⟨h.has q0, h.has q1', h.has q2', h.has y0, h.has y1⟩
      have hsN : w.heap.size + 3 < X := by omega
      clear hN8
      go_region_held3 (fun W => W.cell? ⟨X, 0, none⟩ = some (.slice E1 n1 k1) ∧ W.cell? ⟨X, 1, none⟩ = some (.slice E2 n1 k2) ∧ W.cell? ⟨X, 2, none⟩ = some (.slice E3 n1 k3) ∧ W.cell? ⟨w.heap.size, 0, none⟩ = some (.slice A1 n1 c1) ∧ W.cell? ⟨w.heap.size, 1, none⟩ = some (.slice A2 n2 c2))
        (first
          | with_reducible exact kp _ (Gr.refl _).drew
          | with_reducible exact kp _ (by with_reducible assumption)
          | with_reducible exact kq _ _ _)
        (first
          | (go_at_call 32; with_reducible refine (l19Is_any (nxB n b fl sup) _ (HB8.out.at_.gr (Gr.refl _).drew)).mono ?_; rintro e w9 ⟨rfl, h9⟩; have hg9 : Gr w8 w9 := (Gr.refl _).drew.trans h9; have hR9 := ((hg8.trans hg9).below.block _ (rb_lt HR.out)).trans HR.out; have r0 := rb_cell (j := 0) hR9 rfl; have r1' := rb_cell (j := 1) hR9 rfl; have r2' := rb_cell (j := 2) hR9 rfl; have f0 := rb_frozen hR9 0; have f1 := rb_frozen hR9 1; have f2 := rb_frozen hR9 2; have HR9 := Lib.hid hR9; have kq : ∀ v0 v1 v2 : Value, ((((w9.setCell ⟨w.heap.size + 3, 0, none⟩ v0).setCell ⟨w.heap.size + 3, 1, none⟩ v1).setCell ⟨w.heap.size + 3, 2, none⟩ v2).cell? ⟨X, 0, none⟩ = some (.slice E1 n1 k1) ∧ (((w9.setCell ⟨w.heap.size + 3, 0, none⟩ v0).setCell ⟨w.heap.size + 3, 1, none⟩ v1).setCell ⟨w.heap.size + 3, 2, none⟩ v2).cell? ⟨X, 1, none⟩ = some (.slice E2 n1 k2) ∧ (((w9.setCell ⟨w.heap.size + 3, 0, none⟩ v0).setCell ⟨w.heap.size + 3, 1, none⟩ v1).setCell ⟨w.heap.size + 3, 2, none⟩ v2).cell? ⟨X, 2, none⟩ = some (.slice E3 n1 k3) ∧ (((w9.setCell ⟨w.heap.size + 3, 0, none⟩ v0).setCell ⟨w.heap.size + 3, 1, none⟩ v1).setCell ⟨w.heap.size + 3, 2, none⟩ v2).cell? ⟨w.heap.size, 0, none⟩ = some (.slice A1 n1 c1) ∧ (((w9.setCell ⟨w.heap.size + 3, 0, none⟩ v0).setCell ⟨w.heap.size + 3, 1, none⟩ v1).setCell ⟨w.heap.size + 3, 2, none⟩ v2).cell? ⟨w.heap.size, 1, none⟩ = some (.slice A2 n2 c2)) := (fun v0 v1 v2 => by
              have hc : Chg (fun k => k = w.heap.size + 3) w9 (((w9.setCell ⟨w.heap.size + 3, 0, none⟩ v0).setCell ⟨w.heap.size + 3, 1, none⟩ v1).setCell ⟨w.heap.size + 3, 2, none⟩ v2) := ((chg_put _ _).trans (chg_put _ _)).trans (chg_put _ _)
              obtain ⟨p0, p1, p2, p3, p4⟩ := kp _ hg9
              exact ⟨chg_cell' hc p0 (by simp; omega), chg_cell' hc p1 (by simp; omega), chg_cell' hc p2 (by simp; omega), chg_cell' hc p3 (by simp), chg_cell' hc p4 (by simp)⟩); clear h9 hR9))
      clear kp r0 r1' r2' f0 f1 f2 kq
      have hcc : Chg (fun k => k = w.heap.size + 3) w9 (((w9.setCell ⟨w.heap.size + 3, 0, none⟩ (.slice E1 n1 k1)).setCell ⟨w.heap.size + 3, 1, none⟩ (.slice E2 n1 k2)).setCell ⟨w.heap.size + 3, 2, none⟩ (.slice E3 n1 k3)) := ((chg_put _ _).trans (chg_put _ _)).trans (chg_put _ _)
      have hP : (((w9.setCell ⟨w.heap.size + 3, 0, none⟩ (.slice E1 n1 k1)).setCell ⟨w.heap.size + 3, 1, none⟩ (.slice E2 n1 k2)).setCell ⟨w.heap.size + 3, 2, none⟩ (.slice E3 n1 k3)).heap[w.heap.size + 3]? = some (.cells #[.slice E1 n1 k1, .slice E2 n1 k2, .slice E3 n1 k3] 30 (0, 0)) := by simp [World.setCell, Array.getElem?_modify, HR9.out]
      have HP := Lib.hid hP
      have HBF : Hid (BufOwn (((w9.setCell ⟨w.heap.size + 3, 0, none⟩ (.slice E1 n1 k1)).setCell ⟨w.heap.size + 3, 1, none⟩ (.slice E2 n1 k2)).setCell ⟨w.heap.size + 3, 2, none⟩ (.slice E3 n1 k3)) w.heap.size E1 n1 k1 E2 n1 k2 E3 n1 k3 (nxB n b fl sup)) := Lib.hid (((HB8.out.gr hg9).chg hcc (fun k e => by omega)).low (by omega))
      have HGF : Hid (Gr w (((w9.setCell ⟨w.heap.size + 3, 0, none⟩ (.slice E1 n1 k1)).setCell ⟨w.heap.size + 3, 1, none⟩ (.slice E2 n1 k2)).setCell ⟨w.heap.size + 3, 2, none⟩ (.slice E3 n1 k3))) := Lib.hid ((((hg2.trans (hg8.trans hg9)).setCell (Nat.le_add_right _ 3) _).setCell (Nat.le_add_right _ 3) _).setCell (Nat.le_add_right _ 3) _)
      clear hP hcc
      go_wp2_with fail
      (try simp only [Exit.inBlock, Exit.then])
      refine bodyPost_ret (results_row_tmp Try.results21 _ _ (w.heap.size + 3) 30 #[.slice E1 n1 k1, .slice E2 n1 k2, .slice E3 n1 k3] (0, 0) _ ?_ HP.out Try.underlying30 rfl (by kernel_rfl)) ?_ ?_
      · rfl
      · rfl
      exact ⟨_, _, _, _, _, _, _, _, _, by rw [Hhs.out]; rfl, fun _ => HBF.out, HGF.out⟩
end Go.Proofs.Ytbbecboihmmllaa
/-
  An hour of the reference, and the first trouble. Printed by gen_hr8.py.
-/
set_option linter.unusedSimpArgs false
set_option linter.unusedVariables false
namespace Go.Proofs.Ytbbecboihmmllaa
open Go.ChangeShapes Go.WideShapes Go.ChangeAt Go.RowKit

theorem ftIx_hit {n : GNet} {b : GBuf} {fl sup : List Int} {k N : Nat} (hl : n.nodes.length = N) (hk : k < N) (hno : ∀ j, j < k → ftAt n b fl sup j = false) (h : ftAt n b fl sup k = true) : ftIx n b fl sup = (k : Int) := by
  have e : (List.range n.nodes.length).find? (ftAt n b fl sup) = some k := by
    rw [List.find?_range_eq_some]
    exact ⟨h, List.mem_range.2 (by omega), fun j hj => by rw [hno j hj]; rfl⟩
  rw [ftIx, e]
theorem ftIx_none {n : GNet} {b : GBuf} {fl sup : List Int} {N : Nat} (hl : n.nodes.length = N) (hno : ∀ j, j < N → ftAt n b fl sup j = false) : ftIx n b fl sup = -1 := by
  have e : (List.range n.nodes.length).find? (ftAt n b fl sup) = none := by
    rw [List.find?_eq_none]
    intro j hj
    rw [hno j (by have := List.mem_range.1 hj; omega)]
    exact Bool.noConfusion
  rw [ftIx, e]
set_option maxHeartbeats 6400000 in
set_option maxRecDepth 100000 in
theorem spStepHour_any {A1 A2 : Option Addr} {n1 c1 n2 c2 : Nat} {B1 B2 B3 : Option Addr} {m1 d1 m2 d2 m3 d3 : Nat} {G1 G2 : Option Addr} {q1 r1 q2 r2 : Nat} (n : GNet) (b : GBuf) (fl sup : List Int) (w : World) (hN : NetAt w A1 n1 c1 A2 n2 c2 n) (hB : BufAt w B1 m1 d1 B2 m2 d2 B3 m3 d3 b) (hF : SlAt w 1 G1 q1 r1 (ints fl)) (hS : SlAt w 1 G2 q2 r2 (ints sup)) :
    Calls Try.prog 7 #[.agg #[.slice A1 n1 c1, .slice A2 n2 c2], .agg #[.slice B1 m1 d1, .slice B2 m2 d2, .slice B3 m3 d3], .agg #[.slice G1 q1 r1, .slice G2 q2 r2]] w fun e w' => ∃ E1 e1 k1 E2 e2 k2 E3 e3 k3, e = .returned (.tuple #[.agg #[.slice E1 e1 k1, .slice E2 e2 k2, .slice E3 e3 k3], .int .i64 (shCode n b fl sup)]) ∧ BufAt w' E1 e1 k1 E2 e2 k2 E3 e3 k3 (shRes n b fl sup) ∧ Gr w w' := by
  have hl1 := hN.l1
  have hl2 := hN.l2
  have hm1 := hN.m1
  have hm2 := hN.m2
  obtain ⟨w2, hw2⟩ : ∃ W, W = (((w.alloc (.cells #[.slice A1 n1 c1, .slice A2 n2 c2] 27)).alloc (.cells #[.slice B1 m1 d1, .slice B2 m2 d2, .slice B3 m3 d3] 30)).alloc (.cells #[.slice G1 q1 r1, .slice G2 q2 r2] 32)).alloc (.cells #[.slice none 0 0, .slice none 0 0, .slice none 0 0] 30) := ⟨_, rfl⟩
  have hg2 : Gr w w2 := by rw [hw2]; exact ((((Gr.refl _).alloc _).alloc _).alloc _).alloc _
  have y0 : w2.cell? ⟨w.heap.size, 0, none⟩ = some (.slice A1 n1 c1) := by rw [hw2]; simp [go_sem]
  have y1 : w2.cell? ⟨w.heap.size, 1, none⟩ = some (.slice A2 n2 c2) := by rw [hw2]; simp [go_sem]
  have z0 : w2.cell? ⟨w.heap.size + 1, 0, none⟩ = some (.slice B1 m1 d1) := by rw [hw2]; simp [go_sem]
  have z1 : w2.cell? ⟨w.heap.size + 1, 1, none⟩ = some (.slice B2 m2 d2) := by rw [hw2]; simp [go_sem]
  have z2 : w2.cell? ⟨w.heap.size + 1, 2, none⟩ = some (.slice B3 m3 d3) := by rw [hw2]; simp [go_sem]
  have u0 : w2.cell? ⟨w.heap.size + 2, 0, none⟩ = some (.slice G1 q1 r1) := by rw [hw2]; simp [go_sem]
  have u1 : w2.cell? ⟨w.heap.size + 2, 1, none⟩ = some (.slice G2 q2 r2) := by rw [hw2]; simp [go_sem]
  have hR : w2.heap[w.heap.size + 3]? = some (.cells #[.slice none 0 0, .slice none 0 0, .slice none 0 0] 30 (0, 0)) := by
    have e : w.heap.size + 3 = (((w.alloc (.cells #[.slice A1 n1 c1, .slice A2 n2 c2] 27)).alloc (.cells #[.slice B1 m1 d1, .slice B2 m2 d2, .slice B3 m3 d3] 30)).alloc (.cells #[.slice G1 q1 r1, .slice G2 q2 r2] 32)).heap.size := by simp
    rw [hw2, e]; exact heap_alloc_new _ _
  have HR := Lib.hid hR
  have hsw := rb_lt hR
  clear hR
  have HN := Lib.hid (hN.gr hg2)
  have HB := Lib.hid (hB.gr hg2)
  have Hl1 := Lib.hid hl1
  have Hl2 := Lib.hid hl2
  have HF := Lib.hid (hF.gr hg2)
  have HS := Lib.hid (hS.gr hg2)
  clear hN hB hl1 hl2 hF hS
  go_enter Try.func7, Try.ntmps7
  go_upto_region 1 with fail
  rw [← hw2]
  clear hw2
  go_wp2_with fail
  refine (l19Hour_any n b fl sup _ HN.out HB.out HF.out HS.out).mono ?_
  rintro e w3 ⟨rfl, h⟩
  have h3s := h.size
  replace y0 := h.has y0
  replace y1 := h.has y1
  replace z0 := h.has z0
  replace z1 := h.has z1
  replace z2 := h.has z2
  replace u0 := h.has u0
  replace u1 := h.has u1
  replace HN := Lib.hid (HN.out.gr h)
  replace HB := Lib.hid (HB.out.gr h)
  replace HF := Lib.hid (HF.out.gr h)
  replace HS := Lib.hid (HS.out.gr h)
  by_cases hc : hrCode n b fl sup = 0
  case neg =>
    have tc : (hrCode n b fl sup != 0) = true := by simp [hc]
    have Hv := Lib.hid (sh_bad hc)
    clear hc
    have hRw := (h.below.block _ (rb_lt HR.out)).trans HR.out
    have r0 := rb_cell (j := 0) hRw rfl
    have r1' := rb_cell (j := 1) hRw rfl
    have r2' := rb_cell (j := 2) hRw rfl
    have f0 := rb_frozen hRw 0
    have f1 := rb_frozen hRw 1
    have f2 := rb_frozen hRw 2
    have hP : (((w3.setCell ⟨w.heap.size + 3, 0, none⟩ (.slice none 0 0)).setCell ⟨w.heap.size + 3, 1, none⟩ (.slice none 0 0)).setCell ⟨w.heap.size + 3, 2, none⟩ (.slice none 0 0)).heap[w.heap.size + 3]? = some (.cells #[.slice none 0 0, .slice none 0 0, .slice none 0 0] 30 (0, 0)) := by simp [World.setCell, Array.getElem?_modify, hRw]
    have HP := Lib.hid hP
    clear hP hRw
    go_wp2_with fail
    (try simp only [Exit.inBlock, Exit.then])
    refine bodyPost_ret (results_row_tmp Try.results7 _ _ (w.heap.size + 3) 30 #[.slice none 0 0, .slice none 0 0, .slice none 0 0] (0, 0) _ ?_ HP.out Try.underlying30 rfl (by kernel_rfl)) ?_ ?_
    · rfl
    · rfl
    exact ⟨none, 0, 0, none, 0, 0, none, 0, 0, by rw [Hv.out.1]; rfl, by rw [Hv.out.2]; exact BufAt.nil _, (((hg2.trans h).setCell (Nat.le_add_right _ 3) _).setCell (Nat.le_add_right _ 3) _).setCell (Nat.le_add_right _ 3) _⟩
  have Hc := Lib.hid hc
  have tc : (hrCode n b fl sup != 0) = false := by simp [hc]
  clear hc
  go_wp2_with fail
  refine (l19Step_any n b fl sup _ HN.out HB.out HF.out HS.out Hc.out).mono ?_
  rintro e w4 ⟨E1, e1, k1, E2, e2, k2, E3, e3, k3, rfl, hbo, h4⟩
  replace h := h.trans h4
  have HBO := Lib.hid hbo
  have hs3 := h3s
  clear hbo h4
  obtain ⟨w5, hw5⟩ : ∃ W, W = w4.alloc (.cells #[.slice E1 e1 k1, .slice E2 e2 k2, .slice E3 e3 k3] 30) := ⟨_, rfl⟩
  have h45 : Gr w4 w5 := by rw [hw5]; exact (Gr.refl _).alloc _
  have n0 : w5.cell? ⟨w4.heap.size, 0, none⟩ = some (.slice E1 e1 k1) := by rw [hw5]; simp [go_sem]
  have n1' : w5.cell? ⟨w4.heap.size, 1, none⟩ = some (.slice E2 e2 k2) := by rw [hw5]; simp [go_sem]
  have n2' : w5.cell? ⟨w4.heap.size, 2, none⟩ = some (.slice E3 e3 k3) := by rw [hw5]; simp [go_sem]
  replace h := h.trans h45
  go_upto_region 5 with fail
  rw [← hw5]
  clear hw5
  cases hh : hsOk n b fl sup with
  | false =>
    have Hv := Lib.hid (sh_no Hc.out hh)
    clear hh
    have hRw := (h.below.block _ (rb_lt HR.out)).trans HR.out
    have r0 := rb_cell (j := 0) hRw rfl
    have r1' := rb_cell (j := 1) hRw rfl
    have r2' := rb_cell (j := 2) hRw rfl
    have f0 := rb_frozen hRw 0
    have f1 := rb_frozen hRw 1
    have f2 := rb_frozen hRw 2
    have hP : (((w5.setCell ⟨w.heap.size + 3, 0, none⟩ (.slice none 0 0)).setCell ⟨w.heap.size + 3, 1, none⟩ (.slice none 0 0)).setCell ⟨w.heap.size + 3, 2, none⟩ (.slice none 0 0)).heap[w.heap.size + 3]? = some (.cells #[.slice none 0 0, .slice none 0 0, .slice none 0 0] 30 (0, 0)) := by simp [World.setCell, Array.getElem?_modify, hRw]
    have HP := Lib.hid hP
    clear hP hRw
    go_wp2_with fail
    (try simp only [Exit.inBlock, Exit.then])
    refine bodyPost_ret (results_row_tmp Try.results7 _ _ (w.heap.size + 3) 30 #[.slice none 0 0, .slice none 0 0, .slice none 0 0] (0, 0) _ ?_ HP.out Try.underlying30 rfl (by kernel_rfl)) ?_ ?_
    · rfl
    · rfl
    exact ⟨none, 0, 0, none, 0, 0, none, 0, 0, by rw [Hv.out.1]; rfl, by rw [Hv.out.2]; exact BufAt.nil _, (((hg2.trans h).setCell (Nat.le_add_right _ 3) _).setCell (Nat.le_add_right _ 3) _).setCell (Nat.le_add_right _ 3) _⟩
  | true =>
    have Hv := Lib.hid (sh_yes Hc.out hh)
    have hbo := HBO.out hh
    have HB5 := Lib.hid (hbo.gr h45)
    clear hh hbo HBO
    have hRw := (h.below.block _ (rb_lt HR.out)).trans HR.out
    have r0 := rb_cell (j := 0) hRw rfl
    have r1' := rb_cell (j := 1) hRw rfl
    have r2' := rb_cell (j := 2) hRw rfl
    have f0 := rb_frozen hRw 0
    have f1 := rb_frozen hRw 1
    have f2 := rb_frozen hRw 2
    have hcc : Chg (fun k => k = w.heap.size + 3) w5 (((w5.setCell ⟨w.heap.size + 3, 0, none⟩ (.slice E1 e1 k1)).setCell ⟨w.heap.size + 3, 1, none⟩ (.slice E2 e2 k2)).setCell ⟨w.heap.size + 3, 2, none⟩ (.slice E3 e3 k3)) := ((chg_put _ _).trans (chg_put _ _)).trans (chg_put _ _)
    have hP : (((w5.setCell ⟨w.heap.size + 3, 0, none⟩ (.slice E1 e1 k1)).setCell ⟨w.heap.size + 3, 1, none⟩ (.slice E2 e2 k2)).setCell ⟨w.heap.size + 3, 2, none⟩ (.slice E3 e3 k3)).heap[w.heap.size + 3]? = some (.cells #[.slice E1 e1 k1, .slice E2 e2 k2, .slice E3 e3 k3] 30 (0, 0)) := by simp [World.setCell, Array.getElem?_modify, hRw]
    have HP := Lib.hid hP
    have HBF : Hid (BufAt (((w5.setCell ⟨w.heap.size + 3, 0, none⟩ (.slice E1 e1 k1)).setCell ⟨w.heap.size + 3, 1, none⟩ (.slice E2 e2 k2)).setCell ⟨w.heap.size + 3, 2, none⟩ (.slice E3 e3 k3)) E1 e1 k1 E2 e2 k2 E3 e3 k3 (nxB n b fl sup)) := Lib.hid (HB5.out.chg hcc (fun k e => by omega)).at_
    have HGF : Hid (Gr w (((w5.setCell ⟨w.heap.size + 3, 0, none⟩ (.slice E1 e1 k1)).setCell ⟨w.heap.size + 3, 1, none⟩ (.slice E2 e2 k2)).setCell ⟨w.heap.size + 3, 2, none⟩ (.slice E3 e3 k3))) := Lib.hid ((((hg2.trans h).setCell (Nat.le_add_right _ 3) _).setCell (Nat.le_add_right _ 3) _).setCell (Nat.le_add_right _ 3) _)
    clear hP hcc hRw
    go_wp2_with fail
    (try simp only [Exit.inBlock, Exit.then])
    refine bodyPost_ret (results_row_tmp Try.results7 _ _ (w.heap.size + 3) 30 #[.slice E1 e1 k1, .slice E2 e2 k2, .slice E3 e3 k3] (0, 0) _ ?_ HP.out Try.underlying30 rfl (by kernel_rfl)) ?_ ?_
    · rfl
    · rfl
    exact ⟨_, _, _, _, _, _, _, _, _, by rw [Hv.out.1]; rfl, by rw [Hv.out.2]; exact HBF.out, HGF.out⟩
set_option maxHeartbeats 6400000 in
set_option maxRecDepth 100000 in
theorem spFirstTrouble_any {A1 A2 : Option Addr} {n1 c1 n2 c2 : Nat} {B1 B2 B3 : Option Addr} {m1 d1 m2 d2 m3 d3 : Nat} {G1 G2 : Option Addr} {q1 r1 q2 r2 : Nat} (n : GNet) (b : GBuf) (fl sup : List Int) (w : World) (hN : NetAt w A1 n1 c1 A2 n2 c2 n) (hB : BufAt w B1 m1 d1 B2 m2 d2 B3 m3 d3 b) (hF : SlAt w 1 G1 q1 r1 (ints fl)) (hS : SlAt w 1 G2 q2 r2 (ints sup)) :
    Calls Try.prog 9 #[.agg #[.slice A1 n1 c1, .slice A2 n2 c2], .agg #[.slice B1 m1 d1, .slice B2 m2 d2, .slice B3 m3 d3], .agg #[.slice G1 q1 r1, .slice G2 q2 r2]] w fun e w' => e = .returned (.tuple #[.int .i64 (ftVal n b fl sup), .int .i64 (hrCode n b fl sup)]) ∧ Gr w w' := by
  have hl1 := hN.l1
  have hl2 := hN.l2
  have hm1 := hN.m1
  have hm2 := hN.m2
  obtain ⟨w2, hw2⟩ : ∃ W, W = ((w.alloc (.cells #[.slice A1 n1 c1, .slice A2 n2 c2] 27)).alloc (.cells #[.slice B1 m1 d1, .slice B2 m2 d2, .slice B3 m3 d3] 30)).alloc (.cells #[.slice G1 q1 r1, .slice G2 q2 r2] 32) := ⟨_, rfl⟩
  have hg2 : Gr w w2 := by rw [hw2]; exact (((Gr.refl _).alloc _).alloc _).alloc _
  have y0 : w2.cell? ⟨w.heap.size, 0, none⟩ = some (.slice A1 n1 c1) := by rw [hw2]; simp [go_sem]
  have y1 : w2.cell? ⟨w.heap.size, 1, none⟩ = some (.slice A2 n2 c2) := by rw [hw2]; simp [go_sem]
  have z0 : w2.cell? ⟨w.heap.size + 1, 0, none⟩ = some (.slice B1 m1 d1) := by rw [hw2]; simp [go_sem]
  have z1 : w2.cell? ⟨w.heap.size + 1, 1, none⟩ = some (.slice B2 m2 d2) := by rw [hw2]; simp [go_sem]
  have z2 : w2.cell? ⟨w.heap.size + 1, 2, none⟩ = some (.slice B3 m3 d3) := by rw [hw2]; simp [go_sem]
  have u0 : w2.cell? ⟨w.heap.size + 2, 0, none⟩ = some (.slice G1 q1 r1) := by rw [hw2]; simp [go_sem]
  have u1 : w2.cell? ⟨w.heap.size + 2, 1, none⟩ = some (.slice G2 q2 r2) := by rw [hw2]; simp [go_sem]
  have HN := Lib.hid (hN.gr hg2)
  have HB := Lib.hid (hB.gr hg2)
  have Hl1 := Lib.hid hl1
  have Hl2 := Lib.hid hl2
  have HF := Lib.hid (hF.gr hg2)
  have HS := Lib.hid (hS.gr hg2)
  clear hN hB hl1 hl2 hF hS
  go_enter Try.func9, Try.ntmps9
  go_upto_region 1 with fail
  rw [← hw2]
  clear hw2
  go_wp2_with fail
  refine (l19Hour_any n b fl sup _ HN.out HB.out HF.out HS.out).mono ?_
  rintro e w3 ⟨rfl, h⟩
  replace y0 := h.has y0
  replace y1 := h.has y1
  replace z0 := h.has z0
  replace z1 := h.has z1
  replace z2 := h.has z2
  replace u0 := h.has u0
  replace u1 := h.has u1
  replace HN := Lib.hid (HN.out.gr h)
  replace HB := Lib.hid (HB.out.gr h)
  replace HF := Lib.hid (HF.out.gr h)
  replace HS := Lib.hid (HS.out.gr h)
  replace hg2 := hg2.trans h
  clear h
  by_cases hc : hrCode n b fl sup = 0
  case neg =>
    have tc : (hrCode n b fl sup != 0) = true := by simp [hc]
    have Hv : Hid (ftVal n b fl sup = 0) := Lib.hid (by rw [ftVal, if_neg hc])
    clear hc
    go_wp2_with fail
    go_ret2
    exact ⟨by rw [Hv.out]; rfl, hg2⟩
  have Hv : Hid (ftVal n b fl sup = ftIx n b fl sup) := Lib.hid (by rw [ftVal, if_pos hc])
  have Hc := Lib.hid hc
  have hq1 : n2 = q1 := by have := HF.out.sl.ilen; have := Hl2.out; have := (hr_lens hc).2.2.2.2.2.1; omega
  subst hq1
  have hbl := bfOk_all (hr_lens hc).2.1
  have hm1x : n1 = m1 := by have := HB.out.lo.sl.ilen; have := hbl.1.1; have := Hl1.out; omega
  have hm2x : n1 = m2 := by have := HB.out.hi.sl.ilen; have := hbl.1.2.1; have := Hl1.out; omega
  subst hm1x
  subst hm2x
  clear hbl
  rw [hc]
  clear hc
  go_wp2_with fail
  refine (l19Next_any n b fl sup _ HN.out HB.out.nw HF.out HS.out Hc.out).mono ?_
  rintro e w4 ⟨E3, k3, rfl, ho, h⟩
  replace y0 := h.has y0
  replace y1 := h.has y1
  replace z0 := h.has z0
  replace z1 := h.has z1
  replace z2 := h.has z2
  replace u0 := h.has u0
  replace u1 := h.has u1
  replace HN := Lib.hid (HN.out.gr h)
  replace HB := Lib.hid (HB.out.gr h)
  replace HF := Lib.hid (HF.out.gr h)
  replace HS := Lib.hid (HS.out.gr h)
  replace hg2 := hg2.trans h
  have Hsl := Lib.hid (Sl.of_own ho)
  clear h ho
  go_wp2_with fail
  go_loopw [10] (fun i wr => ∃ k : Nat, k ≤ n1 ∧ i = .int .i64 k ∧ (∀ j, j < k → ftAt n b fl sup j = false) ∧ Gr w4 wr) (fun i _ => n1 - (intOf i).toNat)
  case atStart => exact ⟨0, Nat.zero_le _, rfl, fun j h => absurd h (by omega), Gr.refl _⟩
  case round =>
    obtain ⟨k, hk, rfl, hno, hgr⟩ := hrel
    have Hno := Lib.hid hno
    clear hno
    replace y0 := hgr.has y0
    replace y1 := hgr.has y1
    replace z0 := hgr.has z0
    replace z1 := hgr.has z1
    replace z2 := hgr.has z2
    replace u0 := hgr.has u0
    replace u1 := hgr.has u1
    by_cases hlt : k < n1
    · have hbl := bfOk_all (hr_lens Hc.out).2.1
      have hl1 := Hl1.out
      obtain ⟨x, hx⟩ : ∃ x, x = b.lo.getD k 0 := ⟨_, rfl⟩
      obtain ⟨y, hy⟩ : ∃ y, y = b.hi.getD k 0 := ⟨_, rfl⟩
      obtain ⟨v, hv⟩ : ∃ v, v = nxAt n b fl sup k := ⟨_, rfl⟩
      have ex : b.lo[k]? = some x := by rw [hx]; exact get_of_lt (by rw [hbl.1.1]; omega)
      have ey : b.hi[k]? = some y := by rw [hy]; exact get_of_lt (by rw [hbl.1.2.1]; omega)
      have ev : (nxL n b fl sup)[k]? = some v := by rw [hv]; exact nxL_get (by omega)
      obtain ⟨bl, ol, rfl, _, xl⟩ := (HB.out.gr hgr).lo.sl.int ex
      obtain ⟨bh, oh, rfl, _, xh⟩ := (HB.out.gr hgr).hi.sl.int ey
      obtain ⟨bn, on, rfl, _, xn⟩ := (Hsl.out.gr hgr).int ev
      have hft : ftAt n b fl sup k = !inB x v y := by rw [ftAt, ← hx, ← hy, ← hv]
      have Hft := Lib.hid hft
      have t0 : (0 : Int) ≤ (k : Int) := by omega
      have t1 : (k : Int) < (n1 : Int) := by omega
      clear hx hy hv ex ey ev hft hbl hl1
      go_upto_region 8 with fail
      refine wp_region_text (fun w' => Gr wr w') (by kernel_rfl) (by kernel_rfl) (by decide) (Gr.refl _).drew ?_
      repeat (first
        | ((with_reducible refine wpText_skip ?_ ?_)
           · rfl
           simp only [Act.put, List.setIfInBounds_toArray, List.set_cons_zero, List.set_cons_succ])
        | ((with_reducible refine wpText_yield (v := ?_) ?_ ?_ ?_)
           rotate_left
           · rfl
           · (intro W hW; have kz0 := hW.has z0; have kz1 := hW.has z1; have kxl := hW.has xl; have kxh := hW.has xh; have kxn := hW.has xn; first | (go_simp; done) | (go_simp; with_reducible rfl))
           simp only [Act.put, List.setIfInBounds_toArray, List.set_cons_zero, List.set_cons_succ])
        | ((with_reducible refine wpText_yield1 (v := ?_) ?_ ?_ ?_)
           rotate_left
           · rfl
           · (intro W hW; have kz0 := hW.has z0; have kz1 := hW.has z1; have kxl := hW.has xl; have kxh := hW.has xh; have kxn := hW.has xn; first | (go_simp; done) | (go_simp; with_reducible rfl))
           simp only [Act.put, List.setIfInBounds_toArray, List.set_cons_zero, List.set_cons_succ]))
      refine wpText_do (.bool (inB x v y)) (by rfl) (fun W hW K hK => ?_) ?_
      ·
        have kz0 := hW.has z0
        have kz1 := hW.has z1
        have kxl := hW.has xl
        have kxh := hW.has xh
        have kxn := hW.has xn
        go_simp
        refine (l01In_any v x y _).mono ?_
        rintro e w' ⟨rfl, rfl⟩
        exact hK _ hW
      simp only [Act.put, List.setIfInBounds_toArray, List.set_cons_zero, List.set_cons_succ]
      repeat (first
        | ((with_reducible refine wpText_skip ?_ ?_)
           · rfl
           simp only [Act.put, List.setIfInBounds_toArray, List.set_cons_zero, List.set_cons_succ])
        | ((with_reducible refine wpText_yield (v := ?_) ?_ ?_ ?_)
           rotate_left
           · rfl
           · (intro W hW; have kz0 := hW.has z0; have kz1 := hW.has z1; have kxl := hW.has xl; have kxh := hW.has xh; have kxn := hW.has xn; first | (go_simp; done) | (go_simp; with_reducible rfl))
           simp only [Act.put, List.setIfInBounds_toArray, List.set_cons_zero, List.set_cons_succ])
        | ((with_reducible refine wpText_yield1 (v := ?_) ?_ ?_ ?_)
           rotate_left
           · rfl
           · (intro W hW; have kz0 := hW.has z0; have kz1 := hW.has z1; have kxl := hW.has xl; have kxh := hW.has xh; have kxn := hW.has xn; first | (go_simp; done) | (go_simp; with_reducible rfl))
           simp only [Act.put, List.setIfInBounds_toArray, List.set_cons_zero, List.set_cons_succ]))
      intro w6 hS6
      have hgr6 := hgr.trans hS6
      clear xl xh xn hS6
      cases hb : inB x v y with
      | true =>
        have Hf : Hid (ftAt n b fl sup k = false) := Lib.hid (by rw [Hft.out, hb]; rfl)
        clear hb
        go_wp2_with fail
        go_roundw
        case rel => exact ⟨k + 1, by omega, by go_num, fun j hj => (by by_cases e : j = k; (· subst e; exact Hf.out); exact Hno.out j (by omega)), hgr6⟩
        case measure => simp [intOf]; omega
      | false =>
        have Hf : Hid (ftAt n b fl sup k = true) := Lib.hid (by rw [Hft.out, hb]; rfl)
        have Hx : Hid (ftIx n b fl sup = (k : Int)) := Lib.hid (ftIx_hit Hl1.out hlt Hno.out Hf.out)
        clear hb
        go_wp2_with fail
        go_ret2
        exact ⟨by rw [Hv.out, Hx.out, Hc.out]; rfl, hg2.trans hgr6⟩
    · obtain rfl : n1 = k := by omega
      have Hx : Hid (ftIx n b fl sup = -1) := Lib.hid (ftIx_none Hl1.out Hno.out)
      go_wp2_with fail
      go_ret2
      exact ⟨by rw [Hv.out, Hx.out, Hc.out]; rfl, hg2.trans hgr⟩
end Go.Proofs.Ytbbecboihmmllaa
