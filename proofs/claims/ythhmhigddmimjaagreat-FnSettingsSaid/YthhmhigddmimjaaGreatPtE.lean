import Derived.Test.YthhmhigddmimjaaGreatPtD
import Derived.Deep.RegionHeld3
import Derived.Test.YthhmhigddmimjaaGreatBitsA
import Derived.Test.YthhmhigddmimjaaGreatPtB
/-
  Ranges of the root, levels of the program. Printed by gen_pt14.py.
-/
set_option linter.unusedSimpArgs false
set_option linter.unusedVariables false
namespace Go.Proofs.YthhmhigddmimjaaGreat
open Go.ChangeShapes Go.WideShapes Go.ChangeAt Go.RowKit

theorem lv_zero {n : GNet} {fl : List Int} {lev : Int} (hn : netOk n = true) (hc : conB (eds n.pipes) n.nodes.length = true) (k : Nat) : (lvTo n fl lev k).getD 0 0 = lev := by
  have h0 : 0 < n.nodes.length := by have := (netOk_all hn).1.1; omega
  induction k with
  | zero => exact getD_set_self (by simpa using h0)
  | succ k ih =>
    cases h : (ordZ (eds n.pipes) n.nodes.length 0)[k + 1]? with
    | none =>
      have : lvTo n fl lev (k + 1) = lvTo n fl lev k := by
        rw [lvTo, List.take_add_one, show ((ordZ (eds n.pipes) n.nodes.length 0).drop 1)[k]? = none by rw [List.getElem?_drop, Nat.add_comm]; exact h]; simp [lvTo]
      rw [this]; exact ih
    | some v =>
      obtain ⟨q, up, t, x, S⟩ := lv_step (fl := fl) rfl hn hc h
      rw [S.st lev, getD_set_ne S.v0]; exact ih
theorem node_bnd {n : GNet} (hn : netOk n = true) {k : Nat} {x : GNode} (hk : n.nodes[k]? = some x) : 0 ≤ x.low ∧ x.low ≤ x.high ∧ x.high ≤ 100000000 := by
  unfold netOk at hn
  simp only [Bool.and_eq_true, decide_eq_true_eq, List.all_eq_true] at hn
  obtain ⟨⟨⟨_, _⟩, h⟩, _⟩ := hn
  have h1 := h k (List.mem_range.2 (List.getElem?_eq_some_iff.1 hk).1)
  simp only [okAt, hk, Bool.and_eq_true] at h1
  have h2 := h1.1
  unfold nodeOk at h2
  simp only [Bool.and_eq_true, decide_eq_true_eq] at h2
  exact ⟨h2.1.1.2, h2.1.2, h2.2⟩
def shTo (lev : Int) (l : List Int) (k : Nat) : List Int := (l.take k).map (· + lev) ++ l.drop k
theorem shTo_at {lev : Int} {l : List Int} {k : Nat} {x : Int} (h : l[k]? = some x) : (shTo lev l k)[k]? = some x := by
  have hk := (List.getElem?_eq_some_iff.1 h).1
  rw [shTo, List.getElem?_append_right (by simp; omega)]
  simp only [List.length_map, List.length_take, List.getElem?_drop]
  rw [show k + (k - min k l.length) = k by omega]
  exact h
theorem shTo_succ {lev : Int} {l : List Int} {k : Nat} {x : Int} (h : l[k]? = some x) : (shTo lev l k).set k (x + lev) = shTo lev l (k + 1) := by
  have hk := (List.getElem?_eq_some_iff.1 h).1
  have hx : l[k] = x := (List.getElem?_eq_some_iff.1 h).2
  have e1 : l.drop k = x :: l.drop (k + 1) := by rw [List.drop_eq_getElem_cons hk, hx]
  have e2 : ((l.take k).map (· + lev)).length = k := by simp; omega
  unfold shTo
  rw [List.set_append_right _ _ (by omega), e2, Nat.sub_self, e1, List.set_cons_zero, List.take_add_one, h, Option.toList_some, List.map_append, List.append_assoc]
  rfl
theorem shTo_all {lev : Int} {l : List Int} {k : Nat} (h : l.length ≤ k) : shTo lev l k = l.map (· + lev) := by
  rw [shTo, List.take_of_length_le h, List.drop_eq_nil_of_le h, List.append_nil]
theorem rng_small {n : GNet} {fl : List Int} (hn : netOk n = true) (hc : conB (eds n.pipes) n.nodes.length = true) (hf : flOk n fl = true) (u : Nat) : -21600000000000 ≤ (lvL n fl 0).getD u 0 ∧ (lvL n fl 0).getD u 0 ≤ 21600000000000 := by
  have := lv_bnd (lev := 0) (B := 0) hn hc hf (by omega) (n.nodes.length - 1) u
  have h24 := (netOk_all hn).1.2.1
  have e : (lvL n fl 0).getD u 0 = (lvTo n fl 0 (n.nodes.length - 1)).getD u 0 := rfl
  rw [e]
  omega
set_option maxHeartbeats 6400000 in
set_option maxRecDepth 100000 in
theorem l08Range_any {A1 A2 A3 : Option Addr} {n1 c1 n2 c2 c3 : Nat} (n : GNet) (fl : List Int) (w : World) (hA : NetAt w A1 n1 c1 A2 n2 c2 n) (hF : SlAt w 1 A3 n2 c3 (ints fl)) (hok : netOk n = true) (hc : conB (eds n.pipes) n1 = true) (hf : flOk n fl = true) :
    Calls Tryz.prog 111 #[.agg #[.slice A1 n1 c1, .slice A2 n2 c2], .slice A3 n2 c3, .int .i64 0] w fun e w' => e = .returned (.tuple #[.int .i64 (opLo n fl), .int .i64 (opHi n fl)]) ∧ Gr w w' := by
  obtain ⟨i0, hi0, hz0, hz1, hz2⟩ := info_parts infoInt64
  have hm1 := hA.m1
  have hm2 := hA.m2
  have hnl := hA.l1
  have h24 : n1 ≤ 24 := by have := (netOk_all hok).1.2.1; rw [hA.l1] at this; exact this
  have h0 : 0 < n1 := by have := (netOk_all hok).1.1; rw [hA.l1] at this; exact this
  have hol : (ordZ (eds n.pipes) n1 0).length = n1 := of_decide_eq_true hc
  have hcn : conB (eds n.pipes) n.nodes.length = true := by rw [hnl]; exact hc
  have hE : EsOk (eds n.pipes) n1 := by have := eds_ok hok; rw [hA.l1] at this; exact this
  have HA := Lib.hid hA
  have HF := Lib.hid hF
  have Hok := Lib.hid hok
  have Hc := Lib.hid hc
  have Hcn := Lib.hid hcn
  have Hf := Lib.hid hf
  have Hnl := Lib.hid hnl
  have Hol := Lib.hid hol
  have HE := Lib.hid hE
  have Hl2 := Lib.hid hA.l2
  have Hlf := Lib.hid hF.sl.ilen
  clear hA hF hok hc hcn hf hnl hol hE
  go_enter Tryz.func111, Tryz.ntmps111
  go_wp2_with fail
  obtain ⟨w1, hw1⟩ : ∃ W, W = w.alloc (.cells #[.slice A1 n1 c1, .slice A2 n2 c2] 32) := ⟨_, rfl⟩
  have hg1 : Gr w w1 := by rw [hw1]; exact (Gr.refl _).alloc _
  have y0 : w1.cell? ⟨w.heap.size, 0, none⟩ = some (.slice A1 n1 c1) := by rw [hw1]; simp [go_sem]
  have y1 : w1.cell? ⟨w.heap.size, 1, none⟩ = some (.slice A2 n2 c2) := by rw [hw1]; simp [go_sem]
  rw [← hw1]
  clear hw1
  refine (l07Levels_any n fl 0 _ (HA.out.gr hg1) (HF.out.gr hg1) Hok.out Hc.out Hf.out (by omega)).mono ?_
  rintro e w2 ⟨F, rfl, hL, hg2⟩
  have HL := Lib.hid hL
  have hgw2 := hg1.trans hg2
  have hll : (lvL n fl 0).length = n1 := by have := lv_len n fl 0 (n.nodes.length - 1); rw [← Hnl.out]; exact this
  have Hll := Lib.hid hll
  have hz0v : (lvL n fl 0).getD 0 0 = 0 := lv_zero Hok.out Hcn.out _
  have u0 := hg2.has y0
  have u1 := hg2.has y1
  clear hL hll hg2
  obtain ⟨x, hx⟩ : ∃ x, n.nodes[0]? = some x := ⟨_, List.getElem?_eq_getElem (by have := Hnl.out; omega)⟩
  have hxb := node_bnd Hok.out hx
  have hnd : nodeD n 0 = x := by rw [nodeD, List.getD_eq_getElem?_getD, hx]; rfl
  obtain ⟨bn, on, hAA, hbn, d0, d1, d2⟩ := (HA.out.gr hgw2).nodes.nd hx
  subst hAA
  obtain ⟨l0, _⟩ := own_int HL.out (k := 0) (x := 0) (by have h := get_int (l := lvL n fl 0) (k := 0) (by rw [Hll.out]; exact h0); rw [hz0v] at h; exact h)
  have hlo1 : rLo n (lvL n fl 0) 1 = x.low := by show max (nodeD n 0).low ((nodeD n 0).low - (lvL n fl 0).getD 0 0) = x.low; rw [hz0v, hnd]; omega
  have hhi1 : rHi n (lvL n fl 0) 1 = x.high := by show min (nodeD n 0).high ((nodeD n 0).high - (lvL n fl 0).getD 0 0) = x.high; rw [hz0v, hnd]; omega
  have Hlo1 := Lib.hid hlo1
  have Hhi1 := Lib.hid hhi1
  have hw1 : IntKind.i64.wrap x.low = x.low := IntWalk.i64_in _ (by omega)
  have hw2 : IntKind.i64.wrap x.high = x.high := IntWalk.i64_in _ (by omega)
  have t1 : (0 : Int) < (n1 : Int) := by omega
  clear hx hnd hz0v hlo1 hhi1 d0
  go_upto_region 2 with fail
  refine wp_region_text (fun w' => Gr w2 w') (by kernel_rfl) (by kernel_rfl) (by decide) (Gr.refl _).drew ?_
  repeat (first
    | ((with_reducible refine wpText_skip ?_ ?_)
       · rfl
       simp only [Act.put, List.setIfInBounds_toArray, List.set_cons_zero, List.set_cons_succ])
    | ((with_reducible refine wpText_yield (v := ?_) ?_ ?_ ?_)
       rotate_left
       · rfl
       · (intro W hW; have ku0 := hW.has u0; have kd1 := hW.has d1; have kd2 := hW.has d2; have kl0 := hW.has l0; first | (go_simp; done) | (go_simp; with_reducible rfl))
       simp only [Act.put, List.setIfInBounds_toArray, List.set_cons_zero, List.set_cons_succ])
    | ((with_reducible refine wpText_yield1 (v := ?_) ?_ ?_ ?_)
       rotate_left
       · rfl
       · (intro W hW; have ku0 := hW.has u0; have kd1 := hW.has d1; have kd2 := hW.has d2; have kl0 := hW.has l0; first | (go_simp; done) | (go_simp; with_reducible rfl))
       simp only [Act.put, List.setIfInBounds_toArray, List.set_cons_zero, List.set_cons_succ]))
  rintro w3 hS3
  have hgw3 := hgw2.trans hS3
  replace y0 := hS3.has u0
  have HL3 := Lib.hid (own_gr HL.out hS3)
  clear hS3 u0 u1 d1 d2 l0 hw1 hw2 y1
  go_wp2_with fail
  go_loopw [9, 10, 11] (fun lo hi i wr => ∃ k : Nat, k < n1 ∧ i = .int .i64 ((k + 1 : Nat) : Int) ∧ lo = .int .i64 (rLo n (lvL n fl 0) (k + 1)) ∧ hi = .int .i64 (rHi n (lvL n fl 0) (k + 1)) ∧ Gr w3 wr) (fun _ _ i _ => n1 - (intOf i).toNat)
  case atStart => exact ⟨0, h0, rfl, by rw [Hlo1.out], by rw [Hhi1.out], Gr.refl _⟩
  case round =>
    obtain ⟨k, hk, rfl, rfl, rfl, hgr⟩ := hrel
    by_cases hlt : k + 1 < n1
    · rename World => wr
      have u0 := hgr.has y0
      obtain ⟨z, hz⟩ : ∃ z, z = (lvL n fl 0).getD (k + 1) 0 := ⟨_, rfl⟩
      have hzb := rng_small Hok.out Hcn.out Hf.out (k + 1)
      rw [← hz] at hzb
      obtain ⟨l0, _⟩ := own_int (own_gr HL3.out hgr) (k := k + 1) (x := z) (by rw [hz]; exact get_int (by rw [Hll.out]; exact hlt))
      obtain ⟨LO, hLO⟩ : ∃ LO, LO = rLo n (lvL n fl 0) (k + 1) := ⟨_, rfl⟩
      obtain ⟨HI, hHI⟩ : ∃ HI, HI = rHi n (lvL n fl 0) (k + 1) := ⟨_, rfl⟩
      rw [← hLO, ← hHI]
      obtain ⟨x, hx⟩ : ∃ x, n.nodes[(k + 1)]? = some x := ⟨_, List.getElem?_eq_getElem (by have := Hnl.out; omega)⟩
      have hxb := node_bnd Hok.out hx
      have hnd : nodeD n (k + 1) = x := by rw [nodeD, List.getD_eq_getElem?_getD, hx]; rfl
      obtain ⟨bn, on, hAA, hbn, d0, d1, d2⟩ := (HA.out.gr (hgw3.trans hgr)).nodes.nd hx
      cases hAA
      have Hsl : Hid (rLo n (lvL n fl 0) (k + 1 + 1) = max LO (x.low - z)) := Lib.hid (by show max (rLo n (lvL n fl 0) (k + 1)) ((nodeD n (k + 1)).low - (lvL n fl 0).getD (k + 1) 0) = _; rw [hnd, ← hz, ← hLO])
      have Hsh : Hid (rHi n (lvL n fl 0) (k + 1 + 1) = min HI (x.high - z)) := Lib.hid (by show min (rHi n (lvL n fl 0) (k + 1)) ((nodeD n (k + 1)).high - (lvL n fl 0).getD (k + 1) 0) = _; rw [hnd, ← hz, ← hHI])
      have hw1 : IntKind.i64.wrap (x.low - z) = x.low - z := IntWalk.i64_in _ (by omega)
      have hw2 : IntKind.i64.wrap (x.high - z) = x.high - z := IntWalk.i64_in _ (by omega)
      have s1 : ((k + 1 : Nat) : Int) < (n1 : Int) := by omega
      have s2 : (k : Int) + 1 < (n1 : Int) := by omega
      have s0 : (0 : Int) ≤ (k : Int) + 1 := by omega
      clear hx hnd hz hLO hHI d0 hzb
      go_upto_region 6 with fail
      refine wp_region_text (fun w' => Gr wr w') (by kernel_rfl) (by kernel_rfl) (by decide) (Gr.refl _).drew ?_
      repeat (first
        | ((with_reducible refine wpText_skip ?_ ?_)
           · rfl
           simp only [Act.put, List.setIfInBounds_toArray, List.set_cons_zero, List.set_cons_succ])
        | ((with_reducible refine wpText_yield (v := ?_) ?_ ?_ ?_)
           rotate_left
           · rfl
           · (intro W hW; have ku0 := hW.has u0; have kd1 := hW.has d1; have kd2 := hW.has d2; have kl0 := hW.has l0; first | (go_simp; done) | (go_simp; with_reducible rfl))
           simp only [Act.put, List.setIfInBounds_toArray, List.set_cons_zero, List.set_cons_succ])
        | ((with_reducible refine wpText_yield1 (v := ?_) ?_ ?_ ?_)
           rotate_left
           · rfl
           · (intro W hW; have ku0 := hW.has u0; have kd1 := hW.has d1; have kd2 := hW.has d2; have kl0 := hW.has l0; first | (go_simp; done) | (go_simp; with_reducible rfl))
           simp only [Act.put, List.setIfInBounds_toArray, List.set_cons_zero, List.set_cons_succ]))
      rintro W5 hS5
      replace u0 := hS5.has u0
      replace d1 := hS5.has d1
      replace d2 := hS5.has d2
      replace l0 := hS5.has l0
      go_upto_region 7 with fail
      refine wp_region_text (fun w' => Gr W5 w') (by kernel_rfl) (by kernel_rfl) (by decide) (Gr.refl _).drew ?_
      repeat (first
        | ((with_reducible refine wpText_skip ?_ ?_)
           · rfl
           simp only [Act.put, List.setIfInBounds_toArray, List.set_cons_zero, List.set_cons_succ])
        | ((with_reducible refine wpText_yield (v := ?_) ?_ ?_ ?_)
           rotate_left
           · rfl
           · (intro W hW; have ku0 := hW.has u0; have kd1 := hW.has d1; have kd2 := hW.has d2; have kl0 := hW.has l0; first | (go_simp; done) | (go_simp; with_reducible rfl))
           simp only [Act.put, List.setIfInBounds_toArray, List.set_cons_zero, List.set_cons_succ])
        | ((with_reducible refine wpText_yield1 (v := ?_) ?_ ?_ ?_)
           rotate_left
           · rfl
           · (intro W hW; have ku0 := hW.has u0; have kd1 := hW.has d1; have kd2 := hW.has d2; have kl0 := hW.has l0; first | (go_simp; done) | (go_simp; with_reducible rfl))
           simp only [Act.put, List.setIfInBounds_toArray, List.set_cons_zero, List.set_cons_succ]))
      rintro W6 hS6
      have hgr6 := (hgr.trans hS5).trans hS6
      clear u0 d1 d2 l0 hS5 hS6
      go_wp2_with fail
      go_roundw
      case rel => exact ⟨k + 1, hlt, by go_num, by rw [Hsl.out], by rw [Hsh.out], hgr6⟩
      case measure => simp [intOf]; omega
    · obtain rfl : n1 = k + 1 := by omega
      have Hx := Lib.hid Hnl.out
      go_wp2_with fail
      go_ret2
      exact ⟨by show Ending.returned (.tuple #[.int .i64 (rLo n (lvL n fl 0) (k + 1)), .int .i64 (rHi n (lvL n fl 0) (k + 1))]) = _; rw [opLo, opHi, Hx.out], hgw3.trans hgr⟩
set_option maxHeartbeats 6400000 in
set_option maxRecDepth 100000 in
theorem forestLevels_any {A1 A2 A3 : Option Addr} {n1 c1 n2 c2 c3 : Nat} (n : GNet) (fl : List Int) (lev : Int) (w : World) (hA : NetAt w A1 n1 c1 A2 n2 c2 n) (hF : SlAt w 1 A3 n2 c3 (ints fl)) (hok : netOk n = true) (hc : conB (eds n.pipes) n1 = true) (hf : flOk n fl = true) (hB : -1000000000000000 ≤ lev ∧ lev ≤ 1000000000000000) :
    Calls Tryz.prog 106 #[.agg #[.slice A1 n1 c1, .slice A2 n2 c2], .slice A3 n2 c3, .int .i64 0, .int .i64 lev] w fun e w' => ∃ F, e = .returned (.slice (some ⟨F, 0, none⟩) n1 n1) ∧ w'.ownsRow w.heap.size 2 1 (.slice (some ⟨F, 0, none⟩) n1 n1) n1 (ints (lvL n fl lev)) ∧ Gr w w' := by
  obtain ⟨i0, hi0, hz0, hz1, hz2⟩ := info_parts infoInt64
  have hm1 := hA.m1
  have hm2 := hA.m2
  have hnl := hA.l1
  have h24 : n1 ≤ 24 := by have := (netOk_all hok).1.2.1; rw [hA.l1] at this; exact this
  have h0 : 0 < n1 := by have := (netOk_all hok).1.1; rw [hA.l1] at this; exact this
  have hol : (ordZ (eds n.pipes) n1 0).length = n1 := of_decide_eq_true hc
  have hcn : conB (eds n.pipes) n.nodes.length = true := by rw [hnl]; exact hc
  have hE : EsOk (eds n.pipes) n1 := by have := eds_ok hok; rw [hA.l1] at this; exact this
  have HA := Lib.hid hA
  have HF := Lib.hid hF
  have Hok := Lib.hid hok
  have Hc := Lib.hid hc
  have Hcn := Lib.hid hcn
  have Hf := Lib.hid hf
  have Hnl := Lib.hid hnl
  have Hol := Lib.hid hol
  have HE := Lib.hid hE
  have Hl2 := Lib.hid hA.l2
  have Hlf := Lib.hid hF.sl.ilen
  clear hA hF hok hc hcn hf hnl hol hE
  obtain ⟨n', rfl⟩ : ∃ n', n1 = n' + 1 := ⟨n1 - 1, by omega⟩
  go_enter Tryz.func106, Tryz.ntmps106
  go_wp2_with (first
    | (at_make; refine wpList_make_full _ rfl _ _ _ rfl w.heap.size 2 i0 _ 1 Tryz.underlying26 hi0 hz0 hz1 .i64 .i64 _ _ (n' + 1) rfl rfl rfl rfl (by rw [hz2]; omega) (by unfold maxLen; omega) (by simp) ?_; intro w1 hown1 hg1; have hq1 : Gr (w.alloc (.cells #[.slice A1 (n' + 1) c1, .slice A2 n2 c2] 32)) w1 := Gr.of_grown hg1; have y0 : w1.cell? ⟨w.heap.size, 0, none⟩ = some (.slice A1 (n' + 1) c1) := hq1.has (by simp [go_sem]); have y1 : w1.cell? ⟨w.heap.size, 1, none⟩ = some (.slice A2 n2 c2) := hq1.has (by simp [go_sem]); have hgw1 : Gr w w1 := ((Gr.refl _).alloc _).trans hq1; have Ho1 := Lib.hid hown1; have z1 := hq1.size; clear hown1)
    | fail)
  obtain ⟨F, hFe⟩ : ∃ F, F = w.heap.size + 1 := ⟨_, rfl⟩
  have o1 : w1.ownsRow w.heap.size 2 1 (.slice (some ⟨F, 0, none⟩) (n' + 1) (n' + 1)) (n' + 1) (ints (List.replicate (n' + 1) 0)) := by
    rw [hFe]
    have := own_cells_eq Ho1.out (made_ints (n' + 1))
    simpa using this
  rw [← hFe]
  have hFw : w.heap.size < F := by omega
  have hF1 := own_block_lt o1 (k := F) rfl
  have O1 : Hid (w1.ownsRow w.heap.size 2 1 (.slice (some ⟨F, 0, none⟩) (n' + 1) (n' + 1)) (n' + 1) (ints (lvTo n fl 0 0))) := Lib.hid (own_eq' o1 (by
    have e : lvTo n fl 0 0 = (List.replicate n.nodes.length (0 : Int)).set 0 0 := rfl
    rw [e, Hnl.out]; simp [List.replicate_succ]))
  clear Ho1 hFe o1 hq1 z1 hg1
  refine (searchFrom0_any n _ (HA.out.gr hgw1) Hok.out h0).mono ?_
  rintro e w2 ⟨O, D', E, rfl, ⟨AO, cO, rfl⟩, hEn, hOr, hg2⟩
  rw [Hol.out] at hOr
  rw [Hol.out]
  have hcap := (own_cap hOr).1
  obtain ⟨gO, hAO, hgO1, hgO2⟩ := own_form hOr h0
  subst hAO
  have hEb := own_low hEn (k := E) rfl
  have hEl := own_block_lt hEn (k := E) rfl
  go_upto_region 3 with fail
  generalize hw3 : World.alloc w2 _ = w3
  have hg23 : Gr w2 w3 := by rw [← hw3]; exact (Gr.refl _).alloc _
  obtain ⟨T6, hT6⟩ : ∃ T6, T6 = w2.heap.size := ⟨_, rfl⟩
  have x0 : w3.cell? ⟨T6, 0, none⟩ = some (.slice (some ⟨gO, 0, none⟩) (n' + 1) cO) := by rw [← hw3, hT6]; simp [go_sem]
  have x2 : w3.cell? ⟨T6, 2, none⟩ = some (.slice (some ⟨E, 0, none⟩) (n' + 1) (n' + 1)) := by rw [← hw3, hT6]; simp [go_sem]
  have hg13 := hg2.trans hg23
  have hgw3 := hgw1.trans hg13
  have hsz2 := hg2.size
  have hT6F : ¬ T6 = F := by omega
  have hEF : ¬ E = F := by omega
  have hOF : ¬ gO = F := by omega
  have hbF : ¬ w.heap.size = F := by omega
  rw [← hT6]
  replace y0 := hg13.has y0
  replace y1 := hg13.has y1
  have O3 := Lib.hid (own_gr O1.out hg13)
  have HEn := Lib.hid (own_gr hEn hg23)
  have HOr := Lib.hid (own_gr hOr hg23)
  clear hw3 hT6 hEn hOr hg2 hg23 hg13 O1
  rcases Nat.lt_or_ge 1 cO with hcO | hcO
  · have hne1 : ¬ cO = 1 := by omega
    go_wp2_with fail
    go_loopw [28] (fun i wr => ∃ k : Nat, k ≤ n' ∧ i = .int .i64 k ∧ wr.ownsRow w.heap.size 2 1 (.slice (some ⟨F, 0, none⟩) (n' + 1) (n' + 1)) (n' + 1) (ints (lvTo n fl 0 k)) ∧ Gr w wr ∧ Chg (fun j => j = F) w3 wr) (fun i _ => n' - (intOf i).toNat)
    case atStart => exact ⟨0, Nat.zero_le _, rfl, O3.out, hgw3, Chg.refl _ _⟩
    case round =>
      obtain ⟨k, hk, rfl, hO, hgr, hcc⟩ := hrel
      have HO := Lib.hid hO
      clear hO O3
      by_cases hlt : k < n'
      · obtain ⟨v, hv⟩ : ∃ v, (ordZ (eds n.pipes) (n' + 1) 0)[k + 1]? = some v := ⟨_, List.getElem?_eq_getElem (by have := Hol.out; omega)⟩
        obtain ⟨q, up, t, x, S⟩ := lv_step (fl := fl) Hnl.out Hok.out Hc.out hv
        have hql : q < n2 := by have := S.ql; have := Hl2.out; omega
        obtain ⟨po, _⟩ := own_int HOr.out (k := k + 1) (x := (v : Int)) (by rw [List.getElem?_map, hv]; rfl)
        obtain ⟨pe, _⟩ := own_int HEn.out S.en
        replace po := chg_cell' hcc po hOF
        replace pe := chg_cell' hcc pe hEF
        rw [Nat.add_comm k 1] at po
        have u0 := chg_cell' hcc x0 hT6F
        have u2 := chg_cell' hcc x2 hT6F
        have u1 := chg_cell' hcc y1 hbF
        obtain ⟨z, hz⟩ : ∃ z, fl[q]? = some z := ⟨_, List.getElem?_eq_getElem (by have := Hlf.out; omega)⟩
        have hze : fl.getD q 0 = z := by rw [List.getD_eq_getElem?_getD, hz]; rfl
        have hzb := flOk_get Hf.out q
        rw [hze] at hzb
        obtain ⟨bz, oz, hAA, hbz, kx⟩ := (HF.out.gr hgr).sl.int hz
        subst hAA
        obtain ⟨bp, op, hAA, hbp, e0, e1, e2, e3, e4⟩ := (HA.out.gr hgr).pipes.pp S.px
        subst hAA
        have hpe : n.pipes.getD q dP = x := by rw [List.getD_eq_getElem?_getD, S.px]; rfl
        have hxk := pipe_k Hok.out S.ql
        rw [hpe] at hxk
        have hdb := lvX_bnd Hok.out Hf.out S.ql
        rw [hze, hpe] at hdb
        obtain ⟨D, hD⟩ : ∃ D, D = drp x z := ⟨_, rfl⟩
        rw [← hD] at hdb
        have hst := S.st 0
        rw [hze, ← hD] at hst
        obtain ⟨a, ha⟩ : ∃ a, a = (lvTo n fl 0 k).getD up 0 := ⟨_, rfl⟩
        have hab := lv_bnd (lev := 0) (B := 0) Hok.out Hcn.out Hf.out (by omega) k up
        rw [← ha] at hst hab
        have hlen := lv_len n fl 0 k
        rw [Hnl.out] at hlen
        obtain ⟨pa, _⟩ := own_int HO.out (k := up) (x := a) (by rw [ha]; exact get_int (by rw [hlen]; exact S.ul))
        obtain ⟨zv, hzv⟩ : ∃ zv, (lvTo n fl 0 k)[v]? = some zv := ⟨_, List.getElem?_eq_getElem (by rw [hlen]; exact S.vl)⟩
        obtain ⟨pv, fv⟩ := own_int HO.out hzv
        have hwa : IntKind.i64.wrap (a + D) = a + D := IntWalk.i64_in _ (by omega)
        have hws : IntKind.i64.wrap (a - D) = a - D := IntWalk.i64_in _ (by omega)
        have hsub : a - D = a + -D := by omega
        have HD := Lib.hid hD
        have Hst := Lib.hid hst
        have hvl := S.vl
        have hul := S.ul
        have Hends := Lib.hid S.ends
        have hne := S.ne
        have Hsub := Lib.hid hsub
        have s0 : (k : Int) < (n' : Int) := by omega
        have s1 : (0 : Int) ≤ (k : Int) := by omega
        have s2 : (v : Int) < ((n' + 1 : Nat) : Int) := by omega
        have s2' : (v : Int) < (n' : Int) + 1 := by omega
        have s3 : (0 : Int) ≤ (v : Int) := by omega
        have s6 : (q : Int) < (n2 : Int) := by omega
        have s7 : (0 : Int) ≤ (q : Int) := by omega
        have s8 : (up : Int) < ((n' + 1 : Nat) : Int) := by omega
        have s8' : (up : Int) < (n' : Int) + 1 := by omega
        have s9 : (0 : Int) ≤ (up : Int) := by omega
        clear hv S hz hze hpe hD hst ha hab hlen hzv hsub hdb
        rename World => wr
        go_upto_region 8 with fail
        generalize hw4 : World.alloc wr _ = w4
        have hg4 : Gr wr w4 := by rw [← hw4]; exact (Gr.refl _).alloc _
        have z0 : w4.cell? ⟨wr.heap.size, 0, none⟩ = some (.int .i64 x.src) := by rw [← hw4]; simp [go_sem]
        have z1 : w4.cell? ⟨wr.heap.size, 1, none⟩ = some (.int .i64 x.dst) := by rw [← hw4]; simp [go_sem]
        have z2 : w4.cell? ⟨wr.heap.size, 2, none⟩ = some (.int .i64 x.k) := by rw [← hw4]; simp [go_sem]
        have z3 : w4.cell? ⟨wr.heap.size, 3, none⟩ = some (.int .i64 x.vol) := by rw [← hw4]; simp [go_sem]
        have z4 : w4.cell? ⟨wr.heap.size, 4, none⟩ = some (.int .i64 x.lim) := by rw [← hw4]; simp [go_sem]
        have kx := hg4.has kx
        clear hw4 e0 e1 e2 e3 e4 po pe u0 u1 u2
        refine wp_region_text (fun w' => Gr w4 w') (by kernel_rfl) (by kernel_rfl) (by decide) (Gr.refl _).drew ?_
        repeat (first
          | ((with_reducible refine wpText_skip ?_ ?_)
             · rfl
             simp only [Act.put, List.setIfInBounds_toArray, List.set_cons_zero, List.set_cons_succ])
          | ((with_reducible refine wpText_yield (v := ?_) ?_ ?_ ?_)
             rotate_left
             · rfl
             · (intro W hW; have kz0 := hW.has z0; have kz1 := hW.has z1; have kz2 := hW.has z2; have kz3 := hW.has z3; have kz4 := hW.has z4; have kkx := hW.has kx; first | (go_simp; done) | (go_simp; with_reducible rfl))
             simp only [Act.put, List.setIfInBounds_toArray, List.set_cons_zero, List.set_cons_succ])
          | ((with_reducible refine wpText_yield1 (v := ?_) ?_ ?_ ?_)
             rotate_left
             · rfl
             · (intro W hW; have kz0 := hW.has z0; have kz1 := hW.has z1; have kz2 := hW.has z2; have kz3 := hW.has z3; have kz4 := hW.has z4; have kkx := hW.has kx; first | (go_simp; done) | (go_simp; with_reducible rfl))
             simp only [Act.put, List.setIfInBounds_toArray, List.set_cons_zero, List.set_cons_succ]))
        refine wpText_do (.int .i64 D) (by rfl) (fun W hW K hK => ?_) ?_
        ·
          have kz0 := hW.has z0
          have kz1 := hW.has z1
          have kz2 := hW.has z2
          have kz3 := hW.has z3
          have kz4 := hW.has z4
          have kkx := hW.has kx
          go_simp
          refine (dropOf_any x z _ hxk hzb).mono ?_
          rintro e w' ⟨rfl, hg⟩
          rw [← HD.out]
          exact hK _ (hW.trans hg)
        simp only [Act.put, List.setIfInBounds_toArray, List.set_cons_zero, List.set_cons_succ]
        repeat (first
          | ((with_reducible refine wpText_skip ?_ ?_)
             · rfl
             simp only [Act.put, List.setIfInBounds_toArray, List.set_cons_zero, List.set_cons_succ])
          | ((with_reducible refine wpText_yield (v := ?_) ?_ ?_ ?_)
             rotate_left
             · rfl
             · (intro W hW; have kz0 := hW.has z0; have kz1 := hW.has z1; have kz2 := hW.has z2; have kz3 := hW.has z3; have kz4 := hW.has z4; have kkx := hW.has kx; first | (go_simp; done) | (go_simp; with_reducible rfl))
             simp only [Act.put, List.setIfInBounds_toArray, List.set_cons_zero, List.set_cons_succ])
          | ((with_reducible refine wpText_yield1 (v := ?_) ?_ ?_ ?_)
             rotate_left
             · rfl
             · (intro W hW; have kz0 := hW.has z0; have kz1 := hW.has z1; have kz2 := hW.has z2; have kz3 := hW.has z3; have kz4 := hW.has z4; have kkx := hW.has kx; first | (go_simp; done) | (go_simp; with_reducible rfl))
             simp only [Act.put, List.setIfInBounds_toArray, List.set_cons_zero, List.set_cons_succ]))
        rintro W5 hS5
        have h5 := hg4.trans hS5
        have hgr5 := hgr.trans h5
        have hcc5 := hcc.trans (h5.chg _)
        replace HO := Lib.hid (own_gr HO.out h5)
        replace z0 := hS5.has z0
        replace z1 := hS5.has z1
        replace pa := h5.has pa
        replace pv := h5.has pv
        replace fv := HO.out.frozenAt v
        have hFl := own_block_lt HO.out (k := F) rfl
        clear z2 z3 z4 kx hg4 hS5 h5
        rcases Hends.out with ⟨h1, h2⟩ | ⟨h1, h2⟩
        · have tb : ((up : Int) == (v : Int)) = false := by simp; omega
          rw [h1] at z0
          rw [h2] at z1
          have Hput := Lib.hid (own_eq' (own_set_int HO.out v (a + D)).1 (congrArg ints (show (lvTo n fl 0 k).set v (a + D) = lvTo n fl 0 (k + 1) by rw [Hst.out, if_pos h1])))
          clear h1 h2 hne
          go_wp2_with fail
          go_roundw
          case rel => exact ⟨k + 1, hlt, by go_num, Hput.out, hgr5.setCell (by simp only; omega) _, hcc5.trans (chg_put _ _)⟩
          case measure => simp [intOf]; omega
        · rw [h1] at z0
          rw [h2] at z1
          have Hput := Lib.hid (own_eq' (own_set_int HO.out v (a - D)).1 (congrArg ints (show (lvTo n fl 0 k).set v (a - D) = lvTo n fl 0 (k + 1) by rw [Hst.out, if_neg (by omega), Hsub.out])))
          clear h1 h2 hne
          go_wp2_with fail
          go_roundw
          case rel => exact ⟨k + 1, hlt, by go_num, Hput.out, hgr5.setCell (by simp only; omega) _, hcc5.trans (chg_put _ _)⟩
          case measure => simp [intOf]; omega
      · obtain rfl : n' = k := by omega
        have hll : (lvTo n fl 0 n').length = n' + 1 := by rw [lv_len]; exact Hnl.out
        have Hll := Lib.hid hll
        have Hlv : Hid (lvL n fl 0 = lvTo n fl 0 n') := Lib.hid (by rw [lvL, Hnl.out]; first | done | rfl)
        have hz0v : (lvTo n fl 0 n').getD 0 0 = 0 := lv_zero Hok.out Hcn.out _
        obtain ⟨l0, _⟩ := own_int HO.out (k := 0) (x := 0) (by have h := get_int (l := lvTo n fl 0 n') (k := 0) (by rw [Hll.out]; omega); rw [hz0v] at h; exact h)
        have hbn := lv_bnd (lev := 0) (B := 0) Hok.out Hcn.out Hf.out (by omega) n'
        have Hbn := Lib.hid hbn
        have hws : IntKind.i64.wrap lev = lev := IntWalk.i64_in _ (by omega)
        have s2 : (0 : Int) < ((n' + 1 : Nat) : Int) := by omega
        have s2' : (0 : Int) < (n' : Int) + 1 := by omega
        rename World => wq
        clear hll hz0v hbn x0 x2
        go_wp2_with fail
        clear l0 hws
        go_loopw [81] (fun i wr => ∃ j : Nat, j ≤ n' + 1 ∧ i = .int .i64 j ∧ wr.ownsRow w.heap.size 2 1 (.slice (some ⟨F, 0, none⟩) (n' + 1) (n' + 1)) (n' + 1) (ints (shTo lev (lvTo n fl 0 n') j)) ∧ Gr w wr) (fun i _ => n' + 1 - (intOf i).toNat)
        case atStart => exact ⟨0, Nat.zero_le _, rfl, own_eq' HO.out (by simp [shTo]), hgr⟩
        case round =>
          obtain ⟨j, hj, rfl, hO', hgr'⟩ := hrel
          have HO' := Lib.hid hO'
          clear hO'
          by_cases hjl : j < n' + 1
          · obtain ⟨z, hz⟩ : ∃ z, (lvTo n fl 0 n')[j]? = some z := ⟨_, List.getElem?_eq_getElem (by rw [Hll.out]; exact hjl)⟩
            have hzb := Hbn.out j
            rw [List.getD_eq_getElem?_getD, hz, Option.getD_some] at hzb
            obtain ⟨pz, fz⟩ := own_int HO'.out (shTo_at (lev := lev) hz)
            have hwz : IntKind.i64.wrap (z + lev) = z + lev := IntWalk.i64_in _ (by omega)
            have Hput := Lib.hid (own_eq' (own_set_int HO'.out j (z + lev)).1 (congrArg ints (shTo_succ hz)))
            have r1 : (j : Int) < ((n' + 1 : Nat) : Int) := by omega
            have r1' : (j : Int) < (n' : Int) + 1 := by omega
            have r0 : (0 : Int) ≤ (j : Int) := by omega
            clear hz hzb
            go_wp2_with fail
            go_roundw
            case rel => exact ⟨j + 1, by omega, by go_num, Hput.out, hgr'.setCell (by simp only; omega) _⟩
            case measure => simp [intOf]; omega
          · obtain rfl : j = n' + 1 := by omega
            go_wp2_with fail
            go_ret
            exact ⟨F, rfl, own_eq' HO'.out (by rw [lvL_shift Hok.out Hcn.out, Hlv.out, shTo_all (by rw [Hll.out]; exact Nat.le_refl _)]), hgr'⟩
  · obtain rfl : cO = 1 := by omega
    obtain rfl : n' = 0 := by omega
    go_wp2_with fail
    go_loopw [28] (fun i wr => ∃ k : Nat, k ≤ 0 ∧ i = .int .i64 k ∧ wr.ownsRow w.heap.size 2 1 (.slice (some ⟨F, 0, none⟩) (0 + 1) (0 + 1)) (0 + 1) (ints (lvTo n fl 0 k)) ∧ Gr w wr ∧ Chg (fun j => j = F) w3 wr) (fun i _ => 0 - (intOf i).toNat)
    case atStart => exact ⟨0, Nat.zero_le _, rfl, O3.out, hgw3, Chg.refl _ _⟩
    case round =>
      obtain ⟨k, hk, rfl, hO, hgr, hcc⟩ := hrel
      have HO := Lib.hid hO
      clear hO O3
      obtain rfl : k = 0 := by omega
      have hll : (lvTo n fl 0 0).length = 0 + 1 := by rw [lv_len]; exact Hnl.out
      have Hll := Lib.hid hll
      have Hlv : Hid (lvL n fl 0 = lvTo n fl 0 0) := Lib.hid (by rw [lvL, Hnl.out]; first | done | rfl)
      have hz0v : (lvTo n fl 0 0).getD 0 0 = 0 := lv_zero Hok.out Hcn.out _
      obtain ⟨l0, _⟩ := own_int HO.out (k := 0) (x := 0) (by have h := get_int (l := lvTo n fl 0 0) (k := 0) (by rw [Hll.out]; omega); rw [hz0v] at h; exact h)
      have hbn := lv_bnd (lev := 0) (B := 0) Hok.out Hcn.out Hf.out (by omega) 0
      have Hbn := Lib.hid hbn
      have hws : IntKind.i64.wrap lev = lev := IntWalk.i64_in _ (by omega)
      have s2 : (0 : Int) < ((0 + 1 : Nat) : Int) := by omega
      have s2' : (0 : Int) < (0 : Int) + 1 := by omega
      rename World => wq
      clear hll hz0v hbn x0 x2
      go_wp2_with fail
      clear l0 hws
      go_loopw [81] (fun i wr => ∃ j : Nat, j ≤ 0 + 1 ∧ i = .int .i64 j ∧ wr.ownsRow w.heap.size 2 1 (.slice (some ⟨F, 0, none⟩) (0 + 1) (0 + 1)) (0 + 1) (ints (shTo lev (lvTo n fl 0 0) j)) ∧ Gr w wr) (fun i _ => 0 + 1 - (intOf i).toNat)
      case atStart => exact ⟨0, Nat.zero_le _, rfl, own_eq' HO.out (by simp [shTo]), hgr⟩
      case round =>
        obtain ⟨j, hj, rfl, hO', hgr'⟩ := hrel
        have HO' := Lib.hid hO'
        clear hO'
        by_cases hjl : j < 0 + 1
        · obtain ⟨z, hz⟩ : ∃ z, (lvTo n fl 0 0)[j]? = some z := ⟨_, List.getElem?_eq_getElem (by rw [Hll.out]; exact hjl)⟩
          have hzb := Hbn.out j
          rw [List.getD_eq_getElem?_getD, hz, Option.getD_some] at hzb
          obtain ⟨pz, fz⟩ := own_int HO'.out (shTo_at (lev := lev) hz)
          have hwz : IntKind.i64.wrap (z + lev) = z + lev := IntWalk.i64_in _ (by omega)
          have Hput := Lib.hid (own_eq' (own_set_int HO'.out j (z + lev)).1 (congrArg ints (shTo_succ hz)))
          have r1 : (j : Int) < ((0 + 1 : Nat) : Int) := by omega
          have r1' : (j : Int) < (0 : Int) + 1 := by omega
          have r0 : (0 : Int) ≤ (j : Int) := by omega
          clear hz hzb
          go_wp2_with fail
          go_roundw
          case rel => exact ⟨j + 1, by omega, by go_num, Hput.out, hgr'.setCell (by simp only; omega) _⟩
          case measure => simp [intOf]; omega
        · obtain rfl : j = 0 + 1 := by omega
          go_wp2_with fail
          go_ret
          exact ⟨F, rfl, own_eq' HO'.out (by rw [lvL_shift Hok.out Hcn.out, Hlv.out, shTo_all (by rw [Hll.out]; exact Nat.le_refl _)]), hgr'⟩
end Go.Proofs.YthhmhigddmimjaaGreat
/-
  The range of the root: the program. Printed by gen_pt15.py.
-/
set_option linter.unusedSimpArgs false
set_option linter.unusedVariables false
namespace Go.Proofs.YthhmhigddmimjaaGreat
open Go.ChangeShapes Go.WideShapes Go.ChangeAt Go.RowKit

set_option maxHeartbeats 6400000 in
set_option maxRecDepth 100000 in
theorem rootRange_any {A1 A2 A3 : Option Addr} {n1 c1 n2 c2 c3 : Nat} (n : GNet) (fl : List Int) (w : World) (hA : NetAt w A1 n1 c1 A2 n2 c2 n) (hF : SlAt w 1 A3 n2 c3 (ints fl)) (hok : netOk n = true) (hc : conB (eds n.pipes) n1 = true) (hf : flOk n fl = true) :
    Calls Tryz.prog 105 #[.agg #[.slice A1 n1 c1, .slice A2 n2 c2], .slice A3 n2 c3, .int .i64 0] w fun e w' => ((opHi n fl < opLo n fl ∧ e = .returned (.tuple #[.int .i64 0, .int .i64 0, .int .i64 7])) ∨ (¬ opHi n fl < opLo n fl ∧ e = .returned (.tuple #[.int .i64 (opLo n fl), .int .i64 (opHi n fl), .int .i64 0]))) ∧ Gr w w' := by
  obtain ⟨i0, hi0, hz0, hz1, hz2⟩ := info_parts infoInt64
  have hm1 := hA.m1
  have hm2 := hA.m2
  have hnl := hA.l1
  have h24 : n1 ≤ 24 := by have := (netOk_all hok).1.2.1; rw [hA.l1] at this; exact this
  have h0 : 0 < n1 := by have := (netOk_all hok).1.1; rw [hA.l1] at this; exact this
  have hol : (ordZ (eds n.pipes) n1 0).length = n1 := of_decide_eq_true hc
  have hcn : conB (eds n.pipes) n.nodes.length = true := by rw [hnl]; exact hc
  have hE : EsOk (eds n.pipes) n1 := by have := eds_ok hok; rw [hA.l1] at this; exact this
  have HA := Lib.hid hA
  have HF := Lib.hid hF
  have Hok := Lib.hid hok
  have Hc := Lib.hid hc
  have Hcn := Lib.hid hcn
  have Hf := Lib.hid hf
  have Hnl := Lib.hid hnl
  have Hol := Lib.hid hol
  have HE := Lib.hid hE
  have Hl2 := Lib.hid hA.l2
  have Hlf := Lib.hid hF.sl.ilen
  clear hA hF hok hc hcn hf hnl hol hE
  go_enter Tryz.func105, Tryz.ntmps105
  go_wp2_with fail
  obtain ⟨w1, hw1⟩ : ∃ W, W = w.alloc (.cells #[.slice A1 n1 c1, .slice A2 n2 c2] 32) := ⟨_, rfl⟩
  have hg1 : Gr w w1 := by rw [hw1]; exact (Gr.refl _).alloc _
  have y0 : w1.cell? ⟨w.heap.size, 0, none⟩ = some (.slice A1 n1 c1) := by rw [hw1]; simp [go_sem]
  have y1 : w1.cell? ⟨w.heap.size, 1, none⟩ = some (.slice A2 n2 c2) := by rw [hw1]; simp [go_sem]
  rw [← hw1]
  clear hw1
  refine (forestLevels_any n fl 0 _ (HA.out.gr hg1) (HF.out.gr hg1) Hok.out Hc.out Hf.out (by omega)).mono ?_
  rintro e w2 ⟨F, rfl, hL, hg2⟩
  have HL := Lib.hid hL
  have hgw2 := hg1.trans hg2
  have hll : (lvL n fl 0).length = n1 := by have := lv_len n fl 0 (n.nodes.length - 1); rw [← Hnl.out]; exact this
  have Hll := Lib.hid hll
  have u0 := hg2.has y0
  clear hL hll y0 y1
  obtain ⟨x, hx⟩ : ∃ x, n.nodes[0]? = some x := ⟨_, List.getElem?_eq_getElem (by have := Hnl.out; omega)⟩
  have hxb := node_bnd Hok.out hx
  have hnd : nodeD n 0 = x := by rw [nodeD, List.getD_eq_getElem?_getD, hx]; rfl
  obtain ⟨bn, on, hAA, hbn, d0, d1, d2⟩ := (HA.out.gr hgw2).nodes.nd hx
  subst hAA
  have Hr0 : Hid (rLo n (lvL n fl 0) 0 = x.low ∧ rHi n (lvL n fl 0) 0 = x.high) := Lib.hid (by rw [← hnd]; exact ⟨rfl, rfl⟩)
  have t1 : (0 : Int) < (n1 : Int) := by omega
  clear hx hnd d0 hg2
  go_upto_region 2 with fail
  refine wp_region_text (fun w' => Gr w2 w') (by kernel_rfl) (by kernel_rfl) (by decide) (Gr.refl _).drew ?_
  repeat (first
    | ((with_reducible refine wpText_skip ?_ ?_)
       · rfl
       simp only [Act.put, List.setIfInBounds_toArray, List.set_cons_zero, List.set_cons_succ])
    | ((with_reducible refine wpText_yield (v := ?_) ?_ ?_ ?_)
       rotate_left
       · rfl
       · (intro W hW; have ku0 := hW.has u0; have kd1 := hW.has d1; have kd2 := hW.has d2; first | (go_simp; done) | (go_simp; with_reducible rfl))
       simp only [Act.put, List.setIfInBounds_toArray, List.set_cons_zero, List.set_cons_succ])
    | ((with_reducible refine wpText_yield1 (v := ?_) ?_ ?_ ?_)
       rotate_left
       · rfl
       · (intro W hW; have ku0 := hW.has u0; have kd1 := hW.has d1; have kd2 := hW.has d2; first | (go_simp; done) | (go_simp; with_reducible rfl))
       simp only [Act.put, List.setIfInBounds_toArray, List.set_cons_zero, List.set_cons_succ]))
  rintro w3 hS3
  have hgw3 := hgw2.trans hS3
  replace u0 := hS3.has u0
  have HL3 := Lib.hid (own_gr HL.out hS3)
  clear hS3 d1 d2
  go_wp2_with fail
  go_loopw [10, 11, 33] (fun lo hi i wr => ∃ k : Nat, k ≤ n1 ∧ i = .int .i64 k ∧ lo = .int .i64 (rLo n (lvL n fl 0) k) ∧ hi = .int .i64 (rHi n (lvL n fl 0) k) ∧ Gr w3 wr) (fun _ _ i _ => n1 - (intOf i).toNat)
  case atStart => exact ⟨0, Nat.zero_le _, rfl, by rw [Hr0.out.1], by rw [Hr0.out.2], Gr.refl _⟩
  case round =>
    obtain ⟨k, hk, rfl, rfl, rfl, hgr⟩ := hrel
    by_cases hlt : k < n1
    · rename World => wr
      obtain ⟨z, hz⟩ : ∃ z, z = (lvL n fl 0).getD k 0 := ⟨_, rfl⟩
      have hzb := rng_small Hok.out Hcn.out Hf.out k
      rw [← hz] at hzb
      obtain ⟨l0, _⟩ := own_int (own_gr HL3.out hgr) (k := k) (x := z) (by rw [hz]; exact get_int (by rw [Hll.out]; exact hlt))
      obtain ⟨LO, hLO⟩ : ∃ LO, LO = rLo n (lvL n fl 0) k := ⟨_, rfl⟩
      obtain ⟨HI, hHI⟩ : ∃ HI, HI = rHi n (lvL n fl 0) k := ⟨_, rfl⟩
      rw [← hLO, ← hHI]
      obtain ⟨x2, hx⟩ : ∃ x2, n.nodes[k]? = some x2 := ⟨_, List.getElem?_eq_getElem (by have := Hnl.out; omega)⟩
      have hxb := node_bnd Hok.out hx
      have hnd : nodeD n k = x2 := by rw [nodeD, List.getD_eq_getElem?_getD, hx]; rfl
      obtain ⟨bn, on, hAA, hbn, d0, d1, d2⟩ := (HA.out.gr (hgw3.trans hgr)).nodes.nd hx
      cases hAA
      have Hsl : Hid (rLo n (lvL n fl 0) (k + 1) = max LO (x2.low - z)) := Lib.hid (by show max (rLo n (lvL n fl 0) k) ((nodeD n k).low - (lvL n fl 0).getD k 0) = _; rw [hnd, ← hz, ← hLO])
      have Hsh : Hid (rHi n (lvL n fl 0) (k + 1) = min HI (x2.high - z)) := Lib.hid (by show min (rHi n (lvL n fl 0) k) ((nodeD n k).high - (lvL n fl 0).getD k 0) = _; rw [hnd, ← hz, ← hHI])
      have hw1 : IntKind.i64.wrap (x2.low - z) = x2.low - z := IntWalk.i64_in _ (by omega)
      have hw2 : IntKind.i64.wrap (x2.high - z) = x2.high - z := IntWalk.i64_in _ (by omega)
      have s2 : (k : Int) < (n1 : Int) := by omega
      have s0 : (0 : Int) ≤ (k : Int) := by omega
      clear hx hnd hz hLO hHI hzb
      go_upto_region 6 with fail
      generalize hw4 : World.alloc wr _ = w4
      have hg4 : Gr wr w4 := by rw [← hw4]; exact (Gr.refl _).alloc _
      have z1 : w4.cell? ⟨wr.heap.size, 1, none⟩ = some (.int .i64 x2.low) := by rw [← hw4]; simp [go_sem]
      have z2 : w4.cell? ⟨wr.heap.size, 2, none⟩ = some (.int .i64 x2.high) := by rw [← hw4]; simp [go_sem]
      replace l0 := hg4.has l0
      clear hw4 d0 d1 d2
      refine wp_region_text (fun w' => Gr w4 w') (by kernel_rfl) (by kernel_rfl) (by decide) (Gr.refl _).drew ?_
      repeat (first
        | ((with_reducible refine wpText_skip ?_ ?_)
           · rfl
           simp only [Act.put, List.setIfInBounds_toArray, List.set_cons_zero, List.set_cons_succ])
        | ((with_reducible refine wpText_yield (v := ?_) ?_ ?_ ?_)
           rotate_left
           · rfl
           · (intro W hW; have kz1 := hW.has z1; have kz2 := hW.has z2; have kl0 := hW.has l0; first | (go_simp; done) | (go_simp; with_reducible rfl))
           simp only [Act.put, List.setIfInBounds_toArray, List.set_cons_zero, List.set_cons_succ])
        | ((with_reducible refine wpText_yield1 (v := ?_) ?_ ?_ ?_)
           rotate_left
           · rfl
           · (intro W hW; have kz1 := hW.has z1; have kz2 := hW.has z2; have kl0 := hW.has l0; first | (go_simp; done) | (go_simp; with_reducible rfl))
           simp only [Act.put, List.setIfInBounds_toArray, List.set_cons_zero, List.set_cons_succ]))
      rintro W5 hS5
      have hgr5 := (hgr.trans hg4).trans hS5
      clear z1 z2 l0 hS5 hg4
      go_wp2_with fail
      go_roundw
      case rel => exact ⟨k + 1, by omega, by go_num, by rw [Hsl.out], by rw [Hsh.out], hgr5⟩
      case measure => simp [intOf]; omega
    · obtain rfl : n1 = k := by omega
      have Hlo : Hid (opLo n fl = rLo n (lvL n fl 0) n1 ∧ opHi n fl = rHi n (lvL n fl 0) n1) := Lib.hid (by rw [opLo, opHi, Hnl.out]; exact ⟨rfl, rfl⟩)
      obtain ⟨LO, hLO⟩ : ∃ LO, LO = rLo n (lvL n fl 0) n1 := ⟨_, rfl⟩
      obtain ⟨HI, hHI⟩ : ∃ HI, HI = rHi n (lvL n fl 0) n1 := ⟨_, rfl⟩
      rw [← hLO, ← hHI] at Hlo ⊢
      have hgf := hgw3.trans hgr
      clear hLO hHI Hr0
      by_cases hq : HI < LO
      · have Hq := Lib.hid hq
        go_wp2_with fail
        (try simp only [Exit.inBlock, Exit.then])
        refine bodyPost_ret (results_tmp3 Tryz.results105 _ _ _) ?_ ?_
        · rfl
        exact ⟨.inl ⟨by rw [Hlo.out.1, Hlo.out.2]; exact Hq.out, rfl⟩, hgf⟩
      · have Hq := Lib.hid hq
        have hq' : LO ≤ HI := by omega
        go_wp2_with fail
        (try simp only [Exit.inBlock, Exit.then])
        refine bodyPost_ret (results_tmp3 Tryz.results105 _ _ _) ?_ ?_
        · rfl
        exact ⟨.inr ⟨by rw [Hlo.out.1, Hlo.out.2]; exact Hq.out, by rw [Hlo.out.1, Hlo.out.2]; rfl⟩, hgf⟩
end Go.Proofs.YthhmhigddmimjaaGreat
/-
  Plain: the operating point within its bounds, open networks, good settings and the numbers for them. No program here.
-/
set_option linter.unusedSimpArgs false
set_option linter.unusedVariables false
namespace Go.Proofs.YthhmhigddmimjaaGreat

/-- The first k elements are those of g, the others those of f. -/
def prt (g f : List Int) (k : Nat) : List Int := g.take k ++ f.drop k
theorem prt_zero (g f : List Int) : prt g f 0 = f := by simp [prt]
theorem prt_full {g f : List Int} (hl : f.length = g.length) {k : Nat} (hk : g.length ≤ k) : prt g f k = g := by
  rw [prt, List.take_of_length_le hk, List.drop_eq_nil_of_le (by omega), List.append_nil]
theorem prt_at {g f : List Int} {k : Nat} {x : Int} (hl : f.length = g.length) (h : f[k]? = some x) : (prt g f k)[k]? = some x := by
  have hk := (List.getElem?_eq_some_iff.1 h).1
  rw [prt, List.getElem?_append_right (by simp; omega)]
  simp only [List.length_take, List.getElem?_drop]
  rw [show k + (k - min k g.length) = k by omega]
  exact h
theorem prt_set {g f : List Int} {k : Nat} {x : Int} (hl : f.length = g.length) (h : g[k]? = some x) : (prt g f k).set k x = prt g f (k + 1) := by
  have hk := (List.getElem?_eq_some_iff.1 h).1
  have e1 : f.drop k = f[k] :: f.drop (k + 1) := List.drop_eq_getElem_cons (by omega)
  have e2 : (g.take k).length = k := by simp; omega
  unfold prt
  rw [List.set_append_right _ _ (by omega), e2, Nat.sub_self, e1, List.set_cons_zero, List.take_add_one, h, Option.toList_some, List.append_assoc]
  rfl
/- Codes. -/
theorem oc_zero {n : GNet} {sup : List Int} (h : ocCode n sup = 0) : suCode n sup = 0 ∧ conB (eds n.pipes) n.nodes.length = true := by
  unfold ocCode at h
  by_cases e : suCode n sup = 0
  · rw [if_pos e] at h
    by_cases c : conB (eds n.pipes) n.nodes.length = true
    · exact ⟨e, c⟩
    · rw [if_neg c] at h; exact absurd h (by decide)
  · rw [if_neg e] at h; exact absurd h e
theorem fo_zero {n : GNet} {sup : List Int} (h : foCode n sup = 0) : evCode n sup = 0 ∧ flOk n (ffL (eds n.pipes) n.nodes.length sup) = true := by
  unfold foCode at h
  by_cases e : evCode n sup = 0
  · rw [if_pos e] at h
    by_cases c : flOk n (ffL (eds n.pipes) n.nodes.length sup) = true
    · exact ⟨e, c⟩
    · rw [if_neg c] at h; exact absurd h (by decide)
  · rw [if_neg e] at h; exact absurd h e
theorem sol_ok {n : GNet} {sup : List Int} (h : foCode n sup = 0) : flOk n (solF n sup) = true := (rlx_ok n _ _ _ _ _ (Nat.le_refl _) (fo_zero h).2).1
theorem op_oc {n : GNet} {sup : List Int} (h : ocCode n sup ≠ 0) : opCode n sup = ocCode n sup ∧ opStep n sup = 0 := ⟨by rw [opCode, if_neg h], by rw [opStep, if_neg h]⟩
theorem op_fo {n : GNet} {sup : List Int} (h0 : ocCode n sup = 0) (h : foCode n sup ≠ 0) : opCode n sup = foCode n sup ∧ opStep n sup = 1 := ⟨by rw [opCode, if_pos h0, if_neg h], by rw [opStep, if_pos h0, if_neg h]⟩
theorem op_lim {n : GNet} {sup : List Int} (h0 : ocCode n sup = 0) (h1 : foCode n sup = 0) (h : limOk n (solF n sup) = false) : opCode n sup = 7 ∧ opStep n sup = 2 := ⟨by rw [opCode, if_pos h0, if_pos h1, h]; rfl, by rw [opStep, if_pos h0, if_pos h1, h]; rfl⟩
theorem op_rng {n : GNet} {sup : List Int} (h0 : ocCode n sup = 0) (h1 : foCode n sup = 0) (h2 : limOk n (solF n sup) = true) (h : opHi n (solF n sup) < opLo n (solF n sup)) : opCode n sup = 7 ∧ opStep n sup = 3 := ⟨by rw [opCode, if_pos h0, if_pos h1, if_pos h2, if_pos h], by rw [opStep, if_pos h0, if_pos h1, if_pos h2, if_pos h]⟩
theorem op_yes {n : GNet} {sup : List Int} (h0 : ocCode n sup = 0) (h1 : foCode n sup = 0) (h2 : limOk n (solF n sup) = true) (h : ¬ opHi n (solF n sup) < opLo n (solF n sup)) : opCode n sup = 0 ∧ opStep n sup = 0 := ⟨by rw [opCode, if_pos h0, if_pos h1, if_pos h2, if_neg h], by rw [opStep, if_pos h0, if_pos h1, if_pos h2, if_neg h]⟩
theorem op_zero {n : GNet} {sup : List Int} (h : opCode n sup = 0) : ocCode n sup = 0 ∧ foCode n sup = 0 ∧ limOk n (solF n sup) = true ∧ ¬ opHi n (solF n sup) < opLo n (solF n sup) := by
  by_cases h0 : ocCode n sup = 0
  · by_cases h1 : foCode n sup = 0
    · cases h2 : limOk n (solF n sup) with
      | false => rw [(op_lim h0 h1 h2).1] at h; exact absurd h (by decide)
      | true =>
        by_cases h3 : opHi n (solF n sup) < opLo n (solF n sup)
        · rw [(op_rng h0 h1 h2 h3).1] at h; exact absurd h (by decide)
        · exact ⟨h0, h1, rfl, h3⟩
    · rw [(op_fo h0 h1).1] at h; exact absurd h h1
  · rw [(op_oc h0).1] at h; exact absurd h h0
theorem op_step {n : GNet} {sup : List Int} (h : opCode n sup ≠ 0) (h0 : ocCode n sup = 0) : 0 < opStep n sup := by
  by_cases h1 : foCode n sup = 0
  · cases h2 : limOk n (solF n sup) with
    | false => rw [(op_lim h0 h1 h2).2]; decide
    | true =>
      by_cases h3 : opHi n (solF n sup) < opLo n (solF n sup)
      · rw [(op_rng h0 h1 h2 h3).2]; decide
      · exact absurd (op_yes h0 h1 h2 h3).1 h
  · rw [(op_fo h0 h1).2]; decide
theorem op_net {n : GNet} {sup : List Int} (h : ocCode n sup = 0) : netOk n = true ∧ supOk n.nodes.length sup = true ∧ conB (eds n.pipes) n.nodes.length = true := ⟨(suCode_zero (oc_zero h).1).1, (suCode_zero (oc_zero h).1).2, (oc_zero h).2⟩
/- Ranges. -/
theorem rLo_ge (n : GNet) (lv : List Int) : ∀ k i, i < k → (nodeD n i).low - lv.getD i 0 ≤ rLo n lv k := by
  intro k
  induction k with
  | zero => intro i hi; omega
  | succ k ih =>
    intro i hi
    have h1 : rLo n lv (k + 1) = max (rLo n lv k) ((nodeD n k).low - lv.getD k 0) := rfl
    rw [h1]
    rcases Nat.lt_or_ge i k with e | e
    · have := ih i e; omega
    · have : i = k := by omega
      subst this; omega
theorem rHi_le (n : GNet) (lv : List Int) : ∀ k i, i < k → rHi n lv k ≤ (nodeD n i).high - lv.getD i 0 := by
  intro k
  induction k with
  | zero => intro i hi; omega
  | succ k ih =>
    intro i hi
    have h1 : rHi n lv (k + 1) = min (rHi n lv k) ((nodeD n k).high - lv.getD k 0) := rfl
    rw [h1]
    rcases Nat.lt_or_ge i k with e | e
    · have := ih i e; omega
    · have : i = k := by omega
      subst this; omega
theorem rHi_hit {n : GNet} {lv : List Int} (h : lv.getD 0 0 = 0) : ∀ k, ∃ i, i < k + 1 ∧ rHi n lv (k + 1) = (nodeD n i).high - lv.getD i 0 := by
  intro k
  induction k with
  | zero =>
    refine ⟨0, by omega, ?_⟩
    have h1 : rHi n lv (0 + 1) = min (nodeD n 0).high ((nodeD n 0).high - lv.getD 0 0) := rfl
    rw [h1, h]; omega
  | succ k ih =>
    obtain ⟨i, hi, e⟩ := ih
    have h1 : rHi n lv (k + 1 + 1) = min (rHi n lv (k + 1)) ((nodeD n (k + 1)).high - lv.getD (k + 1) 0) := rfl
    by_cases c : rHi n lv (k + 1) ≤ (nodeD n (k + 1)).high - lv.getD (k + 1) 0
    · exact ⟨i, by omega, by rw [h1, ← e]; omega⟩
    · exact ⟨k + 1, by omega, by rw [h1]; omega⟩
def wiB (n : GNet) (lv : List Int) : Bool := netOk n && (decide (lv.length = n.nodes.length) && (List.range n.nodes.length).all fun i => inB (nodeD n i).low (lv.getD i 0) (nodeD n i).high)
theorem lvL_get {n : GNet} {fl : List Int} {lev : Int} (hn : netOk n = true) (hc : conB (eds n.pipes) n.nodes.length = true) {i : Nat} (hi : i < n.nodes.length) : (lvL n fl lev).getD i 0 = (lvL n fl 0).getD i 0 + lev := by
  rw [lvL_shift hn hc, List.getD_eq_getElem?_getD, List.getElem?_map, get_int (l := lvL n fl 0) (by rw [lvL, lv_len]; exact hi)]
  rfl
theorem op_within {n : GNet} {sup : List Int} (h : opCode n sup = 0) (top : Bool) : wiB n (opLv n sup top) = true := by
  obtain ⟨h0, h1, h2, h3⟩ := op_zero h
  obtain ⟨hn, hs, hc⟩ := op_net h0
  rw [opLv, if_pos h, wiB, hn, Bool.true_and, Bool.and_eq_true, decide_eq_true_eq, all_range]
  refine ⟨by rw [lvL, lv_len], fun i hi => ?_⟩
  have a := rLo_ge n (lvL n (solF n sup) 0) n.nodes.length i hi
  have b := rHi_le n (lvL n (solF n sup) 0) n.nodes.length i hi
  have a' : (nodeD n i).low - (lvL n (solF n sup) 0).getD i 0 ≤ opLo n (solF n sup) := a
  have b' : opHi n (solF n sup) ≤ (nodeD n i).high - (lvL n (solF n sup) 0).getD i 0 := b
  rw [lvL_get hn hc hi]
  apply inB_true
  split <;> omega
theorem op_top {n : GNet} {sup : List Int} (h : opCode n sup = 0) : ∃ i, i < n.nodes.length ∧ (opLv n sup true).getD i 0 = (nodeD n i).high := by
  obtain ⟨h0, h1, h2, h3⟩ := op_zero h
  obtain ⟨hn, hs, hc⟩ := op_net h0
  have hp : 1 ≤ n.nodes.length := (netOk_all hn).1.1
  obtain ⟨i, hi, e⟩ := rHi_hit (n := n) (lv := lvL n (solF n sup) 0) (lv_zero hn hc _) (n.nodes.length - 1)
  rw [show n.nodes.length - 1 + 1 = n.nodes.length by omega] at hi e
  have e' : opHi n (solF n sup) = (nodeD n i).high - (lvL n (solF n sup) 0).getD i 0 := e
  refine ⟨i, hi, ?_⟩
  rw [opLv, if_pos h, if_pos rfl, lvL_get hn hc hi]
  omega
theorem op_lv_len {n : GNet} {sup : List Int} (h : opCode n sup = 0) (top : Bool) : (opLv n sup top).length = n.nodes.length := by rw [opLv, if_pos h, lvL, lv_len]
theorem kl_yes {n : GNet} {sup : List Int} (h : opCode n sup = 0) : klB n (opFl n sup) = true := by
  obtain ⟨h0, h1, h2, h3⟩ := op_zero h
  rw [opFl, if_pos h, klB, (op_net h0).1, sol_ok h1, h2]; rfl
/- Open networks. -/
def opIx (ss : List Int) (k : Nat) : List Nat := (List.range k).filter fun i => !decide (ss.getD i 0 = 0)
def opPs (n : GNet) (ss : List Int) (k : Nat) : List GPipe := (opIx ss k).map fun i => n.pipes.getD i dP
def opNet (n : GNet) (ss : List Int) : GNet := ⟨n.nodes, opPs n ss n.pipes.length⟩
theorem opIx_yes {ss : List Int} {k : Nat} (h : ss.getD k 0 ≠ 0) : opIx ss (k + 1) = opIx ss k ++ [k] := by
  rw [opIx, List.range_succ, List.filter_append]
  congr 1
  rw [List.filter_cons_of_pos (by rw [decide_eq_false h]; rfl), List.filter_nil]
theorem opIx_no {ss : List Int} {k : Nat} (h : ss.getD k 0 = 0) : opIx ss (k + 1) = opIx ss k := by
  rw [opIx, List.range_succ, List.filter_append, List.filter_cons_of_neg (by rw [decide_eq_true h]; decide), List.filter_nil, List.append_nil]; rfl
theorem opPs_yes {n : GNet} {ss : List Int} {k : Nat} {x : GPipe} (h : ss.getD k 0 ≠ 0) (hx : n.pipes[k]? = some x) : opPs n ss (k + 1) = opPs n ss k ++ [x] := by
  rw [opPs, opIx_yes h, List.map_append]
  have : n.pipes.getD k dP = x := by rw [List.getD_eq_getElem?_getD, hx]; rfl
  rw [List.map_cons, this]; rfl
theorem opPs_no {n : GNet} {ss : List Int} {k : Nat} (h : ss.getD k 0 = 0) : opPs n ss (k + 1) = opPs n ss k := by rw [opPs, opIx_no h]; rfl
theorem opIx_len (ss : List Int) (k : Nat) : (opIx ss k).length ≤ k := by
  have := List.length_filter_le (fun i => !decide (ss.getD i 0 = 0)) (List.range k)
  rw [List.length_range] at this
  exact this
theorem opIx_lt {ss : List Int} {k p : Nat} (h : p ∈ opIx ss k) : p < k := by
  rw [opIx, List.mem_filter, List.mem_range] at h; exact h.1
def spTo (ix : List Nat) (fl : List Int) (m : Nat) : Nat → List Int
  | 0 => List.replicate m 0
  | k + 1 => (spTo ix fl m k).set (ix.getD k 0) (fl.getD k 0)
theorem spTo_len (ix : List Nat) (fl : List Int) (m k : Nat) : (spTo ix fl m k).length = m := by
  induction k with
  | zero => simp [spTo]
  | succ k ih => rw [spTo, List.length_set, ih]
def spL (n : GNet) (ss fl : List Int) : List Int := spTo (opIx ss n.pipes.length) fl n.pipes.length (opIx ss n.pipes.length).length
theorem spL_len (n : GNet) (ss fl : List Int) : (spL n ss fl).length = n.pipes.length := spTo_len _ _ _ _
theorem spTo_bnd {ix : List Nat} {fl : List Int} {m : Nat} (h : ∀ i, -30000 ≤ fl.getD i 0 ∧ fl.getD i 0 ≤ 30000) (k : Nat) : ∀ i, -30000 ≤ (spTo ix fl m k).getD i 0 ∧ (spTo ix fl m k).getD i 0 ≤ 30000 := by
  induction k with
  | zero =>
    intro i
    have : (spTo ix fl m 0).getD i 0 = 0 := by
      rw [spTo, List.getD_eq_getElem?_getD, List.getElem?_replicate]; split <;> rfl
    rw [this]; omega
  | succ k ih =>
    intro i
    rw [spTo]
    by_cases e : ix.getD k 0 = i
    · by_cases c : i < m
      · rw [e, getD_set_self (by rw [spTo_len]; exact c)]; exact h k
      · have : ((spTo ix fl m k).set (ix.getD k 0) (fl.getD k 0)).getD i 0 = 0 := by
          rw [List.getD_eq_getElem?_getD, List.getElem?_eq_none (by rw [List.length_set, spTo_len]; omega)]; rfl
        rw [this]; omega
    · rw [getD_set_ne e]; exact ih i
theorem sp_ok {n : GNet} {ss fl : List Int} (hf : flOk (opNet n ss) fl = true) : flOk n (spL n ss fl) = true := by
  refine supOk_of (spL_len n ss fl) fun i hi => ?_
  exact inB_true (spTo_bnd (fun j => flOk_get hf j) _ i)
/-- Whether the settings bar the flow of one pipe. -/
def badAt (ss fl : List Int) (i : Nat) : Bool := (decide (ss.getD i 0 = 0) && !decide (fl.getD i 0 = 0)) || (decide (ss.getD i 0 = 2) && decide (fl.getD i 0 < 0))
def alB (ss fl : List Int) : Bool := (List.range fl.length).all fun i => !badAt ss fl i
theorem al_no {ss fl : List Int} {k : Nat} (hk : k < fl.length) (h : badAt ss fl k = true) : alB ss fl = false := all_range_not hk (by rw [h]; rfl)
theorem al_yes {ss fl : List Int} (h : ∀ j, j < fl.length → badAt ss fl j = false) : alB ss fl = true := all_range.2 fun k hk => by rw [h k hk]; rfl
def gdB (n : GNet) (ss sup : List Int) : Bool := decide (opCode (opNet n ss) sup = 0) && alB ss (spL n ss (solF (opNet n ss) sup))
theorem gd_no {n : GNet} {ss sup : List Int} (h : opCode (opNet n ss) sup ≠ 0) : gdB n ss sup = false := by rw [gdB, decide_eq_false h]; rfl
theorem gd_yes {n : GNet} {ss sup : List Int} (h : opCode (opNet n ss) sup = 0) : gdB n ss sup = alB ss (spL n ss (solF (opNet n ss) sup)) := by rw [gdB, decide_eq_true h, Bool.true_and]
def agB (n : GNet) (ss sup : List Int) : Bool := netOk n && (stOk n.pipes.length ss && (supOk n.nodes.length sup && gdB n ss sup))
/- The level of the root. -/
def rtCode (n : GNet) (ss sup : List Int) : Int := if stCode n ss = 0 then (if supOk n.nodes.length sup = true then (if gdB n ss sup = true then 0 else 7) else 3) else stCode n ss
def rtLev (n : GNet) (ss sup : List Int) : Int := if rtCode n ss sup = 0 then (opLv (opNet n ss) sup true).getD 0 0 else 0
/- Good numbers. -/
def gnCode (n : GNet) (zs ss sup : List Int) : Int := l27Val n zs ss sup n.nodes.length
def gdTo (n : GNet) (zs ss sup : List Int) (k : Nat) : List Int := casts ((List.range k).filter fun m => gdB n (swTo (m : Int) zs ss ss.length) sup)
theorem gdTo_yes {n : GNet} {zs ss sup : List Int} {k : Nat} (h : gdB n (swTo (k : Int) zs ss ss.length) sup = true) : gdTo n zs ss sup (k + 1) = gdTo n zs ss sup k ++ [(k : Int)] := by
  rw [gdTo, List.range_succ, List.filter_append, List.filter_cons_of_pos (by exact h), List.filter_nil, casts, List.map_append]; rfl
theorem gdTo_no {n : GNet} {zs ss sup : List Int} {k : Nat} (h : gdB n (swTo (k : Int) zs ss ss.length) sup = false) : gdTo n zs ss sup (k + 1) = gdTo n zs ss sup k := by
  rw [gdTo, List.range_succ, List.filter_append, List.filter_cons_of_neg (by rw [h]; decide), List.filter_nil, List.append_nil]; rfl
theorem gdTo_len (n : GNet) (zs ss sup : List Int) (k : Nat) : (gdTo n zs ss sup k).length ≤ k := by
  have := List.length_filter_le (fun m => gdB n (swTo ((m : Nat) : Int) zs ss ss.length) sup) (List.range k)
  rw [List.length_range] at this
  rw [gdTo, casts, List.length_map]; exact this
theorem gdTo_mem {n : GNet} {zs ss sup : List Int} {k : Nat} {x : Int} (h : x ∈ gdTo n zs ss sup k) : (0 ≤ x ∧ x < k) ∧ gdB n (swTo x zs ss ss.length) sup = true := by
  rw [gdTo, casts, List.mem_map] at h
  obtain ⟨q, hq, rfl⟩ := h
  rw [List.mem_filter, List.mem_range] at hq
  exact ⟨⟨by omega, by omega⟩, hq.2⟩
def gnRes (n : GNet) (zs ss sup : List Int) : List Int := if gnCode n zs ss sup = 0 then gdTo n zs ss sup (2 ^ ss.length) else []
/-- The best of the first k numbers, -1 if there is none. -/
def bsTo (l : List Int) : Nat → Int
  | 0 => -1
  | k + 1 => if bsTo l k < 0 ∨ bitsOf (l.getD k 0) < bitsOf (bsTo l k) then l.getD k 0 else bsTo l k
theorem bs_ok {l : List Int} (h : ∀ x ∈ l, 0 ≤ x ∧ x ≤ 31) : ∀ k, k < l.length → (0 ≤ bsTo l (k + 1) ∧ bsTo l (k + 1) ≤ 31) ∧ bsTo l (k + 1) ∈ l ∧ ∀ i, i < k + 1 → bitsOf (bsTo l (k + 1)) ≤ bitsOf (l.getD i 0) := by
  have hg : ∀ i, i < l.length → l.getD i 0 ∈ l := fun i hi => by rw [List.getD_eq_getElem?_getD, List.getElem?_eq_getElem hi]; exact List.getElem_mem _
  intro k
  induction k with
  | zero =>
    intro hk
    have e : bsTo l (0 + 1) = l.getD 0 0 := by rw [bsTo, if_pos (Or.inl (by show (-1 : Int) < 0; decide))]
    rw [e]
    exact ⟨h _ (hg 0 hk), hg 0 hk, fun i hi => by have : i = 0 := by omega
                                                  subst this; exact Int.le_refl _⟩
  | succ k ih =>
    intro hk
    obtain ⟨a, b, c⟩ := ih (by omega)
    have e : bsTo l (k + 1 + 1) = if bsTo l (k + 1) < 0 ∨ bitsOf (l.getD (k + 1) 0) < bitsOf (bsTo l (k + 1)) then l.getD (k + 1) 0 else bsTo l (k + 1) := rfl
    by_cases hb : bitsOf (l.getD (k + 1) 0) < bitsOf (bsTo l (k + 1))
    · rw [if_pos (Or.inr hb)] at e
      rw [e]
      refine ⟨h _ (hg _ hk), hg _ hk, fun i hi => ?_⟩
      rcases Nat.lt_or_ge i (k + 1) with q | q
      · have := c i q; omega
      · have : i = k + 1 := by omega
        subst this; exact Int.le_refl _
    · rw [if_neg (by omega)] at e
      rw [e]
      refine ⟨a, b, fun i hi => ?_⟩
      rcases Nat.lt_or_ge i (k + 1) with q | q
      · exact c i q
      · have : i = k + 1 := by omega
        subst this; omega
def fsCode (n : GNet) (zs ss sup : List Int) : Int := if gnCode n zs ss sup = 0 then (if (gnRes n zs ss sup).length = 0 then 7 else 0) else gnCode n zs ss sup
def fsRes (n : GNet) (zs ss sup : List Int) : Int := if fsCode n zs ss sup = 0 then bsTo (gnRes n zs ss sup) (gnRes n zs ss sup).length else 0
theorem gn_zero {n : GNet} {zs ss sup : List Int} (h : gnCode n zs ss sup = 0) : swCode n zs ss = 0 ∧ supOk n.nodes.length sup = true := by
  unfold gnCode at h
  by_cases e : swCode n zs ss = 0
  · rw [l27Val_eq e] at h
    refine ⟨e, ?_⟩
    cases c : supOk n.nodes.length sup with
    | true => rfl
    | false => rw [c] at h; exact absurd h (by decide)
  · rw [l27Val_bad e] at h; exact absurd h e
theorem pow_small {q : Nat} (h : q ≤ 5) : 2 ^ q ≤ 32 := by
  have : q = 0 ∨ q = 1 ∨ q = 2 ∨ q = 3 ∨ q = 4 ∨ q = 5 := by omega
  rcases this with rfl | rfl | rfl | rfl | rfl | rfl <;> decide
theorem gn_mem {n : GNet} {zs ss sup : List Int} {x : Int} (h : x ∈ gnRes n zs ss sup) : gnCode n zs ss sup = 0 ∧ (0 ≤ x ∧ x < (2 ^ ss.length : Nat)) ∧ (0 ≤ x ∧ x ≤ 31) ∧ gdB n (swTo x zs ss ss.length) sup = true := by
  unfold gnRes at h
  by_cases e : gnCode n zs ss sup = 0
  · rw [if_pos e] at h
    have h1 := gdTo_mem h
    have h2 := pow_small (swCode_zero (gn_zero e).1).2.2.1
    exact ⟨e, h1.1, ⟨h1.1.1, by omega⟩, h1.2⟩
  · rw [if_neg e] at h; simp at h
/-- What the law of settings asks of the number that is found. -/
theorem settings_law {n : GNet} {zs ss sup : List Int} (h : fsCode n zs ss sup = 0) :
    spwCode n zs ss (fsRes n zs ss sup) = 0 ∧ stCode n zs = 0 ∧ stOk n.pipes.length (spwRes n zs ss (fsRes n zs ss sup)) = true ∧ scTo zs (spwRes n zs ss (fsRes n zs ss sup)) n.pipes.length = bitsOf (fsRes n zs ss sup) ∧ agB n (spwRes n zs ss (fsRes n zs ss sup)) sup = true ∧
    (fsRes n zs ss sup) ∈ gnRes n zs ss sup ∧ (0 ≤ fsRes n zs ss sup ∧ fsRes n zs ss sup ≤ 31) ∧ ∀ i, i < (gnRes n zs ss sup).length → bitsOf (fsRes n zs ss sup) ≤ bitsOf ((gnRes n zs ss sup).getD i 0) := by
  have hg : gnCode n zs ss sup = 0 := by
    unfold fsCode at h
    by_cases e : gnCode n zs ss sup = 0
    · exact e
    · rw [if_neg e] at h; exact absurd h e
  have hl : (gnRes n zs ss sup).length ≠ 0 := by
    intro e
    rw [fsCode, if_pos hg, if_pos e] at h; exact absurd h (by decide)
  obtain ⟨q, hq⟩ : ∃ q, (gnRes n zs ss sup).length = q + 1 := ⟨(gnRes n zs ss sup).length - 1, by omega⟩
  have hr : fsRes n zs ss sup = bsTo (gnRes n zs ss sup) (q + 1) := by rw [fsRes, if_pos h, hq]
  obtain ⟨a, b, c⟩ := bs_ok (l := gnRes n zs ss sup) (fun x hx => (gn_mem hx).2.2.1) q (by omega)
  rw [← hr] at a b c
  obtain ⟨_, h2, _, h4⟩ := gn_mem b
  obtain ⟨hsw, hsu⟩ := gn_zero hg
  have hin : inB 0 (fsRes n zs ss sup) (2 ^ ss.length - 1) = true := by
    apply inB_true
    have h2' := h2.2
    rw [Int.natCast_pow] at h2'
    have h22 : ((2 : Nat) : Int) = 2 := rfl
    rw [h22] at h2'
    omega
  have hs : spwCode n zs ss (fsRes n zs ss sup) = 0 := by rw [spwCode, if_pos hsw, if_pos hin]
  obtain ⟨_, _, s3, s4, s5, s6, s7, _⟩ := switched_law hs
  refine ⟨hs, s3, s4, s7, ?_, b, a, fun i hi => c i (by omega)⟩
  rw [agB, (swCode_zero hsw).1, s4, hsu, Bool.true_and, Bool.true_and, Bool.true_and, spwRes, if_pos hs]
  exact h4
theorem fs_empty {n : GNet} {zs ss sup : List Int} (h : fsCode n zs ss sup ≠ 0) : (gnRes n zs ss sup).length = 0 := by
  by_cases e : gnCode n zs ss sup = 0
  · rw [fsCode, if_pos e] at h
    by_cases c : (gnRes n zs ss sup).length = 0
    · exact c
    · rw [if_neg c] at h; exact absurd rfl h
  · rw [gnRes, if_neg e]; rfl
theorem ag_rt {n : GNet} {ss sup : List Int} : agB n ss sup = (rtCode n ss sup == 0) := by
  unfold agB rtCode stCode
  cases netOk n <;> cases stOk n.pipes.length ss <;> cases supOk n.nodes.length sup <;> cases gdB n ss sup <;> rfl
/-- What the law of root levels asks. -/
theorem root_law {n : GNet} {ss sup : List Int} (h : rtCode n ss sup = 0) :
    stCode n ss = 0 ∧ supOk n.nodes.length sup = true ∧ opCode (opNet n ss) sup = 0 ∧ (opLv (opNet n ss) sup true).getD 0 0 = rtLev n ss sup ∧ (opLv (opNet n ss) sup true).length = n.nodes.length ∧ wiB n (opLv (opNet n ss) sup true) = true ∧ flOk (opNet n ss) (solF (opNet n ss) sup) = true ∧ flOk n (spL n ss (solF (opNet n ss) sup)) = true ∧ alB ss (spL n ss (solF (opNet n ss) sup)) = true := by
  have h1 : stCode n ss = 0 := by
    unfold rtCode at h
    by_cases e : stCode n ss = 0
    · exact e
    · rw [if_neg e] at h; exact absurd h e
  have h2 : supOk n.nodes.length sup = true := by
    rw [rtCode, if_pos h1] at h
    cases e : supOk n.nodes.length sup with
    | true => rfl
    | false => rw [e, if_neg (by decide)] at h; exact absurd h (by decide)
  have h3 : gdB n ss sup = true := by
    rw [rtCode, if_pos h1, if_pos h2] at h
    cases e : gdB n ss sup with
    | true => rfl
    | false => rw [e] at h; exact absurd h (by decide)
  have h4 : opCode (opNet n ss) sup = 0 := by
    rw [gdB, Bool.and_eq_true, decide_eq_true_eq] at h3; exact h3.1
  have hf := sol_ok (op_zero h4).2.1
  refine ⟨h1, h2, h4, by rw [rtLev, if_pos h], op_lv_len h4 true, ?_, hf, sp_ok hf, by rw [gd_yes h4] at h3; exact h3⟩
  have hw := op_within h4 true
  have hn : netOk n = true := by
    unfold stCode at h1
    cases e : netOk n with
    | true => rfl
    | false => rw [e, if_neg (by decide)] at h1; exact absurd h1 (by decide)
  rw [wiB, Bool.and_eq_true] at hw
  rw [wiB, hn, Bool.true_and]
  exact hw.2
end Go.Proofs.YthhmhigddmimjaaGreat
/-
  The cycle of a chord, relaxing: the program. Printed by gen_pt16.py.
-/
set_option linter.unusedSimpArgs false
set_option linter.unusedVariables false
namespace Go.Proofs.YthhmhigddmimjaaGreat
open Go.ChangeShapes Go.WideShapes Go.ChangeAt Go.RowKit

theorem cycS_bnd {N a b : Nat} : ∀ z ∈ cycS N a b, -30000 ≤ z ∧ z ≤ 30000 := by
  intro z hz
  rw [cycS] at hz
  rcases List.mem_or_eq_of_mem_set hz with h | h
  · rcases List.mem_or_eq_of_mem_set h with h | h
    · rw [List.mem_replicate] at h; omega
    · omega
  · omega
set_option maxHeartbeats 6400000 in
set_option maxRecDepth 100000 in
theorem cycleOf_any {A1 A2 : Option Addr} {n1 c1 n2 c2 : Nat} (n : GNet) (c : Nat) (w : World) (hA : NetAt w A1 n1 c1 A2 n2 c2 n) (hok : netOk n = true) (hc : conB (eds n.pipes) n1 = true) (hl : c < n2) :
    Calls Tryz.prog 143 #[.agg #[.slice A1 n1 c1, .slice A2 n2 c2], .int .i64 c] w fun e w' => ∃ F, e = .returned (.slice (some ⟨F, 0, none⟩) n2 n2) ∧ w'.ownsRow w.heap.size 2 1 (.slice (some ⟨F, 0, none⟩) n2 n2) n2 (ints (cyc (eds n.pipes) n1 c)) ∧ Gr w w' := by
  obtain ⟨i0, hi0, hz0, hz1, hz2⟩ := info_parts infoInt64
  have hm1 := hA.m1
  have hm2 := hA.m2
  have hE : EsOk (eds n.pipes) n1 := by have := eds_ok hok; rw [hA.l1] at this; exact this
  have hel : (eds n.pipes).length = n2 := by rw [eds, List.length_map]; exact hA.l2
  obtain ⟨p, hp⟩ : ∃ p, n.pipes[c]? = some p := ⟨_, List.getElem?_eq_getElem (by have := hA.l2; omega)⟩
  obtain ⟨pa1, pa2, _⟩ := pipeOk_all ((netOk_all hok).2 c p hp)
  have hce : (eds n.pipes).getD c dE = edOf p := by rw [List.getD_eq_getElem?_getD, eds, List.getElem?_map, hp]; rfl
  obtain ⟨a, ha⟩ : ∃ a : Nat, a = p.dst.toNat := ⟨_, rfl⟩
  obtain ⟨b, hb⟩ : ∃ b : Nat, b = p.src.toNat := ⟨_, rfl⟩
  have had : p.dst = (a : Int) := by omega
  have hbs : p.src = (b : Int) := by omega
  obtain ⟨ht1, ht2, ht3, _, _⟩ := hE.at_ c _ (ed_at (by rw [hel]; exact hl))
  rw [hce] at ht1 ht2 ht3
  have hbn : b < n1 := by rw [hb]; exact ht1
  have han : a < n1 := by rw [ha]; exact ht2
  have hab : ¬ a = b := by rw [ha, hb]; exact fun e => ht3 e.symm
  have hcy : cyc (eds n.pipes) n1 c = (ffL (eds n.pipes) n1 (cycS n1 a b)).set c 1 := by rw [cyc, hce, ha, hb]; rfl
  obtain ⟨bp, op, hAA, hbp, e0, e1, e2, e3, e4⟩ := hA.pipes.pp hp
  subst hAA
  rw [hbs] at e0
  rw [had] at e1
  have HA := Lib.hid hA
  have Hok := Lib.hid hok
  have Hc := Lib.hid hc
  have Hcy := Lib.hid hcy
  have Hel := Lib.hid hel
  have t1 : (c : Int) < (n2 : Int) := by omega
  have t0 : (0 : Int) ≤ (c : Int) := by omega
  have ta1 : (a : Int) < (n1 : Int) := by omega
  have ta0 : (0 : Int) ≤ (a : Int) := by omega
  have tb1 : (b : Int) < (n1 : Int) := by omega
  have tb0 : (0 : Int) ≤ (b : Int) := by omega
  have HPC := Lib.hid hp
  have Hbs := Lib.hid hbs
  have Had := Lib.hid had
  clear hA hok hE hc hel hp pa1 pa2 hce ha hb had hbs ht1 ht2 ht3 hcy e2 e3 e4
  go_enter Tryz.func143, Tryz.ntmps143
  go_upto_region 2 with (first
    | (at_make; refine wpList_make_full _ rfl _ _ _ rfl w.heap.size 2 i0 _ 1 Tryz.underlying26 hi0 hz0 hz1 .i64 .i64 _ _ n1 rfl rfl rfl rfl (by rw [hz2]; omega) (by unfold maxLen; omega) (by simp) ?_; intro w1 hown1 hg1; have hq1 : Gr (w.alloc (.cells #[.slice A1 n1 c1, .slice (some ⟨bp, op, none⟩) n2 c2] 32)) w1 := Gr.of_grown hg1; have y0 : w1.cell? ⟨w.heap.size, 0, none⟩ = some (.slice A1 n1 c1) := hq1.has (by simp [go_sem]); have y1 : w1.cell? ⟨w.heap.size, 1, none⟩ = some (.slice (some ⟨bp, op, none⟩) n2 c2) := hq1.has (by simp [go_sem]); have hgw1 : Gr w w1 := ((Gr.refl _).alloc _).trans hq1; have Ho1 := Lib.hid hown1; have z1 := hq1.size; clear hown1)
    | fail)
  obtain ⟨F, hF⟩ : ∃ F, F = w.heap.size + 1 := ⟨_, rfl⟩
  have o1 : w1.ownsRow w.heap.size 2 1 (.slice (some ⟨F, 0, none⟩) n1 n1) n1 (ints (List.replicate n1 0)) := by
    rw [hF]
    have := own_cells_eq Ho1.out (made_ints n1)
    simpa using this
  rw [← hF]
  have hFw : w.heap.size < F := by omega
  have hF1 := own_block_lt o1 (k := F) rfl
  obtain ⟨m0, m1⟩ := own_int o1 (k := a) (x := 0) (by rw [List.getElem?_replicate, if_pos han])
  replace e0 := hgw1.has e0
  replace e1 := hgw1.has e1
  have O1 := Lib.hid o1
  clear Ho1 hF o1 hq1 z1 hg1
  go_upto_region 3 with fail
  obtain ⟨o2, hgS⟩ := own_set_int O1.out a 1
  generalize hw2 : w1.setCell _ _ = w2
  rw [hw2] at o2
  have hgw2 : Gr w w2 := by rw [← hw2]; exact hgw1.setCell (by simp only; omega) _
  have hcc2 : Chg (fun j => j = F) w1 w2 := by rw [← hw2]; exact chg_put _ _
  replace y0 := chg_cell' hcc2 y0 (by simp only; omega)
  replace y1 := chg_cell' hcc2 y1 (by simp only; omega)
  obtain ⟨e0, e1⟩ : w2.cell? ⟨bp, op + c * 5, none⟩ = some (.int .i64 (b : Int)) ∧ w2.cell? ⟨bp, op + c * 5 + 1, none⟩ = some (.int .i64 (a : Int)) := by
    obtain ⟨_, _, h1, _, q0, q1, _⟩ := (HA.out.gr hgw2).pipes.pp (k := c) HPC.out
    injection h1 with h1
    injection h1 with h1 h2
    subst h1
    subst h2
    exact ⟨by rw [q0, Hbs.out], by rw [q1, Had.out]⟩
  obtain ⟨m0, m1⟩ := own_int o2 (k := b) (x := 0) (by rw [List.getElem?_set_ne hab, List.getElem?_replicate, if_pos hbn])
  have O2 := Lib.hid o2
  clear O1 o2 hgS hw2 hcc2 hgw1 hF1
  go_wp2_with fail
  obtain ⟨o3, hgS⟩ := own_set_int O2.out b (-1)
  generalize hw3 : w2.setCell _ _ = w3
  rw [hw3] at o3
  have hgw3 : Gr w w3 := by rw [← hw3]; exact hgw2.setCell (by simp only; omega) _
  have hS : SlAt w3 1 (some ⟨F, 0, none⟩) n1 n1 (ints (cycS n1 a b)) := SlAt.of_own o3 hm1
  clear O2 o3 hgS hw3 hgw2 m0 m1 e0 e1 y0 y1
  refine (forestFlows_any n (cycS n1 a b) _ (HA.out.gr hgw3) hS Hok.out Hc.out cycS_bnd).mono ?_
  rintro e w4 ⟨G, rfl, hG, hg4⟩
  have hgw4 := hgw3.trans hg4
  have hs3 := hgw3.size
  have hGw := own_low hG (k := G) rfl
  have hG4 := own_block_lt hG (k := G) rfl
  obtain ⟨g0, hg0⟩ : ∃ g0, (ffL (eds n.pipes) n1 (cycS n1 a b))[c]? = some g0 := ⟨_, List.getElem?_eq_getElem (by have := own_ilen hG; omega)⟩
  obtain ⟨m0, m1⟩ := own_int hG hg0
  have HG := Lib.hid hG
  clear hS hG hg0
  go_wp2_with fail
  obtain ⟨o5, hgS⟩ := own_set_int HG.out c 1
  go_ret
  refine ⟨G, rfl, own_base (own_eq' o5 ?_) hs3, hgw4.setCell (by simp only; omega) _⟩
  rw [Hcy.out]
/-- One row of a list of lists stays where blocks below the list change. -/
theorem BasO.row {w : World} {base m c n2 k : Nat} {A : Option Addr} {cs : List (List Int)} {z : List Int} (h : BasO w base A m c n2 cs) (hm : m ≤ 1048576) (h2 : n2 ≤ 1048576) (hk : cs[k]? = some z) : ∃ b o Az cz, A = some ⟨b, o, none⟩ ∧ ∀ (S : Nat → Prop) (W : World), Chg S w W → (∀ j, S j → j < base) → W.cell? ⟨b, o + k, none⟩ = some (.slice Az n2 cz) ∧ SlAt W 1 Az n2 cz (ints z) := by
  obtain ⟨rs, h1, hl, h3⟩ := h
  have hkl := (List.getElem?_eq_some_iff.1 hk).1
  have hrl : rs.length = m := by
    have := (Sl.of_own h1).1
    rw [List.length_map] at this
    omega
  obtain ⟨r, hr⟩ : ∃ r, rs[k]? = some r := ⟨_, List.getElem?_eq_getElem (by omega)⟩
  obtain ⟨g, rfl, _⟩ := own_form h1 (by omega)
  refine ⟨g, 0, r.1, r.2, rfl, fun S W hc hS => ⟨?_, SlAt.of_own (own_chg (h3 k r z hr hk) hc (fun j hj e => by have := own_low (h3 k r z hr hk) hj; have := hS j e; omega)) h2⟩⟩
  obtain ⟨b, o, e, _, hrow⟩ := (Sl.of_own (own_chg h1 hc (fun j hj e => by have := own_low h1 hj; have := hS j e; omega))).2 (by omega)
  injection e with e
  injection e with e1 e2
  subst e1
  subst e2
  exact hrow k _ (by rw [List.getElem?_map, hr]; rfl)
theorem low_yes {n : GNet} {g z : List Int} {a : Int} {m : Nat} (hf : flOk n g = true) (hm : n.pipes.length = m) (h1 : chOk g z a m = true) (h2 : chV n g z a m < 0) : lowB n g z a = true := by
  subst hm
  rw [chV, if_pos h1] at h2
  rw [low_ch hf, h1, decide_eq_true h2]; rfl
theorem low_no1 {n : GNet} {g z : List Int} {a : Int} {m : Nat} (hf : flOk n g = true) (hm : n.pipes.length = m) (h1 : chOk g z a m = false) : lowB n g z a = false := by
  subst hm
  rw [low_ch hf, h1]; rfl
theorem low_no2 {n : GNet} {g z : List Int} {a : Int} {m : Nat} (hf : flOk n g = true) (hm : n.pipes.length = m) (h1 : chOk g z a m = true) (h2 : ¬ chV n g z a m < 0) : lowB n g z a = false := by
  subst hm
  rw [chV, if_pos h1] at h2
  rw [low_ch hf, h1, decide_eq_false h2]; rfl
set_option maxHeartbeats 6400000 in
set_option maxRecDepth 100000 in
theorem relax_any {A1 A2 A3 : Option Addr} {n1 c1 n2 c2 c3 : Nat} (n : GNet) (f : List Int) (s : Nat) (w : World) (hA : NetAt w A1 n1 c1 A2 n2 c2 n) (hF : SlAt w 1 A3 n2 c3 (ints f)) (hok : netOk n = true) (hc : conB (eds n.pipes) n1 = true) (hf : flOk n f = true) (hs : s ≤ 32768) :
    Calls Tryz.prog 126 #[.agg #[.slice A1 n1 c1, .slice A2 n2 c2], .slice A3 n2 c3, .int .i64 s] w fun e w' => ∃ A c, ∃ T : Nat, e = .returned (.tuple #[.slice A n2 c, .int .i64 T]) ∧ T + (rlx n (cycB n) s 5000 f).2 = 5000 ∧ SlAt w' 1 A n2 c (ints (rlx n (cycB n) s 5000 f).1) ∧ Gr w w' := by
  obtain ⟨i0, hi0, hz0, hz1, hz2⟩ := info_parts infoInts
  have hm2 := hA.m2
  have h40 : n2 ≤ 40 := by have := (netOk_all hok).1.2.2; rw [hA.l2] at this; exact this
  have hE : EsOk (eds n.pipes) n.nodes.length := eds_ok hok
  have hl1 := hA.l1
  have hl2 := hA.l2
  have hel : (eds n.pipes).length = n2 := by rw [eds, List.length_map]; exact hA.l2
  have hcb := cycB_bnd hE (by rw [hA.l1]; exact hc)
  have HA := Lib.hid hA
  have HF := Lib.hid hF
  have Hok := Lib.hid hok
  have Hc := Lib.hid hc
  have Hf := Lib.hid hf
  have Hcb := Lib.hid hcb
  have Hl1 := Lib.hid hl1
  have Hl2 := Lib.hid hl2
  have Hel := Lib.hid hel
  clear hA hF hok hc hf hE hcb hl1 hl2 hel
  go_enter Tryz.func126, Tryz.ntmps126
  go_wp2_with fail
  obtain ⟨w1, hw1⟩ : ∃ W, W = w.alloc (.cells #[.slice A1 n1 c1, .slice A2 n2 c2] 32) := ⟨_, rfl⟩
  have hg1 : Gr w w1 := by rw [hw1]; exact (Gr.refl _).alloc _
  have y0 : w1.cell? ⟨w.heap.size, 0, none⟩ = some (.slice A1 n1 c1) := by rw [hw1]; simp [go_sem]
  have y1 : w1.cell? ⟨w.heap.size, 1, none⟩ = some (.slice A2 n2 c2) := by rw [hw1]; simp [go_sem]
  rw [← hw1]
  clear hw1
  refine (cloneInt_any (ints f) _ hm2 (HF.out.sl.gr hg1) (ints_one f)).mono ?_
  rintro e w2 ⟨LA, cL, rfl, hL, hg2⟩
  have hbl : ∀ j, (Value.slice LA n2 cL).ownBlock = some j → w1.heap.size ≤ j ∧ j < w2.heap.size := fun j hj => ⟨own_low hL hj, own_block_lt hL hj⟩
  have Hbl := Lib.hid hbl
  have hw1s := lt_of_cell y0
  have HL := Lib.hid (own_base hL hg1.size)
  have hgw2 := hg1.trans hg2
  replace y0 := hg2.has y0
  replace y1 := hg2.has y1
  clear hL hg2 hbl
  go_wp2_with fail
  refine (chordsOf_any n _ (HA.out.gr hgw2) Hok.out Hc.out).mono ?_
  rintro e w3 ⟨AC, m, cC, rfl, hmn, hCo, hg3⟩
  have hCl : (chL (eds n.pipes) n1).length = m := by have := own_ilen hCo; simpa using this
  have HC := Lib.hid (SlAt.of_own hCo (by omega))
  have HCl := Lib.hid hCl
  have hgw3 := hgw2.trans hg3
  replace y0 := hg3.has y0
  replace y1 := hg3.has y1
  replace HL := Lib.hid (own_gr HL.out hg3)
  have hs23 := hg3.size
  clear hCo hCl hg3
  go_wp2_with fail
  go_loopw [9, 26] (fun o i wr => ∃ k : Nat, k ≤ m ∧ i = .int .i64 k ∧ (∃ A c, o = .slice A k c ∧ BasO wr w3.heap.size A k c n2 ((cycB n).take k)) ∧ Gr w3 wr) (fun _ i _ => m - (intOf i).toNat)
  case atStart => exact ⟨0, Nat.zero_le _, rfl, ⟨none, 0, rfl, ⟨[], World.ownsRow_nil _ _ _ _, rfl, fun i r z h => by cases h⟩⟩, Gr.refl _⟩
  case round =>
    obtain ⟨k, hk, rfl, ⟨A5, c5, rfl, hB⟩, hgr⟩ := hrel
    have HB := Lib.hid hB
    have hgrs := hgr.size
    clear hB
    by_cases hlt : k < m
    · obtain ⟨q, hq⟩ : ∃ q, (chL (eds n.pipes) n1)[k]? = some q := ⟨_, List.getElem?_eq_getElem (by have := HCl.out; omega)⟩
      have hqm := List.mem_of_getElem? hq
      simp only [chL, List.mem_filter, List.mem_range, Bool.not_eq_true'] at hqm
      have hql : q < n2 := by have := Hel.out; omega
      have Hst : Hid ((cycB n).take (k + 1) = (cycB n).take k ++ [cyc (eds n.pipes) n1 q]) := Lib.hid (by
        have := cyc_take (n := n) (k := k) (q := q) (by rw [Hl1.out]; exact hq)
        rw [Hl1.out] at this
        exact this)
      obtain ⟨bC, oC, hAA, hbC, x0⟩ := (HC.out.gr hgr).sl.int (k := k) (x := (q : Int)) (by rw [List.getElem?_map, hq]; rfl)
      subst hAA
      have t1 : (k : Int) < (m : Int) := by omega
      have t0 : (0 : Int) ≤ (k : Int) := by omega
      have u0 := hgr.has y0
      have u1 := hgr.has y1
      rename World => wr
      clear hq hqm
      go_wp2_with fail
      refine (cycleOf_any n q _ (HA.out.gr (hgw3.trans hgr)) Hok.out Hc.out hql).mono ?_
      rintro e w6 ⟨F, rfl, hF, h6⟩
      have hg6 := hgr.trans h6
      obtain ⟨rs, hr1, hr2, hr3⟩ := HB.out.gr h6
      have Hr1 := Lib.hid hr1
      have Hr2 := Lib.hid hr2
      have Hr3 := Lib.hid hr3
      have HF6 := Lib.hid (own_base hF hgrs)
      have hs6 := h6.size
      have hFl := own_block_lt hF (k := F) rfl
      clear hr1 hr2 hr3 HB hF x0 u0 u1
      go_wp2_with (at_builtin; (refine wpList_append_own _ rfl _ _ _ rfl w3.heap.size 26 i0 _ 1 24 Tryz.underlying143 hi0 hz0 hz1 hz2 rfl (by omega) _ k _ rfl (Hr1.out.alloc _) ⟨w6.heap.size, 0, none⟩ 1 1 [.slice (some ⟨F, 0, none⟩) n2 n2] rfl rfl (World.news_of_block (cs := #[.slice (some ⟨F, 0, none⟩) n2 n2]) (t := 26) (fr := (0, 0)) (heap_alloc_new w6 _)) (by simp [Value.oneCell']) (by unfold maxLen; omega) (by omega) (by simp; omega) ?_; intro v' w9 hown9 hg9 _))
      obtain ⟨A9, c9, rfl⟩ := own_shape hown9
      obtain ⟨g9, rfl, _⟩ := own_form hown9 (Nat.succ_pos k)
      have hga : Gr w6 (w6.alloc (.cells #[.slice (some ⟨F, 0, none⟩) n2 n2] 26)) := (Gr.refl _).alloc _
      have HN := Lib.hid (bas_push (own_gr Hr1.out hga) Hr2.out (fun i r z a b => own_gr (Hr3.out i r z a b) hga) (own_gr HF6.out hga) hown9 hg9)
      have hgw9 : Gr w3 w9 := (hg6.trans hga).grown hg9 (fun j hj => own_low Hr1.out hj)
      clear hown9 hg9 hga Hr1 Hr2 Hr3 HF6
      go_wp2_with fail
      go_roundw
      case rel => exact ⟨k + 1, by omega, by go_num, ⟨_, _, rfl, by rw [Hst.out]; exact HN.out⟩, hgw9⟩
      case measure => simp [intOf]; omega
    · obtain rfl : k = m := by omega
      rename World => w4
      have hfull := HB.out
      rw [List.take_of_length_le (by rw [cycB, List.length_map, Hl1.out, HCl.out]; exact Nat.le_refl _)] at hfull
      have HBF := Lib.hid hfull
      have hgw4 := hgw3.trans hgr
      replace y0 := hgr.has y0
      replace y1 := hgr.has y1
      have HL4 := Lib.hid (own_gr HL.out hgr)
      have Hbl4 : Hid (∀ j, (Value.slice LA n2 cL).ownBlock = some j → j < w3.heap.size ∧ ¬ w.heap.size = j) := Lib.hid (fun j hj => by have := Hbl.out j hj; omega)
      have Hcl : Hid ((cycB n).length = k) := Lib.hid (by rw [cycB, List.length_map, Hl1.out, HCl.out])
      clear hfull HB HL Hbl hgr
      go_wp2_with fail
      go_loopw [2, 12] (fun st tt wr => ∃ (s' T left : Nat) (g : List Int), st = .int .i64 s' ∧ tt = .int .i64 T ∧ (s' ≤ 32768 ∧ T + left = 5000) ∧ flOk n g = true ∧ rlx n (cycB n) s' left g = rlx n (cycB n) s 5000 f ∧ wr.ownsRow w.heap.size 2 1 (.slice LA n2 cL) n2 (ints g) ∧ Gr w wr ∧ Chg (fun j => (Value.slice LA n2 cL).ownBlock = some j) w4 wr) (fun st _ _ => (intOf st).toNat)
      case atStart => exact ⟨s, 0, 5000, f, rfl, rfl, ⟨hs, rfl⟩, Hf.out, rfl, HL4.out, hgw4, Chg.refl _ _⟩
      case round =>
        obtain ⟨s', T, left, g, rfl, rfl, ⟨hs', hT⟩, hg, hR, hG, hgx, hcx⟩ := hrel
        have HG := Lib.hid hG
        have Hg := Lib.hid hg
        have HR := Lib.hid hR
        clear hG hg hR HL4
        by_cases h0 : s' = 0
        · subst h0
          have He : Hid (rlx n (cycB n) s 5000 f = (g, left)) := Lib.hid (by rw [← HR.out, rlx_end (Or.inl rfl)])
          have fin : Hid (T + (rlx n (cycB n) s 5000 f).2 = 5000 ∧ (rlx n (cycB n) s 5000 f).1 = g) := Lib.hid (by rw [He.out]; exact ⟨hT, rfl⟩)
          go_wp2_with fail
          go_ret2
          exact ⟨LA, cL, T, rfl, fin.out.1, by rw [fin.out.2]; exact SlAt.of_own HG.out hm2, hgx⟩
        have t1 : decide ((0 : Int) < (s' : Int)) = true := by simp; omega
        have t1' : (0 : Int) < (s' : Int) := by omega
        have t1n : decide (0 < s') = true := by simp; omega
        have t1m : 0 < s' := by omega
        have hneg : IntKind.i64.wrap (-(s' : Int)) = -(s' : Int) := IntWalk.i64_in _ (by omega)
        have hw2 : IntKind.i64.wrap (Int.tdiv (s' : Int) 2) = ((s' / 2 : Nat) : Int) := by rw [Int.tdiv_eq_ediv_of_nonneg (by omega), IntWalk.i64_in _ (by omega)]; omega
        go_wp2_with fail
        go_loopw [12, 13] (fun tt mv wr => ∃ (T left : Nat) (g : List Int) (b : Bool), tt = .int .i64 T ∧ mv = .bool b ∧ T + left = 5000 ∧ flOk n g = true ∧ rlx n (cycB n) (if b = true then s' else s' / 2) left g = rlx n (cycB n) s 5000 f ∧ wr.ownsRow w.heap.size 2 1 (.slice LA n2 cL) n2 (ints g) ∧ Gr w wr ∧ Chg (fun j => (Value.slice LA n2 cL).ownBlock = some j) w4 wr) (fun tt mv _ => 5000 - (intOf tt).toNat + bN mv)
        case atStart => exact ⟨T, left, g, true, rfl, rfl, hT, Hg.out, HR.out, HG.out, hgx, hcx⟩
        case round =>
          clear HG Hg HR hgx hcx hT
          obtain ⟨T, left, g, b, rfl, rfl, hT, hg, hR, hG, hgx, hcx⟩ := hrel
          have HG := Lib.hid hG
          have Hg := Lib.hid hg
          clear hG hg
          cases b with
          | false =>
            have HR : Hid (rlx n (cycB n) (s' / 2) left g = rlx n (cycB n) s 5000 f) := Lib.hid hR
            clear hR
            go_wp2_with fail
            go_roundw
            case rel => exact ⟨s' / 2, T, left, g, by go_num, rfl, ⟨by omega, hT⟩, Hg.out, HR.out, HG.out, hgx, hcx⟩
            case measure => simp [intOf]; omega
          | true =>
            have HR0 : Hid (rest n (cycB n) ((cycB n).drop 0) s' left g false = rlx n (cycB n) s 5000 f) := Lib.hid (by rw [List.drop_zero, rest_start h0]; exact hR)
            clear hR
            go_wp2_with fail
            go_loopw [12, 13, 44] (fun tt mv i wr => ∃ (k2 T2 left2 : Nat) (g : List Int) (mvd : Bool), k2 ≤ k ∧ i = .int .i64 k2 ∧ tt = .int .i64 T2 ∧ mv = .bool mvd ∧ T2 + left2 = 5000 ∧ T ≤ T2 ∧ (mvd = true → T < T2) ∧ flOk n g = true ∧ rest n (cycB n) ((cycB n).drop k2) s' left2 g mvd = rlx n (cycB n) s 5000 f ∧ wr.ownsRow w.heap.size 2 1 (.slice LA n2 cL) n2 (ints g) ∧ Gr w wr ∧ Chg (fun j => (Value.slice LA n2 cL).ownBlock = some j) w4 wr) (fun _ _ i _ => k - (intOf i).toNat)
            case atStart => exact ⟨0, T, left, g, false, Nat.zero_le _, rfl, rfl, rfl, hT, Nat.le_refl _, (fun h => by cases h), Hg.out, HR0.out, HG.out, hgx, hcx⟩
            case round =>
              clear HG Hg HR0 hgx hcx
              obtain ⟨T0, hT0⟩ : ∃ T0, T0 = T := ⟨_, rfl⟩
              obtain ⟨k2, T2, left2, g, mvd, hk2, rfl, rfl, rfl, hT2, hTT, hmv, hg, hR, hG, hgx, hcx⟩ := hrel
              have HG := Lib.hid hG
              have Hg := Lib.hid hg
              have HR := Lib.hid hR
              have HT := Lib.hid hT2
              clear hG hg hR
              by_cases hlt : k2 < k
              · obtain ⟨z, hz⟩ : ∃ z, (cycB n)[k2]? = some z := ⟨_, List.getElem?_eq_getElem (by have := Hcl.out; omega)⟩
                have Hz := Lib.hid (Hcb.out z (List.mem_of_getElem? hz))
                have Hcz := Lib.hid hz
                obtain ⟨bB, oB, Az, cz, hAA, hrow⟩ := HBF.out.row (by omega) hm2 hz
                subst hAA
                have HBZ := Lib.hid (fun W hW => hrow (fun j => (Value.slice LA n2 cL).ownBlock = some j) W hW (fun j hj => (Hbl4.out j hj).1))
                have e0 := (HBZ.out _ hcx).1
                have HZ := Lib.hid (HBZ.out _ hcx).2
                have u0 := chg_cell' hcx y0 (fun e => (Hbl4.out _ e).2 rfl)
                have u1 := chg_cell' hcx y1 (fun e => (Hbl4.out _ e).2 rfl)
                have t2 : (k2 : Int) < (k : Int) := by omega
                have t0 : (0 : Int) ≤ (k2 : Int) := by omega
                clear hz hrow
                go_wp2_with fail
                clear e0
                refine (energyChange_any n g z ((s' : Int)) _ (HA.out.gr hgx) (SlAt.of_own HG.out hm2) HZ.out Hok.out Hg.out Hz.out (by omega)).mono ?_
                rintro e w71 ⟨rfl, h71⟩
                replace hgx := hgx.trans h71
                replace hcx := hcx.trans (h71.chg _)
                replace HG := Lib.hid (own_gr HG.out h71)
                replace HZ := Lib.hid (HZ.out.gr h71)
                replace u0 := h71.has u0
                replace u1 := h71.has u1
                clear h71
                obtain ⟨V1, hV1⟩ : ∃ V, V = chV n g z ((s' : Int)) n2 := ⟨_, rfl⟩
                rw [← hV1]
                cases ho1 : chOk g z ((s' : Int)) n2 with
                | false =>
                  have L1 := Lib.hid (low_no1 Hg.out Hl2.out ho1)
                  clear ho1 hV1
                  go_wp2_with fail
                  refine (energyChange_any n g z (-(s' : Int)) _ (HA.out.gr hgx) (SlAt.of_own HG.out hm2) HZ.out Hok.out Hg.out Hz.out (by omega)).mono ?_
                  rintro e w72 ⟨rfl, h72⟩
                  replace hgx := hgx.trans h72
                  replace hcx := hcx.trans (h72.chg _)
                  replace HG := Lib.hid (own_gr HG.out h72)
                  replace HZ := Lib.hid (HZ.out.gr h72)
                  replace u0 := h72.has u0
                  replace u1 := h72.has u1
                  clear h72
                  obtain ⟨V2, hV2⟩ : ∃ V, V = chV n g z (-(s' : Int)) n2 := ⟨_, rfl⟩
                  rw [← hV2]
                  cases ho2 : chOk g z (-(s' : Int)) n2 with
                  | false =>
                    have L2 := Lib.hid (low_no1 Hg.out Hl2.out ho2)
                    clear ho2 hV2
                    have Rn : Hid (rest n (cycB n) ((cycB n).drop (k2 + 1)) s' left2 g mvd = rlx n (cycB n) s 5000 f) := Lib.hid (by rw [← HR.out, drop_hd Hcz.out, rest_no (mv_none L1.out L2.out)])
                    clear u0 u1
                    go_wp2_with fail
                    go_roundw
                    case rel => exact ⟨k2 + 1, T2, left2, g, mvd, by omega, by go_num, rfl, rfl, HT.out, hTT, hmv, Hg.out, Rn.out, HG.out, hgx, hcx⟩
                    case measure => simp [intOf]; omega
                  | true =>
                    by_cases hn2 : V2 < 0
                    · have L2 := Lib.hid (low_yes Hg.out Hl2.out ho2 (by rw [← hV2]; exact hn2))
                      have tI2 : decide (0 ≤ V2) = false := by simp; omega
                      have tJ2 : ¬ (0 : Int) ≤ V2 := by omega
                      clear ho2 hV2 hn2
                      have Hmv : Hid (mv n g z (s' : Int) = some (addL g z (-(s' : Int)))) := Lib.hid (mv_second L1.out L2.out)
                      have Hnew := Lib.hid (mv_ok Hmv.out)
                      have Hgl : Hid (g.length = n2) := Lib.hid (by rw [(flOk_all Hg.out).1]; exact Hl2.out)
                      have Hzl : Hid (z.length = n2) := Lib.hid HZ.out.sl.ilen
                      have hT := HT.out
                      by_cases hT5 : left2 = 0
                      · have tT : ((T2 : Int) == 5000) = true := by simp; omega
                        have tT' : T2 = 5000 := by omega
                        have He : Hid (rlx n (cycB n) s 5000 f = (g, 0)) := Lib.hid (by rw [← HR.out, hT5, rest_out])
                        have fin : Hid (5000 + (rlx n (cycB n) s 5000 f).2 = 5000 ∧ (rlx n (cycB n) s 5000 f).1 = g) := Lib.hid (by rw [He.out]; exact ⟨rfl, rfl⟩)
                        have HgG := Lib.hid (SlAt.of_own HG.out hm2)
                        have hgf := hgx
                        clear hT5 u0 u1
                        go_wp2_with fail
                        (try simp only [Exit.inBlock, Exit.then])
                        go_ret2
                        exact ⟨LA, cL, 5000, rfl, fin.out.1, by rw [fin.out.2]; exact HgG.out, hgf⟩
                      have tT : ((T2 : Int) == 5000) = false := by simp; omega
                      have Hgl2 : Hid (g.length = (addL g z (-(s' : Int))).length) := Lib.hid (by rw [addL_len])
                      clear u0 u1
                      go_wp2_with fail
                      go_loopw [85] (fun i wy => ∃ e : Nat, e ≤ n2 ∧ i = .int .i64 e ∧ wy.ownsRow w.heap.size 2 1 (.slice LA n2 cL) n2 (ints (prt (addL g z (-(s' : Int))) g e)) ∧ Gr w wy ∧ Chg (fun j => (Value.slice LA n2 cL).ownBlock = some j) w4 wy) (fun i _ => n2 - (intOf i).toNat)
                      case atStart => exact ⟨0, Nat.zero_le _, rfl, own_eq' HG.out (by rw [prt_zero]), hgx, hcx⟩
                      case round =>
                        obtain ⟨e, he, rfl, hO, hgy, hcy⟩ := hrel
                        have HO := Lib.hid hO
                        clear hO hgx hcx HG
                        by_cases hle : e < n2
                        · obtain ⟨gL, hgL, hgLl, _⟩ := own_form HO.out (by omega)
                          subst hgL
                          obtain ⟨gv, hgv⟩ : ∃ v, g[e]? = some v := ⟨_, List.getElem?_eq_getElem (by have := Hgl.out; omega)⟩
                          have hge : g.getD e 0 = gv := by rw [List.getD_eq_getElem?_getD, hgv]; rfl
                          have hgb := flOk_get Hg.out e
                          rw [hge] at hgb
                          obtain ⟨p0, p1⟩ := own_int HO.out (prt_at Hgl2.out hgv)
                          obtain ⟨zv, hzv⟩ : ∃ v, z[e]? = some v := ⟨_, List.getElem?_eq_getElem (by have := Hzl.out; omega)⟩
                          have hze : z.getD e 0 = zv := by rw [List.getD_eq_getElem?_getD, hzv]; rfl
                          have hzb := Hz.out e
                          rw [hze] at hzb
                          obtain ⟨bz, oz, hAz, hbz, kz⟩ := (HBZ.out _ hcy).2.sl.int hzv
                          subst hAz
                          have hmul := mul_small (a := -(s' : Int)) (by omega) hzb
                          have hmul2 : zv * (-(s' : Int)) = (-(s' : Int)) * zv := Int.mul_comm _ _
                          obtain ⟨P, hP⟩ : ∃ P, P = (-(s' : Int)) * zv := ⟨_, rfl⟩
                          rw [← hP] at hmul hmul2
                          have hw1 : IntKind.i64.wrap P = P := IntWalk.i64_in _ (by omega)
                          have hw2 : IntKind.i64.wrap (gv + P) = gv + P := IntWalk.i64_in _ (by omega)
                          have hadd : (addL g z (-(s' : Int)))[e]? = some (gv + P) := by rw [get_int (by rw [addL_len]; have := Hgl.out; omega), addL_get (by have := Hgl.out; omega), hge, hze, hP]
                          have Hset := Lib.hid (prt_set Hgl2.out hadd)
                          have s1 : (e : Int) < (n2 : Int) := by omega
                          have s0 : (0 : Int) ≤ (e : Int) := by omega
                          clear hgv hge hgb hzv hze hzb hmul hadd hP
                          rename World => wy
                          go_wp2_with fail
                          obtain ⟨o9, _⟩ := own_set_int HO.out e (gv + P)
                          have Ho9 := Lib.hid o9
                          have hgy9 := hgy.setCell (p := ⟨gL, e, none⟩) (by simpa using hgLl) (.int .i64 (gv + P))
                          have hcy9 : Chg (fun j => (Value.slice (some ⟨gL, 0, none⟩) n2 cL).ownBlock = some j) w4 (wy.setCell ⟨gL, e, none⟩ (.int .i64 (gv + P))) := hcy.trans ((chg_put (S := gL) e _).mono (fun j hj => by rw [hj]; rfl))
                          clear o9
                          go_roundw
                          case rel => exact ⟨e + 1, by omega, by go_num, own_eq' Ho9.out (by rw [Hset.out]), hgy9, hcy9⟩
                          case measure => simp [intOf]; omega
                        · obtain rfl : e = n2 := by omega
                          have hfull := HO.out
                          rw [prt_full Hgl2.out (by rw [addL_len, Hgl.out]; exact Nat.le_refl _)] at hfull
                          have Hend := Lib.hid hfull
                          have Rn : Hid (rest n (cycB n) ((cycB n).drop (k2 + 1)) s' (left2 - 1) (addL g z (-(s' : Int))) true = rlx n (cycB n) s 5000 f) := Lib.hid (by rw [← HR.out, drop_hd Hcz.out, rest_yes hT5 Hmv.out])
                          clear hfull HO
                          go_wp2_with fail
                          go_roundw
                          case rel => exact ⟨k2 + 1, T2 + 1, left2 - 1, addL g z (-(s' : Int)), true, by omega, by go_num, by go_num, rfl, by omega, by omega, fun _ => by omega, Hnew.out, Rn.out, Hend.out, hgy, hcy⟩
                          case measure => simp [intOf]; omega
                    · have L2 := Lib.hid (low_no2 Hg.out Hl2.out ho2 (by rw [← hV2]; exact hn2))
                      have tI2 : decide (0 ≤ V2) = true := by simp; omega
                      have tJ2 : (0 : Int) ≤ V2 := by omega
                      clear ho2 hV2 hn2
                      have Rn : Hid (rest n (cycB n) ((cycB n).drop (k2 + 1)) s' left2 g mvd = rlx n (cycB n) s 5000 f) := Lib.hid (by rw [← HR.out, drop_hd Hcz.out, rest_no (mv_none L1.out L2.out)])
                      clear u0 u1
                      go_wp2_with fail
                      go_roundw
                      case rel => exact ⟨k2 + 1, T2, left2, g, mvd, by omega, by go_num, rfl, rfl, HT.out, hTT, hmv, Hg.out, Rn.out, HG.out, hgx, hcx⟩
                      case measure => simp [intOf]; omega
                | true =>
                  by_cases hn1 : V1 < 0
                  · have L1 := Lib.hid (low_yes Hg.out Hl2.out ho1 (by rw [← hV1]; exact hn1))
                    have tI1 : decide (0 ≤ V1) = false := by simp; omega
                    have tJ1 : ¬ (0 : Int) ≤ V1 := by omega
                    clear ho1 hV1 hn1
                    have Hmv : Hid (mv n g z (s' : Int) = some (addL g z ((s' : Int)))) := Lib.hid (mv_first L1.out)
                    have Hnew := Lib.hid (mv_ok Hmv.out)
                    have Hgl : Hid (g.length = n2) := Lib.hid (by rw [(flOk_all Hg.out).1]; exact Hl2.out)
                    have Hzl : Hid (z.length = n2) := Lib.hid HZ.out.sl.ilen
                    have hT := HT.out
                    by_cases hT5 : left2 = 0
                    · have tT : ((T2 : Int) == 5000) = true := by simp; omega
                      have tT' : T2 = 5000 := by omega
                      have He : Hid (rlx n (cycB n) s 5000 f = (g, 0)) := Lib.hid (by rw [← HR.out, hT5, rest_out])
                      have fin : Hid (5000 + (rlx n (cycB n) s 5000 f).2 = 5000 ∧ (rlx n (cycB n) s 5000 f).1 = g) := Lib.hid (by rw [He.out]; exact ⟨rfl, rfl⟩)
                      have HgG := Lib.hid (SlAt.of_own HG.out hm2)
                      have hgf := hgx
                      clear hT5 u0 u1
                      go_wp2_with fail
                      (try simp only [Exit.inBlock, Exit.then])
                      go_ret2
                      exact ⟨LA, cL, 5000, rfl, fin.out.1, by rw [fin.out.2]; exact HgG.out, hgf⟩
                    have tT : ((T2 : Int) == 5000) = false := by simp; omega
                    have Hgl2 : Hid (g.length = (addL g z ((s' : Int))).length) := Lib.hid (by rw [addL_len])
                    clear u0 u1
                    go_wp2_with fail
                    go_loopw [85] (fun i wy => ∃ e : Nat, e ≤ n2 ∧ i = .int .i64 e ∧ wy.ownsRow w.heap.size 2 1 (.slice LA n2 cL) n2 (ints (prt (addL g z ((s' : Int))) g e)) ∧ Gr w wy ∧ Chg (fun j => (Value.slice LA n2 cL).ownBlock = some j) w4 wy) (fun i _ => n2 - (intOf i).toNat)
                    case atStart => exact ⟨0, Nat.zero_le _, rfl, own_eq' HG.out (by rw [prt_zero]), hgx, hcx⟩
                    case round =>
                      obtain ⟨e, he, rfl, hO, hgy, hcy⟩ := hrel
                      have HO := Lib.hid hO
                      clear hO hgx hcx HG
                      by_cases hle : e < n2
                      · obtain ⟨gL, hgL, hgLl, _⟩ := own_form HO.out (by omega)
                        subst hgL
                        obtain ⟨gv, hgv⟩ : ∃ v, g[e]? = some v := ⟨_, List.getElem?_eq_getElem (by have := Hgl.out; omega)⟩
                        have hge : g.getD e 0 = gv := by rw [List.getD_eq_getElem?_getD, hgv]; rfl
                        have hgb := flOk_get Hg.out e
                        rw [hge] at hgb
                        obtain ⟨p0, p1⟩ := own_int HO.out (prt_at Hgl2.out hgv)
                        obtain ⟨zv, hzv⟩ : ∃ v, z[e]? = some v := ⟨_, List.getElem?_eq_getElem (by have := Hzl.out; omega)⟩
                        have hze : z.getD e 0 = zv := by rw [List.getD_eq_getElem?_getD, hzv]; rfl
                        have hzb := Hz.out e
                        rw [hze] at hzb
                        obtain ⟨bz, oz, hAz, hbz, kz⟩ := (HBZ.out _ hcy).2.sl.int hzv
                        subst hAz
                        have hmul := mul_small (a := (s' : Int)) (by omega) hzb
                        have hmul2 : zv * ((s' : Int)) = ((s' : Int)) * zv := Int.mul_comm _ _
                        obtain ⟨P, hP⟩ : ∃ P, P = ((s' : Int)) * zv := ⟨_, rfl⟩
                        rw [← hP] at hmul hmul2
                        have hw1 : IntKind.i64.wrap P = P := IntWalk.i64_in _ (by omega)
                        have hw2 : IntKind.i64.wrap (gv + P) = gv + P := IntWalk.i64_in _ (by omega)
                        have hadd : (addL g z ((s' : Int)))[e]? = some (gv + P) := by rw [get_int (by rw [addL_len]; have := Hgl.out; omega), addL_get (by have := Hgl.out; omega), hge, hze, hP]
                        have Hset := Lib.hid (prt_set Hgl2.out hadd)
                        have s1 : (e : Int) < (n2 : Int) := by omega
                        have s0 : (0 : Int) ≤ (e : Int) := by omega
                        clear hgv hge hgb hzv hze hzb hmul hadd hP
                        rename World => wy
                        go_wp2_with fail
                        obtain ⟨o9, _⟩ := own_set_int HO.out e (gv + P)
                        have Ho9 := Lib.hid o9
                        have hgy9 := hgy.setCell (p := ⟨gL, e, none⟩) (by simpa using hgLl) (.int .i64 (gv + P))
                        have hcy9 : Chg (fun j => (Value.slice (some ⟨gL, 0, none⟩) n2 cL).ownBlock = some j) w4 (wy.setCell ⟨gL, e, none⟩ (.int .i64 (gv + P))) := hcy.trans ((chg_put (S := gL) e _).mono (fun j hj => by rw [hj]; rfl))
                        clear o9
                        go_roundw
                        case rel => exact ⟨e + 1, by omega, by go_num, own_eq' Ho9.out (by rw [Hset.out]), hgy9, hcy9⟩
                        case measure => simp [intOf]; omega
                      · obtain rfl : e = n2 := by omega
                        have hfull := HO.out
                        rw [prt_full Hgl2.out (by rw [addL_len, Hgl.out]; exact Nat.le_refl _)] at hfull
                        have Hend := Lib.hid hfull
                        have Rn : Hid (rest n (cycB n) ((cycB n).drop (k2 + 1)) s' (left2 - 1) (addL g z ((s' : Int))) true = rlx n (cycB n) s 5000 f) := Lib.hid (by rw [← HR.out, drop_hd Hcz.out, rest_yes hT5 Hmv.out])
                        clear hfull HO
                        go_wp2_with fail
                        go_roundw
                        case rel => exact ⟨k2 + 1, T2 + 1, left2 - 1, addL g z ((s' : Int)), true, by omega, by go_num, by go_num, rfl, by omega, by omega, fun _ => by omega, Hnew.out, Rn.out, Hend.out, hgy, hcy⟩
                        case measure => simp [intOf]; omega
                  · have L1 := Lib.hid (low_no2 Hg.out Hl2.out ho1 (by rw [← hV1]; exact hn1))
                    have tI1 : decide (0 ≤ V1) = true := by simp; omega
                    have tJ1 : (0 : Int) ≤ V1 := by omega
                    clear ho1 hV1 hn1
                    go_wp2_with fail
                    refine (energyChange_any n g z (-(s' : Int)) _ (HA.out.gr hgx) (SlAt.of_own HG.out hm2) HZ.out Hok.out Hg.out Hz.out (by omega)).mono ?_
                    rintro e w72 ⟨rfl, h72⟩
                    replace hgx := hgx.trans h72
                    replace hcx := hcx.trans (h72.chg _)
                    replace HG := Lib.hid (own_gr HG.out h72)
                    replace HZ := Lib.hid (HZ.out.gr h72)
                    replace u0 := h72.has u0
                    replace u1 := h72.has u1
                    clear h72
                    obtain ⟨V2, hV2⟩ : ∃ V, V = chV n g z (-(s' : Int)) n2 := ⟨_, rfl⟩
                    rw [← hV2]
                    cases ho2 : chOk g z (-(s' : Int)) n2 with
                    | false =>
                      have L2 := Lib.hid (low_no1 Hg.out Hl2.out ho2)
                      clear ho2 hV2
                      have Rn : Hid (rest n (cycB n) ((cycB n).drop (k2 + 1)) s' left2 g mvd = rlx n (cycB n) s 5000 f) := Lib.hid (by rw [← HR.out, drop_hd Hcz.out, rest_no (mv_none L1.out L2.out)])
                      clear u0 u1
                      go_wp2_with fail
                      go_roundw
                      case rel => exact ⟨k2 + 1, T2, left2, g, mvd, by omega, by go_num, rfl, rfl, HT.out, hTT, hmv, Hg.out, Rn.out, HG.out, hgx, hcx⟩
                      case measure => simp [intOf]; omega
                    | true =>
                      by_cases hn2 : V2 < 0
                      · have L2 := Lib.hid (low_yes Hg.out Hl2.out ho2 (by rw [← hV2]; exact hn2))
                        have tI2 : decide (0 ≤ V2) = false := by simp; omega
                        have tJ2 : ¬ (0 : Int) ≤ V2 := by omega
                        clear ho2 hV2 hn2
                        have Hmv : Hid (mv n g z (s' : Int) = some (addL g z (-(s' : Int)))) := Lib.hid (mv_second L1.out L2.out)
                        have Hnew := Lib.hid (mv_ok Hmv.out)
                        have Hgl : Hid (g.length = n2) := Lib.hid (by rw [(flOk_all Hg.out).1]; exact Hl2.out)
                        have Hzl : Hid (z.length = n2) := Lib.hid HZ.out.sl.ilen
                        have hT := HT.out
                        by_cases hT5 : left2 = 0
                        · have tT : ((T2 : Int) == 5000) = true := by simp; omega
                          have tT' : T2 = 5000 := by omega
                          have He : Hid (rlx n (cycB n) s 5000 f = (g, 0)) := Lib.hid (by rw [← HR.out, hT5, rest_out])
                          have fin : Hid (5000 + (rlx n (cycB n) s 5000 f).2 = 5000 ∧ (rlx n (cycB n) s 5000 f).1 = g) := Lib.hid (by rw [He.out]; exact ⟨rfl, rfl⟩)
                          have HgG := Lib.hid (SlAt.of_own HG.out hm2)
                          have hgf := hgx
                          clear hT5 u0 u1
                          go_wp2_with fail
                          (try simp only [Exit.inBlock, Exit.then])
                          go_ret2
                          exact ⟨LA, cL, 5000, rfl, fin.out.1, by rw [fin.out.2]; exact HgG.out, hgf⟩
                        have tT : ((T2 : Int) == 5000) = false := by simp; omega
                        have Hgl2 : Hid (g.length = (addL g z (-(s' : Int))).length) := Lib.hid (by rw [addL_len])
                        clear u0 u1
                        go_wp2_with fail
                        go_loopw [85] (fun i wy => ∃ e : Nat, e ≤ n2 ∧ i = .int .i64 e ∧ wy.ownsRow w.heap.size 2 1 (.slice LA n2 cL) n2 (ints (prt (addL g z (-(s' : Int))) g e)) ∧ Gr w wy ∧ Chg (fun j => (Value.slice LA n2 cL).ownBlock = some j) w4 wy) (fun i _ => n2 - (intOf i).toNat)
                        case atStart => exact ⟨0, Nat.zero_le _, rfl, own_eq' HG.out (by rw [prt_zero]), hgx, hcx⟩
                        case round =>
                          obtain ⟨e, he, rfl, hO, hgy, hcy⟩ := hrel
                          have HO := Lib.hid hO
                          clear hO hgx hcx HG
                          by_cases hle : e < n2
                          · obtain ⟨gL, hgL, hgLl, _⟩ := own_form HO.out (by omega)
                            subst hgL
                            obtain ⟨gv, hgv⟩ : ∃ v, g[e]? = some v := ⟨_, List.getElem?_eq_getElem (by have := Hgl.out; omega)⟩
                            have hge : g.getD e 0 = gv := by rw [List.getD_eq_getElem?_getD, hgv]; rfl
                            have hgb := flOk_get Hg.out e
                            rw [hge] at hgb
                            obtain ⟨p0, p1⟩ := own_int HO.out (prt_at Hgl2.out hgv)
                            obtain ⟨zv, hzv⟩ : ∃ v, z[e]? = some v := ⟨_, List.getElem?_eq_getElem (by have := Hzl.out; omega)⟩
                            have hze : z.getD e 0 = zv := by rw [List.getD_eq_getElem?_getD, hzv]; rfl
                            have hzb := Hz.out e
                            rw [hze] at hzb
                            obtain ⟨bz, oz, hAz, hbz, kz⟩ := (HBZ.out _ hcy).2.sl.int hzv
                            subst hAz
                            have hmul := mul_small (a := -(s' : Int)) (by omega) hzb
                            have hmul2 : zv * (-(s' : Int)) = (-(s' : Int)) * zv := Int.mul_comm _ _
                            obtain ⟨P, hP⟩ : ∃ P, P = (-(s' : Int)) * zv := ⟨_, rfl⟩
                            rw [← hP] at hmul hmul2
                            have hw1 : IntKind.i64.wrap P = P := IntWalk.i64_in _ (by omega)
                            have hw2 : IntKind.i64.wrap (gv + P) = gv + P := IntWalk.i64_in _ (by omega)
                            have hadd : (addL g z (-(s' : Int)))[e]? = some (gv + P) := by rw [get_int (by rw [addL_len]; have := Hgl.out; omega), addL_get (by have := Hgl.out; omega), hge, hze, hP]
                            have Hset := Lib.hid (prt_set Hgl2.out hadd)
                            have s1 : (e : Int) < (n2 : Int) := by omega
                            have s0 : (0 : Int) ≤ (e : Int) := by omega
                            clear hgv hge hgb hzv hze hzb hmul hadd hP
                            rename World => wy
                            go_wp2_with fail
                            obtain ⟨o9, _⟩ := own_set_int HO.out e (gv + P)
                            have Ho9 := Lib.hid o9
                            have hgy9 := hgy.setCell (p := ⟨gL, e, none⟩) (by simpa using hgLl) (.int .i64 (gv + P))
                            have hcy9 : Chg (fun j => (Value.slice (some ⟨gL, 0, none⟩) n2 cL).ownBlock = some j) w4 (wy.setCell ⟨gL, e, none⟩ (.int .i64 (gv + P))) := hcy.trans ((chg_put (S := gL) e _).mono (fun j hj => by rw [hj]; rfl))
                            clear o9
                            go_roundw
                            case rel => exact ⟨e + 1, by omega, by go_num, own_eq' Ho9.out (by rw [Hset.out]), hgy9, hcy9⟩
                            case measure => simp [intOf]; omega
                          · obtain rfl : e = n2 := by omega
                            have hfull := HO.out
                            rw [prt_full Hgl2.out (by rw [addL_len, Hgl.out]; exact Nat.le_refl _)] at hfull
                            have Hend := Lib.hid hfull
                            have Rn : Hid (rest n (cycB n) ((cycB n).drop (k2 + 1)) s' (left2 - 1) (addL g z (-(s' : Int))) true = rlx n (cycB n) s 5000 f) := Lib.hid (by rw [← HR.out, drop_hd Hcz.out, rest_yes hT5 Hmv.out])
                            clear hfull HO
                            go_wp2_with fail
                            go_roundw
                            case rel => exact ⟨k2 + 1, T2 + 1, left2 - 1, addL g z (-(s' : Int)), true, by omega, by go_num, by go_num, rfl, by omega, by omega, fun _ => by omega, Hnew.out, Rn.out, Hend.out, hgy, hcy⟩
                            case measure => simp [intOf]; omega
                      · have L2 := Lib.hid (low_no2 Hg.out Hl2.out ho2 (by rw [← hV2]; exact hn2))
                        have tI2 : decide (0 ≤ V2) = true := by simp; omega
                        have tJ2 : (0 : Int) ≤ V2 := by omega
                        clear ho2 hV2 hn2
                        have Rn : Hid (rest n (cycB n) ((cycB n).drop (k2 + 1)) s' left2 g mvd = rlx n (cycB n) s 5000 f) := Lib.hid (by rw [← HR.out, drop_hd Hcz.out, rest_no (mv_none L1.out L2.out)])
                        clear u0 u1
                        go_wp2_with fail
                        go_roundw
                        case rel => exact ⟨k2 + 1, T2, left2, g, mvd, by omega, by go_num, rfl, rfl, HT.out, hTT, hmv, Hg.out, Rn.out, HG.out, hgx, hcx⟩
                        case measure => simp [intOf]; omega
              · obtain rfl : k2 = k := by omega
                have hR := HR.out
                rw [List.drop_eq_nil_of_le (by rw [Hcl.out]; exact Nat.le_refl _), rest_end] at hR
                have HRe : Hid (rlx n (cycB n) (if mvd = true then s' else s' / 2) left2 g = rlx n (cycB n) s 5000 f) := Lib.hid (by cases mvd <;> exact hR)
                clear hR
                go_wp2_with fail
                go_roundw
                case rel => exact ⟨T2, left2, g, mvd, rfl, rfl, hT2, Hg.out, HRe.out, HG.out, hgx, hcx⟩
                case measure =>
                  cases mvd with
                  | false => simp [intOf, bN]; omega
                  | true => have := hmv rfl; simp [intOf, bN]; omega
end Go.Proofs.YthhmhigddmimjaaGreat
