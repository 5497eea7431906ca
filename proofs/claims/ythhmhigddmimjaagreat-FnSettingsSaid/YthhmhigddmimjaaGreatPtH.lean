import Derived.Test.YthhmhigddmimjaaGreatPtG
import Derived.Deep.RegionHeld3
import Derived.Test.YthhmhigddmimjaaGreatDrawG
import Derived.Test.YthhmhigddmimjaaGreatOutA
/-
  Numbers that are good (both sides). Printed by gen_pt24.py.
-/
set_option linter.unusedSimpArgs false
set_option linter.unusedVariables false
namespace Go.Proofs.YthhmhigddmimjaaGreat
open Go.ChangeShapes Go.WideShapes Go.ChangeAt Go.RowKit

theorem pow5 {q : Nat} (hq : q ≤ 5) : wrap64 (2 ^ q) = ((2 ^ q : Nat) : Int) ∧ IntKind.i64.wrap (2 ^ q) = ((2 ^ q : Nat) : Int) ∧ wrap64 (2 ^ min (IntKind.u64.wrap (q : Int)).toNat 64) = ((2 ^ q : Nat) : Int) ∧ IntKind.i64.wrap (2 ^ min (IntKind.u64.wrap (q : Int)).toNat 64) = ((2 ^ q : Nat) : Int) := by
  have : q = 0 ∨ q = 1 ∨ q = 2 ∨ q = 3 ∨ q = 4 ∨ q = 5 := by omega
  rcases this with rfl | rfl | rfl | rfl | rfl | rfl <;> exact ⟨by decide +kernel, by decide +kernel, by decide +kernel, by decide +kernel⟩
theorem pow_in {k q : Nat} (h : k < 2 ^ q) : inB 0 (k : Int) (2 ^ q - 1) = true := by
  apply inB_true
  have e : ((2 ^ q : Nat) : Int) = 2 ^ q := by rw [Int.natCast_pow]; rfl
  omega
theorem sw_st {n : GNet} {zs ss : List Int} {k : Nat} (h : swCode n zs ss = 0) (hk : k < 2 ^ ss.length) : stOk n.pipes.length (swTo (k : Int) zs ss ss.length) = true := by
  have hs : spwCode n zs ss (k : Int) = 0 := by rw [spwCode, if_pos h, if_pos (pow_in hk)]
  have h4 := (switched_law hs).2.2.2.1
  rw [spwRes, if_pos hs] at h4
  exact h4
theorem sw_in {n : GNet} {zs ss : List Int} {N : Nat} (hN : n.pipes.length = N) (h : swCode n zs ss = 0) : ∀ (j : Nat) (z : Int), ss[j]? = some z → 0 ≤ z ∧ z < N := by
  intro j z hz
  obtain ⟨_, z2, z3, z4⟩ := swCode_zero h
  have h1 := setOk_at z4 j z hz
  omega
theorem gn_bad {n : GNet} {zs ss sup : List Int} (h : gnCode n zs ss sup ≠ 0) : gnRes n zs ss sup = [] := by rw [gnRes, if_neg h]
theorem gn_yes {n : GNet} {zs ss sup : List Int} (h : gnCode n zs ss sup = 0) : gnRes n zs ss sup = gdTo n zs ss sup (2 ^ ss.length) := by rw [gnRes, if_pos h]
theorem gn_one {n : GNet} {zs ss sup : List Int} (h : swCode n zs ss ≠ 0) : gnCode n zs ss sup = swCode n zs ss := l27Val_bad h
theorem gn_two {n : GNet} {zs ss sup : List Int} (h : swCode n zs ss = 0) (h2 : supOk n.nodes.length sup = false) : gnCode n zs ss sup = 3 := by rw [gnCode, l27Val_eq h, h2]; rfl
theorem gn_ok {n : GNet} {zs ss sup : List Int} (h : swCode n zs ss = 0) (h2 : supOk n.nodes.length sup = true) : gnCode n zs ss sup = 0 := by rw [gnCode, l27Val_eq h, h2]; rfl
set_option maxHeartbeats 6400000 in
set_option maxRecDepth 100000 in
theorem GoodNumbers_any {A1 A2 A3 A4 A5 : Option Addr} {n1 c1 n2 c2 n3 c3 n4 c4 n5 c5 : Nat} (n : GNet) (zs ss sup : List Int) (w : World) (hA : NetAt w A1 n1 c1 A2 n2 c2 n) (hL : SlAt w 1 A3 n3 c3 (ints zs)) (hS : SlAt w 1 A4 n4 c4 (ints ss)) (hU : SlAt w 1 A5 n5 c5 (ints sup)) :
    Calls Tryz.prog 22 #[.agg #[.slice A1 n1 c1, .slice A2 n2 c2], .slice A3 n3 c3, .slice A4 n4 c4, .slice A5 n5 c5] w fun e w' => ∃ A m c, e = .returned (.tuple #[.slice A m c, .int .i64 (gnCode n zs ss sup)]) ∧ m ≤ 1048576 ∧ w'.ownsRow w.heap.size 2 1 (.slice A m c) m (ints (gnRes n zs ss sup)) ∧ Gr w w' := by
  obtain ⟨i0, hi0, hz0, hz1, hz2⟩ := info_parts infoInt64
  have hl1 := hA.l1
  have hl2 := hA.l2
  have hm1 := hA.m1
  have hm2 := hA.m2
  have Hl4 := Lib.hid hS.sl.ilen
  have Hl3 := Lib.hid hL.sl.ilen
  have HA := Lib.hid hA
  have HZ := Lib.hid hL
  have HS := Lib.hid hS
  have HU := Lib.hid hU
  have Hl1 := Lib.hid hl1
  have Hl2 := Lib.hid hl2
  clear hA hL hS hU hl1 hl2
  go_enter Tryz.func22, Tryz.ntmps22
  go_wp2_with fail
  obtain ⟨w1, hw1⟩ : ∃ W, W = w.alloc (.cells #[.slice A1 n1 c1, .slice A2 n2 c2] 32) := ⟨_, rfl⟩
  have hg1 : Gr w w1 := by rw [hw1]; exact (Gr.refl _).alloc _
  have y0 : w1.cell? ⟨w.heap.size, 0, none⟩ = some (.slice A1 n1 c1) := by rw [hw1]; simp [go_sem]
  have y1 : w1.cell? ⟨w.heap.size, 1, none⟩ = some (.slice A2 n2 c2) := by rw [hw1]; simp [go_sem]
  rw [← hw1]
  clear hw1
  have hgw := hg1
  refine (checkSwitches_any n zs ss _ (HA.out.gr hgw) (HZ.out.gr hgw) (HS.out.gr hgw)).mono ?_
  rintro e w2 ⟨rfl, h2⟩
  replace hgw := hgw.trans h2
  replace y0 := h2.has y0
  replace y1 := h2.has y1
  by_cases hc : swCode n zs ss = 0
  rotate_left
  · have tc : (swCode n zs ss != 0) = true := by simp [hc]
    have Hc := Lib.hid hc
    clear hc
    go_wp2_with fail
    go_ret2
    exact ⟨none, 0, 0, by rw [gn_one Hc.out] <;> rfl, by omega, by rw [gn_bad (by rw [gn_one Hc.out]; exact Hc.out)]; exact World.ownsRow_nil _ _ _ _, hgw⟩
  obtain ⟨hn, z2, z3, z4⟩ := swCode_zero hc
  have hn45 : n4 ≤ 5 := by rw [← Hl4.out]; exact z3
  obtain rfl : n3 = n2 := by rw [← st_len Hl2.out z2]; exact Hl3.out.symm
  have Hn := Lib.hid hn
  have Hc := Lib.hid hc
  have Hss := Lib.hid (sw_in Hl2.out hc)
  clear hn z2 z3 z4
  rw [hc]
  clear hc
  go_wp2_with fail
  refine (areSupplies_any (A1 := A1) (n1 := n1) (c1 := c1) (A2 := A2) (c2 := c2) (n2 := n3) sup _ (HU.out.gr hgw) hm1).mono ?_
  rintro e wb ⟨rfl, h4⟩
  replace hgw := hgw.trans h4
  replace y0 := h4.has y0
  replace y1 := h4.has y1
  cases hu : supOk n1 sup with
  | false =>
    have Hr : Hid (gnCode n zs ss sup = 3) := Lib.hid (gn_two Hc.out (by rw [Hl1.out]; exact hu))
    clear hu
    go_wp2_with fail
    go_ret2
    exact ⟨none, 0, 0, by rw [Hr.out] <;> rfl, by omega, by rw [gn_bad (by rw [Hr.out]; decide)]; exact World.ownsRow_nil _ _ _ _, hgw⟩
  | true =>
    have Hgn : Hid (gnCode n zs ss sup = 0) := Lib.hid (gn_ok Hc.out (by rw [Hl1.out]; exact hu))
    clear hu hg1 h2 h4
    obtain ⟨P, hP⟩ : ∃ P, P = 2 ^ n4 := ⟨_, rfl⟩
    have hP32 : P ≤ 32 := by rw [hP]; exact pow_small hn45
    obtain ⟨pw1, pw2, pw3, pw4⟩ := pow5 hn45
    rw [← hP] at pw1 pw2 pw3 pw4
    have HP := Lib.hid hP
    have HPW := Lib.hid (And.intro pw1 (And.intro pw2 (And.intro pw3 pw4)))
    clear hP
    go_wp2_with fail
    clear pw1 pw2 pw3 pw4
    go_loopw [11, 27] (fun o i wr => ∃ k : Nat, k ≤ P ∧ i = .int .i64 k ∧ (∃ A c, o = .slice A (gdTo n zs ss sup k).length c ∧ wr.ownsRow wb.heap.size 2 1 (.slice A (gdTo n zs ss sup k).length c) (gdTo n zs ss sup k).length (ints (gdTo n zs ss sup k))) ∧ Gr wb wr) (fun _ i _ => P - (intOf i).toNat)
    case atStart => exact ⟨0, Nat.zero_le _, rfl, ⟨none, 0, rfl, World.ownsRow_nil _ _ _ _⟩, Gr.refl _⟩
    case round =>
      obtain ⟨k, hk, rfl, ⟨A, c, rfl, hown⟩, hgr⟩ := hrel
      have hul := gdTo_len n zs ss sup k
      obtain ⟨u, hu⟩ : ∃ u, u = (gdTo n zs ss sup k).length := ⟨_, rfl⟩
      rw [← hu] at hown hul ⊢
      have Ho := Lib.hid hown
      have Hu := Lib.hid hu
      have hgrs := hgr.size
      clear hown hu
      by_cases hlt : k < P
      · have t1 : (k : Int) < (P : Int) := by omega
        have t0 : (0 : Int) ≤ (k : Int) := by omega
        have hk31 : (0 : Int) ≤ (k : Int) ∧ (k : Int) ≤ 31 := by omega
        have hgx := hgw.trans hgr
        rename World => wr
        have kp : ∀ W, Gr wr W → (W.cell? ⟨w.heap.size, 0, none⟩ = some (.slice A1 n1 c1) ∧ W.cell? ⟨w.heap.size, 1, none⟩ = some (.slice A2 n3 c2)) := fun W h => ⟨(hgr.trans h).has y0, (hgr.trans h).has y1⟩
        obtain ⟨pw1, pw2, pw3, pw4⟩ := HPW.out
        go_upto_region 10 with fail
        clear pw1 pw2 pw3 pw4
        go_region_held3 (fun W => W.cell? ⟨w.heap.size, 0, none⟩ = some (.slice A1 n1 c1) ∧ W.cell? ⟨w.heap.size, 1, none⟩ = some (.slice A2 n3 c2))
          (first | with_reducible exact kp _ (Gr.refl _).drew | with_reducible exact kp _ hg6 | with_reducible exact kp _ hr7)
          (first
            | (go_at_call 64; with_reducible refine (switched_any zs ss (k : Int) _ (HZ.out.gr (hgx.trans (Gr.refl _).drew)) (HS.out.gr (hgx.trans (Gr.refl _).drew)) Hss.out hk31 hn45).mono ?_; rintro e w6 ⟨O, co, rfl, hO, h6⟩; have hg6 : Gr wr w6 := (Gr.refl _).drew.trans h6; have HO := Lib.hid (SlAt.of_own hO hm2); clear hO)
            | (go_at_call 56; with_reducible refine (areGood_any n (swTo (k : Int) zs ss n4) sup _ (HA.out.gr (hgx.trans hg6)) HO.out (HU.out.gr (hgx.trans hg6)) Hn.out).mono ?_; rintro e w7 ⟨rfl, h7⟩; have hr7 : Gr wr w7 := hg6.trans h7))
        have hg7 := hgr.trans hr7
        have Ho7 := Lib.hid (own_gr Ho.out hr7)
        have hs7 := hr7.size
        clear kp HO Ho
        cases hg : gdB n (swTo (k : Int) zs ss ss.length) sup with
        | false =>
          have Hst := Lib.hid (gdTo_no (n := n) (zs := zs) (ss := ss) (sup := sup) hg)
          rw [Hl4.out] at hg
          have Hg := Lib.hid hg
          rw [hg]
          clear hg
          go_wp2_with fail
          go_roundw
          case rel => exact ⟨k + 1, by omega, by go_num, ⟨A, c, by rw [Hst.out, Hu.out], by rw [Hst.out, ← Hu.out]; exact Ho7.out⟩, hg7⟩
          case measure => simp [intOf]; omega
        | true =>
          have Hst := Lib.hid (gdTo_yes (n := n) (zs := zs) (ss := ss) (sup := sup) hg)
          rw [Hl4.out] at hg
          rw [hg]
          have Hl : Hid ((gdTo n zs ss sup (k + 1)).length = u + 1) := Lib.hid (by rw [Hst.out, List.length_append, ← Hu.out]; rfl)
          clear hg
          go_wp2_with (at_builtin; (refine wpList_append_own _ rfl _ _ _ rfl wb.heap.size 2 i0 _ 1 8 Tryz.underlying26 hi0 hz0 hz1 hz2 rfl (by omega) _ u _ rfl (Ho7.out.alloc _) ⟨w7.heap.size, 0, none⟩ 1 1 [.int .i64 (k : Int)] rfl rfl (World.news_of_block (cs := #[.int .i64 (k : Int)]) (t := 2) (fr := (0, 0)) (heap_alloc_new w7 _)) (by simp [Value.oneCell']) (by unfold maxLen; omega) (by omega) (by simp; omega) ?_; intro v' w9 hown9 hg9 _))
          obtain ⟨A9, c9, rfl⟩ := own_shape hown9
          have Ho9 := Lib.hid (own_eq' hown9 (ys := ints (gdTo n zs ss sup k ++ [(k : Int)])) (by simp [ints]))
          have hgw9 := (hg7.alloc (.cells #[.int .i64 (k : Int)] 2)).grown hg9 (fun j hj => own_base_le Ho7.out hj)
          clear hown9 hg9
          go_wp2_with fail
          go_roundw
          case rel => exact ⟨k + 1, by omega, by go_num, ⟨A9, c9, by rw [Hl.out], by rw [Hl.out, Hst.out]; exact Ho9.out⟩, hgw9⟩
          case measure => simp [intOf]; omega
      · obtain rfl : k = P := by omega
        have hub : u ≤ 1048576 := by omega
        obtain ⟨pw1, pw2, pw3, pw4⟩ := HPW.out
        go_wp2_with fail
        clear pw1 pw2 pw3 pw4
        go_ret2
        refine ⟨A, u, c, by rw [Hgn.out] <;> rfl, hub, ?_, hgw.trans hgr⟩
        rw [gn_yes Hgn.out, Hl4.out, ← HP.out]
        exact own_base Ho.out hgw.size
set_option maxHeartbeats 6400000 in
set_option maxRecDepth 100000 in
theorem spGoodNumbers_any {A1 A2 A3 A4 A5 : Option Addr} {n1 c1 n2 c2 n3 c3 n4 c4 n5 c5 : Nat} (n : GNet) (zs ss sup : List Int) (w : World) (hA : NetAt w A1 n1 c1 A2 n2 c2 n) (hL : SlAt w 1 A3 n3 c3 (ints zs)) (hS : SlAt w 1 A4 n4 c4 (ints ss)) (hU : SlAt w 1 A5 n5 c5 (ints sup)) :
    Calls Tryz.prog 21 #[.agg #[.slice A1 n1 c1, .slice A2 n2 c2], .slice A3 n3 c3, .slice A4 n4 c4, .slice A5 n5 c5] w fun e w' => ∃ A m c, e = .returned (.tuple #[.slice A m c, .int .i64 (gnCode n zs ss sup)]) ∧ m ≤ 1048576 ∧ w'.ownsRow w.heap.size 2 1 (.slice A m c) m (ints (gnRes n zs ss sup)) ∧ Gr w w' := by
  obtain ⟨i0, hi0, hz0, hz1, hz2⟩ := info_parts infoInt64
  have hl1 := hA.l1
  have hl2 := hA.l2
  have hm1 := hA.m1
  have hm2 := hA.m2
  have Hl4 := Lib.hid hS.sl.ilen
  have Hl3 := Lib.hid hL.sl.ilen
  have HA := Lib.hid hA
  have HZ := Lib.hid hL
  have HS := Lib.hid hS
  have HU := Lib.hid hU
  have Hl1 := Lib.hid hl1
  have Hl2 := Lib.hid hl2
  clear hA hL hS hU hl1 hl2
  go_enter Tryz.func21, Tryz.ntmps21
  go_wp2_with fail
  obtain ⟨w1, hw1⟩ : ∃ W, W = w.alloc (.cells #[.slice A1 n1 c1, .slice A2 n2 c2] 32) := ⟨_, rfl⟩
  have hg1 : Gr w w1 := by rw [hw1]; exact (Gr.refl _).alloc _
  have y0 : w1.cell? ⟨w.heap.size, 0, none⟩ = some (.slice A1 n1 c1) := by rw [hw1]; simp [go_sem]
  have y1 : w1.cell? ⟨w.heap.size, 1, none⟩ = some (.slice A2 n2 c2) := by rw [hw1]; simp [go_sem]
  rw [← hw1]
  clear hw1
  have hgw := hg1
  refine (l27Code_any n zs ss sup _ (HA.out.gr hgw) (HZ.out.gr hgw) (HS.out.gr hgw) (HU.out.gr hgw)).mono ?_
  rintro e wb ⟨rfl, h2⟩
  replace hgw := hgw.trans h2
  replace y0 := h2.has y0
  replace y1 := h2.has y1
  have hgc : l27Val n zs ss sup n1 = gnCode n zs ss sup := by rw [gnCode, Hl1.out]
  rw [hgc]
  clear hgc
  by_cases hc0 : gnCode n zs ss sup = 0
  rotate_left
  · have tc : (gnCode n zs ss sup != 0) = true := by simp [hc0]
    have Hr := Lib.hid hc0
    clear hc0
    go_wp2_with fail
    go_ret2
    exact ⟨none, 0, 0, rfl, by omega, by rw [gn_bad (Hr.out)]; exact World.ownsRow_nil _ _ _ _, hgw⟩
  have Hgn := Lib.hid hc0
  obtain ⟨hc, hsu⟩ := gn_zero hc0
  rw [hc0]
  have Hsu := Lib.hid hsu
  clear hsu hc0
  obtain ⟨hn, z2, z3, z4⟩ := swCode_zero hc
  have hn45 : n4 ≤ 5 := by rw [← Hl4.out]; exact z3
  obtain rfl : n3 = n2 := by rw [← st_len Hl2.out z2]; exact Hl3.out.symm
  have Hn := Lib.hid hn
  have Hc := Lib.hid hc
  have Hss := Lib.hid (sw_in Hl2.out hc)
  clear hn z2 z3 z4
  obtain ⟨P, hP⟩ : ∃ P, P = 2 ^ n4 := ⟨_, rfl⟩
  have hP32 : P ≤ 32 := by rw [hP]; exact pow_small hn45
  obtain ⟨pw1, pw2, pw3, pw4⟩ := pow5 hn45
  rw [← hP] at pw1 pw2 pw3 pw4
  have HP := Lib.hid hP
  have HPW := Lib.hid (And.intro pw1 (And.intro pw2 (And.intro pw3 pw4)))
  clear hP pw1 pw2 pw3 pw4
  have HLit : Hid ((wb.alloc (.cells #[] 2)).ownsRow wb.heap.size 2 1 (.slice (some ⟨wb.heap.size, 0, none⟩) 0 0) 0 (ints (gdTo n zs ss sup 0))) := Lib.hid (World.ownsRow_lit wb #[] 0 (Nat.le_refl _) (by unfold maxLen; omega) rfl)
  clear hc hg1 h2
  go_wp2_with fail
  go_loopw [11, 12] (fun o i wr => ∃ k : Nat, k ≤ P ∧ i = .int .i64 k ∧ (∃ A c, o = .slice A (gdTo n zs ss sup k).length c ∧ wr.ownsRow wb.heap.size 2 1 (.slice A (gdTo n zs ss sup k).length c) (gdTo n zs ss sup k).length (ints (gdTo n zs ss sup k))) ∧ Gr wb wr) (fun _ i _ => P - (intOf i).toNat)
  case atStart => exact ⟨0, Nat.zero_le _, rfl, ⟨_, _, rfl, HLit.out⟩, (Gr.refl _).alloc _⟩
  case round =>
    obtain ⟨k, hk, rfl, ⟨A, c, rfl, hown⟩, hgr⟩ := hrel
    have hul := gdTo_len n zs ss sup k
    obtain ⟨u, hu⟩ : ∃ u, u = (gdTo n zs ss sup k).length := ⟨_, rfl⟩
    rw [← hu] at hown hul ⊢
    have Ho := Lib.hid hown
    have Hu := Lib.hid hu
    have hgrs := hgr.size
    clear hown hu
    by_cases hlt : k < P
    · have t1 : (k : Int) < (P : Int) := by omega
      have t0 : (0 : Int) ≤ (k : Int) := by omega
      have hk31 : (0 : Int) ≤ (k : Int) ∧ (k : Int) ≤ 31 := by omega
      have hgx := hgw.trans hgr
      rename World => wr
      have kp : ∀ W, Gr wr W → (W.cell? ⟨w.heap.size, 0, none⟩ = some (.slice A1 n1 c1) ∧ W.cell? ⟨w.heap.size, 1, none⟩ = some (.slice A2 n3 c2)) := fun W h => ⟨(hgr.trans h).has y0, (hgr.trans h).has y1⟩
      have Hag : Hid (agB n (swTo (k : Int) zs ss n4) sup = gdB n (swTo (k : Int) zs ss n4) sup) := Lib.hid (by rw [← Hl4.out]; exact ag_yes Hn.out (sw_st Hc.out (by rw [Hl4.out, ← HP.out]; exact hlt)) Hsu.out)
      obtain ⟨pw1, pw2, pw3, pw4⟩ := HPW.out
      go_upto_region 8 with fail
      clear pw1 pw2 pw3 pw4
      go_region_held3 (fun W => W.cell? ⟨w.heap.size, 0, none⟩ = some (.slice A1 n1 c1) ∧ W.cell? ⟨w.heap.size, 1, none⟩ = some (.slice A2 n3 c2))
        (first | with_reducible exact kp _ (Gr.refl _).drew | with_reducible exact kp _ hg6 | with_reducible exact kp _ hr7)
        (first
          | (go_at_call 62; with_reducible refine (l27Switch_any zs ss (k : Int) _ (HZ.out.gr (hgx.trans (Gr.refl _).drew)) (HS.out.gr (hgx.trans (Gr.refl _).drew)) Hss.out hk31 hn45).mono ?_; rintro e w6 ⟨O, co, rfl, hO, h6⟩; have hg6 : Gr wr w6 := (Gr.refl _).drew.trans h6; have HO := Lib.hid (SlAt.of_own hO hm2); clear hO)
          | (go_at_call 11; with_reducible refine (spAreGood_any n (swTo (k : Int) zs ss n4) sup _ (HA.out.gr (hgx.trans hg6)) HO.out (HU.out.gr (hgx.trans hg6))).mono ?_; rintro e w7 ⟨rfl, h7⟩; rw [Hag.out]; have hr7 : Gr wr w7 := hg6.trans h7))
      have hg7 := hgr.trans hr7
      have Ho7 := Lib.hid (own_gr Ho.out hr7)
      have hs7 := hr7.size
      clear kp HO Ho
      cases hg : gdB n (swTo (k : Int) zs ss ss.length) sup with
      | false =>
        have Hst := Lib.hid (gdTo_no (n := n) (zs := zs) (ss := ss) (sup := sup) hg)
        rw [Hl4.out] at hg
        have Hg := Lib.hid hg
        rw [hg]
        clear hg
        go_wp2_with fail
        go_roundw
        case rel => exact ⟨k + 1, by omega, by go_num, ⟨A, c, by rw [Hst.out, Hu.out], by rw [Hst.out, ← Hu.out]; exact Ho7.out⟩, hg7⟩
        case measure => simp [intOf]; omega
      | true =>
        have Hst := Lib.hid (gdTo_yes (n := n) (zs := zs) (ss := ss) (sup := sup) hg)
        rw [Hl4.out] at hg
        rw [hg]
        have Hl : Hid ((gdTo n zs ss sup (k + 1)).length = u + 1) := Lib.hid (by rw [Hst.out, List.length_append, ← Hu.out]; rfl)
        clear hg
        go_wp2_with (at_builtin; (refine wpList_append_own _ rfl _ _ _ rfl wb.heap.size 2 i0 _ 1 8 Tryz.underlying26 hi0 hz0 hz1 hz2 rfl (by omega) _ u _ rfl (Ho7.out.alloc _) ⟨w7.heap.size, 0, none⟩ 1 1 [.int .i64 (k : Int)] rfl rfl (World.news_of_block (cs := #[.int .i64 (k : Int)]) (t := 2) (fr := (0, 0)) (heap_alloc_new w7 _)) (by simp [Value.oneCell']) (by unfold maxLen; omega) (by omega) (by simp; omega) ?_; intro v' w9 hown9 hg9 _))
        obtain ⟨A9, c9, rfl⟩ := own_shape hown9
        have Ho9 := Lib.hid (own_eq' hown9 (ys := ints (gdTo n zs ss sup k ++ [(k : Int)])) (by simp [ints]))
        have hgw9 := (hg7.alloc (.cells #[.int .i64 (k : Int)] 2)).grown hg9 (fun j hj => own_base_le Ho7.out hj)
        clear hown9 hg9
        go_wp2_with fail
        go_roundw
        case rel => exact ⟨k + 1, by omega, by go_num, ⟨A9, c9, by rw [Hl.out], by rw [Hl.out, Hst.out]; exact Ho9.out⟩, hgw9⟩
        case measure => simp [intOf]; omega
    · obtain rfl : k = P := by omega
      have hub : u ≤ 1048576 := by omega
      obtain ⟨pw1, pw2, pw3, pw4⟩ := HPW.out
      go_wp2_with fail
      clear pw1 pw2 pw3 pw4
      go_ret2
      refine ⟨A, u, c, by rw [Hgn.out] <;> rfl, hub, ?_, hgw.trans hgr⟩
      rw [gn_yes Hgn.out, Hl4.out, ← HP.out]
      exact own_base Ho.out hgw.size
end Go.Proofs.YthhmhigddmimjaaGreat
/-
  Settings that are found (both sides). Printed by gen_pt25.py.
-/
set_option linter.unusedSimpArgs false
set_option linter.unusedVariables false
namespace Go.Proofs.YthhmhigddmimjaaGreat
open Go.ChangeShapes Go.WideShapes Go.ChangeAt Go.RowKit

def imb (l : List Int) (k : Nat) : Int := if k = 0 then l.getD 0 0 else bsTo l k
theorem imb_in {l : List Int} (h : ∀ x ∈ l, 0 ≤ x ∧ x ≤ 31) {k : Nat} (h0 : 0 < l.length) (hk : k ≤ l.length) : 0 ≤ imb l k ∧ imb l k ≤ 31 := by
  cases k with
  | zero => exact h _ (by rw [imb, if_pos rfl, List.getD_eq_getElem?_getD, List.getElem?_eq_getElem h0]; exact List.getElem_mem _)
  | succ k => rw [imb, if_neg (by omega)]; exact (bs_ok h k (by omega)).1
theorem imb_step {l : List Int} (h : ∀ x ∈ l, 0 ≤ x ∧ x ≤ 31) {k : Nat} (hk : k < l.length) : imb l (k + 1) = if bitsOf (l.getD k 0) < bitsOf (imb l k) then l.getD k 0 else imb l k := by
  have e : bsTo l (k + 1) = if bsTo l k < 0 ∨ bitsOf (l.getD k 0) < bitsOf (bsTo l k) then l.getD k 0 else bsTo l k := rfl
  have e1 : imb l (k + 1) = bsTo l (k + 1) := by rw [imb, if_neg (by omega)]
  rw [e1, e]
  cases k with
  | zero =>
    have e0 : imb l 0 = l.getD 0 0 := by rw [imb, if_pos rfl]
    rw [if_pos (Or.inl (by show (-1 : Int) < 0; decide)), e0, if_neg (by omega)]
  | succ k =>
    have hb := (bs_ok h k (by omega)).1
    have e2 : imb l (k + 1) = bsTo l (k + 1) := by rw [imb, if_neg (by omega)]
    rw [e2]
    by_cases c : bitsOf (l.getD (k + 1) 0) < bitsOf (bsTo l (k + 1))
    · rw [if_pos (Or.inr c), if_pos c]
    · rw [if_neg (by omega), if_neg c]
theorem fs_bad {n : GNet} {zs ss sup : List Int} (h : gnCode n zs ss sup ≠ 0) : fsCode n zs ss sup = gnCode n zs ss sup ∧ fsRes n zs ss sup = 0 := by
  have e : fsCode n zs ss sup = gnCode n zs ss sup := by rw [fsCode, if_neg h]
  exact ⟨e, by rw [fsRes, if_neg (by rw [e]; exact h)]⟩
theorem fs_none {n : GNet} {zs ss sup : List Int} (h : gnCode n zs ss sup = 0) (hl : (gnRes n zs ss sup).length = 0) : fsCode n zs ss sup = 7 ∧ fsRes n zs ss sup = 0 := by
  have e : fsCode n zs ss sup = 7 := by rw [fsCode, if_pos h, if_pos hl]
  exact ⟨e, by rw [fsRes, if_neg (by rw [e]; decide)]⟩
theorem fs_yes {n : GNet} {zs ss sup : List Int} (h : gnCode n zs ss sup = 0) (hl : (gnRes n zs ss sup).length ≠ 0) : fsCode n zs ss sup = 0 ∧ fsRes n zs ss sup = bsTo (gnRes n zs ss sup) (gnRes n zs ss sup).length := by
  have e : fsCode n zs ss sup = 0 := by rw [fsCode, if_pos h, if_neg hl]
  exact ⟨e, by rw [fsRes, if_pos e]⟩
theorem bits_nat {m : Int} (h : 0 ≤ m ∧ m ≤ 31) : bitsOf m = (pop5 m.toNat : Int) := by rw [bitsOf, if_pos (inB_true h)]
set_option maxHeartbeats 6400000 in
set_option maxRecDepth 100000 in
theorem FindSettings_any {A1 A2 A3 A4 A5 : Option Addr} {n1 c1 n2 c2 n3 c3 n4 c4 n5 c5 : Nat} (n : GNet) (zs ss sup : List Int) (w : World) (hA : NetAt w A1 n1 c1 A2 n2 c2 n) (hL : SlAt w 1 A3 n3 c3 (ints zs)) (hS : SlAt w 1 A4 n4 c4 (ints ss)) (hU : SlAt w 1 A5 n5 c5 (ints sup)) :
    Calls Tryz.prog 20 #[.agg #[.slice A1 n1 c1, .slice A2 n2 c2], .slice A3 n3 c3, .slice A4 n4 c4, .slice A5 n5 c5] w fun e w' => e = .returned (.tuple #[.int .i64 (fsRes n zs ss sup), .int .i64 (fsCode n zs ss sup)]) ∧ Gr w w' := by
  have hl2 := hA.l2
  have HA := Lib.hid hA
  have HZ := Lib.hid hL
  have HS := Lib.hid hS
  have HU := Lib.hid hU
  clear hA hL hS hU
  go_enter Tryz.func20, Tryz.ntmps20
  go_wp2_with fail
  obtain ⟨w1, hw1⟩ : ∃ W, W = w.alloc (.cells #[.slice A1 n1 c1, .slice A2 n2 c2] 32) := ⟨_, rfl⟩
  have hg1 : Gr w w1 := by rw [hw1]; exact (Gr.refl _).alloc _
  have y0 : w1.cell? ⟨w.heap.size, 0, none⟩ = some (.slice A1 n1 c1) := by rw [hw1]; simp [go_sem]
  have y1 : w1.cell? ⟨w.heap.size, 1, none⟩ = some (.slice A2 n2 c2) := by rw [hw1]; simp [go_sem]
  rw [← hw1]
  clear hw1
  have hgw := hg1
  refine (GoodNumbers_any n zs ss sup _ (HA.out.gr hgw) (HZ.out.gr hgw) (HS.out.gr hgw) (HU.out.gr hgw)).mono ?_
  rintro e w2 ⟨A, q, c, rfl, hq, hO, h2⟩
  replace hgw := hgw.trans h2
  have HO := Lib.hid (SlAt.of_own hO hq)
  clear hO h2 hg1 y0 y1
  by_cases hc : gnCode n zs ss sup = 0
  rotate_left
  · have tc : (gnCode n zs ss sup != 0) = true := by simp [hc]
    have Hc := Lib.hid hc
    clear hc
    go_wp2_with fail
    go_ret2
    exact ⟨by rw [(fs_bad Hc.out).1, (fs_bad Hc.out).2] <;> rfl, hgw⟩
  have Hc := Lib.hid hc
  rw [hc]
  obtain ⟨l, hl⟩ : ∃ l, l = gnRes n zs ss sup := ⟨_, rfl⟩
  have hin : ∀ x ∈ l, 0 ≤ x ∧ x ≤ 31 := fun x hx => (gn_mem (by rw [← hl]; exact hx)).2.2.1
  rw [← hl] at HO
  have hlen : l.length = q := HO.out.sl.ilen
  have Hin := Lib.hid hin
  have Hl := Lib.hid hl
  have Hlen := Lib.hid hlen
  clear hc hl hin hlen
  by_cases hq0 : q = 0
  · subst hq0
    have Hn := Lib.hid (fs_none Hc.out (by rw [← Hl.out]; exact Hlen.out))
    go_wp2_with fail
    go_ret2
    exact ⟨by rw [Hn.out.1, Hn.out.2] <;> rfl, hgw⟩
  have tq : ((q : Int) == 0) = false := by simp; omega
  have tq1 : (0 : Int) < (q : Int) := by omega
  have tq2 : 0 < q := by omega
  obtain ⟨f0, hf0⟩ : ∃ f0, f0 = l.getD 0 0 := ⟨_, rfl⟩
  obtain ⟨b0, o0, hAA, hb0, e0⟩ := HO.out.sl.int (k := 0) (x := f0) (by rw [hf0]; exact get_int (by have := Hlen.out; omega))
  have Hf0 : Hid (f0 = imb l 0) := Lib.hid (by rw [imb, if_pos rfl, hf0])
  clear hf0
  rw [Nat.add_zero] at e0
  subst hAA
  have Hfs := Lib.hid (fs_yes Hc.out (by rw [← Hl.out, Hlen.out]; exact hq0))
  go_wp2_with fail
  go_loopw [12, 34] (fun b i wr => ∃ k : Nat, k ≤ q ∧ i = .int .i64 k ∧ b = .int .i64 (imb l k) ∧ Gr w2 wr) (fun _ i _ => q - (intOf i).toNat)
  case atStart => exact ⟨0, Nat.zero_le _, rfl, by rw [Hf0.out], Gr.refl _⟩
  case round =>
    obtain ⟨k, hk, rfl, rfl, hgr⟩ := hrel
    clear e0
    by_cases hlt : k < q
    · obtain ⟨x, hx⟩ : ∃ x, l[k]? = some x := ⟨_, List.getElem?_eq_getElem (by have := Hlen.out; omega)⟩
      have hxe : l.getD k 0 = x := by rw [List.getD_eq_getElem?_getD, hx]; rfl
      have hxb := Hin.out x (List.mem_of_getElem? hx)
      obtain ⟨b1, o1, hAA, hb1, e1⟩ := (HO.out.gr hgr).sl.int hx
      injection hAA with hAA
      injection hAA with q1 q2
      subst q1
      subst q2
      have hbb := imb_in Hin.out (k := k) (by have := Hlen.out; omega) (by have := Hlen.out; omega)
      have hst := imb_step Hin.out (k := k) (by have := Hlen.out; omega)
      rw [hxe] at hst
      obtain ⟨y, hy⟩ : ∃ y, y = imb l k := ⟨_, rfl⟩
      rw [← hy] at hbb hst ⊢
      have Hst := Lib.hid hst
      have t1 : (k : Int) < (q : Int) := by omega
      have t0 : (0 : Int) ≤ (k : Int) := by omega
      rename World => wr
      clear hx hxe hst hy
      go_wp2_with fail
      refine (BitsOf_any x (wf_small (by omega)) _).mono ?_
      rintro e w3 ⟨rfl, h3⟩
      rw [← h3]
      clear h3
      go_wp2_with fail
      refine (BitsOf_any y (wf_small (by omega)) _).mono ?_
      rintro e w4 ⟨rfl, h4⟩
      rw [← h4]
      clear h4
      by_cases hbit : bitsOf x < bitsOf y
      · have tb : decide (bitsOf x < bitsOf y) = true := by simp [hbit]
        rw [if_pos hbit] at Hst
        clear e1
        go_wp2_with fail
        go_roundw
        case rel => exact ⟨k + 1, by omega, by go_num, by rw [Hst.out], hgr⟩
        case measure => simp [intOf]; omega
      · have tb : decide (bitsOf x < bitsOf y) = false := by simp; omega
        rw [if_neg hbit] at Hst
        clear e1
        go_wp2_with fail
        go_roundw
        case rel => exact ⟨k + 1, by omega, by go_num, by rw [Hst.out], hgr⟩
        case measure => simp [intOf]; omega
    · obtain rfl : k = q := by omega
      have He : Hid (imb l k = fsRes n zs ss sup) := Lib.hid (by rw [Hfs.out.2, ← Hl.out, Hlen.out, imb, if_neg hq0])
      go_wp2_with fail
      go_ret2
      exact ⟨by rw [Hfs.out.1, ← He.out] <;> rfl, hgw.trans hgr⟩
set_option maxHeartbeats 6400000 in
set_option maxRecDepth 100000 in
theorem spFindSettings_any {A1 A2 A3 A4 A5 : Option Addr} {n1 c1 n2 c2 n3 c3 n4 c4 n5 c5 : Nat} (n : GNet) (zs ss sup : List Int) (w : World) (hA : NetAt w A1 n1 c1 A2 n2 c2 n) (hL : SlAt w 1 A3 n3 c3 (ints zs)) (hS : SlAt w 1 A4 n4 c4 (ints ss)) (hU : SlAt w 1 A5 n5 c5 (ints sup)) :
    Calls Tryz.prog 19 #[.agg #[.slice A1 n1 c1, .slice A2 n2 c2], .slice A3 n3 c3, .slice A4 n4 c4, .slice A5 n5 c5] w fun e w' => e = .returned (.tuple #[.int .i64 (fsRes n zs ss sup), .int .i64 (fsCode n zs ss sup)]) ∧ Gr w w' := by
  have hl2 := hA.l2
  have HA := Lib.hid hA
  have HZ := Lib.hid hL
  have HS := Lib.hid hS
  have HU := Lib.hid hU
  clear hA hL hS hU
  go_enter Tryz.func19, Tryz.ntmps19
  go_wp2_with fail
  obtain ⟨w1, hw1⟩ : ∃ W, W = w.alloc (.cells #[.slice A1 n1 c1, .slice A2 n2 c2] 32) := ⟨_, rfl⟩
  have hg1 : Gr w w1 := by rw [hw1]; exact (Gr.refl _).alloc _
  have y0 : w1.cell? ⟨w.heap.size, 0, none⟩ = some (.slice A1 n1 c1) := by rw [hw1]; simp [go_sem]
  have y1 : w1.cell? ⟨w.heap.size, 1, none⟩ = some (.slice A2 n2 c2) := by rw [hw1]; simp [go_sem]
  rw [← hw1]
  clear hw1
  have hgw := hg1
  refine (spGoodNumbers_any n zs ss sup _ (HA.out.gr hgw) (HZ.out.gr hgw) (HS.out.gr hgw) (HU.out.gr hgw)).mono ?_
  rintro e w2 ⟨A, q, c, rfl, hq, hO, h2⟩
  replace hgw := hgw.trans h2
  have HO := Lib.hid (SlAt.of_own hO hq)
  clear hO h2 hg1 y0 y1
  by_cases hc : gnCode n zs ss sup = 0
  rotate_left
  · have tc : (gnCode n zs ss sup != 0) = true := by simp [hc]
    have Hc := Lib.hid hc
    clear hc
    go_wp2_with fail
    go_ret2
    exact ⟨by rw [(fs_bad Hc.out).1, (fs_bad Hc.out).2] <;> rfl, hgw⟩
  have Hc := Lib.hid hc
  rw [hc]
  obtain ⟨l, hl⟩ : ∃ l, l = gnRes n zs ss sup := ⟨_, rfl⟩
  have hin : ∀ x ∈ l, 0 ≤ x ∧ x ≤ 31 := fun x hx => (gn_mem (by rw [← hl]; exact hx)).2.2.1
  rw [← hl] at HO
  have hlen : l.length = q := HO.out.sl.ilen
  have Hin := Lib.hid hin
  have Hl := Lib.hid hl
  have Hlen := Lib.hid hlen
  clear hc hl hin hlen
  have hqm : q ≤ 1048576 := hq
  go_wp2_with fail
  go_loopw [12, 13] (fun b i wr => ∃ k : Nat, k ≤ q ∧ i = .int .i64 k ∧ b = .int .i64 (bsTo l k) ∧ Gr w2 wr) (fun _ i _ => q - (intOf i).toNat)
  case atStart => exact ⟨0, Nat.zero_le _, rfl, rfl, Gr.refl _⟩
  case round =>
    obtain ⟨k, hk, rfl, rfl, hgr⟩ := hrel
    by_cases hlt : k < q
    · obtain ⟨x, hx⟩ : ∃ x, l[k]? = some x := ⟨_, List.getElem?_eq_getElem (by have := Hlen.out; omega)⟩
      have hxe : l.getD k 0 = x := by rw [List.getD_eq_getElem?_getD, hx]; rfl
      have hxb := Hin.out x (List.mem_of_getElem? hx)
      obtain ⟨b1, o1, hAA, hb1, e1⟩ := (HO.out.gr hgr).sl.int hx
      subst hAA
      have hst : bsTo l (k + 1) = if bsTo l k < 0 ∨ bitsOf x < bitsOf (bsTo l k) then x else bsTo l k := by rw [bsTo, hxe]
      have t1 : (k : Int) < (q : Int) := by omega
      have t0 : (0 : Int) ≤ (k : Int) := by omega
      rename World => wr
      cases k with
      | zero =>
        have Hst : Hid (bsTo l (0 + 1) = x) := Lib.hid (by rw [hst, if_pos (Or.inl (by show (-1 : Int) < 0; decide))])
        have hneg : bsTo l 0 = -1 := rfl
        rw [hneg]
        rw [Nat.add_zero] at e1
        have tq0 : 0 < q := by omega
        clear hx hxe hst hneg
        go_wp2_with fail
        go_roundw
        case rel => exact ⟨0 + 1, by omega, by go_num, by rw [Hst.out], hgr⟩
        case measure => simp [intOf]; omega
      | succ j =>
        have hbb := (bs_ok Hin.out j (by have := Hlen.out; omega)).1
        obtain ⟨y, hy⟩ : ∃ y, y = bsTo l (j + 1) := ⟨_, rfl⟩
        rw [← hy] at hbb hst ⊢
        have tn : decide (y < 0) = false := by simp; omega
        have tn' : ¬ y < 0 := by omega
        have Hbx := Lib.hid (bits_nat hxb)
        have Hby := Lib.hid (bits_nat hbb)
        have hxn : x = (x.toNat : Int) := by omega
        have hyn : y = (y.toNat : Int) := by omega
        have Hst : Hid (bsTo l (j + 1 + 1) = if bitsOf x < bitsOf y then x else y) := Lib.hid (by
          rw [hst]
          by_cases cb : bitsOf x < bitsOf y
          · rw [if_pos (Or.inr cb), if_pos cb]
          · rw [if_neg (by omega), if_neg cb])
        have Hcx : Hid (∀ W, Calls Tryz.prog 61 #[.int .i64 x] W fun e w' => e = .returned (.int .i64 (bitsOf x)) ∧ W = w') := Lib.hid (fun W => by rw [Hbx.out]; have h := bits_any x.toNat (by omega) W; rw [← hxn] at h; exact h)
        have Hcy : Hid (∀ W, Calls Tryz.prog 61 #[.int .i64 y] W fun e w' => e = .returned (.int .i64 (bitsOf y)) ∧ W = w') := Lib.hid (fun W => by rw [Hby.out]; have h := bits_any y.toNat (by omega) W; rw [← hyn] at h; exact h)
        clear hx hxe hst hy hxn hyn
        go_wp2_with fail
        refine (Hcx.out _).mono ?_
        rintro e w3 ⟨rfl, h3⟩
        rw [← h3]
        clear h3
        go_wp2_with fail
        refine (Hcy.out _).mono ?_
        rintro e w4 ⟨rfl, h4⟩
        rw [← h4]
        clear h4
        by_cases hbit : bitsOf x < bitsOf y
        · have tb : decide (bitsOf x < bitsOf y) = true := by simp [hbit]
          rw [if_pos hbit] at Hst
          go_wp2_with fail
          go_roundw
          case rel => exact ⟨j + 1 + 1, by omega, by go_num, by rw [Hst.out], hgr⟩
          case measure => simp [intOf]; omega
        · have tb : decide (bitsOf x < bitsOf y) = false := by simp; omega
          rw [if_neg hbit] at Hst
          clear e1
          go_wp2_with fail
          go_roundw
          case rel => exact ⟨j + 1 + 1, by omega, by go_num, by rw [Hst.out], hgr⟩
          case measure => simp [intOf]; omega
    · obtain rfl : k = q := by omega
      cases k with
      | zero =>
        have Hn := Lib.hid (fs_none Hc.out (by rw [← Hl.out]; exact Hlen.out))
        have hneg : bsTo l 0 = -1 := rfl
        rw [hneg]
        go_wp2_with fail
        go_ret2
        exact ⟨by rw [Hn.out.1, Hn.out.2] <;> rfl, hgw.trans hgr⟩
      | succ j =>
        have hbb := (bs_ok Hin.out j (by have := Hlen.out; omega)).1
        have Hfs := Lib.hid (fs_yes Hc.out (by rw [← Hl.out, Hlen.out]; omega))
        have He : Hid (bsTo l (j + 1) = fsRes n zs ss sup) := Lib.hid (by rw [Hfs.out.2, ← Hl.out, Hlen.out])
        have tn : decide (bsTo l (j + 1) < 0) = false := by simp; omega
        have tn' : ¬ bsTo l (j + 1) < 0 := by omega
        go_wp2_with fail
        go_ret2
        exact ⟨by rw [Hfs.out.1, ← He.out] <;> rfl, hgw.trans hgr⟩
end Go.Proofs.YthhmhigddmimjaaGreat
/-
  OpenNetwork, SpreadFlows, IsAllowed at good settings (the program). Printed by gen_pt26.py.
-/
set_option linter.unusedSimpArgs false
set_option linter.unusedVariables false
namespace Go.Proofs.YthhmhigddmimjaaGreat
open Go.ChangeShapes Go.WideShapes Go.ChangeAt Go.RowKit

theorem cell_not {W : World} {R j : Nat} {X1 X2 : Option Addr} {x1 y1 x2 y2 : Nat} {t : TypeId} {v : Value} (h : W.heap[R]? = some (.cells #[.slice X1 x1 y1, .slice X2 x2 y2] t (0, 0))) (hv : ∀ A n c, v ≠ .slice A n c) : W.cell? ⟨R, j, none⟩ ≠ some v := by
  rw [cell_of_row W R j _ t _ h]
  intro e
  match j with
  | 0 => simp at e; exact hv _ _ _ e.symm
  | 1 => simp at e; exact hv _ _ _ e.symm
  | j + 2 => simp at e
theorem sl_keep {W W' : World} {R size n : Nat} {A : Option Addr} {xs : List Value} (h : Sl W size A n xs) (hc : Chg (fun j => j = R) W W') (hne : 0 < n → ∃ v, xs[0]? = some v ∧ ∀ j, W.cell? ⟨R, j, none⟩ ≠ some v) : Sl W' size A n xs := by
  refine ⟨h.1, fun hn => ?_⟩
  obtain ⟨b, o, e, hb, hrow⟩ := h.2 hn
  obtain ⟨v, hv, hnv⟩ := hne hn
  have hbR : ¬ b = R := by
    intro e'
    subst e'
    exact hnv _ (hrow 0 v hv)
  exact ⟨b, o, e, by have := hc.size; omega, fun j u hj => chg_cell' hc (hrow j u hj) hbR⟩
/-- A network stays where a block that holds two slices changes. -/
theorem NetAt.keep {W W' : World} {R : Nat} {A1 A2 X1 X2 : Option Addr} {n1 c1 n2 c2 x1 y1 x2 y2 : Nat} {t : TypeId} {n : GNet} (h : NetAt W A1 n1 c1 A2 n2 c2 n) (hc : Chg (fun j => j = R) W W') (hR : W.heap[R]? = some (.cells #[.slice X1 x1 y1, .slice X2 x2 y2] t (0, 0))) : NetAt W' A1 n1 c1 A2 n2 c2 n := by
  refine ⟨⟨sl_keep h.nodes hc fun hn => ?_, sl_keep h.pipes hc fun hn => ?_, h.names⟩, h.c1, h.c2, h.m1, h.m2⟩
  · have hl := h.l1
    cases hx : n.nodes with
    | nil => rw [hx] at hl; simp at hl; omega
    | cons x xs => exact ⟨.string x.name, rfl, fun j => cell_not hR (fun _ _ _ e => by cases e)⟩
  · have hl := h.l2
    cases hx : n.pipes with
    | nil => rw [hx] at hl; simp at hl; omega
    | cons x xs => exact ⟨.int .i64 x.src, rfl, fun j => cell_not hR (fun _ _ _ e => by cases e)⟩
set_option maxHeartbeats 6400000 in
set_option maxRecDepth 100000 in
theorem OpenNetwork_ok {A1 A2 A3 : Option Addr} {n1 c1 n2 c2 n3 c3 : Nat} (n : GNet) (ss : List Int) (w : World) (hA : NetAt w A1 n1 c1 A2 n2 c2 n) (hS : SlAt w 1 A3 n3 c3 (ints ss)) (hst : stCode n ss = 0) :
    Calls Tryz.prog 44 #[.agg #[.slice A1 n1 c1, .slice A2 n2 c2], .slice A3 n3 c3] w fun e w' => ∃ B1 d1 B2 m d2 A c, e = .returned (.tuple #[.agg #[.slice B1 n1 d1, .slice B2 m d2], .slice A m c, .int .i64 0]) ∧ NetAt w' B1 n1 d1 B2 m d2 (opNet n ss) ∧ Gr w w' := by
  obtain ⟨hn, hs⟩ := st_zero hst
  have hl2 := hA.l2
  have hm2 := hA.m2
  obtain rfl : n3 = n2 := by rw [← st_len hl2 hs]; exact hS.sl.ilen.symm
  have HA := Lib.hid hA
  have HS := Lib.hid hS
  have Hn := Lib.hid hn
  have Hs := Lib.hid hs
  have Hst := Lib.hid hst
  have Hl2 := Lib.hid hl2
  clear hA hS hn hs hst hl2
  go_enter Tryz.func44, Tryz.ntmps44
  go_upto_region 1 with fail
  obtain ⟨w1, hw1⟩ : ∃ W, W = (w.alloc (.cells #[.slice A1 n1 c1, .slice A2 n3 c2] 32)).alloc (.cells #[.slice none 0 0, .slice none 0 0] 32) := ⟨_, rfl⟩
  have hg1 : Gr w w1 := by rw [hw1]; exact ((Gr.refl _).alloc _).alloc _
  have y0 : w1.cell? ⟨w.heap.size, 0, none⟩ = some (.slice A1 n1 c1) := by rw [hw1]; simp [go_sem]
  have y1 : w1.cell? ⟨w.heap.size, 1, none⟩ = some (.slice A2 n3 c2) := by rw [hw1]; simp [go_sem]
  obtain ⟨R, hRe⟩ : ∃ R, R = w.heap.size + 1 := ⟨_, rfl⟩
  have hR : w1.heap[R]? = some (.cells #[.slice none 0 0, .slice none 0 0] 32 (0, 0)) := by
    have e : R = (w.alloc (.cells #[.slice A1 n1 c1, .slice A2 n3 c2] 32)).heap.size := by simp [hRe]
    rw [hw1, e]; exact heap_alloc_new _ _
  have hRb : w.heap.size ≤ R := by omega
  have HRs := rb_lt hR
  rw [← hw1, ← hRe]
  have HR := Lib.hid hR
  clear hw1 hR hRe
  go_wp2_with fail
  refine (checkSettings_any n ss _ (HA.out.gr hg1) (HS.out.gr hg1)).mono ?_
  rintro e w2 ⟨rfl, h2⟩
  rw [Hst.out]
  have hgw := hg1.trans h2
  have hgr := h2
  replace y0 := h2.has y0
  replace y1 := h2.has y1
  go_wp2_with fail
  refine (openNetwork_any n ss _ (HA.out.gr hgw) (HS.out.gr hgw) Hn.out).mono ?_
  rintro e w3 ⟨B1, d1, B2, m, d2, X, c, rfl, hN, hX, h3⟩
  go_upto_region 5 with fail
  obtain ⟨w4, hw4⟩ : ∃ W, W = w3.alloc (.cells #[.slice B1 n1 d1, .slice B2 m d2] 32) := ⟨_, rfl⟩
  have h34 : Gr w3 w4 := by rw [hw4]; exact (Gr.refl _).alloc _
  have o0 : w4.cell? ⟨w3.heap.size, 0, none⟩ = some (.slice B1 n1 d1) := by rw [hw4]; simp [go_sem]
  have o1 : w4.cell? ⟨w3.heap.size, 1, none⟩ = some (.slice B2 m d2) := by rw [hw4]; simp [go_sem]
  have HN := Lib.hid (hN.gr h34)
  have hgr4 := (hgr.trans h3).trans h34
  have hgw4 := (hgw.trans h3).trans h34
  have hRq : R < w3.heap.size := by have := (hgr.trans h3).size; omega
  rw [← hw4]
  clear hw4 hN hX
  have hRw := (hgr4.below.block _ HRs).trans HR.out
  have r0 := rb_cell (j := 0) hRw rfl
  have r1 := rb_cell (j := 1) hRw rfl
  have f0 := rb_frozen hRw 0
  have f1 := rb_frozen hRw 1
  obtain ⟨W9, hW9⟩ : ∃ W, W = (w4.setCell ⟨R, 0, none⟩ (.slice B1 n1 d1)).setCell ⟨R, 1, none⟩ (.slice B2 m d2) := ⟨_, rfl⟩
  have hP : W9.heap[R]? = some (.cells #[.slice B1 n1 d1, .slice B2 m d2] 32 (0, 0)) := by rw [hW9]; exact put_two hRw
  have hcc : Chg (fun j => j = R) w4 W9 := by rw [hW9]; exact (chg_put _ _).trans (chg_put _ _)
  have hgx : Gr w W9 := by rw [hW9]; exact (hgw4.setCell (p := ⟨R, 0, none⟩) hRb _).setCell (p := ⟨R, 1, none⟩) hRb _
  have HP := Lib.hid hP
  have HW9 := Lib.hid hW9
  have HRw := Lib.hid hRw
  clear hW9 hP hRw
  go_wp2_with fail
  rw [← HW9.out]
  (try simp only [Exit.inBlock, Exit.then])
  refine bodyPost_ret (results_row_tmp2 Tryz.results44 _ _ R 32 #[.slice B1 n1 d1, .slice B2 m d2] (0, 0) _ ?_ HP.out Tryz.underlying32 rfl (by kernel_rfl)) ?_ ?_
  · rfl
  · rfl
  exact ⟨B1, d1, B2, m, d2, X, c, rfl, NetAt.keep HN.out hcc HRw.out, hgx⟩
set_option maxHeartbeats 6400000 in
set_option maxRecDepth 100000 in
theorem SpreadFlows_ok {A1 A2 A3 A4 : Option Addr} {n1 c1 n2 c2 n3 c3 n4 c4 : Nat} (n : GNet) (ss fl : List Int) (w : World) (hA : NetAt w A1 n1 c1 A2 n2 c2 n) (hS : SlAt w 1 A3 n3 c3 (ints ss)) (hF : SlAt w 1 A4 n4 c4 (ints fl)) (hst : stCode n ss = 0) (hfl : flOk (opNet n ss) fl = true) :
    Calls Tryz.prog 45 #[.agg #[.slice A1 n1 c1, .slice A2 n2 c2], .slice A3 n3 c3, .slice A4 n4 c4] w fun e w' => ∃ A m c, e = .returned (.tuple #[.slice A m c, .int .i64 0]) ∧ SlAt w' 1 A m c (ints (spL n ss fl)) ∧ Gr w w' := by
  obtain ⟨hn, hs⟩ := st_zero hst
  have hl2 := hA.l2
  have hm2 := hA.m2
  obtain rfl : n3 = n2 := by rw [← st_len hl2 hs]; exact hS.sl.ilen.symm
  have HA := Lib.hid hA
  have HS := Lib.hid hS
  have Hn := Lib.hid hn
  have Hs := Lib.hid hs
  have Hst := Lib.hid hst
  have Hl2 := Lib.hid hl2
  clear hA hS hn hs hst hl2
  have HF := Lib.hid hF
  have Hfl := Lib.hid hfl
  clear hF hfl
  go_enter Tryz.func45, Tryz.ntmps45
  go_wp2_with fail
  obtain ⟨w1, hw1⟩ : ∃ W, W = w.alloc (.cells #[.slice A1 n1 c1, .slice A2 n3 c2] 32) := ⟨_, rfl⟩
  have hg1 : Gr w w1 := by rw [hw1]; exact (Gr.refl _).alloc _
  have y0 : w1.cell? ⟨w.heap.size, 0, none⟩ = some (.slice A1 n1 c1) := by rw [hw1]; simp [go_sem]
  have y1 : w1.cell? ⟨w.heap.size, 1, none⟩ = some (.slice A2 n3 c2) := by rw [hw1]; simp [go_sem]
  rw [← hw1]
  clear hw1
  have hgw := hg1
  refine (checkSettings_any n ss _ (HA.out.gr hgw) (HS.out.gr hgw)).mono ?_
  rintro e w2 ⟨rfl, h2⟩
  rw [Hst.out]
  replace hgw := hgw.trans h2
  replace y0 := h2.has y0
  replace y1 := h2.has y1
  go_wp2_with fail
  refine (openNetwork_any n ss _ (HA.out.gr hgw) (HS.out.gr hgw) Hn.out).mono ?_
  rintro e w3 ⟨B1, d1, B2, m, d2, X, c, rfl, hN, hX, h3⟩
  replace hgw := hgw.trans h3
  replace y0 := h3.has y0
  replace y1 := h3.has y1
  have hm : m = n4 := by
    have h1 := (flOk_all Hfl.out).1
    have h2 := hN.l2
    have h3 := HF.out.sl.ilen
    omega
  subst hm
  have hmm := hN.m2
  go_upto_region 5 with fail
  obtain ⟨w4, hw4⟩ : ∃ W, W = w3.alloc (.cells #[.slice B1 n1 d1, .slice B2 m d2] 32) := ⟨_, rfl⟩
  have h34 : Gr w3 w4 := by rw [hw4]; exact (Gr.refl _).alloc _
  have o0 : w4.cell? ⟨w3.heap.size, 0, none⟩ = some (.slice B1 n1 d1) := by rw [hw4]; simp [go_sem]
  have o1 : w4.cell? ⟨w3.heap.size, 1, none⟩ = some (.slice B2 m d2) := by rw [hw4]; simp [go_sem]
  have HX := Lib.hid (hX.gr h34)
  have Hlm := Lib.hid hN.l2
  replace hgw := hgw.trans h34
  replace y0 := h34.has y0
  replace y1 := h34.has y1
  rw [← hw4]
  clear hw4 hN hX
  go_wp2_with fail
  refine (isFlowList_any (A1 := B1) (n1 := n1) (c1 := d1) (A2 := B2) (n2 := m) (c2 := d2) fl _ (HF.out.gr hgw) hmm).mono ?_
  rintro e w5 ⟨rfl, h5⟩
  have hso : supOk m fl = true := by have := Hfl.out; rw [flOk, Hlm.out] at this; exact this
  rw [hso]
  clear hso o0 o1
  replace hgw := hgw.trans h5
  replace y0 := h5.has y0
  replace y1 := h5.has y1
  go_wp2_with fail
  refine (spreadFlows_any n ss fl _ (HA.out.gr hgw) (HX.out.gr h5) (HF.out.gr hgw)).mono ?_
  rintro e w6 ⟨F, rfl, hO, h6⟩
  have HO := Lib.hid (SlAt.of_own hO hm2)
  have hgx := hgw.trans h6
  clear hO
  go_wp2_with fail
  go_ret2
  exact ⟨_, _, _, rfl, HO.out, hgx⟩
set_option maxHeartbeats 6400000 in
set_option maxRecDepth 100000 in
theorem IsAllowed_ok {A1 A2 A3 A4 : Option Addr} {n1 c1 n2 c2 n3 c3 n4 c4 : Nat} (n : GNet) (ss fl : List Int) (w : World) (hA : NetAt w A1 n1 c1 A2 n2 c2 n) (hS : SlAt w 1 A3 n3 c3 (ints ss)) (hF : SlAt w 1 A4 n4 c4 (ints fl)) (hst : stCode n ss = 0) (hfl : flOk n fl = true) (hal : alB ss fl = true) :
    Calls Tryz.prog 46 #[.agg #[.slice A1 n1 c1, .slice A2 n2 c2], .slice A3 n3 c3, .slice A4 n4 c4] w fun e w' => e = .returned (.bool true) ∧ Gr w w' := by
  obtain ⟨hn, hs⟩ := st_zero hst
  have hl2 := hA.l2
  have hm2 := hA.m2
  obtain rfl : n3 = n2 := by rw [← st_len hl2 hs]; exact hS.sl.ilen.symm
  have HA := Lib.hid hA
  have HS := Lib.hid hS
  have Hn := Lib.hid hn
  have Hs := Lib.hid hs
  have Hst := Lib.hid hst
  have Hl2 := Lib.hid hl2
  clear hA hS hn hs hst hl2
  obtain rfl : n4 = n3 := by rw [← hF.sl.ilen, (flOk_all hfl).1]; exact Hl2.out
  have HF := Lib.hid hF
  have Hfl := Lib.hid hfl
  have Hal := Lib.hid hal
  clear hF hfl hal
  go_enter Tryz.func46, Tryz.ntmps46
  go_wp2_with fail
  obtain ⟨w1, hw1⟩ : ∃ W, W = w.alloc (.cells #[.slice A1 n1 c1, .slice A2 n4 c2] 32) := ⟨_, rfl⟩
  have hg1 : Gr w w1 := by rw [hw1]; exact (Gr.refl _).alloc _
  have y0 : w1.cell? ⟨w.heap.size, 0, none⟩ = some (.slice A1 n1 c1) := by rw [hw1]; simp [go_sem]
  have y1 : w1.cell? ⟨w.heap.size, 1, none⟩ = some (.slice A2 n4 c2) := by rw [hw1]; simp [go_sem]
  rw [← hw1]
  clear hw1
  have hgw := hg1
  refine (IsNetwork_any _ _ _ _ _ _ n _ (HA.out.gr hgw)).mono ?_
  rintro e w2 ⟨rfl, h2⟩
  rw [Hn.out]
  replace hgw := hgw.trans h2
  replace y0 := h2.has y0
  replace y1 := h2.has y1
  go_wp2_with fail
  refine (areSettings_any (A1 := A1) (n1 := n1) (c1 := c1) (A2 := A2) (c2 := c2) (n2 := n4) ss _ (HS.out.gr hgw) hm2).mono ?_
  rintro e w3 ⟨rfl, h3⟩
  have hs4 : stOk n4 ss = true := by rw [← Hl2.out]; exact Hs.out
  rw [hs4]
  clear hs4
  replace hgw := hgw.trans h3
  replace y0 := h3.has y0
  replace y1 := h3.has y1
  go_wp2_with fail
  refine (isFlowList_any (A1 := A1) (n1 := n1) (c1 := c1) (A2 := A2) (n2 := n4) (c2 := c2) fl _ (HF.out.gr hgw) hm2).mono ?_
  rintro e w5 ⟨rfl, h5⟩
  have hso : supOk n4 fl = true := by have := Hfl.out; rw [flOk, Hl2.out] at this; exact this
  rw [hso]
  clear hso
  replace hgw := hgw.trans h5
  replace y0 := h5.has y0
  replace y1 := h5.has y1
  go_wp2_with fail
  refine (isAllowed_any ss fl _ (HS.out.gr hgw) (HF.out.gr hgw)).mono ?_
  rintro e w6 ⟨rfl, h6⟩
  rw [Hal.out]
  have hgx := hgw.trans h6
  go_wp2_with fail
  go_ret
  exact ⟨rfl, hgx⟩
end Go.Proofs.YthhmhigddmimjaaGreat
