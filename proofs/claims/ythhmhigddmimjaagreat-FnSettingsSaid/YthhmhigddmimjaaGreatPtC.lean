import Derived.Test.YthhmhigddmimjaaGreatPtA
import Derived.Test.YthhmhigddmimjaaGreatHrA
import Derived.Deep.RegionHeld3
/-
  Sums of flow lists and energies of both sides. Printed by gen_pt8.py.
-/
set_option linter.unusedSimpArgs false
set_option linter.unusedVariables false
namespace Go.Proofs.YthhmhigddmimjaaGreat
open Go.ChangeShapes Go.WideShapes Go.ChangeAt Go.RowKit

def chV (n : GNet) (f c : List Int) (a : Int) (m : Nat) : Int := if chOk f c a m = true then chTo n f c a m else 0
theorem addV_addL {f c : List Int} {a : Int} (h : c.length = f.length) : addV f c a = addL f c a := by
  apply List.ext_getElem?
  intro i
  by_cases hi : i < f.length
  · rw [get_of_lt (by rw [addV_len h]; exact hi), get_of_lt (by rw [addL_len]; exact hi), addV_getD a h, addL_get hi]
  · rw [List.getElem?_eq_none (by rw [addV_len h]; omega), List.getElem?_eq_none (by rw [addL_len]; omega)]
theorem l05AddL_any {A1 A2 : Option Addr} {m c1 c2 : Nat} (f c : List Int) (a : Int) (w : World) (hA : SlAt w 1 A1 m c1 (ints f)) (hB : SlAt w 1 A2 m c2 (ints c)) (hf : ∀ i, -30000 ≤ f.getD i 0 ∧ f.getD i 0 ≤ 30000) (hc : ∀ i, -1 ≤ c.getD i 0 ∧ c.getD i 0 ≤ 1) (ha : -32768 ≤ a ∧ a ≤ 32768) :
    Calls Tryz.prog 166 #[.slice A1 m c1, .slice A2 m c2, .int .i64 a] w fun e w' => ∃ g d, e = .returned (.slice (some ⟨g, 0, none⟩) m d) ∧ w'.ownsRow w.heap.size 2 1 (.slice (some ⟨g, 0, none⟩) m d) m (ints (addL f c a)) ∧ Gr w w' := by
  have h1 := hA.sl.ilen
  have h2 := hB.sl.ilen
  rw [← addV_addL (by omega)]
  exact l05AddV_any f c a w hA hB (fun i => by have := hf i; omega) (fun i => by have := mul_small ha (hc i); omega)
set_option maxHeartbeats 6400000 in
set_option maxRecDepth 100000 in
theorem l10Energy_any {A1 A2 A3 : Option Addr} {n1 c1 n2 c2 c3 : Nat} (n : GNet) (f : List Int) (w : World) (hA : NetAt w A1 n1 c1 A2 n2 c2 n) (hF : SlAt w 1 A3 n2 c3 (ints f)) (hok : netOk n = true) (hf : flOk n f = true) :
    Calls Tryz.prog 174 #[.agg #[.slice A1 n1 c1, .slice A2 n2 c2], .slice A3 n2 c3] w fun e w' => e = .returned (.int .i64 (eng n f)) ∧ Gr w w' := by
  have hm2 := hA.m2
  have hl2 := hA.l2
  have hlf := hF.sl.ilen
  have h60 : n2 ≤ 60 := by have := (netOk_all hok).1.2.2; omega
  have HA := Lib.hid hA
  have HF := Lib.hid hF
  have Hok := Lib.hid hok
  have Hf := Lib.hid hf
  have Hl2 := Lib.hid hl2
  have Hlf := Lib.hid hlf
  clear hA hF hok hf hl2 hlf
  go_enter Tryz.func174, Tryz.ntmps174
  go_wp2_with fail
  obtain ⟨w1, hw1⟩ : ∃ W, W = w.alloc (.cells #[.slice A1 n1 c1, .slice A2 n2 c2] 32) := ⟨_, rfl⟩
  have hg1 : Gr w w1 := by rw [hw1]; exact (Gr.refl _).alloc _
  have y0 : w1.cell? ⟨w.heap.size, 0, none⟩ = some (.slice A1 n1 c1) := by rw [hw1]; simp [go_sem]
  have y1 : w1.cell? ⟨w.heap.size, 1, none⟩ = some (.slice A2 n2 c2) := by rw [hw1]; simp [go_sem]
  rw [← hw1]
  clear hw1
  go_loopw [5, 6] (fun o i wr => ∃ k : Nat, k ≤ n2 ∧ i = .int .i64 k ∧ o = .int .i64 (engTo n f k) ∧ Gr w1 wr) (fun _ i _ => n2 - (intOf i).toNat)
  case atStart => exact ⟨0, Nat.zero_le _, rfl, rfl, Gr.refl _⟩
  case round =>
    obtain ⟨k, hk, rfl, rfl, hgr⟩ := hrel
    by_cases hlt : k < n2
    · obtain ⟨p, hp⟩ : ∃ p, n.pipes[k]? = some p := ⟨_, List.getElem?_eq_getElem (by have := Hl2.out; omega)⟩
      obtain ⟨x, hx⟩ : ∃ x, f[k]? = some x := ⟨_, List.getElem?_eq_getElem (by have := Hlf.out; omega)⟩
      have hpe : n.pipes.getD k dP = p := by rw [List.getD_eq_getElem?_getD, hp]; rfl
      have hxe : f.getD k 0 = x := by rw [List.getD_eq_getElem?_getD, hx]; rfl
      have hpk := pipe_k Hok.out (show k < n.pipes.length by have := Hl2.out; omega)
      have hxb := flOk_get Hf.out k
      have hbd := engTo_bnd Hok.out Hf.out k (by have := Hl2.out; omega)
      have hst : engTo n f (k + 1) = engTo n f k + p.k * ab x * ab x * ab x := by rw [engTo_succ, hpe, hxe]; rfl
      rw [hpe] at hpk
      rw [hxe] at hxb
      have heb := et_bnd hpk hxb
      have hb1 := heb.a1
      have hb2 := heb.a2
      have hb3 := heb.a3
      obtain ⟨b, o, hAA, hb, e0, e1, e2, e3, e4⟩ := ((HA.out.gr hg1).gr hgr).pipes.pp hp
      subst hAA
      obtain ⟨b', o', hAA, hb', x0⟩ := ((HF.out.gr hg1).gr hgr).sl.int hx
      subst hAA
      have u1 := hgr.has y1
      obtain ⟨S, hS⟩ : ∃ S, S = engTo n f k := ⟨_, rfl⟩
      rw [← hS] at hst hbd ⊢
      have Hst := Lib.hid hst
      have hw1 : IntKind.i64.wrap (p.k * ab x) = p.k * ab x := IntWalk.i64_in _ (by omega)
      have hw2 : IntKind.i64.wrap (p.k * ab x * ab x) = p.k * ab x * ab x := IntWalk.i64_in _ (by omega)
      have hw3 : IntKind.i64.wrap (p.k * ab x * ab x * ab x) = p.k * ab x * ab x * ab x := IntWalk.i64_in _ (by omega)
      have hw4 : IntKind.i64.wrap (S + p.k * ab x * ab x * ab x) = S + p.k * ab x * ab x * ab x := IntWalk.i64_in _ (by omega)
      have t1 : (k : Int) < (n2 : Int) := by omega
      have t0 : (0 : Int) ≤ (k : Int) := by omega
      clear hp hx hpe hxe hpk hst hS heb hb1 hb2 hb3 hbd e0 e1 e3 e4
      go_wp2_with fail
      refine (l01Abs_any x _ (by omega)).mono ?_
      rintro e w' ⟨rfl, hw'⟩
      rw [← hw']
      clear hw'
      go_wp2_with fail
      go_roundw
      case rel => exact ⟨k + 1, by omega, by go_num, by rw [Hst.out], hgr⟩
      case measure => simp [intOf]; omega
    · obtain rfl : k = n2 := by omega
      go_wp2_with fail
      go_ret
      exact ⟨ret_int (by rw [eng, Hl2.out]), hg1.trans hgr⟩
set_option maxHeartbeats 6400000 in
set_option maxRecDepth 100000 in
theorem l10Lower_any {A1 A2 A3 A4 : Option Addr} {n1 c1 n2 c2 c3 c4 : Nat} (n : GNet) (f c : List Int) (a : Int) (w : World) (hA : NetAt w A1 n1 c1 A2 n2 c2 n) (hF : SlAt w 1 A3 n2 c3 (ints f)) (hC : SlAt w 1 A4 n2 c4 (ints c)) (hok : netOk n = true) (hf : flOk n f = true) (hc : ∀ i, -1 ≤ c.getD i 0 ∧ c.getD i 0 ≤ 1) (ha : -32768 ≤ a ∧ a ≤ 32768) :
    Calls Tryz.prog 165 #[.agg #[.slice A1 n1 c1, .slice A2 n2 c2], .slice A3 n2 c3, .slice A4 n2 c4, .int .i64 a] w fun e w' => e = .returned (.bool (lowB n f c a)) ∧ Gr w w' := by
  have hm2 := hA.m2
  have hl2 := hA.l2
  have HA := Lib.hid hA
  have HF := Lib.hid hF
  have HC := Lib.hid hC
  have Hok := Lib.hid hok
  have Hf := Lib.hid hf
  have Hl2 := Lib.hid hl2
  have Hcb := Lib.hid hc
  clear hA hF hC hok hf hl2 hc
  go_enter Tryz.func165, Tryz.ntmps165
  go_wp2_with fail
  obtain ⟨w1, hw1⟩ : ∃ W, W = w.alloc (.cells #[.slice A1 n1 c1, .slice A2 n2 c2] 32) := ⟨_, rfl⟩
  have hg1 : Gr w w1 := by rw [hw1]; exact (Gr.refl _).alloc _
  have y0 : w1.cell? ⟨w.heap.size, 0, none⟩ = some (.slice A1 n1 c1) := by rw [hw1]; simp [go_sem]
  have y1 : w1.cell? ⟨w.heap.size, 1, none⟩ = some (.slice A2 n2 c2) := by rw [hw1]; simp [go_sem]
  rw [← hw1]
  clear hw1
  refine (l05AddL_any f c a _ (HF.out.gr hg1) (HC.out.gr hg1) (flOk_get Hf.out) Hcb.out ha).mono ?_
  rintro e w2 ⟨g, d, rfl, ho, hg2⟩
  have Ho := Lib.hid ho
  have hgw2 := hg1.trans hg2
  replace y0 := hg2.has y0
  replace y1 := hg2.has y1
  clear ho
  by_cases hfl : flOk n (addL f c a) = true
  · have Hs : Hid (supOk n2 (addL f c a) = true) := Lib.hid (by rw [← Hl2.out]; exact hfl)
    have Hfl := Lib.hid hfl
    clear hfl
    go_upto_region 2 with fail
    refine wp_region_text (fun w' => Gr w2 w') (by kernel_rfl) (by kernel_rfl) (by decide) (Gr.refl _).drew ?_
    repeat (first
      | ((with_reducible refine wpText_skip ?_ ?_)
         · rfl
         simp only [Act.put, List.setIfInBounds_toArray, List.set_cons_zero, List.set_cons_succ])
      | ((with_reducible refine wpText_yield (v := ?_) ?_ ?_ ?_)
         rotate_left
         · rfl
         · (intro W hW; have ky0 := hW.has y0; have ky1 := hW.has y1; first | (go_simp; done) | (go_simp; with_reducible rfl))
         simp only [Act.put, List.setIfInBounds_toArray, List.set_cons_zero, List.set_cons_succ])
      | ((with_reducible refine wpText_yield1 (v := ?_) ?_ ?_ ?_)
         rotate_left
         · rfl
         · (intro W hW; have ky0 := hW.has y0; have ky1 := hW.has y1; first | (go_simp; done) | (go_simp; with_reducible rfl))
         simp only [Act.put, List.setIfInBounds_toArray, List.set_cons_zero, List.set_cons_succ]))
    refine wpText_do (.bool true) (by rfl) (fun W hW K hK => ?_) ?_
    ·
      have ky0 := hW.has y0
      have ky1 := hW.has y1
      go_simp
      refine (l05List_any (addL f c a) _ ((SlAt.of_own Ho.out hm2).gr hW) hm2).mono ?_
      rintro e w' ⟨rfl, hg⟩
      rw [Hs.out]
      exact hK _ (hW.trans hg)
    simp only [Act.put, List.setIfInBounds_toArray, List.set_cons_zero, List.set_cons_succ]
    repeat (first
      | ((with_reducible refine wpText_skip ?_ ?_)
         · rfl
         simp only [Act.put, List.setIfInBounds_toArray, List.set_cons_zero, List.set_cons_succ])
      | ((with_reducible refine wpText_yield (v := ?_) ?_ ?_ ?_)
         rotate_left
         · rfl
         · (intro W hW; have ky0 := hW.has y0; have ky1 := hW.has y1; first | (go_simp; done) | (go_simp; with_reducible rfl))
         simp only [Act.put, List.setIfInBounds_toArray, List.set_cons_zero, List.set_cons_succ])
      | ((with_reducible refine wpText_yield1 (v := ?_) ?_ ?_ ?_)
         rotate_left
         · rfl
         · (intro W hW; have ky0 := hW.has y0; have ky1 := hW.has y1; first | (go_simp; done) | (go_simp; with_reducible rfl))
         simp only [Act.put, List.setIfInBounds_toArray, List.set_cons_zero, List.set_cons_succ]))
    refine wpText_do (.int .i64 (eng n (addL f c a))) (by rfl) (fun W hW K hK => ?_) ?_
    ·
      have ky0 := hW.has y0
      have ky1 := hW.has y1
      go_simp
      refine (l10Energy_any n (addL f c a) _ (HA.out.gr (hgw2.trans hW)) ((SlAt.of_own Ho.out hm2).gr hW) Hok.out Hfl.out).mono ?_
      rintro e w' ⟨rfl, hg⟩
      exact hK _ (hW.trans hg)
    simp only [Act.put, List.setIfInBounds_toArray, List.set_cons_zero, List.set_cons_succ]
    repeat (first
      | ((with_reducible refine wpText_skip ?_ ?_)
         · rfl
         simp only [Act.put, List.setIfInBounds_toArray, List.set_cons_zero, List.set_cons_succ])
      | ((with_reducible refine wpText_yield (v := ?_) ?_ ?_ ?_)
         rotate_left
         · rfl
         · (intro W hW; have ky0 := hW.has y0; have ky1 := hW.has y1; first | (go_simp; done) | (go_simp; with_reducible rfl))
         simp only [Act.put, List.setIfInBounds_toArray, List.set_cons_zero, List.set_cons_succ])
      | ((with_reducible refine wpText_yield1 (v := ?_) ?_ ?_ ?_)
         rotate_left
         · rfl
         · (intro W hW; have ky0 := hW.has y0; have ky1 := hW.has y1; first | (go_simp; done) | (go_simp; with_reducible rfl))
         simp only [Act.put, List.setIfInBounds_toArray, List.set_cons_zero, List.set_cons_succ]))
    refine wpText_do (.int .i64 (eng n f)) (by rfl) (fun W hW K hK => ?_) ?_
    ·
      have ky0 := hW.has y0
      have ky1 := hW.has y1
      go_simp
      refine (l10Energy_any n f _ (HA.out.gr (hgw2.trans hW)) (HF.out.gr (hgw2.trans hW)) Hok.out Hf.out).mono ?_
      rintro e w' ⟨rfl, hg⟩
      exact hK _ (hW.trans hg)
    simp only [Act.put, List.setIfInBounds_toArray, List.set_cons_zero, List.set_cons_succ]
    repeat (first
      | ((with_reducible refine wpText_skip ?_ ?_)
         · rfl
         simp only [Act.put, List.setIfInBounds_toArray, List.set_cons_zero, List.set_cons_succ])
      | ((with_reducible refine wpText_yield (v := ?_) ?_ ?_ ?_)
         rotate_left
         · rfl
         · (intro W hW; have ky0 := hW.has y0; have ky1 := hW.has y1; first | (go_simp; done) | (go_simp; with_reducible rfl))
         simp only [Act.put, List.setIfInBounds_toArray, List.set_cons_zero, List.set_cons_succ])
      | ((with_reducible refine wpText_yield1 (v := ?_) ?_ ?_ ?_)
         rotate_left
         · rfl
         · (intro W hW; have ky0 := hW.has y0; have ky1 := hW.has y1; first | (go_simp; done) | (go_simp; with_reducible rfl))
         simp only [Act.put, List.setIfInBounds_toArray, List.set_cons_zero, List.set_cons_succ]))
    rintro w6 hS6
    go_wp2_with fail
    go_ret
    exact ⟨ret_bool (by rw [lowB, Hfl.out]; first | rfl | simp), hgw2.trans hS6⟩
  · have hfl : flOk n (addL f c a) = false := by simpa using hfl
    have Hs : Hid (supOk n2 (addL f c a) = false) := Lib.hid (by rw [← Hl2.out]; exact hfl)
    have Hfl := Lib.hid hfl
    clear hfl
    go_upto_region 2 with fail
    refine wp_region_text (fun w' => Gr w2 w') (by kernel_rfl) (by kernel_rfl) (by decide) (Gr.refl _).drew ?_
    repeat (first
      | ((with_reducible refine wpText_skip ?_ ?_)
         · rfl
         simp only [Act.put, List.setIfInBounds_toArray, List.set_cons_zero, List.set_cons_succ])
      | ((with_reducible refine wpText_yield (v := ?_) ?_ ?_ ?_)
         rotate_left
         · rfl
         · (intro W hW; have ky0 := hW.has y0; have ky1 := hW.has y1; first | (go_simp; done) | (go_simp; with_reducible rfl))
         simp only [Act.put, List.setIfInBounds_toArray, List.set_cons_zero, List.set_cons_succ])
      | ((with_reducible refine wpText_yield1 (v := ?_) ?_ ?_ ?_)
         rotate_left
         · rfl
         · (intro W hW; have ky0 := hW.has y0; have ky1 := hW.has y1; first | (go_simp; done) | (go_simp; with_reducible rfl))
         simp only [Act.put, List.setIfInBounds_toArray, List.set_cons_zero, List.set_cons_succ]))
    refine wpText_do (.bool false) (by rfl) (fun W hW K hK => ?_) ?_
    ·
      have ky0 := hW.has y0
      have ky1 := hW.has y1
      go_simp
      refine (l05List_any (addL f c a) _ ((SlAt.of_own Ho.out hm2).gr hW) hm2).mono ?_
      rintro e w' ⟨rfl, hg⟩
      rw [Hs.out]
      exact hK _ (hW.trans hg)
    simp only [Act.put, List.setIfInBounds_toArray, List.set_cons_zero, List.set_cons_succ]
    repeat (first
      | ((with_reducible refine wpText_skip ?_ ?_)
         · rfl
         simp only [Act.put, List.setIfInBounds_toArray, List.set_cons_zero, List.set_cons_succ])
      | ((with_reducible refine wpText_yield (v := ?_) ?_ ?_ ?_)
         rotate_left
         · rfl
         · (intro W hW; have ky0 := hW.has y0; have ky1 := hW.has y1; first | (go_simp; done) | (go_simp; with_reducible rfl))
         simp only [Act.put, List.setIfInBounds_toArray, List.set_cons_zero, List.set_cons_succ])
      | ((with_reducible refine wpText_yield1 (v := ?_) ?_ ?_ ?_)
         rotate_left
         · rfl
         · (intro W hW; have ky0 := hW.has y0; have ky1 := hW.has y1; first | (go_simp; done) | (go_simp; with_reducible rfl))
         simp only [Act.put, List.setIfInBounds_toArray, List.set_cons_zero, List.set_cons_succ]))
    rintro w6 hS6
    go_wp2_with fail
    go_ret
    exact ⟨ret_bool (by rw [lowB, Hfl.out]; first | rfl | simp), hgw2.trans hS6⟩
set_option maxHeartbeats 6400000 in
set_option maxRecDepth 100000 in
theorem energyChange_any {A1 A2 A3 A4 : Option Addr} {n1 c1 n2 c2 c3 c4 : Nat} (n : GNet) (f c : List Int) (a : Int) (w : World) (hA : NetAt w A1 n1 c1 A2 n2 c2 n) (hF : SlAt w 1 A3 n2 c3 (ints f)) (hC : SlAt w 1 A4 n2 c4 (ints c)) (hok : netOk n = true) (hf : flOk n f = true) (hc : ∀ i, -1 ≤ c.getD i 0 ∧ c.getD i 0 ≤ 1) (ha : -32768 ≤ a ∧ a ≤ 32768) :
    Calls Tryz.prog 144 #[.agg #[.slice A1 n1 c1, .slice A2 n2 c2], .slice A3 n2 c3, .slice A4 n2 c4, .int .i64 a] w fun e w' => e = .returned (.tuple #[.int .i64 (chV n f c a n2), .bool (chOk f c a n2)]) ∧ Gr w w' := by
  have hm2 := hA.m2
  have hl2 := hA.l2
  have hlf := hF.sl.ilen
  have hlc := hC.sl.ilen
  have h60 : n2 ≤ 60 := by have := (netOk_all hok).1.2.2; omega
  have HA := Lib.hid hA
  have HF := Lib.hid hF
  have HC := Lib.hid hC
  have Hok := Lib.hid hok
  have Hf := Lib.hid hf
  have Hl2 := Lib.hid hl2
  have Hlf := Lib.hid hlf
  have Hlc := Lib.hid hlc
  have Hcb := Lib.hid hc
  clear hA hF hC hok hf hl2 hlf hlc hc
  go_enter Tryz.func144, Tryz.ntmps144
  go_wp2_with fail
  obtain ⟨w1, hw1⟩ : ∃ W, W = w.alloc (.cells #[.slice A1 n1 c1, .slice A2 n2 c2] 32) := ⟨_, rfl⟩
  have hg1 : Gr w w1 := by rw [hw1]; exact (Gr.refl _).alloc _
  have y0 : w1.cell? ⟨w.heap.size, 0, none⟩ = some (.slice A1 n1 c1) := by rw [hw1]; simp [go_sem]
  have y1 : w1.cell? ⟨w.heap.size, 1, none⟩ = some (.slice A2 n2 c2) := by rw [hw1]; simp [go_sem]
  rw [← hw1]
  clear hw1
  go_loopw [10, 16] (fun o i wr => ∃ k : Nat, k ≤ n2 ∧ i = .int .i64 k ∧ o = .int .i64 (chTo n f c a k) ∧ chOk f c a k = true ∧ Gr w1 wr) (fun _ i _ => n2 - (intOf i).toNat)
  case atStart => exact ⟨0, Nat.zero_le _, rfl, rfl, rfl, Gr.refl _⟩
  case round =>
    obtain ⟨k, hk, rfl, rfl, hch, hgr⟩ := hrel
    have Hch := Lib.hid hch
    clear hch
    by_cases hlt : k < n2
    · obtain ⟨p, hp⟩ : ∃ p, n.pipes[k]? = some p := ⟨_, List.getElem?_eq_getElem (by have := Hl2.out; omega)⟩
      obtain ⟨y, hy⟩ : ∃ y, f[k]? = some y := ⟨_, List.getElem?_eq_getElem (by have := Hlf.out; omega)⟩
      obtain ⟨t, ht⟩ : ∃ t, c[k]? = some t := ⟨_, List.getElem?_eq_getElem (by have := Hlc.out; omega)⟩
      have hpe : n.pipes.getD k dP = p := by rw [List.getD_eq_getElem?_getD, hp]; rfl
      have hye : f.getD k 0 = y := by rw [List.getD_eq_getElem?_getD, hy]; rfl
      have hte : c.getD k 0 = t := by rw [List.getD_eq_getElem?_getD, ht]; rfl
      have hpk := pipe_k Hok.out (show k < n.pipes.length by have := Hl2.out; omega)
      have hyb := flOk_get Hf.out k
      have htb := Hcb.out k
      have hbd := chTo_bnd Hok.out Hf.out k (by have := Hl2.out; omega) Hch.out
      rw [hpe] at hpk
      rw [hye] at hyb
      rw [hte] at htb
      have hat := mul_small ha htb
      obtain ⟨b, o, hAA, hb, e0, e1, e2, e3, e4⟩ := ((HA.out.gr hg1).gr hgr).pipes.pp hp
      subst hAA
      obtain ⟨b', o', hAA, hb', x0⟩ := ((HF.out.gr hg1).gr hgr).sl.int hy
      subst hAA
      obtain ⟨b2, o2, hAA, hb2, x1⟩ := ((HC.out.gr hg1).gr hgr).sl.int ht
      subst hAA
      have u0 := hgr.has y0
      have u1 := hgr.has y1
      have t1 : (k : Int) < (n2 : Int) := by omega
      have t0 : (0 : Int) ≤ (k : Int) := by omega
      by_cases ht0 : t = 0
      · subst ht0
        have Hst : Hid (chTo n f c a (k + 1) = chTo n f c a k) := Lib.hid (by rw [chTo_succ, chTm, if_pos hte]; omega)
        have Hch1 : Hid (chOk f c a (k + 1) = true) := Lib.hid (by rw [chOk_succ, Hch.out, hte]; rfl)
        clear hp hy ht hpe hye hte hpk hyb htb hbd hat
        go_wp2_with fail
        go_roundw
        case rel => exact ⟨k + 1, by omega, by go_num, by rw [Hst.out], Hch1.out, hgr⟩
        case measure => simp [intOf]; omega
      · have htt : (t == 0) = false := by simp [ht0]
        have hwm : IntKind.i64.wrap (t * a) = a * t := by rw [Int.mul_comm]; exact IntWalk.i64_in _ (by omega)
        obtain ⟨q, hq⟩ : ∃ q, q = a * t := ⟨_, rfl⟩
        rw [← hq] at hwm hat
        obtain ⟨x, hx⟩ : ∃ x, x = y + q := ⟨_, rfl⟩
        have hws : IntKind.i64.wrap (y + q) = x := by rw [hx]; exact IntWalk.i64_in _ (by omega)
        have hxe : f.getD k 0 + a * c.getD k 0 = x := by rw [hye, hte, ← hq, hx]
        have hok2 : (decide (c.getD k 0 = 0) || inR (f.getD k 0 + a * c.getD k 0)) = inB (-30000) x 30000 := by rw [hxe, hte, decide_eq_false ht0, Bool.false_or]; rfl
        by_cases hin : inB (-30000) x 30000 = true
        · have hxb := inB_iff.1 hin
          have hst : chTo n f c a (k + 1) = chTo n f c a k + (eT p x - eT p y) := by rw [chTo_succ, chTm, if_neg (by rw [hte]; exact ht0), hxe, hye, hpe]
          have Hch1 : Hid (chOk f c a (k + 1) = true) := Lib.hid (by rw [chOk_succ, Hch.out, hok2, hin]; rfl)
          have h1 := (et_bnd hpk hxb).a3
          have h2 := (et_bnd hpk hyb).a3
          have g1 : 0 ≤ eT p x ∧ eT p x ≤ 27000000000000000 := h1
          have g2 : 0 ≤ eT p y ∧ eT p y ≤ 27000000000000000 := h2
          have Ex := Lib.hid (fun W => energyOf_any p x W hpk hxb)
          have Ey := Lib.hid (fun W => energyOf_any p y W hpk hyb)
          obtain ⟨S, hS⟩ : ∃ S, S = chTo n f c a k := ⟨_, rfl⟩
          rw [← hS] at hst hbd ⊢
          have hw1 : IntKind.i64.wrap (eT p x - eT p y) = eT p x - eT p y := IntWalk.i64_in _ (by omega)
          have hw2 : IntKind.i64.wrap (S + (eT p x - eT p y)) = S + (eT p x - eT p y) := IntWalk.i64_in _ (by omega)
          have Hst := Lib.hid hst
          have Hin := Lib.hid hin
          clear hp hy ht hpe hye hte hpk hyb htb hbd hat hq hx hxe hok2 hin hst h1 h2 g1 g2 hS ht0
          go_wp2_with fail
          refine (within_any x _ _ _).mono ?_
          rintro e w' ⟨rfl, hw'⟩
          rw [← hw', Hin.out]
          clear hw'
          go_upto_region 9 with fail
          refine wp_region_text (fun w' => Gr wr w') (by kernel_rfl) (by kernel_rfl) (by decide) (Gr.refl _).drew ?_
          repeat (first
            | ((with_reducible refine wpText_skip ?_ ?_)
               · rfl
               simp only [Act.put, List.setIfInBounds_toArray, List.set_cons_zero, List.set_cons_succ])
            | ((with_reducible refine wpText_yield (v := ?_) ?_ ?_ ?_)
               rotate_left
               · rfl
               · (intro W hW; have ku1 := hW.has u1; have ke0 := hW.has e0; have ke1 := hW.has e1; have ke2 := hW.has e2; have ke3 := hW.has e3; have ke4 := hW.has e4; have kx0 := hW.has x0; first | (go_simp; done) | (go_simp; with_reducible rfl))
               simp only [Act.put, List.setIfInBounds_toArray, List.set_cons_zero, List.set_cons_succ])
            | ((with_reducible refine wpText_yield1 (v := ?_) ?_ ?_ ?_)
               rotate_left
               · rfl
               · (intro W hW; have ku1 := hW.has u1; have ke0 := hW.has e0; have ke1 := hW.has e1; have ke2 := hW.has e2; have ke3 := hW.has e3; have ke4 := hW.has e4; have kx0 := hW.has x0; first | (go_simp; done) | (go_simp; with_reducible rfl))
               simp only [Act.put, List.setIfInBounds_toArray, List.set_cons_zero, List.set_cons_succ]))
          refine wpText_do (.int .i64 (eT p x)) (by rfl) (fun W hW K hK => ?_) ?_
          ·
            have ku1 := hW.has u1
            have ke0 := hW.has e0
            have ke1 := hW.has e1
            have ke2 := hW.has e2
            have ke3 := hW.has e3
            have ke4 := hW.has e4
            have kx0 := hW.has x0
            go_simp
            refine (Ex.out _).mono ?_
            rintro e w' ⟨rfl, hg⟩
            exact hK _ (hW.trans hg)
          simp only [Act.put, List.setIfInBounds_toArray, List.set_cons_zero, List.set_cons_succ]
          repeat (first
            | ((with_reducible refine wpText_skip ?_ ?_)
               · rfl
               simp only [Act.put, List.setIfInBounds_toArray, List.set_cons_zero, List.set_cons_succ])
            | ((with_reducible refine wpText_yield (v := ?_) ?_ ?_ ?_)
               rotate_left
               · rfl
               · (intro W hW; have ku1 := hW.has u1; have ke0 := hW.has e0; have ke1 := hW.has e1; have ke2 := hW.has e2; have ke3 := hW.has e3; have ke4 := hW.has e4; have kx0 := hW.has x0; first | (go_simp; done) | (go_simp; with_reducible rfl))
               simp only [Act.put, List.setIfInBounds_toArray, List.set_cons_zero, List.set_cons_succ])
            | ((with_reducible refine wpText_yield1 (v := ?_) ?_ ?_ ?_)
               rotate_left
               · rfl
               · (intro W hW; have ku1 := hW.has u1; have ke0 := hW.has e0; have ke1 := hW.has e1; have ke2 := hW.has e2; have ke3 := hW.has e3; have ke4 := hW.has e4; have kx0 := hW.has x0; first | (go_simp; done) | (go_simp; with_reducible rfl))
               simp only [Act.put, List.setIfInBounds_toArray, List.set_cons_zero, List.set_cons_succ]))
          refine wpText_do (.int .i64 (eT p y)) (by rfl) (fun W hW K hK => ?_) ?_
          ·
            have ku1 := hW.has u1
            have ke0 := hW.has e0
            have ke1 := hW.has e1
            have ke2 := hW.has e2
            have ke3 := hW.has e3
            have ke4 := hW.has e4
            have kx0 := hW.has x0
            go_simp
            refine (Ey.out _).mono ?_
            rintro e w' ⟨rfl, hg⟩
            exact hK _ (hW.trans hg)
          simp only [Act.put, List.setIfInBounds_toArray, List.set_cons_zero, List.set_cons_succ]
          repeat (first
            | ((with_reducible refine wpText_skip ?_ ?_)
               · rfl
               simp only [Act.put, List.setIfInBounds_toArray, List.set_cons_zero, List.set_cons_succ])
            | ((with_reducible refine wpText_yield (v := ?_) ?_ ?_ ?_)
               rotate_left
               · rfl
               · (intro W hW; have ku1 := hW.has u1; have ke0 := hW.has e0; have ke1 := hW.has e1; have ke2 := hW.has e2; have ke3 := hW.has e3; have ke4 := hW.has e4; have kx0 := hW.has x0; first | (go_simp; done) | (go_simp; with_reducible rfl))
               simp only [Act.put, List.setIfInBounds_toArray, List.set_cons_zero, List.set_cons_succ])
            | ((with_reducible refine wpText_yield1 (v := ?_) ?_ ?_ ?_)
               rotate_left
               · rfl
               · (intro W hW; have ku1 := hW.has u1; have ke0 := hW.has e0; have ke1 := hW.has e1; have ke2 := hW.has e2; have ke3 := hW.has e3; have ke4 := hW.has e4; have kx0 := hW.has x0; first | (go_simp; done) | (go_simp; with_reducible rfl))
               simp only [Act.put, List.setIfInBounds_toArray, List.set_cons_zero, List.set_cons_succ]))
          rintro w6 hS6
          go_wp2_with fail
          go_roundw
          case rel => exact ⟨k + 1, by omega, by go_num, by rw [Hst.out], Hch1.out, hgr.trans hS6⟩
          case measure => simp [intOf]; omega
        · have hin : inB (-30000) x 30000 = false := by simpa using hin
          have Hbad : Hid (chOk f c a n2 = false) := Lib.hid (chOk_bad hlt (by rw [hok2]; exact hin))
          have Hin := Lib.hid hin
          clear hp hy ht hpe hye hte hpk hyb htb hbd hat hq hx hxe hok2 hin ht0
          go_wp2_with fail
          refine (within_any x _ _ _).mono ?_
          rintro e w' ⟨rfl, hw'⟩
          rw [← hw', Hin.out]
          clear hw'
          go_wp2_with fail
          go_ret2
          exact ⟨by show Ending.returned (.tuple #[.int .i64 0, .bool false]) = _; rw [chV, Hbad.out]; rfl, hg1.trans hgr⟩
    · obtain rfl : k = n2 := by omega
      go_wp2_with fail
      go_ret2
      exact ⟨by show Ending.returned (.tuple #[.int .i64 (chTo n f c a k), .bool true]) = _; rw [chV, if_pos Hch.out, Hch.out], hg1.trans hgr⟩
end Go.Proofs.YthhmhigddmimjaaGreat
/-
  Passes over cycles: the reference. Printed by gen_pt9.py.
-/
set_option linter.unusedSimpArgs false
set_option linter.unusedVariables false
namespace Go.Proofs.YthhmhigddmimjaaGreat
open Go.ChangeShapes Go.WideShapes Go.ChangeAt Go.RowKit

def rowV (n2 : Nat) (r : Option Addr × Nat) : Value := .slice r.1 n2 r.2
/-- A slice of lists of n2 numbers each. -/
def Bas (w : World) (A : Option Addr) (m c n2 : Nat) (cs : List (List Int)) : Prop :=
  ∃ rs : List (Option Addr × Nat), SlAt w 1 A m c (rs.map (rowV n2)) ∧ rs.length = cs.length ∧ ∀ (i : Nat) (r : Option Addr × Nat) (z : List Int), rs[i]? = some r → cs[i]? = some z → SlAt w 1 r.1 n2 r.2 (ints z)
theorem Bas.gr {w w' : World} {A : Option Addr} {m c n2 : Nat} {cs : List (List Int)} (h : Bas w A m c n2 cs) (hg : Gr w w') : Bas w' A m c n2 cs := by
  obtain ⟨rs, h1, h2, h3⟩ := h
  exact ⟨rs, h1.gr hg, h2, fun i r z a b => (h3 i r z a b).gr hg⟩
theorem Bas.len {w : World} {A : Option Addr} {m c n2 : Nat} {cs : List (List Int)} (h : Bas w A m c n2 cs) : cs.length = m := by
  obtain ⟨rs, h1, h2, h3⟩ := h
  have := h1.sl.1
  rw [List.length_map] at this
  omega
theorem Bas.small {w : World} {A : Option Addr} {m c n2 : Nat} {cs : List (List Int)} (h : Bas w A m c n2 cs) : m ≤ 1048576 := by
  obtain ⟨rs, h1, h2, h3⟩ := h
  exact h1.small
theorem Bas.get {w : World} {A : Option Addr} {m c n2 k : Nat} {cs : List (List Int)} {z : List Int} (h : Bas w A m c n2 cs) (hk : cs[k]? = some z) : ∃ b o Az cz, A = some ⟨b, o, none⟩ ∧ w.cell? ⟨b, o + k, none⟩ = some (.slice Az n2 cz) ∧ SlAt w 1 Az n2 cz (ints z) := by
  have hl := h.len
  obtain ⟨rs, h1, h2, h3⟩ := h
  have hkl := (List.getElem?_eq_some_iff.1 hk).1
  obtain ⟨r, hr⟩ : ∃ r, rs[k]? = some r := ⟨_, List.getElem?_eq_getElem (by omega)⟩
  obtain ⟨b, o, e, hb, hrow⟩ := h1.sl.2 (by omega)
  exact ⟨b, o, r.1, r.2, e, hrow k _ (by rw [List.getElem?_map, hr]; rfl), h3 k r z hr hk⟩
theorem drop_hd {α : Type} {l : List α} {k : Nat} {x : α} (h : l[k]? = some x) : l.drop k = x :: l.drop (k + 1) := by
  obtain ⟨hk, e⟩ := List.getElem?_eq_some_iff.1 h
  rw [List.drop_eq_getElem_cons hk, e]
theorem mv_first {n : GNet} {f c : List Int} {s : Int} (h : lowB n f c s = true) : mv n f c s = some (addL f c s) := by rw [mv, if_pos h]
theorem mv_second {n : GNet} {f c : List Int} {s : Int} (h1 : lowB n f c s = false) (h : lowB n f c (-s) = true) : mv n f c s = some (addL f c (-s)) := by rw [mv, h1, if_neg (by decide), if_pos h]
theorem mv_none {n : GNet} {f c : List Int} {s : Int} (h1 : lowB n f c s = false) (h : lowB n f c (-s) = false) : mv n f c s = none := by rw [mv, h1, if_neg (by decide), h, if_neg (by decide)]
/-- A pass under way: k cycles are done, q moves are made, g is the list. -/
def PassAt (n : GNet) (s : Int) (cs : List (List Int)) (f : List Int) (left k q : Nat) (g : List Int) : Prop :=
  q ≤ left ∧ flOk n g = true ∧ passR n s cs f left = ((passR n s (cs.drop k) g (left - q)).1, (passR n s (cs.drop k) g (left - q)).2 + q)
theorem PassAt.yes {n : GNet} {s : Int} {cs : List (List Int)} {f g g' z : List Int} {left k q : Nat} (h : PassAt n s cs f left k q g) (hz : cs[k]? = some z) (hq : q < left) (hm : mv n g z s = some g') : PassAt n s cs f left (k + 1) (q + 1) g' := by
  obtain ⟨a, b, c⟩ := h
  refine ⟨hq, mv_ok hm, ?_⟩
  rw [c, drop_hd hz, pass_yes (by omega) hm]
  simp only
  rw [show left - q - 1 = left - (q + 1) by omega]
  simp only [Prod.mk.injEq, true_and]
  omega
theorem PassAt.no {n : GNet} {s : Int} {cs : List (List Int)} {f g z : List Int} {left k q : Nat} (h : PassAt n s cs f left k q g) (hz : cs[k]? = some z) (hm : mv n g z s = none) : PassAt n s cs f left (k + 1) q g := by
  obtain ⟨a, b, c⟩ := h
  exact ⟨a, b, by rw [c, drop_hd hz, pass_no hm]⟩
theorem PassAt.out {n : GNet} {s : Int} {cs : List (List Int)} {f g : List Int} {left k q : Nat} (h : PassAt n s cs f left k q g) (he : cs.length ≤ k ∨ q = left) : passR n s cs f left = (g, q) := by
  obtain ⟨a, b, c⟩ := h
  rw [c]
  rcases he with e | e
  · rw [List.drop_eq_nil_of_le e, passR]; simp
  · rw [e, Nat.sub_self, pass_out]; simp
theorem pass_start {n : GNet} {s : Int} {cs : List (List Int)} {f : List Int} {left : Nat} (hf : flOk n f = true) : PassAt n s cs f left 0 0 f := ⟨Nat.zero_le _, hf, by simp⟩
set_option maxHeartbeats 6400000 in
set_option maxRecDepth 100000 in
theorem l11Pass_any {A1 A2 A3 A5 : Option Addr} {n1 c1 n2 c2 c3 m c5 : Nat} (n : GNet) (cs : List (List Int)) (f : List Int) (s left : Nat) (w : World) (hA : NetAt w A1 n1 c1 A2 n2 c2 n) (hB : Bas w A5 m c5 n2 cs) (hF : SlAt w 1 A3 n2 c3 (ints f)) (hok : netOk n = true) (hf : flOk n f = true) (hcs : ∀ z ∈ cs, ∀ i, -1 ≤ z.getD i 0 ∧ z.getD i 0 ≤ 1) (hs : s ≤ 32768) (hl : left ≤ 5000) :
    Calls Tryz.prog 151 #[.agg #[.slice A1 n1 c1, .slice A2 n2 c2], .slice A5 m c5, .slice A3 n2 c3, .int .i64 s, .int .i64 left] w fun e w' => ∃ A c, e = .returned (.tuple #[.slice A n2 c, .int .i64 ((passR n s cs f left).2 : Nat)]) ∧ SlAt w' 1 A n2 c (ints (passR n s cs f left).1) ∧ Gr w w' := by
  have hm2 := hA.m2
  have hml := hB.small
  have hBl := hB.len
  have HA := Lib.hid hA
  have HF := Lib.hid hF
  have HB := Lib.hid hB
  have Hok := Lib.hid hok
  have Hf := Lib.hid hf
  have Hbl := Lib.hid hBl
  have Hcs := Lib.hid hcs
  clear hA hF hB hok hf hBl hcs
  go_enter Tryz.func151, Tryz.ntmps151
  go_wp2_with fail
  obtain ⟨w1, hw1⟩ : ∃ W, W = w.alloc (.cells #[.slice A1 n1 c1, .slice A2 n2 c2] 32) := ⟨_, rfl⟩
  have hg1 : Gr w w1 := by rw [hw1]; exact (Gr.refl _).alloc _
  have y0 : w1.cell? ⟨w.heap.size, 0, none⟩ = some (.slice A1 n1 c1) := by rw [hw1]; simp [go_sem]
  have y1 : w1.cell? ⟨w.heap.size, 1, none⟩ = some (.slice A2 n2 c2) := by rw [hw1]; simp [go_sem]
  rw [← hw1]
  clear hw1
  go_loopw [2, 12, 13] (fun fl qv i wr => ∃ (k : Nat) (g : List Int) (q : Nat) (A : Option Addr) (c : Nat), k ≤ m ∧ i = .int .i64 k ∧ qv = .int .i64 q ∧ fl = .slice A n2 c ∧ PassAt n s cs f left k q g ∧ SlAt wr 1 A n2 c (ints g) ∧ Gr w wr ∧ Gr w1 wr) (fun _ _ i _ => m - (intOf i).toNat)
  case atStart => exact ⟨0, f, 0, _, _, Nat.zero_le _, rfl, rfl, rfl, pass_start Hf.out, HF.out.gr hg1, hg1, Gr.refl _⟩
  case round =>
    obtain ⟨k, g, q, A, c, hk, rfl, rfl, rfl, hP, hG, hgr, hgw⟩ := hrel
    have hql0 := hP.1
    have HP := Lib.hid hP
    have Hg := Lib.hid hP.2.1
    have HG := Lib.hid hG
    have hneg : IntKind.i64.wrap (-(s : Int)) = -(s : Int) := IntWalk.i64_in _ (by omega)
    clear hP hG
    by_cases hlt : k < m
    · have t1 : (k : Int) < (m : Int) := by omega
      have t0 : (0 : Int) ≤ (k : Int) := by omega
      by_cases hql : q < left
      · have t2 : (q : Int) < (left : Int) := by omega
        obtain ⟨z, hz⟩ : ∃ z, cs[k]? = some z := ⟨_, List.getElem?_eq_getElem (by have := Hbl.out; omega)⟩
        have Hz := Lib.hid (Hcs.out z (List.mem_of_getElem? hz))
        obtain ⟨b, o, Az, cz, hAA, e0, hZ⟩ := (HB.out.gr hgr).get hz
        subst hAA
        have HZ := Lib.hid hZ
        have Hcz := Lib.hid hz
        have y0 := hgw.has y0
        have y1 := hgw.has y1
        rename World => wr
        have hgx : Gr w wr := hgr
        have hgy : Gr wr wr := Gr.refl _
        clear hz hZ
        cases h1 : lowB n g z s with
        | true =>
          have H1 := Lib.hid h1
          clear h1
          go_upto_region 5 with fail
          refine wp_region_text (fun w' => Gr wr w') (by kernel_rfl) (by kernel_rfl) (by decide) (Gr.refl _).drew ?_
          repeat (first
            | ((with_reducible refine wpText_skip ?_ ?_)
               · rfl
               simp only [Act.put, List.setIfInBounds_toArray, List.set_cons_zero, List.set_cons_succ])
            | ((with_reducible refine wpText_yield (v := ?_) ?_ ?_ ?_)
               rotate_left
               · rfl
               · (intro W hW; have ky0 := hW.has y0; have ky1 := hW.has y1; have ke0 := hW.has e0; first | (go_simp; done) | (go_simp; with_reducible rfl))
               simp only [Act.put, List.setIfInBounds_toArray, List.set_cons_zero, List.set_cons_succ])
            | ((with_reducible refine wpText_yield1 (v := ?_) ?_ ?_ ?_)
               rotate_left
               · rfl
               · (intro W hW; have ky0 := hW.has y0; have ky1 := hW.has y1; have ke0 := hW.has e0; first | (go_simp; done) | (go_simp; with_reducible rfl))
               simp only [Act.put, List.setIfInBounds_toArray, List.set_cons_zero, List.set_cons_succ]))
          refine wpText_do (.bool true) (by rfl) (fun W hW K hK => ?_) ?_
          ·
            have ky0 := hW.has y0
            have ky1 := hW.has y1
            have ke0 := hW.has e0
            go_simp
            refine (l10Lower_any n g z ((s : Int)) _ (HA.out.gr (hgx.trans hW)) (HG.out.gr (hgy.trans hW)) (HZ.out.gr (hgy.trans hW)) Hok.out Hg.out Hz.out (by omega)).mono ?_
            rintro e w' ⟨rfl, hg⟩
            rw [H1.out]
            exact hK _ (hW.trans hg)
          simp only [Act.put, List.setIfInBounds_toArray, List.set_cons_zero, List.set_cons_succ]
          repeat (first
            | ((with_reducible refine wpText_skip ?_ ?_)
               · rfl
               simp only [Act.put, List.setIfInBounds_toArray, List.set_cons_zero, List.set_cons_succ])
            | ((with_reducible refine wpText_yield (v := ?_) ?_ ?_ ?_)
               rotate_left
               · rfl
               · (intro W hW; have ky0 := hW.has y0; have ky1 := hW.has y1; have ke0 := hW.has e0; first | (go_simp; done) | (go_simp; with_reducible rfl))
               simp only [Act.put, List.setIfInBounds_toArray, List.set_cons_zero, List.set_cons_succ])
            | ((with_reducible refine wpText_yield1 (v := ?_) ?_ ?_ ?_)
               rotate_left
               · rfl
               · (intro W hW; have ky0 := hW.has y0; have ky1 := hW.has y1; have ke0 := hW.has e0; first | (go_simp; done) | (go_simp; with_reducible rfl))
               simp only [Act.put, List.setIfInBounds_toArray, List.set_cons_zero, List.set_cons_succ]))
          rintro W6 hS6
          replace hgx := hgx.trans hS6
          replace hgy := hgy.trans hS6
          replace y0 := hS6.has y0
          replace y1 := hS6.has y1
          replace e0 := hS6.has e0
          go_wp2_with fail
          refine (l05AddL_any g z ((s : Int)) _ (HG.out.gr hgy) (HZ.out.gr hgy) (flOk_get Hg.out) Hz.out (by omega)).mono ?_
          rintro e W7 ⟨gg, dd, rfl, ho, h7⟩
          have Hnew := Lib.hid (SlAt.of_own ho hm2)
          have hgz := hgx.trans h7
          have Pn := Lib.hid (HP.out.yes Hcz.out hql (mv_first H1.out))
          clear ho y0 y1 e0
          go_wp2_with fail
          go_roundw
          case rel => exact ⟨k + 1, _, q + 1, _, _, by omega, by go_num, by go_num, rfl, Pn.out, Hnew.out, hgz, (hgw.trans hgy).trans h7⟩
          case measure => simp [intOf]; omega
        | false =>
          have H1 := Lib.hid h1
          clear h1
          go_upto_region 5 with fail
          refine wp_region_text (fun w' => Gr wr w') (by kernel_rfl) (by kernel_rfl) (by decide) (Gr.refl _).drew ?_
          repeat (first
            | ((with_reducible refine wpText_skip ?_ ?_)
               · rfl
               simp only [Act.put, List.setIfInBounds_toArray, List.set_cons_zero, List.set_cons_succ])
            | ((with_reducible refine wpText_yield (v := ?_) ?_ ?_ ?_)
               rotate_left
               · rfl
               · (intro W hW; have ky0 := hW.has y0; have ky1 := hW.has y1; have ke0 := hW.has e0; first | (go_simp; done) | (go_simp; with_reducible rfl))
               simp only [Act.put, List.setIfInBounds_toArray, List.set_cons_zero, List.set_cons_succ])
            | ((with_reducible refine wpText_yield1 (v := ?_) ?_ ?_ ?_)
               rotate_left
               · rfl
               · (intro W hW; have ky0 := hW.has y0; have ky1 := hW.has y1; have ke0 := hW.has e0; first | (go_simp; done) | (go_simp; with_reducible rfl))
               simp only [Act.put, List.setIfInBounds_toArray, List.set_cons_zero, List.set_cons_succ]))
          refine wpText_do (.bool false) (by rfl) (fun W hW K hK => ?_) ?_
          ·
            have ky0 := hW.has y0
            have ky1 := hW.has y1
            have ke0 := hW.has e0
            go_simp
            refine (l10Lower_any n g z ((s : Int)) _ (HA.out.gr (hgx.trans hW)) (HG.out.gr (hgy.trans hW)) (HZ.out.gr (hgy.trans hW)) Hok.out Hg.out Hz.out (by omega)).mono ?_
            rintro e w' ⟨rfl, hg⟩
            rw [H1.out]
            exact hK _ (hW.trans hg)
          simp only [Act.put, List.setIfInBounds_toArray, List.set_cons_zero, List.set_cons_succ]
          repeat (first
            | ((with_reducible refine wpText_skip ?_ ?_)
               · rfl
               simp only [Act.put, List.setIfInBounds_toArray, List.set_cons_zero, List.set_cons_succ])
            | ((with_reducible refine wpText_yield (v := ?_) ?_ ?_ ?_)
               rotate_left
               · rfl
               · (intro W hW; have ky0 := hW.has y0; have ky1 := hW.has y1; have ke0 := hW.has e0; first | (go_simp; done) | (go_simp; with_reducible rfl))
               simp only [Act.put, List.setIfInBounds_toArray, List.set_cons_zero, List.set_cons_succ])
            | ((with_reducible refine wpText_yield1 (v := ?_) ?_ ?_ ?_)
               rotate_left
               · rfl
               · (intro W hW; have ky0 := hW.has y0; have ky1 := hW.has y1; have ke0 := hW.has e0; first | (go_simp; done) | (go_simp; with_reducible rfl))
               simp only [Act.put, List.setIfInBounds_toArray, List.set_cons_zero, List.set_cons_succ]))
          rintro W5 hS5
          replace hgx := hgx.trans hS5
          replace hgy := hgy.trans hS5
          replace y0 := hS5.has y0
          replace y1 := hS5.has y1
          replace e0 := hS5.has e0
          cases h2 : lowB n g z (-(s : Int)) with
          | true =>
            have H2 := Lib.hid h2
            clear h2
            go_upto_region 8 with fail
            refine wp_region_text (fun w' => Gr W5 w') (by kernel_rfl) (by kernel_rfl) (by decide) (Gr.refl _).drew ?_
            repeat (first
              | ((with_reducible refine wpText_skip ?_ ?_)
                 · rfl
                 simp only [Act.put, List.setIfInBounds_toArray, List.set_cons_zero, List.set_cons_succ])
              | ((with_reducible refine wpText_yield (v := ?_) ?_ ?_ ?_)
                 rotate_left
                 · rfl
                 · (intro W hW; have ky0 := hW.has y0; have ky1 := hW.has y1; have ke0 := hW.has e0; first | (go_simp; done) | (go_simp; with_reducible rfl))
                 simp only [Act.put, List.setIfInBounds_toArray, List.set_cons_zero, List.set_cons_succ])
              | ((with_reducible refine wpText_yield1 (v := ?_) ?_ ?_ ?_)
                 rotate_left
                 · rfl
                 · (intro W hW; have ky0 := hW.has y0; have ky1 := hW.has y1; have ke0 := hW.has e0; first | (go_simp; done) | (go_simp; with_reducible rfl))
                 simp only [Act.put, List.setIfInBounds_toArray, List.set_cons_zero, List.set_cons_succ]))
            refine wpText_do (.bool true) (by rfl) (fun W hW K hK => ?_) ?_
            ·
              have ky0 := hW.has y0
              have ky1 := hW.has y1
              have ke0 := hW.has e0
              go_simp
              refine (l10Lower_any n g z (-(s : Int)) _ (HA.out.gr (hgx.trans hW)) (HG.out.gr (hgy.trans hW)) (HZ.out.gr (hgy.trans hW)) Hok.out Hg.out Hz.out (by omega)).mono ?_
              rintro e w' ⟨rfl, hg⟩
              rw [H2.out]
              exact hK _ (hW.trans hg)
            simp only [Act.put, List.setIfInBounds_toArray, List.set_cons_zero, List.set_cons_succ]
            repeat (first
              | ((with_reducible refine wpText_skip ?_ ?_)
                 · rfl
                 simp only [Act.put, List.setIfInBounds_toArray, List.set_cons_zero, List.set_cons_succ])
              | ((with_reducible refine wpText_yield (v := ?_) ?_ ?_ ?_)
                 rotate_left
                 · rfl
                 · (intro W hW; have ky0 := hW.has y0; have ky1 := hW.has y1; have ke0 := hW.has e0; first | (go_simp; done) | (go_simp; with_reducible rfl))
                 simp only [Act.put, List.setIfInBounds_toArray, List.set_cons_zero, List.set_cons_succ])
              | ((with_reducible refine wpText_yield1 (v := ?_) ?_ ?_ ?_)
                 rotate_left
                 · rfl
                 · (intro W hW; have ky0 := hW.has y0; have ky1 := hW.has y1; have ke0 := hW.has e0; first | (go_simp; done) | (go_simp; with_reducible rfl))
                 simp only [Act.put, List.setIfInBounds_toArray, List.set_cons_zero, List.set_cons_succ]))
            rintro W6 hS6
            replace hgx := hgx.trans hS6
            replace hgy := hgy.trans hS6
            replace y0 := hS6.has y0
            replace y1 := hS6.has y1
            replace e0 := hS6.has e0
            go_wp2_with fail
            refine (l05AddL_any g z (-(s : Int)) _ (HG.out.gr hgy) (HZ.out.gr hgy) (flOk_get Hg.out) Hz.out (by omega)).mono ?_
            rintro e W7 ⟨gg, dd, rfl, ho, h7⟩
            have Hnew := Lib.hid (SlAt.of_own ho hm2)
            have hgz := hgx.trans h7
            have Pn := Lib.hid (HP.out.yes Hcz.out hql (mv_second H1.out H2.out))
            clear ho y0 y1 e0
            go_wp2_with fail
            go_roundw
            case rel => exact ⟨k + 1, _, q + 1, _, _, by omega, by go_num, by go_num, rfl, Pn.out, Hnew.out, hgz, (hgw.trans hgy).trans h7⟩
            case measure => simp [intOf]; omega
          | false =>
            have H2 := Lib.hid h2
            clear h2
            go_upto_region 8 with fail
            refine wp_region_text (fun w' => Gr W5 w') (by kernel_rfl) (by kernel_rfl) (by decide) (Gr.refl _).drew ?_
            repeat (first
              | ((with_reducible refine wpText_skip ?_ ?_)
                 · rfl
                 simp only [Act.put, List.setIfInBounds_toArray, List.set_cons_zero, List.set_cons_succ])
              | ((with_reducible refine wpText_yield (v := ?_) ?_ ?_ ?_)
                 rotate_left
                 · rfl
                 · (intro W hW; have ky0 := hW.has y0; have ky1 := hW.has y1; have ke0 := hW.has e0; first | (go_simp; done) | (go_simp; with_reducible rfl))
                 simp only [Act.put, List.setIfInBounds_toArray, List.set_cons_zero, List.set_cons_succ])
              | ((with_reducible refine wpText_yield1 (v := ?_) ?_ ?_ ?_)
                 rotate_left
                 · rfl
                 · (intro W hW; have ky0 := hW.has y0; have ky1 := hW.has y1; have ke0 := hW.has e0; first | (go_simp; done) | (go_simp; with_reducible rfl))
                 simp only [Act.put, List.setIfInBounds_toArray, List.set_cons_zero, List.set_cons_succ]))
            refine wpText_do (.bool false) (by rfl) (fun W hW K hK => ?_) ?_
            ·
              have ky0 := hW.has y0
              have ky1 := hW.has y1
              have ke0 := hW.has e0
              go_simp
              refine (l10Lower_any n g z (-(s : Int)) _ (HA.out.gr (hgx.trans hW)) (HG.out.gr (hgy.trans hW)) (HZ.out.gr (hgy.trans hW)) Hok.out Hg.out Hz.out (by omega)).mono ?_
              rintro e w' ⟨rfl, hg⟩
              rw [H2.out]
              exact hK _ (hW.trans hg)
            simp only [Act.put, List.setIfInBounds_toArray, List.set_cons_zero, List.set_cons_succ]
            repeat (first
              | ((with_reducible refine wpText_skip ?_ ?_)
                 · rfl
                 simp only [Act.put, List.setIfInBounds_toArray, List.set_cons_zero, List.set_cons_succ])
              | ((with_reducible refine wpText_yield (v := ?_) ?_ ?_ ?_)
                 rotate_left
                 · rfl
                 · (intro W hW; have ky0 := hW.has y0; have ky1 := hW.has y1; have ke0 := hW.has e0; first | (go_simp; done) | (go_simp; with_reducible rfl))
                 simp only [Act.put, List.setIfInBounds_toArray, List.set_cons_zero, List.set_cons_succ])
              | ((with_reducible refine wpText_yield1 (v := ?_) ?_ ?_ ?_)
                 rotate_left
                 · rfl
                 · (intro W hW; have ky0 := hW.has y0; have ky1 := hW.has y1; have ke0 := hW.has e0; first | (go_simp; done) | (go_simp; with_reducible rfl))
                 simp only [Act.put, List.setIfInBounds_toArray, List.set_cons_zero, List.set_cons_succ]))
            rintro W6 hS6
            replace hgx := hgx.trans hS6
            replace hgy := hgy.trans hS6
            replace y0 := hS6.has y0
            replace y1 := hS6.has y1
            replace e0 := hS6.has e0
            have Pn := Lib.hid (HP.out.no Hcz.out (mv_none H1.out H2.out))
            clear y0 y1 e0
            go_wp2_with fail
            go_roundw
            case rel => exact ⟨k + 1, _, q, _, _, by omega, by go_num, rfl, rfl, Pn.out, HG.out.gr hgy, hgx, hgw.trans hgy⟩
            case measure => simp [intOf]; omega
      · have t2 : ¬ (q : Int) < (left : Int) := by omega
        have He := Lib.hid (HP.out.out (.inr (by omega)))
        have hgx := hgr
        go_wp2_with fail
        go_ret2
        exact ⟨A, c, by show Ending.returned (.tuple #[.slice A n2 c, .int .i64 (q : Int)]) = _; rw [He.out], by rw [He.out]; exact HG.out, hgx⟩
    · obtain rfl : k = m := by omega
      have He := Lib.hid (HP.out.out (.inl (by rw [Hbl.out]; exact Nat.le_refl _)))
      have hgx := hgr
      go_wp2_with fail
      go_ret2
      exact ⟨A, c, by show Ending.returned (.tuple #[.slice A n2 c, .int .i64 (q : Int)]) = _; rw [He.out], by rw [He.out]; exact HG.out, hgx⟩
end Go.Proofs.YthhmhigddmimjaaGreat
/-
  The network of the forest and ways in it: the reference. Printed by gen_pt10.py.
-/
set_option linter.unusedSimpArgs false
set_option linter.unusedVariables false
namespace Go.Proofs.YthhmhigddmimjaaGreat
open Go.ChangeShapes Go.WideShapes Go.ChangeAt Go.RowKit

/-- The network of the forest alone. -/
def treeN (n : GNet) (N : Nat) : GNet := ⟨n.nodes, (foL (eds n.pipes) N).map fun p => n.pipes.getD p dP⟩
theorem eds_getD (ps : List GPipe) {p : Nat} (h : p < ps.length) : (eds ps).getD p dE = edOf (ps.getD p dP) := by
  rw [List.getD_eq_getElem?_getD, List.getD_eq_getElem?_getD, eds, List.getElem?_map, List.getElem?_eq_getElem h]; rfl
theorem tree_eds (n : GNet) (N : Nat) : eds (treeN n N).pipes = tE (eds n.pipes) N := by
  rw [treeN, eds, tE, List.map_map]
  refine List.map_congr_left fun p hp => ?_
  have := (foL_mem.1 hp).1
  rw [eds, List.length_map] at this
  exact (eds_getD n.pipes this).symm
theorem tree_ok {n : GNet} {N : Nat} (h : netOk n = true) : netOk (treeN n N) = true := by
  obtain ⟨⟨h1, h2, h3⟩, h4⟩ := netOk_all h
  have hl : (foL (eds n.pipes) N).length ≤ n.pipes.length := by
    have := List.length_filter_le (isFo (eds n.pipes) N) (List.range (eds n.pipes).length)
    rw [List.length_range] at this
    have e : (eds n.pipes).length = n.pipes.length := by rw [eds, List.length_map]
    rw [e] at this
    rw [foL, e]
    exact this
  unfold netOk at h ⊢
  simp only [Bool.and_eq_true, decide_eq_true_eq, List.all_eq_true] at h ⊢
  obtain ⟨⟨⟨⟨a, b⟩, c⟩, d⟩, e⟩ := h
  refine ⟨⟨⟨⟨a, b⟩, by rw [treeN, List.length_map]; omega⟩, d⟩, fun p hp => ?_⟩
  rw [treeN, List.mem_map] at hp
  obtain ⟨q, hq, rfl⟩ := hp
  have hql := (foL_mem.1 hq).1
  rw [eds, List.length_map] at hql
  refine e _ ?_
  rw [List.getD_eq_getElem?_getD, List.getElem?_eq_getElem hql]
  exact List.getElem_mem _
theorem tree_len (n : GNet) (N : Nat) : (treeN n N).pipes.length = (foL (eds n.pipes) N).length := by rw [treeN, List.length_map]
theorem tree_take {n : GNet} {N k p : Nat} (h : (foL (eds n.pipes) N)[k]? = some p) : ((treeN n N).pipes.take (k + 1)).flatMap GPipe.cells = ((treeN n N).pipes.take k).flatMap GPipe.cells ++ (n.pipes.getD p dP).cells := by
  have : (treeN n N).pipes[k]? = some (n.pipes.getD p dP) := by rw [treeN, List.getElem?_map, h]; rfl
  rw [List.take_add_one, this, Option.toList_some, List.flatMap_append]; simp
set_option maxHeartbeats 6400000 in
set_option maxRecDepth 100000 in
theorem l05Tree_any {A1 A2 : Option Addr} {n1 c1 n2 c2 : Nat} (n : GNet) (w : World) (hA : NetAt w A1 n1 c1 A2 n2 c2 n) (hok : netOk n = true) (hc : conB (eds n.pipes) n1 = true) :
    Calls Tryz.prog 132 #[.agg #[.slice A1 n1 c1, .slice A2 n2 c2]] w fun e w' => ∃ B m d FA fc, e = .returned (.tuple #[.agg #[.slice A1 n1 c1, .slice B m d], .slice FA m fc]) ∧ m = (foL (eds n.pipes) n1).length ∧ NetAt w' A1 n1 c1 B m d (treeN n n1) ∧ w'.ownsRow w.heap.size 95 5 (.slice B m d) m ((treeN n n1).pipes.flatMap GPipe.cells) ∧ w'.ownsRow w.heap.size 2 1 (.slice FA m fc) m (nats (foL (eds n.pipes) n1)) ∧ Gr w w' := by
  obtain ⟨i0, hi0, hz0, hz1, hz2⟩ := info_parts infoPipe
  have hm2 := hA.m2
  have hl2 := hA.l2
  have h40 : n2 ≤ 40 := by have := (netOk_all hok).1.2.2; omega
  have HA := Lib.hid hA
  have Hok := Lib.hid hok
  have Hl2 := Lib.hid hl2
  have Hc := Lib.hid hc
  clear hA hok hl2 hc
  go_enter Tryz.func132, Tryz.ntmps132
  go_upto_region 1 with fail
  obtain ⟨w1, hw1⟩ : ∃ W, W = (w.alloc (.cells #[.slice A1 n1 c1, .slice A2 n2 c2] 32)).alloc (.cells #[.slice none 0 0, .slice none 0 0] 32) := ⟨_, rfl⟩
  have hg1 : Gr w w1 := by rw [hw1]; exact ((Gr.refl _).alloc _).alloc _
  have y0 : w1.cell? ⟨w.heap.size, 0, none⟩ = some (.slice A1 n1 c1) := by rw [hw1]; simp [go_sem]
  have y1 : w1.cell? ⟨w.heap.size, 1, none⟩ = some (.slice A2 n2 c2) := by rw [hw1]; simp [go_sem]
  have hR : w1.heap[w.heap.size + 1]? = some (.cells #[.slice none 0 0, .slice none 0 0] 32 (0, 0)) := by
    have e : w.heap.size + 1 = (w.alloc (.cells #[.slice A1 n1 c1, .slice A2 n2 c2] 32)).heap.size := by simp
    rw [hw1, e]; exact heap_alloc_new _ _
  rw [← hw1]
  have HR := Lib.hid hR
  clear hw1 hR
  go_wp2_with fail
  refine (l04ForestC_any n _ (HA.out.gr hg1) Hok.out Hc.out).mono ?_
  rintro e w2 ⟨FA, m, fc, rfl, hmn, hF, hg2⟩
  have hFl : (foL (eds n.pipes) n1).length = m := by have := own_ilen hF; simpa using this
  have HF := Lib.hid (SlAt.of_own hF (by omega))
  have HFo := Lib.hid hF
  have hs1 := rb_lt HR.out
  have hgw2 := hg1.trans hg2
  replace y0 := hg2.has y0
  replace y1 := hg2.has y1
  replace HR := Lib.hid ((hg2.below.block _ (rb_lt HR.out)).trans HR.out)
  have hs2 := rb_lt HR.out
  have HFl := Lib.hid hFl
  clear hF hFl hg2
  go_wp2_with fail
  have HLit : Hid ((w2.alloc (.cells #[] 95)).ownsRow w2.heap.size 95 5 (.slice (some ⟨w2.heap.size, 0, none⟩) 0 0) 0 (((treeN n n1).pipes.take 0).flatMap GPipe.cells)) := Lib.hid (World.ownsRow_lit w2 #[] 0 (Nat.le_refl _) (by unfold maxLen; omega) rfl)
  go_loopw [5, 6] (fun o i wr => ∃ k : Nat, k ≤ m ∧ i = .int .i64 k ∧ (∃ A c, o = .slice A k c ∧ wr.ownsRow w2.heap.size 95 5 (.slice A k c) k (((treeN n n1).pipes.take k).flatMap GPipe.cells)) ∧ Gr w2 wr) (fun _ i _ => m - (intOf i).toNat)
  case atStart => exact ⟨0, Nat.zero_le _, rfl, ⟨_, _, rfl, HLit.out⟩, (Gr.refl _).alloc _⟩
  case round =>
    obtain ⟨k, hk, rfl, ⟨A3, c3, rfl, hown⟩, hgr⟩ := hrel
    have Hown := Lib.hid hown
    have u0 := hgr.has y0
    have u1 := hgr.has y1
    have hgrs := hgr.size
    clear hown HLit
    by_cases hlt : k < m
    · obtain ⟨q, hq⟩ : ∃ q, (foL (eds n.pipes) n1)[k]? = some q := ⟨_, List.getElem?_eq_getElem (by have := HFl.out; omega)⟩
      have hql : q < n2 := by
        have := (foL_mem.1 (List.mem_of_getElem? hq)).1
        rw [eds, List.length_map] at this
        have := Hl2.out
        omega
      obtain ⟨p, hp⟩ : ∃ p, n.pipes[q]? = some p := ⟨_, List.getElem?_eq_getElem (by have := Hl2.out; omega)⟩
      have hpe : n.pipes.getD q dP = p := by rw [List.getD_eq_getElem?_getD, hp]; rfl
      have hst := tree_take hq
      rw [hpe] at hst
      have Hst := Lib.hid hst
      obtain ⟨b, o, hAA, hb, e0, e1, e2, e3, e4⟩ := (HA.out.gr (hgw2.trans hgr)).pipes.pp hp
      subst hAA
      obtain ⟨bF, oF, hAA, hbF, x0⟩ := (HF.out.gr hgr).sl.int (k := k) (x := (q : Int)) (by rw [List.getElem?_map, hq]; rfl)
      subst hAA
      have hgrW : Gr w2 wr := hgr
      have b2 : b < w2.heap.size := by
        obtain ⟨b', o', e, hb', _⟩ := (HA.out.gr hgw2).pipes.pp hp
        injection e with e
        injection e with e1 e2
        omega
      have bF2 : bF < w2.heap.size := by
        obtain ⟨b', o', e, hb', _⟩ := HF.out.sl.int (k := k) (x := (q : Int)) (by rw [List.getElem?_map, hq]; rfl)
        injection e with e
        injection e with e1 e2
        omega
      have t1 : (k : Int) < (m : Int) := by omega
      have t0 : (0 : Int) ≤ (k : Int) := by omega
      have v1 : (q : Int) < (n2 : Int) := by omega
      have v0 : (0 : Int) ≤ (q : Int) := by omega
      have hlow : ∀ j, (Value.slice A3 k c3).ownBlock = some j → w2.heap.size ≤ j := fun j hj => own_low Hown.out hj
      clear hq hp hpe hst
      have hnew : ∀ o : Obj, (wr.alloc o).heap[wr.heap.size]? = some o := fun o => heap_alloc_new wr o
      go_wp2_with fail
      go_region_held3 (fun w' => w'.cell? ⟨w.heap.size, 1, none⟩ = some (.slice (some ⟨b, o, none⟩) n2 c2) ∧ w'.cell? ⟨bF, oF + k, none⟩ = some (.int .i64 (q : Int)) ∧ w'.cell? ⟨b, o + q * 5, none⟩ = some (.int .i64 p.src) ∧ w'.cell? ⟨b, o + q * 5 + 1, none⟩ = some (.int .i64 p.dst) ∧ w'.cell? ⟨b, o + q * 5 + 2, none⟩ = some (.int .i64 p.k) ∧ w'.cell? ⟨b, o + q * 5 + 3, none⟩ = some (.int .i64 p.vol) ∧ w'.cell? ⟨b, o + q * 5 + 4, none⟩ = some (.int .i64 p.lim))
        (first
          | go_keep
          | (go_split_ands
             refine ⟨?_, ?_, ?_, ?_, ?_, ?_, ?_⟩ <;> (rw [hgrow.cell_far _ (by simp; omega) (fun e => by have := hlow _ e.symm; simp only at this; omega)]; assumption)))
        ((refine step_append_lies _ (by rfl) _ _ _ (by rfl) w2.heap.size 95 i0 _ 5 40 Tryz.underlying30 hi0 hz0 hz1 hz2 rfl (by omega) _ k _ (by rfl) ((Hown.out.alloc _).drew) ⟨wr.heap.size, 0, none⟩ 1 1 [.int .i64 p.src, .int .i64 p.dst, .int .i64 p.k, .int .i64 p.vol, .int .i64 p.lim] (by rfl) (by rfl) (World.news_of_block (cs := #[.int .i64 p.src, .int .i64 p.dst, .int .i64 p.k, .int .i64 p.vol, .int .i64 p.lim]) (t := 95) (fr := (0, 0)) (hnew _)) (by simp [Value.oneCell']) (by omega) (by unfold maxLen; omega) (by omega) (by simp; omega) (wr.heap.size + 1) (by simp) ?_; intro gg cap w4 hown1 hgrow hat hlt2))
      have Ho2 := Lib.hid hown1
      have hgw4 : Gr w2 w4 := ((hgrW.alloc _).drew).grown hgrow (fun j hj => hlow j hj)
      clear hown1 hat hgrow
      go_wp2_with fail
      go_roundw
      case rel =>
        refine ⟨k + 1, by omega, by go_num, ⟨_, _, rfl, ?_⟩, hgw4⟩
        rw [Hst.out]; exact Ho2.out
      case measure => simp [intOf]; omega
    · obtain rfl : k = m := by omega
      have hRw := (hgr.below.block _ hs2).trans HR.out
      have r0 := rb_cell (j := 0) hRw rfl
      have r1 := rb_cell (j := 1) hRw rfl
      have f0 := rb_frozen hRw 0
      have f1 := rb_frozen hRw 1
      have hfull := Hown.out
      rw [List.take_of_length_le (by rw [tree_len, HFl.out]; exact Nat.le_refl _)] at hfull
      obtain ⟨W9, hW9⟩ : ∃ W, W = (wr.setCell ⟨w.heap.size + 1, 0, none⟩ (.slice A1 n1 c1)).setCell ⟨w.heap.size + 1, 1, none⟩ (.slice A3 k c3) := ⟨_, rfl⟩
      have hP : W9.heap[w.heap.size + 1]? = some (.cells #[.slice A1 n1 c1, .slice A3 k c3] 32 (0, 0)) := by rw [hW9]; simp [World.setCell, Array.getElem?_modify, hRw]
      have hcc : Chg (fun j => j = w.heap.size + 1) wr W9 := by rw [hW9]; exact (chg_put _ _).trans (chg_put _ _)
      have hgx : Gr w W9 := by rw [hW9]; exact ((hgw2.trans hgr).setCell (Nat.le_add_right _ 1) _).setCell (Nat.le_add_right _ 1) _
      have HP := Lib.hid hP
      have HW9 := Lib.hid hW9
      have HO : Hid (W9.ownsRow w2.heap.size 95 5 (.slice A3 k c3) k ((treeN n n1).pipes.flatMap GPipe.cells)) := Lib.hid (own_chg hfull hcc (fun j hj e => by have := own_low hfull hj; omega))
      have HFF : Hid (W9.ownsRow w.heap.size 2 1 (.slice FA k fc) k (nats (foL (eds n.pipes) n1))) := Lib.hid (own_base (own_chg (own_gr HFo.out hgr) hcc (fun j hj e => by have := own_low HFo.out hj; omega)) hg1.size)
      have HOk := Lib.hid (HA.out.gr hgx)
      clear hfull hcc hRw hW9 hP
      go_wp2_with fail
      rw [← HW9.out]
      (try simp only [Exit.inBlock, Exit.then])
      refine bodyPost_ret (results_row_tmp Tryz.results132 _ _ (w.heap.size + 1) 32 #[.slice A1 n1 c1, .slice A3 k c3] (0, 0) _ ?_ HP.out Tryz.underlying32 rfl (by kernel_rfl)) ?_ ?_
      · rfl
      · rfl
      exact ⟨A3, k, c3, FA, fc, rfl, HFl.out.symm, ⟨⟨HOk.out.nodes, Sl.of_own HO.out, HOk.out.names⟩, HOk.out.c1, (own_cap HO.out).1, HOk.out.m1, by omega⟩, own_base HO.out hgw2.size, HFF.out, hgx⟩
def lenV : Value → Nat
  | .slice _ n _ => n
  | _ => 0
/-- The search from a in the network. -/
def sA (n : GNet) (N a : Nat) : St := srch (eds n.pipes) (zf (eds n.pipes)) N a
def pA (n : GNet) (N a b : Nat) : List Nat := pth (eds n.pipes) (sA n N a) a b
def wayL (n : GNet) (N a b : Nat) : List Nat := ((pA n N a b).map fun u => (sA n N a).ent.getD u 0).reverse
def wayTo (n : GNet) (N a b k : Nat) : List Nat := (((pA n N a b).take k).map fun u => (sA n N a).ent.getD u 0).reverse
theorem wayTo_succ {n : GNet} {N a b k v : Nat} (h : (pA n N a b)[k]? = some v) : wayTo n N a b (k + 1) = (sA n N a).ent.getD v 0 :: wayTo n N a b k := by
  rw [wayTo, List.take_add_one, h, Option.toList_some, List.map_append, List.reverse_append]; rfl
theorem wayTo_end {n : GNet} {N a b k : Nat} (h : (pA n N a b).length ≤ k) : wayTo n N a b k = wayL n N a b := by rw [wayTo, List.take_of_length_le h]; rfl
/-- Where the walk along the way stands: at the node v, k pipes are done. -/
structure WAt (n : GNet) (N a b k v : Nat) : Prop where
  le : k ≤ (pA n N a b).length
  lt : v < N
  at_ : (k < (pA n N a b).length ∧ (pA n N a b)[k]? = some v ∧ v ≠ a) ∨ (k = (pA n N a b).length ∧ v = a)
structure WNext (n : GNet) (N a b k v : Nat) (x : GPipe) : Prop where
  pk : (pA n N a b)[k]? = some v
  ne : v ≠ a
  kl : k < (pA n N a b).length
  ent : (entL N a (sA n N a))[v]? = some (((sA n N a).ent.getD v 0 : Nat) : Int)
  px : n.pipes[(sA n N a).ent.getD v 0]? = some x
  tc : touch (edOf x) v = true
  bk : back (eds n.pipes) (sA n N a) v = oth (edOf x) v
  nx : WAt n N a b (k + 1) (oth (edOf x) v)
theorem way_start {n : GNet} {N a b : Nat} (hE : EsOk (eds n.pipes) N) (ha : a < N) (hb : b ∈ (sA n N a).ord) : WAt n N a b 0 b := by
  have hI := z_inv hE ha
  by_cases e : b = a
  · have : (pA n N a b) = [] := by rw [pA, e]; exact pth_end _ _ _
    exact ⟨Nat.zero_le _, hI.lt b hb, .inr ⟨by rw [this]; rfl, e⟩⟩
  · have h1 : pA n N a b = b :: pth (eds n.pipes) (sA n N a) a (back (eds n.pipes) (sA n N a) b) := pth_step hE hI hb e
    exact ⟨Nat.zero_le _, hI.lt b hb, .inl ⟨by rw [h1]; simp, by rw [h1]; rfl, e⟩⟩
theorem way_next {n : GNet} {N a b k v : Nat} (hE : EsOk (eds n.pipes) N) (ha : a < N) (hb : b ∈ (sA n N a).ord) (h : WAt n N a b k v) (hv : v ≠ a) : ∃ x, WNext n N a b k v x := by
  have hI : Inv (eds n.pipes) (zf (eds n.pipes)) N a (sA n N a) := z_inv hE ha
  obtain ⟨jb, hjb⟩ := List.getElem?_of_mem hb
  obtain ⟨hall, _⟩ := pth_all hE hI jb b hjb
  obtain ⟨h1, h2, h3⟩ : k < (pA n N a b).length ∧ (pA n N a b)[k]? = some v ∧ v ≠ a := by
    rcases h.at_ with h1 | h1
    · exact h1
    · exact absurd h1.2 hv
  obtain ⟨_, i, _, hi⟩ := hall v (List.mem_of_getElem? h2)
  have hvo : v ∈ (sA n N a).ord := List.mem_of_getElem? hi
  obtain ⟨e, j, q1, q2, q3, _, q5, q6⟩ := hI.back hE hi hv
  have hel : (sA n N a).ent.getD v 0 < n.pipes.length := by
    have := (List.getElem?_eq_some_iff.1 q1).1
    rw [eds, List.length_map] at this
    exact this
  have hx : n.pipes[(sA n N a).ent.getD v 0]? = some n.pipes[(sA n N a).ent.getD v 0] := List.getElem?_eq_getElem hel
  have he : edOf n.pipes[(sA n N a).ent.getD v 0] = e := by
    rw [eds, List.getElem?_map, hx] at q1
    simpa using q1
  have hbk : back (eds n.pipes) (sA n N a) v = oth e v := by
    rw [back, List.getD_eq_getElem?_getD, q1]; rfl
  refine ⟨_, h2, hv, h1, ?_, hx, ?_, by rw [he]; exact hbk, ?_⟩
  · rw [entL, List.getElem?_map, List.getElem?_range (hI.lt v hvo)]
    simp [hvo, hv]
  · rw [he, touch]
    rcases q5 with ⟨_, y⟩ | ⟨_, y⟩
    · simp [y]
    · simp [y]
  · rw [he, ← hbk]
    have hbl : back (eds n.pipes) (sA n N a) v < N := hI.lt _ (List.mem_of_getElem? q2)
    rcases pth_next hE hI jb b hjb k v h2 with h4 | ⟨h4, h5⟩
    · have h4' : (pA n N a b)[k + 1]? = some (back (eds n.pipes) (sA n N a) v) := h4
      have hl := (List.getElem?_eq_some_iff.1 h4').1
      exact ⟨Nat.le_of_lt hl, hbl, .inl ⟨hl, h4', (hall _ (List.mem_of_getElem? h4')).1⟩⟩
    · have h4' : (pA n N a b).length = k + 1 := h4
      exact ⟨by omega, hbl, .inr ⟨h4'.symm, h5⟩⟩
theorem way_len {n : GNet} {N a b : Nat} (hE : EsOk (eds n.pipes) N) (ha : a < N) (hb : b ∈ (sA n N a).ord) : (pA n N a b).length ≤ N := by
  have hI : Inv (eds n.pipes) (zf (eds n.pipes)) N a (sA n N a) := z_inv hE ha
  obtain ⟨jb, hjb⟩ := List.getElem?_of_mem hb
  obtain ⟨hall, hnd⟩ := pth_all hE hI jb b hjb
  exact nodup_len hnd fun u hu => by
    obtain ⟨_, i, _, hi⟩ := hall u hu
    exact hI.lt u (List.mem_of_getElem? hi)
set_option maxHeartbeats 6400000 in
set_option maxRecDepth 100000 in
theorem l04Path_any {A1 A2 : Option Addr} {n1 c1 n2 c2 : Nat} (n : GNet) (a b : Nat) (w : World) (hA : NetAt w A1 n1 c1 A2 n2 c2 n) (hok : netOk n = true) (ha : a < n1) (hb : b ∈ (sA n n1 a).ord) :
    Calls Tryz.prog 173 #[.agg #[.slice A1 n1 c1, .slice A2 n2 c2], .int .i64 a, .int .i64 b] w fun e w' => ∃ g c, e = .returned (.slice (some ⟨g, 0, none⟩) (pA n n1 a b).length c) ∧ w'.ownsRow w.heap.size 2 1 (.slice (some ⟨g, 0, none⟩) (pA n n1 a b).length c) (pA n n1 a b).length (nats (wayL n n1 a b)) ∧ Gr w w' := by
  obtain ⟨i0, hi0, hz0, hz1, hz2⟩ := info_parts infoInt64
  have hm1 := hA.m1
  have hm2 := hA.m2
  have hE : EsOk (eds n.pipes) n1 := by have := eds_ok hok; rw [hA.l1] at this; exact this
  have h24 : n1 ≤ 24 := by have := (netOk_all hok).1.2.1; rw [hA.l1] at this; exact this
  have hwl := way_len hE ha hb
  obtain ⟨L, hL⟩ : ∃ L, L = (pA n n1 a b).length := ⟨_, rfl⟩
  rw [← hL] at hwl ⊢
  have HL := Lib.hid hL
  have HE := Lib.hid hE
  have HA := Lib.hid hA
  have Hok := Lib.hid hok
  have Hb := Lib.hid hb
  clear hA hok hE hb hL
  go_enter Tryz.func173, Tryz.ntmps173
  go_wp2_with fail
  obtain ⟨w1, hw1⟩ : ∃ W, W = w.alloc (.cells #[.slice A1 n1 c1, .slice A2 n2 c2] 32) := ⟨_, rfl⟩
  have hg1 : Gr w w1 := by rw [hw1]; exact (Gr.refl _).alloc _
  have y0 : w1.cell? ⟨w.heap.size, 0, none⟩ = some (.slice A1 n1 c1) := by rw [hw1]; simp [go_sem]
  have y1 : w1.cell? ⟨w.heap.size, 1, none⟩ = some (.slice A2 n2 c2) := by rw [hw1]; simp [go_sem]
  rw [← hw1]
  clear hw1
  refine (l04Search_any n a _ (HA.out.gr hg1) Hok.out ha).mono ?_
  rintro e w2 ⟨O, gE, gS, rfl, ⟨AO, cO, rfl⟩, hSq, hg2⟩
  have HSq := Lib.hid hSq.ent
  have hgw2 := hg1.trans hg2
  replace y0 := hg2.has y0
  replace y1 := hg2.has y1
  have hb2 := lt_of_cell y0
  have hE2 := own_block_lt hSq.ent (k := gE) rfl
  clear hSq hg2
  go_wp2_with fail
  have HLit : Hid ((w2.alloc (.cells #[] 2)).ownsRow w2.heap.size 2 1 (.slice (some ⟨w2.heap.size, 0, none⟩) 0 0) 0 (nats (wayTo n n1 a b 0))) := Lib.hid (World.ownsRow_lit w2 #[] 0 (Nat.le_refl _) (by unfold maxLen; omega) rfl)
  go_loopw [9, 10] (fun o at_ wr => ∃ k v : Nat, at_ = .int .i64 v ∧ WAt n n1 a b k v ∧ (∃ g c, o = .slice (some ⟨g, 0, none⟩) k c ∧ wr.ownsRow w2.heap.size 2 1 (.slice (some ⟨g, 0, none⟩) k c) k (nats (wayTo n n1 a b k))) ∧ Gr w2 wr) (fun o _ _ => L - lenV o)
  case atStart => exact ⟨0, b, rfl, way_start HE.out ha Hb.out, ⟨_, _, rfl, HLit.out⟩, (Gr.refl _).alloc _⟩
  case round =>
    obtain ⟨k, v, rfl, hW, ⟨g, c, rfl, hown⟩, hgr⟩ := hrel
    have hkL := hW.le
    rw [← HL.out] at hkL
    have hvn := hW.lt
    have HW := Lib.hid hW
    have Hown := Lib.hid hown
    have u0 := hgr.has y0
    have u1 := hgr.has y1
    have hgrs := hgr.size
    clear hW hown HLit
    by_cases hva : v = a
    · subst hva
      obtain rfl : k = L := by
        rcases HW.out.at_ with h | h
        · exact absurd rfl h.2.2
        · rw [HL.out]; exact h.1
      go_wp2_with fail
      go_ret
      exact ⟨g, c, rfl, own_base (own_eq' Hown.out (by rw [wayTo_end (by rw [HL.out]; exact Nat.le_refl _)])) hgw2.size, hgw2.trans hgr⟩
    · have tv : ((v : Int) != (a : Int)) = true := by simp; omega
      obtain ⟨x, hN⟩ := way_next HE.out ha Hb.out HW.out hva
      obtain ⟨q, hq⟩ : ∃ q, q = (sA n n1 a).ent.getD v 0 := ⟨_, rfl⟩
      have hent := hN.ent
      rw [← hq] at hent
      have hxq := hN.px
      rw [← hq] at hxq
      have hkl := hN.kl
      rw [← HL.out] at hkl
      obtain ⟨x0, _⟩ := own_int (own_gr HSq.out hgr) hent
      have Hst : Hid (wayTo n n1 a b (k + 1) = q :: wayTo n n1 a b k) := Lib.hid (by rw [wayTo_succ hN.pk, hq])
      have Hnx := Lib.hid hN.nx
      have Htc := Lib.hid hN.tc
      have Hxq := Lib.hid hxq
      have t1 : (v : Int) < (n1 : Int) := by omega
      have t0 : (0 : Int) ≤ (v : Int) := by omega
      have Hcel := Lib.hid (Sl.cells (Sl.of_own Hown.out))
      have Hlen : Hid ((nats (wayTo n n1 a b k)).length = k * 1) := Lib.hid (Sl.of_own Hown.out).1
      have hlow := own_low Hown.out (k := g) rfl
      clear hent hq hxq hN hva
      go_wp2_with (at_builtin; (refine wpList_append_own _ rfl _ _ _ rfl w2.heap.size 2 i0 _ 1 8 Tryz.underlying26 hi0 hz0 hz1 hz2 rfl (by omega) _ 1 [.int .i64 (q : Int)] rfl (World.ownsRow_lit wr (e := 2) (size := 1) #[.int .i64 (q : Int)] 1 (by omega) (by unfold maxLen; omega) rfl) ⟨g, 0, none⟩ k _ (nats (wayTo n n1 a b k)) rfl Hlen.out (fun j u hu => ((Gr.refl wr).alloc _).has (Hcel.out j u hu)) (ints_one _) (by unfold maxLen; omega) (by omega) (by simp; omega) ?_; intro v' w9 hown9 hg9 _))
      obtain ⟨A9, c9, rfl⟩ := own_shape hown9
      rw [Nat.add_comm 1 k] at hown9
      rw [Nat.add_comm 1 k]
      obtain ⟨g9, rfl, hg9b, _⟩ := own_form hown9 (Nat.succ_pos k)
      have Ho9 := Lib.hid hown9
      have hlit := World.ownsRow_lit wr (base := wr.heap.size) (e := 2) (size := 1) #[.int .i64 (q : Int)] 1 (Nat.le_refl _) (by unfold maxLen; omega) rfl
      have hgr9 : Gr wr w9 := ((Gr.refl wr).alloc _).grown hg9 (fun j hj => own_low hlit hj)
      have hgw9 := hgr.trans hgr9
      replace u0 := hgr9.has u0
      replace u1 := hgr9.has u1
      replace x0 := hgr9.has x0
      clear hown9 hg9 hgr9 hlit
      go_upto_region 6 with fail
      refine wp_region_text (fun w' => Gr w9 w') (by kernel_rfl) (by kernel_rfl) (by decide) (Gr.refl _).drew ?_
      repeat (first
        | ((with_reducible refine wpText_skip ?_ ?_)
           · rfl
           simp only [Act.put, List.setIfInBounds_toArray, List.set_cons_zero, List.set_cons_succ])
        | ((with_reducible refine wpText_yield (v := ?_) ?_ ?_ ?_)
           rotate_left
           · rfl
           · (intro W hW; have ku0 := hW.has u0; have ku1 := hW.has u1; have kx0 := hW.has x0; first | (go_simp; done) | (go_simp; with_reducible rfl))
           simp only [Act.put, List.setIfInBounds_toArray, List.set_cons_zero, List.set_cons_succ])
        | ((with_reducible refine wpText_yield1 (v := ?_) ?_ ?_ ?_)
           rotate_left
           · rfl
           · (intro W hW; have ku0 := hW.has u0; have ku1 := hW.has u1; have kx0 := hW.has x0; first | (go_simp; done) | (go_simp; with_reducible rfl))
           simp only [Act.put, List.setIfInBounds_toArray, List.set_cons_zero, List.set_cons_succ]))
      refine wpText_do (.int .i64 (oth (edOf x) v : Nat)) (by rfl) (fun W hW K hK => ?_) ?_
      ·
        have ku0 := hW.has u0
        have ku1 := hW.has u1
        have kx0 := hW.has x0
        go_simp
        refine (l02Other_any n q v x _ (HA.out.gr ((hgw2.trans hgw9).trans hW)) Hok.out Hxq.out Htc.out).mono ?_
        rintro e w' ⟨rfl, hg⟩
        exact hK _ (hW.trans hg)
      simp only [Act.put, List.setIfInBounds_toArray, List.set_cons_zero, List.set_cons_succ]
      repeat (first
        | ((with_reducible refine wpText_skip ?_ ?_)
           · rfl
           simp only [Act.put, List.setIfInBounds_toArray, List.set_cons_zero, List.set_cons_succ])
        | ((with_reducible refine wpText_yield (v := ?_) ?_ ?_ ?_)
           rotate_left
           · rfl
           · (intro W hW; have ku0 := hW.has u0; have ku1 := hW.has u1; have kx0 := hW.has x0; first | (go_simp; done) | (go_simp; with_reducible rfl))
           simp only [Act.put, List.setIfInBounds_toArray, List.set_cons_zero, List.set_cons_succ])
        | ((with_reducible refine wpText_yield1 (v := ?_) ?_ ?_ ?_)
           rotate_left
           · rfl
           · (intro W hW; have ku0 := hW.has u0; have ku1 := hW.has u1; have kx0 := hW.has x0; first | (go_simp; done) | (go_simp; with_reducible rfl))
           simp only [Act.put, List.setIfInBounds_toArray, List.set_cons_zero, List.set_cons_succ]))
      rintro W6 hS6
      have Ho6 := Lib.hid (own_gr Ho9.out hS6)
      have hgw6 := hgw9.trans hS6
      clear Ho9 u0 u1 x0
      go_wp2_with fail
      go_roundw
      case rel => exact ⟨k + 1, _, rfl, Hnx.out, ⟨_, _, rfl, own_eq' Ho6.out (by rw [Hst.out]; rfl)⟩, hgw6⟩
      case measure => simp [lenV]; omega
end Go.Proofs.YthhmhigddmimjaaGreat
