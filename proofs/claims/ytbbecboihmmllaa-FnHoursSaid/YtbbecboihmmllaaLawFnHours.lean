/-
  For every input the law FnHours returns true. No condition. The walk is printed by gen_laws.py.
-/
import Derived.Test.YtbbecboihmmllaaLawKs
import Derived.Test.YtbbecboihmmllaaHrC
import Derived.Test.YtbbecboihmmllaaHrB
import Derived.Test.YtbbecboihmmllaaLawKs
import Derived.Test.YtbbecboihmmllaaSeat
import Derived.Test.YtbbecboihmmllaaOpen
import Derived.Test.YtbbecboihmmllaaText
import Derived.Deep.RegionHeld3
namespace Go.Proofs.Ytbbecboihmmllaa
open Go.ChangeShapes Go.WideShapes Go.ChangeAt Go.RowKit Go.Deep Go.Joins

namespace FnHours
set_option maxHeartbeats 4000000 in
set_option maxRecDepth 100000 in
theorem walk (A : Option Addr) (n c : Nat) (bs : List UInt8) (w : World) (hR : Sl w 1 A n (byts bs)) (hnc : n ≤ c) (_hm : n ≤ maxLen) :
    Calls Try.prog 3 #[.slice A n c] w fun e w' => e = .returned (.bool true) ∧ Gr w w' := by
  have HR := Lib.hid hR
  clear hR
  go_enter Try.func3, Try.ntmps3
  go_wp2_with fail
  refine (big_any _).mono ?_
  rintro e w' ⟨rfl, hw'⟩
  rw [← hw']
  clear hw'
  by_cases hb : 4096 < n
  · have tb : decide (4096 < n) = true := decide_eq_true hb
    go_wp2_with fail
    go_ret
    exact ⟨rfl, Gr.refl _⟩
  have tb : decide (4096 < n) = false := decide_eq_false hb
  go_wp2_with fail
  refine (DrawStepHour_any bs _ ⟨HR.out, hnc, by omega⟩).mono ?_
  rintro e w0 ⟨A1, n1, c1, A2, n2, c2, v, ⟨B1, m1, d1, lo⟩, ⟨B2, m2, d2, hi⟩, ⟨B3, m3, d3, nw⟩, ⟨G1, q1, r1, fl⟩, ⟨G2, q2, r2, sup⟩, rfl, hN, h1, h2, h3, h4, h5, gw⟩
  dsimp only at h1 h2 h3 h4 h5
  obtain ⟨w1, hw1⟩ : ∃ W, W = ((w0.alloc (.cells #[.slice A1 n1 c1, .slice A2 n2 c2] 27)).alloc (.cells #[.slice B1 m1 d1, .slice B2 m2 d2, .slice B3 m3 d3] 30)).alloc (.cells #[.slice G1 q1 r1, .slice G2 q2 r2] 32) := ⟨_, rfl⟩
  obtain ⟨M, hM⟩ : ∃ M, M = w0.heap.size := ⟨_, rfl⟩
  have y0 : w1.cell? ⟨M, 0, none⟩ = some (.slice A1 n1 c1) := by rw [hw1, hM]; simp [go_sem]
  have y1 : w1.cell? ⟨M, 1, none⟩ = some (.slice A2 n2 c2) := by rw [hw1, hM]; simp [go_sem]
  have z0 : w1.cell? ⟨M + 1, 0, none⟩ = some (.slice B1 m1 d1) := by rw [hw1, hM]; simp [go_sem]
  have z1 : w1.cell? ⟨M + 1, 1, none⟩ = some (.slice B2 m2 d2) := by rw [hw1, hM]; simp [go_sem]
  have z2 : w1.cell? ⟨M + 1, 2, none⟩ = some (.slice B3 m3 d3) := by rw [hw1, hM]; simp [go_sem]
  have u0 : w1.cell? ⟨M + 1 + 1, 0, none⟩ = some (.slice G1 q1 r1) := by rw [hw1, hM]; simp [go_sem]
  have u1 : w1.cell? ⟨M + 1 + 1, 1, none⟩ = some (.slice G2 q2 r2) := by rw [hw1, hM]; simp [go_sem]
  have h01 : Gr w0 w1 := by rw [hw1]; exact (((Gr.refl _).alloc _).alloc _).alloc _
  replace gw : Gr w w1 := gw.trans h01
  obtain ⟨b, hb⟩ : ∃ b : GBuf, b = ⟨lo, hi, nw⟩ := ⟨_, rfl⟩
  have HN := Lib.hid (hN.gr h01)
  have HB : Hid (BufAt w1 B1 m1 d1 B2 m2 d2 B3 m3 d3 b) := Lib.hid (by rw [hb]; exact ⟨h1.gr h01, h2.gr h01, h3.gr h01⟩)
  have HF := Lib.hid (h4.gr h01)
  have HS := Lib.hid (h5.gr h01)
  have hsm := h5.small
  have Hw1 := Lib.hid hw1
  have HM := Lib.hid hM
  clear hw1 hM hN h01 h1 h2 h3 h4 h5 hb
  go_wp2_with fail
  rw [← Hw1.out, ← HM.out]
  refine (StepHour_any v b fl sup _ HN.out HB.out HF.out HS.out).mono ?_
  rintro e w2 ⟨X1, X1n, X1c, X2, X2n, X2c, X3, X3n, X3c, rfl, hX, h⟩
  replace gw := gw.trans h
  replace y0 := h.has y0
  replace y1 := h.has y1
  replace z0 := h.has z0
  replace z1 := h.has z1
  replace z2 := h.has z2
  replace u0 := h.has u0
  replace u1 := h.has u1
  replace HN := Lib.hid (HN.out.gr h)
  replace HB := Lib.hid (HB.out.gr h)
  replace HF := Lib.hid (HF.out.gr h)
  replace HS := Lib.hid (HS.out.gr h)
  obtain ⟨w3, hw⟩ : ∃ W, W = w2.alloc (.cells #[.slice X1 X1n X1c, .slice X2 X2n X2c, .slice X3 X3n X3c] 30) := ⟨_, rfl⟩
  obtain ⟨XM, hM⟩ : ∃ M, M = w2.heap.size := ⟨_, rfl⟩
  have x0 : w3.cell? ⟨XM, 0, none⟩ = some (.slice X1 X1n X1c) := by rw [hw, hM]; simp [go_sem]
  have x1 : w3.cell? ⟨XM, 1, none⟩ = some (.slice X2 X2n X2c) := by rw [hw, hM]; simp [go_sem]
  have x2 : w3.cell? ⟨XM, 2, none⟩ = some (.slice X3 X3n X3c) := by rw [hw, hM]; simp [go_sem]
  clear h
  have h : Gr w2 w3 := by rw [hw]; exact (Gr.refl _).alloc _
  have HX := Lib.hid (hX.gr h)
  replace gw := gw.trans h
  replace y0 := h.has y0
  replace y1 := h.has y1
  replace z0 := h.has z0
  replace z1 := h.has z1
  replace z2 := h.has z2
  replace u0 := h.has u0
  replace u1 := h.has u1
  replace HN := Lib.hid (HN.out.gr h)
  replace HB := Lib.hid (HB.out.gr h)
  replace HF := Lib.hid (HF.out.gr h)
  replace HS := Lib.hid (HS.out.gr h)
  have Hw := Lib.hid hw
  have HM := Lib.hid hM
  clear hw hM h hX
  go_upto_region 5 with fail
  rw [← Hw.out, ← HM.out]
  clear Hw HM
  go_wp2_with fail
  refine (spStepHour_any v b fl sup _ HN.out HB.out HF.out HS.out).mono ?_
  rintro e w4 ⟨O1, O1n, O1c, O2, O2n, O2c, O3, O3n, O3c, rfl, hO, h⟩
  replace gw := gw.trans h
  replace y0 := h.has y0
  replace y1 := h.has y1
  replace z0 := h.has z0
  replace z1 := h.has z1
  replace z2 := h.has z2
  replace u0 := h.has u0
  replace u1 := h.has u1
  replace x0 := h.has x0
  replace x1 := h.has x1
  replace x2 := h.has x2
  replace HN := Lib.hid (HN.out.gr h)
  replace HB := Lib.hid (HB.out.gr h)
  replace HF := Lib.hid (HF.out.gr h)
  replace HS := Lib.hid (HS.out.gr h)
  replace HX := Lib.hid (HX.out.gr h)
  obtain ⟨w5, hw⟩ : ∃ W, W = w4.alloc (.cells #[.slice O1 O1n O1c, .slice O2 O2n O2c, .slice O3 O3n O3c] 30) := ⟨_, rfl⟩
  obtain ⟨OM, hM⟩ : ∃ M, M = w4.heap.size := ⟨_, rfl⟩
  have o0 : w5.cell? ⟨OM, 0, none⟩ = some (.slice O1 O1n O1c) := by rw [hw, hM]; simp [go_sem]
  have o1 : w5.cell? ⟨OM, 1, none⟩ = some (.slice O2 O2n O2c) := by rw [hw, hM]; simp [go_sem]
  have o2 : w5.cell? ⟨OM, 2, none⟩ = some (.slice O3 O3n O3c) := by rw [hw, hM]; simp [go_sem]
  clear h
  have h : Gr w4 w5 := by rw [hw]; exact (Gr.refl _).alloc _
  have HO := Lib.hid (hO.gr h)
  replace gw := gw.trans h
  replace y0 := h.has y0
  replace y1 := h.has y1
  replace z0 := h.has z0
  replace z1 := h.has z1
  replace z2 := h.has z2
  replace u0 := h.has u0
  replace u1 := h.has u1
  replace x0 := h.has x0
  replace x1 := h.has x1
  replace x2 := h.has x2
  replace HN := Lib.hid (HN.out.gr h)
  replace HB := Lib.hid (HB.out.gr h)
  replace HF := Lib.hid (HF.out.gr h)
  replace HS := Lib.hid (HS.out.gr h)
  replace HX := Lib.hid (HX.out.gr h)
  have Hw := Lib.hid hw
  have HM := Lib.hid hM
  clear hw hM h hO
  go_upto_region 6 with fail
  rw [← Hw.out, ← HM.out]
  clear Hw HM
  go_wp2_with fail
  refine (FirstTrouble_any v b fl sup _ HN.out HB.out HF.out HS.out).mono ?_
  rintro e w6 ⟨rfl, h⟩
  replace gw := gw.trans h
  replace y0 := h.has y0
  replace y1 := h.has y1
  replace z0 := h.has z0
  replace z1 := h.has z1
  replace z2 := h.has z2
  replace u0 := h.has u0
  replace u1 := h.has u1
  replace x0 := h.has x0
  replace x1 := h.has x1
  replace x2 := h.has x2
  replace o0 := h.has o0
  replace o1 := h.has o1
  replace o2 := h.has o2
  replace HN := Lib.hid (HN.out.gr h)
  replace HB := Lib.hid (HB.out.gr h)
  replace HF := Lib.hid (HF.out.gr h)
  replace HS := Lib.hid (HS.out.gr h)
  replace HX := Lib.hid (HX.out.gr h)
  replace HO := Lib.hid (HO.out.gr h)
  clear h
  go_wp2_with fail
  refine (spFirstTrouble_any v b fl sup _ HN.out HB.out HF.out HS.out).mono ?_
  rintro e w7 ⟨rfl, h⟩
  replace gw := gw.trans h
  replace y0 := h.has y0
  replace y1 := h.has y1
  replace z0 := h.has z0
  replace z1 := h.has z1
  replace z2 := h.has z2
  replace u0 := h.has u0
  replace u1 := h.has u1
  replace x0 := h.has x0
  replace x1 := h.has x1
  replace x2 := h.has x2
  replace o0 := h.has o0
  replace o1 := h.has o1
  replace o2 := h.has o2
  replace HN := Lib.hid (HN.out.gr h)
  replace HB := Lib.hid (HB.out.gr h)
  replace HF := Lib.hid (HF.out.gr h)
  replace HS := Lib.hid (HS.out.gr h)
  replace HX := Lib.hid (HX.out.gr h)
  replace HO := Lib.hid (HO.out.gr h)
  clear h
  go_wp2_with fail
  refine wp_region_text (fun w' => Gr w7 w') (by kernel_rfl) (by kernel_rfl) (by decide) (Gr.refl _).drew ?_
  repeat (first
    | ((with_reducible refine wpText_skip ?_ ?_)
       · rfl
       simp only [Act.put, List.setIfInBounds_toArray, List.set_cons_zero, List.set_cons_succ])
    | ((with_reducible refine wpText_yield (v := ?_) ?_ ?_ ?_)
       rotate_left
       · rfl
       · (intro W hW; have ky0 := hW.has y0; have ky1 := hW.has y1; have kz0 := hW.has z0; have kz1 := hW.has z1; have kz2 := hW.has z2; have kx2 := hW.has x2; have ko2 := hW.has o2; first | (go_simp; done) | (go_simp; with_reducible rfl))
       simp only [Act.put, List.setIfInBounds_toArray, List.set_cons_zero, List.set_cons_succ])
    | ((with_reducible refine wpText_yield1 (v := ?_) ?_ ?_ ?_)
       rotate_left
       · rfl
       · (intro W hW; have ky0 := hW.has y0; have ky1 := hW.has y1; have kz0 := hW.has z0; have kz1 := hW.has z1; have kz2 := hW.has z2; have kx2 := hW.has x2; have ko2 := hW.has o2; first | (go_simp; done) | (go_simp; with_reducible rfl))
       simp only [Act.put, List.setIfInBounds_toArray, List.set_cons_zero, List.set_cons_succ]))
  refine wpText_do (.bool true) (by rfl) (fun W hW K hK => ?_) ?_
  ·
    have ky0 := hW.has y0
    have ky1 := hW.has y1
    have kz0 := hW.has z0
    have kz1 := hW.has z1
    have kz2 := hW.has z2
    have kx2 := hW.has x2
    have ko2 := hW.has o2
    go_simp
    refine (likeInts_same (shRes v b fl sup).nw _ (HX.out.nw.gr hW) (HO.out.nw.gr hW)).mono ?_
    rintro e w' ⟨rfl, hg⟩
    exact hK _ (hW.trans hg)
  simp only [Act.put, List.setIfInBounds_toArray, List.set_cons_zero, List.set_cons_succ]
  repeat (first
    | ((with_reducible refine wpText_skip ?_ ?_)
       · rfl
       simp only [Act.put, List.setIfInBounds_toArray, List.set_cons_zero, List.set_cons_succ])
    | ((with_reducible refine wpText_yield (v := ?_) ?_ ?_ ?_)
       rotate_left
       · rfl
       · (intro W hW; have ky0 := hW.has y0; have ky1 := hW.has y1; have kz0 := hW.has z0; have kz1 := hW.has z1; have kz2 := hW.has z2; have kx2 := hW.has x2; have ko2 := hW.has o2; first | (go_simp; done) | (go_simp; with_reducible rfl))
       simp only [Act.put, List.setIfInBounds_toArray, List.set_cons_zero, List.set_cons_succ])
    | ((with_reducible refine wpText_yield1 (v := ?_) ?_ ?_ ?_)
       rotate_left
       · rfl
       · (intro W hW; have ky0 := hW.has y0; have ky1 := hW.has y1; have kz0 := hW.has z0; have kz1 := hW.has z1; have kz2 := hW.has z2; have kx2 := hW.has x2; have ko2 := hW.has o2; first | (go_simp; done) | (go_simp; with_reducible rfl))
       simp only [Act.put, List.setIfInBounds_toArray, List.set_cons_zero, List.set_cons_succ]))
  refine wpText_do (.bool (ibB v b)) (by rfl) (fun W hW K hK => ?_) ?_
  ·
    have ky0 := hW.has y0
    have ky1 := hW.has y1
    have kz0 := hW.has z0
    have kz1 := hW.has z1
    have kz2 := hW.has z2
    have kx2 := hW.has x2
    have ko2 := hW.has o2
    go_simp
    refine (IsBuffers_any v b _ (HN.out.gr hW) (HB.out.gr hW)).mono ?_
    rintro e w' ⟨rfl, hg⟩
    exact hK _ (hW.trans hg)
  simp only [Act.put, List.setIfInBounds_toArray, List.set_cons_zero, List.set_cons_succ]
  repeat (first
    | ((with_reducible refine wpText_skip ?_ ?_)
       · rfl
       simp only [Act.put, List.setIfInBounds_toArray, List.set_cons_zero, List.set_cons_succ])
    | ((with_reducible refine wpText_yield (v := ?_) ?_ ?_ ?_)
       rotate_left
       · rfl
       · (intro W hW; have ky0 := hW.has y0; have ky1 := hW.has y1; have kz0 := hW.has z0; have kz1 := hW.has z1; have kz2 := hW.has z2; have kx2 := hW.has x2; have ko2 := hW.has o2; first | (go_simp; done) | (go_simp; with_reducible rfl))
       simp only [Act.put, List.setIfInBounds_toArray, List.set_cons_zero, List.set_cons_succ])
    | ((with_reducible refine wpText_yield1 (v := ?_) ?_ ?_ ?_)
       rotate_left
       · rfl
       · (intro W hW; have ky0 := hW.has y0; have ky1 := hW.has y1; have kz0 := hW.has z0; have kz1 := hW.has z1; have kz2 := hW.has z2; have kx2 := hW.has x2; have ko2 := hW.has o2; first | (go_simp; done) | (go_simp; with_reducible rfl))
       simp only [Act.put, List.setIfInBounds_toArray, List.set_cons_zero, List.set_cons_succ]))
  refine wpText_do (.bool (ibB v b)) (by rfl) (fun W hW K hK => ?_) ?_
  ·
    have ky0 := hW.has y0
    have ky1 := hW.has y1
    have kz0 := hW.has z0
    have kz1 := hW.has z1
    have kz2 := hW.has z2
    have kx2 := hW.has x2
    have ko2 := hW.has o2
    go_simp
    refine (spIsBuffers_any v b _ (HN.out.gr hW) (HB.out.gr hW)).mono ?_
    rintro e w' ⟨rfl, hg⟩
    exact hK _ (hW.trans hg)
  simp only [Act.put, List.setIfInBounds_toArray, List.set_cons_zero, List.set_cons_succ]
  repeat (first
    | ((with_reducible refine wpText_skip ?_ ?_)
       · rfl
       simp only [Act.put, List.setIfInBounds_toArray, List.set_cons_zero, List.set_cons_succ])
    | ((with_reducible refine wpText_yield (v := ?_) ?_ ?_ ?_)
       rotate_left
       · rfl
       · (intro W hW; have ky0 := hW.has y0; have ky1 := hW.has y1; have kz0 := hW.has z0; have kz1 := hW.has z1; have kz2 := hW.has z2; have kx2 := hW.has x2; have ko2 := hW.has o2; first | (go_simp; done) | (go_simp; with_reducible rfl))
       simp only [Act.put, List.setIfInBounds_toArray, List.set_cons_zero, List.set_cons_succ])
    | ((with_reducible refine wpText_yield1 (v := ?_) ?_ ?_ ?_)
       rotate_left
       · rfl
       · (intro W hW; have ky0 := hW.has y0; have ky1 := hW.has y1; have kz0 := hW.has z0; have kz1 := hW.has z1; have kz2 := hW.has z2; have kx2 := hW.has x2; have ko2 := hW.has o2; first | (go_simp; done) | (go_simp; with_reducible rfl))
       simp only [Act.put, List.setIfInBounds_toArray, List.set_cons_zero, List.set_cons_succ]))
  intro w8 h
  replace gw := gw.trans h
  replace y0 := h.has y0
  replace y1 := h.has y1
  replace z0 := h.has z0
  replace z1 := h.has z1
  replace z2 := h.has z2
  replace u0 := h.has u0
  replace u1 := h.has u1
  replace x0 := h.has x0
  replace x1 := h.has x1
  replace x2 := h.has x2
  replace o0 := h.has o0
  replace o1 := h.has o1
  replace o2 := h.has o2
  replace HN := Lib.hid (HN.out.gr h)
  replace HB := Lib.hid (HB.out.gr h)
  replace HF := Lib.hid (HF.out.gr h)
  replace HS := Lib.hid (HS.out.gr h)
  replace HX := Lib.hid (HX.out.gr h)
  replace HO := Lib.hid (HO.out.gr h)
  clear h
  by_cases hc : shCode v b fl sup = 0
  · obtain ⟨f1, f2, f3, f4, f5, f6⟩ := hour_law hc
    have F1 := Lib.hid f1
    have F2 := Lib.hid f2
    have F4 := Lib.hid f4
    have F5 := Lib.hid f5
    have F6 := Lib.hid f6
    have hsb := sum_take_bnd (M := 1000000000000) (by decide) f6 q2
    have hsl := HS.out.sl.ilen
    rw [List.take_of_length_le (by omega)] at hsb
    have hw1 : IntKind.i64.wrap (coVal v (shRes v b fl sup) - coVal v b) = sup.sum := (IntWalk.i64_in _ (by omega)).trans f3
    have tc : (shCode v b fl sup != 0) = false := by simp [hc]
    clear hc f1 f2 f3 f4 f5 f6 hsb hsl
    go_wp2_with fail
    refine (ContentOf_any v b _ HN.out HB.out).mono ?_
    rintro e w9 ⟨rfl, h⟩
    replace gw := gw.trans h
    replace y0 := h.has y0
    replace y1 := h.has y1
    replace z0 := h.has z0
    replace z1 := h.has z1
    replace z2 := h.has z2
    replace u0 := h.has u0
    replace u1 := h.has u1
    replace x0 := h.has x0
    replace x1 := h.has x1
    replace x2 := h.has x2
    replace o0 := h.has o0
    replace o1 := h.has o1
    replace o2 := h.has o2
    replace HN := Lib.hid (HN.out.gr h)
    replace HB := Lib.hid (HB.out.gr h)
    replace HF := Lib.hid (HF.out.gr h)
    replace HS := Lib.hid (HS.out.gr h)
    replace HX := Lib.hid (HX.out.gr h)
    replace HO := Lib.hid (HO.out.gr h)
    clear h
    rw [F1.out]
    go_wp2_with fail
    refine (ContentOf_any v (shRes v b fl sup) _ HN.out HX.out).mono ?_
    rintro e w10 ⟨rfl, h⟩
    replace gw := gw.trans h
    replace y0 := h.has y0
    replace y1 := h.has y1
    replace z0 := h.has z0
    replace z1 := h.has z1
    replace z2 := h.has z2
    replace u0 := h.has u0
    replace u1 := h.has u1
    replace x0 := h.has x0
    replace x1 := h.has x1
    replace x2 := h.has x2
    replace o0 := h.has o0
    replace o1 := h.has o1
    replace o2 := h.has o2
    replace HN := Lib.hid (HN.out.gr h)
    replace HB := Lib.hid (HB.out.gr h)
    replace HF := Lib.hid (HF.out.gr h)
    replace HS := Lib.hid (HS.out.gr h)
    replace HX := Lib.hid (HX.out.gr h)
    replace HO := Lib.hid (HO.out.gr h)
    clear h
    rw [F2.out]
    go_wp2_with fail
    refine (lawSum_any sup _ HS.out F6.out).mono ?_
    rintro e w' ⟨rfl, hw'⟩
    rw [← hw']
    clear hw'
    go_wp2_with fail
    refine (IsBuffers_any v (shRes v b fl sup) _ HN.out HX.out).mono ?_
    rintro e w11 ⟨rfl, h⟩
    replace gw := gw.trans h
    replace y0 := h.has y0
    replace y1 := h.has y1
    replace z0 := h.has z0
    replace z1 := h.has z1
    replace z2 := h.has z2
    replace u0 := h.has u0
    replace u1 := h.has u1
    replace x0 := h.has x0
    replace x1 := h.has x1
    replace x2 := h.has x2
    replace o0 := h.has o0
    replace o1 := h.has o1
    replace o2 := h.has o2
    replace HN := Lib.hid (HN.out.gr h)
    replace HB := Lib.hid (HB.out.gr h)
    replace HF := Lib.hid (HF.out.gr h)
    replace HS := Lib.hid (HS.out.gr h)
    replace HX := Lib.hid (HX.out.gr h)
    replace HO := Lib.hid (HO.out.gr h)
    clear h
    rw [F4.out, F5.out]
    go_wp2_with fail
    go_ret
    exact ⟨rfl, gw⟩
  · have tc : (shCode v b fl sup != 0) = true := by simp [hc]
    by_cases h7 : shCode v b fl sup = 7
    · have t7 : (shCode v b fl sup != 7) = false := by simp [h7]
      have Hb := Lib.hid (hour_bad h7)
      clear hc h7
      by_cases hf : 0 ≤ ftVal v b fl sup
      · have tf : decide (0 ≤ ftVal v b fl sup) = true := decide_eq_true hf
        clear hf
        go_wp2_with fail
        go_ret
        exact ⟨rfl, gw⟩
      · have tf : decide (0 ≤ ftVal v b fl sup) = false := decide_eq_false hf
        have Hk : Hid (klB v fl = false) := Lib.hid (Hb.out.resolve_left hf)
        clear hf
        go_wp2_with fail
        refine (KeepsLimits_any v fl _ HN.out HF.out).mono ?_
        rintro e w9 ⟨rfl, h⟩
        rw [Hk.out]
        go_wp2_with fail
        go_ret
        exact ⟨rfl, gw.trans h⟩
    · have t7 : (shCode v b fl sup != 7) = true := by simp [h7]
      clear hc h7
      go_wp2_with fail
      go_ret
      exact ⟨rfl, gw⟩
set_option maxRecDepth 100000 in
theorem lifted (os : Os) (started : os.Started) (H : Type) (enc : TypeId × Value → H) :
    ReturnsInHanded {} Try.checked os 3 .any (Rows.fnHoursSpec.pre6 enc Try.prog Try.f3 Rows.fnHoursRow.domain false) (Rows.fnHoursSpec.post enc Try.prog Try.f3 false true false false) := by
  refine returnsInHanded_of_change (C := Try.checked) own started (by kernel_rfl) Try.func3
    (ChangeSpec.witness6 (enc := enc) (C := Try.checked) false ⟨#[], #[.slice none 0 0], []⟩ 8 (by kernel_rfl) (by kernel_rfl) (by kernel_rfl) (by kernel_rfl)) ?_
  intro W base args ds gs before hval0 hW hcnd _
  have hval : ∀ (j : Nat) t v, Try.f3.params[j]? = some t → args[j]? = some v → Value.okWide Try.prog W .any base t v := hval0
  have hW' := hW
  obtain ⟨p, q, hA0, hV, rfl, hfz, hnd⟩ := hW
  have hA : DataW.TrodAll enc Try.prog W 0 (fun _ => true) true Try.f3.params.toList args.toList ds p := hA0
  have hAk := hA0
  have hlt : ∀ x ∈ p, x.block < W.heap.size := fun x hx => hW'.lt x (List.mem_append_left _ hx)
  rw [Try.params3] at hA hval
  obtain ⟨u0, vs0, e0, ds0, p0, q0, hargs, rfl, rfl, h0, r0⟩ := trodAll_cons hA
  obtain ⟨rfl, rfl, rfl⟩ := trodAll_nil r0
  obtain rfl : args = #[u0] := by cases args; simp_all
  obtain ⟨rfl, rfl⟩ := trodVars_none hV
  obtain ⟨fu0, hf0⟩ := h0
  obtain ⟨aa0, bb0, cc0, rfl⟩ := okWide_slice Try.underlying22 (hval 0 _ u0 rfl rfl)
  obtain ⟨A0, n0, c0, v0, hv0, k0, k0x, hR0⟩ := open_bytes (by simpa [Value.cells] using hf0)
  injection hv0 with ha0 hb0 hc0
  subst ha0 hb0 hc0
  clear hA0 hval0
  refine (walk _ _ _ v0 W hR0 k0 (Nat.le_trans k0 k0x)).mono fun e W' ⟨he, hg⟩ => ?_
  subst he
  exact ⟨_, rfl, _, [], _, [], _, [], hW', trodAll_cons_mk (shut_bool Try.underlying4 _) trodAll_mk0, trodAll_stays hg.below _ _ _ _ _ (by rw [Try.params3]; intro t ht; simp only [List.mem_cons, List.not_mem_nil, or_false] at ht; rcases ht with rfl <;> exact ⟨by kernel_rfl, of_decide_eq_true (by kernel_rfl)⟩) hAk hlt (fun x hx => by simpa using hlt x hx), rfl, hg.below.frame _, fun h => by cases h⟩
set_option maxHeartbeats 8000000 in
set_option maxRecDepth 100000 in
theorem closed : joinedFacts Try.prog 3 Try.f3 Rows.fnHoursSpec Rows.fnHoursRow = true := by
  unfold joinedFacts
  simp only [Bool.and_eq_true]
  repeat' (with_reducible apply And.intro)
  all_goals (first | with_reducible exact seat_laid | with_reducible exact seat_maps | with_reducible exact seat_heard | with_reducible exact seat_enter | (with_reducible rw [seat_stops]; as_aux_lemma => kernel_rfl) | (with_reducible rw [seat_knobs]; as_aux_lemma => kernel_rfl) | (with_reducible rw [seat_keys]; as_aux_lemma => kernel_rfl) | (with_reducible rw [seat_final]; as_aux_lemma => kernel_rfl) | (with_reducible rw [seat_make]; as_aux_lemma => kernel_rfl) | as_aux_lemma => kernel_rfl)
theorem named : Try.prog.funcNamed Rows.fnHoursRow.func = some 3 := by kernel_rfl
theorem over : Rows.fnHoursRow.holds Try.pinned (OpenSpec.ofChange Rows.fnHoursSpec) :=
  OpenClaim.holds_of_wide 3 Try.f3 rfl rfl rfl rfl rfl rfl rfl ⟨rfl, rfl, rfl, rfl, rfl⟩ rfl rfl rfl rfl rfl named Try.func3 closed
    (of_decide_eq_true (by as_aux_lemma => kernel_rfl)) (by unfold Func.isWrapper; first | (rw [if_pos (by decide +kernel)]; kernel_rfl) | (rw [if_neg (by decide +kernel)]; exact ⟨rfl, rfl⟩))
    (fun os started H enc _ => lifted os started H enc)
theorem proved : Rows.FnHoursSaid := over
#print axioms proved
end FnHours
end Go.Proofs.Ytbbecboihmmllaa
