/-
  For every input the law FnSettings returns true. No condition. The walk is printed by gen_laws.py.
-/
import Derived.Test.YthhmhigddmimjaaGreatLawKs
import Derived.Test.YthhmhigddmimjaaGreatPtH
import Derived.Test.YthhmhigddmimjaaGreatDrawS
import Derived.Test.YthhmhigddmimjaaGreatSwitches
import Derived.Test.YthhmhigddmimjaaGreatSwc
import Derived.Test.YthhmhigddmimjaaGreatBitsA
import Derived.Test.YthhmhigddmimjaaGreatLawKs
import Derived.Test.YthhmhigddmimjaaGreatSeat
import Derived.Test.YthhmhigddmimjaaGreatOpen
import Derived.Test.YthhmhigddmimjaaGreatText
namespace Go.Proofs.YthhmhigddmimjaaGreat
open Go.ChangeShapes Go.WideShapes Go.ChangeAt Go.RowKit Go.Deep Go.Joins

namespace FnSettings
set_option maxHeartbeats 8000000 in
set_option maxRecDepth 100000 in
theorem walk (A : Option Addr) (n c : Nat) (bs : List UInt8) (w : World) (hR : Sl w 1 A n (byts bs)) (hnc : n ≤ c) (_hm : n ≤ maxLen) :
    Calls Tryz.prog 7 #[.slice A n c] w fun e w' => e = .returned (.bool true) ∧ Gr w w' := by
  have HR := Lib.hid hR
  clear hR
  go_enter Tryz.func7, Tryz.ntmps7
  go_wp2_with fail
  refine (big_any _).mono ?_
  rintro e w' ⟨rfl, hw'⟩
  rw [← hw']
  clear hw'
  by_cases hb : 4096 < n
  · have tb : decide (4096 < n) = true := decide_eq_true hb
    go_wp2_with fail
    go_ret
    exact ⟨rfl, Gr.refl _⟩
  have tb : decide (4096 < n) = false := decide_eq_false hb
  go_wp2_with fail
  refine (DrawFindSettings_any bs _ ⟨HR.out, hnc, by omega⟩).mono ?_
  rintro e w0 ⟨A1, n1, c1, A2, n2, c2, v, A3, n3, c3, zs, A4, n4, c4, ss, A5, n5, c5, sup, rfl, hN, hHZ, hHS, hHU, gw⟩
  obtain ⟨w1, hw1⟩ : ∃ W, W = w0.alloc (.cells #[.slice A1 n1 c1, .slice A2 n2 c2] 32) := ⟨_, rfl⟩
  obtain ⟨M, hM⟩ : ∃ M, M = w0.heap.size := ⟨_, rfl⟩
  have a0 : w1.cell? ⟨M, 0, none⟩ = some (.slice A1 n1 c1) := by rw [hw1, hM]; simp [go_sem]
  have a1 : w1.cell? ⟨M, 1, none⟩ = some (.slice A2 n2 c2) := by rw [hw1, hM]; simp [go_sem]
  have h01 : Gr w0 w1 := by rw [hw1]; exact (Gr.refl _).alloc _
  replace gw : Gr w w1 := gw.trans h01
  have HN := Lib.hid (hN.gr h01)
  have mHZ := hHZ.small
  have HZ := Lib.hid (hHZ.gr h01)
  have mHS := hHS.small
  have HS := Lib.hid (hHS.gr h01)
  have mHU := hHU.small
  have HU := Lib.hid (hHU.gr h01)
  have Hw1 := Lib.hid hw1
  have HM := Lib.hid hM
  clear hw1 hM hN h01 hHZ hHS hHU
  go_wp2_with fail
  rw [← Hw1.out, ← HM.out]
  refine (FindSettings_any v zs ss sup _ HN.out HZ.out HS.out HU.out).mono ?_
  rintro e w2 ⟨rfl, h⟩
  replace gw := gw.trans h
  replace a0 := h.has a0
  replace a1 := h.has a1
  replace HN := Lib.hid (HN.out.gr h)
  replace HZ := Lib.hid (HZ.out.gr h)
  replace HS := Lib.hid (HS.out.gr h)
  replace HU := Lib.hid (HU.out.gr h)
  clear h
  go_wp2_with fail
  refine (spFindSettings_any v zs ss sup _ HN.out HZ.out HS.out HU.out).mono ?_
  rintro e w3 ⟨rfl, h⟩
  replace gw := gw.trans h
  replace a0 := h.has a0
  replace a1 := h.has a1
  replace HN := Lib.hid (HN.out.gr h)
  replace HZ := Lib.hid (HZ.out.gr h)
  replace HS := Lib.hid (HS.out.gr h)
  replace HU := Lib.hid (HU.out.gr h)
  clear h
  go_wp2_with fail
  refine (GoodNumbers_any v zs ss sup _ HN.out HZ.out HS.out HU.out).mono ?_
  rintro e w4 ⟨XA, Xm, Xc, rfl, Xl, o, h⟩
  replace gw := gw.trans h
  replace a0 := h.has a0
  replace a1 := h.has a1
  replace HN := Lib.hid (HN.out.gr h)
  replace HZ := Lib.hid (HZ.out.gr h)
  replace HS := Lib.hid (HS.out.gr h)
  replace HU := Lib.hid (HU.out.gr h)
  have HX := Lib.hid (SlAt.of_own o Xl)
  clear h o
  go_wp2_with fail
  refine (spGoodNumbers_any v zs ss sup _ HN.out HZ.out HS.out HU.out).mono ?_
  rintro e w5 ⟨YA, Ym, Yc, rfl, Yl, o, h⟩
  replace gw := gw.trans h
  replace a0 := h.has a0
  replace a1 := h.has a1
  replace HN := Lib.hid (HN.out.gr h)
  replace HZ := Lib.hid (HZ.out.gr h)
  replace HS := Lib.hid (HS.out.gr h)
  replace HU := Lib.hid (HU.out.gr h)
  replace HX := Lib.hid (HX.out.gr h)
  have HY := Lib.hid (SlAt.of_own o Yl)
  clear h o
  go_wp2_with fail
  refine (likeInts_same (gnRes v zs ss sup) _ HX.out HY.out).mono ?_
  rintro e w6 ⟨rfl, h⟩
  replace gw := gw.trans h
  replace a0 := h.has a0
  replace a1 := h.has a1
  replace HN := Lib.hid (HN.out.gr h)
  replace HZ := Lib.hid (HZ.out.gr h)
  replace HS := Lib.hid (HS.out.gr h)
  replace HU := Lib.hid (HU.out.gr h)
  replace HX := Lib.hid (HX.out.gr h)
  replace HY := Lib.hid (HY.out.gr h)
  clear h
  by_cases hc : fsCode v zs ss sup = 0
  · obtain ⟨f1, f2, f3, f4, f5, f6, f7, f8⟩ := settings_law hc
    have tc : (fsCode v zs ss sup != 0) = false := by simp [hc]
    obtain ⟨q, hq⟩ : ∃ q, q = fsRes v zs ss sup := ⟨_, rfl⟩
    rw [← hq] at f1 f3 f4 f5 f6 f7 f8 ⊢
    have hwf : (Lit.int .i64 q).wf = true := wf_small (by omega)
    have F1 := Lib.hid f1
    have F2 := Lib.hid f2
    have F3 := Lib.hid f3
    have F4 := Lib.hid f4
    have F5 := Lib.hid f5
    have F6 := Lib.hid f6
    have F8 := Lib.hid f8
    have hxl := HX.out.sl.ilen
    have Hxl := Lib.hid hxl
    have Hin : Hid (∀ x ∈ gnRes v zs ss sup, 0 ≤ x ∧ x ≤ 31) := Lib.hid (fun x hx => (gn_mem hx).2.2.1)
    have hxm := HX.out.small
    clear hc hq f1 f2 f3 f4 f5 f6 f7 f8 hxl
    go_wp2_with fail
    refine (SwitchPipes_any v zs ss q _ HN.out HZ.out HS.out hwf).mono ?_
    rintro e w7 ⟨WA, Wm, Wc, rfl, Wl, o, h⟩
    replace gw := gw.trans h
    replace a0 := h.has a0
    replace a1 := h.has a1
    replace HN := Lib.hid (HN.out.gr h)
    replace HZ := Lib.hid (HZ.out.gr h)
    replace HS := Lib.hid (HS.out.gr h)
    replace HU := Lib.hid (HU.out.gr h)
    replace HX := Lib.hid (HX.out.gr h)
    replace HY := Lib.hid (HY.out.gr h)
    have HW := Lib.hid (SlAt.of_own o Wl)
    clear h o
    rw [F1.out]
    go_wp2_with fail
    refine (SwitchCount_ok v zs (spwRes v zs ss q) _ HN.out HZ.out HW.out F2.out F3.out).mono ?_
    rintro e w8 ⟨rfl, h⟩
    replace gw := gw.trans h
    replace a0 := h.has a0
    replace a1 := h.has a1
    replace HN := Lib.hid (HN.out.gr h)
    replace HZ := Lib.hid (HZ.out.gr h)
    replace HS := Lib.hid (HS.out.gr h)
    replace HU := Lib.hid (HU.out.gr h)
    replace HX := Lib.hid (HX.out.gr h)
    replace HY := Lib.hid (HY.out.gr h)
    replace HW := Lib.hid (HW.out.gr h)
    clear h
    rw [F4.out]
    go_wp2_with fail
    go_loopw [19] (fun i wr => ∃ k : Nat, k ≤ Xm ∧ i = .int .i64 k ∧ Gr w8 wr) (fun i _ => Xm - (intOf i).toNat)
    case atStart => exact ⟨0, Nat.zero_le _, rfl, Gr.refl _⟩
    case round =>
      obtain ⟨k, hk, rfl, hgr⟩ := hrel
      rename World => wr
      by_cases hlt : k < Xm
      · obtain ⟨x, hx⟩ : ∃ x, (gnRes v zs ss sup)[k]? = some x := ⟨_, List.getElem?_eq_getElem (by have := Hxl.out; omega)⟩
        have hxe : (gnRes v zs ss sup).getD k 0 = x := by rw [List.getD_eq_getElem?_getD, hx]; rfl
        have hxb := Hin.out x (List.mem_of_getElem? hx)
        have hle := F8.out k (by have := Hxl.out; omega)
        rw [hxe] at hle
        have tle : decide (bitsOf x < bitsOf q) = false := by simp; omega
        have tle' : ¬ bitsOf x < bitsOf q := by omega
        obtain ⟨b1, o1, hA1, hb1, e1⟩ := (HX.out.gr hgr).sl.int hx
        subst hA1
        have t1 : (k : Int) < (Xm : Int) := by omega
        have t0 : (0 : Int) ≤ (k : Int) := by omega
        clear hx hxe hle
        go_wp2_with fail
        refine (BitsOf_any x (wf_small (by omega)) _).mono ?_
        rintro e w' ⟨rfl, hw'⟩
        rw [← hw']
        clear hw'
        go_wp2_with fail
        refine (BitsOf_any q hwf _).mono ?_
        rintro e w' ⟨rfl, hw'⟩
        rw [← hw']
        clear hw'
        go_wp2_with fail
        go_roundw
        case rel => exact ⟨k + 1, by omega, by go_num, hgr⟩
        case measure => simp [intOf]; omega
      · obtain rfl : k = Xm := by omega
        replace gw := gw.trans hgr
        replace a0 := hgr.has a0
        replace a1 := hgr.has a1
        replace HN := Lib.hid (HN.out.gr hgr)
        replace HZ := Lib.hid (HZ.out.gr hgr)
        replace HS := Lib.hid (HS.out.gr hgr)
        replace HU := Lib.hid (HU.out.gr hgr)
        replace HX := Lib.hid (HX.out.gr hgr)
        replace HY := Lib.hid (HY.out.gr hgr)
        replace HW := Lib.hid (HW.out.gr hgr)
        clear hgr
        go_wp2_with fail
        refine (hasInt_any _ q _ HX.out).mono ?_
        rintro e w' ⟨rfl, hw'⟩
        rw [← hw', decide_eq_true F6.out]
        clear hw'
        go_wp2_with fail
        refine (BitsOf_any q hwf _).mono ?_
        rintro e w' ⟨rfl, hw'⟩
        rw [← hw']
        clear hw'
        go_wp2_with fail
        refine (AreGood_any v (spwRes v zs ss q) sup _ HN.out HW.out HU.out).mono ?_
        rintro e w9 ⟨rfl, h⟩
        replace gw := gw.trans h
        replace a0 := h.has a0
        replace a1 := h.has a1
        replace HN := Lib.hid (HN.out.gr h)
        replace HZ := Lib.hid (HZ.out.gr h)
        replace HS := Lib.hid (HS.out.gr h)
        replace HU := Lib.hid (HU.out.gr h)
        replace HX := Lib.hid (HX.out.gr h)
        replace HY := Lib.hid (HY.out.gr h)
        replace HW := Lib.hid (HW.out.gr h)
        clear h
        rw [F5.out]
        go_wp2_with fail
        go_ret
        exact ⟨rfl, gw⟩
  · have tc : (fsCode v zs ss sup != 0) = true := by simp [hc]
    have hx0 : Xm = 0 := by rw [← HX.out.sl.ilen]; exact fs_empty hc
    have tx : ((Xm : Int) == 0) = true := by simp [hx0]
    by_cases h7 : fsCode v zs ss sup = 7
    · have t7 : (fsCode v zs ss sup != 7) = false := by simp [h7]
      clear hc h7
      go_wp2_with fail
      go_ret
      exact ⟨rfl, gw⟩
    · have t7 : (fsCode v zs ss sup != 7) = true := by simp [h7]
      clear hc h7
      go_wp2_with fail
      go_ret
      exact ⟨rfl, gw⟩
set_option maxRecDepth 100000 in
theorem lifted (os : Os) (started : os.Started) (H : Type) (enc : TypeId × Value → H) :
    ReturnsInHanded {} Tryz.checked os 7 .any (Rows.fnSettingsSpec.pre6 enc Tryz.prog Tryz.f7 Rows.fnSettingsRow.domain false) (Rows.fnSettingsSpec.post enc Tryz.prog Tryz.f7 false true false false) := by
  refine returnsInHanded_of_change (C := Tryz.checked) own started (by kernel_rfl) Tryz.func7
    (ChangeSpec.witness6 (enc := enc) (C := Tryz.checked) false ⟨#[], #[.slice none 0 0], []⟩ 8 (by kernel_rfl) (by kernel_rfl) (by kernel_rfl) (by kernel_rfl)) ?_
  intro W base args ds gs before hval0 hW hcnd _
  have hval : ∀ (j : Nat) t v, Tryz.f7.params[j]? = some t → args[j]? = some v → Value.okWide Tryz.prog W .any base t v := hval0
  have hW' := hW
  obtain ⟨p, q, hA0, hV, rfl, hfz, hnd⟩ := hW
  have hA : DataW.TrodAll enc Tryz.prog W 0 (fun _ => true) true Tryz.f7.params.toList args.toList ds p := hA0
  have hAk := hA0
  have hlt : ∀ x ∈ p, x.block < W.heap.size := fun x hx => hW'.lt x (List.mem_append_left _ hx)
  rw [Tryz.params7] at hA hval
  obtain ⟨u0, vs0, e0, ds0, p0, q0, hargs, rfl, rfl, h0, r0⟩ := trodAll_cons hA
  obtain ⟨rfl, rfl, rfl⟩ := trodAll_nil r0
  obtain rfl : args = #[u0] := by cases args; simp_all
  obtain ⟨rfl, rfl⟩ := trodVars_none hV
  obtain ⟨fu0, hf0⟩ := h0
  obtain ⟨aa0, bb0, cc0, rfl⟩ := okWide_slice Tryz.underlying46 (hval 0 _ u0 rfl rfl)
  obtain ⟨A0, n0, c0, v0, hv0, k0, k0x, hR0⟩ := open_bytes (by simpa [Value.cells] using hf0)
  injection hv0 with ha0 hb0 hc0
  subst ha0 hb0 hc0
  clear hA0 hval0
  refine (walk _ _ _ v0 W hR0 k0 (Nat.le_trans k0 k0x)).mono fun e W' ⟨he, hg⟩ => ?_
  subst he
  exact ⟨_, rfl, _, [], _, [], _, [], hW', trodAll_cons_mk (shut_bool Tryz.underlying4 _) trodAll_mk0, trodAll_stays hg.below _ _ _ _ _ (by rw [Tryz.params7]; intro t ht; simp only [List.mem_cons, List.not_mem_nil, or_false] at ht; rcases ht with rfl <;> exact ⟨by kernel_rfl, of_decide_eq_true (by kernel_rfl)⟩) hAk hlt (fun x hx => by simpa using hlt x hx), rfl, hg.below.frame _, fun h => by cases h⟩
set_option maxHeartbeats 8000000 in
set_option maxRecDepth 100000 in
theorem closed : joinedFacts Tryz.prog 7 Tryz.f7 Rows.fnSettingsSpec Rows.fnSettingsRow = true := by
  unfold joinedFacts
  simp only [Bool.and_eq_true]
  repeat' (with_reducible apply And.intro)
  all_goals (first | with_reducible exact seat_laid | with_reducible exact seat_maps | with_reducible exact seat_heard | with_reducible exact seat_enter | (with_reducible rw [seat_stops]; as_aux_lemma => kernel_rfl) | (with_reducible rw [seat_knobs]; as_aux_lemma => kernel_rfl) | (with_reducible rw [seat_keys]; as_aux_lemma => kernel_rfl) | (with_reducible rw [seat_final]; as_aux_lemma => kernel_rfl) | (with_reducible rw [seat_make]; as_aux_lemma => kernel_rfl) | as_aux_lemma => kernel_rfl)
theorem named : Tryz.prog.funcNamed Rows.fnSettingsRow.func = some 7 := by kernel_rfl
theorem over : Rows.fnSettingsRow.holds Tryz.pinned (OpenSpec.ofChange Rows.fnSettingsSpec) :=
  OpenClaim.holds_of_wide 7 Tryz.f7 rfl rfl rfl rfl rfl rfl rfl ⟨rfl, rfl, rfl, rfl, rfl⟩ rfl rfl rfl rfl rfl named Tryz.func7 closed
    (of_decide_eq_true (by as_aux_lemma => kernel_rfl)) (by unfold Func.isWrapper; first | (rw [if_pos (by decide +kernel)]; kernel_rfl) | (rw [if_neg (by decide +kernel)]; exact ⟨rfl, rfl⟩))
    (fun os started H enc _ => lifted os started H enc)
theorem proved : Rows.FnSettingsSaid := over
#print axioms proved
end FnSettings
end Go.Proofs.YthhmhigddmimjaaGreat
