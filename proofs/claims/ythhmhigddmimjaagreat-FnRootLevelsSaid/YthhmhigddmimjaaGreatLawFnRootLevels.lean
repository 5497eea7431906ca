/-
  For every input the law FnRootLevels returns true. No condition. The walk is printed by gen_laws.py.
-/
import Derived.Test.YthhmhigddmimjaaGreatLawKs
import Derived.Test.YthhmhigddmimjaaGreatPtH
import Derived.Test.YthhmhigddmimjaaGreatDrawS
import Derived.Test.YthhmhigddmimjaaGreatPtF
import Derived.Test.YthhmhigddmimjaaGreatLawKs
import Derived.Test.YthhmhigddmimjaaGreatSeat
import Derived.Test.YthhmhigddmimjaaGreatOpen
import Derived.Test.YthhmhigddmimjaaGreatText
namespace Go.Proofs.YthhmhigddmimjaaGreat
open Go.ChangeShapes Go.WideShapes Go.ChangeAt Go.RowKit Go.Deep Go.Joins

namespace FnRootLevels
set_option maxHeartbeats 8000000 in
set_option maxRecDepth 100000 in
theorem walk (A : Option Addr) (n c : Nat) (bs : List UInt8) (w : World) (hR : Sl w 1 A n (byts bs)) (hnc : n ≤ c) (_hm : n ≤ maxLen) :
    Calls Tryz.prog 9 #[.slice A n c] w fun e w' => e = .returned (.bool true) ∧ Gr w w' := by
  have HR := Lib.hid hR
  clear hR
  go_enter Tryz.func9, Tryz.ntmps9
  go_wp2_with fail
  refine (big_any _).mono ?_
  rintro e w' ⟨rfl, hw'⟩
  rw [← hw']
  clear hw'
  by_cases hb : 4096 < n
  · have tb : decide (4096 < n) = true := decide_eq_true hb
    go_wp2_with fail
    go_ret
    exact ⟨rfl, Gr.refl _⟩
  have tb : decide (4096 < n) = false := decide_eq_false hb
  go_wp2_with fail
  refine (DrawRootLevel_any bs _ ⟨HR.out, hnc, by omega⟩).mono ?_
  rintro e w0 ⟨A1, n1, c1, A2, n2, c2, v, A3, n3, c3, ss, A5, n5, c5, sup, rfl, hN, hHZ, hHU, gw⟩
  obtain ⟨w1, hw1⟩ : ∃ W, W = w0.alloc (.cells #[.slice A1 n1 c1, .slice A2 n2 c2] 32) := ⟨_, rfl⟩
  obtain ⟨M, hM⟩ : ∃ M, M = w0.heap.size := ⟨_, rfl⟩
  have a0 : w1.cell? ⟨M, 0, none⟩ = some (.slice A1 n1 c1) := by rw [hw1, hM]; simp [go_sem]
  have a1 : w1.cell? ⟨M, 1, none⟩ = some (.slice A2 n2 c2) := by rw [hw1, hM]; simp [go_sem]
  have h01 : Gr w0 w1 := by rw [hw1]; exact (Gr.refl _).alloc _
  replace gw : Gr w w1 := gw.trans h01
  have HN := Lib.hid (hN.gr h01)
  have mHZ := hHZ.small
  have HZ := Lib.hid (hHZ.gr h01)
  have mHU := hHU.small
  have HU := Lib.hid (hHU.gr h01)
  have Hw1 := Lib.hid hw1
  have HM := Lib.hid hM
  clear hw1 hM hN h01 hHZ hHU
  go_wp2_with fail
  rw [← Hw1.out, ← HM.out]
  refine (RootLevel_any v ss sup _ HN.out HZ.out HU.out).mono ?_
  rintro e w2 ⟨rfl, h⟩
  replace gw := gw.trans h
  replace a0 := h.has a0
  replace a1 := h.has a1
  replace HN := Lib.hid (HN.out.gr h)
  replace HZ := Lib.hid (HZ.out.gr h)
  replace HU := Lib.hid (HU.out.gr h)
  clear h
  go_wp2_with fail
  refine (spRootLevel_any v ss sup _ HN.out HZ.out HU.out).mono ?_
  rintro e w3 ⟨rfl, h⟩
  replace gw := gw.trans h
  replace a0 := h.has a0
  replace a1 := h.has a1
  replace HN := Lib.hid (HN.out.gr h)
  replace HZ := Lib.hid (HZ.out.gr h)
  replace HU := Lib.hid (HU.out.gr h)
  clear h
  go_wp2_with fail
  refine (AreGood_any v ss sup _ HN.out HZ.out HU.out).mono ?_
  rintro e w4 ⟨rfl, h⟩
  replace gw := gw.trans h
  replace a0 := h.has a0
  replace a1 := h.has a1
  replace HN := Lib.hid (HN.out.gr h)
  replace HZ := Lib.hid (HZ.out.gr h)
  replace HU := Lib.hid (HU.out.gr h)
  clear h
  rw [ag_rt]
  by_cases hc : rtCode v ss sup = 0
  · obtain ⟨f1, f2, f3, f4, f5, f6, f7, f8, f9⟩ := root_law hc
    have tc : (rtCode v ss sup != 0) = false := by simp [hc]
    have hk1 : 0 < (opLv (opNet v ss) sup true).length := by rw [f5]; have := (netOk_all (st_zero f1).1).1.1; omega
    have F1 := Lib.hid f1
    have F3 := Lib.hid f3
    have F4 := Lib.hid f4
    have F6 := Lib.hid f6
    have F7 := Lib.hid f7
    have F8 := Lib.hid f8
    have F9 := Lib.hid f9
    have Hk1 := Lib.hid hk1
    clear hc f1 f2 f3 f4 f5 f6 f7 f8 f9 hk1
    go_wp2_with fail
    refine (OpenNetwork_ok v ss _ HN.out HZ.out F1.out).mono ?_
    rintro e w20 ⟨B1, d1, B2, mm, d2, XA, xc, rfl, hM, h⟩
    replace gw := gw.trans h
    replace a0 := h.has a0
    replace a1 := h.has a1
    replace HN := Lib.hid (HN.out.gr h)
    replace HZ := Lib.hid (HZ.out.gr h)
    replace HU := Lib.hid (HU.out.gr h)
    go_upto_region 11 with fail
    obtain ⟨w21, hw21⟩ : ∃ W, W = w20.alloc (.cells #[.slice B1 n1 d1, .slice B2 mm d2] 32) := ⟨_, rfl⟩
    have h' : Gr w20 w21 := by rw [hw21]; exact (Gr.refl _).alloc _
    obtain ⟨OP, hOP⟩ : ∃ P, P = w20.heap.size := ⟨_, rfl⟩
    have o0 : w21.cell? ⟨OP, 0, none⟩ = some (.slice B1 n1 d1) := by rw [hw21, hOP]; simp [go_sem]
    have o1 : w21.cell? ⟨OP, 1, none⟩ = some (.slice B2 mm d2) := by rw [hw21, hOP]; simp [go_sem]
    have HM := Lib.hid (hM.gr h')
    rw [← hw21, ← hOP]
    replace gw := gw.trans h'
    replace a0 := h'.has a0
    replace a1 := h'.has a1
    replace HN := Lib.hid (HN.out.gr h')
    replace HZ := Lib.hid (HZ.out.gr h')
    replace HU := Lib.hid (HU.out.gr h')
    clear hM h h' hw21 hOP
    go_wp2_with fail
    refine (OperatingPoint_any (opNet v ss) sup _ HM.out HU.out).mono ?_
    rintro e w22 ⟨PA, Pm, Pc, PB, Pk, Pd, rfl, hF, hL, h⟩
    replace gw := gw.trans h
    replace a0 := h.has a0
    replace a1 := h.has a1
    replace o0 := h.has o0
    replace o1 := h.has o1
    replace HN := Lib.hid (HN.out.gr h)
    replace HZ := Lib.hid (HZ.out.gr h)
    replace HU := Lib.hid (HU.out.gr h)
    replace HM := Lib.hid (HM.out.gr h)
    rw [F3.out]
    go_upto_region 12 with fail
    obtain ⟨w23, hw23⟩ : ∃ W, W = w22.alloc (.cells #[.slice PA Pm Pc, .slice PB Pk Pd] 56) := ⟨_, rfl⟩
    have h' : Gr w22 w23 := by rw [hw23]; exact (Gr.refl _).alloc _
    obtain ⟨PP, hPP⟩ : ∃ P, P = w22.heap.size := ⟨_, rfl⟩
    have P0 : w23.cell? ⟨PP, 0, none⟩ = some (.slice PA Pm Pc) := by rw [hw23, hPP]; simp [go_sem]
    have P1 : w23.cell? ⟨PP, 1, none⟩ = some (.slice PB Pk Pd) := by rw [hw23, hPP]; simp [go_sem]
    have HPF := Lib.hid (hF.gr h')
    have HPL := Lib.hid (hL.gr h')
    rw [← hw23, ← hPP]
    replace gw := gw.trans h'
    replace a0 := h'.has a0
    replace a1 := h'.has a1
    replace o0 := h'.has o0
    replace o1 := h'.has o1
    replace HN := Lib.hid (HN.out.gr h')
    replace HZ := Lib.hid (HZ.out.gr h')
    replace HU := Lib.hid (HU.out.gr h')
    replace HM := Lib.hid (HM.out.gr h')
    clear hF hL h h' hw23 hPP
    rw [opFl_yes F3.out] at HPF
    obtain ⟨z, hz⟩ : ∃ z, z = (opLv (opNet v ss) sup true).getD 0 0 := ⟨_, rfl⟩
    have hpk : 0 < Pk := by have := Hk1.out; have := HPL.out.sl.ilen; omega
    have tk : decide ((0 : Int) < (Pk : Int)) = true := by simp; omega
    have tk' : (0 : Int) < (Pk : Int) := by omega
    obtain ⟨bz, oz, hAz, hbz, z0⟩ := HPL.out.sl.int (k := 0) (x := z) (by rw [hz]; exact get_int Hk1.out)
    subst hAz
    rw [Nat.add_zero] at z0
    have Hzl : Hid (rtLev v ss sup = z) := Lib.hid (by rw [← F4.out, hz])
    rw [Hzl.out]
    clear hz
    go_wp2_with fail
    refine (SpreadFlows_ok v ss _ _ HN.out HZ.out HPF.out F1.out F7.out).mono ?_
    rintro e w24 ⟨FA, Fm, Fc, rfl, o, h⟩
    replace gw := gw.trans h
    replace a0 := h.has a0
    replace a1 := h.has a1
    replace o0 := h.has o0
    replace o1 := h.has o1
    replace P0 := h.has P0
    replace P1 := h.has P1
    replace z0 := h.has z0
    replace HN := Lib.hid (HN.out.gr h)
    replace HZ := Lib.hid (HZ.out.gr h)
    replace HU := Lib.hid (HU.out.gr h)
    replace HM := Lib.hid (HM.out.gr h)
    replace HPF := Lib.hid (HPF.out.gr h)
    replace HPL := Lib.hid (HPL.out.gr h)
    have HO := Lib.hid o
    clear h o
    go_wp2_with fail
    refine (IsWithin_any v (opLv (opNet v ss) sup true) _ HN.out HPL.out).mono ?_
    rintro e w25 ⟨rfl, h⟩
    replace gw := gw.trans h
    replace a0 := h.has a0
    replace a1 := h.has a1
    replace o0 := h.has o0
    replace o1 := h.has o1
    replace P0 := h.has P0
    replace P1 := h.has P1
    replace z0 := h.has z0
    replace HN := Lib.hid (HN.out.gr h)
    replace HZ := Lib.hid (HZ.out.gr h)
    replace HU := Lib.hid (HU.out.gr h)
    replace HM := Lib.hid (HM.out.gr h)
    replace HPF := Lib.hid (HPF.out.gr h)
    replace HPL := Lib.hid (HPL.out.gr h)
    replace HO := Lib.hid (HO.out.gr h)
    clear h
    rw [F6.out]
    go_wp2_with fail
    refine (IsAllowed_ok v ss _ _ HN.out HZ.out HO.out F1.out F8.out F9.out).mono ?_
    rintro e w26 ⟨rfl, h⟩
    replace gw := gw.trans h
    replace a0 := h.has a0
    replace a1 := h.has a1
    replace o0 := h.has o0
    replace o1 := h.has o1
    replace P0 := h.has P0
    replace P1 := h.has P1
    replace z0 := h.has z0
    replace HN := Lib.hid (HN.out.gr h)
    replace HZ := Lib.hid (HZ.out.gr h)
    replace HU := Lib.hid (HU.out.gr h)
    replace HM := Lib.hid (HM.out.gr h)
    replace HPF := Lib.hid (HPF.out.gr h)
    replace HPL := Lib.hid (HPL.out.gr h)
    replace HO := Lib.hid (HO.out.gr h)
    clear h
    go_wp2_with fail
    go_ret
    exact ⟨rfl, gw⟩
  · have tc : (rtCode v ss sup != 0) = true := by simp [hc]
    clear hc
    go_wp2_with fail
    go_ret
    exact ⟨rfl, gw⟩
set_option maxRecDepth 100000 in
theorem lifted (os : Os) (started : os.Started) (H : Type) (enc : TypeId × Value → H) :
    ReturnsInHanded {} Tryz.checked os 9 .any (Rows.fnRootLevelsSpec.pre6 enc Tryz.prog Tryz.f9 Rows.fnRootLevelsRow.domain false) (Rows.fnRootLevelsSpec.post enc Tryz.prog Tryz.f9 false true false false) := by
  refine returnsInHanded_of_change (C := Tryz.checked) own started (by kernel_rfl) Tryz.func9
    (ChangeSpec.witness6 (enc := enc) (C := Tryz.checked) false ⟨#[], #[.slice none 0 0], []⟩ 8 (by kernel_rfl) (by kernel_rfl) (by kernel_rfl) (by kernel_rfl)) ?_
  intro W base args ds gs before hval0 hW hcnd _
  have hval : ∀ (j : Nat) t v, Tryz.f9.params[j]? = some t → args[j]? = some v → Value.okWide Tryz.prog W .any base t v := hval0
  have hW' := hW
  obtain ⟨p, q, hA0, hV, rfl, hfz, hnd⟩ := hW
  have hA : DataW.TrodAll enc Tryz.prog W 0 (fun _ => true) true Tryz.f9.params.toList args.toList ds p := hA0
  have hAk := hA0
  have hlt : ∀ x ∈ p, x.block < W.heap.size := fun x hx => hW'.lt x (List.mem_append_left _ hx)
  rw [Tryz.params9] at hA hval
  obtain ⟨u0, vs0, e0, ds0, p0, q0, hargs, rfl, rfl, h0, r0⟩ := trodAll_cons hA
  obtain ⟨rfl, rfl, rfl⟩ := trodAll_nil r0
  obtain rfl : args = #[u0] := by cases args; simp_all
  obtain ⟨rfl, rfl⟩ := trodVars_none hV
  obtain ⟨fu0, hf0⟩ := h0
  obtain ⟨aa0, bb0, cc0, rfl⟩ := okWide_slice Tryz.underlying46 (hval 0 _ u0 rfl rfl)
  obtain ⟨A0, n0, c0, v0, hv0, k0, k0x, hR0⟩ := open_bytes (by simpa [Value.cells] using hf0)
  injection hv0 with ha0 hb0 hc0
  subst ha0 hb0 hc0
  clear hA0 hval0
  refine (walk _ _ _ v0 W hR0 k0 (Nat.le_trans k0 k0x)).mono fun e W' ⟨he, hg⟩ => ?_
  subst he
  exact ⟨_, rfl, _, [], _, [], _, [], hW', trodAll_cons_mk (shut_bool Tryz.underlying4 _) trodAll_mk0, trodAll_stays hg.below _ _ _ _ _ (by rw [Tryz.params9]; intro t ht; simp only [List.mem_cons, List.not_mem_nil, or_false] at ht; rcases ht with rfl <;> exact ⟨by kernel_rfl, of_decide_eq_true (by kernel_rfl)⟩) hAk hlt (fun x hx => by simpa using hlt x hx), rfl, hg.below.frame _, fun h => by cases h⟩
set_option maxHeartbeats 8000000 in
set_option maxRecDepth 100000 in
theorem closed : joinedFacts Tryz.prog 9 Tryz.f9 Rows.fnRootLevelsSpec Rows.fnRootLevelsRow = true := by
  unfold joinedFacts
  simp only [Bool.and_eq_true]
  repeat' (with_reducible apply And.intro)
  all_goals (first | with_reducible exact seat_laid | with_reducible exact seat_maps | with_reducible exact seat_heard | with_reducible exact seat_enter | (with_reducible rw [seat_stops]; as_aux_lemma => kernel_rfl) | (with_reducible rw [seat_knobs]; as_aux_lemma => kernel_rfl) | (with_reducible rw [seat_keys]; as_aux_lemma => kernel_rfl) | (with_reducible rw [seat_final]; as_aux_lemma => kernel_rfl) | (with_reducible rw [seat_make]; as_aux_lemma => kernel_rfl) | as_aux_lemma => kernel_rfl)
theorem named : Tryz.prog.funcNamed Rows.fnRootLevelsRow.func = some 9 := by kernel_rfl
theorem over : Rows.fnRootLevelsRow.holds Tryz.pinned (OpenSpec.ofChange Rows.fnRootLevelsSpec) :=
  OpenClaim.holds_of_wide 9 Tryz.f9 rfl rfl rfl rfl rfl rfl rfl ⟨rfl, rfl, rfl, rfl, rfl⟩ rfl rfl rfl rfl rfl named Tryz.func9 closed
    (of_decide_eq_true (by as_aux_lemma => kernel_rfl)) (by unfold Func.isWrapper; first | (rw [if_pos (by decide +kernel)]; kernel_rfl) | (rw [if_neg (by decide +kernel)]; exact ⟨rfl, rfl⟩))
    (fun os started H enc _ => lifted os started H enc)
theorem proved : Rows.FnRootLevelsSaid := over
#print axioms proved
end FnRootLevels
end Go.Proofs.YthhmhigddmimjaaGreat
