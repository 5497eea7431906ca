/-
  For every input the law FnScaled returns true. No condition. The walk is printed by gen_laws.py.
-/
import Derived.Test.YtejfpajbkgfiaaaLawKs
import Derived.Test.YtejfpajbkgfiaaaDraw13
import Derived.Test.YtejfpajbkgfiaaaPlain4
import Derived.Test.YtejfpajbkgfiaaaScales
import Derived.Test.YtejfpajbkgfiaaaTrs
import Derived.Test.YtejfpajbkgfiaaaLawKs
import Derived.Test.YtejfpajbkgfiaaaSeat
import Derived.Test.YtejfpajbkgfiaaaOpen
import Derived.Test.YtejfpajbkgfiaaaText
namespace Go.Proofs.Ytejfpajbkgfiaaa
open Go.ChangeShapes Go.WideShapes Go.ChangeAt Go.RowKit Go.Deep Go.Joins

namespace FnScaled
set_option maxHeartbeats 4000000 in
set_option maxRecDepth 100000 in
theorem walk (A : Option Addr) (n c : Nat) (bs : List UInt8) (w : World) (hR : Sl w 1 A n (byts bs)) (hnc : n ≤ c) (_hm : n ≤ maxLen) :
    Calls Try.prog 4 #[.slice A n c] w fun e w' => e = .returned (.bool true) ∧ Gr w w' := by
  have HR := Lib.hid hR
  clear hR
  go_enter Try.func4, Try.ntmps4
  go_wp2_with fail
  refine (big_any _).mono ?_
  rintro e w' ⟨rfl, hw'⟩
  rw [← hw']
  clear hw'
  by_cases hb : 4096 < n
  · have tb : decide (4096 < n) = true := decide_eq_true hb
    go_wp2_with fail
    go_ret
    exact ⟨rfl, Gr.refl _⟩
  have tb : decide (4096 < n) = false := decide_eq_false hb
  go_wp2_with fail
  refine (DrawScaleTransports_any bs _ ⟨HR.out, hnc, by omega⟩).mono ?_
  rintro e w0 ⟨A1, n1, c1, A2, n2, c2, v, A3, n3, c3, l, A4, n4, c4, s, rfl, hN, hHL, lHS, hHS, gw⟩
  obtain ⟨w1, hw1⟩ : ∃ W, W = w0.alloc (.cells #[.slice A1 n1 c1, .slice A2 n2 c2] 27) := ⟨_, rfl⟩
  obtain ⟨M, hM⟩ : ∃ M, M = w0.heap.size := ⟨_, rfl⟩
  have a0 : w1.cell? ⟨M, 0, none⟩ = some (.slice A1 n1 c1) := by rw [hw1, hM]; simp [go_sem]
  have a1 : w1.cell? ⟨M, 1, none⟩ = some (.slice A2 n2 c2) := by rw [hw1, hM]; simp [go_sem]
  have h01 : Gr w0 w1 := by rw [hw1]; exact (Gr.refl _).alloc _
  replace gw : Gr w w1 := gw.trans h01
  have HN := Lib.hid (hN.gr h01)
  have mHL := hHL.small
  have HL := Lib.hid (hHL.gr h01)
  replace hHS := SlAt.of_own hHS lHS
  have mHS := hHS.small
  have HS := Lib.hid (hHS.gr h01)
  have Hw1 := Lib.hid hw1
  have HM := Lib.hid hM
  clear hw1 hM hN h01 hHL hHS
  go_wp2_with fail
  rw [← Hw1.out, ← HM.out]
  refine (ScaleTransports_any v l s _ HN.out HL.out HS.out).mono ?_
  rintro e w2 ⟨XA, Xm, Xc, rfl, Xl, o, h⟩
  replace gw := gw.trans h
  replace a0 := h.has a0
  replace a1 := h.has a1
  replace HN := Lib.hid (HN.out.gr h)
  replace HL := Lib.hid (HL.out.gr h)
  replace HS := Lib.hid (HS.out.gr h)
  have HX := Lib.hid (SlAt.of_own o Xl)
  clear h o
  go_wp2_with fail
  refine (spScaleTransports_any v l s _ HN.out HL.out HS.out).mono ?_
  rintro e w3 ⟨YA, Ym, Yc, rfl, Yl, o, h⟩
  replace gw := gw.trans h
  replace a0 := h.has a0
  replace a1 := h.has a1
  replace HN := Lib.hid (HN.out.gr h)
  replace HL := Lib.hid (HL.out.gr h)
  replace HS := Lib.hid (HS.out.gr h)
  replace HX := Lib.hid (HX.out.gr h)
  have HY := Lib.hid (SlAt.of_own o Yl)
  clear h o
  go_wp2_with fail
  refine (likeTransports_same _ _ HX.out HY.out).mono ?_
  rintro e w4 ⟨rfl, h⟩
  replace gw := gw.trans h
  replace a0 := h.has a0
  replace a1 := h.has a1
  replace HN := Lib.hid (HN.out.gr h)
  replace HL := Lib.hid (HL.out.gr h)
  replace HS := Lib.hid (HS.out.gr h)
  replace HX := Lib.hid (HX.out.gr h)
  replace HY := Lib.hid (HY.out.gr h)
  clear h
  by_cases hc : scCode v l s = 0
  · obtain ⟨f1, f2⟩ := sc_get hc
    obtain ⟨hz, _⟩ := scCode_zero hc
    obtain ⟨o1, o2⟩ := on_all hz
    obtain ⟨p1, p2, p3⟩ := on_none hz
    have F2 := Lib.hid f2
    have O2 := Lib.hid o2
    have hll := HL.out.sl.len GTr.cells_len (by omega)
    have hxl := HX.out.sl.len GTr.cells_len (by omega)
    obtain rfl : Xm = n3 := by omega
    have Hll := Lib.hid hll
    have hq4 : (Lit.int .i64 4).wf = true := by decide
    have hq0 : (Lit.int .i64 0).wf = true := by decide
    have to1 : (onCode v l 4 == 0) = true := by simp [o1]
    have tp1 : (onCode v l 0 == 0) = true := by simp [p1]
    have tp2 : (trCode v (onRes v l 0) == 0) = true := by simp [p2]
    have ea : amountsRes v (onRes v l 0) = amounts (onRes v l 0) := by rw [amountsRes, if_pos p2]
    have tp3 : ((amountsRes v (onRes v l 0)).sum == 0) = true := by rw [ea]; simp [p3]
    have Bz : Hid (∀ z ∈ amountsRes v (onRes v l 0), -1000000000000 ≤ z ∧ z ≤ 1000000000000) := Lib.hid (by rw [ea]; exact amounts_small p2)
    have tc : (scCode v l s != 0) = false := by simp [hc]
    clear hc f1 f2 hz o1 o2 p1 p2 p3 hll hxl ea
    go_wp2_with fail
    go_loopw [10] (fun i wr => ∃ k : Nat, k ≤ Xm ∧ i = .int .i64 k ∧ Gr w4 wr) (fun i _ => Xm - (intOf i).toNat)
    case atStart => exact ⟨0, Nat.zero_le _, rfl, Gr.refl _⟩
    case round =>
      obtain ⟨k, hk, rfl, hgr⟩ := hrel
      by_cases hlt : k < Xm
      · obtain ⟨x, hx⟩ : ∃ x, l[k]? = some x := ⟨_, List.getElem?_eq_getElem (by have := Hll.out; omega)⟩
        obtain ⟨y, hy, y1, y2, y3⟩ := F2.out k x hx
        obtain ⟨b, o, hA, hb, e0, e1, e2, e3⟩ := (HL.out.sl.gr hgr).tr hx
        obtain ⟨b', o', hA', hb', f0, f1, f2, f3⟩ := (HX.out.sl.gr hgr).tr hy
        subst hA
        subst hA'
        have t1 : (k : Int) < (Xm : Int) := by omega
        have t0 : (0 : Int) ≤ (k : Int) := by omega
        have u1 : decide (x.amount < y.amount) = false := decide_eq_false (by omega)
        have u2 : decide (y.amount < 0) = false := decide_eq_false (by omega)
        have u3 : (y.cls != x.cls) = false := by simp [y3]
        clear hx hy y1 y2 y3
        go_wp2_with fail
        go_quiet (fail)
        go_wp2_with fail
        go_roundw
        case rel => exact ⟨k + 1, by omega, by go_num, hgr.drewN _⟩
        case measure => simp [intOf]; omega
      · obtain rfl : k = Xm := by omega
        rename World => wk
        replace gw := gw.trans hgr
        replace a0 := hgr.has a0
        replace a1 := hgr.has a1
        replace HN := Lib.hid (HN.out.gr hgr)
        replace HL := Lib.hid (HL.out.gr hgr)
        go_wp2_with fail
        refine (OnlyClasses_any v l 4 _ HN.out HL.out hq4).mono ?_
        rintro e w5 ⟨PA, Pm, Pc, rfl, Pl, o, h⟩
        replace gw := gw.trans h
        replace a0 := h.has a0
        replace a1 := h.has a1
        replace HN := Lib.hid (HN.out.gr h)
        replace HL := Lib.hid (HL.out.gr h)
        have HP := Lib.hid (SlAt.of_own o Pl)
        clear h o
        go_wp2_with fail
        refine (OnlyClasses_any v l 0 _ HN.out HL.out hq0).mono ?_
        rintro e w6 ⟨RA, Rm, Rc, rfl, Rl, o, h⟩
        replace gw := gw.trans h
        replace a0 := h.has a0
        replace a1 := h.has a1
        replace HN := Lib.hid (HN.out.gr h)
        replace HL := Lib.hid (HL.out.gr h)
        replace HP := Lib.hid (HP.out.gr h)
        have HR := Lib.hid (SlAt.of_own o Rl)
        clear h o
        go_wp2_with fail
        refine (AmountsByClass_any v (onRes v l 0) _ HN.out HR.out).mono ?_
        rintro e w7 ⟨ZA, Zm, Zc, rfl, Zl, o, h⟩
        replace gw := gw.trans h
        replace a0 := h.has a0
        replace a1 := h.has a1
        replace HN := Lib.hid (HN.out.gr h)
        replace HL := Lib.hid (HL.out.gr h)
        replace HP := Lib.hid (HP.out.gr h)
        replace HR := Lib.hid (HR.out.gr h)
        have HZ := Lib.hid (SlAt.of_own o Zl)
        clear h o
        rw [O2.out] at HP
        go_wp2_with fail
        refine (likeTransports_same _ _ HP.out HL.out).mono ?_
        rintro e w8 ⟨rfl, h⟩
        replace gw := gw.trans h
        replace a0 := h.has a0
        replace a1 := h.has a1
        replace HN := Lib.hid (HN.out.gr h)
        replace HL := Lib.hid (HL.out.gr h)
        replace HP := Lib.hid (HP.out.gr h)
        replace HR := Lib.hid (HR.out.gr h)
        replace HZ := Lib.hid (HZ.out.gr h)
        clear h
        go_wp2_with fail
        refine (lawSum_any _ _ HZ.out Bz.out).mono ?_
        rintro e w' ⟨rfl, hw'⟩
        rw [← hw']
        clear hw'
        go_wp2_with fail
        go_ret
        exact ⟨ret_bool (by simp), gw⟩
  · have tc : (scCode v l s != 0) = true := by simp [hc]
    clear hc
    go_wp2_with fail
    go_ret
    exact ⟨rfl, gw⟩
set_option maxRecDepth 100000 in
theorem lifted (os : Os) (started : os.Started) (H : Type) (enc : TypeId × Value → H) :
    ReturnsInHanded {} Try.checked os 4 .any (Rows.fnScaledSpec.pre6 enc Try.prog Try.f4 Rows.fnScaledRow.domain false) (Rows.fnScaledSpec.post enc Try.prog Try.f4 false true false false) := by
  refine returnsInHanded_of_change (C := Try.checked) own started (by kernel_rfl) Try.func4
    (ChangeSpec.witness6 (enc := enc) (C := Try.checked) false ⟨#[], #[.slice none 0 0], []⟩ 8 (by kernel_rfl) (by kernel_rfl) (by kernel_rfl) (by kernel_rfl)) ?_
  intro W base args ds gs before hval0 hW hcnd _
  have hval : ∀ (j : Nat) t v, Try.f4.params[j]? = some t → args[j]? = some v → Value.okWide Try.prog W .any base t v := hval0
  have hW' := hW
  obtain ⟨p, q, hA0, hV, rfl, hfz, hnd⟩ := hW
  have hA : DataW.TrodAll enc Try.prog W 0 (fun _ => true) true Try.f4.params.toList args.toList ds p := hA0
  have hAk := hA0
  have hlt : ∀ x ∈ p, x.block < W.heap.size := fun x hx => hW'.lt x (List.mem_append_left _ hx)
  rw [Try.params4] at hA hval
  obtain ⟨u0, vs0, e0, ds0, p0, q0, hargs, rfl, rfl, h0, r0⟩ := trodAll_cons hA
  obtain ⟨rfl, rfl, rfl⟩ := trodAll_nil r0
  obtain rfl : args = #[u0] := by cases args; simp_all
  obtain ⟨rfl, rfl⟩ := trodVars_none hV
  obtain ⟨fu0, hf0⟩ := h0
  obtain ⟨aa0, bb0, cc0, rfl⟩ := okWide_slice Try.underlying22 (hval 0 _ u0 rfl rfl)
  obtain ⟨A0, n0, c0, v0, hv0, k0, k0x, hR0⟩ := open_bytes (by simpa [Value.cells] using hf0)
  injection hv0 with ha0 hb0 hc0
  subst ha0 hb0 hc0
  clear hA0 hval0
  refine (walk _ _ _ v0 W hR0 k0 (Nat.le_trans k0 k0x)).mono fun e W' ⟨he, hg⟩ => ?_
  subst he
  exact ⟨_, rfl, _, [], _, [], _, [], hW', trodAll_cons_mk (shut_bool Try.underlying4 _) trodAll_mk0, trodAll_stays hg.below _ _ _ _ _ (by rw [Try.params4]; intro t ht; simp only [List.mem_cons, List.not_mem_nil, or_false] at ht; rcases ht with rfl <;> exact ⟨by kernel_rfl, of_decide_eq_true (by kernel_rfl)⟩) hAk hlt (fun x hx => by simpa using hlt x hx), rfl, hg.below.frame _, fun h => by cases h⟩
set_option maxHeartbeats 8000000 in
set_option maxRecDepth 100000 in
theorem closed : joinedFacts Try.prog 4 Try.f4 Rows.fnScaledSpec Rows.fnScaledRow = true := by
  unfold joinedFacts
  simp only [Bool.and_eq_true]
  repeat' (with_reducible apply And.intro)
  all_goals (first | with_reducible exact seat_laid | with_reducible exact seat_maps | with_reducible exact seat_heard | with_reducible exact seat_enter | (with_reducible rw [seat_stops]; as_aux_lemma => kernel_rfl) | (with_reducible rw [seat_knobs]; as_aux_lemma => kernel_rfl) | (with_reducible rw [seat_keys]; as_aux_lemma => kernel_rfl) | (with_reducible rw [seat_final]; as_aux_lemma => kernel_rfl) | (with_reducible rw [seat_make]; as_aux_lemma => kernel_rfl) | as_aux_lemma => kernel_rfl)
theorem named : Try.prog.funcNamed Rows.fnScaledRow.func = some 4 := by kernel_rfl
theorem over : Rows.fnScaledRow.holds Try.pinned (OpenSpec.ofChange Rows.fnScaledSpec) :=
  OpenClaim.holds_of_wide 4 Try.f4 rfl rfl rfl rfl rfl rfl rfl ⟨rfl, rfl, rfl, rfl, rfl⟩ rfl rfl rfl rfl rfl named Try.func4 closed
    (of_decide_eq_true (by as_aux_lemma => kernel_rfl)) (by unfold Func.isWrapper; first | (rw [if_pos (by decide +kernel)]; kernel_rfl) | (rw [if_neg (by decide +kernel)]; exact ⟨rfl, rfl⟩))
    (fun os started H enc _ => lifted os started H enc)
theorem proved : Rows.FnScaledSaid := over
#print axioms proved
end FnScaled
end Go.Proofs.Ytejfpajbkgfiaaa
