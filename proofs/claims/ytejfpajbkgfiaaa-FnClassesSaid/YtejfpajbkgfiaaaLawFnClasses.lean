/-
  For every input the law FnClasses returns true. No condition. The walk is printed by gen_laws.py.
-/
import Derived.Test.YtejfpajbkgfiaaaLawKs
import Derived.Test.YtejfpajbkgfiaaaDraw13
import Derived.Test.YtejfpajbkgfiaaaPlain4
import Derived.Test.YtejfpajbkgfiaaaScales
import Derived.Test.YtejfpajbkgfiaaaTrs
import Derived.Test.YtejfpajbkgfiaaaLawKs
import Derived.Test.YtejfpajbkgfiaaaSeat
import Derived.Test.YtejfpajbkgfiaaaOpen
import Derived.Test.YtejfpajbkgfiaaaText
namespace Go.Proofs.Ytejfpajbkgfiaaa
open Go.ChangeShapes Go.WideShapes Go.ChangeAt Go.RowKit Go.Deep Go.Joins

namespace FnClasses
set_option maxHeartbeats 4000000 in
set_option maxRecDepth 100000 in
theorem walk (A : Option Addr) (n c : Nat) (bs : List UInt8) (w : World) (hR : Sl w 1 A n (byts bs)) (hnc : n ≤ c) (_hm : n ≤ maxLen) :
    Calls Try.prog 3 #[.slice A n c] w fun e w' => e = .returned (.bool true) ∧ Gr w w' := by
  have HR := Lib.hid hR
  clear hR
  go_enter Try.func3, Try.ntmps3
  go_wp2_with fail
  refine (big_any _).mono ?_
  rintro e w' ⟨rfl, hw'⟩
  rw [← hw']
  clear hw'
  by_cases hb : 4096 < n
  · have tb : decide (4096 < n) = true := decide_eq_true hb
    go_wp2_with fail
    go_ret
    exact ⟨rfl, Gr.refl _⟩
  have tb : decide (4096 < n) = false := decide_eq_false hb
  go_wp2_with fail
  refine (DrawOnlyClasses_any bs _ ⟨HR.out, hnc, by omega⟩).mono ?_
  rintro e w0 ⟨A1, n1, c1, A2, n2, c2, v, A3, n3, c3, l, q, rfl, hq, hN, hHL, gw⟩
  obtain ⟨w1, hw1⟩ : ∃ W, W = w0.alloc (.cells #[.slice A1 n1 c1, .slice A2 n2 c2] 27) := ⟨_, rfl⟩
  obtain ⟨M, hM⟩ : ∃ M, M = w0.heap.size := ⟨_, rfl⟩
  have a0 : w1.cell? ⟨M, 0, none⟩ = some (.slice A1 n1 c1) := by rw [hw1, hM]; simp [go_sem]
  have a1 : w1.cell? ⟨M, 1, none⟩ = some (.slice A2 n2 c2) := by rw [hw1, hM]; simp [go_sem]
  have h01 : Gr w0 w1 := by rw [hw1]; exact (Gr.refl _).alloc _
  replace gw : Gr w w1 := gw.trans h01
  have HN := Lib.hid (hN.gr h01)
  have mHL := hHL.small
  have HL := Lib.hid (hHL.gr h01)
  have Hw1 := Lib.hid hw1
  have HM := Lib.hid hM
  clear hw1 hM hN h01 hHL
  go_wp2_with fail
  rw [← Hw1.out, ← HM.out]
  refine (OnlyClasses_any v l q _ HN.out HL.out hq).mono ?_
  rintro e w2 ⟨XA, Xm, Xc, rfl, Xl, o, h⟩
  replace gw := gw.trans h
  replace a0 := h.has a0
  replace a1 := h.has a1
  replace HN := Lib.hid (HN.out.gr h)
  replace HL := Lib.hid (HL.out.gr h)
  have HX := Lib.hid (SlAt.of_own o Xl)
  clear h o
  go_wp2_with fail
  refine (spOnlyClasses_any v l q _ HN.out HL.out hq).mono ?_
  rintro e w3 ⟨YA, Ym, Yc, rfl, Yl, o, h⟩
  replace gw := gw.trans h
  replace a0 := h.has a0
  replace a1 := h.has a1
  replace HN := Lib.hid (HN.out.gr h)
  replace HL := Lib.hid (HL.out.gr h)
  replace HX := Lib.hid (HX.out.gr h)
  have HY := Lib.hid (SlAt.of_own o Yl)
  clear h o
  go_wp2_with fail
  refine (AmountsByClass_any v l _ HN.out HL.out).mono ?_
  rintro e w4 ⟨ZA, Zm, Zc, rfl, Zl, o, h⟩
  replace gw := gw.trans h
  replace a0 := h.has a0
  replace a1 := h.has a1
  replace HN := Lib.hid (HN.out.gr h)
  replace HL := Lib.hid (HL.out.gr h)
  replace HX := Lib.hid (HX.out.gr h)
  replace HY := Lib.hid (HY.out.gr h)
  have HZ := Lib.hid (SlAt.of_own o Zl)
  clear h o
  go_wp2_with fail
  refine (spAmountsByClass_any v l _ HN.out HL.out).mono ?_
  rintro e w5 ⟨UA, Um, Uc, rfl, Ul, o, h⟩
  replace gw := gw.trans h
  replace a0 := h.has a0
  replace a1 := h.has a1
  replace HN := Lib.hid (HN.out.gr h)
  replace HL := Lib.hid (HL.out.gr h)
  replace HX := Lib.hid (HX.out.gr h)
  replace HY := Lib.hid (HY.out.gr h)
  replace HZ := Lib.hid (HZ.out.gr h)
  have HU := Lib.hid (SlAt.of_own o Ul)
  clear h o
  go_wp2_with fail
  refine (likeTransports_same _ _ HX.out HY.out).mono ?_
  rintro e w6 ⟨rfl, h⟩
  replace gw := gw.trans h
  replace a0 := h.has a0
  replace a1 := h.has a1
  replace HN := Lib.hid (HN.out.gr h)
  replace HL := Lib.hid (HL.out.gr h)
  replace HX := Lib.hid (HX.out.gr h)
  replace HY := Lib.hid (HY.out.gr h)
  replace HZ := Lib.hid (HZ.out.gr h)
  replace HU := Lib.hid (HU.out.gr h)
  clear h
  go_wp2_with fail
  refine (likeInts_same _ _ HZ.out HU.out).mono ?_
  rintro e w7 ⟨rfl, h⟩
  replace gw := gw.trans h
  replace a0 := h.has a0
  replace a1 := h.has a1
  replace HN := Lib.hid (HN.out.gr h)
  replace HL := Lib.hid (HL.out.gr h)
  replace HX := Lib.hid (HX.out.gr h)
  replace HY := Lib.hid (HY.out.gr h)
  replace HZ := Lib.hid (HZ.out.gr h)
  replace HU := Lib.hid (HU.out.gr h)
  clear h
  by_cases hc : onCode v l q = 0
  · obtain ⟨f1, f2⟩ := classes_law hc
    obtain ⟨hz, q0, q4⟩ := onCode_zero hc
    obtain ⟨o1, o2⟩ := on_amt hc
    obtain ⟨t1, t2⟩ := trs_amt (trCode_zero hz).2
    have ea : amountsRes v l = amounts l := by rw [amountsRes, if_pos hz]
    rw [ea] at HZ HU
    obtain ⟨Q, hQ⟩ : ∃ Q : Nat, q = (Q : Int) := ⟨q.toNat, by omega⟩
    subst hQ
    rw [Int.toNat_natCast] at f2
    have B1 := Lib.hid (amt_part t1 t2)
    have B2 := Lib.hid (amt_part o2 (by omega))
    have Bz := Lib.hid (amounts_small hz)
    have hll := HL.out.sl.len GTr.cells_len (by omega)
    have hxl := HX.out.sl.len GTr.cells_len (by omega)
    have hul := HU.out.sl.ilen
    have h4 := amounts_len l
    obtain rfl : Xm = n3 := by omega
    have E1 : Hid (amtSum (l.take Xm) = (amounts l).sum) := Lib.hid (by rw [List.take_of_length_le (by omega)]; exact f1.symm)
    have E2 : Hid (amtSum ((onRes v l (Q : Int)).take Xm) = ((amounts l).take Q).sum) := Lib.hid (by rw [List.take_of_length_le (by omega)]; exact f2)
    have Hll := Lib.hid hll
    have Hxl := Lib.hid hxl
    have Hul := Lib.hid hul
    have hU4 : Um = 4 := by omega
    have HU4 := Lib.hid hU4
    have hQ4 : Q ≤ 4 := by omega
    have tc : (onCode v l (Q : Int) != 0) = false := by simp [hc]
    clear hc f1 f2 hz o1 o2 t1 t2 ea hll hxl hul h4 hU4
    go_wp2_with fail
    go_loop [14, 15, 17] (fun x y i => ∃ k : Nat, k ≤ Xm ∧ i = .int .i64 k ∧ x = .int .i64 (amtSum (l.take k)) ∧ y = .int .i64 (amtSum ((onRes v l (Q : Int)).take k))) (fun _ _ i => Xm - (intOf i).toNat)
    case atStart => exact ⟨0, Nat.zero_le _, rfl, rfl, rfl⟩
    case round =>
      obtain ⟨k, hk, rfl, rfl, rfl⟩ := hrel
      by_cases hlt : k < Xm
      · obtain ⟨x, hx⟩ : ∃ x, l[k]? = some x := ⟨_, List.getElem?_eq_getElem (by have := Hll.out; omega)⟩
        obtain ⟨y, hy⟩ : ∃ y, (onRes v l (Q : Int))[k]? = some y := ⟨_, List.getElem?_eq_getElem (by have := Hxl.out; omega)⟩
        have s1 := amt_step hx
        have s2 := amt_step hy
        have b1 := B1.out k
        have b1' := B1.out (k + 1)
        have b2 := B2.out k
        have b2' := B2.out (k + 1)
        obtain ⟨b, o, hA, hb, e0, e1, e2, e3⟩ := HL.out.sl.tr hx
        obtain ⟨b', o', hA', hb', f0, f1, f2, f3⟩ := HX.out.sl.tr hy
        subst hA
        subst hA'
        have S1 := Lib.hid s1
        have S2 := Lib.hid s2
        have t1 : (k : Int) < (Xm : Int) := by omega
        have t0 : (0 : Int) ≤ (k : Int) := by omega
        have w1 : IntKind.i64.wrap (amtSum (l.take k) + x.amount) = amtSum (l.take k) + x.amount := IntWalk.i64_in _ (by omega)
        have w2 : IntKind.i64.wrap (amtSum ((onRes v l (Q : Int)).take k) + y.amount) = amtSum ((onRes v l (Q : Int)).take k) + y.amount := IntWalk.i64_in _ (by omega)
        clear hx hy s1 s2
        go_wp2_with fail
        go_round
        case rel => exact ⟨k + 1, by omega, by go_num, by rw [S1.out], by rw [S2.out]⟩
        case measure => simp [intOf]; omega
      · obtain rfl : k = Xm := by omega
        go_wp2_with fail
        rw [E1.out, E2.out]
        go_loop [16, 18] (fun f i => ∃ k : Nat, k ≤ Q ∧ i = .int .i64 k ∧ f = .int .i64 ((amounts l).take k).sum) (fun _ i => Q - (intOf i).toNat)
        case atStart => exact ⟨0, Nat.zero_le _, rfl, rfl⟩
        case round =>
          obtain ⟨j, hj, rfl, rfl⟩ := hrel
          by_cases hjq : j < Q
          · obtain ⟨z, hz⟩ : ∃ z, (amounts l)[j]? = some z := ⟨_, List.getElem?_eq_getElem (by have := Hul.out; have := HU4.out; omega)⟩
            have s1 := sum_take_step hz
            have b1 := sum_take_bnd (M := 1000000000000) (by decide) Bz.out j
            have b2 := Bz.out z (List.mem_of_getElem? hz)
            obtain ⟨b, o, hA, hb, e0⟩ := HU.out.sl.int hz
            subst hA
            have S1 := Lib.hid s1
            have t1 : (j : Int) < (Q : Int) := by omega
            have t2 : (j : Int) < (Um : Int) := by have := HU4.out; omega
            have t0 : (0 : Int) ≤ (j : Int) := by omega
            have w1 : IntKind.i64.wrap (((amounts l).take j).sum + z) = ((amounts l).take j).sum + z := IntWalk.i64_in _ (by omega)
            clear hz s1
            go_wp2_with fail
            go_round
            case rel => exact ⟨j + 1, by omega, by go_num, by rw [S1.out]⟩
            case measure => simp [intOf]; omega
          · obtain rfl : j = Q := by omega
            go_wp2_with fail
            refine (lawSum_any (amounts l) _ HZ.out Bz.out).mono ?_
            rintro e w' ⟨rfl, hw'⟩
            rw [← hw']
            clear hw'
            go_wp2_with fail
            go_ret
            exact ⟨ret_bool (by simp), gw⟩
  · have tc : (onCode v l q != 0) = true := by simp [hc]
    clear hc
    go_wp2_with fail
    go_ret
    exact ⟨rfl, gw⟩
set_option maxRecDepth 100000 in
theorem lifted (os : Os) (started : os.Started) (H : Type) (enc : TypeId × Value → H) :
    ReturnsInHanded {} Try.checked os 3 .any (Rows.fnClassesSpec.pre6 enc Try.prog Try.f3 Rows.fnClassesRow.domain false) (Rows.fnClassesSpec.post enc Try.prog Try.f3 false true false false) := by
  refine returnsInHanded_of_change (C := Try.checked) own started (by kernel_rfl) Try.func3
    (ChangeSpec.witness6 (enc := enc) (C := Try.checked) false ⟨#[], #[.slice none 0 0], []⟩ 8 (by kernel_rfl) (by kernel_rfl) (by kernel_rfl) (by kernel_rfl)) ?_
  intro W base args ds gs before hval0 hW hcnd _
  have hval : ∀ (j : Nat) t v, Try.f3.params[j]? = some t → args[j]? = some v → Value.okWide Try.prog W .any base t v := hval0
  have hW' := hW
  obtain ⟨p, q, hA0, hV, rfl, hfz, hnd⟩ := hW
  have hA : DataW.TrodAll enc Try.prog W 0 (fun _ => true) true Try.f3.params.toList args.toList ds p := hA0
  have hAk := hA0
  have hlt : ∀ x ∈ p, x.block < W.heap.size := fun x hx => hW'.lt x (List.mem_append_left _ hx)
  rw [Try.params3] at hA hval
  obtain ⟨u0, vs0, e0, ds0, p0, q0, hargs, rfl, rfl, h0, r0⟩ := trodAll_cons hA
  obtain ⟨rfl, rfl, rfl⟩ := trodAll_nil r0
  obtain rfl : args = #[u0] := by cases args; simp_all
  obtain ⟨rfl, rfl⟩ := trodVars_none hV
  obtain ⟨fu0, hf0⟩ := h0
  obtain ⟨aa0, bb0, cc0, rfl⟩ := okWide_slice Try.underlying22 (hval 0 _ u0 rfl rfl)
  obtain ⟨A0, n0, c0, v0, hv0, k0, k0x, hR0⟩ := open_bytes (by simpa [Value.cells] using hf0)
  injection hv0 with ha0 hb0 hc0
  subst ha0 hb0 hc0
  clear hA0 hval0
  refine (walk _ _ _ v0 W hR0 k0 (Nat.le_trans k0 k0x)).mono fun e W' ⟨he, hg⟩ => ?_
  subst he
  exact ⟨_, rfl, _, [], _, [], _, [], hW', trodAll_cons_mk (shut_bool Try.underlying4 _) trodAll_mk0, trodAll_stays hg.below _ _ _ _ _ (by rw [Try.params3]; intro t ht; simp only [List.mem_cons, List.not_mem_nil, or_false] at ht; rcases ht with rfl <;> exact ⟨by kernel_rfl, of_decide_eq_true (by kernel_rfl)⟩) hAk hlt (fun x hx => by simpa using hlt x hx), rfl, hg.below.frame _, fun h => by cases h⟩
set_option maxHeartbeats 8000000 in
set_option maxRecDepth 100000 in
theorem closed : joinedFacts Try.prog 3 Try.f3 Rows.fnClassesSpec Rows.fnClassesRow = true := by
  unfold joinedFacts
  simp only [Bool.and_eq_true]
  repeat' (with_reducible apply And.intro)
  all_goals (first | with_reducible exact seat_laid | with_reducible exact seat_maps | with_reducible exact seat_heard | with_reducible exact seat_enter | (with_reducible rw [seat_stops]; as_aux_lemma => kernel_rfl) | (with_reducible rw [seat_knobs]; as_aux_lemma => kernel_rfl) | (with_reducible rw [seat_keys]; as_aux_lemma => kernel_rfl) | (with_reducible rw [seat_final]; as_aux_lemma => kernel_rfl) | (with_reducible rw [seat_make]; as_aux_lemma => kernel_rfl) | as_aux_lemma => kernel_rfl)
theorem named : Try.prog.funcNamed Rows.fnClassesRow.func = some 3 := by kernel_rfl
theorem over : Rows.fnClassesRow.holds Try.pinned (OpenSpec.ofChange Rows.fnClassesSpec) :=
  OpenClaim.holds_of_wide 3 Try.f3 rfl rfl rfl rfl rfl rfl rfl ⟨rfl, rfl, rfl, rfl, rfl⟩ rfl rfl rfl rfl rfl named Try.func3 closed
    (of_decide_eq_true (by as_aux_lemma => kernel_rfl)) (by unfold Func.isWrapper; first | (rw [if_pos (by decide +kernel)]; kernel_rfl) | (rw [if_neg (by decide +kernel)]; exact ⟨rfl, rfl⟩))
    (fun os started H enc _ => lifted os started H enc)
theorem proved : Rows.FnClassesSaid := over
#print axioms proved
end FnClasses
end Go.Proofs.Ytejfpajbkgfiaaa
