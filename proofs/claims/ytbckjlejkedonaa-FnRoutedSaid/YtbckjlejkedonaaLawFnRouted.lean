/-
  For every input the law FnRouted returns true. No condition. The walk is printed by gen_laws.py.
-/
import Derived.Test.YtbckjlejkedonaaLawKs
import Derived.Test.YtbckjlejkedonaaDraw20
import Derived.Test.YtbckjlejkedonaaOut2
import Derived.Test.YtbckjlejkedonaaRoute1
import Derived.Test.YtbckjlejkedonaaRoute2
import Derived.Test.YtbckjlejkedonaaBlock
import Derived.Test.YtbckjlejkedonaaCap
import Derived.Test.YtbckjlejkedonaaLawKs
import Derived.Test.YtbckjlejkedonaaSeat
import Derived.Test.YtbckjlejkedonaaOpen
import Derived.Test.YtbckjlejkedonaaText
namespace Go.Proofs.Ytbckjlejkedonaa
open Go.ChangeShapes Go.WideShapes Go.ChangeAt Go.RowKit Go.Deep Go.Joins

namespace FnRouted
set_option maxHeartbeats 4000000 in
set_option maxRecDepth 100000 in
theorem walk (A : Option Addr) (n c : Nat) (bs : List UInt8) (w : World) (hR : Sl w 1 A n (byts bs)) (hnc : n ≤ c) (_hm : n ≤ maxLen) :
    Calls Try.prog 6 #[.slice A n c] w fun e w' => e = .returned (.bool true) ∧ Gr w w' := by
  have HR := Lib.hid hR
  clear hR
  go_enter Try.func6, Try.ntmps6
  go_wp2_with fail
  refine (big_any _).mono ?_
  rintro e w' ⟨rfl, hw'⟩
  rw [← hw']
  clear hw'
  by_cases hb : 4096 < n
  · have tb : decide (4096 < n) = true := decide_eq_true hb
    go_wp2_with fail
    go_ret
    exact ⟨rfl, Gr.refl _⟩
  have tb : decide (4096 < n) = false := decide_eq_false hb
  go_wp2_with fail
  refine (DrawRouteSupplies_any bs _ ⟨HR.out, hnc, by omega⟩).mono ?_
  rintro e w0 ⟨A1, n1, c1, A2, n2, c2, v, A4, n4, c4, s, rfl, hN, hHS, gw⟩
  obtain ⟨w1, hw1⟩ : ∃ W, W = w0.alloc (.cells #[.slice A1 n1 c1, .slice A2 n2 c2] 33) := ⟨_, rfl⟩
  obtain ⟨M, hM⟩ : ∃ M, M = w0.heap.size := ⟨_, rfl⟩
  have a0 : w1.cell? ⟨M, 0, none⟩ = some (.slice A1 n1 c1) := by rw [hw1, hM]; simp [go_sem]
  have a1 : w1.cell? ⟨M, 1, none⟩ = some (.slice A2 n2 c2) := by rw [hw1, hM]; simp [go_sem]
  have h01 : Gr w0 w1 := by rw [hw1]; exact (Gr.refl _).alloc _
  replace gw : Gr w w1 := gw.trans h01
  have HN := Lib.hid (hN.gr h01)
  have mHS := hHS.small
  have HS := Lib.hid (hHS.gr h01)
  have Hw1 := Lib.hid hw1
  have HM := Lib.hid hM
  clear hw1 hM hN h01 hHS
  go_wp2_with fail
  rw [← Hw1.out, ← HM.out]
  refine (RouteSupplies_any v s _ HN.out HS.out).mono ?_
  rintro e w2 ⟨XA, Xm, Xc, rfl, Xl, o, h⟩
  replace gw := gw.trans h
  replace a0 := h.has a0
  replace a1 := h.has a1
  replace HN := Lib.hid (HN.out.gr h)
  replace HS := Lib.hid (HS.out.gr h)
  have HX := Lib.hid (SlAt.of_own o Xl)
  clear h o
  go_wp2_with fail
  refine (spRouteSupplies_any v s _ HN.out HS.out).mono ?_
  rintro e w3 ⟨YA, Ym, Yc, rfl, Yl, o, h⟩
  replace gw := gw.trans h
  replace a0 := h.has a0
  replace a1 := h.has a1
  replace HN := Lib.hid (HN.out.gr h)
  replace HS := Lib.hid (HS.out.gr h)
  replace HX := Lib.hid (HX.out.gr h)
  have HY := Lib.hid (SlAt.of_own o Yl)
  clear h o
  go_wp2_with fail
  refine (likeInts_same (rsRes v s) _ HX.out HY.out).mono ?_
  rintro e w4 ⟨rfl, h⟩
  replace gw := gw.trans h
  replace a0 := h.has a0
  replace a1 := h.has a1
  replace HN := Lib.hid (HN.out.gr h)
  replace HS := Lib.hid (HS.out.gr h)
  replace HX := Lib.hid (HX.out.gr h)
  replace HY := Lib.hid (HY.out.gr h)
  clear h
  go_wp2_with fail
  refine (IsRoutable_any v s _ HN.out HS.out).mono ?_
  rintro e w5 ⟨rfl, h⟩
  replace gw := gw.trans h
  replace a0 := h.has a0
  replace a1 := h.has a1
  replace HN := Lib.hid (HN.out.gr h)
  replace HS := Lib.hid (HS.out.gr h)
  replace HX := Lib.hid (HX.out.gr h)
  replace HY := Lib.hid (HY.out.gr h)
  clear h
  rw [show routeB v s = (rsCode v s == 0) from rfl]
  go_wp2_with fail
  refine (BlockingSet_any v s _ HN.out HS.out).mono ?_
  rintro e w6 ⟨ZA, Zm, Zc, rfl, Zl, o, h⟩
  replace gw := gw.trans h
  replace a0 := h.has a0
  replace a1 := h.has a1
  replace HN := Lib.hid (HN.out.gr h)
  replace HS := Lib.hid (HS.out.gr h)
  replace HX := Lib.hid (HX.out.gr h)
  replace HY := Lib.hid (HY.out.gr h)
  have HZ := Lib.hid (SlAt.of_own o Zl)
  clear h o
  go_wp2_with fail
  refine (spBlockingSet_any v s _ HN.out HS.out).mono ?_
  rintro e w7 ⟨UA, Um, Uc, rfl, Ul, o, h⟩
  replace gw := gw.trans h
  replace a0 := h.has a0
  replace a1 := h.has a1
  replace HN := Lib.hid (HN.out.gr h)
  replace HS := Lib.hid (HS.out.gr h)
  replace HX := Lib.hid (HX.out.gr h)
  replace HY := Lib.hid (HY.out.gr h)
  replace HZ := Lib.hid (HZ.out.gr h)
  have HU := Lib.hid (SlAt.of_own o Ul)
  clear h o
  go_wp2_with fail
  refine (likeInts_same (bkRes v s) _ HZ.out HU.out).mono ?_
  rintro e w8 ⟨rfl, h⟩
  replace gw := gw.trans h
  replace a0 := h.has a0
  replace a1 := h.has a1
  replace HN := Lib.hid (HN.out.gr h)
  replace HS := Lib.hid (HS.out.gr h)
  replace HX := Lib.hid (HX.out.gr h)
  replace HY := Lib.hid (HY.out.gr h)
  replace HZ := Lib.hid (HZ.out.gr h)
  replace HU := Lib.hid (HU.out.gr h)
  clear h
  by_cases hc : rsCode v s = 0
  · obtain ⟨f1, f2, f3⟩ := routed_bal hc
    have F2 := Lib.hid f2
    have F3 := Lib.hid f3
    have tc : (rsCode v s == 0) = true := by simp [hc]
    have tb : (bkCode v s == 4) = true := by simp [f1]
    clear hc f1 f2 f3
    go_wp2_with fail
    refine (IsBalanced_any v (rsRes v s) s _ HN.out HX.out HS.out).mono ?_
    rintro e w9 ⟨rfl, h⟩
    replace gw := gw.trans h
    replace a0 := h.has a0
    replace a1 := h.has a1
    replace HN := Lib.hid (HN.out.gr h)
    replace HS := Lib.hid (HS.out.gr h)
    replace HX := Lib.hid (HX.out.gr h)
    replace HY := Lib.hid (HY.out.gr h)
    replace HZ := Lib.hid (HZ.out.gr h)
    replace HU := Lib.hid (HU.out.gr h)
    clear h
    rw [F2.out]
    go_wp2_with fail
    refine (KeepsLimits_any v (rsRes v s) _ HN.out HX.out).mono ?_
    rintro e w10 ⟨rfl, h⟩
    replace gw := gw.trans h
    replace a0 := h.has a0
    replace a1 := h.has a1
    replace HN := Lib.hid (HN.out.gr h)
    replace HS := Lib.hid (HS.out.gr h)
    replace HX := Lib.hid (HX.out.gr h)
    replace HY := Lib.hid (HY.out.gr h)
    replace HZ := Lib.hid (HZ.out.gr h)
    replace HU := Lib.hid (HU.out.gr h)
    clear h
    rw [F3.out]
    go_wp2_with fail
    go_ret
    exact ⟨rfl, gw⟩
  have tc : (rsCode v s == 0) = false := by simp [hc]
  by_cases hd : rsCode v s = 7
  · obtain ⟨f1, f2, f3, f4, f5⟩ := blocked_law hd
    have F2 := Lib.hid f2
    have F3 := Lib.hid f3
    have F5 := Lib.hid f5
    have hl1 := HN.out.l1
    have hsn : n4 = n1 := by have := HS.out.sl.ilen; have := (supOk_all f4).1; omega
    subst hsn
    have Hsb := Lib.hid (supOk_all f4).2
    have hul := HU.out.sl.ilen
    have hum := HU.out.small
    have tb : (bkCode v s == 0) = true := by simp [f1]
    have td : (rsCode v s != 7) = false := by simp [hd]
    clear hc hd f1 f2 f3 f4 f5
    go_wp2_with fail
    refine (SetCapacity_any v (bkRes v s) _ HN.out HU.out).mono ?_
    rintro e w9 ⟨rfl, h⟩
    replace gw := gw.trans h
    replace a0 := h.has a0
    replace a1 := h.has a1
    replace HN := Lib.hid (HN.out.gr h)
    replace HS := Lib.hid (HS.out.gr h)
    replace HX := Lib.hid (HX.out.gr h)
    replace HY := Lib.hid (HY.out.gr h)
    replace HZ := Lib.hid (HZ.out.gr h)
    replace HU := Lib.hid (HU.out.gr h)
    clear h
    rw [F2.out]
    go_wp2_with fail
    go_loop [15, 16] (fun a i => ∃ k : Nat, k ≤ Um ∧ i = .int .i64 k ∧ a = .int .i64 (supOf s ((bkRes v s).take k))) (fun _ i => Um - (intOf i).toNat)
    case atStart => exact ⟨0, Nat.zero_le _, rfl, rfl⟩
    case round =>
      obtain ⟨k, hk, rfl, rfl⟩ := hrel
      by_cases hlt : k < Um
      · obtain ⟨z, hz⟩ : ∃ z, (bkRes v s)[k]? = some z := ⟨_, List.getElem?_eq_getElem (by omega)⟩
        obtain ⟨z0, z1⟩ := F5.out z (List.mem_of_getElem? hz)
        obtain ⟨x, hx⟩ : ∃ x, s[z.toNat]? = some x := ⟨_, List.getElem?_eq_getElem (by have := HS.out.sl.ilen; omega)⟩
        obtain ⟨b, o, hUA, hb, e0⟩ := HU.out.sl.int hz
        subst hUA
        obtain ⟨b', o', hSA, hb', e1⟩ := HS.out.sl.int hx
        subst hSA
        have bx := Hsb.out x (List.mem_of_getElem? hx)
        have bk := supOf_bnd (l := bkRes v s) Hsb.out k
        have Hst := Lib.hid (supOf_step hz hx)
        obtain ⟨a, ha⟩ : ∃ a, a = supOf s ((bkRes v s).take k) := ⟨_, rfl⟩
        rw [← ha] at Hst bk ⊢
        have hwr : IntKind.i64.wrap (a + x) = a + x := IntWalk.i64_in _ (by omega)
        have t1 : (k : Int) < (Um : Int) := by omega
        have t0 : (0 : Int) ≤ (k : Int) := by omega
        have z2 : z < (n4 : Int) := by omega
        clear hz hx ha bk
        go_wp2_with fail
        go_round
        case rel => exact ⟨k + 1, by omega, by go_num, by rw [Hst.out]⟩
        case measure => simp [intOf]; omega
      · obtain rfl : k = Um := by omega
        have hf := F3.out
        rw [show (bkRes v s).take k = bkRes v s from List.take_of_length_le (by omega)]
        go_wp2_with fail
        go_ret
        exact ⟨ret_bool (by simp), gw⟩
  have td : (rsCode v s != 7) = true := by simp [hd]
  clear hc hd
  go_wp2_with fail
  go_ret
  exact ⟨rfl, gw⟩
set_option maxRecDepth 100000 in
theorem lifted (os : Os) (started : os.Started) (H : Type) (enc : TypeId × Value → H) :
    ReturnsInHanded {} Try.checked os 6 .any (Rows.fnRoutedSpec.pre6 enc Try.prog Try.f6 Rows.fnRoutedRow.domain false) (Rows.fnRoutedSpec.post enc Try.prog Try.f6 false true false false) := by
  refine returnsInHanded_of_change (C := Try.checked) own started (by kernel_rfl) Try.func6
    (ChangeSpec.witness6 (enc := enc) (C := Try.checked) false ⟨#[], #[.slice none 0 0], []⟩ 8 (by kernel_rfl) (by kernel_rfl) (by kernel_rfl) (by kernel_rfl)) ?_
  intro W base args ds gs before hval0 hW hcnd _
  have hval : ∀ (j : Nat) t v, Try.f6.params[j]? = some t → args[j]? = some v → Value.okWide Try.prog W .any base t v := hval0
  have hW' := hW
  obtain ⟨p, q, hA0, hV, rfl, hfz, hnd⟩ := hW
  have hA : DataW.TrodAll enc Try.prog W 0 (fun _ => true) true Try.f6.params.toList args.toList ds p := hA0
  have hAk := hA0
  have hlt : ∀ x ∈ p, x.block < W.heap.size := fun x hx => hW'.lt x (List.mem_append_left _ hx)
  rw [Try.params6] at hA hval
  obtain ⟨u0, vs0, e0, ds0, p0, q0, hargs, rfl, rfl, h0, r0⟩ := trodAll_cons hA
  obtain ⟨rfl, rfl, rfl⟩ := trodAll_nil r0
  obtain rfl : args = #[u0] := by cases args; simp_all
  obtain ⟨rfl, rfl⟩ := trodVars_none hV
  obtain ⟨fu0, hf0⟩ := h0
  obtain ⟨aa0, bb0, cc0, rfl⟩ := okWide_slice Try.underlying43 (hval 0 _ u0 rfl rfl)
  obtain ⟨A0, n0, c0, v0, hv0, k0, k0x, hR0⟩ := open_bytes (by simpa [Value.cells] using hf0)
  injection hv0 with ha0 hb0 hc0
  subst ha0 hb0 hc0
  clear hA0 hval0
  refine (walk _ _ _ v0 W hR0 k0 (Nat.le_trans k0 k0x)).mono fun e W' ⟨he, hg⟩ => ?_
  subst he
  exact ⟨_, rfl, _, [], _, [], _, [], hW', trodAll_cons_mk (shut_bool Try.underlying4 _) trodAll_mk0, trodAll_stays hg.below _ _ _ _ _ (by rw [Try.params6]; intro t ht; simp only [List.mem_cons, List.not_mem_nil, or_false] at ht; rcases ht with rfl <;> exact ⟨by kernel_rfl, of_decide_eq_true (by kernel_rfl)⟩) hAk hlt (fun x hx => by simpa using hlt x hx), rfl, hg.below.frame _, fun h => by cases h⟩
set_option maxHeartbeats 8000000 in
set_option maxRecDepth 100000 in
theorem closed : joinedFacts Try.prog 6 Try.f6 Rows.fnRoutedSpec Rows.fnRoutedRow = true := by
  unfold joinedFacts
  simp only [Bool.and_eq_true]
  repeat' (with_reducible apply And.intro)
  all_goals (first | with_reducible exact seat_laid | with_reducible exact seat_maps | with_reducible exact seat_heard | with_reducible exact seat_enter | (with_reducible rw [seat_stops]; as_aux_lemma => kernel_rfl) | (with_reducible rw [seat_knobs]; as_aux_lemma => kernel_rfl) | (with_reducible rw [seat_keys]; as_aux_lemma => kernel_rfl) | (with_reducible rw [seat_final]; as_aux_lemma => kernel_rfl) | (with_reducible rw [seat_make]; as_aux_lemma => kernel_rfl) | as_aux_lemma => kernel_rfl)
theorem named : Try.prog.funcNamed Rows.fnRoutedRow.func = some 6 := by kernel_rfl
theorem over : Rows.fnRoutedRow.holds Try.pinned (OpenSpec.ofChange Rows.fnRoutedSpec) :=
  OpenClaim.holds_of_wide 6 Try.f6 rfl rfl rfl rfl rfl rfl rfl ⟨rfl, rfl, rfl, rfl, rfl⟩ rfl rfl rfl rfl rfl named Try.func6 closed
    (of_decide_eq_true (by as_aux_lemma => kernel_rfl)) (by unfold Func.isWrapper; first | (rw [if_pos (by decide +kernel)]; kernel_rfl) | (rw [if_neg (by decide +kernel)]; exact ⟨rfl, rfl⟩))
    (fun os started H enc _ => lifted os started H enc)
theorem proved : Rows.FnRoutedSaid := over
#print axioms proved
end FnRouted
end Go.Proofs.Ytbckjlejkedonaa
