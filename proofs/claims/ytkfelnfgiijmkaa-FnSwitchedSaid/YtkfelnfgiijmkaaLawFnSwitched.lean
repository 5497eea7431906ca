/-
  For every input the law FnSwitched returns true. No condition. The walk is printed by gen_laws.py.
-/
import Derived.Test.YtkfelnfgiijmkaaLawKs
import Derived.Test.YtkfelnfgiijmkaaDrawS
import Derived.Test.YtkfelnfgiijmkaaSwitches
import Derived.Test.YtkfelnfgiijmkaaSwc
import Derived.Test.YtkfelnfgiijmkaaPlain10
import Derived.Test.YtkfelnfgiijmkaaBits
import Derived.Test.YtkfelnfgiijmkaaSeat
import Derived.Test.YtkfelnfgiijmkaaOpen
import Derived.Test.YtkfelnfgiijmkaaText
namespace Go.Proofs.Ytkfelnfgiijmkaa
open Go.ChangeShapes Go.WideShapes Go.ChangeAt Go.RowKit Go.Deep Go.Joins

namespace FnSwitched
set_option maxHeartbeats 4000000 in
set_option maxRecDepth 100000 in
theorem walk (A : Option Addr) (n c : Nat) (bs : List UInt8) (w : World) (hR : Sl w 1 A n (byts bs)) (hnc : n ≤ c) (_hm : n ≤ maxLen) :
    Calls Try.prog 3 #[.slice A n c] w fun e w' => e = .returned (.bool true) ∧ Gr w w' := by
  have HR := Lib.hid hR
  clear hR
  go_enter Try.func3, Try.ntmps3
  go_wp2_with fail
  refine (big_any _).mono ?_
  rintro e w' ⟨rfl, hw'⟩
  rw [← hw']
  clear hw'
  by_cases hb : 4096 < n
  · have tb : decide (4096 < n) = true := decide_eq_true hb
    go_wp2_with fail
    go_ret
    exact ⟨rfl, Gr.refl _⟩
  have tb : decide (4096 < n) = false := decide_eq_false hb
  go_wp2_with fail
  refine (DrawSwitchPipes_any bs _ ⟨HR.out, hnc, by omega⟩).mono ?_
  rintro e w0 ⟨A1, n1, c1, A2, n2, c2, v, A3, n3, c3, zs, A4, n4, c4, ss, q, rfl, hq, hN, hHZ, hHS, gw⟩
  obtain ⟨w1, hw1⟩ : ∃ W, W = w0.alloc (.cells #[.slice A1 n1 c1, .slice A2 n2 c2] 27) := ⟨_, rfl⟩
  obtain ⟨M, hM⟩ : ∃ M, M = w0.heap.size := ⟨_, rfl⟩
  have a0 : w1.cell? ⟨M, 0, none⟩ = some (.slice A1 n1 c1) := by rw [hw1, hM]; simp [go_sem]
  have a1 : w1.cell? ⟨M, 1, none⟩ = some (.slice A2 n2 c2) := by rw [hw1, hM]; simp [go_sem]
  have h01 : Gr w0 w1 := by rw [hw1]; exact (Gr.refl _).alloc _
  replace gw : Gr w w1 := gw.trans h01
  have HN := Lib.hid (hN.gr h01)
  have mHZ := hHZ.small
  have HZ := Lib.hid (hHZ.gr h01)
  have mHS := hHS.small
  have HS := Lib.hid (hHS.gr h01)
  have Hw1 := Lib.hid hw1
  have HM := Lib.hid hM
  clear hw1 hM hN h01 hHZ hHS
  go_wp2_with fail
  rw [← Hw1.out, ← HM.out]
  have hwf : (Lit.int .i64 q).wf = true := wf_small (by omega)
  refine (SwitchPipes_any v zs ss q _ HN.out HZ.out HS.out hwf).mono ?_
  rintro e w2 ⟨XA, Xm, Xc, rfl, Xl, o, h⟩
  replace gw := gw.trans h
  replace a0 := h.has a0
  replace a1 := h.has a1
  replace HN := Lib.hid (HN.out.gr h)
  replace HZ := Lib.hid (HZ.out.gr h)
  replace HS := Lib.hid (HS.out.gr h)
  have HX := Lib.hid (SlAt.of_own o Xl)
  clear h o
  go_wp2_with fail
  refine (spSwitchPipes_any v zs ss q _ HN.out HZ.out HS.out hwf).mono ?_
  rintro e w3 ⟨YA, Ym, Yc, rfl, Yl, o, h⟩
  replace gw := gw.trans h
  replace a0 := h.has a0
  replace a1 := h.has a1
  replace HN := Lib.hid (HN.out.gr h)
  replace HZ := Lib.hid (HZ.out.gr h)
  replace HS := Lib.hid (HS.out.gr h)
  replace HX := Lib.hid (HX.out.gr h)
  have HY := Lib.hid (SlAt.of_own o Yl)
  clear h o
  go_wp2_with fail
  refine (likeInts_same _ _ HX.out HY.out).mono ?_
  rintro e w4 ⟨rfl, h⟩
  replace gw := gw.trans h
  replace a0 := h.has a0
  replace a1 := h.has a1
  replace HN := Lib.hid (HN.out.gr h)
  replace HZ := Lib.hid (HZ.out.gr h)
  replace HS := Lib.hid (HS.out.gr h)
  replace HX := Lib.hid (HX.out.gr h)
  replace HY := Lib.hid (HY.out.gr h)
  clear h
  go_wp2_with fail
  refine (BitsOf_any q hwf _).mono ?_
  rintro e w' ⟨rfl, hw'⟩
  rw [← hw']
  clear hw'
  go_wp2_with fail
  refine (spBitsOf_any q _).mono ?_
  rintro e w' ⟨rfl, hw'⟩
  rw [← hw']
  clear hw'
  by_cases hc : spwCode v zs ss q = 0
  · obtain ⟨f1, f2, f3, f4, f5, f6, f7, f8⟩ := switched_law hc
    have F1 := Lib.hid f1
    have F2 := Lib.hid f2
    have F3 := Lib.hid f3
    have F4 := Lib.hid f4
    have F5 := Lib.hid f5
    have F7 := Lib.hid f7
    have F8 := Lib.hid f8
    have tc : (spwCode v zs ss q != 0) = false := by simp [hc]
    clear hc f1 f2 f3 f4 f5 f6 f7 f8
    go_wp2_with fail
    refine (SwitchPipes_any v (spwRes v zs ss q) ss q _ HN.out HX.out HS.out hwf).mono ?_
    rintro e w5 ⟨BA, Bm, Bc, rfl, Bl, o, h⟩
    replace gw := gw.trans h
    replace a0 := h.has a0
    replace a1 := h.has a1
    replace HN := Lib.hid (HN.out.gr h)
    replace HZ := Lib.hid (HZ.out.gr h)
    replace HS := Lib.hid (HS.out.gr h)
    replace HX := Lib.hid (HX.out.gr h)
    replace HY := Lib.hid (HY.out.gr h)
    have HB := Lib.hid (SlAt.of_own o Bl)
    clear h o
    rw [F1.out]
    go_wp2_with fail
    refine (spSwitchPipes_any v (spwRes v zs ss q) ss q _ HN.out HX.out HS.out hwf).mono ?_
    rintro e w6 ⟨CA, Cm, Cc, rfl, Cl, o, h⟩
    replace gw := gw.trans h
    replace a0 := h.has a0
    replace a1 := h.has a1
    replace HN := Lib.hid (HN.out.gr h)
    replace HZ := Lib.hid (HZ.out.gr h)
    replace HS := Lib.hid (HS.out.gr h)
    replace HX := Lib.hid (HX.out.gr h)
    replace HY := Lib.hid (HY.out.gr h)
    replace HB := Lib.hid (HB.out.gr h)
    have HC := Lib.hid (SlAt.of_own o Cl)
    clear h o
    rw [F1.out]
    go_wp2_with fail
    refine (likeInts_same _ _ HB.out HC.out).mono ?_
    rintro e w7 ⟨rfl, h⟩
    replace gw := gw.trans h
    replace a0 := h.has a0
    replace a1 := h.has a1
    replace HN := Lib.hid (HN.out.gr h)
    replace HZ := Lib.hid (HZ.out.gr h)
    replace HS := Lib.hid (HS.out.gr h)
    replace HX := Lib.hid (HX.out.gr h)
    replace HY := Lib.hid (HY.out.gr h)
    replace HB := Lib.hid (HB.out.gr h)
    replace HC := Lib.hid (HC.out.gr h)
    clear h
    go_wp2_with fail
    refine (SwitchCount_ok v zs (spwRes v zs ss q) _ HN.out HZ.out HX.out F3.out F4.out).mono ?_
    rintro e w8 ⟨rfl, h⟩
    replace gw := gw.trans h
    replace a0 := h.has a0
    replace a1 := h.has a1
    replace HN := Lib.hid (HN.out.gr h)
    replace HZ := Lib.hid (HZ.out.gr h)
    replace HS := Lib.hid (HS.out.gr h)
    replace HX := Lib.hid (HX.out.gr h)
    replace HY := Lib.hid (HY.out.gr h)
    replace HB := Lib.hid (HB.out.gr h)
    replace HC := Lib.hid (HC.out.gr h)
    clear h
    rw [F7.out]
    have hbl := HB.out.sl.ilen
    have hzl := HZ.out.sl.ilen
    obtain rfl : Bm = n3 := by have := F2.out; omega
    have Hbl := Lib.hid hbl
    have Hzl := Lib.hid hzl
    clear hbl hzl
    go_wp2_with fail
    refine (BitsOf_any q hwf _).mono ?_
    rintro e w' ⟨rfl, hw'⟩
    rw [← hw']
    clear hw'
    go_wp2_with fail
    go_loopw [17] (fun i wr => ∃ k : Nat, k ≤ Bm ∧ i = .int .i64 k ∧ Gr w8 wr) (fun i _ => Bm - (intOf i).toNat)
    case atStart => exact ⟨0, Nat.zero_le _, rfl, Gr.refl _⟩
    case round =>
      obtain ⟨k, hk, rfl, hgr⟩ := hrel
      by_cases hlt : k < Bm
      · obtain ⟨y, hy⟩ : ∃ y, (spwRes v (spwRes v zs ss q) ss q)[k]? = some y := ⟨_, List.getElem?_eq_getElem (by have := Hbl.out; omega)⟩
        obtain ⟨z, hz⟩ : ∃ z, zs[k]? = some z := ⟨_, List.getElem?_eq_getElem (by have := Hzl.out; omega)⟩
        have hyz := F8.out k z hz
        rw [List.getD_eq_getElem?_getD, hy, Option.getD_some] at hyz
        obtain ⟨b1, o1, hA1, hb1, g0⟩ := (HB.out.sl.gr hgr).int hy
        obtain ⟨b2, o2, hA2, hb2, g1⟩ := (HZ.out.sl.gr hgr).int hz
        subst hA1
        subst hA2
        have t1 : (k : Int) < (Bm : Int) := by omega
        have t0 : (0 : Int) ≤ (k : Int) := by omega
        clear hy hz
        by_cases he : y = z
        · have te : (y != z) = false := by simp [he]
          clear hyz he
          go_wp2_with fail
          go_quiet (fail)
          go_wp2_with fail
          go_roundw
          case rel => exact ⟨k + 1, by omega, by go_num, hgr.drewN _⟩
          case measure => simp [intOf]; omega
        · have te : (y != z) = true := by simp [he]
          have tz : (z != 2) = false := by rcases hyz with h | h; (· exact absurd h he); simp [h]
          clear hyz he
          go_wp2_with fail
          go_quiet (fail)
          go_wp2_with fail
          go_roundw
          case rel => exact ⟨k + 1, by omega, by go_num, hgr.drewN _⟩
          case measure => simp [intOf]; omega
      · obtain rfl : k = Bm := by omega
        go_wp2_with fail
        go_ret
        exact ⟨rfl, gw.trans hgr⟩
  · have tc : (spwCode v zs ss q != 0) = true := by simp [hc]
    clear hc
    go_wp2_with fail
    go_ret
    exact ⟨rfl, gw⟩
set_option maxRecDepth 100000 in
theorem lifted (os : Os) (started : os.Started) (H : Type) (enc : TypeId × Value → H) :
    ReturnsInHanded {} Try.checked os 3 .any (Rows.fnSwitchedSpec.pre6 enc Try.prog Try.f3 Rows.fnSwitchedRow.domain false) (Rows.fnSwitchedSpec.post enc Try.prog Try.f3 false true false false) := by
  refine returnsInHanded_of_change (C := Try.checked) own started (by kernel_rfl) Try.func3
    (ChangeSpec.witness6 (enc := enc) (C := Try.checked) false ⟨#[], #[.slice none 0 0], []⟩ 8 (by kernel_rfl) (by kernel_rfl) (by kernel_rfl) (by kernel_rfl)) ?_
  intro W base args ds gs before hval0 hW hcnd _
  have hval : ∀ (j : Nat) t v, Try.f3.params[j]? = some t → args[j]? = some v → Value.okWide Try.prog W .any base t v := hval0
  have hW' := hW
  obtain ⟨p, q, hA0, hV, rfl, hfz, hnd⟩ := hW
  have hA : DataW.TrodAll enc Try.prog W 0 (fun _ => true) true Try.f3.params.toList args.toList ds p := hA0
  have hAk := hA0
  have hlt : ∀ x ∈ p, x.block < W.heap.size := fun x hx => hW'.lt x (List.mem_append_left _ hx)
  rw [Try.params3] at hA hval
  obtain ⟨u0, vs0, e0, ds0, p0, q0, hargs, rfl, rfl, h0, r0⟩ := trodAll_cons hA
  obtain ⟨rfl, rfl, rfl⟩ := trodAll_nil r0
  obtain rfl : args = #[u0] := by cases args; simp_all
  obtain ⟨rfl, rfl⟩ := trodVars_none hV
  obtain ⟨fu0, hf0⟩ := h0
  obtain ⟨aa0, bb0, cc0, rfl⟩ := okWide_slice Try.underlying22 (hval 0 _ u0 rfl rfl)
  obtain ⟨A0, n0, c0, v0, hv0, k0, k0x, hR0⟩ := open_bytes (by simpa [Value.cells] using hf0)
  injection hv0 with ha0 hb0 hc0
  subst ha0 hb0 hc0
  clear hA0 hval0
  refine (walk _ _ _ v0 W hR0 k0 (Nat.le_trans k0 k0x)).mono fun e W' ⟨he, hg⟩ => ?_
  subst he
  exact ⟨_, rfl, _, [], _, [], _, [], hW', trodAll_cons_mk (shut_bool Try.underlying4 _) trodAll_mk0, trodAll_stays hg.below _ _ _ _ _ (by rw [Try.params3]; intro t ht; simp only [List.mem_cons, List.not_mem_nil, or_false] at ht; rcases ht with rfl <;> exact ⟨by kernel_rfl, of_decide_eq_true (by kernel_rfl)⟩) hAk hlt (fun x hx => by simpa using hlt x hx), rfl, hg.below.frame _, fun h => by cases h⟩
set_option maxHeartbeats 8000000 in
set_option maxRecDepth 100000 in
theorem closed : joinedFacts Try.prog 3 Try.f3 Rows.fnSwitchedSpec Rows.fnSwitchedRow = true := by
  unfold joinedFacts
  simp only [Bool.and_eq_true]
  repeat' (with_reducible apply And.intro)
  all_goals (first | with_reducible exact seat_laid | with_reducible exact seat_maps | with_reducible exact seat_heard | with_reducible exact seat_enter | (with_reducible rw [seat_stops]; as_aux_lemma => kernel_rfl) | (with_reducible rw [seat_knobs]; as_aux_lemma => kernel_rfl) | (with_reducible rw [seat_keys]; as_aux_lemma => kernel_rfl) | (with_reducible rw [seat_final]; as_aux_lemma => kernel_rfl) | (with_reducible rw [seat_make]; as_aux_lemma => kernel_rfl) | as_aux_lemma => kernel_rfl)
theorem named : Try.prog.funcNamed Rows.fnSwitchedRow.func = some 3 := by kernel_rfl
theorem over : Rows.fnSwitchedRow.holds Try.pinned (OpenSpec.ofChange Rows.fnSwitchedSpec) :=
  OpenClaim.holds_of_wide 3 Try.f3 rfl rfl rfl rfl rfl rfl rfl ⟨rfl, rfl, rfl, rfl, rfl⟩ rfl rfl rfl rfl rfl named Try.func3 closed
    (of_decide_eq_true (by as_aux_lemma => kernel_rfl)) (by unfold Func.isWrapper; first | (rw [if_pos (by decide +kernel)]; kernel_rfl) | (rw [if_neg (by decide +kernel)]; exact ⟨rfl, rfl⟩))
    (fun os started H enc _ => lifted os started H enc)
theorem proved : Rows.FnSwitchedSaid := over
#print axioms proved
end FnSwitched
end Go.Proofs.Ytkfelnfgiijmkaa
