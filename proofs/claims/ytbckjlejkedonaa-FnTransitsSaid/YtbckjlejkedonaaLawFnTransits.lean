/-
  For every input the law FnTransits returns true. No condition. The walk is printed by gen_laws.py.
-/
import Derived.Test.YtbckjlejkedonaaLawKs
import Derived.Test.YtbckjlejkedonaaDraw19
import Derived.Test.YtbckjlejkedonaaOut3
import Derived.Test.YtbckjlejkedonaaLawKs
import Derived.Test.YtbckjlejkedonaaSeat
import Derived.Test.YtbckjlejkedonaaOpen
import Derived.Test.YtbckjlejkedonaaText
namespace Go.Proofs.Ytbckjlejkedonaa
open Go.ChangeShapes Go.WideShapes Go.ChangeAt Go.RowKit Go.Deep Go.Joins

namespace FnTransits
set_option maxHeartbeats 4000000 in
set_option maxRecDepth 100000 in
theorem walk (A : Option Addr) (n c : Nat) (bs : List UInt8) (w : World) (hR : Sl w 1 A n (byts bs)) (hnc : n ≤ c) (_hm : n ≤ maxLen) :
    Calls Try.prog 8 #[.slice A n c] w fun e w' => e = .returned (.bool true) ∧ Gr w w' := by
  have HR := Lib.hid hR
  clear hR
  go_enter Try.func8, Try.ntmps8
  go_wp2_with fail
  refine (big_any _).mono ?_
  rintro e w' ⟨rfl, hw'⟩
  rw [← hw']
  clear hw'
  by_cases hb : 4096 < n
  · have tb : decide (4096 < n) = true := decide_eq_true hb
    go_wp2_with fail
    go_ret
    exact ⟨rfl, Gr.refl _⟩
  have tb : decide (4096 < n) = false := decide_eq_false hb
  go_wp2_with fail
  obtain ⟨i0, hi0, hz0, hz1, hz2⟩ := info_parts infoInt64
  refine (DrawTransitOf_any bs _ ⟨HR.out, hnc, by omega⟩).mono ?_
  rintro e w0 ⟨A1, n1, c1, A2, n2, c2, v, A4, n4, c4, s, q, rfl, wq, hN, lHS, hHS, gw⟩
  obtain ⟨w1, hw1⟩ : ∃ W, W = w0.alloc (.cells #[.slice A1 n1 c1, .slice A2 n2 c2] 33) := ⟨_, rfl⟩
  obtain ⟨M, hM⟩ : ∃ M, M = w0.heap.size := ⟨_, rfl⟩
  have a0 : w1.cell? ⟨M, 0, none⟩ = some (.slice A1 n1 c1) := by rw [hw1, hM]; simp [go_sem]
  have a1 : w1.cell? ⟨M, 1, none⟩ = some (.slice A2 n2 c2) := by rw [hw1, hM]; simp [go_sem]
  have h01 : Gr w0 w1 := by rw [hw1]; exact (Gr.refl _).alloc _
  replace gw : Gr w w1 := gw.trans h01
  have HN := Lib.hid (hN.gr h01)
  replace hHS := SlAt.of_own hHS lHS
  have mHS := hHS.small
  have HS := Lib.hid (hHS.gr h01)
  have Hw1 := Lib.hid hw1
  have HM := Lib.hid hM
  clear hw1 hM hN h01 hHS
  go_wp2_with fail
  rw [← Hw1.out, ← HM.out]
  refine (TransitOf_any v s q _ HN.out HS.out).mono ?_
  rintro e w2 ⟨rfl, h⟩
  replace gw := gw.trans h
  replace a0 := h.has a0
  replace a1 := h.has a1
  replace HN := Lib.hid (HN.out.gr h)
  replace HS := Lib.hid (HS.out.gr h)
  clear h
  go_wp2_with fail
  refine (spTransitOf_any v s q _ HN.out HS.out).mono ?_
  rintro e w3 ⟨rfl, h⟩
  replace gw := gw.trans h
  replace a0 := h.has a0
  replace a1 := h.has a1
  replace HN := Lib.hid (HN.out.gr h)
  replace HS := Lib.hid (HS.out.gr h)
  clear h
  by_cases hc : toCode v s q = 0
  · obtain ⟨f1, f2, f3, f4, f5⟩ := transit_law hc
    have hl1 := HN.out.l1
    have hl2 := HN.out.l2
    have hm2 := HN.out.m2
    have hsl := HS.out.sl.ilen
    have bv := toVal_bnd v s q
    have bw := toVal_bnd v (negL s) q
    rw [hl2] at bv bw
    obtain ⟨hok, hfl⟩ := flCode_zero f4
    have Hfl := Lib.hid hfl
    have F1 := Lib.hid f1
    have F4 := Lib.hid f4
    have F5 := Lib.hid f5
    have hov := ov_lim f4
    have Hov := Lib.hid hov
    obtain ⟨Q, hQ⟩ : ∃ Q : Nat, q = (Q : Int) := ⟨q.toNat, by omega⟩
    subst hQ
    have hQn : Q < n1 := by omega
    have hsw : w.heap.size ≤ w3.heap.size := gw.size
    have tc : (toCode v s (Q : Int) != 0) = false := by simp [hc]
    clear hc f1 f4 f5 hov hok hfl hl1 hl2
    go_wp2_with fail
    go_loopw [10, 11] (fun o i wr => ∃ k : Nat, k ≤ n4 ∧ i = .int .i64 k ∧ (∃ A c, o = .slice A k c ∧ wr.ownsRow w3.heap.size 2 1 (.slice A k c) k (ints (negTo s k))) ∧ Gr w3 wr) (fun _ i _ => n4 - (intOf i).toNat)
    case atStart => exact ⟨0, Nat.zero_le _, rfl, ⟨_, _, rfl, World.ownsRow_lit w3 (e := 2) (size := 1) #[] 0 (Nat.le_refl _) (by unfold maxLen; omega) rfl⟩, (Gr.refl _).alloc _⟩
    case round =>
      obtain ⟨k, hk, rfl, ⟨A', c', rfl, hown⟩, hgr⟩ := hrel
      have hsz := hgr.size
      by_cases hlt : k < n4
      · obtain ⟨x, hx⟩ : ∃ x, s[k]? = some x := ⟨_, List.getElem?_eq_getElem (by omega)⟩
        obtain ⟨b, o, hAA, hb, e0⟩ := (HS.out.gr hgr).sl.int hx
        subst hAA
        have hxb : -30000 ≤ x ∧ x ≤ 30000 := (flOk_all Hfl.out).2 x (List.mem_of_getElem? hx)
        have hwn : IntKind.i64.wrap (-x) = -x := IntWalk.i64_in _ (by omega)
        have Hst := Lib.hid (negTo_step hx)
        have t1 : (k : Int) < (n4 : Int) := by omega
        have t0 : (0 : Int) ≤ (k : Int) := by omega
        have Hown := Lib.hid hown
        clear hown hx
        go_wp2_with (at_builtin; (refine wpList_append_own _ rfl _ _ _ rfl w3.heap.size 2 i0 _ 1 8 Try.underlying27 hi0 hz0 hz1 hz2 rfl (by omega) _ k _ rfl (Hown.out.alloc _) ⟨wr.heap.size, 0, none⟩ 1 1 [.int .i64 (-x)] rfl rfl (World.news_of_block (cs := #[.int .i64 (-x)]) (t := 2) (fr := (0, 0)) (heap_alloc_new wr _)) (by simp [Value.oneCell']) (by unfold maxLen; omega) (by omega) (by simp; omega) ?_; intro v' w20 hown20 hg20 _; obtain ⟨A20, c20, rfl⟩ := own_shape hown20; have Ho20 := Lib.hid (own_cells_eq hown20 (ints_snoc (negTo s k) (-x)).symm); have hg21 : Gr w3 w20 := (hgr.alloc _).grown hg20 (fun j hj => own_base_le Hown.out hj); clear hown20 hg20))
        go_wp2_with fail
        go_roundw
        case rel => exact ⟨k + 1, by omega, by go_num, ⟨_, _, rfl, by rw [Hst.out]; exact Ho20.out⟩, hg21⟩
        case measure => simp [intOf]; omega
      · obtain rfl : n4 = k := by omega
        rw [negTo_full hsl] at hown
        have HM := Lib.hid (SlAt.of_own hown (by omega))
        replace a0 := hgr.has a0
        replace a1 := hgr.has a1
        replace gw := gw.trans hgr
        replace HN := Lib.hid (HN.out.gr hgr)
        replace HS := Lib.hid (HS.out.gr hgr)
        clear hown
        go_wp2_with fail
        refine (TransitOf_any v (negL s) (Q : Int) _ HN.out HM.out).mono ?_
        rintro e w4 ⟨rfl, h⟩
        replace gw := gw.trans h
        replace a0 := h.has a0
        replace a1 := h.has a1
        replace HN := Lib.hid (HN.out.gr h)
        replace HS := Lib.hid (HS.out.gr h)
        replace HM := Lib.hid (HM.out.gr h)
        clear h
        rw [F1.out]
        go_wp2_with fail
        refine (SuppliesOf_any v s _ HN.out HS.out).mono ?_
        rintro e w5 ⟨XA, Xm, Xc, rfl, Xl, o, h⟩
        replace gw := gw.trans h
        replace a0 := h.has a0
        replace a1 := h.has a1
        replace HN := Lib.hid (HN.out.gr h)
        replace HS := Lib.hid (HS.out.gr h)
        replace HM := Lib.hid (HM.out.gr h)
        have HX := Lib.hid (SlAt.of_own o Xl)
        clear h o
        go_wp2_with fail
        refine (spSuppliesOf_any v s _ HN.out HS.out).mono ?_
        rintro e w6 ⟨YA, Ym, Yc, rfl, Yl, o, h⟩
        replace gw := gw.trans h
        replace a0 := h.has a0
        replace a1 := h.has a1
        replace HN := Lib.hid (HN.out.gr h)
        replace HS := Lib.hid (HS.out.gr h)
        replace HM := Lib.hid (HM.out.gr h)
        replace HX := Lib.hid (HX.out.gr h)
        have HY := Lib.hid (SlAt.of_own o Yl)
        clear h o
        go_wp2_with fail
        refine (likeInts_same (soRes v s) _ HX.out HY.out).mono ?_
        rintro e w7 ⟨rfl, h⟩
        replace gw := gw.trans h
        replace a0 := h.has a0
        replace a1 := h.has a1
        replace HN := Lib.hid (HN.out.gr h)
        replace HS := Lib.hid (HS.out.gr h)
        replace HM := Lib.hid (HM.out.gr h)
        replace HX := Lib.hid (HX.out.gr h)
        replace HY := Lib.hid (HY.out.gr h)
        clear h
        go_wp2_with fail
        refine (OverLimit_any v s _ HN.out HS.out).mono ?_
        rintro e w8 ⟨OA, Om, Oc, rfl, hOm, Ol, _, h⟩
        replace gw := gw.trans h
        replace a0 := h.has a0
        replace a1 := h.has a1
        replace HN := Lib.hid (HN.out.gr h)
        replace HS := Lib.hid (HS.out.gr h)
        replace HM := Lib.hid (HM.out.gr h)
        replace HX := Lib.hid (HX.out.gr h)
        replace HY := Lib.hid (HY.out.gr h)
        rw [F4.out]
        have tk : klB v s = ((Om : Int) == 0) := by rw [Hov.out, ← hOm, Bool.eq_iff_iff]; simp
        have Tk := Lib.hid tk
        clear tk hOm h
        by_cases hs : soCode v s = 0
        · have f6 := F5.out hs
          have hxl := HX.out.sl.ilen
          have hxn : Xm = n1 := by
            have e := HN.out.l1
            rw [soRes, if_pos hs, outL_len2] at hxl
            omega
          subst hxn
          obtain ⟨bx, ox, hXA, hbx, xx⟩ := HX.out.sl.int f6
          subst hXA
          rw [Int.toNat_natCast] at xx
          have ts : (soCode v s != 0) = false := by simp [hs]
          have hwr : IntKind.i64.wrap (toVal v (negL s) (Q : Int) - toVal v s (Q : Int)) = toVal v (negL s) (Q : Int) - toVal v s (Q : Int) := IntWalk.i64_in _ (by omega)
          have tl : (Q : Int) < (Xm : Int) := by omega
          have t0 : (0 : Int) ≤ (Q : Int) := by omega
          clear f6 hxl hs
          go_wp2_with fail
          refine (KeepsLimits_any v s _ HN.out HS.out).mono ?_
          rintro e w9 ⟨rfl, h⟩
          replace gw := gw.trans h
          replace a0 := h.has a0
          replace a1 := h.has a1
          replace HN := Lib.hid (HN.out.gr h)
          replace HS := Lib.hid (HS.out.gr h)
          replace HM := Lib.hid (HM.out.gr h)
          replace HX := Lib.hid (HX.out.gr h)
          replace HY := Lib.hid (HY.out.gr h)
          clear h
          rw [Tk.out]
          go_wp2_with fail
          go_ret
          exact ⟨ret_bool (by simp), gw⟩
        · have ts : (soCode v s != 0) = true := by simp [hs]
          clear hs
          go_wp2_with fail
          refine (KeepsLimits_any v s _ HN.out HS.out).mono ?_
          rintro e w9 ⟨rfl, h⟩
          replace gw := gw.trans h
          replace a0 := h.has a0
          replace a1 := h.has a1
          replace HN := Lib.hid (HN.out.gr h)
          replace HS := Lib.hid (HS.out.gr h)
          replace HM := Lib.hid (HM.out.gr h)
          replace HX := Lib.hid (HX.out.gr h)
          replace HY := Lib.hid (HY.out.gr h)
          clear h
          rw [Tk.out]
          go_wp2_with fail
          go_ret
          exact ⟨ret_bool (by simp), gw⟩
  · have tc : (toCode v s q != 0) = true := by simp [hc]
    clear hc
    go_wp2_with fail
    go_ret
    exact ⟨rfl, gw⟩
set_option maxRecDepth 100000 in
theorem lifted (os : Os) (started : os.Started) (H : Type) (enc : TypeId × Value → H) :
    ReturnsInHanded {} Try.checked os 8 .any (Rows.fnTransitsSpec.pre6 enc Try.prog Try.f8 Rows.fnTransitsRow.domain false) (Rows.fnTransitsSpec.post enc Try.prog Try.f8 false true false false) := by
  refine returnsInHanded_of_change (C := Try.checked) own started (by kernel_rfl) Try.func8
    (ChangeSpec.witness6 (enc := enc) (C := Try.checked) false ⟨#[], #[.slice none 0 0], []⟩ 8 (by kernel_rfl) (by kernel_rfl) (by kernel_rfl) (by kernel_rfl)) ?_
  intro W base args ds gs before hval0 hW hcnd _
  have hval : ∀ (j : Nat) t v, Try.f8.params[j]? = some t → args[j]? = some v → Value.okWide Try.prog W .any base t v := hval0
  have hW' := hW
  obtain ⟨p, q, hA0, hV, rfl, hfz, hnd⟩ := hW
  have hA : DataW.TrodAll enc Try.prog W 0 (fun _ => true) true Try.f8.params.toList args.toList ds p := hA0
  have hAk := hA0
  have hlt : ∀ x ∈ p, x.block < W.heap.size := fun x hx => hW'.lt x (List.mem_append_left _ hx)
  rw [Try.params8] at hA hval
  obtain ⟨u0, vs0, e0, ds0, p0, q0, hargs, rfl, rfl, h0, r0⟩ := trodAll_cons hA
  obtain ⟨rfl, rfl, rfl⟩ := trodAll_nil r0
  obtain rfl : args = #[u0] := by cases args; simp_all
  obtain ⟨rfl, rfl⟩ := trodVars_none hV
  obtain ⟨fu0, hf0⟩ := h0
  obtain ⟨aa0, bb0, cc0, rfl⟩ := okWide_slice Try.underlying43 (hval 0 _ u0 rfl rfl)
  obtain ⟨A0, n0, c0, v0, hv0, k0, k0x, hR0⟩ := open_bytes (by simpa [Value.cells] using hf0)
  injection hv0 with ha0 hb0 hc0
  subst ha0 hb0 hc0
  clear hA0 hval0
  refine (walk _ _ _ v0 W hR0 k0 (Nat.le_trans k0 k0x)).mono fun e W' ⟨he, hg⟩ => ?_
  subst he
  exact ⟨_, rfl, _, [], _, [], _, [], hW', trodAll_cons_mk (shut_bool Try.underlying4 _) trodAll_mk0, trodAll_stays hg.below _ _ _ _ _ (by rw [Try.params8]; intro t ht; simp only [List.mem_cons, List.not_mem_nil, or_false] at ht; rcases ht with rfl <;> exact ⟨by kernel_rfl, of_decide_eq_true (by kernel_rfl)⟩) hAk hlt (fun x hx => by simpa using hlt x hx), rfl, hg.below.frame _, fun h => by cases h⟩
set_option maxHeartbeats 8000000 in
set_option maxRecDepth 100000 in
theorem closed : joinedFacts Try.prog 8 Try.f8 Rows.fnTransitsSpec Rows.fnTransitsRow = true := by
  unfold joinedFacts
  simp only [Bool.and_eq_true]
  repeat' (with_reducible apply And.intro)
  all_goals (first | with_reducible exact seat_laid | with_reducible exact seat_maps | with_reducible exact seat_heard | with_reducible exact seat_enter | (with_reducible rw [seat_stops]; as_aux_lemma => kernel_rfl) | (with_reducible rw [seat_knobs]; as_aux_lemma => kernel_rfl) | (with_reducible rw [seat_keys]; as_aux_lemma => kernel_rfl) | (with_reducible rw [seat_final]; as_aux_lemma => kernel_rfl) | (with_reducible rw [seat_make]; as_aux_lemma => kernel_rfl) | as_aux_lemma => kernel_rfl)
theorem named : Try.prog.funcNamed Rows.fnTransitsRow.func = some 8 := by kernel_rfl
theorem over : Rows.fnTransitsRow.holds Try.pinned (OpenSpec.ofChange Rows.fnTransitsSpec) :=
  OpenClaim.holds_of_wide 8 Try.f8 rfl rfl rfl rfl rfl rfl rfl ⟨rfl, rfl, rfl, rfl, rfl⟩ rfl rfl rfl rfl rfl named Try.func8 closed
    (of_decide_eq_true (by as_aux_lemma => kernel_rfl)) (by unfold Func.isWrapper; first | (rw [if_pos (by decide +kernel)]; kernel_rfl) | (rw [if_neg (by decide +kernel)]; exact ⟨rfl, rfl⟩))
    (fun os started H enc _ => lifted os started H enc)
theorem proved : Rows.FnTransitsSaid := over
#print axioms proved
end FnTransits
end Go.Proofs.Ytbckjlejkedonaa
