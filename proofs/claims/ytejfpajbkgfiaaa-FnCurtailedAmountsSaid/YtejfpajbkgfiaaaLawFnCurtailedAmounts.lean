/-
  For every input the law FnCurtailedAmounts returns true. No condition. The walk is printed by gen_laws.py.
-/
import Derived.Test.YtejfpajbkgfiaaaLawKs
import Derived.Test.YtejfpajbkgfiaaaDrawC
import Derived.Test.YtejfpajbkgfiaaaPlain4
import Derived.Test.YtejfpajbkgfiaaaCurtA
import Derived.Test.YtejfpajbkgfiaaaLawKs
import Derived.Test.YtejfpajbkgfiaaaSeat
import Derived.Test.YtejfpajbkgfiaaaOpen
import Derived.Test.YtejfpajbkgfiaaaText
namespace Go.Proofs.Ytejfpajbkgfiaaa
open Go.ChangeShapes Go.WideShapes Go.ChangeAt Go.RowKit Go.Deep Go.Joins

namespace FnCurtailedAmounts
set_option maxHeartbeats 4000000 in
set_option maxRecDepth 100000 in
theorem walk (A : Option Addr) (n c : Nat) (bs : List UInt8) (w : World) (hR : Sl w 1 A n (byts bs)) (hnc : n ≤ c) (_hm : n ≤ maxLen) :
    Calls Try.prog 8 #[.slice A n c] w fun e w' => e = .returned (.bool true) ∧ Gr w w' := by
  have HR := Lib.hid hR
  clear hR
  go_enter Try.func8, Try.ntmps8
  go_wp2_with fail
  refine (big_any _).mono ?_
  rintro e w' ⟨rfl, hw'⟩
  rw [← hw']
  clear hw'
  by_cases hb : 4096 < n
  · have tb : decide (4096 < n) = true := decide_eq_true hb
    go_wp2_with fail
    go_ret
    exact ⟨rfl, Gr.refl _⟩
  have tb : decide (4096 < n) = false := decide_eq_false hb
  go_wp2_with fail
  refine (DrawCurtailedAmounts_any bs _ ⟨HR.out, hnc, by omega⟩).mono ?_
  rintro e w0 ⟨A1, n1, c1, A2, n2, c2, v, A3, n3, c3, l, rfl, hN, hHL, gw⟩
  obtain ⟨w1, hw1⟩ : ∃ W, W = w0.alloc (.cells #[.slice A1 n1 c1, .slice A2 n2 c2] 27) := ⟨_, rfl⟩
  obtain ⟨M, hM⟩ : ∃ M, M = w0.heap.size := ⟨_, rfl⟩
  have a0 : w1.cell? ⟨M, 0, none⟩ = some (.slice A1 n1 c1) := by rw [hw1, hM]; simp [go_sem]
  have a1 : w1.cell? ⟨M, 1, none⟩ = some (.slice A2 n2 c2) := by rw [hw1, hM]; simp [go_sem]
  have h01 : Gr w0 w1 := by rw [hw1]; exact (Gr.refl _).alloc _
  replace gw : Gr w w1 := gw.trans h01
  have HN := Lib.hid (hN.gr h01)
  have mHL := hHL.small
  have HL := Lib.hid (hHL.gr h01)
  have Hw1 := Lib.hid hw1
  have HM := Lib.hid hM
  clear hw1 hM hN h01 hHL
  go_wp2_with fail
  rw [← Hw1.out, ← HM.out]
  refine (CurtailedAmounts_any v l _ HN.out HL.out).mono ?_
  rintro e w2 ⟨XA, Xm, Xc, rfl, Xl, o, h⟩
  replace gw := gw.trans h
  replace a0 := h.has a0
  replace a1 := h.has a1
  replace HN := Lib.hid (HN.out.gr h)
  replace HL := Lib.hid (HL.out.gr h)
  have HX := Lib.hid (SlAt.of_own o Xl)
  clear h o
  go_wp2_with fail
  refine (spCurtailedAmounts_any v l _ HN.out HL.out).mono ?_
  rintro e w3 ⟨YA, Ym, Yc, rfl, Yl, o, h⟩
  replace gw := gw.trans h
  replace a0 := h.has a0
  replace a1 := h.has a1
  replace HN := Lib.hid (HN.out.gr h)
  replace HL := Lib.hid (HL.out.gr h)
  replace HX := Lib.hid (HX.out.gr h)
  have HY := Lib.hid (SlAt.of_own o Yl)
  clear h o
  go_wp2_with fail
  refine (FirstCurtailed_any v l _ HN.out HL.out).mono ?_
  rintro e w4 ⟨rfl, h⟩
  replace gw := gw.trans h
  replace a0 := h.has a0
  replace a1 := h.has a1
  replace HN := Lib.hid (HN.out.gr h)
  replace HL := Lib.hid (HL.out.gr h)
  replace HX := Lib.hid (HX.out.gr h)
  replace HY := Lib.hid (HY.out.gr h)
  clear h
  go_wp2_with fail
  refine (spFirstCurtailed_any v l _ HN.out HL.out).mono ?_
  rintro e w5 ⟨rfl, h⟩
  replace gw := gw.trans h
  replace a0 := h.has a0
  replace a1 := h.has a1
  replace HN := Lib.hid (HN.out.gr h)
  replace HL := Lib.hid (HL.out.gr h)
  replace HX := Lib.hid (HX.out.gr h)
  replace HY := Lib.hid (HY.out.gr h)
  clear h
  go_wp2_with fail
  refine (ServedShare_any v l _ HN.out HL.out).mono ?_
  rintro e w6 ⟨rfl, h⟩
  replace gw := gw.trans h
  replace a0 := h.has a0
  replace a1 := h.has a1
  replace HN := Lib.hid (HN.out.gr h)
  replace HL := Lib.hid (HL.out.gr h)
  replace HX := Lib.hid (HX.out.gr h)
  replace HY := Lib.hid (HY.out.gr h)
  clear h
  go_wp2_with fail
  refine (spServedShare_any v l _ HN.out HL.out).mono ?_
  rintro e w7 ⟨rfl, h⟩
  replace gw := gw.trans h
  replace a0 := h.has a0
  replace a1 := h.has a1
  replace HN := Lib.hid (HN.out.gr h)
  replace HL := Lib.hid (HL.out.gr h)
  replace HX := Lib.hid (HX.out.gr h)
  replace HY := Lib.hid (HY.out.gr h)
  clear h
  go_wp2_with fail
  refine (likeInts_same _ _ HX.out HY.out).mono ?_
  rintro e w8 ⟨rfl, h⟩
  replace gw := gw.trans h
  replace a0 := h.has a0
  replace a1 := h.has a1
  replace HN := Lib.hid (HN.out.gr h)
  replace HL := Lib.hid (HL.out.gr h)
  replace HX := Lib.hid (HX.out.gr h)
  replace HY := Lib.hid (HY.out.gr h)
  clear h
  by_cases hc : trCode v l = 0
  · obtain ⟨f1, f2, f3⟩ := ca_get hc
    obtain ⟨s1, s2, s3⟩ := share_law hc
    have Bz := Lib.hid (ca_small hc)
    have F3 := Lib.hid f3
    have F1 := Lib.hid f1
    have S3 := Lib.hid s3
    have hll := HL.out.sl.len GTr.cells_len (by omega)
    have Hll := Lib.hid hll
    have hxl := HX.out.sl.ilen
    obtain rfl : Xm = n3 := by omega
    have ts1 : decide (0 ≤ ssVal v l) = true := decide_eq_true s1
    have ts2 : decide (ssVal v l ≤ 100) = true := decide_eq_true s2
    have tc : (trCode v l != 0) = false := by simp [hc]
    clear hc f1 f2 f3 s1 s2 s3 hll hxl
    go_wp2_with fail
    refine (CurtailTransports_any v l _ HN.out HL.out).mono ?_
    rintro e w9 ⟨PA, Pm, Pc, rfl, Pl, o, h⟩
    replace gw := gw.trans h
    replace a0 := h.has a0
    replace a1 := h.has a1
    replace HN := Lib.hid (HN.out.gr h)
    replace HL := Lib.hid (HL.out.gr h)
    replace HX := Lib.hid (HX.out.gr h)
    replace HY := Lib.hid (HY.out.gr h)
    have HP := Lib.hid (SlAt.of_own o Pl)
    clear h o
    go_wp2_with fail
    refine (spCurtailTransports_any v l _ HN.out HL.out).mono ?_
    rintro e w10 ⟨RA, Rm, Rc, rfl, Rl, o, h⟩
    replace gw := gw.trans h
    replace a0 := h.has a0
    replace a1 := h.has a1
    replace HN := Lib.hid (HN.out.gr h)
    replace HL := Lib.hid (HL.out.gr h)
    replace HX := Lib.hid (HX.out.gr h)
    replace HY := Lib.hid (HY.out.gr h)
    replace HP := Lib.hid (HP.out.gr h)
    have HR := Lib.hid (SlAt.of_own o Rl)
    clear h o
    go_wp2_with fail
    refine (likeTransports_same _ _ HP.out HR.out).mono ?_
    rintro e w11 ⟨rfl, h⟩
    replace gw := gw.trans h
    replace a0 := h.has a0
    replace a1 := h.has a1
    replace HN := Lib.hid (HN.out.gr h)
    replace HL := Lib.hid (HL.out.gr h)
    replace HX := Lib.hid (HX.out.gr h)
    replace HY := Lib.hid (HY.out.gr h)
    replace HP := Lib.hid (HP.out.gr h)
    replace HR := Lib.hid (HR.out.gr h)
    clear h
    have hpl := HP.out.sl.len GTr.cells_len (by omega)
    obtain rfl : Xm = Pm := by have := F1.out; have := Hll.out; omega
    clear hpl
    go_wp2_with fail
    go_loopw [21] (fun i wr => ∃ k : Nat, k ≤ Xm ∧ i = .int .i64 k ∧ Gr w11 wr) (fun i _ => Xm - (intOf i).toNat)
    case atStart => exact ⟨0, Nat.zero_le _, rfl, Gr.refl _⟩
    case round =>
      obtain ⟨k, hk, rfl, hgr⟩ := hrel
      by_cases hlt : k < Xm
      · obtain ⟨x, hx⟩ : ∃ x, l[k]? = some x := ⟨_, List.getElem?_eq_getElem (by have := Hll.out; omega)⟩
        obtain ⟨y, z, hy, hz, y1, ⟨z1, z2, z3⟩, y2⟩ := F3.out k x hx
        obtain ⟨b, o, hA, hb, e0, e1, e2, e3⟩ := (HL.out.sl.gr hgr).tr hx
        obtain ⟨b', o', hA', hb', f0, f1, f2, f3⟩ := (HP.out.sl.gr hgr).tr hy
        obtain ⟨b2, o2, hA2, hb2, g0⟩ := (HX.out.sl.gr hgr).int hz
        subst hA
        subst hA'
        subst hA2
        have t1 : (k : Int) < (Xm : Int) := by omega
        have t0 : (0 : Int) ≤ (k : Int) := by omega
        have w1 : IntKind.i64.wrap (y.amount + z) = x.amount := by rw [y1]; exact IntWalk.i64_in _ (by omega)
        have u1 : decide (z < 0) = false := decide_eq_false (by omega)
        clear hx hy hz y1 z1
        by_cases hz0 : 0 < z
        · obtain ⟨c1, c2⟩ := y2 hz0
          have u2 : decide (0 < z) = true := decide_eq_true hz0
          have u3 : (fcCode v l != 0) = false := by simp [c1]
          have u4 : decide (x.cls < fcVal v l) = false := decide_eq_false (by omega)
          clear y2 hz0 c1 c2
          go_wp2_with fail
          go_quiet (fail)
          go_wp2_with fail
          go_roundw
          case rel => exact ⟨k + 1, by omega, by go_num, hgr.drewN _⟩
          case measure => simp [intOf]; omega
        · have u2 : decide (0 < z) = false := decide_eq_false hz0
          clear y2 hz0
          go_wp2_with fail
          go_quiet (fail)
          go_wp2_with fail
          go_roundw
          case rel => exact ⟨k + 1, by omega, by go_num, hgr.drewN _⟩
          case measure => simp [intOf]; omega
      · obtain rfl : k = Xm := by omega
        rename World => wk
        have HX2 := Lib.hid (HX.out.gr hgr)
        have gw2 := gw.trans hgr
        go_wp2_with fail
        refine (lawSum_any _ _ HX2.out Bz.out).mono ?_
        rintro e w' ⟨rfl, hw'⟩
        rw [← hw']
        clear hw'
        by_cases hs : 0 < (caRes v l).sum
        · have us : decide (0 < (caRes v l).sum) = true := decide_eq_true hs
          go_wp2_with fail
          go_ret
          exact ⟨ret_bool (by simp), gw2⟩
        · have us : decide (0 < (caRes v l).sum) = false := decide_eq_false hs
          have ue : (ssVal v l == 100) = true := by rcases S3.out with h | h; exact absurd h hs; simp [h]
          go_wp2_with fail
          go_ret
          exact ⟨ret_bool (by simp), gw2⟩
  · have tc : (trCode v l != 0) = true := by simp [hc]
    clear hc
    go_wp2_with fail
    go_ret
    exact ⟨rfl, gw⟩
set_option maxRecDepth 100000 in
theorem lifted (os : Os) (started : os.Started) (H : Type) (enc : TypeId × Value → H) :
    ReturnsInHanded {} Try.checked os 8 .any (Rows.fnCurtailedAmountsSpec.pre6 enc Try.prog Try.f8 Rows.fnCurtailedAmountsRow.domain false) (Rows.fnCurtailedAmountsSpec.post enc Try.prog Try.f8 false true false false) := by
  refine returnsInHanded_of_change (C := Try.checked) own started (by kernel_rfl) Try.func8
    (ChangeSpec.witness6 (enc := enc) (C := Try.checked) false ⟨#[], #[.slice none 0 0], []⟩ 8 (by kernel_rfl) (by kernel_rfl) (by kernel_rfl) (by kernel_rfl)) ?_
  intro W base args ds gs before hval0 hW hcnd _
  have hval : ∀ (j : Nat) t v, Try.f8.params[j]? = some t → args[j]? = some v → Value.okWide Try.prog W .any base t v := hval0
  have hW' := hW
  obtain ⟨p, q, hA0, hV, rfl, hfz, hnd⟩ := hW
  have hA : DataW.TrodAll enc Try.prog W 0 (fun _ => true) true Try.f8.params.toList args.toList ds p := hA0
  have hAk := hA0
  have hlt : ∀ x ∈ p, x.block < W.heap.size := fun x hx => hW'.lt x (List.mem_append_left _ hx)
  rw [Try.params8] at hA hval
  obtain ⟨u0, vs0, e0, ds0, p0, q0, hargs, rfl, rfl, h0, r0⟩ := trodAll_cons hA
  obtain ⟨rfl, rfl, rfl⟩ := trodAll_nil r0
  obtain rfl : args = #[u0] := by cases args; simp_all
  obtain ⟨rfl, rfl⟩ := trodVars_none hV
  obtain ⟨fu0, hf0⟩ := h0
  obtain ⟨aa0, bb0, cc0, rfl⟩ := okWide_slice Try.underlying22 (hval 0 _ u0 rfl rfl)
  obtain ⟨A0, n0, c0, v0, hv0, k0, k0x, hR0⟩ := open_bytes (by simpa [Value.cells] using hf0)
  injection hv0 with ha0 hb0 hc0
  subst ha0 hb0 hc0
  clear hA0 hval0
  refine (walk _ _ _ v0 W hR0 k0 (Nat.le_trans k0 k0x)).mono fun e W' ⟨he, hg⟩ => ?_
  subst he
  exact ⟨_, rfl, _, [], _, [], _, [], hW', trodAll_cons_mk (shut_bool Try.underlying4 _) trodAll_mk0, trodAll_stays hg.below _ _ _ _ _ (by rw [Try.params8]; intro t ht; simp only [List.mem_cons, List.not_mem_nil, or_false] at ht; rcases ht with rfl <;> exact ⟨by kernel_rfl, of_decide_eq_true (by kernel_rfl)⟩) hAk hlt (fun x hx => by simpa using hlt x hx), rfl, hg.below.frame _, fun h => by cases h⟩
set_option maxHeartbeats 8000000 in
set_option maxRecDepth 100000 in
theorem closed : joinedFacts Try.prog 8 Try.f8 Rows.fnCurtailedAmountsSpec Rows.fnCurtailedAmountsRow = true := by
  unfold joinedFacts
  simp only [Bool.and_eq_true]
  repeat' (with_reducible apply And.intro)
  all_goals (first | with_reducible exact seat_laid | with_reducible exact seat_maps | with_reducible exact seat_heard | with_reducible exact seat_enter | (with_reducible rw [seat_stops]; as_aux_lemma => kernel_rfl) | (with_reducible rw [seat_knobs]; as_aux_lemma => kernel_rfl) | (with_reducible rw [seat_keys]; as_aux_lemma => kernel_rfl) | (with_reducible rw [seat_final]; as_aux_lemma => kernel_rfl) | (with_reducible rw [seat_make]; as_aux_lemma => kernel_rfl) | as_aux_lemma => kernel_rfl)
theorem named : Try.prog.funcNamed Rows.fnCurtailedAmountsRow.func = some 8 := by kernel_rfl
theorem over : Rows.fnCurtailedAmountsRow.holds Try.pinned (OpenSpec.ofChange Rows.fnCurtailedAmountsSpec) :=
  OpenClaim.holds_of_wide 8 Try.f8 rfl rfl rfl rfl rfl rfl rfl ⟨rfl, rfl, rfl, rfl, rfl⟩ rfl rfl rfl rfl rfl named Try.func8 closed
    (of_decide_eq_true (by as_aux_lemma => kernel_rfl)) (by unfold Func.isWrapper; first | (rw [if_pos (by decide +kernel)]; kernel_rfl) | (rw [if_neg (by decide +kernel)]; exact ⟨rfl, rfl⟩))
    (fun os started H enc _ => lifted os started H enc)
theorem proved : Rows.FnCurtailedAmountsSaid := over
#print axioms proved
end FnCurtailedAmounts
end Go.Proofs.Ytejfpajbkgfiaaa
