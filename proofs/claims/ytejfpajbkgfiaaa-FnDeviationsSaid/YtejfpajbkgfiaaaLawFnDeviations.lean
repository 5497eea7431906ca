/-
  For every input the law FnDeviations returns true. No condition. The walk is printed by gen_laws.py.
-/
import Derived.Test.YtejfpajbkgfiaaaLawKs
import Derived.Test.YtejfpajbkgfiaaaDraw15
import Derived.Test.YtejfpajbkgfiaaaPlain3
import Derived.Test.YtejfpajbkgfiaaaAllocA
import Derived.Test.YtejfpajbkgfiaaaLawKs
import Derived.Test.YtejfpajbkgfiaaaSeat
import Derived.Test.YtejfpajbkgfiaaaOpen
import Derived.Test.YtejfpajbkgfiaaaText
namespace Go.Proofs.Ytejfpajbkgfiaaa
open Go.ChangeShapes Go.WideShapes Go.ChangeAt Go.RowKit Go.Deep Go.Joins

theorem prod_bnd15 {a b : Int} (ha : -48000000000 ≤ a ∧ a ≤ 48000000000) (hb : -30000 ≤ b ∧ b ≤ 30000) : -1440000000000000 ≤ a * b ∧ a * b ≤ 1440000000000000 := by
  have h1 : a.natAbs ≤ 48000000000 := by omega
  have h2 : b.natAbs ≤ 30000 := by omega
  have h3 : (a * b).natAbs ≤ 48000000000 * 30000 := by rw [Int.natAbs_mul]; exact Nat.mul_le_mul h1 h2
  generalize a * b = p at h3 ⊢
  omega

namespace FnDeviations
set_option maxHeartbeats 4000000 in
set_option maxRecDepth 100000 in
theorem walk (A : Option Addr) (n c : Nat) (bs : List UInt8) (w : World) (hR : Sl w 1 A n (byts bs)) (hnc : n ≤ c) (_hm : n ≤ maxLen) :
    Calls Try.prog 12 #[.slice A n c] w fun e w' => e = .returned (.bool true) ∧ Gr w w' := by
  have HR := Lib.hid hR
  clear hR
  go_enter Try.func12, Try.ntmps12
  go_wp2_with fail
  refine (big_any _).mono ?_
  rintro e w' ⟨rfl, hw'⟩
  rw [← hw']
  clear hw'
  by_cases hb : 4096 < n
  · have tb : decide (4096 < n) = true := decide_eq_true hb
    go_wp2_with fail
    go_ret
    exact ⟨rfl, Gr.refl _⟩
  have tb : decide (4096 < n) = false := decide_eq_false hb
  go_wp2_with fail
  refine (DrawDeviationsOf_any bs _ ⟨HR.out, hnc, by omega⟩).mono ?_
  rintro e w0 ⟨A1, n1, c1, A2, n2, c2, v, A3, n3, c3, os, A4, n4, c4, l, rfl, hN, hHO, hHL, gw⟩
  obtain ⟨w1, hw1⟩ : ∃ W, W = w0.alloc (.cells #[.slice A1 n1 c1, .slice A2 n2 c2] 27) := ⟨_, rfl⟩
  obtain ⟨M, hM⟩ : ∃ M, M = w0.heap.size := ⟨_, rfl⟩
  have a0 : w1.cell? ⟨M, 0, none⟩ = some (.slice A1 n1 c1) := by rw [hw1, hM]; simp [go_sem]
  have a1 : w1.cell? ⟨M, 1, none⟩ = some (.slice A2 n2 c2) := by rw [hw1, hM]; simp [go_sem]
  have h01 : Gr w0 w1 := by rw [hw1]; exact (Gr.refl _).alloc _
  replace gw : Gr w w1 := gw.trans h01
  have HN := Lib.hid (hN.gr h01)
  have mHO := hHO.small
  have HO := Lib.hid (hHO.gr h01)
  have mHL := hHL.small
  have HL := Lib.hid (hHL.gr h01)
  have Hw1 := Lib.hid hw1
  have HM := Lib.hid hM
  clear hw1 hM hN h01 hHO hHL
  go_wp2_with fail
  rw [← Hw1.out, ← HM.out]
  refine (DeviationsOf_any v os l _ HN.out HO.out HL.out).mono ?_
  rintro e w2 ⟨XA, Xm, Xc, rfl, Xl, o, h⟩
  replace gw := gw.trans h
  replace a0 := h.has a0
  replace a1 := h.has a1
  replace HN := Lib.hid (HN.out.gr h)
  replace HO := Lib.hid (HO.out.gr h)
  replace HL := Lib.hid (HL.out.gr h)
  have HX := Lib.hid (SlAt.of_own o Xl)
  clear h o
  go_wp2_with fail
  refine (spDeviationsOf_any v os l _ HN.out HO.out HL.out).mono ?_
  rintro e w3 ⟨YA, Ym, Yc, rfl, Yl, o, h⟩
  replace gw := gw.trans h
  replace a0 := h.has a0
  replace a1 := h.has a1
  replace HN := Lib.hid (HN.out.gr h)
  replace HO := Lib.hid (HO.out.gr h)
  replace HL := Lib.hid (HL.out.gr h)
  replace HX := Lib.hid (HX.out.gr h)
  have HY := Lib.hid (SlAt.of_own o Yl)
  clear h o
  go_wp2_with fail
  refine (ShipperBalance_any v os l _ HN.out HO.out HL.out).mono ?_
  rintro e w4 ⟨ZA, Zm, Zc, rfl, Zl, o, h⟩
  replace gw := gw.trans h
  replace a0 := h.has a0
  replace a1 := h.has a1
  replace HN := Lib.hid (HN.out.gr h)
  replace HO := Lib.hid (HO.out.gr h)
  replace HL := Lib.hid (HL.out.gr h)
  replace HX := Lib.hid (HX.out.gr h)
  replace HY := Lib.hid (HY.out.gr h)
  have HZ := Lib.hid (SlAt.of_own o Zl)
  clear h o
  go_wp2_with fail
  refine (spShipperBalance_any v os l _ HN.out HO.out HL.out).mono ?_
  rintro e w5 ⟨UA, Um, Uc, rfl, Ul, o, h⟩
  replace gw := gw.trans h
  replace a0 := h.has a0
  replace a1 := h.has a1
  replace HN := Lib.hid (HN.out.gr h)
  replace HO := Lib.hid (HO.out.gr h)
  replace HL := Lib.hid (HL.out.gr h)
  replace HX := Lib.hid (HX.out.gr h)
  replace HY := Lib.hid (HY.out.gr h)
  replace HZ := Lib.hid (HZ.out.gr h)
  have HU := Lib.hid (SlAt.of_own o Ul)
  clear h o
  go_wp2_with fail
  refine (likeInts_same _ _ HX.out HY.out).mono ?_
  rintro e w6 ⟨rfl, h⟩
  replace gw := gw.trans h
  replace a0 := h.has a0
  replace a1 := h.has a1
  replace HN := Lib.hid (HN.out.gr h)
  replace HO := Lib.hid (HO.out.gr h)
  replace HL := Lib.hid (HL.out.gr h)
  replace HX := Lib.hid (HX.out.gr h)
  replace HY := Lib.hid (HY.out.gr h)
  replace HZ := Lib.hid (HZ.out.gr h)
  replace HU := Lib.hid (HU.out.gr h)
  clear h
  go_wp2_with fail
  refine (likeInts_same _ _ HZ.out HU.out).mono ?_
  rintro e w7 ⟨rfl, h⟩
  replace gw := gw.trans h
  replace a0 := h.has a0
  replace a1 := h.has a1
  replace HN := Lib.hid (HN.out.gr h)
  replace HO := Lib.hid (HO.out.gr h)
  replace HL := Lib.hid (HL.out.gr h)
  replace HX := Lib.hid (HX.out.gr h)
  replace HY := Lib.hid (HY.out.gr h)
  replace HZ := Lib.hid (HZ.out.gr h)
  replace HU := Lib.hid (HU.out.gr h)
  clear h
  by_cases hc : rdCode v os l = 0
  · obtain ⟨d1, d2⟩ := dev_len hc
    have D1 := Lib.hid d1
    have D2 := Lib.hid d2
    have Hdv := Lib.hid (fun (i : Nat) (x : GOrd) (hx : os[i]? = some x) => dev_law hc hx)
    have hol := HO.out.sl.len GOrd.cells_len (by omega)
    have Hol := Lib.hid hol
    have hxl := HX.out.sl.ilen
    obtain rfl : Xm = n3 := by omega
    have tc : (rdCode v os l != 0) = false := by simp [hc]
    clear hc d1 d2 hol hxl
    go_wp2_with fail
    refine (Allocate_any v os l _ HN.out HO.out HL.out).mono ?_
    rintro e w8 ⟨PA, Pm, Pc, rfl, Pl, o, h⟩
    replace gw := gw.trans h
    replace a0 := h.has a0
    replace a1 := h.has a1
    replace HN := Lib.hid (HN.out.gr h)
    replace HO := Lib.hid (HO.out.gr h)
    replace HL := Lib.hid (HL.out.gr h)
    replace HX := Lib.hid (HX.out.gr h)
    replace HY := Lib.hid (HY.out.gr h)
    replace HZ := Lib.hid (HZ.out.gr h)
    replace HU := Lib.hid (HU.out.gr h)
    have HP := Lib.hid (SlAt.of_own o Pl)
    clear h o
    go_wp2_with fail
    refine (spAllocate_any v os l _ HN.out HO.out HL.out).mono ?_
    rintro e w9 ⟨TA, Tm, Tc, rfl, Tl, o, h⟩
    replace gw := gw.trans h
    replace a0 := h.has a0
    replace a1 := h.has a1
    replace HN := Lib.hid (HN.out.gr h)
    replace HO := Lib.hid (HO.out.gr h)
    replace HL := Lib.hid (HL.out.gr h)
    replace HX := Lib.hid (HX.out.gr h)
    replace HY := Lib.hid (HY.out.gr h)
    replace HZ := Lib.hid (HZ.out.gr h)
    replace HU := Lib.hid (HU.out.gr h)
    replace HP := Lib.hid (HP.out.gr h)
    have HT := Lib.hid (SlAt.of_own o Tl)
    clear h o
    go_wp2_with fail
    refine (likeInts_same _ _ HP.out HT.out).mono ?_
    rintro e w10 ⟨rfl, h⟩
    replace gw := gw.trans h
    replace a0 := h.has a0
    replace a1 := h.has a1
    replace HN := Lib.hid (HN.out.gr h)
    replace HO := Lib.hid (HO.out.gr h)
    replace HL := Lib.hid (HL.out.gr h)
    replace HX := Lib.hid (HX.out.gr h)
    replace HY := Lib.hid (HY.out.gr h)
    replace HZ := Lib.hid (HZ.out.gr h)
    replace HU := Lib.hid (HU.out.gr h)
    replace HP := Lib.hid (HP.out.gr h)
    replace HT := Lib.hid (HT.out.gr h)
    clear h
    have hpl := HP.out.sl.ilen
    obtain rfl : Xm = Pm := by have := D1.out; have := Hol.out; omega
    clear hpl
    go_wp2_with fail
    go_loopw [18] (fun i wr => ∃ k : Nat, k ≤ Xm ∧ i = .int .i64 k ∧ Gr w10 wr) (fun i _ => Xm - (intOf i).toNat)
    case atStart => exact ⟨0, Nat.zero_le _, rfl, Gr.refl _⟩
    case round =>
      obtain ⟨k, hk, rfl, hgr⟩ := hrel
      by_cases hlt : k < Xm
      · obtain ⟨x, hx⟩ : ∃ x, os[k]? = some x := ⟨_, List.getElem?_eq_getElem (by have := Hol.out; omega)⟩
        obtain ⟨e1, e2, e3, e4⟩ := Hdv.out k x hx
        have hga := get_of_lt' (l := alRes v os l) (k := k) (by have := D1.out; have := Hol.out; omega)
        have hgd := get_of_lt' (l := dvRes v os l) (k := k) (by have := D2.out; have := Hol.out; omega)
        have hpb := prod_bnd15 e3 e4
        obtain ⟨ga, hea⟩ : ∃ z, z = (alRes v os l).getD k 0 := ⟨_, rfl⟩
        obtain ⟨gd, hed⟩ : ∃ z, z = (dvRes v os l).getD k 0 := ⟨_, rfl⟩
        rw [← hea] at e1 e2 e3 hga hpb
        rw [← hed] at e1 hgd
        clear hea hed
        obtain ⟨b, o, hA, hb, q0, q1, q2, q3⟩ := (HO.out.sl.gr hgr).ord hx
        obtain ⟨b1, o1, hA1, hb1, g0⟩ := (HP.out.sl.gr hgr).int hga
        obtain ⟨b2, o2, hA2, hb2, g1⟩ := (HX.out.sl.gr hgr).int hgd
        subst hA
        subst hA1
        subst hA2
        have t1 : (k : Int) < (Xm : Int) := by omega
        have t0 : (0 : Int) ≤ (k : Int) := by omega
        have w1 : IntKind.i64.wrap (gd + x.amount) = ga := by rw [← e1]; exact IntWalk.i64_in _ (by omega)
        obtain ⟨p, hp⟩ : ∃ p, ga * x.amount = p := ⟨_, rfl⟩
        rw [hp] at e2 hpb
        have w2 : IntKind.i64.wrap p = p := IntWalk.i64_in _ (by omega)
        have u1 : decide (p < 0) = false := decide_eq_false (by omega)
        clear hx hga hgd e1 e3 e4 hpb
        go_wp2_with fail
        go_quiet (fail)
        go_wp2_with fail
        go_roundw
        case rel => exact ⟨k + 1, by omega, by go_num, hgr.drewN _⟩
        case measure => simp [intOf]; omega
      · obtain rfl : k = Xm := by omega
        go_wp2_with fail
        go_ret
        exact ⟨rfl, gw.trans hgr⟩
  · have tc : (rdCode v os l != 0) = true := by simp [hc]
    clear hc
    go_wp2_with fail
    go_ret
    exact ⟨rfl, gw⟩
set_option maxRecDepth 100000 in
theorem lifted (os : Os) (started : os.Started) (H : Type) (enc : TypeId × Value → H) :
    ReturnsInHanded {} Try.checked os 12 .any (Rows.fnDeviationsSpec.pre6 enc Try.prog Try.f12 Rows.fnDeviationsRow.domain false) (Rows.fnDeviationsSpec.post enc Try.prog Try.f12 false true false false) := by
  refine returnsInHanded_of_change (C := Try.checked) own started (by kernel_rfl) Try.func12
    (ChangeSpec.witness6 (enc := enc) (C := Try.checked) false ⟨#[], #[.slice none 0 0], []⟩ 8 (by kernel_rfl) (by kernel_rfl) (by kernel_rfl) (by kernel_rfl)) ?_
  intro W base args ds gs before hval0 hW hcnd _
  have hval : ∀ (j : Nat) t v, Try.f12.params[j]? = some t → args[j]? = some v → Value.okWide Try.prog W .any base t v := hval0
  have hW' := hW
  obtain ⟨p, q, hA0, hV, rfl, hfz, hnd⟩ := hW
  have hA : DataW.TrodAll enc Try.prog W 0 (fun _ => true) true Try.f12.params.toList args.toList ds p := hA0
  have hAk := hA0
  have hlt : ∀ x ∈ p, x.block < W.heap.size := fun x hx => hW'.lt x (List.mem_append_left _ hx)
  rw [Try.params12] at hA hval
  obtain ⟨u0, vs0, e0, ds0, p0, q0, hargs, rfl, rfl, h0, r0⟩ := trodAll_cons hA
  obtain ⟨rfl, rfl, rfl⟩ := trodAll_nil r0
  obtain rfl : args = #[u0] := by cases args; simp_all
  obtain ⟨rfl, rfl⟩ := trodVars_none hV
  obtain ⟨fu0, hf0⟩ := h0
  obtain ⟨aa0, bb0, cc0, rfl⟩ := okWide_slice Try.underlying22 (hval 0 _ u0 rfl rfl)
  obtain ⟨A0, n0, c0, v0, hv0, k0, k0x, hR0⟩ := open_bytes (by simpa [Value.cells] using hf0)
  injection hv0 with ha0 hb0 hc0
  subst ha0 hb0 hc0
  clear hA0 hval0
  refine (walk _ _ _ v0 W hR0 k0 (Nat.le_trans k0 k0x)).mono fun e W' ⟨he, hg⟩ => ?_
  subst he
  exact ⟨_, rfl, _, [], _, [], _, [], hW', trodAll_cons_mk (shut_bool Try.underlying4 _) trodAll_mk0, trodAll_stays hg.below _ _ _ _ _ (by rw [Try.params12]; intro t ht; simp only [List.mem_cons, List.not_mem_nil, or_false] at ht; rcases ht with rfl <;> exact ⟨by kernel_rfl, of_decide_eq_true (by kernel_rfl)⟩) hAk hlt (fun x hx => by simpa using hlt x hx), rfl, hg.below.frame _, fun h => by cases h⟩
set_option maxHeartbeats 8000000 in
set_option maxRecDepth 100000 in
theorem closed : joinedFacts Try.prog 12 Try.f12 Rows.fnDeviationsSpec Rows.fnDeviationsRow = true := by
  unfold joinedFacts
  simp only [Bool.and_eq_true]
  repeat' (with_reducible apply And.intro)
  all_goals (first | with_reducible exact seat_laid | with_reducible exact seat_maps | with_reducible exact seat_heard | with_reducible exact seat_enter | (with_reducible rw [seat_stops]; as_aux_lemma => kernel_rfl) | (with_reducible rw [seat_knobs]; as_aux_lemma => kernel_rfl) | (with_reducible rw [seat_keys]; as_aux_lemma => kernel_rfl) | (with_reducible rw [seat_final]; as_aux_lemma => kernel_rfl) | (with_reducible rw [seat_make]; as_aux_lemma => kernel_rfl) | as_aux_lemma => kernel_rfl)
theorem named : Try.prog.funcNamed Rows.fnDeviationsRow.func = some 12 := by kernel_rfl
theorem over : Rows.fnDeviationsRow.holds Try.pinned (OpenSpec.ofChange Rows.fnDeviationsSpec) :=
  OpenClaim.holds_of_wide 12 Try.f12 rfl rfl rfl rfl rfl rfl rfl ⟨rfl, rfl, rfl, rfl, rfl⟩ rfl rfl rfl rfl rfl named Try.func12 closed
    (of_decide_eq_true (by as_aux_lemma => kernel_rfl)) (by unfold Func.isWrapper; first | (rw [if_pos (by decide +kernel)]; kernel_rfl) | (rw [if_neg (by decide +kernel)]; exact ⟨rfl, rfl⟩))
    (fun os started H enc _ => lifted os started H enc)
theorem proved : Rows.FnDeviationsSaid := over
#print axioms proved
end FnDeviations
end Go.Proofs.Ytejfpajbkgfiaaa
