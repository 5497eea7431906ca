/-
  For every input the law FnConflicts returns true. No condition. The walk is printed by gen_laws.py.
-/
import Derived.Test.YtejfpajbkgfiaaaLawKs
import Derived.Test.YtejfpajbkgfiaaaDraw12
import Derived.Test.YtejfpajbkgfiaaaPlain1
import Derived.Test.YtejfpajbkgfiaaaConfA
import Derived.Test.YtejfpajbkgfiaaaConfA
import Derived.Test.YtejfpajbkgfiaaaSeat
import Derived.Test.YtejfpajbkgfiaaaOpen
import Derived.Test.YtejfpajbkgfiaaaText
namespace Go.Proofs.Ytejfpajbkgfiaaa
open Go.ChangeShapes Go.WideShapes Go.ChangeAt Go.RowKit Go.Deep Go.Joins

namespace FnConflicts
set_option maxHeartbeats 4000000 in
set_option maxRecDepth 100000 in
theorem walk (A : Option Addr) (n c : Nat) (bs : List UInt8) (w : World) (hR : Sl w 1 A n (byts bs)) (hnc : n ≤ c) (_hm : n ≤ maxLen) :
    Calls Try.prog 10 #[.slice A n c] w fun e w' => e = .returned (.bool true) ∧ Gr w w' := by
  have HR := Lib.hid hR
  clear hR
  go_enter Try.func10, Try.ntmps10
  go_wp2_with fail
  refine (big_any _).mono ?_
  rintro e w' ⟨rfl, hw'⟩
  rw [← hw']
  clear hw'
  by_cases hb : 4096 < n
  · have tb : decide (4096 < n) = true := decide_eq_true hb
    go_wp2_with fail
    go_ret
    exact ⟨rfl, Gr.refl _⟩
  have tb : decide (4096 < n) = false := decide_eq_false hb
  go_wp2_with fail
  refine (DrawThinConflict_any bs _ ⟨HR.out, hnc, by omega⟩).mono ?_
  rintro e w0 ⟨A1, n1, c1, A2, n2, c2, v, A3, n3, c3, l, A4, n4, c4, s, rfl, hN, hHL, hHS, gw⟩
  obtain ⟨w1, hw1⟩ : ∃ W, W = w0.alloc (.cells #[.slice A1 n1 c1, .slice A2 n2 c2] 27) := ⟨_, rfl⟩
  obtain ⟨M, hM⟩ : ∃ M, M = w0.heap.size := ⟨_, rfl⟩
  have a0 : w1.cell? ⟨M, 0, none⟩ = some (.slice A1 n1 c1) := by rw [hw1, hM]; simp [go_sem]
  have a1 : w1.cell? ⟨M, 1, none⟩ = some (.slice A2 n2 c2) := by rw [hw1, hM]; simp [go_sem]
  have h01 : Gr w0 w1 := by rw [hw1]; exact (Gr.refl _).alloc _
  replace gw : Gr w w1 := gw.trans h01
  have HN := Lib.hid (hN.gr h01)
  have mHL := hHL.small
  have HL := Lib.hid (hHL.gr h01)
  have mHS := hHS.small
  have HS := Lib.hid (hHS.gr h01)
  have Hw1 := Lib.hid hw1
  have HM := Lib.hid hM
  clear hw1 hM hN h01 hHL hHS
  go_wp2_with fail
  rw [← Hw1.out, ← HM.out]
  refine (ThinConflict_any v l s _ HN.out HL.out HS.out).mono ?_
  rintro e w2 ⟨XA, Xm, Xc, rfl, Xl, o, h⟩
  replace gw := gw.trans h
  replace a0 := h.has a0
  replace a1 := h.has a1
  replace HN := Lib.hid (HN.out.gr h)
  replace HL := Lib.hid (HL.out.gr h)
  replace HS := Lib.hid (HS.out.gr h)
  have HX := Lib.hid (SlAt.of_own o Xl)
  clear h o
  go_wp2_with fail
  refine (spThinConflict_any v l s _ HN.out HL.out HS.out).mono ?_
  rintro e w3 ⟨YA, Ym, Yc, rfl, Yl, o, h⟩
  replace gw := gw.trans h
  replace a0 := h.has a0
  replace a1 := h.has a1
  replace HN := Lib.hid (HN.out.gr h)
  replace HL := Lib.hid (HL.out.gr h)
  replace HS := Lib.hid (HS.out.gr h)
  replace HX := Lib.hid (HX.out.gr h)
  have HY := Lib.hid (SlAt.of_own o Yl)
  clear h o
  go_wp2_with fail
  refine wp_region_text (fun w' => Gr w3 w' ∧ w'.cell? ⟨M, 0, none⟩ = some (.slice A1 n1 c1) ∧ w'.cell? ⟨M, 1, none⟩ = some (.slice A2 n2 c2)) (by kernel_rfl) (by kernel_rfl) (by decide) ⟨(Gr.refl _).drew, (Gr.refl w3).drew.has a0, (Gr.refl w3).drew.has a1⟩ ?_
  repeat (first
    | ((with_reducible refine wpText_skip ?_ ?_)
       · rfl
       simp only [Act.put, List.setIfInBounds_toArray, List.set_cons_zero, List.set_cons_succ])
    | ((with_reducible refine wpText_yield (v := ?_) ?_ ?_ ?_)
       rotate_left
       · rfl
       · (intro W hW; obtain ⟨hWg, hW0, hW1⟩ := hW; first | (go_simp; done) | (go_simp; with_reducible rfl))
       simp only [Act.put, List.setIfInBounds_toArray, List.set_cons_zero, List.set_cons_succ])
    | ((with_reducible refine wpText_yield1 (v := ?_) ?_ ?_ ?_)
       rotate_left
       · rfl
       · (intro W hW; obtain ⟨hWg, hW0, hW1⟩ := hW; first | (go_simp; done) | (go_simp; with_reducible rfl))
       simp only [Act.put, List.setIfInBounds_toArray, List.set_cons_zero, List.set_cons_succ]))
  refine wpText_do (.bool true) (by rfl) (fun W hW K hK => ?_) ?_
  · obtain ⟨hWg, hW0, hW1⟩ := hW
    go_simp
    refine (likeInts_same _ _ (HX.out.gr hWg) (HY.out.gr hWg)).mono ?_
    rintro e w' ⟨rfl, hg⟩
    exact hK _ ⟨hWg.trans hg, hg.has hW0, hg.has hW1⟩
  simp only [Act.put, List.setIfInBounds_toArray, List.set_cons_zero, List.set_cons_succ]
  repeat (first
    | ((with_reducible refine wpText_skip ?_ ?_)
       · rfl
       simp only [Act.put, List.setIfInBounds_toArray, List.set_cons_zero, List.set_cons_succ])
    | ((with_reducible refine wpText_yield (v := ?_) ?_ ?_ ?_)
       rotate_left
       · rfl
       · (intro W hW; obtain ⟨hWg, hW0, hW1⟩ := hW; first | (go_simp; done) | (go_simp; with_reducible rfl))
       simp only [Act.put, List.setIfInBounds_toArray, List.set_cons_zero, List.set_cons_succ])
    | ((with_reducible refine wpText_yield1 (v := ?_) ?_ ?_ ?_)
       rotate_left
       · rfl
       · (intro W hW; obtain ⟨hWg, hW0, hW1⟩ := hW; first | (go_simp; done) | (go_simp; with_reducible rfl))
       simp only [Act.put, List.setIfInBounds_toArray, List.set_cons_zero, List.set_cons_succ]))
  refine wpText_do (.bool (isConfB v l s)) (by rfl) (fun W hW K hK => ?_) ?_
  · obtain ⟨hWg, hW0, hW1⟩ := hW
    go_simp
    refine (IsConflict_any v l s _ (HN.out.gr hWg) (HL.out.gr hWg) (HS.out.gr hWg)).mono ?_
    rintro e w' ⟨rfl, hg⟩
    exact hK _ ⟨hWg.trans hg, hg.has hW0, hg.has hW1⟩
  simp only [Act.put, List.setIfInBounds_toArray, List.set_cons_zero, List.set_cons_succ]
  repeat (first
    | ((with_reducible refine wpText_skip ?_ ?_)
       · rfl
       simp only [Act.put, List.setIfInBounds_toArray, List.set_cons_zero, List.set_cons_succ])
    | ((with_reducible refine wpText_yield (v := ?_) ?_ ?_ ?_)
       rotate_left
       · rfl
       · (intro W hW; obtain ⟨hWg, hW0, hW1⟩ := hW; first | (go_simp; done) | (go_simp; with_reducible rfl))
       simp only [Act.put, List.setIfInBounds_toArray, List.set_cons_zero, List.set_cons_succ])
    | ((with_reducible refine wpText_yield1 (v := ?_) ?_ ?_ ?_)
       rotate_left
       · rfl
       · (intro W hW; obtain ⟨hWg, hW0, hW1⟩ := hW; first | (go_simp; done) | (go_simp; with_reducible rfl))
       simp only [Act.put, List.setIfInBounds_toArray, List.set_cons_zero, List.set_cons_succ]))
  refine wpText_do (.bool (isConfB v l s)) (by rfl) (fun W hW K hK => ?_) ?_
  · obtain ⟨hWg, hW0, hW1⟩ := hW
    go_simp
    refine (spIsConflict_any v l s _ (HN.out.gr hWg) (HL.out.gr hWg) (HS.out.gr hWg)).mono ?_
    rintro e w' ⟨rfl, hg⟩
    exact hK _ ⟨hWg.trans hg, hg.has hW0, hg.has hW1⟩
  simp only [Act.put, List.setIfInBounds_toArray, List.set_cons_zero, List.set_cons_succ]
  repeat (first
    | ((with_reducible refine wpText_skip ?_ ?_)
       · rfl
       simp only [Act.put, List.setIfInBounds_toArray, List.set_cons_zero, List.set_cons_succ])
    | ((with_reducible refine wpText_yield (v := ?_) ?_ ?_ ?_)
       rotate_left
       · rfl
       · (intro W hW; obtain ⟨hWg, hW0, hW1⟩ := hW; first | (go_simp; done) | (go_simp; with_reducible rfl))
       simp only [Act.put, List.setIfInBounds_toArray, List.set_cons_zero, List.set_cons_succ])
    | ((with_reducible refine wpText_yield1 (v := ?_) ?_ ?_ ?_)
       rotate_left
       · rfl
       · (intro W hW; obtain ⟨hWg, hW0, hW1⟩ := hW; first | (go_simp; done) | (go_simp; with_reducible rfl))
       simp only [Act.put, List.setIfInBounds_toArray, List.set_cons_zero, List.set_cons_succ]))
  rintro w4 ⟨h, b0, b1⟩
  replace gw := gw.trans h
  replace a0 := b0
  replace a1 := b1
  replace HN := Lib.hid (HN.out.gr h)
  replace HL := Lib.hid (HL.out.gr h)
  replace HS := Lib.hid (HS.out.gr h)
  replace HX := Lib.hid (HX.out.gr h)
  replace HY := Lib.hid (HY.out.gr h)
  clear h b0 b1
  by_cases hc : cfCode v l s = 0
  · obtain ⟨f1, f2, f3, f4⟩ := thin_law hc
    have F1 := Lib.hid f1
    have F2 := Lib.hid f2
    have F3 := Lib.hid f3
    have hlen := HX.out.sl.ilen
    have hpos : 0 < Xm := by omega
    have Hlen := Lib.hid hlen
    have tc : (cfCode v l s != 0) = false := by simp [hc]
    clear hc f1 f2 f3 f4 hlen
    go_wp2_with fail
    go_loop [10] (fun i => ∃ k : Nat, k ≤ Xm ∧ i = .int .i64 k) (fun i => Xm - (intOf i).toNat)
    case atStart => exact ⟨0, Nat.zero_le _, rfl⟩
    case round =>
      obtain ⟨k, hk, rfl⟩ := hrel
      by_cases hlt : k < Xm
      · obtain ⟨z, hz⟩ : ∃ z, (thRes v l s)[k]? = some z := ⟨_, List.getElem?_eq_getElem (by have := Hlen.out; omega)⟩
        have tz : decide (z ∈ s) = true := decide_eq_true (F1.out z (List.mem_of_getElem? hz))
        obtain ⟨b, o, hXA, hb, e0⟩ := HX.out.sl.int hz
        subst hXA
        have t1 : (k : Int) < (Xm : Int) := by omega
        have t0 : (0 : Int) ≤ (k : Int) := by omega
        clear hz
        go_wp2_with fail
        refine (hasInt_any s z _ HS.out).mono ?_
        rintro e w' ⟨rfl, hw'⟩
        rw [← hw']
        clear hw'
        go_wp2_with fail
        go_round
        case rel => exact ⟨k + 1, by omega, by go_num⟩
        case measure => simp [intOf]; omega
      · obtain rfl : k = Xm := by omega
        go_wp2_with fail
        refine (IsMinimal_any v l (thRes v l s) _ HN.out HL.out HX.out).mono ?_
        rintro e w5 ⟨rfl, h⟩
        replace gw := gw.trans h
        replace a0 := h.has a0
        replace a1 := h.has a1
        replace HN := Lib.hid (HN.out.gr h)
        replace HL := Lib.hid (HL.out.gr h)
        replace HS := Lib.hid (HS.out.gr h)
        replace HX := Lib.hid (HX.out.gr h)
        replace HY := Lib.hid (HY.out.gr h)
        clear h
        rw [F2.out]
        go_wp2_with fail
        refine (IsConflict_any v l (thRes v l s) _ HN.out HL.out HX.out).mono ?_
        rintro e w6 ⟨rfl, h⟩
        replace gw := gw.trans h
        replace a0 := h.has a0
        replace a1 := h.has a1
        replace HN := Lib.hid (HN.out.gr h)
        replace HL := Lib.hid (HL.out.gr h)
        replace HS := Lib.hid (HS.out.gr h)
        replace HX := Lib.hid (HX.out.gr h)
        replace HY := Lib.hid (HY.out.gr h)
        clear h
        rw [F3.out]
        go_wp2_with fail
        go_ret
        exact ⟨rfl, gw⟩
  · have tc : (cfCode v l s != 0) = true := by simp [hc]
    clear hc
    go_wp2_with fail
    go_ret
    exact ⟨rfl, gw⟩
set_option maxRecDepth 100000 in
theorem lifted (os : Os) (started : os.Started) (H : Type) (enc : TypeId × Value → H) :
    ReturnsInHanded {} Try.checked os 10 .any (Rows.fnConflictsSpec.pre6 enc Try.prog Try.f10 Rows.fnConflictsRow.domain false) (Rows.fnConflictsSpec.post enc Try.prog Try.f10 false true false false) := by
  refine returnsInHanded_of_change (C := Try.checked) own started (by kernel_rfl) Try.func10
    (ChangeSpec.witness6 (enc := enc) (C := Try.checked) false ⟨#[], #[.slice none 0 0], []⟩ 8 (by kernel_rfl) (by kernel_rfl) (by kernel_rfl) (by kernel_rfl)) ?_
  intro W base args ds gs before hval0 hW hcnd _
  have hval : ∀ (j : Nat) t v, Try.f10.params[j]? = some t → args[j]? = some v → Value.okWide Try.prog W .any base t v := hval0
  have hW' := hW
  obtain ⟨p, q, hA0, hV, rfl, hfz, hnd⟩ := hW
  have hA : DataW.TrodAll enc Try.prog W 0 (fun _ => true) true Try.f10.params.toList args.toList ds p := hA0
  have hAk := hA0
  have hlt : ∀ x ∈ p, x.block < W.heap.size := fun x hx => hW'.lt x (List.mem_append_left _ hx)
  rw [Try.params10] at hA hval
  obtain ⟨u0, vs0, e0, ds0, p0, q0, hargs, rfl, rfl, h0, r0⟩ := trodAll_cons hA
  obtain ⟨rfl, rfl, rfl⟩ := trodAll_nil r0
  obtain rfl : args = #[u0] := by cases args; simp_all
  obtain ⟨rfl, rfl⟩ := trodVars_none hV
  obtain ⟨fu0, hf0⟩ := h0
  obtain ⟨aa0, bb0, cc0, rfl⟩ := okWide_slice Try.underlying22 (hval 0 _ u0 rfl rfl)
  obtain ⟨A0, n0, c0, v0, hv0, k0, k0x, hR0⟩ := open_bytes (by simpa [Value.cells] using hf0)
  injection hv0 with ha0 hb0 hc0
  subst ha0 hb0 hc0
  clear hA0 hval0
  refine (walk _ _ _ v0 W hR0 k0 (Nat.le_trans k0 k0x)).mono fun e W' ⟨he, hg⟩ => ?_
  subst he
  exact ⟨_, rfl, _, [], _, [], _, [], hW', trodAll_cons_mk (shut_bool Try.underlying4 _) trodAll_mk0, trodAll_stays hg.below _ _ _ _ _ (by rw [Try.params10]; intro t ht; simp only [List.mem_cons, List.not_mem_nil, or_false] at ht; rcases ht with rfl <;> exact ⟨by kernel_rfl, of_decide_eq_true (by kernel_rfl)⟩) hAk hlt (fun x hx => by simpa using hlt x hx), rfl, hg.below.frame _, fun h => by cases h⟩
set_option maxHeartbeats 8000000 in
set_option maxRecDepth 100000 in
theorem closed : joinedFacts Try.prog 10 Try.f10 Rows.fnConflictsSpec Rows.fnConflictsRow = true := by
  unfold joinedFacts
  simp only [Bool.and_eq_true]
  repeat' (with_reducible apply And.intro)
  all_goals (first | with_reducible exact seat_laid | with_reducible exact seat_maps | with_reducible exact seat_heard | with_reducible exact seat_enter | (with_reducible rw [seat_stops]; as_aux_lemma => kernel_rfl) | (with_reducible rw [seat_knobs]; as_aux_lemma => kernel_rfl) | (with_reducible rw [seat_keys]; as_aux_lemma => kernel_rfl) | (with_reducible rw [seat_final]; as_aux_lemma => kernel_rfl) | (with_reducible rw [seat_make]; as_aux_lemma => kernel_rfl) | as_aux_lemma => kernel_rfl)
theorem named : Try.prog.funcNamed Rows.fnConflictsRow.func = some 10 := by kernel_rfl
theorem over : Rows.fnConflictsRow.holds Try.pinned (OpenSpec.ofChange Rows.fnConflictsSpec) :=
  OpenClaim.holds_of_wide 10 Try.f10 rfl rfl rfl rfl rfl rfl rfl ⟨rfl, rfl, rfl, rfl, rfl⟩ rfl rfl rfl rfl rfl named Try.func10 closed
    (of_decide_eq_true (by as_aux_lemma => kernel_rfl)) (by unfold Func.isWrapper; first | (rw [if_pos (by decide +kernel)]; kernel_rfl) | (rw [if_neg (by decide +kernel)]; exact ⟨rfl, rfl⟩))
    (fun os started H enc _ => lifted os started H enc)
theorem proved : Rows.FnConflictsSaid := over
#print axioms proved
end FnConflicts
end Go.Proofs.Ytejfpajbkgfiaaa
