/-
  For every input the law FnFoundConflicts returns true. No condition. The walk is printed by gen_laws.py.
-/
import Derived.Test.YtejfpajbkgfiaaaLawKs
import Derived.Test.YtejfpajbkgfiaaaDrawC
import Derived.Test.YtejfpajbkgfiaaaPlain1
import Derived.Test.YtejfpajbkgfiaaaConfA
import Derived.Test.YtejfpajbkgfiaaaConfA
import Derived.Test.YtejfpajbkgfiaaaConfA
import Derived.Test.YtejfpajbkgfiaaaFit
import Derived.Test.YtejfpajbkgfiaaaSeat
import Derived.Test.YtejfpajbkgfiaaaOpen
import Derived.Test.YtejfpajbkgfiaaaText
namespace Go.Proofs.Ytejfpajbkgfiaaa
open Go.ChangeShapes Go.WideShapes Go.ChangeAt Go.RowKit Go.Deep Go.Joins

namespace FnFoundConflicts
set_option maxHeartbeats 4000000 in
set_option maxRecDepth 100000 in
theorem walk (A : Option Addr) (n c : Nat) (bs : List UInt8) (w : World) (hR : Sl w 1 A n (byts bs)) (hnc : n ≤ c) (_hm : n ≤ maxLen) :
    Calls Try.prog 9 #[.slice A n c] w fun e w' => e = .returned (.bool true) ∧ Gr w w' := by
  have HR := Lib.hid hR
  clear hR
  go_enter Try.func9, Try.ntmps9
  go_wp2_with fail
  refine (big_any _).mono ?_
  rintro e w' ⟨rfl, hw'⟩
  rw [← hw']
  clear hw'
  by_cases hb : 4096 < n
  · have tb : decide (4096 < n) = true := decide_eq_true hb
    go_wp2_with fail
    go_ret
    exact ⟨rfl, Gr.refl _⟩
  have tb : decide (4096 < n) = false := decide_eq_false hb
  go_wp2_with fail
  refine (DrawFindConflict_any bs _ ⟨HR.out, hnc, by omega⟩).mono ?_
  rintro e w0 ⟨A1, n1, c1, A2, n2, c2, v, A3, n3, c3, l, rfl, hN, hHL, gw⟩
  obtain ⟨w1, hw1⟩ : ∃ W, W = w0.alloc (.cells #[.slice A1 n1 c1, .slice A2 n2 c2] 27) := ⟨_, rfl⟩
  obtain ⟨M, hM⟩ : ∃ M, M = w0.heap.size := ⟨_, rfl⟩
  have a0 : w1.cell? ⟨M, 0, none⟩ = some (.slice A1 n1 c1) := by rw [hw1, hM]; simp [go_sem]
  have a1 : w1.cell? ⟨M, 1, none⟩ = some (.slice A2 n2 c2) := by rw [hw1, hM]; simp [go_sem]
  have h01 : Gr w0 w1 := by rw [hw1]; exact (Gr.refl _).alloc _
  replace gw : Gr w w1 := gw.trans h01
  have HN := Lib.hid (hN.gr h01)
  have mHL := hHL.small
  have HL := Lib.hid (hHL.gr h01)
  have Hw1 := Lib.hid hw1
  have HM := Lib.hid hM
  clear hw1 hM hN h01 hHL
  go_wp2_with fail
  rw [← Hw1.out, ← HM.out]
  refine (FindConflict_any v l _ HN.out HL.out).mono ?_
  rintro e w2 ⟨XA, Xm, Xc, rfl, Xl, o, h⟩
  replace gw := gw.trans h
  replace a0 := h.has a0
  replace a1 := h.has a1
  replace HN := Lib.hid (HN.out.gr h)
  replace HL := Lib.hid (HL.out.gr h)
  have HX := Lib.hid (SlAt.of_own o Xl)
  clear h o
  go_wp2_with fail
  refine (spFindConflict_any v l _ HN.out HL.out).mono ?_
  rintro e w3 ⟨YA, Ym, Yc, rfl, Yl, o, h⟩
  replace gw := gw.trans h
  replace a0 := h.has a0
  replace a1 := h.has a1
  replace HN := Lib.hid (HN.out.gr h)
  replace HL := Lib.hid (HL.out.gr h)
  replace HX := Lib.hid (HX.out.gr h)
  have HY := Lib.hid (SlAt.of_own o Yl)
  clear h o
  go_wp2_with fail
  refine (likeInts_same _ _ HX.out HY.out).mono ?_
  rintro e w4 ⟨rfl, h⟩
  replace gw := gw.trans h
  replace a0 := h.has a0
  replace a1 := h.has a1
  replace HN := Lib.hid (HN.out.gr h)
  replace HL := Lib.hid (HL.out.gr h)
  replace HX := Lib.hid (HX.out.gr h)
  replace HY := Lib.hid (HY.out.gr h)
  clear h
  go_wp2_with fail
  refine (AcceptInOrder_any v l _ HN.out HL.out).mono ?_
  rintro e w5 ⟨ZA, Zm, Zc, rfl, Zl, o, h⟩
  replace gw := gw.trans h
  replace a0 := h.has a0
  replace a1 := h.has a1
  replace HN := Lib.hid (HN.out.gr h)
  replace HL := Lib.hid (HL.out.gr h)
  replace HX := Lib.hid (HX.out.gr h)
  replace HY := Lib.hid (HY.out.gr h)
  have HZ := Lib.hid (SlAt.of_own o Zl)
  clear h o
  go_wp2_with fail
  refine (spAcceptInOrder_any v l _ HN.out HL.out).mono ?_
  rintro e w6 ⟨UA, Um, Uc, rfl, Ul, o, h⟩
  replace gw := gw.trans h
  replace a0 := h.has a0
  replace a1 := h.has a1
  replace HN := Lib.hid (HN.out.gr h)
  replace HL := Lib.hid (HL.out.gr h)
  replace HX := Lib.hid (HX.out.gr h)
  replace HY := Lib.hid (HY.out.gr h)
  replace HZ := Lib.hid (HZ.out.gr h)
  have HU := Lib.hid (SlAt.of_own o Ul)
  clear h o
  go_wp2_with fail
  refine (likeInts_same _ _ HZ.out HU.out).mono ?_
  rintro e w7 ⟨rfl, h⟩
  replace gw := gw.trans h
  replace a0 := h.has a0
  replace a1 := h.has a1
  replace HN := Lib.hid (HN.out.gr h)
  replace HL := Lib.hid (HL.out.gr h)
  replace HX := Lib.hid (HX.out.gr h)
  replace HY := Lib.hid (HY.out.gr h)
  replace HZ := Lib.hid (HZ.out.gr h)
  replace HU := Lib.hid (HU.out.gr h)
  clear h
  by_cases hc : trCode v l = 0
  · obtain ⟨f1, f2, f3⟩ := found_law hc
    have F1 := Lib.hid f1
    have F3 := Lib.hid f3
    have tc : (trCode v l != 0) = false := by simp [hc]
    clear hc f1 f3
    by_cases hf : cfCode v l (idx l.length) = 0
    · have tf : (cfCode v l (idx l.length) != 0) = false := by simp [hf]
      have F4 := Lib.hid (F3.out hf)
      clear hf
      go_wp2_with fail
      refine (IsConflict_any v l (acRes v l) _ HN.out HL.out HZ.out).mono ?_
      rintro e w8 ⟨rfl, h⟩
      replace gw := gw.trans h
      replace a0 := h.has a0
      replace a1 := h.has a1
      replace HN := Lib.hid (HN.out.gr h)
      replace HL := Lib.hid (HL.out.gr h)
      replace HX := Lib.hid (HX.out.gr h)
      replace HY := Lib.hid (HY.out.gr h)
      replace HZ := Lib.hid (HZ.out.gr h)
      replace HU := Lib.hid (HU.out.gr h)
      clear h
      rw [F1.out]
      go_wp2_with fail
      refine (DoFit_any v l _ HN.out HL.out).mono ?_
      rintro e w9 ⟨rfl, h⟩
      replace gw := gw.trans h
      replace a0 := h.has a0
      replace a1 := h.has a1
      replace HN := Lib.hid (HN.out.gr h)
      replace HL := Lib.hid (HL.out.gr h)
      replace HX := Lib.hid (HX.out.gr h)
      replace HY := Lib.hid (HY.out.gr h)
      replace HZ := Lib.hid (HZ.out.gr h)
      replace HU := Lib.hid (HU.out.gr h)
      clear h
      go_wp2_with fail
      refine (IsMinimal_any v l (thRes v l (idx l.length)) _ HN.out HL.out HX.out).mono ?_
      rintro e w10 ⟨rfl, h⟩
      replace gw := gw.trans h
      replace a0 := h.has a0
      replace a1 := h.has a1
      replace HN := Lib.hid (HN.out.gr h)
      replace HL := Lib.hid (HL.out.gr h)
      replace HX := Lib.hid (HX.out.gr h)
      replace HY := Lib.hid (HY.out.gr h)
      replace HZ := Lib.hid (HZ.out.gr h)
      replace HU := Lib.hid (HU.out.gr h)
      clear h
      rw [F4.out]
      go_wp2_with fail
      go_ret
      exact ⟨rfl, gw⟩
    · have tf : (cfCode v l (idx l.length) != 0) = true := by simp [hf]
      clear hf
      go_wp2_with fail
      refine (IsConflict_any v l (acRes v l) _ HN.out HL.out HZ.out).mono ?_
      rintro e w8 ⟨rfl, h⟩
      replace gw := gw.trans h
      replace a0 := h.has a0
      replace a1 := h.has a1
      replace HN := Lib.hid (HN.out.gr h)
      replace HL := Lib.hid (HL.out.gr h)
      replace HX := Lib.hid (HX.out.gr h)
      replace HY := Lib.hid (HY.out.gr h)
      replace HZ := Lib.hid (HZ.out.gr h)
      replace HU := Lib.hid (HU.out.gr h)
      clear h
      rw [F1.out]
      go_wp2_with fail
      refine (DoFit_any v l _ HN.out HL.out).mono ?_
      rintro e w9 ⟨rfl, h⟩
      replace gw := gw.trans h
      replace a0 := h.has a0
      replace a1 := h.has a1
      replace HN := Lib.hid (HN.out.gr h)
      replace HL := Lib.hid (HL.out.gr h)
      replace HX := Lib.hid (HX.out.gr h)
      replace HY := Lib.hid (HY.out.gr h)
      replace HZ := Lib.hid (HZ.out.gr h)
      replace HU := Lib.hid (HU.out.gr h)
      clear h
      go_wp2_with fail
      go_ret
      exact ⟨rfl, gw⟩
  · have tc : (trCode v l != 0) = true := by simp [hc]
    have te : (cfCode v l (idx l.length) == trCode v l) = true := by rw [cf_code_bad hc]; simp
    clear hc
    go_wp2_with fail
    go_ret
    exact ⟨rfl, gw⟩
set_option maxRecDepth 100000 in
theorem lifted (os : Os) (started : os.Started) (H : Type) (enc : TypeId × Value → H) :
    ReturnsInHanded {} Try.checked os 9 .any (Rows.fnFoundConflictsSpec.pre6 enc Try.prog Try.f9 Rows.fnFoundConflictsRow.domain false) (Rows.fnFoundConflictsSpec.post enc Try.prog Try.f9 false true false false) := by
  refine returnsInHanded_of_change (C := Try.checked) own started (by kernel_rfl) Try.func9
    (ChangeSpec.witness6 (enc := enc) (C := Try.checked) false ⟨#[], #[.slice none 0 0], []⟩ 8 (by kernel_rfl) (by kernel_rfl) (by kernel_rfl) (by kernel_rfl)) ?_
  intro W base args ds gs before hval0 hW hcnd _
  have hval : ∀ (j : Nat) t v, Try.f9.params[j]? = some t → args[j]? = some v → Value.okWide Try.prog W .any base t v := hval0
  have hW' := hW
  obtain ⟨p, q, hA0, hV, rfl, hfz, hnd⟩ := hW
  have hA : DataW.TrodAll enc Try.prog W 0 (fun _ => true) true Try.f9.params.toList args.toList ds p := hA0
  have hAk := hA0
  have hlt : ∀ x ∈ p, x.block < W.heap.size := fun x hx => hW'.lt x (List.mem_append_left _ hx)
  rw [Try.params9] at hA hval
  obtain ⟨u0, vs0, e0, ds0, p0, q0, hargs, rfl, rfl, h0, r0⟩ := trodAll_cons hA
  obtain ⟨rfl, rfl, rfl⟩ := trodAll_nil r0
  obtain rfl : args = #[u0] := by cases args; simp_all
  obtain ⟨rfl, rfl⟩ := trodVars_none hV
  obtain ⟨fu0, hf0⟩ := h0
  obtain ⟨aa0, bb0, cc0, rfl⟩ := okWide_slice Try.underlying22 (hval 0 _ u0 rfl rfl)
  obtain ⟨A0, n0, c0, v0, hv0, k0, k0x, hR0⟩ := open_bytes (by simpa [Value.cells] using hf0)
  injection hv0 with ha0 hb0 hc0
  subst ha0 hb0 hc0
  clear hA0 hval0
  refine (walk _ _ _ v0 W hR0 k0 (Nat.le_trans k0 k0x)).mono fun e W' ⟨he, hg⟩ => ?_
  subst he
  exact ⟨_, rfl, _, [], _, [], _, [], hW', trodAll_cons_mk (shut_bool Try.underlying4 _) trodAll_mk0, trodAll_stays hg.below _ _ _ _ _ (by rw [Try.params9]; intro t ht; simp only [List.mem_cons, List.not_mem_nil, or_false] at ht; rcases ht with rfl <;> exact ⟨by kernel_rfl, of_decide_eq_true (by kernel_rfl)⟩) hAk hlt (fun x hx => by simpa using hlt x hx), rfl, hg.below.frame _, fun h => by cases h⟩
set_option maxHeartbeats 8000000 in
set_option maxRecDepth 100000 in
theorem closed : joinedFacts Try.prog 9 Try.f9 Rows.fnFoundConflictsSpec Rows.fnFoundConflictsRow = true := by
  unfold joinedFacts
  simp only [Bool.and_eq_true]
  repeat' (with_reducible apply And.intro)
  all_goals (first | with_reducible exact seat_laid | with_reducible exact seat_maps | with_reducible exact seat_heard | with_reducible exact seat_enter | (with_reducible rw [seat_stops]; as_aux_lemma => kernel_rfl) | (with_reducible rw [seat_knobs]; as_aux_lemma => kernel_rfl) | (with_reducible rw [seat_keys]; as_aux_lemma => kernel_rfl) | (with_reducible rw [seat_final]; as_aux_lemma => kernel_rfl) | (with_reducible rw [seat_make]; as_aux_lemma => kernel_rfl) | as_aux_lemma => kernel_rfl)
theorem named : Try.prog.funcNamed Rows.fnFoundConflictsRow.func = some 9 := by kernel_rfl
theorem over : Rows.fnFoundConflictsRow.holds Try.pinned (OpenSpec.ofChange Rows.fnFoundConflictsSpec) :=
  OpenClaim.holds_of_wide 9 Try.f9 rfl rfl rfl rfl rfl rfl rfl ⟨rfl, rfl, rfl, rfl, rfl⟩ rfl rfl rfl rfl rfl named Try.func9 closed
    (of_decide_eq_true (by as_aux_lemma => kernel_rfl)) (by unfold Func.isWrapper; first | (rw [if_pos (by decide +kernel)]; kernel_rfl) | (rw [if_neg (by decide +kernel)]; exact ⟨rfl, rfl⟩))
    (fun os started H enc _ => lifted os started H enc)
theorem proved : Rows.FnFoundConflictsSaid := over
#print axioms proved
end FnFoundConflicts
end Go.Proofs.Ytejfpajbkgfiaaa
