/-
  For every input the law FnCheckedScales returns true. No condition. The walk is printed by gen_laws.py.
-/
import Derived.Test.YtejfpajbkgfiaaaLawKs
import Derived.Test.YtejfpajbkgfiaaaDraw13
import Derived.Test.YtejfpajbkgfiaaaPlain2
import Derived.Test.YtejfpajbkgfiaaaCurtA
import Derived.Test.YtejfpajbkgfiaaaSeat
import Derived.Test.YtejfpajbkgfiaaaOpen
import Derived.Test.YtejfpajbkgfiaaaText
namespace Go.Proofs.Ytejfpajbkgfiaaa
open Go.ChangeShapes Go.WideShapes Go.ChangeAt Go.RowKit Go.Deep Go.Joins

namespace FnCheckedScales
set_option maxHeartbeats 4000000 in
set_option maxRecDepth 100000 in
theorem walk (A : Option Addr) (n c : Nat) (bs : List UInt8) (w : World) (hR : Sl w 1 A n (byts bs)) (hnc : n ≤ c) (_hm : n ≤ maxLen) :
    Calls Try.prog 6 #[.slice A n c] w fun e w' => e = .returned (.bool true) ∧ Gr w w' := by
  have HR := Lib.hid hR
  clear hR
  go_enter Try.func6, Try.ntmps6
  go_wp2_with fail
  refine (big_any _).mono ?_
  rintro e w' ⟨rfl, hw'⟩
  rw [← hw']
  clear hw'
  by_cases hb : 4096 < n
  · have tb : decide (4096 < n) = true := decide_eq_true hb
    go_wp2_with fail
    go_ret
    exact ⟨rfl, Gr.refl _⟩
  have tb : decide (4096 < n) = false := decide_eq_false hb
  go_wp2_with fail
  refine (DrawCheckScales_any bs _ ⟨HR.out, hnc, by omega⟩).mono ?_
  rintro e w0 ⟨A1, n1, c1, A2, n2, c2, v, A3, n3, c3, l, A4, n4, c4, s, rfl, hN, hHL, lHS, hHS, gw⟩
  obtain ⟨w1, hw1⟩ : ∃ W, W = w0.alloc (.cells #[.slice A1 n1 c1, .slice A2 n2 c2] 27) := ⟨_, rfl⟩
  obtain ⟨M, hM⟩ : ∃ M, M = w0.heap.size := ⟨_, rfl⟩
  have a0 : w1.cell? ⟨M, 0, none⟩ = some (.slice A1 n1 c1) := by rw [hw1, hM]; simp [go_sem]
  have a1 : w1.cell? ⟨M, 1, none⟩ = some (.slice A2 n2 c2) := by rw [hw1, hM]; simp [go_sem]
  have h01 : Gr w0 w1 := by rw [hw1]; exact (Gr.refl _).alloc _
  replace gw : Gr w w1 := gw.trans h01
  have HN := Lib.hid (hN.gr h01)
  have mHL := hHL.small
  have HL := Lib.hid (hHL.gr h01)
  replace hHS := SlAt.of_own hHS lHS
  have mHS := hHS.small
  have HS := Lib.hid (hHS.gr h01)
  have Hw1 := Lib.hid hw1
  have HM := Lib.hid hM
  clear hw1 hM hN h01 hHL hHS
  go_wp2_with fail
  rw [← Hw1.out, ← HM.out]
  refine (CheckScales_any v l s _ HN.out HL.out HS.out).mono ?_
  rintro e w2 ⟨rfl, h⟩
  replace gw := gw.trans h
  replace a0 := h.has a0
  replace a1 := h.has a1
  replace HN := Lib.hid (HN.out.gr h)
  replace HL := Lib.hid (HL.out.gr h)
  replace HS := Lib.hid (HS.out.gr h)
  clear h
  go_wp2_with fail
  refine (spCheckScales_any v l s _ HN.out HL.out HS.out).mono ?_
  rintro e w3 ⟨rfl, h⟩
  replace gw := gw.trans h
  replace a0 := h.has a0
  replace a1 := h.has a1
  replace HN := Lib.hid (HN.out.gr h)
  replace HL := Lib.hid (HL.out.gr h)
  replace HS := Lib.hid (HS.out.gr h)
  clear h
  by_cases hc : scCode v l s = 0
  · obtain ⟨f1, f2⟩ := checked_law hc
    have F2 : Hid (decide (cuRes v l = s) = (ckVal v l s == -1)) := Lib.hid (by rw [Bool.eq_iff_iff]; simp [f2])
    have tr : (trCode v l == 0) = true := by simp [f1]
    have tc : (scCode v l s != 0) = false := by simp [hc]
    clear hc f1 f2
    go_wp2_with fail
    refine (CurtailScales_any v l _ HN.out HL.out).mono ?_
    rintro e w4 ⟨XA, Xm, Xc, rfl, Xl, o, h⟩
    replace gw := gw.trans h
    replace a0 := h.has a0
    replace a1 := h.has a1
    replace HN := Lib.hid (HN.out.gr h)
    replace HL := Lib.hid (HL.out.gr h)
    replace HS := Lib.hid (HS.out.gr h)
    have HX := Lib.hid (SlAt.of_own o Xl)
    clear h o
    go_wp2_with fail
    refine (likeInts_any (cuRes v l) s _ HX.out HS.out).mono ?_
    rintro e w5 ⟨rfl, h⟩
    replace gw := gw.trans h
    replace a0 := h.has a0
    replace a1 := h.has a1
    replace HN := Lib.hid (HN.out.gr h)
    replace HL := Lib.hid (HL.out.gr h)
    replace HS := Lib.hid (HS.out.gr h)
    replace HX := Lib.hid (HX.out.gr h)
    clear h
    rw [F2.out]
    go_wp2_with fail
    go_ret
    exact ⟨ret_bool (by simp), gw⟩
  · have tc : (scCode v l s != 0) = true := by simp [hc]
    clear hc
    go_wp2_with fail
    go_ret
    exact ⟨rfl, gw⟩
set_option maxRecDepth 100000 in
theorem lifted (os : Os) (started : os.Started) (H : Type) (enc : TypeId × Value → H) :
    ReturnsInHanded {} Try.checked os 6 .any (Rows.fnCheckedScalesSpec.pre6 enc Try.prog Try.f6 Rows.fnCheckedScalesRow.domain false) (Rows.fnCheckedScalesSpec.post enc Try.prog Try.f6 false true false false) := by
  refine returnsInHanded_of_change (C := Try.checked) own started (by kernel_rfl) Try.func6
    (ChangeSpec.witness6 (enc := enc) (C := Try.checked) false ⟨#[], #[.slice none 0 0], []⟩ 8 (by kernel_rfl) (by kernel_rfl) (by kernel_rfl) (by kernel_rfl)) ?_
  intro W base args ds gs before hval0 hW hcnd _
  have hval : ∀ (j : Nat) t v, Try.f6.params[j]? = some t → args[j]? = some v → Value.okWide Try.prog W .any base t v := hval0
  have hW' := hW
  obtain ⟨p, q, hA0, hV, rfl, hfz, hnd⟩ := hW
  have hA : DataW.TrodAll enc Try.prog W 0 (fun _ => true) true Try.f6.params.toList args.toList ds p := hA0
  have hAk := hA0
  have hlt : ∀ x ∈ p, x.block < W.heap.size := fun x hx => hW'.lt x (List.mem_append_left _ hx)
  rw [Try.params6] at hA hval
  obtain ⟨u0, vs0, e0, ds0, p0, q0, hargs, rfl, rfl, h0, r0⟩ := trodAll_cons hA
  obtain ⟨rfl, rfl, rfl⟩ := trodAll_nil r0
  obtain rfl : args = #[u0] := by cases args; simp_all
  obtain ⟨rfl, rfl⟩ := trodVars_none hV
  obtain ⟨fu0, hf0⟩ := h0
  obtain ⟨aa0, bb0, cc0, rfl⟩ := okWide_slice Try.underlying22 (hval 0 _ u0 rfl rfl)
  obtain ⟨A0, n0, c0, v0, hv0, k0, k0x, hR0⟩ := open_bytes (by simpa [Value.cells] using hf0)
  injection hv0 with ha0 hb0 hc0
  subst ha0 hb0 hc0
  clear hA0 hval0
  refine (walk _ _ _ v0 W hR0 k0 (Nat.le_trans k0 k0x)).mono fun e W' ⟨he, hg⟩ => ?_
  subst he
  exact ⟨_, rfl, _, [], _, [], _, [], hW', trodAll_cons_mk (shut_bool Try.underlying4 _) trodAll_mk0, trodAll_stays hg.below _ _ _ _ _ (by rw [Try.params6]; intro t ht; simp only [List.mem_cons, List.not_mem_nil, or_false] at ht; rcases ht with rfl <;> exact ⟨by kernel_rfl, of_decide_eq_true (by kernel_rfl)⟩) hAk hlt (fun x hx => by simpa using hlt x hx), rfl, hg.below.frame _, fun h => by cases h⟩
set_option maxHeartbeats 8000000 in
set_option maxRecDepth 100000 in
theorem closed : joinedFacts Try.prog 6 Try.f6 Rows.fnCheckedScalesSpec Rows.fnCheckedScalesRow = true := by
  unfold joinedFacts
  simp only [Bool.and_eq_true]
  repeat' (with_reducible apply And.intro)
  all_goals (first | with_reducible exact seat_laid | with_reducible exact seat_maps | with_reducible exact seat_heard | with_reducible exact seat_enter | (with_reducible rw [seat_stops]; as_aux_lemma => kernel_rfl) | (with_reducible rw [seat_knobs]; as_aux_lemma => kernel_rfl) | (with_reducible rw [seat_keys]; as_aux_lemma => kernel_rfl) | (with_reducible rw [seat_final]; as_aux_lemma => kernel_rfl) | (with_reducible rw [seat_make]; as_aux_lemma => kernel_rfl) | as_aux_lemma => kernel_rfl)
theorem named : Try.prog.funcNamed Rows.fnCheckedScalesRow.func = some 6 := by kernel_rfl
theorem over : Rows.fnCheckedScalesRow.holds Try.pinned (OpenSpec.ofChange Rows.fnCheckedScalesSpec) :=
  OpenClaim.holds_of_wide 6 Try.f6 rfl rfl rfl rfl rfl rfl rfl ⟨rfl, rfl, rfl, rfl, rfl⟩ rfl rfl rfl rfl rfl named Try.func6 closed
    (of_decide_eq_true (by as_aux_lemma => kernel_rfl)) (by unfold Func.isWrapper; first | (rw [if_pos (by decide +kernel)]; kernel_rfl) | (rw [if_neg (by decide +kernel)]; exact ⟨rfl, rfl⟩))
    (fun os started H enc _ => lifted os started H enc)
theorem proved : Rows.FnCheckedScalesSaid := over
#print axioms proved
end FnCheckedScales
end Go.Proofs.Ytejfpajbkgfiaaa
