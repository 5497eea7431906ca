/-
  For every input the law FnFromNominations returns true. No condition. The walk is printed by gen_laws.py.
-/
import Derived.Test.YtelhmfgfjlpkaaaLawKs
import Derived.Test.YtelhmfgfjlpkaaaDraw27
import Derived.Test.YtelhmfgfjlpkaaaNom6
import Derived.Test.YtelhmfgfjlpkaaaNom7
import Derived.Test.YtelhmfgfjlpkaaaSups
import Derived.Test.YtelhmfgfjlpkaaaLawKs
import Derived.Test.YtelhmfgfjlpkaaaSeat
import Derived.Test.YtelhmfgfjlpkaaaOpen
import Derived.Test.YtelhmfgfjlpkaaaText
namespace Go.Proofs.Ytelhmfgfjlpkaaa
open Go.ChangeShapes Go.WideShapes Go.ChangeAt Go.RowKit Go.Deep Go.Joins

theorem DrawFN_any {A : Option Addr} {m c : Nat} (bs : List UInt8) (w : World) (hC : SlAt w 1 A m c (byts bs)) :
    Calls Try.prog 7 #[.slice A m c] w fun e w' => ∃ A1 n1 c1 A2 n2 c2 n A3 n3 c3, ∃ bk : List GCon, ∃ A4 n4 c4, ∃ ls : List GNom, ∃ b : Int, e = .returned (.tuple #[.agg #[.slice A1 n1 c1, .slice A2 n2 c2], .slice A3 n3 c3, .slice A4 n4 c4, .int .i64 b]) ∧ NetAt w' A1 n1 c1 A2 n2 c2 n ∧ SlAt w' 8 A3 n3 c3 (bk.flatMap GCon.cells) ∧ SlAt w' 4 A4 n4 c4 (ls.flatMap GNom.cells) ∧ Gr w w' := by
  refine (DrawFromNominations_any bs w hC).mono ?_
  rintro e w' ⟨A1, n1, c1, A2, n2, c2, n, A3, n3, c3, bk, A4, n4, c4, ls, b, rfl, hO, h3, hl3, h4, hl4, gw⟩
  rw [drawn_book] at hl3
  exact ⟨_, _, _, _, _, _, n, _, _, _, _, _, _, _, ls, b, rfl, hO.at_, SlAt.of_own hl3 (by omega), SlAt.of_own hl4 (by omega), gw⟩

namespace FnFromNominations
set_option maxHeartbeats 4000000 in
set_option maxRecDepth 100000 in
theorem walk (A : Option Addr) (n c : Nat) (bs : List UInt8) (w : World) (hR : Sl w 1 A n (byts bs)) (hnc : n ≤ c) (_hm : n ≤ maxLen) :
    Calls Try.prog 3 #[.slice A n c] w fun e w' => e = .returned (.bool true) ∧ Gr w w' := by
  have HR := Lib.hid hR
  clear hR
  go_enter Try.func3, Try.ntmps3
  go_wp2_with fail
  refine (big_any _).mono ?_
  rintro e w' ⟨rfl, hw'⟩
  rw [← hw']
  clear hw'
  by_cases hb : 4096 < n
  · have tb : decide (4096 < n) = true := decide_eq_true hb
    go_wp2_with fail
    go_ret
    exact ⟨rfl, Gr.refl _⟩
  have tb : decide (4096 < n) = false := decide_eq_false hb
  go_wp2_with fail
  refine (DrawFN_any bs _ ⟨HR.out, hnc, by omega⟩).mono ?_
  rintro e w0 ⟨A1, n1, c1, A2, n2, c2, v, A3, n3, c3, bk, A4, n4, c4, l, q, rfl, hN, hHB, hHL, gw⟩
  obtain ⟨w1, hw1⟩ : ∃ W, W = w0.alloc (.cells #[.slice A1 n1 c1, .slice A2 n2 c2] 27) := ⟨_, rfl⟩
  obtain ⟨M, hM⟩ : ∃ M, M = w0.heap.size := ⟨_, rfl⟩
  have a0 : w1.cell? ⟨M, 0, none⟩ = some (.slice A1 n1 c1) := by rw [hw1, hM]; simp [go_sem]
  have a1 : w1.cell? ⟨M, 1, none⟩ = some (.slice A2 n2 c2) := by rw [hw1, hM]; simp [go_sem]
  have h01 : Gr w0 w1 := by rw [hw1]; exact (Gr.refl _).alloc _
  replace gw : Gr w w1 := gw.trans h01
  have HN := Lib.hid (hN.gr h01)
  have mHB := hHB.small
  have HB := Lib.hid (hHB.gr h01)
  have mHL := hHL.small
  have HL := Lib.hid (hHL.gr h01)
  have Hw1 := Lib.hid hw1
  have HM := Lib.hid hM
  clear hw1 hM hN h01 hHB hHL
  go_wp2_with fail
  rw [← Hw1.out, ← HM.out]
  refine (FromNominations0_any v bk l q _ HN.out HB.out HL.out).mono ?_
  rintro e w2 ⟨XA, Xm, Xc, rfl, Xl, o, h⟩
  replace gw := gw.trans h
  replace a0 := h.has a0
  replace a1 := h.has a1
  replace HN := Lib.hid (HN.out.gr h)
  replace HB := Lib.hid (HB.out.gr h)
  replace HL := Lib.hid (HL.out.gr h)
  have HX := Lib.hid (SlAt.of_own o Xl)
  clear h o
  go_wp2_with fail
  refine (spFromNominations0_any v bk l q _ HN.out HB.out HL.out).mono ?_
  rintro e w3 ⟨YA, Ym, Yc, rfl, Yl, o, h⟩
  replace gw := gw.trans h
  replace a0 := h.has a0
  replace a1 := h.has a1
  replace HN := Lib.hid (HN.out.gr h)
  replace HB := Lib.hid (HB.out.gr h)
  replace HL := Lib.hid (HL.out.gr h)
  replace HX := Lib.hid (HX.out.gr h)
  have HY := Lib.hid (SlAt.of_own o Yl)
  clear h o
  go_wp2_with fail
  refine (likeTransports_same _ _ HX.out HY.out).mono ?_
  rintro e w4 ⟨rfl, h⟩
  replace gw := gw.trans h
  replace a0 := h.has a0
  replace a1 := h.has a1
  replace HN := Lib.hid (HN.out.gr h)
  replace HB := Lib.hid (HB.out.gr h)
  replace HL := Lib.hid (HL.out.gr h)
  replace HX := Lib.hid (HX.out.gr h)
  replace HY := Lib.hid (HY.out.gr h)
  clear h
  by_cases hc : amCode v bk l q = 0
  · obtain ⟨f1, f2, f3⟩ := nom_law hc
    have hxl := HX.out.sl.len GTr.cells_len (by omega)
    have hbl := HB.out.sl.len GCon.cells_len (by omega)
    obtain rfl : Xm = n3 := by omega
    have F1 := Lib.hid f1
    have F2 := Lib.hid f2
    have tc : (amCode v bk l q != 0) = false := by simp [hc]
    clear hc f1 f2 f3 hxl hbl
    go_wp2_with fail
    refine (TransportSupplies_any v (fnRes v bk l q) _ HN.out HX.out).mono ?_
    rintro e w5 ⟨ZA, Zm, Zc, rfl, Zl, o, h⟩
    replace gw := gw.trans h
    replace a0 := h.has a0
    replace a1 := h.has a1
    replace HN := Lib.hid (HN.out.gr h)
    replace HB := Lib.hid (HB.out.gr h)
    replace HL := Lib.hid (HL.out.gr h)
    replace HX := Lib.hid (HX.out.gr h)
    replace HY := Lib.hid (HY.out.gr h)
    have HZ := Lib.hid (SlAt.of_own o Zl)
    clear h o
    rw [F2.out] at HZ
    rw [F1.out]
    go_wp2_with fail
    refine (NominatedSupplies_any v bk l q _ HN.out HB.out HL.out).mono ?_
    rintro e w6 ⟨UA, Um, Uc, rfl, Ul, o, h⟩
    replace gw := gw.trans h
    replace a0 := h.has a0
    replace a1 := h.has a1
    replace HN := Lib.hid (HN.out.gr h)
    replace HB := Lib.hid (HB.out.gr h)
    replace HL := Lib.hid (HL.out.gr h)
    replace HX := Lib.hid (HX.out.gr h)
    replace HY := Lib.hid (HY.out.gr h)
    replace HZ := Lib.hid (HZ.out.gr h)
    have HU := Lib.hid (SlAt.of_own o Ul)
    clear h o
    go_wp2_with fail
    refine (likeInts_same _ _ HZ.out HU.out).mono ?_
    rintro e w7 ⟨rfl, h⟩
    replace gw := gw.trans h
    replace a0 := h.has a0
    replace a1 := h.has a1
    replace HN := Lib.hid (HN.out.gr h)
    replace HB := Lib.hid (HB.out.gr h)
    replace HL := Lib.hid (HL.out.gr h)
    replace HX := Lib.hid (HX.out.gr h)
    replace HY := Lib.hid (HY.out.gr h)
    replace HZ := Lib.hid (HZ.out.gr h)
    replace HU := Lib.hid (HU.out.gr h)
    clear h
    go_wp2_with fail
    go_ret
    exact ⟨rfl, gw⟩
  · have tc : (amCode v bk l q != 0) = true := by simp [hc]
    clear hc
    go_wp2_with fail
    go_ret
    exact ⟨rfl, gw⟩
set_option maxRecDepth 100000 in
theorem lifted (os : Os) (started : os.Started) (H : Type) (enc : TypeId × Value → H) :
    ReturnsInHanded {} Try.checked os 3 .any (Rows.fnFromNominationsSpec.pre6 enc Try.prog Try.f3 Rows.fnFromNominationsRow.domain false) (Rows.fnFromNominationsSpec.post enc Try.prog Try.f3 false true false false) := by
  refine returnsInHanded_of_change (C := Try.checked) own started (by kernel_rfl) Try.func3
    (ChangeSpec.witness6 (enc := enc) (C := Try.checked) false ⟨#[], #[.slice none 0 0], []⟩ 8 (by kernel_rfl) (by kernel_rfl) (by kernel_rfl) (by kernel_rfl)) ?_
  intro W base args ds gs before hval0 hW hcnd _
  have hval : ∀ (j : Nat) t v, Try.f3.params[j]? = some t → args[j]? = some v → Value.okWide Try.prog W .any base t v := hval0
  have hW' := hW
  obtain ⟨p, q, hA0, hV, rfl, hfz, hnd⟩ := hW
  have hA : DataW.TrodAll enc Try.prog W 0 (fun _ => true) true Try.f3.params.toList args.toList ds p := hA0
  have hAk := hA0
  have hlt : ∀ x ∈ p, x.block < W.heap.size := fun x hx => hW'.lt x (List.mem_append_left _ hx)
  rw [Try.params3] at hA hval
  obtain ⟨u0, vs0, e0, ds0, p0, q0, hargs, rfl, rfl, h0, r0⟩ := trodAll_cons hA
  obtain ⟨rfl, rfl, rfl⟩ := trodAll_nil r0
  obtain rfl : args = #[u0] := by cases args; simp_all
  obtain ⟨rfl, rfl⟩ := trodVars_none hV
  obtain ⟨fu0, hf0⟩ := h0
  obtain ⟨aa0, bb0, cc0, rfl⟩ := okWide_slice Try.underlying22 (hval 0 _ u0 rfl rfl)
  obtain ⟨A0, n0, c0, v0, hv0, k0, k0x, hR0⟩ := open_bytes (by simpa [Value.cells] using hf0)
  injection hv0 with ha0 hb0 hc0
  subst ha0 hb0 hc0
  clear hA0 hval0
  refine (walk _ _ _ v0 W hR0 k0 (Nat.le_trans k0 k0x)).mono fun e W' ⟨he, hg⟩ => ?_
  subst he
  exact ⟨_, rfl, _, [], _, [], _, [], hW', trodAll_cons_mk (shut_bool Try.underlying4 _) trodAll_mk0, trodAll_stays hg.below _ _ _ _ _ (by rw [Try.params3]; intro t ht; simp only [List.mem_cons, List.not_mem_nil, or_false] at ht; rcases ht with rfl <;> exact ⟨by kernel_rfl, of_decide_eq_true (by kernel_rfl)⟩) hAk hlt (fun x hx => by simpa using hlt x hx), rfl, hg.below.frame _, fun h => by cases h⟩
set_option maxHeartbeats 8000000 in
set_option maxRecDepth 100000 in
theorem closed : joinedFacts Try.prog 3 Try.f3 Rows.fnFromNominationsSpec Rows.fnFromNominationsRow = true := by
  unfold joinedFacts
  simp only [Bool.and_eq_true]
  repeat' (with_reducible apply And.intro)
  all_goals (first | with_reducible exact seat_laid | with_reducible exact seat_maps | with_reducible exact seat_heard | with_reducible exact seat_enter | (with_reducible rw [seat_stops]; as_aux_lemma => kernel_rfl) | (with_reducible rw [seat_knobs]; as_aux_lemma => kernel_rfl) | (with_reducible rw [seat_keys]; as_aux_lemma => kernel_rfl) | (with_reducible rw [seat_final]; as_aux_lemma => kernel_rfl) | (with_reducible rw [seat_make]; as_aux_lemma => kernel_rfl) | as_aux_lemma => kernel_rfl)
theorem named : Try.prog.funcNamed Rows.fnFromNominationsRow.func = some 3 := by kernel_rfl
theorem over : Rows.fnFromNominationsRow.holds Try.pinned (OpenSpec.ofChange Rows.fnFromNominationsSpec) :=
  OpenClaim.holds_of_wide 3 Try.f3 rfl rfl rfl rfl rfl rfl rfl ⟨rfl, rfl, rfl, rfl, rfl⟩ rfl rfl rfl rfl rfl named Try.func3 closed
    (of_decide_eq_true (by as_aux_lemma => kernel_rfl)) (by unfold Func.isWrapper; first | (rw [if_pos (by decide +kernel)]; kernel_rfl) | (rw [if_neg (by decide +kernel)]; exact ⟨rfl, rfl⟩))
    (fun os started H enc _ => lifted os started H enc)
theorem proved : Rows.FnFromNominationsSaid := over
#print axioms proved
end FnFromNominations
end Go.Proofs.Ytelhmfgfjlpkaaa
