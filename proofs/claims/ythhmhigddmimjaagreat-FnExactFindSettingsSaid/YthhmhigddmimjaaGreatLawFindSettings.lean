/-
  For every input the law FnExactFindSettings returns true: the program's FindSettings returns what the reference's returns, leaves its arguments alone and shares no memory with them. No condition.
-/
import Derived.Test.YthhmhigddmimjaaGreatPtH
import Derived.Test.YthhmhigddmimjaaGreatCore
import Derived.Test.YthhmhigddmimjaaGreatOpen
import Derived.Test.YthhmhigddmimjaaGreatLawBase
import Derived.Test.YthhmhigddmimjaaGreatSeat
import Derived.Deep.RegionHeld3
namespace Go.Proofs.YthhmhigddmimjaaGreat
open Go.ChangeShapes Go.WideShapes Go.ChangeAt Go.RowKit Go.Deep Go.Joins

namespace FindSettings
set_option maxHeartbeats 2000000 in
set_option maxRecDepth 100000 in
theorem walk (A0a A0b : Option Addr) (n0a c0a n0b c0b : Nat) (v0 : GNet) (A1 : Option Addr) (n1 c1 : Nat) (v1 : List Int) (A2 : Option Addr) (n2 c2 : Nat) (v2 : List Int) (A3 : Option Addr) (n3 c3 : Nat) (v3 : List Int) (w : World) (hR0 : NetRaw w A0a n0a A0b n0b v0) (k0a : n0a ≤ maxLen) (k0b : n0b ≤ maxLen) (hR1 : Sl w 1 A1 n1 (ints v1)) (k1 : n1 ≤ maxLen) (hR2 : Sl w 1 A2 n2 (ints v2)) (k2 : n2 ≤ maxLen) (hR3 : Sl w 1 A3 n3 (ints v3)) (k3 : n3 ≤ maxLen) :
    Calls Tryz.prog 5 #[.agg #[.slice A0a n0a c0a, .slice A0b n0b c0b], .slice A1 n1 c1, .slice A2 n2 c2, .slice A3 n3 c3] w fun e w' => e = .returned (.bool true) ∧ Gr w w' := by
  have HhR0 := Lib.hid hR0
  have HhR1 := Lib.hid hR1
  have HhR2 := Lib.hid hR2
  have HhR3 := Lib.hid hR3
  clear hR0 hR1 hR2 hR3
  unfold maxLen at k0a
  unfold maxLen at k0b
  unfold maxLen at k1
  unfold maxLen at k2
  unfold maxLen at k3
  by_cases m1 : 1048576 < n1
  · go_enter Tryz.func5, Tryz.ntmps5
    go_wp2_with fail
    go_ret
    exact ⟨rfl, by repeat (first | exact Gr.refl _ | apply Gr.alloc)⟩
  have q1 : decide ((1048576 : Int) < (n1 : Int)) = false := by simp; omega
  replace m1 : n1 ≤ 1048576 := by omega
  by_cases m2 : 1048576 < n2
  · go_enter Tryz.func5, Tryz.ntmps5
    go_wp2_with fail
    go_ret
    exact ⟨rfl, by repeat (first | exact Gr.refl _ | apply Gr.alloc)⟩
  have q2 : decide ((1048576 : Int) < (n2 : Int)) = false := by simp; omega
  replace m2 : n2 ≤ 1048576 := by omega
  by_cases m3 : 1048576 < n3
  · go_enter Tryz.func5, Tryz.ntmps5
    go_wp2_with fail
    go_ret
    exact ⟨rfl, by repeat (first | exact Gr.refl _ | apply Gr.alloc)⟩
  have q3 : decide ((1048576 : Int) < (n3 : Int)) = false := by simp; omega
  replace m3 : n3 ≤ 1048576 := by omega
  go_enter Tryz.func5, Tryz.ntmps5
  go_wp2_with fail
  obtain ⟨w0, hw0⟩ : ∃ w0, w0 = w.alloc (.cells #[.slice A0a n0a c0a, .slice A0b n0b c0b] 25) := ⟨_, rfl⟩
  have g0 : Gr w w0 := by rw [hw0]; exact (Gr.refl _).alloc _
  have a0 : w0.cell? ⟨w.heap.size, 0, none⟩ = some (.slice A0a n0a c0a) := by rw [hw0]; simp [go_sem]
  have a1 : w0.cell? ⟨w.heap.size, 1, none⟩ = some (.slice A0b n0b c0b) := by rw [hw0]; simp [go_sem]
  rw [← hw0]
  clear hw0
  have zz : w.heap.size < w0.heap.size := lt_of_cell a0
  refine (szNetwork_any A0a A0b n0a c0a n0b c0b v0 1048576 _ (by omega) (by omega) (by unfold maxLen; omega) (by unfold maxLen; omega) (HhR0.out.gr g0)).mono ?_
  rintro e w1 ⟨r0, rfl, hr0, hq0, h1⟩
  have g1 : Gr w w1 := g0.trans h1
  replace a0 := h1.has a0
  replace a1 := h1.has a1
  by_cases s0 : r0 < 0
  · go_wp2_with fail
    go_ret
    exact ⟨rfl, g1⟩
  obtain ⟨m0a, m0b⟩ := hq0 (by omega)
  clear hq0
  go_wp2_with fail
  refine (toNetwork_any A0a A0b n0a c0a n0b c0b v0 _ m0a m0b (HhR0.out.gr g1)).mono ?_
  rintro e w2 ⟨s0A, s0d, s0B, s0f, rfl, o, h2⟩
  have Os0 := Lib.hid o
  clear o
  have g2 : Gr w w2 := g1.trans h2
  replace a0 := h2.has a0
  replace a1 := h2.has a1
  go_wp2_with fail
  refine (toInt64S_any A1 n1 c1 v1 _ m1 (HhR1.out.gr g2)).mono ?_
  rintro e w3 ⟨s1A, s1d, rfl, o, h3⟩
  have Os1 := Lib.hid o
  clear o
  have g3 : Gr w w3 := g2.trans h3
  replace a0 := h3.has a0
  replace a1 := h3.has a1
  go_wp2_with fail
  refine (toInt64S_any A2 n2 c2 v2 _ m2 (HhR2.out.gr g3)).mono ?_
  rintro e w4 ⟨s2A, s2d, rfl, o, h4⟩
  have Os2 := Lib.hid o
  clear o
  have g4 : Gr w w4 := g3.trans h4
  replace a0 := h4.has a0
  replace a1 := h4.has a1
  go_wp2_with fail
  refine (toInt64S_any A3 n3 c3 v3 _ m3 (HhR3.out.gr g4)).mono ?_
  rintro e w5 ⟨s3A, s3d, rfl, o, h5⟩
  have Os3 := Lib.hid o
  clear o
  have g5 : Gr w w5 := g4.trans h5
  replace a0 := h5.has a0
  replace a1 := h5.has a1
  go_wp2_with fail
  refine (spFindSettings_any v0 v1 v2 v3 _ ((OwnNet.at_ Os0.out).gr (((h3).trans h4).trans h5)) ((SlAt.of_own Os1.out m1).gr ((h4).trans h5)) ((SlAt.of_own Os2.out m2).gr (h5)) ((SlAt.of_own Os3.out m3).gr (Gr.refl _))).mono ?_
  rintro e w6 ⟨rfl, h6⟩
  have g6 : Gr w w6 := g5.trans h6
  replace a0 := h6.has a0
  replace a1 := h6.has a1
  go_wp2_with fail
  refine (toNetwork_any A0a A0b n0a c0a n0b c0b v0 _ m0a m0b (HhR0.out.gr g6)).mono ?_
  rintro e w7 ⟨x0A, x0d, x0B, x0f, rfl, o, h7⟩
  have Ox0 := Lib.hid o
  clear o
  have g7 : Gr w w7 := g6.trans h7
  replace a0 := h7.has a0
  replace a1 := h7.has a1
  go_wp2_with fail
  obtain ⟨w8, hw8⟩ : ∃ W, W = w7.alloc (.cells #[.slice x0A n0a x0d, .slice x0B n0b x0f] 32) := ⟨_, rfl⟩
  have h8 : Gr w7 w8 := by rw [hw8]; exact (Gr.refl _).alloc _
  have b0 : w8.cell? ⟨w7.heap.size, 0, none⟩ = some (.slice x0A n0a x0d) := by rw [hw8]; simp [go_sem]
  have b1 : w8.cell? ⟨w7.heap.size, 1, none⟩ = some (.slice x0B n0b x0f) := by rw [hw8]; simp [go_sem]
  rw [← hw8]
  clear hw8
  have g8 : Gr w w8 := g7.trans h8
  replace a0 := h8.has a0
  replace a1 := h8.has a1
  refine (toInt64S_any A1 n1 c1 v1 _ m1 (HhR1.out.gr g8)).mono ?_
  rintro e w9 ⟨x1A, x1d, rfl, o, h9⟩
  have Ox1 := Lib.hid o
  clear o
  have g9 : Gr w w9 := g8.trans h9
  replace a0 := h9.has a0
  replace a1 := h9.has a1
  replace b0 := h9.has b0
  replace b1 := h9.has b1
  go_wp2_with fail
  refine (toInt64S_any A2 n2 c2 v2 _ m2 (HhR2.out.gr g9)).mono ?_
  rintro e w10 ⟨x2A, x2d, rfl, o, h10⟩
  have Ox2 := Lib.hid o
  clear o
  have g10 : Gr w w10 := g9.trans h10
  replace a0 := h10.has a0
  replace a1 := h10.has a1
  replace b0 := h10.has b0
  replace b1 := h10.has b1
  go_wp2_with fail
  refine (toInt64S_any A3 n3 c3 v3 _ m3 (HhR3.out.gr g10)).mono ?_
  rintro e w11 ⟨x3A, x3d, rfl, o, h11⟩
  have Ox3 := Lib.hid o
  clear o
  have g11 : Gr w w11 := g10.trans h11
  replace a0 := h11.has a0
  replace a1 := h11.has a1
  replace b0 := h11.has b0
  replace b1 := h11.has b1
  go_wp2_with fail
  refine (FindSettings_any v0 v1 v2 v3 _ ((OwnNet.at_ Ox0.out).gr ((((h8).trans h9).trans h10).trans h11)) ((SlAt.of_own Ox1.out m1).gr ((h10).trans h11)) ((SlAt.of_own Ox2.out m2).gr (h11)) ((SlAt.of_own Ox3.out m3).gr (Gr.refl _))).mono ?_
  rintro e w12 ⟨rfl, h12⟩
  have g12 : Gr w w12 := g11.trans h12
  replace a0 := h12.has a0
  replace a1 := h12.has a1
  replace b0 := h12.has b0
  replace b1 := h12.has b1
  go_wp2_with fail
  go_region_held3 (fun w' => Gr w12 w' ∧ w'.cell? ⟨w.heap.size, 0, none⟩ = some (.slice A0a n0a c0a) ∧ w'.cell? ⟨w.heap.size, 1, none⟩ = some (.slice A0b n0b c0b) ∧ w'.cell? ⟨w7.heap.size, 0, none⟩ = some (.slice x0A n0a x0d) ∧ w'.cell? ⟨w7.heap.size, 1, none⟩ = some (.slice x0B n0b x0f))
    (first | exact ⟨(Gr.refl _).drew, a0, a1, b0, b1⟩ | exact ⟨by assumption, (by assumption : Gr w12 _).has a0, (by assumption : Gr w12 _).has a1, (by assumption : Gr w12 _).has b0, (by assumption : Gr w12 _).has b1⟩)
    (first
      | (go_at_call 12; refine (toNetwork_any A0a A0b n0a c0a n0b c0b v0 _ m0a m0b (HhR0.out.gr g12.drew)).mono ?_; rintro e wa ⟨B4, d4, B5, d5, rfl, o, ha⟩; have Oz := Lib.hid o; clear o; have hx : Gr w12 wa := (Gr.refl _).drew.trans ha)
      | (go_at_call 15; refine (eqNetwork_same x0A x0B B4 B5 n0a x0d n0b x0f d4 d5 v0 _ (((OwnNet.at_ Ox0.out).gr (((((h8).trans h9).trans h10).trans h11).trans h12)).gr hx) (OwnNet.at_ Oz.out)).mono ?_; rintro e w13 ⟨rfl, hb⟩; have h13 : Gr w12 w13 := hx.trans hb))
  go_wp2_with fail
  have g13 : Gr w w13 := g12.trans h13
  replace a0 := h13.has a0
  replace a1 := h13.has a1
  replace b0 := h13.has b0
  replace b1 := h13.has b1
  refine (toInt64S_any A1 n1 c1 v1 _ m1 (HhR1.out.gr g13)).mono ?_
  rintro e w14 ⟨y1A, y1d, rfl, o, h14⟩
  have Oy1 := Lib.hid o
  clear o
  have g14 : Gr w w14 := g13.trans h14
  replace a0 := h14.has a0
  replace a1 := h14.has a1
  replace b0 := h14.has b0
  replace b1 := h14.has b1
  go_wp2_with fail
  refine (eqInt64S_same x1A y1A n1 x1d y1d v1 _ m1 (Sl.gr (Sl.of_own Ox1.out) (((((h10).trans h11).trans h12).trans h13).trans h14)) (Sl.of_own Oy1.out)).mono ?_
  rintro e w15 ⟨rfl, h15⟩
  have g15 : Gr w w15 := g14.trans h15
  replace a0 := h15.has a0
  replace a1 := h15.has a1
  replace b0 := h15.has b0
  replace b1 := h15.has b1
  go_wp2_with fail
  refine (toInt64S_any A2 n2 c2 v2 _ m2 (HhR2.out.gr g15)).mono ?_
  rintro e w16 ⟨y2A, y2d, rfl, o, h16⟩
  have Oy2 := Lib.hid o
  clear o
  have g16 : Gr w w16 := g15.trans h16
  replace a0 := h16.has a0
  replace a1 := h16.has a1
  replace b0 := h16.has b0
  replace b1 := h16.has b1
  go_wp2_with fail
  refine (eqInt64S_same x2A y2A n2 x2d y2d v2 _ m2 (Sl.gr (Sl.of_own Ox2.out) ((((((h11).trans h12).trans h13).trans h14).trans h15).trans h16)) (Sl.of_own Oy2.out)).mono ?_
  rintro e w17 ⟨rfl, h17⟩
  have g17 : Gr w w17 := g16.trans h17
  replace a0 := h17.has a0
  replace a1 := h17.has a1
  replace b0 := h17.has b0
  replace b1 := h17.has b1
  go_wp2_with fail
  refine (toInt64S_any A3 n3 c3 v3 _ m3 (HhR3.out.gr g17)).mono ?_
  rintro e w18 ⟨y3A, y3d, rfl, o, h18⟩
  have Oy3 := Lib.hid o
  clear o
  have g18 : Gr w w18 := g17.trans h18
  replace a0 := h18.has a0
  replace a1 := h18.has a1
  replace b0 := h18.has b0
  replace b1 := h18.has b1
  go_wp2_with fail
  refine (eqInt64S_same x3A y3A n3 x3d y3d v3 _ m3 (Sl.gr (Sl.of_own Ox3.out) (((((((h12).trans h13).trans h14).trans h15).trans h16).trans h17).trans h18)) (Sl.of_own Oy3.out)).mono ?_
  rintro e w19 ⟨rfl, h19⟩
  have g19 : Gr w w19 := g18.trans h19
  replace a0 := h19.has a0
  replace a1 := h19.has a1
  replace b0 := h19.has b0
  replace b1 := h19.has b1
  go_wp2_with fail
  go_ret
  exact ⟨rfl, g19⟩

set_option maxRecDepth 100000 in
theorem lifted (os : Os) (started : os.Started) (H : Type) (enc : TypeId × Value → H) :
    ReturnsInHanded {} Tryz.checked os 5 .any (Rows.fnExactFindSettingsSpec.pre6 enc Tryz.prog Tryz.f5 Rows.fnExactFindSettingsRow.domain false) (Rows.fnExactFindSettingsSpec.post enc Tryz.prog Tryz.f5 false true false false) := by
  refine returnsInHanded_of_change (C := Tryz.checked) own started (by kernel_rfl) Tryz.func5
    (ChangeSpec.witness6 (enc := enc) (C := Tryz.checked) false ⟨#[], #[.agg #[.slice none 0 0, .slice none 0 0], .slice none 0 0, .slice none 0 0, .slice none 0 0], []⟩ 8 (by kernel_rfl) (by kernel_rfl) (by kernel_rfl) (by kernel_rfl)) ?_
  intro W base args ds gs before hval0 hW hcnd _
  have hval : ∀ (j : Nat) t v, Tryz.f5.params[j]? = some t → args[j]? = some v → Value.okWide Tryz.prog W .any base t v := hval0
  have hW' := hW
  obtain ⟨p, q, hA0, hV, rfl, hfz, hnd⟩ := hW
  have hA : DataW.TrodAll enc Tryz.prog W 0 (fun _ => true) true Tryz.f5.params.toList args.toList ds p := hA0
  have hAk := hA0
  have hlt : ∀ x ∈ p, x.block < W.heap.size := fun x hx => hW'.lt x (List.mem_append_left _ hx)
  rw [Tryz.params5] at hA hval
  obtain ⟨u0, vs0, e0, ds0, p0, q0, hargs, rfl, rfl, h0, r0⟩ := trodAll_cons hA
  obtain ⟨u1, vs1, e1, ds1, p1, q1, rfl, rfl, rfl, h1, r1⟩ := trodAll_cons r0
  obtain ⟨u2, vs2, e2, ds2, p2, q2, rfl, rfl, rfl, h2, r2⟩ := trodAll_cons r1
  obtain ⟨u3, vs3, e3, ds3, p3, q3, rfl, rfl, rfl, h3, r3⟩ := trodAll_cons r2
  obtain ⟨rfl, rfl, rfl⟩ := trodAll_nil r3
  obtain rfl : args = #[u0, u1, u2, u3] := by cases args; simp_all
  obtain ⟨rfl, rfl⟩ := trodVars_none hV
  obtain ⟨A0a, n0a, c0a, A0b, n0b, c0b, v0, rfl, k0a, k0b, hR0⟩ := open_Network (hval 0 _ u0 rfl rfl) h0
  obtain ⟨fu1, hf1⟩ := h1
  obtain ⟨aa1, bb1, cc1, rfl⟩ := okWide_slice Tryz.underlying26 (hval 1 _ u1 rfl rfl)
  obtain ⟨A1, n1, c1, v1, hv1, k1, k1x, hR1⟩ := open_Int64 (by simpa [Value.cells] using hf1)
  injection hv1 with ha1 hb1 hc1
  subst ha1 hb1 hc1
  obtain ⟨fu2, hf2⟩ := h2
  obtain ⟨aa2, bb2, cc2, rfl⟩ := okWide_slice Tryz.underlying26 (hval 2 _ u2 rfl rfl)
  obtain ⟨A2, n2, c2, v2, hv2, k2, k2x, hR2⟩ := open_Int64 (by simpa [Value.cells] using hf2)
  injection hv2 with ha2 hb2 hc2
  subst ha2 hb2 hc2
  obtain ⟨fu3, hf3⟩ := h3
  obtain ⟨aa3, bb3, cc3, rfl⟩ := okWide_slice Tryz.underlying26 (hval 3 _ u3 rfl rfl)
  obtain ⟨A3, n3, c3, v3, hv3, k3, k3x, hR3⟩ := open_Int64 (by simpa [Value.cells] using hf3)
  injection hv3 with ha3 hb3 hc3
  subst ha3 hb3 hc3
  clear hA0 hval0
  refine (walk _ _ _ _ _ _ v0 _ _ _ v1 _ _ _ v2 _ _ _ v3 W hR0 k0a k0b hR1 (Nat.le_trans k1 k1x) hR2 (Nat.le_trans k2 k2x) hR3 (Nat.le_trans k3 k3x)).mono fun e W' ⟨he, hg⟩ => ?_
  subst he
  exact ⟨_, rfl, _, [], _, [], _, [], hW', trodAll_cons_mk (shut_bool Tryz.underlying4 _) trodAll_mk0, trodAll_stays hg.below _ _ _ _ _ (by rw [Tryz.params5]; intro t ht; simp only [List.mem_cons, List.not_mem_nil, or_false] at ht; rcases ht with rfl | rfl | rfl | rfl <;> exact ⟨by kernel_rfl, of_decide_eq_true (by kernel_rfl)⟩) hAk hlt (fun x hx => by simpa using hlt x hx), rfl, hg.below.frame _, fun h => by cases h⟩
set_option maxHeartbeats 8000000 in
set_option maxRecDepth 100000 in
theorem closed : joinedFacts Tryz.prog 5 Tryz.f5 Rows.fnExactFindSettingsSpec Rows.fnExactFindSettingsRow = true := by
  unfold joinedFacts
  simp only [Bool.and_eq_true]
  repeat' (with_reducible apply And.intro)
  all_goals (first | with_reducible exact seat_laid | with_reducible exact seat_maps | with_reducible exact seat_heard | with_reducible exact seat_enter | (with_reducible rw [seat_stops]; as_aux_lemma => kernel_rfl) | (with_reducible rw [seat_knobs]; as_aux_lemma => kernel_rfl) | (with_reducible rw [seat_keys]; as_aux_lemma => kernel_rfl) | (with_reducible rw [seat_final]; as_aux_lemma => kernel_rfl) | (with_reducible rw [seat_make]; as_aux_lemma => kernel_rfl) | as_aux_lemma => kernel_rfl)
theorem named : Tryz.prog.funcNamed Rows.fnExactFindSettingsRow.func = some 5 := by kernel_rfl
theorem over : Rows.fnExactFindSettingsRow.holds Tryz.pinned (OpenSpec.ofChange Rows.fnExactFindSettingsSpec) :=
  OpenClaim.holds_of_wide 5 Tryz.f5 rfl rfl rfl rfl rfl rfl rfl ⟨rfl, rfl, rfl, rfl, rfl⟩ rfl rfl rfl rfl rfl named Tryz.func5 closed
    (of_decide_eq_true (by as_aux_lemma => kernel_rfl)) (by unfold Func.isWrapper; first | (rw [if_pos (by decide +kernel)]; kernel_rfl) | (rw [if_neg (by decide +kernel)]; exact ⟨rfl, rfl⟩))
    (fun os started H enc _ => lifted os started H enc)
theorem proved : Rows.FnExactFindSettingsSaid := over
#print axioms proved
end FindSettings
end Go.Proofs.YthhmhigddmimjaaGreat
