/-
  For every input the law FnExactLeastCut returns true: the program's LeastCut returns what the reference's returns, leaves its arguments alone and shares no memory with them. No condition.
-/
import Derived.Test.YtbckjlejkedonaaCut
import Derived.Test.YtbckjlejkedonaaCore
import Derived.Test.YtbckjlejkedonaaOpen
import Derived.Test.YtbckjlejkedonaaLawBase
import Derived.Test.YtbckjlejkedonaaSeat
import Derived.Deep.RegionHeld3
namespace Go.Proofs.Ytbckjlejkedonaa
open Go.ChangeShapes Go.WideShapes Go.ChangeAt Go.RowKit Go.Deep Go.Joins

namespace LeastCut
set_option maxHeartbeats 2000000 in
set_option maxRecDepth 100000 in
theorem walk (A0a A0b : Option Addr) (n0a c0a n0b c0b : Nat) (v0 : GNet) (v1 : Int) (v2 : Int) (w : World) (hR0 : NetRaw w A0a n0a A0b n0b v0) (k0a : n0a ≤ maxLen) (k0b : n0b ≤ maxLen) (wz1 : (Lit.int .i64 v1).wf = true) (wz2 : (Lit.int .i64 v2).wf = true) :
    Calls Try.prog 3 #[.agg #[.slice A0a n0a c0a, .slice A0b n0b c0b], .int .i64 v1, .int .i64 v2] w fun e w' => e = .returned (.bool true) ∧ Gr w w' := by
  have HhR0 := Lib.hid hR0
  clear hR0
  unfold maxLen at k0a
  unfold maxLen at k0b
  go_enter Try.func3, Try.ntmps3
  go_wp2_with fail
  obtain ⟨w0, hw0⟩ : ∃ w0, w0 = w.alloc (.cells #[.slice A0a n0a c0a, .slice A0b n0b c0b] 25) := ⟨_, rfl⟩
  have g0 : Gr w w0 := by rw [hw0]; exact (Gr.refl _).alloc _
  have a0 : w0.cell? ⟨w.heap.size, 0, none⟩ = some (.slice A0a n0a c0a) := by rw [hw0]; simp [go_sem]
  have a1 : w0.cell? ⟨w.heap.size, 1, none⟩ = some (.slice A0b n0b c0b) := by rw [hw0]; simp [go_sem]
  rw [← hw0]
  clear hw0
  have zz : w.heap.size < w0.heap.size := lt_of_cell a0
  refine (szNetwork_any A0a A0b n0a c0a n0b c0b v0 1048576 _ (by omega) (by omega) (by unfold maxLen; omega) (by unfold maxLen; omega) (HhR0.out.gr g0)).mono ?_
  rintro e w1 ⟨r0, rfl, hr0, hq0, h1⟩
  have g1 : Gr w w1 := g0.trans h1
  replace a0 := h1.has a0
  replace a1 := h1.has a1
  by_cases s0 : r0 < 0
  · go_wp2_with fail
    go_ret
    exact ⟨rfl, g1⟩
  obtain ⟨m0a, m0b⟩ := hq0 (by omega)
  clear hq0
  go_wp2_with fail
  refine (toNetwork_any A0a A0b n0a c0a n0b c0b v0 _ m0a m0b (HhR0.out.gr g1)).mono ?_
  rintro e w2 ⟨s0A, s0d, s0B, s0f, rfl, o, h2⟩
  have Os0 := Lib.hid o
  clear o
  have g2 : Gr w w2 := g1.trans h2
  replace a0 := h2.has a0
  replace a1 := h2.has a1
  go_wp2_with fail
  refine (spLeastCut_any v0 v1 v2 _ ((OwnNet.at_ Os0.out).gr (Gr.refl _)) wz1 wz2).mono ?_
  rintro e w3 ⟨wA, wm, wc, rfl, wl, o, h3⟩
  have Ow := Lib.hid o
  clear o
  have g3 : Gr w w3 := g2.trans h3
  replace a0 := h3.has a0
  replace a1 := h3.has a1
  go_wp2_with fail
  refine (toNetwork_any A0a A0b n0a c0a n0b c0b v0 _ m0a m0b (HhR0.out.gr g3)).mono ?_
  rintro e w4 ⟨x0A, x0d, x0B, x0f, rfl, o, h4⟩
  have Ox0 := Lib.hid o
  clear o
  have g4 : Gr w w4 := g3.trans h4
  replace a0 := h4.has a0
  replace a1 := h4.has a1
  go_wp2_with fail
  obtain ⟨w5, hw5⟩ : ∃ W, W = w4.alloc (.cells #[.slice x0A n0a x0d, .slice x0B n0b x0f] 33) := ⟨_, rfl⟩
  have h5 : Gr w4 w5 := by rw [hw5]; exact (Gr.refl _).alloc _
  have b0 : w5.cell? ⟨w4.heap.size, 0, none⟩ = some (.slice x0A n0a x0d) := by rw [hw5]; simp [go_sem]
  have b1 : w5.cell? ⟨w4.heap.size, 1, none⟩ = some (.slice x0B n0b x0f) := by rw [hw5]; simp [go_sem]
  rw [← hw5]
  clear hw5
  have g5 : Gr w w5 := g4.trans h5
  replace a0 := h5.has a0
  replace a1 := h5.has a1
  refine (LeastCut_any v0 v1 v2 _ ((OwnNet.at_ Ox0.out).gr (h5)) wz1 wz2).mono ?_
  rintro e w6 ⟨gA, gm, gc, rfl, gl, o, h6⟩
  have Og := Lib.hid o
  clear o
  have g6 : Gr w w6 := g5.trans h6
  replace a0 := h6.has a0
  replace a1 := h6.has a1
  replace b0 := h6.has b0
  replace b1 := h6.has b1
  go_wp2_with fail
  have eg : gm = wm := (own_ilen Og.out).symm.trans (own_ilen Ow.out)
  subst eg
  refine (eqInt64S_same gA wA _ gc wc _ _ gl (Sl.gr (Sl.of_own Og.out) (Gr.refl _)) (Sl.gr (Sl.of_own Ow.out) (((h4).trans h5).trans h6))).mono ?_
  rintro e w7 ⟨rfl, h7⟩
  have g7 : Gr w w7 := g6.trans h7
  replace a0 := h7.has a0
  replace a1 := h7.has a1
  replace b0 := h7.has b0
  replace b1 := h7.has b1
  go_wp2_with fail
  go_region_held3 (fun w' => Gr w7 w' ∧ w'.cell? ⟨w.heap.size, 0, none⟩ = some (.slice A0a n0a c0a) ∧ w'.cell? ⟨w.heap.size, 1, none⟩ = some (.slice A0b n0b c0b) ∧ w'.cell? ⟨w4.heap.size, 0, none⟩ = some (.slice x0A n0a x0d) ∧ w'.cell? ⟨w4.heap.size, 1, none⟩ = some (.slice x0B n0b x0f))
    (first | exact ⟨(Gr.refl _).drew, a0, a1, b0, b1⟩ | exact ⟨by assumption, (by assumption : Gr w7 _).has a0, (by assumption : Gr w7 _).has a1, (by assumption : Gr w7 _).has b0, (by assumption : Gr w7 _).has b1⟩)
    (first
      | (go_at_call 14; refine (toNetwork_any A0a A0b n0a c0a n0b c0b v0 _ m0a m0b (HhR0.out.gr g7.drew)).mono ?_; rintro e wa ⟨B4, d4, B5, d5, rfl, o, ha⟩; have Oz := Lib.hid o; clear o; have hx : Gr w7 wa := (Gr.refl _).drew.trans ha)
      | (go_at_call 17; refine (eqNetwork_same x0A x0B B4 B5 n0a x0d n0b x0f d4 d5 v0 _ (((OwnNet.at_ Ox0.out).gr (((h5).trans h6).trans h7)).gr hx) (OwnNet.at_ Oz.out)).mono ?_; rintro e w8 ⟨rfl, hb⟩; have h8 : Gr w7 w8 := hx.trans hb))
  go_wp2_with fail
  have g8 : Gr w w8 := g7.trans h8
  replace a0 := h8.has a0
  replace a1 := h8.has a1
  replace b0 := h8.has b0
  replace b1 := h8.has b1
  have z1 := h1.size
  have z2 := h2.size
  have z3 := h3.size
  have z4 := h4.size
  have z5 := h5.size
  have z6 := h6.size
  have z7 := h7.size
  have z8 := h8.size
  have z0 := g0.size
  have Lw := Lib.hid (World.ownsRow.lt Ow.out)
  have Lg := Lib.hid (World.ownsRow.lt Og.out)
  have Ww := Lib.hid (own_gr Ow.out (((((h4).trans h5).trans h6).trans h7).trans h8))
  have Wg := Lib.hid (own_gr Og.out ((h7).trans h8))
  have L0a := Lib.hid (World.ownsRow.lt Ox0.out.nodes)
  have L0b := Lib.hid (World.ownsRow.lt Ox0.out.pipes)
  have W0 := Lib.hid (OwnNet.gr Ox0.out ((((h5).trans h6).trans h7).trans h8))
  refine (markNetwork_any x0A x0B n0a x0d n0b x0f w3.heap.size w4.heap.size v0 1 _ (by omega) (by omega) W0.out (fun k hk => (L0a.out k hk).2) (fun k hk => (L0b.out k hk).2)).mono ?_
  rintro e w9 ⟨rfl, t9⟩
  have g9 : Gr w w9 := g8.of_chg t9 (fun k hk => by omega)
  replace a0 := chg_cell t9 a0 (by simp only; omega)
  replace a1 := chg_cell t9 a1 (by simp only; omega)
  replace Ww := Lib.hid (own_chg Ww.out t9 (fun k hk => by have := Lw.out k hk; omega))
  replace Wg := Lib.hid (own_chg Wg.out t9 (fun k hk => by have := Lg.out k hk; omega))
  have z9 := t9.size
  go_wp2_with fail
  refine (eqInt64S_same gA wA _ gc wc _ _ gl (Sl.of_own Wg.out) (Sl.of_own Ww.out)).mono ?_
  rintro e w10 ⟨rfl, h10⟩
  have g10 : Gr w w10 := g9.trans h10
  replace a0 := h10.has a0
  replace a1 := h10.has a1
  have z10 := h10.size
  go_wp2_with fail
  refine (markInt64S_any gA _ gc w5.heap.size _ _ 1 _ gl (by omega) (by omega) (own_gr Wg.out h10)).mono ?_
  rintro e w11 ⟨rfl, o, hgb⟩
  have Wm := Lib.hid o
  clear o
  have t11 : Chg (fun k => w5.heap.size ≤ k ∧ k < w6.heap.size) w10 w11 := chg_of_grown hgb (fun k hk => Lg.out k hk)
  clear hgb
  have g11 : Gr w w11 := g10.of_chg t11 (fun k hk => by omega)
  replace a0 := chg_cell t11 a0 (by simp only; omega)
  replace a1 := chg_cell t11 a1 (by simp only; omega)
  replace Ww := Lib.hid (own_chg (own_gr Ww.out h10) t11 (fun k hk => by have := Lw.out k hk; omega))
  go_wp2_with fail
  refine (heldInt64S_any gA _ gc 1 _ gl (by omega) (by omega) (Sl.gr (Sl.of_own Wm.out) (Gr.refl _))).mono ?_
  rintro e _ ⟨rfl, rfl⟩
  go_wp2_with fail
  refine (toNetwork_any A0a A0b n0a c0a n0b c0b v0 _ m0a m0b (HhR0.out.gr g11)).mono ?_
  rintro e w12 ⟨p0A, p0d, p0B, p0f, rfl, o, h12⟩
  have Op0 := Lib.hid o
  clear o
  have g12 : Gr w w12 := g11.trans h12
  replace a0 := h12.has a0
  replace a1 := h12.has a1
  go_wp2_with fail
  refine (LeastCut_any v0 v1 v2 _ ((OwnNet.at_ Op0.out).gr (Gr.refl _)) wz1 wz2).mono ?_
  rintro e w13 ⟨hA, hm, hc, rfl, hl, o, h13⟩
  have Oh := Lib.hid o
  clear o
  have g13 : Gr w w13 := g12.trans h13
  replace a0 := h13.has a0
  replace a1 := h13.has a1
  go_wp2_with fail
  have eh : hm = _ := (own_ilen Oh.out).symm.trans (own_ilen Ow.out)
  subst eh
  refine (eqInt64S_same hA wA _ hc wc _ _ gl (Sl.of_own Oh.out) (Sl.gr (Sl.of_own Ww.out) ((h12).trans h13))).mono ?_
  rintro e w14 ⟨rfl, h14⟩
  have g14 : Gr w w14 := g13.trans h14
  replace a0 := h14.has a0
  replace a1 := h14.has a1
  go_wp2_with fail
  refine (heldInt64S_any gA _ gc 1 _ gl (by omega) (by omega) (Sl.gr (Sl.of_own Wm.out) (((h12).trans h13).trans h14))).mono ?_
  rintro e _ ⟨rfl, rfl⟩
  go_wp2_with fail
  go_ret
  exact ⟨rfl, g14⟩

set_option maxRecDepth 100000 in
theorem lifted (os : Os) (started : os.Started) (H : Type) (enc : TypeId × Value → H) :
    ReturnsInHanded {} Try.checked os 3 .any (Rows.fnExactLeastCutSpec.pre6 enc Try.prog Try.f3 Rows.fnExactLeastCutRow.domain false) (Rows.fnExactLeastCutSpec.post enc Try.prog Try.f3 false true false false) := by
  refine returnsInHanded_of_change (C := Try.checked) own started (by kernel_rfl) Try.func3
    (ChangeSpec.witness6 (enc := enc) (C := Try.checked) false ⟨#[], #[.agg #[.slice none 0 0, .slice none 0 0], .int .i64 0, .int .i64 0], []⟩ 8 (by kernel_rfl) (by kernel_rfl) (by kernel_rfl) (by kernel_rfl)) ?_
  intro W base args ds gs before hval0 hW hcnd _
  have hval : ∀ (j : Nat) t v, Try.f3.params[j]? = some t → args[j]? = some v → Value.okWide Try.prog W .any base t v := hval0
  have hW' := hW
  obtain ⟨p, q, hA0, hV, rfl, hfz, hnd⟩ := hW
  have hA : DataW.TrodAll enc Try.prog W 0 (fun _ => true) true Try.f3.params.toList args.toList ds p := hA0
  have hAk := hA0
  have hlt : ∀ x ∈ p, x.block < W.heap.size := fun x hx => hW'.lt x (List.mem_append_left _ hx)
  rw [Try.params3] at hA hval
  obtain ⟨u0, vs0, e0, ds0, p0, q0, hargs, rfl, rfl, h0, r0⟩ := trodAll_cons hA
  obtain ⟨u1, vs1, e1, ds1, p1, q1, rfl, rfl, rfl, h1, r1⟩ := trodAll_cons r0
  obtain ⟨u2, vs2, e2, ds2, p2, q2, rfl, rfl, rfl, h2, r2⟩ := trodAll_cons r1
  obtain ⟨rfl, rfl, rfl⟩ := trodAll_nil r2
  obtain rfl : args = #[u0, u1, u2] := by cases args; simp_all
  obtain ⟨rfl, rfl⟩ := trodVars_none hV
  obtain ⟨A0a, n0a, c0a, A0b, n0b, c0b, v0, rfl, k0a, k0b, hR0⟩ := open_Network (hval 0 _ u0 rfl rfl) h0
  obtain ⟨v1, rfl, rfl, rfl, wz1⟩ := open_int Try.underlying2 (hval 1 _ u1 rfl rfl) h1
  obtain ⟨v2, rfl, rfl, rfl, wz2⟩ := open_int Try.underlying2 (hval 2 _ u2 rfl rfl) h2
  clear hA0 hval0
  refine (walk _ _ _ _ _ _ v0 v1 v2 W hR0 k0a k0b wz1 wz2).mono fun e W' ⟨he, hg⟩ => ?_
  subst he
  exact ⟨_, rfl, _, [], _, [], _, [], hW', trodAll_cons_mk (shut_bool Try.underlying4 _) trodAll_mk0, trodAll_stays hg.below _ _ _ _ _ (by rw [Try.params3]; intro t ht; simp only [List.mem_cons, List.not_mem_nil, or_false] at ht; rcases ht with rfl | rfl | rfl <;> exact ⟨by kernel_rfl, of_decide_eq_true (by kernel_rfl)⟩) hAk hlt (fun x hx => by simpa using hlt x hx), rfl, hg.below.frame _, fun h => by cases h⟩
set_option maxHeartbeats 8000000 in
set_option maxRecDepth 100000 in
theorem closed : joinedFacts Try.prog 3 Try.f3 Rows.fnExactLeastCutSpec Rows.fnExactLeastCutRow = true := by
  unfold joinedFacts
  simp only [Bool.and_eq_true]
  repeat' (with_reducible apply And.intro)
  all_goals (first | with_reducible exact seat_laid | with_reducible exact seat_maps | with_reducible exact seat_heard | with_reducible exact seat_enter | (with_reducible rw [seat_stops]; as_aux_lemma => kernel_rfl) | (with_reducible rw [seat_knobs]; as_aux_lemma => kernel_rfl) | (with_reducible rw [seat_keys]; as_aux_lemma => kernel_rfl) | (with_reducible rw [seat_final]; as_aux_lemma => kernel_rfl) | (with_reducible rw [seat_make]; as_aux_lemma => kernel_rfl) | as_aux_lemma => kernel_rfl)
theorem named : Try.prog.funcNamed Rows.fnExactLeastCutRow.func = some 3 := by kernel_rfl
theorem over : Rows.fnExactLeastCutRow.holds Try.pinned (OpenSpec.ofChange Rows.fnExactLeastCutSpec) :=
  OpenClaim.holds_of_wide 3 Try.f3 rfl rfl rfl rfl rfl rfl rfl ⟨rfl, rfl, rfl, rfl, rfl⟩ rfl rfl rfl rfl rfl named Try.func3 closed
    (of_decide_eq_true (by as_aux_lemma => kernel_rfl)) (by unfold Func.isWrapper; first | (rw [if_pos (by decide +kernel)]; kernel_rfl) | (rw [if_neg (by decide +kernel)]; exact ⟨rfl, rfl⟩))
    (fun os started H enc _ => lifted os started H enc)
theorem proved : Rows.FnExactLeastCutSaid := over
#print axioms proved
end LeastCut
end Go.Proofs.Ytbckjlejkedonaa
