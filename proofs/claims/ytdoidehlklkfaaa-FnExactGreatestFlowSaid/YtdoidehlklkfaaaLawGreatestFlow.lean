/-
  For every input the law FnExactGreatestFlow returns true: the program's GreatestFlow returns what the reference's returns, leaves its arguments alone and shares no memory with them. No condition.
-/
import Derived.Test.YtdoidehlklkfaaaFlow11
import Derived.Test.YtdoidehlklkfaaaNet
import Derived.Test.YtdoidehlklkfaaaOpen
import Derived.Test.YtdoidehlklkfaaaLawBase
import Derived.Deep.RegionHeld3
namespace Go.Proofs.Ytdoidehlklkfaaa
open Go.ChangeShapes Go.WideShapes Go.ChangeAt Go.RowKit Go.Deep Go.Joins

namespace GreatestFlow
set_option maxHeartbeats 2000000 in
set_option maxRecDepth 100000 in
theorem walk (A0a A0b : Option Addr) (n0a c0a n0b c0b : Nat) (v0 : GNet) (v1 : Int) (v2 : Int) (w : World) (hR0 : NetRaw w A0a n0a A0b n0b v0) (k0a : n0a ≤ maxLen) (k0b : n0b ≤ maxLen) (wz1 : (Lit.int .i64 v1).wf = true) (wz2 : (Lit.int .i64 v2).wf = true) :
    Calls Try.prog 8 #[.agg #[.slice A0a n0a c0a, .slice A0b n0b c0b], .int .i64 v1, .int .i64 v2] w fun e w' => e = .returned (.bool true) ∧ Gr w w' := by
  have HhR0 := Lib.hid hR0
  clear hR0
  unfold maxLen at k0a
  unfold maxLen at k0b
  go_enter Try.func8, Try.ntmps8
  go_wp2_with fail
  obtain ⟨w0, hw0⟩ : ∃ w0, w0 = w.alloc (.cells #[.slice A0a n0a c0a, .slice A0b n0b c0b] 25) := ⟨_, rfl⟩
  have g0 : Gr w w0 := by rw [hw0]; exact (Gr.refl _).alloc _
  have a0 : w0.cell? ⟨w.heap.size, 0, none⟩ = some (.slice A0a n0a c0a) := by rw [hw0]; simp [go_sem]
  have a1 : w0.cell? ⟨w.heap.size, 1, none⟩ = some (.slice A0b n0b c0b) := by rw [hw0]; simp [go_sem]
  rw [← hw0]
  clear hw0
  have zz : w.heap.size < w0.heap.size := lt_of_cell a0
  refine (szNetwork_any A0a A0b n0a c0a n0b c0b v0 1048576 _ (by omega) (by omega) (by unfold maxLen; omega) (by unfold maxLen; omega) (HhR0.out.gr g0)).mono ?_
  rintro e w1 ⟨r0, rfl, hr0, hq0, h1⟩
  have g1 : Gr w w1 := g0.trans h1
  replace a0 := h1.has a0
  replace a1 := h1.has a1
  by_cases s0 : r0 < 0
  · go_wp2_with fail
    go_ret
    exact ⟨rfl, g1⟩
  obtain ⟨m0a, m0b⟩ := hq0 (by omega)
  clear hq0
  go_wp2_with fail
  refine (toNetwork_any A0a A0b n0a c0a n0b c0b v0 _ m0a m0b (HhR0.out.gr g1)).mono ?_
  rintro e w2 ⟨s0A, s0d, s0B, s0f, rfl, o, h2⟩
  have Os0 := Lib.hid o
  clear o
  have g2 : Gr w w2 := g1.trans h2
  replace a0 := h2.has a0
  replace a1 := h2.has a1
  go_wp2_with fail
  refine (spGreatestFlow_any v0 v1 v2 _ ((OwnNet.at_ Os0.out).gr (Gr.refl _)) wz1 wz2).mono ?_
  rintro e w3 ⟨rfl, h3⟩
  have g3 : Gr w w3 := g2.trans h3
  replace a0 := h3.has a0
  replace a1 := h3.has a1
  go_wp2_with fail
  refine (toNetwork_any A0a A0b n0a c0a n0b c0b v0 _ m0a m0b (HhR0.out.gr g3)).mono ?_
  rintro e w4 ⟨x0A, x0d, x0B, x0f, rfl, o, h4⟩
  have Ox0 := Lib.hid o
  clear o
  have g4 : Gr w w4 := g3.trans h4
  replace a0 := h4.has a0
  replace a1 := h4.has a1
  go_wp2_with fail
  obtain ⟨w5, hw5⟩ : ∃ W, W = w4.alloc (.cells #[.slice x0A n0a x0d, .slice x0B n0b x0f] 33) := ⟨_, rfl⟩
  have h5 : Gr w4 w5 := by rw [hw5]; exact (Gr.refl _).alloc _
  have b0 : w5.cell? ⟨w4.heap.size, 0, none⟩ = some (.slice x0A n0a x0d) := by rw [hw5]; simp [go_sem]
  have b1 : w5.cell? ⟨w4.heap.size, 1, none⟩ = some (.slice x0B n0b x0f) := by rw [hw5]; simp [go_sem]
  rw [← hw5]
  clear hw5
  have g5 : Gr w w5 := g4.trans h5
  replace a0 := h5.has a0
  replace a1 := h5.has a1
  refine (GreatestFlow_any v0 v1 v2 _ ((OwnNet.at_ Ox0.out).gr (h5)) wz1 wz2).mono ?_
  rintro e w6 ⟨rfl, h6⟩
  have g6 : Gr w w6 := g5.trans h6
  replace a0 := h6.has a0
  replace a1 := h6.has a1
  replace b0 := h6.has b0
  replace b1 := h6.has b1
  go_wp2_with fail
  go_region_held3 (fun w' => Gr w6 w' ∧ w'.cell? ⟨w.heap.size, 0, none⟩ = some (.slice A0a n0a c0a) ∧ w'.cell? ⟨w.heap.size, 1, none⟩ = some (.slice A0b n0b c0b) ∧ w'.cell? ⟨w4.heap.size, 0, none⟩ = some (.slice x0A n0a x0d) ∧ w'.cell? ⟨w4.heap.size, 1, none⟩ = some (.slice x0B n0b x0f))
    (first | exact ⟨(Gr.refl _).drew, a0, a1, b0, b1⟩ | exact ⟨by assumption, (by assumption : Gr w6 _).has a0, (by assumption : Gr w6 _).has a1, (by assumption : Gr w6 _).has b0, (by assumption : Gr w6 _).has b1⟩)
    (first
      | (go_at_call 18; refine (toNetwork_any A0a A0b n0a c0a n0b c0b v0 _ m0a m0b (HhR0.out.gr g6.drew)).mono ?_; rintro e wa ⟨B4, d4, B5, d5, rfl, o, ha⟩; have Oz := Lib.hid o; clear o; have hx : Gr w6 wa := (Gr.refl _).drew.trans ha)
      | (go_at_call 21; refine (eqNetwork_same x0A x0B B4 B5 n0a x0d n0b x0f d4 d5 v0 _ (((OwnNet.at_ Ox0.out).gr ((h5).trans h6)).gr hx) (OwnNet.at_ Oz.out)).mono ?_; rintro e w7 ⟨rfl, hb⟩; have h7 : Gr w6 w7 := hx.trans hb))
  go_wp2_with fail
  have g7 : Gr w w7 := g6.trans h7
  replace a0 := h7.has a0
  replace a1 := h7.has a1
  replace b0 := h7.has b0
  replace b1 := h7.has b1
  go_ret
  exact ⟨rfl, g7⟩

set_option maxRecDepth 100000 in
theorem lifted (os : Os) (started : os.Started) (H : Type) (enc : TypeId × Value → H) :
    ReturnsInHanded {} Try.checked os 8 .any (Rows.fnExactGreatestFlowSpec.pre6 enc Try.prog Try.f8 Rows.fnExactGreatestFlowRow.domain false) (Rows.fnExactGreatestFlowSpec.post enc Try.prog Try.f8 false true false false) := by
  refine returnsInHanded_of_change (C := Try.checked) own started (by kernel_rfl) Try.func8
    (ChangeSpec.witness6 (enc := enc) (C := Try.checked) false ⟨#[], #[.agg #[.slice none 0 0, .slice none 0 0], .int .i64 0, .int .i64 0], []⟩ 8 (by kernel_rfl) (by kernel_rfl) (by kernel_rfl) (by kernel_rfl)) ?_
  intro W base args ds gs before hval0 hW hcnd _
  have hval : ∀ (j : Nat) t v, Try.f8.params[j]? = some t → args[j]? = some v → Value.okWide Try.prog W .any base t v := hval0
  have hW' := hW
  obtain ⟨p, q, hA0, hV, rfl, hfz, hnd⟩ := hW
  have hA : DataW.TrodAll enc Try.prog W 0 (fun _ => true) true Try.f8.params.toList args.toList ds p := hA0
  have hAk := hA0
  have hlt : ∀ x ∈ p, x.block < W.heap.size := fun x hx => hW'.lt x (List.mem_append_left _ hx)
  rw [Try.params8] at hA hval
  obtain ⟨u0, vs0, e0, ds0, p0, q0, hargs, rfl, rfl, h0, r0⟩ := trodAll_cons hA
  obtain ⟨u1, vs1, e1, ds1, p1, q1, rfl, rfl, rfl, h1, r1⟩ := trodAll_cons r0
  obtain ⟨u2, vs2, e2, ds2, p2, q2, rfl, rfl, rfl, h2, r2⟩ := trodAll_cons r1
  obtain ⟨rfl, rfl, rfl⟩ := trodAll_nil r2
  obtain rfl : args = #[u0, u1, u2] := by cases args; simp_all
  obtain ⟨rfl, rfl⟩ := trodVars_none hV
  obtain ⟨A0a, n0a, c0a, A0b, n0b, c0b, v0, rfl, k0a, k0b, hR0⟩ := open_Network (hval 0 _ u0 rfl rfl) h0
  obtain ⟨v1, rfl, rfl, rfl, wz1⟩ := open_int Try.underlying2 (hval 1 _ u1 rfl rfl) h1
  obtain ⟨v2, rfl, rfl, rfl, wz2⟩ := open_int Try.underlying2 (hval 2 _ u2 rfl rfl) h2
  clear hA0 hval0
  refine (walk _ _ _ _ _ _ v0 v1 v2 W hR0 k0a k0b wz1 wz2).mono fun e W' ⟨he, hg⟩ => ?_
  subst he
  exact ⟨_, rfl, _, [], _, [], _, [], hW', trodAll_cons_mk (shut_bool Try.underlying4 _) trodAll_mk0, trodAll_stays hg.below _ _ _ _ _ (by rw [Try.params8]; intro t ht; simp only [List.mem_cons, List.not_mem_nil, or_false] at ht; rcases ht with rfl | rfl | rfl <;> exact ⟨by kernel_rfl, of_decide_eq_true (by kernel_rfl)⟩) hAk hlt (fun x hx => by simpa using hlt x hx), rfl, hg.below.frame _, fun h => by cases h⟩
theorem over : Rows.fnExactGreatestFlowRow.holds Try.pinned (OpenSpec.ofChange Rows.fnExactGreatestFlowSpec) :=
  OpenClaim.holds_of_wide 8 Try.f8 rfl rfl rfl rfl rfl rfl rfl ⟨rfl, rfl, rfl, rfl, rfl⟩ rfl rfl rfl rfl rfl (by kernel_rfl) Try.func8 (by kernel_rfl)
    (of_decide_eq_true (by kernel_rfl)) (by unfold Func.isWrapper; first | (rw [if_pos (by decide +kernel)]; kernel_rfl) | (rw [if_neg (by decide +kernel)]; exact ⟨rfl, rfl⟩))
    (fun os started H enc _ => lifted os started H enc)
theorem proved : Rows.FnExactGreatestFlowSaid := over
#print axioms proved
end GreatestFlow
end Go.Proofs.Ytdoidehlklkfaaa
