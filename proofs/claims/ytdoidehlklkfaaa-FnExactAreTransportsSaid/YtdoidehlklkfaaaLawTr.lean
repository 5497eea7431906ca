/-
  For every network and every list of transports, the law FnExactAreTransports returns true: the program's AreTransports and the reference's agree. No condition.
-/
import Derived.Test.YtdoidehlklkfaaaTr
import Derived.Test.YtdoidehlklkfaaaNet
import Derived.Test.YtdoidehlklkfaaaOpen
import Derived.Deep.RegionHeld3
namespace Go.Proofs.Ytdoidehlklkfaaa
open Go.ChangeShapes Go.WideShapes Go.ChangeAt Go.RowKit Go.Deep Go.Joins

set_option maxRecDepth 100000 in
theorem open_Network {H : Type} {enc : TypeId × Value → H} {w : World} {base : Nat} {spare : Nat → Bool} {held : Bool} {r : Reach} {b0 : Nat} {v : Value} {d : DataW H} {p : List MemPlace} (hv : Value.okWide Try.prog w r b0 25 v) (h : DataW.Trod enc Try.prog w base spare held 25 v d p) :
    ∃ (A1 : Option Addr) (n1 c1 : Nat) (A2 : Option Addr) (n2 c2 : Nat) (n : GNet), v = .agg #[.slice A1 n1 c1, .slice A2 n2 c2] ∧ n1 ≤ maxLen ∧ n2 ≤ maxLen ∧ NetRaw w A1 n1 A2 n2 n := by
  obtain ⟨v0, v1, y0, y1, m, rfl, _, _, h0, h1⟩ := open_agg2 Try.underlying25 (by kernel_rfl) (by kernel_rfl) hv h
  obtain ⟨A1, n1, c1, l1, rfl, a1, a2, hq, hs1⟩ := open_Node h0
  obtain ⟨A2, n2, c2, l2, rfl, b1, b2, _, hs2⟩ := open_Pipe h1
  exact ⟨A1, n1, c1, A2, n2, c2, ⟨l1, l2⟩, rfl, Nat.le_trans a1 a2, Nat.le_trans b1 b2, hs1, hs2, hq⟩

namespace AreTransports
set_option maxRecDepth 100000 in
theorem walk (A1 A2 A3 : Option Addr) (n1 c1 n2 c2 n3 c3 : Nat) (n : GNet) (l : List GTr) (w : World) (hR : NetRaw w A1 n1 A2 n2 n) (hL : Sl w 4 A3 n3 (l.flatMap GTr.cells)) (k1 : n1 ≤ maxLen) (k2 : n2 ≤ maxLen) (k3 : n3 ≤ maxLen) :
    Calls Try.prog 3 #[.agg #[.slice A1 n1 c1, .slice A2 n2 c2], .slice A3 n3 c3] w fun e w' => e = .returned (.bool true) ∧ Gr w w' := by
  have HR := Lib.hid hR
  have HL := Lib.hid hL
  clear hR hL
  go_enter Try.func3, Try.ntmps3
  go_wp2_with fail
  obtain ⟨w0, hw0⟩ : ∃ w0, w0 = w.alloc (.cells #[.slice A1 n1 c1, .slice A2 n2 c2] 25) := ⟨_, rfl⟩
  have g0 : Gr w w0 := by rw [hw0]; exact (Gr.refl _).alloc _
  have a0 : w0.cell? ⟨w.heap.size, 0, none⟩ = some (.slice A1 n1 c1) := by rw [hw0]; simp [go_sem]
  have a1 : w0.cell? ⟨w.heap.size, 1, none⟩ = some (.slice A2 n2 c2) := by rw [hw0]; simp [go_sem]
  rw [← hw0]
  clear hw0
  refine (szNetwork_any A1 A2 n1 c1 n2 c2 n 1048576 _ (by omega) (by omega) k1 k2 (HR.out.gr g0)).mono ?_
  rintro e w1 ⟨r, rfl, hr, hr2, h1⟩
  have g1 := g0.trans h1
  have a0 := h1.has a0
  have a1 := h1.has a1
  by_cases hr0 : r < 0
  · go_wp2_with fail
    go_ret
    exact ⟨rfl, g1⟩
  obtain ⟨m1, m2⟩ := hr2 (by omega)
  clear hr2
  go_wp2_with fail
  refine (szTransportS_any A3 n3 c3 r _ (by omega) (by omega) k3).mono ?_
  rintro e w2 ⟨r', rfl, hr', hr2', rfl⟩
  by_cases hr0' : r' < 0
  · go_wp2_with fail
    go_ret
    exact ⟨rfl, g1⟩
  have m3 := hr2' (by omega)
  clear hr2'
  go_wp2_with fail
  -- the reference on copies
  refine (toNetwork_any A1 A2 n1 c1 n2 c2 n _ m1 m2 (HR.out.gr g1)).mono ?_
  rintro e w3 ⟨B1, d1, B2, d2, rfl, o3, h3⟩
  have O3 := Lib.hid o3
  clear o3
  have g3 := g1.trans h3
  go_wp2_with fail
  refine (toTransportS_any A3 n3 c3 l _ m3 (HL.out.gr g3)).mono ?_
  rintro e w4 ⟨B3, d3, rfl, o4, h4⟩
  have O4 := Lib.hid o4
  clear o4
  have g4 := g3.trans h4
  go_wp2_with fail
  refine (spAreTransports_any B1 B2 B3 n1 d1 n2 d2 n3 d3 n l _ (O3.out.at_.gr h4) (Sl.of_own O4.out) m3).mono ?_
  rintro e w5 ⟨rfl, h5⟩
  have g5 := g4.trans h5
  have a0 := ((h3.trans h4).trans h5).has a0
  have a1 := ((h3.trans h4).trans h5).has a1
  clear O3 O4
  go_wp2_with fail
  -- the program on copies
  refine (toNetwork_any A1 A2 n1 c1 n2 c2 n _ m1 m2 (HR.out.gr g5)).mono ?_
  rintro e w6 ⟨B1, d1, B2, d2, rfl, o6, h6⟩
  have O6 := Lib.hid o6
  clear o6
  have g6 := g5.trans h6
  have a0 := h6.has a0
  have a1 := h6.has a1
  go_wp2_with fail
  obtain ⟨w7, hw7⟩ : ∃ w7, w7 = w6.alloc (.cells #[.slice B1 n1 d1, .slice B2 n2 d2] 33) := ⟨_, rfl⟩
  have h7 : Gr w6 w7 := by rw [hw7]; exact (Gr.refl _).alloc _
  have b0 : w7.cell? ⟨w6.heap.size, 0, none⟩ = some (.slice B1 n1 d1) := by rw [hw7]; simp [go_sem]
  have b1 : w7.cell? ⟨w6.heap.size, 1, none⟩ = some (.slice B2 n2 d2) := by rw [hw7]; simp [go_sem]
  rw [← hw7]
  clear hw7
  have g7 := g6.trans h7
  have a0 := h7.has a0
  have a1 := h7.has a1
  refine (toTransportS_any A3 n3 c3 l _ m3 (HL.out.gr g7)).mono ?_
  rintro e w8 ⟨B3, d3, rfl, o8, h8⟩
  have O8 := Lib.hid o8
  clear o8
  have g8 := g7.trans h8
  have b0 := h8.has b0
  have b1 := h8.has b1
  have a0 := h8.has a0
  have a1 := h8.has a1
  go_wp2_with fail
  refine (AreTransports_any B1 B2 B3 n1 d1 n2 d2 n3 d3 n l _ (O6.out.at_.gr (h7.trans h8)) (Sl.of_own O8.out) m3).mono ?_
  rintro e w9 ⟨rfl, h9⟩
  have g9 := g8.trans h9
  have b0 := h9.has b0
  have b1 := h9.has b1
  have a0 := h9.has a0
  have a1 := h9.has a1
  go_wp2_with fail
  go_region_held3 (fun w' => Gr w9 w' ∧ w'.cell? ⟨w6.heap.size, 0, none⟩ = some (.slice B1 n1 d1) ∧ w'.cell? ⟨w6.heap.size, 1, none⟩ = some (.slice B2 n2 d2) ∧ w'.cell? ⟨w.heap.size, 0, none⟩ = some (.slice A1 n1 c1) ∧ w'.cell? ⟨w.heap.size, 1, none⟩ = some (.slice A2 n2 c2))
    (first | exact ⟨(Gr.refl _).drew, b0, b1, a0, a1⟩ | exact ⟨by assumption, (by assumption : Gr w9 _).has b0, (by assumption : Gr w9 _).has b1, (by assumption : Gr w9 _).has a0, (by assumption : Gr w9 _).has a1⟩)
    (first
      | (go_at_call 18; refine (toNetwork_any A1 A2 n1 c1 n2 c2 n _ m1 m2 (HR.out.gr g9.drew)).mono ?_; rintro e w10 ⟨B4, d4, B5, d5, rfl, o10, h10⟩; have O10 := Lib.hid o10; clear o10; have hx : Gr w9 w10 := (Gr.refl _).drew.trans h10)
      | (go_at_call 21; refine (eqNetwork_same B1 B2 B4 B5 n1 d1 n2 d2 d4 d5 n _ ((O6.out.at_.gr (h7.trans (h8.trans h9))).gr hx) O10.out.at_).mono ?_; rintro e w11 ⟨rfl, h11⟩; have hx2 : Gr w9 w11 := hx.trans h11))
  go_wp2_with fail
  have g11 : Gr w w11 := g9.trans (by assumption)
  refine (toTransportS_any A3 n3 c3 l _ m3 (HL.out.gr g11)).mono ?_
  rintro e w12 ⟨B6, d6, rfl, o12, h12⟩
  have O12 := Lib.hid o12
  clear o12
  go_wp2_with fail
  refine (eqTransportS_same B3 B6 n3 d3 d6 l _ m3 ((Sl.of_own O8.out).gr (h9.trans ((by assumption : Gr w9 w11).trans h12))) (Sl.of_own O12.out)).mono ?_
  rintro e w13 ⟨rfl, h13⟩
  go_wp2_with fail
  go_ret
  exact ⟨rfl, (g11.trans h12).trans h13⟩

set_option maxRecDepth 100000 in
theorem lifted (os : Os) (started : os.Started) (H : Type) (enc : TypeId × Value → H) :
    ReturnsInHanded {} Try.checked os 3 .any (Rows.fnExactAreTransportsSpec.pre6 enc Try.prog Try.f3 Rows.fnExactAreTransportsRow.domain false) (Rows.fnExactAreTransportsSpec.post enc Try.prog Try.f3 false true false false) := by
  refine returnsInHanded_of_change (C := Try.checked) own started (by kernel_rfl) Try.func3
    (ChangeSpec.witness6 (enc := enc) (C := Try.checked) false ⟨#[], #[.agg #[.slice none 0 0, .slice none 0 0], .slice none 0 0], []⟩ 8 (by kernel_rfl) (by kernel_rfl) (by kernel_rfl) (by kernel_rfl)) ?_
  intro W base args ds gs before hval0 hW hcnd _
  have hval : ∀ (j : Nat) t v, Try.f3.params[j]? = some t → args[j]? = some v → Value.okWide Try.prog W .any base t v := hval0
  have hW' := hW
  obtain ⟨p, q, hA0, hV, rfl, hfz, hnd⟩ := hW
  have hA : DataW.TrodAll enc Try.prog W 0 (fun _ => true) true Try.f3.params.toList args.toList ds p := hA0
  have hAk := hA0
  have hlt : ∀ x ∈ p, x.block < W.heap.size := fun x hx => hW'.lt x (List.mem_append_left _ hx)
  rw [Try.params3] at hA hval
  obtain ⟨v0, vs0, e0, ds0, p0, q0, hargs, rfl, rfl, h0, r0⟩ := trodAll_cons hA
  obtain ⟨v1, vs1, e1, ds1, p1, q1, rfl, rfl, rfl, h1, r1⟩ := trodAll_cons r0
  obtain ⟨rfl, rfl, rfl⟩ := trodAll_nil r1
  obtain rfl : args = #[v0, v1] := by cases args; simp_all
  obtain ⟨rfl, rfl⟩ := trodVars_none hV
  obtain ⟨A1, n1, c1, A2, n2, c2, n, rfl, k1, k2, hR⟩ := open_Network (hval 0 _ v0 rfl rfl) h0
  obtain ⟨fu1, hf1⟩ := h1
  obtain ⟨aa, bb, cc, rfl⟩ := okWide_slice Try.underlying26 (hval 1 _ v1 rfl rfl)
  obtain ⟨A3, n3, c3, l, hv1, k3, k3', _, hL⟩ := open_Transport (by simpa [Value.cells] using hf1)
  injection hv1 with hv1a hv1b hv1c
  subst hv1a hv1b hv1c
  clear hA0 hval0
  refine (walk _ _ _ _ _ _ _ _ _ n l W hR hL k1 k2 (Nat.le_trans k3 k3')).mono fun e W' ⟨he, hg⟩ => ?_
  subst he
  exact ⟨_, rfl, _, [], _, [], _, [], hW', trodAll_cons_mk (shut_bool Try.underlying4 _) trodAll_mk0, trodAll_stays hg.below _ _ _ _ _ (by rw [Try.params3]; intro t ht; simp only [List.mem_cons, List.not_mem_nil, or_false] at ht; rcases ht with rfl | rfl <;> exact ⟨by kernel_rfl, of_decide_eq_true (by kernel_rfl)⟩) hAk hlt (fun x hx => by simpa using hlt x hx), rfl, hg.below.frame _, fun h => by cases h⟩

theorem over : Rows.fnExactAreTransportsRow.holds Try.pinned (OpenSpec.ofChange Rows.fnExactAreTransportsSpec) :=
  OpenClaim.holds_of_wide 3 Try.f3 rfl rfl rfl rfl rfl rfl rfl ⟨rfl, rfl, rfl, rfl, rfl⟩ rfl rfl rfl rfl rfl (by kernel_rfl) Try.func3 (by kernel_rfl)
    (of_decide_eq_true (by kernel_rfl)) (by unfold Func.isWrapper; first | (rw [if_pos (by decide +kernel)]; kernel_rfl) | (rw [if_neg (by decide +kernel)]; exact ⟨rfl, rfl⟩))
    (fun os started H enc _ => lifted os started H enc)
theorem proved : Rows.FnExactAreTransportsSaid := over
#print axioms proved
end AreTransports
end Go.Proofs.Ytdoidehlklkfaaa
