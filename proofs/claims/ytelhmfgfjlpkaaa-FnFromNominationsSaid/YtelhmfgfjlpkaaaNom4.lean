/-
  Lists of nominations, both sides. Printed by gen_nom.py.
-/
import Derived.Test.YtelhmfgfjlpkaaaNom3
import Derived.Test.YtelhmfgfjlpkaaaText
import Derived.Deep.RegionHeld3
import Derived.Deep.CutRange
set_option linter.unusedSimpArgs false
set_option linter.unusedVariables false
namespace Go.Proofs.Ytelhmfgfjlpkaaa
open Go.ChangeShapes Go.WideShapes Go.ChangeAt Go.RowKit

set_option maxHeartbeats 6400000 in
set_option maxRecDepth 100000 in
theorem checkNominations_any {A1 A2 A3 A4 : Option Addr} {n1 c1 n2 c2 n3 c3 n4 c4 : Nat} (n : GNet) (bk : List GCon) (l : List GNom) (w : World) (hA : NetAt w A1 n1 c1 A2 n2 c2 n) (hB : SlAt w 8 A3 n3 c3 (bk.flatMap GCon.cells)) (hL : SlAt w 4 A4 n4 c4 (l.flatMap GNom.cells)) :
    Calls Try.prog 67 #[.agg #[.slice A1 n1 c1, .slice A2 n2 c2], .slice A3 n3 c3, .slice A4 n4 c4] w fun e w' => e = .returned (.int .i64 (nmCode n bk l)) ∧ Gr w w' := by
  have hm3 := hB.small
  have hm4 := hL.small
  have hl4 := hL.sl.len GNom.cells_len (by omega)
  have HB := Lib.hid hB
  have HL := Lib.hid hL
  have Hl4 := Lib.hid hl4
  have hl1 := hA.l1
  have HA := Lib.hid hA
  clear hA hB hL hl4
  go_enter Try.func67, Try.ntmps67
  go_wp2_with fail
  refine (checkBook_any n bk _ (HA.out.gr ((Gr.refl _).alloc _)) (HB.out.gr ((Gr.refl _).alloc _))).mono ?_
  rintro e w1 ⟨rfl, hg1⟩
  have hgw : Gr w w1 := ((Gr.refl _).alloc _).trans hg1
  clear hg1
  by_cases hc : coCode n bk = 0
  case neg =>
    have Hc := Lib.hid hc
    have tb : (coCode n bk != 0) = true := by simp [hc]
    clear hc
    go_wp2_with fail
    go_ret
    exact ⟨ret_int (by rw [nmCode, if_neg Hc.out]), hgw⟩
  have Hc := Lib.hid hc
  have Hbo : Hid (bookOk n1 bk = true) := Lib.hid (by rw [← hl1]; exact (coCode_zero hc).2)
  have tb : (coCode n bk != 0) = false := by simp [hc]
  clear hc hl1
  by_cases h : 200 < n4
  · go_wp2_with fail
    go_ret
    exact ⟨ret_int (by rw [nmCode, if_pos Hc.out, nomsOk_long (by rw [Hl4.out]; exact h)]; rfl), hgw⟩
  have t2 : decide ((200 : Int) < (n4 : Int)) = false := by simp; omega
  go_wp2_with fail
  go_loopw [21] (fun i wr => ∃ k : Nat, k ≤ n4 ∧ i = .int .i64 k ∧ (∀ j, j < k → nomAt bk l j = true) ∧ Gr w wr) (fun i _ => n4 - (intOf i).toNat)
  case atStart => exact ⟨0, Nat.zero_le _, rfl, fun j h => absurd h (by omega), hgw⟩
  case round =>
    obtain ⟨k, hk, rfl, hno, hgr⟩ := hrel
    have Hno := Lib.hid hno
    clear hno
    by_cases hlt : k < n4
    · obtain ⟨x, hx⟩ : ∃ x, l[k]? = some x := ⟨_, List.getElem?_eq_getElem (by have := Hl4.out; omega)⟩
      obtain ⟨b, o, hAA, hb, e0, e1, e2, e3⟩ := (HL.out.sl.gr hgr).nom hx
      have hgx : l.getD k GNom.d0 = x := by rw [List.getD_eq_getElem?_getD, hx]; rfl
      have t1 : (k : Int) < (n4 : Int) := by omega
      have t0 : (0 : Int) ≤ (k : Int) := by omega
      obtain ⟨m, hm⟩ : ∃ m, m = k - 1 := ⟨_, rfl⟩
      have tm1 : (m : Int) < (n4 : Int) := by omega
      have tm0 : (0 : Int) ≤ (m : Int) := by omega
      obtain ⟨p, hp⟩ : ∃ p, p = l.getD (k - 1) GNom.d0 := ⟨_, rfl⟩
      have hpe : 0 < k → wr.cell? ⟨b, o + m * 4 + 2, none⟩ = some (.int .i64 p.sent) := fun h => by
        have hx' : l[k - 1]? = some p := by rw [hp, List.getD_eq_getElem?_getD, List.getElem?_eq_getElem (show k - 1 < l.length by have := Hl4.out; omega)]; rfl
        obtain ⟨b2, o2, hAA2, _, _, _, g2, _⟩ := (HL.out.sl.gr hgr).nom hx'
        rw [hAA] at hAA2
        injection hAA2 with h1
        injection h1 with h2 h3
        subst h2; subst h3
        rw [hm]; exact g2
      have hna : nomAt bk l k = (nomOk bk x && (decide (k = 0) || decide (p.sent ≤ x.sent))) := by rw [nomAt, hgx, hp]
      subst hAA
      have Hna := Lib.hid hna
      have Hm := Lib.hid hm
      clear hx hgx hp hna hm
      cases hv : nomOk bk x with
      | false =>
        by_cases hk0 : 0 < k
        · have tk : decide ((0 : Int) < (k : Int)) = true := by simp; omega
          go_upto_region 9 with fail
          obtain ⟨w4, hw4⟩ : ∃ W, W = wr.alloc (.cells #[.int .i64 x.contract, .int .i64 x.hour, .int .i64 x.sent, .int .i64 x.amount] 120) := ⟨_, rfl⟩
          have hg4 : Gr wr w4 := by rw [hw4]; exact (Gr.refl _).alloc _
          have x0 : w4.cell? ⟨wr.heap.size, 0, none⟩ = some (.int .i64 x.contract) := by rw [hw4]; simp [go_sem]
          have x1 : w4.cell? ⟨wr.heap.size, 1, none⟩ = some (.int .i64 x.hour) := by rw [hw4]; simp [go_sem]
          have x2 : w4.cell? ⟨wr.heap.size, 2, none⟩ = some (.int .i64 x.sent) := by rw [hw4]; simp [go_sem]
          have x3 : w4.cell? ⟨wr.heap.size, 3, none⟩ = some (.int .i64 x.amount) := by rw [hw4]; simp [go_sem]
          rw [← hw4]
          have hgr4 := hgr.trans hg4
          have hwk : IntKind.i64.wrap ((k : Int) - 1) = (m : Int) := by have := Hm.out; rw [IntWalk.i64_in _ (by omega)]; omega
          have pe := hg4.has (hpe hk0)
          clear hw4 e0 e1 e2 e3
          go_wp2_with fail
          refine wp_region_text (fun w' => Gr w4 w') (by kernel_rfl) (by kernel_rfl) (by decide) (Gr.refl _).drew ?_
          repeat (first
            | ((with_reducible refine wpText_skip ?_ ?_)
               · rfl
               simp only [Act.put, List.setIfInBounds_toArray, List.set_cons_zero, List.set_cons_succ])
            | ((with_reducible refine wpText_yield (v := ?_) ?_ ?_ ?_)
               rotate_left
               · rfl
               · (intro W hW; have kx0 := hW.has x0; have kx1 := hW.has x1; have kx2 := hW.has x2; have kx3 := hW.has x3; have kpe := hW.has pe; first | (go_simp; done) | (go_simp; with_reducible rfl))
               simp only [Act.put, List.setIfInBounds_toArray, List.set_cons_zero, List.set_cons_succ])
            | ((with_reducible refine wpText_yield1 (v := ?_) ?_ ?_ ?_)
               rotate_left
               · rfl
               · (intro W hW; have kx0 := hW.has x0; have kx1 := hW.has x1; have kx2 := hW.has x2; have kx3 := hW.has x3; have kpe := hW.has pe; first | (go_simp; done) | (go_simp; with_reducible rfl))
               simp only [Act.put, List.setIfInBounds_toArray, List.set_cons_zero, List.set_cons_succ]))
          refine wpText_do (.bool false) (by rfl) (fun W hW K hK => ?_) ?_
          ·
            have kx0 := hW.has x0
            have kx1 := hW.has x1
            have kx2 := hW.has x2
            have kx3 := hW.has x3
            have kpe := hW.has pe
            go_simp
            refine (isNomination_any n1 bk x _ (HB.out.gr ((hgr4).trans hW)) Hbo.out).mono ?_
            rintro e w' ⟨rfl, hg⟩
            rw [hv]
            exact hK _ (hW.trans hg)
          simp only [Act.put, List.setIfInBounds_toArray, List.set_cons_zero, List.set_cons_succ]
          repeat (first
            | ((with_reducible refine wpText_skip ?_ ?_)
               · rfl
               simp only [Act.put, List.setIfInBounds_toArray, List.set_cons_zero, List.set_cons_succ])
            | ((with_reducible refine wpText_yield (v := ?_) ?_ ?_ ?_)
               rotate_left
               · rfl
               · (intro W hW; have kx0 := hW.has x0; have kx1 := hW.has x1; have kx2 := hW.has x2; have kx3 := hW.has x3; have kpe := hW.has pe; first | (go_simp; done) | (go_simp; with_reducible rfl))
               simp only [Act.put, List.setIfInBounds_toArray, List.set_cons_zero, List.set_cons_succ])
            | ((with_reducible refine wpText_yield1 (v := ?_) ?_ ?_ ?_)
               rotate_left
               · rfl
               · (intro W hW; have kx0 := hW.has x0; have kx1 := hW.has x1; have kx2 := hW.has x2; have kx3 := hW.has x3; have kpe := hW.has pe; first | (go_simp; done) | (go_simp; with_reducible rfl))
               simp only [Act.put, List.setIfInBounds_toArray, List.set_cons_zero, List.set_cons_succ]))
          rintro w6 hS6
          have hgr6 := hgr4.trans hS6
          go_wp2_with fail
          go_ret
          have hbad : nomsOk bk l = false := nomsOk_bad (k := k) (by have := Hl4.out; omega) (by rw [Hna.out]; rw [hv]; rfl)
          exact ⟨ret_int (by rw [nmCode, if_pos Hc.out, hbad]; rfl), hgr6⟩
        · obtain rfl : k = 0 := by omega
          simp only [Nat.zero_mul, Nat.add_zero] at e0 e1 e2 e3
          go_upto_region 9 with fail
          obtain ⟨w4, hw4⟩ : ∃ W, W = wr.alloc (.cells #[.int .i64 x.contract, .int .i64 x.hour, .int .i64 x.sent, .int .i64 x.amount] 120) := ⟨_, rfl⟩
          have hg4 : Gr wr w4 := by rw [hw4]; exact (Gr.refl _).alloc _
          have x0 : w4.cell? ⟨wr.heap.size, 0, none⟩ = some (.int .i64 x.contract) := by rw [hw4]; simp [go_sem]
          have x1 : w4.cell? ⟨wr.heap.size, 1, none⟩ = some (.int .i64 x.hour) := by rw [hw4]; simp [go_sem]
          have x2 : w4.cell? ⟨wr.heap.size, 2, none⟩ = some (.int .i64 x.sent) := by rw [hw4]; simp [go_sem]
          have x3 : w4.cell? ⟨wr.heap.size, 3, none⟩ = some (.int .i64 x.amount) := by rw [hw4]; simp [go_sem]
          rw [← hw4]
          have hgr4 := hgr.trans hg4
          skip
          clear hw4 e0 e1 e2 e3
          go_wp2_with fail
          refine wp_region_text (fun w' => Gr w4 w') (by kernel_rfl) (by kernel_rfl) (by decide) (Gr.refl _).drew ?_
          repeat (first
            | ((with_reducible refine wpText_skip ?_ ?_)
               · rfl
               simp only [Act.put, List.setIfInBounds_toArray, List.set_cons_zero, List.set_cons_succ])
            | ((with_reducible refine wpText_yield (v := ?_) ?_ ?_ ?_)
               rotate_left
               · rfl
               · (intro W hW; have kx0 := hW.has x0; have kx1 := hW.has x1; have kx2 := hW.has x2; have kx3 := hW.has x3; first | (go_simp; done) | (go_simp; with_reducible rfl))
               simp only [Act.put, List.setIfInBounds_toArray, List.set_cons_zero, List.set_cons_succ])
            | ((with_reducible refine wpText_yield1 (v := ?_) ?_ ?_ ?_)
               rotate_left
               · rfl
               · (intro W hW; have kx0 := hW.has x0; have kx1 := hW.has x1; have kx2 := hW.has x2; have kx3 := hW.has x3; first | (go_simp; done) | (go_simp; with_reducible rfl))
               simp only [Act.put, List.setIfInBounds_toArray, List.set_cons_zero, List.set_cons_succ]))
          refine wpText_do (.bool false) (by rfl) (fun W hW K hK => ?_) ?_
          ·
            have kx0 := hW.has x0
            have kx1 := hW.has x1
            have kx2 := hW.has x2
            have kx3 := hW.has x3
            go_simp
            refine (isNomination_any n1 bk x _ (HB.out.gr ((hgr4).trans hW)) Hbo.out).mono ?_
            rintro e w' ⟨rfl, hg⟩
            rw [hv]
            exact hK _ (hW.trans hg)
          simp only [Act.put, List.setIfInBounds_toArray, List.set_cons_zero, List.set_cons_succ]
          repeat (first
            | ((with_reducible refine wpText_skip ?_ ?_)
               · rfl
               simp only [Act.put, List.setIfInBounds_toArray, List.set_cons_zero, List.set_cons_succ])
            | ((with_reducible refine wpText_yield (v := ?_) ?_ ?_ ?_)
               rotate_left
               · rfl
               · (intro W hW; have kx0 := hW.has x0; have kx1 := hW.has x1; have kx2 := hW.has x2; have kx3 := hW.has x3; first | (go_simp; done) | (go_simp; with_reducible rfl))
               simp only [Act.put, List.setIfInBounds_toArray, List.set_cons_zero, List.set_cons_succ])
            | ((with_reducible refine wpText_yield1 (v := ?_) ?_ ?_ ?_)
               rotate_left
               · rfl
               · (intro W hW; have kx0 := hW.has x0; have kx1 := hW.has x1; have kx2 := hW.has x2; have kx3 := hW.has x3; first | (go_simp; done) | (go_simp; with_reducible rfl))
               simp only [Act.put, List.setIfInBounds_toArray, List.set_cons_zero, List.set_cons_succ]))
          rintro w6 hS6
          have hgr6 := hgr4.trans hS6
          go_wp2_with fail
          go_ret
          have hbad : nomsOk bk l = false := nomsOk_bad (k := 0) (by have := Hl4.out; omega) (by rw [Hna.out]; rw [hv]; rfl)
          exact ⟨ret_int (by rw [nmCode, if_pos Hc.out, hbad]; rfl), hgr6⟩
      | true =>
        by_cases hk0 : 0 < k
        · have tk : decide ((0 : Int) < (k : Int)) = true := by simp; omega
          have tk' : (0 : Int) < (k : Int) := by omega
          by_cases hc : x.sent < p.sent
          · have tc : decide (x.sent < p.sent) = true := decide_eq_true hc
            go_upto_region 9 with fail
            obtain ⟨w4, hw4⟩ : ∃ W, W = wr.alloc (.cells #[.int .i64 x.contract, .int .i64 x.hour, .int .i64 x.sent, .int .i64 x.amount] 120) := ⟨_, rfl⟩
            have hg4 : Gr wr w4 := by rw [hw4]; exact (Gr.refl _).alloc _
            have x0 : w4.cell? ⟨wr.heap.size, 0, none⟩ = some (.int .i64 x.contract) := by rw [hw4]; simp [go_sem]
            have x1 : w4.cell? ⟨wr.heap.size, 1, none⟩ = some (.int .i64 x.hour) := by rw [hw4]; simp [go_sem]
            have x2 : w4.cell? ⟨wr.heap.size, 2, none⟩ = some (.int .i64 x.sent) := by rw [hw4]; simp [go_sem]
            have x3 : w4.cell? ⟨wr.heap.size, 3, none⟩ = some (.int .i64 x.amount) := by rw [hw4]; simp [go_sem]
            rw [← hw4]
            have hgr4 := hgr.trans hg4
            have hwk : IntKind.i64.wrap ((k : Int) - 1) = (m : Int) := by have := Hm.out; rw [IntWalk.i64_in _ (by omega)]; omega
            have pe := hg4.has (hpe hk0)
            clear hw4 e0 e1 e2 e3
            go_wp2_with fail
            refine wp_region_text (fun w' => Gr w4 w') (by kernel_rfl) (by kernel_rfl) (by decide) (Gr.refl _).drew ?_
            repeat (first
              | ((with_reducible refine wpText_skip ?_ ?_)
                 · rfl
                 simp only [Act.put, List.setIfInBounds_toArray, List.set_cons_zero, List.set_cons_succ])
              | ((with_reducible refine wpText_yield (v := ?_) ?_ ?_ ?_)
                 rotate_left
                 · rfl
                 · (intro W hW; have kx0 := hW.has x0; have kx1 := hW.has x1; have kx2 := hW.has x2; have kx3 := hW.has x3; have kpe := hW.has pe; first | (go_simp; done) | (go_simp; with_reducible rfl))
                 simp only [Act.put, List.setIfInBounds_toArray, List.set_cons_zero, List.set_cons_succ])
              | ((with_reducible refine wpText_yield1 (v := ?_) ?_ ?_ ?_)
                 rotate_left
                 · rfl
                 · (intro W hW; have kx0 := hW.has x0; have kx1 := hW.has x1; have kx2 := hW.has x2; have kx3 := hW.has x3; have kpe := hW.has pe; first | (go_simp; done) | (go_simp; with_reducible rfl))
                 simp only [Act.put, List.setIfInBounds_toArray, List.set_cons_zero, List.set_cons_succ]))
            refine wpText_do (.bool true) (by rfl) (fun W hW K hK => ?_) ?_
            ·
              have kx0 := hW.has x0
              have kx1 := hW.has x1
              have kx2 := hW.has x2
              have kx3 := hW.has x3
              have kpe := hW.has pe
              go_simp
              refine (isNomination_any n1 bk x _ (HB.out.gr ((hgr4).trans hW)) Hbo.out).mono ?_
              rintro e w' ⟨rfl, hg⟩
              rw [hv]
              exact hK _ (hW.trans hg)
            simp only [Act.put, List.setIfInBounds_toArray, List.set_cons_zero, List.set_cons_succ]
            repeat (first
              | ((with_reducible refine wpText_skip ?_ ?_)
                 · rfl
                 simp only [Act.put, List.setIfInBounds_toArray, List.set_cons_zero, List.set_cons_succ])
              | ((with_reducible refine wpText_yield (v := ?_) ?_ ?_ ?_)
                 rotate_left
                 · rfl
                 · (intro W hW; have kx0 := hW.has x0; have kx1 := hW.has x1; have kx2 := hW.has x2; have kx3 := hW.has x3; have kpe := hW.has pe; first | (go_simp; done) | (go_simp; with_reducible rfl))
                 simp only [Act.put, List.setIfInBounds_toArray, List.set_cons_zero, List.set_cons_succ])
              | ((with_reducible refine wpText_yield1 (v := ?_) ?_ ?_ ?_)
                 rotate_left
                 · rfl
                 · (intro W hW; have kx0 := hW.has x0; have kx1 := hW.has x1; have kx2 := hW.has x2; have kx3 := hW.has x3; have kpe := hW.has pe; first | (go_simp; done) | (go_simp; with_reducible rfl))
                 simp only [Act.put, List.setIfInBounds_toArray, List.set_cons_zero, List.set_cons_succ]))
            rintro w6 hS6
            have hgr6 := hgr4.trans hS6
            go_wp2_with fail
            go_ret
            have hbad : nomsOk bk l = false := nomsOk_bad (k := k) (by have := Hl4.out; omega) (by rw [Hna.out]; rw [hv, decide_eq_false (show ¬ k = 0 by omega), decide_eq_false (show ¬ p.sent ≤ x.sent by omega)]; rfl)
            exact ⟨ret_int (by rw [nmCode, if_pos Hc.out, hbad]; rfl), hgr6⟩
          · have tc : decide (x.sent < p.sent) = false := decide_eq_false hc
            go_upto_region 9 with fail
            obtain ⟨w4, hw4⟩ : ∃ W, W = wr.alloc (.cells #[.int .i64 x.contract, .int .i64 x.hour, .int .i64 x.sent, .int .i64 x.amount] 120) := ⟨_, rfl⟩
            have hg4 : Gr wr w4 := by rw [hw4]; exact (Gr.refl _).alloc _
            have x0 : w4.cell? ⟨wr.heap.size, 0, none⟩ = some (.int .i64 x.contract) := by rw [hw4]; simp [go_sem]
            have x1 : w4.cell? ⟨wr.heap.size, 1, none⟩ = some (.int .i64 x.hour) := by rw [hw4]; simp [go_sem]
            have x2 : w4.cell? ⟨wr.heap.size, 2, none⟩ = some (.int .i64 x.sent) := by rw [hw4]; simp [go_sem]
            have x3 : w4.cell? ⟨wr.heap.size, 3, none⟩ = some (.int .i64 x.amount) := by rw [hw4]; simp [go_sem]
            rw [← hw4]
            have hgr4 := hgr.trans hg4
            have hwk : IntKind.i64.wrap ((k : Int) - 1) = (m : Int) := by have := Hm.out; rw [IntWalk.i64_in _ (by omega)]; omega
            have pe := hg4.has (hpe hk0)
            clear hw4 e0 e1 e2 e3
            go_wp2_with fail
            refine wp_region_text (fun w' => Gr w4 w') (by kernel_rfl) (by kernel_rfl) (by decide) (Gr.refl _).drew ?_
            repeat (first
              | ((with_reducible refine wpText_skip ?_ ?_)
                 · rfl
                 simp only [Act.put, List.setIfInBounds_toArray, List.set_cons_zero, List.set_cons_succ])
              | ((with_reducible refine wpText_yield (v := ?_) ?_ ?_ ?_)
                 rotate_left
                 · rfl
                 · (intro W hW; have kx0 := hW.has x0; have kx1 := hW.has x1; have kx2 := hW.has x2; have kx3 := hW.has x3; have kpe := hW.has pe; first | (go_simp; done) | (go_simp; with_reducible rfl))
                 simp only [Act.put, List.setIfInBounds_toArray, List.set_cons_zero, List.set_cons_succ])
              | ((with_reducible refine wpText_yield1 (v := ?_) ?_ ?_ ?_)
                 rotate_left
                 · rfl
                 · (intro W hW; have kx0 := hW.has x0; have kx1 := hW.has x1; have kx2 := hW.has x2; have kx3 := hW.has x3; have kpe := hW.has pe; first | (go_simp; done) | (go_simp; with_reducible rfl))
                 simp only [Act.put, List.setIfInBounds_toArray, List.set_cons_zero, List.set_cons_succ]))
            refine wpText_do (.bool true) (by rfl) (fun W hW K hK => ?_) ?_
            ·
              have kx0 := hW.has x0
              have kx1 := hW.has x1
              have kx2 := hW.has x2
              have kx3 := hW.has x3
              have kpe := hW.has pe
              go_simp
              refine (isNomination_any n1 bk x _ (HB.out.gr ((hgr4).trans hW)) Hbo.out).mono ?_
              rintro e w' ⟨rfl, hg⟩
              rw [hv]
              exact hK _ (hW.trans hg)
            simp only [Act.put, List.setIfInBounds_toArray, List.set_cons_zero, List.set_cons_succ]
            repeat (first
              | ((with_reducible refine wpText_skip ?_ ?_)
                 · rfl
                 simp only [Act.put, List.setIfInBounds_toArray, List.set_cons_zero, List.set_cons_succ])
              | ((with_reducible refine wpText_yield (v := ?_) ?_ ?_ ?_)
                 rotate_left
                 · rfl
                 · (intro W hW; have kx0 := hW.has x0; have kx1 := hW.has x1; have kx2 := hW.has x2; have kx3 := hW.has x3; have kpe := hW.has pe; first | (go_simp; done) | (go_simp; with_reducible rfl))
                 simp only [Act.put, List.setIfInBounds_toArray, List.set_cons_zero, List.set_cons_succ])
              | ((with_reducible refine wpText_yield1 (v := ?_) ?_ ?_ ?_)
                 rotate_left
                 · rfl
                 · (intro W hW; have kx0 := hW.has x0; have kx1 := hW.has x1; have kx2 := hW.has x2; have kx3 := hW.has x3; have kpe := hW.has pe; first | (go_simp; done) | (go_simp; with_reducible rfl))
                 simp only [Act.put, List.setIfInBounds_toArray, List.set_cons_zero, List.set_cons_succ]))
            rintro w6 hS6
            have hgr6 := hgr4.trans hS6
            go_wp2_with fail
            go_roundw
            case rel => exact ⟨k + 1, by omega, by go_num, fun j hj => (by by_cases e : j = k; (· rw [e, Hna.out]; rw [hv, decide_eq_true (show p.sent ≤ x.sent by omega), Bool.or_true]; rfl); exact Hno.out j (by omega)), hgr6⟩
            case measure => simp [intOf]; omega
        · obtain rfl : k = 0 := by omega
          simp only [Nat.zero_mul, Nat.add_zero] at e0 e1 e2 e3
          go_upto_region 9 with fail
          obtain ⟨w4, hw4⟩ : ∃ W, W = wr.alloc (.cells #[.int .i64 x.contract, .int .i64 x.hour, .int .i64 x.sent, .int .i64 x.amount] 120) := ⟨_, rfl⟩
          have hg4 : Gr wr w4 := by rw [hw4]; exact (Gr.refl _).alloc _
          have x0 : w4.cell? ⟨wr.heap.size, 0, none⟩ = some (.int .i64 x.contract) := by rw [hw4]; simp [go_sem]
          have x1 : w4.cell? ⟨wr.heap.size, 1, none⟩ = some (.int .i64 x.hour) := by rw [hw4]; simp [go_sem]
          have x2 : w4.cell? ⟨wr.heap.size, 2, none⟩ = some (.int .i64 x.sent) := by rw [hw4]; simp [go_sem]
          have x3 : w4.cell? ⟨wr.heap.size, 3, none⟩ = some (.int .i64 x.amount) := by rw [hw4]; simp [go_sem]
          rw [← hw4]
          have hgr4 := hgr.trans hg4
          skip
          clear hw4 e0 e1 e2 e3
          go_wp2_with fail
          refine wp_region_text (fun w' => Gr w4 w') (by kernel_rfl) (by kernel_rfl) (by decide) (Gr.refl _).drew ?_
          repeat (first
            | ((with_reducible refine wpText_skip ?_ ?_)
               · rfl
               simp only [Act.put, List.setIfInBounds_toArray, List.set_cons_zero, List.set_cons_succ])
            | ((with_reducible refine wpText_yield (v := ?_) ?_ ?_ ?_)
               rotate_left
               · rfl
               · (intro W hW; have kx0 := hW.has x0; have kx1 := hW.has x1; have kx2 := hW.has x2; have kx3 := hW.has x3; first | (go_simp; done) | (go_simp; with_reducible rfl))
               simp only [Act.put, List.setIfInBounds_toArray, List.set_cons_zero, List.set_cons_succ])
            | ((with_reducible refine wpText_yield1 (v := ?_) ?_ ?_ ?_)
               rotate_left
               · rfl
               · (intro W hW; have kx0 := hW.has x0; have kx1 := hW.has x1; have kx2 := hW.has x2; have kx3 := hW.has x3; first | (go_simp; done) | (go_simp; with_reducible rfl))
               simp only [Act.put, List.setIfInBounds_toArray, List.set_cons_zero, List.set_cons_succ]))
          refine wpText_do (.bool true) (by rfl) (fun W hW K hK => ?_) ?_
          ·
            have kx0 := hW.has x0
            have kx1 := hW.has x1
            have kx2 := hW.has x2
            have kx3 := hW.has x3
            go_simp
            refine (isNomination_any n1 bk x _ (HB.out.gr ((hgr4).trans hW)) Hbo.out).mono ?_
            rintro e w' ⟨rfl, hg⟩
            rw [hv]
            exact hK _ (hW.trans hg)
          simp only [Act.put, List.setIfInBounds_toArray, List.set_cons_zero, List.set_cons_succ]
          repeat (first
            | ((with_reducible refine wpText_skip ?_ ?_)
               · rfl
               simp only [Act.put, List.setIfInBounds_toArray, List.set_cons_zero, List.set_cons_succ])
            | ((with_reducible refine wpText_yield (v := ?_) ?_ ?_ ?_)
               rotate_left
               · rfl
               · (intro W hW; have kx0 := hW.has x0; have kx1 := hW.has x1; have kx2 := hW.has x2; have kx3 := hW.has x3; first | (go_simp; done) | (go_simp; with_reducible rfl))
               simp only [Act.put, List.setIfInBounds_toArray, List.set_cons_zero, List.set_cons_succ])
            | ((with_reducible refine wpText_yield1 (v := ?_) ?_ ?_ ?_)
               rotate_left
               · rfl
               · (intro W hW; have kx0 := hW.has x0; have kx1 := hW.has x1; have kx2 := hW.has x2; have kx3 := hW.has x3; first | (go_simp; done) | (go_simp; with_reducible rfl))
               simp only [Act.put, List.setIfInBounds_toArray, List.set_cons_zero, List.set_cons_succ]))
          rintro w6 hS6
          have hgr6 := hgr4.trans hS6
          go_wp2_with fail
          go_roundw
          case rel => exact ⟨0 + 1, by omega, by go_num, fun j hj => (by by_cases e : j = 0; (· rw [e, Hna.out]; rw [hv]; rfl); exact Hno.out j (by omega)), hgr6⟩
          case measure => simp [intOf]; omega
    · obtain rfl : k = n4 := by omega
      have hgood : nomsOk bk l = true := nomsOk_good (by have := Hl4.out; omega) (by rw [Hl4.out]; exact Hno.out)
      have Hgood := Lib.hid hgood
      clear hgood
      go_wp2_with fail
      go_ret
      exact ⟨ret_int (by rw [nmCode, if_pos Hc.out, Hgood.out]; rfl), hgr⟩
set_option maxHeartbeats 6400000 in
set_option maxRecDepth 100000 in
theorem l21List_any {A3 A4 : Option Addr} {n3 c3 n4 c4 : Nat} (n1 : Int) (bk : List GCon) (l : List GNom) (w : World) (hB : SlAt w 8 A3 n3 c3 (bk.flatMap GCon.cells)) (hL : SlAt w 4 A4 n4 c4 (l.flatMap GNom.cells)) (hbo : bookOk n1 bk = true) :
    Calls Try.prog 101 #[.slice A3 n3 c3, .slice A4 n4 c4] w fun e w' => e = .returned (.bool (nomsOk bk l)) ∧ Gr w w' := by
  have hm3 := hB.small
  have hm4 := hL.small
  have hl4 := hL.sl.len GNom.cells_len (by omega)
  have HB := Lib.hid hB
  have HL := Lib.hid hL
  have Hl4 := Lib.hid hl4
  have Hbo := Lib.hid hbo
  clear hB hL hl4 hbo
  have hgw := Gr.refl w
  by_cases h : 200 < n4
  · go_enter Try.func101, Try.ntmps101
    go_wp2_with fail
    go_ret
    exact ⟨ret_bool (nomsOk_long (by rw [Hl4.out]; exact h)).symm, hgw⟩
  have t2 : decide ((200 : Int) < (n4 : Int)) = false := by simp; omega
  go_enter Try.func101, Try.ntmps101
  go_wp2_with fail
  go_loopw [5] (fun i wr => ∃ k : Nat, k ≤ n4 ∧ i = .int .i64 k ∧ (∀ j, j < k → nomAt bk l j = true) ∧ Gr w wr) (fun i _ => n4 - (intOf i).toNat)
  case atStart => exact ⟨0, Nat.zero_le _, rfl, fun j h => absurd h (by omega), hgw⟩
  case round =>
    obtain ⟨k, hk, rfl, hno, hgr⟩ := hrel
    have Hno := Lib.hid hno
    clear hno
    by_cases hlt : k < n4
    · obtain ⟨x, hx⟩ : ∃ x, l[k]? = some x := ⟨_, List.getElem?_eq_getElem (by have := Hl4.out; omega)⟩
      obtain ⟨b, o, hAA, hb, e0, e1, e2, e3⟩ := (HL.out.sl.gr hgr).nom hx
      have hgx : l.getD k GNom.d0 = x := by rw [List.getD_eq_getElem?_getD, hx]; rfl
      have t1 : (k : Int) < (n4 : Int) := by omega
      have t0 : (0 : Int) ≤ (k : Int) := by omega
      obtain ⟨m, hm⟩ : ∃ m, m = k - 1 := ⟨_, rfl⟩
      have tm1 : (m : Int) < (n4 : Int) := by omega
      have tm0 : (0 : Int) ≤ (m : Int) := by omega
      obtain ⟨p, hp⟩ : ∃ p, p = l.getD (k - 1) GNom.d0 := ⟨_, rfl⟩
      have hpe : 0 < k → wr.cell? ⟨b, o + m * 4 + 2, none⟩ = some (.int .i64 p.sent) := fun h => by
        have hx' : l[k - 1]? = some p := by rw [hp, List.getD_eq_getElem?_getD, List.getElem?_eq_getElem (show k - 1 < l.length by have := Hl4.out; omega)]; rfl
        obtain ⟨b2, o2, hAA2, _, _, _, g2, _⟩ := (HL.out.sl.gr hgr).nom hx'
        rw [hAA] at hAA2
        injection hAA2 with h1
        injection h1 with h2 h3
        subst h2; subst h3
        rw [hm]; exact g2
      have hna : nomAt bk l k = (nomOk bk x && (decide (k = 0) || decide (p.sent ≤ x.sent))) := by rw [nomAt, hgx, hp]
      subst hAA
      have Hna := Lib.hid hna
      have Hm := Lib.hid hm
      clear hx hgx hp hna hm
      cases hv : nomOk bk x with
      | false =>
        by_cases hk0 : 0 < k
        · have tk : decide ((0 : Int) < (k : Int)) = true := by simp; omega
          have hgr4 := hgr
          have hwk : IntKind.i64.wrap ((k : Int) - 1) = (m : Int) := by have := Hm.out; rw [IntWalk.i64_in _ (by omega)]; omega
          have pe := hpe hk0
          go_wp2_with fail
          refine wp_region_text (fun w' => Gr wr w') (by kernel_rfl) (by kernel_rfl) (by decide) (Gr.refl _).drew ?_
          repeat (first
            | ((with_reducible refine wpText_skip ?_ ?_)
               · rfl
               simp only [Act.put, List.setIfInBounds_toArray, List.set_cons_zero, List.set_cons_succ])
            | ((with_reducible refine wpText_yield (v := ?_) ?_ ?_ ?_)
               rotate_left
               · rfl
               · (intro W hW; have ke0 := hW.has e0; have ke1 := hW.has e1; have ke2 := hW.has e2; have ke3 := hW.has e3; have kpe := hW.has pe; first | (go_simp; done) | (go_simp; with_reducible rfl))
               simp only [Act.put, List.setIfInBounds_toArray, List.set_cons_zero, List.set_cons_succ])
            | ((with_reducible refine wpText_yield1 (v := ?_) ?_ ?_ ?_)
               rotate_left
               · rfl
               · (intro W hW; have ke0 := hW.has e0; have ke1 := hW.has e1; have ke2 := hW.has e2; have ke3 := hW.has e3; have kpe := hW.has pe; first | (go_simp; done) | (go_simp; with_reducible rfl))
               simp only [Act.put, List.setIfInBounds_toArray, List.set_cons_zero, List.set_cons_succ]))
          refine wpText_do (.bool false) (by rfl) (fun W hW K hK => ?_) ?_
          ·
            have ke0 := hW.has e0
            have ke1 := hW.has e1
            have ke2 := hW.has e2
            have ke3 := hW.has e3
            have kpe := hW.has pe
            go_simp
            refine (l21Is_any n1 bk x _ (HB.out.gr ((hgr4).trans hW)) Hbo.out).mono ?_
            rintro e w' ⟨rfl, hg⟩
            rw [hv]
            exact hK _ (hW.trans hg)
          simp only [Act.put, List.setIfInBounds_toArray, List.set_cons_zero, List.set_cons_succ]
          repeat (first
            | ((with_reducible refine wpText_skip ?_ ?_)
               · rfl
               simp only [Act.put, List.setIfInBounds_toArray, List.set_cons_zero, List.set_cons_succ])
            | ((with_reducible refine wpText_yield (v := ?_) ?_ ?_ ?_)
               rotate_left
               · rfl
               · (intro W hW; have ke0 := hW.has e0; have ke1 := hW.has e1; have ke2 := hW.has e2; have ke3 := hW.has e3; have kpe := hW.has pe; first | (go_simp; done) | (go_simp; with_reducible rfl))
               simp only [Act.put, List.setIfInBounds_toArray, List.set_cons_zero, List.set_cons_succ])
            | ((with_reducible refine wpText_yield1 (v := ?_) ?_ ?_ ?_)
               rotate_left
               · rfl
               · (intro W hW; have ke0 := hW.has e0; have ke1 := hW.has e1; have ke2 := hW.has e2; have ke3 := hW.has e3; have kpe := hW.has pe; first | (go_simp; done) | (go_simp; with_reducible rfl))
               simp only [Act.put, List.setIfInBounds_toArray, List.set_cons_zero, List.set_cons_succ]))
          rintro w6 hS6
          have hgr6 := hgr4.trans hS6
          go_wp2_with fail
          go_ret
          have hbad : nomsOk bk l = false := nomsOk_bad (k := k) (by have := Hl4.out; omega) (by rw [Hna.out]; rw [hv]; rfl)
          exact ⟨ret_bool hbad.symm, hgr6⟩
        · obtain rfl : k = 0 := by omega
          simp only [Nat.zero_mul, Nat.add_zero] at e0 e1 e2 e3
          have hgr4 := hgr
          skip
          go_wp2_with fail
          refine wp_region_text (fun w' => Gr wr w') (by kernel_rfl) (by kernel_rfl) (by decide) (Gr.refl _).drew ?_
          repeat (first
            | ((with_reducible refine wpText_skip ?_ ?_)
               · rfl
               simp only [Act.put, List.setIfInBounds_toArray, List.set_cons_zero, List.set_cons_succ])
            | ((with_reducible refine wpText_yield (v := ?_) ?_ ?_ ?_)
               rotate_left
               · rfl
               · (intro W hW; have ke0 := hW.has e0; have ke1 := hW.has e1; have ke2 := hW.has e2; have ke3 := hW.has e3; first | (go_simp; done) | (go_simp; with_reducible rfl))
               simp only [Act.put, List.setIfInBounds_toArray, List.set_cons_zero, List.set_cons_succ])
            | ((with_reducible refine wpText_yield1 (v := ?_) ?_ ?_ ?_)
               rotate_left
               · rfl
               · (intro W hW; have ke0 := hW.has e0; have ke1 := hW.has e1; have ke2 := hW.has e2; have ke3 := hW.has e3; first | (go_simp; done) | (go_simp; with_reducible rfl))
               simp only [Act.put, List.setIfInBounds_toArray, List.set_cons_zero, List.set_cons_succ]))
          refine wpText_do (.bool false) (by rfl) (fun W hW K hK => ?_) ?_
          ·
            have ke0 := hW.has e0
            have ke1 := hW.has e1
            have ke2 := hW.has e2
            have ke3 := hW.has e3
            go_simp
            refine (l21Is_any n1 bk x _ (HB.out.gr ((hgr4).trans hW)) Hbo.out).mono ?_
            rintro e w' ⟨rfl, hg⟩
            rw [hv]
            exact hK _ (hW.trans hg)
          simp only [Act.put, List.setIfInBounds_toArray, List.set_cons_zero, List.set_cons_succ]
          repeat (first
            | ((with_reducible refine wpText_skip ?_ ?_)
               · rfl
               simp only [Act.put, List.setIfInBounds_toArray, List.set_cons_zero, List.set_cons_succ])
            | ((with_reducible refine wpText_yield (v := ?_) ?_ ?_ ?_)
               rotate_left
               · rfl
               · (intro W hW; have ke0 := hW.has e0; have ke1 := hW.has e1; have ke2 := hW.has e2; have ke3 := hW.has e3; first | (go_simp; done) | (go_simp; with_reducible rfl))
               simp only [Act.put, List.setIfInBounds_toArray, List.set_cons_zero, List.set_cons_succ])
            | ((with_reducible refine wpText_yield1 (v := ?_) ?_ ?_ ?_)
               rotate_left
               · rfl
               · (intro W hW; have ke0 := hW.has e0; have ke1 := hW.has e1; have ke2 := hW.has e2; have ke3 := hW.has e3; first | (go_simp; done) | (go_simp; with_reducible rfl))
               simp only [Act.put, List.setIfInBounds_toArray, List.set_cons_zero, List.set_cons_succ]))
          rintro w6 hS6
          have hgr6 := hgr4.trans hS6
          go_wp2_with fail
          go_ret
          have hbad : nomsOk bk l = false := nomsOk_bad (k := 0) (by have := Hl4.out; omega) (by rw [Hna.out]; rw [hv]; rfl)
          exact ⟨ret_bool hbad.symm, hgr6⟩
      | true =>
        by_cases hk0 : 0 < k
        · have tk : decide ((0 : Int) < (k : Int)) = true := by simp; omega
          have tk' : (0 : Int) < (k : Int) := by omega
          by_cases hc : x.sent < p.sent
          · have tc : decide (x.sent < p.sent) = true := decide_eq_true hc
            have hgr4 := hgr
            have hwk : IntKind.i64.wrap ((k : Int) - 1) = (m : Int) := by have := Hm.out; rw [IntWalk.i64_in _ (by omega)]; omega
            have pe := hpe hk0
            go_wp2_with fail
            refine wp_region_text (fun w' => Gr wr w') (by kernel_rfl) (by kernel_rfl) (by decide) (Gr.refl _).drew ?_
            repeat (first
              | ((with_reducible refine wpText_skip ?_ ?_)
                 · rfl
                 simp only [Act.put, List.setIfInBounds_toArray, List.set_cons_zero, List.set_cons_succ])
              | ((with_reducible refine wpText_yield (v := ?_) ?_ ?_ ?_)
                 rotate_left
                 · rfl
                 · (intro W hW; have ke0 := hW.has e0; have ke1 := hW.has e1; have ke2 := hW.has e2; have ke3 := hW.has e3; have kpe := hW.has pe; first | (go_simp; done) | (go_simp; with_reducible rfl))
                 simp only [Act.put, List.setIfInBounds_toArray, List.set_cons_zero, List.set_cons_succ])
              | ((with_reducible refine wpText_yield1 (v := ?_) ?_ ?_ ?_)
                 rotate_left
                 · rfl
                 · (intro W hW; have ke0 := hW.has e0; have ke1 := hW.has e1; have ke2 := hW.has e2; have ke3 := hW.has e3; have kpe := hW.has pe; first | (go_simp; done) | (go_simp; with_reducible rfl))
                 simp only [Act.put, List.setIfInBounds_toArray, List.set_cons_zero, List.set_cons_succ]))
            refine wpText_do (.bool true) (by rfl) (fun W hW K hK => ?_) ?_
            ·
              have ke0 := hW.has e0
              have ke1 := hW.has e1
              have ke2 := hW.has e2
              have ke3 := hW.has e3
              have kpe := hW.has pe
              go_simp
              refine (l21Is_any n1 bk x _ (HB.out.gr ((hgr4).trans hW)) Hbo.out).mono ?_
              rintro e w' ⟨rfl, hg⟩
              rw [hv]
              exact hK _ (hW.trans hg)
            simp only [Act.put, List.setIfInBounds_toArray, List.set_cons_zero, List.set_cons_succ]
            repeat (first
              | ((with_reducible refine wpText_skip ?_ ?_)
                 · rfl
                 simp only [Act.put, List.setIfInBounds_toArray, List.set_cons_zero, List.set_cons_succ])
              | ((with_reducible refine wpText_yield (v := ?_) ?_ ?_ ?_)
                 rotate_left
                 · rfl
                 · (intro W hW; have ke0 := hW.has e0; have ke1 := hW.has e1; have ke2 := hW.has e2; have ke3 := hW.has e3; have kpe := hW.has pe; first | (go_simp; done) | (go_simp; with_reducible rfl))
                 simp only [Act.put, List.setIfInBounds_toArray, List.set_cons_zero, List.set_cons_succ])
              | ((with_reducible refine wpText_yield1 (v := ?_) ?_ ?_ ?_)
                 rotate_left
                 · rfl
                 · (intro W hW; have ke0 := hW.has e0; have ke1 := hW.has e1; have ke2 := hW.has e2; have ke3 := hW.has e3; have kpe := hW.has pe; first | (go_simp; done) | (go_simp; with_reducible rfl))
                 simp only [Act.put, List.setIfInBounds_toArray, List.set_cons_zero, List.set_cons_succ]))
            rintro w6 hS6
            have hgr6 := hgr4.trans hS6
            go_wp2_with fail
            go_ret
            have hbad : nomsOk bk l = false := nomsOk_bad (k := k) (by have := Hl4.out; omega) (by rw [Hna.out]; rw [hv, decide_eq_false (show ¬ k = 0 by omega), decide_eq_false (show ¬ p.sent ≤ x.sent by omega)]; rfl)
            exact ⟨ret_bool hbad.symm, hgr6⟩
          · have tc : decide (x.sent < p.sent) = false := decide_eq_false hc
            have hgr4 := hgr
            have hwk : IntKind.i64.wrap ((k : Int) - 1) = (m : Int) := by have := Hm.out; rw [IntWalk.i64_in _ (by omega)]; omega
            have pe := hpe hk0
            go_wp2_with fail
            refine wp_region_text (fun w' => Gr wr w') (by kernel_rfl) (by kernel_rfl) (by decide) (Gr.refl _).drew ?_
            repeat (first
              | ((with_reducible refine wpText_skip ?_ ?_)
                 · rfl
                 simp only [Act.put, List.setIfInBounds_toArray, List.set_cons_zero, List.set_cons_succ])
              | ((with_reducible refine wpText_yield (v := ?_) ?_ ?_ ?_)
                 rotate_left
                 · rfl
                 · (intro W hW; have ke0 := hW.has e0; have ke1 := hW.has e1; have ke2 := hW.has e2; have ke3 := hW.has e3; have kpe := hW.has pe; first | (go_simp; done) | (go_simp; with_reducible rfl))
                 simp only [Act.put, List.setIfInBounds_toArray, List.set_cons_zero, List.set_cons_succ])
              | ((with_reducible refine wpText_yield1 (v := ?_) ?_ ?_ ?_)
                 rotate_left
                 · rfl
                 · (intro W hW; have ke0 := hW.has e0; have ke1 := hW.has e1; have ke2 := hW.has e2; have ke3 := hW.has e3; have kpe := hW.has pe; first | (go_simp; done) | (go_simp; with_reducible rfl))
                 simp only [Act.put, List.setIfInBounds_toArray, List.set_cons_zero, List.set_cons_succ]))
            refine wpText_do (.bool true) (by rfl) (fun W hW K hK => ?_) ?_
            ·
              have ke0 := hW.has e0
              have ke1 := hW.has e1
              have ke2 := hW.has e2
              have ke3 := hW.has e3
              have kpe := hW.has pe
              go_simp
              refine (l21Is_any n1 bk x _ (HB.out.gr ((hgr4).trans hW)) Hbo.out).mono ?_
              rintro e w' ⟨rfl, hg⟩
              rw [hv]
              exact hK _ (hW.trans hg)
            simp only [Act.put, List.setIfInBounds_toArray, List.set_cons_zero, List.set_cons_succ]
            repeat (first
              | ((with_reducible refine wpText_skip ?_ ?_)
                 · rfl
                 simp only [Act.put, List.setIfInBounds_toArray, List.set_cons_zero, List.set_cons_succ])
              | ((with_reducible refine wpText_yield (v := ?_) ?_ ?_ ?_)
                 rotate_left
                 · rfl
                 · (intro W hW; have ke0 := hW.has e0; have ke1 := hW.has e1; have ke2 := hW.has e2; have ke3 := hW.has e3; have kpe := hW.has pe; first | (go_simp; done) | (go_simp; with_reducible rfl))
                 simp only [Act.put, List.setIfInBounds_toArray, List.set_cons_zero, List.set_cons_succ])
              | ((with_reducible refine wpText_yield1 (v := ?_) ?_ ?_ ?_)
                 rotate_left
                 · rfl
                 · (intro W hW; have ke0 := hW.has e0; have ke1 := hW.has e1; have ke2 := hW.has e2; have ke3 := hW.has e3; have kpe := hW.has pe; first | (go_simp; done) | (go_simp; with_reducible rfl))
                 simp only [Act.put, List.setIfInBounds_toArray, List.set_cons_zero, List.set_cons_succ]))
            rintro w6 hS6
            have hgr6 := hgr4.trans hS6
            go_wp2_with fail
            go_roundw
            case rel => exact ⟨k + 1, by omega, by go_num, fun j hj => (by by_cases e : j = k; (· rw [e, Hna.out]; rw [hv, decide_eq_true (show p.sent ≤ x.sent by omega), Bool.or_true]; rfl); exact Hno.out j (by omega)), hgr6⟩
            case measure => simp [intOf]; omega
        · obtain rfl : k = 0 := by omega
          simp only [Nat.zero_mul, Nat.add_zero] at e0 e1 e2 e3
          have hgr4 := hgr
          skip
          go_wp2_with fail
          refine wp_region_text (fun w' => Gr wr w') (by kernel_rfl) (by kernel_rfl) (by decide) (Gr.refl _).drew ?_
          repeat (first
            | ((with_reducible refine wpText_skip ?_ ?_)
               · rfl
               simp only [Act.put, List.setIfInBounds_toArray, List.set_cons_zero, List.set_cons_succ])
            | ((with_reducible refine wpText_yield (v := ?_) ?_ ?_ ?_)
               rotate_left
               · rfl
               · (intro W hW; have ke0 := hW.has e0; have ke1 := hW.has e1; have ke2 := hW.has e2; have ke3 := hW.has e3; first | (go_simp; done) | (go_simp; with_reducible rfl))
               simp only [Act.put, List.setIfInBounds_toArray, List.set_cons_zero, List.set_cons_succ])
            | ((with_reducible refine wpText_yield1 (v := ?_) ?_ ?_ ?_)
               rotate_left
               · rfl
               · (intro W hW; have ke0 := hW.has e0; have ke1 := hW.has e1; have ke2 := hW.has e2; have ke3 := hW.has e3; first | (go_simp; done) | (go_simp; with_reducible rfl))
               simp only [Act.put, List.setIfInBounds_toArray, List.set_cons_zero, List.set_cons_succ]))
          refine wpText_do (.bool true) (by rfl) (fun W hW K hK => ?_) ?_
          ·
            have ke0 := hW.has e0
            have ke1 := hW.has e1
            have ke2 := hW.has e2
            have ke3 := hW.has e3
            go_simp
            refine (l21Is_any n1 bk x _ (HB.out.gr ((hgr4).trans hW)) Hbo.out).mono ?_
            rintro e w' ⟨rfl, hg⟩
            rw [hv]
            exact hK _ (hW.trans hg)
          simp only [Act.put, List.setIfInBounds_toArray, List.set_cons_zero, List.set_cons_succ]
          repeat (first
            | ((with_reducible refine wpText_skip ?_ ?_)
               · rfl
               simp only [Act.put, List.setIfInBounds_toArray, List.set_cons_zero, List.set_cons_succ])
            | ((with_reducible refine wpText_yield (v := ?_) ?_ ?_ ?_)
               rotate_left
               · rfl
               · (intro W hW; have ke0 := hW.has e0; have ke1 := hW.has e1; have ke2 := hW.has e2; have ke3 := hW.has e3; first | (go_simp; done) | (go_simp; with_reducible rfl))
               simp only [Act.put, List.setIfInBounds_toArray, List.set_cons_zero, List.set_cons_succ])
            | ((with_reducible refine wpText_yield1 (v := ?_) ?_ ?_ ?_)
               rotate_left
               · rfl
               · (intro W hW; have ke0 := hW.has e0; have ke1 := hW.has e1; have ke2 := hW.has e2; have ke3 := hW.has e3; first | (go_simp; done) | (go_simp; with_reducible rfl))
               simp only [Act.put, List.setIfInBounds_toArray, List.set_cons_zero, List.set_cons_succ]))
          rintro w6 hS6
          have hgr6 := hgr4.trans hS6
          go_wp2_with fail
          go_roundw
          case rel => exact ⟨0 + 1, by omega, by go_num, fun j hj => (by by_cases e : j = 0; (· rw [e, Hna.out]; rw [hv]; rfl); exact Hno.out j (by omega)), hgr6⟩
          case measure => simp [intOf]; omega
    · obtain rfl : k = n4 := by omega
      have hgood : nomsOk bk l = true := nomsOk_good (by have := Hl4.out; omega) (by rw [Hl4.out]; exact Hno.out)
      have Hgood := Lib.hid hgood
      clear hgood
      go_wp2_with fail
      go_ret
      exact ⟨ret_bool Hgood.out.symm, hgr⟩
theorem l21Code_any {A1 A2 A3 A4 : Option Addr} {n1 c1 n2 c2 n3 c3 n4 c4 : Nat} (n : GNet) (bk : List GCon) (l : List GNom) (w : World) (hA : NetAt w A1 n1 c1 A2 n2 c2 n) (hB : SlAt w 8 A3 n3 c3 (bk.flatMap GCon.cells)) (hL : SlAt w 4 A4 n4 c4 (l.flatMap GNom.cells)) :
    Calls Try.prog 70 #[.agg #[.slice A1 n1 c1, .slice A2 n2 c2], .slice A3 n3 c3, .slice A4 n4 c4] w fun e w' => e = .returned (.int .i64 (nmCode n bk l)) ∧ Gr w w' := by
  have hl1 := hA.l1
  have HA := Lib.hid hA
  have HB := Lib.hid hB
  have HL := Lib.hid hL
  clear hA hB hL
  go_enter Try.func70, Try.ntmps70
  go_wp2_with fail
  refine (l20Code_any n bk _ (HA.out.gr ((Gr.refl _).alloc _)) (HB.out.gr ((Gr.refl _).alloc _))).mono ?_
  rintro e w1 ⟨rfl, hg1⟩
  have hgw : Gr w w1 := ((Gr.refl _).alloc _).trans hg1
  clear hg1
  by_cases hc : coCode n bk = 0
  · have Hc := Lib.hid hc
    have hbo : bookOk n1 bk = true := by rw [← hl1]; exact (coCode_zero hc).2
    have tb : (coCode n bk == 0) = true := by simp [hc]
    clear hc hl1
    go_wp2_with fail
    refine (l21List_any n1 bk l _ (HB.out.gr hgw) (HL.out.gr hgw) hbo).mono ?_
    rintro e w2 ⟨rfl, hg2⟩
    cases hv : nomsOk bk l with
    | true =>
      have Hv := Lib.hid hv
      clear hv
      go_wp2_with fail
      go_ret
      exact ⟨ret_int (by rw [nmCode, if_pos Hc.out, Hv.out]; exact Hc.out), hgw.trans hg2⟩
    | false =>
      have Hv := Lib.hid hv
      clear hv
      go_wp2_with fail
      go_ret
      exact ⟨ret_int (by rw [nmCode, if_pos Hc.out, Hv.out]; rfl), hgw.trans hg2⟩
  · have Hc := Lib.hid hc
    have tb : (coCode n bk == 0) = false := by simp [hc]
    clear hc
    go_wp2_with fail
    go_ret
    exact ⟨ret_int (by rw [nmCode, if_neg Hc.out]), hgw⟩
end Go.Proofs.Ytelhmfgfjlpkaaa
