/-
  Flow lists: limits, balance, supplies, transits. Printed by gen_out2.py.
-/
import Derived.Test.YtbbecboihmmllaaOut
import Derived.BigRegion
import Derived.Test.YtbbecboihmmllaaLawKs
import Derived.Deep.CutRange
set_option linter.unusedSimpArgs false
set_option linter.unusedVariables false
namespace Go.Proofs.Ytbbecboihmmllaa
open Go.ChangeShapes Go.WideShapes Go.ChangeAt Go.RowKit

def sgO (a : Int) : Int := if a < 0 then -1 else 1
theorem absO_any (a : Int) (w : World) (h : -1000000000000000 ≤ a ∧ a ≤ 1000000000000000) : Calls Try.prog 34 #[.int .i64 a] w fun e w' => e = .returned (.int .i64 (sgO a * a)) ∧ w = w' := by
  by_cases h0 : a < 0
  · have e : -a = sgO a * a := by rw [sgO, if_pos h0]; omega
    have E := Lib.hid e
    clear e
    go_enter Try.func34, Try.ntmps34
    go_wp2_with fail
    go_ret
    exact ⟨ret_int E.out, rfl⟩
  · have e : a = sgO a * a := by rw [sgO, if_neg h0]; omega
    have E := Lib.hid e
    clear e
    go_enter Try.func34, Try.ntmps34
    go_wp2_with fail
    go_ret
    exact ⟨ret_int E.out, rfl⟩
theorem abs_lim {x l : Int} : l < sgO x * x ↔ ¬ (-l ≤ x ∧ x ≤ l) := by
  unfold sgO
  split <;> omega
theorem outL_len2 (n : GNet) (fl : List Int) : (outL n fl).length = n.nodes.length := by simp [outL]
set_option maxHeartbeats 3200000 in
set_option maxRecDepth 100000 in
theorem KeepsLimits_any {A1 A2 A3 : Option Addr} {n1 c1 n2 c2 n3 c3 : Nat} (n : GNet) (fl : List Int) (w : World) (hA : NetAt w A1 n1 c1 A2 n2 c2 n) (hS : SlAt w 1 A3 n3 c3 (ints fl)) :
    Calls Try.prog 13 #[.agg #[.slice A1 n1 c1, .slice A2 n2 c2], .slice A3 n3 c3] w fun e w' => e = .returned (.bool (klB n fl)) ∧ Gr w w' := by
  have hm1 := hA.m1
  have hm2 := hA.m2
  have hl1 := hA.l1
  have hl2 := hA.l2
  have hlen := hS.sl.ilen
  have HA := Lib.hid hA
  have HS := Lib.hid hS
  have Hl1 := Lib.hid hl1
  have Hl2 := Lib.hid hl2
  clear hA hS hl1 hl2
  go_enter Try.func13, Try.ntmps13
  go_wp2_with fail
  refine (IsNetwork_any _ _ _ _ _ _ n _ (HA.out.gr ((Gr.refl _).alloc _))).mono ?_
  rintro e w1 ⟨rfl, hg1⟩
  have hg0 : Gr w w1 := ((Gr.refl _).alloc _).trans hg1
  have b0 : w1.cell? ⟨w.heap.size, 0, none⟩ = some (.slice A1 n1 c1) := hg1.has (by simp [go_sem])
  have b1 : w1.cell? ⟨w.heap.size, 1, none⟩ = some (.slice A2 n2 c2) := hg1.has (by simp [go_sem])
  clear hg1
  cases hn : netOk n with
  | false =>
    have Hn := Lib.hid hn
    go_wp2_with fail
    go_ret
    exact ⟨ret_bool (by rw [klB, Hn.out]; rfl), hg0⟩
  | true =>
    have Hn := Lib.hid hn
    go_wp2_with fail
    refine (isFlowList_any fl _ (HS.out.gr hg0) hm2).mono ?_
    rintro e w2 ⟨rfl, hg2⟩
    have hgw : Gr w w2 := hg0.trans hg2
    have c0 := hg2.has b0
    have c1' := hg2.has b1
    have e2 : flOk n fl = supOk n2 fl := by rw [flOk, Hl2.out]
    cases hs : supOk n2 fl with
    | false =>
      have Hs : Hid (flOk n fl = false) := Lib.hid (e2.trans hs)
      clear e2 hs
      go_wp2_with fail
      go_ret
      exact ⟨ret_bool (by rw [klB, Hn.out, Hs.out]; rfl), hgw⟩
    | true =>
      have Hf : Hid (flOk n fl = true) := Lib.hid (e2.trans hs)
      have hfl : fl.length = n2 := by have := (flOk_all Hf.out).1; have := Hl2.out; omega
      obtain rfl : n2 = n3 := by omega
      clear e2 hs
      go_wp2_with fail
      go_loopw [19] (fun i wr => ∃ k : Nat, k ≤ n2 ∧ i = .int .i64 k ∧ (∀ j, j < k → ovAt n fl j = false) ∧ Gr w wr) (fun i _ => n2 - (intOf i).toNat)
      case atStart => exact ⟨0, Nat.zero_le _, rfl, fun j h => absurd h (by omega), hgw⟩
      case round =>
        obtain ⟨k, hk, rfl, hno, hgr⟩ := hrel
        have Hno := Lib.hid hno
        clear hno
        by_cases hlt : k < n2
        · obtain ⟨p, hp⟩ : ∃ p, n.pipes[k]? = some p := ⟨_, List.getElem?_eq_getElem (by have := Hl2.out; omega)⟩
          obtain ⟨x, hx⟩ : ∃ x, fl[k]? = some x := ⟨_, List.getElem?_eq_getElem (by omega)⟩
          obtain ⟨b, o, hAA, hb, e0, e1, e2, e3, e4⟩ := (HA.out.gr hgr).pipes.pp hp
          subst hAA
          obtain ⟨b', o', hAA, hb', x0⟩ := (HS.out.gr hgr).sl.int hx
          subst hAA
          have hxb : -30000 ≤ x ∧ x ≤ 30000 := (flOk_all Hf.out).2 x (List.mem_of_getElem? hx)
          have hov : ovAt n fl k = decide (p.lim < sgO x * x) := by
            have e1 : n.pipes.getD k dP = p := by rw [List.getD_eq_getElem?_getD, hp]; rfl
            have e2 : fl.getD k 0 = x := by rw [List.getD_eq_getElem?_getD, hx]; rfl
            rw [ovAt, e1, e2, Bool.eq_iff_iff, Bool.not_eq_true', decide_eq_false_iff_not, decide_eq_true_eq]
            exact abs_lim.symm
          have Hov := Lib.hid hov
          have t1 : (k : Int) < (n2 : Int) := by omega
          have t0 : (0 : Int) ≤ (k : Int) := by omega
          clear hp hx hov
          go_upto_region 6 with fail
          obtain ⟨w4, hw4⟩ : ∃ W, W = wr.alloc (.cells #[.int .i64 p.src, .int .i64 p.dst, .int .i64 p.k, .int .i64 p.vol, .int .i64 p.lim] 59) := ⟨_, rfl⟩
          have hg4 : Gr wr w4 := by rw [hw4]; exact (Gr.refl _).alloc _
          have x4 : w4.cell? ⟨wr.heap.size, 4, none⟩ = some (.int .i64 p.lim) := by rw [hw4]; simp [go_sem]
          have x5 := hg4.has x0
          rw [← hw4]
          have hgr4 := hgr.trans hg4
          clear hw4 e0 e1 e2 e3 e4 x0
          go_wp2_with fail
          refine wp_region_text (fun w' => Gr w4 w' ∧ w'.cell? ⟨wr.heap.size, 4, none⟩ = some (.int .i64 p.lim) ∧ w'.cell? ⟨b', o' + k, none⟩ = some (.int .i64 x)) (by kernel_rfl) (by kernel_rfl) (by decide) ⟨(Gr.refl _).drew, x4, x5⟩ ?_
          repeat (first
            | ((with_reducible refine wpText_skip ?_ ?_)
               · rfl
               simp only [Act.put, List.setIfInBounds_toArray, List.set_cons_zero, List.set_cons_succ])
            | ((with_reducible refine wpText_yield (v := ?_) ?_ ?_ ?_)
               rotate_left
               · rfl
               · (intro W hW; obtain ⟨hWg, hW0, hW1⟩ := hW; first | (go_simp; done) | (go_simp; with_reducible rfl))
               simp only [Act.put, List.setIfInBounds_toArray, List.set_cons_zero, List.set_cons_succ])
            | ((with_reducible refine wpText_yield1 (v := ?_) ?_ ?_ ?_)
               rotate_left
               · rfl
               · (intro W hW; obtain ⟨hWg, hW0, hW1⟩ := hW; first | (go_simp; done) | (go_simp; with_reducible rfl))
               simp only [Act.put, List.setIfInBounds_toArray, List.set_cons_zero, List.set_cons_succ]))
          refine wpText_do (.int .i64 (sgO x * x)) (by rfl) (fun W hW K hK => ?_) ?_
          · obtain ⟨hWg, hW0, hW1⟩ := hW
            go_simp
            refine (absO_any x _ (by omega)).mono ?_
            rintro e w' ⟨rfl, rfl⟩
            exact hK _ ⟨hWg, hW0, hW1⟩
          simp only [Act.put, List.setIfInBounds_toArray, List.set_cons_zero, List.set_cons_succ]
          repeat (first
            | ((with_reducible refine wpText_skip ?_ ?_)
               · rfl
               simp only [Act.put, List.setIfInBounds_toArray, List.set_cons_zero, List.set_cons_succ])
            | ((with_reducible refine wpText_yield (v := ?_) ?_ ?_ ?_)
               rotate_left
               · rfl
               · (intro W hW; obtain ⟨hWg, hW0, hW1⟩ := hW; first | (go_simp; done) | (go_simp; with_reducible rfl))
               simp only [Act.put, List.setIfInBounds_toArray, List.set_cons_zero, List.set_cons_succ])
            | ((with_reducible refine wpText_yield1 (v := ?_) ?_ ?_ ?_)
               rotate_left
               · rfl
               · (intro W hW; obtain ⟨hWg, hW0, hW1⟩ := hW; first | (go_simp; done) | (go_simp; with_reducible rfl))
               simp only [Act.put, List.setIfInBounds_toArray, List.set_cons_zero, List.set_cons_succ]))
          rintro w6 ⟨hS6, -, -⟩
          have hgr6 := hgr4.trans hS6
          clear x4 x5 hgr4
          by_cases hq : p.lim < sgO x * x
          · have tq : decide (p.lim < sgO x * x) = true := by simp [hq]
            have Hq : Hid (ovAt n fl k = true) := Lib.hid (Hov.out.trans tq)
            (try have hq := Int.not_lt.1 hq)
            go_wp2_with fail
            go_ret
            refine ⟨ret_bool ?_, hgr6⟩
            have hl : limOk n fl = false := by
              rw [limOk, List.all_eq_false]
              refine ⟨k, List.mem_range.2 (by have := Hl2.out; omega), ?_⟩
              have := Hq.out
              rw [ovAt, Bool.not_eq_true'] at this
              intro hd
              exact Bool.noConfusion (this.symm.trans hd)
            rw [klB, hl]; simp
          · have tq : decide (p.lim < sgO x * x) = false := by simp [hq]
            have Hq : Hid (ovAt n fl k = false) := Lib.hid (Hov.out.trans tq)
            (try have hq := Int.not_lt.1 hq)
            go_wp2_with fail
            go_roundw
            case rel => exact ⟨k + 1, by omega, by go_num, fun j hj => (by by_cases e : j = k; (· subst e; exact Hq.out); exact Hno.out j (by omega)), hgr6⟩
            case measure => simp [intOf]; omega
        · obtain rfl : k = n2 := by omega
          go_wp2_with fail
          go_ret
          refine ⟨ret_bool ?_, hgr⟩
          have hl : limOk n fl = true := by
            rw [limOk, List.all_eq_true]
            intro j hj
            have := Hno.out j (by have := List.mem_range.1 hj; have := Hl2.out; omega)
            rw [ovAt, Bool.not_eq_false'] at this
            exact this
          rw [klB, Hn.out, Hf.out, hl]; rfl
end Go.Proofs.Ytbbecboihmmllaa
