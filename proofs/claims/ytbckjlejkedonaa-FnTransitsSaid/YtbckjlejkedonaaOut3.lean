/-
  Transits of both sides. Printed by gen_out2.py.
-/
import Derived.Test.YtbckjlejkedonaaOut2
set_option linter.unusedSimpArgs false
set_option linter.unusedVariables false
namespace Go.Proofs.Ytbckjlejkedonaa
open Go.ChangeShapes Go.WideShapes Go.ChangeAt Go.RowKit

set_option maxHeartbeats 3200000 in
set_option maxRecDepth 100000 in
theorem TransitOf_any {A1 A2 A3 : Option Addr} {n1 c1 n2 c2 n3 c3 : Nat} (n : GNet) (fl : List Int) (v : Int) (w : World) (hA : NetAt w A1 n1 c1 A2 n2 c2 n) (hS : SlAt w 1 A3 n3 c3 (ints fl)) :
    Calls Try.prog 44 #[.agg #[.slice A1 n1 c1, .slice A2 n2 c2], .slice A3 n3 c3, .int .i64 v] w fun e w' => e = .returned (.tuple #[.int .i64 (toVal n fl v), .int .i64 (toCode n fl v)]) ∧ Gr w w' := by
  have hm1 := hA.m1
  have hm2 := hA.m2
  have hl1 := hA.l1
  have hl2 := hA.l2
  have hlen := hS.sl.ilen
  have HA := Lib.hid hA
  have HS := Lib.hid hS
  have Hl1 := Lib.hid hl1
  have Hl2 := Lib.hid hl2
  clear hA hS hl1 hl2
  go_enter Try.func44, Try.ntmps44
  go_wp2_with fail
  refine (checkFlows_any n fl _ (HA.out.gr ((Gr.refl _).alloc _)) (HS.out.gr ((Gr.refl _).alloc _))).mono ?_
  rintro e w1 ⟨rfl, hg1⟩
  have hg0 : Gr w w1 := ((Gr.refl _).alloc _).trans hg1
  have b0 : w1.cell? ⟨w.heap.size, 0, none⟩ = some (.slice A1 n1 c1) := hg1.has (by simp [go_sem])
  have b1 : w1.cell? ⟨w.heap.size, 1, none⟩ = some (.slice A2 n2 c2) := hg1.has (by simp [go_sem])
  clear hg1
  by_cases hc : flCode n fl = 0
  · obtain ⟨hn, hf⟩ := flCode_zero hc
    have hfl : fl.length = n2 := by have := (flOk_all hf).1; have := Hl2.out; omega
    have h40 : n2 ≤ 40 := by have := (netOk_all hn).1.2.2; rw [Hl2.out] at this; exact this
    have Hc := Lib.hid hc
    have Hn := Lib.hid hn
    have Hf := Lib.hid hf
    have tb : (flCode n fl != 0) = false := by simp [hc]
    have tz : (flCode n fl == 0) = true := by simp [hc]
    clear hc hn hf
    obtain rfl : n2 = n3 := by omega
    go_wp2_with fail
    refine (isNodeOf_any _ _ _ _ _ _ v _ hm1).mono ?_
    rintro e w2 ⟨rfl, hg2⟩
    have hgw := hg0.trans hg2
    have c0 := hg2.has b0
    have c1' := hg2.has b1
    have e3 : inN n v = inB 0 v ((n1 : Int) - 1) := by rw [inN, Hl1.out]
    clear b0 b1
    cases hq : inB 0 v ((n1 : Int) - 1) with
    | false =>
      have Hq : Hid (inN n v = false) := Lib.hid (e3.trans hq)
      have Htc : Hid (toCode n fl v = 2) := Lib.hid (by rw [toCode, if_pos Hc.out, if_neg (by rw [Hq.out]; decide)])
      have Htv : Hid (toVal n fl v = 0) := Lib.hid (by rw [toVal, if_neg (by rw [Htc.out]; decide)])
      clear e3 hq
      go_wp2_with fail
      go_ret2
      exact ⟨by rw [Htc.out, Htv.out]; rfl, hgw⟩
    | true =>
      have Hq : Hid (inN n v = true) := Lib.hid (e3.trans hq)
      have Htc : Hid (toCode n fl v = 0) := Lib.hid (by rw [toCode, if_pos Hc.out, if_pos Hq.out])
      have Htv : Hid (toVal n fl v = trTo n fl v n2) := Lib.hid (by rw [toVal, if_pos Htc.out, Hl2.out])
      have Hbd := Lib.hid (trTo_bnd Hf.out v)
      clear e3 hq
      go_wp2_with fail
      go_loopw [9, 25] (fun a i wr => ∃ k : Nat, k ≤ n2 ∧ i = .int .i64 k ∧ a = .int .i64 (trTo n fl v k) ∧ Gr w wr) (fun _ i _ => n2 - (intOf i).toNat)
      case atStart => exact ⟨0, Nat.zero_le _, rfl, rfl, hgw⟩
      case round =>
        obtain ⟨k, hk, rfl, rfl, hgr⟩ := hrel
        have hbk := Hbd.out k
        by_cases hlt : k < n2
        · obtain ⟨p, hp⟩ : ∃ p, n.pipes[k]? = some p := ⟨_, List.getElem?_eq_getElem (by have := Hl2.out; omega)⟩
          obtain ⟨x, hx⟩ : ∃ x, fl[k]? = some x := ⟨_, List.getElem?_eq_getElem (by omega)⟩
          obtain ⟨b, o, hAA, hb, e0, e1, e2, e3, e4⟩ := (HA.out.gr hgr).pipes.pp hp
          subst hAA
          obtain ⟨b', o', hAA, hb', x0⟩ := (HS.out.gr hgr).sl.int hx
          subst hAA
          have hxb : -30000 ≤ x ∧ x ≤ 30000 := (flOk_all Hf.out).2 x (List.mem_of_getElem? hx)
          have hst : trTo n fl v (k + 1) = trTo n fl v k + trTerm p x v := by
            have e1 : n.pipes.getD k dP = p := by rw [List.getD_eq_getElem?_getD, hp]; rfl
            have e2 : fl.getD k 0 = x := by rw [List.getD_eq_getElem?_getD, hx]; rfl
            rw [trTo_succ, e1, e2]
          obtain ⟨a, ha⟩ : ∃ a, a = trTo n fl v k := ⟨_, rfl⟩
          rw [← ha] at hst hbk ⊢
          have hwn : IntKind.i64.wrap (-x) = -x := IntWalk.i64_in _ (by omega)
          have t1 : (k : Int) < (n2 : Int) := by omega
          have t0 : (0 : Int) ≤ (k : Int) := by omega
          unfold trTerm at hst
          clear hp hx ha
          rcases Int.lt_or_le 0 x with hxs | hxs
          all_goals
            by_cases hd : p.dst = v
            all_goals
              by_cases hs : p.src = v
              all_goals
                (first | rw [if_pos hd] at hst | rw [if_neg hd] at hst)
                (first | rw [if_pos hs] at hst | rw [if_neg hs] at hst)
                have td : (p.dst == v) = decide (p.dst = v) := by by_cases h : p.dst = v <;> simp [h]
                have ts : (p.src == v) = decide (p.src = v) := by by_cases h : p.src = v <;> simp [h]
                (first | rw [decide_eq_true hd] at td | rw [decide_eq_false hd] at td)
                (first | rw [decide_eq_true hs] at ts | rw [decide_eq_false hs] at ts)
                obtain ⟨y, hy⟩ : ∃ y, y = max 0 x := ⟨_, rfl⟩
                obtain ⟨z, hz⟩ : ∃ z, z = max 0 (-x) := ⟨_, rfl⟩
                (try rw [← hy] at hst)
                (try rw [← hz] at hst)
                have hyb : 0 ≤ y ∧ y ≤ 30000 := by omega
                have hzb : 0 ≤ z ∧ z ≤ 30000 := by omega
                have hw1 : IntKind.i64.wrap (a + y) = a + y := IntWalk.i64_in _ (by omega)
                have hw2 : IntKind.i64.wrap (a + z) = a + z := IntWalk.i64_in _ (by omega)
                have hw3 : IntKind.i64.wrap (a + y + z) = a + y + z := IntWalk.i64_in _ (by omega)
                have Hst := Lib.hid hst
                clear hst hd hs
                go_wp2_with fail
                go_roundw
                case rel => exact ⟨k + 1, by omega, by go_num, by rw [Hst.out]; congr 1; omega, by first | exact hgr.alloc _ | exact hgr⟩
                case measure => simp [intOf]; omega
        · obtain rfl : n2 = k := by omega
          go_wp2_with fail
          go_ret2
          exact ⟨by rw [Htc.out, Htv.out]; rfl, hgr⟩
  · have Hc := Lib.hid hc
    have tb : (flCode n fl != 0) = true := by simp [hc]
    have tz : (flCode n fl == 0) = false := by simp [hc]
    clear hc
    go_wp2_with fail
    go_ret2
    have e : toCode n fl v = flCode n fl := by rw [toCode, if_neg Hc.out]
    exact ⟨by rw [e, toVal, if_neg (by rw [e]; exact Hc.out)]; rfl, hg0⟩
set_option maxHeartbeats 3200000 in
set_option maxRecDepth 100000 in
theorem spTransitOf_any {A1 A2 A3 : Option Addr} {n1 c1 n2 c2 n3 c3 : Nat} (n : GNet) (fl : List Int) (v : Int) (w : World) (hA : NetAt w A1 n1 c1 A2 n2 c2 n) (hS : SlAt w 1 A3 n3 c3 (ints fl)) :
    Calls Try.prog 45 #[.agg #[.slice A1 n1 c1, .slice A2 n2 c2], .slice A3 n3 c3, .int .i64 v] w fun e w' => e = .returned (.tuple #[.int .i64 (toVal n fl v), .int .i64 (toCode n fl v)]) ∧ Gr w w' := by
  have hm1 := hA.m1
  have hm2 := hA.m2
  have hl1 := hA.l1
  have hl2 := hA.l2
  have hlen := hS.sl.ilen
  have HA := Lib.hid hA
  have HS := Lib.hid hS
  have Hl1 := Lib.hid hl1
  have Hl2 := Lib.hid hl2
  clear hA hS hl1 hl2
  go_enter Try.func45, Try.ntmps45
  go_wp2_with fail
  refine (l05Code_any n fl _ (HA.out.gr ((Gr.refl _).alloc _)) (HS.out.gr ((Gr.refl _).alloc _))).mono ?_
  rintro e w1 ⟨rfl, hg1⟩
  have hg0 : Gr w w1 := ((Gr.refl _).alloc _).trans hg1
  have b0 : w1.cell? ⟨w.heap.size, 0, none⟩ = some (.slice A1 n1 c1) := hg1.has (by simp [go_sem])
  have b1 : w1.cell? ⟨w.heap.size, 1, none⟩ = some (.slice A2 n2 c2) := hg1.has (by simp [go_sem])
  clear hg1
  by_cases hc : flCode n fl = 0
  · obtain ⟨hn, hf⟩ := flCode_zero hc
    have hfl : fl.length = n2 := by have := (flOk_all hf).1; have := Hl2.out; omega
    have h40 : n2 ≤ 40 := by have := (netOk_all hn).1.2.2; rw [Hl2.out] at this; exact this
    have Hc := Lib.hid hc
    have Hn := Lib.hid hn
    have Hf := Lib.hid hf
    have tb : (flCode n fl != 0) = false := by simp [hc]
    have tz : (flCode n fl == 0) = true := by simp [hc]
    clear hc hn hf
    obtain rfl : n2 = n3 := by omega
    go_wp2_with fail
    refine (l02Node_any _ _ _ _ _ _ v _ hm1).mono ?_
    rintro e w2 ⟨rfl, hg2⟩
    have hgw := hg0.trans hg2
    have c0 := hg2.has b0
    have c1' := hg2.has b1
    have e3 : inN n v = inB 0 v ((n1 : Int) - 1) := by rw [inN, Hl1.out]
    clear b0 b1
    cases hq : inB 0 v ((n1 : Int) - 1) with
    | false =>
      have Hq : Hid (inN n v = false) := Lib.hid (e3.trans hq)
      have Htc : Hid (toCode n fl v = 2) := Lib.hid (by rw [toCode, if_pos Hc.out, if_neg (by rw [Hq.out]; decide)])
      have Htv : Hid (toVal n fl v = 0) := Lib.hid (by rw [toVal, if_neg (by rw [Htc.out]; decide)])
      clear e3 hq
      go_wp2_with fail
      go_ret2
      exact ⟨by rw [Htc.out, Htv.out]; rfl, hgw⟩
    | true =>
      have Hq : Hid (inN n v = true) := Lib.hid (e3.trans hq)
      have Htc : Hid (toCode n fl v = 0) := Lib.hid (by rw [toCode, if_pos Hc.out, if_pos Hq.out])
      have Htv : Hid (toVal n fl v = trTo n fl v n2) := Lib.hid (by rw [toVal, if_pos Htc.out, Hl2.out])
      have Hbd := Lib.hid (trTo_bnd Hf.out v)
      clear e3 hq
      go_wp2_with fail
      go_loopw [9, 10] (fun a i wr => ∃ k : Nat, k ≤ n2 ∧ i = .int .i64 k ∧ a = .int .i64 (trTo n fl v k) ∧ Gr w wr ∧ wr.cell? ⟨w.heap.size, 1, none⟩ = some (.slice A2 n2 c2)) (fun _ i _ => n2 - (intOf i).toNat)
      case atStart => exact ⟨0, Nat.zero_le _, rfl, rfl, hgw, c1'⟩
      case round =>
        obtain ⟨k, hk, rfl, rfl, hgr, d1⟩ := hrel
        have hbk := Hbd.out k
        by_cases hlt : k < n2
        · obtain ⟨p, hp⟩ : ∃ p, n.pipes[k]? = some p := ⟨_, List.getElem?_eq_getElem (by have := Hl2.out; omega)⟩
          obtain ⟨x, hx⟩ : ∃ x, fl[k]? = some x := ⟨_, List.getElem?_eq_getElem (by omega)⟩
          obtain ⟨b, o, hAA, hb, e0, e1, e2, e3, e4⟩ := (HA.out.gr hgr).pipes.pp hp
          subst hAA
          obtain ⟨b', o', hAA, hb', x0⟩ := (HS.out.gr hgr).sl.int hx
          subst hAA
          have hxb : -30000 ≤ x ∧ x ≤ 30000 := (flOk_all Hf.out).2 x (List.mem_of_getElem? hx)
          have hst : trTo n fl v (k + 1) = trTo n fl v k + trTerm p x v := by
            have e1 : n.pipes.getD k dP = p := by rw [List.getD_eq_getElem?_getD, hp]; rfl
            have e2 : fl.getD k 0 = x := by rw [List.getD_eq_getElem?_getD, hx]; rfl
            rw [trTo_succ, e1, e2]
          obtain ⟨a, ha⟩ : ∃ a, a = trTo n fl v k := ⟨_, rfl⟩
          rw [← ha] at hst hbk ⊢
          have hwn : IntKind.i64.wrap (-x) = -x := IntWalk.i64_in _ (by omega)
          have t1 : (k : Int) < (n2 : Int) := by omega
          have t0 : (0 : Int) ≤ (k : Int) := by omega
          unfold trTerm at hst
          clear hp hx ha
          rcases Int.lt_or_le 0 x with hxs | hxs
          all_goals
            by_cases hd : p.dst = v
            all_goals
              by_cases hs : p.src = v
              all_goals
                (first | rw [if_pos hd] at hst | rw [if_neg hd] at hst)
                (first | rw [if_pos hs] at hst | rw [if_neg hs] at hst)
                have td : (p.dst == v) = decide (p.dst = v) := by by_cases h : p.dst = v <;> simp [h]
                have ts : (p.src == v) = decide (p.src = v) := by by_cases h : p.src = v <;> simp [h]
                (first | rw [decide_eq_true hd] at td | rw [decide_eq_false hd] at td)
                (first | rw [decide_eq_true hs] at ts | rw [decide_eq_false hs] at ts)
                obtain ⟨y, hy⟩ : ∃ y, y = max 0 x := ⟨_, rfl⟩
                obtain ⟨z, hz⟩ : ∃ z, z = max 0 (-x) := ⟨_, rfl⟩
                (try rw [← hy] at hst)
                (try rw [← hz] at hst)
                have hyb : 0 ≤ y ∧ y ≤ 30000 := by omega
                have hzb : 0 ≤ z ∧ z ≤ 30000 := by omega
                have hw1 : IntKind.i64.wrap (a + y) = a + y := IntWalk.i64_in _ (by omega)
                have hw2 : IntKind.i64.wrap (a + z) = a + z := IntWalk.i64_in _ (by omega)
                have hw3 : IntKind.i64.wrap (a + y + z) = a + y + z := IntWalk.i64_in _ (by omega)
                have Hst := Lib.hid hst
                clear hst hd hs
                go_wp2_with fail
                go_roundw
                case rel => exact ⟨k + 1, by omega, by go_num, by rw [Hst.out]; congr 1; omega, hgr, d1⟩
                case measure => simp [intOf]; omega
        · obtain rfl : n2 = k := by omega
          go_wp2_with fail
          go_ret2
          exact ⟨by rw [Htc.out, Htv.out]; rfl, hgr⟩
  · have Hc := Lib.hid hc
    have tb : (flCode n fl != 0) = true := by simp [hc]
    have tz : (flCode n fl == 0) = false := by simp [hc]
    clear hc
    go_wp2_with fail
    go_ret2
    have e : toCode n fl v = flCode n fl := by rw [toCode, if_neg Hc.out]
    exact ⟨by rw [e, toVal, if_neg (by rw [e]; exact Hc.out)]; rfl, hg0⟩
end Go.Proofs.Ytbckjlejkedonaa
