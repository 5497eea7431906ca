/-
  Flow lists: limits, balance, supplies, transits. Printed by gen_out2.py.
-/
import Derived.Test.YtbckjlejkedonaaOut
import Derived.BigRegion
import Derived.Test.YtbckjlejkedonaaLawKs
import Derived.Deep.CutRange
set_option linter.unusedSimpArgs false
set_option linter.unusedVariables false
namespace Go.Proofs.Ytbckjlejkedonaa
open Go.ChangeShapes Go.WideShapes Go.ChangeAt Go.RowKit

def sgO (a : Int) : Int := if a < 0 then -1 else 1
theorem absO_any (a : Int) (w : World) (h : -1000000000000000 ≤ a ∧ a ≤ 1000000000000000) : Calls Try.prog 107 #[.int .i64 a] w fun e w' => e = .returned (.int .i64 (sgO a * a)) ∧ w = w' := by
  by_cases h0 : a < 0
  · have e : -a = sgO a * a := by rw [sgO, if_pos h0]; omega
    have E := Lib.hid e
    clear e
    go_enter Try.func107, Try.ntmps107
    go_wp2_with fail
    go_ret
    exact ⟨ret_int E.out, rfl⟩
  · have e : a = sgO a * a := by rw [sgO, if_neg h0]; omega
    have E := Lib.hid e
    clear e
    go_enter Try.func107, Try.ntmps107
    go_wp2_with fail
    go_ret
    exact ⟨ret_int E.out, rfl⟩
theorem abs_lim {x l : Int} : l < sgO x * x ↔ ¬ (-l ≤ x ∧ x ≤ l) := by
  unfold sgO
  split <;> omega
theorem outL_len2 (n : GNet) (fl : List Int) : (outL n fl).length = n.nodes.length := by simp [outL]
theorem equalInt_any {A B : Option Addr} {n c m d : Nat} (a b : List Int) (w : World) (hA : SlAt w 1 A n c (ints a)) (hB : SlAt w 1 B m d (ints b)) :
    Calls Try.prog 105 #[.slice A n c, .slice B m d] w fun e w' => e = .returned (.bool (decide (a = b))) ∧ Gr w w' := by
  have hla := hA.sl.ilen
  have hlb := hB.sl.ilen
  have hm1 := hA.small
  have hm2 := hB.small
  have HA := Lib.hid hA
  have HB := Lib.hid hB
  have Hla := Lib.hid hla
  have Hlb := Lib.hid hlb
  clear hA hB hla hlb
  by_cases hnm : n = m
  · subst hnm
    go_enter Try.func105, Try.ntmps105
    go_wp2_with fail
    go_loopw [13] (fun i wr => ∃ k : Nat, k ≤ n ∧ i = .int .i64 k ∧ (∀ j, j < k → a.getD j 0 = b.getD j 0) ∧ Gr w wr) (fun i _ => n - (intOf i).toNat)
    case atStart => exact ⟨0, Nat.zero_le _, rfl, fun j h => absurd h (by omega), Gr.refl _⟩
    case round =>
      obtain ⟨k, hk, rfl, hno, hgr⟩ := hrel
      have Hno := Lib.hid hno
      clear hno
      by_cases hlt : k < n
      · have hxa := get_of_lt' (l := a) (k := k) (by have := Hla.out; omega)
        have hxb := get_of_lt' (l := b) (k := k) (by have := Hlb.out; omega)
        obtain ⟨x, hx⟩ : ∃ x, x = a.getD k 0 := ⟨_, rfl⟩
        obtain ⟨y, hy⟩ : ∃ y, y = b.getD k 0 := ⟨_, rfl⟩
        rw [← hx] at hxa
        rw [← hy] at hxb
        obtain ⟨b1, o1, rfl, hb1, e1⟩ := (HA.out.sl.gr hgr).int hxa
        obtain ⟨b2, o2, rfl, hb2, e2⟩ := (HB.out.sl.gr hgr).int hxb
        have Hx := Lib.hid hx
        have Hy := Lib.hid hy
        have t1 : (k : Int) < (n : Int) := by omega
        have t0 : (0 : Int) ≤ (k : Int) := by omega
        clear hxa hxb hx hy
        by_cases hxy : x = y
        · have tb : (x != y) = false := by simp [hxy]
          have Hxy := Lib.hid hxy
          clear hxy
          go_wp2_with fail
          go_quiet (fail)
          go_wp2_with fail
          go_roundw
          case rel =>
            refine ⟨k + 1, by omega, by go_num, fun j hj => ?_, hgr.drewN _⟩
            by_cases e : j = k
            · subst e; rw [← Hx.out, ← Hy.out, Hxy.out]
            · exact Hno.out j (by omega)
          case measure => simp [intOf]; omega
        · have tb : (x != y) = true := by simp [hxy]
          have hne : ¬ a = b := fun e => hxy (by rw [Hx.out, Hy.out, e])
          have Hne := Lib.hid hne
          clear hxy hne
          go_wp2_with fail
          go_quiet (fail)
          go_wp2_with fail
          go_ret
          exact ⟨ret_bool (decide_eq_false Hne.out).symm, hgr.drewN _⟩
      · obtain rfl : k = n := by omega
        go_wp2_with fail
        go_ret
        exact ⟨ret_bool (decide_eq_true (like_eq (by rw [Hla.out, Hlb.out]) (by rw [Hla.out]; exact Hno.out))).symm, hgr⟩
  · have tb : ((n : Int) != (m : Int)) = true := by simp; omega
    have hne : ¬ a = b := fun e => hnm (by rw [← Hla.out, ← Hlb.out, e])
    have Hne := Lib.hid hne
    clear hne
    go_enter Try.func105, Try.ntmps105
    go_wp2_with fail
    go_ret
    exact ⟨ret_bool (decide_eq_false Hne.out).symm, Gr.refl _⟩
set_option maxHeartbeats 3200000 in
set_option maxRecDepth 100000 in
theorem KeepsLimits_any {A1 A2 A3 : Option Addr} {n1 c1 n2 c2 n3 c3 : Nat} (n : GNet) (fl : List Int) (w : World) (hA : NetAt w A1 n1 c1 A2 n2 c2 n) (hS : SlAt w 1 A3 n3 c3 (ints fl)) :
    Calls Try.prog 36 #[.agg #[.slice A1 n1 c1, .slice A2 n2 c2], .slice A3 n3 c3] w fun e w' => e = .returned (.bool (klB n fl)) ∧ Gr w w' := by
  have hm1 := hA.m1
  have hm2 := hA.m2
  have hl1 := hA.l1
  have hl2 := hA.l2
  have hlen := hS.sl.ilen
  have HA := Lib.hid hA
  have HS := Lib.hid hS
  have Hl1 := Lib.hid hl1
  have Hl2 := Lib.hid hl2
  clear hA hS hl1 hl2
  go_enter Try.func36, Try.ntmps36
  go_wp2_with fail
  refine (IsNetwork_any _ _ _ _ _ _ n _ (HA.out.gr ((Gr.refl _).alloc _))).mono ?_
  rintro e w1 ⟨rfl, hg1⟩
  have hg0 : Gr w w1 := ((Gr.refl _).alloc _).trans hg1
  have b0 : w1.cell? ⟨w.heap.size, 0, none⟩ = some (.slice A1 n1 c1) := hg1.has (by simp [go_sem])
  have b1 : w1.cell? ⟨w.heap.size, 1, none⟩ = some (.slice A2 n2 c2) := hg1.has (by simp [go_sem])
  clear hg1
  cases hn : netOk n with
  | false =>
    have Hn := Lib.hid hn
    go_wp2_with fail
    go_ret
    exact ⟨ret_bool (by rw [klB, Hn.out]; rfl), hg0⟩
  | true =>
    have Hn := Lib.hid hn
    go_wp2_with fail
    refine (isFlowList_any fl _ (HS.out.gr hg0) hm2).mono ?_
    rintro e w2 ⟨rfl, hg2⟩
    have hgw : Gr w w2 := hg0.trans hg2
    have c0 := hg2.has b0
    have c1' := hg2.has b1
    have e2 : flOk n fl = supOk n2 fl := by rw [flOk, Hl2.out]
    cases hs : supOk n2 fl with
    | false =>
      have Hs : Hid (flOk n fl = false) := Lib.hid (e2.trans hs)
      clear e2 hs
      go_wp2_with fail
      go_ret
      exact ⟨ret_bool (by rw [klB, Hn.out, Hs.out]; rfl), hgw⟩
    | true =>
      have Hf : Hid (flOk n fl = true) := Lib.hid (e2.trans hs)
      have hfl : fl.length = n2 := by have := (flOk_all Hf.out).1; have := Hl2.out; omega
      obtain rfl : n2 = n3 := by omega
      clear e2 hs
      go_wp2_with fail
      go_loopw [19] (fun i wr => ∃ k : Nat, k ≤ n2 ∧ i = .int .i64 k ∧ (∀ j, j < k → ovAt n fl j = false) ∧ Gr w wr) (fun i _ => n2 - (intOf i).toNat)
      case atStart => exact ⟨0, Nat.zero_le _, rfl, fun j h => absurd h (by omega), hgw⟩
      case round =>
        obtain ⟨k, hk, rfl, hno, hgr⟩ := hrel
        have Hno := Lib.hid hno
        clear hno
        by_cases hlt : k < n2
        · obtain ⟨p, hp⟩ : ∃ p, n.pipes[k]? = some p := ⟨_, List.getElem?_eq_getElem (by have := Hl2.out; omega)⟩
          obtain ⟨x, hx⟩ : ∃ x, fl[k]? = some x := ⟨_, List.getElem?_eq_getElem (by omega)⟩
          obtain ⟨b, o, hAA, hb, e0, e1, e2, e3, e4⟩ := (HA.out.gr hgr).pipes.pp hp
          subst hAA
          obtain ⟨b', o', hAA, hb', x0⟩ := (HS.out.gr hgr).sl.int hx
          subst hAA
          have hxb : -30000 ≤ x ∧ x ≤ 30000 := (flOk_all Hf.out).2 x (List.mem_of_getElem? hx)
          have hov : ovAt n fl k = decide (p.lim < sgO x * x) := by
            have e1 : n.pipes.getD k dP = p := by rw [List.getD_eq_getElem?_getD, hp]; rfl
            have e2 : fl.getD k 0 = x := by rw [List.getD_eq_getElem?_getD, hx]; rfl
            rw [ovAt, e1, e2, Bool.eq_iff_iff, Bool.not_eq_true', decide_eq_false_iff_not, decide_eq_true_eq]
            exact abs_lim.symm
          have Hov := Lib.hid hov
          have t1 : (k : Int) < (n2 : Int) := by omega
          have t0 : (0 : Int) ≤ (k : Int) := by omega
          clear hp hx hov
          go_upto_region 6 with fail
          obtain ⟨w4, hw4⟩ : ∃ W, W = wr.alloc (.cells #[.int .i64 p.src, .int .i64 p.dst, .int .i64 p.k, .int .i64 p.vol, .int .i64 p.lim] 126) := ⟨_, rfl⟩
          have hg4 : Gr wr w4 := by rw [hw4]; exact (Gr.refl _).alloc _
          have x4 : w4.cell? ⟨wr.heap.size, 4, none⟩ = some (.int .i64 p.lim) := by rw [hw4]; simp [go_sem]
          have x5 := hg4.has x0
          rw [← hw4]
          have hgr4 := hgr.trans hg4
          clear hw4 e0 e1 e2 e3 e4 x0
          go_wp2_with fail
          refine wp_region_text (fun w' => Gr w4 w' ∧ w'.cell? ⟨wr.heap.size, 4, none⟩ = some (.int .i64 p.lim) ∧ w'.cell? ⟨b', o' + k, none⟩ = some (.int .i64 x)) (by kernel_rfl) (by kernel_rfl) (by decide) ⟨(Gr.refl _).drew, x4, x5⟩ ?_
          repeat (first
            | ((with_reducible refine wpText_skip ?_ ?_)
               · rfl
               simp only [Act.put, List.setIfInBounds_toArray, List.set_cons_zero, List.set_cons_succ])
            | ((with_reducible refine wpText_yield (v := ?_) ?_ ?_ ?_)
               rotate_left
               · rfl
               · (intro W hW; obtain ⟨hWg, hW0, hW1⟩ := hW; first | (go_simp; done) | (go_simp; with_reducible rfl))
               simp only [Act.put, List.setIfInBounds_toArray, List.set_cons_zero, List.set_cons_succ])
            | ((with_reducible refine wpText_yield1 (v := ?_) ?_ ?_ ?_)
               rotate_left
               · rfl
               · (intro W hW; obtain ⟨hWg, hW0, hW1⟩ := hW; first | (go_simp; done) | (go_simp; with_reducible rfl))
               simp only [Act.put, List.setIfInBounds_toArray, List.set_cons_zero, List.set_cons_succ]))
          refine wpText_do (.int .i64 (sgO x * x)) (by rfl) (fun W hW K hK => ?_) ?_
          · obtain ⟨hWg, hW0, hW1⟩ := hW
            go_simp
            refine (absO_any x _ (by omega)).mono ?_
            rintro e w' ⟨rfl, rfl⟩
            exact hK _ ⟨hWg, hW0, hW1⟩
          simp only [Act.put, List.setIfInBounds_toArray, List.set_cons_zero, List.set_cons_succ]
          repeat (first
            | ((with_reducible refine wpText_skip ?_ ?_)
               · rfl
               simp only [Act.put, List.setIfInBounds_toArray, List.set_cons_zero, List.set_cons_succ])
            | ((with_reducible refine wpText_yield (v := ?_) ?_ ?_ ?_)
               rotate_left
               · rfl
               · (intro W hW; obtain ⟨hWg, hW0, hW1⟩ := hW; first | (go_simp; done) | (go_simp; with_reducible rfl))
               simp only [Act.put, List.setIfInBounds_toArray, List.set_cons_zero, List.set_cons_succ])
            | ((with_reducible refine wpText_yield1 (v := ?_) ?_ ?_ ?_)
               rotate_left
               · rfl
               · (intro W hW; obtain ⟨hWg, hW0, hW1⟩ := hW; first | (go_simp; done) | (go_simp; with_reducible rfl))
               simp only [Act.put, List.setIfInBounds_toArray, List.set_cons_zero, List.set_cons_succ]))
          rintro w6 ⟨hS6, -, -⟩
          have hgr6 := hgr4.trans hS6
          clear x4 x5 hgr4
          by_cases hq : p.lim < sgO x * x
          · have tq : decide (p.lim < sgO x * x) = true := by simp [hq]
            have Hq : Hid (ovAt n fl k = true) := Lib.hid (Hov.out.trans tq)
            (try have hq := Int.not_lt.1 hq)
            go_wp2_with fail
            go_ret
            refine ⟨ret_bool ?_, hgr6⟩
            have hl : limOk n fl = false := by
              rw [limOk, List.all_eq_false]
              refine ⟨k, List.mem_range.2 (by have := Hl2.out; omega), ?_⟩
              have := Hq.out
              rw [ovAt, Bool.not_eq_true'] at this
              intro hd
              exact Bool.noConfusion (this.symm.trans hd)
            rw [klB, hl]; simp
          · have tq : decide (p.lim < sgO x * x) = false := by simp [hq]
            have Hq : Hid (ovAt n fl k = false) := Lib.hid (Hov.out.trans tq)
            (try have hq := Int.not_lt.1 hq)
            go_wp2_with fail
            go_roundw
            case rel => exact ⟨k + 1, by omega, by go_num, fun j hj => (by by_cases e : j = k; (· subst e; exact Hq.out); exact Hno.out j (by omega)), hgr6⟩
            case measure => simp [intOf]; omega
        · obtain rfl : k = n2 := by omega
          go_wp2_with fail
          go_ret
          refine ⟨ret_bool ?_, hgr⟩
          have hl : limOk n fl = true := by
            rw [limOk, List.all_eq_true]
            intro j hj
            have := Hno.out j (by have := List.mem_range.1 hj; have := Hl2.out; omega)
            rw [ovAt, Bool.not_eq_false'] at this
            exact this
          rw [klB, Hn.out, Hf.out, hl]; rfl
set_option maxHeartbeats 3200000 in
set_option maxRecDepth 100000 in
theorem OverLimit_any {A1 A2 A3 : Option Addr} {n1 c1 n2 c2 n3 c3 : Nat} (n : GNet) (fl : List Int) (w : World) (hA : NetAt w A1 n1 c1 A2 n2 c2 n) (hS : SlAt w 1 A3 n3 c3 (ints fl)) :
    Calls Try.prog 48 #[.agg #[.slice A1 n1 c1, .slice A2 n2 c2], .slice A3 n3 c3] w fun e w' => ∃ A m c, e = .returned (.tuple #[.slice A m c, .int .i64 (flCode n fl)]) ∧ m = (ovRes n fl).length ∧ m ≤ 1048576 ∧ w'.ownsRow w.heap.size 2 1 (.slice A m c) m (nats (ovRes n fl)) ∧ Gr w w' := by
  obtain ⟨i0, hi0, hz0, hz1, hz2⟩ := info_parts infoInt64
  have hm1 := hA.m1
  have hm2 := hA.m2
  have hl1 := hA.l1
  have hl2 := hA.l2
  have hlen := hS.sl.ilen
  have HA := Lib.hid hA
  have HS := Lib.hid hS
  have Hl1 := Lib.hid hl1
  have Hl2 := Lib.hid hl2
  clear hA hS hl1 hl2
  go_enter Try.func48, Try.ntmps48
  go_wp2_with fail
  refine (checkFlows_any n fl _ (HA.out.gr ((Gr.refl _).alloc _)) (HS.out.gr ((Gr.refl _).alloc _))).mono ?_
  rintro e w1 ⟨rfl, hg1⟩
  have hg0 : Gr w w1 := ((Gr.refl _).alloc _).trans hg1
  have b0 : w1.cell? ⟨w.heap.size, 0, none⟩ = some (.slice A1 n1 c1) := hg1.has (by simp [go_sem])
  have b1 : w1.cell? ⟨w.heap.size, 1, none⟩ = some (.slice A2 n2 c2) := hg1.has (by simp [go_sem])
  clear hg1
  by_cases hc : flCode n fl = 0
  · obtain ⟨hn, hf⟩ := flCode_zero hc
    have hfl : fl.length = n2 := by have := (flOk_all hf).1; have := Hl2.out; omega
    have h40 : n2 ≤ 40 := by have := (netOk_all hn).1.2.2; rw [Hl2.out] at this; exact this
    have Hc := Lib.hid hc
    have Hn := Lib.hid hn
    have Hf := Lib.hid hf
    have tb : (flCode n fl != 0) = false := by simp [hc]
    have tz : (flCode n fl == 0) = true := by simp [hc]
    clear hc hn hf
    obtain rfl : n2 = n3 := by omega
    go_wp2_with fail
    go_loopw [7, 19] (fun o i wr => ∃ k : Nat, k ≤ n2 ∧ i = .int .i64 k ∧ (∃ A m c, o = .slice A m c ∧ m = (ovTo n fl k).length ∧ wr.ownsRow w1.heap.size 2 1 (.slice A m c) m (nats (ovTo n fl k))) ∧ Gr w wr ∧ w1.heap.size ≤ wr.heap.size) (fun _ i _ => n2 - (intOf i).toNat)
    case atStart => exact ⟨0, Nat.zero_le _, rfl, ⟨_, _, _, rfl, rfl, World.ownsRow_nil _ _ _ _⟩, hg0, Nat.le_refl _⟩
    case round =>
      obtain ⟨k, hk, rfl, ⟨A, m, c, rfl, hm, hown⟩, hgr, hsz⟩ := hrel
      have hmk : m ≤ k := by rw [hm]; exact ov_len _ _ _
      have Hm := Lib.hid hm
      have Hown := Lib.hid hown
      clear hm hown
      by_cases hlt : k < n2
      · obtain ⟨p, hp⟩ : ∃ p, n.pipes[k]? = some p := ⟨_, List.getElem?_eq_getElem (by have := Hl2.out; omega)⟩
        obtain ⟨x, hx⟩ : ∃ x, fl[k]? = some x := ⟨_, List.getElem?_eq_getElem (by omega)⟩
        obtain ⟨b, o, hAA, hb, e0, e1, e2, e3, e4⟩ := (HA.out.gr hgr).pipes.pp hp
        subst hAA
        obtain ⟨b', o', hAA, hb', x0⟩ := (HS.out.gr hgr).sl.int hx
        subst hAA
        have hxb : -30000 ≤ x ∧ x ≤ 30000 := (flOk_all Hf.out).2 x (List.mem_of_getElem? hx)
        have hov : ovAt n fl k = decide (p.lim < sgO x * x) := by
          have e1 : n.pipes.getD k dP = p := by rw [List.getD_eq_getElem?_getD, hp]; rfl
          have e2 : fl.getD k 0 = x := by rw [List.getD_eq_getElem?_getD, hx]; rfl
          rw [ovAt, e1, e2, Bool.eq_iff_iff, Bool.not_eq_true', decide_eq_false_iff_not, decide_eq_true_eq]
          exact abs_lim.symm
        have Hov := Lib.hid hov
        have t1 : (k : Int) < (n2 : Int) := by omega
        have t0 : (0 : Int) ≤ (k : Int) := by omega
        clear hp hx hov
        go_upto_region 8 with fail
        obtain ⟨w4, hw4⟩ : ∃ W, W = wr.alloc (.cells #[.int .i64 p.src, .int .i64 p.dst, .int .i64 p.k, .int .i64 p.vol, .int .i64 p.lim] 126) := ⟨_, rfl⟩
        have hg4 : Gr wr w4 := by rw [hw4]; exact (Gr.refl _).alloc _
        have x4 : w4.cell? ⟨wr.heap.size, 4, none⟩ = some (.int .i64 p.lim) := by rw [hw4]; simp [go_sem]
        have x5 := hg4.has x0
        rw [← hw4]
        have hgr4 := hgr.trans hg4
        clear hw4 e0 e1 e2 e3 e4 x0
        go_wp2_with fail
        refine wp_region_text (fun w' => Gr w4 w' ∧ w'.cell? ⟨wr.heap.size, 4, none⟩ = some (.int .i64 p.lim) ∧ w'.cell? ⟨b', o' + k, none⟩ = some (.int .i64 x)) (by kernel_rfl) (by kernel_rfl) (by decide) ⟨(Gr.refl _).drew, x4, x5⟩ ?_
        repeat (first
            | ((with_reducible refine wpText_skip ?_ ?_)
               · rfl
               simp only [Act.put, List.setIfInBounds_toArray, List.set_cons_zero, List.set_cons_succ])
            | ((with_reducible refine wpText_yield (v := ?_) ?_ ?_ ?_)
               rotate_left
               · rfl
               · (intro W hW; obtain ⟨hWg, hW0, hW1⟩ := hW; first | (go_simp; done) | (go_simp; with_reducible rfl))
               simp only [Act.put, List.setIfInBounds_toArray, List.set_cons_zero, List.set_cons_succ])
            | ((with_reducible refine wpText_yield1 (v := ?_) ?_ ?_ ?_)
               rotate_left
               · rfl
               · (intro W hW; obtain ⟨hWg, hW0, hW1⟩ := hW; first | (go_simp; done) | (go_simp; with_reducible rfl))
               simp only [Act.put, List.setIfInBounds_toArray, List.set_cons_zero, List.set_cons_succ]))
        refine wpText_do (.int .i64 (sgO x * x)) (by rfl) (fun W hW K hK => ?_) ?_
        · obtain ⟨hWg, hW0, hW1⟩ := hW
          go_simp
          refine (absO_any x _ (by omega)).mono ?_
          rintro e w' ⟨rfl, rfl⟩
          exact hK _ ⟨hWg, hW0, hW1⟩
        simp only [Act.put, List.setIfInBounds_toArray, List.set_cons_zero, List.set_cons_succ]
        repeat (first
            | ((with_reducible refine wpText_skip ?_ ?_)
               · rfl
               simp only [Act.put, List.setIfInBounds_toArray, List.set_cons_zero, List.set_cons_succ])
            | ((with_reducible refine wpText_yield (v := ?_) ?_ ?_ ?_)
               rotate_left
               · rfl
               · (intro W hW; obtain ⟨hWg, hW0, hW1⟩ := hW; first | (go_simp; done) | (go_simp; with_reducible rfl))
               simp only [Act.put, List.setIfInBounds_toArray, List.set_cons_zero, List.set_cons_succ])
            | ((with_reducible refine wpText_yield1 (v := ?_) ?_ ?_ ?_)
               rotate_left
               · rfl
               · (intro W hW; obtain ⟨hWg, hW0, hW1⟩ := hW; first | (go_simp; done) | (go_simp; with_reducible rfl))
               simp only [Act.put, List.setIfInBounds_toArray, List.set_cons_zero, List.set_cons_succ]))
        rintro w6 ⟨hS6, -, -⟩
        have hgr6 := hgr4.trans hS6
        clear x4 x5 hgr4
        have Ho6 := Lib.hid (own_gr Hown.out (hg4.trans hS6))
        have hs6 := (hg4.trans hS6).size
        by_cases hq : p.lim < sgO x * x
        · have tq : decide (p.lim < sgO x * x) = true := by simp [hq]
          have Hq := Lib.hid (ov_yes (Hov.out.trans tq))
          (try have hq := Int.not_lt.1 hq)
          go_wp2_with (at_builtin; (refine wpList_append_own _ rfl _ _ _ rfl w1.heap.size 2 i0 _ 1 8 Try.underlying27 hi0 hz0 hz1 hz2 rfl (by omega) _ m _ rfl (Ho6.out.alloc _) ⟨w6.heap.size, 0, none⟩ 1 1 [.int .i64 (k : Int)] rfl rfl (World.news_of_block (cs := #[.int .i64 (k : Int)]) (t := 2) (fr := (0, 0)) (heap_alloc_new w6 _)) (by simp [Value.oneCell']) (by unfold maxLen; omega) (by omega) (by simp; omega) ?_; intro v' w20 hown20 hg20 _; obtain ⟨A20, c20, rfl⟩ := own_shape hown20; have Ho20 := Lib.hid (own_cells_eq hown20 (nats_snoc (ovTo n fl k) k).symm); have hg21 : Gr w w20 := (hgr6.alloc _).grown hg20 (fun j hj => by have := own_base_le Ho6.out hj; have := hg0.size; omega); have hs20 := hg20.size; clear hown20 hg20))
          go_wp2_with fail
          go_roundw
          case rel => exact ⟨k + 1, by omega, by go_num, ⟨_, _, _, rfl, by rw [Hq.out, Hm.out]; simp, by rw [Hq.out]; exact Ho20.out⟩, hg21, by simp at hs20; omega⟩
          case measure => simp [intOf]; omega
        · have tq : decide (p.lim < sgO x * x) = false := by simp [hq]
          have Hq := Lib.hid (ov_no (Hov.out.trans tq))
          (try have hq := Int.not_lt.1 hq)
          go_wp2_with fail
          go_roundw
          case rel => exact ⟨k + 1, by omega, by go_num, ⟨_, _, _, rfl, by rw [Hq.out]; exact Hm.out, by rw [Hq.out]; exact Ho6.out⟩, hgr6, by omega⟩
          case measure => simp [intOf]; omega
      · obtain rfl : k = n2 := by omega
        go_wp2_with fail
        go_ret2
        have e : ovRes n fl = ovTo n fl k := by rw [ovRes, if_pos Hc.out, Hl2.out]
        exact ⟨_, _, _, by rw [Hc.out]; rfl, by rw [e]; exact Hm.out, by omega, by rw [e]; exact own_base Hown.out hg0.size, hgr⟩
  · have Hc := Lib.hid hc
    have tb : (flCode n fl != 0) = true := by simp [hc]
    have tz : (flCode n fl == 0) = false := by simp [hc]
    clear hc
    go_wp2_with fail
    go_ret2
    have e : ovRes n fl = [] := by rw [ovRes, if_neg Hc.out]
    exact ⟨_, _, _, rfl, by rw [e]; rfl, Nat.zero_le _, by rw [e]; exact World.ownsRow_nil _ _ _ _, hg0⟩
set_option maxHeartbeats 3200000 in
set_option maxRecDepth 100000 in
theorem IsBalanced_any {A1 A2 A3 A4 : Option Addr} {n1 c1 n2 c2 n3 c3 n4 c4 : Nat} (n : GNet) (fl : List Int) (sup : List Int) (w : World) (hA : NetAt w A1 n1 c1 A2 n2 c2 n) (hS : SlAt w 1 A3 n3 c3 (ints fl)) (hU : SlAt w 1 A4 n4 c4 (ints sup)) :
    Calls Try.prog 35 #[.agg #[.slice A1 n1 c1, .slice A2 n2 c2], .slice A3 n3 c3, .slice A4 n4 c4] w fun e w' => e = .returned (.bool (balB n fl sup)) ∧ Gr w w' := by
  have hm1 := hA.m1
  have hm2 := hA.m2
  have hl1 := hA.l1
  have hl2 := hA.l2
  have hlen := hS.sl.ilen
  have HA := Lib.hid hA
  have HS := Lib.hid hS
  have Hl1 := Lib.hid hl1
  have Hl2 := Lib.hid hl2
  have HU := Lib.hid hU
  clear hU hA hS hl1 hl2
  go_enter Try.func35, Try.ntmps35
  go_wp2_with fail
  refine (IsNetwork_any _ _ _ _ _ _ n _ (HA.out.gr ((Gr.refl _).alloc _))).mono ?_
  rintro e w1 ⟨rfl, hg1⟩
  have hg0 : Gr w w1 := ((Gr.refl _).alloc _).trans hg1
  have b0 : w1.cell? ⟨w.heap.size, 0, none⟩ = some (.slice A1 n1 c1) := hg1.has (by simp [go_sem])
  have b1 : w1.cell? ⟨w.heap.size, 1, none⟩ = some (.slice A2 n2 c2) := hg1.has (by simp [go_sem])
  clear hg1
  cases hn : netOk n with
  | false =>
    have Hn := Lib.hid hn
    go_wp2_with fail
    go_ret
    exact ⟨ret_bool (by rw [balB, Hn.out]; rfl), hg0⟩
  | true =>
    have Hn := Lib.hid hn
    go_wp2_with fail
    refine (isFlowList_any fl _ (HS.out.gr hg0) hm2).mono ?_
    rintro e w2 ⟨rfl, hg2⟩
    have hgw : Gr w w2 := hg0.trans hg2
    replace b0 := hg2.has b0
    replace b1 := hg2.has b1
    have e2 : flOk n fl = supOk n2 fl := by rw [flOk, Hl2.out]
    cases hs : supOk n2 fl with
    | false =>
      have Hs : Hid (flOk n fl = false) := Lib.hid (e2.trans hs)
      clear e2 hs
      go_wp2_with fail
      go_ret
      exact ⟨ret_bool (by rw [balB, Hn.out, Hs.out]; rfl), hgw⟩
    | true =>
      have Hf : Hid (flOk n fl = true) := Lib.hid (e2.trans hs)
      have hfl : fl.length = n2 := by have := (flOk_all Hf.out).1; have := Hl2.out; omega
      obtain rfl : n2 = n3 := by omega
      clear e2 hs
      go_wp2_with fail
      refine (areSupplies_any sup _ (HU.out.gr hgw) hm1).mono ?_
      rintro e w3 ⟨rfl, hg3⟩
      have hgw3 : Gr w w3 := hgw.trans hg3
      replace b0 := hg3.has b0
      replace b1 := hg3.has b1
      have e3 : supOk n.nodes.length sup = supOk n1 sup := by rw [Hl1.out]
      cases hu : supOk n1 sup with
      | false =>
        have Hu : Hid (supOk n.nodes.length sup = false) := Lib.hid (e3.trans hu)
        clear e3 hu
        go_wp2_with fail
        go_ret
        exact ⟨ret_bool (by rw [balB, Hn.out, Hf.out, Hu.out]; rfl), hgw3⟩
      | true =>
        have Hu : Hid (supOk n.nodes.length sup = true) := Lib.hid (e3.trans hu)
        clear e3 hu
        go_wp2_with fail
        refine (outflows_any n fl _ (HA.out.gr hgw3) (HS.out.gr hgw3) Hn.out Hf.out).mono ?_
        rintro e w4 ⟨A, c, rfl, ho, hg4⟩
        have Ho := Lib.hid (SlAt.of_own ho hm1)
        have hgw4 := hgw3.trans hg4
        clear ho
        go_wp2_with fail
        refine (equalInt_any (outL n fl) sup _ Ho.out (HU.out.gr hgw4)).mono ?_
        rintro e w5 ⟨rfl, hg5⟩
        go_wp2_with fail
        go_ret
        exact ⟨ret_bool (by rw [balB, Hn.out, Hf.out, Hu.out]; rfl), hgw4.trans hg5⟩
set_option maxHeartbeats 3200000 in
set_option maxRecDepth 100000 in
theorem SuppliesOf_any {A1 A2 A3 : Option Addr} {n1 c1 n2 c2 n3 c3 : Nat} (n : GNet) (fl : List Int) (w : World) (hA : NetAt w A1 n1 c1 A2 n2 c2 n) (hS : SlAt w 1 A3 n3 c3 (ints fl)) :
    Calls Try.prog 46 #[.agg #[.slice A1 n1 c1, .slice A2 n2 c2], .slice A3 n3 c3] w fun e w' => ∃ A m c, e = .returned (.tuple #[.slice A m c, .int .i64 (soCode n fl)]) ∧ m ≤ 1048576 ∧ w'.ownsRow w.heap.size 2 1 (.slice A m c) m (ints (soRes n fl)) ∧ Gr w w' := by
  have hm1 := hA.m1
  have hm2 := hA.m2
  have hl1 := hA.l1
  have hl2 := hA.l2
  have hlen := hS.sl.ilen
  have HA := Lib.hid hA
  have HS := Lib.hid hS
  have Hl1 := Lib.hid hl1
  have Hl2 := Lib.hid hl2
  clear hA hS hl1 hl2
  go_enter Try.func46, Try.ntmps46
  go_wp2_with fail
  refine (checkFlows_any n fl _ (HA.out.gr ((Gr.refl _).alloc _)) (HS.out.gr ((Gr.refl _).alloc _))).mono ?_
  rintro e w1 ⟨rfl, hg1⟩
  have hg0 : Gr w w1 := ((Gr.refl _).alloc _).trans hg1
  have b0 : w1.cell? ⟨w.heap.size, 0, none⟩ = some (.slice A1 n1 c1) := hg1.has (by simp [go_sem])
  have b1 : w1.cell? ⟨w.heap.size, 1, none⟩ = some (.slice A2 n2 c2) := hg1.has (by simp [go_sem])
  clear hg1
  by_cases hc : flCode n fl = 0
  · obtain ⟨hn, hf⟩ := flCode_zero hc
    have hfl : fl.length = n2 := by have := (flOk_all hf).1; have := Hl2.out; omega
    have h40 : n2 ≤ 40 := by have := (netOk_all hn).1.2.2; rw [Hl2.out] at this; exact this
    have Hc := Lib.hid hc
    have Hn := Lib.hid hn
    have Hf := Lib.hid hf
    have tb : (flCode n fl != 0) = false := by simp [hc]
    have tz : (flCode n fl == 0) = true := by simp [hc]
    clear hc hn hf
    obtain rfl : n2 = n3 := by omega
    go_wp2_with fail
    refine (outflows_any n fl _ (HA.out.gr hg0) (HS.out.gr hg0) Hn.out Hf.out).mono ?_
    rintro e w2 ⟨A, c, rfl, ho, hg2⟩
    have Ho := Lib.hid ho
    have HoS := Lib.hid (SlAt.of_own ho hm1)
    have hgw := hg0.trans hg2
    have c0 := hg2.has b0
    have c1' := hg2.has b1
    clear ho b0 b1
    go_wp2_with fail
    refine (allWithin_any (outL n fl) _ _ _ HoS.out).mono ?_
    rintro e w3 ⟨rfl, hg3⟩
    have hg03 := hgw; subst hg3; have hg3 := Gr.refl w2
    have e3 : supOk n.nodes.length (outL n fl) = ((outL n fl).all fun z => inB (-30000) z 30000) := by rw [supOk, decide_eq_true (outL_len2 n fl), Bool.true_and]
    cases hq : ((outL n fl).all fun z => inB (-30000) z 30000) with
    | true =>
      have Hq := Lib.hid (e3.trans hq)
      have Hsc : Hid (soCode n fl = 0) := Lib.hid (by rw [soCode, if_pos Hc.out, if_pos Hq.out])
      clear e3 hq
      go_wp2_with fail
      go_ret2
      refine ⟨_, _, _, by rw [Hsc.out]; rfl, hm1, ?_, hg03⟩
      rw [soRes, if_pos Hsc.out]
      exact own_base (own_gr Ho.out hg3) hg0.size
    | false =>
      have Hq := Lib.hid (e3.trans hq)
      have Hsc : Hid (soCode n fl = 2) := Lib.hid (by rw [soCode, if_pos Hc.out, if_neg (by rw [Hq.out]; decide)])
      clear e3 hq
      go_wp2_with fail
      go_ret2
      exact ⟨_, _, _, by rw [Hsc.out]; rfl, Nat.zero_le _, by rw [so_bad (by rw [Hsc.out]; decide)]; exact World.ownsRow_nil _ _ _ _, hg03⟩
  · have Hc := Lib.hid hc
    have tb : (flCode n fl != 0) = true := by simp [hc]
    have tz : (flCode n fl == 0) = false := by simp [hc]
    clear hc
    go_wp2_with fail
    go_ret2
    have e : soCode n fl = flCode n fl := by rw [soCode, if_neg Hc.out]
    exact ⟨_, _, _, by rw [e]; rfl, Nat.zero_le _, by rw [so_bad (by rw [e]; exact Hc.out)]; exact World.ownsRow_nil _ _ _ _, hg0⟩
set_option maxHeartbeats 3200000 in
set_option maxRecDepth 100000 in
theorem spSuppliesOf_any {A1 A2 A3 : Option Addr} {n1 c1 n2 c2 n3 c3 : Nat} (n : GNet) (fl : List Int) (w : World) (hA : NetAt w A1 n1 c1 A2 n2 c2 n) (hS : SlAt w 1 A3 n3 c3 (ints fl)) :
    Calls Try.prog 47 #[.agg #[.slice A1 n1 c1, .slice A2 n2 c2], .slice A3 n3 c3] w fun e w' => ∃ A m c, e = .returned (.tuple #[.slice A m c, .int .i64 (soCode n fl)]) ∧ m ≤ 1048576 ∧ w'.ownsRow w.heap.size 2 1 (.slice A m c) m (ints (soRes n fl)) ∧ Gr w w' := by
  have hm1 := hA.m1
  have hm2 := hA.m2
  have hl1 := hA.l1
  have hl2 := hA.l2
  have hlen := hS.sl.ilen
  have HA := Lib.hid hA
  have HS := Lib.hid hS
  have Hl1 := Lib.hid hl1
  have Hl2 := Lib.hid hl2
  clear hA hS hl1 hl2
  go_enter Try.func47, Try.ntmps47
  go_wp2_with fail
  refine (l05Code_any n fl _ (HA.out.gr ((Gr.refl _).alloc _)) (HS.out.gr ((Gr.refl _).alloc _))).mono ?_
  rintro e w1 ⟨rfl, hg1⟩
  have hg0 : Gr w w1 := ((Gr.refl _).alloc _).trans hg1
  have b0 : w1.cell? ⟨w.heap.size, 0, none⟩ = some (.slice A1 n1 c1) := hg1.has (by simp [go_sem])
  have b1 : w1.cell? ⟨w.heap.size, 1, none⟩ = some (.slice A2 n2 c2) := hg1.has (by simp [go_sem])
  clear hg1
  by_cases hc : flCode n fl = 0
  · obtain ⟨hn, hf⟩ := flCode_zero hc
    have hfl : fl.length = n2 := by have := (flOk_all hf).1; have := Hl2.out; omega
    have h40 : n2 ≤ 40 := by have := (netOk_all hn).1.2.2; rw [Hl2.out] at this; exact this
    have Hc := Lib.hid hc
    have Hn := Lib.hid hn
    have Hf := Lib.hid hf
    have tb : (flCode n fl != 0) = false := by simp [hc]
    have tz : (flCode n fl == 0) = true := by simp [hc]
    clear hc hn hf
    obtain rfl : n2 = n3 := by omega
    go_wp2_with fail
    refine (l05Out_any n fl _ (HA.out.gr hg0) (HS.out.gr hg0) Hn.out Hf.out).mono ?_
    rintro e w2 ⟨A, c, rfl, ho, hg2⟩
    have Ho := Lib.hid ho
    have HoS := Lib.hid (SlAt.of_own ho hm1)
    have hgw := hg0.trans hg2
    have c0 := hg2.has b0
    have c1' := hg2.has b1
    clear ho b0 b1
    go_wp2_with fail
    refine (l06List_any (outL n fl) _ HoS.out hm1).mono ?_
    rintro e w3 ⟨rfl, hg3⟩
    have hg03 := hgw.trans hg3
    have e3 : supOk n.nodes.length (outL n fl) = (supOk n1 (outL n fl)) := by rw [Hl1.out]
    cases hq : (supOk n1 (outL n fl)) with
    | true =>
      have Hq := Lib.hid (e3.trans hq)
      have Hsc : Hid (soCode n fl = 0) := Lib.hid (by rw [soCode, if_pos Hc.out, if_pos Hq.out])
      clear e3 hq
      go_wp2_with fail
      go_ret2
      refine ⟨_, _, _, by rw [Hsc.out]; rfl, hm1, ?_, hg03⟩
      rw [soRes, if_pos Hsc.out]
      exact own_base (own_gr Ho.out hg3) hg0.size
    | false =>
      have Hq := Lib.hid (e3.trans hq)
      have Hsc : Hid (soCode n fl = 2) := Lib.hid (by rw [soCode, if_pos Hc.out, if_neg (by rw [Hq.out]; decide)])
      clear e3 hq
      go_wp2_with fail
      go_ret2
      exact ⟨_, _, _, by rw [Hsc.out]; rfl, Nat.zero_le _, by rw [so_bad (by rw [Hsc.out]; decide)]; exact World.ownsRow_nil _ _ _ _, hg03⟩
  · have Hc := Lib.hid hc
    have tb : (flCode n fl != 0) = true := by simp [hc]
    have tz : (flCode n fl == 0) = false := by simp [hc]
    clear hc
    go_wp2_with fail
    go_ret2
    have e : soCode n fl = flCode n fl := by rw [soCode, if_neg Hc.out]
    exact ⟨_, _, _, by rw [e]; rfl, Nat.zero_le _, by rw [so_bad (by rw [e]; exact Hc.out)]; exact World.ownsRow_nil _ _ _ _, hg0⟩
end Go.Proofs.Ytbckjlejkedonaa
