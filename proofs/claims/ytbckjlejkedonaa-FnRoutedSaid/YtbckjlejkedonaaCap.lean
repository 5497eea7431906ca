/-
  Capacities of sets of nodes.
-/
import Derived.Test.YtbckjlejkedonaaFlowB
import Derived.Test.YtbckjlejkedonaaSwitches
import Derived.Deep.CutRange
set_option linter.unusedSimpArgs false
set_option linter.unusedVariables false
namespace Go.Proofs.Ytbckjlejkedonaa
open Go.ChangeShapes Go.WideShapes Go.ChangeAt Go.RowKit

def capAt (s : List Int) (p : GPipe) : Int := if (decide (p.src ∈ s) != decide (p.dst ∈ s)) = true then p.lim else 0
def capTo (n : GNet) (s : List Int) (k : Nat) : Int := ((n.pipes.take k).map (capAt s)).sum
def caCode (n : GNet) (s : List Int) : Int := if netOk n = true then (if setOk ((n.nodes.length : Int) - 1) s = true then 0 else 2) else 1
def capVal (n : GNet) (s : List Int) : Int := if caCode n s = 0 then capTo n s n.pipes.length else 0
theorem capTo_step {n : GNet} {s : List Int} {k : Nat} {p : GPipe} (h : n.pipes[k]? = some p) : capTo n s (k + 1) = capTo n s k + capAt s p := by
  unfold capTo
  rw [List.take_add_one, h]
  simp
theorem capTo_bnd {n : GNet} (hn : netOk n = true) (s : List Int) (k : Nat) : 0 ≤ capTo n s k ∧ capTo n s k ≤ 30000 * (k : Int) := by
  induction k with
  | zero => simp [capTo]
  | succ k ih =>
    by_cases hk : k < n.pipes.length
    · have hx : n.pipes[k]? = some n.pipes[k] := List.getElem?_eq_getElem hk
      rw [capTo_step hx]
      have hp := pipeOk_all ((netOk_all hn).2 k _ hx)
      have hl : 1 ≤ n.pipes[k].lim ∧ n.pipes[k].lim ≤ 30000 := hp.2.2.2.2.2
      unfold capAt
      split <;> omega
    · have e : capTo n s (k + 1) = capTo n s k := by
        unfold capTo
        rw [List.take_of_length_le (by omega), List.take_of_length_le (by omega)]
      rw [e]
      omega
theorem ca_parts {n : GNet} {s : List Int} (hn : netOk n = true) : setOk ((n.nodes.length : Int) - 1) s = (s.all (inN n) && incOk s) := by
  rw [setOk_eq]
  rfl
set_option maxHeartbeats 3200000 in
set_option maxRecDepth 100000 in
theorem SetCapacity_any {A1 A2 A4 : Option Addr} {n1 c1 n2 c2 n4 c4 : Nat} (n : GNet) (s : List Int) (w : World) (hA : NetAt w A1 n1 c1 A2 n2 c2 n) (hS : SlAt w 1 A4 n4 c4 (ints s)) :
    Calls Try.prog 29 #[.agg #[.slice A1 n1 c1, .slice A2 n2 c2], .slice A4 n4 c4] w fun e w' => e = .returned (.tuple #[.int .i64 (capVal n s), .int .i64 (caCode n s)]) ∧ Gr w w' := by
  have HA := Lib.hid hA
  have HS := Lib.hid hS
  have hm2 := hA.m2
  have Hl2 := Lib.hid hA.l2
  clear hA hS
  go_enter Try.func29, Try.ntmps29
  go_wp2_with fail
  refine (checkNodes_any n s _ (HA.out.gr ((Gr.refl _).alloc _)) (HS.out.gr ((Gr.refl _).alloc _))).mono ?_
  rintro e w1 ⟨rfl, hg1⟩
  have hg0 : Gr w w1 := ((Gr.refl _).alloc _).trans hg1
  have b0 : w1.cell? ⟨w.heap.size, 0, none⟩ = some (.slice A1 n1 c1) := hg1.has (by simp [go_sem])
  have b1 : w1.cell? ⟨w.heap.size, 1, none⟩ = some (.slice A2 n2 c2) := hg1.has (by simp [go_sem])
  clear hg1
  by_cases hn : netOk n = true
  · by_cases ha : s.all (inN n) = true
    · have tc : (ndCode n s != 0) = false := by simp [ndCode, hn, ha]
      have Hn := Lib.hid hn
      have Ha := Lib.hid ha
      clear hn ha
      go_wp2_with fail
      refine (increasing_any s _ (HS.out.gr hg0)).mono ?_
      rintro e w2 ⟨rfl, hg2⟩
      have hgw2 := hg0.trans hg2
      replace b0 := hg2.has b0
      replace b1 := hg2.has b1
      cases hi : incOk s with
      | false =>
        have hcc : caCode n s = 2 := by rw [caCode, if_pos Hn.out, ca_parts Hn.out, hi, Bool.and_false]; rfl
        have hcv : capVal n s = 0 := by rw [capVal, hcc]; rfl
        have Hcc := Lib.hid hcc
        have Hcv := Lib.hid hcv
        clear hi hcc hcv
        go_wp2_with fail
        go_ret2
        exact ⟨by rw [Hcc.out, Hcv.out]; rfl, hgw2⟩
      | true =>
        have hcc : caCode n s = 0 := by rw [caCode, if_pos Hn.out, ca_parts Hn.out, hi, Ha.out]; rfl
        have Hcc := Lib.hid hcc
        have Hbd := Lib.hid (capTo_bnd Hn.out s)
        clear hi hcc
        go_wp2_with fail
        go_loopw [7, 22] (fun a i wr => ∃ k : Nat, k ≤ n2 ∧ i = .int .i64 k ∧ a = .int .i64 (capTo n s k) ∧ Gr w wr ∧ wr.cell? ⟨w.heap.size, 1, none⟩ = some (.slice A2 n2 c2)) (fun _ i _ => n2 - (intOf i).toNat)
        case atStart => exact ⟨0, Nat.zero_le _, rfl, rfl, hgw2, b1⟩
        case round =>
          obtain ⟨k, hk, rfl, rfl, hgr, y1⟩ := hrel
          have hbk := Hbd.out k
          have hn2' : n2 ≤ 1048576 := hm2
          by_cases hlt : k < n2
          · obtain ⟨p, hp⟩ : ∃ p, n.pipes[k]? = some p := ⟨_, List.getElem?_eq_getElem (by have := Hl2.out; omega)⟩
            have hst := capTo_step (s := s) hp
            have hbk' := Hbd.out (k + 1)
            obtain ⟨b, o, hAA, hb, p0, p1, p2, p3, p4⟩ := (HA.out.gr hgr).pipes.pp hp
            subst hAA
            have Hst := Lib.hid hst
            have t1 : (k : Int) < (n2 : Int) := by omega
            have t0 : (0 : Int) ≤ (k : Int) := by omega
            clear hp hst
            go_upto_region 10 with fail
            obtain ⟨w4, hw4⟩ : ∃ W, W = wr.alloc (.cells #[.int .i64 p.src, .int .i64 p.dst, .int .i64 p.k, .int .i64 p.vol, .int .i64 p.lim] 126) := ⟨_, rfl⟩
            have hg4 : Gr wr w4 := by rw [hw4]; exact (Gr.refl _).alloc _
            have x0 : w4.cell? ⟨wr.heap.size, 0, none⟩ = some (.int .i64 p.src) := by rw [hw4]; simp [go_sem]
            have x1 : w4.cell? ⟨wr.heap.size, 1, none⟩ = some (.int .i64 p.dst) := by rw [hw4]; simp [go_sem]
            have x4 : w4.cell? ⟨wr.heap.size, 4, none⟩ = some (.int .i64 p.lim) := by rw [hw4]; simp [go_sem]
            rw [← hw4]
            have hgr4 := hgr.trans hg4
            have y1' := hg4.has y1
            clear hw4 p0 p1 p2 p3 p4
            go_wp2_with fail
            refine wp_region_text (fun w' => Gr w4 w' ∧ w'.cell? ⟨wr.heap.size, 0, none⟩ = some (.int .i64 p.src) ∧ w'.cell? ⟨wr.heap.size, 1, none⟩ = some (.int .i64 p.dst)) (by kernel_rfl) (by kernel_rfl) (by decide) ⟨(Gr.refl _).drew, x0, x1⟩ ?_
            repeat (first
            | ((with_reducible refine wpText_skip ?_ ?_)
               · rfl
               simp only [Act.put, List.setIfInBounds_toArray, List.set_cons_zero, List.set_cons_succ])
            | ((with_reducible refine wpText_yield (v := ?_) ?_ ?_ ?_)
               rotate_left
               · rfl
               · (intro W hW; obtain ⟨hWg, hW0, hW1⟩ := hW; first | (go_simp; done) | (go_simp; with_reducible rfl))
               simp only [Act.put, List.setIfInBounds_toArray, List.set_cons_zero, List.set_cons_succ])
            | ((with_reducible refine wpText_yield1 (v := ?_) ?_ ?_ ?_)
               rotate_left
               · rfl
               · (intro W hW; obtain ⟨hWg, hW0, hW1⟩ := hW; first | (go_simp; done) | (go_simp; with_reducible rfl))
               simp only [Act.put, List.setIfInBounds_toArray, List.set_cons_zero, List.set_cons_succ]))
            refine wpText_do (.bool (decide (p.src ∈ s))) (by rfl) (fun W hW K hK => ?_) ?_
            · obtain ⟨hWg, hW0, hW1⟩ := hW
              go_simp
              refine (containsInt_any s p.src _ (HS.out.gr (hgr4.trans hWg))).mono ?_
              rintro e w' ⟨rfl, rfl⟩
              exact hK _ ⟨hWg, hW0, hW1⟩
            simp only [Act.put, List.setIfInBounds_toArray, List.set_cons_zero, List.set_cons_succ]
            repeat (first
            | ((with_reducible refine wpText_skip ?_ ?_)
               · rfl
               simp only [Act.put, List.setIfInBounds_toArray, List.set_cons_zero, List.set_cons_succ])
            | ((with_reducible refine wpText_yield (v := ?_) ?_ ?_ ?_)
               rotate_left
               · rfl
               · (intro W hW; obtain ⟨hWg, hW0, hW1⟩ := hW; first | (go_simp; done) | (go_simp; with_reducible rfl))
               simp only [Act.put, List.setIfInBounds_toArray, List.set_cons_zero, List.set_cons_succ])
            | ((with_reducible refine wpText_yield1 (v := ?_) ?_ ?_ ?_)
               rotate_left
               · rfl
               · (intro W hW; obtain ⟨hWg, hW0, hW1⟩ := hW; first | (go_simp; done) | (go_simp; with_reducible rfl))
               simp only [Act.put, List.setIfInBounds_toArray, List.set_cons_zero, List.set_cons_succ]))
            refine wpText_do (.bool (decide (p.dst ∈ s))) (by rfl) (fun W hW K hK => ?_) ?_
            · obtain ⟨hWg, hW0, hW1⟩ := hW
              go_simp
              refine (containsInt_any s p.dst _ (HS.out.gr (hgr4.trans hWg))).mono ?_
              rintro e w' ⟨rfl, rfl⟩
              exact hK _ ⟨hWg, hW0, hW1⟩
            simp only [Act.put, List.setIfInBounds_toArray, List.set_cons_zero, List.set_cons_succ]
            repeat (first
            | ((with_reducible refine wpText_skip ?_ ?_)
               · rfl
               simp only [Act.put, List.setIfInBounds_toArray, List.set_cons_zero, List.set_cons_succ])
            | ((with_reducible refine wpText_yield (v := ?_) ?_ ?_ ?_)
               rotate_left
               · rfl
               · (intro W hW; obtain ⟨hWg, hW0, hW1⟩ := hW; first | (go_simp; done) | (go_simp; with_reducible rfl))
               simp only [Act.put, List.setIfInBounds_toArray, List.set_cons_zero, List.set_cons_succ])
            | ((with_reducible refine wpText_yield1 (v := ?_) ?_ ?_ ?_)
               rotate_left
               · rfl
               · (intro W hW; obtain ⟨hWg, hW0, hW1⟩ := hW; first | (go_simp; done) | (go_simp; with_reducible rfl))
               simp only [Act.put, List.setIfInBounds_toArray, List.set_cons_zero, List.set_cons_succ]))
            rintro w6 ⟨hS6, -, -⟩
            have hgr6 := hgr4.trans hS6
            have y6 := hS6.has y1'
            have x6 := hS6.has x4
            clear x0 x1 x4 y1 y1' hgr4
            by_cases hq : (decide (p.src ∈ s) != decide (p.dst ∈ s)) = true
            · have hsum : IntKind.i64.wrap (capTo n s k + p.lim) = capTo n s (k + 1) := by
                have e := Hst.out
                unfold capAt at e
                rw [if_pos hq] at e
                rw [← e]
                exact IntWalk.i64_in _ (by omega)
              rw [show (!(decide (p.src ∈ s) == decide (p.dst ∈ s))) = true from hq]
              clear hq
              go_wp2_with fail
              go_roundw
              case rel => exact ⟨k + 1, by omega, by go_num, rfl, hgr6, y6⟩
              case measure => simp [intOf]; omega
            · have hq' : (decide (p.src ∈ s) != decide (p.dst ∈ s)) = false := by simpa using hq
              have hsum : capTo n s k = capTo n s (k + 1) := by
                have e := Hst.out
                unfold capAt at e
                rw [if_neg hq] at e
                omega
              rw [show (!(decide (p.src ∈ s) == decide (p.dst ∈ s))) = false from hq']
              clear hq hq'
              go_wp2_with fail
              go_roundw
              case rel => exact ⟨k + 1, by omega, by go_num, by rw [hsum], hgr6, y6⟩
              case measure => simp [intOf]; omega
          · obtain rfl : k = n2 := by omega
            have hcv : capVal n s = capTo n s k := by rw [capVal, if_pos Hcc.out, Hl2.out]
            have Hcv := Lib.hid hcv
            clear hcv
            go_wp2_with fail
            go_ret2
            exact ⟨by rw [Hcc.out, Hcv.out]; rfl, hgr⟩
    · have tc : (ndCode n s != 0) = true := by simp [ndCode, hn, ha]
      have hnd : ndCode n s = 2 := by simp [ndCode, hn, ha]
      have hcc : caCode n s = 2 := by
        have : s.all (inN n) = false := by simpa using ha
        rw [caCode, if_pos hn, ca_parts hn, this, Bool.false_and]; rfl
      have hcv : capVal n s = 0 := by rw [capVal, hcc]; rfl
      have Hcc := Lib.hid hcc
      have Hcv := Lib.hid hcv
      have Hnd := Lib.hid hnd
      clear hcc hcv hnd ha hn
      go_wp2_with fail
      go_ret2
      exact ⟨by rw [Hcc.out, Hcv.out, Hnd.out]; rfl, hg0⟩
  · have hn' : netOk n = false := by simpa using hn
    have tc : (ndCode n s != 0) = true := by simp [ndCode, hn']
    have hnd : ndCode n s = 1 := by simp [ndCode, hn']
    have hcc : caCode n s = 1 := by simp [caCode, hn']
    have hcv : capVal n s = 0 := by simp [capVal, hcc]
    have Hcc := Lib.hid hcc
    have Hcv := Lib.hid hcv
    have Hnd := Lib.hid hnd
    clear hcc hcv hnd hn hn'
    go_wp2_with fail
    go_ret2
    exact ⟨by rw [Hcc.out, Hcv.out, Hnd.out]; rfl, hg0⟩
theorem SetCap_aux {n : GNet} {s : List Int} (hn : netOk n = true) (ha : setOk ((n.nodes.length : Int) - 1) s = true) : caCode n s = 0 := by
  rw [caCode, if_pos hn, if_pos ha]
theorem SetCap_auy {n : GNet} {s : List Int} (hn : netOk n = true) (ha : setOk ((n.nodes.length : Int) - 1) s = false) : caCode n s = 2 := by
  rw [caCode, if_pos hn, if_neg (by rw [ha]; decide)]
end Go.Proofs.Ytbckjlejkedonaa
