/-
  For every input the law FnPoints returns true. No condition. The walk is printed by gen_laws.py.
-/
import Derived.Test.YthhmhigddmimjaaGreatLawKs
import Derived.Test.YthhmhigddmimjaaGreatPtF
import Derived.Test.YthhmhigddmimjaaGreatDrawS
import Derived.Test.YthhmhigddmimjaaGreatOutA
import Derived.Test.YthhmhigddmimjaaGreatLawKs
import Derived.Test.YthhmhigddmimjaaGreatSeat
import Derived.Test.YthhmhigddmimjaaGreatOpen
import Derived.Test.YthhmhigddmimjaaGreatText
namespace Go.Proofs.YthhmhigddmimjaaGreat
open Go.ChangeShapes Go.WideShapes Go.ChangeAt Go.RowKit Go.Deep Go.Joins

namespace FnPoints
set_option maxHeartbeats 8000000 in
set_option maxRecDepth 100000 in
theorem walk (A : Option Addr) (n c : Nat) (bs : List UInt8) (w : World) (hR : Sl w 1 A n (byts bs)) (hnc : n ≤ c) (_hm : n ≤ maxLen) :
    Calls Tryz.prog 8 #[.slice A n c] w fun e w' => e = .returned (.bool true) ∧ Gr w w' := by
  have HR := Lib.hid hR
  clear hR
  go_enter Tryz.func8, Tryz.ntmps8
  go_wp2_with fail
  refine (big_any _).mono ?_
  rintro e w' ⟨rfl, hw'⟩
  rw [← hw']
  clear hw'
  by_cases hb : 4096 < n
  · have tb : decide (4096 < n) = true := decide_eq_true hb
    go_wp2_with fail
    go_ret
    exact ⟨rfl, Gr.refl _⟩
  have tb : decide (4096 < n) = false := decide_eq_false hb
  go_wp2_with fail
  refine (DrawOperatingPoint_any bs _ ⟨HR.out, hnc, by omega⟩).mono ?_
  rintro e w0 ⟨A1, n1, c1, A2, n2, c2, v, A3, n3, c3, sup, rfl, hN, hHU, gw⟩
  obtain ⟨w1, hw1⟩ : ∃ W, W = w0.alloc (.cells #[.slice A1 n1 c1, .slice A2 n2 c2] 32) := ⟨_, rfl⟩
  obtain ⟨M, hM⟩ : ∃ M, M = w0.heap.size := ⟨_, rfl⟩
  have a0 : w1.cell? ⟨M, 0, none⟩ = some (.slice A1 n1 c1) := by rw [hw1, hM]; simp [go_sem]
  have a1 : w1.cell? ⟨M, 1, none⟩ = some (.slice A2 n2 c2) := by rw [hw1, hM]; simp [go_sem]
  have h01 : Gr w0 w1 := by rw [hw1]; exact (Gr.refl _).alloc _
  replace gw : Gr w w1 := gw.trans h01
  have HN := Lib.hid (hN.gr h01)
  have mHU := hHU.small
  have HU := Lib.hid (hHU.gr h01)
  have Hw1 := Lib.hid hw1
  have HM := Lib.hid hM
  clear hw1 hM hN h01 hHU
  go_wp2_with fail
  rw [← Hw1.out, ← HM.out]
  refine (OperatingPoint_any v sup _ HN.out HU.out).mono ?_
  rintro e w2 ⟨PA, Pm, Pc, PB, Pk, Pd, rfl, hF, hL, h⟩
  replace gw := gw.trans h
  replace a0 := h.has a0
  replace a1 := h.has a1
  replace HN := Lib.hid (HN.out.gr h)
  replace HU := Lib.hid (HU.out.gr h)
  go_upto_region 5 with fail
  obtain ⟨w3, hw3⟩ : ∃ W, W = w2.alloc (.cells #[.slice PA Pm Pc, .slice PB Pk Pd] 56) := ⟨_, rfl⟩
  have h' : Gr w2 w3 := by rw [hw3]; exact (Gr.refl _).alloc _
  obtain ⟨PP, hPP⟩ : ∃ P, P = w2.heap.size := ⟨_, rfl⟩
  have P0 : w3.cell? ⟨PP, 0, none⟩ = some (.slice PA Pm Pc) := by rw [hw3, hPP]; simp [go_sem]
  have P1 : w3.cell? ⟨PP, 1, none⟩ = some (.slice PB Pk Pd) := by rw [hw3, hPP]; simp [go_sem]
  have HPF := Lib.hid (hF.gr h')
  have HPL := Lib.hid (hL.gr h')
  rw [← hw3, ← hPP]
  replace gw := gw.trans h'
  replace a0 := h'.has a0
  replace a1 := h'.has a1
  replace HN := Lib.hid (HN.out.gr h')
  replace HU := Lib.hid (HU.out.gr h')
  clear hF hL h h' hw3 hPP
  go_wp2_with fail
  refine (spOperatingPoint_any v sup _ HN.out HU.out).mono ?_
  rintro e w4 ⟨QA, Qm, Qc, QB, Qk, Qd, rfl, hF, hL, h⟩
  replace gw := gw.trans h
  replace a0 := h.has a0
  replace a1 := h.has a1
  replace P0 := h.has P0
  replace P1 := h.has P1
  replace HN := Lib.hid (HN.out.gr h)
  replace HU := Lib.hid (HU.out.gr h)
  replace HPF := Lib.hid (HPF.out.gr h)
  replace HPL := Lib.hid (HPL.out.gr h)
  go_upto_region 6 with fail
  obtain ⟨w5, hw5⟩ : ∃ W, W = w4.alloc (.cells #[.slice QA Qm Qc, .slice QB Qk Qd] 56) := ⟨_, rfl⟩
  have h' : Gr w4 w5 := by rw [hw5]; exact (Gr.refl _).alloc _
  obtain ⟨QP, hQP⟩ : ∃ P, P = w4.heap.size := ⟨_, rfl⟩
  have Q0 : w5.cell? ⟨QP, 0, none⟩ = some (.slice QA Qm Qc) := by rw [hw5, hQP]; simp [go_sem]
  have Q1 : w5.cell? ⟨QP, 1, none⟩ = some (.slice QB Qk Qd) := by rw [hw5, hQP]; simp [go_sem]
  have HQF := Lib.hid (hF.gr h')
  have HQL := Lib.hid (hL.gr h')
  rw [← hw5, ← hQP]
  replace gw := gw.trans h'
  replace a0 := h'.has a0
  replace a1 := h'.has a1
  replace P0 := h'.has P0
  replace P1 := h'.has P1
  replace HN := Lib.hid (HN.out.gr h')
  replace HU := Lib.hid (HU.out.gr h')
  replace HPF := Lib.hid (HPF.out.gr h')
  replace HPL := Lib.hid (HPL.out.gr h')
  clear hF hL h h' hw5 hQP
  go_wp2_with fail
  refine (likeInts_same (opFl v sup) _ HPF.out HQF.out).mono ?_
  rintro e w6 ⟨rfl, h⟩
  replace gw := gw.trans h
  replace a0 := h.has a0
  replace a1 := h.has a1
  replace P0 := h.has P0
  replace P1 := h.has P1
  replace Q0 := h.has Q0
  replace Q1 := h.has Q1
  replace HN := Lib.hid (HN.out.gr h)
  replace HU := Lib.hid (HU.out.gr h)
  replace HPF := Lib.hid (HPF.out.gr h)
  replace HPL := Lib.hid (HPL.out.gr h)
  replace HQF := Lib.hid (HQF.out.gr h)
  replace HQL := Lib.hid (HQL.out.gr h)
  clear h
  go_wp2_with fail
  refine (likeInts_same (opLv v sup true) _ HPL.out HQL.out).mono ?_
  rintro e w7 ⟨rfl, h⟩
  replace gw := gw.trans h
  replace a0 := h.has a0
  replace a1 := h.has a1
  replace P0 := h.has P0
  replace P1 := h.has P1
  replace Q0 := h.has Q0
  replace Q1 := h.has Q1
  replace HN := Lib.hid (HN.out.gr h)
  replace HU := Lib.hid (HU.out.gr h)
  replace HPF := Lib.hid (HPF.out.gr h)
  replace HPL := Lib.hid (HPL.out.gr h)
  replace HQF := Lib.hid (HQF.out.gr h)
  replace HQL := Lib.hid (HQL.out.gr h)
  clear h
  go_wp2_with fail
  refine (IsOperable_any v sup _ HN.out HU.out).mono ?_
  rintro e w8 ⟨rfl, h⟩
  replace gw := gw.trans h
  replace a0 := h.has a0
  replace a1 := h.has a1
  replace P0 := h.has P0
  replace P1 := h.has P1
  replace Q0 := h.has Q0
  replace Q1 := h.has Q1
  replace HN := Lib.hid (HN.out.gr h)
  replace HU := Lib.hid (HU.out.gr h)
  replace HPF := Lib.hid (HPF.out.gr h)
  replace HPL := Lib.hid (HPL.out.gr h)
  replace HQF := Lib.hid (HQF.out.gr h)
  replace HQL := Lib.hid (HQL.out.gr h)
  clear h
  go_wp2_with fail
  refine (ReasonOf_any v sup _ HN.out HU.out).mono ?_
  rintro e w9 ⟨rfl, h⟩
  replace gw := gw.trans h
  replace a0 := h.has a0
  replace a1 := h.has a1
  replace P0 := h.has P0
  replace P1 := h.has P1
  replace Q0 := h.has Q0
  replace Q1 := h.has Q1
  replace HN := Lib.hid (HN.out.gr h)
  replace HU := Lib.hid (HU.out.gr h)
  replace HPF := Lib.hid (HPF.out.gr h)
  replace HPL := Lib.hid (HPL.out.gr h)
  replace HQF := Lib.hid (HQF.out.gr h)
  replace HQL := Lib.hid (HQL.out.gr h)
  clear h
  go_wp2_with fail
  refine (spReasonOf_any v sup _ HN.out HU.out).mono ?_
  rintro e w10 ⟨rfl, h⟩
  replace gw := gw.trans h
  replace a0 := h.has a0
  replace a1 := h.has a1
  replace P0 := h.has P0
  replace P1 := h.has P1
  replace Q0 := h.has Q0
  replace Q1 := h.has Q1
  replace HN := Lib.hid (HN.out.gr h)
  replace HU := Lib.hid (HU.out.gr h)
  replace HPF := Lib.hid (HPF.out.gr h)
  replace HPL := Lib.hid (HPL.out.gr h)
  replace HQF := Lib.hid (HQF.out.gr h)
  replace HQL := Lib.hid (HQL.out.gr h)
  clear h
  by_cases hc : opCode v sup = 0
  · have Hc := Lib.hid hc
    have tc : (opCode v sup != 0) = false := by simp [hc]
    have HwiT := Lib.hid (op_within hc true)
    have HwiF := Lib.hid (op_within hc false)
    have Hkl := Lib.hid (kl_yes hc)
    have Htop := Lib.hid (op_top hc)
    have hlen : (opLv v sup true).length = n1 := (op_lv_len hc true).trans HN.out.l1
    have hqk : Qk = n1 := by rw [← hlen]; exact HQL.out.sl.ilen.symm
    subst hqk
    have Hlen := Lib.hid hlen
    have Hl1 := Lib.hid HN.out.l1
    have hm1 := HN.out.m1
    clear hc hlen
    go_wp2_with fail
    go_loopw [13, 14] (fun tp i wr => ∃ (k : Nat) (b : Bool), k ≤ Qk ∧ i = .int .i64 k ∧ tp = .bool b ∧ (∀ j, j < k → (opLv v sup true).getD j 0 = (nodeD v j).high → b = true) ∧ Gr w10 wr) (fun _ i _ => Qk - (intOf i).toNat)
    case atStart => exact ⟨0, false, Nat.zero_le _, rfl, rfl, fun j h => absurd h (by omega), Gr.refl _⟩
    case round =>
      obtain ⟨k, b, hk, rfl, rfl, hb, hgr⟩ := hrel
      have Hb := Lib.hid hb
      have z0 := hgr.has a0
      have z1 := hgr.has Q1
      rename World => wr
      clear hb
      by_cases hlt : k < Qk
      · obtain ⟨x, hx⟩ : ∃ x, (opLv v sup true)[k]? = some x := ⟨_, List.getElem?_eq_getElem (by have := Hlen.out; omega)⟩
        have hxe : (opLv v sup true).getD k 0 = x := by rw [List.getD_eq_getElem?_getD, hx]; rfl
        obtain ⟨y, hy⟩ : ∃ y, v.nodes[k]? = some y := ⟨_, List.getElem?_eq_getElem (by have := Hl1.out; omega)⟩
        have hnd : nodeD v k = y := by rw [nodeD, List.getD_eq_getElem?_getD, hy]; rfl
        obtain ⟨b1, o1, hA1, hb1, e1⟩ := (HQL.out.gr hgr).sl.int hx
        subst hA1
        obtain ⟨b2, o2, hA2, hb2, d0, d1, d2⟩ := (HN.out.gr hgr).nodes.nd hy
        subst hA2
        have t1 : (k : Int) < (Qk : Int) := by omega
        have t0 : (0 : Int) ≤ (k : Int) := by omega
        have Hat : Hid ((opLv v sup true).getD k 0 = (nodeD v k).high ↔ x = y.high) := Lib.hid (by rw [hxe, hnd])
        clear hx hxe hy hnd d0 d1
        cases b with
        | true =>
          go_wp2_with fail
          go_quiet (fail)
          go_wp2_with fail
          go_roundw
          case rel => exact ⟨k + 1, true, by omega, by go_num, rfl, fun j hj _ => rfl, hgr.drewN _⟩
          case measure => simp [intOf]; omega
        | false =>
          by_cases he : x = y.high
          · have te : (x == y.high) = true := by simp [he]
            clear he
            go_wp2_with fail
            go_quiet (fail)
            go_wp2_with fail
            go_roundw
            case rel => exact ⟨k + 1, true, by omega, by go_num, rfl, fun j hj _ => rfl, hgr.drewN _⟩
            case measure => simp [intOf]; omega
          · have te : (x == y.high) = false := by simp [he]
            have He := Lib.hid he
            clear he
            go_wp2_with fail
            go_quiet (fail)
            go_wp2_with fail
            go_roundw
            case rel => exact ⟨k + 1, false, by omega, by go_num, rfl, fun j hj e => (by by_cases ej : j = k; (· subst ej; exact absurd (Hat.out.1 e) He.out); exact Hb.out j (by omega) e), hgr.drewN _⟩
            case measure => simp [intOf]; omega
      · obtain rfl : k = Qk := by omega
        have hbt : b = true := by
          obtain ⟨i, hi, e⟩ := Htop.out
          exact Hb.out i (by have := Hl1.out; omega) e
        subst hbt
        clear Hb Htop z0 z1
        replace gw := gw.trans hgr
        replace a0 := hgr.has a0
        replace a1 := hgr.has a1
        replace P0 := hgr.has P0
        replace P1 := hgr.has P1
        replace Q0 := hgr.has Q0
        replace Q1 := hgr.has Q1
        replace HN := Lib.hid (HN.out.gr hgr)
        replace HU := Lib.hid (HU.out.gr hgr)
        replace HPF := Lib.hid (HPF.out.gr hgr)
        replace HPL := Lib.hid (HPL.out.gr hgr)
        replace HQF := Lib.hid (HQF.out.gr hgr)
        replace HQL := Lib.hid (HQL.out.gr hgr)
        clear hgr
        go_wp2_with fail
        refine (LowestPoint_any v sup _ HN.out HU.out).mono ?_
        rintro e w11 ⟨RA, Rm, Rc, RB, Rk, Rd, rfl, hF, hL, h⟩
        replace gw := gw.trans h
        replace a0 := h.has a0
        replace a1 := h.has a1
        replace P0 := h.has P0
        replace P1 := h.has P1
        replace Q0 := h.has Q0
        replace Q1 := h.has Q1
        replace HN := Lib.hid (HN.out.gr h)
        replace HU := Lib.hid (HU.out.gr h)
        replace HPF := Lib.hid (HPF.out.gr h)
        replace HPL := Lib.hid (HPL.out.gr h)
        replace HQF := Lib.hid (HQF.out.gr h)
        replace HQL := Lib.hid (HQL.out.gr h)
        go_upto_region 20 with fail
        obtain ⟨w12, hw12⟩ : ∃ W, W = w11.alloc (.cells #[.slice RA Rm Rc, .slice RB Rk Rd] 56) := ⟨_, rfl⟩
        have h' : Gr w11 w12 := by rw [hw12]; exact (Gr.refl _).alloc _
        obtain ⟨RP, hRP⟩ : ∃ P, P = w11.heap.size := ⟨_, rfl⟩
        have R0 : w12.cell? ⟨RP, 0, none⟩ = some (.slice RA Rm Rc) := by rw [hw12, hRP]; simp [go_sem]
        have R1 : w12.cell? ⟨RP, 1, none⟩ = some (.slice RB Rk Rd) := by rw [hw12, hRP]; simp [go_sem]
        have HRF := Lib.hid (hF.gr h')
        have HRL := Lib.hid (hL.gr h')
        rw [← hw12, ← hRP]
        replace gw := gw.trans h'
        replace a0 := h'.has a0
        replace a1 := h'.has a1
        replace P0 := h'.has P0
        replace P1 := h'.has P1
        replace Q0 := h'.has Q0
        replace Q1 := h'.has Q1
        replace HN := Lib.hid (HN.out.gr h')
        replace HU := Lib.hid (HU.out.gr h')
        replace HPF := Lib.hid (HPF.out.gr h')
        replace HPL := Lib.hid (HPL.out.gr h')
        replace HQF := Lib.hid (HQF.out.gr h')
        replace HQL := Lib.hid (HQL.out.gr h')
        clear hF hL h h' hw12 hRP
        go_wp2_with fail
        refine (spLowestPoint_any v sup _ HN.out HU.out).mono ?_
        rintro e w13 ⟨SA, Sm, Sc, SB, Sk, Sd, rfl, hF, hL, h⟩
        replace gw := gw.trans h
        replace a0 := h.has a0
        replace a1 := h.has a1
        replace P0 := h.has P0
        replace P1 := h.has P1
        replace Q0 := h.has Q0
        replace Q1 := h.has Q1
        replace R0 := h.has R0
        replace R1 := h.has R1
        replace HN := Lib.hid (HN.out.gr h)
        replace HU := Lib.hid (HU.out.gr h)
        replace HPF := Lib.hid (HPF.out.gr h)
        replace HPL := Lib.hid (HPL.out.gr h)
        replace HQF := Lib.hid (HQF.out.gr h)
        replace HQL := Lib.hid (HQL.out.gr h)
        replace HRF := Lib.hid (HRF.out.gr h)
        replace HRL := Lib.hid (HRL.out.gr h)
        go_upto_region 21 with fail
        obtain ⟨w14, hw14⟩ : ∃ W, W = w13.alloc (.cells #[.slice SA Sm Sc, .slice SB Sk Sd] 56) := ⟨_, rfl⟩
        have h' : Gr w13 w14 := by rw [hw14]; exact (Gr.refl _).alloc _
        obtain ⟨SP, hSP⟩ : ∃ P, P = w13.heap.size := ⟨_, rfl⟩
        have S0 : w14.cell? ⟨SP, 0, none⟩ = some (.slice SA Sm Sc) := by rw [hw14, hSP]; simp [go_sem]
        have S1 : w14.cell? ⟨SP, 1, none⟩ = some (.slice SB Sk Sd) := by rw [hw14, hSP]; simp [go_sem]
        have HSF := Lib.hid (hF.gr h')
        have HSL := Lib.hid (hL.gr h')
        rw [← hw14, ← hSP]
        replace gw := gw.trans h'
        replace a0 := h'.has a0
        replace a1 := h'.has a1
        replace P0 := h'.has P0
        replace P1 := h'.has P1
        replace Q0 := h'.has Q0
        replace Q1 := h'.has Q1
        replace R0 := h'.has R0
        replace R1 := h'.has R1
        replace HN := Lib.hid (HN.out.gr h')
        replace HU := Lib.hid (HU.out.gr h')
        replace HPF := Lib.hid (HPF.out.gr h')
        replace HPL := Lib.hid (HPL.out.gr h')
        replace HQF := Lib.hid (HQF.out.gr h')
        replace HQL := Lib.hid (HQL.out.gr h')
        replace HRF := Lib.hid (HRF.out.gr h')
        replace HRL := Lib.hid (HRL.out.gr h')
        clear hF hL h h' hw14 hSP
        go_wp2_with fail
        refine (IsWithin_any v (opLv v sup true) _ HN.out HPL.out).mono ?_
        rintro e w15 ⟨rfl, h⟩
        replace gw := gw.trans h
        replace a0 := h.has a0
        replace a1 := h.has a1
        replace P0 := h.has P0
        replace P1 := h.has P1
        replace Q0 := h.has Q0
        replace Q1 := h.has Q1
        replace R0 := h.has R0
        replace R1 := h.has R1
        replace S0 := h.has S0
        replace S1 := h.has S1
        replace HN := Lib.hid (HN.out.gr h)
        replace HU := Lib.hid (HU.out.gr h)
        replace HPF := Lib.hid (HPF.out.gr h)
        replace HPL := Lib.hid (HPL.out.gr h)
        replace HQF := Lib.hid (HQF.out.gr h)
        replace HQL := Lib.hid (HQL.out.gr h)
        replace HRF := Lib.hid (HRF.out.gr h)
        replace HRL := Lib.hid (HRL.out.gr h)
        replace HSF := Lib.hid (HSF.out.gr h)
        replace HSL := Lib.hid (HSL.out.gr h)
        clear h
        rw [HwiT.out]
        go_wp2_with fail
        refine (KeepsLimits_any v (opFl v sup) _ HN.out HPF.out).mono ?_
        rintro e w16 ⟨rfl, h⟩
        replace gw := gw.trans h
        replace a0 := h.has a0
        replace a1 := h.has a1
        replace P0 := h.has P0
        replace P1 := h.has P1
        replace Q0 := h.has Q0
        replace Q1 := h.has Q1
        replace R0 := h.has R0
        replace R1 := h.has R1
        replace S0 := h.has S0
        replace S1 := h.has S1
        replace HN := Lib.hid (HN.out.gr h)
        replace HU := Lib.hid (HU.out.gr h)
        replace HPF := Lib.hid (HPF.out.gr h)
        replace HPL := Lib.hid (HPL.out.gr h)
        replace HQF := Lib.hid (HQF.out.gr h)
        replace HQL := Lib.hid (HQL.out.gr h)
        replace HRF := Lib.hid (HRF.out.gr h)
        replace HRL := Lib.hid (HRL.out.gr h)
        replace HSF := Lib.hid (HSF.out.gr h)
        replace HSL := Lib.hid (HSL.out.gr h)
        clear h
        rw [Hkl.out]
        go_wp2_with fail
        refine (likeInts_same (opLv v sup false) _ HRL.out HSL.out).mono ?_
        rintro e w17 ⟨rfl, h⟩
        replace gw := gw.trans h
        replace a0 := h.has a0
        replace a1 := h.has a1
        replace P0 := h.has P0
        replace P1 := h.has P1
        replace Q0 := h.has Q0
        replace Q1 := h.has Q1
        replace R0 := h.has R0
        replace R1 := h.has R1
        replace S0 := h.has S0
        replace S1 := h.has S1
        replace HN := Lib.hid (HN.out.gr h)
        replace HU := Lib.hid (HU.out.gr h)
        replace HPF := Lib.hid (HPF.out.gr h)
        replace HPL := Lib.hid (HPL.out.gr h)
        replace HQF := Lib.hid (HQF.out.gr h)
        replace HQL := Lib.hid (HQL.out.gr h)
        replace HRF := Lib.hid (HRF.out.gr h)
        replace HRL := Lib.hid (HRL.out.gr h)
        replace HSF := Lib.hid (HSF.out.gr h)
        replace HSL := Lib.hid (HSL.out.gr h)
        clear h
        go_wp2_with fail
        refine (likeInts_same (opFl v sup) _ HRF.out HPF.out).mono ?_
        rintro e w18 ⟨rfl, h⟩
        replace gw := gw.trans h
        replace a0 := h.has a0
        replace a1 := h.has a1
        replace P0 := h.has P0
        replace P1 := h.has P1
        replace Q0 := h.has Q0
        replace Q1 := h.has Q1
        replace R0 := h.has R0
        replace R1 := h.has R1
        replace S0 := h.has S0
        replace S1 := h.has S1
        replace HN := Lib.hid (HN.out.gr h)
        replace HU := Lib.hid (HU.out.gr h)
        replace HPF := Lib.hid (HPF.out.gr h)
        replace HPL := Lib.hid (HPL.out.gr h)
        replace HQF := Lib.hid (HQF.out.gr h)
        replace HQL := Lib.hid (HQL.out.gr h)
        replace HRF := Lib.hid (HRF.out.gr h)
        replace HRL := Lib.hid (HRL.out.gr h)
        replace HSF := Lib.hid (HSF.out.gr h)
        replace HSL := Lib.hid (HSL.out.gr h)
        clear h
        go_wp2_with fail
        refine (IsWithin_any v (opLv v sup false) _ HN.out HRL.out).mono ?_
        rintro e w19 ⟨rfl, h⟩
        replace gw := gw.trans h
        replace a0 := h.has a0
        replace a1 := h.has a1
        replace P0 := h.has P0
        replace P1 := h.has P1
        replace Q0 := h.has Q0
        replace Q1 := h.has Q1
        replace R0 := h.has R0
        replace R1 := h.has R1
        replace S0 := h.has S0
        replace S1 := h.has S1
        replace HN := Lib.hid (HN.out.gr h)
        replace HU := Lib.hid (HU.out.gr h)
        replace HPF := Lib.hid (HPF.out.gr h)
        replace HPL := Lib.hid (HPL.out.gr h)
        replace HQF := Lib.hid (HQF.out.gr h)
        replace HQL := Lib.hid (HQL.out.gr h)
        replace HRF := Lib.hid (HRF.out.gr h)
        replace HRL := Lib.hid (HRL.out.gr h)
        replace HSF := Lib.hid (HSF.out.gr h)
        replace HSL := Lib.hid (HSL.out.gr h)
        clear h
        rw [HwiF.out]
        go_wp2_with fail
        go_ret
        exact ⟨rfl, gw⟩
  · have tc : (opCode v sup != 0) = true := by simp [hc]
    by_cases ho : ocCode v sup = 0
    · have hp := op_step hc ho
      have tp : decide (0 < opStep v sup) = true := by simp [hp]
      have tod : (ocCode v sup != 0) = false := by simp [ho]
      clear hc ho
      go_wp2_with fail
      go_ret
      exact ⟨rfl, gw⟩
    · have tod : (ocCode v sup != 0) = true := by simp [ho]
      clear hc ho
      go_wp2_with fail
      go_ret
      exact ⟨rfl, gw⟩
set_option maxRecDepth 100000 in
theorem lifted (os : Os) (started : os.Started) (H : Type) (enc : TypeId × Value → H) :
    ReturnsInHanded {} Tryz.checked os 8 .any (Rows.fnPointsSpec.pre6 enc Tryz.prog Tryz.f8 Rows.fnPointsRow.domain false) (Rows.fnPointsSpec.post enc Tryz.prog Tryz.f8 false true false false) := by
  refine returnsInHanded_of_change (C := Tryz.checked) own started (by kernel_rfl) Tryz.func8
    (ChangeSpec.witness6 (enc := enc) (C := Tryz.checked) false ⟨#[], #[.slice none 0 0], []⟩ 8 (by kernel_rfl) (by kernel_rfl) (by kernel_rfl) (by kernel_rfl)) ?_
  intro W base args ds gs before hval0 hW hcnd _
  have hval : ∀ (j : Nat) t v, Tryz.f8.params[j]? = some t → args[j]? = some v → Value.okWide Tryz.prog W .any base t v := hval0
  have hW' := hW
  obtain ⟨p, q, hA0, hV, rfl, hfz, hnd⟩ := hW
  have hA : DataW.TrodAll enc Tryz.prog W 0 (fun _ => true) true Tryz.f8.params.toList args.toList ds p := hA0
  have hAk := hA0
  have hlt : ∀ x ∈ p, x.block < W.heap.size := fun x hx => hW'.lt x (List.mem_append_left _ hx)
  rw [Tryz.params8] at hA hval
  obtain ⟨u0, vs0, e0, ds0, p0, q0, hargs, rfl, rfl, h0, r0⟩ := trodAll_cons hA
  obtain ⟨rfl, rfl, rfl⟩ := trodAll_nil r0
  obtain rfl : args = #[u0] := by cases args; simp_all
  obtain ⟨rfl, rfl⟩ := trodVars_none hV
  obtain ⟨fu0, hf0⟩ := h0
  obtain ⟨aa0, bb0, cc0, rfl⟩ := okWide_slice Tryz.underlying46 (hval 0 _ u0 rfl rfl)
  obtain ⟨A0, n0, c0, v0, hv0, k0, k0x, hR0⟩ := open_bytes (by simpa [Value.cells] using hf0)
  injection hv0 with ha0 hb0 hc0
  subst ha0 hb0 hc0
  clear hA0 hval0
  refine (walk _ _ _ v0 W hR0 k0 (Nat.le_trans k0 k0x)).mono fun e W' ⟨he, hg⟩ => ?_
  subst he
  exact ⟨_, rfl, _, [], _, [], _, [], hW', trodAll_cons_mk (shut_bool Tryz.underlying4 _) trodAll_mk0, trodAll_stays hg.below _ _ _ _ _ (by rw [Tryz.params8]; intro t ht; simp only [List.mem_cons, List.not_mem_nil, or_false] at ht; rcases ht with rfl <;> exact ⟨by kernel_rfl, of_decide_eq_true (by kernel_rfl)⟩) hAk hlt (fun x hx => by simpa using hlt x hx), rfl, hg.below.frame _, fun h => by cases h⟩
set_option maxHeartbeats 8000000 in
set_option maxRecDepth 100000 in
theorem closed : joinedFacts Tryz.prog 8 Tryz.f8 Rows.fnPointsSpec Rows.fnPointsRow = true := by
  unfold joinedFacts
  simp only [Bool.and_eq_true]
  repeat' (with_reducible apply And.intro)
  all_goals (first | with_reducible exact seat_laid | with_reducible exact seat_maps | with_reducible exact seat_heard | with_reducible exact seat_enter | (with_reducible rw [seat_stops]; as_aux_lemma => kernel_rfl) | (with_reducible rw [seat_knobs]; as_aux_lemma => kernel_rfl) | (with_reducible rw [seat_keys]; as_aux_lemma => kernel_rfl) | (with_reducible rw [seat_final]; as_aux_lemma => kernel_rfl) | (with_reducible rw [seat_make]; as_aux_lemma => kernel_rfl) | as_aux_lemma => kernel_rfl)
theorem named : Tryz.prog.funcNamed Rows.fnPointsRow.func = some 8 := by kernel_rfl
theorem over : Rows.fnPointsRow.holds Tryz.pinned (OpenSpec.ofChange Rows.fnPointsSpec) :=
  OpenClaim.holds_of_wide 8 Tryz.f8 rfl rfl rfl rfl rfl rfl rfl ⟨rfl, rfl, rfl, rfl, rfl⟩ rfl rfl rfl rfl rfl named Tryz.func8 closed
    (of_decide_eq_true (by as_aux_lemma => kernel_rfl)) (by unfold Func.isWrapper; first | (rw [if_pos (by decide +kernel)]; kernel_rfl) | (rw [if_neg (by decide +kernel)]; exact ⟨rfl, rfl⟩))
    (fun os started H enc _ => lifted os started H enc)
theorem proved : Rows.FnPointsSaid := over
#print axioms proved
end FnPoints
end Go.Proofs.YthhmhigddmimjaaGreat
