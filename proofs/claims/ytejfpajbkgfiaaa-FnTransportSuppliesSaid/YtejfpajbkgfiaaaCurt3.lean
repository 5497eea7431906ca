/-
  Functions on curtailing: the other contracts of the program and the reference.
-/
import Derived.Test.YtejfpajbkgfiaaaCurt2
namespace Go.Proofs.Ytejfpajbkgfiaaa
open Go.ChangeShapes Go.WideShapes Go.ChangeAt Go.RowKit

theorem ck_hit {n : GNet} {l : List GTr} {sc : List Int} {k : Nat} (hc : scCode n l sc = 0) (hk : k < 4) (h : ckAt n l sc k = true) (hno : ∀ j, j < k → ckAt n l sc j = false) : ckVal n l sc = k := by
  rw [ckVal, if_pos hc, leastB_hit hk h hno]; rfl
theorem ck_none {n : GNet} {l : List GTr} {sc : List Int} (hc : scCode n l sc = 0) (hno : ∀ j, j < 4 → ckAt n l sc j = false) : ckVal n l sc = -1 := by
  rw [ckVal, if_pos hc, leastB_none hno]; rfl
set_option maxHeartbeats 1000000 in
set_option maxRecDepth 100000 in
theorem CheckScales_any {A1 A2 A3 A4 : Option Addr} {n1 c1 n2 c2 n3 c3 n4 c4 : Nat} (n : GNet) (l : List GTr) (sc : List Int) (w : World) (hA : NetAt w A1 n1 c1 A2 n2 c2 n) (hL : SlAt w 4 A3 n3 c3 (l.flatMap GTr.cells)) (hS : SlAt w 1 A4 n4 c4 (ints sc)) :
    Calls Try.prog 36 #[.agg #[.slice A1 n1 c1, .slice A2 n2 c2], .slice A3 n3 c3, .slice A4 n4 c4] w fun e w' => e = .returned (.tuple #[.int .i64 (ckVal n l sc), .int .i64 (scCode n l sc)]) ∧ Gr w w' := by
  have HA := Lib.hid hA
  have HL := Lib.hid hL
  have HS := Lib.hid hS
  have hlen4 := hS.sl.ilen
  have Hlen4 := Lib.hid hlen4
  clear hA hL hS hlen4
  go_enter Try.func36, Try.ntmps36
  go_wp2_with fail
  refine (checkTransports_any _ _ _ _ _ _ _ _ _ n l _ (HA.out.gr ((Gr.refl _).alloc _)) (HL.out.sl.gr ((Gr.refl _).alloc _)) HL.out.small).mono ?_
  rintro e w1 ⟨rfl, hg1⟩
  have hg0 : Gr w w1 := ((Gr.refl _).alloc _).trans hg1
  have b0 : w1.cell? ⟨w.heap.size, 0, none⟩ = some (.slice A1 n1 c1) := hg1.has (by simp [go_sem])
  have b1 : w1.cell? ⟨w.heap.size, 1, none⟩ = some (.slice A2 n2 c2) := hg1.has (by simp [go_sem])
  clear hg1
  by_cases hc : trCode n l = 0
  · have Hc := Lib.hid hc
    have Hn := Lib.hid (trCode_zero hc).1
    have Hok := Lib.hid (trCode_zero hc).2
    have Hok1 : Hid (trsOk n1 l = true) := Lib.hid (by rw [← HA.out.l1]; exact (trCode_zero hc).2)
    have tb : (trCode n l != 0) = false := by simp [hc]
    clear hc
    go_wp2_with fail
    refine (areScales_any sc _ (HS.out.gr hg0)).mono ?_
    rintro e _ ⟨rfl, rfl⟩
    cases hs : scOk sc with
    | false =>
      have e0 : scCode n l sc = 2 := by rw [scCode, if_pos Hc.out, if_neg (by simp [hs])]
      have He := Lib.hid e0
      clear hs e0
      go_wp2_with fail
      go_ret2
      exact ⟨by rw [ckVal, if_neg (by rw [He.out]; decide), He.out]; rfl, hg0⟩
    | true =>
      have e0 : scCode n l sc = 0 := by rw [scCode, if_pos Hc.out, if_pos hs]
      have He := Lib.hid e0
      obtain rfl : n4 = 4 := by have h1 := (scOk_all hs).1; have h2 := Hlen4.out; omega
      clear hs e0
      go_wp2_with fail
      refine (curtailScales_any n l _ (HA.out.gr hg0) (HL.out.gr hg0) Hn.out Hok1.out).mono ?_
      rintro e w3 ⟨B, d, rfl, hp, hg3⟩
      obtain ⟨q, rfl, _, _⟩ := own_form hp (by omega)
      have Hp := Lib.hid hp
      have hg9 : Gr w w3 := hg0.trans hg3
      clear hp b0 b1
      go_wp2_with fail
      go_loopw [24] (fun i wr => ∃ k : Nat, k ≤ 4 ∧ i = .int .i64 k ∧ (∀ j, j < k → ckAt n l sc j = false) ∧ Gr w3 wr) (fun i _ => 4 - (intOf i).toNat)
      case atStart => exact ⟨0, Nat.zero_le _, rfl, fun j hj => by omega, Gr.refl _⟩
      case round =>
        obtain ⟨k, hk, rfl, hno, hgr⟩ := hrel
        have Hno := Lib.hid hno
        clear hno
        by_cases hlt : k < 4
        · have hat : ckAt n l sc k = !(sc.getD k 0 == (curs n l).getD k 0) := rfl
          obtain ⟨d0, _⟩ := own_int (own_gr Hp.out hgr) (get_of_lt (l := curs n l) (k := k) (by rw [curs_len Hn.out l]; exact hlt))
          obtain ⟨b, o, rfl, hb, d1⟩ := ((HS.out.gr hg9).gr hgr).sl.int (get_of_lt (l := sc) (k := k) (by rw [Hlen4.out]; exact hlt))
          generalize (curs n l).getD k 0 = s at hat d0
          generalize sc.getD k 0 = a at hat d1
          have Hat := Lib.hid hat
          have t1 : (k : Int) < 4 := by omega
          have t0 : (0 : Int) ≤ (k : Int) := by omega
          clear hat
          by_cases e1 : a = s
          · have t2 : (a != s) = false := by simp [e1]
            have E1 : Hid (ckAt n l sc k = false) := Lib.hid (by rw [Hat.out]; simp [e1])
            clear e1
            go_wp2_with fail
            go_roundw
            case rel => exact ⟨k + 1, by omega, by go_num, nb_next E1.out Hno.out, hgr⟩
            case measure => simp [intOf]; omega
          · have t2 : (a != s) = true := by simp [e1]
            have V1 := Lib.hid (ck_hit He.out hlt (by rw [Hat.out]; simp [e1]) Hno.out)
            clear e1
            go_wp2_with fail
            go_ret2
            exact ⟨by rw [V1.out, He.out]; rfl, hg9.trans hgr⟩
        · obtain rfl : k = 4 := by omega
          have V1 := Lib.hid (ck_none He.out Hno.out)
          go_wp2_with fail
          go_ret2
          exact ⟨by rw [V1.out, He.out]; rfl, hg9.trans hgr⟩
  · have e0 : scCode n l sc = trCode n l := by rw [scCode, if_neg hc]
    have V1 : Hid (ckVal n l sc = 0) := Lib.hid (by rw [ckVal, if_neg (by rw [e0]; exact hc)])
    have He := Lib.hid e0
    have tb : (trCode n l != 0) = true := by simp [hc]
    clear hc e0
    go_wp2_with fail
    go_ret2
    exact ⟨by rw [V1.out, He.out]; rfl, hg0⟩
set_option maxHeartbeats 1000000 in
set_option maxRecDepth 100000 in
theorem spCheckScales_any {A1 A2 A3 A4 : Option Addr} {n1 c1 n2 c2 n3 c3 n4 c4 : Nat} (n : GNet) (l : List GTr) (sc : List Int) (w : World) (hA : NetAt w A1 n1 c1 A2 n2 c2 n) (hL : SlAt w 4 A3 n3 c3 (l.flatMap GTr.cells)) (hS : SlAt w 1 A4 n4 c4 (ints sc)) :
    Calls Try.prog 37 #[.agg #[.slice A1 n1 c1, .slice A2 n2 c2], .slice A3 n3 c3, .slice A4 n4 c4] w fun e w' => e = .returned (.tuple #[.int .i64 (ckVal n l sc), .int .i64 (scCode n l sc)]) ∧ Gr w w' := by
  have HA := Lib.hid hA
  have HL := Lib.hid hL
  have HS := Lib.hid hS
  have hlen4 := hS.sl.ilen
  have Hlen4 := Lib.hid hlen4
  clear hA hL hS hlen4
  go_enter Try.func37, Try.ntmps37
  go_wp2_with fail
  refine (l24Code_any n l _ (HA.out.gr ((Gr.refl _).alloc _)) (HL.out.gr ((Gr.refl _).alloc _))).mono ?_
  rintro e w1 ⟨rfl, hg1⟩
  have hg0 : Gr w w1 := ((Gr.refl _).alloc _).trans hg1
  have b0 : w1.cell? ⟨w.heap.size, 0, none⟩ = some (.slice A1 n1 c1) := hg1.has (by simp [go_sem])
  have b1 : w1.cell? ⟨w.heap.size, 1, none⟩ = some (.slice A2 n2 c2) := hg1.has (by simp [go_sem])
  clear hg1
  by_cases hc : trCode n l = 0
  · have tc : (trCode n l == 0) = true := by simp [hc]
    have Hc := Lib.hid hc
    have Hn := Lib.hid (trCode_zero hc).1
    have Hok := Lib.hid (trCode_zero hc).2
    have Hok1 : Hid (trsOk n1 l = true) := Lib.hid (by rw [← HA.out.l1]; exact (trCode_zero hc).2)
    have tb : (trCode n l != 0) = false := by simp [hc]
    clear hc
    go_wp2_with fail
    refine (l24Scales_any sc _ (HS.out.gr hg0)).mono ?_
    rintro e _ ⟨rfl, rfl⟩
    cases hs : scOk sc with
    | false =>
      have e0 : scCode n l sc = 2 := by rw [scCode, if_pos Hc.out, if_neg (by simp [hs])]
      have He := Lib.hid e0
      clear hs e0
      go_wp2_with fail
      go_ret2
      exact ⟨by rw [ckVal, if_neg (by rw [He.out]; decide), He.out]; rfl, hg0⟩
    | true =>
      have e0 : scCode n l sc = 0 := by rw [scCode, if_pos Hc.out, if_pos hs]
      have He := Lib.hid e0
      obtain rfl : n4 = 4 := by have h1 := (scOk_all hs).1; have h2 := Hlen4.out; omega
      clear hs e0
      go_wp2_with fail
      refine (l25Scales_any n l _ (HA.out.gr hg0) (HL.out.gr hg0) Hn.out Hok1.out).mono ?_
      rintro e w3 ⟨B, d, rfl, hp, hg3⟩
      obtain ⟨q, rfl, _, _⟩ := own_form hp (by omega)
      have Hp := Lib.hid hp
      have hg9 : Gr w w3 := hg0.trans hg3
      clear hp b0 b1
      go_wp2_with fail
      go_loopw [10] (fun i wr => ∃ k : Nat, k ≤ 4 ∧ i = .int .i64 k ∧ (∀ j, j < k → ckAt n l sc j = false) ∧ Gr w3 wr) (fun i _ => 4 - (intOf i).toNat)
      case atStart => exact ⟨0, Nat.zero_le _, rfl, fun j hj => by omega, Gr.refl _⟩
      case round =>
        obtain ⟨k, hk, rfl, hno, hgr⟩ := hrel
        have Hno := Lib.hid hno
        clear hno
        by_cases hlt : k < 4
        · have hat : ckAt n l sc k = !(sc.getD k 0 == (curs n l).getD k 0) := rfl
          obtain ⟨d0, _⟩ := own_int (own_gr Hp.out hgr) (get_of_lt (l := curs n l) (k := k) (by rw [curs_len Hn.out l]; exact hlt))
          obtain ⟨b, o, rfl, hb, d1⟩ := ((HS.out.gr hg9).gr hgr).sl.int (get_of_lt (l := sc) (k := k) (by rw [Hlen4.out]; exact hlt))
          generalize (curs n l).getD k 0 = s at hat d0
          generalize sc.getD k 0 = a at hat d1
          have Hat := Lib.hid hat
          have t1 : (k : Int) < 4 := by omega
          have t0 : (0 : Int) ≤ (k : Int) := by omega
          clear hat
          by_cases e1 : a = s
          · have t2 : (s != a) = false := by simp [e1]
            have E1 : Hid (ckAt n l sc k = false) := Lib.hid (by rw [Hat.out]; simp [e1])
            clear e1
            go_wp2_with fail
            go_quiet (fail)
            go_wp2_with fail
            go_roundw
            case rel => exact ⟨k + 1, by omega, by go_num, nb_next E1.out Hno.out, hgr.drewN _⟩
            case measure => simp [intOf]; omega
          · have t2 : (s != a) = true := by simp; omega
            have V1 := Lib.hid (ck_hit He.out hlt (by rw [Hat.out]; simp [e1]) Hno.out)
            clear e1
            go_wp2_with fail
            go_quiet (fail)
            go_wp2_with fail
            go_ret2
            exact ⟨by rw [V1.out, He.out]; rfl, (hg9.trans hgr).drewN _⟩
        · obtain rfl : k = 4 := by omega
          have V1 := Lib.hid (ck_none He.out Hno.out)
          go_wp2_with fail
          go_ret2
          exact ⟨by rw [V1.out, He.out]; rfl, hg9.trans hgr⟩
  · have e0 : scCode n l sc = trCode n l := by rw [scCode, if_neg hc]
    have V1 : Hid (ckVal n l sc = 0) := Lib.hid (by rw [ckVal, if_neg (by rw [e0]; exact hc)])
    have He := Lib.hid e0
    have tb : (trCode n l != 0) = true := by simp [hc]
    have tc : (trCode n l == 0) = false := by simp [hc]
    clear hc e0
    go_wp2_with fail
    go_ret2
    exact ⟨by rw [V1.out, He.out]; rfl, hg0⟩
theorem CurtailScales_any {A1 A2 A3 : Option Addr} {n1 c1 n2 c2 n3 c3 : Nat} (n : GNet) (l : List GTr) (w : World) (hA : NetAt w A1 n1 c1 A2 n2 c2 n) (hL : SlAt w 4 A3 n3 c3 (l.flatMap GTr.cells)) :
    Calls Try.prog 38 #[.agg #[.slice A1 n1 c1, .slice A2 n2 c2], .slice A3 n3 c3] w fun e w' => ∃ A m c, e = .returned (.tuple #[.slice A m c, .int .i64 (trCode n l)]) ∧ m ≤ 1048576 ∧ w'.ownsRow w.heap.size 2 1 (.slice A m c) m (ints (cuRes n l)) ∧ Gr w w' := by
  have HA := Lib.hid hA
  have HL := Lib.hid hL
  clear hA hL
  go_enter Try.func38, Try.ntmps38
  go_wp2_with fail
  refine (checkTransports_any _ _ _ _ _ _ _ _ _ n l _ (HA.out.gr ((Gr.refl _).alloc _)) (HL.out.sl.gr ((Gr.refl _).alloc _)) HL.out.small).mono ?_
  rintro e w1 ⟨rfl, hg1⟩
  have hg0 : Gr w w1 := ((Gr.refl _).alloc _).trans hg1
  have b0 : w1.cell? ⟨w.heap.size, 0, none⟩ = some (.slice A1 n1 c1) := hg1.has (by simp [go_sem])
  have b1 : w1.cell? ⟨w.heap.size, 1, none⟩ = some (.slice A2 n2 c2) := hg1.has (by simp [go_sem])
  clear hg1
  by_cases hc : trCode n l = 0
  · have Hc := Lib.hid hc
    have Hn := Lib.hid (trCode_zero hc).1
    have Hok := Lib.hid (trCode_zero hc).2
    have Hok1 : Hid (trsOk n1 l = true) := Lib.hid (by rw [← HA.out.l1]; exact (trCode_zero hc).2)
    have tb : (trCode n l != 0) = false := by simp [hc]
    clear hc
    go_wp2_with fail
    refine (curtailScales_any n l _ (HA.out.gr hg0) (HL.out.gr hg0) Hn.out Hok1.out).mono ?_
    rintro e w3 ⟨B, d, rfl, hp, hg3⟩
    have Hp := Lib.hid hp
    clear hp b0 b1
    go_wp2_with fail
    go_ret2
    refine ⟨B, 4, d, by rw [Hc.out]; rfl, by omega, ?_, hg0.trans hg3⟩
    rw [cuRes, if_pos Hc.out]
    exact own_base Hp.out hg0.size
  · have Hc := Lib.hid hc
    have tb : (trCode n l != 0) = true := by simp [hc]
    clear hc
    go_wp2_with fail
    go_ret2
    refine ⟨none, 0, 0, rfl, by omega, ?_, hg0⟩
    rw [cuRes, if_neg Hc.out]
    exact World.ownsRow_nil _ _ _ _
theorem spCurtailScales_any {A1 A2 A3 : Option Addr} {n1 c1 n2 c2 n3 c3 : Nat} (n : GNet) (l : List GTr) (w : World) (hA : NetAt w A1 n1 c1 A2 n2 c2 n) (hL : SlAt w 4 A3 n3 c3 (l.flatMap GTr.cells)) :
    Calls Try.prog 42 #[.agg #[.slice A1 n1 c1, .slice A2 n2 c2], .slice A3 n3 c3] w fun e w' => ∃ A m c, e = .returned (.tuple #[.slice A m c, .int .i64 (trCode n l)]) ∧ m ≤ 1048576 ∧ w'.ownsRow w.heap.size 2 1 (.slice A m c) m (ints (cuRes n l)) ∧ Gr w w' := by
  have HA := Lib.hid hA
  have HL := Lib.hid hL
  clear hA hL
  go_enter Try.func42, Try.ntmps42
  go_wp2_with fail
  refine (l24Code_any n l _ (HA.out.gr ((Gr.refl _).alloc _)) (HL.out.gr ((Gr.refl _).alloc _))).mono ?_
  rintro e w1 ⟨rfl, hg1⟩
  have hg0 : Gr w w1 := ((Gr.refl _).alloc _).trans hg1
  have b0 : w1.cell? ⟨w.heap.size, 0, none⟩ = some (.slice A1 n1 c1) := hg1.has (by simp [go_sem])
  have b1 : w1.cell? ⟨w.heap.size, 1, none⟩ = some (.slice A2 n2 c2) := hg1.has (by simp [go_sem])
  clear hg1
  by_cases hc : trCode n l = 0
  · have Hc := Lib.hid hc
    have Hn := Lib.hid (trCode_zero hc).1
    have Hok := Lib.hid (trCode_zero hc).2
    have Hok1 : Hid (trsOk n1 l = true) := Lib.hid (by rw [← HA.out.l1]; exact (trCode_zero hc).2)
    have tb : (trCode n l != 0) = false := by simp [hc]
    clear hc
    go_wp2_with fail
    refine (l25Scales_any n l _ (HA.out.gr hg0) (HL.out.gr hg0) Hn.out Hok1.out).mono ?_
    rintro e w3 ⟨B, d, rfl, hp, hg3⟩
    have Hp := Lib.hid hp
    clear hp b0 b1
    go_wp2_with fail
    go_ret2
    refine ⟨B, 4, d, by rw [Hc.out]; rfl, by omega, ?_, hg0.trans hg3⟩
    rw [cuRes, if_pos Hc.out]
    exact own_base Hp.out hg0.size
  · have Hc := Lib.hid hc
    have tb : (trCode n l != 0) = true := by simp [hc]
    clear hc
    go_wp2_with fail
    go_ret2
    refine ⟨none, 0, 0, rfl, by omega, ?_, hg0⟩
    rw [cuRes, if_neg Hc.out]
    exact World.ownsRow_nil _ _ _ _
theorem CurtailTransports_any {A1 A2 A3 : Option Addr} {n1 c1 n2 c2 n3 c3 : Nat} (n : GNet) (l : List GTr) (w : World) (hA : NetAt w A1 n1 c1 A2 n2 c2 n) (hL : SlAt w 4 A3 n3 c3 (l.flatMap GTr.cells)) :
    Calls Try.prog 40 #[.agg #[.slice A1 n1 c1, .slice A2 n2 c2], .slice A3 n3 c3] w fun e w' => ∃ A m c, e = .returned (.tuple #[.slice A m c, .int .i64 (trCode n l)]) ∧ m ≤ 1048576 ∧ w'.ownsRow w.heap.size 39 4 (.slice A m c) m ((ctRes n l).flatMap GTr.cells) ∧ Gr w w' := by
  have HA := Lib.hid hA
  have hm3 := hL.small
  have HL := Lib.hid hL
  clear hA hL
  go_enter Try.func40, Try.ntmps40
  go_wp2_with fail
  refine (checkTransports_any _ _ _ _ _ _ _ _ _ n l _ (HA.out.gr ((Gr.refl _).alloc _)) (HL.out.sl.gr ((Gr.refl _).alloc _)) HL.out.small).mono ?_
  rintro e w1 ⟨rfl, hg1⟩
  have hg0 : Gr w w1 := ((Gr.refl _).alloc _).trans hg1
  have b0 : w1.cell? ⟨w.heap.size, 0, none⟩ = some (.slice A1 n1 c1) := hg1.has (by simp [go_sem])
  have b1 : w1.cell? ⟨w.heap.size, 1, none⟩ = some (.slice A2 n2 c2) := hg1.has (by simp [go_sem])
  clear hg1
  by_cases hc : trCode n l = 0
  · have Hc := Lib.hid hc
    have Hn := Lib.hid (trCode_zero hc).1
    have Hok := Lib.hid (trCode_zero hc).2
    have Hok1 : Hid (trsOk n1 l = true) := Lib.hid (by rw [← HA.out.l1]; exact (trCode_zero hc).2)
    have tb : (trCode n l != 0) = false := by simp [hc]
    clear hc
    go_wp2_with fail
    refine (curtailScales_any n l _ (HA.out.gr hg0) (HL.out.gr hg0) Hn.out Hok1.out).mono ?_
    rintro e w3 ⟨B, d, rfl, hp, hg3⟩
    have Hp := Lib.hid hp
    have hg9 := hg0.trans hg3
    clear hp b0 b1
    go_wp2_with fail
    refine (scaledTransports_any n1 l (curs n l) _ (HL.out.gr hg9) (SlAt.of_own Hp.out (by omega)) Hok1.out (curs_ok Hn.out l)).mono ?_
    rintro e w4 ⟨B4, d4, rfl, hp4, hg4⟩
    have Hp4 := Lib.hid hp4
    clear hp4
    go_wp2_with fail
    go_ret2
    refine ⟨B4, n3, d4, by rw [Hc.out]; rfl, hm3, ?_, hg9.trans hg4⟩
    rw [ctRes, if_pos Hc.out]
    exact own_base Hp4.out hg9.size
  · have Hc := Lib.hid hc
    have tb : (trCode n l != 0) = true := by simp [hc]
    clear hc
    go_wp2_with fail
    go_ret2
    refine ⟨none, 0, 0, rfl, by omega, ?_, hg0⟩
    rw [ctRes, if_neg Hc.out]
    exact World.ownsRow_nil _ _ _ _
theorem spCurtailTransports_any {A1 A2 A3 : Option Addr} {n1 c1 n2 c2 n3 c3 : Nat} (n : GNet) (l : List GTr) (w : World) (hA : NetAt w A1 n1 c1 A2 n2 c2 n) (hL : SlAt w 4 A3 n3 c3 (l.flatMap GTr.cells)) :
    Calls Try.prog 41 #[.agg #[.slice A1 n1 c1, .slice A2 n2 c2], .slice A3 n3 c3] w fun e w' => ∃ A m c, e = .returned (.tuple #[.slice A m c, .int .i64 (trCode n l)]) ∧ m ≤ 1048576 ∧ w'.ownsRow w.heap.size 39 4 (.slice A m c) m ((ctRes n l).flatMap GTr.cells) ∧ Gr w w' := by
  have HA := Lib.hid hA
  have hm3 := hL.small
  have HL := Lib.hid hL
  clear hA hL
  go_enter Try.func41, Try.ntmps41
  go_wp2_with fail
  refine (l24Code_any n l _ (HA.out.gr ((Gr.refl _).alloc _)) (HL.out.gr ((Gr.refl _).alloc _))).mono ?_
  rintro e w1 ⟨rfl, hg1⟩
  have hg0 : Gr w w1 := ((Gr.refl _).alloc _).trans hg1
  have b0 : w1.cell? ⟨w.heap.size, 0, none⟩ = some (.slice A1 n1 c1) := hg1.has (by simp [go_sem])
  have b1 : w1.cell? ⟨w.heap.size, 1, none⟩ = some (.slice A2 n2 c2) := hg1.has (by simp [go_sem])
  clear hg1
  by_cases hc : trCode n l = 0
  · have Hc := Lib.hid hc
    have Hn := Lib.hid (trCode_zero hc).1
    have Hok := Lib.hid (trCode_zero hc).2
    have Hok1 : Hid (trsOk n1 l = true) := Lib.hid (by rw [← HA.out.l1]; exact (trCode_zero hc).2)
    have tb : (trCode n l != 0) = false := by simp [hc]
    clear hc
    go_wp2_with fail
    refine (l25Scales_any n l _ (HA.out.gr hg0) (HL.out.gr hg0) Hn.out Hok1.out).mono ?_
    rintro e w3 ⟨B, d, rfl, hp, hg3⟩
    have Hp := Lib.hid hp
    have hg9 := hg0.trans hg3
    clear hp b0 b1
    go_wp2_with fail
    refine (l24Scale_any n1 l (curs n l) _ (HL.out.gr hg9) (SlAt.of_own Hp.out (by omega)) Hok1.out (curs_ok Hn.out l)).mono ?_
    rintro e w4 ⟨B4, d4, rfl, hp4, hg4⟩
    have Hp4 := Lib.hid hp4
    clear hp4
    go_wp2_with fail
    go_ret2
    refine ⟨B4, n3, d4, by rw [Hc.out]; rfl, hm3, ?_, hg9.trans hg4⟩
    rw [ctRes, if_pos Hc.out]
    exact own_base Hp4.out hg9.size
  · have Hc := Lib.hid hc
    have tb : (trCode n l != 0) = true := by simp [hc]
    clear hc
    go_wp2_with fail
    go_ret2
    refine ⟨none, 0, 0, rfl, by omega, ?_, hg0⟩
    rw [ctRes, if_neg Hc.out]
    exact World.ownsRow_nil _ _ _ _
set_option maxHeartbeats 1000000 in
set_option maxRecDepth 100000 in
theorem spServedShare_any {A1 A2 A3 : Option Addr} {n1 c1 n2 c2 n3 c3 : Nat} (n : GNet) (l : List GTr) (w : World) (hA : NetAt w A1 n1 c1 A2 n2 c2 n) (hL : SlAt w 4 A3 n3 c3 (l.flatMap GTr.cells)) :
    Calls Try.prog 51 #[.agg #[.slice A1 n1 c1, .slice A2 n2 c2], .slice A3 n3 c3] w fun e w' => e = .returned (.tuple #[.int .i64 (ssVal n l), .int .i64 (trCode n l)]) ∧ Gr w w' := by
  have HA := Lib.hid hA
  have HL := Lib.hid hL
  clear hA hL
  go_enter Try.func51, Try.ntmps51
  go_wp2_with fail
  refine (spCurtailTransports_any n l _ (HA.out.gr ((Gr.refl _).alloc _)) (HL.out.gr ((Gr.refl _).alloc _))).mono ?_
  rintro e w1 ⟨B, m, d, rfl, hm, hp, hg1⟩
  have hg0 : Gr w w1 := ((Gr.refl _).alloc _).trans hg1
  have Hp := Lib.hid hp
  clear hp
  by_cases hc : trCode n l = 0
  · have Hc := Lib.hid hc
    have Hn := Lib.hid (trCode_zero hc).1
    have Hok := Lib.hid (trCode_zero hc).2
    have Hok1 : Hid (trsOk n1 l = true) := Lib.hid (by rw [← HA.out.l1]; exact (trCode_zero hc).2)
    have tb : (trCode n l != 0) = false := by simp [hc]
    clear hc
    have Hp1 := Hp.out
    rw [ctRes, if_pos Hc.out] at Hp1
    have HP := Lib.hid Hp1
    clear Hp1
    have Hok4 := Lib.hid (scaled_ok Hok1.out (curs_ok Hn.out l))
    go_wp2_with fail
    refine (l25Sum_any n1 l _ (HL.out.gr hg0) Hok1.out).mono ?_
    rintro e _ ⟨rfl, rfl⟩
    have Hv : Hid (ssVal n l = if amtSum l = 0 then 100 else 100 * amtSum (scaled (curs n l) l) / amtSum l) := Lib.hid (by rw [ssVal, if_pos Hc.out])
    have hQ := amtSum_lim Hok.out
    obtain ⟨Q, hQe⟩ : ∃ Q, Q = amtSum l := ⟨_, rfl⟩
    rw [← hQe] at hQ Hv ⊢
    have HQe := Lib.hid hQe
    clear hQe
    by_cases hq : Q = 0
    · have tq : (Q == 0) = true := by simp [hq]
      have Hq := Lib.hid hq
      clear hq
      go_wp2_with fail
      go_ret2
      exact ⟨by rw [Hv.out, if_pos Hq.out, Hc.out]; rfl, hg0⟩
    · have tq : (Q == 0) = false := by simp [hq]
      go_wp2_with fail
      refine (l25Sum_any n1 _ _ (SlAt.of_own HP.out hm) Hok4.out).mono ?_
      rintro e _ ⟨rfl, rfl⟩
      have hS := amtSum_lim Hok4.out
      generalize amtSum (scaled (curs n l) l) = S at Hv hS ⊢
      obtain ⟨hw1, hw2⟩ := ss_div hS hQ
      have Hq := Lib.hid hq
      go_wp2_with fail
      refine (l25Sum_any n1 l _ (HL.out.gr hg0) Hok1.out).mono ?_
      rintro e _ ⟨rfl, rfl⟩
      rw [← HQe.out]
      go_wp2_with fail
      go_ret2
      exact ⟨by rw [Hv.out, if_neg Hq.out, Hc.out]; rfl, hg0⟩
  · have Hc := Lib.hid hc
    have tb : (trCode n l != 0) = true := by simp [hc]
    clear hc
    go_wp2_with fail
    go_ret2
    exact ⟨by rw [ssVal, if_neg Hc.out]; rfl, hg0⟩
end Go.Proofs.Ytejfpajbkgfiaaa
