/-
  Orders: the tests of the program and of the reference. Printed by gen_ord.py.
-/
import Derived.Test.YtejfpajbkgfiaaaTrs
namespace Go.Proofs.Ytejfpajbkgfiaaa
open Go.ChangeShapes Go.WideShapes Go.ChangeAt Go.RowKit

def ordOk (nn : Int) (x : GOrd) : Bool := inB 0 x.shipper 15 && inB 0 x.node (nn - 1) && inB (-30000) x.amount 30000 && inB 0 x.cls 3
def ordsOk (nn : Int) (l : List GOrd) : Bool := decide (l.length ≤ 40) && l.all (ordOk nn)
def ordCode (n : GNet) (l : List GOrd) : Int := if netOk n then (if ordsOk n.nodes.length l then 0 else 3) else 1
theorem ordOk_all {nn : Int} {x : GOrd} (h : ordOk nn x = true) : (0 ≤ x.shipper ∧ x.shipper ≤ 15) ∧ (0 ≤ x.node ∧ x.node ≤ nn - 1) ∧ (-30000 ≤ x.amount ∧ x.amount ≤ 30000) ∧ (0 ≤ x.cls ∧ x.cls ≤ 3) := by
  unfold ordOk at h
  simp only [Bool.and_eq_true, inB_iff] at h
  obtain ⟨⟨⟨a, b⟩, c⟩, d⟩ := h
  exact ⟨a, b, c, d⟩
theorem ordsOk_long {nn : Int} {l : List GOrd} (h : 40 < l.length) : ordsOk nn l = false := by simp [ordsOk]; omega
theorem ordsOk_bad {nn : Int} {l : List GOrd} {k : Nat} {x : GOrd} (hx : l[k]? = some x) (hp : ordOk nn x = false) : ordsOk nn l = false := by simp [ordsOk, all_not hx hp]
theorem ordsOk_good {nn : Int} {l : List GOrd} (hl : l.length ≤ 40) (h : ∀ m, m < l.length → ∀ y, l[m]? = some y → ordOk nn y = true) : ordsOk nn l = true := by simp [ordsOk, hl, all_of h]
theorem ordsOk_all {nn : Int} {l : List GOrd} (h : ordsOk nn l = true) : l.length ≤ 40 ∧ ∀ (m : Nat) (y : GOrd), l[m]? = some y → ordOk nn y = true := by
  simp only [ordsOk, Bool.and_eq_true, decide_eq_true_eq, List.all_eq_true] at h
  exact ⟨h.1, fun m y hy => h.2 y (List.mem_of_getElem? hy)⟩
theorem ordCode_inv {n : GNet} {l : List GOrd} (h : netOk n = false) : ordCode n l = 1 := by simp [ordCode, h]
theorem ordCode_lim {n : GNet} {l : List GOrd} (h : netOk n = true) (h' : ordsOk n.nodes.length l = false) : ordCode n l = 3 := by simp [ordCode, h, h']
theorem ordCode_ok {n : GNet} {l : List GOrd} (h : netOk n = true) (h' : ordsOk n.nodes.length l = true) : ordCode n l = 0 := by simp [ordCode, h, h']
theorem ordCode_zero {n : GNet} {l : List GOrd} (h : ordCode n l = 0) : netOk n = true ∧ ordsOk n.nodes.length l = true := by
  unfold ordCode at h
  cases h1 : netOk n <;> cases h2 : ordsOk n.nodes.length l <;> simp [h1, h2] at h ⊢

theorem isShipper_any (x : Int) (w : World) : Calls Try.prog 161 #[.int .i64 x] w fun e w' => e = .returned (.bool (inB 0 x 15)) ∧ w = w' := by
  go_enter Try.func161, Try.ntmps161
  go_wp2_with fail
  refine (within_any _ _ _ _).mono ?_
  rintro e w' ⟨rfl, rfl⟩
  go_wp2_with fail
  go_ret
  exact ⟨rfl, rfl⟩
theorem l20Shipper_any (x : Int) (w : World) : Calls Try.prog 180 #[.int .i64 x] w fun e w' => e = .returned (.bool (inB 0 x 15)) ∧ w = w' := by
  go_enter Try.func180, Try.ntmps180
  go_wp2_with fail
  refine (l01In_any _ _ _ _).mono ?_
  rintro e w' ⟨rfl, rfl⟩
  go_wp2_with fail
  go_ret
  exact ⟨rfl, rfl⟩
theorem l05Flow_any (x : Int) (w : World) : Calls Try.prog 179 #[.int .i64 x] w fun e w' => e = .returned (.bool (inB (-30000) x 30000)) ∧ w = w' := by
  go_enter Try.func179, Try.ntmps179
  go_wp2_with fail
  refine (l01In_any _ _ _ _).mono ?_
  rintro e w' ⟨rfl, rfl⟩
  go_wp2_with fail
  go_ret
  exact ⟨rfl, rfl⟩
set_option maxHeartbeats 1600000 in
theorem l22List_any {A1 A2 A3 : Option Addr} {n1 c1 n2 c2 n3 c3 : Nat} (n : GNet) (l : List GOrd) (w : World) (hA : NetAt w A1 n1 c1 A2 n2 c2 n) (hL : SlAt w 4 A3 n3 c3 (l.flatMap GOrd.cells)) :
    Calls Try.prog 162 #[.agg #[.slice A1 n1 c1, .slice A2 n2 c2], .slice A3 n3 c3] w fun e w' => e = .returned (.bool (ordsOk n1 l)) ∧ Gr w w' := by
  have hm1 := hA.m1
  have hm3 := hL.small
  have HA := Lib.hid hA
  have HL := Lib.hid hL
  have hl3 := hL.sl.len GOrd.cells_len (by omega)
  have Hl3 := Lib.hid hl3
  clear hA hL hl3
  by_cases h : 40 < n3
  · rw [ordsOk_long (by rw [Hl3.out]; exact h)]
    go_enter Try.func162, Try.ntmps162
    go_wp2_with fail
    go_ret
    exact ⟨rfl, (Gr.refl _).alloc _⟩
  · have t1 : decide ((40 : Int) < (n3 : Int)) = false := by simp; omega
    go_enter Try.func162, Try.ntmps162
    go_wp2_with fail
    obtain ⟨w0, hw0⟩ : ∃ w0, w0 = w.alloc (.cells #[.slice A1 n1 c1, .slice A2 n2 c2] 27) := ⟨_, rfl⟩
    have hg0 : Gr w w0 := by rw [hw0]; exact (Gr.refl _).alloc _
    have b0 : w0.cell? ⟨w.heap.size, 0, none⟩ = some (.slice A1 n1 c1) := by rw [hw0]; simp [go_sem]
    have b1 : w0.cell? ⟨w.heap.size, 1, none⟩ = some (.slice A2 n2 c2) := by rw [hw0]; simp [go_sem]
    rw [← hw0]
    clear hw0
    go_loopw [5] (fun i wr => ∃ k : Nat, k ≤ n3 ∧ i = .int .i64 k ∧ (∀ m, m < k → ∀ y, l[m]? = some y → ordOk n1 y = true) ∧ Gr w0 wr) (fun i _ => n3 - (intOf i).toNat)
    case atStart => exact ⟨0, Nat.zero_le _, rfl, fun j h => absurd h (by omega), Gr.refl _⟩
    case round =>
     obtain ⟨k, hk, rfl, hno, hgr⟩ := hrel
     have Hno := Lib.hid hno
     clear hno
     by_cases hlt : k < n3
     · obtain ⟨x, hx⟩ : ∃ x, l[k]? = some x := ⟨_, List.getElem?_eq_getElem (by have := Hl3.out; omega)⟩
       obtain ⟨b, o, rfl, hb, r0, r1, r2, r3⟩ := (HL.out.sl.gr (hg0.trans hgr)).ord hx
       have Hx := Lib.hid hx
       clear hx
       have q0 := hgr.has b0
       have q1 := hgr.has b1
       have hg2 : Gr wr (wr.alloc (.cells #[.int .i64 x.shipper, .int .i64 x.node, .int .i64 x.amount, .int .i64 x.cls] 65)) := (Gr.refl _).alloc _
       have y0 := hg2.has q0
       have y1 := hg2.has q1
       have y2 : (wr.alloc (.cells #[.int .i64 x.shipper, .int .i64 x.node, .int .i64 x.amount, .int .i64 x.cls] 65)).cell? ⟨wr.heap.size, 0, none⟩ = some (.int .i64 x.shipper) := by simp [go_sem]
       have y3 : (wr.alloc (.cells #[.int .i64 x.shipper, .int .i64 x.node, .int .i64 x.amount, .int .i64 x.cls] 65)).cell? ⟨wr.heap.size, 1, none⟩ = some (.int .i64 x.node) := by simp [go_sem]
       have y4 : (wr.alloc (.cells #[.int .i64 x.shipper, .int .i64 x.node, .int .i64 x.amount, .int .i64 x.cls] 65)).cell? ⟨wr.heap.size, 2, none⟩ = some (.int .i64 x.amount) := by simp [go_sem]
       have y5 : (wr.alloc (.cells #[.int .i64 x.shipper, .int .i64 x.node, .int .i64 x.amount, .int .i64 x.cls] 65)).cell? ⟨wr.heap.size, 3, none⟩ = some (.int .i64 x.cls) := by simp [go_sem]
       clear q0 q1
       replace hg2 : Gr w0 (wr.alloc (.cells #[.int .i64 x.shipper, .int .i64 x.node, .int .i64 x.amount, .int .i64 x.cls] 65)) := hgr.trans hg2
       cases v1 : inB 0 x.shipper 15 with
       | false =>
         have hb1 : ordOk n1 x = false := by simp [ordOk, v1]
         have Hb := Lib.hid hb1
         clear hb1
         go_wp2_with (first
           | (go_at_call 142; refine (l02Node_any _ _ _ _ _ _ _ _ (by omega)).mono ?_; rintro e w' ⟨rfl, hg1⟩; have z0 := hg1.has (p := ⟨w.heap.size, 0, none⟩) (v := .slice A1 n1 c1) (by assumption); have z1 := hg1.has (p := ⟨w.heap.size, 1, none⟩) (v := .slice A2 n2 c2) (by assumption); have z2 := hg1.has (p := ⟨wr.heap.size, 0, none⟩) (v := .int .i64 x.shipper) (by assumption); have z3 := hg1.has (p := ⟨wr.heap.size, 1, none⟩) (v := .int .i64 x.node) (by assumption); have z4 := hg1.has (p := ⟨wr.heap.size, 2, none⟩) (v := .int .i64 x.amount) (by assumption); have z5 := hg1.has (p := ⟨wr.heap.size, 3, none⟩) (v := .int .i64 x.cls) (by assumption); replace hg2 := hg2.trans hg1)
           | (go_at_call 180; refine (l20Shipper_any _ _).mono ?_; rintro e w' ⟨rfl, rfl⟩)
           | (go_at_call 179; refine (l05Flow_any _ _).mono ?_; rintro e w' ⟨rfl, rfl⟩)
           | (go_at_call 91; refine (l01In_any _ _ _ _).mono ?_; rintro e w' ⟨rfl, rfl⟩))
         go_ret
         exact ⟨ret_bool (ordsOk_bad Hx.out Hb.out).symm, hg0.trans hg2⟩
       | true =>
        cases v2 : inB 0 x.node (↑n1 - 1) with
        | false =>
          have hb1 : ordOk n1 x = false := by simp [ordOk, v2]
          have Hb := Lib.hid hb1
          clear hb1
          go_wp2_with (first
            | (go_at_call 142; refine (l02Node_any _ _ _ _ _ _ _ _ (by omega)).mono ?_; rintro e w' ⟨rfl, hg1⟩; have z0 := hg1.has (p := ⟨w.heap.size, 0, none⟩) (v := .slice A1 n1 c1) (by assumption); have z1 := hg1.has (p := ⟨w.heap.size, 1, none⟩) (v := .slice A2 n2 c2) (by assumption); have z2 := hg1.has (p := ⟨wr.heap.size, 0, none⟩) (v := .int .i64 x.shipper) (by assumption); have z3 := hg1.has (p := ⟨wr.heap.size, 1, none⟩) (v := .int .i64 x.node) (by assumption); have z4 := hg1.has (p := ⟨wr.heap.size, 2, none⟩) (v := .int .i64 x.amount) (by assumption); have z5 := hg1.has (p := ⟨wr.heap.size, 3, none⟩) (v := .int .i64 x.cls) (by assumption); replace hg2 := hg2.trans hg1)
            | (go_at_call 180; refine (l20Shipper_any _ _).mono ?_; rintro e w' ⟨rfl, rfl⟩)
            | (go_at_call 179; refine (l05Flow_any _ _).mono ?_; rintro e w' ⟨rfl, rfl⟩)
            | (go_at_call 91; refine (l01In_any _ _ _ _).mono ?_; rintro e w' ⟨rfl, rfl⟩))
          go_ret
          exact ⟨ret_bool (ordsOk_bad Hx.out Hb.out).symm, hg0.trans hg2⟩
        | true =>
         cases v3 : inB (-30000) x.amount 30000 with
         | false =>
           have hb1 : ordOk n1 x = false := by simp [ordOk, v3]
           have Hb := Lib.hid hb1
           clear hb1
           go_wp2_with (first
             | (go_at_call 142; refine (l02Node_any _ _ _ _ _ _ _ _ (by omega)).mono ?_; rintro e w' ⟨rfl, hg1⟩; have z0 := hg1.has (p := ⟨w.heap.size, 0, none⟩) (v := .slice A1 n1 c1) (by assumption); have z1 := hg1.has (p := ⟨w.heap.size, 1, none⟩) (v := .slice A2 n2 c2) (by assumption); have z2 := hg1.has (p := ⟨wr.heap.size, 0, none⟩) (v := .int .i64 x.shipper) (by assumption); have z3 := hg1.has (p := ⟨wr.heap.size, 1, none⟩) (v := .int .i64 x.node) (by assumption); have z4 := hg1.has (p := ⟨wr.heap.size, 2, none⟩) (v := .int .i64 x.amount) (by assumption); have z5 := hg1.has (p := ⟨wr.heap.size, 3, none⟩) (v := .int .i64 x.cls) (by assumption); replace hg2 := hg2.trans hg1)
             | (go_at_call 180; refine (l20Shipper_any _ _).mono ?_; rintro e w' ⟨rfl, rfl⟩)
             | (go_at_call 179; refine (l05Flow_any _ _).mono ?_; rintro e w' ⟨rfl, rfl⟩)
             | (go_at_call 91; refine (l01In_any _ _ _ _).mono ?_; rintro e w' ⟨rfl, rfl⟩))
           go_ret
           exact ⟨ret_bool (ordsOk_bad Hx.out Hb.out).symm, hg0.trans hg2⟩
         | true =>
          cases v4 : inB 0 x.cls 3 with
          | false =>
            have hb1 : ordOk n1 x = false := by simp [ordOk, v4]
            have Hb := Lib.hid hb1
            clear hb1
            go_wp2_with (first
              | (go_at_call 142; refine (l02Node_any _ _ _ _ _ _ _ _ (by omega)).mono ?_; rintro e w' ⟨rfl, hg1⟩; have z0 := hg1.has (p := ⟨w.heap.size, 0, none⟩) (v := .slice A1 n1 c1) (by assumption); have z1 := hg1.has (p := ⟨w.heap.size, 1, none⟩) (v := .slice A2 n2 c2) (by assumption); have z2 := hg1.has (p := ⟨wr.heap.size, 0, none⟩) (v := .int .i64 x.shipper) (by assumption); have z3 := hg1.has (p := ⟨wr.heap.size, 1, none⟩) (v := .int .i64 x.node) (by assumption); have z4 := hg1.has (p := ⟨wr.heap.size, 2, none⟩) (v := .int .i64 x.amount) (by assumption); have z5 := hg1.has (p := ⟨wr.heap.size, 3, none⟩) (v := .int .i64 x.cls) (by assumption); replace hg2 := hg2.trans hg1)
              | (go_at_call 180; refine (l20Shipper_any _ _).mono ?_; rintro e w' ⟨rfl, rfl⟩)
              | (go_at_call 179; refine (l05Flow_any _ _).mono ?_; rintro e w' ⟨rfl, rfl⟩)
              | (go_at_call 91; refine (l01In_any _ _ _ _).mono ?_; rintro e w' ⟨rfl, rfl⟩))
            go_ret
            exact ⟨ret_bool (ordsOk_bad Hx.out Hb.out).symm, hg0.trans hg2⟩
          | true =>
           have hok : ordOk n1 x = true := by simp [ordOk, v1, v2, v3, v4]
           have Hok := Lib.hid hok
           clear hok
           go_wp2_with (first
             | (go_at_call 142; refine (l02Node_any _ _ _ _ _ _ _ _ (by omega)).mono ?_; rintro e w' ⟨rfl, hg1⟩; have z0 := hg1.has (p := ⟨w.heap.size, 0, none⟩) (v := .slice A1 n1 c1) (by assumption); have z1 := hg1.has (p := ⟨w.heap.size, 1, none⟩) (v := .slice A2 n2 c2) (by assumption); have z2 := hg1.has (p := ⟨wr.heap.size, 0, none⟩) (v := .int .i64 x.shipper) (by assumption); have z3 := hg1.has (p := ⟨wr.heap.size, 1, none⟩) (v := .int .i64 x.node) (by assumption); have z4 := hg1.has (p := ⟨wr.heap.size, 2, none⟩) (v := .int .i64 x.amount) (by assumption); have z5 := hg1.has (p := ⟨wr.heap.size, 3, none⟩) (v := .int .i64 x.cls) (by assumption); replace hg2 := hg2.trans hg1)
             | (go_at_call 180; refine (l20Shipper_any _ _).mono ?_; rintro e w' ⟨rfl, rfl⟩)
             | (go_at_call 179; refine (l05Flow_any _ _).mono ?_; rintro e w' ⟨rfl, rfl⟩)
             | (go_at_call 91; refine (l01In_any _ _ _ _).mono ?_; rintro e w' ⟨rfl, rfl⟩))
           go_roundw
           case rel => exact ⟨k + 1, by omega, by go_num, all_step Hx.out Hok.out Hno.out, hg2⟩
           case measure => simp [intOf]; omega
     · obtain rfl : k = n3 := by omega
       go_wp2_with fail
       go_ret
       exact ⟨ret_bool (ordsOk_good (by rw [Hl3.out]; omega) (by rw [Hl3.out]; exact Hno.out)).symm, hg0.trans hgr⟩
set_option maxHeartbeats 1600000 in
theorem checkOrders_any {A1 A2 A3 : Option Addr} {n1 c1 n2 c2 n3 c3 : Nat} (n : GNet) (l : List GOrd) (w : World) (hA : NetAt w A1 n1 c1 A2 n2 c2 n) (hL : SlAt w 4 A3 n3 c3 (l.flatMap GOrd.cells)) :
    Calls Try.prog 132 #[.agg #[.slice A1 n1 c1, .slice A2 n2 c2], .slice A3 n3 c3] w fun e w' => e = .returned (.int .i64 (ordCode n l)) ∧ Gr w w' := by
  have hm1 := hA.m1
  have hm3 := hL.small
  have HA := Lib.hid hA
  have HL := Lib.hid hL
  have hl3 := hL.sl.len GOrd.cells_len (by omega)
  have Hl3 := Lib.hid hl3
  clear hA hL hl3
  cases hnet : netOk n with
  | false =>
    rw [ordCode_inv hnet]
    go_enter Try.func132, Try.ntmps132
    go_wp2_with fail
    refine (IsNetwork_any _ _ _ _ _ _ n _ (HA.out.gr ((Gr.refl _).alloc _))).mono ?_
    rintro e w' ⟨rfl, hg1⟩
    go_wp2_with fail
    go_ret
    exact ⟨rfl, ((Gr.refl _).alloc _).trans hg1⟩
  | true =>
   have Hnet := Lib.hid hnet
   by_cases h : 40 < n3
   · rw [ordCode_lim hnet (ordsOk_long (by rw [Hl3.out]; exact h))]
     go_enter Try.func132, Try.ntmps132
     go_wp2_with fail
     refine (IsNetwork_any _ _ _ _ _ _ n _ (HA.out.gr ((Gr.refl _).alloc _))).mono ?_
     rintro e w' ⟨rfl, hg1⟩
     go_wp2_with fail
     go_ret
     exact ⟨rfl, ((Gr.refl _).alloc _).trans hg1⟩
   · have t1 : decide ((40 : Int) < (n3 : Int)) = false := by simp; omega
     go_enter Try.func132, Try.ntmps132
     go_wp2_with fail
     refine (IsNetwork_any _ _ _ _ _ _ n _ (HA.out.gr ((Gr.refl _).alloc _))).mono ?_
     rintro e w0 ⟨rfl, hg1⟩
     have hg0 : Gr w w0 := ((Gr.refl _).alloc _).trans hg1
     have b0 : w0.cell? ⟨w.heap.size, 0, none⟩ = some (.slice A1 n1 c1) := hg1.has (by simp [go_sem])
     have b1 : w0.cell? ⟨w.heap.size, 1, none⟩ = some (.slice A2 n2 c2) := hg1.has (by simp [go_sem])
     clear hg1
     go_wp2_with fail
     go_loopw [17] (fun i wr => ∃ k : Nat, k ≤ n3 ∧ i = .int .i64 k ∧ (∀ m, m < k → ∀ y, l[m]? = some y → ordOk n1 y = true) ∧ Gr w0 wr) (fun i _ => n3 - (intOf i).toNat)
     case atStart => exact ⟨0, Nat.zero_le _, rfl, fun j h => absurd h (by omega), Gr.refl _⟩
     case round =>
      obtain ⟨k, hk, rfl, hno, hgr⟩ := hrel
      have Hno := Lib.hid hno
      clear hno
      by_cases hlt : k < n3
      · obtain ⟨x, hx⟩ : ∃ x, l[k]? = some x := ⟨_, List.getElem?_eq_getElem (by have := Hl3.out; omega)⟩
        obtain ⟨b, o, rfl, hb, r0, r1, r2, r3⟩ := (HL.out.sl.gr (hg0.trans hgr)).ord hx
        have Hx := Lib.hid hx
        clear hx
        have q0 := hgr.has b0
        have q1 := hgr.has b1
        have hg2 : Gr wr (wr.alloc (.cells #[.int .i64 x.shipper, .int .i64 x.node, .int .i64 x.amount, .int .i64 x.cls] 65)) := (Gr.refl _).alloc _
        have y0 := hg2.has q0
        have y1 := hg2.has q1
        have y2 : (wr.alloc (.cells #[.int .i64 x.shipper, .int .i64 x.node, .int .i64 x.amount, .int .i64 x.cls] 65)).cell? ⟨wr.heap.size, 0, none⟩ = some (.int .i64 x.shipper) := by simp [go_sem]
        have y3 : (wr.alloc (.cells #[.int .i64 x.shipper, .int .i64 x.node, .int .i64 x.amount, .int .i64 x.cls] 65)).cell? ⟨wr.heap.size, 1, none⟩ = some (.int .i64 x.node) := by simp [go_sem]
        have y4 : (wr.alloc (.cells #[.int .i64 x.shipper, .int .i64 x.node, .int .i64 x.amount, .int .i64 x.cls] 65)).cell? ⟨wr.heap.size, 2, none⟩ = some (.int .i64 x.amount) := by simp [go_sem]
        have y5 : (wr.alloc (.cells #[.int .i64 x.shipper, .int .i64 x.node, .int .i64 x.amount, .int .i64 x.cls] 65)).cell? ⟨wr.heap.size, 3, none⟩ = some (.int .i64 x.cls) := by simp [go_sem]
        clear q0 q1
        replace hg2 : Gr w0 (wr.alloc (.cells #[.int .i64 x.shipper, .int .i64 x.node, .int .i64 x.amount, .int .i64 x.cls] 65)) := hgr.trans hg2
        cases v1 : inB 0 x.shipper 15 with
        | false =>
          have hb1 : ordOk n1 x = false := by simp [ordOk, v1]
          have Hb := Lib.hid hb1
          clear hb1
          go_wp2_with (first
            | (go_at_call 144; refine (isNodeOf_any _ _ _ _ _ _ _ _ (by omega)).mono ?_; rintro e w' ⟨rfl, hg1⟩; have z0 := hg1.has (p := ⟨w.heap.size, 0, none⟩) (v := .slice A1 n1 c1) (by assumption); have z1 := hg1.has (p := ⟨w.heap.size, 1, none⟩) (v := .slice A2 n2 c2) (by assumption); have z2 := hg1.has (p := ⟨wr.heap.size, 0, none⟩) (v := .int .i64 x.shipper) (by assumption); have z3 := hg1.has (p := ⟨wr.heap.size, 1, none⟩) (v := .int .i64 x.node) (by assumption); have z4 := hg1.has (p := ⟨wr.heap.size, 2, none⟩) (v := .int .i64 x.amount) (by assumption); have z5 := hg1.has (p := ⟨wr.heap.size, 3, none⟩) (v := .int .i64 x.cls) (by assumption); replace hg2 := hg2.trans hg1)
            | (go_at_call 161; refine (isShipper_any _ _).mono ?_; rintro e w' ⟨rfl, rfl⟩)
            | (go_at_call 88; refine (within_any _ _ _ _).mono ?_; rintro e w' ⟨rfl, rfl⟩))
          go_ret
          exact ⟨ret_int (ordCode_lim Hnet.out (by rw [HA.out.l1]; exact ordsOk_bad Hx.out Hb.out)).symm, hg0.trans hg2⟩
        | true =>
         cases v2 : inB 0 x.node (↑n1 - 1) with
         | false =>
           have hb1 : ordOk n1 x = false := by simp [ordOk, v2]
           have Hb := Lib.hid hb1
           clear hb1
           go_wp2_with (first
             | (go_at_call 144; refine (isNodeOf_any _ _ _ _ _ _ _ _ (by omega)).mono ?_; rintro e w' ⟨rfl, hg1⟩; have z0 := hg1.has (p := ⟨w.heap.size, 0, none⟩) (v := .slice A1 n1 c1) (by assumption); have z1 := hg1.has (p := ⟨w.heap.size, 1, none⟩) (v := .slice A2 n2 c2) (by assumption); have z2 := hg1.has (p := ⟨wr.heap.size, 0, none⟩) (v := .int .i64 x.shipper) (by assumption); have z3 := hg1.has (p := ⟨wr.heap.size, 1, none⟩) (v := .int .i64 x.node) (by assumption); have z4 := hg1.has (p := ⟨wr.heap.size, 2, none⟩) (v := .int .i64 x.amount) (by assumption); have z5 := hg1.has (p := ⟨wr.heap.size, 3, none⟩) (v := .int .i64 x.cls) (by assumption); replace hg2 := hg2.trans hg1)
             | (go_at_call 161; refine (isShipper_any _ _).mono ?_; rintro e w' ⟨rfl, rfl⟩)
             | (go_at_call 88; refine (within_any _ _ _ _).mono ?_; rintro e w' ⟨rfl, rfl⟩))
           go_ret
           exact ⟨ret_int (ordCode_lim Hnet.out (by rw [HA.out.l1]; exact ordsOk_bad Hx.out Hb.out)).symm, hg0.trans hg2⟩
         | true =>
          cases v3 : inB (-30000) x.amount 30000 with
          | false =>
            have hb1 : ordOk n1 x = false := by simp [ordOk, v3]
            have Hb := Lib.hid hb1
            clear hb1
            go_wp2_with (first
              | (go_at_call 144; refine (isNodeOf_any _ _ _ _ _ _ _ _ (by omega)).mono ?_; rintro e w' ⟨rfl, hg1⟩; have z0 := hg1.has (p := ⟨w.heap.size, 0, none⟩) (v := .slice A1 n1 c1) (by assumption); have z1 := hg1.has (p := ⟨w.heap.size, 1, none⟩) (v := .slice A2 n2 c2) (by assumption); have z2 := hg1.has (p := ⟨wr.heap.size, 0, none⟩) (v := .int .i64 x.shipper) (by assumption); have z3 := hg1.has (p := ⟨wr.heap.size, 1, none⟩) (v := .int .i64 x.node) (by assumption); have z4 := hg1.has (p := ⟨wr.heap.size, 2, none⟩) (v := .int .i64 x.amount) (by assumption); have z5 := hg1.has (p := ⟨wr.heap.size, 3, none⟩) (v := .int .i64 x.cls) (by assumption); replace hg2 := hg2.trans hg1)
              | (go_at_call 161; refine (isShipper_any _ _).mono ?_; rintro e w' ⟨rfl, rfl⟩)
              | (go_at_call 88; refine (within_any _ _ _ _).mono ?_; rintro e w' ⟨rfl, rfl⟩))
            go_ret
            exact ⟨ret_int (ordCode_lim Hnet.out (by rw [HA.out.l1]; exact ordsOk_bad Hx.out Hb.out)).symm, hg0.trans hg2⟩
          | true =>
           cases v4 : inB 0 x.cls 3 with
           | false =>
             have hb1 : ordOk n1 x = false := by simp [ordOk, v4]
             have Hb := Lib.hid hb1
             clear hb1
             go_wp2_with (first
               | (go_at_call 144; refine (isNodeOf_any _ _ _ _ _ _ _ _ (by omega)).mono ?_; rintro e w' ⟨rfl, hg1⟩; have z0 := hg1.has (p := ⟨w.heap.size, 0, none⟩) (v := .slice A1 n1 c1) (by assumption); have z1 := hg1.has (p := ⟨w.heap.size, 1, none⟩) (v := .slice A2 n2 c2) (by assumption); have z2 := hg1.has (p := ⟨wr.heap.size, 0, none⟩) (v := .int .i64 x.shipper) (by assumption); have z3 := hg1.has (p := ⟨wr.heap.size, 1, none⟩) (v := .int .i64 x.node) (by assumption); have z4 := hg1.has (p := ⟨wr.heap.size, 2, none⟩) (v := .int .i64 x.amount) (by assumption); have z5 := hg1.has (p := ⟨wr.heap.size, 3, none⟩) (v := .int .i64 x.cls) (by assumption); replace hg2 := hg2.trans hg1)
               | (go_at_call 161; refine (isShipper_any _ _).mono ?_; rintro e w' ⟨rfl, rfl⟩)
               | (go_at_call 88; refine (within_any _ _ _ _).mono ?_; rintro e w' ⟨rfl, rfl⟩))
             go_ret
             exact ⟨ret_int (ordCode_lim Hnet.out (by rw [HA.out.l1]; exact ordsOk_bad Hx.out Hb.out)).symm, hg0.trans hg2⟩
           | true =>
            have hok : ordOk n1 x = true := by simp [ordOk, v1, v2, v3, v4]
            have Hok := Lib.hid hok
            clear hok
            go_wp2_with (first
              | (go_at_call 144; refine (isNodeOf_any _ _ _ _ _ _ _ _ (by omega)).mono ?_; rintro e w' ⟨rfl, hg1⟩; have z0 := hg1.has (p := ⟨w.heap.size, 0, none⟩) (v := .slice A1 n1 c1) (by assumption); have z1 := hg1.has (p := ⟨w.heap.size, 1, none⟩) (v := .slice A2 n2 c2) (by assumption); have z2 := hg1.has (p := ⟨wr.heap.size, 0, none⟩) (v := .int .i64 x.shipper) (by assumption); have z3 := hg1.has (p := ⟨wr.heap.size, 1, none⟩) (v := .int .i64 x.node) (by assumption); have z4 := hg1.has (p := ⟨wr.heap.size, 2, none⟩) (v := .int .i64 x.amount) (by assumption); have z5 := hg1.has (p := ⟨wr.heap.size, 3, none⟩) (v := .int .i64 x.cls) (by assumption); replace hg2 := hg2.trans hg1)
              | (go_at_call 161; refine (isShipper_any _ _).mono ?_; rintro e w' ⟨rfl, rfl⟩)
              | (go_at_call 88; refine (within_any _ _ _ _).mono ?_; rintro e w' ⟨rfl, rfl⟩))
            go_roundw
            case rel => exact ⟨k + 1, by omega, by go_num, all_step Hx.out Hok.out Hno.out, hg2⟩
            case measure => simp [intOf]; omega
      · obtain rfl : k = n3 := by omega
        go_wp2_with fail
        go_ret
        exact ⟨ret_int (ordCode_ok Hnet.out (by rw [HA.out.l1]; exact ordsOk_good (by rw [Hl3.out]; omega) (by rw [Hl3.out]; exact Hno.out))).symm, hg0.trans hgr⟩
theorem l22Code_any {A1 A2 A3 : Option Addr} {n1 c1 n2 c2 n3 c3 : Nat} (n : GNet) (l : List GOrd) (w : World) (hA : NetAt w A1 n1 c1 A2 n2 c2 n) (hL : SlAt w 4 A3 n3 c3 (l.flatMap GOrd.cells)) :
    Calls Try.prog 133 #[.agg #[.slice A1 n1 c1, .slice A2 n2 c2], .slice A3 n3 c3] w fun e w' => e = .returned (.int .i64 (ordCode n l)) ∧ Gr w w' := by
  have HA := Lib.hid hA
  have HL := Lib.hid hL
  clear hA hL
  cases hnet : netOk n with
  | false =>
    rw [ordCode_inv hnet]
    go_enter Try.func133, Try.ntmps133
    go_wp2_with fail
    refine (spIsNetwork_any _ _ _ _ _ _ n _ (HA.out.gr ((Gr.refl _).alloc _))).mono ?_
    rintro e w' ⟨rfl, hg1⟩
    go_wp2_with fail
    go_ret
    exact ⟨rfl, ((Gr.refl _).alloc _).trans hg1⟩
  | true =>
    have Hnet := Lib.hid hnet
    go_enter Try.func133, Try.ntmps133
    go_wp2_with fail
    refine (spIsNetwork_any _ _ _ _ _ _ n _ (HA.out.gr ((Gr.refl _).alloc _))).mono ?_
    rintro e w1 ⟨rfl, hg1⟩
    have b0 : w1.cell? ⟨w.heap.size, 0, none⟩ = some (.slice A1 n1 c1) := hg1.has (by simp [go_sem])
    have b1 : w1.cell? ⟨w.heap.size, 1, none⟩ = some (.slice A2 n2 c2) := hg1.has (by simp [go_sem])
    have hg0 : Gr w w1 := ((Gr.refl _).alloc _).trans hg1
    clear hg1
    go_wp2_with fail
    refine (l22List_any n l _ (HA.out.gr hg0) (HL.out.gr hg0)).mono ?_
    rintro e w2 ⟨rfl, hg2⟩
    cases hs : ordsOk n1 l with
    | true =>
      have Hs := Lib.hid hs
      clear hs
      go_wp2_with fail
      go_ret
      exact ⟨ret_int (ordCode_ok Hnet.out (by rw [HA.out.l1]; exact Hs.out)).symm, hg0.trans hg2⟩
    | false =>
      have Hs := Lib.hid hs
      clear hs
      go_wp2_with fail
      go_ret
      exact ⟨ret_int (ordCode_lim Hnet.out (by rw [HA.out.l1]; exact Hs.out)).symm, hg0.trans hg2⟩
end Go.Proofs.Ytejfpajbkgfiaaa
