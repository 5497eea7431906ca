import Derived.Test.YtejfpajbkgfiaaaOrd
import Derived.BigQuiet
/-
  Readings: the tests of the program and of the reference. Printed by gen_rd.py.
-/
namespace Go.Proofs.Ytejfpajbkgfiaaa
open Go.ChangeShapes Go.WideShapes Go.ChangeAt Go.RowKit

def rdOk (nn : Int) (x : GRd) : Bool := inB 0 x.node (nn - 1) && inB (-30000) x.amount 30000 && !(x.amount == 0)
def rdClash (x y : GRd) : Bool := (y.node == x.node) && (decide (0 < y.amount) == decide (0 < x.amount))
def rdAt (nn : Int) (l : List GRd) (i : Nat) (x : GRd) : Bool := rdOk nn x && !((l.take i).any (rdClash x))
def rdsOk (nn : Int) (l : List GRd) : Bool := decide (l.length ≤ 48) && (List.range l.length).all fun i => match l[i]? with | some x => rdAt nn l i x | none => true
def rdCode (n : GNet) (os : List GOrd) (l : List GRd) : Int := if ordCode n os = 0 then (if rdsOk n.nodes.length l then 0 else 3) else ordCode n os
theorem rdOk_all {nn : Int} {x : GRd} (h : rdOk nn x = true) : (0 ≤ x.node ∧ x.node ≤ nn - 1) ∧ (-30000 ≤ x.amount ∧ x.amount ≤ 30000) ∧ x.amount ≠ 0 := by
  unfold rdOk at h
  simp only [Bool.and_eq_true, inB_iff, Bool.not_eq_true', beq_eq_false_iff_ne, ne_eq] at h
  obtain ⟨⟨a, b⟩, c⟩ := h
  exact ⟨a, b, c⟩
theorem rdsOk_long {nn : Int} {l : List GRd} (h : 48 < l.length) : rdsOk nn l = false := by simp [rdsOk]; omega
theorem rdsOk_bad {nn : Int} {l : List GRd} {k : Nat} {x : GRd} (hx : l[k]? = some x) (hp : rdAt nn l k x = false) : rdsOk nn l = false := by
  have : ((List.range l.length).all fun i => match l[i]? with | some x => rdAt nn l i x | none => true) = false := by
    rw [List.all_eq_false]
    exact ⟨k, List.mem_range.2 (List.getElem?_eq_some_iff.1 hx).1, by rw [hx]; simp [hp]⟩
  rw [rdsOk, this, Bool.and_false]
theorem rdsOk_good {nn : Int} {l : List GRd} (hl : l.length ≤ 48) (h : ∀ m, m < l.length → ∀ y, l[m]? = some y → rdAt nn l m y = true) : rdsOk nn l = true := by
  have : ((List.range l.length).all fun i => match l[i]? with | some x => rdAt nn l i x | none => true) = true := by
    rw [List.all_eq_true]
    intro k hk
    have hk' := List.mem_range.1 hk
    rw [List.getElem?_eq_getElem hk']
    exact h k hk' _ (List.getElem?_eq_getElem hk')
  rw [rdsOk, this]; simp [hl]
theorem rdsOk_all {nn : Int} {l : List GRd} (h : rdsOk nn l = true) : l.length ≤ 48 ∧ ∀ (m : Nat) (y : GRd), l[m]? = some y → rdOk nn y = true := by
  have hl : l.length ≤ 48 := by
    simp only [rdsOk, Bool.and_eq_true, decide_eq_true_eq] at h; exact h.1
  refine ⟨hl, fun m y hy => ?_⟩
  cases e : rdOk nn y with
  | true => rfl
  | false =>
    have := rdsOk_bad (nn := nn) hy (by simp [rdAt, e])
    rw [this] at h; cases h
theorem rdCode_ord {n : GNet} {os : List GOrd} {l : List GRd} (h : ordCode n os ≠ 0) : rdCode n os l = ordCode n os := by simp [rdCode, h]
theorem rdCode_lim {n : GNet} {os : List GOrd} {l : List GRd} (h : ordCode n os = 0) (h' : rdsOk n.nodes.length l = false) : rdCode n os l = 3 := by simp [rdCode, h, h']
theorem rdCode_ok {n : GNet} {os : List GOrd} {l : List GRd} (h : ordCode n os = 0) (h' : rdsOk n.nodes.length l = true) : rdCode n os l = 0 := by simp [rdCode, h, h']
theorem rdCode_zero {n : GNet} {os : List GOrd} {l : List GRd} (h : rdCode n os l = 0) : ordCode n os = 0 ∧ rdsOk n.nodes.length l = true := by
  unfold rdCode at h
  by_cases h1 : ordCode n os = 0
  · rw [if_pos h1] at h
    cases h2 : rdsOk n.nodes.length l
    · rw [h2] at h; simp at h
    · exact ⟨h1, rfl⟩
  · rw [if_neg h1] at h; exact absurd h h1
theorem ordCode_nil (n : GNet) : ordCode n [] = if netOk n then 0 else 1 := by
  unfold ordCode
  cases netOk n <;> simp [ordsOk]
theorem no_step {α : Type} {p : α → Bool} {l : List α} {k : Nat} {x : α} (hx : l[k]? = some x) (hp : p x = false) (h : ∀ m, m < k → ∀ y, l[m]? = some y → p y = false) : ∀ m, m < k + 1 → ∀ y, l[m]? = some y → p y = false := by
  intro m hm y hy
  by_cases e : m = k
  · subst e
    rw [hx] at hy
    injection hy with hy
    subst hy
    exact hp
  · exact h m (by omega) y hy
theorem rd_step {nn : Int} {l : List GRd} {k : Nat} {x : GRd} (hx : l[k]? = some x) (hp : rdAt nn l k x = true) (h : ∀ m, m < k → ∀ y, l[m]? = some y → rdAt nn l m y = true) : ∀ m, m < k + 1 → ∀ y, l[m]? = some y → rdAt nn l m y = true := by
  intro m hm y hy
  by_cases e : m = k
  · subst e
    rw [hx] at hy
    injection hy with hy
    subst hy
    exact hp
  · exact h m (by omega) y hy
theorem any_no {α : Type} {p : α → Bool} {l : List α} {k : Nat} (hk : k ≤ l.length) (h : ∀ m, m < k → ∀ y, l[m]? = some y → p y = false) : (l.take k).any p = false := by
  rw [List.any_eq_false]
  intro y hy
  obtain ⟨j, hj⟩ := List.mem_iff_getElem?.1 hy
  have hjl := (List.getElem?_eq_some_iff.1 hj).1
  simp only [List.length_take] at hjl
  rw [List.getElem?_take_of_lt (by omega)] at hj
  simp [h j (by omega) y hj]
theorem any_yes {α : Type} {p : α → Bool} {l : List α} {k m : Nat} {y : α} (hm : m < k) (hy : l[m]? = some y) (hp : p y = true) : (l.take k).any p = true := by
  rw [List.any_eq_true]
  exact ⟨y, List.mem_of_getElem? (i := m) (by rw [List.getElem?_take_of_lt hm]; exact hy), hp⟩
theorem flat_take {α : Type} {f : α → List Value} {size : Nat} (hf : ∀ x, (f x).length = size) (l : List α) (k : Nat) : (l.take k).flatMap f = (l.flatMap f).take (k * size) := by
  induction l generalizing k with
  | nil => simp
  | cons a l ih =>
    cases k with
    | zero => simp
    | succ k =>
      have e : (k + 1) * size = (f a).length + k * size := by rw [hf, Nat.add_mul]; omega
      rw [List.take_succ_cons, List.flatMap_cons, List.flatMap_cons, ih, e, List.take_append, List.take_of_length_le (l := f a) (by omega)]
      simp
theorem Sl.take {α : Type} {f : α → List Value} {w : World} {size n k : Nat} {A : Option Addr} {l : List α} (h : Sl w size A n (l.flatMap f)) (hf : ∀ x, (f x).length = size) (h0 : 0 < size) (hk : k ≤ n) : Sl w size A k ((l.take k).flatMap f) := by
  have hl := h.len hf h0
  refine ⟨by rw [flat_length f size hf, List.length_take, hl, Nat.min_eq_left hk], fun hp => ?_⟩
  obtain ⟨b, o, e, hb, hr⟩ := h.2 (by omega)
  refine ⟨b, o, e, hb, fun j u hu => hr j u ?_⟩
  rw [flat_take hf, List.getElem?_take] at hu
  split at hu
  · exact hu
  · cases hu
theorem checkReadings1_any (g : Nat) (x y : GRd) (w : World) (h0 : w.cell? ⟨g, 0, none⟩ = some (.int .i64 x.node)) (h1 : w.cell? ⟨g, 1, none⟩ = some (.int .i64 x.amount)) :
    Calls Try.prog 155 #[.agg #[.int .i64 y.node, .int .i64 y.amount], .pointer (some ⟨g, 0, none⟩)] w fun e w' => e = .returned (.bool (rdClash x y)) ∧ Gr w w' := by
  have hl := lt_of_cell h0
  have hg : Gr w (w.alloc (.cells #[.int .i64 y.node, .int .i64 y.amount] 113)) := (Gr.refl _).alloc _
  have z0 := hg.has h0
  have z1 := hg.has h1
  go_enter Try.func155, Try.ntmps155
  cases hc : (y.node == x.node)
  all_goals
    go_wp2_with fail
    go_ret
    exact ⟨ret_bool (by simp only [rdClash, hc, Bool.false_and, Bool.true_and]), hg⟩
theorem ContainsFunc_checkReadings {A : Option Addr} {n c : Nat} (g : Nat) (x : GRd) (l : List GRd) (w : World) (hn : n ≤ 1048576) (hA : Sl w 2 A n (l.flatMap GRd.cells)) (h0 : w.cell? ⟨g, 0, none⟩ = some (.int .i64 x.node)) (h1 : w.cell? ⟨g, 1, none⟩ = some (.int .i64 x.amount)) :
    Calls Try.prog 154 #[.slice A n c, .func (.func 155) #[] #[.pointer (some ⟨g, 0, none⟩)]] w fun e w' => e = .returned (.bool (l.any (rdClash x))) ∧ Gr w w' := by
  have HA := Lib.hid hA
  have H0 := Lib.hid h0
  have H1 := Lib.hid h1
  clear hA h0 h1
  go_enter Try.func154, Try.ntmps154
  go_wp2_with fail
  refine (IndexFunc_checkReadings (.pointer (some ⟨g, 0, none⟩)) (rdClash x) A n c l _ hn HA.out (fun k y W _ hW => checkReadings1_any g x y W (hW.has H0.out) (hW.has H1.out))).mono ?_
  rintro e w1 ⟨rfl, hg⟩
  go_wp2_with fail
  go_ret
  exact ⟨ret_bool idxOf_any, hg⟩
set_option maxHeartbeats 1600000 in
theorem checkReadings_any {A1 A2 A4 A3 : Option Addr} {n1 c1 n2 c2 n4 c4 n3 c3 : Nat} (n : GNet) (os : List GOrd) (l : List GRd) (w : World) (hA : NetAt w A1 n1 c1 A2 n2 c2 n) (hO : SlAt w 4 A4 n4 c4 (os.flatMap GOrd.cells)) (hL : SlAt w 2 A3 n3 c3 (l.flatMap GRd.cells)) :
    Calls Try.prog 127 #[.agg #[.slice A1 n1 c1, .slice A2 n2 c2], .slice A4 n4 c4, .slice A3 n3 c3] w fun e w' => e = .returned (.int .i64 (rdCode n os l)) ∧ Gr w w' := by
  have hm1 := hA.m1
  have hm3 := hL.small
  have hc3 := hL.cap
  have HA := Lib.hid hA
  have HO := Lib.hid hO
  have HL := Lib.hid hL
  have hl3 := hL.sl.len GRd.cells_len (by omega)
  have Hl3 := Lib.hid hl3
  clear hA hL hl3 hO
  go_enter Try.func127, Try.ntmps127
  go_wp2_with fail
  refine (checkOrders_any n os _ (HA.out.gr ((Gr.refl _).alloc _)) (HO.out.gr ((Gr.refl _).alloc _))).mono ?_
  rintro e w0 ⟨rfl, hg1⟩
  have hg0 : Gr w w0 := ((Gr.refl _).alloc _).trans hg1
  have b0 : w0.cell? ⟨w.heap.size, 0, none⟩ = some (.slice A1 n1 c1) := hg1.has (by simp [go_sem])
  have b1 : w0.cell? ⟨w.heap.size, 1, none⟩ = some (.slice A2 n2 c2) := hg1.has (by simp [go_sem])
  clear hg1
  by_cases hc : ordCode n os = 0
  · have Hc := Lib.hid hc
    have tb : (ordCode n os != 0) = false := by simp [hc]
    clear hc
    by_cases h : 48 < n3
    · go_wp2_with fail
      go_ret
      exact ⟨ret_int (rdCode_lim Hc.out (rdsOk_long (by rw [Hl3.out]; exact h))).symm, hg0⟩
    · have t1 : decide ((48 : Int) < (n3 : Int)) = false := by simp; omega
      go_wp2_with fail
      go_loopw [21] (fun i wr => ∃ k : Nat, k ≤ n3 ∧ i = .int .i64 k ∧ (∀ m, m < k → ∀ y, l[m]? = some y → rdAt n1 l m y = true) ∧ Gr w0 wr) (fun i _ => n3 - (intOf i).toNat)
      case atStart => exact ⟨0, Nat.zero_le _, rfl, fun j h => absurd h (by omega), Gr.refl _⟩
      case round =>
       obtain ⟨k, hk, rfl, hno, hgr⟩ := hrel
       have Hno := Lib.hid hno
       clear hno
       by_cases hlt : k < n3
       · obtain ⟨x, hx⟩ : ∃ x, l[k]? = some x := ⟨_, List.getElem?_eq_getElem (by have := Hl3.out; omega)⟩
         obtain ⟨b, o, rfl, hb, r0, r1⟩ := (HL.out.sl.gr (hg0.trans hgr)).rd hx
         have Hx := Lib.hid hx
         clear hx
         have q0 := hgr.has b0
         have q1 := hgr.has b1
         have hg2 : Gr wr (wr.alloc (.cells #[.int .i64 x.node, .int .i64 x.amount] 113)) := (Gr.refl _).alloc _
         have y0 := hg2.has q0
         have y1 := hg2.has q1
         have y2 : (wr.alloc (.cells #[.int .i64 x.node, .int .i64 x.amount] 113)).cell? ⟨wr.heap.size, 0, none⟩ = some (.int .i64 x.node) := by simp [go_sem]
         have y3 : (wr.alloc (.cells #[.int .i64 x.node, .int .i64 x.amount] 113)).cell? ⟨wr.heap.size, 1, none⟩ = some (.int .i64 x.amount) := by simp [go_sem]
         clear q0 q1
         replace hg2 : Gr w0 (wr.alloc (.cells #[.int .i64 x.node, .int .i64 x.amount] 113)) := hgr.trans hg2
         cases v1 : inB 0 x.node (↑n1 - 1) with
         | false =>
           have hb1 : rdAt n1 l k x = false := by simp only [rdAt, rdOk, v1, Bool.false_and]
           have Hb := Lib.hid hb1
           clear hb1
           go_wp2_with (first
             | (go_at_call 144; refine (isNodeOf_any _ _ _ _ _ _ _ _ (by omega)).mono ?_; rintro e w' ⟨rfl, hg1⟩; have z0 := hg1.has (p := ⟨w.heap.size, 0, none⟩) (v := .slice A1 n1 c1) (by assumption); have z1 := hg1.has (p := ⟨w.heap.size, 1, none⟩) (v := .slice A2 n2 c2) (by assumption); have z2 := hg1.has (p := ⟨wr.heap.size, 0, none⟩) (v := .int .i64 x.node) (by assumption); have z3 := hg1.has (p := ⟨wr.heap.size, 1, none⟩) (v := .int .i64 x.amount) (by assumption); replace hg2 := hg2.trans hg1)
             | (go_at_call 88; refine (within_any _ _ _ _).mono ?_; rintro e w' ⟨rfl, rfl⟩))
           go_ret
           exact ⟨ret_int (rdCode_lim Hc.out (by rw [HA.out.l1]; exact rdsOk_bad Hx.out Hb.out)).symm, hg0.trans hg2⟩
         | true =>
          cases v2 : inB (-30000) x.amount 30000 with
          | false =>
            have hb1 : rdAt n1 l k x = false := by simp only [rdAt, rdOk, v2, Bool.false_and, Bool.and_false]
            have Hb := Lib.hid hb1
            clear hb1
            go_wp2_with (first
              | (go_at_call 144; refine (isNodeOf_any _ _ _ _ _ _ _ _ (by omega)).mono ?_; rintro e w' ⟨rfl, hg1⟩; have z0 := hg1.has (p := ⟨w.heap.size, 0, none⟩) (v := .slice A1 n1 c1) (by assumption); have z1 := hg1.has (p := ⟨w.heap.size, 1, none⟩) (v := .slice A2 n2 c2) (by assumption); have z2 := hg1.has (p := ⟨wr.heap.size, 0, none⟩) (v := .int .i64 x.node) (by assumption); have z3 := hg1.has (p := ⟨wr.heap.size, 1, none⟩) (v := .int .i64 x.amount) (by assumption); replace hg2 := hg2.trans hg1)
              | (go_at_call 88; refine (within_any _ _ _ _).mono ?_; rintro e w' ⟨rfl, rfl⟩))
            go_ret
            exact ⟨ret_int (rdCode_lim Hc.out (by rw [HA.out.l1]; exact rdsOk_bad Hx.out Hb.out)).symm, hg0.trans hg2⟩
          | true =>
           cases v3 : (x.amount == 0) with
           | true =>
             have hb1 : rdAt n1 l k x = false := by simp only [rdAt, rdOk, v3, Bool.false_and, Bool.and_false, Bool.not_true]
             have Hb := Lib.hid hb1
             clear hb1
             go_wp2_with (first
               | (go_at_call 144; refine (isNodeOf_any _ _ _ _ _ _ _ _ (by omega)).mono ?_; rintro e w' ⟨rfl, hg1⟩; have z0 := hg1.has (p := ⟨w.heap.size, 0, none⟩) (v := .slice A1 n1 c1) (by assumption); have z1 := hg1.has (p := ⟨w.heap.size, 1, none⟩) (v := .slice A2 n2 c2) (by assumption); have z2 := hg1.has (p := ⟨wr.heap.size, 0, none⟩) (v := .int .i64 x.node) (by assumption); have z3 := hg1.has (p := ⟨wr.heap.size, 1, none⟩) (v := .int .i64 x.amount) (by assumption); replace hg2 := hg2.trans hg1)
               | (go_at_call 88; refine (within_any _ _ _ _).mono ?_; rintro e w' ⟨rfl, rfl⟩))
             go_ret
             exact ⟨ret_int (rdCode_lim Hc.out (by rw [HA.out.l1]; exact rdsOk_bad Hx.out Hb.out)).symm, hg0.trans hg2⟩
           | false =>
            have hok : rdOk n1 x = true := by simp only [rdOk, v1, v2, v3, Bool.and_true, Bool.not_false]
            have Hok := Lib.hid hok
            clear hok
            go_wp2_with (first
              | (go_at_call 144; refine (isNodeOf_any _ _ _ _ _ _ _ _ (by omega)).mono ?_; rintro e w' ⟨rfl, hg1⟩; have z0 := hg1.has (p := ⟨w.heap.size, 0, none⟩) (v := .slice A1 n1 c1) (by assumption); have z1 := hg1.has (p := ⟨w.heap.size, 1, none⟩) (v := .slice A2 n2 c2) (by assumption); have z2 := hg1.has (p := ⟨wr.heap.size, 0, none⟩) (v := .int .i64 x.node) (by assumption); have z3 := hg1.has (p := ⟨wr.heap.size, 1, none⟩) (v := .int .i64 x.amount) (by assumption); replace hg2 := hg2.trans hg1)
              | (go_at_call 88; refine (within_any _ _ _ _).mono ?_; rintro e w' ⟨rfl, rfl⟩))
            refine (ContainsFunc_checkReadings wr.heap.size x (l.take k) _ (by omega) ((HL.out.sl.gr (hg0.trans hg2)).take GRd.cells_len (by omega) hk) (by assumption) (by assumption)).mono ?_
            rintro e w3 ⟨rfl, hg3⟩
            cases hcl : (l.take k).any (rdClash x) with
            | true =>
              have hb1 : rdAt n1 l k x = false := by simp only [rdAt, hcl, Bool.not_true, Bool.and_false]
              have Hb := Lib.hid hb1
              clear hb1
              replace hg2 := hg2.trans hg3
              go_wp2_with fail
              go_ret
              exact ⟨ret_int (rdCode_lim Hc.out (by rw [HA.out.l1]; exact rdsOk_bad Hx.out Hb.out)).symm, hg0.trans hg2⟩
            | false =>
              have hb1 : rdAt n1 l k x = true := by simp only [rdAt, hcl, Hok.out, Bool.not_false, Bool.and_true]
              have Hb := Lib.hid hb1
              clear hb1
              go_wp2_with fail
              go_roundw
              case rel => exact ⟨k + 1, by omega, by go_num, rd_step Hx.out Hb.out Hno.out, hg2.trans hg3⟩
              case measure => simp [intOf]; omega
       · obtain rfl : k = n3 := by omega
         go_wp2_with fail
         go_ret
         exact ⟨ret_int (rdCode_ok Hc.out (by rw [HA.out.l1]; exact rdsOk_good (by rw [Hl3.out]; omega) (by rw [Hl3.out]; exact Hno.out))).symm, hg0.trans hgr⟩
  · have Hc := Lib.hid hc
    have tb : (ordCode n os != 0) = true := by simp [hc]
    clear hc
    go_wp2_with fail
    go_ret
    exact ⟨ret_int (rdCode_ord Hc.out).symm, hg0⟩
set_option maxHeartbeats 1600000 in
theorem l28List_any {A1 A2 A3 : Option Addr} {n1 c1 n2 c2 n3 c3 : Nat} (n : GNet) (l : List GRd) (w : World) (hA : NetAt w A1 n1 c1 A2 n2 c2 n) (hL : SlAt w 2 A3 n3 c3 (l.flatMap GRd.cells)) :
    Calls Try.prog 158 #[.agg #[.slice A1 n1 c1, .slice A2 n2 c2], .slice A3 n3 c3] w fun e w' => e = .returned (.bool (rdsOk n1 l)) ∧ Gr w w' := by
  have hm1 := hA.m1
  have hm3 := hL.small
  have HA := Lib.hid hA
  have HL := Lib.hid hL
  have hl3 := hL.sl.len GRd.cells_len (by omega)
  have Hl3 := Lib.hid hl3
  clear hA hL hl3
  by_cases h : 48 < n3
  · rw [rdsOk_long (by rw [Hl3.out]; exact h)]
    go_enter Try.func158, Try.ntmps158
    go_wp2_with fail
    go_ret
    exact ⟨rfl, (Gr.refl _).alloc _⟩
  · have t1 : decide ((48 : Int) < (n3 : Int)) = false := by simp; omega
    go_enter Try.func158, Try.ntmps158
    go_wp2_with fail
    obtain ⟨w0, hw0⟩ : ∃ w0, w0 = w.alloc (.cells #[.slice A1 n1 c1, .slice A2 n2 c2] 27) := ⟨_, rfl⟩
    have hg0 : Gr w w0 := by rw [hw0]; exact (Gr.refl _).alloc _
    have b0 : w0.cell? ⟨w.heap.size, 0, none⟩ = some (.slice A1 n1 c1) := by rw [hw0]; simp [go_sem]
    have b1 : w0.cell? ⟨w.heap.size, 1, none⟩ = some (.slice A2 n2 c2) := by rw [hw0]; simp [go_sem]
    rw [← hw0]
    clear hw0
    go_loopw [5] (fun i wr => ∃ k : Nat, k ≤ n3 ∧ i = .int .i64 k ∧ (∀ m, m < k → ∀ y, l[m]? = some y → rdAt n1 l m y = true) ∧ Gr w0 wr) (fun i _ => n3 - (intOf i).toNat)
    case atStart => exact ⟨0, Nat.zero_le _, rfl, fun j h => absurd h (by omega), Gr.refl _⟩
    case round =>
     obtain ⟨k, hk, rfl, hno, hgr⟩ := hrel
     have Hno := Lib.hid hno
     clear hno
     by_cases hlt : k < n3
     · obtain ⟨x, hx⟩ : ∃ x, l[k]? = some x := ⟨_, List.getElem?_eq_getElem (by have := Hl3.out; omega)⟩
       obtain ⟨b, o, rfl, hb, r0, r1⟩ := (HL.out.sl.gr (hg0.trans hgr)).rd hx
       have Hx := Lib.hid hx
       clear hx
       have q0 := hgr.has b0
       have q1 := hgr.has b1
       have hg2 : Gr wr (wr.alloc (.cells #[.int .i64 x.node, .int .i64 x.amount] 113)) := (Gr.refl _).alloc _
       have y0 := hg2.has q0
       have y1 := hg2.has q1
       have y2 : (wr.alloc (.cells #[.int .i64 x.node, .int .i64 x.amount] 113)).cell? ⟨wr.heap.size, 0, none⟩ = some (.int .i64 x.node) := by simp [go_sem]
       have y3 : (wr.alloc (.cells #[.int .i64 x.node, .int .i64 x.amount] 113)).cell? ⟨wr.heap.size, 1, none⟩ = some (.int .i64 x.amount) := by simp [go_sem]
       clear q0 q1
       replace hg2 : Gr w0 (wr.alloc (.cells #[.int .i64 x.node, .int .i64 x.amount] 113)) := hgr.trans hg2
       cases v1 : inB 0 x.node (↑n1 - 1) with
       | false =>
         have hb1 : rdAt n1 l k x = false := by simp only [rdAt, rdOk, v1, Bool.false_and]
         have Hb := Lib.hid hb1
         clear hb1
         go_wp2_with (first
           | (go_at_call 142; refine (l02Node_any _ _ _ _ _ _ _ _ (by omega)).mono ?_; rintro e w' ⟨rfl, hg1⟩; have z0 := hg1.has (p := ⟨w.heap.size, 0, none⟩) (v := .slice A1 n1 c1) (by assumption); have z1 := hg1.has (p := ⟨w.heap.size, 1, none⟩) (v := .slice A2 n2 c2) (by assumption); have z2 := hg1.has (p := ⟨wr.heap.size, 0, none⟩) (v := .int .i64 x.node) (by assumption); have z3 := hg1.has (p := ⟨wr.heap.size, 1, none⟩) (v := .int .i64 x.amount) (by assumption); replace hg2 := hg2.trans hg1)
           | (go_at_call 179; refine (l05Flow_any _ _).mono ?_; rintro e w' ⟨rfl, rfl⟩))
         go_ret
         exact ⟨ret_bool (rdsOk_bad Hx.out Hb.out).symm, hg0.trans hg2⟩
       | true =>
        cases v2 : inB (-30000) x.amount 30000 with
        | false =>
          have hb1 : rdAt n1 l k x = false := by simp only [rdAt, rdOk, v2, Bool.false_and, Bool.and_false]
          have Hb := Lib.hid hb1
          clear hb1
          go_wp2_with (first
            | (go_at_call 142; refine (l02Node_any _ _ _ _ _ _ _ _ (by omega)).mono ?_; rintro e w' ⟨rfl, hg1⟩; have z0 := hg1.has (p := ⟨w.heap.size, 0, none⟩) (v := .slice A1 n1 c1) (by assumption); have z1 := hg1.has (p := ⟨w.heap.size, 1, none⟩) (v := .slice A2 n2 c2) (by assumption); have z2 := hg1.has (p := ⟨wr.heap.size, 0, none⟩) (v := .int .i64 x.node) (by assumption); have z3 := hg1.has (p := ⟨wr.heap.size, 1, none⟩) (v := .int .i64 x.amount) (by assumption); replace hg2 := hg2.trans hg1)
            | (go_at_call 179; refine (l05Flow_any _ _).mono ?_; rintro e w' ⟨rfl, rfl⟩))
          go_ret
          exact ⟨ret_bool (rdsOk_bad Hx.out Hb.out).symm, hg0.trans hg2⟩
        | true =>
         cases v3 : (x.amount == 0) with
         | true =>
           have hb1 : rdAt n1 l k x = false := by simp only [rdAt, rdOk, v3, Bool.false_and, Bool.and_false, Bool.not_true]
           have Hb := Lib.hid hb1
           clear hb1
           go_wp2_with (first
             | (go_at_call 142; refine (l02Node_any _ _ _ _ _ _ _ _ (by omega)).mono ?_; rintro e w' ⟨rfl, hg1⟩; have z0 := hg1.has (p := ⟨w.heap.size, 0, none⟩) (v := .slice A1 n1 c1) (by assumption); have z1 := hg1.has (p := ⟨w.heap.size, 1, none⟩) (v := .slice A2 n2 c2) (by assumption); have z2 := hg1.has (p := ⟨wr.heap.size, 0, none⟩) (v := .int .i64 x.node) (by assumption); have z3 := hg1.has (p := ⟨wr.heap.size, 1, none⟩) (v := .int .i64 x.amount) (by assumption); replace hg2 := hg2.trans hg1)
             | (go_at_call 179; refine (l05Flow_any _ _).mono ?_; rintro e w' ⟨rfl, rfl⟩))
           go_ret
           exact ⟨ret_bool (rdsOk_bad Hx.out Hb.out).symm, hg0.trans hg2⟩
         | false =>
          have hok : rdOk n1 x = true := by simp only [rdOk, v1, v2, v3, Bool.and_true, Bool.not_false]
          have Hok := Lib.hid hok
          clear hok
          go_wp2_with (first
            | (go_at_call 142; refine (l02Node_any _ _ _ _ _ _ _ _ (by omega)).mono ?_; rintro e w' ⟨rfl, hg1⟩; have z0 := hg1.has (p := ⟨w.heap.size, 0, none⟩) (v := .slice A1 n1 c1) (by assumption); have z1 := hg1.has (p := ⟨w.heap.size, 1, none⟩) (v := .slice A2 n2 c2) (by assumption); have z2 := hg1.has (p := ⟨wr.heap.size, 0, none⟩) (v := .int .i64 x.node) (by assumption); have z3 := hg1.has (p := ⟨wr.heap.size, 1, none⟩) (v := .int .i64 x.amount) (by assumption); replace hg2 := hg2.trans hg1)
            | (go_at_call 179; refine (l05Flow_any _ _).mono ?_; rintro e w' ⟨rfl, rfl⟩))
          clear y0 y1 y2 y3 hgr
          have y2 := (by assumption : w'.cell? ⟨wr.heap.size, 0, none⟩ = some (.int .i64 x.node))
          have y3 := (by assumption : w'.cell? ⟨wr.heap.size, 1, none⟩ = some (.int .i64 x.amount))
          clear z0 z1 z2 z3 r0 r1
          go_loopw [7] (fun i wq => ∃ q : Nat, q ≤ k ∧ i = .int .i64 q ∧ (∀ m, m < q → ∀ y, l[m]? = some y → rdClash x y = false) ∧ Gr w' wq) (fun i _ => k - (intOf i).toNat)
          case atStart => exact ⟨0, Nat.zero_le _, rfl, fun j h => absurd h (by omega), Gr.refl _⟩
          case round =>
            obtain ⟨q, hq, rfl, hnq, hgq⟩ := hrel
            replace y2 := hgq.has y2
            replace y3 := hgq.has y3
            replace hg2 := hg2.trans hgq
            have Hnq := Lib.hid hnq
            clear hnq
            by_cases hql : q < k
            · obtain ⟨y, hy⟩ : ∃ y, l[q]? = some y := ⟨_, List.getElem?_eq_getElem (by have := Hl3.out; omega)⟩
              obtain ⟨b', o', eb, hb', s0, s1⟩ := (HL.out.sl.gr (hg0.trans hg2)).rd hy
              injection eb with eb
              injection eb with eb1 eb2
              subst eb1
              subst eb2
              have Hy := Lib.hid hy
              clear hy
              have u1 : (q : Int) < (n3 : Int) := by omega
              have u0 : (0 : Int) ≤ (q : Int) := by omega
              cases hcl : rdClash x y with
              | true =>
                have hb1 : rdAt n1 l k x = false := by simp only [rdAt, any_yes hql Hy.out hcl, Bool.not_true, Bool.and_false]
                have Hb := Lib.hid hb1
                clear hb1
                have hc' := hcl
                simp only [rdClash, Bool.and_eq_true] at hc'
                obtain ⟨e1, e2⟩ := hc'
                clear hcl
                go_wp2_with fail
                go_quiet (fail)
                go_wp2_with fail
                go_ret
                exact ⟨ret_bool (rdsOk_bad Hx.out Hb.out).symm, hg0.trans (hg2.drewN _)⟩
              | false =>
                have Hcl := Lib.hid hcl
                cases e1 : (y.node == x.node) with
                | true =>
                  have e2 : (decide (0 < y.amount) == decide (0 < x.amount)) = false := by simpa [rdClash, e1] using hcl
                  clear hcl
                  go_wp2_with fail
                  go_quiet (fail)
                  go_wp2_with fail
                  go_roundw
                  case rel => exact ⟨q + 1, by omega, by go_num, no_step Hy.out Hcl.out Hnq.out, hgq.drewN _⟩
                  case measure => simp [intOf]; omega
                | false =>
                  clear hcl
                  go_wp2_with fail
                  go_quiet (fail)
                  go_wp2_with fail
                  go_roundw
                  case rel => exact ⟨q + 1, by omega, by go_num, no_step Hy.out Hcl.out Hnq.out, hgq.drewN _⟩
                  case measure => simp [intOf]; omega
            · obtain rfl : q = k := by omega
              have hb1 : rdAt n1 l q x = true := by simp only [rdAt, any_no (by have := Hl3.out; omega) Hnq.out, Hok.out, Bool.not_false, Bool.and_true]
              have Hb := Lib.hid hb1
              clear hb1
              go_wp2_with fail
              go_roundw
              case rel => exact ⟨q + 1, by omega, by go_num, rd_step Hx.out Hb.out Hno.out, hg2⟩
              case measure => simp [intOf]; omega
     · obtain rfl : k = n3 := by omega
       go_wp2_with fail
       go_ret
       exact ⟨ret_bool (rdsOk_good (by rw [Hl3.out]; omega) (by rw [Hl3.out]; exact Hno.out)).symm, hg0.trans hgr⟩
end Go.Proofs.Ytejfpajbkgfiaaa
/-
  Readings: AreReadings and MeasuredTotal: the contracts.
-/
namespace Go.Proofs.Ytejfpajbkgfiaaa
open Go.ChangeShapes Go.WideShapes Go.ChangeAt Go.RowKit

theorem SlAt.nil (w : World) (size : Nat) : SlAt w size none 0 0 [] := ⟨⟨by simp, fun h => absurd h (by omega)⟩, Nat.le_refl _, by omega⟩
theorem l28Code_any {A1 A2 A4 A3 : Option Addr} {n1 c1 n2 c2 n4 c4 n3 c3 : Nat} (n : GNet) (os : List GOrd) (l : List GRd) (w : World) (hA : NetAt w A1 n1 c1 A2 n2 c2 n) (hO : SlAt w 4 A4 n4 c4 (os.flatMap GOrd.cells)) (hL : SlAt w 2 A3 n3 c3 (l.flatMap GRd.cells)) :
    Calls Try.prog 129 #[.agg #[.slice A1 n1 c1, .slice A2 n2 c2], .slice A4 n4 c4, .slice A3 n3 c3] w fun e w' => e = .returned (.int .i64 (rdCode n os l)) ∧ Gr w w' := by
  have HA := Lib.hid hA
  have HO := Lib.hid hO
  have HL := Lib.hid hL
  clear hA hL hO
  go_enter Try.func129, Try.ntmps129
  go_wp2_with fail
  refine (l22Code_any n os _ (HA.out.gr ((Gr.refl _).alloc _)) (HO.out.gr ((Gr.refl _).alloc _))).mono ?_
  rintro e w0 ⟨rfl, hg1⟩
  have hg0 : Gr w w0 := ((Gr.refl _).alloc _).trans hg1
  have b0 : w0.cell? ⟨w.heap.size, 0, none⟩ = some (.slice A1 n1 c1) := hg1.has (by simp [go_sem])
  have b1 : w0.cell? ⟨w.heap.size, 1, none⟩ = some (.slice A2 n2 c2) := hg1.has (by simp [go_sem])
  clear hg1
  by_cases hc : ordCode n os = 0
  · have Hc := Lib.hid hc
    have tb : (ordCode n os == 0) = true := by simp [hc]
    clear hc
    go_wp2_with fail
    refine (l28List_any n l _ (HA.out.gr hg0) (HL.out.gr hg0)).mono ?_
    rintro e w2 ⟨rfl, hg2⟩
    cases hs : rdsOk n1 l with
    | true =>
      have Hs := Lib.hid hs
      clear hs
      go_wp2_with fail
      go_ret
      exact ⟨ret_int (by rw [rdCode_ok Hc.out (by rw [HA.out.l1]; exact Hs.out), Hc.out]), hg0.trans hg2⟩
    | false =>
      have Hs := Lib.hid hs
      clear hs
      go_wp2_with fail
      go_ret
      exact ⟨ret_int (rdCode_lim Hc.out (by rw [HA.out.l1]; exact Hs.out)).symm, hg0.trans hg2⟩
  · have Hc := Lib.hid hc
    have tb : (ordCode n os == 0) = false := by simp [hc]
    clear hc
    go_wp2_with fail
    go_ret
    exact ⟨ret_int (rdCode_ord Hc.out).symm, hg0⟩
theorem AreReadings_any {A1 A2 A3 : Option Addr} {n1 c1 n2 c2 n3 c3 : Nat} (n : GNet) (l : List GRd) (w : World) (hA : NetAt w A1 n1 c1 A2 n2 c2 n) (hL : SlAt w 2 A3 n3 c3 (l.flatMap GRd.cells)) :
    Calls Try.prog 80 #[.agg #[.slice A1 n1 c1, .slice A2 n2 c2], .slice A3 n3 c3] w fun e w' => e = .returned (.bool (decide (rdCode n [] l = 0))) ∧ Gr w w' := by
  have HA := Lib.hid hA
  have HL := Lib.hid hL
  clear hA hL
  go_enter Try.func80, Try.ntmps80
  go_wp2_with fail
  refine (checkReadings_any n [] l _ (HA.out.gr ((Gr.refl _).alloc _)) (SlAt.nil _ _) (HL.out.gr ((Gr.refl _).alloc _))).mono ?_
  rintro e w2 ⟨rfl, hg2⟩
  go_wp2_with fail
  go_ret
  exact ⟨ret_bool rfl, ((Gr.refl _).alloc _).trans hg2⟩
end Go.Proofs.Ytejfpajbkgfiaaa
