import Derived.Test.YtejfpajbkgfiaaaNetOk
import Derived.Test.YtejfpajbkgfiaaaInts
import Derived.IntWalk
/-
  Transports: the tests of the program and of the reference. Printed by gen_tr.py.
-/
namespace Go.Proofs.Ytejfpajbkgfiaaa
open Go.ChangeShapes Go.WideShapes Go.ChangeAt Go.RowKit

def trOk (nn : Int) (x : GTr) : Bool := inB 0 x.entry (nn - 1) && inB 0 x.exit (nn - 1) && !(x.entry == x.exit) && inB 0 x.amount 30000 && inB 0 x.cls 3
def trsOk (nn : Int) (l : List GTr) : Bool := decide (l.length ≤ 32) && l.all (trOk nn)
def trCode (n : GNet) (l : List GTr) : Int := if netOk n then (if trsOk n.nodes.length l then 0 else 3) else 1
theorem trOk_all {nn : Int} {x : GTr} (h : trOk nn x = true) : (0 ≤ x.entry ∧ x.entry ≤ nn - 1) ∧ (0 ≤ x.exit ∧ x.exit ≤ nn - 1) ∧ x.entry ≠ x.exit ∧ (0 ≤ x.amount ∧ x.amount ≤ 30000) ∧ (0 ≤ x.cls ∧ x.cls ≤ 3) := by
  unfold trOk at h
  simp only [Bool.and_eq_true, inB_iff, Bool.not_eq_true', beq_eq_false_iff_ne, ne_eq] at h
  obtain ⟨⟨⟨⟨a, b⟩, c⟩, d⟩, e⟩ := h
  exact ⟨a, b, c, d, e⟩
theorem all_step {α : Type} {p : α → Bool} {l : List α} {k : Nat} {x : α} (hx : l[k]? = some x) (hp : p x = true) (h : ∀ m, m < k → ∀ y, l[m]? = some y → p y = true) : ∀ m, m < k + 1 → ∀ y, l[m]? = some y → p y = true := by
  intro m hm y hy
  by_cases e : m = k
  · subst e
    rw [hx] at hy
    injection hy with hy
    subst hy
    exact hp
  · exact h m (by omega) y hy
theorem all_of {α : Type} {p : α → Bool} {l : List α} (h : ∀ m, m < l.length → ∀ y, l[m]? = some y → p y = true) : l.all p = true := by
  rw [List.all_eq_true]
  intro x hx
  obtain ⟨k, hk, rfl⟩ := List.mem_iff_getElem.1 hx
  exact h k hk _ (List.getElem?_eq_getElem hk)
theorem all_not {α : Type} {p : α → Bool} {l : List α} {k : Nat} {x : α} (hx : l[k]? = some x) (hp : p x = false) : l.all p = false := by
  rw [List.all_eq_false]; exact ⟨x, List.mem_of_getElem? hx, by simp [hp]⟩
theorem trsOk_long {nn : Int} {l : List GTr} (h : 32 < l.length) : trsOk nn l = false := by simp [trsOk]; omega
theorem trsOk_bad {nn : Int} {l : List GTr} {k : Nat} {x : GTr} (hx : l[k]? = some x) (hp : trOk nn x = false) : trsOk nn l = false := by simp [trsOk, all_not hx hp]
theorem trsOk_good {nn : Int} {l : List GTr} (hl : l.length ≤ 32) (h : ∀ m, m < l.length → ∀ y, l[m]? = some y → trOk nn y = true) : trsOk nn l = true := by simp [trsOk, hl, all_of h]
theorem trsOk_all {nn : Int} {l : List GTr} (h : trsOk nn l = true) : l.length ≤ 32 ∧ ∀ (m : Nat) (y : GTr), l[m]? = some y → trOk nn y = true := by
  simp only [trsOk, Bool.and_eq_true, decide_eq_true_eq, List.all_eq_true] at h
  exact ⟨h.1, fun m y hy => h.2 y (List.mem_of_getElem? hy)⟩
theorem trCode_inv {n : GNet} {l : List GTr} (h : netOk n = false) : trCode n l = 1 := by simp [trCode, h]
theorem trCode_lim {n : GNet} {l : List GTr} (h : netOk n = true) (h' : trsOk n.nodes.length l = false) : trCode n l = 3 := by simp [trCode, h, h']
theorem trCode_ok {n : GNet} {l : List GTr} (h : netOk n = true) (h' : trsOk n.nodes.length l = true) : trCode n l = 0 := by simp [trCode, h, h']
theorem trCode_zero {n : GNet} {l : List GTr} (h : trCode n l = 0) : netOk n = true ∧ trsOk n.nodes.length l = true := by
  unfold trCode at h
  cases h1 : netOk n <;> cases h2 : trsOk n.nodes.length l <;> simp [h1, h2] at h ⊢
theorem trCode_range (n : GNet) (l : List GTr) : 0 ≤ trCode n l ∧ trCode n l ≤ 3 := by
  unfold trCode
  cases netOk n <;> cases trsOk n.nodes.length l <;> simp

set_option maxHeartbeats 800000 in
theorem l24List_any (A1 A2 A3 : Option Addr) (n1 c1 n2 c2 n3 c3 : Nat) (n : GNet) (l : List GTr) (w : World) (hA : NetAt w A1 n1 c1 A2 n2 c2 n) (hL : Sl w 4 A3 n3 (l.flatMap GTr.cells)) (hm3 : n3 ≤ 1048576) :
    Calls Try.prog 103 #[.agg #[.slice A1 n1 c1, .slice A2 n2 c2], .slice A3 n3 c3] w fun e w' => e = .returned (.bool (trsOk n1 l)) ∧ Gr w w' := by
  have hm1 := hA.m1
  have HA := Lib.hid hA
  have HL := Lib.hid hL
  clear hA hL
  by_cases h : 32 < n3
  · rw [trsOk_long (by rw [HL.out.len GTr.cells_len (by omega)]; exact h)]
    go_enter Try.func103, Try.ntmps103
    go_wp2_with fail
    go_ret
    exact ⟨rfl, (Gr.refl _).alloc _⟩
  · have t1 : decide ((32 : Int) < (n3 : Int)) = false := by simp; omega
    go_enter Try.func103, Try.ntmps103
    go_wp2_with fail
    obtain ⟨w0, hw0⟩ : ∃ w0, w0 = w.alloc (.cells #[.slice A1 n1 c1, .slice A2 n2 c2] 27) := ⟨_, rfl⟩
    have hg0 : Gr w w0 := by rw [hw0]; exact (Gr.refl _).alloc _
    have b0 : w0.cell? ⟨w.heap.size, 0, none⟩ = some (.slice A1 n1 c1) := by rw [hw0]; simp [go_sem]
    have b1 : w0.cell? ⟨w.heap.size, 1, none⟩ = some (.slice A2 n2 c2) := by rw [hw0]; simp [go_sem]
    rw [← hw0]
    clear hw0
    go_loopw [5] (fun i wr => ∃ k : Nat, k ≤ n3 ∧ i = .int .i64 k ∧ (∀ m, m < k → ∀ y, l[m]? = some y → trOk n1 y = true) ∧ Gr w0 wr) (fun i _ => n3 - (intOf i).toNat)
    case atStart => exact ⟨0, Nat.zero_le _, rfl, fun j h => absurd h (by omega), Gr.refl _⟩
    case round =>
     obtain ⟨k, hk, rfl, hno, hgr⟩ := hrel
     have Hno := Lib.hid hno
     clear hno
     by_cases hlt : k < n3
     · obtain ⟨x, hx⟩ : ∃ x, l[k]? = some x := ⟨_, List.getElem?_eq_getElem (by have := HL.out.len GTr.cells_len (by omega); omega)⟩
       obtain ⟨b, o, rfl, hb, r0, r1, r2, r3⟩ := (HL.out.gr (hg0.trans hgr)).tr hx
       have Hx := Lib.hid hx
       clear hx
       have q0 := hgr.has b0
       have q1 := hgr.has b1
       have hg2 : Gr wr (wr.alloc (.cells #[.int .i64 x.entry, .int .i64 x.exit, .int .i64 x.amount, .int .i64 x.cls] 39)) := (Gr.refl _).alloc _
       have y0 := hg2.has q0
       have y1 := hg2.has q1
       have y2 : (wr.alloc (.cells #[.int .i64 x.entry, .int .i64 x.exit, .int .i64 x.amount, .int .i64 x.cls] 39)).cell? ⟨wr.heap.size, 0, none⟩ = some (.int .i64 x.entry) := by simp [go_sem]
       have y3 : (wr.alloc (.cells #[.int .i64 x.entry, .int .i64 x.exit, .int .i64 x.amount, .int .i64 x.cls] 39)).cell? ⟨wr.heap.size, 1, none⟩ = some (.int .i64 x.exit) := by simp [go_sem]
       have y4 : (wr.alloc (.cells #[.int .i64 x.entry, .int .i64 x.exit, .int .i64 x.amount, .int .i64 x.cls] 39)).cell? ⟨wr.heap.size, 2, none⟩ = some (.int .i64 x.amount) := by simp [go_sem]
       have y5 : (wr.alloc (.cells #[.int .i64 x.entry, .int .i64 x.exit, .int .i64 x.amount, .int .i64 x.cls] 39)).cell? ⟨wr.heap.size, 3, none⟩ = some (.int .i64 x.cls) := by simp [go_sem]
       clear q0 q1
       replace hg2 : Gr w0 (wr.alloc (.cells #[.int .i64 x.entry, .int .i64 x.exit, .int .i64 x.amount, .int .i64 x.cls] 39)) := hgr.trans hg2
       cases hok : trOk n1 x with
       | true =>
         obtain ⟨p1, p2, p3, p4, p5⟩ := trOk_all hok
         have v1 : inB 0 x.entry (↑n1 - 1) = true := inB_true p1
         have v2 : inB 0 x.exit (↑n1 - 1) = true := inB_true p2
         have v3 : (x.entry == x.exit) = false := by simp [p3]
         have v4 : inB 0 x.amount 30000 = true := inB_true p4
         have v5 : inB 0 x.cls 3 = true := inB_true p5
         have Hok := Lib.hid hok
         clear hok p1 p2 p3 p4 p5
         go_wp2_with (first
           | (go_at_call 142; refine (l02Node_any _ _ _ _ _ _ _ _ (by omega)).mono ?_; rintro e w' ⟨rfl, hg1⟩; have z0 := hg1.has (p := ⟨w.heap.size, 0, none⟩) (v := .slice A1 n1 c1) (by assumption); have z1 := hg1.has (p := ⟨w.heap.size, 1, none⟩) (v := .slice A2 n2 c2) (by assumption); have z2 := hg1.has (p := ⟨wr.heap.size, 0, none⟩) (v := .int .i64 x.entry) (by assumption); have z3 := hg1.has (p := ⟨wr.heap.size, 1, none⟩) (v := .int .i64 x.exit) (by assumption); have z4 := hg1.has (p := ⟨wr.heap.size, 2, none⟩) (v := .int .i64 x.amount) (by assumption); have z5 := hg1.has (p := ⟨wr.heap.size, 3, none⟩) (v := .int .i64 x.cls) (by assumption); replace hg2 := hg2.trans hg1)
           | (go_at_call 91; refine (l01In_any _ _ _ _).mono ?_; rintro e w' ⟨rfl, rfl⟩))
         go_roundw
         case rel => exact ⟨k + 1, by omega, by go_num, all_step Hx.out Hok.out Hno.out, hg2⟩
         case measure => simp [intOf]; omega
       | false =>
         have Hok := Lib.hid hok
         go_wp2_with (first
           | (go_at_call 142; refine (l02Node_any _ _ _ _ _ _ _ _ (by omega)).mono ?_; rintro e w' ⟨rfl, hg1⟩; have z0 := hg1.has (p := ⟨w.heap.size, 0, none⟩) (v := .slice A1 n1 c1) (by assumption); have z1 := hg1.has (p := ⟨w.heap.size, 1, none⟩) (v := .slice A2 n2 c2) (by assumption); have z2 := hg1.has (p := ⟨wr.heap.size, 0, none⟩) (v := .int .i64 x.entry) (by assumption); have z3 := hg1.has (p := ⟨wr.heap.size, 1, none⟩) (v := .int .i64 x.exit) (by assumption); have z4 := hg1.has (p := ⟨wr.heap.size, 2, none⟩) (v := .int .i64 x.amount) (by assumption); have z5 := hg1.has (p := ⟨wr.heap.size, 3, none⟩) (v := .int .i64 x.cls) (by assumption); replace hg2 := hg2.trans hg1)
           | (go_at_call 91; refine (l01In_any _ _ _ _).mono ?_; rintro e w' ⟨rfl, rfl⟩))
         all_goals first
           | (go_ret
              exact ⟨ret_bool (trsOk_bad Hx.out Hok.out).symm, hg0.trans (by assumption)⟩)
           | (exfalso
              have h7 := Hok.out
              have g : (x.entry == x.exit) = false ∧ (!inB 0 x.cls 3) = false := by assumption
              have g1 := g.1
              have g2 : inB 0 x.cls 3 = true := by simpa using g.2
              simp [trOk, *] at h7)
     · obtain rfl : k = n3 := by omega
       go_wp2_with fail
       go_ret
       exact ⟨ret_bool (trsOk_good (by rw [HL.out.len GTr.cells_len (by omega)]; omega) (by rw [HL.out.len GTr.cells_len (by omega)]; exact Hno.out)).symm, hg0.trans hgr⟩
set_option maxHeartbeats 800000 in
theorem checkTransports_any (A1 A2 A3 : Option Addr) (n1 c1 n2 c2 n3 c3 : Nat) (n : GNet) (l : List GTr) (w : World) (hA : NetAt w A1 n1 c1 A2 n2 c2 n) (hL : Sl w 4 A3 n3 (l.flatMap GTr.cells)) (hm3 : n3 ≤ 1048576) :
    Calls Try.prog 87 #[.agg #[.slice A1 n1 c1, .slice A2 n2 c2], .slice A3 n3 c3] w fun e w' => e = .returned (.int .i64 (trCode n l)) ∧ Gr w w' := by
  have hm1 := hA.m1
  have HA := Lib.hid hA
  have HL := Lib.hid hL
  clear hA hL
  have hl3 := HL.out.len GTr.cells_len (by omega)
  have Hl3 := Lib.hid hl3
  clear hl3
  cases hnet : netOk n with
  | false =>
    rw [trCode_inv hnet]
    go_enter Try.func87, Try.ntmps87
    go_wp2_with fail
    refine (IsNetwork_any _ _ _ _ _ _ n _ (HA.out.gr ((Gr.refl _).alloc _))).mono ?_
    rintro e w' ⟨rfl, hg1⟩
    go_wp2_with fail
    go_ret
    exact ⟨rfl, ((Gr.refl _).alloc _).trans hg1⟩
  | true =>
   have Hnet := Lib.hid hnet
   by_cases h : 32 < n3
   · rw [trCode_lim hnet (trsOk_long (by rw [Hl3.out]; exact h))]
     go_enter Try.func87, Try.ntmps87
     go_wp2_with fail
     refine (IsNetwork_any _ _ _ _ _ _ n _ (HA.out.gr ((Gr.refl _).alloc _))).mono ?_
     rintro e w' ⟨rfl, hg1⟩
     go_wp2_with fail
     go_ret
     exact ⟨rfl, ((Gr.refl _).alloc _).trans hg1⟩
   · have t1 : decide ((32 : Int) < (n3 : Int)) = false := by simp; omega
     go_enter Try.func87, Try.ntmps87
     go_wp2_with fail
     refine (IsNetwork_any _ _ _ _ _ _ n _ (HA.out.gr ((Gr.refl _).alloc _))).mono ?_
     rintro e w0 ⟨rfl, hg1⟩
     have hg0 : Gr w w0 := ((Gr.refl _).alloc _).trans hg1
     have b0 : w0.cell? ⟨w.heap.size, 0, none⟩ = some (.slice A1 n1 c1) := hg1.has (by simp [go_sem])
     have b1 : w0.cell? ⟨w.heap.size, 1, none⟩ = some (.slice A2 n2 c2) := hg1.has (by simp [go_sem])
     clear hg1
     go_wp2_with fail
     go_loopw [17] (fun i wr => ∃ k : Nat, k ≤ n3 ∧ i = .int .i64 k ∧ (∀ m, m < k → ∀ y, l[m]? = some y → trOk n1 y = true) ∧ Gr w0 wr) (fun i _ => n3 - (intOf i).toNat)
     case atStart => exact ⟨0, Nat.zero_le _, rfl, fun j h => absurd h (by omega), Gr.refl _⟩
     case round =>
     obtain ⟨k, hk, rfl, hno, hgr⟩ := hrel
     have Hno := Lib.hid hno
     clear hno
     by_cases hlt : k < n3
     · obtain ⟨x, hx⟩ : ∃ x, l[k]? = some x := ⟨_, List.getElem?_eq_getElem (by have := HL.out.len GTr.cells_len (by omega); omega)⟩
       obtain ⟨b, o, rfl, hb, r0, r1, r2, r3⟩ := (HL.out.gr (hg0.trans hgr)).tr hx
       have Hx := Lib.hid hx
       clear hx
       have q0 := hgr.has b0
       have q1 := hgr.has b1
       have hg2 : Gr wr (wr.alloc (.cells #[.int .i64 x.entry, .int .i64 x.exit, .int .i64 x.amount, .int .i64 x.cls] 39)) := (Gr.refl _).alloc _
       have y0 := hg2.has q0
       have y1 := hg2.has q1
       have y2 : (wr.alloc (.cells #[.int .i64 x.entry, .int .i64 x.exit, .int .i64 x.amount, .int .i64 x.cls] 39)).cell? ⟨wr.heap.size, 0, none⟩ = some (.int .i64 x.entry) := by simp [go_sem]
       have y3 : (wr.alloc (.cells #[.int .i64 x.entry, .int .i64 x.exit, .int .i64 x.amount, .int .i64 x.cls] 39)).cell? ⟨wr.heap.size, 1, none⟩ = some (.int .i64 x.exit) := by simp [go_sem]
       have y4 : (wr.alloc (.cells #[.int .i64 x.entry, .int .i64 x.exit, .int .i64 x.amount, .int .i64 x.cls] 39)).cell? ⟨wr.heap.size, 2, none⟩ = some (.int .i64 x.amount) := by simp [go_sem]
       have y5 : (wr.alloc (.cells #[.int .i64 x.entry, .int .i64 x.exit, .int .i64 x.amount, .int .i64 x.cls] 39)).cell? ⟨wr.heap.size, 3, none⟩ = some (.int .i64 x.cls) := by simp [go_sem]
       clear q0 q1
       replace hg2 : Gr w0 (wr.alloc (.cells #[.int .i64 x.entry, .int .i64 x.exit, .int .i64 x.amount, .int .i64 x.cls] 39)) := hgr.trans hg2
       cases hok : trOk n1 x with
       | true =>
         obtain ⟨p1, p2, p3, p4, p5⟩ := trOk_all hok
         have v1 : inB 0 x.entry (↑n1 - 1) = true := inB_true p1
         have v2 : inB 0 x.exit (↑n1 - 1) = true := inB_true p2
         have v3 : (x.entry == x.exit) = false := by simp [p3]
         have v4 : inB 0 x.amount 30000 = true := inB_true p4
         have v5 : inB 0 x.cls 3 = true := inB_true p5
         have Hok := Lib.hid hok
         clear hok p1 p2 p3 p4 p5
         go_wp2_with (first
           | (go_at_call 144; refine (isNodeOf_any _ _ _ _ _ _ _ _ (by omega)).mono ?_; rintro e w' ⟨rfl, hg1⟩; have z0 := hg1.has (p := ⟨w.heap.size, 0, none⟩) (v := .slice A1 n1 c1) (by assumption); have z1 := hg1.has (p := ⟨w.heap.size, 1, none⟩) (v := .slice A2 n2 c2) (by assumption); have z2 := hg1.has (p := ⟨wr.heap.size, 0, none⟩) (v := .int .i64 x.entry) (by assumption); have z3 := hg1.has (p := ⟨wr.heap.size, 1, none⟩) (v := .int .i64 x.exit) (by assumption); have z4 := hg1.has (p := ⟨wr.heap.size, 2, none⟩) (v := .int .i64 x.amount) (by assumption); have z5 := hg1.has (p := ⟨wr.heap.size, 3, none⟩) (v := .int .i64 x.cls) (by assumption); replace hg2 := hg2.trans hg1)
           | (go_at_call 88; refine (within_any _ _ _ _).mono ?_; rintro e w' ⟨rfl, rfl⟩))
         go_roundw
         case rel => exact ⟨k + 1, by omega, by go_num, all_step Hx.out Hok.out Hno.out, hg2⟩
         case measure => simp [intOf]; omega
       | false =>
         have Hok := Lib.hid hok
         go_wp2_with (first
           | (go_at_call 144; refine (isNodeOf_any _ _ _ _ _ _ _ _ (by omega)).mono ?_; rintro e w' ⟨rfl, hg1⟩; have z0 := hg1.has (p := ⟨w.heap.size, 0, none⟩) (v := .slice A1 n1 c1) (by assumption); have z1 := hg1.has (p := ⟨w.heap.size, 1, none⟩) (v := .slice A2 n2 c2) (by assumption); have z2 := hg1.has (p := ⟨wr.heap.size, 0, none⟩) (v := .int .i64 x.entry) (by assumption); have z3 := hg1.has (p := ⟨wr.heap.size, 1, none⟩) (v := .int .i64 x.exit) (by assumption); have z4 := hg1.has (p := ⟨wr.heap.size, 2, none⟩) (v := .int .i64 x.amount) (by assumption); have z5 := hg1.has (p := ⟨wr.heap.size, 3, none⟩) (v := .int .i64 x.cls) (by assumption); replace hg2 := hg2.trans hg1)
           | (go_at_call 88; refine (within_any _ _ _ _).mono ?_; rintro e w' ⟨rfl, rfl⟩))
         all_goals first
           | (go_ret
              exact ⟨ret_int (trCode_lim Hnet.out (by rw [HA.out.l1]; exact trsOk_bad Hx.out Hok.out)).symm, hg0.trans (by assumption)⟩)
           | (exfalso
              have h7 := Hok.out
              have g : (x.entry == x.exit) = false ∧ (!inB 0 x.cls 3) = false := by assumption
              have g1 := g.1
              have g2 : inB 0 x.cls 3 = true := by simpa using g.2
              simp [trOk, *] at h7)
     · obtain rfl : k = n3 := by omega
       go_wp2_with fail
       go_ret
       exact ⟨ret_int (trCode_ok Hnet.out (by rw [HA.out.l1]; exact trsOk_good (by rw [Hl3.out]; omega) (by rw [Hl3.out]; exact Hno.out))).symm, hg0.trans hgr⟩
theorem spAreTransports_any (A1 A2 A3 : Option Addr) (n1 c1 n2 c2 n3 c3 : Nat) (n : GNet) (l : List GTr) (w : World) (hA : NetAt w A1 n1 c1 A2 n2 c2 n) (hL : Sl w 4 A3 n3 (l.flatMap GTr.cells)) (hm3 : n3 ≤ 1048576) :
    Calls Try.prog 31 #[.agg #[.slice A1 n1 c1, .slice A2 n2 c2], .slice A3 n3 c3] w fun e w' => e = .returned (.bool (decide (trCode n l = 0))) ∧ Gr w w' := by
  have hm1 := hA.m1
  have HA := Lib.hid hA
  have HL := Lib.hid hL
  clear hA hL
  cases hnet : netOk n with
  | false =>
    rw [trCode_inv hnet]
    go_enter Try.func31, Try.ntmps31
    go_wp2_with fail
    refine (spIsNetwork_any _ _ _ _ _ _ n _ (HA.out.gr ((Gr.refl _).alloc _))).mono ?_
    rintro e w' ⟨rfl, hg1⟩
    go_wp2_with fail
    go_ret
    exact ⟨rfl, ((Gr.refl _).alloc _).trans hg1⟩
  | true =>
    have hfin : decide (trCode n l = 0) = trsOk n1 l := by
      rw [← HA.out.l1]
      cases h2 : trsOk n.nodes.length l
      · rw [trCode_lim hnet h2]; rfl
      · rw [trCode_ok hnet h2]; rfl
    rw [hfin]
    clear hfin
    go_enter Try.func31, Try.ntmps31
    go_wp2_with fail
    refine (spIsNetwork_any _ _ _ _ _ _ n _ (HA.out.gr ((Gr.refl _).alloc _))).mono ?_
    rintro e w1 ⟨rfl, hg1⟩
    have b0 : w1.cell? ⟨w.heap.size, 0, none⟩ = some (.slice A1 n1 c1) := hg1.has (by simp [go_sem])
    have b1 : w1.cell? ⟨w.heap.size, 1, none⟩ = some (.slice A2 n2 c2) := hg1.has (by simp [go_sem])
    have hg0 : Gr w w1 := ((Gr.refl _).alloc _).trans hg1
    clear hg1
    go_wp2_with fail
    refine (l24List_any _ _ _ _ _ _ _ _ _ n l _ (HA.out.gr hg0) (HL.out.gr hg0) hm3).mono ?_
    rintro e w2 ⟨rfl, hg2⟩
    go_wp2_with fail
    go_ret
    exact ⟨rfl, hg0.trans hg2⟩
theorem AreTransports_any (A1 A2 A3 : Option Addr) (n1 c1 n2 c2 n3 c3 : Nat) (n : GNet) (l : List GTr) (w : World) (hA : NetAt w A1 n1 c1 A2 n2 c2 n) (hL : Sl w 4 A3 n3 (l.flatMap GTr.cells)) (hm3 : n3 ≤ 1048576) :
    Calls Try.prog 30 #[.agg #[.slice A1 n1 c1, .slice A2 n2 c2], .slice A3 n3 c3] w fun e w' => e = .returned (.bool (decide (trCode n l = 0))) ∧ Gr w w' := by
  have hm1 := hA.m1
  have HA := Lib.hid hA
  have HL := Lib.hid hL
  clear hA hL
  go_enter Try.func30, Try.ntmps30
  go_wp2_with fail
  refine (checkTransports_any _ _ _ _ _ _ _ _ _ n l _ (HA.out.gr ((Gr.refl _).alloc _)) (HL.out.gr ((Gr.refl _).alloc _)) hm3).mono ?_
  rintro e w2 ⟨rfl, hg2⟩
  go_wp2_with fail
  go_ret
  exact ⟨ret_bool rfl, ((Gr.refl _).alloc _).trans hg2⟩
end Go.Proofs.Ytejfpajbkgfiaaa
/-
  Plain functions on transports: amounts by class, supplies, scaling.
-/
namespace Go.Proofs.Ytejfpajbkgfiaaa
open Go.RowKit

def addAt (l : List Int) (k : Nat) (d : Int) : List Int := l.set k (l.getD k 0 + d)
theorem addAt_length (l : List Int) (k : Nat) (d : Int) : (addAt l k d).length = l.length := by simp [addAt]
def Bnd (B : Int) (l : List Int) : Prop := ∀ (j : Nat) (v : Int), l[j]? = some v → -B ≤ v ∧ v ≤ B
theorem Bnd.mono {B B' : Int} {l : List Int} (h : Bnd B l) (hB : B ≤ B') : Bnd B' l := fun j v hv => by have := h j v hv; omega
theorem Bnd.getD {B : Int} {l : List Int} (h : Bnd B l) (hB : 0 ≤ B) (k : Nat) : -B ≤ l.getD k 0 ∧ l.getD k 0 ≤ B := by
  rw [List.getD_eq_getElem?_getD]
  cases e : l[k]? with
  | none => simp; omega
  | some v => simpa [e] using h k v e
theorem Bnd.addAt {B D d : Int} {l : List Int} (h : Bnd B l) (hB : 0 ≤ B) (hd : -D ≤ d ∧ d ≤ D) (k : Nat) : Bnd (B + D) (addAt l k d) := by
  intro j v hv
  unfold Go.Proofs.Ytejfpajbkgfiaaa.addAt at hv
  rw [List.getElem?_set] at hv
  have hg := h.getD hB k
  split at hv
  · split at hv
    · injection hv with hv; omega
    · cases hv
  · have := h j v hv; omega
theorem Bnd.zeros (n : Nat) : Bnd 0 (List.replicate n 0) := by
  intro j v hv
  rw [List.getElem?_replicate] at hv
  split at hv
  · injection hv with hv; omega
  · cases hv
theorem foldl_take_succ {α β : Type} (f : β → α → β) (b : β) (l : List α) (k : Nat) (x : α) (hx : l[k]? = some x) : (l.take (k + 1)).foldl f b = f ((l.take k).foldl f b) x := by
  rw [List.take_add_one, hx]; simp

def amtStep (acc : List Int) (x : GTr) : List Int := addAt acc x.cls.toNat x.amount
def amounts (l : List GTr) : List Int := l.foldl amtStep (List.replicate 4 0)
def supStep (acc : List Int) (x : GTr) : List Int := addAt (addAt acc x.entry.toNat x.amount) x.exit.toNat (-x.amount)
def supplies (nn : Nat) (l : List GTr) : List Int := l.foldl supStep (List.replicate nn 0)
theorem amt_length (l : List GTr) (acc : List Int) : (l.foldl amtStep acc).length = acc.length := by
  induction l generalizing acc with
  | nil => rfl
  | cons x l ih => rw [List.foldl_cons, ih]; simp [amtStep, addAt_length]
theorem sup_length (l : List GTr) (acc : List Int) : (l.foldl supStep acc).length = acc.length := by
  induction l generalizing acc with
  | nil => rfl
  | cons x l ih => rw [List.foldl_cons, ih]; simp [supStep, addAt_length]
theorem amt_bnd {nn : Int} (l : List GTr) (h : ∀ x ∈ l, trOk nn x = true) (B : Int) (hB : 0 ≤ B) (acc : List Int) (ha : Bnd B acc) : Bnd (B + 30000 * l.length) (l.foldl amtStep acc) := by
  induction l generalizing acc B with
  | nil => simpa using ha
  | cons x l ih =>
    obtain ⟨_, _, _, p4, _⟩ := trOk_all (h x (List.mem_cons_self ..))
    have := ih (fun y hy => h y (List.mem_cons_of_mem _ hy)) (B + 30000) (by omega) (amtStep acc x) (ha.addAt hB (by omega) _)
    exact this.mono (by simp; omega)
theorem sup_bnd {nn : Int} (l : List GTr) (h : ∀ x ∈ l, trOk nn x = true) (B : Int) (hB : 0 ≤ B) (acc : List Int) (ha : Bnd B acc) : Bnd (B + 60000 * l.length) (l.foldl supStep acc) := by
  induction l generalizing acc B with
  | nil => simpa using ha
  | cons x l ih =>
    obtain ⟨_, _, _, p4, _⟩ := trOk_all (h x (List.mem_cons_self ..))
    have h1 := (ha.addAt (d := x.amount) (D := 30000) hB (by omega) x.entry.toNat).addAt (d := -x.amount) (D := 30000) (by omega) (by omega) x.exit.toNat
    have := ih (fun y hy => h y (List.mem_cons_of_mem _ hy)) (B + 30000 + 30000) (by omega) (supStep acc x) h1
    exact this.mono (by simp; omega)
theorem mem_take_ok {nn : Int} {l : List GTr} (h : trsOk nn l = true) (k : Nat) : ∀ x ∈ l.take k, trOk nn x = true := by
  intro x hx
  obtain ⟨i, hi⟩ := List.mem_iff_getElem?.1 (List.mem_of_mem_take hx)
  exact (trsOk_all h).2 i x hi
/-- What the loops need at round k. -/
theorem amt_at {nn : Int} {l : List GTr} (h : trsOk nn l = true) (k : Nat) : ((l.take k).foldl amtStep (List.replicate 4 0)).length = 4 ∧ Bnd 960000 ((l.take k).foldl amtStep (List.replicate 4 0)) := by
  have hl := (trsOk_all h).1
  refine ⟨by rw [amt_length]; simp, (amt_bnd (l.take k) (mem_take_ok h k) 0 (by omega) _ (Bnd.zeros 4)).mono ?_⟩
  have : (l.take k).length ≤ 32 := by simp; omega
  omega
theorem sup_at {nn : Int} {l : List GTr} (h : trsOk nn l = true) (m k : Nat) : ((l.take k).foldl supStep (List.replicate m 0)).length = m ∧ Bnd 1920000 ((l.take k).foldl supStep (List.replicate m 0)) := by
  have hl := (trsOk_all h).1
  refine ⟨by rw [sup_length]; simp, (sup_bnd (l.take k) (mem_take_ok h k) 0 (by omega) _ (Bnd.zeros m)).mono ?_⟩
  have : (l.take k).length ≤ 32 := by simp; omega
  omega
theorem get_of_lt {l : List Int} {k : Nat} (h : k < l.length) : l[k]? = some (l.getD k 0) := by
  rw [List.getD_eq_getElem?_getD, List.getElem?_eq_getElem h]; rfl
end Go.Proofs.Ytejfpajbkgfiaaa
/-
  AmountsByClass: the program and the reference.
-/
namespace Go.Proofs.Ytejfpajbkgfiaaa
open Go.ChangeShapes Go.WideShapes Go.ChangeAt Go.RowKit

theorem amountsByClass_any {A3 : Option Addr} {n3 c3 : Nat} (nn : Int) (l : List GTr) (w : World) (hL : SlAt w 4 A3 n3 c3 (l.flatMap GTr.cells)) (hok : trsOk nn l = true) :
    Calls Try.prog 94 #[.slice A3 n3 c3] w fun e w' => ∃ A m c, e = .returned (.slice A m c) ∧ m ≤ 1048576 ∧ w'.ownsRow w.heap.size 2 1 (.slice A m c) m (ints (amounts l)) ∧ Gr w w' := by
  obtain ⟨i0, hi0, hz0, hz1, hz2⟩ := info_parts infoInt64
  have hm3 := hL.small
  have hlen := hL.sl.len GTr.cells_len (by omega)
  have Hlen := Lib.hid hlen
  have HL := Lib.hid hL
  have Hok := Lib.hid hok
  clear hL hok hlen
  go_enter Try.func94, Try.ntmps94
  go_wp2_with (at_make; refine wpList_make_full _ rfl _ _ _ rfl w.heap.size 2 i0 _ 1 Try.underlying33 hi0 hz0 hz1 .i64 .i64 _ _ 4 rfl rfl rfl rfl (by rw [hz2]; omega) (by unfold maxLen; omega) (Nat.le_refl _) ?_; intro w1 hown hg)
  have hg' : Gr w w1 := Gr.of_grown hg
  have ez : (madeCells (Value.int .i64 0).cells (4 * 1)).toList = ints ((l.take 0).foldl amtStep (List.replicate 4 0)) := made_ints 4
  rw [ez] at hown
  clear ez hg hi0 hz0 hz1 hz2
  go_loopw [9] (fun i wr => ∃ k : Nat, k ≤ n3 ∧ i = .int .i64 k ∧ wr.ownsRow w.heap.size 2 1 (.slice (some ⟨w.heap.size, 0, none⟩) 4 4) 4 (ints ((l.take k).foldl amtStep (List.replicate 4 0))) ∧ Gr w wr) (fun i _ => n3 - (intOf i).toNat)
  case atStart => exact ⟨0, Nat.zero_le _, rfl, hown, hg'⟩
  case round =>
    obtain ⟨k, hk, rfl, hownr, hgr⟩ := hrel
    clear hown hg'
    by_cases hlt : k < n3
    · obtain ⟨x, hx⟩ : ∃ x, l[k]? = some x := ⟨_, List.getElem?_eq_getElem (by have := Hlen.out; omega)⟩
      obtain ⟨b, o, rfl, hb, e0, e1, e2, e3⟩ := (HL.out.sl.gr hgr).tr hx
      obtain ⟨_, _, _, p4, p5⟩ := trOk_all ((trsOk_all Hok.out).2 k x hx)
      have hat := amt_at Hok.out k
      obtain ⟨a1, a2⟩ := hat
      obtain ⟨acc, hacc⟩ : ∃ acc, acc = (l.take k).foldl amtStep (List.replicate 4 0) := ⟨_, rfl⟩
      rw [← hacc] at hownr a1 a2
      have hstep := foldl_take_succ amtStep (List.replicate 4 0) l k x hx
      rw [← hacc] at hstep
      have hv := a2.getD (by omega) x.cls.toNat
      have hget := get_of_lt (l := acc) (k := x.cls.toNat) (by omega)
      obtain ⟨v, hvv⟩ : ∃ v, v = acc.getD x.cls.toNat 0 := ⟨_, rfl⟩
      rw [← hvv] at hv hget
      have s1 : 0 ≤ x.cls := p5.1
      have s2 : x.cls < 4 := by omega
      have s3 : -960000 ≤ v + x.amount := by omega
      have s4 : v + x.amount ≤ 1000000 := by omega
      have eR : acc.set x.cls.toNat (v + x.amount) = (l.take (k + 1)).foldl amtStep (List.replicate 4 0) := by rw [hstep, hvv]; rfl
      have HeR := Lib.hid eR
      have Hown := Lib.hid hownr
      have Hget := Lib.hid hget
      clear hx hownr eR hstep hacc hvv hget a1 a2 p5
      go_wp2_with fail
      obtain ⟨w2, hw2⟩ : ∃ w2, w2 = wr.alloc (.cells #[.int .i64 x.entry, .int .i64 x.exit, .int .i64 x.amount, .int .i64 x.cls] 39) := ⟨_, rfl⟩
      have hg2 : Gr wr w2 := by rw [hw2]; exact (Gr.refl _).alloc _
      have y2 : w2.cell? ⟨wr.heap.size, 2, none⟩ = some (.int .i64 x.amount) := by rw [hw2]; simp [go_sem]
      have y3 : w2.cell? ⟨wr.heap.size, 3, none⟩ = some (.int .i64 x.cls) := by rw [hw2]; simp [go_sem]
      rw [← hw2]
      clear hw2 e0 e1 e2 e3
      have hown2 := own_gr Hown.out hg2
      obtain ⟨d0, f0⟩ := own_int hown2 Hget.out
      have R := own_set_int hown2 x.cls.toNat (v + x.amount)
      rw [HeR.out] at R
      have HR := Lib.hid R
      clear R hown2
      have hwr : IntKind.i64.wrap (v + x.amount) = v + x.amount := IntWalk.i64_in _ (by omega)
      refine wp_region_last (fun w' => w' = w2.drew) (fun w' => w' = (w2.setCell ⟨w.heap.size, x.cls.toNat, none⟩ (.int .i64 (v + x.amount))).drew) (by kernel_rfl) (by kernel_rfl) (by decide) rfl ?_
      repeat (first
            | ((with_reducible refine wpText_skip ?_ ?_)
               · rfl
               simp only [Act.put, List.setIfInBounds_toArray, List.set_cons_zero, List.set_cons_succ])
            | ((with_reducible refine wpText_yield (v := ?_) ?_ ?_ ?_)
               rotate_left
               · rfl
               · intro W hW; first | (go_simp; done) | (go_simp; with_reducible rfl)
               simp only [Act.put, List.setIfInBounds_toArray, List.set_cons_zero, List.set_cons_succ])
            | ((with_reducible refine wpText_yield1 (v := ?_) ?_ ?_ ?_)
               rotate_left
               · rfl
               · intro W hW; first | (go_simp; done) | (go_simp; with_reducible rfl)
               simp only [Act.put, List.setIfInBounds_toArray, List.set_cons_zero, List.set_cons_succ]))
      (first
            | ((with_reducible refine wpText_do1 undef ?_ ?_ ?_)
               · rfl
               · intro W hW K hK
                 subst hW
                 go_simp
                 exact hK _ rfl
               simp only [Act.put]))
      rintro w3 rfl
      clear hwr
      go_wp2_with fail
      go_roundw
      case rel => exact ⟨k + 1, by omega, by go_num, HR.out.1.drew, ((hgr.trans hg2).grown HR.out.2 (fun _ e => by injection e with e; omega)).drew⟩
      case measure => simp [intOf]; omega
    · obtain rfl : k = n3 := by omega
      go_wp2_with fail
      go_ret
      refine ⟨_, _, _, rfl, by omega, ?_, hgr⟩
      have e : l.take k = l := List.take_of_length_le (by have := Hlen.out; omega)
      rw [e] at hownr
      exact hownr
theorem l24Code_any {A1 A2 A3 : Option Addr} {n1 c1 n2 c2 n3 c3 : Nat} (n : GNet) (l : List GTr) (w : World) (hA : NetAt w A1 n1 c1 A2 n2 c2 n) (hL : SlAt w 4 A3 n3 c3 (l.flatMap GTr.cells)) :
    Calls Try.prog 90 #[.agg #[.slice A1 n1 c1, .slice A2 n2 c2], .slice A3 n3 c3] w fun e w' => e = .returned (.int .i64 (trCode n l)) ∧ Gr w w' := by
  have HA := Lib.hid hA
  have HL := Lib.hid hL
  clear hA hL
  cases hnet : netOk n with
  | false =>
    rw [trCode_inv hnet]
    go_enter Try.func90, Try.ntmps90
    go_wp2_with fail
    refine (spIsNetwork_any _ _ _ _ _ _ n _ (HA.out.gr ((Gr.refl _).alloc _))).mono ?_
    rintro e w' ⟨rfl, hg1⟩
    go_wp2_with fail
    go_ret
    exact ⟨rfl, ((Gr.refl _).alloc _).trans hg1⟩
  | true =>
    have Hnet := Lib.hid hnet
    go_enter Try.func90, Try.ntmps90
    go_wp2_with fail
    refine (spIsNetwork_any _ _ _ _ _ _ n _ (HA.out.gr ((Gr.refl _).alloc _))).mono ?_
    rintro e w1 ⟨rfl, hg1⟩
    have b0 : w1.cell? ⟨w.heap.size, 0, none⟩ = some (.slice A1 n1 c1) := hg1.has (by simp [go_sem])
    have b1 : w1.cell? ⟨w.heap.size, 1, none⟩ = some (.slice A2 n2 c2) := hg1.has (by simp [go_sem])
    have hg0 : Gr w w1 := ((Gr.refl _).alloc _).trans hg1
    clear hg1
    go_wp2_with fail
    refine (l24List_any _ _ _ _ _ _ _ _ _ n l _ (HA.out.gr hg0) (HL.out.sl.gr hg0) HL.out.small).mono ?_
    rintro e w2 ⟨rfl, hg2⟩
    cases hok : trsOk n1 l with
    | false =>
      have Hok := Lib.hid hok
      go_wp2_with fail
      go_ret
      exact ⟨ret_int (trCode_lim Hnet.out (by rw [HA.out.l1]; exact Hok.out)).symm, hg0.trans hg2⟩
    | true =>
      have Hok := Lib.hid hok
      go_wp2_with fail
      go_ret
      exact ⟨ret_int (trCode_ok Hnet.out (by rw [HA.out.l1]; exact Hok.out)).symm, hg0.trans hg2⟩
def amountsRes (n : GNet) (l : List GTr) : List Int := if trCode n l = 0 then amounts l else []
theorem AmountsByClass_any {A1 A2 A3 : Option Addr} {n1 c1 n2 c2 n3 c3 : Nat} (n : GNet) (l : List GTr) (w : World) (hA : NetAt w A1 n1 c1 A2 n2 c2 n) (hL : SlAt w 4 A3 n3 c3 (l.flatMap GTr.cells)) :
    Calls Try.prog 19 #[.agg #[.slice A1 n1 c1, .slice A2 n2 c2], .slice A3 n3 c3] w fun e w' => ∃ A m c, e = .returned (.tuple #[.slice A m c, .int .i64 (trCode n l)]) ∧ m ≤ 1048576 ∧ w'.ownsRow w.heap.size 2 1 (.slice A m c) m (ints (amountsRes n l)) ∧ Gr w w' := by
  have HA := Lib.hid hA
  have HL := Lib.hid hL
  clear hA hL
  go_enter Try.func19, Try.ntmps19
  go_wp2_with fail
  refine (checkTransports_any _ _ _ _ _ _ _ _ _ n l _ (HA.out.gr ((Gr.refl _).alloc _)) (HL.out.sl.gr ((Gr.refl _).alloc _)) HL.out.small).mono ?_
  rintro e w1 ⟨rfl, hg1⟩
  have hg0 : Gr w w1 := ((Gr.refl _).alloc _).trans hg1
  by_cases hc : trCode n l = 0
  · have Hc := Lib.hid hc
    have tb : (trCode n l != 0) = false := by simp [hc]
    clear hc
    go_wp2_with fail
    refine (amountsByClass_any n.nodes.length l _ (HL.out.gr hg0) (trCode_zero Hc.out).2).mono ?_
    rintro e w2 ⟨A, m, c, rfl, hm, ho, hg2⟩
    have Ho := Lib.hid ho
    clear ho
    go_wp2_with fail
    go_ret2
    refine ⟨A, m, c, by rw [Hc.out]; rfl, hm, ?_, hg0.trans hg2⟩
    rw [amountsRes, if_pos Hc.out]
    exact own_base Ho.out hg0.size
  · have Hc := Lib.hid hc
    have tb : (trCode n l != 0) = true := by simp [hc]
    clear hc
    go_wp2_with fail
    go_ret2
    refine ⟨none, 0, 0, rfl, by omega, ?_, hg0⟩
    rw [amountsRes, if_neg Hc.out]
    exact World.ownsRow_nil _ _ _ _
theorem spAmountsByClass_any {A1 A2 A3 : Option Addr} {n1 c1 n2 c2 n3 c3 : Nat} (n : GNet) (l : List GTr) (w : World) (hA : NetAt w A1 n1 c1 A2 n2 c2 n) (hL : SlAt w 4 A3 n3 c3 (l.flatMap GTr.cells)) :
    Calls Try.prog 20 #[.agg #[.slice A1 n1 c1, .slice A2 n2 c2], .slice A3 n3 c3] w fun e w' => ∃ A m c, e = .returned (.tuple #[.slice A m c, .int .i64 (trCode n l)]) ∧ m ≤ 1048576 ∧ w'.ownsRow w.heap.size 2 1 (.slice A m c) m (ints (amountsRes n l)) ∧ Gr w w' := by
  obtain ⟨i0, hi0, hz0, hz1, hz2⟩ := info_parts infoInt64
  have HA := Lib.hid hA
  have hm3 := hL.small
  have hlen := hL.sl.len GTr.cells_len (by omega)
  have Hlen := Lib.hid hlen
  have HL := Lib.hid hL
  clear hA hL hlen
  go_enter Try.func20, Try.ntmps20
  go_wp2_with fail
  refine (l24Code_any n l _ (HA.out.gr ((Gr.refl _).alloc _)) (HL.out.gr ((Gr.refl _).alloc _))).mono ?_
  rintro e w0 ⟨rfl, hg1⟩
  have hg0 : Gr w w0 := ((Gr.refl _).alloc _).trans hg1
  by_cases hc : trCode n l = 0
  · have Hc := Lib.hid hc
    have Hok := Lib.hid (trCode_zero hc).2
    have tb : (trCode n l != 0) = false := by simp [hc]
    clear hc
    go_wp2_with (at_make; refine wpList_make_full _ rfl _ _ _ rfl w.heap.size 2 i0 _ 1 Try.underlying33 hi0 hz0 hz1 .i64 .i64 _ _ 4 rfl rfl rfl rfl (by rw [hz2]; omega) (by unfold maxLen; omega) hg0.size ?_; intro w1 hown hg)
    have hg' : Gr w w1 := hg0.trans (Gr.of_grown hg)
    have ez : (madeCells (Value.int .i64 0).cells (4 * 1)).toList = ints ((l.take 0).foldl amtStep (List.replicate 4 0)) := made_ints 4
    have hz0' := hg0.size
    rw [ez] at hown
    clear ez hg hi0 hz0 hz1 hz2
    obtain ⟨g, hgg⟩ : ∃ g, g = w0.heap.size := ⟨_, rfl⟩
    rw [← hgg] at hown hz0' ⊢
    clear hgg
    go_loopw [8] (fun i wr => ∃ k : Nat, k ≤ n3 ∧ i = .int .i64 k ∧ wr.ownsRow w.heap.size 2 1 (.slice (some ⟨g, 0, none⟩) 4 4) 4 (ints ((l.take k).foldl amtStep (List.replicate 4 0))) ∧ Gr w wr) (fun i _ => n3 - (intOf i).toNat)
    case atStart => exact ⟨0, Nat.zero_le _, rfl, hown, hg'⟩
    case round =>
      obtain ⟨k, hk, rfl, hownr, hgr⟩ := hrel
      clear hown hg'
      by_cases hlt : k < n3
      · obtain ⟨x, hx⟩ : ∃ x, l[k]? = some x := ⟨_, List.getElem?_eq_getElem (by have := Hlen.out; omega)⟩
        obtain ⟨b, o, rfl, hb, e0, e1, e2, e3⟩ := (HL.out.sl.gr hgr).tr hx
        obtain ⟨_, _, _, p4, p5⟩ := trOk_all ((trsOk_all Hok.out).2 k x hx)
        have hat := amt_at Hok.out k
        obtain ⟨a1, a2⟩ := hat
        obtain ⟨acc, hacc⟩ : ∃ acc, acc = (l.take k).foldl amtStep (List.replicate 4 0) := ⟨_, rfl⟩
        rw [← hacc] at hownr a1 a2
        have hstep := foldl_take_succ amtStep (List.replicate 4 0) l k x hx
        rw [← hacc] at hstep
        have hv := a2.getD (by omega) x.cls.toNat
        have hget := get_of_lt (l := acc) (k := x.cls.toNat) (by omega)
        obtain ⟨v, hvv⟩ : ∃ v, v = acc.getD x.cls.toNat 0 := ⟨_, rfl⟩
        rw [← hvv] at hv hget
        have s1 : 0 ≤ x.cls := p5.1
        have s2 : x.cls < 4 := by omega
        have s3 : -960000 ≤ v + x.amount := by omega
        have s4 : v + x.amount ≤ 1000000 := by omega
        have eR : acc.set x.cls.toNat (v + x.amount) = (l.take (k + 1)).foldl amtStep (List.replicate 4 0) := by rw [hstep, hvv]; rfl
        obtain ⟨d0, f0⟩ := own_int hownr hget
        have R := own_set_int hownr x.cls.toNat (v + x.amount)
        rw [eR] at R
        have HR := Lib.hid R
        have t1 : (k : Int) < (n3 : Int) := by omega
        have t0 : (0 : Int) ≤ (k : Int) := by omega
        clear hx hownr eR hstep hacc hvv hget a1 a2 p5 R
        go_wp2_with fail
        have hwr : IntKind.i64.wrap (v + x.amount) = v + x.amount := IntWalk.i64_in _ (by omega)
        refine wp_region_last (fun w' => w' = wr.drew) (fun w' => w' = (wr.setCell ⟨g, x.cls.toNat, none⟩ (.int .i64 (v + x.amount))).drew) (by kernel_rfl) (by kernel_rfl) (by decide) rfl ?_
        repeat (first
            | ((with_reducible refine wpText_skip ?_ ?_)
               · rfl
               simp only [Act.put, List.setIfInBounds_toArray, List.set_cons_zero, List.set_cons_succ])
            | ((with_reducible refine wpText_yield (v := ?_) ?_ ?_ ?_)
               rotate_left
               · rfl
               · intro W hW; first | (go_simp; done) | (go_simp; with_reducible rfl)
               simp only [Act.put, List.setIfInBounds_toArray, List.set_cons_zero, List.set_cons_succ])
            | ((with_reducible refine wpText_yield1 (v := ?_) ?_ ?_ ?_)
               rotate_left
               · rfl
               · intro W hW; first | (go_simp; done) | (go_simp; with_reducible rfl)
               simp only [Act.put, List.setIfInBounds_toArray, List.set_cons_zero, List.set_cons_succ]))
        (first
            | ((with_reducible refine wpText_do1 undef ?_ ?_ ?_)
               · rfl
               · intro W hW K hK
                 subst hW
                 go_simp
                 exact hK _ rfl
               simp only [Act.put]))
        rintro w3 rfl
        clear hwr
        go_wp2_with fail
        go_roundw
        case rel => exact ⟨k + 1, by omega, by go_num, HR.out.1.drew, (hgr.grown HR.out.2 (fun _ e => by injection e with e; omega)).drew⟩
        case measure => simp [intOf]; omega
      · obtain rfl : k = n3 := by omega
        have Hownr := Lib.hid hownr
        clear hownr
        go_wp2_with fail
        go_ret2
        refine ⟨_, _, _, by rw [Hc.out]; rfl, by omega, ?_, hgr⟩
        have e : l.take k = l := List.take_of_length_le (by have := Hlen.out; omega)
        have h := Hownr.out
        rw [e] at h
        rw [amountsRes, if_pos Hc.out]
        exact h
  · have Hc := Lib.hid hc
    have tb : (trCode n l != 0) = true := by simp [hc]
    clear hc
    go_wp2_with fail
    go_ret2
    refine ⟨none, 0, 0, rfl, by omega, ?_, hg0⟩
    rw [amountsRes, if_neg Hc.out]
    exact World.ownsRow_nil _ _ _ _
end Go.Proofs.Ytejfpajbkgfiaaa
