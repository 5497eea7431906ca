/-
  Transports: the tests of the program and of the reference. Printed by gen_tr.py.
-/
import Derived.Test.YtdoidehlklkfaaaIsNet2
namespace Go.Proofs.Ytdoidehlklkfaaa
open Go.ChangeShapes Go.WideShapes Go.ChangeAt Go.RowKit

def trOk (nn : Int) (x : GTr) : Bool := inB 0 x.entry (nn - 1) && inB 0 x.exit (nn - 1) && !(x.entry == x.exit) && inB 0 x.amount 30000 && inB 0 x.cls 3
def trsOk (nn : Int) (l : List GTr) : Bool := decide (l.length ≤ 32) && l.all (trOk nn)
def trCode (n : GNet) (l : List GTr) : Int := if netOk n then (if trsOk n.nodes.length l then 0 else 3) else 1
theorem trOk_all {nn : Int} {x : GTr} (h : trOk nn x = true) : (0 ≤ x.entry ∧ x.entry ≤ nn - 1) ∧ (0 ≤ x.exit ∧ x.exit ≤ nn - 1) ∧ x.entry ≠ x.exit ∧ (0 ≤ x.amount ∧ x.amount ≤ 30000) ∧ (0 ≤ x.cls ∧ x.cls ≤ 3) := by
  unfold trOk at h
  simp only [Bool.and_eq_true, inB_iff, Bool.not_eq_true', beq_eq_false_iff_ne, ne_eq] at h
  obtain ⟨⟨⟨⟨a, b⟩, c⟩, d⟩, e⟩ := h
  exact ⟨a, b, c, d, e⟩
theorem all_step {α : Type} {p : α → Bool} {l : List α} {k : Nat} {x : α} (hx : l[k]? = some x) (hp : p x = true) (h : ∀ m, m < k → ∀ y, l[m]? = some y → p y = true) : ∀ m, m < k + 1 → ∀ y, l[m]? = some y → p y = true := by
  intro m hm y hy
  by_cases e : m = k
  · subst e
    rw [hx] at hy
    injection hy with hy
    subst hy
    exact hp
  · exact h m (by omega) y hy
theorem all_of {α : Type} {p : α → Bool} {l : List α} (h : ∀ m, m < l.length → ∀ y, l[m]? = some y → p y = true) : l.all p = true := by
  rw [List.all_eq_true]
  intro x hx
  obtain ⟨k, hk, rfl⟩ := List.mem_iff_getElem.1 hx
  exact h k hk _ (List.getElem?_eq_getElem hk)
theorem all_not {α : Type} {p : α → Bool} {l : List α} {k : Nat} {x : α} (hx : l[k]? = some x) (hp : p x = false) : l.all p = false := by
  rw [List.all_eq_false]; exact ⟨x, List.mem_of_getElem? hx, by simp [hp]⟩
theorem trsOk_long {nn : Int} {l : List GTr} (h : 32 < l.length) : trsOk nn l = false := by simp [trsOk]; omega
theorem trsOk_bad {nn : Int} {l : List GTr} {k : Nat} {x : GTr} (hx : l[k]? = some x) (hp : trOk nn x = false) : trsOk nn l = false := by simp [trsOk, all_not hx hp]
theorem trsOk_good {nn : Int} {l : List GTr} (hl : l.length ≤ 32) (h : ∀ m, m < l.length → ∀ y, l[m]? = some y → trOk nn y = true) : trsOk nn l = true := by simp [trsOk, hl, all_of h]
theorem trsOk_all {nn : Int} {l : List GTr} (h : trsOk nn l = true) : l.length ≤ 32 ∧ ∀ (m : Nat) (y : GTr), l[m]? = some y → trOk nn y = true := by
  simp only [trsOk, Bool.and_eq_true, decide_eq_true_eq, List.all_eq_true] at h
  exact ⟨h.1, fun m y hy => h.2 y (List.mem_of_getElem? hy)⟩
theorem trCode_inv {n : GNet} {l : List GTr} (h : netOk n = false) : trCode n l = 1 := by simp [trCode, h]
theorem trCode_lim {n : GNet} {l : List GTr} (h : netOk n = true) (h' : trsOk n.nodes.length l = false) : trCode n l = 3 := by simp [trCode, h, h']
theorem trCode_ok {n : GNet} {l : List GTr} (h : netOk n = true) (h' : trsOk n.nodes.length l = true) : trCode n l = 0 := by simp [trCode, h, h']
theorem trCode_zero {n : GNet} {l : List GTr} (h : trCode n l = 0) : netOk n = true ∧ trsOk n.nodes.length l = true := by
  unfold trCode at h
  cases h1 : netOk n <;> cases h2 : trsOk n.nodes.length l <;> simp [h1, h2] at h ⊢
theorem trCode_range (n : GNet) (l : List GTr) : 0 ≤ trCode n l ∧ trCode n l ≤ 3 := by
  unfold trCode
  cases netOk n <;> cases trsOk n.nodes.length l <;> simp

set_option maxHeartbeats 800000 in
theorem l24List_any (A1 A2 A3 : Option Addr) (n1 c1 n2 c2 n3 c3 : Nat) (n : GNet) (l : List GTr) (w : World) (hA : NetAt w A1 n1 c1 A2 n2 c2 n) (hL : Sl w 4 A3 n3 (l.flatMap GTr.cells)) (hm3 : n3 ≤ 1048576) :
    Calls Try.prog 64 #[.agg #[.slice A1 n1 c1, .slice A2 n2 c2], .slice A3 n3 c3] w fun e w' => e = .returned (.bool (trsOk n1 l)) ∧ Gr w w' := by
  have hm1 := hA.m1
  have HA := Lib.hid hA
  have HL := Lib.hid hL
  clear hA hL
  by_cases h : 32 < n3
  · rw [trsOk_long (by rw [HL.out.len GTr.cells_len (by omega)]; exact h)]
    go_enter Try.func64, Try.ntmps64
    go_wp2_with fail
    go_ret
    exact ⟨rfl, (Gr.refl _).alloc _⟩
  · have t1 : decide ((32 : Int) < (n3 : Int)) = false := by simp; omega
    go_enter Try.func64, Try.ntmps64
    go_wp2_with fail
    obtain ⟨w0, hw0⟩ : ∃ w0, w0 = w.alloc (.cells #[.slice A1 n1 c1, .slice A2 n2 c2] 33) := ⟨_, rfl⟩
    have hg0 : Gr w w0 := by rw [hw0]; exact (Gr.refl _).alloc _
    have b0 : w0.cell? ⟨w.heap.size, 0, none⟩ = some (.slice A1 n1 c1) := by rw [hw0]; simp [go_sem]
    have b1 : w0.cell? ⟨w.heap.size, 1, none⟩ = some (.slice A2 n2 c2) := by rw [hw0]; simp [go_sem]
    rw [← hw0]
    clear hw0
    go_loopw [5] (fun i wr => ∃ k : Nat, k ≤ n3 ∧ i = .int .i64 k ∧ (∀ m, m < k → ∀ y, l[m]? = some y → trOk n1 y = true) ∧ Gr w0 wr) (fun i _ => n3 - (intOf i).toNat)
    case atStart => exact ⟨0, Nat.zero_le _, rfl, fun j h => absurd h (by omega), Gr.refl _⟩
    case round =>
     obtain ⟨k, hk, rfl, hno, hgr⟩ := hrel
     have Hno := Lib.hid hno
     clear hno
     by_cases hlt : k < n3
     · obtain ⟨x, hx⟩ : ∃ x, l[k]? = some x := ⟨_, List.getElem?_eq_getElem (by have := HL.out.len GTr.cells_len (by omega); omega)⟩
       obtain ⟨b, o, rfl, hb, r0, r1, r2, r3⟩ := (HL.out.gr (hg0.trans hgr)).tr hx
       have Hx := Lib.hid hx
       clear hx
       have q0 := hgr.has b0
       have q1 := hgr.has b1
       have hg2 : Gr wr (wr.alloc (.cells #[.int .i64 x.entry, .int .i64 x.exit, .int .i64 x.amount, .int .i64 x.cls] 86)) := (Gr.refl _).alloc _
       have y0 := hg2.has q0
       have y1 := hg2.has q1
       have y2 : (wr.alloc (.cells #[.int .i64 x.entry, .int .i64 x.exit, .int .i64 x.amount, .int .i64 x.cls] 86)).cell? ⟨wr.heap.size, 0, none⟩ = some (.int .i64 x.entry) := by simp [go_sem]
       have y3 : (wr.alloc (.cells #[.int .i64 x.entry, .int .i64 x.exit, .int .i64 x.amount, .int .i64 x.cls] 86)).cell? ⟨wr.heap.size, 1, none⟩ = some (.int .i64 x.exit) := by simp [go_sem]
       have y4 : (wr.alloc (.cells #[.int .i64 x.entry, .int .i64 x.exit, .int .i64 x.amount, .int .i64 x.cls] 86)).cell? ⟨wr.heap.size, 2, none⟩ = some (.int .i64 x.amount) := by simp [go_sem]
       have y5 : (wr.alloc (.cells #[.int .i64 x.entry, .int .i64 x.exit, .int .i64 x.amount, .int .i64 x.cls] 86)).cell? ⟨wr.heap.size, 3, none⟩ = some (.int .i64 x.cls) := by simp [go_sem]
       clear q0 q1
       replace hg2 : Gr w0 (wr.alloc (.cells #[.int .i64 x.entry, .int .i64 x.exit, .int .i64 x.amount, .int .i64 x.cls] 86)) := hgr.trans hg2
       cases hok : trOk n1 x with
       | true =>
         obtain ⟨p1, p2, p3, p4, p5⟩ := trOk_all hok
         have v1 : inB 0 x.entry (↑n1 - 1) = true := inB_true p1
         have v2 : inB 0 x.exit (↑n1 - 1) = true := inB_true p2
         have v3 : (x.entry == x.exit) = false := by simp [p3]
         have v4 : inB 0 x.amount 30000 = true := inB_true p4
         have v5 : inB 0 x.cls 3 = true := inB_true p5
         have Hok := Lib.hid hok
         clear hok p1 p2 p3 p4 p5
         go_wp2_with (first
           | (go_at_call 118; refine (l02Node_any _ _ _ _ _ _ _ _ (by omega)).mono ?_; rintro e w' ⟨rfl, hg1⟩; have z0 := hg1.has (p := ⟨w.heap.size, 0, none⟩) (v := .slice A1 n1 c1) (by assumption); have z1 := hg1.has (p := ⟨w.heap.size, 1, none⟩) (v := .slice A2 n2 c2) (by assumption); have z2 := hg1.has (p := ⟨wr.heap.size, 0, none⟩) (v := .int .i64 x.entry) (by assumption); have z3 := hg1.has (p := ⟨wr.heap.size, 1, none⟩) (v := .int .i64 x.exit) (by assumption); have z4 := hg1.has (p := ⟨wr.heap.size, 2, none⟩) (v := .int .i64 x.amount) (by assumption); have z5 := hg1.has (p := ⟨wr.heap.size, 3, none⟩) (v := .int .i64 x.cls) (by assumption); replace hg2 := hg2.trans hg1)
           | (go_at_call 82; refine (l01In_any _ _ _ _).mono ?_; rintro e w' ⟨rfl, rfl⟩))
         go_roundw
         case rel => exact ⟨k + 1, by omega, by go_num, all_step Hx.out Hok.out Hno.out, hg2⟩
         case measure => simp [intOf]; omega
       | false =>
         have Hok := Lib.hid hok
         go_wp2_with (first
           | (go_at_call 118; refine (l02Node_any _ _ _ _ _ _ _ _ (by omega)).mono ?_; rintro e w' ⟨rfl, hg1⟩; have z0 := hg1.has (p := ⟨w.heap.size, 0, none⟩) (v := .slice A1 n1 c1) (by assumption); have z1 := hg1.has (p := ⟨w.heap.size, 1, none⟩) (v := .slice A2 n2 c2) (by assumption); have z2 := hg1.has (p := ⟨wr.heap.size, 0, none⟩) (v := .int .i64 x.entry) (by assumption); have z3 := hg1.has (p := ⟨wr.heap.size, 1, none⟩) (v := .int .i64 x.exit) (by assumption); have z4 := hg1.has (p := ⟨wr.heap.size, 2, none⟩) (v := .int .i64 x.amount) (by assumption); have z5 := hg1.has (p := ⟨wr.heap.size, 3, none⟩) (v := .int .i64 x.cls) (by assumption); replace hg2 := hg2.trans hg1)
           | (go_at_call 82; refine (l01In_any _ _ _ _).mono ?_; rintro e w' ⟨rfl, rfl⟩))
         all_goals first
           | (go_ret
              exact ⟨ret_bool (trsOk_bad Hx.out Hok.out).symm, hg0.trans (by assumption)⟩)
           | (exfalso
              have h7 := Hok.out
              have g : (x.entry == x.exit) = false ∧ (!inB 0 x.cls 3) = false := by assumption
              have g1 := g.1
              have g2 : inB 0 x.cls 3 = true := by simpa using g.2
              simp [trOk, *] at h7)
     · obtain rfl : k = n3 := by omega
       go_wp2_with fail
       go_ret
       exact ⟨ret_bool (trsOk_good (by rw [HL.out.len GTr.cells_len (by omega)]; omega) (by rw [HL.out.len GTr.cells_len (by omega)]; exact Hno.out)).symm, hg0.trans hgr⟩
set_option maxHeartbeats 800000 in
theorem checkTransports_any (A1 A2 A3 : Option Addr) (n1 c1 n2 c2 n3 c3 : Nat) (n : GNet) (l : List GTr) (w : World) (hA : NetAt w A1 n1 c1 A2 n2 c2 n) (hL : Sl w 4 A3 n3 (l.flatMap GTr.cells)) (hm3 : n3 ≤ 1048576) :
    Calls Try.prog 68 #[.agg #[.slice A1 n1 c1, .slice A2 n2 c2], .slice A3 n3 c3] w fun e w' => e = .returned (.int .i64 (trCode n l)) ∧ Gr w w' := by
  have hm1 := hA.m1
  have HA := Lib.hid hA
  have HL := Lib.hid hL
  clear hA hL
  have hl3 := HL.out.len GTr.cells_len (by omega)
  have Hl3 := Lib.hid hl3
  clear hl3
  cases hnet : netOk n with
  | false =>
    rw [trCode_inv hnet]
    go_enter Try.func68, Try.ntmps68
    go_wp2_with fail
    refine (IsNetwork_any _ _ _ _ _ _ n _ (HA.out.gr ((Gr.refl _).alloc _))).mono ?_
    rintro e w' ⟨rfl, hg1⟩
    go_wp2_with fail
    go_ret
    exact ⟨rfl, ((Gr.refl _).alloc _).trans hg1⟩
  | true =>
   have Hnet := Lib.hid hnet
   by_cases h : 32 < n3
   · rw [trCode_lim hnet (trsOk_long (by rw [Hl3.out]; exact h))]
     go_enter Try.func68, Try.ntmps68
     go_wp2_with fail
     refine (IsNetwork_any _ _ _ _ _ _ n _ (HA.out.gr ((Gr.refl _).alloc _))).mono ?_
     rintro e w' ⟨rfl, hg1⟩
     go_wp2_with fail
     go_ret
     exact ⟨rfl, ((Gr.refl _).alloc _).trans hg1⟩
   · have t1 : decide ((32 : Int) < (n3 : Int)) = false := by simp; omega
     go_enter Try.func68, Try.ntmps68
     go_wp2_with fail
     refine (IsNetwork_any _ _ _ _ _ _ n _ (HA.out.gr ((Gr.refl _).alloc _))).mono ?_
     rintro e w0 ⟨rfl, hg1⟩
     have hg0 : Gr w w0 := ((Gr.refl _).alloc _).trans hg1
     have b0 : w0.cell? ⟨w.heap.size, 0, none⟩ = some (.slice A1 n1 c1) := hg1.has (by simp [go_sem])
     have b1 : w0.cell? ⟨w.heap.size, 1, none⟩ = some (.slice A2 n2 c2) := hg1.has (by simp [go_sem])
     clear hg1
     go_wp2_with fail
     go_loopw [17] (fun i wr => ∃ k : Nat, k ≤ n3 ∧ i = .int .i64 k ∧ (∀ m, m < k → ∀ y, l[m]? = some y → trOk n1 y = true) ∧ Gr w0 wr) (fun i _ => n3 - (intOf i).toNat)
     case atStart => exact ⟨0, Nat.zero_le _, rfl, fun j h => absurd h (by omega), Gr.refl _⟩
     case round =>
     obtain ⟨k, hk, rfl, hno, hgr⟩ := hrel
     have Hno := Lib.hid hno
     clear hno
     by_cases hlt : k < n3
     · obtain ⟨x, hx⟩ : ∃ x, l[k]? = some x := ⟨_, List.getElem?_eq_getElem (by have := HL.out.len GTr.cells_len (by omega); omega)⟩
       obtain ⟨b, o, rfl, hb, r0, r1, r2, r3⟩ := (HL.out.gr (hg0.trans hgr)).tr hx
       have Hx := Lib.hid hx
       clear hx
       have q0 := hgr.has b0
       have q1 := hgr.has b1
       have hg2 : Gr wr (wr.alloc (.cells #[.int .i64 x.entry, .int .i64 x.exit, .int .i64 x.amount, .int .i64 x.cls] 86)) := (Gr.refl _).alloc _
       have y0 := hg2.has q0
       have y1 := hg2.has q1
       have y2 : (wr.alloc (.cells #[.int .i64 x.entry, .int .i64 x.exit, .int .i64 x.amount, .int .i64 x.cls] 86)).cell? ⟨wr.heap.size, 0, none⟩ = some (.int .i64 x.entry) := by simp [go_sem]
       have y3 : (wr.alloc (.cells #[.int .i64 x.entry, .int .i64 x.exit, .int .i64 x.amount, .int .i64 x.cls] 86)).cell? ⟨wr.heap.size, 1, none⟩ = some (.int .i64 x.exit) := by simp [go_sem]
       have y4 : (wr.alloc (.cells #[.int .i64 x.entry, .int .i64 x.exit, .int .i64 x.amount, .int .i64 x.cls] 86)).cell? ⟨wr.heap.size, 2, none⟩ = some (.int .i64 x.amount) := by simp [go_sem]
       have y5 : (wr.alloc (.cells #[.int .i64 x.entry, .int .i64 x.exit, .int .i64 x.amount, .int .i64 x.cls] 86)).cell? ⟨wr.heap.size, 3, none⟩ = some (.int .i64 x.cls) := by simp [go_sem]
       clear q0 q1
       replace hg2 : Gr w0 (wr.alloc (.cells #[.int .i64 x.entry, .int .i64 x.exit, .int .i64 x.amount, .int .i64 x.cls] 86)) := hgr.trans hg2
       cases hok : trOk n1 x with
       | true =>
         obtain ⟨p1, p2, p3, p4, p5⟩ := trOk_all hok
         have v1 : inB 0 x.entry (↑n1 - 1) = true := inB_true p1
         have v2 : inB 0 x.exit (↑n1 - 1) = true := inB_true p2
         have v3 : (x.entry == x.exit) = false := by simp [p3]
         have v4 : inB 0 x.amount 30000 = true := inB_true p4
         have v5 : inB 0 x.cls 3 = true := inB_true p5
         have Hok := Lib.hid hok
         clear hok p1 p2 p3 p4 p5
         go_wp2_with (first
           | (go_at_call 122; refine (isNodeOf_any _ _ _ _ _ _ _ _ (by omega)).mono ?_; rintro e w' ⟨rfl, hg1⟩; have z0 := hg1.has (p := ⟨w.heap.size, 0, none⟩) (v := .slice A1 n1 c1) (by assumption); have z1 := hg1.has (p := ⟨w.heap.size, 1, none⟩) (v := .slice A2 n2 c2) (by assumption); have z2 := hg1.has (p := ⟨wr.heap.size, 0, none⟩) (v := .int .i64 x.entry) (by assumption); have z3 := hg1.has (p := ⟨wr.heap.size, 1, none⟩) (v := .int .i64 x.exit) (by assumption); have z4 := hg1.has (p := ⟨wr.heap.size, 2, none⟩) (v := .int .i64 x.amount) (by assumption); have z5 := hg1.has (p := ⟨wr.heap.size, 3, none⟩) (v := .int .i64 x.cls) (by assumption); replace hg2 := hg2.trans hg1)
           | (go_at_call 85; refine (within_any _ _ _ _).mono ?_; rintro e w' ⟨rfl, rfl⟩))
         go_roundw
         case rel => exact ⟨k + 1, by omega, by go_num, all_step Hx.out Hok.out Hno.out, hg2⟩
         case measure => simp [intOf]; omega
       | false =>
         have Hok := Lib.hid hok
         go_wp2_with (first
           | (go_at_call 122; refine (isNodeOf_any _ _ _ _ _ _ _ _ (by omega)).mono ?_; rintro e w' ⟨rfl, hg1⟩; have z0 := hg1.has (p := ⟨w.heap.size, 0, none⟩) (v := .slice A1 n1 c1) (by assumption); have z1 := hg1.has (p := ⟨w.heap.size, 1, none⟩) (v := .slice A2 n2 c2) (by assumption); have z2 := hg1.has (p := ⟨wr.heap.size, 0, none⟩) (v := .int .i64 x.entry) (by assumption); have z3 := hg1.has (p := ⟨wr.heap.size, 1, none⟩) (v := .int .i64 x.exit) (by assumption); have z4 := hg1.has (p := ⟨wr.heap.size, 2, none⟩) (v := .int .i64 x.amount) (by assumption); have z5 := hg1.has (p := ⟨wr.heap.size, 3, none⟩) (v := .int .i64 x.cls) (by assumption); replace hg2 := hg2.trans hg1)
           | (go_at_call 85; refine (within_any _ _ _ _).mono ?_; rintro e w' ⟨rfl, rfl⟩))
         all_goals first
           | (go_ret
              exact ⟨ret_int (trCode_lim Hnet.out (by rw [HA.out.l1]; exact trsOk_bad Hx.out Hok.out)).symm, hg0.trans (by assumption)⟩)
           | (exfalso
              have h7 := Hok.out
              have g : (x.entry == x.exit) = false ∧ (!inB 0 x.cls 3) = false := by assumption
              have g1 := g.1
              have g2 : inB 0 x.cls 3 = true := by simpa using g.2
              simp [trOk, *] at h7)
     · obtain rfl : k = n3 := by omega
       go_wp2_with fail
       go_ret
       exact ⟨ret_int (trCode_ok Hnet.out (by rw [HA.out.l1]; exact trsOk_good (by rw [Hl3.out]; omega) (by rw [Hl3.out]; exact Hno.out))).symm, hg0.trans hgr⟩
theorem spAreTransports_any (A1 A2 A3 : Option Addr) (n1 c1 n2 c2 n3 c3 : Nat) (n : GNet) (l : List GTr) (w : World) (hA : NetAt w A1 n1 c1 A2 n2 c2 n) (hL : Sl w 4 A3 n3 (l.flatMap GTr.cells)) (hm3 : n3 ≤ 1048576) :
    Calls Try.prog 17 #[.agg #[.slice A1 n1 c1, .slice A2 n2 c2], .slice A3 n3 c3] w fun e w' => e = .returned (.bool (decide (trCode n l = 0))) ∧ Gr w w' := by
  have hm1 := hA.m1
  have HA := Lib.hid hA
  have HL := Lib.hid hL
  clear hA hL
  cases hnet : netOk n with
  | false =>
    rw [trCode_inv hnet]
    go_enter Try.func17, Try.ntmps17
    go_wp2_with fail
    refine (spIsNetwork_any _ _ _ _ _ _ n _ (HA.out.gr ((Gr.refl _).alloc _))).mono ?_
    rintro e w' ⟨rfl, hg1⟩
    go_wp2_with fail
    go_ret
    exact ⟨rfl, ((Gr.refl _).alloc _).trans hg1⟩
  | true =>
    have hfin : decide (trCode n l = 0) = trsOk n1 l := by
      rw [← HA.out.l1]
      cases h2 : trsOk n.nodes.length l
      · rw [trCode_lim hnet h2]; rfl
      · rw [trCode_ok hnet h2]; rfl
    rw [hfin]
    clear hfin
    go_enter Try.func17, Try.ntmps17
    go_wp2_with fail
    refine (spIsNetwork_any _ _ _ _ _ _ n _ (HA.out.gr ((Gr.refl _).alloc _))).mono ?_
    rintro e w1 ⟨rfl, hg1⟩
    have b0 : w1.cell? ⟨w.heap.size, 0, none⟩ = some (.slice A1 n1 c1) := hg1.has (by simp [go_sem])
    have b1 : w1.cell? ⟨w.heap.size, 1, none⟩ = some (.slice A2 n2 c2) := hg1.has (by simp [go_sem])
    have hg0 : Gr w w1 := ((Gr.refl _).alloc _).trans hg1
    clear hg1
    go_wp2_with fail
    refine (l24List_any _ _ _ _ _ _ _ _ _ n l _ (HA.out.gr hg0) (HL.out.gr hg0) hm3).mono ?_
    rintro e w2 ⟨rfl, hg2⟩
    go_wp2_with fail
    go_ret
    exact ⟨rfl, hg0.trans hg2⟩
theorem AreTransports_any (A1 A2 A3 : Option Addr) (n1 c1 n2 c2 n3 c3 : Nat) (n : GNet) (l : List GTr) (w : World) (hA : NetAt w A1 n1 c1 A2 n2 c2 n) (hL : Sl w 4 A3 n3 (l.flatMap GTr.cells)) (hm3 : n3 ≤ 1048576) :
    Calls Try.prog 20 #[.agg #[.slice A1 n1 c1, .slice A2 n2 c2], .slice A3 n3 c3] w fun e w' => e = .returned (.bool (decide (trCode n l = 0))) ∧ Gr w w' := by
  have hm1 := hA.m1
  have HA := Lib.hid hA
  have HL := Lib.hid hL
  clear hA hL
  go_enter Try.func20, Try.ntmps20
  go_wp2_with fail
  refine (checkTransports_any _ _ _ _ _ _ _ _ _ n l _ (HA.out.gr ((Gr.refl _).alloc _)) (HL.out.gr ((Gr.refl _).alloc _)) hm3).mono ?_
  rintro e w2 ⟨rfl, hg2⟩
  go_wp2_with fail
  go_ret
  exact ⟨ret_bool rfl, ((Gr.refl _).alloc _).trans hg2⟩
end Go.Proofs.Ytdoidehlklkfaaa
