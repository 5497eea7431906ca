/-
  Contracts of both sides. Printed by gen_nom.py.
-/
import Derived.Test.YtelhmfgfjlpkaaaNomM
import Derived.Test.YtelhmfgfjlpkaaaOrd
import Derived.Test.YtelhmfgfjlpkaaaText
import Derived.Deep.RegionHeld3
set_option linter.unusedSimpArgs false
set_option linter.unusedVariables false
namespace Go.Proofs.Ytelhmfgfjlpkaaa
open Go.ChangeShapes Go.WideShapes Go.ChangeAt Go.RowKit

set_option maxHeartbeats 3200000 in
set_option maxRecDepth 100000 in
theorem isContract_any {A1 A2 : Option Addr} {n1 c1 n2 c2 : Nat} (x : GCon) (w : World) (hn : n1 ≤ 1048576) :
    Calls Try.prog 127 #[.agg #[.slice A1 n1 c1, .slice A2 n2 c2], .agg #[.int .i64 x.shipper, .int .i64 x.entry, .int .i64 x.exit, .int .i64 x.amount, .int .i64 x.cls, .int .i64 x.src, .int .i64 x.dst, .int .i64 x.price]] w fun e w' => e = .returned (.bool (conOk n1 x)) ∧ Gr w w' := by
  obtain ⟨w1, hw1⟩ : ∃ W, W = (w.alloc (.cells #[.slice A1 n1 c1, .slice A2 n2 c2] 27)).alloc (.cells #[.int .i64 x.shipper, .int .i64 x.entry, .int .i64 x.exit, .int .i64 x.amount, .int .i64 x.cls, .int .i64 x.src, .int .i64 x.dst, .int .i64 x.price] 61) := ⟨_, rfl⟩
  have hg1 : Gr w w1 := by rw [hw1]; exact ((Gr.refl _).alloc _).alloc _
  have hg1' := Lib.hid hg1
  clear hg1
  have hN : w1.heap.size = w.heap.size + 2 := by rw [hw1]; simp
  have y0 : w1.cell? ⟨w.heap.size, 0, none⟩ = some (.slice A1 n1 c1) := by rw [hw1]; simp [go_sem]
  have y1 : w1.cell? ⟨w.heap.size, 1, none⟩ = some (.slice A2 n2 c2) := by rw [hw1]; simp [go_sem]
  have z0 : w1.cell? ⟨w.heap.size + 1, 0, none⟩ = some (.int .i64 x.shipper) := by rw [hw1]; simp [go_sem]
  have z1 : w1.cell? ⟨w.heap.size + 1, 1, none⟩ = some (.int .i64 x.entry) := by rw [hw1]; simp [go_sem]
  have z2 : w1.cell? ⟨w.heap.size + 1, 2, none⟩ = some (.int .i64 x.exit) := by rw [hw1]; simp [go_sem]
  have z3 : w1.cell? ⟨w.heap.size + 1, 3, none⟩ = some (.int .i64 x.amount) := by rw [hw1]; simp [go_sem]
  have z4 : w1.cell? ⟨w.heap.size + 1, 4, none⟩ = some (.int .i64 x.cls) := by rw [hw1]; simp [go_sem]
  have z5 : w1.cell? ⟨w.heap.size + 1, 5, none⟩ = some (.int .i64 x.src) := by rw [hw1]; simp [go_sem]
  have z6 : w1.cell? ⟨w.heap.size + 1, 6, none⟩ = some (.int .i64 x.dst) := by rw [hw1]; simp [go_sem]
  have z7 : w1.cell? ⟨w.heap.size + 1, 7, none⟩ = some (.int .i64 x.price) := by rw [hw1]; simp [go_sem]
  have Hw1 := Lib.hid hw1
  clear hw1
  cases v0 : inB 0 x.shipper 15 with
  | false =>
    go_enter Try.func127, Try.ntmps127
    go_wp2_with fail
    rw [← Hw1.out]
    have hGG := Gr.refl w1
    go_wp2_with (first
      | (go_at_call 73; refine (isNodeOf_any _ _ _ _ _ _ _ _ (by omega)).mono ?_; rintro e w' ⟨rfl, hg1⟩; have hGG := (by assumption : Gr w1 _).trans hg1; have y0 := hg1.has (p := ⟨w.heap.size, 0, none⟩) (v := .slice A1 n1 c1) (by assumption); have y1 := hg1.has (p := ⟨w.heap.size, 1, none⟩) (v := .slice A2 n2 c2) (by assumption); have z0 := hg1.has (p := ⟨w.heap.size + 1, 0, none⟩) (v := .int .i64 x.shipper) (by assumption); have z1 := hg1.has (p := ⟨w.heap.size + 1, 1, none⟩) (v := .int .i64 x.entry) (by assumption); have z2 := hg1.has (p := ⟨w.heap.size + 1, 2, none⟩) (v := .int .i64 x.exit) (by assumption); have z3 := hg1.has (p := ⟨w.heap.size + 1, 3, none⟩) (v := .int .i64 x.amount) (by assumption); have z4 := hg1.has (p := ⟨w.heap.size + 1, 4, none⟩) (v := .int .i64 x.cls) (by assumption); have z5 := hg1.has (p := ⟨w.heap.size + 1, 5, none⟩) (v := .int .i64 x.src) (by assumption); have z6 := hg1.has (p := ⟨w.heap.size + 1, 6, none⟩) (v := .int .i64 x.dst) (by assumption); have z7 := hg1.has (p := ⟨w.heap.size + 1, 7, none⟩) (v := .int .i64 x.price) (by assumption))
      | (go_at_call 134; refine (isShipper_any _ _).mono ?_; rintro e w' ⟨rfl, rfl⟩)
      | (go_at_call 40; refine (within_any _ _ _ _).mono ?_; rintro e w' ⟨rfl, rfl⟩))
    go_ret
    exact ⟨ret_bool (by simp [conOk, v0]), hg1'.out.trans (by assumption)⟩
  | true =>
   cases v1 : inB 0 x.entry (↑n1 - 1) with
   | false =>
     go_enter Try.func127, Try.ntmps127
     go_wp2_with fail
     rw [← Hw1.out]
     have hGG := Gr.refl w1
     go_wp2_with (first
       | (go_at_call 73; refine (isNodeOf_any _ _ _ _ _ _ _ _ (by omega)).mono ?_; rintro e w' ⟨rfl, hg1⟩; have hGG := (by assumption : Gr w1 _).trans hg1; have y0 := hg1.has (p := ⟨w.heap.size, 0, none⟩) (v := .slice A1 n1 c1) (by assumption); have y1 := hg1.has (p := ⟨w.heap.size, 1, none⟩) (v := .slice A2 n2 c2) (by assumption); have z0 := hg1.has (p := ⟨w.heap.size + 1, 0, none⟩) (v := .int .i64 x.shipper) (by assumption); have z1 := hg1.has (p := ⟨w.heap.size + 1, 1, none⟩) (v := .int .i64 x.entry) (by assumption); have z2 := hg1.has (p := ⟨w.heap.size + 1, 2, none⟩) (v := .int .i64 x.exit) (by assumption); have z3 := hg1.has (p := ⟨w.heap.size + 1, 3, none⟩) (v := .int .i64 x.amount) (by assumption); have z4 := hg1.has (p := ⟨w.heap.size + 1, 4, none⟩) (v := .int .i64 x.cls) (by assumption); have z5 := hg1.has (p := ⟨w.heap.size + 1, 5, none⟩) (v := .int .i64 x.src) (by assumption); have z6 := hg1.has (p := ⟨w.heap.size + 1, 6, none⟩) (v := .int .i64 x.dst) (by assumption); have z7 := hg1.has (p := ⟨w.heap.size + 1, 7, none⟩) (v := .int .i64 x.price) (by assumption))
       | (go_at_call 134; refine (isShipper_any _ _).mono ?_; rintro e w' ⟨rfl, rfl⟩)
       | (go_at_call 40; refine (within_any _ _ _ _).mono ?_; rintro e w' ⟨rfl, rfl⟩))
     go_ret
     exact ⟨ret_bool (by simp [conOk, v1]), hg1'.out.trans (by assumption)⟩
   | true =>
    cases v2 : inB 0 x.exit (↑n1 - 1) with
    | false =>
      go_enter Try.func127, Try.ntmps127
      go_wp2_with fail
      rw [← Hw1.out]
      have hGG := Gr.refl w1
      go_wp2_with (first
        | (go_at_call 73; refine (isNodeOf_any _ _ _ _ _ _ _ _ (by omega)).mono ?_; rintro e w' ⟨rfl, hg1⟩; have hGG := (by assumption : Gr w1 _).trans hg1; have y0 := hg1.has (p := ⟨w.heap.size, 0, none⟩) (v := .slice A1 n1 c1) (by assumption); have y1 := hg1.has (p := ⟨w.heap.size, 1, none⟩) (v := .slice A2 n2 c2) (by assumption); have z0 := hg1.has (p := ⟨w.heap.size + 1, 0, none⟩) (v := .int .i64 x.shipper) (by assumption); have z1 := hg1.has (p := ⟨w.heap.size + 1, 1, none⟩) (v := .int .i64 x.entry) (by assumption); have z2 := hg1.has (p := ⟨w.heap.size + 1, 2, none⟩) (v := .int .i64 x.exit) (by assumption); have z3 := hg1.has (p := ⟨w.heap.size + 1, 3, none⟩) (v := .int .i64 x.amount) (by assumption); have z4 := hg1.has (p := ⟨w.heap.size + 1, 4, none⟩) (v := .int .i64 x.cls) (by assumption); have z5 := hg1.has (p := ⟨w.heap.size + 1, 5, none⟩) (v := .int .i64 x.src) (by assumption); have z6 := hg1.has (p := ⟨w.heap.size + 1, 6, none⟩) (v := .int .i64 x.dst) (by assumption); have z7 := hg1.has (p := ⟨w.heap.size + 1, 7, none⟩) (v := .int .i64 x.price) (by assumption))
        | (go_at_call 134; refine (isShipper_any _ _).mono ?_; rintro e w' ⟨rfl, rfl⟩)
        | (go_at_call 40; refine (within_any _ _ _ _).mono ?_; rintro e w' ⟨rfl, rfl⟩))
      go_ret
      exact ⟨ret_bool (by simp [conOk, v2]), hg1'.out.trans (by assumption)⟩
    | true =>
     cases v3 : (x.entry == x.exit) with
     | true =>
       have v3n : (x.entry != x.exit) = false := by rw [bne, v3]; rfl
       go_enter Try.func127, Try.ntmps127
       go_wp2_with fail
       rw [← Hw1.out]
       have hGG := Gr.refl w1
       go_wp2_with (first
         | (go_at_call 73; refine (isNodeOf_any _ _ _ _ _ _ _ _ (by omega)).mono ?_; rintro e w' ⟨rfl, hg1⟩; have hGG := (by assumption : Gr w1 _).trans hg1; have y0 := hg1.has (p := ⟨w.heap.size, 0, none⟩) (v := .slice A1 n1 c1) (by assumption); have y1 := hg1.has (p := ⟨w.heap.size, 1, none⟩) (v := .slice A2 n2 c2) (by assumption); have z0 := hg1.has (p := ⟨w.heap.size + 1, 0, none⟩) (v := .int .i64 x.shipper) (by assumption); have z1 := hg1.has (p := ⟨w.heap.size + 1, 1, none⟩) (v := .int .i64 x.entry) (by assumption); have z2 := hg1.has (p := ⟨w.heap.size + 1, 2, none⟩) (v := .int .i64 x.exit) (by assumption); have z3 := hg1.has (p := ⟨w.heap.size + 1, 3, none⟩) (v := .int .i64 x.amount) (by assumption); have z4 := hg1.has (p := ⟨w.heap.size + 1, 4, none⟩) (v := .int .i64 x.cls) (by assumption); have z5 := hg1.has (p := ⟨w.heap.size + 1, 5, none⟩) (v := .int .i64 x.src) (by assumption); have z6 := hg1.has (p := ⟨w.heap.size + 1, 6, none⟩) (v := .int .i64 x.dst) (by assumption); have z7 := hg1.has (p := ⟨w.heap.size + 1, 7, none⟩) (v := .int .i64 x.price) (by assumption))
         | (go_at_call 134; refine (isShipper_any _ _).mono ?_; rintro e w' ⟨rfl, rfl⟩)
         | (go_at_call 40; refine (within_any _ _ _ _).mono ?_; rintro e w' ⟨rfl, rfl⟩))
       go_ret
       exact ⟨ret_bool (by simp [conOk, v3]), hg1'.out.trans (by assumption)⟩
     | false =>
      have v3n : (x.entry != x.exit) = true := by rw [bne, v3]; rfl
      cases v4 : inB 1 x.amount 30000 with
      | false =>
        go_enter Try.func127, Try.ntmps127
        go_wp2_with fail
        rw [← Hw1.out]
        have hGG := Gr.refl w1
        go_wp2_with (first
          | (go_at_call 73; refine (isNodeOf_any _ _ _ _ _ _ _ _ (by omega)).mono ?_; rintro e w' ⟨rfl, hg1⟩; have hGG := (by assumption : Gr w1 _).trans hg1; have y0 := hg1.has (p := ⟨w.heap.size, 0, none⟩) (v := .slice A1 n1 c1) (by assumption); have y1 := hg1.has (p := ⟨w.heap.size, 1, none⟩) (v := .slice A2 n2 c2) (by assumption); have z0 := hg1.has (p := ⟨w.heap.size + 1, 0, none⟩) (v := .int .i64 x.shipper) (by assumption); have z1 := hg1.has (p := ⟨w.heap.size + 1, 1, none⟩) (v := .int .i64 x.entry) (by assumption); have z2 := hg1.has (p := ⟨w.heap.size + 1, 2, none⟩) (v := .int .i64 x.exit) (by assumption); have z3 := hg1.has (p := ⟨w.heap.size + 1, 3, none⟩) (v := .int .i64 x.amount) (by assumption); have z4 := hg1.has (p := ⟨w.heap.size + 1, 4, none⟩) (v := .int .i64 x.cls) (by assumption); have z5 := hg1.has (p := ⟨w.heap.size + 1, 5, none⟩) (v := .int .i64 x.src) (by assumption); have z6 := hg1.has (p := ⟨w.heap.size + 1, 6, none⟩) (v := .int .i64 x.dst) (by assumption); have z7 := hg1.has (p := ⟨w.heap.size + 1, 7, none⟩) (v := .int .i64 x.price) (by assumption))
          | (go_at_call 134; refine (isShipper_any _ _).mono ?_; rintro e w' ⟨rfl, rfl⟩)
          | (go_at_call 40; refine (within_any _ _ _ _).mono ?_; rintro e w' ⟨rfl, rfl⟩))
        go_ret
        exact ⟨ret_bool (by simp [conOk, v4]), hg1'.out.trans (by assumption)⟩
      | true =>
       cases v5 : inB 0 x.cls 3 with
       | false =>
         go_enter Try.func127, Try.ntmps127
         go_wp2_with fail
         rw [← Hw1.out]
         have hGG := Gr.refl w1
         go_wp2_with (first
           | (go_at_call 73; refine (isNodeOf_any _ _ _ _ _ _ _ _ (by omega)).mono ?_; rintro e w' ⟨rfl, hg1⟩; have hGG := (by assumption : Gr w1 _).trans hg1; have y0 := hg1.has (p := ⟨w.heap.size, 0, none⟩) (v := .slice A1 n1 c1) (by assumption); have y1 := hg1.has (p := ⟨w.heap.size, 1, none⟩) (v := .slice A2 n2 c2) (by assumption); have z0 := hg1.has (p := ⟨w.heap.size + 1, 0, none⟩) (v := .int .i64 x.shipper) (by assumption); have z1 := hg1.has (p := ⟨w.heap.size + 1, 1, none⟩) (v := .int .i64 x.entry) (by assumption); have z2 := hg1.has (p := ⟨w.heap.size + 1, 2, none⟩) (v := .int .i64 x.exit) (by assumption); have z3 := hg1.has (p := ⟨w.heap.size + 1, 3, none⟩) (v := .int .i64 x.amount) (by assumption); have z4 := hg1.has (p := ⟨w.heap.size + 1, 4, none⟩) (v := .int .i64 x.cls) (by assumption); have z5 := hg1.has (p := ⟨w.heap.size + 1, 5, none⟩) (v := .int .i64 x.src) (by assumption); have z6 := hg1.has (p := ⟨w.heap.size + 1, 6, none⟩) (v := .int .i64 x.dst) (by assumption); have z7 := hg1.has (p := ⟨w.heap.size + 1, 7, none⟩) (v := .int .i64 x.price) (by assumption))
           | (go_at_call 134; refine (isShipper_any _ _).mono ?_; rintro e w' ⟨rfl, rfl⟩)
           | (go_at_call 40; refine (within_any _ _ _ _).mono ?_; rintro e w' ⟨rfl, rfl⟩))
         go_ret
         exact ⟨ret_bool (by simp [conOk, v5]), hg1'.out.trans (by assumption)⟩
       | true =>
        by_cases v6 : 0 ≤ x.src
        case neg =>
          go_enter Try.func127, Try.ntmps127
          go_wp2_with fail
          rw [← Hw1.out]
          have hGG := Gr.refl w1
          go_wp2_with (first
            | (go_at_call 73; refine (isNodeOf_any _ _ _ _ _ _ _ _ (by omega)).mono ?_; rintro e w' ⟨rfl, hg1⟩; have hGG := (by assumption : Gr w1 _).trans hg1; have y0 := hg1.has (p := ⟨w.heap.size, 0, none⟩) (v := .slice A1 n1 c1) (by assumption); have y1 := hg1.has (p := ⟨w.heap.size, 1, none⟩) (v := .slice A2 n2 c2) (by assumption); have z0 := hg1.has (p := ⟨w.heap.size + 1, 0, none⟩) (v := .int .i64 x.shipper) (by assumption); have z1 := hg1.has (p := ⟨w.heap.size + 1, 1, none⟩) (v := .int .i64 x.entry) (by assumption); have z2 := hg1.has (p := ⟨w.heap.size + 1, 2, none⟩) (v := .int .i64 x.exit) (by assumption); have z3 := hg1.has (p := ⟨w.heap.size + 1, 3, none⟩) (v := .int .i64 x.amount) (by assumption); have z4 := hg1.has (p := ⟨w.heap.size + 1, 4, none⟩) (v := .int .i64 x.cls) (by assumption); have z5 := hg1.has (p := ⟨w.heap.size + 1, 5, none⟩) (v := .int .i64 x.src) (by assumption); have z6 := hg1.has (p := ⟨w.heap.size + 1, 6, none⟩) (v := .int .i64 x.dst) (by assumption); have z7 := hg1.has (p := ⟨w.heap.size + 1, 7, none⟩) (v := .int .i64 x.price) (by assumption))
            | (go_at_call 134; refine (isShipper_any _ _).mono ?_; rintro e w' ⟨rfl, rfl⟩)
            | (go_at_call 40; refine (within_any _ _ _ _).mono ?_; rintro e w' ⟨rfl, rfl⟩))
          go_ret
          exact ⟨ret_bool (by rw [conOk, decide_eq_false (show ¬ (0 ≤ x.src) by omega)]; simp), hg1'.out.trans (by assumption)⟩
        case pos =>
         by_cases v7 : x.src ≤ x.dst
         case neg =>
           go_enter Try.func127, Try.ntmps127
           go_wp2_with fail
           rw [← Hw1.out]
           have hGG := Gr.refl w1
           go_wp2_with (first
             | (go_at_call 73; refine (isNodeOf_any _ _ _ _ _ _ _ _ (by omega)).mono ?_; rintro e w' ⟨rfl, hg1⟩; have hGG := (by assumption : Gr w1 _).trans hg1; have y0 := hg1.has (p := ⟨w.heap.size, 0, none⟩) (v := .slice A1 n1 c1) (by assumption); have y1 := hg1.has (p := ⟨w.heap.size, 1, none⟩) (v := .slice A2 n2 c2) (by assumption); have z0 := hg1.has (p := ⟨w.heap.size + 1, 0, none⟩) (v := .int .i64 x.shipper) (by assumption); have z1 := hg1.has (p := ⟨w.heap.size + 1, 1, none⟩) (v := .int .i64 x.entry) (by assumption); have z2 := hg1.has (p := ⟨w.heap.size + 1, 2, none⟩) (v := .int .i64 x.exit) (by assumption); have z3 := hg1.has (p := ⟨w.heap.size + 1, 3, none⟩) (v := .int .i64 x.amount) (by assumption); have z4 := hg1.has (p := ⟨w.heap.size + 1, 4, none⟩) (v := .int .i64 x.cls) (by assumption); have z5 := hg1.has (p := ⟨w.heap.size + 1, 5, none⟩) (v := .int .i64 x.src) (by assumption); have z6 := hg1.has (p := ⟨w.heap.size + 1, 6, none⟩) (v := .int .i64 x.dst) (by assumption); have z7 := hg1.has (p := ⟨w.heap.size + 1, 7, none⟩) (v := .int .i64 x.price) (by assumption))
             | (go_at_call 134; refine (isShipper_any _ _).mono ?_; rintro e w' ⟨rfl, rfl⟩)
             | (go_at_call 40; refine (within_any _ _ _ _).mono ?_; rintro e w' ⟨rfl, rfl⟩))
           go_ret
           exact ⟨ret_bool (by rw [conOk, decide_eq_false (show ¬ (x.src ≤ x.dst) by omega)]; simp), hg1'.out.trans (by assumption)⟩
         case pos =>
          by_cases v8 : x.dst < 48
          case neg =>
            go_enter Try.func127, Try.ntmps127
            go_wp2_with fail
            rw [← Hw1.out]
            have hGG := Gr.refl w1
            go_wp2_with (first
              | (go_at_call 73; refine (isNodeOf_any _ _ _ _ _ _ _ _ (by omega)).mono ?_; rintro e w' ⟨rfl, hg1⟩; have hGG := (by assumption : Gr w1 _).trans hg1; have y0 := hg1.has (p := ⟨w.heap.size, 0, none⟩) (v := .slice A1 n1 c1) (by assumption); have y1 := hg1.has (p := ⟨w.heap.size, 1, none⟩) (v := .slice A2 n2 c2) (by assumption); have z0 := hg1.has (p := ⟨w.heap.size + 1, 0, none⟩) (v := .int .i64 x.shipper) (by assumption); have z1 := hg1.has (p := ⟨w.heap.size + 1, 1, none⟩) (v := .int .i64 x.entry) (by assumption); have z2 := hg1.has (p := ⟨w.heap.size + 1, 2, none⟩) (v := .int .i64 x.exit) (by assumption); have z3 := hg1.has (p := ⟨w.heap.size + 1, 3, none⟩) (v := .int .i64 x.amount) (by assumption); have z4 := hg1.has (p := ⟨w.heap.size + 1, 4, none⟩) (v := .int .i64 x.cls) (by assumption); have z5 := hg1.has (p := ⟨w.heap.size + 1, 5, none⟩) (v := .int .i64 x.src) (by assumption); have z6 := hg1.has (p := ⟨w.heap.size + 1, 6, none⟩) (v := .int .i64 x.dst) (by assumption); have z7 := hg1.has (p := ⟨w.heap.size + 1, 7, none⟩) (v := .int .i64 x.price) (by assumption))
              | (go_at_call 134; refine (isShipper_any _ _).mono ?_; rintro e w' ⟨rfl, rfl⟩)
              | (go_at_call 40; refine (within_any _ _ _ _).mono ?_; rintro e w' ⟨rfl, rfl⟩))
            go_ret
            exact ⟨ret_bool (by rw [conOk, decide_eq_false (show ¬ (x.dst < 48) by omega)]; simp), hg1'.out.trans (by assumption)⟩
          case pos =>
           cases v9 : inB 0 x.price 1000000 with
           | false =>
             go_enter Try.func127, Try.ntmps127
             go_wp2_with fail
             rw [← Hw1.out]
             have hGG := Gr.refl w1
             go_wp2_with (first
               | (go_at_call 73; refine (isNodeOf_any _ _ _ _ _ _ _ _ (by omega)).mono ?_; rintro e w' ⟨rfl, hg1⟩; have hGG := (by assumption : Gr w1 _).trans hg1; have y0 := hg1.has (p := ⟨w.heap.size, 0, none⟩) (v := .slice A1 n1 c1) (by assumption); have y1 := hg1.has (p := ⟨w.heap.size, 1, none⟩) (v := .slice A2 n2 c2) (by assumption); have z0 := hg1.has (p := ⟨w.heap.size + 1, 0, none⟩) (v := .int .i64 x.shipper) (by assumption); have z1 := hg1.has (p := ⟨w.heap.size + 1, 1, none⟩) (v := .int .i64 x.entry) (by assumption); have z2 := hg1.has (p := ⟨w.heap.size + 1, 2, none⟩) (v := .int .i64 x.exit) (by assumption); have z3 := hg1.has (p := ⟨w.heap.size + 1, 3, none⟩) (v := .int .i64 x.amount) (by assumption); have z4 := hg1.has (p := ⟨w.heap.size + 1, 4, none⟩) (v := .int .i64 x.cls) (by assumption); have z5 := hg1.has (p := ⟨w.heap.size + 1, 5, none⟩) (v := .int .i64 x.src) (by assumption); have z6 := hg1.has (p := ⟨w.heap.size + 1, 6, none⟩) (v := .int .i64 x.dst) (by assumption); have z7 := hg1.has (p := ⟨w.heap.size + 1, 7, none⟩) (v := .int .i64 x.price) (by assumption))
               | (go_at_call 134; refine (isShipper_any _ _).mono ?_; rintro e w' ⟨rfl, rfl⟩)
               | (go_at_call 40; refine (within_any _ _ _ _).mono ?_; rintro e w' ⟨rfl, rfl⟩))
             go_ret
             exact ⟨ret_bool (by simp [conOk, v9]), hg1'.out.trans (by assumption)⟩
           | true =>
             go_enter Try.func127, Try.ntmps127
             go_wp2_with fail
             rw [← Hw1.out]
             have hGG := Gr.refl w1
             go_wp2_with (first
               | (go_at_call 73; refine (isNodeOf_any _ _ _ _ _ _ _ _ (by omega)).mono ?_; rintro e w' ⟨rfl, hg1⟩; have hGG := (by assumption : Gr w1 _).trans hg1; have y0 := hg1.has (p := ⟨w.heap.size, 0, none⟩) (v := .slice A1 n1 c1) (by assumption); have y1 := hg1.has (p := ⟨w.heap.size, 1, none⟩) (v := .slice A2 n2 c2) (by assumption); have z0 := hg1.has (p := ⟨w.heap.size + 1, 0, none⟩) (v := .int .i64 x.shipper) (by assumption); have z1 := hg1.has (p := ⟨w.heap.size + 1, 1, none⟩) (v := .int .i64 x.entry) (by assumption); have z2 := hg1.has (p := ⟨w.heap.size + 1, 2, none⟩) (v := .int .i64 x.exit) (by assumption); have z3 := hg1.has (p := ⟨w.heap.size + 1, 3, none⟩) (v := .int .i64 x.amount) (by assumption); have z4 := hg1.has (p := ⟨w.heap.size + 1, 4, none⟩) (v := .int .i64 x.cls) (by assumption); have z5 := hg1.has (p := ⟨w.heap.size + 1, 5, none⟩) (v := .int .i64 x.src) (by assumption); have z6 := hg1.has (p := ⟨w.heap.size + 1, 6, none⟩) (v := .int .i64 x.dst) (by assumption); have z7 := hg1.has (p := ⟨w.heap.size + 1, 7, none⟩) (v := .int .i64 x.price) (by assumption))
               | (go_at_call 134; refine (isShipper_any _ _).mono ?_; rintro e w' ⟨rfl, rfl⟩)
               | (go_at_call 40; refine (within_any _ _ _ _).mono ?_; rintro e w' ⟨rfl, rfl⟩))
             go_ret
             exact ⟨ret_bool (by rw [conOk, v0, v1, v2, v3, v4, v5, decide_eq_true (show 0 ≤ x.src by omega), decide_eq_true (show x.src ≤ x.dst by omega), decide_eq_true (show x.dst < 48 by omega), v9]; rfl), hg1'.out.trans (by assumption)⟩
set_option maxHeartbeats 3200000 in
set_option maxRecDepth 100000 in
theorem l20Is_any {A1 A2 : Option Addr} {n1 c1 n2 c2 : Nat} (x : GCon) (w : World) (hn : n1 ≤ 1048576) :
    Calls Try.prog 128 #[.agg #[.slice A1 n1 c1, .slice A2 n2 c2], .agg #[.int .i64 x.shipper, .int .i64 x.entry, .int .i64 x.exit, .int .i64 x.amount, .int .i64 x.cls, .int .i64 x.src, .int .i64 x.dst, .int .i64 x.price]] w fun e w' => e = .returned (.bool (conOk n1 x)) ∧ Gr w w' := by
  obtain ⟨w1, hw1⟩ : ∃ W, W = (w.alloc (.cells #[.slice A1 n1 c1, .slice A2 n2 c2] 27)).alloc (.cells #[.int .i64 x.shipper, .int .i64 x.entry, .int .i64 x.exit, .int .i64 x.amount, .int .i64 x.cls, .int .i64 x.src, .int .i64 x.dst, .int .i64 x.price] 61) := ⟨_, rfl⟩
  have hg1 : Gr w w1 := by rw [hw1]; exact ((Gr.refl _).alloc _).alloc _
  have hg1' := Lib.hid hg1
  clear hg1
  have hN : w1.heap.size = w.heap.size + 2 := by rw [hw1]; simp
  have y0 : w1.cell? ⟨w.heap.size, 0, none⟩ = some (.slice A1 n1 c1) := by rw [hw1]; simp [go_sem]
  have y1 : w1.cell? ⟨w.heap.size, 1, none⟩ = some (.slice A2 n2 c2) := by rw [hw1]; simp [go_sem]
  have z0 : w1.cell? ⟨w.heap.size + 1, 0, none⟩ = some (.int .i64 x.shipper) := by rw [hw1]; simp [go_sem]
  have z1 : w1.cell? ⟨w.heap.size + 1, 1, none⟩ = some (.int .i64 x.entry) := by rw [hw1]; simp [go_sem]
  have z2 : w1.cell? ⟨w.heap.size + 1, 2, none⟩ = some (.int .i64 x.exit) := by rw [hw1]; simp [go_sem]
  have z3 : w1.cell? ⟨w.heap.size + 1, 3, none⟩ = some (.int .i64 x.amount) := by rw [hw1]; simp [go_sem]
  have z4 : w1.cell? ⟨w.heap.size + 1, 4, none⟩ = some (.int .i64 x.cls) := by rw [hw1]; simp [go_sem]
  have z5 : w1.cell? ⟨w.heap.size + 1, 5, none⟩ = some (.int .i64 x.src) := by rw [hw1]; simp [go_sem]
  have z6 : w1.cell? ⟨w.heap.size + 1, 6, none⟩ = some (.int .i64 x.dst) := by rw [hw1]; simp [go_sem]
  have z7 : w1.cell? ⟨w.heap.size + 1, 7, none⟩ = some (.int .i64 x.price) := by rw [hw1]; simp [go_sem]
  have Hw1 := Lib.hid hw1
  clear hw1
  cases v0 : inB 0 x.shipper 15 with
  | false =>
    go_enter Try.func128, Try.ntmps128
    go_wp2_with fail
    rw [← Hw1.out]
    have hGG := Gr.refl w1
    go_wp2_with (first
      | (go_at_call 135; refine (l02Node_any _ _ _ _ _ _ _ _ (by omega)).mono ?_; rintro e w' ⟨rfl, hg1⟩; have hGG := (by assumption : Gr w1 _).trans hg1; have y0 := hg1.has (p := ⟨w.heap.size, 0, none⟩) (v := .slice A1 n1 c1) (by assumption); have y1 := hg1.has (p := ⟨w.heap.size, 1, none⟩) (v := .slice A2 n2 c2) (by assumption); have z0 := hg1.has (p := ⟨w.heap.size + 1, 0, none⟩) (v := .int .i64 x.shipper) (by assumption); have z1 := hg1.has (p := ⟨w.heap.size + 1, 1, none⟩) (v := .int .i64 x.entry) (by assumption); have z2 := hg1.has (p := ⟨w.heap.size + 1, 2, none⟩) (v := .int .i64 x.exit) (by assumption); have z3 := hg1.has (p := ⟨w.heap.size + 1, 3, none⟩) (v := .int .i64 x.amount) (by assumption); have z4 := hg1.has (p := ⟨w.heap.size + 1, 4, none⟩) (v := .int .i64 x.cls) (by assumption); have z5 := hg1.has (p := ⟨w.heap.size + 1, 5, none⟩) (v := .int .i64 x.src) (by assumption); have z6 := hg1.has (p := ⟨w.heap.size + 1, 6, none⟩) (v := .int .i64 x.dst) (by assumption); have z7 := hg1.has (p := ⟨w.heap.size + 1, 7, none⟩) (v := .int .i64 x.price) (by assumption))
      | (go_at_call 43; refine (l01In_any _ _ _ _).mono ?_; rintro e w' ⟨rfl, rfl⟩))
    go_ret
    exact ⟨ret_bool (by simp [conOk, v0]), hg1'.out.trans (by assumption)⟩
  | true =>
   cases v1 : inB 0 x.entry (↑n1 - 1) with
   | false =>
     go_enter Try.func128, Try.ntmps128
     go_wp2_with fail
     rw [← Hw1.out]
     have hGG := Gr.refl w1
     go_wp2_with (first
       | (go_at_call 135; refine (l02Node_any _ _ _ _ _ _ _ _ (by omega)).mono ?_; rintro e w' ⟨rfl, hg1⟩; have hGG := (by assumption : Gr w1 _).trans hg1; have y0 := hg1.has (p := ⟨w.heap.size, 0, none⟩) (v := .slice A1 n1 c1) (by assumption); have y1 := hg1.has (p := ⟨w.heap.size, 1, none⟩) (v := .slice A2 n2 c2) (by assumption); have z0 := hg1.has (p := ⟨w.heap.size + 1, 0, none⟩) (v := .int .i64 x.shipper) (by assumption); have z1 := hg1.has (p := ⟨w.heap.size + 1, 1, none⟩) (v := .int .i64 x.entry) (by assumption); have z2 := hg1.has (p := ⟨w.heap.size + 1, 2, none⟩) (v := .int .i64 x.exit) (by assumption); have z3 := hg1.has (p := ⟨w.heap.size + 1, 3, none⟩) (v := .int .i64 x.amount) (by assumption); have z4 := hg1.has (p := ⟨w.heap.size + 1, 4, none⟩) (v := .int .i64 x.cls) (by assumption); have z5 := hg1.has (p := ⟨w.heap.size + 1, 5, none⟩) (v := .int .i64 x.src) (by assumption); have z6 := hg1.has (p := ⟨w.heap.size + 1, 6, none⟩) (v := .int .i64 x.dst) (by assumption); have z7 := hg1.has (p := ⟨w.heap.size + 1, 7, none⟩) (v := .int .i64 x.price) (by assumption))
       | (go_at_call 43; refine (l01In_any _ _ _ _).mono ?_; rintro e w' ⟨rfl, rfl⟩))
     go_ret
     exact ⟨ret_bool (by simp [conOk, v1]), hg1'.out.trans (by assumption)⟩
   | true =>
    cases v2 : inB 0 x.exit (↑n1 - 1) with
    | false =>
      go_enter Try.func128, Try.ntmps128
      go_wp2_with fail
      rw [← Hw1.out]
      have hGG := Gr.refl w1
      go_wp2_with (first
        | (go_at_call 135; refine (l02Node_any _ _ _ _ _ _ _ _ (by omega)).mono ?_; rintro e w' ⟨rfl, hg1⟩; have hGG := (by assumption : Gr w1 _).trans hg1; have y0 := hg1.has (p := ⟨w.heap.size, 0, none⟩) (v := .slice A1 n1 c1) (by assumption); have y1 := hg1.has (p := ⟨w.heap.size, 1, none⟩) (v := .slice A2 n2 c2) (by assumption); have z0 := hg1.has (p := ⟨w.heap.size + 1, 0, none⟩) (v := .int .i64 x.shipper) (by assumption); have z1 := hg1.has (p := ⟨w.heap.size + 1, 1, none⟩) (v := .int .i64 x.entry) (by assumption); have z2 := hg1.has (p := ⟨w.heap.size + 1, 2, none⟩) (v := .int .i64 x.exit) (by assumption); have z3 := hg1.has (p := ⟨w.heap.size + 1, 3, none⟩) (v := .int .i64 x.amount) (by assumption); have z4 := hg1.has (p := ⟨w.heap.size + 1, 4, none⟩) (v := .int .i64 x.cls) (by assumption); have z5 := hg1.has (p := ⟨w.heap.size + 1, 5, none⟩) (v := .int .i64 x.src) (by assumption); have z6 := hg1.has (p := ⟨w.heap.size + 1, 6, none⟩) (v := .int .i64 x.dst) (by assumption); have z7 := hg1.has (p := ⟨w.heap.size + 1, 7, none⟩) (v := .int .i64 x.price) (by assumption))
        | (go_at_call 43; refine (l01In_any _ _ _ _).mono ?_; rintro e w' ⟨rfl, rfl⟩))
      go_ret
      exact ⟨ret_bool (by simp [conOk, v2]), hg1'.out.trans (by assumption)⟩
    | true =>
     cases v3 : (x.entry == x.exit) with
     | true =>
       have v3n : (x.entry != x.exit) = false := by rw [bne, v3]; rfl
       go_enter Try.func128, Try.ntmps128
       go_wp2_with fail
       rw [← Hw1.out]
       have hGG := Gr.refl w1
       go_wp2_with (first
         | (go_at_call 135; refine (l02Node_any _ _ _ _ _ _ _ _ (by omega)).mono ?_; rintro e w' ⟨rfl, hg1⟩; have hGG := (by assumption : Gr w1 _).trans hg1; have y0 := hg1.has (p := ⟨w.heap.size, 0, none⟩) (v := .slice A1 n1 c1) (by assumption); have y1 := hg1.has (p := ⟨w.heap.size, 1, none⟩) (v := .slice A2 n2 c2) (by assumption); have z0 := hg1.has (p := ⟨w.heap.size + 1, 0, none⟩) (v := .int .i64 x.shipper) (by assumption); have z1 := hg1.has (p := ⟨w.heap.size + 1, 1, none⟩) (v := .int .i64 x.entry) (by assumption); have z2 := hg1.has (p := ⟨w.heap.size + 1, 2, none⟩) (v := .int .i64 x.exit) (by assumption); have z3 := hg1.has (p := ⟨w.heap.size + 1, 3, none⟩) (v := .int .i64 x.amount) (by assumption); have z4 := hg1.has (p := ⟨w.heap.size + 1, 4, none⟩) (v := .int .i64 x.cls) (by assumption); have z5 := hg1.has (p := ⟨w.heap.size + 1, 5, none⟩) (v := .int .i64 x.src) (by assumption); have z6 := hg1.has (p := ⟨w.heap.size + 1, 6, none⟩) (v := .int .i64 x.dst) (by assumption); have z7 := hg1.has (p := ⟨w.heap.size + 1, 7, none⟩) (v := .int .i64 x.price) (by assumption))
         | (go_at_call 43; refine (l01In_any _ _ _ _).mono ?_; rintro e w' ⟨rfl, rfl⟩))
       go_ret
       exact ⟨ret_bool (by simp [conOk, v3]), hg1'.out.trans (by assumption)⟩
     | false =>
      have v3n : (x.entry != x.exit) = true := by rw [bne, v3]; rfl
      cases v4 : inB 1 x.amount 30000 with
      | false =>
        go_enter Try.func128, Try.ntmps128
        go_wp2_with fail
        rw [← Hw1.out]
        have hGG := Gr.refl w1
        go_wp2_with (first
          | (go_at_call 135; refine (l02Node_any _ _ _ _ _ _ _ _ (by omega)).mono ?_; rintro e w' ⟨rfl, hg1⟩; have hGG := (by assumption : Gr w1 _).trans hg1; have y0 := hg1.has (p := ⟨w.heap.size, 0, none⟩) (v := .slice A1 n1 c1) (by assumption); have y1 := hg1.has (p := ⟨w.heap.size, 1, none⟩) (v := .slice A2 n2 c2) (by assumption); have z0 := hg1.has (p := ⟨w.heap.size + 1, 0, none⟩) (v := .int .i64 x.shipper) (by assumption); have z1 := hg1.has (p := ⟨w.heap.size + 1, 1, none⟩) (v := .int .i64 x.entry) (by assumption); have z2 := hg1.has (p := ⟨w.heap.size + 1, 2, none⟩) (v := .int .i64 x.exit) (by assumption); have z3 := hg1.has (p := ⟨w.heap.size + 1, 3, none⟩) (v := .int .i64 x.amount) (by assumption); have z4 := hg1.has (p := ⟨w.heap.size + 1, 4, none⟩) (v := .int .i64 x.cls) (by assumption); have z5 := hg1.has (p := ⟨w.heap.size + 1, 5, none⟩) (v := .int .i64 x.src) (by assumption); have z6 := hg1.has (p := ⟨w.heap.size + 1, 6, none⟩) (v := .int .i64 x.dst) (by assumption); have z7 := hg1.has (p := ⟨w.heap.size + 1, 7, none⟩) (v := .int .i64 x.price) (by assumption))
          | (go_at_call 43; refine (l01In_any _ _ _ _).mono ?_; rintro e w' ⟨rfl, rfl⟩))
        go_ret
        exact ⟨ret_bool (by simp [conOk, v4]), hg1'.out.trans (by assumption)⟩
      | true =>
       cases v5 : inB 0 x.cls 3 with
       | false =>
         go_enter Try.func128, Try.ntmps128
         go_wp2_with fail
         rw [← Hw1.out]
         have hGG := Gr.refl w1
         go_wp2_with (first
           | (go_at_call 135; refine (l02Node_any _ _ _ _ _ _ _ _ (by omega)).mono ?_; rintro e w' ⟨rfl, hg1⟩; have hGG := (by assumption : Gr w1 _).trans hg1; have y0 := hg1.has (p := ⟨w.heap.size, 0, none⟩) (v := .slice A1 n1 c1) (by assumption); have y1 := hg1.has (p := ⟨w.heap.size, 1, none⟩) (v := .slice A2 n2 c2) (by assumption); have z0 := hg1.has (p := ⟨w.heap.size + 1, 0, none⟩) (v := .int .i64 x.shipper) (by assumption); have z1 := hg1.has (p := ⟨w.heap.size + 1, 1, none⟩) (v := .int .i64 x.entry) (by assumption); have z2 := hg1.has (p := ⟨w.heap.size + 1, 2, none⟩) (v := .int .i64 x.exit) (by assumption); have z3 := hg1.has (p := ⟨w.heap.size + 1, 3, none⟩) (v := .int .i64 x.amount) (by assumption); have z4 := hg1.has (p := ⟨w.heap.size + 1, 4, none⟩) (v := .int .i64 x.cls) (by assumption); have z5 := hg1.has (p := ⟨w.heap.size + 1, 5, none⟩) (v := .int .i64 x.src) (by assumption); have z6 := hg1.has (p := ⟨w.heap.size + 1, 6, none⟩) (v := .int .i64 x.dst) (by assumption); have z7 := hg1.has (p := ⟨w.heap.size + 1, 7, none⟩) (v := .int .i64 x.price) (by assumption))
           | (go_at_call 43; refine (l01In_any _ _ _ _).mono ?_; rintro e w' ⟨rfl, rfl⟩))
         go_ret
         exact ⟨ret_bool (by simp [conOk, v5]), hg1'.out.trans (by assumption)⟩
       | true =>
        cases v6 : inB 0 x.price 1000000 with
        | false =>
          go_enter Try.func128, Try.ntmps128
          go_wp2_with fail
          rw [← Hw1.out]
          have hGG := Gr.refl w1
          go_wp2_with (first
            | (go_at_call 135; refine (l02Node_any _ _ _ _ _ _ _ _ (by omega)).mono ?_; rintro e w' ⟨rfl, hg1⟩; have hGG := (by assumption : Gr w1 _).trans hg1; have y0 := hg1.has (p := ⟨w.heap.size, 0, none⟩) (v := .slice A1 n1 c1) (by assumption); have y1 := hg1.has (p := ⟨w.heap.size, 1, none⟩) (v := .slice A2 n2 c2) (by assumption); have z0 := hg1.has (p := ⟨w.heap.size + 1, 0, none⟩) (v := .int .i64 x.shipper) (by assumption); have z1 := hg1.has (p := ⟨w.heap.size + 1, 1, none⟩) (v := .int .i64 x.entry) (by assumption); have z2 := hg1.has (p := ⟨w.heap.size + 1, 2, none⟩) (v := .int .i64 x.exit) (by assumption); have z3 := hg1.has (p := ⟨w.heap.size + 1, 3, none⟩) (v := .int .i64 x.amount) (by assumption); have z4 := hg1.has (p := ⟨w.heap.size + 1, 4, none⟩) (v := .int .i64 x.cls) (by assumption); have z5 := hg1.has (p := ⟨w.heap.size + 1, 5, none⟩) (v := .int .i64 x.src) (by assumption); have z6 := hg1.has (p := ⟨w.heap.size + 1, 6, none⟩) (v := .int .i64 x.dst) (by assumption); have z7 := hg1.has (p := ⟨w.heap.size + 1, 7, none⟩) (v := .int .i64 x.price) (by assumption))
            | (go_at_call 43; refine (l01In_any _ _ _ _).mono ?_; rintro e w' ⟨rfl, rfl⟩))
          go_ret
          exact ⟨ret_bool (by simp [conOk, v6]), hg1'.out.trans (by assumption)⟩
        | true =>
         by_cases v7 : 0 ≤ x.src
         case neg =>
           go_enter Try.func128, Try.ntmps128
           go_wp2_with fail
           rw [← Hw1.out]
           have hGG := Gr.refl w1
           go_wp2_with (first
             | (go_at_call 135; refine (l02Node_any _ _ _ _ _ _ _ _ (by omega)).mono ?_; rintro e w' ⟨rfl, hg1⟩; have hGG := (by assumption : Gr w1 _).trans hg1; have y0 := hg1.has (p := ⟨w.heap.size, 0, none⟩) (v := .slice A1 n1 c1) (by assumption); have y1 := hg1.has (p := ⟨w.heap.size, 1, none⟩) (v := .slice A2 n2 c2) (by assumption); have z0 := hg1.has (p := ⟨w.heap.size + 1, 0, none⟩) (v := .int .i64 x.shipper) (by assumption); have z1 := hg1.has (p := ⟨w.heap.size + 1, 1, none⟩) (v := .int .i64 x.entry) (by assumption); have z2 := hg1.has (p := ⟨w.heap.size + 1, 2, none⟩) (v := .int .i64 x.exit) (by assumption); have z3 := hg1.has (p := ⟨w.heap.size + 1, 3, none⟩) (v := .int .i64 x.amount) (by assumption); have z4 := hg1.has (p := ⟨w.heap.size + 1, 4, none⟩) (v := .int .i64 x.cls) (by assumption); have z5 := hg1.has (p := ⟨w.heap.size + 1, 5, none⟩) (v := .int .i64 x.src) (by assumption); have z6 := hg1.has (p := ⟨w.heap.size + 1, 6, none⟩) (v := .int .i64 x.dst) (by assumption); have z7 := hg1.has (p := ⟨w.heap.size + 1, 7, none⟩) (v := .int .i64 x.price) (by assumption))
             | (go_at_call 43; refine (l01In_any _ _ _ _).mono ?_; rintro e w' ⟨rfl, rfl⟩))
           go_ret
           exact ⟨ret_bool (by rw [conOk, decide_eq_false (show ¬ (0 ≤ x.src) by omega)]; simp), hg1'.out.trans (by assumption)⟩
         case pos =>
          by_cases v8 : x.src ≤ x.dst
          case neg =>
            go_enter Try.func128, Try.ntmps128
            go_wp2_with fail
            rw [← Hw1.out]
            have hGG := Gr.refl w1
            go_wp2_with (first
              | (go_at_call 135; refine (l02Node_any _ _ _ _ _ _ _ _ (by omega)).mono ?_; rintro e w' ⟨rfl, hg1⟩; have hGG := (by assumption : Gr w1 _).trans hg1; have y0 := hg1.has (p := ⟨w.heap.size, 0, none⟩) (v := .slice A1 n1 c1) (by assumption); have y1 := hg1.has (p := ⟨w.heap.size, 1, none⟩) (v := .slice A2 n2 c2) (by assumption); have z0 := hg1.has (p := ⟨w.heap.size + 1, 0, none⟩) (v := .int .i64 x.shipper) (by assumption); have z1 := hg1.has (p := ⟨w.heap.size + 1, 1, none⟩) (v := .int .i64 x.entry) (by assumption); have z2 := hg1.has (p := ⟨w.heap.size + 1, 2, none⟩) (v := .int .i64 x.exit) (by assumption); have z3 := hg1.has (p := ⟨w.heap.size + 1, 3, none⟩) (v := .int .i64 x.amount) (by assumption); have z4 := hg1.has (p := ⟨w.heap.size + 1, 4, none⟩) (v := .int .i64 x.cls) (by assumption); have z5 := hg1.has (p := ⟨w.heap.size + 1, 5, none⟩) (v := .int .i64 x.src) (by assumption); have z6 := hg1.has (p := ⟨w.heap.size + 1, 6, none⟩) (v := .int .i64 x.dst) (by assumption); have z7 := hg1.has (p := ⟨w.heap.size + 1, 7, none⟩) (v := .int .i64 x.price) (by assumption))
              | (go_at_call 43; refine (l01In_any _ _ _ _).mono ?_; rintro e w' ⟨rfl, rfl⟩))
            go_ret
            exact ⟨ret_bool (by rw [conOk, decide_eq_false (show ¬ (x.src ≤ x.dst) by omega)]; simp), hg1'.out.trans (by assumption)⟩
          case pos =>
           by_cases v9 : x.dst < 48
           case neg =>
             go_enter Try.func128, Try.ntmps128
             go_wp2_with fail
             rw [← Hw1.out]
             have hGG := Gr.refl w1
             go_wp2_with (first
               | (go_at_call 135; refine (l02Node_any _ _ _ _ _ _ _ _ (by omega)).mono ?_; rintro e w' ⟨rfl, hg1⟩; have hGG := (by assumption : Gr w1 _).trans hg1; have y0 := hg1.has (p := ⟨w.heap.size, 0, none⟩) (v := .slice A1 n1 c1) (by assumption); have y1 := hg1.has (p := ⟨w.heap.size, 1, none⟩) (v := .slice A2 n2 c2) (by assumption); have z0 := hg1.has (p := ⟨w.heap.size + 1, 0, none⟩) (v := .int .i64 x.shipper) (by assumption); have z1 := hg1.has (p := ⟨w.heap.size + 1, 1, none⟩) (v := .int .i64 x.entry) (by assumption); have z2 := hg1.has (p := ⟨w.heap.size + 1, 2, none⟩) (v := .int .i64 x.exit) (by assumption); have z3 := hg1.has (p := ⟨w.heap.size + 1, 3, none⟩) (v := .int .i64 x.amount) (by assumption); have z4 := hg1.has (p := ⟨w.heap.size + 1, 4, none⟩) (v := .int .i64 x.cls) (by assumption); have z5 := hg1.has (p := ⟨w.heap.size + 1, 5, none⟩) (v := .int .i64 x.src) (by assumption); have z6 := hg1.has (p := ⟨w.heap.size + 1, 6, none⟩) (v := .int .i64 x.dst) (by assumption); have z7 := hg1.has (p := ⟨w.heap.size + 1, 7, none⟩) (v := .int .i64 x.price) (by assumption))
               | (go_at_call 43; refine (l01In_any _ _ _ _).mono ?_; rintro e w' ⟨rfl, rfl⟩))
             go_ret
             exact ⟨ret_bool (by rw [conOk, decide_eq_false (show ¬ (x.dst < 48) by omega)]; simp), hg1'.out.trans (by assumption)⟩
           case pos =>
             go_enter Try.func128, Try.ntmps128
             go_wp2_with fail
             rw [← Hw1.out]
             have hGG := Gr.refl w1
             go_wp2_with (first
               | (go_at_call 135; refine (l02Node_any _ _ _ _ _ _ _ _ (by omega)).mono ?_; rintro e w' ⟨rfl, hg1⟩; have hGG := (by assumption : Gr w1 _).trans hg1; have y0 := hg1.has (p := ⟨w.heap.size, 0, none⟩) (v := .slice A1 n1 c1) (by assumption); have y1 := hg1.has (p := ⟨w.heap.size, 1, none⟩) (v := .slice A2 n2 c2) (by assumption); have z0 := hg1.has (p := ⟨w.heap.size + 1, 0, none⟩) (v := .int .i64 x.shipper) (by assumption); have z1 := hg1.has (p := ⟨w.heap.size + 1, 1, none⟩) (v := .int .i64 x.entry) (by assumption); have z2 := hg1.has (p := ⟨w.heap.size + 1, 2, none⟩) (v := .int .i64 x.exit) (by assumption); have z3 := hg1.has (p := ⟨w.heap.size + 1, 3, none⟩) (v := .int .i64 x.amount) (by assumption); have z4 := hg1.has (p := ⟨w.heap.size + 1, 4, none⟩) (v := .int .i64 x.cls) (by assumption); have z5 := hg1.has (p := ⟨w.heap.size + 1, 5, none⟩) (v := .int .i64 x.src) (by assumption); have z6 := hg1.has (p := ⟨w.heap.size + 1, 6, none⟩) (v := .int .i64 x.dst) (by assumption); have z7 := hg1.has (p := ⟨w.heap.size + 1, 7, none⟩) (v := .int .i64 x.price) (by assumption))
               | (go_at_call 43; refine (l01In_any _ _ _ _).mono ?_; rintro e w' ⟨rfl, rfl⟩))
             go_ret
             exact ⟨ret_bool (by rw [conOk, v0, v1, v2, v3, v4, v5, v6, decide_eq_true (show 0 ≤ x.src by omega), decide_eq_true (show x.src ≤ x.dst by omega), decide_eq_true (show x.dst < 48 by omega)]; rfl), hg1'.out.trans (by assumption)⟩
end Go.Proofs.Ytelhmfgfjlpkaaa
