/-
  One nomination, both sides. Printed by gen_nom.py.
-/
import Derived.Test.YtelhmfgfjlpkaaaNom2
import Derived.Test.YtelhmfgfjlpkaaaText
import Derived.Deep.RegionHeld3
set_option linter.unusedSimpArgs false
set_option linter.unusedVariables false
namespace Go.Proofs.Ytelhmfgfjlpkaaa
open Go.ChangeShapes Go.WideShapes Go.ChangeAt Go.RowKit

theorem holdsIn_any {y : GCon} (h : Int) (w : World) : Calls Try.prog 116 #[.agg #[.int .i64 y.shipper, .int .i64 y.entry, .int .i64 y.exit, .int .i64 y.amount, .int .i64 y.cls, .int .i64 y.src, .int .i64 y.dst, .int .i64 y.price], .int .i64 h] w fun e w' => e = .returned (.bool (inB y.src h y.dst)) ∧ Gr w w' := by
  go_enter Try.func116, Try.ntmps116
  go_wp2_with (go_at_call 40; refine (within_any _ _ _ _).mono ?_; rintro e w' ⟨rfl, rfl⟩)
  go_ret
  exact ⟨rfl, (Gr.refl _).alloc _⟩
theorem l20Holds_any {y : GCon} (h : Int) (w : World) : Calls Try.prog 129 #[.agg #[.int .i64 y.shipper, .int .i64 y.entry, .int .i64 y.exit, .int .i64 y.amount, .int .i64 y.cls, .int .i64 y.src, .int .i64 y.dst, .int .i64 y.price], .int .i64 h] w fun e w' => e = .returned (.bool (inB y.src h y.dst)) ∧ Gr w w' := by
  go_enter Try.func129, Try.ntmps129
  go_wp2_with (go_at_call 43; refine (l01In_any _ _ _ _).mono ?_; rintro e w' ⟨rfl, rfl⟩)
  go_ret
  exact ⟨rfl, (Gr.refl _).alloc _⟩
theorem isHour_any (h : Int) (w : World) : Calls Try.prog 68 #[.int .i64 h] w fun e w' => e = .returned (.bool (inB 0 h 47)) ∧ w = w' := by
  go_enter Try.func68, Try.ntmps68
  go_wp2_with (go_at_call 40; refine (within_any _ _ _ _).mono ?_; rintro e w' ⟨rfl, rfl⟩)
  go_ret
  exact ⟨rfl, rfl⟩
theorem l20Hour_any (h : Int) (w : World) : Calls Try.prog 71 #[.int .i64 h] w fun e w' => e = .returned (.bool (inB 0 h 47)) ∧ w = w' := by
  go_enter Try.func71, Try.ntmps71
  go_wp2_with (go_at_call 43; refine (l01In_any _ _ _ _).mono ?_; rintro e w' ⟨rfl, rfl⟩)
  go_ret
  exact ⟨rfl, rfl⟩
theorem con_at {b : List GCon} {nn k : Int} (hb : bookOk nn b = true) (h0 : 0 ≤ k) (h1 : k ≤ (b.length : Int) - 1) : b[k.toNat]? = some (conAt b k) ∧ conOk nn (conAt b k) = true := by
  have hx : b[k.toNat]? = some (conAt b k) := by
    rw [conAt, List.getD_eq_getElem?_getD, List.getElem?_eq_getElem (show k.toNat < b.length by omega)]; rfl
  exact ⟨hx, (bookOk_all hb).2 _ _ hx⟩
set_option maxHeartbeats 3200000 in
set_option maxRecDepth 100000 in
theorem isNomination_any {A3 : Option Addr} {n3 c3 : Nat} (nn : Int) (bk : List GCon) (x : GNom) (w : World) (hL : SlAt w 8 A3 n3 c3 (bk.flatMap GCon.cells)) (hok : bookOk nn bk = true) :
    Calls Try.prog 99 #[.slice A3 n3 c3, .agg #[.int .i64 x.contract, .int .i64 x.hour, .int .i64 x.sent, .int .i64 x.amount]] w fun e w' => e = .returned (.bool (nomOk bk x)) ∧ Gr w w' := by
  have hm3 := hL.small
  have hl3 := hL.sl.len GCon.cells_len (by omega)
  have HL := Lib.hid hL
  have Hl3 := Lib.hid hl3
  have Hok := Lib.hid hok
  clear hL hl3 hok
  have hwn : IntKind.i64.wrap ((n3 : Int) - 1) = (n3 : Int) - 1 := IntWalk.i64_in _ (by omega)
  go_enter Try.func99, Try.ntmps99
  go_wp2_with fail
  refine (within_any _ _ _ _).mono ?_
  rintro e w' ⟨rfl, rfl⟩
  cases v1 : inB 0 x.contract ((n3 : Int) - 1) with
  | false =>
    go_wp2_with fail
    go_ret
    exact ⟨ret_bool (by simp [nomOk, Hl3.out, v1]), (Gr.refl _).alloc _⟩
  | true =>
    obtain ⟨s0, s1⟩ := inB_iff.1 v1
    obtain ⟨hy, hyo⟩ := con_at Hok.out s0 (by rw [Hl3.out]; exact s1)
    obtain ⟨y, hye⟩ : ∃ y, y = conAt bk x.contract := ⟨_, rfl⟩
    rw [← hye] at hy hyo
    obtain ⟨_, _, _, _, a5, _, a7, a8, a9, _⟩ := conOk_all hyo
    obtain ⟨b, o, rfl, hb, e0, e1, e2, e3, e4, e5, e6, e7⟩ := (HL.out.sl.gr ((Gr.refl w).alloc (.cells #[.int .i64 x.contract, .int .i64 x.hour, .int .i64 x.sent, .int .i64 x.amount] 120))).con hy
    have Hye := Lib.hid hye
    have s2 : x.contract < (n3 : Int) := by omega
    clear hy hyo hye
    go_wp2_with fail
    refine (holdsIn_any (y := y) x.hour _).mono ?_
    rintro e w2 ⟨rfl, hg2⟩
    have z0 : w2.cell? ⟨w.heap.size, 0, none⟩ = some (.int .i64 x.contract) := hg2.has (by simp [go_sem])
    have z1 : w2.cell? ⟨w.heap.size, 1, none⟩ = some (.int .i64 x.hour) := hg2.has (by simp [go_sem])
    have z2 : w2.cell? ⟨w.heap.size, 2, none⟩ = some (.int .i64 x.sent) := hg2.has (by simp [go_sem])
    have z3 : w2.cell? ⟨w.heap.size, 3, none⟩ = some (.int .i64 x.amount) := hg2.has (by simp [go_sem])
    have u3 : w2.cell? ⟨w.heap.size + 1, 3, none⟩ = some (.int .i64 y.amount) := hg2.has (by simp [go_sem])
    have hgw : Gr w w2 := (((Gr.refl _).alloc _).alloc _).trans hg2
    clear hg2 e0 e1 e2 e3 e4 e5 e6 e7
    cases v2 : inB y.src x.hour y.dst with
    | false =>
      go_wp2_with fail
      go_ret
      exact ⟨ret_bool (by simp [nomOk, ← Hye.out, v2]), hgw⟩
    | true =>
      obtain ⟨r0, r1⟩ := inB_iff.1 v2
      have hwh : IntKind.i64.wrap (x.hour - 2) = x.hour - 2 := IntWalk.i64_in _ (by omega)
      go_wp2_with fail
      refine (within_any _ _ _ _).mono ?_
      rintro e w' ⟨rfl, rfl⟩
      cases v3 : inB (-48) x.sent (x.hour - 2) with
      | false =>
        go_wp2_with fail
        go_ret
        exact ⟨ret_bool (by simp [nomOk, v3]), hgw⟩
      | true =>
        go_wp2_with fail
        refine (within_any _ _ _ _).mono ?_
        rintro e w' ⟨rfl, rfl⟩
        go_wp2_with fail
        go_ret
        exact ⟨ret_bool (by simp [nomOk, ← Hye.out, Hl3.out, v1, v2, v3]), hgw⟩
set_option maxHeartbeats 3200000 in
set_option maxRecDepth 100000 in
theorem l21Is_any {A3 : Option Addr} {n3 c3 : Nat} (nn : Int) (bk : List GCon) (x : GNom) (w : World) (hL : SlAt w 8 A3 n3 c3 (bk.flatMap GCon.cells)) (hok : bookOk nn bk = true) :
    Calls Try.prog 118 #[.slice A3 n3 c3, .agg #[.int .i64 x.contract, .int .i64 x.hour, .int .i64 x.sent, .int .i64 x.amount]] w fun e w' => e = .returned (.bool (nomOk bk x)) ∧ Gr w w' := by
  have hm3 := hL.small
  have hl3 := hL.sl.len GCon.cells_len (by omega)
  have HL := Lib.hid hL
  have Hl3 := Lib.hid hl3
  have Hok := Lib.hid hok
  clear hL hl3 hok
  have hwn : IntKind.i64.wrap ((n3 : Int) - 1) = (n3 : Int) - 1 := IntWalk.i64_in _ (by omega)
  go_enter Try.func118, Try.ntmps118
  go_wp2_with fail
  obtain ⟨w1, hw1⟩ : ∃ W, W = w.alloc (.cells #[.int .i64 x.contract, .int .i64 x.hour, .int .i64 x.sent, .int .i64 x.amount] 120) := ⟨_, rfl⟩
  have hg1 : Gr w w1 := by rw [hw1]; exact (Gr.refl _).alloc _
  have z0 : w1.cell? ⟨w.heap.size, 0, none⟩ = some (.int .i64 x.contract) := by rw [hw1]; simp [go_sem]
  have z1 : w1.cell? ⟨w.heap.size, 1, none⟩ = some (.int .i64 x.hour) := by rw [hw1]; simp [go_sem]
  have z2 : w1.cell? ⟨w.heap.size, 2, none⟩ = some (.int .i64 x.sent) := by rw [hw1]; simp [go_sem]
  have z3 : w1.cell? ⟨w.heap.size, 3, none⟩ = some (.int .i64 x.amount) := by rw [hw1]; simp [go_sem]
  rw [← hw1]
  clear hw1
  cases v1 : inB 0 x.contract ((n3 : Int) - 1) with
  | false =>
    refine wp_region_text (fun w' => Gr w1 w') (by kernel_rfl) (by kernel_rfl) (by decide) (Gr.refl _).drew ?_
    repeat (first
      | ((with_reducible refine wpText_skip ?_ ?_)
         · rfl
         simp only [Act.put, List.setIfInBounds_toArray, List.set_cons_zero, List.set_cons_succ])
      | ((with_reducible refine wpText_yield (v := ?_) ?_ ?_ ?_)
         rotate_left
         · rfl
         · (intro W hW; have kz0 := hW.has z0; have kz1 := hW.has z1; have kz2 := hW.has z2; have kz3 := hW.has z3; first | (go_simp; done) | (go_simp; with_reducible rfl))
         simp only [Act.put, List.setIfInBounds_toArray, List.set_cons_zero, List.set_cons_succ])
      | ((with_reducible refine wpText_yield1 (v := ?_) ?_ ?_ ?_)
         rotate_left
         · rfl
         · (intro W hW; have kz0 := hW.has z0; have kz1 := hW.has z1; have kz2 := hW.has z2; have kz3 := hW.has z3; first | (go_simp; done) | (go_simp; with_reducible rfl))
         simp only [Act.put, List.setIfInBounds_toArray, List.set_cons_zero, List.set_cons_succ]))
    refine wpText_do (.bool false) (by rfl) (fun W hW K hK => ?_) ?_
    ·
      have kz0 := hW.has z0
      have kz1 := hW.has z1
      have kz2 := hW.has z2
      have kz3 := hW.has z3
      go_simp
      refine ((l01In_any x.contract 0 ((n3 : Int) - 1) _)).mono ?_
      rintro e w' ⟨rfl, rfl⟩
      rw [v1]
      exact hK _ hW
    simp only [Act.put, List.setIfInBounds_toArray, List.set_cons_zero, List.set_cons_succ]
    repeat (first
      | ((with_reducible refine wpText_skip ?_ ?_)
         · rfl
         simp only [Act.put, List.setIfInBounds_toArray, List.set_cons_zero, List.set_cons_succ])
      | ((with_reducible refine wpText_yield (v := ?_) ?_ ?_ ?_)
         rotate_left
         · rfl
         · (intro W hW; have kz0 := hW.has z0; have kz1 := hW.has z1; have kz2 := hW.has z2; have kz3 := hW.has z3; first | (go_simp; done) | (go_simp; with_reducible rfl))
         simp only [Act.put, List.setIfInBounds_toArray, List.set_cons_zero, List.set_cons_succ])
      | ((with_reducible refine wpText_yield1 (v := ?_) ?_ ?_ ?_)
         rotate_left
         · rfl
         · (intro W hW; have kz0 := hW.has z0; have kz1 := hW.has z1; have kz2 := hW.has z2; have kz3 := hW.has z3; first | (go_simp; done) | (go_simp; with_reducible rfl))
         simp only [Act.put, List.setIfInBounds_toArray, List.set_cons_zero, List.set_cons_succ]))
    rintro w6 hS6
    go_wp2_with fail
    go_ret
    exact ⟨ret_bool (by simp [nomOk, Hl3.out, v1]), hg1.trans hS6⟩
  | true =>
    obtain ⟨s0, s1⟩ := inB_iff.1 v1
    obtain ⟨hy, hyo⟩ := con_at Hok.out s0 (by rw [Hl3.out]; exact s1)
    obtain ⟨y, hye⟩ : ∃ y, y = conAt bk x.contract := ⟨_, rfl⟩
    rw [← hye] at hy hyo
    obtain ⟨_, _, _, _, a5, _, a7, a8, a9, _⟩ := conOk_all hyo
    obtain ⟨b, o, rfl, hb, e0, e1, e2, e3, e4, e5, e6, e7⟩ := (HL.out.sl.gr hg1).con hy
    have Hye := Lib.hid hye
    have s2 : x.contract < (n3 : Int) := by omega
    clear hy hyo hye
    cases v2 : inB y.src x.hour y.dst with
    | false =>
      cases vh : inB 0 x.hour 47 with
      | false =>
        refine wp_region_text (fun w' => Gr w1 w') (by kernel_rfl) (by kernel_rfl) (by decide) (Gr.refl _).drew ?_
        repeat (first
          | ((with_reducible refine wpText_skip ?_ ?_)
             · rfl
             simp only [Act.put, List.setIfInBounds_toArray, List.set_cons_zero, List.set_cons_succ])
          | ((with_reducible refine wpText_yield (v := ?_) ?_ ?_ ?_)
             rotate_left
             · rfl
             · (intro W hW; have kz0 := hW.has z0; have kz1 := hW.has z1; have kz2 := hW.has z2; have kz3 := hW.has z3; have ke0 := hW.has e0; have ke1 := hW.has e1; have ke2 := hW.has e2; have ke3 := hW.has e3; have ke4 := hW.has e4; have ke5 := hW.has e5; have ke6 := hW.has e6; have ke7 := hW.has e7; first | (go_simp; done) | (go_simp; with_reducible rfl))
             simp only [Act.put, List.setIfInBounds_toArray, List.set_cons_zero, List.set_cons_succ])
          | ((with_reducible refine wpText_yield1 (v := ?_) ?_ ?_ ?_)
             rotate_left
             · rfl
             · (intro W hW; have kz0 := hW.has z0; have kz1 := hW.has z1; have kz2 := hW.has z2; have kz3 := hW.has z3; have ke0 := hW.has e0; have ke1 := hW.has e1; have ke2 := hW.has e2; have ke3 := hW.has e3; have ke4 := hW.has e4; have ke5 := hW.has e5; have ke6 := hW.has e6; have ke7 := hW.has e7; first | (go_simp; done) | (go_simp; with_reducible rfl))
             simp only [Act.put, List.setIfInBounds_toArray, List.set_cons_zero, List.set_cons_succ]))
        refine wpText_do (.bool true) (by rfl) (fun W hW K hK => ?_) ?_
        ·
          have kz0 := hW.has z0
          have kz1 := hW.has z1
          have kz2 := hW.has z2
          have kz3 := hW.has z3
          have ke0 := hW.has e0
          have ke1 := hW.has e1
          have ke2 := hW.has e2
          have ke3 := hW.has e3
          have ke4 := hW.has e4
          have ke5 := hW.has e5
          have ke6 := hW.has e6
          have ke7 := hW.has e7
          go_simp
          refine ((l01In_any x.contract 0 ((n3 : Int) - 1) _)).mono ?_
          rintro e w' ⟨rfl, rfl⟩
          rw [v1]
          exact hK _ hW
        simp only [Act.put, List.setIfInBounds_toArray, List.set_cons_zero, List.set_cons_succ]
        repeat (first
          | ((with_reducible refine wpText_skip ?_ ?_)
             · rfl
             simp only [Act.put, List.setIfInBounds_toArray, List.set_cons_zero, List.set_cons_succ])
          | ((with_reducible refine wpText_yield (v := ?_) ?_ ?_ ?_)
             rotate_left
             · rfl
             · (intro W hW; have kz0 := hW.has z0; have kz1 := hW.has z1; have kz2 := hW.has z2; have kz3 := hW.has z3; have ke0 := hW.has e0; have ke1 := hW.has e1; have ke2 := hW.has e2; have ke3 := hW.has e3; have ke4 := hW.has e4; have ke5 := hW.has e5; have ke6 := hW.has e6; have ke7 := hW.has e7; first | (go_simp; done) | (go_simp; with_reducible rfl))
             simp only [Act.put, List.setIfInBounds_toArray, List.set_cons_zero, List.set_cons_succ])
          | ((with_reducible refine wpText_yield1 (v := ?_) ?_ ?_ ?_)
             rotate_left
             · rfl
             · (intro W hW; have kz0 := hW.has z0; have kz1 := hW.has z1; have kz2 := hW.has z2; have kz3 := hW.has z3; have ke0 := hW.has e0; have ke1 := hW.has e1; have ke2 := hW.has e2; have ke3 := hW.has e3; have ke4 := hW.has e4; have ke5 := hW.has e5; have ke6 := hW.has e6; have ke7 := hW.has e7; first | (go_simp; done) | (go_simp; with_reducible rfl))
             simp only [Act.put, List.setIfInBounds_toArray, List.set_cons_zero, List.set_cons_succ]))
        refine wpText_do (.bool false) (by rfl) (fun W hW K hK => ?_) ?_
        ·
          have kz0 := hW.has z0
          have kz1 := hW.has z1
          have kz2 := hW.has z2
          have kz3 := hW.has z3
          have ke0 := hW.has e0
          have ke1 := hW.has e1
          have ke2 := hW.has e2
          have ke3 := hW.has e3
          have ke4 := hW.has e4
          have ke5 := hW.has e5
          have ke6 := hW.has e6
          have ke7 := hW.has e7
          go_simp
          refine ((l20Hour_any x.hour _)).mono ?_
          rintro e w' ⟨rfl, rfl⟩
          rw [vh]
          exact hK _ hW
        simp only [Act.put, List.setIfInBounds_toArray, List.set_cons_zero, List.set_cons_succ]
        repeat (first
          | ((with_reducible refine wpText_skip ?_ ?_)
             · rfl
             simp only [Act.put, List.setIfInBounds_toArray, List.set_cons_zero, List.set_cons_succ])
          | ((with_reducible refine wpText_yield (v := ?_) ?_ ?_ ?_)
             rotate_left
             · rfl
             · (intro W hW; have kz0 := hW.has z0; have kz1 := hW.has z1; have kz2 := hW.has z2; have kz3 := hW.has z3; have ke0 := hW.has e0; have ke1 := hW.has e1; have ke2 := hW.has e2; have ke3 := hW.has e3; have ke4 := hW.has e4; have ke5 := hW.has e5; have ke6 := hW.has e6; have ke7 := hW.has e7; first | (go_simp; done) | (go_simp; with_reducible rfl))
             simp only [Act.put, List.setIfInBounds_toArray, List.set_cons_zero, List.set_cons_succ])
          | ((with_reducible refine wpText_yield1 (v := ?_) ?_ ?_ ?_)
             rotate_left
             · rfl
             · (intro W hW; have kz0 := hW.has z0; have kz1 := hW.has z1; have kz2 := hW.has z2; have kz3 := hW.has z3; have ke0 := hW.has e0; have ke1 := hW.has e1; have ke2 := hW.has e2; have ke3 := hW.has e3; have ke4 := hW.has e4; have ke5 := hW.has e5; have ke6 := hW.has e6; have ke7 := hW.has e7; first | (go_simp; done) | (go_simp; with_reducible rfl))
             simp only [Act.put, List.setIfInBounds_toArray, List.set_cons_zero, List.set_cons_succ]))
        rintro w6 hS6
        go_wp2_with fail
        go_ret
        exact ⟨ret_bool (by simp [nomOk, ← Hye.out, v2]), hg1.trans hS6⟩
      | true =>
        refine wp_region_text (fun w' => Gr w1 w') (by kernel_rfl) (by kernel_rfl) (by decide) (Gr.refl _).drew ?_
        repeat (first
          | ((with_reducible refine wpText_skip ?_ ?_)
             · rfl
             simp only [Act.put, List.setIfInBounds_toArray, List.set_cons_zero, List.set_cons_succ])
          | ((with_reducible refine wpText_yield (v := ?_) ?_ ?_ ?_)
             rotate_left
             · rfl
             · (intro W hW; have kz0 := hW.has z0; have kz1 := hW.has z1; have kz2 := hW.has z2; have kz3 := hW.has z3; have ke0 := hW.has e0; have ke1 := hW.has e1; have ke2 := hW.has e2; have ke3 := hW.has e3; have ke4 := hW.has e4; have ke5 := hW.has e5; have ke6 := hW.has e6; have ke7 := hW.has e7; first | (go_simp; done) | (go_simp; with_reducible rfl))
             simp only [Act.put, List.setIfInBounds_toArray, List.set_cons_zero, List.set_cons_succ])
          | ((with_reducible refine wpText_yield1 (v := ?_) ?_ ?_ ?_)
             rotate_left
             · rfl
             · (intro W hW; have kz0 := hW.has z0; have kz1 := hW.has z1; have kz2 := hW.has z2; have kz3 := hW.has z3; have ke0 := hW.has e0; have ke1 := hW.has e1; have ke2 := hW.has e2; have ke3 := hW.has e3; have ke4 := hW.has e4; have ke5 := hW.has e5; have ke6 := hW.has e6; have ke7 := hW.has e7; first | (go_simp; done) | (go_simp; with_reducible rfl))
             simp only [Act.put, List.setIfInBounds_toArray, List.set_cons_zero, List.set_cons_succ]))
        refine wpText_do (.bool true) (by rfl) (fun W hW K hK => ?_) ?_
        ·
          have kz0 := hW.has z0
          have kz1 := hW.has z1
          have kz2 := hW.has z2
          have kz3 := hW.has z3
          have ke0 := hW.has e0
          have ke1 := hW.has e1
          have ke2 := hW.has e2
          have ke3 := hW.has e3
          have ke4 := hW.has e4
          have ke5 := hW.has e5
          have ke6 := hW.has e6
          have ke7 := hW.has e7
          go_simp
          refine ((l01In_any x.contract 0 ((n3 : Int) - 1) _)).mono ?_
          rintro e w' ⟨rfl, rfl⟩
          rw [v1]
          exact hK _ hW
        simp only [Act.put, List.setIfInBounds_toArray, List.set_cons_zero, List.set_cons_succ]
        repeat (first
          | ((with_reducible refine wpText_skip ?_ ?_)
             · rfl
             simp only [Act.put, List.setIfInBounds_toArray, List.set_cons_zero, List.set_cons_succ])
          | ((with_reducible refine wpText_yield (v := ?_) ?_ ?_ ?_)
             rotate_left
             · rfl
             · (intro W hW; have kz0 := hW.has z0; have kz1 := hW.has z1; have kz2 := hW.has z2; have kz3 := hW.has z3; have ke0 := hW.has e0; have ke1 := hW.has e1; have ke2 := hW.has e2; have ke3 := hW.has e3; have ke4 := hW.has e4; have ke5 := hW.has e5; have ke6 := hW.has e6; have ke7 := hW.has e7; first | (go_simp; done) | (go_simp; with_reducible rfl))
             simp only [Act.put, List.setIfInBounds_toArray, List.set_cons_zero, List.set_cons_succ])
          | ((with_reducible refine wpText_yield1 (v := ?_) ?_ ?_ ?_)
             rotate_left
             · rfl
             · (intro W hW; have kz0 := hW.has z0; have kz1 := hW.has z1; have kz2 := hW.has z2; have kz3 := hW.has z3; have ke0 := hW.has e0; have ke1 := hW.has e1; have ke2 := hW.has e2; have ke3 := hW.has e3; have ke4 := hW.has e4; have ke5 := hW.has e5; have ke6 := hW.has e6; have ke7 := hW.has e7; first | (go_simp; done) | (go_simp; with_reducible rfl))
             simp only [Act.put, List.setIfInBounds_toArray, List.set_cons_zero, List.set_cons_succ]))
        refine wpText_do (.bool true) (by rfl) (fun W hW K hK => ?_) ?_
        ·
          have kz0 := hW.has z0
          have kz1 := hW.has z1
          have kz2 := hW.has z2
          have kz3 := hW.has z3
          have ke0 := hW.has e0
          have ke1 := hW.has e1
          have ke2 := hW.has e2
          have ke3 := hW.has e3
          have ke4 := hW.has e4
          have ke5 := hW.has e5
          have ke6 := hW.has e6
          have ke7 := hW.has e7
          go_simp
          refine ((l20Hour_any x.hour _)).mono ?_
          rintro e w' ⟨rfl, rfl⟩
          rw [vh]
          exact hK _ hW
        simp only [Act.put, List.setIfInBounds_toArray, List.set_cons_zero, List.set_cons_succ]
        repeat (first
          | ((with_reducible refine wpText_skip ?_ ?_)
             · rfl
             simp only [Act.put, List.setIfInBounds_toArray, List.set_cons_zero, List.set_cons_succ])
          | ((with_reducible refine wpText_yield (v := ?_) ?_ ?_ ?_)
             rotate_left
             · rfl
             · (intro W hW; have kz0 := hW.has z0; have kz1 := hW.has z1; have kz2 := hW.has z2; have kz3 := hW.has z3; have ke0 := hW.has e0; have ke1 := hW.has e1; have ke2 := hW.has e2; have ke3 := hW.has e3; have ke4 := hW.has e4; have ke5 := hW.has e5; have ke6 := hW.has e6; have ke7 := hW.has e7; first | (go_simp; done) | (go_simp; with_reducible rfl))
             simp only [Act.put, List.setIfInBounds_toArray, List.set_cons_zero, List.set_cons_succ])
          | ((with_reducible refine wpText_yield1 (v := ?_) ?_ ?_ ?_)
             rotate_left
             · rfl
             · (intro W hW; have kz0 := hW.has z0; have kz1 := hW.has z1; have kz2 := hW.has z2; have kz3 := hW.has z3; have ke0 := hW.has e0; have ke1 := hW.has e1; have ke2 := hW.has e2; have ke3 := hW.has e3; have ke4 := hW.has e4; have ke5 := hW.has e5; have ke6 := hW.has e6; have ke7 := hW.has e7; first | (go_simp; done) | (go_simp; with_reducible rfl))
             simp only [Act.put, List.setIfInBounds_toArray, List.set_cons_zero, List.set_cons_succ]))
        refine wpText_do (.bool false) (by rfl) (fun W hW K hK => ?_) ?_
        ·
          have kz0 := hW.has z0
          have kz1 := hW.has z1
          have kz2 := hW.has z2
          have kz3 := hW.has z3
          have ke0 := hW.has e0
          have ke1 := hW.has e1
          have ke2 := hW.has e2
          have ke3 := hW.has e3
          have ke4 := hW.has e4
          have ke5 := hW.has e5
          have ke6 := hW.has e6
          have ke7 := hW.has e7
          go_simp
          refine ((l20Holds_any (y := y) x.hour _)).mono ?_
          rintro e w' ⟨rfl, hg⟩
          rw [v2]
          exact hK _ (hW.trans hg)
        simp only [Act.put, List.setIfInBounds_toArray, List.set_cons_zero, List.set_cons_succ]
        repeat (first
          | ((with_reducible refine wpText_skip ?_ ?_)
             · rfl
             simp only [Act.put, List.setIfInBounds_toArray, List.set_cons_zero, List.set_cons_succ])
          | ((with_reducible refine wpText_yield (v := ?_) ?_ ?_ ?_)
             rotate_left
             · rfl
             · (intro W hW; have kz0 := hW.has z0; have kz1 := hW.has z1; have kz2 := hW.has z2; have kz3 := hW.has z3; have ke0 := hW.has e0; have ke1 := hW.has e1; have ke2 := hW.has e2; have ke3 := hW.has e3; have ke4 := hW.has e4; have ke5 := hW.has e5; have ke6 := hW.has e6; have ke7 := hW.has e7; first | (go_simp; done) | (go_simp; with_reducible rfl))
             simp only [Act.put, List.setIfInBounds_toArray, List.set_cons_zero, List.set_cons_succ])
          | ((with_reducible refine wpText_yield1 (v := ?_) ?_ ?_ ?_)
             rotate_left
             · rfl
             · (intro W hW; have kz0 := hW.has z0; have kz1 := hW.has z1; have kz2 := hW.has z2; have kz3 := hW.has z3; have ke0 := hW.has e0; have ke1 := hW.has e1; have ke2 := hW.has e2; have ke3 := hW.has e3; have ke4 := hW.has e4; have ke5 := hW.has e5; have ke6 := hW.has e6; have ke7 := hW.has e7; first | (go_simp; done) | (go_simp; with_reducible rfl))
             simp only [Act.put, List.setIfInBounds_toArray, List.set_cons_zero, List.set_cons_succ]))
        rintro w6 hS6
        go_wp2_with fail
        go_ret
        exact ⟨ret_bool (by simp [nomOk, ← Hye.out, v2]), hg1.trans hS6⟩
    | true =>
      obtain ⟨r0, r1⟩ := inB_iff.1 v2
      have hwh : IntKind.i64.wrap (x.hour - 2) = x.hour - 2 := IntWalk.i64_in _ (by omega)
      have vh : inB 0 x.hour 47 = true := by simp [inB]; omega
      refine wp_region_text (fun w' => Gr w1 w') (by kernel_rfl) (by kernel_rfl) (by decide) (Gr.refl _).drew ?_
      repeat (first
        | ((with_reducible refine wpText_skip ?_ ?_)
           · rfl
           simp only [Act.put, List.setIfInBounds_toArray, List.set_cons_zero, List.set_cons_succ])
        | ((with_reducible refine wpText_yield (v := ?_) ?_ ?_ ?_)
           rotate_left
           · rfl
           · (intro W hW; have kz0 := hW.has z0; have kz1 := hW.has z1; have kz2 := hW.has z2; have kz3 := hW.has z3; have ke0 := hW.has e0; have ke1 := hW.has e1; have ke2 := hW.has e2; have ke3 := hW.has e3; have ke4 := hW.has e4; have ke5 := hW.has e5; have ke6 := hW.has e6; have ke7 := hW.has e7; first | (go_simp; done) | (go_simp; with_reducible rfl))
           simp only [Act.put, List.setIfInBounds_toArray, List.set_cons_zero, List.set_cons_succ])
        | ((with_reducible refine wpText_yield1 (v := ?_) ?_ ?_ ?_)
           rotate_left
           · rfl
           · (intro W hW; have kz0 := hW.has z0; have kz1 := hW.has z1; have kz2 := hW.has z2; have kz3 := hW.has z3; have ke0 := hW.has e0; have ke1 := hW.has e1; have ke2 := hW.has e2; have ke3 := hW.has e3; have ke4 := hW.has e4; have ke5 := hW.has e5; have ke6 := hW.has e6; have ke7 := hW.has e7; first | (go_simp; done) | (go_simp; with_reducible rfl))
           simp only [Act.put, List.setIfInBounds_toArray, List.set_cons_zero, List.set_cons_succ]))
      refine wpText_do (.bool true) (by rfl) (fun W hW K hK => ?_) ?_
      ·
        have kz0 := hW.has z0
        have kz1 := hW.has z1
        have kz2 := hW.has z2
        have kz3 := hW.has z3
        have ke0 := hW.has e0
        have ke1 := hW.has e1
        have ke2 := hW.has e2
        have ke3 := hW.has e3
        have ke4 := hW.has e4
        have ke5 := hW.has e5
        have ke6 := hW.has e6
        have ke7 := hW.has e7
        go_simp
        refine ((l01In_any x.contract 0 ((n3 : Int) - 1) _)).mono ?_
        rintro e w' ⟨rfl, rfl⟩
        rw [v1]
        exact hK _ hW
      simp only [Act.put, List.setIfInBounds_toArray, List.set_cons_zero, List.set_cons_succ]
      repeat (first
        | ((with_reducible refine wpText_skip ?_ ?_)
           · rfl
           simp only [Act.put, List.setIfInBounds_toArray, List.set_cons_zero, List.set_cons_succ])
        | ((with_reducible refine wpText_yield (v := ?_) ?_ ?_ ?_)
           rotate_left
           · rfl
           · (intro W hW; have kz0 := hW.has z0; have kz1 := hW.has z1; have kz2 := hW.has z2; have kz3 := hW.has z3; have ke0 := hW.has e0; have ke1 := hW.has e1; have ke2 := hW.has e2; have ke3 := hW.has e3; have ke4 := hW.has e4; have ke5 := hW.has e5; have ke6 := hW.has e6; have ke7 := hW.has e7; first | (go_simp; done) | (go_simp; with_reducible rfl))
           simp only [Act.put, List.setIfInBounds_toArray, List.set_cons_zero, List.set_cons_succ])
        | ((with_reducible refine wpText_yield1 (v := ?_) ?_ ?_ ?_)
           rotate_left
           · rfl
           · (intro W hW; have kz0 := hW.has z0; have kz1 := hW.has z1; have kz2 := hW.has z2; have kz3 := hW.has z3; have ke0 := hW.has e0; have ke1 := hW.has e1; have ke2 := hW.has e2; have ke3 := hW.has e3; have ke4 := hW.has e4; have ke5 := hW.has e5; have ke6 := hW.has e6; have ke7 := hW.has e7; first | (go_simp; done) | (go_simp; with_reducible rfl))
           simp only [Act.put, List.setIfInBounds_toArray, List.set_cons_zero, List.set_cons_succ]))
      refine wpText_do (.bool true) (by rfl) (fun W hW K hK => ?_) ?_
      ·
        have kz0 := hW.has z0
        have kz1 := hW.has z1
        have kz2 := hW.has z2
        have kz3 := hW.has z3
        have ke0 := hW.has e0
        have ke1 := hW.has e1
        have ke2 := hW.has e2
        have ke3 := hW.has e3
        have ke4 := hW.has e4
        have ke5 := hW.has e5
        have ke6 := hW.has e6
        have ke7 := hW.has e7
        go_simp
        refine ((l20Hour_any x.hour _)).mono ?_
        rintro e w' ⟨rfl, rfl⟩
        rw [vh]
        exact hK _ hW
      simp only [Act.put, List.setIfInBounds_toArray, List.set_cons_zero, List.set_cons_succ]
      repeat (first
        | ((with_reducible refine wpText_skip ?_ ?_)
           · rfl
           simp only [Act.put, List.setIfInBounds_toArray, List.set_cons_zero, List.set_cons_succ])
        | ((with_reducible refine wpText_yield (v := ?_) ?_ ?_ ?_)
           rotate_left
           · rfl
           · (intro W hW; have kz0 := hW.has z0; have kz1 := hW.has z1; have kz2 := hW.has z2; have kz3 := hW.has z3; have ke0 := hW.has e0; have ke1 := hW.has e1; have ke2 := hW.has e2; have ke3 := hW.has e3; have ke4 := hW.has e4; have ke5 := hW.has e5; have ke6 := hW.has e6; have ke7 := hW.has e7; first | (go_simp; done) | (go_simp; with_reducible rfl))
           simp only [Act.put, List.setIfInBounds_toArray, List.set_cons_zero, List.set_cons_succ])
        | ((with_reducible refine wpText_yield1 (v := ?_) ?_ ?_ ?_)
           rotate_left
           · rfl
           · (intro W hW; have kz0 := hW.has z0; have kz1 := hW.has z1; have kz2 := hW.has z2; have kz3 := hW.has z3; have ke0 := hW.has e0; have ke1 := hW.has e1; have ke2 := hW.has e2; have ke3 := hW.has e3; have ke4 := hW.has e4; have ke5 := hW.has e5; have ke6 := hW.has e6; have ke7 := hW.has e7; first | (go_simp; done) | (go_simp; with_reducible rfl))
           simp only [Act.put, List.setIfInBounds_toArray, List.set_cons_zero, List.set_cons_succ]))
      refine wpText_do (.bool true) (by rfl) (fun W hW K hK => ?_) ?_
      ·
        have kz0 := hW.has z0
        have kz1 := hW.has z1
        have kz2 := hW.has z2
        have kz3 := hW.has z3
        have ke0 := hW.has e0
        have ke1 := hW.has e1
        have ke2 := hW.has e2
        have ke3 := hW.has e3
        have ke4 := hW.has e4
        have ke5 := hW.has e5
        have ke6 := hW.has e6
        have ke7 := hW.has e7
        go_simp
        refine ((l20Holds_any (y := y) x.hour _)).mono ?_
        rintro e w' ⟨rfl, hg⟩
        rw [v2]
        exact hK _ (hW.trans hg)
      simp only [Act.put, List.setIfInBounds_toArray, List.set_cons_zero, List.set_cons_succ]
      repeat (first
        | ((with_reducible refine wpText_skip ?_ ?_)
           · rfl
           simp only [Act.put, List.setIfInBounds_toArray, List.set_cons_zero, List.set_cons_succ])
        | ((with_reducible refine wpText_yield (v := ?_) ?_ ?_ ?_)
           rotate_left
           · rfl
           · (intro W hW; have kz0 := hW.has z0; have kz1 := hW.has z1; have kz2 := hW.has z2; have kz3 := hW.has z3; have ke0 := hW.has e0; have ke1 := hW.has e1; have ke2 := hW.has e2; have ke3 := hW.has e3; have ke4 := hW.has e4; have ke5 := hW.has e5; have ke6 := hW.has e6; have ke7 := hW.has e7; first | (go_simp; done) | (go_simp; with_reducible rfl))
           simp only [Act.put, List.setIfInBounds_toArray, List.set_cons_zero, List.set_cons_succ])
        | ((with_reducible refine wpText_yield1 (v := ?_) ?_ ?_ ?_)
           rotate_left
           · rfl
           · (intro W hW; have kz0 := hW.has z0; have kz1 := hW.has z1; have kz2 := hW.has z2; have kz3 := hW.has z3; have ke0 := hW.has e0; have ke1 := hW.has e1; have ke2 := hW.has e2; have ke3 := hW.has e3; have ke4 := hW.has e4; have ke5 := hW.has e5; have ke6 := hW.has e6; have ke7 := hW.has e7; first | (go_simp; done) | (go_simp; with_reducible rfl))
           simp only [Act.put, List.setIfInBounds_toArray, List.set_cons_zero, List.set_cons_succ]))
      rintro w6 hS6
      replace z0 := hS6.has z0
      replace z1 := hS6.has z1
      replace z2 := hS6.has z2
      replace z3 := hS6.has z3
      replace e0 := hS6.has e0
      replace e1 := hS6.has e1
      replace e2 := hS6.has e2
      replace e3 := hS6.has e3
      replace e4 := hS6.has e4
      replace e5 := hS6.has e5
      replace e6 := hS6.has e6
      replace e7 := hS6.has e7
      go_wp2_with fail
      cases v3 : inB (-48) x.sent (x.hour - 2) with
      | false =>
        refine wp_region_text (fun w' => Gr w6 w') (by kernel_rfl) (by kernel_rfl) (by decide) (Gr.refl _).drew ?_
        repeat (first
          | ((with_reducible refine wpText_skip ?_ ?_)
             · rfl
             simp only [Act.put, List.setIfInBounds_toArray, List.set_cons_zero, List.set_cons_succ])
          | ((with_reducible refine wpText_yield (v := ?_) ?_ ?_ ?_)
             rotate_left
             · rfl
             · (intro W hW; have kz0 := hW.has z0; have kz1 := hW.has z1; have kz2 := hW.has z2; have kz3 := hW.has z3; have ke0 := hW.has e0; have ke1 := hW.has e1; have ke2 := hW.has e2; have ke3 := hW.has e3; have ke4 := hW.has e4; have ke5 := hW.has e5; have ke6 := hW.has e6; have ke7 := hW.has e7; first | (go_simp; done) | (go_simp; with_reducible rfl))
             simp only [Act.put, List.setIfInBounds_toArray, List.set_cons_zero, List.set_cons_succ])
          | ((with_reducible refine wpText_yield1 (v := ?_) ?_ ?_ ?_)
             rotate_left
             · rfl
             · (intro W hW; have kz0 := hW.has z0; have kz1 := hW.has z1; have kz2 := hW.has z2; have kz3 := hW.has z3; have ke0 := hW.has e0; have ke1 := hW.has e1; have ke2 := hW.has e2; have ke3 := hW.has e3; have ke4 := hW.has e4; have ke5 := hW.has e5; have ke6 := hW.has e6; have ke7 := hW.has e7; first | (go_simp; done) | (go_simp; with_reducible rfl))
             simp only [Act.put, List.setIfInBounds_toArray, List.set_cons_zero, List.set_cons_succ]))
        refine wpText_do (.bool false) (by rfl) (fun W hW K hK => ?_) ?_
        ·
          have kz0 := hW.has z0
          have kz1 := hW.has z1
          have kz2 := hW.has z2
          have kz3 := hW.has z3
          have ke0 := hW.has e0
          have ke1 := hW.has e1
          have ke2 := hW.has e2
          have ke3 := hW.has e3
          have ke4 := hW.has e4
          have ke5 := hW.has e5
          have ke6 := hW.has e6
          have ke7 := hW.has e7
          go_simp
          refine ((l01In_any x.sent (-48) (x.hour - 2) _)).mono ?_
          rintro e w' ⟨rfl, rfl⟩
          rw [v3]
          exact hK _ hW
        simp only [Act.put, List.setIfInBounds_toArray, List.set_cons_zero, List.set_cons_succ]
        repeat (first
          | ((with_reducible refine wpText_skip ?_ ?_)
             · rfl
             simp only [Act.put, List.setIfInBounds_toArray, List.set_cons_zero, List.set_cons_succ])
          | ((with_reducible refine wpText_yield (v := ?_) ?_ ?_ ?_)
             rotate_left
             · rfl
             · (intro W hW; have kz0 := hW.has z0; have kz1 := hW.has z1; have kz2 := hW.has z2; have kz3 := hW.has z3; have ke0 := hW.has e0; have ke1 := hW.has e1; have ke2 := hW.has e2; have ke3 := hW.has e3; have ke4 := hW.has e4; have ke5 := hW.has e5; have ke6 := hW.has e6; have ke7 := hW.has e7; first | (go_simp; done) | (go_simp; with_reducible rfl))
             simp only [Act.put, List.setIfInBounds_toArray, List.set_cons_zero, List.set_cons_succ])
          | ((with_reducible refine wpText_yield1 (v := ?_) ?_ ?_ ?_)
             rotate_left
             · rfl
             · (intro W hW; have kz0 := hW.has z0; have kz1 := hW.has z1; have kz2 := hW.has z2; have kz3 := hW.has z3; have ke0 := hW.has e0; have ke1 := hW.has e1; have ke2 := hW.has e2; have ke3 := hW.has e3; have ke4 := hW.has e4; have ke5 := hW.has e5; have ke6 := hW.has e6; have ke7 := hW.has e7; first | (go_simp; done) | (go_simp; with_reducible rfl))
             simp only [Act.put, List.setIfInBounds_toArray, List.set_cons_zero, List.set_cons_succ]))
        rintro w7 hS7
        go_wp2_with fail
        go_ret
        exact ⟨ret_bool (by simp [nomOk, v3]), (hg1.trans hS6).trans hS7⟩
      | true =>
        refine wp_region_text (fun w' => Gr w6 w') (by kernel_rfl) (by kernel_rfl) (by decide) (Gr.refl _).drew ?_
        repeat (first
          | ((with_reducible refine wpText_skip ?_ ?_)
             · rfl
             simp only [Act.put, List.setIfInBounds_toArray, List.set_cons_zero, List.set_cons_succ])
          | ((with_reducible refine wpText_yield (v := ?_) ?_ ?_ ?_)
             rotate_left
             · rfl
             · (intro W hW; have kz0 := hW.has z0; have kz1 := hW.has z1; have kz2 := hW.has z2; have kz3 := hW.has z3; have ke0 := hW.has e0; have ke1 := hW.has e1; have ke2 := hW.has e2; have ke3 := hW.has e3; have ke4 := hW.has e4; have ke5 := hW.has e5; have ke6 := hW.has e6; have ke7 := hW.has e7; first | (go_simp; done) | (go_simp; with_reducible rfl))
             simp only [Act.put, List.setIfInBounds_toArray, List.set_cons_zero, List.set_cons_succ])
          | ((with_reducible refine wpText_yield1 (v := ?_) ?_ ?_ ?_)
             rotate_left
             · rfl
             · (intro W hW; have kz0 := hW.has z0; have kz1 := hW.has z1; have kz2 := hW.has z2; have kz3 := hW.has z3; have ke0 := hW.has e0; have ke1 := hW.has e1; have ke2 := hW.has e2; have ke3 := hW.has e3; have ke4 := hW.has e4; have ke5 := hW.has e5; have ke6 := hW.has e6; have ke7 := hW.has e7; first | (go_simp; done) | (go_simp; with_reducible rfl))
             simp only [Act.put, List.setIfInBounds_toArray, List.set_cons_zero, List.set_cons_succ]))
        refine wpText_do (.bool true) (by rfl) (fun W hW K hK => ?_) ?_
        ·
          have kz0 := hW.has z0
          have kz1 := hW.has z1
          have kz2 := hW.has z2
          have kz3 := hW.has z3
          have ke0 := hW.has e0
          have ke1 := hW.has e1
          have ke2 := hW.has e2
          have ke3 := hW.has e3
          have ke4 := hW.has e4
          have ke5 := hW.has e5
          have ke6 := hW.has e6
          have ke7 := hW.has e7
          go_simp
          refine ((l01In_any x.sent (-48) (x.hour - 2) _)).mono ?_
          rintro e w' ⟨rfl, rfl⟩
          rw [v3]
          exact hK _ hW
        simp only [Act.put, List.setIfInBounds_toArray, List.set_cons_zero, List.set_cons_succ]
        repeat (first
          | ((with_reducible refine wpText_skip ?_ ?_)
             · rfl
             simp only [Act.put, List.setIfInBounds_toArray, List.set_cons_zero, List.set_cons_succ])
          | ((with_reducible refine wpText_yield (v := ?_) ?_ ?_ ?_)
             rotate_left
             · rfl
             · (intro W hW; have kz0 := hW.has z0; have kz1 := hW.has z1; have kz2 := hW.has z2; have kz3 := hW.has z3; have ke0 := hW.has e0; have ke1 := hW.has e1; have ke2 := hW.has e2; have ke3 := hW.has e3; have ke4 := hW.has e4; have ke5 := hW.has e5; have ke6 := hW.has e6; have ke7 := hW.has e7; first | (go_simp; done) | (go_simp; with_reducible rfl))
             simp only [Act.put, List.setIfInBounds_toArray, List.set_cons_zero, List.set_cons_succ])
          | ((with_reducible refine wpText_yield1 (v := ?_) ?_ ?_ ?_)
             rotate_left
             · rfl
             · (intro W hW; have kz0 := hW.has z0; have kz1 := hW.has z1; have kz2 := hW.has z2; have kz3 := hW.has z3; have ke0 := hW.has e0; have ke1 := hW.has e1; have ke2 := hW.has e2; have ke3 := hW.has e3; have ke4 := hW.has e4; have ke5 := hW.has e5; have ke6 := hW.has e6; have ke7 := hW.has e7; first | (go_simp; done) | (go_simp; with_reducible rfl))
             simp only [Act.put, List.setIfInBounds_toArray, List.set_cons_zero, List.set_cons_succ]))
        refine wpText_do (.bool (inB 0 x.amount y.amount)) (by rfl) (fun W hW K hK => ?_) ?_
        ·
          have kz0 := hW.has z0
          have kz1 := hW.has z1
          have kz2 := hW.has z2
          have kz3 := hW.has z3
          have ke0 := hW.has e0
          have ke1 := hW.has e1
          have ke2 := hW.has e2
          have ke3 := hW.has e3
          have ke4 := hW.has e4
          have ke5 := hW.has e5
          have ke6 := hW.has e6
          have ke7 := hW.has e7
          go_simp
          refine ((l01In_any x.amount 0 y.amount _)).mono ?_
          rintro e w' ⟨rfl, rfl⟩
          exact hK _ hW
        simp only [Act.put, List.setIfInBounds_toArray, List.set_cons_zero, List.set_cons_succ]
        repeat (first
          | ((with_reducible refine wpText_skip ?_ ?_)
             · rfl
             simp only [Act.put, List.setIfInBounds_toArray, List.set_cons_zero, List.set_cons_succ])
          | ((with_reducible refine wpText_yield (v := ?_) ?_ ?_ ?_)
             rotate_left
             · rfl
             · (intro W hW; have kz0 := hW.has z0; have kz1 := hW.has z1; have kz2 := hW.has z2; have kz3 := hW.has z3; have ke0 := hW.has e0; have ke1 := hW.has e1; have ke2 := hW.has e2; have ke3 := hW.has e3; have ke4 := hW.has e4; have ke5 := hW.has e5; have ke6 := hW.has e6; have ke7 := hW.has e7; first | (go_simp; done) | (go_simp; with_reducible rfl))
             simp only [Act.put, List.setIfInBounds_toArray, List.set_cons_zero, List.set_cons_succ])
          | ((with_reducible refine wpText_yield1 (v := ?_) ?_ ?_ ?_)
             rotate_left
             · rfl
             · (intro W hW; have kz0 := hW.has z0; have kz1 := hW.has z1; have kz2 := hW.has z2; have kz3 := hW.has z3; have ke0 := hW.has e0; have ke1 := hW.has e1; have ke2 := hW.has e2; have ke3 := hW.has e3; have ke4 := hW.has e4; have ke5 := hW.has e5; have ke6 := hW.has e6; have ke7 := hW.has e7; first | (go_simp; done) | (go_simp; with_reducible rfl))
             simp only [Act.put, List.setIfInBounds_toArray, List.set_cons_zero, List.set_cons_succ]))
        rintro w7 hS7
        go_wp2_with fail
        go_ret
        exact ⟨ret_bool (by simp [nomOk, ← Hye.out, Hl3.out, v1, v2, v3]), (hg1.trans hS6).trans hS7⟩
end Go.Proofs.Ytelhmfgfjlpkaaa
