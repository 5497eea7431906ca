import Derived.Test.YthhmhigddmimjaaGreatPtM
import Derived.Test.YthhmhigddmimjaaGreatOutA
import Derived.Test.YthhmhigddmimjaaGreatText
import Derived.Deep.RegionHeld3
import Derived.Test.YthhmhigddmimjaaGreatFlow17
import Derived.Test.YthhmhigddmimjaaGreatRouteA
import Derived.Test.YthhmhigddmimjaaGreatDrawA
import Derived.Test.YthhmhigddmimjaaGreatBlock
import Derived.Test.YthhmhigddmimjaaGreatSrt
import Derived.Test.YthhmhigddmimjaaGreatShl
import Derived.Shelf.SortG.SortNone
import Derived.Shelf.SlicesG.SearchI
/-
  Numbers of both sides: drops and energy of a pipe. Printed by gen_pt1.py.
-/
set_option linter.unusedSimpArgs false
set_option linter.unusedVariables false
namespace Go.Proofs.YthhmhigddmimjaaGreat
open Go.ChangeShapes Go.WideShapes Go.ChangeAt Go.RowKit

theorem sg_ab (a : Int) : sgO a * a = ab a := by unfold sgO ab; split <;> omega
theorem absI_any (a : Int) (w : World) (h : -1000000000000000 ≤ a ∧ a ≤ 1000000000000000) : Calls Tryz.prog 77 #[.int .i64 a] w fun e w' => e = .returned (.int .i64 (ab a)) ∧ w = w' := by
  have := absO_any a w h
  rw [sg_ab] at this
  exact this
theorem l01Abs_any (a : Int) (w : World) (h : -1000000000000000 ≤ a ∧ a ≤ 1000000000000000) : Calls Tryz.prog 110 #[.int .i64 a] w fun e w' => e = .returned (.int .i64 (ab a)) ∧ w = w' := by
  by_cases h0 : a < 0
  · have e : -a = ab a := by rw [ab, if_pos h0]
    have E := Lib.hid e
    clear e
    have hm : max a (-a) = -a := by omega
    go_enter Tryz.func110, Tryz.ntmps110
    go_wp2_with fail
    all_goals
      first
      | (exfalso; omega)
      | (go_ret; exact ⟨ret_int (by have := E.out; omega), rfl⟩)
  · have e : a = ab a := by rw [ab, if_neg h0]
    have E := Lib.hid e
    clear e
    have hm : max a (-a) = a := by omega
    go_enter Tryz.func110, Tryz.ntmps110
    go_wp2_with fail
    all_goals
      first
      | (exfalso; omega)
      | (go_ret; exact ⟨ret_int (by have := E.out; omega), rfl⟩)
theorem l01Signed_any (q : Int) (w : World) (h : -30000 ≤ q ∧ q ≤ 30000) : Calls Tryz.prog 154 #[.int .i64 q] w fun e w' => e = .returned (.int .i64 (q * ab q)) ∧ w = w' := by
  have hb := (drp_bnd (k := 1) (by omega) h).1
  have hw : IntKind.i64.wrap (q * ab q) = q * ab q := IntWalk.i64_in _ (by omega)
  go_enter Tryz.func154, Tryz.ntmps154
  go_wp2_with (go_at_call 110; refine (l01Abs_any _ _ (by omega)).mono ?_; rintro e w' ⟨rfl, rfl⟩)
  go_ret
  exact ⟨ret_int (by first | exact hw | rfl), rfl⟩
set_option maxHeartbeats 6400000 in
set_option maxRecDepth 100000 in
theorem dropOf_any (p : GPipe) (q : Int) (w : World) (hk : 1 ≤ p.k ∧ p.k ≤ 1000) (hq : -30000 ≤ q ∧ q ≤ 30000) :
    Calls Tryz.prog 128 #[.agg #[.int .i64 p.src, .int .i64 p.dst, .int .i64 p.k, .int .i64 p.vol, .int .i64 p.lim], .int .i64 q] w fun e w' => e = .returned (.int .i64 (drp p q)) ∧ Gr w w' := by
  have hb := drp_bnd hk hq
  have hw1 : IntKind.i64.wrap (p.k * q) = p.k * q := IntWalk.i64_in _ (by omega)
  have hass : p.k * q * ab q = drp p q := by unfold drp; rw [Int.mul_assoc]
  have hw2 : IntKind.i64.wrap (p.k * q * ab q) = p.k * q * ab q := IntWalk.i64_in _ (by rw [Int.mul_assoc]; omega)
  have Hass := Lib.hid hass
  clear hass
  go_enter Tryz.func128, Tryz.ntmps128
  go_wp2_with fail
  obtain ⟨w1, hw1⟩ : ∃ W, W = w.alloc (.cells #[.int .i64 p.src, .int .i64 p.dst, .int .i64 p.k, .int .i64 p.vol, .int .i64 p.lim] 95) := ⟨_, rfl⟩
  have hg1 : Gr w w1 := by rw [hw1]; exact (Gr.refl _).alloc _
  have y0 : w1.cell? ⟨w.heap.size, 0, none⟩ = some (.int .i64 p.src) := by rw [hw1]; simp [go_sem]
  have y1 : w1.cell? ⟨w.heap.size, 1, none⟩ = some (.int .i64 p.dst) := by rw [hw1]; simp [go_sem]
  have y2 : w1.cell? ⟨w.heap.size, 2, none⟩ = some (.int .i64 p.k) := by rw [hw1]; simp [go_sem]
  rw [← hw1]
  clear hw1
  refine wp_region_text (fun w' => Gr w1 w') (by kernel_rfl) (by kernel_rfl) (by decide) (Gr.refl _).drew ?_
  repeat (first
    | ((with_reducible refine wpText_skip ?_ ?_)
       · rfl
       simp only [Act.put, List.setIfInBounds_toArray, List.set_cons_zero, List.set_cons_succ])
    | ((with_reducible refine wpText_yield (v := ?_) ?_ ?_ ?_)
       rotate_left
       · rfl
       · (intro W hW; have ky2 := hW.has y2; first | (go_simp; done) | (go_simp; with_reducible rfl))
       simp only [Act.put, List.setIfInBounds_toArray, List.set_cons_zero, List.set_cons_succ])
    | ((with_reducible refine wpText_yield1 (v := ?_) ?_ ?_ ?_)
       rotate_left
       · rfl
       · (intro W hW; have ky2 := hW.has y2; first | (go_simp; done) | (go_simp; with_reducible rfl))
       simp only [Act.put, List.setIfInBounds_toArray, List.set_cons_zero, List.set_cons_succ]))
  refine wpText_do (.int .i64 (ab q)) (by rfl) (fun W hW K hK => ?_) ?_
  ·
    have ky2 := hW.has y2
    go_simp
    refine (absI_any q _ (by omega)).mono ?_
    rintro e w' ⟨rfl, rfl⟩
    exact hK _ hW
  simp only [Act.put, List.setIfInBounds_toArray, List.set_cons_zero, List.set_cons_succ]
  repeat (first
    | ((with_reducible refine wpText_skip ?_ ?_)
       · rfl
       simp only [Act.put, List.setIfInBounds_toArray, List.set_cons_zero, List.set_cons_succ])
    | ((with_reducible refine wpText_yield (v := ?_) ?_ ?_ ?_)
       rotate_left
       · rfl
       · (intro W hW; have ky2 := hW.has y2; first | (go_simp; done) | (go_simp; with_reducible rfl))
       simp only [Act.put, List.setIfInBounds_toArray, List.set_cons_zero, List.set_cons_succ])
    | ((with_reducible refine wpText_yield1 (v := ?_) ?_ ?_ ?_)
       rotate_left
       · rfl
       · (intro W hW; have ky2 := hW.has y2; first | (go_simp; done) | (go_simp; with_reducible rfl))
       simp only [Act.put, List.setIfInBounds_toArray, List.set_cons_zero, List.set_cons_succ]))
  rintro w6 hS6
  go_wp2_with fail
  go_ret
  exact ⟨ret_int (Hass.out), hg1.trans hS6⟩
set_option maxHeartbeats 6400000 in
set_option maxRecDepth 100000 in
theorem energyOf_any (p : GPipe) (q : Int) (w : World) (hk : 1 ≤ p.k ∧ p.k ≤ 1000) (hq : -30000 ≤ q ∧ q ≤ 30000) :
    Calls Tryz.prog 160 #[.agg #[.int .i64 p.src, .int .i64 p.dst, .int .i64 p.k, .int .i64 p.vol, .int .i64 p.lim], .int .i64 q] w fun e w' => e = .returned (.int .i64 (eT p q)) ∧ Gr w w' := by
  have hb := et_bnd hk hq
  have hb1 := hb.a1
  have hb3 := hb.a3
  have hm := et_mid hk hq
  have hw1 : IntKind.i64.wrap (p.k * ab q) = p.k * ab q := IntWalk.i64_in _ (by omega)
  have hw2 : IntKind.i64.wrap (p.k * ab q * q) = p.k * ab q * q := IntWalk.i64_in _ (by omega)
  have hass : p.k * ab q * q * q = eT p q := et_other p.k q
  have hw3 : IntKind.i64.wrap (p.k * ab q * q * q) = p.k * ab q * q * q := IntWalk.i64_in _ (by rw [et_other]; omega)
  have Hass := Lib.hid hass
  clear hass hb hb1 hb3 hm
  go_enter Tryz.func160, Tryz.ntmps160
  go_wp2_with fail
  obtain ⟨w1, hw1⟩ : ∃ W, W = w.alloc (.cells #[.int .i64 p.src, .int .i64 p.dst, .int .i64 p.k, .int .i64 p.vol, .int .i64 p.lim] 95) := ⟨_, rfl⟩
  have hg1 : Gr w w1 := by rw [hw1]; exact (Gr.refl _).alloc _
  have y0 : w1.cell? ⟨w.heap.size, 0, none⟩ = some (.int .i64 p.src) := by rw [hw1]; simp [go_sem]
  have y1 : w1.cell? ⟨w.heap.size, 1, none⟩ = some (.int .i64 p.dst) := by rw [hw1]; simp [go_sem]
  have y2 : w1.cell? ⟨w.heap.size, 2, none⟩ = some (.int .i64 p.k) := by rw [hw1]; simp [go_sem]
  rw [← hw1]
  clear hw1
  refine wp_region_text (fun w' => Gr w1 w') (by kernel_rfl) (by kernel_rfl) (by decide) (Gr.refl _).drew ?_
  repeat (first
    | ((with_reducible refine wpText_skip ?_ ?_)
       · rfl
       simp only [Act.put, List.setIfInBounds_toArray, List.set_cons_zero, List.set_cons_succ])
    | ((with_reducible refine wpText_yield (v := ?_) ?_ ?_ ?_)
       rotate_left
       · rfl
       · (intro W hW; have ky2 := hW.has y2; first | (go_simp; done) | (go_simp; with_reducible rfl))
       simp only [Act.put, List.setIfInBounds_toArray, List.set_cons_zero, List.set_cons_succ])
    | ((with_reducible refine wpText_yield1 (v := ?_) ?_ ?_ ?_)
       rotate_left
       · rfl
       · (intro W hW; have ky2 := hW.has y2; first | (go_simp; done) | (go_simp; with_reducible rfl))
       simp only [Act.put, List.setIfInBounds_toArray, List.set_cons_zero, List.set_cons_succ]))
  refine wpText_do (.int .i64 (ab q)) (by rfl) (fun W hW K hK => ?_) ?_
  ·
    have ky2 := hW.has y2
    go_simp
    refine (absI_any q _ (by omega)).mono ?_
    rintro e w' ⟨rfl, rfl⟩
    exact hK _ hW
  simp only [Act.put, List.setIfInBounds_toArray, List.set_cons_zero, List.set_cons_succ]
  repeat (first
    | ((with_reducible refine wpText_skip ?_ ?_)
       · rfl
       simp only [Act.put, List.setIfInBounds_toArray, List.set_cons_zero, List.set_cons_succ])
    | ((with_reducible refine wpText_yield (v := ?_) ?_ ?_ ?_)
       rotate_left
       · rfl
       · (intro W hW; have ky2 := hW.has y2; first | (go_simp; done) | (go_simp; with_reducible rfl))
       simp only [Act.put, List.setIfInBounds_toArray, List.set_cons_zero, List.set_cons_succ])
    | ((with_reducible refine wpText_yield1 (v := ?_) ?_ ?_ ?_)
       rotate_left
       · rfl
       · (intro W hW; have ky2 := hW.has y2; first | (go_simp; done) | (go_simp; with_reducible rfl))
       simp only [Act.put, List.setIfInBounds_toArray, List.set_cons_zero, List.set_cons_succ]))
  rintro w6 hS6
  go_wp2_with fail
  go_ret
  exact ⟨ret_int (Hass.out), hg1.trans hS6⟩
set_option maxHeartbeats 6400000 in
set_option maxRecDepth 100000 in
theorem l07Drop_any {A1 A2 : Option Addr} {n1 c1 n2 c2 : Nat} (n : GNet) (k : Nat) (q : Int) (w : World) (hA : NetAt w A1 n1 c1 A2 n2 c2 n) (hok : netOk n = true) (hk : k < n2) (hq : -30000 ≤ q ∧ q ≤ 30000) :
    Calls Tryz.prog 134 #[.agg #[.slice A1 n1 c1, .slice A2 n2 c2], .int .i64 k, .int .i64 q] w fun e w' => e = .returned (.int .i64 (drp (n.pipes.getD k dP) q)) ∧ Gr w w' := by
  have hm2 := hA.m2
  have hl2 := hA.l2
  obtain ⟨p, hp⟩ : ∃ p, n.pipes[k]? = some p := ⟨_, List.getElem?_eq_getElem (by omega)⟩
  have hpe : n.pipes.getD k dP = p := by rw [List.getD_eq_getElem?_getD, hp]; rfl
  have hpk := pipe_k hok (show k < n.pipes.length by omega)
  rw [hpe] at hpk ⊢
  obtain ⟨b, o, hAA, hb, e0, e1, e2, e3, e4⟩ := hA.pipes.pp hp
  subst hAA
  have hbd := drp_bnd hpk hq
  have hw1 : IntKind.i64.wrap (p.k * (q * ab q)) = p.k * (q * ab q) := IntWalk.i64_in _ (by omega)
  have t0 : (0 : Int) ≤ (k : Int) := by omega
  have t1 : (k : Int) < (n2 : Int) := by omega
  clear hA hok hl2 hp hpe hpk hbd e0 e1 e3 e4
  go_enter Tryz.func134, Tryz.ntmps134
  go_wp2_with fail
  obtain ⟨w1, hw1⟩ : ∃ W, W = w.alloc (.cells #[.slice A1 n1 c1, .slice (some ⟨b, o, none⟩) n2 c2] 32) := ⟨_, rfl⟩
  have hg1 : Gr w w1 := by rw [hw1]; exact (Gr.refl _).alloc _
  have y0 : w1.cell? ⟨w.heap.size, 0, none⟩ = some (.slice A1 n1 c1) := by rw [hw1]; simp [go_sem]
  have y1 : w1.cell? ⟨w.heap.size, 1, none⟩ = some (.slice (some ⟨b, o, none⟩) n2 c2) := by rw [hw1]; simp [go_sem]
  rw [← hw1]
  clear hw1
  replace e2 := hg1.has e2
  refine wp_region_text (fun w' => Gr w1 w') (by kernel_rfl) (by kernel_rfl) (by decide) (Gr.refl _).drew ?_
  repeat (first
    | ((with_reducible refine wpText_skip ?_ ?_)
       · rfl
       simp only [Act.put, List.setIfInBounds_toArray, List.set_cons_zero, List.set_cons_succ])
    | ((with_reducible refine wpText_yield (v := ?_) ?_ ?_ ?_)
       rotate_left
       · rfl
       · (intro W hW; have ky1 := hW.has y1; have ke2 := hW.has e2; first | (go_simp; done) | (go_simp; with_reducible rfl))
       simp only [Act.put, List.setIfInBounds_toArray, List.set_cons_zero, List.set_cons_succ])
    | ((with_reducible refine wpText_yield1 (v := ?_) ?_ ?_ ?_)
       rotate_left
       · rfl
       · (intro W hW; have ky1 := hW.has y1; have ke2 := hW.has e2; first | (go_simp; done) | (go_simp; with_reducible rfl))
       simp only [Act.put, List.setIfInBounds_toArray, List.set_cons_zero, List.set_cons_succ]))
  refine wpText_do (.int .i64 (q * ab q)) (by rfl) (fun W hW K hK => ?_) ?_
  ·
    have ky1 := hW.has y1
    have ke2 := hW.has e2
    go_simp
    refine (l01Signed_any q _ hq).mono ?_
    rintro e w' ⟨rfl, rfl⟩
    exact hK _ hW
  simp only [Act.put, List.setIfInBounds_toArray, List.set_cons_zero, List.set_cons_succ]
  repeat (first
    | ((with_reducible refine wpText_skip ?_ ?_)
       · rfl
       simp only [Act.put, List.setIfInBounds_toArray, List.set_cons_zero, List.set_cons_succ])
    | ((with_reducible refine wpText_yield (v := ?_) ?_ ?_ ?_)
       rotate_left
       · rfl
       · (intro W hW; have ky1 := hW.has y1; have ke2 := hW.has e2; first | (go_simp; done) | (go_simp; with_reducible rfl))
       simp only [Act.put, List.setIfInBounds_toArray, List.set_cons_zero, List.set_cons_succ])
    | ((with_reducible refine wpText_yield1 (v := ?_) ?_ ?_ ?_)
       rotate_left
       · rfl
       · (intro W hW; have ky1 := hW.has y1; have ke2 := hW.has e2; first | (go_simp; done) | (go_simp; with_reducible rfl))
       simp only [Act.put, List.setIfInBounds_toArray, List.set_cons_zero, List.set_cons_succ]))
  rintro w6 hS6
  go_wp2_with fail
  go_ret
  exact ⟨ret_int rfl, hg1.trans hS6⟩
end Go.Proofs.YthhmhigddmimjaaGreat
/-
  Connected networks, both sides. Printed by gen_pt2.py.
-/
set_option linter.unusedSimpArgs false
set_option linter.unusedVariables false
namespace Go.Proofs.YthhmhigddmimjaaGreat
open Go.ChangeShapes Go.WideShapes Go.ChangeAt Go.RowKit

theorem searchFrom0_any {A1 A2 : Option Addr} {n1 c1 n2 c2 : Nat} (n : GNet) (w : World) (hA : NetAt w A1 n1 c1 A2 n2 c2 n) (hok : netOk n = true) (hn : 0 < n1) :
    Calls Tryz.prog 127 #[.agg #[.slice A1 n1 c1, .slice A2 n2 c2], .int .i64 0] w fun e w' => ∃ O D E, e = .returned (.agg #[O, .slice (some ⟨D, 0, none⟩) n1 n1, .slice (some ⟨E, 0, none⟩) n1 n1]) ∧ (∃ A c, O = .slice A (ordZ (eds n.pipes) n1 0).length c) ∧
      w'.ownsRow w.heap.size 2 1 (.slice (some ⟨E, 0, none⟩) n1 n1) n1 (ints (entL n1 0 (sZ (eds n.pipes) n1))) ∧ w'.ownsRow w.heap.size 2 1 O (ordZ (eds n.pipes) n1 0).length (nats (ordZ (eds n.pipes) n1 0)) ∧ Gr w w' := searchFrom_any n 0 w hA hok hn
set_option maxHeartbeats 6400000 in
set_option maxRecDepth 100000 in
theorem isConnected_any {A1 A2 : Option Addr} {n1 c1 n2 c2 : Nat} (n : GNet) (w : World) (hA : NetAt w A1 n1 c1 A2 n2 c2 n) (hok : netOk n = true) :
    Calls Tryz.prog 114 #[.agg #[.slice A1 n1 c1, .slice A2 n2 c2]] w fun e w' => e = .returned (.bool (conB (eds n.pipes) n1)) ∧ Gr w w' := by
  have hm1 := hA.m1
  have h0 : 0 < n1 := by have := (netOk_all hok).1.1; rw [hA.l1] at this; omega
  have HA := Lib.hid hA
  have Hok := Lib.hid hok
  clear hA hok
  go_enter Tryz.func114, Tryz.ntmps114
  go_wp2_with fail
  obtain ⟨w1, hw1⟩ : ∃ W, W = w.alloc (.cells #[.slice A1 n1 c1, .slice A2 n2 c2] 32) := ⟨_, rfl⟩
  have hg1 : Gr w w1 := by rw [hw1]; exact (Gr.refl _).alloc _
  have y0 : w1.cell? ⟨w.heap.size, 0, none⟩ = some (.slice A1 n1 c1) := by rw [hw1]; simp [go_sem]
  have y1 : w1.cell? ⟨w.heap.size, 1, none⟩ = some (.slice A2 n2 c2) := by rw [hw1]; simp [go_sem]
  rw [← hw1]
  clear hw1
  go_region_held3 (fun w' => Gr w1 w' ∧ w'.cell? ⟨w.heap.size, 0, none⟩ = some (.slice A1 n1 c1) ∧ w'.cell? ⟨w.heap.size, 1, none⟩ = some (.slice A2 n2 c2))
    (first | exact ⟨(Gr.refl _).drew, y0, y1⟩ | exact ⟨by assumption, (by assumption : Gr w1 _).has y0, (by assumption : Gr w1 _).has y1⟩)
    ((go_at_call 127; refine (searchFrom0_any n _ (HA.out.gr (hg1.trans (Gr.refl _).drew)) Hok.out h0).mono ?_; rintro e w4 ⟨O, D, E, rfl, ⟨A, c, rfl⟩, hE, hO, hg4⟩; have hx : Gr w1 w4 := (Gr.refl _).drew.trans hg4; have hfd : ∀ W : World, (Instr.field 132 (.agg #[.slice A (ordZ (eds n.pipes) n1 0).length c, .slice (some ⟨D, 0, none⟩) n1 n1, .slice (some ⟨E, 0, none⟩) n1 n1]) 0).run Tryz.prog W = .ok (.slice A (ordZ (eds n.pipes) n1 0).length c) W := fun _ => (by kernel_rfl); clear hE hO hg4))
  go_wp2_with fail
  go_ret
  refine ⟨ret_bool ?_, hg1.trans (by assumption)⟩
  rw [conB, Bool.eq_iff_iff, beq_iff_eq, decide_eq_true_eq]
  omega
theorem checkConnected_any {A1 A2 A3 : Option Addr} {n1 c1 n2 c2 n3 c3 : Nat} (n : GNet) (sup : List Int) (w : World) (hA : NetAt w A1 n1 c1 A2 n2 c2 n) (hS : SlAt w 1 A3 n3 c3 (ints sup)) :
    Calls Tryz.prog 75 #[.agg #[.slice A1 n1 c1, .slice A2 n2 c2], .slice A3 n3 c3] w fun e w' => e = .returned (.int .i64 (ocCode n sup)) ∧ Gr w w' := by
  have hl1 := hA.l1
  have HA := Lib.hid hA
  have HS := Lib.hid hS
  have Hl1 := Lib.hid hl1
  clear hA hS hl1
  go_enter Tryz.func75, Tryz.ntmps75
  go_wp2_with fail
  obtain ⟨w1, hw1⟩ : ∃ W, W = w.alloc (.cells #[.slice A1 n1 c1, .slice A2 n2 c2] 32) := ⟨_, rfl⟩
  have hg1 : Gr w w1 := by rw [hw1]; exact (Gr.refl _).alloc _
  have y0 : w1.cell? ⟨w.heap.size, 0, none⟩ = some (.slice A1 n1 c1) := by rw [hw1]; simp [go_sem]
  have y1 : w1.cell? ⟨w.heap.size, 1, none⟩ = some (.slice A2 n2 c2) := by rw [hw1]; simp [go_sem]
  rw [← hw1]
  clear hw1
  refine (checkSupplies_any n sup _ (HA.out.gr hg1) (HS.out.gr hg1)).mono ?_
  rintro e w2 ⟨rfl, hg2⟩
  replace y0 := hg2.has y0
  replace y1 := hg2.has y1
  by_cases hc : suCode n sup = 0
  case neg =>
    have tb : (suCode n sup != 0) = true := by simp [hc]
    have Hc := Lib.hid hc
    clear hc
    go_wp2_with fail
    go_ret
    exact ⟨ret_int (by rw [ocCode, if_neg Hc.out]), hg1.trans hg2⟩
  have tb : (suCode n sup != 0) = false := by simp [hc]
  have Hc := Lib.hid hc
  have Hok := Lib.hid (suCode_zero hc).1
  clear hc
  go_wp2_with fail
  refine (isConnected_any n _ (HA.out.gr (hg1.trans hg2)) Hok.out).mono ?_
  rintro e w3 ⟨rfl, hg3⟩
  cases hb : conB (eds n.pipes) n1 with
  | false =>
    have Hb := Lib.hid hb
    clear hb
    go_wp2_with fail
    go_ret
    exact ⟨ret_int (by rw [ocCode, if_pos Hc.out, Hl1.out, Hb.out]; rfl), (hg1.trans hg2).trans hg3⟩
  | true =>
    have Hb := Lib.hid hb
    clear hb
    go_wp2_with fail
    go_ret
    exact ⟨ret_int (by rw [ocCode, if_pos Hc.out, Hl1.out, Hb.out]; rfl), (hg1.trans hg2).trans hg3⟩
set_option maxHeartbeats 6400000 in
set_option maxRecDepth 100000 in
theorem l04Count_any {A1 A2 : Option Addr} {n1 c1 n2 c2 : Nat} (n : GNet) (w : World) (hA : NetAt w A1 n1 c1 A2 n2 c2 n) (hok : netOk n = true) :
    Calls Tryz.prog 108 #[.agg #[.slice A1 n1 c1, .slice A2 n2 c2]] w fun e w' => e = .returned (.int .i64 (cntTo (comps (eds n.pipes) n1) n1)) ∧ Gr w w' := by
  have hm1 := hA.m1
  have HA := Lib.hid hA
  have Hok := Lib.hid hok
  clear hA hok
  go_enter Tryz.func108, Tryz.ntmps108
  go_wp2_with fail
  obtain ⟨w1, hw1⟩ : ∃ W, W = w.alloc (.cells #[.slice A1 n1 c1, .slice A2 n2 c2] 32) := ⟨_, rfl⟩
  have hg1 : Gr w w1 := by rw [hw1]; exact (Gr.refl _).alloc _
  have y0 : w1.cell? ⟨w.heap.size, 0, none⟩ = some (.slice A1 n1 c1) := by rw [hw1]; simp [go_sem]
  have y1 : w1.cell? ⟨w.heap.size, 1, none⟩ = some (.slice A2 n2 c2) := by rw [hw1]; simp [go_sem]
  rw [← hw1]
  clear hw1
  refine (l04Components_any n _ (HA.out.gr hg1) Hok.out).mono ?_
  rintro e w2 ⟨G, rfl, hG, hg2⟩
  have hgw := hg1.trans hg2
  have hcl : (comps (eds n.pipes) n1).length = n1 := compTo_len _ _ _
  obtain ⟨cs, hcs⟩ : ∃ cs, cs = comps (eds n.pipes) n1 := ⟨_, rfl⟩
  rw [← hcs] at hG hcl
  have HG := Lib.hid hG
  have Hcs := Lib.hid hcs
  clear hG hcs y0 y1
  go_wp2_with fail
  go_loopw [4, 5] (fun o i wr => ∃ k : Nat, k ≤ n1 ∧ i = .int .i64 k ∧ o = .int .i64 (cntTo cs k) ∧ Gr w2 wr) (fun _ i _ => n1 - (intOf i).toNat)
  case atStart => exact ⟨0, Nat.zero_le _, rfl, rfl, Gr.refl _⟩
  case round =>
    obtain ⟨k, hk, rfl, rfl, hgr⟩ := hrel
    have hcb := cnt_le cs k
    by_cases hlt : k < n1
    · obtain ⟨d0, _⟩ := own_int (own_gr HG.out hgr) (get_int (l := cs) (k := k) (by omega))
      obtain ⟨z, hz⟩ : ∃ z, z = cs.getD k 0 := ⟨_, rfl⟩
      rw [← hz] at d0
      have t1 : (k : Int) < (n1 : Int) := by omega
      have t0 : (0 : Int) ≤ (k : Int) := by omega
      by_cases he : z = (k : Int)
      · have tb : (z == (k : Int)) = true := by simp [he]
        have Hst : Hid (cntTo cs (k + 1) = cntTo cs k + 1) := Lib.hid (cnt_yes (by rw [← hz]; exact he))
        clear hz he
        go_wp2_with fail
        go_roundw
        case rel => exact ⟨k + 1, by omega, by go_num, by rw [Hst.out]; go_num, hgr⟩
        case measure => simp [intOf]; omega
      · have tb : (z == (k : Int)) = false := by simp [he]
        have Hst : Hid (cntTo cs (k + 1) = cntTo cs k) := Lib.hid (cnt_no (by rw [← hz]; exact he))
        clear hz he
        go_wp2_with fail
        go_roundw
        case rel => exact ⟨k + 1, by omega, by go_num, by rw [Hst.out], hgr⟩
        case measure => simp [intOf]; omega
    · obtain rfl : k = n1 := by omega
      go_wp2_with fail
      go_ret
      exact ⟨ret_int (by rw [← Hcs.out]), hgw.trans hgr⟩
theorem l12Code_any {A1 A2 A3 : Option Addr} {n1 c1 n2 c2 n3 c3 : Nat} (n : GNet) (sup : List Int) (w : World) (hA : NetAt w A1 n1 c1 A2 n2 c2 n) (hS : SlAt w 1 A3 n3 c3 (ints sup)) :
    Calls Tryz.prog 73 #[.agg #[.slice A1 n1 c1, .slice A2 n2 c2], .slice A3 n3 c3] w fun e w' => e = .returned (.int .i64 (ocCode n sup)) ∧ Gr w w' := by
  have hl1 := hA.l1
  have HA := Lib.hid hA
  have HS := Lib.hid hS
  have Hl1 := Lib.hid hl1
  clear hA hS hl1
  go_enter Tryz.func73, Tryz.ntmps73
  go_wp2_with fail
  obtain ⟨w1, hw1⟩ : ∃ W, W = w.alloc (.cells #[.slice A1 n1 c1, .slice A2 n2 c2] 32) := ⟨_, rfl⟩
  have hg1 : Gr w w1 := by rw [hw1]; exact (Gr.refl _).alloc _
  have y0 : w1.cell? ⟨w.heap.size, 0, none⟩ = some (.slice A1 n1 c1) := by rw [hw1]; simp [go_sem]
  have y1 : w1.cell? ⟨w.heap.size, 1, none⟩ = some (.slice A2 n2 c2) := by rw [hw1]; simp [go_sem]
  rw [← hw1]
  clear hw1
  refine (l06Code_any n sup _ (HA.out.gr hg1) (HS.out.gr hg1)).mono ?_
  rintro e w2 ⟨rfl, hg2⟩
  replace y0 := hg2.has y0
  replace y1 := hg2.has y1
  by_cases hc : suCode n sup = 0
  case neg =>
    have tb : (suCode n sup == 0) = false := by simp [hc]
    have Hc := Lib.hid hc
    clear hc
    go_wp2_with fail
    go_ret
    exact ⟨ret_int (by rw [ocCode, if_neg Hc.out]), hg1.trans hg2⟩
  have tb : (suCode n sup == 0) = true := by simp [hc]
  have Hc := Lib.hid hc
  have Hok := Lib.hid (suCode_zero hc).1
  have hE : EsOk (eds n.pipes) n1 := by have := eds_ok Hok.out; rw [Hl1.out] at this; exact this
  have h0 : 0 < n1 := by have := (netOk_all Hok.out).1.1; rw [Hl1.out] at this; omega
  have Hcc := Lib.hid (con_cnt hE h0)
  clear hc hE
  go_wp2_with fail
  refine (l04Count_any n _ (HA.out.gr (hg1.trans hg2)) Hok.out).mono ?_
  rintro e w3 ⟨rfl, hg3⟩
  obtain ⟨q, hq⟩ : ∃ q, q = cntTo (comps (eds n.pipes) n1) n1 := ⟨_, rfl⟩
  rw [← hq] at Hcc
  rw [← hq]
  clear hq
  cases hb : conB (eds n.pipes) n1 with
  | false =>
    have hne : ¬ q = 1 := fun e => by have := Hcc.out; rw [hb, decide_eq_true e] at this; cases this
    have tq : ((q : Int) != 1) = true := by simp; omega
    have Hb := Lib.hid hb
    clear hb hne Hcc
    go_wp2_with fail
    go_ret
    exact ⟨ret_int (by rw [ocCode, if_pos Hc.out, Hl1.out, Hb.out]; rfl), (hg1.trans hg2).trans hg3⟩
  | true =>
    have hne : q = 1 := Classical.byContradiction fun e => by have := Hcc.out; rw [hb, decide_eq_false e] at this; cases this
    have tq : ((q : Int) != 1) = false := by simp; omega
    have Hb := Lib.hid hb
    clear hb hne Hcc
    go_wp2_with fail
    go_ret
    exact ⟨ret_int (by rw [ocCode, if_pos Hc.out, Hl1.out, Hb.out, Hc.out]; rfl), (hg1.trans hg2).trans hg3⟩
theorem checkedFlows_yes {A : Option Addr} {m c : Nat} (n : GNet) (fl : List Int) (w : World) (hL : SlAt w 1 A m c (ints fl)) (hm : n.pipes.length = m) (hf : flOk n fl = true) :
    Calls Tryz.prog 140 #[.slice A m c] w fun e w' => e = .returned (.tuple #[.slice A m c, .int .i64 0]) ∧ w = w' := by
  have hlen := hL.sl.ilen
  have hq : flOk n fl = fl.all fun z => inB (-30000) z 30000 := by rw [flOk, supOk, decide_eq_true (show fl.length = n.pipes.length by omega), Bool.true_and]
  rw [hf] at hq
  have HL := Lib.hid hL
  clear hL hlen hf
  go_enter Tryz.func140, Tryz.ntmps140
  go_wp2_with fail
  refine (allWithin_any fl _ _ _ HL.out).mono ?_
  rintro e w1 ⟨rfl, rfl⟩
  rw [← hq]
  clear hq
  go_wp2_with fail
  go_ret2
  exact ⟨rfl, rfl⟩
theorem checkedFlows_no {A : Option Addr} {m c : Nat} (n : GNet) (fl : List Int) (w : World) (hL : SlAt w 1 A m c (ints fl)) (hm : n.pipes.length = m) (hf : flOk n fl = false) :
    Calls Tryz.prog 140 #[.slice A m c] w fun e w' => e = .returned (.tuple #[.slice none 0 0, .int .i64 2]) ∧ w = w' := by
  have hlen := hL.sl.ilen
  have hq : flOk n fl = fl.all fun z => inB (-30000) z 30000 := by rw [flOk, supOk, decide_eq_true (show fl.length = n.pipes.length by omega), Bool.true_and]
  rw [hf] at hq
  have HL := Lib.hid hL
  clear hL hlen hf
  go_enter Tryz.func140, Tryz.ntmps140
  go_wp2_with fail
  refine (allWithin_any fl _ _ _ HL.out).mono ?_
  rintro e w1 ⟨rfl, rfl⟩
  rw [← hq]
  clear hq
  go_wp2_with fail
  go_ret2
  exact ⟨rfl, rfl⟩
end Go.Proofs.YthhmhigddmimjaaGreat
/-
  Plain: lists of the pipes of a forest and of its chords, piece by piece. No program here. Printed by gen_pt3.py.
-/
set_option linter.unusedSimpArgs false
set_option linter.unusedVariables false
namespace Go.Proofs.YthhmhigddmimjaaGreat

theorem entL_at {es : List Ed} {N q : Nat} (hE : EsOk es N) (h0 : 0 < N) (hc : conB es N = true) (hq : q < N) : (entL N 0 (sZ es N)).getD q 0 = if q = 0 then -1 else (entZ es N q : Int) := by
  have hm : q ∈ (sZ es N).ord := con_all hE h0 hc hq
  rw [entL, List.getD_eq_getElem?_getD, List.getElem?_map, List.getElem?_range hq]
  by_cases e : q = 0
  · simp [e]
  · simp only [Option.map_some, Option.getD_some]
    rw [if_pos ⟨hm, e⟩, if_neg e]; rfl
def feTo (es : List Ed) (N q : Nat) : List Nat := ((List.range q).filter fun v => decide (v ≠ 0)).map (entZ es N)
theorem fe_yes {es : List Ed} {N q : Nat} (h : q ≠ 0) : feTo es N (q + 1) = feTo es N q ++ [entZ es N q] := by
  rw [feTo, List.range_succ, List.filter_append, List.map_append]
  simp only [List.filter_cons, decide_eq_true h, if_true, List.filter_nil, List.map_cons, List.map_nil]; rfl
theorem fe_one (es : List Ed) (N : Nat) : feTo es N 1 = [] := rfl
theorem fe_len (es : List Ed) (N q : Nat) : (feTo es N q).length ≤ q := by
  rw [feTo, List.length_map]
  have := List.length_filter_le (fun v => decide (v ≠ 0)) (List.range q)
  simpa using this
theorem fe_mem {es : List Ed} {N p : Nat} : p ∈ feTo es N N ↔ isFo es N p = true := by
  rw [isFo_iff, feTo, List.mem_map]
  constructor
  · rintro ⟨v, hv, e⟩
    rw [List.mem_filter, List.mem_range] at hv
    exact ⟨v, hv.1, by simpa using hv.2, e⟩
  · rintro ⟨v, h1, h2, e⟩
    exact ⟨v, List.mem_filter.2 ⟨List.mem_range.2 h1, by simpa using h2⟩, e⟩
theorem fe_nodup {es : List Ed} {N : Nat} (hE : EsOk es N) (h0 : 0 < N) (hc : conB es N = true) : (feTo es N N).Nodup := by
  rw [feTo]
  refine List.pairwise_map.2 ?_
  have h1 : ((List.range N).filter fun v => decide (v ≠ 0)).Nodup := List.Pairwise.filter _ List.nodup_range
  refine List.Pairwise.imp_of_mem ?_ h1
  intro a b ha hb hne e
  rw [List.mem_filter, List.mem_range] at ha hb
  have ha2 : a ≠ 0 := by simpa using ha.2
  have hb2 : b ≠ 0 := by simpa using hb.2
  exact hne (ent_inj hE (z_inv hE h0) (con_all hE h0 hc ha.1) (con_all hE h0 hc hb.1) ha2 hb2 e)
theorem fe_srt {es : List Ed} {N : Nat} (hE : EsOk es N) (h0 : 0 < N) (hc : conB es N = true) : srt (casts (feTo es N N)) = casts (foL es N) := by
  rw [srt_nodes (N := es.length) (fe_nodup hE h0 hc) (fun v hv => fo_lt hE hc (fe_mem.1 hv))]
  congr 1
  unfold memTo foL
  refine List.filter_congr fun p hp => ?_
  cases h : isFo es N p with
  | true => exact decide_eq_true (fe_mem.2 h)
  | false => exact decide_eq_false (fun h2 => by rw [fe_mem.1 h2] at h; cases h)
theorem fo_sorted (es : List Ed) (N : Nat) : (casts (foL es N)).Pairwise (· ≤ ·) := by
  refine List.pairwise_map.2 ?_
  exact (List.Pairwise.filter _ List.pairwise_lt_range).imp (fun h => by omega)
theorem cast_mem {l : List Nat} {p : Nat} : ((p : Int) ∈ casts l) ↔ p ∈ l := by
  rw [mem_casts']
  exact ⟨fun ⟨v, hv, e⟩ => by have : v = p := by omega
                              rw [← this]; exact hv, fun h => ⟨p, h, rfl⟩⟩
theorem fo_has {es : List Ed} {N p : Nat} (hp : p < es.length) : decide ((p : Int) ∈ casts (foL es N)) = isFo es N p := by
  cases h : isFo es N p with
  | true => exact decide_eq_true (cast_mem.2 (foL_mem.2 ⟨hp, h⟩))
  | false => exact decide_eq_false (fun h2 => by have := (foL_mem.1 (cast_mem.1 h2)).2; rw [h] at this; cases this)
def chTo' (es : List Ed) (N q : Nat) : List Nat := (List.range q).filter fun p => !isFo es N p
theorem ch_yes {es : List Ed} {N q : Nat} (h : isFo es N q = false) : chTo' es N (q + 1) = chTo' es N q ++ [q] := by
  rw [chTo', List.range_succ, List.filter_append]; simp [chTo', h]
theorem ch_no {es : List Ed} {N q : Nat} (h : isFo es N q = true) : chTo' es N (q + 1) = chTo' es N q := by
  rw [chTo', List.range_succ, List.filter_append]; simp [chTo', h]
theorem ch_len (es : List Ed) (N q : Nat) : (chTo' es N q).length ≤ q := by
  have := List.length_filter_le (fun p => !isFo es N p) (List.range q)
  simpa [chTo'] using this
def foTo' (es : List Ed) (N q : Nat) : List Nat := (List.range q).filter (isFo es N)
theorem fo_yes {es : List Ed} {N q : Nat} (h : isFo es N q = true) : foTo' es N (q + 1) = foTo' es N q ++ [q] := by
  rw [foTo', List.range_succ, List.filter_append]; simp [foTo', h]
theorem fo_no {es : List Ed} {N q : Nat} (h : isFo es N q = false) : foTo' es N (q + 1) = foTo' es N q := by
  rw [foTo', List.range_succ, List.filter_append]; simp [foTo', h]
theorem fo_len (es : List Ed) (N q : Nat) : (foTo' es N q).length ≤ q := by
  have := List.length_filter_le (isFo es N) (List.range q)
  simpa [foTo'] using this
/-- The marks of the reference. -/
def mkTo (es : List Ed) (N q : Nat) : List Bool := (List.range es.length).map fun p => decide (p ∈ feTo es N q)
theorem mk_len (es : List Ed) (N q : Nat) : (mkTo es N q).length = es.length := by simp [mkTo]
theorem mk_zero (es : List Ed) (N : Nat) : mkTo es N 0 = List.replicate es.length false := by
  apply List.ext_getElem?
  intro p
  rw [mkTo, List.getElem?_map, List.getElem?_replicate]
  by_cases hp : p < es.length
  · rw [List.getElem?_range hp, if_pos hp]; simp [feTo]
  · rw [List.getElem?_eq_none (by simp; omega), if_neg hp]; rfl
theorem mk_one (es : List Ed) (N : Nat) : mkTo es N 1 = mkTo es N 0 := rfl
theorem mk_step {es : List Ed} {N q : Nat} (h : q ≠ 0) : mkTo es N (q + 1) = (mkTo es N q).set (entZ es N q) true := by
  apply List.ext_getElem?
  intro p
  by_cases hp : p < es.length
  · by_cases e : entZ es N q = p
    · rw [e, List.getElem?_set_self (by rw [mk_len]; exact hp), mkTo, List.getElem?_map, List.getElem?_range hp]
      simp [fe_yes h, e]
    · rw [List.getElem?_set_ne e, mkTo, mkTo, List.getElem?_map, List.getElem?_map, List.getElem?_range hp]
      have : p ∈ feTo es N (q + 1) ↔ p ∈ feTo es N q := by rw [fe_yes h]; simp; intro h2; exact absurd h2.symm e
      simp only [Option.map_some, this]
  · rw [List.getElem?_eq_none (by rw [mk_len]; omega), List.getElem?_eq_none (by simp [mk_len]; omega)]
theorem mk_get {es : List Ed} {N p : Nat} (hp : p < es.length) : (mkTo es N N)[p]? = some (isFo es N p) := by
  rw [mkTo, List.getElem?_map, List.getElem?_range hp, Option.map_some]
  congr 1
  cases h : isFo es N p with
  | true => exact decide_eq_true (fe_mem.2 h)
  | false => exact decide_eq_false (fun h2 => by rw [fe_mem.1 h2] at h; cases h)
end Go.Proofs.YthhmhigddmimjaaGreat
/-
  The forest of a connected network: the program. Printed by gen_pt3.py.
-/
set_option linter.unusedSimpArgs false
set_option linter.unusedVariables false
namespace Go.Proofs.YthhmhigddmimjaaGreat
open Go.ChangeShapes Go.WideShapes Go.ChangeAt Go.RowKit

theorem binS_none (A : Option Addr) (c : Nat) (x : Int) (w : World) :
    Calls Tryz.prog 159 #[.slice A 0 c, .int .i64 x] w fun e w' => ∃ q : Int, e = .returned (.tuple #[.int .i64 q, .bool false]) ∧ Gr w w' := by
  go_enter Tryz.func159, Tryz.ntmps159
  go_wp2_with fail
  go_loopw [7, 8] (fun s7 s8 wr => s7 = .int .i64 0 ∧ s8 = .int .i64 0 ∧ wr = w) (fun _ _ _ => 0)
  case atStart => exact ⟨rfl, rfl, rfl⟩
  case round =>
    obtain ⟨rfl, rfl, rfl⟩ := hrel
    go_wp2_with fail
    go_ret2
    exact ⟨_, rfl, Gr.refl _⟩
theorem binS_any {A : Option Addr} {m c : Nat} (l : List Nat) (x : Nat) (w : World) (hL : SlAt w 1 A m c (nats l)) (hs : (casts l).Pairwise (· ≤ ·)) :
    Calls Tryz.prog 159 #[.slice A m c, .int .i64 x] w fun e w' => ∃ q : Int, e = .returned (.tuple #[.int .i64 q, .bool (decide ((x : Int) ∈ casts l))]) ∧ Gr w w' := by
  have hlen : (casts l).length = m := hL.sl.ilen
  rcases Nat.eq_zero_or_pos m with h0 | h0
  · subst h0
    have : casts l = [] := List.eq_nil_of_length_eq_zero hlen
    rw [this]
    exact binS_none A c x w
  · obtain ⟨b, o, rfl, hb, hr⟩ := hL.sl.2 h0
    have hsm := hL.small
    have hr' : Row w b o (ints (casts l)) := hr
    refine (AnyG.slices_BinarySearch_int search64 b o m c (casts l) x w (by omega) (by omega) (fun j hj => ?_) (by rw [← hlen, List.take_length]; exact hs)).mono ?_
    · exact hr' j _ (by rw [ints, List.getElem?_map, List.getElem?_eq_getElem hj, List.getD_eq_getElem?_getD, List.getElem?_eq_getElem hj]; rfl)
    · rintro e w' ⟨rfl, q, rfl⟩
      have hcn : (List.take m (casts l)).contains (x : Int) = decide ((x : Int) ∈ casts l) := by
        rw [← hlen, List.take_length, Bool.eq_iff_iff, List.contains_iff_mem, decide_eq_true_eq]
      exact ⟨((List.countP (fun y => decide (y < (x : Int))) (List.take m (casts l)) : Nat) : Int), by rw [hcn], (Gr.refl w).drewN q⟩
theorem sort_any {A : Option Addr} {m c base : Nat} (l : List Nat) (w : World) (h : w.ownsRow base 2 1 (.slice A m c) m (nats l)) (hm : m ≤ 1048576) (hb : base ≤ w.heap.size) :
    Calls Tryz.prog 169 #[.slice A m c] w fun e w' => e = .returned (.tuple #[]) ∧ w'.ownsRow base 2 1 (.slice A m c) m (ints (srt (casts l))) ∧ Chg (fun k => A = some ⟨k, 0, none⟩) w w' := by
  rcases Nat.eq_zero_or_pos m with h0 | h0
  · subst h0
    have hl : casts l = [] := List.eq_nil_of_length_eq_zero (own_ilen (zs := casts l) h)
    refine (AnyG.slices_Sort_int_none sort64 A c w).mono ?_
    rintro e w' ⟨rfl, rfl⟩
    refine ⟨rfl, ?_, Chg.refl _ _⟩
    rw [hl, show srt ([] : List Int) = [] by simp [srt]]
    have h' : w'.ownsRow base 2 1 (.slice A 0 c) 0 (ints (casts l)) := h
    rw [hl] at h'
    exact h'
  · exact sortInt_any (casts l) w h h0 hm
set_option maxHeartbeats 6400000 in
set_option maxRecDepth 100000 in
theorem forestOf_any {A1 A2 : Option Addr} {n1 c1 n2 c2 : Nat} (n : GNet) (w : World) (hA : NetAt w A1 n1 c1 A2 n2 c2 n) (hok : netOk n = true) (hc : conB (eds n.pipes) n1 = true) :
    Calls Tryz.prog 158 #[.agg #[.slice A1 n1 c1, .slice A2 n2 c2]] w fun e w' => ∃ A m c, e = .returned (.slice A m c) ∧ m ≤ n1 ∧ w'.ownsRow w.heap.size 2 1 (.slice A m c) m (nats (foL (eds n.pipes) n1)) ∧ Gr w w' := by
  obtain ⟨i0, hi0, hz0, hz1, hz2⟩ := info_parts infoInt64
  have hm1 := hA.m1
  have hE : EsOk (eds n.pipes) n1 := by have := eds_ok hok; rw [hA.l1] at this; exact this
  have h0 : 0 < n1 := by have := (netOk_all hok).1.1; rw [hA.l1] at this; omega
  have hcm := con_comps hE h0 hc
  have HE := Lib.hid hE
  have Hc := Lib.hid hc
  have HA := Lib.hid hA
  have Hok := Lib.hid hok
  clear hA hok hE hc
  go_enter Tryz.func158, Tryz.ntmps158
  go_wp2_with fail
  obtain ⟨w1, hw1⟩ : ∃ W, W = w.alloc (.cells #[.slice A1 n1 c1, .slice A2 n2 c2] 32) := ⟨_, rfl⟩
  have hg1 : Gr w w1 := by rw [hw1]; exact (Gr.refl _).alloc _
  have y0 : w1.cell? ⟨w.heap.size, 0, none⟩ = some (.slice A1 n1 c1) := by rw [hw1]; simp [go_sem]
  have y1 : w1.cell? ⟨w.heap.size, 1, none⟩ = some (.slice A2 n2 c2) := by rw [hw1]; simp [go_sem]
  rw [← hw1]
  clear hw1
  refine (componentsOf_any n _ (HA.out.gr hg1) Hok.out).mono ?_
  rintro e w2 ⟨G, rfl, hG, hg2⟩
  rw [hcm] at hG
  have HG := Lib.hid hG
  have hgw2 := hg1.trans hg2
  replace y0 := hg2.has y0
  replace y1 := hg2.has y1
  clear hG hcm
  go_wp2_with fail
  go_loopw [3, 11] (fun p i wr => ∃ k : Nat, k ≤ n1 ∧ i = .int .i64 k ∧ (∃ A m c, p = .slice A m c ∧ m ≤ n1 ∧ wr.ownsRow w2.heap.size 2 1 (.slice A m c) m (nats (if k = 0 then [] else feTo (eds n.pipes) n1 n1))) ∧ (k = 0 → p = .slice none 0 0) ∧ Gr w2 wr) (fun _ i _ => n1 - (intOf i).toNat)
  case atStart => exact ⟨0, Nat.zero_le _, rfl, ⟨none, 0, 0, rfl, Nat.zero_le _, World.ownsRow_nil _ _ _ _⟩, fun _ => rfl, Gr.refl _⟩
  case round =>
    obtain ⟨k, hk, rfl, ⟨A, m, c, rfl, hmn, hown⟩, hnil, hgr⟩ := hrel
    have Hown := Lib.hid hown
    clear hown
    by_cases hlt : k < n1
    · obtain ⟨d0, _⟩ := own_int (own_gr HG.out hgr) (k := k) (x := 0) (by rw [List.getElem?_replicate, if_pos hlt])
      have t1 : (k : Int) < (n1 : Int) := by omega
      have t0 : (0 : Int) ≤ (k : Int) := by omega
      by_cases hk0 : k = 0
      · subst hk0
        have hnil := hnil rfl
        injection hnil with e1 e2 e3
        subst e1; subst e2; subst e3
        have hgw := hgw2.trans hgr
        have z0 := hgr.has y0
        have z1 := hgr.has y1
        clear hmn
        go_wp2_with fail
        refine (searchFrom0_any n _ (HA.out.gr hgw) Hok.out h0).mono ?_
        rintro e w5 ⟨O, D, E, rfl, ⟨AO, cO, rfl⟩, hE5, _, hg5⟩
        have HE5 := Lib.hid hE5
        have hfd : ∀ W : World, (Instr.field 132 (.agg #[.slice AO (ordZ (eds n.pipes) n1 0).length cO, .slice (some ⟨D, 0, none⟩) n1 n1, .slice (some ⟨E, 0, none⟩) n1 n1]) 2).run Tryz.prog W = .ok (.slice (some ⟨E, 0, none⟩) n1 n1) W := fun _ => by kernel_rfl
        have hgw5 := hgr.trans hg5
        have hs5 := hgw5.size
        clear hE5 d0 Hown
        go_wp2_with fail
        go_loopw [3, 24] (fun p i wr => ∃ q : Nat, q ≤ n1 ∧ i = .int .i64 q ∧ (∃ A c, p = .slice A (feTo (eds n.pipes) n1 q).length c ∧ wr.ownsRow w5.heap.size 2 1 (.slice A (feTo (eds n.pipes) n1 q).length c) (feTo (eds n.pipes) n1 q).length (nats (feTo (eds n.pipes) n1 q))) ∧ Gr w5 wr) (fun _ i _ => n1 - (intOf i).toNat)
        case atStart => exact ⟨0, Nat.zero_le _, rfl, ⟨none, 0, rfl, World.ownsRow_nil _ _ _ _⟩, Gr.refl _⟩
        case round =>
          obtain ⟨q, hq, rfl, ⟨A, c, rfl, hown⟩, hgq⟩ := hrel
          have Hown := Lib.hid hown
          have hfl := fe_len (eds n.pipes) n1 q
          have hqs := hgq.size
          obtain ⟨u, hu⟩ : ∃ u, u = (feTo (eds n.pipes) n1 q).length := ⟨_, rfl⟩
          rw [← hu] at Hown hfl
          clear hown
          by_cases hql : q < n1
          · obtain ⟨g0, _⟩ := own_int (own_gr HE5.out hgq) (get_int (l := entL n1 0 (sZ (eds n.pipes) n1)) (k := q) (by rw [entL_len]; exact hql))
            rw [entL_at HE.out h0 Hc.out hql] at g0
            have u1 : (q : Int) < (n1 : Int) := by omega
            have u0 : (0 : Int) ≤ (q : Int) := by omega
            rw [← hu]
            by_cases hq0 : q = 0
            · rw [if_pos hq0] at g0
              subst hq0
              have hz : u = 0 := by rw [hu]; rfl
              have Hu := Lib.hid hu
              clear hu
              go_wp2_with fail
              go_roundw
              case rel => exact ⟨1, by omega, by go_num, ⟨A, c, by rw [fe_one, Hu.out]; rfl, by have h := Hown.out; rw [Hu.out] at h; exact h⟩, hgq⟩
              case measure => simp [intOf]; omega
            · rw [if_neg hq0] at g0
              obtain ⟨x, hx⟩ : ∃ x, x = entZ (eds n.pipes) n1 q := ⟨_, rfl⟩
              rw [← hx] at g0
              have Hst : Hid (feTo (eds n.pipes) n1 (q + 1) = feTo (eds n.pipes) n1 q ++ [x]) := Lib.hid (by rw [hx]; exact fe_yes hq0)
              have Hu := Lib.hid hu
              have hxx : decide ((0 : Int) ≤ (x : Int)) = true := by simp
              have hxx' : (0 : Int) ≤ (x : Int) := by omega
              clear hx hu
              go_wp2_with (at_builtin; (refine wpList_append_own _ rfl _ _ _ rfl w5.heap.size 2 i0 _ 1 8 Tryz.underlying26 hi0 hz0 hz1 hz2 rfl (by omega) _ u _ rfl (Hown.out.alloc _) ⟨wr.heap.size, 0, none⟩ 1 1 [.int .i64 ((x : Int))] rfl rfl (World.news_of_block (cs := #[.int .i64 ((x : Int))]) (t := 2) (fr := (0, 0)) (heap_alloc_new wr _)) (by simp [Value.oneCell']) (by unfold maxLen; omega) (by omega) (by simp; omega) ?_; intro v' w9 hown9 hg9 _))
              obtain ⟨A9, c9, rfl⟩ := own_shape hown9
              have Ho9 := Lib.hid (own_cells_eq hown9 (nats_snoc _ x).symm)
              rw [← Hst.out] at Ho9
              have hgw9 := (hgq.alloc (.cells #[.int .i64 (x : Int)] 2)).grown hg9 (fun j hj => own_base_le Hown.out hj)
              have Hl9 : Hid (u + 1 = (feTo (eds n.pipes) n1 (q + 1)).length) := Lib.hid (by rw [Hst.out, List.length_append, Hu.out]; rfl)
              clear hown9 hg9
              go_wp2_with fail
              go_roundw
              case rel => exact ⟨q + 1, by omega, by go_num, ⟨A9, c9, by rw [← Hl9.out], by have h := Ho9.out; rw [Hl9.out] at h; exact h⟩, hgw9⟩
              case measure => simp [intOf]; omega
          · obtain rfl : q = n1 := by omega
            rw [← hu]
            have Hown2 := Lib.hid (own_base Hown.out hs5)
            have hgq2 := hgw5.trans hgq
            clear hu
            go_wp2_with fail
            go_roundw
            case rel => exact ⟨1, by omega, by go_num, ⟨A, u, c, rfl, hfl, Hown2.out⟩, fun h => absurd h (by decide), hgq2⟩
            case measure => simp [intOf]; omega
      · have tb : ((0 : Int) != (k : Int)) = true := by simp; omega
        rw [if_neg hk0] at Hown
        clear hnil
        go_wp2_with fail
        go_roundw
        case rel => exact ⟨k + 1, by omega, by go_num, ⟨A, m, c, rfl, hmn, by rw [if_neg (by omega)]; exact Hown.out⟩, fun h => absurd h (by omega), hgr⟩
        case measure => simp [intOf]; omega
    · obtain rfl : k = n1 := by omega
      rw [if_neg (by omega)] at Hown
      have hgs := hgr.size
      clear hnil
      go_wp2_with fail
      refine (sort_any _ _ Hown.out (by omega) hgs).mono ?_
      rintro e w6 ⟨rfl, ho6, hc6⟩
      have hfr : Gr w2 w6 := hgr.of_chg hc6 (fun j hj => own_base_le Hown.out (by rw [hj]; rfl))
      rw [fe_srt HE.out h0 Hc.out] at ho6
      have Ho6 := Lib.hid (own_base ho6 hgw2.size)
      clear ho6 hc6
      go_wp2_with fail
      go_ret
      exact ⟨_, _, _, rfl, hmn, Ho6.out, hgw2.trans hfr⟩
end Go.Proofs.YthhmhigddmimjaaGreat
/-
  Chords of a connected network, both sides; the forest of the reference. Printed by gen_pt4.py.
-/
set_option linter.unusedSimpArgs false
set_option linter.unusedVariables false
namespace Go.Proofs.YthhmhigddmimjaaGreat
open Go.ChangeShapes Go.WideShapes Go.ChangeAt Go.RowKit

set_option maxHeartbeats 6400000 in
set_option maxRecDepth 100000 in
theorem chordsOf_any {A1 A2 : Option Addr} {n1 c1 n2 c2 : Nat} (n : GNet) (w : World) (hA : NetAt w A1 n1 c1 A2 n2 c2 n) (hok : netOk n = true) (hc : conB (eds n.pipes) n1 = true) :
    Calls Tryz.prog 142 #[.agg #[.slice A1 n1 c1, .slice A2 n2 c2]] w fun e w' => ∃ A m c, e = .returned (.slice A m c) ∧ m ≤ n2 ∧ w'.ownsRow w.heap.size 2 1 (.slice A m c) m (nats (chL (eds n.pipes) n1)) ∧ Gr w w' := by
  obtain ⟨i0, hi0, hz0, hz1, hz2⟩ := info_parts infoInt64
  have hm1 := hA.m1
  have hm2 := hA.m2
  have hE : EsOk (eds n.pipes) n1 := by have := eds_ok hok; rw [hA.l1] at this; exact this
  have h0 : 0 < n1 := by have := (netOk_all hok).1.1; rw [hA.l1] at this; omega
  have hel : (eds n.pipes).length = n2 := by rw [eds, List.length_map]; exact hA.l2
  have HE := Lib.hid hE
  have Hc := Lib.hid hc
  have HA := Lib.hid hA
  have Hok := Lib.hid hok
  have Hel := Lib.hid hel
  clear hA hok hE hc hel
  go_enter Tryz.func142, Tryz.ntmps142
  go_wp2_with fail
  obtain ⟨w1, hw1⟩ : ∃ W, W = w.alloc (.cells #[.slice A1 n1 c1, .slice A2 n2 c2] 32) := ⟨_, rfl⟩
  have hg1 : Gr w w1 := by rw [hw1]; exact (Gr.refl _).alloc _
  have y0 : w1.cell? ⟨w.heap.size, 0, none⟩ = some (.slice A1 n1 c1) := by rw [hw1]; simp [go_sem]
  have y1 : w1.cell? ⟨w.heap.size, 1, none⟩ = some (.slice A2 n2 c2) := by rw [hw1]; simp [go_sem]
  rw [← hw1]
  clear hw1
  refine (forestOf_any n _ (HA.out.gr hg1) Hok.out Hc.out).mono ?_
  rintro e w2 ⟨AF, mF, cF, rfl, hmF, hF, hg2⟩
  have HF := Lib.hid (SlAt.of_own hF (by omega))
  have hgw2 := hg1.trans hg2
  replace y0 := hg2.has y0
  replace y1 := hg2.has y1
  clear hF
  go_wp2_with fail
  go_loopw [4, 13] (fun o i wr => ∃ q : Nat, q ≤ n2 ∧ i = .int .i64 q ∧ (∃ A c, o = .slice A (chTo' (eds n.pipes) n1 q).length c ∧ wr.ownsRow w2.heap.size 2 1 (.slice A (chTo' (eds n.pipes) n1 q).length c) (chTo' (eds n.pipes) n1 q).length (nats (chTo' (eds n.pipes) n1 q))) ∧ Gr w2 wr) (fun _ i _ => n2 - (intOf i).toNat)
  case atStart => exact ⟨0, Nat.zero_le _, rfl, ⟨none, 0, rfl, World.ownsRow_nil _ _ _ _⟩, Gr.refl _⟩
  case round =>
    obtain ⟨q, hq, rfl, ⟨A, c, rfl, hown⟩, hgq⟩ := hrel
    have Hown := Lib.hid hown
    have hfl := ch_len (eds n.pipes) n1 q
    have hqs := hgq.size
    have z1 := hgq.has y1
    obtain ⟨u, hu⟩ : ∃ u, u = (chTo' (eds n.pipes) n1 q).length := ⟨_, rfl⟩
    rw [← hu] at Hown hfl
    clear hown
    by_cases hql : q < n2
    · have u1 : (q : Int) < (n2 : Int) := by omega
      have u0 : (0 : Int) ≤ (q : Int) := by omega
      rw [← hu]
      go_wp2_with fail
      refine (binS_any (foL (eds n.pipes) n1) q _ (HF.out.gr hgq) (fo_sorted _ _)).mono ?_
      rintro e wz ⟨y, rfl, hz⟩
      rw [fo_has (by rw [Hel.out]; exact hql)]
      cases hb : isFo (eds n.pipes) n1 q with
      | true =>
        have Hst : Hid (chTo' (eds n.pipes) n1 (q + 1) = chTo' (eds n.pipes) n1 q) := Lib.hid (ch_no hb)
        have Hu := Lib.hid hu
        have Hownz := Lib.hid (own_gr Hown.out hz)
        clear hu hb
        go_wp2_with fail
        go_roundw
        case rel => exact ⟨q + 1, by omega, by go_num, ⟨A, c, by rw [Hst.out, Hu.out], by rw [Hst.out, ← Hu.out]; exact Hownz.out⟩, hgq.trans hz⟩
        case measure => simp [intOf]; omega
      | false =>
        have Hst : Hid (chTo' (eds n.pipes) n1 (q + 1) = chTo' (eds n.pipes) n1 q ++ [q]) := Lib.hid (ch_yes hb)
        have Hu := Lib.hid hu
        have Hownz := Lib.hid (own_gr Hown.out hz)
        have hgz := hgq.trans hz
        have hqz := hgz.size
        clear hu hb Hown
        go_wp2_with (at_builtin; (refine wpList_append_own _ rfl _ _ _ rfl w2.heap.size 2 i0 _ 1 8 Tryz.underlying26 hi0 hz0 hz1 hz2 rfl (by omega) _ u _ rfl (Hownz.out.alloc _) ⟨wz.heap.size, 0, none⟩ 1 1 [.int .i64 ((q : Int))] rfl rfl (World.news_of_block (cs := #[.int .i64 ((q : Int))]) (t := 2) (fr := (0, 0)) (heap_alloc_new wz _)) (by simp [Value.oneCell']) (by unfold maxLen; omega) (by omega) (by simp; omega) ?_; intro v' w9 hown9 hg9 _))
        obtain ⟨A9, c9, rfl⟩ := own_shape hown9
        have Ho9 := Lib.hid (own_cells_eq hown9 (nats_snoc _ q).symm)
        rw [← Hst.out] at Ho9
        have hgw9 := (hgz.alloc (.cells #[.int .i64 (q : Int)] 2)).grown hg9 (fun j hj => own_base_le Hownz.out hj)
        have Hl9 : Hid (u + 1 = (chTo' (eds n.pipes) n1 (q + 1)).length) := Lib.hid (by rw [Hst.out, List.length_append, Hu.out]; rfl)
        clear hown9 hg9
        go_wp2_with fail
        go_roundw
        case rel => exact ⟨q + 1, by omega, by go_num, ⟨A9, c9, by rw [← Hl9.out], by have h := Ho9.out; rw [Hl9.out] at h; exact h⟩, hgw9⟩
        case measure => simp [intOf]; omega
    · obtain rfl : q = n2 := by omega
      rw [← hu]
      have He : Hid (chTo' (eds n.pipes) n1 q = chL (eds n.pipes) n1) := Lib.hid (by rw [chTo', chL, Hel.out])
      rw [He.out] at Hown
      have Hown2 := Lib.hid (own_base Hown.out hgw2.size)
      clear hu
      go_wp2_with fail
      go_ret
      exact ⟨_, _, _, rfl, hfl, Hown2.out, hgw2.trans hgq⟩
set_option maxHeartbeats 6400000 in
set_option maxRecDepth 100000 in
theorem l04ForestC_any {A1 A2 : Option Addr} {n1 c1 n2 c2 : Nat} (n : GNet) (w : World) (hA : NetAt w A1 n1 c1 A2 n2 c2 n) (hok : netOk n = true) (hc : conB (eds n.pipes) n1 = true) :
    Calls Tryz.prog 152 #[.agg #[.slice A1 n1 c1, .slice A2 n2 c2]] w fun e w' => ∃ A m c, e = .returned (.slice A m c) ∧ m ≤ n2 ∧ w'.ownsRow w.heap.size 2 1 (.slice A m c) m (nats (foL (eds n.pipes) n1)) ∧ Gr w w' := by
  obtain ⟨i1, hi1, hy0, hy1, hy2⟩ := info_parts infoBool
  have hcm : comps (eds n.pipes) n1 = List.replicate n1 0 := by
    have hE : EsOk (eds n.pipes) n1 := by have := eds_ok hok; rw [hA.l1] at this; exact this
    exact con_comps hE (by have := (netOk_all hok).1.1; rw [hA.l1] at this; omega) hc
  obtain ⟨i0, hi0, hz0, hz1, hz2⟩ := info_parts infoInt64
  have hm1 := hA.m1
  have hm2 := hA.m2
  have hE : EsOk (eds n.pipes) n1 := by have := eds_ok hok; rw [hA.l1] at this; exact this
  have h0 : 0 < n1 := by have := (netOk_all hok).1.1; rw [hA.l1] at this; omega
  have hel : (eds n.pipes).length = n2 := by rw [eds, List.length_map]; exact hA.l2
  have HE := Lib.hid hE
  have Hc := Lib.hid hc
  have HA := Lib.hid hA
  have Hok := Lib.hid hok
  have Hel := Lib.hid hel
  clear hA hok hE hc hel
  go_enter Tryz.func152, Tryz.ntmps152
  go_wp2_with (at_make; refine wpList_make_full _ rfl _ _ _ rfl w.heap.size 4 i1 _ 1 Tryz.underlying149 hi1 hy0 hy1 .i64 .i64 _ _ n2 rfl rfl rfl rfl (by rw [hy2]; omega) (by unfold maxLen; omega) (by simp) ?_; intro w1 hown1 hg1; have hq1 : Gr (w.alloc (.cells #[.slice A1 n1 c1, .slice A2 n2 c2] 32)) w1 := Gr.of_grown hg1; have b0 : w1.cell? ⟨w.heap.size, 0, none⟩ = some (.slice A1 n1 c1) := hq1.has (by simp [go_sem]); have b1 : w1.cell? ⟨w.heap.size, 1, none⟩ = some (.slice A2 n2 c2) := hq1.has (by simp [go_sem]); have Ho1 := Lib.hid hown1; clear hown1)
  have o1 : w1.ownsRow w.heap.size 4 1 (.slice (some ⟨w.heap.size + 1, 0, none⟩) n2 n2) n2 (bools (mkTo (eds n.pipes) n1 0)) := by
    have := own_cells_eq Ho1.out (made_bools n2)
    rw [mk_zero, Hel.out]
    simpa using this
  have hgw1 : Gr w w1 := ((Gr.refl _).alloc _).trans hq1
  obtain ⟨F, hF⟩ : ∃ F, F = w.heap.size + 1 := ⟨_, rfl⟩
  rw [← hF] at o1 ⊢
  have hFw : w.heap.size < F := by omega
  have O1 := Lib.hid o1
  clear Ho1 o1 hq1 hg1 hF
  refine (l04Components_any n _ (HA.out.gr hgw1) Hok.out).mono ?_
  rintro e w2 ⟨G, rfl, hG, hg2⟩
  rw [hcm] at hG
  have hGb := own_base_le hG (k := G) rfl
  have HG := Lib.hid hG
  have O2 := Lib.hid (own_gr O1.out hg2)
  have hFl := own_block_lt O1.out (k := F) rfl
  have hGF : G ≠ F := by omega
  have x0 := hg2.has b0
  have x1 := hg2.has b1
  have hgw2 := hgw1.trans hg2
  clear hG O1 b0 b1 hgw1 hcm
  go_wp2_with fail
  go_loopw [5] (fun i wr => ∃ k : Nat, k ≤ n1 ∧ i = .int .i64 k ∧ wr.ownsRow w.heap.size 4 1 (.slice (some ⟨F, 0, none⟩) n2 n2) n2 (bools (mkTo (eds n.pipes) n1 (if k = 0 then 0 else n1))) ∧ wr.ownsRow w1.heap.size 2 1 (.slice (some ⟨G, 0, none⟩) n1 n1) n1 (ints (List.replicate n1 0)) ∧ Gr w wr ∧ wr.cell? ⟨w.heap.size, 0, none⟩ = some (.slice A1 n1 c1) ∧ wr.cell? ⟨w.heap.size, 1, none⟩ = some (.slice A2 n2 c2)) (fun i _ => n1 - (intOf i).toNat)
  case atStart => exact ⟨0, Nat.zero_le _, rfl, O2.out, HG.out, hgw2, x0, x1⟩
  case round =>
    obtain ⟨k, hk, rfl, hO, hG, hgr, y0, y1⟩ := hrel
    have HO := Lib.hid hO
    have HG2 := Lib.hid hG
    clear hO hG O2 HG hgw2 x0 x1
    by_cases hlt : k < n1
    · obtain ⟨d0, _⟩ := own_int HG2.out (k := k) (x := 0) (by rw [List.getElem?_replicate, if_pos hlt])
      have t1 : (k : Int) < (n1 : Int) := by omega
      have t0 : (0 : Int) ≤ (k : Int) := by omega
      by_cases hz : k = 0
      · subst hz
        rw [if_pos rfl] at HO
        go_wp2_with fail
        refine (l04Search_any n 0 _ (HA.out.gr hgr) Hok.out hlt).mono ?_
        rintro e w5 ⟨O, gE, gS, rfl, _, hS, hw5⟩
        have hent : w5.ownsRow wr.heap.size 2 1 (.slice (some ⟨gE, 0, none⟩) n1 n1) n1 (ints (entL n1 0 (sZ (eds n.pipes) n1))) := hS.ent
        have hgEb := hS.ge
        have Hent := Lib.hid hent
        have HO5 := Lib.hid (own_gr HO.out hw5)
        have HG5 := Lib.hid (own_gr HG2.out hw5)
        have y0 := hw5.has y0
        have y1 := hw5.has y1
        have hgw5 := hgr.trans hw5
        have hFl5 := own_block_lt HO.out (k := F) rfl
        have hEF : gE ≠ F := by omega
        have hbl := lt_of_cell y0
        clear hS hent d0 HO HG2
        go_wp2_with fail
        go_loopw [8] (fun i wr => ∃ q : Nat, q ≤ n1 ∧ i = .int .i64 q ∧ wr.ownsRow w.heap.size 4 1 (.slice (some ⟨F, 0, none⟩) n2 n2) n2 (bools (mkTo (eds n.pipes) n1 q)) ∧ w5.grownBy wr (some F)) (fun i _ => n1 - (intOf i).toNat)
        case atStart => exact ⟨0, Nat.zero_le _, rfl, HO5.out, World.grownBy.refl _ _⟩
        case round =>
          obtain ⟨q, hq, rfl, hb, hgrow⟩ := hrel
          have hE6 := Hent.out.kept hgrow (Or.inr fun e => hEF (Option.some.inj e))
          by_cases hql : q < n1
          · obtain ⟨f0, _⟩ := own_int hE6 (get_int (l := entL n1 0 (sZ (eds n.pipes) n1)) (k := q) (by rw [entL_len]; exact hql))
            rw [entL_at HE.out h0 Hc.out hql] at f0
            have u1 : (q : Int) < (n1 : Int) := by omega
            have u0 : (0 : Int) ≤ (q : Int) := by omega
            by_cases hq0 : q = 0
            · subst hq0
              rw [if_pos rfl] at f0
              have Hb := Lib.hid hb
              have Hgrow := Lib.hid hgrow
              clear hb hgrow hE6
              go_wp2_with fail
              go_roundw
              case rel => exact ⟨1, by omega, by go_num, by rw [mk_one]; exact Hb.out, Hgrow.out⟩
              case measure => simp [intOf]; omega
            · rw [if_neg hq0] at f0
              obtain ⟨x, hx⟩ : ∃ x, x = entZ (eds n.pipes) n1 q := ⟨_, rfl⟩
              have hxl : x < n2 := by rw [hx, ← Hel.out]; exact entZ_lt HE.out Hc.out hql hq0
              have Hst : Hid (mkTo (eds n.pipes) n1 (q + 1) = (mkTo (eds n.pipes) n1 q).set x true) := Lib.hid (by rw [hx]; exact mk_step hq0)
              rw [← hx] at f0
              have hbl' := own_blen hb
              obtain ⟨c, hc⟩ : ∃ c, (mkTo (eds n.pipes) n1 q)[x]? = some c := ⟨_, List.getElem?_eq_getElem (by omega)⟩
              obtain ⟨g0, g1⟩ := own_bool hb hc hxl
              obtain ⟨R1, R2⟩ := own_set_bool hb x true
              rw [← Hst.out] at R1
              have HR1 := Lib.hid R1
              have HR2 := Lib.hid R2
              have Hgrow := Lib.hid hgrow
              have v1 : (x : Int) < (n2 : Int) := by omega
              have v0 : (0 : Int) ≤ (x : Int) := by omega
              have tv : decide ((0 : Int) ≤ (x : Int)) = true := by simp
              clear hc R1 R2 hgrow hb hE6 hx hbl'
              go_wp2_with fail
              go_roundw
              case rel => exact ⟨q + 1, by omega, by go_num, HR1.out, grown_trans Hgrow.out HR2.out⟩
              case measure => simp [intOf]; omega
          · obtain rfl : q = n1 := by omega
            have z0 := (hgrow.cell_far _ (lt_of_cell y0) (by simp; omega)).trans y0
            have z1 := (hgrow.cell_far _ (lt_of_cell y1) (by simp; omega)).trans y1
            have Hb := Lib.hid hb
            have HG6 := Lib.hid (HG5.out.kept hgrow (Or.inr fun e => hGF (Option.some.inj e)))
            have hgw6 := hgw5.grown hgrow (fun _ e => by injection e with e; omega)
            clear hb hgrow hE6 y0 y1
            go_wp2_with fail
            go_roundw
            case rel => exact ⟨1, by omega, by go_num, by rw [if_neg (by decide)]; exact Hb.out, HG6.out, hgw6, z0, z1⟩
            case measure => simp [intOf]; omega
      · have tb : ((0 : Int) != (k : Int)) = true := by simp; omega
        rw [if_neg hz] at HO
        go_wp2_with fail
        go_roundw
        case rel => exact ⟨k + 1, by omega, by go_num, by rw [if_neg (by omega)]; exact HO.out, HG2.out, hgr, y0, y1⟩
        case measure => simp [intOf]; omega
    · obtain rfl : k = n1 := by omega
      rw [if_neg (by omega)] at HO
      have hbs := hgr.size
      have hFl6 := own_block_lt HO.out (k := F) rfl
      go_wp2_with fail
      generalize hw7 : World.alloc wr _ = w7
      have hg7 : Gr wr w7 := by rw [← hw7]; exact (Gr.refl _).alloc _
      have o7 : w7.ownsRow wr.heap.size 2 1 (.slice (some ⟨wr.heap.size, 0, none⟩) 0 0) 0 (nats []) := by
        rw [← hw7]; exact World.ownsRow_lit wr (e := 2) (size := 1) #[] 0 (Nat.le_refl _) (by unfold maxLen; omega) rfl
      have O7 := Lib.hid o7
      have HO7 := Lib.hid (own_gr HO.out hg7)
      have hgw7 := hgr.trans hg7
      obtain ⟨B, hB⟩ : ∃ B, B = wr.heap.size := ⟨_, rfl⟩
      rw [← hB] at O7 hbs hFl6 ⊢
      have hB7 : B ≤ w7.heap.size := by have := hg7.size; omega
      clear hw7 o7 hg7 HO HG2 hB y0 y1
      go_loopw [9, 10] (fun o i wq => ∃ q : Nat, q ≤ n2 ∧ i = .int .i64 q ∧ (∃ A c, o = .slice A (foTo' (eds n.pipes) k q).length c ∧ wq.ownsRow B 2 1 (.slice A (foTo' (eds n.pipes) k q).length c) (foTo' (eds n.pipes) k q).length (nats (foTo' (eds n.pipes) k q))) ∧ wq.ownsRow w.heap.size 4 1 (.slice (some ⟨F, 0, none⟩) n2 n2) n2 (bools (mkTo (eds n.pipes) k k)) ∧ Gr w wq ∧ B ≤ wq.heap.size) (fun _ i _ => n2 - (intOf i).toNat)
      case atStart => exact ⟨0, Nat.zero_le _, rfl, ⟨_, _, rfl, O7.out⟩, HO7.out, hgw7, hB7⟩
      case round =>
        obtain ⟨q, hq, rfl, ⟨A, c, rfl, hown⟩, hbo, hgq, hBq⟩ := hrel
        have Hown := Lib.hid hown
        have Hbo := Lib.hid hbo
        have hfl := fo_len (eds n.pipes) k q
        obtain ⟨u, hu⟩ : ∃ u, u = (foTo' (eds n.pipes) k q).length := ⟨_, rfl⟩
        rw [← hu] at Hown hfl
        clear hown hbo O7 HO7 hgw7
        by_cases hql : q < n2
        · obtain ⟨g0, _⟩ := own_bool Hbo.out (mk_get (es := eds n.pipes) (N := k) (p := q) (by rw [Hel.out]; exact hql)) hql
          have u1 : (q : Int) < (n2 : Int) := by omega
          have u0 : (0 : Int) ≤ (q : Int) := by omega
          have hqs := own_block_lt Hbo.out (k := F) rfl
          rw [← hu]
          cases hb : isFo (eds n.pipes) k q with
          | false =>
            rw [hb] at g0
            have Hst : Hid (foTo' (eds n.pipes) k (q + 1) = foTo' (eds n.pipes) k q) := Lib.hid (fo_no hb)
            have Hu := Lib.hid hu
            clear hu hb
            go_wp2_with fail
            go_roundw
            case rel => exact ⟨q + 1, by omega, by go_num, ⟨A, c, by rw [Hst.out, Hu.out], by rw [Hst.out, ← Hu.out]; exact Hown.out⟩, Hbo.out, hgq, hBq⟩
            case measure => simp [intOf]; omega
          | true =>
            rw [hb] at g0
            have Hst : Hid (foTo' (eds n.pipes) k (q + 1) = foTo' (eds n.pipes) k q ++ [q]) := Lib.hid (fo_yes hb)
            have Hu := Lib.hid hu
            clear hu hb
            go_wp2_with (at_builtin; (refine wpList_append_own _ rfl _ _ _ rfl B 2 i0 _ 1 8 Tryz.underlying26 hi0 hz0 hz1 hz2 rfl (by omega) _ u _ rfl (Hown.out.alloc _) ⟨wr.heap.size, 0, none⟩ 1 1 [.int .i64 ((q : Int))] rfl rfl (World.news_of_block (cs := #[.int .i64 ((q : Int))]) (t := 2) (fr := (0, 0)) (heap_alloc_new wr _)) (by simp [Value.oneCell']) (by unfold maxLen; omega) (by omega) (by simp; omega) ?_; intro v' w9 hown9 hg9 _))
            obtain ⟨A9, c9, rfl⟩ := own_shape hown9
            have Ho9 := Lib.hid (own_cells_eq hown9 (nats_snoc _ q).symm)
            rw [← Hst.out] at Ho9
            have hbo9 := (Hbo.out.alloc (.cells #[.int .i64 (q : Int)] 2)).kept hg9 (Or.inr fun e => by have h1 : B ≤ F := own_base_le Hown.out (k := F) e.symm; omega)
            have Hbo9 := Lib.hid hbo9
            have hgw9 := (hgq.alloc (.cells #[.int .i64 (q : Int)] 2)).grown hg9 (fun j hj => by have := own_base_le Hown.out hj; omega)
            have hB9 : B ≤ w9.heap.size := by have := hg9.size; simp at this; omega
            have Hl9 : Hid (u + 1 = (foTo' (eds n.pipes) k (q + 1)).length) := Lib.hid (by rw [Hst.out, List.length_append, Hu.out]; rfl)
            clear hown9 hg9 hbo9
            go_wp2_with fail
            go_roundw
            case rel => exact ⟨q + 1, by omega, by go_num, ⟨A9, c9, by rw [← Hl9.out], by have h := Ho9.out; rw [Hl9.out] at h; exact h⟩, Hbo9.out, hgw9, hB9⟩
            case measure => simp [intOf]; omega
        · obtain rfl : q = n2 := by omega
          rw [← hu]
          have He : Hid (foTo' (eds n.pipes) k q = foL (eds n.pipes) k) := Lib.hid (by rw [foTo', foL, Hel.out])
          rw [He.out] at Hown
          have Hown2 := Lib.hid (own_base Hown.out (by omega : w.heap.size ≤ B))
          clear hu
          go_wp2_with fail
          go_ret
          exact ⟨_, _, _, rfl, hfl, Hown2.out, hgq⟩
set_option maxHeartbeats 6400000 in
set_option maxRecDepth 100000 in
theorem l05ChordsC_any {A1 A2 : Option Addr} {n1 c1 n2 c2 : Nat} (n : GNet) (w : World) (hA : NetAt w A1 n1 c1 A2 n2 c2 n) (hok : netOk n = true) (hc : conB (eds n.pipes) n1 = true) :
    Calls Tryz.prog 163 #[.agg #[.slice A1 n1 c1, .slice A2 n2 c2]] w fun e w' => ∃ A m c, e = .returned (.slice A m c) ∧ m ≤ n2 ∧ w'.ownsRow w.heap.size 2 1 (.slice A m c) m (nats (chL (eds n.pipes) n1)) ∧ Gr w w' := by
  obtain ⟨i0, hi0, hz0, hz1, hz2⟩ := info_parts infoInt64
  have hm1 := hA.m1
  have hm2 := hA.m2
  have hE : EsOk (eds n.pipes) n1 := by have := eds_ok hok; rw [hA.l1] at this; exact this
  have h0 : 0 < n1 := by have := (netOk_all hok).1.1; rw [hA.l1] at this; omega
  have hel : (eds n.pipes).length = n2 := by rw [eds, List.length_map]; exact hA.l2
  have HE := Lib.hid hE
  have Hc := Lib.hid hc
  have HA := Lib.hid hA
  have Hok := Lib.hid hok
  have Hel := Lib.hid hel
  clear hA hok hE hc hel
  go_enter Tryz.func163, Tryz.ntmps163
  go_wp2_with fail
  obtain ⟨w1, hw1⟩ : ∃ W, W = w.alloc (.cells #[.slice A1 n1 c1, .slice A2 n2 c2] 32) := ⟨_, rfl⟩
  have hg1 : Gr w w1 := by rw [hw1]; exact (Gr.refl _).alloc _
  have y0 : w1.cell? ⟨w.heap.size, 0, none⟩ = some (.slice A1 n1 c1) := by rw [hw1]; simp [go_sem]
  have y1 : w1.cell? ⟨w.heap.size, 1, none⟩ = some (.slice A2 n2 c2) := by rw [hw1]; simp [go_sem]
  rw [← hw1]
  clear hw1
  refine (l04ForestC_any n _ (HA.out.gr hg1) Hok.out Hc.out).mono ?_
  rintro e w2 ⟨AF, mF, cF, rfl, hmF, hF, hg2⟩
  have HF := Lib.hid (SlAt.of_own hF (by omega))
  have hgw2 := hg1.trans hg2
  replace y0 := hg2.has y0
  replace y1 := hg2.has y1
  clear hF
  go_wp2_with fail
  generalize hw3 : World.alloc w2 _ = w3
  have hg3 : Gr w2 w3 := by rw [← hw3]; exact (Gr.refl _).alloc _
  have o3 : w3.ownsRow w2.heap.size 2 1 (.slice (some ⟨w2.heap.size, 0, none⟩) 0 0) 0 (nats []) := by
    rw [← hw3]; exact World.ownsRow_lit w2 (e := 2) (size := 1) #[] 0 (Nat.le_refl _) (by unfold maxLen; omega) rfl
  have O3 := Lib.hid o3
  clear hw3 o3
  go_loopw [4, 5] (fun o i wr => ∃ q : Nat, q ≤ n2 ∧ i = .int .i64 q ∧ (∃ A c, o = .slice A (chTo' (eds n.pipes) n1 q).length c ∧ wr.ownsRow w2.heap.size 2 1 (.slice A (chTo' (eds n.pipes) n1 q).length c) (chTo' (eds n.pipes) n1 q).length (nats (chTo' (eds n.pipes) n1 q))) ∧ Gr w2 wr) (fun _ i _ => n2 - (intOf i).toNat)
  case atStart => exact ⟨0, Nat.zero_le _, rfl, ⟨_, 0, rfl, O3.out⟩, hg3⟩
  case round =>
    obtain ⟨q, hq, rfl, ⟨A, c, rfl, hown⟩, hgq⟩ := hrel
    have Hown := Lib.hid hown
    have hfl := ch_len (eds n.pipes) n1 q
    have hqs := hgq.size
    have z1 := hgq.has y1
    obtain ⟨u, hu⟩ : ∃ u, u = (chTo' (eds n.pipes) n1 q).length := ⟨_, rfl⟩
    rw [← hu] at Hown hfl
    clear hown
    by_cases hql : q < n2
    · have u1 : (q : Int) < (n2 : Int) := by omega
      have u0 : (0 : Int) ≤ (q : Int) := by omega
      rw [← hu]
      go_wp2_with fail
      refine (l02Has_any (casts (foL (eds n.pipes) n1)) (q : Int) _ (HF.out.gr hgq)).mono ?_
      rintro e wz ⟨rfl, hwz⟩
      have hz : Gr wr wz := by rw [← hwz]; exact Gr.refl _
      clear hwz
      rw [fo_has (by rw [Hel.out]; exact hql)]
      cases hb : isFo (eds n.pipes) n1 q with
      | true =>
        have Hst : Hid (chTo' (eds n.pipes) n1 (q + 1) = chTo' (eds n.pipes) n1 q) := Lib.hid (ch_no hb)
        have Hu := Lib.hid hu
        have Hownz := Lib.hid (own_gr Hown.out hz)
        clear hu hb
        go_wp2_with fail
        go_roundw
        case rel => exact ⟨q + 1, by omega, by go_num, ⟨A, c, by rw [Hst.out, Hu.out], by rw [Hst.out, ← Hu.out]; exact Hownz.out⟩, hgq.trans hz⟩
        case measure => simp [intOf]; omega
      | false =>
        have Hst : Hid (chTo' (eds n.pipes) n1 (q + 1) = chTo' (eds n.pipes) n1 q ++ [q]) := Lib.hid (ch_yes hb)
        have Hu := Lib.hid hu
        have Hownz := Lib.hid (own_gr Hown.out hz)
        have hgz := hgq.trans hz
        have hqz := hgz.size
        clear hu hb Hown
        go_wp2_with (at_builtin; (refine wpList_append_own _ rfl _ _ _ rfl w2.heap.size 2 i0 _ 1 8 Tryz.underlying26 hi0 hz0 hz1 hz2 rfl (by omega) _ u _ rfl (Hownz.out.alloc _) ⟨wz.heap.size, 0, none⟩ 1 1 [.int .i64 ((q : Int))] rfl rfl (World.news_of_block (cs := #[.int .i64 ((q : Int))]) (t := 2) (fr := (0, 0)) (heap_alloc_new wz _)) (by simp [Value.oneCell']) (by unfold maxLen; omega) (by omega) (by simp; omega) ?_; intro v' w9 hown9 hg9 _))
        obtain ⟨A9, c9, rfl⟩ := own_shape hown9
        have Ho9 := Lib.hid (own_cells_eq hown9 (nats_snoc _ q).symm)
        rw [← Hst.out] at Ho9
        have hgw9 := (hgz.alloc (.cells #[.int .i64 (q : Int)] 2)).grown hg9 (fun j hj => own_base_le Hownz.out hj)
        have Hl9 : Hid (u + 1 = (chTo' (eds n.pipes) n1 (q + 1)).length) := Lib.hid (by rw [Hst.out, List.length_append, Hu.out]; rfl)
        clear hown9 hg9
        go_wp2_with fail
        go_roundw
        case rel => exact ⟨q + 1, by omega, by go_num, ⟨A9, c9, by rw [← Hl9.out], by have h := Ho9.out; rw [Hl9.out] at h; exact h⟩, hgw9⟩
        case measure => simp [intOf]; omega
    · obtain rfl : q = n2 := by omega
      rw [← hu]
      have He : Hid (chTo' (eds n.pipes) n1 q = chL (eds n.pipes) n1) := Lib.hid (by rw [chTo', chL, Hel.out])
      rw [He.out] at Hown
      have Hown2 := Lib.hid (own_base Hown.out hgw2.size)
      clear hu
      go_wp2_with fail
      go_ret
      exact ⟨_, _, _, rfl, hfl, Hown2.out, hgw2.trans hgq⟩
end Go.Proofs.YthhmhigddmimjaaGreat
