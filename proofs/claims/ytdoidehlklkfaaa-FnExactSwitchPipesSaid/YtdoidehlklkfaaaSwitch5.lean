/-
  SwitchPipes: the contracts.
-/
import Derived.Test.YtdoidehlklkfaaaSwitch4
namespace Go.Proofs.Ytdoidehlklkfaaa
open Go.ChangeShapes Go.WideShapes Go.ChangeAt Go.RowKit

def spwCode (n : GNet) (zs ss : List Int) (m : Int) : Int := if swCode n zs ss = 0 then (if inB 0 m (2 ^ ss.length - 1) then 0 else 2) else swCode n zs ss
def spwRes (n : GNet) (zs ss : List Int) (m : Int) : List Int := if spwCode n zs ss m = 0 then swTo m zs ss ss.length else []
theorem pow_bnd {q : Nat} {m : Int} (hq : q ≤ 5) (h : inB 0 m (2 ^ q - 1) = true) : 0 ≤ m ∧ m ≤ 31 := by
  have h2 := inB_iff.1 h
  have : q = 0 ∨ q = 1 ∨ q = 2 ∨ q = 3 ∨ q = 4 ∨ q = 5 := by omega
  rcases this with rfl | rfl | rfl | rfl | rfl | rfl <;> simp at h2 <;> omega
theorem pow_wrap {q : Nat} (hq : q ≤ 5) : wrap64 (wrap64 (2 ^ q) - 1) = 2 ^ q - 1 := by
  have : q = 0 ∨ q = 1 ∨ q = 2 ∨ q = 3 ∨ q = 4 ∨ q = 5 := by omega
  rcases this with rfl | rfl | rfl | rfl | rfl | rfl <;> simp [wrap64]
theorem l27_zeros (n : GNet) (zs ss : List Int) (N : Nat) : l27Val n zs ss (List.replicate N 0) N = swCode n zs ss := by
  by_cases h : swCode n zs ss = 0
  · have : supOk N (List.replicate N 0) = true := by
      simp only [supOk, List.length_replicate, decide_true, Bool.true_and, List.all_eq_true]
      intro z hz
      rw [List.eq_of_mem_replicate hz]
      decide
    rw [l27Val_eq h, this, h]; rfl
  · exact l27Val_bad h
set_option maxRecDepth 100000 in
theorem SwitchPipes_any {A1 A2 A3 A4 : Option Addr} {n1 c1 n2 c2 n3 c3 n4 c4 : Nat} (n : GNet) (zs ss : List Int) (m : Int) (w : World) (hA : NetAt w A1 n1 c1 A2 n2 c2 n) (hL : SlAt w 1 A3 n3 c3 (ints zs)) (hS : SlAt w 1 A4 n4 c4 (ints ss)) (_wf : (Lit.int .i64 m).wf = true) :
    Calls Try.prog 39 #[.agg #[.slice A1 n1 c1, .slice A2 n2 c2], .slice A3 n3 c3, .slice A4 n4 c4, .int .i64 m] w fun e w' => ∃ A q c, e = .returned (.tuple #[.slice A q c, .int .i64 (spwCode n zs ss m)]) ∧ q ≤ 1048576 ∧ w'.ownsRow w.heap.size 2 1 (.slice A q c) q (ints (spwRes n zs ss m)) ∧ Gr w w' := by
  have hm3 := hL.small
  have hm4 := hS.small
  have hl4 := hS.sl.ilen
  have Hl4 := Lib.hid hl4
  have Hl3 := Lib.hid hL.sl.ilen
  have HA := Lib.hid hA
  have HL := Lib.hid hL
  have HS := Lib.hid hS
  clear hA hL hS hl4
  go_enter Try.func39, Try.ntmps39
  go_wp2_with fail
  refine (checkSwitches_any n zs ss _ (HA.out.gr ((Gr.refl _).alloc _)) (HL.out.gr ((Gr.refl _).alloc _)) (HS.out.gr ((Gr.refl _).alloc _))).mono ?_
  rintro e w1 ⟨rfl, hg1⟩
  have hg0 : Gr w w1 := ((Gr.refl _).alloc _).trans hg1
  clear hg1
  by_cases hc : swCode n zs ss = 0
  · have Hc := Lib.hid hc
    have tb : (swCode n zs ss != 0) = false := by simp [hc]
    obtain ⟨_, z2, z3, z4⟩ := swCode_zero hc
    have hn45 : n4 ≤ 5 := by rw [← Hl4.out]; exact z3
    have Hz2 := Lib.hid z2
    have Hz4 := Lib.hid z4
    clear hc z2 z3 z4
    go_wp2_with fail
    rw [pow_wrap hn45]
    refine (within_any _ _ _ _).mono ?_
    rintro e w2 ⟨rfl, rfl⟩
    cases hin : inB 0 m (2 ^ n4 - 1) with
    | true =>
      have hmb := pow_bnd hn45 hin
      have Hin := Lib.hid hin
      have e0 : spwCode n zs ss m = 0 := by rw [spwCode, if_pos Hc.out, Hl4.out, if_pos hin]
      have He := Lib.hid e0
      have hss : ∀ (j : Nat) (z : Int), ss[j]? = some z → 0 ≤ z ∧ z < n3 := by
        intro j z hz
        have h1 := setOk_at Hz4.out j z hz
        have h2 := Hz2.out
        simp only [stOk, Bool.and_eq_true, decide_eq_true_eq] at h2
        have h3 := Hl3.out
        omega
      have Hss := Lib.hid hss
      clear hin e0 hss
      go_wp2_with fail
      refine (switched_any zs ss m _ (HL.out.gr hg0) (HS.out.gr hg0) Hss.out hmb hn45).mono ?_
      rintro e w3 ⟨A, c, rfl, ho, hg3⟩
      have Ho := Lib.hid ho
      clear ho
      go_wp2_with fail
      go_ret2
      refine ⟨A, n3, c, by rw [He.out]; rfl, hm3, ?_, hg0.trans hg3⟩
      rw [spwRes, if_pos He.out, Hl4.out]
      exact own_base Ho.out hg0.size
    | false =>
      have e0 : spwCode n zs ss m = 2 := by rw [spwCode, if_pos Hc.out, Hl4.out, if_neg (by simp [hin])]
      have He := Lib.hid e0
      clear e0
      go_wp2_with fail
      go_ret2
      refine ⟨none, 0, 0, by rw [He.out]; rfl, by omega, ?_, hg0⟩
      rw [spwRes, if_neg (by rw [He.out]; decide)]
      exact World.ownsRow_nil _ _ _ _
  · have Hc := Lib.hid hc
    have tb : (swCode n zs ss != 0) = true := by simp [hc]
    clear hc
    go_wp2_with fail
    go_ret2
    have e : spwCode n zs ss m = swCode n zs ss := by rw [spwCode, if_neg Hc.out]
    refine ⟨none, 0, 0, by rw [e]; rfl, by omega, ?_, hg0⟩
    rw [spwRes, if_neg (by rw [e]; exact Hc.out)]
    exact World.ownsRow_nil _ _ _ _
set_option maxRecDepth 100000 in
theorem spSwitchPipes_any {A1 A2 A3 A4 : Option Addr} {n1 c1 n2 c2 n3 c3 n4 c4 : Nat} (n : GNet) (zs ss : List Int) (m : Int) (w : World) (hA : NetAt w A1 n1 c1 A2 n2 c2 n) (hL : SlAt w 1 A3 n3 c3 (ints zs)) (hS : SlAt w 1 A4 n4 c4 (ints ss)) (_wf : (Lit.int .i64 m).wf = true) :
    Calls Try.prog 37 #[.agg #[.slice A1 n1 c1, .slice A2 n2 c2], .slice A3 n3 c3, .slice A4 n4 c4, .int .i64 m] w fun e w' => ∃ A q c, e = .returned (.tuple #[.slice A q c, .int .i64 (spwCode n zs ss m)]) ∧ q ≤ 1048576 ∧ w'.ownsRow w.heap.size 2 1 (.slice A q c) q (ints (spwRes n zs ss m)) ∧ Gr w w' := by
  have hm3 := hL.small
  have hm1 := hA.m1
  have hm4 := hS.small
  have hl4 := hS.sl.ilen
  have Hl4 := Lib.hid hl4
  have Hl3 := Lib.hid hL.sl.ilen
  have HA := Lib.hid hA
  have HL := Lib.hid hL
  have HS := Lib.hid hS
  clear hA hL hS hl4
  go_enter Try.func37, Try.ntmps37
  go_wp2_with fail
  obtain ⟨w0, hw0⟩ : ∃ w0, w0 = w.alloc (.cells #[.slice A1 n1 c1, .slice A2 n2 c2] 33) := ⟨_, rfl⟩
  have hgr0 : Gr w w0 := by rw [hw0]; exact (Gr.refl _).alloc _
  have b0 : w0.cell? ⟨w.heap.size, 0, none⟩ = some (.slice A1 n1 c1) := by rw [hw0]; simp [go_sem]
  have b1 : w0.cell? ⟨w.heap.size, 1, none⟩ = some (.slice A2 n2 c2) := by rw [hw0]; simp [go_sem]
  rw [← hw0]
  clear hw0
  have zz : w.heap.size < w0.heap.size := lt_of_cell b0
  obtain ⟨i0, hi0, hz0, hz1, hz2⟩ := info_parts infoInt64
  obtain ⟨wm, hmk, hownm, hgm⟩ := run_makeSlice_full (P := Try.prog) w0.drew w0.heap.size 49 2 i0 _ 1 Try.underlying49 hi0 hz0 hz1 .i64 .i64 n1 (by omega) (by rw [hz2]; omega) (by unfold maxLen; omega) (Nat.le_refl _)
  have hgwm : Gr w0 wm := (Gr.refl _).drew.grown hgm (fun _ e => by cases e)
  have Hom := Lib.hid hownm
  clear hownm hgm
  go_region_held3 (fun w' => Gr w0 w' ∧ w'.cell? ⟨w.heap.size, 0, none⟩ = some (.slice A1 n1 c1) ∧ w'.cell? ⟨w.heap.size, 1, none⟩ = some (.slice A2 n2 c2))
    (first | exact ⟨(Gr.refl _).drew, b0, b1⟩ | exact ⟨by assumption, (by assumption : Gr w0 _).has b0, (by assumption : Gr w0 _).has b1⟩)
    (first
      | (go_at_call 81; refine (l27Code_any n zs ss (List.replicate n1 0) _ (HA.out.gr (hgr0.trans hgwm)) (HL.out.gr (hgr0.trans hgwm)) (HS.out.gr (hgr0.trans hgwm)) (SlAt.of_own (own_cells_eq Hom.out (made_ints n1)) hm1)).mono ?_; rintro e w1 ⟨rfl, hg1⟩; have hx : Gr w0 w1 := hgwm.trans hg1))
  have hg0 : Gr w w1 := hgr0.trans (by assumption)
  have hl27 : l27Val n zs ss (List.replicate n1 0) n1 = swCode n zs ss := l27_zeros n zs ss n1
  rw [hl27]
  clear hmk hl27 b0 b1
  by_cases hc : swCode n zs ss = 0
  · have Hc := Lib.hid hc
    have tb : (swCode n zs ss != 0) = false := by simp [hc]
    obtain ⟨_, z2, z3, z4⟩ := swCode_zero hc
    have hn45 : n4 ≤ 5 := by rw [← Hl4.out]; exact z3
    have Hz2 := Lib.hid z2
    have Hz4 := Lib.hid z4
    clear hc z2 z3 z4
    go_wp2_with fail
    rw [pow_wrap hn45]
    refine (l01In_any _ _ _ _).mono ?_
    rintro e w2 ⟨rfl, rfl⟩
    cases hin : inB 0 m (2 ^ n4 - 1) with
    | true =>
      have hmb := pow_bnd hn45 hin
      have Hin := Lib.hid hin
      have e0 : spwCode n zs ss m = 0 := by rw [spwCode, if_pos Hc.out, Hl4.out, if_pos hin]
      have He := Lib.hid e0
      have hss : ∀ (j : Nat) (z : Int), ss[j]? = some z → 0 ≤ z ∧ z < n3 := by
        intro j z hz
        have h1 := setOk_at Hz4.out j z hz
        have h2 := Hz2.out
        simp only [stOk, Bool.and_eq_true, decide_eq_true_eq] at h2
        have h3 := Hl3.out
        omega
      have Hss := Lib.hid hss
      clear hin e0 hss
      go_wp2_with fail
      refine (l27Switch_any zs ss m _ (HL.out.gr hg0) (HS.out.gr hg0) Hss.out hmb hn45).mono ?_
      rintro e w3 ⟨A, c, rfl, ho, hg3⟩
      have Ho := Lib.hid ho
      clear ho
      go_wp2_with fail
      go_ret2
      refine ⟨A, n3, c, by rw [He.out]; rfl, hm3, ?_, hg0.trans hg3⟩
      rw [spwRes, if_pos He.out, Hl4.out]
      exact own_base Ho.out hg0.size
    | false =>
      have e0 : spwCode n zs ss m = 2 := by rw [spwCode, if_pos Hc.out, Hl4.out, if_neg (by simp [hin])]
      have He := Lib.hid e0
      clear e0
      go_wp2_with fail
      go_ret2
      refine ⟨none, 0, 0, by rw [He.out]; rfl, by omega, ?_, hg0⟩
      rw [spwRes, if_neg (by rw [He.out]; decide)]
      exact World.ownsRow_nil _ _ _ _
  · have Hc := Lib.hid hc
    have tb : (swCode n zs ss != 0) = true := by simp [hc]
    clear hc
    go_wp2_with fail
    go_ret2
    have e : spwCode n zs ss m = swCode n zs ss := by rw [spwCode, if_neg Hc.out]
    refine ⟨none, 0, 0, by rw [e]; rfl, by omega, ?_, hg0⟩
    rw [spwRes, if_neg (by rw [e]; exact Hc.out)]
    exact World.ownsRow_nil _ _ _ _
end Go.Proofs.Ytdoidehlklkfaaa
