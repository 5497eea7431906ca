/-
  How many pipes are set otherwise: the program's SwitchCount at settings that are right.
-/
import Derived.Test.YthhmhigddmimjaaGreatBitsA
import Derived.Test.YthhmhigddmimjaaGreatSwitches
set_option linter.unusedSimpArgs false
set_option linter.unusedVariables false
namespace Go.Proofs.YthhmhigddmimjaaGreat
open Go.ChangeShapes Go.WideShapes Go.ChangeAt Go.RowKit

set_option maxHeartbeats 1600000 in
theorem SwitchCount_ok {A1 A2 A3 A4 : Option Addr} {n1 c1 n2 c2 n3 c3 n4 c4 : Nat} (n : GNet) (zs ss : List Int) (w : World) (hA : NetAt w A1 n1 c1 A2 n2 c2 n) (hL : SlAt w 1 A3 n3 c3 (ints zs)) (hS : SlAt w 1 A4 n4 c4 (ints ss)) (hc : stCode n zs = 0) (hs : stOk n.pipes.length ss = true) :
    Calls Tryz.prog 30 #[.agg #[.slice A1 n1 c1, .slice A2 n2 c2], .slice A3 n3 c3, .slice A4 n4 c4] w fun e w' => e = .returned (.tuple #[.int .i64 (scTo zs ss n.pipes.length), .int .i64 0]) ∧ Gr w w' := by
  have hm2 := hA.m2
  have hl2 := hA.l2
  have hl3 := hL.sl.ilen
  have hl4 := hS.sl.ilen
  have hst : zs.length = n2 ∧ ss.length = n2 := by
    have h1 : stOk n.pipes.length zs = true := by
      rw [stCode] at hc
      split at hc
      · split at hc
        · assumption
        · exact absurd hc (by decide)
      · exact absurd hc (by decide)
    rw [stOk, Bool.and_eq_true, decide_eq_true_eq] at h1 hs
    omega
  obtain rfl : n3 = n2 := by omega
  obtain rfl : n4 = n3 := by omega
  rw [hl2] at hs ⊢
  have HA := Lib.hid hA
  have HL := Lib.hid hL
  have HS := Lib.hid hS
  have Hl3 := Lib.hid hl3
  have Hl4 := Lib.hid hl4
  have Hs := Lib.hid hs
  have Hc := Lib.hid hc
  have tb : (stCode n zs != 0) = false := by simp [hc]
  clear hA hL hS hl2 hl3 hl4 hst hs hc
  go_enter Tryz.func30, Tryz.ntmps30
  go_wp2_with fail
  refine (checkSettings_any n zs _ (HA.out.gr ((Gr.refl _).alloc _)) (HL.out.gr ((Gr.refl _).alloc _))).mono ?_
  rintro e w0 ⟨rfl, hg1⟩
  have hg0 : Gr w w0 := ((Gr.refl _).alloc _).trans hg1
  have b0 : w0.cell? ⟨w.heap.size, 0, none⟩ = some (.slice A1 n1 c1) := hg1.has (by simp [go_sem])
  have b1 : w0.cell? ⟨w.heap.size, 1, none⟩ = some (.slice A2 n4 c2) := hg1.has (by simp [go_sem])
  clear hg1
  go_wp2_with fail
  refine (areSettings_any ss _ (HS.out.gr hg0) hm2).mono ?_
  rintro e w1 ⟨rfl, hg2⟩
  rw [Hs.out]
  have hg := hg0.trans hg2
  clear hg2 b0 b1
  go_wp2_with fail
  go_loop [9, 24] (fun s i => ∃ k : Nat, k ≤ n4 ∧ i = .int .i64 k ∧ s = .int .i64 (scTo zs ss k)) (fun _ i => n4 - (intOf i).toNat)
  case atStart => exact ⟨0, Nat.zero_le _, rfl, rfl⟩
  case round =>
    obtain ⟨k, hk, rfl, rfl⟩ := hrel
    by_cases hlt : k < n4
    · obtain ⟨z, hz⟩ : ∃ z, zs[k]? = some z := ⟨_, List.getElem?_eq_getElem (by have := Hl3.out; omega)⟩
      obtain ⟨y, hy⟩ : ∃ y, ss[k]? = some y := ⟨_, List.getElem?_eq_getElem (by have := Hl4.out; omega)⟩
      obtain ⟨b, o, hXA, hb, e0⟩ := (HL.out.gr hg).sl.int hz
      obtain ⟨b', o', hYA, hb', e1⟩ := (HS.out.gr hg).sl.int hy
      subst hXA
      subst hYA
      have hzd : zs.getD k 0 = z := by rw [List.getD_eq_getElem?_getD, hz]; rfl
      have hyd : ss.getD k 0 = y := by rw [List.getD_eq_getElem?_getD, hy]; rfl
      have hst := scTo_succ zs ss k
      rw [hzd, hyd] at hst
      have hbn := scTo_bnd zs ss k
      have Hst := Lib.hid hst
      have t1 : (k : Int) < (n4 : Int) := by omega
      have t0 : (0 : Int) ≤ (k : Int) := by omega
      have hw1 : IntKind.i64.wrap (scTo zs ss k + 1) = scTo zs ss k + 1 := IntWalk.i64_in _ (by omega)
      by_cases he : y = z
      · have te : (y != z) = false := by simp [he]
        have Hv : Hid (scTo zs ss (k + 1) = scTo zs ss k) := Lib.hid (by rw [hst, if_pos he.symm]; omega)
        clear hz hy hzd hyd hst hbn he hw1
        go_wp2_with fail
        go_round
        case rel => exact ⟨k + 1, by omega, by go_num, by rw [Hv.out]⟩
        case measure => simp [intOf]; omega
      · have te : (y != z) = true := by simp [he]
        have Hv : Hid (scTo zs ss (k + 1) = scTo zs ss k + 1) := Lib.hid (by rw [hst, if_neg (fun e => he e.symm)])
        clear hz hy hzd hyd hst he
        go_wp2_with fail
        go_round
        case rel => exact ⟨k + 1, by omega, by go_num, by rw [Hv.out]⟩
        case measure => simp [intOf]; omega
    · obtain rfl : k = n4 := by omega
      go_wp2_with fail
      go_ret2
      exact ⟨rfl, hg⟩
end Go.Proofs.YthhmhigddmimjaaGreat
