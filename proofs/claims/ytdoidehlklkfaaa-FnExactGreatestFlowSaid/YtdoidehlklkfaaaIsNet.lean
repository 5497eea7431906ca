/-
  IsNetwork, the reference's and the program's: both say netOk.
-/
import Derived.Test.YtdoidehlklkfaaaLeaf
import Derived.Test.YtdoidehlklkfaaaIndex
import Derived.Deep.RegionHeld3
namespace Go.Proofs.Ytdoidehlklkfaaa
open Go.ChangeShapes Go.WideShapes Go.ChangeAt Go.RowKit

theorem spIsNetwork_any (A1 A2 : Option Addr) (n1 c1 n2 c2 : Nat) (n : GNet) (w : World) (hA : NetAt w A1 n1 c1 A2 n2 c2 n) :
    Calls Try.prog 63 #[.agg #[.slice A1 n1 c1, .slice A2 n2 c2]] w fun e w' => e = .returned (.bool (netOk n)) ∧ Gr w w' := by
  have hm1 := hA.m1
  have hm2 := hA.m2
  have HA := Lib.hid hA
  clear hA
  by_cases h : 1 ≤ n1 ∧ n1 ≤ 24 ∧ n2 ≤ 40
  · obtain ⟨h1, h2, h3⟩ := h
    have t1 : decide ((n1 : Int) < 1) = false := by simp; omega
    have t2 : decide ((24 : Int) < (n1 : Int)) = false := by simp; omega
    have t3 : decide ((40 : Int) < (n2 : Int)) = false := by simp; omega
    go_enter Try.func63, Try.ntmps63
    go_wp2_with fail
    obtain ⟨w0, hw0⟩ : ∃ w0, w0 = w.alloc (.cells #[.slice A1 n1 c1, .slice A2 n2 c2] 33) := ⟨_, rfl⟩
    have hg0 : Gr w w0 := by rw [hw0]; exact (Gr.refl _).alloc _
    have b0 : w0.cell? ⟨w.heap.size, 0, none⟩ = some (.slice A1 n1 c1) := by rw [hw0]; simp [go_sem]
    have b1 : w0.cell? ⟨w.heap.size, 1, none⟩ = some (.slice A2 n2 c2) := by rw [hw0]; simp [go_sem]
    rw [← hw0]
    clear hw0
    go_loopw [3] (fun i wr => ∃ k : Nat, k ≤ n1 ∧ i = .int .i64 k ∧ (∀ j, j < k → okAt n.nodes j = true) ∧ Gr w0 wr) (fun i _ => n1 - (intOf i).toNat)
    case atStart => exact ⟨0, Nat.zero_le _, rfl, fun j h => absurd h (by omega), Gr.refl _⟩
    case round =>
      obtain ⟨i, hi, rfl, hall, hgr⟩ := hrel
      have Hall := Lib.hid hall
      clear hall
      have q0 := hgr.has b0
      have q1 := hgr.has b1
      by_cases hlt : i < n1
      · obtain ⟨x, hx⟩ : ∃ x, n.nodes[i]? = some x := ⟨_, List.getElem?_eq_getElem (by have := HA.out.l1; omega)⟩
        have hxs := HA.out.names x (List.mem_of_getElem? hx)
        obtain ⟨b, o, rfl, hb, e0, e1, e2⟩ := (HA.out.nodes.gr (hg0.trans hgr)).nd hx
        have Hx := Lib.hid hx
        clear hx
        go_wp2_with fail
        refine (spIsNode_any x _ hxs).mono ?_
        rintro e w1 ⟨rfl, hg1⟩
        cases hok : nodeOk x with
        | false =>
          have Hok := Lib.hid hok
          clear hok
          go_wp2_with fail
          go_ret
          exact ⟨ret_bool (netOk_node (by have := HA.out.l1; omega) (okAt_bad Hx.out Hok.out)).symm, (hg0.trans hgr).trans hg1⟩
        | true =>
          have Hok := Lib.hid hok
          clear hok
          go_wp2_with fail
          have hgr1 : Gr w0 w1 := hgr.trans hg1
          clear q0 q1
          go_loopw [4] (fun j wr' => ∃ k : Nat, k ≤ i ∧ j = .int .i64 k ∧ (∀ m, m < k → ∀ y, n.nodes[m]? = some y → sameName y x = false) ∧ Gr w1 wr') (fun j _ => i - (intOf j).toNat)
          case atStart => exact ⟨0, Nat.zero_le _, rfl, fun j h => absurd h (by omega), Gr.refl _⟩
          case round =>
            obtain ⟨k, hk, rfl, hno, hgr2⟩ := hrel
            have Hno := Lib.hid hno
            clear hno
            have hgr3 : Gr w0 wr := hgr1.trans hgr2
            have q0 := hgr3.has b0
            have q1 := hgr3.has b1
            by_cases hlt2 : k < i
            · obtain ⟨y, hy⟩ : ∃ y, n.nodes[k]? = some y := ⟨_, List.getElem?_eq_getElem (by have := HA.out.l1; omega)⟩
              obtain ⟨b', o', hbo, hb', r0, r1, r2⟩ := (HA.out.nodes.gr (hg0.trans hgr3)).nd hy
              injection hbo with hbo
              injection hbo with hbo1 hbo2
              subst hbo1 hbo2
              have s0 := (hg1.trans hgr2).has e0
              have Hy := Lib.hid hy
              clear hy
              go_wp2_with fail
              go_quiet (fail)
              cases hs : x.name.toList == y.name.toList with
              | true =>
                go_wp2_with fail
                go_ret
                exact ⟨ret_bool (netOk_node (by have := HA.out.l1; omega) (okAt_dup Hx.out hlt2 Hy.out (by rw [sameName_symm]; exact hs))).symm, (hg0.trans hgr3).drewN _⟩
              | false =>
                have Hs := Lib.hid hs
                go_wp2_with fail
                clear hs
                go_roundw
                case rel =>
                  refine ⟨k + 1, by omega, by go_num, fun m hm z hz => ?_, hgr2.drewN _⟩
                  by_cases e : m = k
                  · subst e
                    have := Hy.out
                    rw [hz] at this
                    injection this with this
                    subst this
                    rw [sameName_symm]; exact Hs.out
                  · exact Hno.out m (by omega) z hz
                case measure => simp [intOf]; omega
            · obtain rfl : k = i := by omega
              go_wp2_with fail
              go_roundw
              case rel =>
                refine ⟨k + 1, by omega, by go_num, fun m hm => ?_, hgr3⟩
                by_cases e : m = k
                · subst e; exact okAt_good Hx.out Hok.out Hno.out
                · exact Hall.out m (by omega)
              case measure => simp [intOf]; omega
      · obtain rfl : i = n1 := by omega
        go_wp2_with fail
        have hgr0 := hgr
        go_loopw [5] (fun j wr' => ∃ k : Nat, k ≤ n2 ∧ j = .int .i64 k ∧ (∀ m, m < k → ∀ y, n.pipes[m]? = some y → pipeOk i y = true) ∧ Gr w0 wr') (fun j _ => n2 - (intOf j).toNat)
        case atStart => exact ⟨0, Nat.zero_le _, rfl, fun j h => absurd h (by omega), hgr⟩
        case round =>
          clear q0 q1
          obtain ⟨k, hk, rfl, hno, hgr3⟩ := hrel
          have Hno := Lib.hid hno
          clear hno
          have q0 := hgr3.has b0
          have q1 := hgr3.has b1
          by_cases hlt2 : k < n2
          · obtain ⟨y, hy⟩ : ∃ y, n.pipes[k]? = some y := ⟨_, List.getElem?_eq_getElem (by have := HA.out.l2; omega)⟩
            obtain ⟨b, o, rfl, hb, r0, r1, r2, r3, r4⟩ := (HA.out.pipes.gr (hg0.trans hgr3)).pp hy
            have Hy := Lib.hid hy
            clear hy
            go_wp2_with fail
            go_region_held3 (fun w' => Gr wr w' ∧ w'.cell? ⟨w.heap.size, 0, none⟩ = some (.slice A1 i c1) ∧ w'.cell? ⟨w.heap.size, 1, none⟩ = some (.slice (some ⟨b, o, none⟩) n2 c2) ∧ w'.cell? ⟨b, o + k * 5, none⟩ = some (.int .i64 y.src) ∧ w'.cell? ⟨b, o + k * 5 + 1, none⟩ = some (.int .i64 y.dst) ∧ w'.cell? ⟨b, o + k * 5 + 2, none⟩ = some (.int .i64 y.k) ∧ w'.cell? ⟨b, o + k * 5 + 3, none⟩ = some (.int .i64 y.vol) ∧ w'.cell? ⟨b, o + k * 5 + 4, none⟩ = some (.int .i64 y.lim))
              (first | exact ⟨(Gr.refl _).drew, q0, q1, r0, r1, r2, r3, r4⟩ | exact ⟨by assumption, (by assumption : Gr wr _).has q0, (by assumption : Gr wr _).has q1, (by assumption : Gr wr _).has r0, (by assumption : Gr wr _).has r1, (by assumption : Gr wr _).has r2, (by assumption : Gr wr _).has r3, (by assumption : Gr wr _).has r4⟩)
              (first | (go_at_call 117; refine (l02Pipe_any y _ _ (by omega) (by omega)).mono ?_; rintro e w' ⟨rfl, hg1⟩; have hg2 : Gr wr w' := (Gr.refl _).drew.trans hg1))
            cases hok : pipeOk i y with
            | false =>
              have Hok := Lib.hid hok
              go_wp2_with fail
              go_ret
              exact ⟨ret_bool (netOk_pipe Hy.out (by rw [HA.out.l1]; exact Hok.out)).symm, (hg0.trans hgr3).trans (by assumption)⟩
            | true =>
              have Hok := Lib.hid hok
              go_wp2_with fail
              go_roundw
              case rel =>
                refine ⟨k + 1, by omega, by go_num, fun m hm z hz => ?_, hgr3.trans (by assumption)⟩
                by_cases e : m = k
                · subst e
                  have := Hy.out
                  rw [hz] at this
                  injection this with this
                  subst this
                  exact Hok.out
                · exact Hno.out m (by omega) z hz
              case measure => simp [intOf]; omega
          · obtain rfl : k = n2 := by omega
            go_wp2_with fail
            go_ret
            refine ⟨ret_bool (netOk_good ?_ ?_ ?_ ?_ ?_).symm, hg0.trans hgr3⟩
            · rw [HA.out.l1]; exact h1
            · rw [HA.out.l1]; exact h2
            · rw [HA.out.l2]; exact h3
            · rw [HA.out.l1]; exact Hall.out
            · rw [HA.out.l1]; exact fun m p hp => Hno.out m (by rw [← HA.out.l2]; exact (List.getElem?_eq_some_iff.1 hp).1) p hp
  · rw [netOk_len (by rw [HA.out.l1, HA.out.l2]; exact h)]
    by_cases h1 : 1 ≤ n1
    · by_cases h2 : n1 ≤ 24
      · have h3 : 40 < n2 := by omega
        clear h
        go_enter Try.func63, Try.ntmps63
        go_wp2_with fail
        go_ret
        exact ⟨rfl, (Gr.refl _).alloc _⟩
      · clear h
        go_enter Try.func63, Try.ntmps63
        go_wp2_with fail
        go_ret
        exact ⟨rfl, (Gr.refl _).alloc _⟩
    · clear h
      go_enter Try.func63, Try.ntmps63
      go_wp2_with fail
      go_ret
      exact ⟨rfl, (Gr.refl _).alloc _⟩
end Go.Proofs.Ytdoidehlklkfaaa
