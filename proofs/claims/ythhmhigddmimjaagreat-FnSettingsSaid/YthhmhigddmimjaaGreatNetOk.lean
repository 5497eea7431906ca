import Derived.Test.YthhmhigddmimjaaGreatLeaf
import Derived.Test.YthhmhigddmimjaaGreatIndex
import Derived.Deep.RegionHeld3
import Derived.Test.YthhmhigddmimjaaGreatText
/-
  IsNetwork, the reference's and the program's: both say netOk.
-/
namespace Go.Proofs.YthhmhigddmimjaaGreat
open Go.ChangeShapes Go.WideShapes Go.ChangeAt Go.RowKit

theorem spIsNetwork_any (A1 A2 : Option Addr) (n1 c1 n2 c2 : Nat) (n : GNet) (w : World) (hA : NetAt w A1 n1 c1 A2 n2 c2 n) :
    Calls Tryz.prog 82 #[.agg #[.slice A1 n1 c1, .slice A2 n2 c2]] w fun e w' => e = .returned (.bool (netOk n)) ∧ Gr w w' := by
  have hm1 := hA.m1
  have hm2 := hA.m2
  have HA := Lib.hid hA
  clear hA
  by_cases h : 1 ≤ n1 ∧ n1 ≤ 24 ∧ n2 ≤ 40
  · obtain ⟨h1, h2, h3⟩ := h
    have t1 : decide ((n1 : Int) < 1) = false := by simp; omega
    have t2 : decide ((24 : Int) < (n1 : Int)) = false := by simp; omega
    have t3 : decide ((40 : Int) < (n2 : Int)) = false := by simp; omega
    go_enter Tryz.func82, Tryz.ntmps82
    go_wp2_with fail
    obtain ⟨w0, hw0⟩ : ∃ w0, w0 = w.alloc (.cells #[.slice A1 n1 c1, .slice A2 n2 c2] 32) := ⟨_, rfl⟩
    have hg0 : Gr w w0 := by rw [hw0]; exact (Gr.refl _).alloc _
    have b0 : w0.cell? ⟨w.heap.size, 0, none⟩ = some (.slice A1 n1 c1) := by rw [hw0]; simp [go_sem]
    have b1 : w0.cell? ⟨w.heap.size, 1, none⟩ = some (.slice A2 n2 c2) := by rw [hw0]; simp [go_sem]
    rw [← hw0]
    clear hw0
    go_loopw [3] (fun i wr => ∃ k : Nat, k ≤ n1 ∧ i = .int .i64 k ∧ (∀ j, j < k → okAt n.nodes j = true) ∧ Gr w0 wr) (fun i _ => n1 - (intOf i).toNat)
    case atStart => exact ⟨0, Nat.zero_le _, rfl, fun j h => absurd h (by omega), Gr.refl _⟩
    case round =>
      obtain ⟨i, hi, rfl, hall, hgr⟩ := hrel
      have Hall := Lib.hid hall
      clear hall
      have q0 := hgr.has b0
      have q1 := hgr.has b1
      by_cases hlt : i < n1
      · obtain ⟨x, hx⟩ : ∃ x, n.nodes[i]? = some x := ⟨_, List.getElem?_eq_getElem (by have := HA.out.l1; omega)⟩
        have hxs := HA.out.names x (List.mem_of_getElem? hx)
        obtain ⟨b, o, rfl, hb, e0, e1, e2⟩ := (HA.out.nodes.gr (hg0.trans hgr)).nd hx
        have Hx := Lib.hid hx
        clear hx
        go_wp2_with fail
        refine (spIsNode_any x _ hxs).mono ?_
        rintro e w1 ⟨rfl, hg1⟩
        cases hok : nodeOk x with
        | false =>
          have Hok := Lib.hid hok
          clear hok
          go_wp2_with fail
          go_ret
          exact ⟨ret_bool (netOk_node (by have := HA.out.l1; omega) (okAt_bad Hx.out Hok.out)).symm, (hg0.trans hgr).trans hg1⟩
        | true =>
          have Hok := Lib.hid hok
          clear hok
          go_wp2_with fail
          have hgr1 : Gr w0 w1 := hgr.trans hg1
          clear q0 q1
          go_loopw [4] (fun j wr' => ∃ k : Nat, k ≤ i ∧ j = .int .i64 k ∧ (∀ m, m < k → ∀ y, n.nodes[m]? = some y → sameName y x = false) ∧ Gr w1 wr') (fun j _ => i - (intOf j).toNat)
          case atStart => exact ⟨0, Nat.zero_le _, rfl, fun j h => absurd h (by omega), Gr.refl _⟩
          case round =>
            obtain ⟨k, hk, rfl, hno, hgr2⟩ := hrel
            have Hno := Lib.hid hno
            clear hno
            have hgr3 : Gr w0 wr := hgr1.trans hgr2
            have q0 := hgr3.has b0
            have q1 := hgr3.has b1
            by_cases hlt2 : k < i
            · obtain ⟨y, hy⟩ : ∃ y, n.nodes[k]? = some y := ⟨_, List.getElem?_eq_getElem (by have := HA.out.l1; omega)⟩
              obtain ⟨b', o', hbo, hb', r0, r1, r2⟩ := (HA.out.nodes.gr (hg0.trans hgr3)).nd hy
              injection hbo with hbo
              injection hbo with hbo1 hbo2
              subst hbo1 hbo2
              have s0 := (hg1.trans hgr2).has e0
              have Hy := Lib.hid hy
              clear hy
              go_wp2_with fail
              go_quiet (fail)
              cases hs : x.name.toList == y.name.toList with
              | true =>
                go_wp2_with fail
                go_ret
                exact ⟨ret_bool (netOk_node (by have := HA.out.l1; omega) (okAt_dup Hx.out hlt2 Hy.out (by rw [sameName_symm]; exact hs))).symm, (hg0.trans hgr3).drewN _⟩
              | false =>
                have Hs := Lib.hid hs
                go_wp2_with fail
                clear hs
                go_roundw
                case rel =>
                  refine ⟨k + 1, by omega, by go_num, fun m hm z hz => ?_, hgr2.drewN _⟩
                  by_cases e : m = k
                  · subst e
                    have := Hy.out
                    rw [hz] at this
                    injection this with this
                    subst this
                    rw [sameName_symm]; exact Hs.out
                  · exact Hno.out m (by omega) z hz
                case measure => simp [intOf]; omega
            · obtain rfl : k = i := by omega
              go_wp2_with fail
              go_roundw
              case rel =>
                refine ⟨k + 1, by omega, by go_num, fun m hm => ?_, hgr3⟩
                by_cases e : m = k
                · subst e; exact okAt_good Hx.out Hok.out Hno.out
                · exact Hall.out m (by omega)
              case measure => simp [intOf]; omega
      · obtain rfl : i = n1 := by omega
        go_wp2_with fail
        have hgr0 := hgr
        go_loopw [5] (fun j wr' => ∃ k : Nat, k ≤ n2 ∧ j = .int .i64 k ∧ (∀ m, m < k → ∀ y, n.pipes[m]? = some y → pipeOk i y = true) ∧ Gr w0 wr') (fun j _ => n2 - (intOf j).toNat)
        case atStart => exact ⟨0, Nat.zero_le _, rfl, fun j h => absurd h (by omega), hgr⟩
        case round =>
          clear q0 q1
          obtain ⟨k, hk, rfl, hno, hgr3⟩ := hrel
          have Hno := Lib.hid hno
          clear hno
          have q0 := hgr3.has b0
          have q1 := hgr3.has b1
          by_cases hlt2 : k < n2
          · obtain ⟨y, hy⟩ : ∃ y, n.pipes[k]? = some y := ⟨_, List.getElem?_eq_getElem (by have := HA.out.l2; omega)⟩
            obtain ⟨b, o, rfl, hb, r0, r1, r2, r3, r4⟩ := (HA.out.pipes.gr (hg0.trans hgr3)).pp hy
            have Hy := Lib.hid hy
            clear hy
            go_wp2_with fail
            go_region_held3 (fun w' => Gr wr w' ∧ w'.cell? ⟨w.heap.size, 0, none⟩ = some (.slice A1 i c1) ∧ w'.cell? ⟨w.heap.size, 1, none⟩ = some (.slice (some ⟨b, o, none⟩) n2 c2) ∧ w'.cell? ⟨b, o + k * 5, none⟩ = some (.int .i64 y.src) ∧ w'.cell? ⟨b, o + k * 5 + 1, none⟩ = some (.int .i64 y.dst) ∧ w'.cell? ⟨b, o + k * 5 + 2, none⟩ = some (.int .i64 y.k) ∧ w'.cell? ⟨b, o + k * 5 + 3, none⟩ = some (.int .i64 y.vol) ∧ w'.cell? ⟨b, o + k * 5 + 4, none⟩ = some (.int .i64 y.lim))
              (first | exact ⟨(Gr.refl _).drew, q0, q1, r0, r1, r2, r3, r4⟩ | exact ⟨by assumption, (by assumption : Gr wr _).has q0, (by assumption : Gr wr _).has q1, (by assumption : Gr wr _).has r0, (by assumption : Gr wr _).has r1, (by assumption : Gr wr _).has r2, (by assumption : Gr wr _).has r3, (by assumption : Gr wr _).has r4⟩)
              (first | (go_at_call 116; refine (l02Pipe_any y _ _ (by omega) (by omega)).mono ?_; rintro e w' ⟨rfl, hg1⟩; have hg2 : Gr wr w' := (Gr.refl _).drew.trans hg1))
            cases hok : pipeOk i y with
            | false =>
              have Hok := Lib.hid hok
              go_wp2_with fail
              go_ret
              exact ⟨ret_bool (netOk_pipe Hy.out (by rw [HA.out.l1]; exact Hok.out)).symm, (hg0.trans hgr3).trans (by assumption)⟩
            | true =>
              have Hok := Lib.hid hok
              go_wp2_with fail
              go_roundw
              case rel =>
                refine ⟨k + 1, by omega, by go_num, fun m hm z hz => ?_, hgr3.trans (by assumption)⟩
                by_cases e : m = k
                · subst e
                  have := Hy.out
                  rw [hz] at this
                  injection this with this
                  subst this
                  exact Hok.out
                · exact Hno.out m (by omega) z hz
              case measure => simp [intOf]; omega
          · obtain rfl : k = n2 := by omega
            go_wp2_with fail
            go_ret
            refine ⟨ret_bool (netOk_good ?_ ?_ ?_ ?_ ?_).symm, hg0.trans hgr3⟩
            · rw [HA.out.l1]; exact h1
            · rw [HA.out.l1]; exact h2
            · rw [HA.out.l2]; exact h3
            · rw [HA.out.l1]; exact Hall.out
            · rw [HA.out.l1]; exact fun m p hp => Hno.out m (by rw [← HA.out.l2]; exact (List.getElem?_eq_some_iff.1 hp).1) p hp
  · rw [netOk_len (by rw [HA.out.l1, HA.out.l2]; exact h)]
    by_cases h1 : 1 ≤ n1
    · by_cases h2 : n1 ≤ 24
      · have h3 : 40 < n2 := by omega
        clear h
        go_enter Tryz.func82, Tryz.ntmps82
        go_wp2_with fail
        go_ret
        exact ⟨rfl, (Gr.refl _).alloc _⟩
      · clear h
        go_enter Tryz.func82, Tryz.ntmps82
        go_wp2_with fail
        go_ret
        exact ⟨rfl, (Gr.refl _).alloc _⟩
    · clear h
      go_enter Tryz.func82, Tryz.ntmps82
      go_wp2_with fail
      go_ret
      exact ⟨rfl, (Gr.refl _).alloc _⟩
end Go.Proofs.YthhmhigddmimjaaGreat
/-
  IsNetwork, the program's: netOk.
-/
namespace Go.Proofs.YthhmhigddmimjaaGreat
open Go.ChangeShapes Go.WideShapes Go.ChangeAt Go.RowKit

theorem nodeIndex1_any (x : GNode) (g : Nat) (s : ByteArray) (w : World) (hc : w.cell? ⟨g, 0, none⟩ = some (.string s)) :
    Calls Tryz.prog 121 #[.agg #[.string x.name, .int .i64 x.low, .int .i64 x.high], .pointer (some ⟨g, 0, none⟩)] w fun e w' => e = .returned (.bool (x.name.toList == s.toList)) ∧ Gr w w' := by
  have hc' : (w.alloc (.cells #[.string x.name, .int .i64 x.low, .int .i64 x.high] 62)).cell? ⟨g, 0, none⟩ = some (.string s) := ((Gr.refl _).alloc _).has hc
  go_enter Tryz.func121, Tryz.ntmps121
  go_wp2_with fail
  go_ret
  exact ⟨rfl, (Gr.refl _).alloc _⟩
theorem nodeIndex_any (A1 A2 : Option Addr) (n1 c1 n2 c2 : Nat) (l : List GNode) (s : ByteArray) (w : World) (hn : n1 ≤ 1048576) (hA : Sl w 3 A1 n1 (l.flatMap GNode.cells)) :
    Calls Tryz.prog 92 #[.agg #[.slice A1 n1 c1, .slice A2 n2 c2], .string s] w fun e w' => e = .returned (.int .i64 (idxOf (fun x => x.name.toList == s.toList) l)) ∧ Gr w w' := by
  have HA := Lib.hid hA
  clear hA
  go_enter Tryz.func92, Tryz.ntmps92
  go_wp2_with fail
  refine (IndexFunc_nodeIndex _ (fun x => x.name.toList == s.toList) A1 n1 c1 l _ hn (HA.out.gr (((Gr.refl _).alloc _).alloc _)) (fun k x W _ hW => nodeIndex1_any x _ s W (hW.has (by simp [go_sem])))).mono ?_
  rintro e w1 ⟨rfl, hg1⟩
  go_wp2_with fail
  go_ret
  exact ⟨rfl, (((Gr.refl _).alloc _).alloc _).trans hg1⟩
theorem Sl.upto {w : World} {A : Option Addr} {n k size : Nat} {α : Type} {f : α → List Value} {l : List α} (h : Sl w size A n (l.flatMap f)) (hf : ∀ x, (f x).length = size) (h0 : 0 < size) (hk : k ≤ n) : Sl w size A k ((l.take k).flatMap f) := by
  have hl := h.len hf h0
  refine ⟨by rw [flat_length f size hf, List.length_take, Nat.min_eq_left (by omega)], fun hk0 => ?_⟩
  obtain ⟨b, o, e, hb, hr⟩ := h.2 (by omega)
  refine ⟨b, o, e, hb, fun j u hu => hr j u ?_⟩
  have e : l.flatMap f = (l.take k).flatMap f ++ (l.drop k).flatMap f := by rw [← List.flatMap_append, List.take_append_drop]
  rw [e, List.getElem?_append_left (List.getElem?_eq_some_iff.1 hu).1]
  exact hu
set_option maxHeartbeats 1000000 in
set_option maxRecDepth 100000 in
theorem IsNetwork_any (A1 A2 : Option Addr) (n1 c1 n2 c2 : Nat) (n : GNet) (w : World) (hA : NetAt w A1 n1 c1 A2 n2 c2 n) :
    Calls Tryz.prog 53 #[.agg #[.slice A1 n1 c1, .slice A2 n2 c2]] w fun e w' => e = .returned (.bool (netOk n)) ∧ Gr w w' := by
  have hm1 := hA.m1
  have hm2 := hA.m2
  have hc1 := hA.c1
  have hc2 := hA.c2
  have HA := Lib.hid hA
  clear hA
  by_cases h : 1 ≤ n1 ∧ n1 ≤ 24 ∧ n2 ≤ 40
  · obtain ⟨h1, h2, h3⟩ := h
    have t1 : inB 1 (n1 : Int) 24 = true := inB_true (by omega)
    have t3 : decide ((40 : Int) < (n2 : Int)) = false := by simp; omega
    go_enter Tryz.func53, Tryz.ntmps53
    go_wp2_with (go_at_call 69; refine (within_any _ _ _ _).mono ?_; rintro e w' ⟨rfl, rfl⟩)
    obtain ⟨w0, hw0⟩ : ∃ w0, w0 = w.alloc (.cells #[.slice A1 n1 c1, .slice A2 n2 c2] 32) := ⟨_, rfl⟩
    have hg0 : Gr w w0 := by rw [hw0]; exact (Gr.refl _).alloc _
    have b0 : w0.cell? ⟨w.heap.size, 0, none⟩ = some (.slice A1 n1 c1) := by rw [hw0]; simp [go_sem]
    have b1 : w0.cell? ⟨w.heap.size, 1, none⟩ = some (.slice A2 n2 c2) := by rw [hw0]; simp [go_sem]
    rw [← hw0]
    clear hw0
    go_loopw [21] (fun i wr => ∃ k : Nat, k ≤ n1 ∧ i = .int .i64 k ∧ (∀ j, j < k → okAt n.nodes j = true) ∧ Gr w0 wr) (fun i _ => n1 - (intOf i).toNat)
    case atStart => exact ⟨0, Nat.zero_le _, rfl, fun j h => absurd h (by omega), Gr.refl _⟩
    case round =>
      obtain ⟨i, hi, rfl, hall, hgr⟩ := hrel
      have Hall := Lib.hid hall
      clear hall
      by_cases hlt : i < n1
      · have q0 := hgr.has b0
        have q1 := hgr.has b1
        have s1 : (0 : Int) ≤ (i : Int) := by omega
        have s2 : (i : Int) ≤ (c1 : Int) := by omega
        obtain ⟨x, hx⟩ : ∃ x, n.nodes[i]? = some x := ⟨_, List.getElem?_eq_getElem (by have := HA.out.l1; omega)⟩
        have hxs := HA.out.names x (List.mem_of_getElem? hx)
        obtain ⟨b, o, rfl, hb, e0, e1, e2⟩ := (HA.out.nodes.gr (hg0.trans hgr)).nd hx
        have Hx := Lib.hid hx
        clear hx
        cases hok : nodeOk x with
        | false =>
          go_wp2_with fail
          obtain ⟨w2, hw2⟩ : ∃ w2, w2 = wr.alloc (.cells #[.string x.name, .int .i64 x.low, .int .i64 x.high] 62) := ⟨_, rfl⟩
          have hg2 : Gr wr w2 := by rw [hw2]; exact (Gr.refl _).alloc _
          have d0 : w2.cell? ⟨wr.heap.size, 0, none⟩ = some (.string x.name) := by rw [hw2]; simp [go_sem]
          have d1 : w2.cell? ⟨wr.heap.size, 1, none⟩ = some (.int .i64 x.low) := by rw [hw2]; simp [go_sem]
          have d2 : w2.cell? ⟨wr.heap.size, 2, none⟩ = some (.int .i64 x.high) := by rw [hw2]; simp [go_sem]
          rw [← hw2]
          clear hw2
          replace q0 := hg2.has q0
          replace q1 := hg2.has q1
          clear e0 e1 e2
          refine wp_region_text (fun w' => Gr w2 w' ∧ w'.cell? ⟨wr.heap.size, 0, none⟩ = some (.string x.name) ∧ w'.cell? ⟨wr.heap.size, 1, none⟩ = some (.int .i64 x.low) ∧ w'.cell? ⟨wr.heap.size, 2, none⟩ = some (.int .i64 x.high)) (by kernel_rfl) (by kernel_rfl) (by decide) ⟨(Gr.refl _).drew, d0, d1, d2⟩ ?_
          (first
            | ((with_reducible refine wpText_skip ?_ ?_)
               · rfl
               simp only [Act.put, List.setIfInBounds_toArray, List.set_cons_zero, List.set_cons_succ])
            | ((with_reducible refine wpText_yield (v := ?_) ?_ ?_ ?_)
               rotate_left
               · rfl
               · intro W hW; first | (go_simp; done) | (go_simp; with_reducible rfl)
               simp only [Act.put, List.setIfInBounds_toArray, List.set_cons_zero, List.set_cons_succ])
            | ((with_reducible refine wpText_yield1 (v := ?_) ?_ ?_ ?_)
               rotate_left
               · rfl
               · intro W hW; first | (go_simp; done) | (go_simp; with_reducible rfl)
               simp only [Act.put, List.setIfInBounds_toArray, List.set_cons_zero, List.set_cons_succ]))
          refine wpText_do (.bool false) (by rfl) (fun W hW K hK => ?_) ?_
          · go_simp
            refine (IsNode_any x _ hxs).mono ?_
            rintro e w' ⟨rfl, hg1⟩
            rw [hok]
            have hg3 : Gr w2 w' := hW.1.trans hg1
            exact hK _ ⟨hg3, hg3.has d0, hg3.has d1, hg3.has d2⟩
          simp only [Act.put, List.setIfInBounds_toArray, List.set_cons_zero, List.set_cons_succ]
          repeat (first
            | ((with_reducible refine wpText_skip ?_ ?_)
               · rfl
               simp only [Act.put, List.setIfInBounds_toArray, List.set_cons_zero, List.set_cons_succ])
            | ((with_reducible refine wpText_yield (v := ?_) ?_ ?_ ?_)
               rotate_left
               · rfl
               · intro W hW; first | (go_simp; done) | (go_simp; with_reducible rfl)
               simp only [Act.put, List.setIfInBounds_toArray, List.set_cons_zero, List.set_cons_succ])
            | ((with_reducible refine wpText_yield1 (v := ?_) ?_ ?_ ?_)
               rotate_left
               · rfl
               · intro W hW; first | (go_simp; done) | (go_simp; with_reducible rfl)
               simp only [Act.put, List.setIfInBounds_toArray, List.set_cons_zero, List.set_cons_succ]))
          intro w3 hS3
          go_wp2_with fail
          go_ret
          exact ⟨ret_bool (netOk_node (by have := HA.out.l1; omega) (okAt_bad Hx.out hok)).symm, ((hg0.trans hgr).trans hg2).trans hS3.1⟩
        | true =>
          go_wp2_with fail
          obtain ⟨w2, hw2⟩ : ∃ w2, w2 = wr.alloc (.cells #[.string x.name, .int .i64 x.low, .int .i64 x.high] 62) := ⟨_, rfl⟩
          have hg2 : Gr wr w2 := by rw [hw2]; exact (Gr.refl _).alloc _
          have d0 : w2.cell? ⟨wr.heap.size, 0, none⟩ = some (.string x.name) := by rw [hw2]; simp [go_sem]
          have d1 : w2.cell? ⟨wr.heap.size, 1, none⟩ = some (.int .i64 x.low) := by rw [hw2]; simp [go_sem]
          have d2 : w2.cell? ⟨wr.heap.size, 2, none⟩ = some (.int .i64 x.high) := by rw [hw2]; simp [go_sem]
          rw [← hw2]
          clear hw2
          replace q0 := hg2.has q0
          replace q1 := hg2.has q1
          clear e0 e1 e2
          go_region_held3 (fun w' => Gr w2 w' ∧ w'.cell? ⟨w.heap.size, 0, none⟩ = some (.slice (some ⟨b, o, none⟩) n1 c1) ∧ w'.cell? ⟨w.heap.size, 1, none⟩ = some (.slice A2 n2 c2) ∧ w'.cell? ⟨wr.heap.size, 0, none⟩ = some (.string x.name) ∧ w'.cell? ⟨wr.heap.size, 1, none⟩ = some (.int .i64 x.low) ∧ w'.cell? ⟨wr.heap.size, 2, none⟩ = some (.int .i64 x.high))
            (first | exact ⟨(Gr.refl _).drew, q0, q1, d0, d1, d2⟩ | exact ⟨by assumption, (by assumption : Gr w2 _).has q0, (by assumption : Gr w2 _).has q1, (by assumption : Gr w2 _).has d0, (by assumption : Gr w2 _).has d1, (by assumption : Gr w2 _).has d2⟩)
            (first | (go_at_call 91; refine (IsNode_any x _ hxs).mono ?_; rintro e w' ⟨rfl, hg1⟩; have hg3 : Gr w2 w' := (Gr.refl _).drew.trans hg1)
                   | (go_at_call 92; refine (nodeIndex_any _ _ _ _ _ _ (n.nodes.take i) x.name _ (by omega) ?_).mono ?_; exact (HA.out.nodes.upto GNode.cells_len (by omega) (by omega)).gr ((hg0.trans hgr).trans (hg2.trans (by assumption))); rintro e w' ⟨rfl, hg4⟩; have hg5 : Gr w2 w' := Gr.trans (by assumption) hg4))
          have hany : decide (0 ≤ idxOf (fun y => y.name.toList == x.name.toList) (n.nodes.take i)) = (n.nodes.take i).any (fun y => sameName y x) := idxOf_any
          have hokA := okAt_any Hx.out hok
          have Hany := Lib.hid hany
          have HokA := Lib.hid hokA
          clear hany hokA
          by_cases hd : 0 ≤ idxOf (fun y => y.name.toList == x.name.toList) (n.nodes.take i)
          · have hr : okAt n.nodes i = false := by rw [HokA.out, ← Hany.out]; simp [hd]
            have Hr := Lib.hid hr
            clear hr
            go_wp2_with fail
            go_ret
            exact ⟨ret_bool (netOk_node (by have := HA.out.l1; omega) Hr.out).symm, ((hg0.trans hgr).trans hg2).trans (by assumption)⟩
          · have hr : okAt n.nodes i = true := by rw [HokA.out, ← Hany.out]; simp [hd]
            have Hr := Lib.hid hr
            clear hr
            go_wp2_with fail
            go_roundw
            case rel =>
              refine ⟨i + 1, by omega, by go_num, fun m hm => ?_, (hgr.trans hg2).trans (by assumption)⟩
              by_cases e : m = i
              · subst e; exact Hr.out
              · exact Hall.out m (by omega)
            case measure => simp [intOf]; omega
      · obtain rfl : i = n1 := by omega
        have q0 := hgr.has b0
        have q1 := hgr.has b1
        go_wp2_with fail
        go_loopw [44] (fun j wr' => ∃ k : Nat, k ≤ n2 ∧ j = .int .i64 k ∧ (∀ m, m < k → ∀ y, n.pipes[m]? = some y → pipeOk i y = true) ∧ Gr w0 wr') (fun j _ => n2 - (intOf j).toNat)
        case atStart => exact ⟨0, Nat.zero_le _, rfl, fun j h => absurd h (by omega), hgr⟩
        case round =>
          clear q0 q1
          obtain ⟨k, hk, rfl, hno, hgr3⟩ := hrel
          have Hno := Lib.hid hno
          clear hno
          have q0 := hgr3.has b0
          have q1 := hgr3.has b1
          by_cases hlt2 : k < n2
          · obtain ⟨y, hy⟩ : ∃ y, n.pipes[k]? = some y := ⟨_, List.getElem?_eq_getElem (by have := HA.out.l2; omega)⟩
            obtain ⟨b, o, rfl, hb, r0, r1, r2, r3, r4⟩ := (HA.out.pipes.gr (hg0.trans hgr3)).pp hy
            have Hy := Lib.hid hy
            clear hy
            have hg2 : Gr wr (wr.alloc (.cells #[.int .i64 y.src, .int .i64 y.dst, .int .i64 y.k, .int .i64 y.vol, .int .i64 y.lim] 95)) := (Gr.refl _).alloc _
            have y0 := hg2.has q0
            have y1 := hg2.has q1
            have y2 : (wr.alloc (.cells #[.int .i64 y.src, .int .i64 y.dst, .int .i64 y.k, .int .i64 y.vol, .int .i64 y.lim] 95)).cell? ⟨wr.heap.size, 0, none⟩ = some (.int .i64 y.src) := by simp [go_sem]
            have y3 : (wr.alloc (.cells #[.int .i64 y.src, .int .i64 y.dst, .int .i64 y.k, .int .i64 y.vol, .int .i64 y.lim] 95)).cell? ⟨wr.heap.size, 1, none⟩ = some (.int .i64 y.dst) := by simp [go_sem]
            have y4 : (wr.alloc (.cells #[.int .i64 y.src, .int .i64 y.dst, .int .i64 y.k, .int .i64 y.vol, .int .i64 y.lim] 95)).cell? ⟨wr.heap.size, 2, none⟩ = some (.int .i64 y.k) := by simp [go_sem]
            have y5 : (wr.alloc (.cells #[.int .i64 y.src, .int .i64 y.dst, .int .i64 y.k, .int .i64 y.vol, .int .i64 y.lim] 95)).cell? ⟨wr.heap.size, 3, none⟩ = some (.int .i64 y.vol) := by simp [go_sem]
            have y6 : (wr.alloc (.cells #[.int .i64 y.src, .int .i64 y.dst, .int .i64 y.k, .int .i64 y.vol, .int .i64 y.lim] 95)).cell? ⟨wr.heap.size, 4, none⟩ = some (.int .i64 y.lim) := by simp [go_sem]
            clear q0 q1
            replace hg2 : Gr w0 (wr.alloc (.cells #[.int .i64 y.src, .int .i64 y.dst, .int .i64 y.k, .int .i64 y.vol, .int .i64 y.lim] 95)) := hgr3.trans hg2
            cases hok : pipeOk i y with
            | true =>
              obtain ⟨⟨p1, p2⟩, ⟨p3, p4⟩, p5, p6, p7, p8⟩ := pipeOk_all hok
              have v1 : inB 0 y.src (↑i - 1) = true := inB_true ⟨p1, p2⟩
              have v2 : inB 0 y.dst (↑i - 1) = true := inB_true ⟨p3, p4⟩
              have v3 : (y.src == y.dst) = false := by simp [p5]
              have v4 : inB 1 y.k 1000 = true := inB_true p6
              have v5 : inB 0 y.vol 1000000 = true := inB_true p7
              have v6 : inB 1 y.lim 30000 = true := inB_true p8
              have Hok := Lib.hid hok
              clear hok p1 p2 p3 p4 p5 p6 p7 p8
              go_wp2_with (first
                | (go_at_call 93; refine (isNodeOf_any _ _ _ _ _ _ _ _ (by omega)).mono ?_; rintro e w' ⟨rfl, hg1⟩; have z0 := hg1.has (p := ⟨w.heap.size, 0, none⟩) (v := .slice A1 i c1) (by assumption); have z1 := hg1.has (p := ⟨w.heap.size, 1, none⟩) (v := .slice (some ⟨b, o, none⟩) n2 c2) (by assumption); have z2 := hg1.has (p := ⟨wr.heap.size, 0, none⟩) (v := .int .i64 y.src) (by assumption); have z3 := hg1.has (p := ⟨wr.heap.size, 1, none⟩) (v := .int .i64 y.dst) (by assumption); have z4 := hg1.has (p := ⟨wr.heap.size, 2, none⟩) (v := .int .i64 y.k) (by assumption); have z5 := hg1.has (p := ⟨wr.heap.size, 3, none⟩) (v := .int .i64 y.vol) (by assumption); have z6 := hg1.has (p := ⟨wr.heap.size, 4, none⟩) (v := .int .i64 y.lim) (by assumption); replace hg2 := hg2.trans hg1)
                | (go_at_call 69; refine (within_any _ _ _ _).mono ?_; rintro e w' ⟨rfl, rfl⟩))
              go_roundw
              case rel =>
                refine ⟨k + 1, by omega, by go_num, fun m hm z hz => ?_, hg2⟩
                by_cases e : m = k
                · subst e
                  have := Hy.out
                  rw [hz] at this
                  injection this with this
                  subst this
                  exact Hok.out
                · exact Hno.out m (by omega) z hz
              case measure => simp [intOf]; omega
            | false =>
              have Hok := Lib.hid hok
              go_wp2_with (first
                | (go_at_call 93; refine (isNodeOf_any _ _ _ _ _ _ _ _ (by omega)).mono ?_; rintro e w' ⟨rfl, hg1⟩; have z0 := hg1.has (p := ⟨w.heap.size, 0, none⟩) (v := .slice A1 i c1) (by assumption); have z1 := hg1.has (p := ⟨w.heap.size, 1, none⟩) (v := .slice (some ⟨b, o, none⟩) n2 c2) (by assumption); have z2 := hg1.has (p := ⟨wr.heap.size, 0, none⟩) (v := .int .i64 y.src) (by assumption); have z3 := hg1.has (p := ⟨wr.heap.size, 1, none⟩) (v := .int .i64 y.dst) (by assumption); have z4 := hg1.has (p := ⟨wr.heap.size, 2, none⟩) (v := .int .i64 y.k) (by assumption); have z5 := hg1.has (p := ⟨wr.heap.size, 3, none⟩) (v := .int .i64 y.vol) (by assumption); have z6 := hg1.has (p := ⟨wr.heap.size, 4, none⟩) (v := .int .i64 y.lim) (by assumption); replace hg2 := hg2.trans hg1)
                | (go_at_call 69; refine (within_any _ _ _ _).mono ?_; rintro e w' ⟨rfl, rfl⟩))
              all_goals first
                | (go_ret
                   exact ⟨ret_bool (netOk_pipe Hy.out (by rw [HA.out.l1]; exact Hok.out)).symm, hg0.trans (by assumption)⟩)
                | (exfalso
                   have h7 := Hok.out
                   have g : (y.src == y.dst) = false ∧ (!inB 1 y.lim 30000) = false := by assumption
                   have g1 := g.1
                   have g2 : inB 1 y.lim 30000 = true := by simpa using g.2
                   simp [pipeOk, *] at h7)
          · obtain rfl : k = n2 := by omega
            go_wp2_with fail
            go_ret
            refine ⟨ret_bool (netOk_good ?_ ?_ ?_ ?_ ?_).symm, hg0.trans hgr3⟩
            · rw [HA.out.l1]; exact h1
            · rw [HA.out.l1]; exact h2
            · rw [HA.out.l2]; exact h3
            · rw [HA.out.l1]; exact Hall.out
            · rw [HA.out.l1]; exact fun m p hp => Hno.out m (by rw [← HA.out.l2]; exact (List.getElem?_eq_some_iff.1 hp).1) p hp
  · rw [netOk_len (by rw [HA.out.l1, HA.out.l2]; exact h)]
    by_cases h1 : 1 ≤ n1 ∧ n1 ≤ 24
    · have h3 : 40 < n2 := by omega
      have t1 : inB 1 (n1 : Int) 24 = true := inB_true (by omega)
      clear h
      go_enter Tryz.func53, Tryz.ntmps53
      go_wp2_with (go_at_call 69; refine (within_any _ _ _ _).mono ?_; rintro e w' ⟨rfl, rfl⟩)
      go_ret
      exact ⟨rfl, (Gr.refl _).alloc _⟩
    · have t1 : inB 1 (n1 : Int) 24 = false := inB_false (by omega)
      clear h
      go_enter Tryz.func53, Tryz.ntmps53
      go_wp2_with (go_at_call 69; refine (within_any _ _ _ _).mono ?_; rintro e w' ⟨rfl, rfl⟩)
      go_ret
      exact ⟨rfl, (Gr.refl _).alloc _⟩
end Go.Proofs.YthhmhigddmimjaaGreat
