/-
  The pipes at a node: the reference's part.
-/
import Derived.Test.YtdoidehlklkfaaaFlow2
namespace Go.Proofs.Ytdoidehlklkfaaa
open Go.ChangeShapes Go.WideShapes Go.ChangeAt Go.RowKit

set_option maxHeartbeats 1600000 in
set_option maxRecDepth 100000 in
theorem l02At_any {A1 A2 : Option Addr} {n1 c1 n2 c2 : Nat} (n : GNet) (v : Nat) (w : World) (hA : NetAt w A1 n1 c1 A2 n2 c2 n) (hok : netOk n = true) :
    Calls Try.prog 159 #[.agg #[.slice A1 n1 c1, .slice A2 n2 c2], .int .i64 v] w fun e w' => ∃ A m c, e = .returned (.slice A m c) ∧ m = (atN (eds n.pipes) v).length ∧ w'.ownsRow w.heap.size 2 1 (.slice A m c) m (nats (atN (eds n.pipes) v)) ∧ Gr w w' := by
  obtain ⟨i0, hi0, hz0, hz1, hz2⟩ := info_parts infoInt64
  have hm2 := hA.m2
  have Hl2 := Lib.hid hA.l2
  have HA := Lib.hid hA
  have Hok := Lib.hid hok
  clear hA hok
  go_enter Try.func159, Try.ntmps159
  go_wp2_with fail
  generalize hw2 : World.alloc (World.alloc w _) _ = w2
  have hg2 : Gr w w2 := by rw [← hw2]; exact ((Gr.refl _).alloc _).alloc _
  have b1 : w2.cell? ⟨w.heap.size, 1, none⟩ = some (.slice A2 n2 c2) := by rw [← hw2]; simp [go_sem]
  have hown0 : w2.ownsRow (w.heap.size + 1) 2 1 (.slice (some ⟨w.heap.size + 1, 0, none⟩) 0 0) 0 [] := by
    rw [← hw2]
    have := World.ownsRow_lit (w.alloc (.cells #[.slice A1 n1 c1, .slice A2 n2 c2] 33)) (e := 2) (size := 1) #[] 0 (Nat.le_refl _) (by unfold maxLen; omega) rfl
    simpa using this
  have hs2 : w.heap.size + 2 ≤ w2.heap.size := by rw [← hw2]; simp
  have Hown0 := Lib.hid hown0
  clear hw2 hown0
  go_loopw [5, 6] (fun o i wr => ∃ k : Nat, k ≤ n2 ∧ i = .int .i64 k ∧ (∃ A m c, o = .slice A m c ∧ m = (atTo (eds n.pipes) v k).length ∧ wr.ownsRow (w.heap.size + 1) 2 1 (.slice A m c) m (nats (atTo (eds n.pipes) v k))) ∧ Gr w wr ∧ wr.cell? ⟨w.heap.size, 1, none⟩ = some (.slice A2 n2 c2) ∧ w.heap.size + 2 ≤ wr.heap.size) (fun _ i _ => n2 - (intOf i).toNat)
  case atStart => exact ⟨0, Nat.zero_le _, rfl, ⟨_, 0, 0, rfl, rfl, Hown0.out⟩, hg2, b1, hs2⟩
  case round =>
    obtain ⟨k, hk, rfl, ⟨A, m, c, rfl, hmv, hown⟩, hgr, hbr, hsr⟩ := hrel
    have Hown := Lib.hid hown
    have Hmv := Lib.hid hmv
    have hm : m ≤ n2 := by have := atTo_len (eds n.pipes) v k; omega
    clear hown hmv b1 hs2
    by_cases hlt : k < n2
    · obtain ⟨x, hx⟩ : ∃ x, n.pipes[k]? = some x := ⟨_, List.getElem?_eq_getElem (by have := Hl2.out; omega)⟩
      obtain ⟨a1, a2, _⟩ := pipeOk_all ((netOk_all Hok.out).2 k x hx)
      have ht := touch_pipe (v := v) a1.1 a2.1
      rw [← eds_at hx] at ht
      have Ht := Lib.hid ht
      obtain ⟨b, o, rfl, hb, r0, r1, r2, r3, r4⟩ := (HA.out.pipes.gr hgr).pp hx
      have t1 : (k : Int) < (n2 : Int) := by omega
      have t0 : (0 : Int) ≤ (k : Int) := by omega
      clear hx ht a1 a2
      cases hc1 : (x.src == (v : Int))
      · cases hc2 : (x.dst == (v : Int))
        · have Hno : Hid (touch ((eds n.pipes).getD k dE) v = false) := Lib.hid (by rw [Ht.out, hc1, hc2]; rfl)
          go_wp2_with fail
          go_roundw
          case rel => exact ⟨k + 1, by omega, by go_num, ⟨_, _, _, rfl, by rw [atTo_no Hno.out]; exact Hmv.out, by rw [atTo_no Hno.out]; exact Hown.out⟩, hgr, hbr, hsr⟩
          case measure => simp [intOf]; omega
        · have Hyes : Hid (touch ((eds n.pipes).getD k dE) v = true) := Lib.hid (by rw [Ht.out, hc1, hc2]; rfl)
          go_wp2_with (at_builtin; refine wpList_append_own _ rfl _ _ _ rfl (w.heap.size + 1) 2 i0 _ 1 8 Try.underlying49 hi0 hz0 hz1 hz2 rfl (by omega) _ m _ rfl (Hown.out.alloc _) ⟨wr.heap.size, 0, none⟩ 1 1 [.int .i64 _] rfl rfl (World.news_of_block (cs := #[.int .i64 _]) (t := 2) (fr := (0, 0)) (heap_alloc_new wr _)) (by simp [Value.oneCell']) (by unfold maxLen; omega) (by omega) (by simp; omega) ?_; intro v' w1 hown1 hg1 _)
          obtain ⟨A', c', rfl⟩ := own_shape hown1
          have Ho := Lib.hid hown1
          have hgw1 : Gr w w1 := (hgr.alloc _).grown hg1 (fun j hj => by have := own_base_le Hown.out hj; omega)
          have hb1 : w1.cell? ⟨w.heap.size, 1, none⟩ = some (.slice (some ⟨b, o, none⟩) n2 c2) := by
            rw [hg1.cell_far _ (by simp; omega) (fun e => absurd (own_base_le Hown.out e.symm) (Nat.not_succ_le_self _))]
            exact ((Gr.refl _).alloc _).has hbr
          have hs1 : w.heap.size + 2 ≤ w1.heap.size := by have := hg1.size; simp at this; omega
          clear hown1 hg1
          go_wp2_with fail
          go_roundw
          case rel => exact ⟨k + 1, by omega, by go_num, ⟨_, _, _, rfl, by rw [atTo_yes Hyes.out, Hmv.out]; simp, own_cells_eq Ho.out (by rw [atTo_yes Hyes.out, nats_snoc])⟩, hgw1, hb1, hs1⟩
          case measure => simp [intOf]; omega
      · have Hyes : Hid (touch ((eds n.pipes).getD k dE) v = true) := Lib.hid (by rw [Ht.out, hc1]; rfl)
        go_wp2_with (at_builtin; refine wpList_append_own _ rfl _ _ _ rfl (w.heap.size + 1) 2 i0 _ 1 8 Try.underlying49 hi0 hz0 hz1 hz2 rfl (by omega) _ m _ rfl (Hown.out.alloc _) ⟨wr.heap.size, 0, none⟩ 1 1 [.int .i64 _] rfl rfl (World.news_of_block (cs := #[.int .i64 _]) (t := 2) (fr := (0, 0)) (heap_alloc_new wr _)) (by simp [Value.oneCell']) (by unfold maxLen; omega) (by omega) (by simp; omega) ?_; intro v' w1 hown1 hg1 _)
        obtain ⟨A', c', rfl⟩ := own_shape hown1
        have Ho := Lib.hid hown1
        have hgw1 : Gr w w1 := (hgr.alloc _).grown hg1 (fun j hj => by have := own_base_le Hown.out hj; omega)
        have hb1 : w1.cell? ⟨w.heap.size, 1, none⟩ = some (.slice (some ⟨b, o, none⟩) n2 c2) := by
          rw [hg1.cell_far _ (by simp; omega) (fun e => absurd (own_base_le Hown.out e.symm) (Nat.not_succ_le_self _))]
          exact ((Gr.refl _).alloc _).has hbr
        have hs1 : w.heap.size + 2 ≤ w1.heap.size := by have := hg1.size; simp at this; omega
        clear hown1 hg1
        go_wp2_with fail
        go_roundw
        case rel => exact ⟨k + 1, by omega, by go_num, ⟨_, _, _, rfl, by rw [atTo_yes Hyes.out, Hmv.out]; simp, own_cells_eq Ho.out (by rw [atTo_yes Hyes.out, nats_snoc])⟩, hgw1, hb1, hs1⟩
        case measure => simp [intOf]; omega
    · obtain rfl : k = n2 := by omega
      have e : atTo (eds n.pipes) v k = atN (eds n.pipes) v := by rw [atN, eds, List.length_map, Hl2.out]; rfl
      have He := Lib.hid e
      clear e
      go_wp2_with fail
      go_ret
      exact ⟨A, m, c, by simp, by rw [← He.out]; exact Hmv.out, by rw [← He.out]; exact own_base Hown.out (by omega), hgr⟩
end Go.Proofs.Ytdoidehlklkfaaa
