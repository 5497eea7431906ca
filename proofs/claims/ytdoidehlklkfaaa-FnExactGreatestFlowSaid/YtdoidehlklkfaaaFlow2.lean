/-
  The pipes at a node.
-/
import Derived.Test.YtdoidehlklkfaaaFlow1
namespace Go.Proofs.Ytdoidehlklkfaaa
open Go.ChangeShapes Go.WideShapes Go.ChangeAt Go.RowKit

def atTo (es : List Ed) (v k : Nat) : List Nat := (List.range k).filter fun i => touch (es.getD i dE) v
theorem atTo_yes {es : List Ed} {v k : Nat} (h : touch (es.getD k dE) v = true) : atTo es v (k + 1) = atTo es v k ++ [k] := by
  simp only [atTo, List.range_succ, List.filter_append, List.filter_cons, List.filter_nil, h, if_true]
theorem atTo_no {es : List Ed} {v k : Nat} (h : touch (es.getD k dE) v = false) : atTo es v (k + 1) = atTo es v k := by
  simp only [atTo, List.range_succ, List.filter_append, List.filter_cons, List.filter_nil, h, Bool.false_eq_true, if_false, List.append_nil]
theorem heap_alloc_new2 (w : World) (x o : Obj) : ((w.alloc x).alloc o).heap[w.heap.size + 1]? = some o := by
  have := heap_alloc_new (w.alloc x) o
  simpa using this
theorem atTo_len (es : List Ed) (v k : Nat) : (atTo es v k).length ≤ k := by
  have := List.length_filter_le (fun i => touch (es.getD i dE) v) (List.range k)
  simpa [atTo] using this
theorem nats_snoc (l : List Nat) (x : Nat) : nats (l ++ [x]) = nats l ++ [.int .i64 x] := by simp [nats, ints]
theorem touch_pipe {x : GPipe} {v : Nat} (h1 : 0 ≤ x.src) (h2 : 0 ≤ x.dst) : touch (edOf x) v = ((x.src == (v : Int)) || (x.dst == (v : Int))) := by
  have e1 : (edOf x).f = x.src.toNat := rfl
  have e2 : (edOf x).t = x.dst.toNat := rfl
  rw [Bool.eq_iff_iff, touch_iff, Bool.or_eq_true, beq_iff_eq, beq_iff_eq, e1, e2]
  omega
set_option maxHeartbeats 1600000 in
set_option maxRecDepth 100000 in
theorem pipesAt_any {A1 A2 : Option Addr} {n1 c1 n2 c2 : Nat} (n : GNet) (v : Nat) (w : World) (hA : NetAt w A1 n1 c1 A2 n2 c2 n) (hok : netOk n = true) :
    Calls Try.prog 160 #[.agg #[.slice A1 n1 c1, .slice A2 n2 c2], .int .i64 v] w fun e w' => ∃ A m c, e = .returned (.slice A m c) ∧ m = (atN (eds n.pipes) v).length ∧ w'.ownsRow w.heap.size 2 1 (.slice A m c) m (nats (atN (eds n.pipes) v)) ∧ Gr w w' := by
  obtain ⟨i0, hi0, hz0, hz1, hz2⟩ := info_parts infoInt64
  have hm2 := hA.m2
  have Hl2 := Lib.hid hA.l2
  have HA := Lib.hid hA
  have Hok := Lib.hid hok
  clear hA hok
  go_enter Try.func160, Try.ntmps160
  go_wp2_with fail
  go_loopw [5, 11] (fun o i wr => ∃ k : Nat, k ≤ n2 ∧ i = .int .i64 k ∧ (∃ A m c, o = .slice A m c ∧ m = (atTo (eds n.pipes) v k).length ∧ wr.ownsRow w.heap.size 2 1 (.slice A m c) m (nats (atTo (eds n.pipes) v k))) ∧ Gr w wr) (fun _ i _ => n2 - (intOf i).toNat)
  case atStart => exact ⟨0, Nat.zero_le _, rfl, ⟨none, 0, 0, rfl, rfl, World.ownsRow_nil _ _ _ _⟩, (Gr.refl _).alloc _⟩
  case round =>
    obtain ⟨k, hk, rfl, ⟨A, m, c, rfl, hmv, hown⟩, hgr⟩ := hrel
    have Hown := Lib.hid hown
    have Hmv := Lib.hid hmv
    have hm : m ≤ n2 := by have := atTo_len (eds n.pipes) v k; omega
    clear hown hmv
    by_cases hlt : k < n2
    · obtain ⟨x, hx⟩ : ∃ x, n.pipes[k]? = some x := ⟨_, List.getElem?_eq_getElem (by have := Hl2.out; omega)⟩
      obtain ⟨a1, a2, _⟩ := pipeOk_all ((netOk_all Hok.out).2 k x hx)
      have ht := touch_pipe (v := v) a1.1 a2.1
      rw [← eds_at hx] at ht
      have Ht := Lib.hid ht
      obtain ⟨b, o, rfl, hb, r0, r1, r2, r3, r4⟩ := (HA.out.pipes.gr hgr).pp hx
      have hsz := hgr.size
      clear hx ht a1 a2
      cases hc1 : (x.src == (v : Int))
      · cases hc2 : (x.dst == (v : Int))
        · have Hno : Hid (touch ((eds n.pipes).getD k dE) v = false) := Lib.hid (by rw [Ht.out, hc1, hc2]; rfl)
          go_wp2_with fail
          go_roundw
          case rel => exact ⟨k + 1, by omega, by go_num, ⟨_, _, _, rfl, by rw [atTo_no Hno.out]; exact Hmv.out, by rw [atTo_no Hno.out]; exact own_gr Hown.out ((Gr.refl _).alloc _)⟩, hgr.alloc _⟩
          case measure => simp [intOf]; omega
        · have Hyes : Hid (touch ((eds n.pipes).getD k dE) v = true) := Lib.hid (by rw [Ht.out, hc1, hc2]; rfl)
          go_wp2_with (at_builtin; refine wpList_append_own _ rfl _ _ _ rfl w.heap.size 2 i0 _ 1 8 Try.underlying49 hi0 hz0 hz1 hz2 rfl (by omega) _ m _ rfl ((Hown.out.alloc _).alloc _) ⟨wr.heap.size + 1, 0, none⟩ 1 1 [.int .i64 _] rfl rfl (World.news_of_block (cs := #[.int .i64 _]) (t := 2) (fr := (0, 0)) (heap_alloc_new2 wr _ _)) (by simp [Value.oneCell']) (by unfold maxLen; omega) (by omega) (by simp; omega) ?_; intro v' w1 hown1 hg1 _)
          obtain ⟨A', c', rfl⟩ := own_shape hown1
          have Ho := Lib.hid hown1
          have hgw1 : Gr w w1 := ((hgr.alloc _).alloc _).grown hg1 (fun j hj => own_base_le Hown.out hj)
          clear hown1 hg1
          go_wp2_with fail
          go_roundw
          case rel => exact ⟨k + 1, by omega, by go_num, ⟨_, _, _, rfl, by rw [atTo_yes Hyes.out, Hmv.out]; simp, own_cells_eq Ho.out (by rw [atTo_yes Hyes.out, nats_snoc])⟩, hgw1⟩
          case measure => simp [intOf]; omega
      · have Hyes : Hid (touch ((eds n.pipes).getD k dE) v = true) := Lib.hid (by rw [Ht.out, hc1]; rfl)
        go_wp2_with (at_builtin; refine wpList_append_own _ rfl _ _ _ rfl w.heap.size 2 i0 _ 1 8 Try.underlying49 hi0 hz0 hz1 hz2 rfl (by omega) _ m _ rfl ((Hown.out.alloc _).alloc _) ⟨wr.heap.size + 1, 0, none⟩ 1 1 [.int .i64 _] rfl rfl (World.news_of_block (cs := #[.int .i64 _]) (t := 2) (fr := (0, 0)) (heap_alloc_new2 wr _ _)) (by simp [Value.oneCell']) (by unfold maxLen; omega) (by omega) (by simp; omega) ?_; intro v' w1 hown1 hg1 _)
        obtain ⟨A', c', rfl⟩ := own_shape hown1
        have Ho := Lib.hid hown1
        have hgw1 : Gr w w1 := ((hgr.alloc _).alloc _).grown hg1 (fun j hj => own_base_le Hown.out hj)
        clear hown1 hg1
        go_wp2_with fail
        go_roundw
        case rel => exact ⟨k + 1, by omega, by go_num, ⟨_, _, _, rfl, by rw [atTo_yes Hyes.out, Hmv.out]; simp, own_cells_eq Ho.out (by rw [atTo_yes Hyes.out, nats_snoc])⟩, hgw1⟩
        case measure => simp [intOf]; omega
    · obtain rfl : k = n2 := by omega
      have e : atTo (eds n.pipes) v k = atN (eds n.pipes) v := by rw [atN, eds, List.length_map, Hl2.out]; rfl
      have He := Lib.hid e
      clear e
      go_wp2_with fail
      go_ret
      exact ⟨A, m, c, by simp, by rw [← He.out]; exact Hmv.out, by rw [← He.out]; exact Hown.out, hgr⟩
end Go.Proofs.Ytdoidehlklkfaaa
