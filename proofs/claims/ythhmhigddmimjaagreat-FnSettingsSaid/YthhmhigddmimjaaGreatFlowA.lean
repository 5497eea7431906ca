import Derived.Test.YthhmhigddmimjaaGreatFlowMs
import Derived.Test.YthhmhigddmimjaaGreatWts
/-
  The small functions of the routing.
-/
namespace Go.Proofs.YthhmhigddmimjaaGreat
open Go.ChangeShapes Go.WideShapes Go.ChangeAt Go.RowKit

def nats (l : List Nat) : List Value := ints (l.map fun (x : Nat) => (x : Int))
theorem touch_iff {e : Ed} {v : Nat} : touch e v = true ↔ e.f = v ∨ e.t = v := by simp [touch]
theorem eds_ok {n : GNet} (h : netOk n = true) : EsOk (eds n.pipes) n.nodes.length where
  at_ := by
    intro p e he
    simp only [eds, List.getElem?_map, Option.map_eq_some_iff] at he
    obtain ⟨x, hx, rfl⟩ := he
    obtain ⟨a1, a2, a3, _, _, a6⟩ := pipeOk_all ((netOk_all h).2 p x hx)
    simp only [edOf]
    refine ⟨by omega, by omega, by omega, a6.1, a6.2⟩
theorem eds_at {ps : List GPipe} {p : Nat} {x : GPipe} (hx : ps[p]? = some x) : (eds ps).getD p dE = edOf x := by
  simp [eds, List.getD_eq_getElem?_getD, hx]
theorem otherEnd_any (x : GPipe) (v : Nat) (w : World) (h1 : 0 ≤ x.src) (h2 : 0 ≤ x.dst) :
    Calls Tryz.prog 146 #[.agg #[.int .i64 x.src, .int .i64 x.dst, .int .i64 x.k, .int .i64 x.vol, .int .i64 x.lim], .int .i64 v] w fun e w' => e = .returned (.int .i64 (oth (edOf x) v)) ∧ Gr w w' := by
  cases hc : (x.src == (v : Int))
  · have hv : ¬ (x.src.toNat = v) := by have : x.src ≠ (v : Int) := by simpa using hc
                                        omega
    have e : ((oth (edOf x) v : Nat) : Int) = x.src := by simp only [oth, edOf, hv, if_false]; omega
    have He := Lib.hid e
    clear e hv
    go_enter Tryz.func146, Tryz.ntmps146
    go_wp2_with fail
    go_ret
    exact ⟨ret_int He.out.symm, (Gr.refl _).alloc _⟩
  · have hv : x.src.toNat = v := by have : x.src = (v : Int) := by simpa using hc
                                    omega
    have e : ((oth (edOf x) v : Nat) : Int) = x.dst := by simp only [oth, edOf, hv, if_true]; omega
    have He := Lib.hid e
    clear e hv
    go_enter Tryz.func146, Tryz.ntmps146
    go_wp2_with fail
    go_ret
    exact ⟨ret_int He.out.symm, (Gr.refl _).alloc _⟩
theorem l02Other_any {A1 A2 : Option Addr} {n1 c1 n2 c2 : Nat} (n : GNet) (p v : Nat) (x : GPipe) (w : World) (hA : NetAt w A1 n1 c1 A2 n2 c2 n) (hok : netOk n = true) (hx : n.pipes[p]? = some x) (ht : touch (edOf x) v = true) :
    Calls Tryz.prog 135 #[.agg #[.slice A1 n1 c1, .slice A2 n2 c2], .int .i64 p, .int .i64 v] w fun e w' => e = .returned (.int .i64 (oth (edOf x) v)) ∧ Gr w w' := by
  obtain ⟨a1, a2, a3, _⟩ := pipeOk_all ((netOk_all hok).2 p x hx)
  have hm1 := hA.m1
  have hm2 := hA.m2
  have l1 := hA.l1
  have hpl := (List.getElem?_eq_some_iff.1 hx).1
  rw [hA.l2] at hpl
  have hsum : x.src + x.dst - v = oth (edOf x) v := by
    have hf : (edOf x).f = x.src.toNat := rfl
    have hd : (edOf x).t = x.dst.toNat := rfl
    rw [touch_iff] at ht
    rw [oth]
    by_cases h : (edOf x).f = v
    · rw [if_pos h]; omega
    · rw [if_neg h]; omega
  have Hsum := Lib.hid hsum
  have hg : Gr w (w.alloc (.cells #[.slice A1 n1 c1, .slice A2 n2 c2] 32)) := (Gr.refl _).alloc _
  obtain ⟨b, o, rfl, hb, r0, r1, r2, r3, r4⟩ := (hA.pipes.gr hg).pp hx
  have hvb : v ≤ 1048576 := by
    have hf : (edOf x).f = x.src.toNat := rfl
    have hd : (edOf x).t = x.dst.toNat := rfl
    rw [touch_iff] at ht
    omega
  have t1 : (p : Int) < (n2 : Int) := by omega
  have t0 : (0 : Int) ≤ (p : Int) := by omega
  have hw1 : IntKind.i64.wrap (x.src + x.dst) = x.src + x.dst := IntWalk.i64_in _ (by omega)
  have hw2 : IntKind.i64.wrap (x.src + x.dst - v) = x.src + x.dst - v := IntWalk.i64_in _ (by omega)
  clear hA hx hsum ht l1
  go_enter Tryz.func135, Tryz.ntmps135
  go_wp2_with fail
  go_quiet (fail)
  go_wp2_with fail
  go_ret
  exact ⟨ret_int Hsum.out, ((Gr.refl _).alloc _).drewN _⟩
def roomV (x : GPipe) (f : Int) (v : Nat) : Int := if x.src = (v : Int) then x.lim - f else x.lim + f
/-- The four cells of a routing. -/
structure RtAt (w : World) (g : Nat) (A1 : Option Addr) (n1 c1 : Nat) (A2 : Option Addr) (n2 c2 : Nat) (A3 : Option Addr) (n3 c3 : Nat) (L : Value) : Prop where
  k0 : w.cell? ⟨g, 0, none⟩ = some (.slice A1 n1 c1)
  k1 : w.cell? ⟨g, 1, none⟩ = some (.slice A2 n2 c2)
  k2 : w.cell? ⟨g, 2, none⟩ = some (.slice A3 n3 c3)
  k3 : w.cell? ⟨g, 3, none⟩ = some L
theorem RtAt.gr {w w' : World} {g : Nat} {A1 : Option Addr} {n1 c1 : Nat} {A2 : Option Addr} {n2 c2 : Nat} {A3 : Option Addr} {n3 c3 : Nat} {L : Value} (h : RtAt w g A1 n1 c1 A2 n2 c2 A3 n3 c3 L) (hg : Gr w w') : RtAt w' g A1 n1 c1 A2 n2 c2 A3 n3 c3 L := ⟨hg.has h.k0, hg.has h.k1, hg.has h.k2, hg.has h.k3⟩
end Go.Proofs.YthhmhigddmimjaaGreat
/-
  The pipes at a node.
-/
namespace Go.Proofs.YthhmhigddmimjaaGreat
open Go.ChangeShapes Go.WideShapes Go.ChangeAt Go.RowKit

def atTo (es : List Ed) (v k : Nat) : List Nat := (List.range k).filter fun i => touch (es.getD i dE) v
theorem atTo_yes {es : List Ed} {v k : Nat} (h : touch (es.getD k dE) v = true) : atTo es v (k + 1) = atTo es v k ++ [k] := by
  simp only [atTo, List.range_succ, List.filter_append, List.filter_cons, List.filter_nil, h, if_true]
theorem atTo_no {es : List Ed} {v k : Nat} (h : touch (es.getD k dE) v = false) : atTo es v (k + 1) = atTo es v k := by
  simp only [atTo, List.range_succ, List.filter_append, List.filter_cons, List.filter_nil, h, Bool.false_eq_true, if_false, List.append_nil]
theorem heap_alloc_new2 (w : World) (x o : Obj) : ((w.alloc x).alloc o).heap[w.heap.size + 1]? = some o := by
  have := heap_alloc_new (w.alloc x) o
  simpa using this
theorem atTo_len (es : List Ed) (v k : Nat) : (atTo es v k).length ≤ k := by
  have := List.length_filter_le (fun i => touch (es.getD i dE) v) (List.range k)
  simpa [atTo] using this
theorem nats_snoc (l : List Nat) (x : Nat) : nats (l ++ [x]) = nats l ++ [.int .i64 x] := by simp [nats, ints]
theorem touch_pipe {x : GPipe} {v : Nat} (h1 : 0 ≤ x.src) (h2 : 0 ≤ x.dst) : touch (edOf x) v = ((x.src == (v : Int)) || (x.dst == (v : Int))) := by
  have e1 : (edOf x).f = x.src.toNat := rfl
  have e2 : (edOf x).t = x.dst.toNat := rfl
  rw [Bool.eq_iff_iff, touch_iff, Bool.or_eq_true, beq_iff_eq, beq_iff_eq, e1, e2]
  omega
set_option maxHeartbeats 1600000 in
set_option maxRecDepth 100000 in
theorem pipesAt_any {A1 A2 : Option Addr} {n1 c1 n2 c2 : Nat} (n : GNet) (v : Nat) (w : World) (hA : NetAt w A1 n1 c1 A2 n2 c2 n) (hok : netOk n = true) :
    Calls Tryz.prog 145 #[.agg #[.slice A1 n1 c1, .slice A2 n2 c2], .int .i64 v] w fun e w' => ∃ A m c, e = .returned (.slice A m c) ∧ m = (atN (eds n.pipes) v).length ∧ w'.ownsRow w.heap.size 2 1 (.slice A m c) m (nats (atN (eds n.pipes) v)) ∧ Gr w w' := by
  obtain ⟨i0, hi0, hz0, hz1, hz2⟩ := info_parts infoInt64
  have hm2 := hA.m2
  have Hl2 := Lib.hid hA.l2
  have HA := Lib.hid hA
  have Hok := Lib.hid hok
  clear hA hok
  go_enter Tryz.func145, Tryz.ntmps145
  go_wp2_with fail
  go_loopw [5, 11] (fun o i wr => ∃ k : Nat, k ≤ n2 ∧ i = .int .i64 k ∧ (∃ A m c, o = .slice A m c ∧ m = (atTo (eds n.pipes) v k).length ∧ wr.ownsRow w.heap.size 2 1 (.slice A m c) m (nats (atTo (eds n.pipes) v k))) ∧ Gr w wr) (fun _ i _ => n2 - (intOf i).toNat)
  case atStart => exact ⟨0, Nat.zero_le _, rfl, ⟨none, 0, 0, rfl, rfl, World.ownsRow_nil _ _ _ _⟩, (Gr.refl _).alloc _⟩
  case round =>
    obtain ⟨k, hk, rfl, ⟨A, m, c, rfl, hmv, hown⟩, hgr⟩ := hrel
    have Hown := Lib.hid hown
    have Hmv := Lib.hid hmv
    have hm : m ≤ n2 := by have := atTo_len (eds n.pipes) v k; omega
    clear hown hmv
    by_cases hlt : k < n2
    · obtain ⟨x, hx⟩ : ∃ x, n.pipes[k]? = some x := ⟨_, List.getElem?_eq_getElem (by have := Hl2.out; omega)⟩
      obtain ⟨a1, a2, _⟩ := pipeOk_all ((netOk_all Hok.out).2 k x hx)
      have ht := touch_pipe (v := v) a1.1 a2.1
      rw [← eds_at hx] at ht
      have Ht := Lib.hid ht
      obtain ⟨b, o, rfl, hb, r0, r1, r2, r3, r4⟩ := (HA.out.pipes.gr hgr).pp hx
      have hsz := hgr.size
      clear hx ht a1 a2
      cases hc1 : (x.src == (v : Int))
      · cases hc2 : (x.dst == (v : Int))
        · have Hno : Hid (touch ((eds n.pipes).getD k dE) v = false) := Lib.hid (by rw [Ht.out, hc1, hc2]; rfl)
          go_wp2_with fail
          go_roundw
          case rel => exact ⟨k + 1, by omega, by go_num, ⟨_, _, _, rfl, by rw [atTo_no Hno.out]; exact Hmv.out, by rw [atTo_no Hno.out]; exact own_gr Hown.out ((Gr.refl _).alloc _)⟩, hgr.alloc _⟩
          case measure => simp [intOf]; omega
        · have Hyes : Hid (touch ((eds n.pipes).getD k dE) v = true) := Lib.hid (by rw [Ht.out, hc1, hc2]; rfl)
          go_wp2_with (at_builtin; refine wpList_append_own _ rfl _ _ _ rfl w.heap.size 2 i0 _ 1 8 Tryz.underlying26 hi0 hz0 hz1 hz2 rfl (by omega) _ m _ rfl ((Hown.out.alloc _).alloc _) ⟨wr.heap.size + 1, 0, none⟩ 1 1 [.int .i64 _] rfl rfl (World.news_of_block (cs := #[.int .i64 _]) (t := 2) (fr := (0, 0)) (heap_alloc_new2 wr _ _)) (by simp [Value.oneCell']) (by unfold maxLen; omega) (by omega) (by simp; omega) ?_; intro v' w1 hown1 hg1 _)
          obtain ⟨A', c', rfl⟩ := own_shape hown1
          have Ho := Lib.hid hown1
          have hgw1 : Gr w w1 := ((hgr.alloc _).alloc _).grown hg1 (fun j hj => own_base_le Hown.out hj)
          clear hown1 hg1
          go_wp2_with fail
          go_roundw
          case rel => exact ⟨k + 1, by omega, by go_num, ⟨_, _, _, rfl, by rw [atTo_yes Hyes.out, Hmv.out]; simp, own_cells_eq Ho.out (by rw [atTo_yes Hyes.out, nats_snoc])⟩, hgw1⟩
          case measure => simp [intOf]; omega
      · have Hyes : Hid (touch ((eds n.pipes).getD k dE) v = true) := Lib.hid (by rw [Ht.out, hc1]; rfl)
        go_wp2_with (at_builtin; refine wpList_append_own _ rfl _ _ _ rfl w.heap.size 2 i0 _ 1 8 Tryz.underlying26 hi0 hz0 hz1 hz2 rfl (by omega) _ m _ rfl ((Hown.out.alloc _).alloc _) ⟨wr.heap.size + 1, 0, none⟩ 1 1 [.int .i64 _] rfl rfl (World.news_of_block (cs := #[.int .i64 _]) (t := 2) (fr := (0, 0)) (heap_alloc_new2 wr _ _)) (by simp [Value.oneCell']) (by unfold maxLen; omega) (by omega) (by simp; omega) ?_; intro v' w1 hown1 hg1 _)
        obtain ⟨A', c', rfl⟩ := own_shape hown1
        have Ho := Lib.hid hown1
        have hgw1 : Gr w w1 := ((hgr.alloc _).alloc _).grown hg1 (fun j hj => own_base_le Hown.out hj)
        clear hown1 hg1
        go_wp2_with fail
        go_roundw
        case rel => exact ⟨k + 1, by omega, by go_num, ⟨_, _, _, rfl, by rw [atTo_yes Hyes.out, Hmv.out]; simp, own_cells_eq Ho.out (by rw [atTo_yes Hyes.out, nats_snoc])⟩, hgw1⟩
        case measure => simp [intOf]; omega
    · obtain rfl : k = n2 := by omega
      have e : atTo (eds n.pipes) v k = atN (eds n.pipes) v := by rw [atN, eds, List.length_map, Hl2.out]; rfl
      have He := Lib.hid e
      clear e
      go_wp2_with fail
      go_ret
      exact ⟨A, m, c, by simp, by rw [← He.out]; exact Hmv.out, by rw [← He.out]; exact Hown.out, hgr⟩
end Go.Proofs.YthhmhigddmimjaaGreat
/-
  The pipes at a node: the reference's part.
-/
namespace Go.Proofs.YthhmhigddmimjaaGreat
open Go.ChangeShapes Go.WideShapes Go.ChangeAt Go.RowKit

set_option maxHeartbeats 1600000 in
set_option maxRecDepth 100000 in
theorem l02At_any {A1 A2 : Option Addr} {n1 c1 n2 c2 : Nat} (n : GNet) (v : Nat) (w : World) (hA : NetAt w A1 n1 c1 A2 n2 c2 n) (hok : netOk n = true) :
    Calls Tryz.prog 153 #[.agg #[.slice A1 n1 c1, .slice A2 n2 c2], .int .i64 v] w fun e w' => ∃ A m c, e = .returned (.slice A m c) ∧ m = (atN (eds n.pipes) v).length ∧ w'.ownsRow w.heap.size 2 1 (.slice A m c) m (nats (atN (eds n.pipes) v)) ∧ Gr w w' := by
  obtain ⟨i0, hi0, hz0, hz1, hz2⟩ := info_parts infoInt64
  have hm2 := hA.m2
  have Hl2 := Lib.hid hA.l2
  have HA := Lib.hid hA
  have Hok := Lib.hid hok
  clear hA hok
  go_enter Tryz.func153, Tryz.ntmps153
  go_wp2_with fail
  generalize hw2 : World.alloc (World.alloc w _) _ = w2
  have hg2 : Gr w w2 := by rw [← hw2]; exact ((Gr.refl _).alloc _).alloc _
  have b1 : w2.cell? ⟨w.heap.size, 1, none⟩ = some (.slice A2 n2 c2) := by rw [← hw2]; simp [go_sem]
  have hown0 : w2.ownsRow (w.heap.size + 1) 2 1 (.slice (some ⟨w.heap.size + 1, 0, none⟩) 0 0) 0 [] := by
    rw [← hw2]
    have := World.ownsRow_lit (w.alloc (.cells #[.slice A1 n1 c1, .slice A2 n2 c2] 32)) (e := 2) (size := 1) #[] 0 (Nat.le_refl _) (by unfold maxLen; omega) rfl
    simpa using this
  have hs2 : w.heap.size + 2 ≤ w2.heap.size := by rw [← hw2]; simp
  have Hown0 := Lib.hid hown0
  clear hw2 hown0
  go_loopw [5, 6] (fun o i wr => ∃ k : Nat, k ≤ n2 ∧ i = .int .i64 k ∧ (∃ A m c, o = .slice A m c ∧ m = (atTo (eds n.pipes) v k).length ∧ wr.ownsRow (w.heap.size + 1) 2 1 (.slice A m c) m (nats (atTo (eds n.pipes) v k))) ∧ Gr w wr ∧ wr.cell? ⟨w.heap.size, 1, none⟩ = some (.slice A2 n2 c2) ∧ w.heap.size + 2 ≤ wr.heap.size) (fun _ i _ => n2 - (intOf i).toNat)
  case atStart => exact ⟨0, Nat.zero_le _, rfl, ⟨_, 0, 0, rfl, rfl, Hown0.out⟩, hg2, b1, hs2⟩
  case round =>
    obtain ⟨k, hk, rfl, ⟨A, m, c, rfl, hmv, hown⟩, hgr, hbr, hsr⟩ := hrel
    have Hown := Lib.hid hown
    have Hmv := Lib.hid hmv
    have hm : m ≤ n2 := by have := atTo_len (eds n.pipes) v k; omega
    clear hown hmv b1 hs2
    by_cases hlt : k < n2
    · obtain ⟨x, hx⟩ : ∃ x, n.pipes[k]? = some x := ⟨_, List.getElem?_eq_getElem (by have := Hl2.out; omega)⟩
      obtain ⟨a1, a2, _⟩ := pipeOk_all ((netOk_all Hok.out).2 k x hx)
      have ht := touch_pipe (v := v) a1.1 a2.1
      rw [← eds_at hx] at ht
      have Ht := Lib.hid ht
      obtain ⟨b, o, rfl, hb, r0, r1, r2, r3, r4⟩ := (HA.out.pipes.gr hgr).pp hx
      have t1 : (k : Int) < (n2 : Int) := by omega
      have t0 : (0 : Int) ≤ (k : Int) := by omega
      clear hx ht a1 a2
      cases hc1 : (x.src == (v : Int))
      · cases hc2 : (x.dst == (v : Int))
        · have Hno : Hid (touch ((eds n.pipes).getD k dE) v = false) := Lib.hid (by rw [Ht.out, hc1, hc2]; rfl)
          go_wp2_with fail
          go_roundw
          case rel => exact ⟨k + 1, by omega, by go_num, ⟨_, _, _, rfl, by rw [atTo_no Hno.out]; exact Hmv.out, by rw [atTo_no Hno.out]; exact Hown.out⟩, hgr, hbr, hsr⟩
          case measure => simp [intOf]; omega
        · have Hyes : Hid (touch ((eds n.pipes).getD k dE) v = true) := Lib.hid (by rw [Ht.out, hc1, hc2]; rfl)
          go_wp2_with (at_builtin; refine wpList_append_own _ rfl _ _ _ rfl (w.heap.size + 1) 2 i0 _ 1 8 Tryz.underlying26 hi0 hz0 hz1 hz2 rfl (by omega) _ m _ rfl (Hown.out.alloc _) ⟨wr.heap.size, 0, none⟩ 1 1 [.int .i64 _] rfl rfl (World.news_of_block (cs := #[.int .i64 _]) (t := 2) (fr := (0, 0)) (heap_alloc_new wr _)) (by simp [Value.oneCell']) (by unfold maxLen; omega) (by omega) (by simp; omega) ?_; intro v' w1 hown1 hg1 _)
          obtain ⟨A', c', rfl⟩ := own_shape hown1
          have Ho := Lib.hid hown1
          have hgw1 : Gr w w1 := (hgr.alloc _).grown hg1 (fun j hj => by have := own_base_le Hown.out hj; omega)
          have hb1 : w1.cell? ⟨w.heap.size, 1, none⟩ = some (.slice (some ⟨b, o, none⟩) n2 c2) := by
            rw [hg1.cell_far _ (by simp; omega) (fun e => absurd (own_base_le Hown.out e.symm) (Nat.not_succ_le_self _))]
            exact ((Gr.refl _).alloc _).has hbr
          have hs1 : w.heap.size + 2 ≤ w1.heap.size := by have := hg1.size; simp at this; omega
          clear hown1 hg1
          go_wp2_with fail
          go_roundw
          case rel => exact ⟨k + 1, by omega, by go_num, ⟨_, _, _, rfl, by rw [atTo_yes Hyes.out, Hmv.out]; simp, own_cells_eq Ho.out (by rw [atTo_yes Hyes.out, nats_snoc])⟩, hgw1, hb1, hs1⟩
          case measure => simp [intOf]; omega
      · have Hyes : Hid (touch ((eds n.pipes).getD k dE) v = true) := Lib.hid (by rw [Ht.out, hc1]; rfl)
        go_wp2_with (at_builtin; refine wpList_append_own _ rfl _ _ _ rfl (w.heap.size + 1) 2 i0 _ 1 8 Tryz.underlying26 hi0 hz0 hz1 hz2 rfl (by omega) _ m _ rfl (Hown.out.alloc _) ⟨wr.heap.size, 0, none⟩ 1 1 [.int .i64 _] rfl rfl (World.news_of_block (cs := #[.int .i64 _]) (t := 2) (fr := (0, 0)) (heap_alloc_new wr _)) (by simp [Value.oneCell']) (by unfold maxLen; omega) (by omega) (by simp; omega) ?_; intro v' w1 hown1 hg1 _)
        obtain ⟨A', c', rfl⟩ := own_shape hown1
        have Ho := Lib.hid hown1
        have hgw1 : Gr w w1 := (hgr.alloc _).grown hg1 (fun j hj => by have := own_base_le Hown.out hj; omega)
        have hb1 : w1.cell? ⟨w.heap.size, 1, none⟩ = some (.slice (some ⟨b, o, none⟩) n2 c2) := by
          rw [hg1.cell_far _ (by simp; omega) (fun e => absurd (own_base_le Hown.out e.symm) (Nat.not_succ_le_self _))]
          exact ((Gr.refl _).alloc _).has hbr
        have hs1 : w.heap.size + 2 ≤ w1.heap.size := by have := hg1.size; simp at this; omega
        clear hown1 hg1
        go_wp2_with fail
        go_roundw
        case rel => exact ⟨k + 1, by omega, by go_num, ⟨_, _, _, rfl, by rw [atTo_yes Hyes.out, Hmv.out]; simp, own_cells_eq Ho.out (by rw [atTo_yes Hyes.out, nats_snoc])⟩, hgw1, hb1, hs1⟩
        case measure => simp [intOf]; omega
    · obtain rfl : k = n2 := by omega
      have e : atTo (eds n.pipes) v k = atN (eds n.pipes) v := by rw [atN, eds, List.length_map, Hl2.out]; rfl
      have He := Lib.hid e
      clear e
      go_wp2_with fail
      go_ret
      exact ⟨A, m, c, by simp, by rw [← He.out]; exact Hmv.out, by rw [← He.out]; exact own_base Hown.out (by omega), hgr⟩
end Go.Proofs.YthhmhigddmimjaaGreat
/-
  The search of the reference.
-/
namespace Go.Proofs.YthhmhigddmimjaaGreat
open Go.ChangeShapes Go.WideShapes Go.ChangeAt Go.RowKit

theorem infoBool : (Tryz.prog.info? 4).map (fun i => (i.zero, i.size, i.bytes)) = some (some (.bool false), 1, 1) := by kernel_rfl
def bools (l : List Bool) : List Value := l.map Value.bool
theorem made_bools (n : Nat) : (madeCells #[Value.bool false] (n * 1)).toList = bools (List.replicate n false) := by
  rw [Nat.mul_one, toList_madeCells_one]; simp [bools]
theorem own_bool {w : World} {base : Nat} {e : TypeId} {n c g : Nat} {zs : List Bool} (h : w.ownsRow base e 1 (.slice (some ⟨g, 0, none⟩) n c) n (bools zs)) {k : Nat} {x : Bool} (hk : zs[k]? = some x) (hn : k < n) :
    w.cell? ⟨g, k, none⟩ = some (.bool x) ∧ w.frozen? ⟨g, k, none⟩ = false := by
  refine ⟨?_, h.frozenAt k⟩
  rw [h.cellAt k (by omega)]
  simp [bools, hk]
theorem own_set_bool {w : World} {base : Nat} {e : TypeId} {n c g : Nat} {zs : List Bool} (h : w.ownsRow base e 1 (.slice (some ⟨g, 0, none⟩) n c) n (bools zs)) (k : Nat) (x : Bool) :
    (w.setCell ⟨g, k, none⟩ (.bool x)).ownsRow base e 1 (.slice (some ⟨g, 0, none⟩) n c) n (bools (zs.set k x)) ∧ w.grownBy (w.setCell ⟨g, k, none⟩ (.bool x)) (some g) := by
  have h0 := h.stored k (.bool x)
  have e1 : (bools zs).set k (.bool x) = bools (zs.set k x) := by simp [bools, List.map_set]
  rw [e1] at h0
  exact h0
theorem own_set_nat {w : World} {base : Nat} {e : TypeId} {n c g : Nat} {zs : List Nat} (h : w.ownsRow base e 1 (.slice (some ⟨g, 0, none⟩) n c) n (nats zs)) (k x : Nat) :
    (w.setCell ⟨g, k, none⟩ (.int .i64 x)).ownsRow base e 1 (.slice (some ⟨g, 0, none⟩) n c) n (nats (zs.set k x)) ∧ w.grownBy (w.setCell ⟨g, k, none⟩ (.int .i64 x)) (some g) := by
  have h0 := own_set_int h k (x : Int)
  have e1 : (zs.map fun (x : Nat) => (x : Int)).set k (x : Int) = (zs.set k x).map fun (x : Nat) => (x : Int) := by rw [List.map_set]
  rw [e1] at h0
  exact h0
/-- Three rows of a search. -/
structure SrAt (w : World) (B g h n1 : Nat) (O : Value) (s : St) : Prop where
  ge : B ≤ g
  gh : g < h
  ent : w.ownsRow B 2 1 (.slice (some ⟨g, 0, none⟩) n1 n1) n1 (nats s.ent)
  seen : w.ownsRow B 4 1 (.slice (some ⟨h, 0, none⟩) n1 n1) n1 (bools s.seen)
  ord : w.ownsRow (h + 1) 2 1 O s.ord.length (nats s.ord)
theorem SrAt.gr {w w' : World} {B g h n1 : Nat} {O : Value} {s : St} (q : SrAt w B g h n1 O s) (hg : Gr w w') : SrAt w' B g h n1 O s := ⟨q.ge, q.gh, own_gr q.ent hg, own_gr q.seen hg, own_gr q.ord hg⟩
theorem SrAt.lt {w : World} {B g h n1 : Nat} {O : Value} {s : St} (q : SrAt w B g h n1 O s) : h < w.heap.size := own_block_lt q.seen rfl
/-- A node is entered: two stores and an append. -/
theorem SrAt.enter {w w3 : World} {B g h n1 m cap g3 : Nat} {O : Value} {s : St} {o p : Nat} (q : SrAt w B g h n1 O s)
    (h3 : w3.ownsRow (h + 1) 2 1 (.slice (some ⟨g3, 0, none⟩) m cap) m (nats s.ord ++ [.int .i64 o])) (hm : m = s.ord.length + 1) {ob : Obj}
    (hg : (((w.setCell ⟨h, o, none⟩ (.bool true)).setCell ⟨g, o, none⟩ (.int .i64 p)).alloc ob).grownBy w3 O.ownBlock) :
    SrAt w3 B g h n1 (.slice (some ⟨g3, 0, none⟩) m cap) ⟨s.ent.set o p, s.seen.set o true, s.ord ++ [o]⟩ := by
  have hgh := q.gh
  obtain ⟨a1, a2⟩ := own_set_bool q.seen o true
  have e1 := q.ent.kept a2 (Or.inr (by simp [Value.ownBlock]; omega))
  obtain ⟨b1, b2⟩ := own_set_nat e1 o p
  have s1 := a1.kept b2 (Or.inr (by simp [Value.ownBlock]; omega))
  have hne : ∀ j, O.ownBlock = some j → h + 1 ≤ j := fun j hj => own_base_le q.ord hj
  refine ⟨q.ge, q.gh, ?_, ?_, ?_⟩
  · refine (b1.alloc ob).kept hg (Or.inr ?_)
    intro e
    have := hne g (by rw [← e]; rfl)
    omega
  · refine (s1.alloc ob).kept hg (Or.inr ?_)
    intro e
    have := hne h (by rw [← e]; rfl)
    omega
  · simp only [List.length_append, List.length_singleton]
    rw [← hm, nats_snoc]
    exact h3
end Go.Proofs.YthhmhigddmimjaaGreat
