import Derived.Test.YtbckjlejkedonaaFlow8
import Derived.Test.YtbckjlejkedonaaFlowMs
/-
  The full flow of the program.
-/
namespace Go.Proofs.Ytbckjlejkedonaa
open Go.ChangeShapes Go.WideShapes Go.ChangeAt Go.RowKit

theorem indexInt_any {A : Option Addr} {n c : Nat} (l : List Int) (x : Int) (w : World) (hL : SlAt w 1 A n c (ints l)) :
    Calls Try.prog 176 #[.slice A n c, .int .i64 x] w fun e w' => ∃ r : Int, e = .returned (.int .i64 r) ∧ (0 ≤ r ↔ x ∈ l) ∧ w = w' := by
  have hlen := hL.sl.ilen
  have Hlen := Lib.hid hlen
  have hm := hL.small
  have HL := Lib.hid hL
  clear hL hlen
  go_enter Try.func176, Try.ntmps176
  go_wp2_with fail
  go_loop [8] (fun i => ∃ k : Nat, k ≤ n ∧ i = .int .i64 k ∧ x ∉ l.take k) (fun i => n - (intOf i).toNat)
  case atStart => exact ⟨0, Nat.zero_le _, rfl, by simp⟩
  case round =>
    obtain ⟨k, hk, rfl, hno⟩ := hrel
    by_cases hlt : k < n
    · obtain ⟨y, hy⟩ : ∃ y, l[k]? = some y := ⟨_, List.getElem?_eq_getElem (by have := Hlen.out; omega)⟩
      obtain ⟨b, o, rfl, hb, e0⟩ := HL.out.sl.int hy
      have Hy := Lib.hid hy
      have Hno := Lib.hid hno
      clear hy hno
      cases hc : (x == y)
      · have hst : x ∉ l.take (k + 1) := by
          rw [List.take_add_one, Hy.out]
          simp only [Option.toList_some, List.mem_append, List.mem_singleton]
          rintro (h | h)
          · exact Hno.out h
          · simp [h] at hc
        have Hst := Lib.hid hst
        clear hst
        go_wp2_with fail
        go_round
        case rel => exact ⟨k + 1, by omega, by go_num, Hst.out⟩
        case measure => simp [intOf]; omega
      · have hst : x ∈ l := by have : x = y := by simpa using hc
                               rw [this]; exact List.mem_of_getElem? Hy.out
        have Hst := Lib.hid hst
        clear hst
        go_wp2_with fail
        go_ret
        exact ⟨k, rfl, ⟨fun _ => Hst.out, fun _ => by omega⟩, rfl⟩
    · obtain rfl : k = n := by omega
      have Hno := Lib.hid hno
      clear hno
      go_wp2_with fail
      go_ret
      refine ⟨-1, rfl, ⟨fun h => absurd h (by omega), fun h => ?_⟩, rfl⟩
      have := Hno.out
      rw [List.take_of_length_le (by have := Hlen.out; omega)] at this
      exact absurd h this
theorem containsInt_any {A : Option Addr} {n c : Nat} (l : List Int) (x : Int) (w : World) (hL : SlAt w 1 A n c (ints l)) :
    Calls Try.prog 97 #[.slice A n c, .int .i64 x] w fun e w' => e = .returned (.bool (decide (x ∈ l))) ∧ w = w' := by
  have HL := Lib.hid hL
  clear hL
  go_enter Try.func97, Try.ntmps97
  go_wp2_with fail
  refine (indexInt_any l x _ HL.out).mono ?_
  rintro e w1 ⟨r, rfl, hr, rfl⟩
  have Hr := Lib.hid hr
  clear hr
  go_wp2_with fail
  go_ret
  exact ⟨ret_bool (decide_eq_decide.2 Hr.out), rfl⟩
theorem l02Has_any {A : Option Addr} {n c : Nat} (l : List Int) (x : Int) (w : World) (hL : SlAt w 1 A n c (ints l)) :
    Calls Try.prog 155 #[.slice A n c, .int .i64 x] w fun e w' => e = .returned (.bool (decide (x ∈ l))) ∧ w = w' := by
  have hlen := hL.sl.ilen
  have Hlen := Lib.hid hlen
  have hm := hL.small
  have HL := Lib.hid hL
  clear hL hlen
  go_enter Try.func155, Try.ntmps155
  go_wp2_with fail
  go_loop [5] (fun i => ∃ k : Nat, k ≤ n ∧ i = .int .i64 k ∧ x ∉ l.take k) (fun i => n - (intOf i).toNat)
  case atStart => exact ⟨0, Nat.zero_le _, rfl, by simp⟩
  case round =>
    obtain ⟨k, hk, rfl, hno⟩ := hrel
    by_cases hlt : k < n
    · obtain ⟨y, hy⟩ : ∃ y, l[k]? = some y := ⟨_, List.getElem?_eq_getElem (by have := Hlen.out; omega)⟩
      obtain ⟨b, o, rfl, hb, e0⟩ := HL.out.sl.int hy
      have Hy := Lib.hid hy
      have Hno := Lib.hid hno
      clear hy hno
      cases hc : (y == x)
      · have hst : x ∉ l.take (k + 1) := by
          rw [List.take_add_one, Hy.out]
          simp only [Option.toList_some, List.mem_append, List.mem_singleton]
          rintro (h | h)
          · exact Hno.out h
          · simp [h] at hc
        have Hst := Lib.hid hst
        clear hst
        go_wp2_with fail
        go_round
        case rel => exact ⟨k + 1, by omega, by go_num, Hst.out⟩
        case measure => simp [intOf]; omega
      · have hst : x ∈ l := by have : y = x := by simpa using hc
                               rw [← this]; exact List.mem_of_getElem? Hy.out
        have Hst := Lib.hid hst
        clear hst
        go_wp2_with fail
        go_ret
        exact ⟨ret_bool (by simp [Hst.out]), rfl⟩
    · obtain rfl : k = n := by omega
      have Hno := Lib.hid hno
      clear hno
      go_wp2_with fail
      go_ret
      refine ⟨ret_bool ?_, rfl⟩
      have := Hno.out
      rw [List.take_of_length_le (by have := Hlen.out; omega)] at this
      simp [this]
theorem mem_casts {l : List Nat} {v : Nat} : ((v : Int) ∈ l.map fun (x : Nat) => (x : Int)) ↔ v ∈ l := by
  simp only [List.mem_map]
  constructor
  · rintro ⟨a, ha, e⟩
    have : a = v := by omega
    rw [← this]; exact ha
  · intro h; exact ⟨v, h, rfl⟩

set_option maxHeartbeats 3200000 in
set_option maxRecDepth 100000 in
theorem fullFlow_any {A1 A2 : Option Addr} {n1 c1 n2 c2 : Nat} (n : GNet) (node to : Nat) (w : World) (hA : NetAt w A1 n1 c1 A2 n2 c2 n) (hok : netOk n = true) (hn : node < n1) (hne : to ≠ node) :
    Calls Try.prog 82 #[.agg #[.slice A1 n1 c1, .slice A2 n2 c2], .int .i64 node, .int .i64 to] w fun e w' => ∃ g F, e = .returned (.tuple #[.pointer (some ⟨g, 0, none⟩), .int .i64 (outOf (eds n.pipes) (mfl (eds n.pipes) n1 node to) node)]) ∧
      RtAt w' g A1 n1 c1 A2 n2 c2 (some ⟨F, 0, none⟩) n2 n2 (.slice none 0 0) ∧ w'.ownsRow w.heap.size 2 1 (.slice (some ⟨F, 0, none⟩) n2 n2) n2 (ints (mfl (eds n.pipes) n1 node to)) ∧ Keeps (eds n.pipes) (mfl (eds n.pipes) n1 node to) ∧ Gr w w' := by
  obtain ⟨i0, hi0, hz0, hz1, hz2⟩ := info_parts infoInt64
  have hm1 := hA.m1
  have hm2 := hA.m2
  have hEs : EsOk (eds n.pipes) n1 := by have := eds_ok hok; rw [hA.l1] at this; exact this
  have hel : (eds n.pipes).length = n2 := by rw [eds, List.length_map]; exact hA.l2
  have hel40 : n2 ≤ 40 := by have := (netOk_all hok).1.2.2; rw [hA.l2] at this; exact this
  have HEs := Lib.hid hEs
  have HA := Lib.hid hA
  have Hok := Lib.hid hok
  have Hel := Lib.hid hel
  clear hA hok hEs hel
  go_enter Try.func82, Try.ntmps82
  go_wp2_with fail
  obtain ⟨w0, hw0⟩ : ∃ w0, w0 = w.alloc (.cells #[.slice A1 n1 c1, .slice A2 n2 c2] 33) := ⟨_, rfl⟩
  have hgr0 : Gr w w0 := by rw [hw0]; exact (Gr.refl _).alloc _
  have b0 : w0.cell? ⟨w.heap.size, 0, none⟩ = some (.slice A1 n1 c1) := by rw [hw0]; simp [go_sem]
  have b1 : w0.cell? ⟨w.heap.size, 1, none⟩ = some (.slice A2 n2 c2) := by rw [hw0]; simp [go_sem]
  rw [← hw0]
  clear hw0
  have zz : w.heap.size < w0.heap.size := lt_of_cell b0
  obtain ⟨wm, hmk, hownm, hgm⟩ := run_makeSlice_full (P := Try.prog) w0.drew w0.heap.size 27 2 i0 _ 1 Try.underlying27 hi0 hz0 hz1 .i64 .i64 n2 (by omega) (by rw [hz2]; omega) (by unfold maxLen; omega) (Nat.le_refl _)
  have hgwm : Gr w0 wm := (Gr.refl _).drew.grown hgm (fun _ e => by cases e)
  have m0 := hgwm.has b0
  have m1 := hgwm.has b1
  have hownm' : wm.ownsRow w.heap.size 2 1 (.slice (some ⟨w0.heap.size, 0, none⟩) n2 n2) n2 (ints (List.replicate n2 0)) := own_base (own_cells_eq hownm (made_ints n2)) (Nat.le_of_lt zz)
  have Hom := Lib.hid hownm'
  clear hownm hgm hownm'
  go_region
  obtain ⟨w1, hw1⟩ : ∃ w1, w1 = wm.alloc (.cells #[.slice A1 n1 c1, .slice A2 n2 c2, .slice (some ⟨w0.heap.size, 0, none⟩) n2 n2, .slice none 0 0] 123) := ⟨_, rfl⟩
  have hgw1 : Gr w w1 := by rw [hw1]; exact (hgr0.trans hgwm).alloc _
  have hR1 : RtAt w1 wm.heap.size A1 n1 c1 A2 n2 c2 (some ⟨w0.heap.size, 0, none⟩) n2 n2 (.slice none 0 0) := by rw [hw1]; exact ⟨by simp [go_sem], by simp [go_sem], by simp [go_sem], by simp [go_sem]⟩
  have hO1 : w1.ownsRow w.heap.size 2 1 (.slice (some ⟨w0.heap.size, 0, none⟩) n2 n2) n2 (ints (List.replicate n2 0)) := by rw [hw1]; exact Hom.out.alloc _
  rw [← hw1]
  obtain ⟨g, hg⟩ : ∃ g, g = wm.heap.size := ⟨_, rfl⟩
  obtain ⟨F, hF⟩ : ∃ F, F = w0.heap.size := ⟨_, rfl⟩
  have hFm : w0.heap.size < wm.heap.size := own_block_lt Hom.out rfl
  have hgF : g ≠ F := by omega
  have hFw : w.heap.size < F := by omega
  rw [← hg, ← hF] at hR1
  rw [← hF] at hO1
  rw [← hg, ← hF]
  have HR1 := Lib.hid hR1
  have HO1 := Lib.hid hO1
  clear hw1 hmk m0 m1 b0 b1 hg hF hFm hR1 hO1 Hom hgwm zz hgr0
  go_wp2_with fail
  go_loopw [9] (fun sm wr => ∃ fl, Reach (ffGo (eds n.pipes) n1 node to) (ffS (eds n.pipes) n1 node to) (List.replicate (eds n.pipes).length 0) fl ∧ Keeps (eds n.pipes) fl ∧ 0 ≤ outOf (eds n.pipes) fl node ∧ sm = .int .i64 (outOf (eds n.pipes) fl node) ∧ wr.ownsRow w.heap.size 2 1 (.slice (some ⟨F, 0, none⟩) n2 n2) n2 (ints fl) ∧ RtAt wr g A1 n1 c1 A2 n2 c2 (some ⟨F, 0, none⟩) n2 n2 (.slice none 0 0) ∧ Gr w wr) (fun sm _ => (1200001 - intOf sm).toNat)
  case atStart => exact ⟨_, .refl _, keeps_zero HEs.out, by rw [outOf_zero]; exact Int.le_refl 0, by rw [outOf_zero], by rw [Hel.out]; exact HO1.out, HR1.out, hgw1⟩
  case round =>
    obtain ⟨fl, hre, hk, h00, rfl, hown, hR, hgr⟩ := hrel
    have hle := outOf_le HEs.out hk node
    rw [Hel.out] at hle
    have hle2 : outOf (eds n.pipes) fl node ≤ 1200000 := by omega
    obtain ⟨sm, hsm⟩ : ∃ sm, sm = outOf (eds n.pipes) fl node := ⟨_, rfl⟩
    rw [← hsm] at h00 hle2
    rw [← hsm]
    have Hsm := Lib.hid hsm
    have Hre := Lib.hid hre
    have Hk := Lib.hid hk
    have Hown := Lib.hid hown
    have HR := Lib.hid hR
    have hFr : F < wr.heap.size := own_block_lt hown rfl
    clear hre hk hown hR hle hsm hgw1
    go_wp2_with fail
    refine (search_any n fl node _ HR.out (HA.out.gr hgr) (own_sl_int Hown.out hm2) Hok.out Hk.out hn).mono ?_
    rintro e w2 ⟨O, E, rfl, ⟨Ao, co, rfl⟩, hEnt, hOrd, hOE, hg2⟩
    have hI := inv_srch (fl := fl) HEs.out hn
    obtain ⟨st, hst⟩ : ∃ st, st = srch (eds n.pipes) fl n1 node := ⟨_, rfl⟩
    rw [← hst] at hEnt hOrd hI
    rw [← hst]
    have hlen := hI.len
    have hEr : wr.heap.size ≤ E := own_base_le hEnt rfl
    have hEF : E ≠ F := by omega
    have HEnt := Lib.hid hEnt
    have HOrd := Lib.hid hOrd
    have HI := Lib.hid hI
    have Hst := Lib.hid hst
    have hgw2 := hgr.trans hg2
    clear hEnt hOrd hI hst hOE
    go_wp2_with fail
    generalize hw3 : World.alloc w2 _ = w3
    have hg3 : Gr w2 w3 := by rw [← hw3]; exact (Gr.refl _).alloc _
    have q0 : w3.cell? ⟨w2.heap.size, 0, none⟩ = some (.slice Ao st.ord.length co) := by rw [← hw3]; simp [go_sem]
    have q1 : w3.cell? ⟨w2.heap.size, 1, none⟩ = some (.slice none 0 0) := by rw [← hw3]; simp [go_sem]
    have q2 : w3.cell? ⟨w2.heap.size, 2, none⟩ = some (.slice (some ⟨E, 0, none⟩) n1 n1) := by rw [← hw3]; simp [go_sem]
    clear hw3
    have hgw3 := hgw2.trans hg3
    refine (containsInt_any (st.ord.map fun (x : Nat) => (x : Int)) (to : Int) _ (SlAt.of_own (own_gr HOrd.out hg3) (by omega))).mono ?_
    rintro e w4 ⟨rfl, rfl⟩
    by_cases hin : to ∈ st.ord
    · have hc : decide ((to : Int) ∈ st.ord.map fun (x : Nat) => (x : Int)) = true := decide_eq_true (mem_casts.2 hin)
      rw [hc]
      have hgo : ffGo (eds n.pipes) n1 node to fl := by rw [ffGo, ← Hst.out]; exact hin
      obtain ⟨f1, f2, f3, f4⟩ := ff_step HEs.out hn hne Hk.out hgo
      have hle3 := outOf_le HEs.out f3 node
      rw [Hel.out] at hle3
      rw [← Hsm.out] at f4
      obtain ⟨a, ha⟩ : ∃ a, a = ffA (eds n.pipes) n1 node to fl := ⟨_, rfl⟩
      have hAm : amtOf (eds n.pipes) fl st (pth (eds n.pipes) st node to) 1000000000000000000 = a := by rw [ha, ffA, ← Hst.out]
      have hFm : pushes (eds n.pipes) st a (pth (eds n.pipes) st node to) fl = ffS (eds n.pipes) n1 node to fl := by rw [ffS, ← ha, ← Hst.out]
      rw [← ha] at f1 f2 f4
      have HAm := Lib.hid hAm
      have HFm := Lib.hid hFm
      have Hgo := Lib.hid hgo
      have Hin := Lib.hid hin
      have H3 := Lib.hid f3
      have H4 := Lib.hid f4
      have hb4 : sm + a ≤ 1200000 := by omega
      clear hc hgo ha hAm hFm hin f3 f4 hle3
      go_wp2_with fail
      refine (send_any n fl st node to 1000000000000000000 w _ HA.out hgw3 (Nat.le_refl _) (HR.out.gr (hg2.trans hg3)) (own_gr Hown.out (hg2.trans hg3)) (own_gr HEnt.out hg3) hEF hgF hm2 Hok.out Hk.out HI.out Hin.out ⟨by decide, by decide⟩).mono ?_
      rintro e w5 ⟨rfl, hown5, hgr5⟩
      rw [HAm.out] at hown5
      rw [HAm.out]
      rw [HFm.out] at hown5
      have hR5 := (HR.out.gr (hg2.trans hg3)).grown hgr5 hgF
      have hgw5 : Gr w w5 := hgw3.grown hgr5 (fun _ e => by injection e with e; omega)
      have HR5 := Lib.hid hR5
      have Hown5 := Lib.hid hown5
      clear hR5 hown5 hgr5
      go_wp2_with fail
      go_roundw
      case rel => exact ⟨_, Hre.out.snoc Hgo.out, H3.out, by rw [H4.out]; omega, by rw [H4.out], Hown5.out, HR5.out, hgw5⟩
      case measure => simp [intOf]; omega
    · have hc : decide ((to : Int) ∈ st.ord.map fun (x : Nat) => (x : Int)) = false := decide_eq_false (fun h => hin (mem_casts.1 h))
      rw [hc]
      have hfin : mfl (eds n.pipes) n1 node to = fl := fin_eq Hre.out (by rw [ffGo, ← Hst.out]; exact hin)
      have Hfin := Lib.hid hfin
      clear hfin hc hin
      go_wp2_with fail
      go_ret2
      exact ⟨g, F, by rw [Hfin.out, ← Hsm.out]; rfl, HR.out.gr (hg2.trans hg3), by rw [Hfin.out]; exact own_gr Hown.out (hg2.trans hg3), by rw [Hfin.out]; exact Hk.out, hgw3⟩
end Go.Proofs.Ytbckjlejkedonaa
/-
  The full flow of the reference.
-/
namespace Go.Proofs.Ytbckjlejkedonaa
open Go.ChangeShapes Go.WideShapes Go.ChangeAt Go.RowKit

def memTo (ord : List Nat) (k : Nat) : List Nat := (List.range k).filter fun v => decide (v ∈ ord)
theorem memTo_yes {ord : List Nat} {k : Nat} (h : k ∈ ord) : memTo ord (k + 1) = memTo ord k ++ [k] := by
  simp [memTo, List.range_succ, List.filter_append, h]
theorem memTo_no {ord : List Nat} {k : Nat} (h : k ∉ ord) : memTo ord (k + 1) = memTo ord k := by
  simp [memTo, List.range_succ, List.filter_append, h]
theorem memTo_len (ord : List Nat) (k : Nat) : (memTo ord k).length ≤ k := by
  have := List.length_filter_le (fun v => decide (v ∈ ord)) (List.range k)
  simpa [memTo] using this
theorem lfOf_len (es : List Ed) (N node to : Nat) (fl : List Int) : (lfOf es N node to fl).length = N := by simp [lfOf]
theorem lfOf_bnd {es : List Ed} {N node to : Nat} (hn : node < N) (ht : to < N) (hne : to ≠ node) {fl : List Int} (h1 : 0 ≤ outOf es fl node) (h2 : outOf es fl node ≤ 1200000) : BndL 1000000000 (lfOf es N node to fl) := by
  intro k z hz
  have hk : k < N := by have := (List.getElem?_eq_some_iff.1 hz).1; rw [lfOf_len] at this; exact this
  have e : (lfOf es N node to fl).getD k 0 = z := by rw [List.getD_eq_getElem?_getD, hz]; rfl
  by_cases e1 : k = to
  · rw [e1, lfOf_to ht] at e; omega
  · by_cases e2 : k = node
    · rw [e2, lfOf_node hn hne] at e; omega
    · rw [lfOf_other e2 e1] at e; omega
theorem lfOf_zero (es : List Ed) (N node to : Nat) : lfOf es N node to (List.replicate es.length 0) = ((List.replicate N (0 : Int)).set node 1200000).set to (-1200000) := by
  rw [lfOf, outOf_zero]; rfl

set_option maxHeartbeats 3200000 in
set_option maxRecDepth 100000 in
theorem l23Between_any {A1 A2 : Option Addr} {n1 c1 n2 c2 : Nat} (n : GNet) (node to : Nat) (w : World) (hA : NetAt w A1 n1 c1 A2 n2 c2 n) (hok : netOk n = true) (hn : node < n1) (ht : to < n1) (hne : to ≠ node) :
    Calls Try.prog 78 #[.agg #[.slice A1 n1 c1, .slice A2 n2 c2], .int .i64 node, .int .i64 to] w fun e w' => ∃ A m c, e = .returned (.tuple #[.int .i64 (outOf (eds n.pipes) (mfl (eds n.pipes) n1 node to) node), .slice A m c]) ∧ m = (memTo (srch (eds n.pipes) (mfl (eds n.pipes) n1 node to) n1 node).ord n1).length ∧
      w'.ownsRow w.heap.size 2 1 (.slice A m c) m (nats (memTo (srch (eds n.pipes) (mfl (eds n.pipes) n1 node to) n1 node).ord n1)) ∧ Gr w w' := by
  obtain ⟨i0, hi0, hz0, hz1, hz2⟩ := info_parts infoInt64
  have hm1 := hA.m1
  have hm2 := hA.m2
  have hEs : EsOk (eds n.pipes) n1 := by have := eds_ok hok; rw [hA.l1] at this; exact this
  have hel : (eds n.pipes).length = n2 := by rw [eds, List.length_map]; exact hA.l2
  have hel40 : n2 ≤ 40 := by have := (netOk_all hok).1.2.2; rw [hA.l2] at this; exact this
  have HEs := Lib.hid hEs
  have HA := Lib.hid hA
  have Hok := Lib.hid hok
  have Hel := Lib.hid hel
  clear hA hok hEs hel
  have tn0 : (0 : Int) ≤ (node : Int) := by omega
  have tn1 : (node : Int) < (n1 : Int) := by omega
  have tt0 : (0 : Int) ≤ (to : Int) := by omega
  have tt1 : (to : Int) < (n1 : Int) := by omega
  go_enter Try.func78, Try.ntmps78
  go_wp2_with (first
    | (at_make; refine wpList_make_full _ rfl _ _ _ rfl w.heap.size 2 i0 _ 1 Try.underlying27 hi0 hz0 hz1 .i64 .i64 _ _ n2 rfl rfl rfl rfl (by rw [hz2]; omega) (by unfold maxLen; omega) (by simp) ?_; intro w1 hown1 hg1; have hq1 : Gr (w.alloc (.cells #[.slice A1 n1 c1, .slice A2 n2 c2] 33)) w1 := Gr.of_grown hg1; have b0 : w1.cell? ⟨w.heap.size, 0, none⟩ = some (.slice A1 n1 c1) := hq1.has (by simp [go_sem]); have b1 : w1.cell? ⟨w.heap.size, 1, none⟩ = some (.slice A2 n2 c2) := hq1.has (by simp [go_sem]); have Ho1 := Lib.hid hown1; clear hown1)
    | (at_make; refine wpList_make_full _ rfl _ _ _ rfl w.heap.size 2 i0 _ 1 Try.underlying27 hi0 hz0 hz1 .i64 .i64 _ _ n1 rfl rfl rfl rfl (by rw [hz2]; omega) (by unfold maxLen; omega) (by have := hq1.size; simp at this; omega) ?_; intro w2 hown2 hg2; have hq2 := Gr.of_grown hg2; have hown2' : w2.ownsRow w.heap.size 2 1 (.slice (some ⟨w1.heap.size, 0, none⟩) n1 n1) n1 (ints (List.replicate n1 0)) := own_cells_eq hown2 (made_ints n1); obtain ⟨d0, d1⟩ := own_int hown2' (k := node) (x := 0) (by simp [hn]); obtain ⟨d2, d3⟩ := own_int hown2' (k := to) (x := 0) (by simp [ht]); have Ho2 := Lib.hid hown2'; clear hown2 hown2'))
  generalize hw3 : World.setCell (World.setCell w2 _ _) _ _ = w3
  obtain ⟨R1, R2⟩ := own_set_int Ho2.out node 1200000
  obtain ⟨R3, R4⟩ := own_set_int R1 to (-1200000)
  have o1 : w1.ownsRow w.heap.size 2 1 (.slice (some ⟨w.heap.size + 1, 0, none⟩) n2 n2) n2 (ints (List.replicate n2 0)) := by
    have := own_cells_eq Ho1.out (made_ints n2)
    simpa using this
  have l1 : w.heap.size + 1 < w1.heap.size := own_block_lt o1 rfl
  have hO3 : w3.ownsRow w.heap.size 2 1 (.slice (some ⟨w.heap.size + 1, 0, none⟩) n2 n2) n2 (ints (List.replicate n2 0)) := by
    rw [← hw3]
    exact ((own_gr o1 hq2).kept R2 (Or.inr (by simp [Value.ownBlock]; omega))).kept R4 (Or.inr (by simp [Value.ownBlock]; omega))
  have hL3 : w3.ownsRow w.heap.size 2 1 (.slice (some ⟨w1.heap.size, 0, none⟩) n1 n1) n1 (ints (lfOf (eds n.pipes) n1 node to (List.replicate (eds n.pipes).length 0))) := by
    rw [← hw3, lfOf_zero]; exact R3
  have hg3 : Gr w w3 := by
    rw [← hw3]
    exact ((((((Gr.refl _).alloc _).trans hq1).trans hq2)).grown R2 (fun _ e => by injection e with e; omega)).grown R4 (fun _ e => by injection e with e; omega)
  have x0 : w3.cell? ⟨w.heap.size, 0, none⟩ = some (.slice A1 n1 c1) := by rw [← hw3]; exact set_other (set_other (hq2.has b0) (by simp; omega) _) (by simp; omega) _
  have x1 : w3.cell? ⟨w.heap.size, 1, none⟩ = some (.slice A2 n2 c2) := by rw [← hw3]; exact set_other (set_other (hq2.has b1) (by simp; omega) _) (by simp; omega) _
  obtain ⟨F, hF⟩ : ∃ F, F = w.heap.size + 1 := ⟨_, rfl⟩
  obtain ⟨G, hG⟩ : ∃ G, G = w1.heap.size := ⟨_, rfl⟩
  rw [← hF] at hO3
  rw [← hG] at hL3
  rw [← hF, ← hG]
  have hFw : w.heap.size < F := by omega
  have hGw : w.heap.size < G := by omega
  have hFG : F ≠ G := by omega
  have HO3 := Lib.hid hO3
  have HL3 := Lib.hid hL3
  clear hw3 R1 R2 R3 R4 o1 l1 hO3 hL3 Ho1 Ho2 b0 b1 d0 d1 d2 d3 hq1 hq2 hF hG hg1 hg2
  go_loopw [36] (fun _ wr => ∃ fl, Reach (ffGo (eds n.pipes) n1 node to) (ffS (eds n.pipes) n1 node to) (List.replicate (eds n.pipes).length 0) fl ∧ Keeps (eds n.pipes) fl ∧ 0 ≤ outOf (eds n.pipes) fl node ∧ wr.ownsRow w.heap.size 2 1 (.slice (some ⟨F, 0, none⟩) n2 n2) n2 (ints fl) ∧ wr.ownsRow w.heap.size 2 1 (.slice (some ⟨G, 0, none⟩) n1 n1) n1 (ints (lfOf (eds n.pipes) n1 node to fl)) ∧ Gr w wr ∧ wr.cell? ⟨w.heap.size, 0, none⟩ = some (.slice A1 n1 c1) ∧ wr.cell? ⟨w.heap.size, 1, none⟩ = some (.slice A2 n2 c2)) (fun _ wr => ((wr.cell? ⟨G, node, none⟩).elim 0 fun v => (intOf v).toNat))
  case atStart => exact ⟨_, .refl _, keeps_zero HEs.out, by rw [outOf_zero]; exact Int.le_refl 0, by rw [Hel.out]; exact HO3.out, HL3.out, hg3, x0, x1⟩
  case round =>
    obtain ⟨fl, hre, hk, h00, hown, hlf, hgr, y0, y1⟩ := hrel
    clear x0 x1 hg3
    obtain ⟨s1, s2, s3⟩ := ff_spec HEs.out (by rw [Hel.out]; exact hel40) hn ht hne hk h00
    have Hre := Lib.hid hre
    have Hk := Lib.hid hk
    have Hown := Lib.hid hown
    have Hlf := Lib.hid hlf
    have Hs2 := Lib.hid s2
    have Hs3 := Lib.hid s3
    have hln : (lfOf (eds n.pipes) n1 node to fl)[node]? = some (1200000 - outOf (eds n.pipes) fl node) := by rw [get_int (by rw [lfOf_len]; exact hn), lfOf_node hn hne]
    have hcw := (own_int hlf hln).1
    have hbd := lfOf_bnd (es := eds n.pipes) hn ht hne h00 (by omega)
    have Hbd := Lib.hid hbd
    have Hcw := Lib.hid hcw
    clear hre hk hown hlf s2 s3 hln hbd hcw
    go_wp2_with fail
    refine (l23Send_any n fl (lfOf (eds n.pipes) n1 node to fl) node w _ HA.out hgr (Nat.le_refl _) Hown.out Hlf.out hFG hm2 rfl Hok.out Hk.out hn Hbd.out (by rw [lfOf_node hn hne]; exact s1) (fun t htt => by
      rw [lfOf_node hn hne]
      by_cases hg : ffGo (eds n.pipes) n1 node to fl
      · exact (Hs2.out hg).1
      · rw [Hs3.out hg] at htt; cases htt)).mono ?_
    rintro e w4 ⟨r, rfl, hch, hr⟩
    have z0 := cell_chg y0 hch (by simp; omega)
    have z1 := cell_chg y1 hch (by simp; omega)
    have hgw4 : Gr w w4 := hgr.of_chg hch (fun k hk => by rcases hk with hk | hk <;> omega)
    rcases hr with ⟨rfl, htn, hgr4⟩ | ⟨rfl, t, htt, hF4, hL4⟩
    · have hng : ¬ ffGo (eds n.pipes) n1 node to fl := fun hg => by rw [(Hs2.out hg).2.1] at htn; cases htn
      have hfin : mfl (eds n.pipes) n1 node to = fl := fin_eq Hre.out hng
      have Hfin := Lib.hid hfin
      have HF4 := Lib.hid (own_gr Hown.out hgr4)
      have HL4 := Lib.hid (own_gr Hlf.out hgr4)
      have hcw4 := hgr4.has Hcw.out
      have hw0 : IntKind.i64.wrap (1200000 - (1200000 - outOf (eds n.pipes) fl node)) = outOf (eds n.pipes) fl node := by rw [IntWalk.i64_in _ (by omega)]; omega
      clear hng hfin htn hch y0 y1
      go_wp2_with fail
      refine (l23Search_any n fl node _ (HA.out.gr hgw4) (own_sl_int HF4.out hm2) Hok.out Hk.out hn).mono ?_
      rintro e w5 ⟨O, gE, gS, rfl, ⟨A, c, rfl⟩, hS, hw5⟩
      obtain ⟨st, hst⟩ : ∃ st, st = srch (eds n.pipes) fl n1 node := ⟨_, rfl⟩
      have hI := inv_srch (fl := fl) HEs.out hn
      rw [← hst] at hS hI
      rw [← hst]
      have hlen := hI.len
      have HS := Lib.hid hS
      have Hst := Lib.hid hst
      have u0 := hw5.has z0
      have u1 := hw5.has z1
      have hcw5 := hw5.has hcw4
      have hgw5 := hgw4.trans hw5
      clear hS hI hst z0 z1 hcw4
      go_wp2_with fail
      generalize hw6 : World.alloc w5 _ = w6
      have hg6 : Gr w5 w6 := by rw [← hw6]; exact (Gr.refl _).alloc _
      have hown6 : w6.ownsRow w5.heap.size 2 1 (.slice (some ⟨w5.heap.size, 0, none⟩) 0 0) 0 (nats (memTo st.ord 0)) := by
        rw [← hw6]
        exact World.ownsRow_lit w5 (e := 2) (size := 1) #[] 0 (Nat.le_refl _) (by unfold maxLen; omega) rfl
      have Ho6 := Lib.hid hown6
      have v0 := hg6.has u0
      have hcw6 := hg6.has hcw5
      have hgw6 := hgw5.trans hg6
      have hs6 := hg6.size
      have hs5 := lt_of_cell u0
      have hs7 := lt_of_cell hcw5
      clear hw6 hown6 u1
      go_loopw [13, 14] (fun o i wr => ∃ k : Nat, ∃ A m c, k ≤ n1 ∧ i = .int .i64 k ∧ o = .slice A m c ∧ m = (memTo st.ord k).length ∧ wr.ownsRow w5.heap.size 2 1 (.slice A m c) m (nats (memTo st.ord k)) ∧ Gr w5 wr) (fun _ i _ => n1 - (intOf i).toNat)
      case atStart => exact ⟨0, _, _, _, Nat.zero_le _, rfl, rfl, rfl, Ho6.out, hg6⟩
      case round =>
        obtain ⟨k, A', m, c', hk, rfl, rfl, hmv, hown, hg5r⟩ := hrel
        have v0 := hg5r.has u0
        have hcw7 := hg5r.has hcw5
        have Hown := Lib.hid hown
        have Hmv := Lib.hid hmv
        have hm : m ≤ n1 := by have := memTo_len st.ord k; omega
        have hs8 := hg5r.size
        clear hown hmv
        by_cases hlt : k < n1
        · go_wp2_with fail
          refine (l02Has_any (st.ord.map fun (x : Nat) => (x : Int)) (k : Int) _ (SlAt.of_own (own_gr HS.out.ord hg5r) (by omega))).mono ?_
          rintro e w8 ⟨rfl, rfl⟩
          by_cases hin : k ∈ st.ord
          · have hc : decide ((k : Int) ∈ st.ord.map fun (x : Nat) => (x : Int)) = true := decide_eq_true (mem_casts.2 hin)
            rw [hc]
            have Hin := Lib.hid hin
            clear hc hin
            go_wp2_with (at_builtin; refine wpList_append_own _ rfl _ _ _ rfl w5.heap.size 2 i0 _ 1 8 Try.underlying27 hi0 hz0 hz1 hz2 rfl (by omega) _ m _ rfl (Hown.out.alloc _) ⟨wr.heap.size, 0, none⟩ 1 1 [.int .i64 _] rfl rfl (World.news_of_block (cs := #[.int .i64 _]) (t := 2) (fr := (0, 0)) (heap_alloc_new wr _)) (by simp [Value.oneCell']) (by unfold maxLen; omega) (by omega) (by simp; omega) ?_; intro v' w9 hown1 hg1 _)
            obtain ⟨A9, c9, rfl⟩ := own_shape hown1
            have Ho := Lib.hid hown1
            have hgw9 : Gr w5 w9 := (hg5r.alloc _).grown hg1 (fun j hj => own_base_le Hown.out hj)
            clear hown1 hg1
            go_wp2_with fail
            go_roundw
            case rel => exact ⟨k + 1, _, _, _, by omega, by go_num, rfl, by rw [memTo_yes Hin.out, Hmv.out]; simp, own_cells_eq Ho.out (by rw [memTo_yes Hin.out, nats_snoc]), hgw9⟩
            case measure => simp [intOf]; omega
          · have hc : decide ((k : Int) ∈ st.ord.map fun (x : Nat) => (x : Int)) = false := decide_eq_false (fun h => hin (mem_casts.1 h))
            rw [hc]
            have Hin := Lib.hid hin
            clear hc hin
            go_wp2_with fail
            go_roundw
            case rel => exact ⟨k + 1, _, _, _, by omega, by go_num, rfl, by rw [memTo_no Hin.out]; exact Hmv.out, by rw [memTo_no Hin.out]; exact Hown.out, hg5r⟩
            case measure => simp [intOf]; omega
        · obtain rfl : k = n1 := by omega
          go_wp2_with fail
          go_ret2
          refine ⟨A', m, c', ?_, by rw [Hfin.out, ← Hst.out]; exact Hmv.out, by rw [Hfin.out, ← Hst.out]; exact own_base Hown.out (by omega), hgw5.trans hg5r⟩
          rw [Hfin.out]
          rfl
    · have hgo : ffGo (eds n.pipes) n1 node to fl := by
        refine Classical.byContradiction fun hg => ?_
        rw [Hs3.out hg] at htt; cases htt
      obtain ⟨g1, g2, g3, g4⟩ := Hs2.out hgo
      rw [g2] at htt
      injection htt with htt
      subst htt
      rw [g3] at hF4
      rw [g4] at hL4
      obtain ⟨f1, f2, f3, f4⟩ := ff_step HEs.out hn hne Hk.out hgo
      have HF4 := Lib.hid hF4
      have HL4 := Lib.hid hL4
      have Hgo := Lib.hid hgo
      have H3 := Lib.hid f3
      have h04 : 0 ≤ outOf (eds n.pipes) (ffS (eds n.pipes) n1 node to fl) node := by rw [f4]; omega
      have hle4 := (ff_spec HEs.out (by rw [Hel.out]; exact hel40) hn ht hne f3 h04).1
      have hln : (lfOf (eds n.pipes) n1 node to (ffS (eds n.pipes) n1 node to fl))[node]? = some (1200000 - outOf (eds n.pipes) (ffS (eds n.pipes) n1 node to fl) node) := by rw [get_int (by rw [lfOf_len]; exact hn), lfOf_node hn hne]
      have hcw4 := (own_int hL4 hln).1
      have hms : ((w4.cell? ⟨G, node, none⟩).elim 0 fun v => (intOf v).toNat) < ((wr.cell? ⟨G, node, none⟩).elim 0 fun v => (intOf v).toNat) := by
        rw [hcw4, Hcw.out]
        simp [intOf]
        omega
      have Hms := Lib.hid hms
      clear hF4 hL4 hgo g1 g2 g3 g4 f3 f4 hch hln hcw4 y0 y1 hms hle4
      go_wp2_with fail
      go_roundw
      case rel => exact ⟨_, Hre.out.snoc Hgo.out, H3.out, h04, HF4.out, HL4.out, hgw4, z0, z1⟩
      case measure => exact Hms.out
end Go.Proofs.Ytbckjlejkedonaa
/-
  GreatestFlow, of the program and of the reference.
-/
namespace Go.Proofs.Ytbckjlejkedonaa
open Go.ChangeShapes Go.WideShapes Go.ChangeAt Go.RowKit

def inN (n : GNet) (v : Int) : Bool := inB 0 v ((n.nodes.length : Int) - 1)
def ndCode (n : GNet) (l : List Int) : Int := if netOk n = true then (if l.all (inN n) = true then 0 else 2) else 1
theorem all_take_step {p : Int → Bool} {l : List Int} {k : Nat} {x : Int} (hx : l[k]? = some x) (h : (l.take k).all p = true) (hp : p x = true) : (l.take (k + 1)).all p = true := by
  rw [List.take_add_one, hx]
  simp only [Option.toList_some, List.all_append, h, List.all_cons, List.all_nil, hp, Bool.and_self]
theorem all_bad {p : Int → Bool} {l : List Int} {k : Nat} {x : Int} (hx : l[k]? = some x) (hp : p x = false) : l.all p = false := by
  rw [List.all_eq_false]
  exact ⟨x, List.mem_of_getElem? hx, by simp [hp]⟩
set_option maxRecDepth 100000 in
theorem checkNodes_any {A1 A2 A : Option Addr} {n1 c1 n2 c2 m c : Nat} (n : GNet) (l : List Int) (w : World) (hA : NetAt w A1 n1 c1 A2 n2 c2 n) (hL : SlAt w 1 A m c (ints l)) :
    Calls Try.prog 81 #[.agg #[.slice A1 n1 c1, .slice A2 n2 c2], .slice A m c] w fun e w' => e = .returned (.int .i64 (ndCode n l)) ∧ Gr w w' := by
  have hm1 := hA.m1
  have hl1 := hA.l1
  have hm := hL.small
  have hlen := hL.sl.ilen
  have Hlen := Lib.hid hlen
  have HA := Lib.hid hA
  have HL := Lib.hid hL
  have Hl1 := Lib.hid hl1
  clear hA hL hlen hl1
  go_enter Try.func81, Try.ntmps81
  go_wp2_with fail
  refine (IsNetwork_any _ _ _ _ _ _ n _ (HA.out.gr ((Gr.refl _).alloc _))).mono ?_
  rintro e w1 ⟨rfl, hg1⟩
  have b0 : w1.cell? ⟨w.heap.size, 0, none⟩ = some (.slice A1 n1 c1) := hg1.has (by simp [go_sem])
  have b1 : w1.cell? ⟨w.heap.size, 1, none⟩ = some (.slice A2 n2 c2) := hg1.has (by simp [go_sem])
  have hgw1 : Gr w w1 := ((Gr.refl _).alloc _).trans hg1
  clear hg1
  cases hok : netOk n with
  | false =>
    have Hok := Lib.hid hok
    clear hok
    go_wp2_with fail
    go_ret
    exact ⟨ret_int (by rw [ndCode, if_neg (by rw [Hok.out]; simp)]), hgw1⟩
  | true =>
    have Hok := Lib.hid hok
    clear hok
    go_wp2_with fail
    go_loopw [12] (fun i wr => ∃ k : Nat, k ≤ m ∧ i = .int .i64 k ∧ (l.take k).all (inN n) = true ∧ Gr w wr ∧ wr.cell? ⟨w.heap.size, 0, none⟩ = some (.slice A1 n1 c1) ∧ wr.cell? ⟨w.heap.size, 1, none⟩ = some (.slice A2 n2 c2)) (fun i _ => m - (intOf i).toNat)
    case atStart => exact ⟨0, Nat.zero_le _, rfl, rfl, hgw1, b0, b1⟩
    case round =>
      obtain ⟨k, hk, rfl, hall, hgr, x0, x1⟩ := hrel
      have Hall := Lib.hid hall
      clear hall b0 b1 hgw1
      by_cases hlt : k < m
      · obtain ⟨x, hx⟩ : ∃ x, l[k]? = some x := ⟨_, List.getElem?_eq_getElem (by have := Hlen.out; omega)⟩
        obtain ⟨b, o, rfl, hb, e0⟩ := (HL.out.sl.gr hgr).int hx
        have Hx := Lib.hid hx
        clear hx
        go_wp2_with fail
        refine (isNodeOf_any A1 A2 n1 c1 n2 c2 x _ hm1).mono ?_
        rintro e w2 ⟨rfl, hg2⟩
        have y0 := hg2.has x0
        have y1 := hg2.has x1
        have hin : inN n x = inB 0 x (n1 - 1) := by rw [inN, Hl1.out]
        rw [← hin]
        clear hin
        cases hc : inN n x with
        | true =>
          have Hc := Lib.hid hc
          clear hc
          go_wp2_with fail
          go_roundw
          case rel => exact ⟨k + 1, by omega, by go_num, all_take_step Hx.out Hall.out Hc.out, hgr.trans hg2, y0, y1⟩
          case measure => simp [intOf]; omega
        | false =>
          have Hc := Lib.hid hc
          clear hc
          go_wp2_with fail
          go_ret
          exact ⟨ret_int (by rw [ndCode, if_pos Hok.out, if_neg (by rw [all_bad Hx.out Hc.out]; simp)]), hgr.trans hg2⟩
      · obtain rfl : k = m := by omega
        go_wp2_with fail
        go_ret
        have h := Hall.out
        rw [List.take_of_length_le (by have := Hlen.out; omega)] at h
        exact ⟨ret_int (by rw [ndCode, if_pos Hok.out, if_pos h]), hgr⟩
def gfCode (n : GNet) (a b : Int) : Int := if netOk n = true then (if (inN n a && inN n b && !(a == b)) = true then 0 else 2) else 1
theorem inN_iff {n : GNet} {v : Int} : inN n v = true ↔ 0 ≤ v ∧ v ≤ (n.nodes.length : Int) - 1 := inB_iff
theorem gfCode_zero {n : GNet} {a b : Int} (h : gfCode n a b = 0) : netOk n = true ∧ inN n a = true ∧ inN n b = true ∧ a ≠ b := by
  unfold gfCode at h
  split at h
  · rename_i h1
    split at h
    · rename_i h2
      simp only [Bool.and_eq_true, Bool.not_eq_true', beq_eq_false_iff_ne, ne_eq] at h2
      exact ⟨h1, h2.1.1, h2.1.2, h2.2⟩
    · omega
  · omega
noncomputable def gfVal (n : GNet) (a b : Int) : Int := if gfCode n a b = 0 then outOf (eds n.pipes) (mfl (eds n.pipes) n.nodes.length a.toNat b.toNat) a.toNat else 0
set_option maxRecDepth 100000 in
theorem l23Pair_any {A1 A2 : Option Addr} {n1 c1 n2 c2 : Nat} (n : GNet) (a b : Int) (w : World) (hA : NetAt w A1 n1 c1 A2 n2 c2 n) :
    Calls Try.prog 77 #[.agg #[.slice A1 n1 c1, .slice A2 n2 c2], .int .i64 a, .int .i64 b] w fun e w' => e = .returned (.int .i64 (gfCode n a b)) ∧ Gr w w' := by
  have hm1 := hA.m1
  have hl1 := hA.l1
  have HA := Lib.hid hA
  have hia : ∀ v : Int, inB 0 v (n1 - 1) = inN n v := fun v => by rw [inN, hl1]
  have Hia := Lib.hid hia
  clear hA hl1 hia
  go_enter Try.func77, Try.ntmps77
  go_wp2_with fail
  refine (spIsNetwork_any _ _ _ _ _ _ n _ (HA.out.gr ((Gr.refl _).alloc _))).mono ?_
  rintro e w1 ⟨rfl, hg1⟩
  have b0 : w1.cell? ⟨w.heap.size, 0, none⟩ = some (.slice A1 n1 c1) := hg1.has (by simp [go_sem])
  have b1 : w1.cell? ⟨w.heap.size, 1, none⟩ = some (.slice A2 n2 c2) := hg1.has (by simp [go_sem])
  have hgw1 : Gr w w1 := ((Gr.refl _).alloc _).trans hg1
  clear hg1
  cases hok : netOk n with
  | false =>
    have Hok := Lib.hid hok
    clear hok
    go_wp2_with fail
    go_ret
    exact ⟨ret_int (by rw [gfCode, if_neg (by rw [Hok.out]; simp)]), hgw1⟩
  | true =>
    have Hok := Lib.hid hok
    clear hok
    go_wp2_with fail
    refine (l02Node_any A1 A2 n1 c1 n2 c2 a _ hm1).mono ?_
    rintro e w2 ⟨rfl, hg2⟩
    rw [Hia.out]
    have c0 := hg2.has b0
    have c1 := hg2.has b1
    have hgw2 := hgw1.trans hg2
    cases ha : inN n a with
    | false =>
      have Ha := Lib.hid ha
      clear ha
      go_wp2_with fail
      go_ret
      exact ⟨ret_int (by rw [gfCode, if_pos Hok.out, if_neg (by rw [Ha.out]; simp)]), hgw2⟩
    | true =>
      have Ha := Lib.hid ha
      clear ha
      go_wp2_with fail
      refine (l02Node_any A1 A2 n1 _ n2 c2 b _ hm1).mono ?_
      rintro e w3 ⟨rfl, hg3⟩
      rw [Hia.out]
      have hgw3 := hgw2.trans hg3
      cases hb : inN n b with
      | false =>
        have Hb := Lib.hid hb
        clear hb
        go_wp2_with fail
        go_ret
        exact ⟨ret_int (by rw [gfCode, if_pos Hok.out, if_neg (by rw [Hb.out]; simp)]), hgw3⟩
      | true =>
        have Hb := Lib.hid hb
        clear hb
        cases hc : (a == b) with
        | true =>
          go_wp2_with fail
          go_ret
          exact ⟨ret_int (by rw [gfCode, if_pos Hok.out, if_neg (by rw [hc]; simp)]), hgw3⟩
        | false =>
          go_wp2_with fail
          go_ret
          exact ⟨ret_int (by rw [gfCode, if_pos Hok.out, if_pos (by rw [Ha.out, Hb.out, hc]; rfl)]), hgw3⟩
set_option maxRecDepth 100000 in
theorem spGreatestFlow_any {A1 A2 : Option Addr} {n1 c1 n2 c2 : Nat} (n : GNet) (a b : Int) (w : World) (hA : NetAt w A1 n1 c1 A2 n2 c2 n) (_wa : (Lit.int .i64 a).wf = true) (_wb : (Lit.int .i64 b).wf = true) :
    Calls Try.prog 27 #[.agg #[.slice A1 n1 c1, .slice A2 n2 c2], .int .i64 a, .int .i64 b] w fun e w' => e = .returned (.tuple #[.int .i64 (gfVal n a b), .int .i64 (gfCode n a b)]) ∧ Gr w w' := by
  have hl1 := hA.l1
  have HA := Lib.hid hA
  have Hl1 := Lib.hid hl1
  clear hA hl1
  go_enter Try.func27, Try.ntmps27
  go_wp2_with fail
  refine (l23Pair_any n a b _ (HA.out.gr ((Gr.refl _).alloc _))).mono ?_
  rintro e w1 ⟨rfl, hg1⟩
  have b0 : w1.cell? ⟨w.heap.size, 0, none⟩ = some (.slice A1 n1 c1) := hg1.has (by simp [go_sem])
  have b1 : w1.cell? ⟨w.heap.size, 1, none⟩ = some (.slice A2 n2 c2) := hg1.has (by simp [go_sem])
  have hgw1 : Gr w w1 := ((Gr.refl _).alloc _).trans hg1
  clear hg1
  by_cases hc : gfCode n a b = 0
  · obtain ⟨hok, h1, h2, h3⟩ := gfCode_zero hc
    have tb : (gfCode n a b != 0) = false := by simp [hc]
    rw [inN_iff, Hl1.out] at h1 h2
    obtain ⟨p, rfl⟩ : ∃ p : Nat, a = p := ⟨a.toNat, by omega⟩
    obtain ⟨q, rfl⟩ : ∃ q : Nat, b = q := ⟨b.toNat, by omega⟩
    have Hc := Lib.hid hc
    have Hok := Lib.hid hok
    clear hok hc
    go_wp2_with fail
    refine (l23Between_any n p q _ (HA.out.gr hgw1) Hok.out (by omega) (by omega) (by omega)).mono ?_
    rintro e w2 ⟨A, m, c, rfl, _, _, hg2⟩
    go_wp2_with fail
    go_ret2
    refine ⟨?_, hgw1.trans hg2⟩
    rw [gfVal, if_pos Hc.out, Hc.out, Hl1.out]
    rfl
  · have tb : (gfCode n a b != 0) = true := by simp [hc]
    have Hc := Lib.hid hc
    clear hc
    go_wp2_with fail
    go_ret2
    exact ⟨by rw [gfVal, if_neg Hc.out]; rfl, hgw1⟩
theorem nd_gf {n : GNet} {a b : Int} : gfCode n a b = if ndCode n [a, b] = 0 then (if a = b then 2 else 0) else ndCode n [a, b] := by
  unfold gfCode ndCode
  cases netOk n with
  | false => simp
  | true =>
    cases ha : inN n a <;> cases hb : inN n b <;> by_cases h : a = b <;> simp [ha, hb, h] <;> (subst h; simp_all)
set_option maxRecDepth 100000 in
theorem GreatestFlow_any {A1 A2 : Option Addr} {n1 c1 n2 c2 : Nat} (n : GNet) (a b : Int) (w : World) (hA : NetAt w A1 n1 c1 A2 n2 c2 n) (_wa : (Lit.int .i64 a).wf = true) (_wb : (Lit.int .i64 b).wf = true) :
    Calls Try.prog 26 #[.agg #[.slice A1 n1 c1, .slice A2 n2 c2], .int .i64 a, .int .i64 b] w fun e w' => e = .returned (.tuple #[.int .i64 (gfVal n a b), .int .i64 (gfCode n a b)]) ∧ Gr w w' := by
  have hl1 := hA.l1
  have HA := Lib.hid hA
  have Hl1 := Lib.hid hl1
  clear hA hl1
  go_enter Try.func26, Try.ntmps26
  go_wp2_with fail
  generalize hw0 : World.alloc (World.alloc w _) _ = w0
  have hg0 : Gr w w0 := by rw [← hw0]; exact ((Gr.refl _).alloc _).alloc _
  have d0 : w0.cell? ⟨w.heap.size, 0, none⟩ = some (.slice A1 n1 c1) := by rw [← hw0]; simp [go_sem]
  have d1 : w0.cell? ⟨w.heap.size, 1, none⟩ = some (.slice A2 n2 c2) := by rw [← hw0]; simp [go_sem]
  have hrow : SlAt w0 1 (some ⟨w.heap.size + 1, 0, none⟩) 2 2 (ints [a, b]) := by
    have q := World.ownsRow_lit (w.alloc (.cells #[.slice A1 n1 c1, .slice A2 n2 c2] 33)) (e := 2) (size := 1) #[.int .i64 a, .int .i64 b] 2 (Nat.le_refl _) (by unfold maxLen; omega) rfl
    rw [hw0] at q
    exact SlAt.of_own (by simpa [ints] using q) (by omega)
  have Hrow := Lib.hid hrow
  clear hw0 hrow
  refine (checkNodes_any n [a, b] _ (HA.out.gr hg0) Hrow.out).mono ?_
  rintro e w1 ⟨rfl, hg1⟩
  have b0 := hg1.has d0
  have b1 := hg1.has d1
  have hgw1 : Gr w w1 := hg0.trans hg1
  have hgf := nd_gf (n := n) (a := a) (b := b)
  clear hg1 d0 d1
  by_cases hn : ndCode n [a, b] = 0
  · rw [if_pos hn] at hgf
    have tb : (ndCode n [a, b] != 0) = false := by simp [hn]
    by_cases hab : a = b
    · rw [if_pos hab] at hgf
      have Hgf := Lib.hid hgf
      have tc : (a == b) = true := by simp [hab]
      clear hgf hn hab
      go_wp2_with fail
      go_ret2
      exact ⟨by rw [gfVal, if_neg (by rw [Hgf.out]; decide), Hgf.out]; rfl, hgw1⟩
    · rw [if_neg hab] at hgf
      obtain ⟨hok, h1, h2, h3⟩ := gfCode_zero hgf
      rw [inN_iff, Hl1.out] at h1 h2
      have tc : (a == b) = false := by simp [hab]
      obtain ⟨p, rfl⟩ : ∃ p : Nat, a = p := ⟨a.toNat, by omega⟩
      obtain ⟨q, rfl⟩ : ∃ q : Nat, b = q := ⟨b.toNat, by omega⟩
      have Hgf := Lib.hid hgf
      have Hok := Lib.hid hok
      clear hok hgf hn hab
      go_wp2_with fail
      refine (fullFlow_any n p q _ (HA.out.gr hgw1) Hok.out (by omega) (by omega)).mono ?_
      rintro e w2 ⟨g, F, rfl, _, _, _, hg2⟩
      go_wp2_with fail
      go_ret2
      refine ⟨?_, hgw1.trans hg2⟩
      rw [gfVal, if_pos Hgf.out, Hgf.out, Hl1.out]
      rfl
  · rw [if_neg hn] at hgf
    have tb : (ndCode n [a, b] != 0) = true := by simp [hn]
    have Hgf := Lib.hid hgf
    have Hn := Lib.hid hn
    clear hgf hn
    go_wp2_with fail
    go_ret2
    exact ⟨by rw [gfVal, if_neg (by rw [Hgf.out]; exact Hn.out), Hgf.out]; rfl, hgw1⟩
end Go.Proofs.Ytbckjlejkedonaa
