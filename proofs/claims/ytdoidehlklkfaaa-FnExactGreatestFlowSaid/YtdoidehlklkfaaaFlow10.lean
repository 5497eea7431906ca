/-
  The full flow of the reference.
-/
import Derived.Test.YtdoidehlklkfaaaFlow9
namespace Go.Proofs.Ytdoidehlklkfaaa
open Go.ChangeShapes Go.WideShapes Go.ChangeAt Go.RowKit

def memTo (ord : List Nat) (k : Nat) : List Nat := (List.range k).filter fun v => decide (v ∈ ord)
theorem memTo_yes {ord : List Nat} {k : Nat} (h : k ∈ ord) : memTo ord (k + 1) = memTo ord k ++ [k] := by
  simp [memTo, List.range_succ, List.filter_append, h]
theorem memTo_no {ord : List Nat} {k : Nat} (h : k ∉ ord) : memTo ord (k + 1) = memTo ord k := by
  simp [memTo, List.range_succ, List.filter_append, h]
theorem memTo_len (ord : List Nat) (k : Nat) : (memTo ord k).length ≤ k := by
  have := List.length_filter_le (fun v => decide (v ∈ ord)) (List.range k)
  simpa [memTo] using this
theorem lfOf_len (es : List Ed) (N node to : Nat) (fl : List Int) : (lfOf es N node to fl).length = N := by simp [lfOf]
theorem lfOf_bnd {es : List Ed} {N node to : Nat} (hn : node < N) (ht : to < N) (hne : to ≠ node) {fl : List Int} (h1 : 0 ≤ outOf es fl node) (h2 : outOf es fl node ≤ 1200000) : BndL 1000000000 (lfOf es N node to fl) := by
  intro k z hz
  have hk : k < N := by have := (List.getElem?_eq_some_iff.1 hz).1; rw [lfOf_len] at this; exact this
  have e : (lfOf es N node to fl).getD k 0 = z := by rw [List.getD_eq_getElem?_getD, hz]; rfl
  by_cases e1 : k = to
  · rw [e1, lfOf_to ht] at e; omega
  · by_cases e2 : k = node
    · rw [e2, lfOf_node hn hne] at e; omega
    · rw [lfOf_other e2 e1] at e; omega
theorem lfOf_zero (es : List Ed) (N node to : Nat) : lfOf es N node to (List.replicate es.length 0) = ((List.replicate N (0 : Int)).set node 1200000).set to (-1200000) := by
  rw [lfOf, outOf_zero]; rfl

set_option maxHeartbeats 3200000 in
set_option maxRecDepth 100000 in
theorem l23Between_any {A1 A2 : Option Addr} {n1 c1 n2 c2 : Nat} (n : GNet) (node to : Nat) (w : World) (hA : NetAt w A1 n1 c1 A2 n2 c2 n) (hok : netOk n = true) (hn : node < n1) (ht : to < n1) (hne : to ≠ node) :
    Calls Try.prog 88 #[.agg #[.slice A1 n1 c1, .slice A2 n2 c2], .int .i64 node, .int .i64 to] w fun e w' => ∃ A m c, e = .returned (.tuple #[.int .i64 (outOf (eds n.pipes) (mfl (eds n.pipes) n1 node to) node), .slice A m c]) ∧ m = (memTo (srch (eds n.pipes) (mfl (eds n.pipes) n1 node to) n1 node).ord n1).length ∧
      w'.ownsRow w.heap.size 2 1 (.slice A m c) m (nats (memTo (srch (eds n.pipes) (mfl (eds n.pipes) n1 node to) n1 node).ord n1)) ∧ Gr w w' := by
  obtain ⟨i0, hi0, hz0, hz1, hz2⟩ := info_parts infoInt64
  have hm1 := hA.m1
  have hm2 := hA.m2
  have hEs : EsOk (eds n.pipes) n1 := by have := eds_ok hok; rw [hA.l1] at this; exact this
  have hel : (eds n.pipes).length = n2 := by rw [eds, List.length_map]; exact hA.l2
  have hel40 : n2 ≤ 40 := by have := (netOk_all hok).1.2.2; rw [hA.l2] at this; exact this
  have HEs := Lib.hid hEs
  have HA := Lib.hid hA
  have Hok := Lib.hid hok
  have Hel := Lib.hid hel
  clear hA hok hEs hel
  have tn0 : (0 : Int) ≤ (node : Int) := by omega
  have tn1 : (node : Int) < (n1 : Int) := by omega
  have tt0 : (0 : Int) ≤ (to : Int) := by omega
  have tt1 : (to : Int) < (n1 : Int) := by omega
  go_enter Try.func88, Try.ntmps88
  go_wp2_with (first
    | (at_make; refine wpList_make_full _ rfl _ _ _ rfl w.heap.size 2 i0 _ 1 Try.underlying49 hi0 hz0 hz1 .i64 .i64 _ _ n2 rfl rfl rfl rfl (by rw [hz2]; omega) (by unfold maxLen; omega) (by simp) ?_; intro w1 hown1 hg1; have hq1 : Gr (w.alloc (.cells #[.slice A1 n1 c1, .slice A2 n2 c2] 33)) w1 := Gr.of_grown hg1; have b0 : w1.cell? ⟨w.heap.size, 0, none⟩ = some (.slice A1 n1 c1) := hq1.has (by simp [go_sem]); have b1 : w1.cell? ⟨w.heap.size, 1, none⟩ = some (.slice A2 n2 c2) := hq1.has (by simp [go_sem]); have Ho1 := Lib.hid hown1; clear hown1)
    | (at_make; refine wpList_make_full _ rfl _ _ _ rfl w.heap.size 2 i0 _ 1 Try.underlying49 hi0 hz0 hz1 .i64 .i64 _ _ n1 rfl rfl rfl rfl (by rw [hz2]; omega) (by unfold maxLen; omega) (by have := hq1.size; simp at this; omega) ?_; intro w2 hown2 hg2; have hq2 := Gr.of_grown hg2; have hown2' : w2.ownsRow w.heap.size 2 1 (.slice (some ⟨w1.heap.size, 0, none⟩) n1 n1) n1 (ints (List.replicate n1 0)) := own_cells_eq hown2 (made_ints n1); obtain ⟨d0, d1⟩ := own_int hown2' (k := node) (x := 0) (by simp [hn]); obtain ⟨d2, d3⟩ := own_int hown2' (k := to) (x := 0) (by simp [ht]); have Ho2 := Lib.hid hown2'; clear hown2 hown2'))
  generalize hw3 : World.setCell (World.setCell w2 _ _) _ _ = w3
  obtain ⟨R1, R2⟩ := own_set_int Ho2.out node 1200000
  obtain ⟨R3, R4⟩ := own_set_int R1 to (-1200000)
  have o1 : w1.ownsRow w.heap.size 2 1 (.slice (some ⟨w.heap.size + 1, 0, none⟩) n2 n2) n2 (ints (List.replicate n2 0)) := by
    have := own_cells_eq Ho1.out (made_ints n2)
    simpa using this
  have l1 : w.heap.size + 1 < w1.heap.size := own_block_lt o1 rfl
  have hO3 : w3.ownsRow w.heap.size 2 1 (.slice (some ⟨w.heap.size + 1, 0, none⟩) n2 n2) n2 (ints (List.replicate n2 0)) := by
    rw [← hw3]
    exact ((own_gr o1 hq2).kept R2 (Or.inr (by simp [Value.ownBlock]; omega))).kept R4 (Or.inr (by simp [Value.ownBlock]; omega))
  have hL3 : w3.ownsRow w.heap.size 2 1 (.slice (some ⟨w1.heap.size, 0, none⟩) n1 n1) n1 (ints (lfOf (eds n.pipes) n1 node to (List.replicate (eds n.pipes).length 0))) := by
    rw [← hw3, lfOf_zero]; exact R3
  have hg3 : Gr w w3 := by
    rw [← hw3]
    exact ((((((Gr.refl _).alloc _).trans hq1).trans hq2)).grown R2 (fun _ e => by injection e with e; omega)).grown R4 (fun _ e => by injection e with e; omega)
  have x0 : w3.cell? ⟨w.heap.size, 0, none⟩ = some (.slice A1 n1 c1) := by rw [← hw3]; exact set_other (set_other (hq2.has b0) (by simp; omega) _) (by simp; omega) _
  have x1 : w3.cell? ⟨w.heap.size, 1, none⟩ = some (.slice A2 n2 c2) := by rw [← hw3]; exact set_other (set_other (hq2.has b1) (by simp; omega) _) (by simp; omega) _
  obtain ⟨F, hF⟩ : ∃ F, F = w.heap.size + 1 := ⟨_, rfl⟩
  obtain ⟨G, hG⟩ : ∃ G, G = w1.heap.size := ⟨_, rfl⟩
  rw [← hF] at hO3
  rw [← hG] at hL3
  rw [← hF, ← hG]
  have hFw : w.heap.size < F := by omega
  have hGw : w.heap.size < G := by omega
  have hFG : F ≠ G := by omega
  have HO3 := Lib.hid hO3
  have HL3 := Lib.hid hL3
  clear hw3 R1 R2 R3 R4 o1 l1 hO3 hL3 Ho1 Ho2 b0 b1 d0 d1 d2 d3 hq1 hq2 hF hG hg1 hg2
  go_loopw [36] (fun _ wr => ∃ fl, Reach (ffGo (eds n.pipes) n1 node to) (ffS (eds n.pipes) n1 node to) (List.replicate (eds n.pipes).length 0) fl ∧ Keeps (eds n.pipes) fl ∧ 0 ≤ outOf (eds n.pipes) fl node ∧ wr.ownsRow w.heap.size 2 1 (.slice (some ⟨F, 0, none⟩) n2 n2) n2 (ints fl) ∧ wr.ownsRow w.heap.size 2 1 (.slice (some ⟨G, 0, none⟩) n1 n1) n1 (ints (lfOf (eds n.pipes) n1 node to fl)) ∧ Gr w wr ∧ wr.cell? ⟨w.heap.size, 0, none⟩ = some (.slice A1 n1 c1) ∧ wr.cell? ⟨w.heap.size, 1, none⟩ = some (.slice A2 n2 c2)) (fun _ wr => ((wr.cell? ⟨G, node, none⟩).elim 0 fun v => (intOf v).toNat))
  case atStart => exact ⟨_, .refl _, keeps_zero HEs.out, by rw [outOf_zero]; exact Int.le_refl 0, by rw [Hel.out]; exact HO3.out, HL3.out, hg3, x0, x1⟩
  case round =>
    obtain ⟨fl, hre, hk, h00, hown, hlf, hgr, y0, y1⟩ := hrel
    clear x0 x1 hg3
    obtain ⟨s1, s2, s3⟩ := ff_spec HEs.out (by rw [Hel.out]; exact hel40) hn ht hne hk h00
    have Hre := Lib.hid hre
    have Hk := Lib.hid hk
    have Hown := Lib.hid hown
    have Hlf := Lib.hid hlf
    have Hs2 := Lib.hid s2
    have Hs3 := Lib.hid s3
    have hln : (lfOf (eds n.pipes) n1 node to fl)[node]? = some (1200000 - outOf (eds n.pipes) fl node) := by rw [get_int (by rw [lfOf_len]; exact hn), lfOf_node hn hne]
    have hcw := (own_int hlf hln).1
    have hbd := lfOf_bnd (es := eds n.pipes) hn ht hne h00 (by omega)
    have Hbd := Lib.hid hbd
    have Hcw := Lib.hid hcw
    clear hre hk hown hlf s2 s3 hln hbd hcw
    go_wp2_with fail
    refine (l23Send_any n fl (lfOf (eds n.pipes) n1 node to fl) node w _ HA.out hgr (Nat.le_refl _) Hown.out Hlf.out hFG hm2 rfl Hok.out Hk.out hn Hbd.out (by rw [lfOf_node hn hne]; exact s1) (fun t htt => by
      rw [lfOf_node hn hne]
      by_cases hg : ffGo (eds n.pipes) n1 node to fl
      · exact (Hs2.out hg).1
      · rw [Hs3.out hg] at htt; cases htt)).mono ?_
    rintro e w4 ⟨r, rfl, hch, hr⟩
    have z0 := cell_chg y0 hch (by simp; omega)
    have z1 := cell_chg y1 hch (by simp; omega)
    have hgw4 : Gr w w4 := hgr.of_chg hch (fun k hk => by rcases hk with hk | hk <;> omega)
    rcases hr with ⟨rfl, htn, hgr4⟩ | ⟨rfl, t, htt, hF4, hL4⟩
    · have hng : ¬ ffGo (eds n.pipes) n1 node to fl := fun hg => by rw [(Hs2.out hg).2.1] at htn; cases htn
      have hfin : mfl (eds n.pipes) n1 node to = fl := fin_eq Hre.out hng
      have Hfin := Lib.hid hfin
      have HF4 := Lib.hid (own_gr Hown.out hgr4)
      have HL4 := Lib.hid (own_gr Hlf.out hgr4)
      have hcw4 := hgr4.has Hcw.out
      have hw0 : IntKind.i64.wrap (1200000 - (1200000 - outOf (eds n.pipes) fl node)) = outOf (eds n.pipes) fl node := by rw [IntWalk.i64_in _ (by omega)]; omega
      clear hng hfin htn hch y0 y1
      go_wp2_with fail
      refine (l23Search_any n fl node _ (HA.out.gr hgw4) (own_sl_int HF4.out hm2) Hok.out Hk.out hn).mono ?_
      rintro e w5 ⟨O, gE, gS, rfl, ⟨A, c, rfl⟩, hS, hw5⟩
      obtain ⟨st, hst⟩ : ∃ st, st = srch (eds n.pipes) fl n1 node := ⟨_, rfl⟩
      have hI := inv_srch (fl := fl) HEs.out hn
      rw [← hst] at hS hI
      rw [← hst]
      have hlen := hI.len
      have HS := Lib.hid hS
      have Hst := Lib.hid hst
      have u0 := hw5.has z0
      have u1 := hw5.has z1
      have hcw5 := hw5.has hcw4
      have hgw5 := hgw4.trans hw5
      clear hS hI hst z0 z1 hcw4
      go_wp2_with fail
      generalize hw6 : World.alloc w5 _ = w6
      have hg6 : Gr w5 w6 := by rw [← hw6]; exact (Gr.refl _).alloc _
      have hown6 : w6.ownsRow w5.heap.size 2 1 (.slice (some ⟨w5.heap.size, 0, none⟩) 0 0) 0 (nats (memTo st.ord 0)) := by
        rw [← hw6]
        exact World.ownsRow_lit w5 (e := 2) (size := 1) #[] 0 (Nat.le_refl _) (by unfold maxLen; omega) rfl
      have Ho6 := Lib.hid hown6
      have v0 := hg6.has u0
      have hcw6 := hg6.has hcw5
      have hgw6 := hgw5.trans hg6
      have hs6 := hg6.size
      have hs5 := lt_of_cell u0
      have hs7 := lt_of_cell hcw5
      clear hw6 hown6 u1
      go_loopw [13, 14] (fun o i wr => ∃ k : Nat, ∃ A m c, k ≤ n1 ∧ i = .int .i64 k ∧ o = .slice A m c ∧ m = (memTo st.ord k).length ∧ wr.ownsRow w5.heap.size 2 1 (.slice A m c) m (nats (memTo st.ord k)) ∧ Gr w5 wr) (fun _ i _ => n1 - (intOf i).toNat)
      case atStart => exact ⟨0, _, _, _, Nat.zero_le _, rfl, rfl, rfl, Ho6.out, hg6⟩
      case round =>
        obtain ⟨k, A', m, c', hk, rfl, rfl, hmv, hown, hg5r⟩ := hrel
        have v0 := hg5r.has u0
        have hcw7 := hg5r.has hcw5
        have Hown := Lib.hid hown
        have Hmv := Lib.hid hmv
        have hm : m ≤ n1 := by have := memTo_len st.ord k; omega
        have hs8 := hg5r.size
        clear hown hmv
        by_cases hlt : k < n1
        · go_wp2_with fail
          refine (l02Has_any (st.ord.map fun (x : Nat) => (x : Int)) (k : Int) _ (SlAt.of_own (own_gr HS.out.ord hg5r) (by omega))).mono ?_
          rintro e w8 ⟨rfl, rfl⟩
          by_cases hin : k ∈ st.ord
          · have hc : decide ((k : Int) ∈ st.ord.map fun (x : Nat) => (x : Int)) = true := decide_eq_true (mem_casts.2 hin)
            rw [hc]
            have Hin := Lib.hid hin
            clear hc hin
            go_wp2_with (at_builtin; refine wpList_append_own _ rfl _ _ _ rfl w5.heap.size 2 i0 _ 1 8 Try.underlying49 hi0 hz0 hz1 hz2 rfl (by omega) _ m _ rfl (Hown.out.alloc _) ⟨wr.heap.size, 0, none⟩ 1 1 [.int .i64 _] rfl rfl (World.news_of_block (cs := #[.int .i64 _]) (t := 2) (fr := (0, 0)) (heap_alloc_new wr _)) (by simp [Value.oneCell']) (by unfold maxLen; omega) (by omega) (by simp; omega) ?_; intro v' w9 hown1 hg1 _)
            obtain ⟨A9, c9, rfl⟩ := own_shape hown1
            have Ho := Lib.hid hown1
            have hgw9 : Gr w5 w9 := (hg5r.alloc _).grown hg1 (fun j hj => own_base_le Hown.out hj)
            clear hown1 hg1
            go_wp2_with fail
            go_roundw
            case rel => exact ⟨k + 1, _, _, _, by omega, by go_num, rfl, by rw [memTo_yes Hin.out, Hmv.out]; simp, own_cells_eq Ho.out (by rw [memTo_yes Hin.out, nats_snoc]), hgw9⟩
            case measure => simp [intOf]; omega
          · have hc : decide ((k : Int) ∈ st.ord.map fun (x : Nat) => (x : Int)) = false := decide_eq_false (fun h => hin (mem_casts.1 h))
            rw [hc]
            have Hin := Lib.hid hin
            clear hc hin
            go_wp2_with fail
            go_roundw
            case rel => exact ⟨k + 1, _, _, _, by omega, by go_num, rfl, by rw [memTo_no Hin.out]; exact Hmv.out, by rw [memTo_no Hin.out]; exact Hown.out, hg5r⟩
            case measure => simp [intOf]; omega
        · obtain rfl : k = n1 := by omega
          go_wp2_with fail
          go_ret2
          refine ⟨A', m, c', ?_, by rw [Hfin.out, ← Hst.out]; exact Hmv.out, by rw [Hfin.out, ← Hst.out]; exact own_base Hown.out (by omega), hgw5.trans hg5r⟩
          rw [Hfin.out]
          rfl
    · have hgo : ffGo (eds n.pipes) n1 node to fl := by
        refine Classical.byContradiction fun hg => ?_
        rw [Hs3.out hg] at htt; cases htt
      obtain ⟨g1, g2, g3, g4⟩ := Hs2.out hgo
      rw [g2] at htt
      injection htt with htt
      subst htt
      rw [g3] at hF4
      rw [g4] at hL4
      obtain ⟨f1, f2, f3, f4⟩ := ff_step HEs.out hn hne Hk.out hgo
      have HF4 := Lib.hid hF4
      have HL4 := Lib.hid hL4
      have Hgo := Lib.hid hgo
      have H3 := Lib.hid f3
      have h04 : 0 ≤ outOf (eds n.pipes) (ffS (eds n.pipes) n1 node to fl) node := by rw [f4]; omega
      have hle4 := (ff_spec HEs.out (by rw [Hel.out]; exact hel40) hn ht hne f3 h04).1
      have hln : (lfOf (eds n.pipes) n1 node to (ffS (eds n.pipes) n1 node to fl))[node]? = some (1200000 - outOf (eds n.pipes) (ffS (eds n.pipes) n1 node to fl) node) := by rw [get_int (by rw [lfOf_len]; exact hn), lfOf_node hn hne]
      have hcw4 := (own_int hL4 hln).1
      have hms : ((w4.cell? ⟨G, node, none⟩).elim 0 fun v => (intOf v).toNat) < ((wr.cell? ⟨G, node, none⟩).elim 0 fun v => (intOf v).toNat) := by
        rw [hcw4, Hcw.out]
        simp [intOf]
        omega
      have Hms := Lib.hid hms
      clear hF4 hL4 hgo g1 g2 g3 g4 f3 f4 hch hln hcw4 y0 y1 hms hle4
      go_wp2_with fail
      go_roundw
      case rel => exact ⟨_, Hre.out.snoc Hgo.out, H3.out, h04, HF4.out, HL4.out, hgw4, z0, z1⟩
      case measure => exact Hms.out
end Go.Proofs.Ytdoidehlklkfaaa
