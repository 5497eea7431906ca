import Derived.Test.YthhmhigddmimjaaGreatPtC
import Derived.Deep.RegionHeld3
import Derived.Deep.Cut
import Derived.Deep.CutRange
import Derived.Test.YthhmhigddmimjaaGreatPtB
/-
  The cycle of a chord, all cycles: the reference. Printed by gen_pt11.py.
-/
set_option linter.unusedSimpArgs false
set_option linter.unusedVariables false
namespace Go.Proofs.YthhmhigddmimjaaGreat
open Go.ChangeShapes Go.WideShapes Go.ChangeAt Go.RowKit

theorem sA_tree (n : GNet) (N a : Nat) : sA (treeN n N) N a = tS (eds n.pipes) N a := by rw [sA, tree_eds]; rfl
theorem pA_tree (n : GNet) (N a b : Nat) : pA (treeN n N) N a b = tP (eds n.pipes) N a b := by rw [pA, tree_eds, sA_tree]; rfl
/-- The way from a to b in the forest, as the cycle takes it. -/
def rP (n : GNet) (N a b : Nat) : List Nat := (tP (eds n.pipes) N a b).reverse
def CAt (n : GNet) (N a b k v : Nat) : Prop := ∀ u, (rP n N a b)[k]? = some u → v = back (tE (eds n.pipes) N) (tS (eds n.pipes) N a) u
structure CStep (n : GNet) (N a b k v : Nat) (u q fo : Nat) (x : GPipe) : Prop where
  ru : (rP n N a b)[k]? = some u
  ql : q = tEnt (eds n.pipes) N a u
  path : (wayL (treeN n N) N a b)[k]? = some q
  px : (treeN n N).pipes[q]? = some x
  fq : (foL (eds n.pipes) N)[q]? = some fo
  fl : fo < n.pipes.length
  tc : touch (edOf x) v = true
  ot : oth (edOf x) v = u
  sg : tSgn (eds n.pipes) N a u = if (edOf x).f = v then 1 else -1
  vl : v < N
  ul : u < N
theorem rP_len (n : GNet) (N a b : Nat) : (rP n N a b).length = (pA (treeN n N) N a b).length := by rw [rP, List.length_reverse, pA_tree]
theorem rP_at {n : GNet} {N a b k u : Nat} (h : (rP n N a b)[k]? = some u) : k < (tP (eds n.pipes) N a b).length ∧ (tP (eds n.pipes) N a b)[(tP (eds n.pipes) N a b).length - 1 - k]? = some u := by
  have hk := (List.getElem?_eq_some_iff.1 h).1
  rw [rP, List.length_reverse] at hk
  rw [rP, List.getElem?_reverse hk] at h
  exact ⟨hk, h⟩
theorem c_start {n : GNet} {N a b : Nat} (hE : EsOk (eds n.pipes) N) (hc : conB (eds n.pipes) N = true) (ha : a < N) (hb : b < N) : CAt n N a b 0 a := by
  intro u hu
  have W := way_ok hE hc ha hb
  have hT := tE_ok (N := N) hE
  obtain ⟨j, hj⟩ := List.getElem?_of_mem W.mem
  obtain ⟨hk, h⟩ := rP_at hu
  rw [Nat.sub_zero] at h
  rcases pth_next hT W.inv j b hj _ u h with h1 | ⟨_, h1⟩
  · have := (List.getElem?_eq_some_iff.1 h1).1
    have e : (pth (tE (eds n.pipes) N) (tS (eds n.pipes) N a) a b).length = (tP (eds n.pipes) N a b).length := rfl
    omega
  · exact h1.symm
theorem c_step {n : GNet} {N a b k v u : Nat} (hE : EsOk (eds n.pipes) N) (hc : conB (eds n.pipes) N = true) (ha : a < N) (hb : b < N) (h : CAt n N a b k v) (hu : (rP n N a b)[k]? = some u) : (∃ q fo x, CStep n N a b k v u q fo x) ∧ CAt n N a b (k + 1) u := by
  have W := way_ok hE hc ha hb
  have hT := tE_ok (N := N) hE
  obtain ⟨hk, hp⟩ := rP_at hu
  have hum := List.mem_of_getElem? hp
  obtain ⟨huo, hua⟩ := W.all u hum
  obtain ⟨j, hj⟩ := List.getElem?_of_mem huo
  obtain ⟨e, i, q1, q2, q3, _, q5, q6⟩ := W.inv.back hT hj hua
  have hv := h u hu
  rw [← hv] at q2 q5
  have hql := W.el u hum
  have hx : (treeN n N).pipes[tEnt (eds n.pipes) N a u]? = some ((treeN n N).pipes[tEnt (eds n.pipes) N a u]'(by rw [tree_len]; exact hql)) := List.getElem?_eq_getElem _
  obtain ⟨x, hxe⟩ : ∃ x, x = (treeN n N).pipes[tEnt (eds n.pipes) N a u]'(by rw [tree_len]; exact hql) := ⟨_, rfl⟩
  rw [← hxe] at hx
  have hex : edOf x = e := by
    have h1 : (eds (treeN n N).pipes)[tEnt (eds n.pipes) N a u]? = some (edOf x) := by rw [eds, List.getElem?_map, hx]; rfl
    rw [tree_eds] at h1
    have : some (edOf x) = some e := h1.symm.trans q1
    injection this
  have hfo := fo_get hql
  have hfl := (foL_mem.1 (List.mem_of_getElem? hfo)).1
  rw [eds, List.length_map] at hfl
  have hsg : tSgn (eds n.pipes) N a u = if (edOf x).f = v then 1 else -1 := by
    have h1 : (tE (eds n.pipes) N).getD (tEnt (eds n.pipes) N a u) dE = e := by
      have h2 : (tE (eds n.pipes) N)[tEnt (eds n.pipes) N a u]? = some e := q1
      rw [List.getD_eq_getElem?_getD, h2]; rfl
    rw [tSgn, h1, hex, ← hv]
  have hvl : v < N := W.inv.lt _ (List.mem_of_getElem? q2)
  refine ⟨⟨_, _, x, hu, rfl, ?_, hx, hfo, hfl, ?_, ?_, hsg, hvl, W.inv.lt u huo⟩, ?_⟩
  · rw [wayL, pA_tree, sA_tree, ← List.map_reverse, List.getElem?_map]
    have : (tP (eds n.pipes) N a b).reverse[k]? = some u := hu
    rw [this]; rfl
  · rw [hex, touch]
    rcases q5 with ⟨y, _⟩ | ⟨y, _⟩
    · simp [y]
    · simp [y]
  · rw [hex, oth]
    rcases q5 with ⟨y, z⟩ | ⟨y, z⟩
    · rw [if_pos y, z]
    · rw [if_neg (by omega), z]
  · intro u' hu'
    obtain ⟨hk', hp'⟩ := rP_at hu'
    obtain ⟨jb, hjb⟩ := List.getElem?_of_mem W.mem
    have e1 : (tP (eds n.pipes) N a b).length - 1 - (k + 1) + 1 = (tP (eds n.pipes) N a b).length - 1 - k := by omega
    rcases pth_next hT W.inv jb b hjb _ u' hp' with h1 | ⟨h1, _⟩
    · rw [e1] at h1
      have h2 : (tP (eds n.pipes) N a b)[(tP (eds n.pipes) N a b).length - 1 - k]? = some (back (tE (eds n.pipes) N) (tS (eds n.pipes) N a) u') := h1
      rw [hp] at h2
      injection h2
    · have h2 : (tP (eds n.pipes) N a b).length = (tP (eds n.pipes) N a b).length - 1 - (k + 1) + 1 := h1
      omega
set_option maxHeartbeats 6400000 in
set_option maxRecDepth 100000 in
theorem l05Cycle_any {A1 A2 : Option Addr} {n1 c1 n2 c2 : Nat} (n : GNet) (c : Nat) (w : World) (hA : NetAt w A1 n1 c1 A2 n2 c2 n) (hok : netOk n = true) (hc : conB (eds n.pipes) n1 = true) (hl : c < n2) (hf : isFo (eds n.pipes) n1 c = false) :
    Calls Tryz.prog 164 #[.agg #[.slice A1 n1 c1, .slice A2 n2 c2], .int .i64 c] w fun e w' => ∃ F, e = .returned (.slice (some ⟨F, 0, none⟩) n2 n2) ∧ w'.ownsRow w.heap.size 2 1 (.slice (some ⟨F, 0, none⟩) n2 n2) n2 (ints (cyc (eds n.pipes) n1 c)) ∧ Gr w w' := by
  obtain ⟨i0, hi0, hz0, hz1, hz2⟩ := info_parts infoInt64
  have hm1 := hA.m1
  have hm2 := hA.m2
  have hE : EsOk (eds n.pipes) n1 := by have := eds_ok hok; rw [hA.l1] at this; exact this
  have hel : (eds n.pipes).length = n2 := by rw [eds, List.length_map]; exact hA.l2
  obtain ⟨p, hp⟩ : ∃ p, n.pipes[c]? = some p := ⟨_, List.getElem?_eq_getElem (by have := hA.l2; omega)⟩
  obtain ⟨pa1, pa2, _⟩ := pipeOk_all ((netOk_all hok).2 c p hp)
  have hce : (eds n.pipes).getD c dE = edOf p := by rw [List.getD_eq_getElem?_getD, eds, List.getElem?_map, hp]; rfl
  obtain ⟨a, ha⟩ : ∃ a : Nat, a = p.dst.toNat := ⟨_, rfl⟩
  obtain ⟨b, hb⟩ : ∃ b : Nat, b = p.src.toNat := ⟨_, rfl⟩
  have had : p.dst = (a : Int) := by omega
  have hbs : p.src = (b : Int) := by omega
  obtain ⟨ht1, ht2, ht3, _, _⟩ := hE.at_ c _ (ed_at (by rw [hel]; exact hl))
  rw [hce] at ht1 ht2 ht3
  have hbn : b < n1 := by rw [hb]; exact ht1
  have han : a < n1 := by rw [ha]; exact ht2
  have hcy : cyc (eds n.pipes) n1 c = cySet (eds n.pipes) n1 a (rP n n1 a b) ((List.replicate n2 (0 : Int)).set c 1) := by
    rw [← cyP_eq hE hc (by rw [hel]; exact hl) hf, cyP, hce, hel, ha, hb]; rfl
  obtain ⟨bp, op, hAA, hbp, e0, e1, e2, e3, e4⟩ := hA.pipes.pp hp
  subst hAA
  rw [hbs] at e0
  rw [had] at e1
  have hWay := way_ok hE hc han hbn
  have hbo : b ∈ (sA (treeN n n1) n1 a).ord := by rw [sA_tree]; exact hWay.mem
  have hnl := hA.l1
  have h24 : n1 ≤ 24 := by have := (netOk_all hok).1.2.1; rw [hA.l1] at this; exact this
  have HE := Lib.hid hE
  have Hc := Lib.hid hc
  have HA := Lib.hid hA
  have Hok := Lib.hid hok
  have Hcy := Lib.hid hcy
  have Hbo := Lib.hid hbo
  have Hl2 := Lib.hid hA.l2
  have t1 : (c : Int) < (n2 : Int) := by omega
  have t0 : (0 : Int) ≤ (c : Int) := by omega
  clear hA hok hE hc hel hp pa1 pa2 hce ha hb had hbs ht1 ht2 ht3 hcy hWay hbo e2 e3 e4 hnl hf
  go_enter Tryz.func164, Tryz.ntmps164
  go_wp2_with (first
    | (at_make; refine wpList_make_full _ rfl _ _ _ rfl w.heap.size 2 i0 _ 1 Tryz.underlying26 hi0 hz0 hz1 .i64 .i64 _ _ n2 rfl rfl rfl rfl (by rw [hz2]; omega) (by unfold maxLen; omega) (by simp) ?_; intro w1 hown1 hg1; have hq1 : Gr (w.alloc (.cells #[.slice A1 n1 c1, .slice (some ⟨bp, op, none⟩) n2 c2] 32)) w1 := Gr.of_grown hg1; have y0 : w1.cell? ⟨w.heap.size, 0, none⟩ = some (.slice A1 n1 c1) := hq1.has (by simp [go_sem]); have y1 : w1.cell? ⟨w.heap.size, 1, none⟩ = some (.slice (some ⟨bp, op, none⟩) n2 c2) := hq1.has (by simp [go_sem]); have hgw1 : Gr w w1 := ((Gr.refl _).alloc _).trans hq1; obtain ⟨m0, m1⟩ := own_int (own_cells_eq hown1 (made_ints n2)) (k := c) (x := 0) (by rw [List.getElem?_replicate, if_pos hl]); (try simp at m0 m1); have Ho1 := Lib.hid hown1; have z1 := hq1.size; clear hown1)
    | fail)
  obtain ⟨F, hF⟩ : ∃ F, F = w.heap.size + 1 := ⟨_, rfl⟩
  have o1 : w1.ownsRow w.heap.size 2 1 (.slice (some ⟨F, 0, none⟩) n2 n2) n2 (ints (List.replicate n2 0)) := by
    rw [hF]
    have := own_cells_eq Ho1.out (made_ints n2)
    simpa using this
  rw [← hF]
  have hFw : w.heap.size < F := by omega
  have hF1 := own_block_lt o1 (k := F) rfl
  obtain ⟨o2, hgS⟩ := own_set_int o1 c 1
  generalize hw2 : w1.setCell _ _ = w2
  rw [hw2] at o2
  have hgw2 : Gr w w2 := by rw [← hw2]; exact hgw1.setCell (by simp only; omega) _
  have hcc2 : Chg (fun j => j = F) w1 w2 := by rw [← hw2]; exact chg_put _ _
  replace y0 := chg_cell' hcc2 y0 (by simp only; omega)
  replace y1 := chg_cell' hcc2 y1 (by simp only; omega)
  have hs2 := hcc2.size
  have O2 := Lib.hid o2
  clear Ho1 hF m0 m1 o1 o2 hgS hw2 hcc2 hq1 z1 hg1 hgw1
  refine (l05Tree_any n _ (HA.out.gr hgw2) Hok.out Hc.out).mono ?_
  rintro e w3 ⟨B, m, d, FA, fc, rfl, hml, hT, hTo, hFo, hg3⟩
  have hT40 := hT.m2
  have hfl := (own_ilen hFo)
  have htl := hT.l2
  have Hml := Lib.hid hml
  have Hfl := Lib.hid hfl
  have Htl := Lib.hid htl
  clear hml hfl htl
  go_upto_region 4 with fail
  obtain ⟨w4, hw4⟩ : ∃ W, W = w3.alloc (.cells #[.slice A1 n1 c1, .slice B m d] 32) := ⟨_, rfl⟩
  obtain ⟨T6, hT6⟩ : ∃ T6, T6 = w3.heap.size := ⟨_, rfl⟩
  have x0 : w4.cell? ⟨T6, 0, none⟩ = some (.slice A1 n1 c1) := by rw [hw4, hT6]; simp [go_sem]
  have x1 : w4.cell? ⟨T6, 1, none⟩ = some (.slice B m d) := by rw [hw4, hT6]; simp [go_sem]
  have hg34 : Gr w3 w4 := by rw [hw4]; exact (Gr.refl _).alloc _
  have hg24 := hg3.trans hg34
  have hgw4 := hgw2.trans hg24
  have hs23 := hg3.size
  replace y0 := hg24.has y0
  replace y1 := hg24.has y1
  replace e0 := hgw4.has e0
  replace e1 := hgw4.has e1
  have O4 := Lib.hid (own_gr O2.out hg24)
  have HT4 := Lib.hid (hT.gr hg34)
  have HTo4 := Lib.hid (own_gr hTo hg34)
  have HFo4 := Lib.hid (own_gr hFo hg34)
  have hT6F : ¬ T6 = F := by omega
  rw [← hw4, ← hT6]
  have hwlen : Hid ((rP n n1 a b).length = (pA (treeN n n1) n1 a b).length) := Lib.hid (rP_len n n1 a b)
  have kp : ∀ W, Gr w4 W → (W.cell? ⟨T6, 0, none⟩ = some (.slice A1 n1 c1) ∧ W.cell? ⟨T6, 1, none⟩ = some (.slice B m d) ∧ W.cell? ⟨w.heap.size, 1, none⟩ = some (.slice (some ⟨bp, op, none⟩) n2 c2) ∧ W.cell? ⟨bp, op + c * 5, none⟩ = some (.int .i64 (b : Int))) := fun W h => ⟨h.has x0, h.has x1, h.has y1, h.has e0⟩
  clear hw4 hT6 hT hTo hFo hg3 hg34 hg24 O2
  go_upto_region 5 with fail
  clear e1
  obtain ⟨L, hL⟩ : ∃ L, L = (pA (treeN n n1) n1 a b).length := ⟨_, rfl⟩
  have HL := Lib.hid hL
  have hLn : L ≤ 24 := by have := way_len (n := treeN n n1) (by rw [tree_eds]; exact tE_ok HE.out) han Hbo.out; omega
  clear hL
  go_region_held3 (fun W => W.cell? ⟨T6, 0, none⟩ = some (.slice A1 n1 c1) ∧ W.cell? ⟨T6, 1, none⟩ = some (.slice B m d) ∧ W.cell? ⟨w.heap.size, 1, none⟩ = some (.slice (some ⟨bp, op, none⟩) n2 c2) ∧ W.cell? ⟨bp, op + c * 5, none⟩ = some (.int .i64 (b : Int)))
    (first | with_reducible exact kp _ (Gr.refl _).drew | with_reducible exact kp _ hg6)
    (first | (go_at_call 173; with_reducible refine (l04Path_any (treeN n n1) a b _ (HT4.out.gr (Gr.refl _).drew) (tree_ok Hok.out) han Hbo.out).mono ?_; rw [← HL.out]; rintro e w6 ⟨g, dg, rfl, hP, h6⟩; have hg6 : Gr w4 w6 := (Gr.refl _).drew.trans h6; have HP := Lib.hid hP; clear hP h6))
  clear kp
  have hgw6 := hgw4.trans hg6
  have O6 := Lib.hid (own_gr O4.out hg6)
  have HTo6 := Lib.hid (own_gr HTo4.out hg6)
  have HFo6 := Lib.hid (own_gr HFo4.out hg6)
  have HTn : Hid (∀ W, Gr w W → Chg (fun j => j = F) w6 W → NetAt W A1 n1 c1 B m d (treeN n n1)) := Lib.hid (fun W hg hc => by
    have hp := own_chg HTo6.out hc (fun j hj e => by have := own_low HTo6.out hj; omega)
    have h0 := HA.out.gr hg
    exact ⟨⟨h0.nodes, Sl.of_own hp, h0.names⟩, h0.c1, (own_cap hp).1, h0.m1, hT40⟩)
  have hgF : ∀ j, (Value.slice (some ⟨g, 0, none⟩) L dg).ownBlock = some j → j ≠ F := fun j hj e => by
    have h1 := own_low HP.out hj
    have h2 := own_block_lt O4.out (k := F) rfl
    have h3 : w4.drew.heap.size = w4.heap.size := rfl
    omega
  have HgF := Lib.hid hgF
  replace x0 := hg6.has x0
  replace x1 := hg6.has x1
  clear hg6 hgF O4 HT4 HTo4 HFo4 y0 y1 e0
  go_wp2_with fail
  go_loopw [8, 10] (fun at_ i wr => ∃ k v : Nat, k ≤ L ∧ i = .int .i64 k ∧ at_ = .int .i64 v ∧ CAt n n1 a b k v ∧ wr.ownsRow w.heap.size 2 1 (.slice (some ⟨F, 0, none⟩) n2 n2) n2 (ints (cySet (eds n.pipes) n1 a ((rP n n1 a b).take k) ((List.replicate n2 (0 : Int)).set c 1))) ∧ Gr w wr ∧ Chg (fun j => j = F) w6 wr) (fun _ i _ => L - (intOf i).toNat)
  case atStart => exact ⟨0, a, Nat.zero_le _, rfl, rfl, c_start HE.out Hc.out han hbn, O6.out, hgw6, Chg.refl _ _⟩
  case round =>
    obtain ⟨k, v, hk, rfl, rfl, hC, hO, hgr, hcc⟩ := hrel
    have HC := Lib.hid hC
    have HO := Lib.hid hO
    clear hC hO O6
    by_cases hlt : k < L
    · obtain ⟨u, hu⟩ : ∃ u, (rP n n1 a b)[k]? = some u := ⟨_, List.getElem?_eq_getElem (by have := HL.out; have := hwlen.out; omega)⟩
      obtain ⟨⟨q, fo, x, hS⟩, hnx⟩ := c_step HE.out Hc.out han hbn HC.out hu
      have Hnx := Lib.hid hnx
      have hqm : q < m := by have := (List.getElem?_eq_some_iff.1 hS.px).1; have := Htl.out; omega
      obtain ⟨bt, hBe, _⟩ := own_form HTo6.out (by omega)
      obtain ⟨bf, hFe, _⟩ := own_form HFo6.out (by omega)
      subst hBe
      subst hFe
      have hbtF : ¬ bt = F := by have := own_low HTo6.out (k := bt) rfl; omega
      have hbfF : ¬ bf = F := by have := own_low HFo6.out (k := bf) rfl; omega
      have hgFn : ¬ g = F := HgF.out g rfl
      obtain ⟨ps, _⟩ := own_pp HTo6.out hS.px
      obtain ⟨pk, _⟩ := own_int HP.out (k := k) (x := (q : Int)) (by rw [List.getElem?_map, hS.path]; rfl)
      obtain ⟨pf, _⟩ := own_int HFo6.out (k := q) (x := (fo : Int)) (by rw [List.getElem?_map, hS.fq]; rfl)
      replace ps := chg_cell' hcc ps hbtF
      replace pk := chg_cell' hcc pk hgFn
      replace pf := chg_cell' hcc pf hbfF
      have x0 := chg_cell' hcc x0 hT6F
      have x1 := chg_cell' hcc x1 hT6F
      have hfn : fo < n2 := by have := hS.fl; have := Hl2.out; omega
      have hlen := own_ilen HO.out
      obtain ⟨zv, hzv⟩ : ∃ z, (cySet (eds n.pipes) n1 a ((rP n n1 a b).take k) ((List.replicate n2 (0 : Int)).set c 1))[fo]? = some z := ⟨_, List.getElem?_eq_getElem (by omega)⟩
      obtain ⟨c0', f0'⟩ := own_int HO.out hzv
      have hxok := (netOk_all (tree_ok (N := n1) Hok.out)).2 q x hS.px
      obtain ⟨xa1, xa2, _⟩ := pipeOk_all hxok
      obtain ⟨s, hs⟩ : ∃ s : Nat, s = (edOf x).f := ⟨_, rfl⟩
      have hxs : x.src = (s : Int) := by rw [hs]; show x.src = (x.src.toNat : Int); omega
      rw [hxs] at ps
      have hsg := hS.sg
      rw [← hs] at hsg
      have Hcs : Hid (∀ z : Int, z = tSgn (eds n.pipes) n1 a u → (cySet (eds n.pipes) n1 a ((rP n n1 a b).take k) ((List.replicate n2 (0 : Int)).set c 1)).set fo z = cySet (eds n.pipes) n1 a ((rP n n1 a b).take (k + 1)) ((List.replicate n2 (0 : Int)).set c 1)) := Lib.hid (fun z hz => by
        rw [cs_snoc hS.ru, csOne, ← hS.ql, List.getD_eq_getElem?_getD, hS.fq, hz]; rfl)
      have Hot := Lib.hid hS.ot
      have Htc := Lib.hid hS.tc
      have Hpx := Lib.hid hS.px
      have Hsg := Lib.hid hsg
      have hvl := hS.vl
      have t2 : (k : Int) < (L : Int) := by omega
      have t3 : (0 : Int) ≤ (k : Int) := by omega
      have t4 : (q : Int) < (m : Int) := by omega
      have t5 : (0 : Int) ≤ (q : Int) := by omega
      have t6 : (fo : Int) < (n2 : Int) := by omega
      have t7 : (0 : Int) ≤ (fo : Int) := by omega
      clear hu hS hnx hzv hxok xa1 xa2 hs hxs hsg hlen
      rename World => wr
      go_upto_region 10 with fail
      refine wp_region_text (fun w' => Gr wr w') (by kernel_rfl) (by kernel_rfl) (by decide) (Gr.refl _).drew ?_
      repeat (first
        | ((with_reducible refine wpText_skip ?_ ?_)
           · rfl
           simp only [Act.put, List.setIfInBounds_toArray, List.set_cons_zero, List.set_cons_succ])
        | ((with_reducible refine wpText_yield (v := ?_) ?_ ?_ ?_)
           rotate_left
           · rfl
           · (intro W hW; have kx1 := hW.has x1; have kpk := hW.has pk; have kps := hW.has ps; first | (go_simp; done) | (go_simp; with_reducible rfl))
           simp only [Act.put, List.setIfInBounds_toArray, List.set_cons_zero, List.set_cons_succ])
        | ((with_reducible refine wpText_yield1 (v := ?_) ?_ ?_ ?_)
           rotate_left
           · rfl
           · (intro W hW; have kx1 := hW.has x1; have kpk := hW.has pk; have kps := hW.has ps; first | (go_simp; done) | (go_simp; with_reducible rfl))
           simp only [Act.put, List.setIfInBounds_toArray, List.set_cons_zero, List.set_cons_succ]))
      rintro W5 hS5
      have hgr5 := hgr.trans hS5
      have hcc5 := hcc.trans (hS5.chg _)
      replace HO := Lib.hid (own_gr HO.out hS5)
      replace ps := hS5.has ps
      replace pk := hS5.has pk
      replace pf := hS5.has pf
      have x0 := hS5.has x0
      have x1 := hS5.has x1
      replace c0' := hS5.has c0'
      replace f0' := HO.out.frozenAt fo
      have hFs := own_block_lt HO.out (k := F) rfl
      by_cases hsv : s = v
      all_goals
        (first
          | (have tb : ((s : Int) != (v : Int)) = false := by simp [hsv])
          | (have tb : ((s : Int) != (v : Int)) = true := by simp; omega))
        (first
          | (have hz : (1 : Int) = tSgn (eds n.pipes) n1 a u := by rw [Hsg.out, if_pos hsv]
             have Hput := Lib.hid (own_eq' (own_set_int HO.out fo 1).1 (congrArg ints (Hcs.out 1 hz))))
          | (have hz : (-1 : Int) = tSgn (eds n.pipes) n1 a u := by rw [Hsg.out, if_neg hsv]
             have Hput := Lib.hid (own_eq' (own_set_int HO.out fo (-1)).1 (congrArg ints (Hcs.out (-1) hz)))))
        clear hz hsv
        go_upto_region 13 with fail
        simp only [tb]
        generalize hW7 : World.setCell W5 _ _ = W7
        rw [hW7] at Hput
        have hc7 : Chg (fun j => j = F) W5 W7 := by rw [← hW7]; exact chg_put _ _
        have hg7 : Gr w W7 := by rw [← hW7]; exact hgr5.setCell (by simp only; omega) _
        have hc67 := hcc5.trans hc7
        have z0 := chg_cell' hc7 x0 hT6F
        have z1 := chg_cell' hc7 x1 hT6F
        have zk := chg_cell' hc7 pk hgFn
        clear hW7 x0 x1 ps pk pf c0' f0' hc7
        refine wp_region_text (fun w' => Gr W7 w') (by kernel_rfl) (by kernel_rfl) (by decide) (Gr.refl _).drew ?_
        repeat (first
          | ((with_reducible refine wpText_skip ?_ ?_)
             · rfl
             simp only [Act.put, List.setIfInBounds_toArray, List.set_cons_zero, List.set_cons_succ])
          | ((with_reducible refine wpText_yield (v := ?_) ?_ ?_ ?_)
             rotate_left
             · rfl
             · (intro W hW; have kz0 := hW.has z0; have kz1 := hW.has z1; have kzk := hW.has zk; first | (go_simp; done) | (go_simp; with_reducible rfl))
             simp only [Act.put, List.setIfInBounds_toArray, List.set_cons_zero, List.set_cons_succ])
          | ((with_reducible refine wpText_yield1 (v := ?_) ?_ ?_ ?_)
             rotate_left
             · rfl
             · (intro W hW; have kz0 := hW.has z0; have kz1 := hW.has z1; have kzk := hW.has zk; first | (go_simp; done) | (go_simp; with_reducible rfl))
             simp only [Act.put, List.setIfInBounds_toArray, List.set_cons_zero, List.set_cons_succ]))
        refine wpText_do (.int .i64 (u : Int)) (by rfl) (fun W hW K hK => ?_) ?_
        ·
          have kz0 := hW.has z0
          have kz1 := hW.has z1
          have kzk := hW.has zk
          go_simp
          refine (l02Other_any (treeN n n1) q v x _ (HTn.out _ (hg7.trans hW) (hc67.trans (hW.chg _))) (tree_ok Hok.out) Hpx.out Htc.out).mono ?_
          rintro e w' ⟨rfl, hg⟩
          rw [Hot.out]
          exact hK _ (hW.trans hg)
        simp only [Act.put, List.setIfInBounds_toArray, List.set_cons_zero, List.set_cons_succ]
        repeat (first
          | ((with_reducible refine wpText_skip ?_ ?_)
             · rfl
             simp only [Act.put, List.setIfInBounds_toArray, List.set_cons_zero, List.set_cons_succ])
          | ((with_reducible refine wpText_yield (v := ?_) ?_ ?_ ?_)
             rotate_left
             · rfl
             · (intro W hW; have kz0 := hW.has z0; have kz1 := hW.has z1; have kzk := hW.has zk; first | (go_simp; done) | (go_simp; with_reducible rfl))
             simp only [Act.put, List.setIfInBounds_toArray, List.set_cons_zero, List.set_cons_succ])
          | ((with_reducible refine wpText_yield1 (v := ?_) ?_ ?_ ?_)
             rotate_left
             · rfl
             · (intro W hW; have kz0 := hW.has z0; have kz1 := hW.has z1; have kzk := hW.has zk; first | (go_simp; done) | (go_simp; with_reducible rfl))
             simp only [Act.put, List.setIfInBounds_toArray, List.set_cons_zero, List.set_cons_succ]))
        rintro W8 hS8
        have Hput8 := Lib.hid (own_gr Hput.out hS8)
        have hg8 := hg7.trans hS8
        have hc8 := hc67.trans (hS8.chg _)
        go_wp2_with fail
        go_roundw
        case rel => exact ⟨k + 1, u, by omega, by go_num, rfl, Hnx.out, Hput8.out, hg8, hc8⟩
        case measure => simp [intOf]; omega
    · obtain rfl : k = L := by omega
      go_wp2_with fail
      go_ret
      refine ⟨F, rfl, own_eq' HO.out ?_, hgr⟩
      rw [Hcy.out, List.take_of_length_le (by rw [hwlen.out, ← HL.out]; exact Nat.le_refl _)]

end Go.Proofs.YthhmhigddmimjaaGreat
/-
  All cycles, relaxing: the reference. Printed by gen_pt12.py.
-/
set_option linter.unusedSimpArgs false
set_option linter.unusedVariables false
namespace Go.Proofs.YthhmhigddmimjaaGreat
open Go.ChangeShapes Go.WideShapes Go.ChangeAt Go.RowKit

theorem infoInts : (Tryz.prog.info? 26).map (fun i => (i.zero, i.size, i.bytes)) = some (some (.slice none 0 0), 1, 24) := by kernel_rfl
/-- The same, of the call's own. -/
def BasO (w : World) (base : Nat) (A : Option Addr) (m c n2 : Nat) (cs : List (List Int)) : Prop :=
  ∃ rs : List (Option Addr × Nat), w.ownsRow base 26 1 (.slice A m c) m (rs.map (rowV n2)) ∧ rs.length = cs.length ∧ ∀ (i : Nat) (r : Option Addr × Nat) (z : List Int), rs[i]? = some r → cs[i]? = some z → w.ownsRow base 2 1 (.slice r.1 n2 r.2) n2 (ints z)
theorem BasO.gr {w w' : World} {base m c n2 : Nat} {A : Option Addr} {cs : List (List Int)} (h : BasO w base A m c n2 cs) (hg : Gr w w') : BasO w' base A m c n2 cs := by
  obtain ⟨rs, h1, h2, h3⟩ := h
  exact ⟨rs, own_gr h1 hg, h2, fun i r z a b => own_gr (h3 i r z a b) hg⟩
theorem BasO.at_ {w : World} {base m c n2 : Nat} {A : Option Addr} {cs : List (List Int)} (h : BasO w base A m c n2 cs) (hm : m ≤ 1048576) (h2 : n2 ≤ 1048576) : Bas w A m c n2 cs := by
  obtain ⟨rs, h1, h2, h3⟩ := h
  exact ⟨rs, SlAt.of_own h1 hm, h2, fun i r z a b => SlAt.of_own (h3 i r z a b) (by assumption)⟩
theorem BasO.low {w : World} {base base' m c n2 : Nat} {A : Option Addr} {cs : List (List Int)} (h : BasO w base A m c n2 cs) (hb : base' ≤ base) : BasO w base' A m c n2 cs := by
  obtain ⟨rs, h1, h2, h3⟩ := h
  exact ⟨rs, own_base h1 hb, h2, fun i r z a b => own_base (h3 i r z a b) hb⟩
theorem BasO.chg {w w' : World} {base m c n2 : Nat} {A : Option Addr} {cs : List (List Int)} {S : Nat → Prop} (h : BasO w base A m c n2 cs) (hc : Chg S w w') (hS : ∀ k, S k → k < base) : BasO w' base A m c n2 cs := by
  obtain ⟨rs, h1, h2, h3⟩ := h
  exact ⟨rs, own_chg h1 hc (fun j hj e => by have := own_low h1 hj; have := hS j e; omega), h2, fun i r z a b => own_chg (h3 i r z a b) hc (fun j hj e => by have := own_low (h3 i r z a b) hj; have := hS j e; omega)⟩
theorem bas_push {w w' : World} {base m c g c' n2 dF : Nat} {A F : Option Addr} {rs : List (Option Addr × Nat)} {cs : List (List Int)} {z : List Int} (hout : w.ownsRow base 26 1 (.slice A m c) m (rs.map (rowV n2))) (hl : rs.length = cs.length) (hr : ∀ (i : Nat) (r : Option Addr × Nat) (y : List Int), rs[i]? = some r → cs[i]? = some y → w.ownsRow base 2 1 (.slice r.1 n2 r.2) n2 (ints y)) (hF : w.ownsRow base 2 1 (.slice F n2 dF) n2 (ints z))
    (hown : w'.ownsRow base 26 1 (.slice (some ⟨g, 0, none⟩) (m + 1) c') (m + 1) (rs.map (rowV n2) ++ [.slice F n2 dF])) (hg : w.grownBy w' (Value.slice A m c).ownBlock) : BasO w' base (some ⟨g, 0, none⟩) (m + 1) c' n2 (cs ++ [z]) := by
  have hk : ∀ {B : Option Addr} {d : Nat} {y : List Int}, w.ownsRow base 2 1 (.slice B n2 d) n2 (ints y) → w'.ownsRow base 2 1 (.slice B n2 d) n2 (ints y) := fun {B d y} ho =>
    own_chg (S := fun k => (Value.slice A m c).ownBlock = some k) ho (chg_of_grown hg (fun k e => e)) (fun j hj e => by
      have h1 := own_blk_at ho hj
      have h2 := own_blk_at hout e
      subst h1
      rw [h2] at hout
      exact own_types' hout ho (by decide))
  refine ⟨rs ++ [(F, dF)], own_eq' hown (by rw [List.map_append]; rfl), by simp [hl], fun i r y h1 h2 => ?_⟩
  by_cases hi : i < rs.length
  · rw [List.getElem?_append_left hi] at h1
    rw [List.getElem?_append_left (by omega)] at h2
    exact hk (hr i r y h1 h2)
  · rw [List.getElem?_append_right (by omega)] at h1
    rw [List.getElem?_append_right (by omega)] at h2
    have e : i - rs.length = 0 := by
      have := (List.getElem?_eq_some_iff.1 h1).1
      simp at this
      omega
    rw [e] at h1
    rw [← hl, e] at h2
    simp only [List.getElem?_cons_zero, Option.some.injEq] at h1 h2
    subst h1
    subst h2
    exact hk hF
theorem cyc_take {n : GNet} {k q : Nat} (h : (chL (eds n.pipes) n.nodes.length)[k]? = some q) : (cycB n).take (k + 1) = (cycB n).take k ++ [cyc (eds n.pipes) n.nodes.length q] := by
  rw [List.take_add_one, cycB, List.getElem?_map, h]; rfl
set_option maxHeartbeats 6400000 in
set_option maxRecDepth 100000 in
theorem l05Basis_any {A1 A2 : Option Addr} {n1 c1 n2 c2 : Nat} (n : GNet) (w : World) (hA : NetAt w A1 n1 c1 A2 n2 c2 n) (hok : netOk n = true) (hc : conB (eds n.pipes) n1 = true) :
    Calls Tryz.prog 150 #[.agg #[.slice A1 n1 c1, .slice A2 n2 c2]] w fun e w' => ∃ A m c, e = .returned (.slice A m c) ∧ m ≤ n2 ∧ BasO w' w.heap.size A m c n2 (cycB n) ∧ Gr w w' := by
  obtain ⟨i0, hi0, hz0, hz1, hz2⟩ := info_parts infoInts
  have hm2 := hA.m2
  have h40 : n2 ≤ 40 := by have := (netOk_all hok).1.2.2; have := hA.l2; omega
  have hl1 := hA.l1
  have hel : (eds n.pipes).length = n2 := by rw [eds, List.length_map]; exact hA.l2
  have HA := Lib.hid hA
  have Hok := Lib.hid hok
  have Hc := Lib.hid hc
  have Hl1 := Lib.hid hl1
  have Hel := Lib.hid hel
  clear hA hok hc hl1 hel
  go_enter Tryz.func150, Tryz.ntmps150
  go_wp2_with fail
  obtain ⟨w1, hw1⟩ : ∃ W, W = w.alloc (.cells #[.slice A1 n1 c1, .slice A2 n2 c2] 32) := ⟨_, rfl⟩
  have hg1 : Gr w w1 := by rw [hw1]; exact (Gr.refl _).alloc _
  have y0 : w1.cell? ⟨w.heap.size, 0, none⟩ = some (.slice A1 n1 c1) := by rw [hw1]; simp [go_sem]
  have y1 : w1.cell? ⟨w.heap.size, 1, none⟩ = some (.slice A2 n2 c2) := by rw [hw1]; simp [go_sem]
  rw [← hw1]
  clear hw1
  refine (l05ChordsC_any n _ (HA.out.gr hg1) Hok.out Hc.out).mono ?_
  rintro e w2 ⟨AC, m, cC, rfl, hmn, hCo, hg2⟩
  have hCl : (chL (eds n.pipes) n1).length = m := by have := own_ilen hCo; simpa using this
  have HC := Lib.hid (SlAt.of_own hCo (by omega))
  have HCl := Lib.hid hCl
  have hgw2 := hg1.trans hg2
  replace y0 := hg2.has y0
  replace y1 := hg2.has y1
  clear hCo hCl hg2
  go_wp2_with fail
  have HLit : Hid (BasO (w2.alloc (.cells #[] 26)) w2.heap.size (some ⟨w2.heap.size, 0, none⟩) 0 0 n2 ((cycB n).take 0)) := Lib.hid ⟨[], World.ownsRow_lit w2 #[] 0 (Nat.le_refl _) (by unfold maxLen; omega) rfl, rfl, fun i r z h => by cases h⟩
  go_loopw [4, 5] (fun o i wr => ∃ k : Nat, k ≤ m ∧ i = .int .i64 k ∧ (∃ g c, o = .slice (some ⟨g, 0, none⟩) k c ∧ BasO wr w2.heap.size (some ⟨g, 0, none⟩) k c n2 ((cycB n).take k)) ∧ Gr w2 wr) (fun _ i _ => m - (intOf i).toNat)
  case atStart => exact ⟨0, Nat.zero_le _, rfl, ⟨_, _, rfl, HLit.out⟩, (Gr.refl _).alloc _⟩
  case round =>
    obtain ⟨k, hk, rfl, ⟨g, c, rfl, hB⟩, hgr⟩ := hrel
    have HB := Lib.hid hB
    have hgrs := hgr.size
    clear hB HLit
    by_cases hlt : k < m
    · obtain ⟨q, hq⟩ : ∃ q, (chL (eds n.pipes) n1)[k]? = some q := ⟨_, List.getElem?_eq_getElem (by have := HCl.out; omega)⟩
      have hqm := List.mem_of_getElem? hq
      simp only [chL, List.mem_filter, List.mem_range, Bool.not_eq_true'] at hqm
      have hql : q < n2 := by have := Hel.out; omega
      have hqf := hqm.2
      have Hqf := Lib.hid hqf
      have Hst : Hid ((cycB n).take (k + 1) = (cycB n).take k ++ [cyc (eds n.pipes) n1 q]) := Lib.hid (by
        have := cyc_take (n := n) (k := k) (q := q) (by rw [Hl1.out]; exact hq)
        rw [Hl1.out] at this
        exact this)
      obtain ⟨bC, oC, hAA, hbC, x0⟩ := HC.out.sl.int (k := k) (x := (q : Int)) (by rw [List.getElem?_map, hq]; rfl)
      subst hAA
      have t1 : (k : Int) < (m : Int) := by omega
      have t0 : (0 : Int) ≤ (k : Int) := by omega
      have kp : ∀ W, Gr w2 W → (W.cell? ⟨w.heap.size, 0, none⟩ = some (.slice A1 n1 c1) ∧ W.cell? ⟨w.heap.size, 1, none⟩ = some (.slice A2 n2 c2) ∧ W.cell? ⟨bC, oC + k, none⟩ = some (.int .i64 (q : Int))) := fun W h => ⟨h.has y0, h.has y1, h.has x0⟩
      obtain ⟨rs, hr1, hr2, hr3⟩ := HB.out
      have Hr1 := Lib.hid (own_gr hr1 (Gr.refl wr).drew)
      have Hr2 := Lib.hid hr2
      have Hr3 : Hid (∀ (i : Nat) (r : Option Addr × Nat) (z : List Int), rs[i]? = some r → ((cycB n).take k)[i]? = some z → wr.drew.ownsRow w2.heap.size 2 1 (.slice r.1 n2 r.2) n2 (ints z)) := Lib.hid (fun i r z a b => own_gr (hr3 i r z a b) (Gr.refl wr).drew)
      clear hq hqm hqf hr1 hr2 hr3 HB
      rename World => wr
      go_wp2_with fail
      go_region_held3 (fun W => W.cell? ⟨w.heap.size, 0, none⟩ = some (.slice A1 n1 c1) ∧ W.cell? ⟨w.heap.size, 1, none⟩ = some (.slice A2 n2 c2) ∧ W.cell? ⟨bC, oC + k, none⟩ = some (.int .i64 (q : Int)))
        (first | with_reducible exact kp _ hgr.drew | with_reducible exact kp _ hg6 | with_reducible exact kp _ hg7 | with_reducible exact kp _ hg8)
        (first
          | (go_at_call 164; with_reducible refine (l05Cycle_any n q _ (HA.out.gr ((hgw2.trans hgr).trans (Gr.refl _).drew)) Hok.out Hc.out hql Hqf.out).mono ?_; rintro e w6 ⟨F, rfl, hF, h6⟩; have hg6 : Gr w2 w6 := hgr.drew.trans h6; have hg7 : Gr w2 (w6.alloc (.cells #[.slice (some ⟨F, 0, none⟩) n2 n2] 26)) := hg6.alloc _; have h67 : Gr w6 (w6.alloc (.cells #[.slice (some ⟨F, 0, none⟩) n2 n2] 26)) := (Gr.refl _).alloc _; have HF := Lib.hid (own_gr hF h67); have Q1 := Lib.hid (own_gr (own_gr Hr1.out h6) h67); have Q3 : Hid (∀ (i : Nat) (r : Option Addr × Nat) (z : List Int), rs[i]? = some r → ((cycB n).take k)[i]? = some z → (w6.alloc (.cells #[.slice (some ⟨F, 0, none⟩) n2 n2] 26)).ownsRow w2.heap.size 2 1 (.slice r.1 n2 r.2) n2 (ints z)) := Lib.hid (fun i r z a b => own_gr (own_gr (Hr3.out i r z a b) h6) h67); have hs6 := hg6.size; clear hF h6)
          | (refine step_append_lies _ (by rfl) _ _ _ (by rfl) w2.heap.size 26 i0 _ 1 24 Tryz.underlying143 hi0 hz0 hz1 hz2 rfl (by omega) _ k _ (by rfl) Q1.out ⟨w6.heap.size, 0, none⟩ 1 1 [.slice (some ⟨F, 0, none⟩) n2 n2] (by rfl) (by rfl) (World.news_of_block (cs := #[.slice (some ⟨F, 0, none⟩) n2 n2]) (t := 26) (fr := (0, 0)) (heap_alloc_new w6 _)) (by simp [Value.oneCell']) (by omega) (by unfold maxLen; omega) (by omega) (by simp; omega) (w6.heap.size + 1) (by simp) ?_; intro gg cap w8 hown2 hgg hat2 hlt2; have hg8 : Gr w2 w8 := hg7.grown hgg (fun j e => own_low Q1.out e); have HN := Lib.hid (bas_push Q1.out Hr2.out Q3.out (own_base HF.out (by show w2.heap.size ≤ wr.heap.size; omega)) hown2 hgg); clear hown2 hgg hat2 hlt2))
      have hgw8 := hg8
      clear kp hg6 hg7 h67 HF Q1 Q3 x0
      go_wp2_with fail
      go_roundw
      case rel => exact ⟨k + 1, by omega, by go_num, ⟨_, _, rfl, by rw [Hst.out]; exact HN.out⟩, hgw8⟩
      case measure => simp [intOf]; omega
    · obtain rfl : k = m := by omega
      go_wp2_with fail
      go_ret
      have h := HB.out
      rw [List.take_of_length_le (by rw [cycB, List.length_map, Hl1.out, HCl.out]; exact Nat.le_refl _)] at h
      exact ⟨_, _, _, rfl, hmn, h.low hgw2.size, hgw2.trans hgr⟩
theorem cycB_bnd {n : GNet} (hE : EsOk (eds n.pipes) n.nodes.length) (hc : conB (eds n.pipes) n.nodes.length = true) : ∀ z ∈ cycB n, ∀ i, -1 ≤ z.getD i 0 ∧ z.getD i 0 ≤ 1 := by
  intro z hz i
  rw [cycB, List.mem_map] at hz
  obtain ⟨q, hq, rfl⟩ := hz
  simp only [chL, List.mem_filter, List.mem_range, Bool.not_eq_true'] at hq
  exact cyc_bnd hE hc hq.1 hq.2 i
set_option maxHeartbeats 6400000 in
set_option maxRecDepth 100000 in
theorem l11Relax_any {A1 A2 A3 : Option Addr} {n1 c1 n2 c2 c3 : Nat} (n : GNet) (f : List Int) (s : Nat) (w : World) (hA : NetAt w A1 n1 c1 A2 n2 c2 n) (hF : SlAt w 1 A3 n2 c3 (ints f)) (hok : netOk n = true) (hc : conB (eds n.pipes) n1 = true) (hf : flOk n f = true) (hs : s ≤ 32768) :
    Calls Tryz.prog 131 #[.agg #[.slice A1 n1 c1, .slice A2 n2 c2], .slice A3 n2 c3, .int .i64 s] w fun e w' => ∃ A c, ∃ T : Nat, e = .returned (.tuple #[.slice A n2 c, .int .i64 T]) ∧ T + (rlx n (cycB n) s 5000 f).2 = 5000 ∧ SlAt w' 1 A n2 c (ints (rlx n (cycB n) s 5000 f).1) ∧ Gr w w' := by
  obtain ⟨i0, hi0, hz0, hz1, hz2⟩ := info_parts infoInt64
  have hm2 := hA.m2
  have hE : EsOk (eds n.pipes) n.nodes.length := eds_ok hok
  have hcb := cycB_bnd hE (by rw [hA.l1]; exact hc)
  have HA := Lib.hid hA
  have HF := Lib.hid hF
  have Hok := Lib.hid hok
  have Hc := Lib.hid hc
  have Hf := Lib.hid hf
  have Hcb := Lib.hid hcb
  clear hA hF hok hc hf hE hcb
  go_enter Tryz.func131, Tryz.ntmps131
  go_wp2_with fail
  obtain ⟨w1, hw1⟩ : ∃ W, W = w.alloc (.cells #[.slice A1 n1 c1, .slice A2 n2 c2] 32) := ⟨_, rfl⟩
  have hg1 : Gr w w1 := by rw [hw1]; exact (Gr.refl _).alloc _
  have y0 : w1.cell? ⟨w.heap.size, 0, none⟩ = some (.slice A1 n1 c1) := by rw [hw1]; simp [go_sem]
  have y1 : w1.cell? ⟨w.heap.size, 1, none⟩ = some (.slice A2 n2 c2) := by rw [hw1]; simp [go_sem]
  rw [← hw1]
  clear hw1
  refine (l05Basis_any n _ (HA.out.gr hg1) Hok.out Hc.out).mono ?_
  rintro e w2 ⟨A5, m, c5, rfl, hmn, hB, hg2⟩
  have HB := Lib.hid (hB.at_ (by omega) hm2)
  have hgw2 := hg1.trans hg2
  replace y0 := hg2.has y0
  replace y1 := hg2.has y1
  clear hB
  go_upto_region 2 with fail
  go_cut [9] from 15 (fun o wx => ∃ A c, o = .slice A n2 c ∧ SlAt wx 1 A n2 c (ints f) ∧ Gr w2 wx)
  case first =>
    cases A3 with
    | none =>
      have h0 : n2 = 0 := by
        rcases Nat.eq_zero_or_pos n2 with h | h
        · exact h
        · obtain ⟨b, o, e, _⟩ := HF.out.sl.2 h
          cases e
      have hfl : ints f = [] := by
        have := HF.out.sl.1
        rw [h0] at this
        simpa using this
      have Hfl := Lib.hid hfl
      have H0 := Lib.hid h0
      have lo := Lib.hid (World.ownsRow_lit w2 (base := w2.heap.size) (e := 2) (size := 1) #[] 0 (Nat.le_refl _) (by unfold maxLen; omega) rfl)
      clear hfl
      subst h0
      go_wp2_with fail
      go_meet
      case rel => exact ⟨_, _, rfl, by rw [Hfl.out]; exact SlAt.of_own lo.out (by omega), (Gr.refl _).alloc _⟩
    | some ad =>
      have Hcells := Lib.hid (HF.out.gr hgw2).sl.cells
      have Hll := Lib.hid HF.out.sl.1
      go_wp2_with (at_builtin; refine wpList_append_own _ rfl _ _ _ rfl w2.heap.size 2 i0 _ 1 8 Tryz.underlying26 hi0 hz0 hz1 hz2 rfl (by omega) _ 0 [] rfl (World.ownsRow_lit w2 #[] 0 (Nat.le_refl _) (by unfold maxLen; omega) rfl) ad n2 c3 (ints f) rfl Hll.out (fun j u hu => ((Gr.refl w2).alloc _).has (Hcells.out j u hu)) (ints_one f) (by unfold maxLen; omega) (by omega) (by simp) ?_; intro v' w3 hown hg _)
      obtain ⟨A', c', rfl⟩ := own_shape hown
      have hown' : w3.ownsRow w2.heap.size 2 1 (.slice A' n2 c') n2 (ints f) := by simpa using hown
      have hg3 : Gr w2 w3 := ((Gr.refl w2).alloc _).grown hg (fun k hk => by injection hk with hk; exact Nat.le_of_eq hk)
      have Hown := Lib.hid (SlAt.of_own hown' hm2)
      clear hown hown' hg
      (try rw [Nat.zero_add])
      go_wp2_with fail
      go_meet
      case rel => exact ⟨_, _, rfl, Hown.out, hg3⟩
  obtain ⟨A4, c4, rfl, hG, hg3⟩ := hcut
  rename World => w3
  have HG := Lib.hid hG
  have hgw3 := hgw2.trans hg3
  have hg13 := hg2.trans hg3
  replace y0 := hg3.has y0
  replace y1 := hg3.has y1
  replace HB := Lib.hid (HB.out.gr hg3)
  clear hG
  go_wp2_with fail
  go_loopw [2, 9, 10] (fun st o tt wr => ∃ (s' left T : Nat) (g : List Int) (A : Option Addr) (c : Nat), st = .int .i64 s' ∧ tt = .int .i64 T ∧ o = .slice A n2 c ∧ (s' ≤ 32768 ∧ T + left = 5000) ∧ flOk n g = true ∧ rlx n (cycB n) s' left g = rlx n (cycB n) s 5000 f ∧ SlAt wr 1 A n2 c (ints g) ∧ Gr w3 wr) (fun st _ tt _ => (intOf st).toNat + (5000 - intOf tt).toNat)
  case atStart => exact ⟨s, 5000, 0, f, _, _, rfl, rfl, rfl, ⟨hs, rfl⟩, Hf.out, rfl, HG.out, Gr.refl _⟩
  case round =>
    obtain ⟨s', left, T, g, A, c, rfl, rfl, rfl, ⟨hs', hT⟩, hg, hR, hGr, hgr⟩ := hrel
    have HGr := Lib.hid hGr
    have Hg := Lib.hid hg
    have HR := Lib.hid hR
    have u0 := hgr.has y0
    have u1 := hgr.has y1
    have hTb : T ≤ 5000 := by omega
    have hlb : left ≤ 5000 := by omega
    have HT := Lib.hid hT
    clear hGr hg hR hT
    by_cases h0 : s' = 0 ∨ left = 0
    · have He : Hid (rlx n (cycB n) s 5000 f = (g, left)) := Lib.hid (by rw [← HR.out, rlx_end h0])
      have hgf := hgw3.trans hgr
      have fin : Hid (T + (rlx n (cycB n) s 5000 f).2 = 5000 ∧ (rlx n (cycB n) s 5000 f).1 = g) := Lib.hid (by rw [He.out]; exact ⟨HT.out, rfl⟩)
      have hT := HT.out
      by_cases hs0 : s' = 0
      · have t1 : decide ((1 : Int) ≤ (s' : Int)) = false := by simp; omega
        clear h0 hT
        go_wp2_with fail
        go_ret2
        exact ⟨A, c, T, rfl, fin.out.1, by rw [fin.out.2]; exact HGr.out, hgf⟩
      · have t1 : decide ((1 : Int) ≤ (s' : Int)) = true := by simp; omega
        have t2 : decide ((T : Int) < 5000) = false := by simp; omega
        clear h0 hT
        go_wp2_with fail
        go_ret2
        exact ⟨A, c, T, rfl, fin.out.1, by rw [fin.out.2]; exact HGr.out, hgf⟩
    · have t1 : decide ((1 : Int) ≤ (s' : Int)) = true := by simp; omega
      have hT := HT.out
      have t2 : decide ((T : Int) < 5000) = true := by simp; omega
      have hw1 : IntKind.i64.wrap (5000 - (T : Int)) = (left : Int) := by rw [IntWalk.i64_in _ (by omega)]; omega
      have H0 := Lib.hid h0
      clear h0 hT
      go_wp2_with fail
      refine (l11Pass_any n (cycB n) g s' left _ (HA.out.gr (hgw3.trans hgr)) (HB.out.gr hgr) HGr.out Hok.out Hg.out Hcb.out hs' hlb).mono ?_
      rintro e w7 ⟨A7, c7, rfl, hG7, h7⟩
      have hle := pass_le n (s' : Int) (cycB n) g left
      obtain ⟨q, hq⟩ : ∃ q, q = (passR n (s' : Int) (cycB n) g left).2 := ⟨_, rfl⟩
      rw [← hq] at hle ⊢
      have HG7 := Lib.hid hG7
      have Hg7 := Lib.hid (pass_ok n (s' : Int) (cycB n) g left Hg.out)
      have hgr7 := hgr.trans h7
      have Hq := Lib.hid hq
      clear hG7 hq h7 u0 u1
      by_cases hq0 : q = 0
      · subst hq0
        have HR7 : Hid (rlx n (cycB n) (s' / 2) left (passR n (s' : Int) (cycB n) g left).1 = rlx n (cycB n) s 5000 f) := Lib.hid (by rw [← HR.out, rlx_half H0.out Hq.out.symm])
        have hw2 : IntKind.i64.wrap (Int.tdiv (s' : Int) 2) = ((s' / 2 : Nat) : Int) := by rw [Int.tdiv_eq_ediv_of_nonneg (by omega), IntWalk.i64_in _ (by omega)]; omega
        go_wp2_with fail
        go_roundw
        case rel => exact ⟨s' / 2, left, T, _, _, _, by go_num, by go_num, rfl, ⟨by omega, HT.out⟩, Hg7.out, HR7.out, HG7.out, hgr7⟩
        case measure => have := HT.out; have := H0.out; simp [intOf]; omega
      · have HR7 : Hid (rlx n (cycB n) s' (left - q) (passR n (s' : Int) (cycB n) g left).1 = rlx n (cycB n) s 5000 f) := Lib.hid (by rw [← HR.out, rlx_more H0.out (by rw [← Hq.out]; exact hq0), ← Hq.out])
        have tq : ((q : Int) == 0) = false := by simp; omega
        go_wp2_with fail
        go_roundw
        case rel => exact ⟨s', left - q, T + q, _, _, _, rfl, by go_num, rfl, ⟨hs', by have := HT.out; omega⟩, Hg7.out, HR7.out, HG7.out, hgr7⟩
        case measure => have := HT.out; simp [intOf]; omega
end Go.Proofs.YthhmhigddmimjaaGreat
/-
  Levels of the nodes: both sides. Printed by gen_pt13.py.
-/
set_option linter.unusedSimpArgs false
set_option linter.unusedVariables false
namespace Go.Proofs.YthhmhigddmimjaaGreat
open Go.ChangeShapes Go.WideShapes Go.ChangeAt Go.RowKit

theorem lvX_bnd {n : GNet} {fl : List Int} (hn : netOk n = true) (hf : flOk n fl = true) {q : Nat} (hq : q < n.pipes.length) : -900000000000 ≤ drp (n.pipes.getD q dP) (fl.getD q 0) ∧ drp (n.pipes.getD q dP) (fl.getD q 0) ≤ 900000000000 := (drp_bnd (pipe_k hn hq) (flOk_get hf q)).2.1
/-- What a step of the levels does. -/
structure LvStep (n : GNet) (fl : List Int) (N k v q up t : Nat) (x : GPipe) : Prop where
  v0 : v ≠ 0
  vl : v < N
  ul : up < N
  ql : q < n.pipes.length
  px : n.pipes[q]? = some x
  en : (entL N 0 (sZ (eds n.pipes) N))[v]? = some (q : Int)
  et : (entL N 0 (sZ (tE (eds n.pipes) N) N))[v]? = some (t : Int)
  ft : (foL (eds n.pipes) N)[t]? = some q
  pt : (treeN n N).pipes[t]? = some x
  tc : touch (edOf x) v = true
  ot : oth (edOf x) v = up
  ne : up ≠ v
  ends : (x.src = (v : Int) ∧ x.dst = (up : Int)) ∨ (x.src = (up : Int) ∧ x.dst = (v : Int))
  st : ∀ lev, lvTo n fl lev (k + 1) = (lvTo n fl lev k).set v ((lvTo n fl lev k).getD up 0 + if x.src = (v : Int) then drp x (fl.getD q 0) else -drp x (fl.getD q 0))
theorem lv_step {n : GNet} {fl : List Int} {N k v : Nat} (hN : n.nodes.length = N) (hn : netOk n = true) (hc : conB (eds n.pipes) N = true) (h : (ordZ (eds n.pipes) N 0)[k + 1]? = some v) : ∃ q up t x, LvStep n fl N k v q up t x := by
  have hE : EsOk (eds n.pipes) N := by have := eds_ok hn; rw [hN] at this; exact this
  have h0 : 0 < N := by have := (netOk_all hn).1.1; omega
  have hI := z_inv hE h0
  have hvm := List.mem_of_getElem? h
  have hvl : v < N := z_lt hE h0 hvm
  have hv0 : v ≠ 0 := by
    intro e
    subst e
    have h1 : (srch (eds n.pipes) (zf (eds n.pipes)) N 0).ord[k + 1]? = some 0 := h
    have hk1 := (List.getElem?_eq_some_iff.1 h1).1
    have := (List.getElem?_inj hk1 hI.nd).1 (h1.trans hI.hd.symm)
    omega
  obtain ⟨e, j, i, q1, _, q2, _, q5, q6⟩ := con_at hE hc hvl hv0
  obtain ⟨q, hq⟩ : ∃ q, q = entZ (eds n.pipes) N v := ⟨_, rfl⟩
  obtain ⟨up, hup⟩ : ∃ up, up = back (eds n.pipes) (sZ (eds n.pipes) N) v := ⟨_, rfl⟩
  rw [← hq] at q1
  rw [← hup] at q2 q5
  have hul : up < N := z_lt hE h0 (List.mem_of_getElem? q2)
  have hql : q < n.pipes.length := by
    have := (List.getElem?_eq_some_iff.1 q1).1
    rw [eds, List.length_map] at this
    exact this
  obtain ⟨x, hx⟩ : ∃ x, n.pipes[q]? = some x := ⟨_, List.getElem?_eq_getElem hql⟩
  have hxe : n.pipes.getD q dP = x := by rw [List.getD_eq_getElem?_getD, hx]; rfl
  have hex : edOf x = e := by
    rw [eds, List.getElem?_map, hx] at q1
    simpa using q1
  obtain ⟨xa1, xa2, _⟩ := pipeOk_all ((netOk_all hn).2 q x hx)
  have hed : (eds n.pipes).getD q dE = e := by rw [List.getD_eq_getElem?_getD, q1]; rfl
  have hT := tE_ok (N := N) hE
  have hTc := tree_con hE h0 hc
  have htt := tree_ent hE hc hvl hv0
  have hsf : x.src = ((edOf x).f : Int) := by show x.src = (x.src.toNat : Int); omega
  have hst : x.dst = ((edOf x).t : Int) := by show x.dst = (x.dst.toNat : Int); omega
  have hends : (x.src = (v : Int) ∧ x.dst = (up : Int)) ∨ (x.src = (up : Int) ∧ x.dst = (v : Int)) := by
    rw [hsf, hst, hex]
    rcases q5 with ⟨y, z⟩ | ⟨y, z⟩
    · right; omega
    · left; omega
  have hne : up ≠ v := by
    intro e1
    rcases q5 with ⟨y, z⟩ | ⟨y, z⟩ <;> omega
  have hent : ∀ {es : List Ed}, EsOk es N → conB es N = true → (entL N 0 (sZ es N))[v]? = some ((entZ es N v : Nat) : Int) := fun {es} h1 h2 => by
    have h3 := entL_at h1 h0 h2 hvl
    rw [if_neg hv0] at h3
    rw [← h3]
    exact get_int (by rw [entL_len]; exact hvl)
  refine ⟨q, up, entZ (tE (eds n.pipes) N) N v, x, hv0, hvl, hul, hql, hx, by rw [hq]; exact hent hE hc, hent hT hTc, by rw [hq]; exact htt, ?_, ?_, ?_, hne, hends, fun lev => ?_⟩
  · have : (foL (eds n.pipes) N)[entZ (tE (eds n.pipes) N) N v]? = some q := by rw [hq]; exact htt
    rw [treeN, List.getElem?_map, this]
    show some (n.pipes.getD q dP) = some x
    rw [hxe]
  · rw [hex, touch]
    rcases q5 with ⟨_, z⟩ | ⟨_, z⟩
    · simp [z]
    · simp [z]
  · rw [hex, oth]
    rcases q5 with ⟨y, z⟩ | ⟨y, z⟩
    · rw [if_neg (by omega), y]
    · rw [if_pos z, y]
  · have h1 : (ordZ (eds n.pipes) n.nodes.length 0)[k + 1]? = some v := by rw [hN]; exact h
    rw [lvTo_step h1, lvOne, lvX, hN, ← hup, ← hq, hed, hxe]
    have : (e.f = v) ↔ (x.src = (v : Int)) := by rw [hsf, hex]; omega
    by_cases hv : e.f = v
    · rw [if_pos hv, if_pos (this.1 hv)]
    · rw [if_neg hv, if_neg (fun h => hv (this.2 h))]
theorem lv_bnd {n : GNet} {fl : List Int} {lev B : Int} (hn : netOk n = true) (hc : conB (eds n.pipes) n.nodes.length = true) (hf : flOk n fl = true) (hB : -B ≤ lev ∧ lev ≤ B) (k : Nat) : InB (B + 900000000000 * (k : Int)) (lvTo n fl lev k) := by
  induction k with
  | zero =>
    have h0 : InB B ((List.replicate n.nodes.length (0 : Int)).set 0 lev) := InB.set (fun u => by
      rw [List.getD_eq_getElem?_getD, List.getElem?_replicate]; split <;> simp <;> omega) (by omega) hB
    exact h0.mono (by omega)
  | succ k ih =>
    cases h : (ordZ (eds n.pipes) n.nodes.length 0)[k + 1]? with
    | none =>
      have : lvTo n fl lev (k + 1) = lvTo n fl lev k := by
        rw [lvTo, List.take_add_one, show ((ordZ (eds n.pipes) n.nodes.length 0).drop 1)[k]? = none by rw [List.getElem?_drop, Nat.add_comm]; exact h]; simp [lvTo]
      rw [this]; exact ih.mono (by omega)
    | some v =>
      obtain ⟨q, up, t, x, S⟩ := lv_step (fl := fl) rfl hn hc h
      rw [S.st lev]
      have h1 := ih up
      have h2 := lvX_bnd hn hf S.ql
      rw [show n.pipes.getD q dP = x by rw [List.getD_eq_getElem?_getD, S.px]; rfl] at h2
      refine (ih.mono (C := B + 900000000000 * ((k + 1 : Nat) : Int)) (by omega)).set (by omega) ?_
      split <;> omega
/-- All levels shift by the level of the node 0. -/
theorem lv_shift {n : GNet} {fl : List Int} {lev : Int} (hn : netOk n = true) (hc : conB (eds n.pipes) n.nodes.length = true) (k : Nat) (hk : k < n.nodes.length) : ∀ u, u ∈ (ordZ (eds n.pipes) n.nodes.length 0).take (k + 1) → (lvTo n fl lev k).getD u 0 = (lvTo n fl 0 k).getD u 0 + lev := by
  have hE := eds_ok hn
  have h0 : 0 < n.nodes.length := by have := (netOk_all hn).1.1; omega
  have hI := z_inv hE h0
  have hol : (ordZ (eds n.pipes) n.nodes.length 0).length = n.nodes.length := of_decide_eq_true hc
  induction k with
  | zero =>
    intro u hu
    rw [List.take_add_one, List.take_zero, List.nil_append] at hu
    have h1 : (ordZ (eds n.pipes) n.nodes.length 0)[0]? = some 0 := hI.hd
    rw [h1] at hu
    simp at hu
    subst hu
    show ((List.replicate n.nodes.length (0 : Int)).set 0 lev).getD 0 0 = ((List.replicate n.nodes.length (0 : Int)).set 0 0).getD 0 0 + lev
    rw [getD_set_self (by simpa using h0), getD_set_self (by simpa using h0)]
    omega
  | succ k ih =>
    have ih := ih (by omega)
    obtain ⟨v, h⟩ : ∃ v, (ordZ (eds n.pipes) n.nodes.length 0)[k + 1]? = some v := ⟨_, List.getElem?_eq_getElem (by omega)⟩
    obtain ⟨q, up, t, x, S⟩ := lv_step (fl := fl) rfl hn hc h
    intro u hu
    have hup : up ∈ (ordZ (eds n.pipes) n.nodes.length 0).take (k + 1) := by
      obtain ⟨e, j, i, q1, hj, hi, hij, q5, _⟩ := con_at hE hc S.vl S.v0
      have hb : back (eds n.pipes) (sZ (eds n.pipes) n.nodes.length) v = up := by
        have := S.en
        have h3 := entL_at hE h0 hc S.vl
        rw [if_neg S.v0, List.getD_eq_getElem?_getD, S.en] at h3
        have h4 : entZ (eds n.pipes) n.nodes.length v = q := by simp at h3; omega
        have h5 : (eds n.pipes).getD ((sZ (eds n.pipes) n.nodes.length).ent.getD v 0) dE = edOf x := by
          have h6 : (sZ (eds n.pipes) n.nodes.length).ent.getD v 0 = q := h4
          rw [h6, List.getD_eq_getElem?_getD, eds, List.getElem?_map, S.px]; rfl
        rw [back, h5, S.ot]
      rw [hb] at hi
      have hjk : j = k + 1 := by
        have hj' : (srch (eds n.pipes) (zf (eds n.pipes)) n.nodes.length 0).ord[j]? = some v := hj
        have h' : (srch (eds n.pipes) (zf (eds n.pipes)) n.nodes.length 0).ord[k + 1]? = some v := h
        exact (List.getElem?_inj (List.getElem?_eq_some_iff.1 hj').1 hI.nd).1 (hj'.trans h'.symm)
      exact List.mem_of_getElem? (i := i) (by rw [List.getElem?_take, if_pos (by omega)]; exact hi)
    rw [S.st lev, S.st 0]
    by_cases e : v = u
    · subst e
      rw [getD_set_self (by rw [lv_len]; exact S.vl), getD_set_self (by rw [lv_len]; exact S.vl), ih up hup]
      omega
    · rw [getD_set_ne e, getD_set_ne e]
      refine ih u ?_
      rw [List.take_add_one, h, Option.toList_some, List.mem_append] at hu
      rcases hu with hu | hu
      · exact hu
      · simp at hu; exact absurd hu.symm e
theorem lvL_shift {n : GNet} {fl : List Int} {lev : Int} (hn : netOk n = true) (hc : conB (eds n.pipes) n.nodes.length = true) : lvL n fl lev = (lvL n fl 0).map (· + lev) := by
  have hE := eds_ok hn
  have h0 : 0 < n.nodes.length := by have := (netOk_all hn).1.1; omega
  have hol : (ordZ (eds n.pipes) n.nodes.length 0).length = n.nodes.length := of_decide_eq_true hc
  apply List.ext_getElem?
  intro u
  by_cases hu : u < n.nodes.length
  · rw [lvL, get_int (by rw [lv_len]; exact hu), List.getElem?_map, lvL, get_int (l := lvTo n fl 0 (n.nodes.length - 1)) (by rw [lv_len]; exact hu)]
    have := lv_shift (fl := fl) (lev := lev) hn hc (n.nodes.length - 1) (by omega) u (by rw [List.take_of_length_le (by omega)]; exact con_all hE h0 hc hu)
    rw [this]; rfl
  · rw [List.getElem?_eq_none (by rw [lvL, lv_len]; omega), List.getElem?_eq_none (by rw [List.length_map, lvL, lv_len]; omega)]
set_option maxHeartbeats 6400000 in
set_option maxRecDepth 100000 in
theorem l07Levels_any {A1 A2 A3 : Option Addr} {n1 c1 n2 c2 c3 : Nat} (n : GNet) (fl : List Int) (lev : Int) (w : World) (hA : NetAt w A1 n1 c1 A2 n2 c2 n) (hF : SlAt w 1 A3 n2 c3 (ints fl)) (hok : netOk n = true) (hc : conB (eds n.pipes) n1 = true) (hf : flOk n fl = true) (hB : -1000000000000000 ≤ lev ∧ lev ≤ 1000000000000000) :
    Calls Tryz.prog 112 #[.agg #[.slice A1 n1 c1, .slice A2 n2 c2], .slice A3 n2 c3, .int .i64 0, .int .i64 lev] w fun e w' => ∃ F, e = .returned (.slice (some ⟨F, 0, none⟩) n1 n1) ∧ w'.ownsRow w.heap.size 2 1 (.slice (some ⟨F, 0, none⟩) n1 n1) n1 (ints (lvL n fl lev)) ∧ Gr w w' := by
  obtain ⟨i0, hi0, hz0, hz1, hz2⟩ := info_parts infoInt64
  have hm1 := hA.m1
  have hm2 := hA.m2
  have hnl := hA.l1
  have h24 : n1 ≤ 24 := by have := (netOk_all hok).1.2.1; rw [hA.l1] at this; exact this
  have h0 : 0 < n1 := by have := (netOk_all hok).1.1; rw [hA.l1] at this; exact this
  have hol : (ordZ (eds n.pipes) n1 0).length = n1 := of_decide_eq_true hc
  have hcn : conB (eds n.pipes) n.nodes.length = true := by rw [hnl]; exact hc
  have hE : EsOk (eds n.pipes) n1 := by have := eds_ok hok; rw [hA.l1] at this; exact this
  have HA := Lib.hid hA
  have HF := Lib.hid hF
  have Hok := Lib.hid hok
  have Hc := Lib.hid hc
  have Hcn := Lib.hid hcn
  have Hf := Lib.hid hf
  have Hnl := Lib.hid hnl
  have Hol := Lib.hid hol
  have HE := Lib.hid hE
  have Hl2 := Lib.hid hA.l2
  have Hlf := Lib.hid hF.sl.ilen
  clear hA hF hok hc hcn hf hnl hol hE
  have hto : ordZ (tE (eds n.pipes) n1) n1 0 = ordZ (eds n.pipes) n1 0 := (tree_sim HE.out h0).ord.symm
  have Hto := Lib.hid hto
  clear hto
  go_enter Tryz.func112, Tryz.ntmps112
  go_wp2_with fail
  obtain ⟨w1, hw1⟩ : ∃ W, W = w.alloc (.cells #[.slice A1 n1 c1, .slice A2 n2 c2] 32) := ⟨_, rfl⟩
  have hg1 : Gr w w1 := by rw [hw1]; exact (Gr.refl _).alloc _
  have y0 : w1.cell? ⟨w.heap.size, 0, none⟩ = some (.slice A1 n1 c1) := by rw [hw1]; simp [go_sem]
  have y1 : w1.cell? ⟨w.heap.size, 1, none⟩ = some (.slice A2 n2 c2) := by rw [hw1]; simp [go_sem]
  rw [← hw1]
  clear hw1
  refine (l05Tree_any n _ (HA.out.gr hg1) Hok.out Hc.out).mono ?_
  rintro e w2 ⟨B, m, d, FA, fc, rfl, hml, hT, hTo, hFo, hg2⟩
  have Htl := Lib.hid hT.l2
  have hT40 := hT.m2
  have Hml := Lib.hid hml
  clear hml
  go_upto_region 2 with fail
  obtain ⟨w3, hw3⟩ : ∃ W, W = w2.alloc (.cells #[.slice A1 n1 c1, .slice B m d] 32) := ⟨_, rfl⟩
  obtain ⟨T6, hT6⟩ : ∃ T6, T6 = w2.heap.size := ⟨_, rfl⟩
  have x0 : w3.cell? ⟨T6, 0, none⟩ = some (.slice A1 n1 c1) := by rw [hw3, hT6]; simp [go_sem]
  have x1 : w3.cell? ⟨T6, 1, none⟩ = some (.slice B m d) := by rw [hw3, hT6]; simp [go_sem]
  have hg23 : Gr w2 w3 := by rw [hw3]; exact (Gr.refl _).alloc _
  have hg13 := hg2.trans hg23
  have hgw3 := hg1.trans hg13
  replace y0 := hg13.has y0
  replace y1 := hg13.has y1
  have HT3 := Lib.hid (hT.gr hg23)
  have HTo3 := Lib.hid (own_gr hTo hg23)
  have HFo3 := Lib.hid (own_gr hFo hg23)
  rw [← hw3, ← hT6]
  clear hw3 hT6 hT hTo hFo hg2 hg23 hg13
  go_wp2_with fail
  refine (l04Search_any (treeN n n1) 0 _ HT3.out (tree_ok Hok.out) h0).mono ?_
  rintro e w4 ⟨O, gE, gS, rfl, ⟨AO, cO, rfl⟩, hSq, hg4⟩
  have hS1 : srch (eds (treeN n n1).pipes) (zf (eds (treeN n n1).pipes)) n1 0 = sZ (tE (eds n.pipes) n1) n1 := by rw [tree_eds]; rfl
  have hlo : (srch (eds (treeN n n1).pipes) (zf (eds (treeN n n1).pipes)) n1 0).ord = ordZ (eds n.pipes) n1 0 := by rw [hS1]; exact Hto.out
  have HEn := Lib.hid (by have := hSq.ent; rw [hS1] at this; exact this)
  have hOr := hSq.ord
  rw [hlo, Hol.out] at hOr
  rw [hlo, Hol.out]
  have hgSz := hSq.lt
  have hgEb := hSq.ge
  have hgES := hSq.gh
  have HOr := Lib.hid (own_base hOr (show w3.heap.size ≤ gS + 1 by omega))
  obtain ⟨gO, hAO, _⟩ := own_form HOr.out h0
  subst hAO
  have hgOb := own_low HOr.out (k := gO) rfl
  have hgOl := own_block_lt HOr.out (k := gO) rfl
  have hgw4 := hgw3.trans hg4
  replace y0 := hg4.has y0
  replace y1 := hg4.has y1
  replace x0 := hg4.has x0
  replace x1 := hg4.has x1
  have HTo4 := Lib.hid (own_gr HTo3.out hg4)
  have HFo4 := Lib.hid (own_gr HFo3.out hg4)
  have hT6l := lt_of_cell x0
  have hbl := lt_of_cell y0
  clear hSq hS1 hlo hOr hg4 HT3 HTo3 HFo3
  go_wp2_with (first
    | (at_make; refine wpList_make_full _ rfl _ _ _ rfl w4.heap.size 2 i0 _ 1 Tryz.underlying26 hi0 hz0 hz1 .i64 .i64 _ _ n1 rfl rfl rfl rfl (by rw [hz2]; omega) (by unfold maxLen; omega) (by simp) ?_; intro w5 hown1 hg5; have hq5 : Gr w4 w5 := Gr.of_grown hg5; obtain ⟨m0, m1⟩ := own_int (own_cells_eq hown1 (made_ints n1)) (k := 0) (x := 0) (by rw [List.getElem?_replicate, if_pos h0]); (try simp at m0 m1); have Ho1 := Lib.hid hown1; clear hown1)
    | fail)
  obtain ⟨F, hFe⟩ : ∃ F, F = w4.heap.size := ⟨_, rfl⟩
  have o1 : w5.ownsRow w4.heap.size 2 1 (.slice (some ⟨F, 0, none⟩) n1 n1) n1 (ints (List.replicate n1 0)) := by
    rw [hFe]
    have := own_cells_eq Ho1.out (made_ints n1)
    simpa using this
  rw [← hFe]
  obtain ⟨o2, hgS2⟩ := own_set_int o1 0 lev
  have hF5 := own_block_lt o1 (k := F) rfl
  generalize hw6 : w5.setCell _ _ = w6
  rw [hw6] at o2
  have hg45 : Gr w4 w5 := hq5
  have hg46 : Gr w4 w6 := by rw [← hw6]; exact hg45.setCell (by simp only; omega) _
  have hgw6 := hgw4.trans hg46
  have O6 : Hid (w6.ownsRow w.heap.size 2 1 (.slice (some ⟨F, 0, none⟩) n1 n1) n1 (ints (lvTo n fl lev 0))) := Lib.hid (own_eq' (own_base o2 hgw4.size) (by rw [← Hnl.out]; rfl))
  replace y0 := hg46.has y0
  replace y1 := hg46.has y1
  replace x0 := hg46.has x0
  replace x1 := hg46.has x1
  have HEn6 := Lib.hid (own_gr HEn.out hg46)
  have HOr6 := Lib.hid (own_gr HOr.out hg46)
  have HTo6 := Lib.hid (own_gr HTo4.out hg46)
  have HFo6 := Lib.hid (own_gr HFo4.out hg46)
  have hT6F : ¬ T6 = F := by omega
  have hgEF : ¬ gE = F := by omega
  have hgOF : ¬ gO = F := by omega
  have hbF : ¬ w.heap.size = F := by omega
  have hFw : w.heap.size ≤ F := by omega
  have HTn : Hid (∀ W, Gr w W → Chg (fun j => j = F) w6 W → NetAt W A1 n1 c1 B m d (treeN n n1)) := Lib.hid (fun W hg hc => by
    have hp := own_chg HTo6.out hc (fun j hj e => by
      have h1 := own_block_lt HTo4.out hj
      omega)
    have h0 := HA.out.gr hg
    exact ⟨⟨h0.nodes, Sl.of_own hp, h0.names⟩, h0.c1, (own_cap hp).1, h0.m1, hT40⟩)
  have HTl4 : Hid (∀ j, (Value.slice B m d).ownBlock = some j → j ≠ F) := Lib.hid (fun j hj e => by have := own_block_lt HTo4.out hj; omega)
  have HFl4 : Hid (∀ j, (Value.slice FA m fc).ownBlock = some j → j ≠ F) := Lib.hid (fun j hj e => by have := own_block_lt HFo4.out hj; omega)
  clear hw6 hFe o1 o2 hgS2 Ho1 m0 m1 hq5 hg5 hg45 HEn HOr HTo4 HFo4
  go_wp2_with fail
  go_loopw [14] (fun i wr => ∃ k : Nat, k < n1 ∧ i = .int .i64 ((k + 1 : Nat) : Int) ∧ wr.ownsRow w.heap.size 2 1 (.slice (some ⟨F, 0, none⟩) n1 n1) n1 (ints (lvTo n fl lev k)) ∧ Gr w wr ∧ Chg (fun j => j = F) w6 wr) (fun i _ => n1 - (intOf i).toNat)
  case atStart => exact ⟨0, h0, rfl, O6.out, hgw6, Chg.refl _ _⟩
  case round =>
    obtain ⟨k, hk, rfl, hO, hgr, hcc⟩ := hrel
    have HO := Lib.hid hO
    clear hO O6
    by_cases hlt : k + 1 < n1
    · obtain ⟨v, hv⟩ : ∃ v, (ordZ (eds n.pipes) n1 0)[k + 1]? = some v := ⟨_, List.getElem?_eq_getElem (by have := Hol.out; omega)⟩
      obtain ⟨q, up, t, x, S⟩ := lv_step (fl := fl) Hnl.out Hok.out Hc.out hv
      have hql : q < n2 := by have := S.ql; have := Hl2.out; omega
      have htm : t < m := by have := (List.getElem?_eq_some_iff.1 S.pt).1; have := Htl.out; omega
      obtain ⟨bt, hBe, _⟩ := own_form HTo6.out (by omega)
      obtain ⟨bf, hFe, _⟩ := own_form HFo6.out (by omega)
      subst hBe
      subst hFe
      have hbtF : ¬ bt = F := HTl4.out bt rfl
      have hbfF : ¬ bf = F := HFl4.out bf rfl
      obtain ⟨ps, _⟩ := own_pp HTo6.out S.pt
      obtain ⟨po, _⟩ := own_int HOr6.out (k := k + 1) (x := (v : Int)) (by rw [List.getElem?_map, hv]; rfl)
      obtain ⟨pe, _⟩ := own_int HEn6.out S.et
      obtain ⟨pf, _⟩ := own_int HFo6.out (k := t) (x := (q : Int)) (by rw [List.getElem?_map, S.ft]; rfl)
      replace ps := chg_cell' hcc ps hbtF
      replace po := chg_cell' hcc po hgOF
      replace pe := chg_cell' hcc pe hgEF
      replace pf := chg_cell' hcc pf hbfF
      have x0 := chg_cell' hcc x0 hT6F
      have x1 := chg_cell' hcc x1 hT6F
      have u0 := chg_cell' hcc y0 hbF
      have u1 := chg_cell' hcc y1 hbF
      obtain ⟨z, hz⟩ : ∃ z, fl[q]? = some z := ⟨_, List.getElem?_eq_getElem (by have := Hlf.out; omega)⟩
      have hze : fl.getD q 0 = z := by rw [List.getD_eq_getElem?_getD, hz]; rfl
      have hzb := flOk_get Hf.out q
      rw [hze] at hzb
      obtain ⟨bz, oz, hAA, hbz, kx⟩ := (HF.out.gr hgr).sl.int hz
      subst hAA
      have hpe : n.pipes.getD q dP = x := by rw [List.getD_eq_getElem?_getD, S.px]; rfl
      have Hdr := Lib.hid (fun W (hW : Gr w W) => l07Drop_any n q z W (HA.out.gr hW) Hok.out hql hzb)
      have hdb := lvX_bnd Hok.out Hf.out S.ql
      rw [hze] at hdb
      rw [hpe] at hdb
      have Hpe := Lib.hid hpe
      obtain ⟨D, hD⟩ : ∃ D, D = drp x z := ⟨_, rfl⟩
      rw [← hD] at hdb
      have hst := S.st lev
      rw [hze, ← hD] at hst
      obtain ⟨a, ha⟩ : ∃ a, a = (lvTo n fl lev k).getD up 0 := ⟨_, rfl⟩
      have hab := lv_bnd (lev := lev) (B := 1000000000000000) Hok.out Hcn.out Hf.out hB k up
      rw [← ha] at hst hab
      have hlen := lv_len n fl lev k
      rw [Hnl.out] at hlen
      obtain ⟨pa, _⟩ := own_int HO.out (k := up) (x := a) (by rw [ha]; exact get_int (by rw [hlen]; exact S.ul))
      obtain ⟨zv, hzv⟩ : ∃ zv, (lvTo n fl lev k)[v]? = some zv := ⟨_, List.getElem?_eq_getElem (by rw [hlen]; exact S.vl)⟩
      obtain ⟨pv, fv⟩ := own_int HO.out hzv
      have hwa : IntKind.i64.wrap (a + D) = a + D := IntWalk.i64_in _ (by omega)
      have hws : IntKind.i64.wrap (a - D) = a - D := IntWalk.i64_in _ (by omega)
      have hsub : a - D = a + -D := by omega
      have HD := Lib.hid hD
      have Hst := Lib.hid hst
      have Hot := Lib.hid S.ot
      have Htc := Lib.hid S.tc
      have Hpt := Lib.hid S.pt
      have hvl := S.vl
      have hul := S.ul
      have Hsub := Lib.hid hsub
      have s1 : ((k + 1 : Nat) : Int) < (n1 : Int) := by omega
      have s1' : (k : Int) + 1 < (n1 : Int) := by omega
      have s0 : (0 : Int) ≤ (k : Int) + 1 := by omega
      have s2 : (v : Int) < (n1 : Int) := by omega
      have s3 : (0 : Int) ≤ (v : Int) := by omega
      have s4 : (t : Int) < (m : Int) := by omega
      have s5 : (0 : Int) ≤ (t : Int) := by omega
      have s6 : (q : Int) < (n2 : Int) := by omega
      have s7 : (0 : Int) ≤ (q : Int) := by omega
      have s8 : (up : Int) < (n1 : Int) := by omega
      have s9 : (0 : Int) ≤ (up : Int) := by omega
      clear hv S hz hze hpe hD hst ha hab hlen hzv hsub hdb hzb
      rename World => wr
      go_upto_region 10 with fail
      refine wp_region_text (fun w' => Gr wr w') (by kernel_rfl) (by kernel_rfl) (by decide) (Gr.refl _).drew ?_
      repeat (first
        | ((with_reducible refine wpText_skip ?_ ?_)
           · rfl
           simp only [Act.put, List.setIfInBounds_toArray, List.set_cons_zero, List.set_cons_succ])
        | ((with_reducible refine wpText_yield (v := ?_) ?_ ?_ ?_)
           rotate_left
           · rfl
           · (intro W hW; have ku0 := hW.has u0; have ku1 := hW.has u1; have kpf := hW.has pf; have kkx := hW.has kx; first | (go_simp; done) | (go_simp; with_reducible rfl))
           simp only [Act.put, List.setIfInBounds_toArray, List.set_cons_zero, List.set_cons_succ])
        | ((with_reducible refine wpText_yield1 (v := ?_) ?_ ?_ ?_)
           rotate_left
           · rfl
           · (intro W hW; have ku0 := hW.has u0; have ku1 := hW.has u1; have kpf := hW.has pf; have kkx := hW.has kx; first | (go_simp; done) | (go_simp; with_reducible rfl))
           simp only [Act.put, List.setIfInBounds_toArray, List.set_cons_zero, List.set_cons_succ]))
      refine wpText_do (.int .i64 D) (by rfl) (fun W hW K hK => ?_) ?_
      ·
        have ku0 := hW.has u0
        have ku1 := hW.has u1
        have kpf := hW.has pf
        have kkx := hW.has kx
        go_simp
        refine (Hdr.out _ (hgr.trans hW)).mono ?_
        rintro e w' ⟨rfl, hg⟩
        rw [Hpe.out, ← HD.out]
        exact hK _ (hW.trans hg)
      simp only [Act.put, List.setIfInBounds_toArray, List.set_cons_zero, List.set_cons_succ]
      repeat (first
        | ((with_reducible refine wpText_skip ?_ ?_)
           · rfl
           simp only [Act.put, List.setIfInBounds_toArray, List.set_cons_zero, List.set_cons_succ])
        | ((with_reducible refine wpText_yield (v := ?_) ?_ ?_ ?_)
           rotate_left
           · rfl
           · (intro W hW; have ku0 := hW.has u0; have ku1 := hW.has u1; have kpf := hW.has pf; have kkx := hW.has kx; first | (go_simp; done) | (go_simp; with_reducible rfl))
           simp only [Act.put, List.setIfInBounds_toArray, List.set_cons_zero, List.set_cons_succ])
        | ((with_reducible refine wpText_yield1 (v := ?_) ?_ ?_ ?_)
           rotate_left
           · rfl
           · (intro W hW; have ku0 := hW.has u0; have ku1 := hW.has u1; have kpf := hW.has pf; have kkx := hW.has kx; first | (go_simp; done) | (go_simp; with_reducible rfl))
           simp only [Act.put, List.setIfInBounds_toArray, List.set_cons_zero, List.set_cons_succ]))
      rintro W5 hS5
      have hgr5 := hgr.trans hS5
      have hcc5 := hcc.trans (hS5.chg _)
      replace HO := Lib.hid (own_gr HO.out hS5)
      replace x0 := hS5.has x0
      replace x1 := hS5.has x1
      replace ps := hS5.has ps
      replace pa := hS5.has pa
      replace pv := hS5.has pv
      clear u0 u1 pf kx hS5
      go_wp2_with fail
      refine (l02Other_any (treeN n n1) t v x _ (HTn.out _ hgr5 hcc5) (tree_ok Hok.out) Hpt.out Htc.out).mono ?_
      rintro e W6 ⟨rfl, h6⟩
      rw [Hot.out]
      have h56 := h6
      have hgr6 := hgr5.trans h6
      have hcc6 := hcc5.trans (h6.chg _)
      replace HO := Lib.hid (own_gr HO.out h56)
      replace x0 := h56.has x0
      replace x1 := h56.has x1
      replace ps := h56.has ps
      replace pa := h56.has pa
      replace pv := h56.has pv
      replace fv := HO.out.frozenAt v
      have hFl := own_block_lt HO.out (k := F) rfl
      clear h6 h56
      by_cases hsv : x.src = (v : Int)
      · have tb : (x.src == (v : Int)) = true := by simp [hsv]
        have Hput := Lib.hid (own_eq' (own_set_int HO.out v (a + D)).1 (congrArg ints (show (lvTo n fl lev k).set v (a + D) = lvTo n fl lev (k + 1) by rw [Hst.out, if_pos hsv])))
        clear hsv
        go_wp2_with fail
        go_roundw
        case rel => exact ⟨k + 1, hlt, by go_num, Hput.out, hgr6.setCell (by simp only; omega) _, hcc6.trans (chg_put _ _)⟩
        case measure => simp [intOf]; omega
      · have tb : (x.src == (v : Int)) = false := by simp [hsv]
        have Hput := Lib.hid (own_eq' (own_set_int HO.out v (a - D)).1 (congrArg ints (show (lvTo n fl lev k).set v (a - D) = lvTo n fl lev (k + 1) by rw [Hst.out, if_neg hsv, Hsub.out])))
        clear hsv
        go_wp2_with fail
        go_roundw
        case rel => exact ⟨k + 1, hlt, by go_num, Hput.out, hgr6.setCell (by simp only; omega) _, hcc6.trans (chg_put _ _)⟩
        case measure => simp [intOf]; omega
    · obtain rfl : n1 = k + 1 := by omega
      go_wp2_with fail
      go_ret
      exact ⟨F, rfl, own_eq' HO.out (by rw [lvL, Hnl.out]; rfl), hgr⟩
end Go.Proofs.YthhmhigddmimjaaGreat
