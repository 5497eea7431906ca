import Derived.Test.YthhmhigddmimjaaGreatFlowC
import Derived.Test.YthhmhigddmimjaaGreatFlowMs
/-
  The plain search of the reference.
-/
namespace Go.Proofs.YthhmhigddmimjaaGreat
open Go.ChangeShapes Go.WideShapes Go.ChangeAt Go.RowKit

/-- Three rows of a plain search. -/
structure SqAt (w : World) (B g h n1 : Nat) (O : Value) (node : Nat) (s : St) : Prop where
  ge : B ≤ g
  gh : g < h
  ent : w.ownsRow B 2 1 (.slice (some ⟨g, 0, none⟩) n1 n1) n1 (ints (entL n1 node s))
  seen : w.ownsRow B 4 1 (.slice (some ⟨h, 0, none⟩) n1 n1) n1 (bools s.seen)
  ord : w.ownsRow (h + 1) 2 1 O s.ord.length (nats s.ord)
theorem SqAt.gr {w w' : World} {B g h n1 : Nat} {O : Value} {node : Nat} {s : St} (q : SqAt w B g h n1 O node s) (hg : Gr w w') : SqAt w' B g h n1 O node s := ⟨q.ge, q.gh, own_gr q.ent hg, own_gr q.seen hg, own_gr q.ord hg⟩
theorem SqAt.lt {w : World} {B g h n1 : Nat} {O : Value} {node : Nat} {s : St} (q : SqAt w B g h n1 O node s) : h < w.heap.size := own_block_lt q.seen rfl
/-- A node is entered: two stores and an append. -/
theorem SqAt.enter {w w3 : World} {B g h n1 m cap g3 : Nat} {O : Value} {node : Nat} {s : St} {o p : Nat} (q : SqAt w B g h n1 O node s) (hel : s.ent.length = n1) (hon : o ≠ node)
    (h3 : w3.ownsRow (h + 1) 2 1 (.slice (some ⟨g3, 0, none⟩) m cap) m (nats s.ord ++ [.int .i64 o])) (hm : m = s.ord.length + 1) {ob : Obj}
    (hg : (((w.setCell ⟨h, o, none⟩ (.bool true)).setCell ⟨g, o, none⟩ (.int .i64 p)).alloc ob).grownBy w3 O.ownBlock) :
    SqAt w3 B g h n1 (.slice (some ⟨g3, 0, none⟩) m cap) node ⟨s.ent.set o p, s.seen.set o true, s.ord ++ [o]⟩ := by
  have hgh := q.gh
  obtain ⟨a1, a2⟩ := own_set_bool q.seen o true
  have e1 := q.ent.kept a2 (Or.inr (by simp [Value.ownBlock]; omega))
  obtain ⟨b1, b2⟩ := own_set_int e1 o (p : Int)
  rw [← entL_enter hel hon] at b1
  have s1 := a1.kept b2 (Or.inr (by simp [Value.ownBlock]; omega))
  have hne : ∀ j, O.ownBlock = some j → h + 1 ≤ j := fun j hj => own_base_le q.ord hj
  refine ⟨q.ge, q.gh, ?_, ?_, ?_⟩
  · refine (b1.alloc ob).kept hg (Or.inr ?_)
    intro e
    have := hne g (by rw [← e]; rfl)
    omega
  · refine (s1.alloc ob).kept hg (Or.inr ?_)
    intro e
    have := hne h (by rw [← e]; rfl)
    omega
  · simp only [List.length_append, List.length_singleton]
    rw [← hm, nats_snoc]
    exact h3

set_option maxHeartbeats 3200000 in
set_option maxRecDepth 100000 in
theorem l04Search_any {A1 A2 : Option Addr} {n1 c1 n2 c2 : Nat} (n : GNet) (node : Nat) (w : World) (hA : NetAt w A1 n1 c1 A2 n2 c2 n) (hok : netOk n = true) (hn : node < n1) :
    Calls Tryz.prog 133 #[.agg #[.slice A1 n1 c1, .slice A2 n2 c2], .int .i64 node] w fun e w' => ∃ O g h, e = .returned (.tuple #[.slice (some ⟨g, 0, none⟩) n1 n1, O]) ∧ (∃ A c, O = .slice A (srch (eds n.pipes) (zf (eds n.pipes)) n1 node).ord.length c) ∧ SqAt w' w.heap.size g h n1 O node (srch (eds n.pipes) (zf (eds n.pipes)) n1 node) ∧ Gr w w' := by
  obtain ⟨i0, hi0, hz0, hz1, hz2⟩ := info_parts infoInt64
  obtain ⟨i1, hi1, hy0, hy1, hy2⟩ := info_parts infoBool
  have hm1 := hA.m1
  have hm2 := hA.m2
  have hE : EsOk (eds n.pipes) n1 := by have := eds_ok hok; rw [hA.l1] at this; exact this
  have HE := Lib.hid hE
  have HA := Lib.hid hA
  have Hok := Lib.hid hok
  have t0 : (0 : Int) ≤ (node : Int) := by omega
  have t1 : (node : Int) < (n1 : Int) := by omega
  obtain ⟨fl, hfl⟩ : ∃ fl, fl = zf (eds n.pipes) := ⟨_, rfl⟩
  have Hfl := Lib.hid hfl
  rw [← hfl]
  clear hA hok hE hfl
  go_enter Tryz.func133, Tryz.ntmps133
  go_wp2_with (first
    | (at_make; refine wpList_make_full _ rfl _ _ _ rfl w.heap.size 2 i0 _ 1 Tryz.underlying26 hi0 hz0 hz1 .i64 .i64 _ _ n1 rfl rfl rfl rfl (by rw [hz2]; omega) (by unfold maxLen; omega) (by simp) ?_; intro w1 hown1 hg1; have hq1 : Gr (w.alloc (.cells #[.slice A1 n1 c1, .slice A2 n2 c2] 32)) w1 := (Gr.refl _).grown hg1 (fun _ e => by cases e); have b0 : w1.cell? ⟨w.heap.size, 0, none⟩ = some (.slice A1 n1 c1) := hq1.has (by simp [go_sem]); have b1 : w1.cell? ⟨w.heap.size, 1, none⟩ = some (.slice A2 n2 c2) := hq1.has (by simp [go_sem]); have Ho1 := Lib.hid hown1; have z1 := hq1.size; clear hown1)
    | (at_make; refine wpList_make_full _ rfl _ _ _ rfl w.heap.size 4 i1 _ 1 Tryz.underlying149 hi1 hy0 hy1 .i64 .i64 _ _ n1 rfl rfl rfl rfl (by rw [hy2]; omega) (by unfold maxLen; omega) (by simp at z1; omega) ?_; intro w2 hown2 hg2; have hq2 : Gr w1 w2 := (Gr.refl _).grown hg2 (fun _ e => by cases e); have hown2' : w2.ownsRow w.heap.size 4 1 (.slice (some ⟨w1.heap.size, 0, none⟩) n1 n1) n1 (bools (List.replicate n1 false)) := own_cells_eq hown2 (made_bools n1); obtain ⟨d0, d1⟩ := own_bool hown2' (k := node) (x := false) (by simp [hn]) hn; have Ho2 := Lib.hid hown2'; clear hown2 hown2'))
  have o1 : w1.ownsRow w.heap.size 2 1 (.slice (some ⟨w.heap.size + 1, 0, none⟩) n1 n1) n1 (ints (List.replicate n1 0)) := by
    have := own_cells_eq Ho1.out (made_ints n1)
    simpa using this
  have l1 : w.heap.size + 1 < w1.heap.size := own_block_lt o1 rfl
  have l2 : w1.heap.size < w2.heap.size := own_block_lt Ho2.out rfl
  have O1 := Lib.hid (own_gr o1 hq2)
  have hgw2 : Gr w w2 := (((Gr.refl _).alloc _).trans hq1).trans hq2
  have b0 := hq2.has b0
  have b1 := hq2.has b1
  clear o1 Ho1 hg1 hg2 hq1 hq2 z1 d0 d1
  go_loopw [8] (fun i wr => ∃ k : Nat, k ≤ n1 ∧ i = .int .i64 k ∧ wr.ownsRow w.heap.size 2 1 (.slice (some ⟨w.heap.size + 1, 0, none⟩) n1 n1) n1 (ints (overTo (fun _ => (-1 : Int)) (List.replicate n1 0) k)) ∧ w2.grownBy wr (some (w.heap.size + 1))) (fun i _ => n1 - (intOf i).toNat)
  case atStart => exact ⟨0, Nat.zero_le _, rfl, by rw [overTo_zero]; exact O1.out, World.grownBy.refl _ _⟩
  case round =>
    obtain ⟨k, hk, rfl, hown, hgrow⟩ := hrel
    by_cases hlt : k < n1
    · obtain ⟨d0, d1⟩ := own_int hown (k := k) (x := 0) (by rw [overTo_get]; simp [hlt])
      obtain ⟨R1, R2⟩ := own_set_int hown k (-1)
      rw [overTo_set _ _ (by simpa using hlt) rfl] at R1
      have HR1 := Lib.hid R1
      have HR2 := Lib.hid R2
      have Hgrow := Lib.hid hgrow
      have u0 : (0 : Int) ≤ (k : Int) := by omega
      have u1 : (k : Int) < (n1 : Int) := by omega
      clear hown R1 R2 hgrow
      go_wp2_with fail
      go_roundw
      case rel => exact ⟨k + 1, by omega, by go_num, HR1.out, grown_trans Hgrow.out HR2.out⟩
      case measure => simp [intOf]; omega
    · have hkn : k = n1 := by omega
      rw [hkn]
      rw [hkn] at hown
      have e1 : overTo (fun _ => (-1 : Int)) (List.replicate n1 0) n1 = entL n1 node (st0 n1 node) := by
        have := overTo_full (fun _ => (-1 : Int)) (List.replicate n1 (0 : Int))
        rw [List.length_replicate] at this
        rw [this, entL_zero]
        apply List.ext_getElem?
        intro j
        by_cases hj : j < n1
        · rw [List.getElem?_map, List.getElem?_range hj, List.getElem?_replicate, if_pos hj]; rfl
        · rw [List.getElem?_eq_none (by simp; omega), List.getElem?_eq_none (by simp; omega)]
      rw [e1] at hown
      have hSn := Ho2.out.kept hgrow (Or.inr (by simp [Value.ownBlock]; omega))
      have hgw9 : Gr w wr := hgw2.grown hgrow (fun _ e => by injection e with e; omega)
      have b0 : wr.cell? ⟨w.heap.size, 0, none⟩ = some (.slice A1 n1 c1) := (hgrow.cell_far _ (lt_of_cell b0) (by simp)).trans b0
      have b1 : wr.cell? ⟨w.heap.size, 1, none⟩ = some (.slice A2 n2 c2) := (hgrow.cell_far _ (lt_of_cell b1) (by simp)).trans b1
      have hz9 := hgrow.size
      have Hown := Lib.hid hown
      have HSn := Lib.hid hSn
      obtain ⟨d0, d1⟩ := own_bool hSn (k := node) (x := false) (by simp [hn]) hn
      rename World => w9
      clear hown hSn hgrow Ho2 O1 e1 hgw2 hk hlt hkn
      go_wp2_with fail
      generalize hw3 : World.alloc (World.setCell w9 _ _) _ = w3
      obtain ⟨s1, s2⟩ := own_set_bool HSn.out node true
      have g3 : Gr w (w9.setCell ⟨w1.heap.size, node, none⟩ (.bool true)) := hgw9.grown s2 (fun _ e => by injection e with e; omega)
      have S0 : SqAt w3 w.heap.size (w.heap.size + 1) w1.heap.size n1 (.slice (some ⟨w9.heap.size, 0, none⟩) 1 1) node (sst (eds n.pipes) fl n1 node 0) := by
        rw [← hw3]
        refine ⟨by omega, l1, ?_, s1.alloc _, ?_⟩
        · exact (Hown.out.kept s2 (Or.inr (by simp [Value.ownBlock]; omega))).alloc _
        · have q := World.ownsRow_lit (w9.setCell ⟨w1.heap.size, node, none⟩ (.bool true)) (e := 2) (size := 1) #[.int .i64 node] 1 (Nat.le_refl _) (by unfold maxLen; omega) rfl
          have hsz : (w9.setCell ⟨w1.heap.size, node, none⟩ (.bool true)).heap.size = w9.heap.size := by simp
          rw [hsz] at q
          exact own_base q (by omega)
      have hg3 : Gr w w3 := by rw [← hw3]; exact g3.alloc _
      have B0 : w3.cell? ⟨w.heap.size, 0, none⟩ = some (.slice A1 n1 c1) := by
        rw [← hw3]
        refine ((Gr.refl _).alloc _).has ?_
        rw [s2.cell_far _ (by simp; omega) (by simp; omega)]
        exact b0
      have B1 : w3.cell? ⟨w.heap.size, 1, none⟩ = some (.slice A2 n2 c2) := by
        rw [← hw3]
        refine ((Gr.refl _).alloc _).has ?_
        rw [s2.cell_far _ (by simp; omega) (by simp; omega)]
        exact b1
      have HS0 := Lib.hid S0
      clear S0 hw3 d0 d1 b0 b1 Hown HSn s1 s2 g3
      go_loopw [9, 10] (fun o i wr => ∃ k : Nat, k ≤ (sst (eds n.pipes) fl n1 node k).ord.length ∧ i = .int .i64 k ∧ (∃ A c, o = .slice A (sst (eds n.pipes) fl n1 node k).ord.length c) ∧ SqAt wr w.heap.size (w.heap.size + 1) w1.heap.size n1 o node (sst (eds n.pipes) fl n1 node k) ∧ Gr w wr ∧ wr.cell? ⟨w.heap.size, 0, none⟩ = some (.slice A1 n1 c1) ∧ wr.cell? ⟨w.heap.size, 1, none⟩ = some (.slice A2 n2 c2)) (fun _ i _ => n1 - (intOf i).toNat)
      case atStart => exact ⟨0, Nat.zero_le _, rfl, ⟨_, _, rfl⟩, HS0.out, hg3, B0, B1⟩
      case round =>
        obtain ⟨k, hk, rfl, ⟨A, c, rfl⟩, hS, hgr, hb0, hb1⟩ := hrel
        have hlen : (sst (eds n.pipes) fl n1 node k).ord.length ≤ n1 := (inv_sst HE.out hn k).len
        have HS := Lib.hid hS
        obtain ⟨L, hL⟩ : ∃ L, L = (sst (eds n.pipes) fl n1 node k).ord.length := ⟨_, rfl⟩
        rw [← hL] at hk hlen ⊢
        have HL := Lib.hid hL
        clear hS hL B0 B1 hg3
        by_cases hlt : k < L
        · obtain ⟨v, hv⟩ : ∃ v, (sst (eds n.pipes) fl n1 node k).ord[k]? = some v := ⟨_, List.getElem?_eq_getElem (by rw [← HL.out]; exact hlt)⟩
          have hso := HS.out.ord
          rw [← HL.out] at hso
          obtain ⟨go, rfl, hgo1, hgo2⟩ := own_form hso (by omega)
          have hvi : ((sst (eds n.pipes) fl n1 node k).ord.map fun (x : Nat) => (x : Int))[k]? = some (v : Int) := by simp [hv]
          obtain ⟨f0, _⟩ := own_int hso hvi
          have Hv := Lib.hid hv
          have t2 : (0 : Int) ≤ (k : Int) := by omega
          have t3 : (k : Int) < (L : Int) := by omega
          clear hso hvi hv
          have hbl := lt_of_cell hb0
          go_wp2_with fail
          go_region_held3 (fun w' => Gr wr w' ∧ w'.cell? ⟨w.heap.size, 0, none⟩ = some (.slice A1 n1 c1) ∧ w'.cell? ⟨w.heap.size, 1, none⟩ = some (.slice A2 n2 c2) ∧ w'.cell? ⟨go, k, none⟩ = some (.int .i64 v))
            (first | exact ⟨(Gr.refl _).drew, hb0, hb1, f0⟩ | exact ⟨by assumption, (by assumption : Gr wr _).has hb0, (by assumption : Gr wr _).has hb1, (by assumption : Gr wr _).has f0⟩)
            ((go_at_call 153; refine (l02At_any n v _ (HA.out.gr hgr.drew) Hok.out).mono ?_; rintro e w4 ⟨Aa, ma, ca, rfl, hma, hoa, hga⟩; have hoa' := Lib.hid hoa; have Hma := Lib.hid hma; clear hoa hma; have hxa : Gr wr w4 := (Gr.refl _).drew.trans hga))
          have hvo := (inv_sst (fl := fl) HE.out hn k)
          have hvm : v ∈ (sst (eds n.pipes) fl n1 node k).ord := List.mem_of_getElem? Hv.out
          have hvN : v < n1 := hvo.lt v hvm
          have Hvm := Lib.hid hvm
          have Hvo := Lib.hid hvo
          have hgw4 : Gr w w4 := hgr.trans (by assumption)
          have hS4 := HS.out.gr (by assumption : Gr wr w4)
          rw [← HL.out] at hS4
          have HS4 := Lib.hid hS4
          have HB0 := (by assumption : Gr wr w4).has hb0
          have HB1 := (by assumption : Gr wr w4).has hb1
          have hoaB : w4.ownsRow (w1.heap.size + 1) 2 1 (.slice Aa ma ca) ma (nats (atN (eds n.pipes) v)) := own_base hoa'.out (by have := HS.out.lt; simp; omega)
          have hapart : ∀ j, (Value.slice (some ⟨go, 0, none⟩) L c).ownBlock = some j → (Value.slice Aa ma ca).ownBlock ≠ some j := by
            intro j hj e
            have := own_base_le hoa'.out e
            have e2 : j = go := by simpa [Value.ownBlock] using hj.symm
            simp at this
            omega
          have HoaB := Lib.hid hoaB
          have Hap := Lib.hid hapart
          have hma40 : ma ≤ 1048576 := by
            have := atTo_len (eds n.pipes) v (eds n.pipes).length
            have e1 : (eds n.pipes).length = n2 := by rw [eds, List.length_map]; exact HA.out.l2
            have e2 : atN (eds n.pipes) v = atTo (eds n.pipes) v (eds n.pipes).length := rfl
            rw [← e2, e1, ← Hma.out] at this
            omega
          clear hvo hvm hS4 hoaB hapart hoa' hb0 hb1 f0 hga HS
          go_wp2_with fail
          go_loopw [9, 12] (fun o j wr => ∃ i : Nat, i ≤ ma ∧ j = .int .i64 i ∧ (∃ A c, o = .slice A (innTo (eds n.pipes) fl v (sst (eds n.pipes) fl n1 node k) i).ord.length c) ∧ SqAt wr w.heap.size (w.heap.size + 1) w1.heap.size n1 o node (innTo (eds n.pipes) fl v (sst (eds n.pipes) fl n1 node k) i) ∧ wr.ownsRow (w1.heap.size + 1) 2 1 (.slice Aa ma ca) ma (nats (atN (eds n.pipes) v)) ∧ (∀ j, o.ownBlock = some j → (Value.slice Aa ma ca).ownBlock ≠ some j) ∧ Gr w wr ∧ wr.cell? ⟨w.heap.size, 0, none⟩ = some (.slice A1 n1 c1) ∧ wr.cell? ⟨w.heap.size, 1, none⟩ = some (.slice A2 n2 c2)) (fun _ j _ => ma - (intOf j).toNat)
          case atStart =>
            have e0 : innTo (eds n.pipes) fl v (sst (eds n.pipes) fl n1 node k) 0 = sst (eds n.pipes) fl n1 node k := rfl
            exact ⟨0, Nat.zero_le _, rfl, ⟨some ⟨go, 0, none⟩, c, by rw [e0, ← HL.out]⟩, by rw [e0]; exact HS4.out, HoaB.out, Hap.out, hgw4, HB0, HB1⟩
          case round =>
            obtain ⟨i, hi, rfl, ⟨A, c', rfl⟩, hS, hat, hap, hgi, hb0, hb1⟩ := hrel
            have hI := (inv_innTo HE.out Hvo.out Hvm.out i).1
            have hIk : (innTo (eds n.pipes) fl v (sst (eds n.pipes) fl n1 node k) i).ord[k]? = some v := foldl_vis_ord _ _ Hv.out
            by_cases hil : i < ma
            · obtain ⟨p, hp⟩ : ∃ p, (atN (eds n.pipes) v)[i]? = some p := ⟨_, List.getElem?_eq_getElem (by rw [← Hma.out]; exact hil)⟩
              obtain ⟨hpl, htv⟩ := mem_atN.1 (List.mem_of_getElem? hp)
              obtain ⟨x, hx⟩ : ∃ x, n.pipes[p]? = some x := ⟨_, List.getElem?_eq_getElem (by simpa [eds] using hpl)⟩
              have hed := eds_at hx
              rw [hed] at htv
              have hstep := innTo_step (fl := fl) (s := sst (eds n.pipes) fl n1 node k) hp
              obtain ⟨s, hs⟩ : ∃ s, s = innTo (eds n.pipes) fl v (sst (eds n.pipes) fl n1 node k) i := ⟨_, rfl⟩
              rw [← hs] at hS hI hIk hstep ⊢
              obtain ⟨ga, rfl, hga1, hga2⟩ := own_form hat (by omega)
              have hpi : ((atN (eds n.pipes) v).map fun (x : Nat) => (x : Int))[i]? = some (p : Int) := by simp [hp]
              obtain ⟨y0, _⟩ := own_int hat hpi
              obtain ⟨go', rfl, hgo1', hgo2'⟩ := own_form hS.ord (by have := (List.getElem?_eq_some_iff.1 hIk).1; omega)
              have hki : (s.ord.map fun (x : Nat) => (x : Int))[k]? = some (v : Int) := by simp [hIk]
              obtain ⟨y1, _⟩ := own_int hS.ord hki
              have hsl := (List.getElem?_eq_some_iff.1 hIk).1
              have HSs := Lib.hid hS
              have HI := Lib.hid hI
              have Hstep := Lib.hid hstep
              have Hat := Lib.hid hat
              have Hap2 := Lib.hid hap
              have Hx := Lib.hid hx
              have Htv := Lib.hid htv
              have u0 : (0 : Int) ≤ (i : Int) := by omega
              have u1 : (i : Int) < (ma : Int) := by omega
              have u2 : (k : Int) < (s.ord.length : Int) := by omega
              have hslN : s.ord.length ≤ n1 := hI.len
              clear hS hI hstep hat hap hx htv hp hpi hki hs hIk
              have hd1 : decide ((i : Int) < (ma : Int)) = true := decide_eq_true u1
              go_wp2_with fail
              go_region_held3 (fun w' => Gr wr w' ∧ w'.cell? ⟨w.heap.size, 0, none⟩ = some (.slice A1 n1 c1) ∧ w'.cell? ⟨w.heap.size, 1, none⟩ = some (.slice A2 n2 c2) ∧ w'.cell? ⟨ga, i, none⟩ = some (.int .i64 p) ∧ w'.cell? ⟨go', k, none⟩ = some (.int .i64 v))
                (first | exact ⟨(Gr.refl _).drew, hb0, hb1, y0, y1⟩ | exact ⟨by assumption, (by assumption : Gr wr _).has hb0, (by assumption : Gr wr _).has hb1, (by assumption : Gr wr _).has y0, (by assumption : Gr wr _).has y1⟩)
                ((go_at_call 135; refine (l02Other_any n p v x _ (HA.out.gr hgi.drew) Hok.out Hx.out Htv.out).mono ?_; rintro e w5 ⟨rfl, hg5⟩; have hx5 : Gr wr w5 := (Gr.refl _).drew.trans hg5))
              have hoN : oth (edOf x) v < n1 := by
                obtain ⟨a1, a2, _⟩ := HE.out.at_ p (edOf x) (by rw [eds, List.getElem?_map, Hx.out]; rfl)
                unfold oth
                split <;> omega
              have hw5 : Gr wr w5 := by assumption
              have hS5 := HSs.out.gr hw5
              have hb := get_of_ltB (l := s.seen) (k := oth (edOf x) v) (by rw [HI.out.sl]; exact hoN)
              obtain ⟨b, hbe⟩ : ∃ b, b = s.seen.getD (oth (edOf x) v) true := ⟨_, rfl⟩
              rw [← hbe] at hb
              obtain ⟨z0, z1⟩ := own_bool hS5.seen hb hoN
              have Hbe := Lib.hid hbe
              have hc0 := hw5.has hb0
              have hc1 := hw5.has hb1
              have y0 := hw5.has y0
              have y1 := hw5.has y1
              clear hb hbe hb0 hb1
              obtain ⟨o, ho⟩ : ∃ o, o = oth (edOf x) v := ⟨_, rfl⟩
              rw [← ho] at hoN z0 z1 Hbe ⊢
              have Hoo := Lib.hid ho
              clear ho
              have v0 : (0 : Int) ≤ (o : Int) := by omega
              have v1 : (o : Int) < (n1 : Int) := by omega
              cases b with
              | true =>
                have hv6 : vis (eds n.pipes) fl v s p = s := by rw [vis, if_neg (by rw [goes, eds_at Hx.out, ← Hoo.out, ← Hbe.out]; simp)]
                have Hv6 := Lib.hid hv6
                clear hv6
                go_wp2_with fail
                go_roundw
                case rel => exact ⟨i + 1, by omega, by go_num, ⟨_, _, by rw [Hstep.out, Hv6.out]⟩, by rw [Hstep.out, Hv6.out]; exact HSs.out.gr hw5, own_gr Hat.out hw5, Hap2.out, hgi.trans hw5, hc0, hc1⟩
                case measure => simp [intOf]; omega
              | false =>
                have hg6 : Gr wr w5 := hw5
                have HS6 := Lib.hid (HSs.out.gr hg6)
                have hgoes : goes (eds n.pipes) fl v s p = true := by rw [Hfl.out, goes_zero HE.out (e := edOf x) (by rw [eds, List.getElem?_map, Hx.out]; rfl), ← Hoo.out, ← Hbe.out]; rfl
                have hvis : vis (eds n.pipes) fl v s p = ⟨s.ent.set o p, s.seen.set o true, s.ord ++ [o]⟩ := by rw [vis, if_pos hgoes, eds_at Hx.out, ← Hoo.out]
                have Hvis := Lib.hid hvis
                clear hgoes hvis
                have q1 := hc0
                have q2 := hc1
                have q3 := y0
                have q4 := y1
                have qf := (own_bool HS6.out.seen (k := o) (x := false) (by rw [Hbe.out]; exact get_of_ltB (by rw [HI.out.sl]; exact hoN)) hoN).2
                have hen : (entL n1 node s)[o]? = some ((entL n1 node s).getD o 0) := get_int (by rw [entL_len]; exact hoN)
                have hon : o ≠ node := by
                  intro e
                  have h1 := (HI.out.sn node hn).2 (List.mem_of_getElem? HI.out.hd)
                  rw [← e, ← Hbe.out] at h1
                  cases h1
                obtain ⟨e0, ef⟩ := own_int HS6.out.ent hen
                have hne1 : ga ≠ w1.heap.size := by omega
                have hne2 : w.heap.size + 1 ≠ w1.heap.size := by omega
                have hO : ((w5.setCell ⟨w1.heap.size, o, none⟩ (.bool true)).setCell ⟨w.heap.size + 1, o, none⟩ (.int .i64 p)).ownsRow (w1.heap.size + 1) 2 1 (.slice (some ⟨go', 0, none⟩) s.ord.length c') s.ord.length (nats s.ord) :=
                  ownsRow_setCell_below (ownsRow_setCell_below HS6.out.ord (by simp) _) (by simp; omega) _
                have HO := Lib.hid hO
                have hsz6 := HS6.out.lt
                clear hen hO
                have hOA : ((w5.setCell ⟨w1.heap.size, o, none⟩ (.bool true)).setCell ⟨w.heap.size + 1, o, none⟩ (.int .i64 p)).ownsRow (w1.heap.size + 1) 2 1 (.slice (some ⟨ga, 0, none⟩) ma ca) ma (nats (atN (eds n.pipes) v)) :=
                  ownsRow_setCell_below (ownsRow_setCell_below (own_gr Hat.out hg6) (by simp) _) (by simp; omega) _
                have HOA := Lib.hid hOA
                have hgal : ga < w5.heap.size := lt_of_cell q3
                have hgl : go' < w5.heap.size := lt_of_cell q4
                have hgago : ga ≠ go' := fun e => Hap2.out go' rfl (by rw [e]; rfl)
                clear hOA
                go_wp2_with (at_builtin; refine wpList_append_lies _ rfl _ _ _ rfl (w1.heap.size + 1) 2 i0 _ 1 8 Tryz.underlying26 hi0 hz0 hz1 hz2 rfl (by omega) (.slice (some ⟨go', 0, none⟩) s.ord.length c') s.ord.length _ rfl (HO.out.alloc _) ⟨w5.heap.size, 0, none⟩ 1 1 [.int .i64 o] rfl rfl (World.news_of_block (cs := #[.int .i64 o]) (t := 2) (fr := (0, 0)) (by simpa using heap_alloc_new ((w5.setCell ⟨w1.heap.size, o, none⟩ (.bool true)).setCell ⟨w.heap.size + 1, o, none⟩ (.int .i64 p)) (.cells #[.int .i64 o] 2))) (by simp [Value.oneCell']) (by omega) (by unfold maxLen; omega) (by omega) (by simp; omega) (w5.heap.size + 1) (by simp) ?_; intro g3 cap w7 hown7 hgrow7 hat7 hlt7)
                have hS7 := HS6.out.enter HI.out.el hon hown7 rfl hgrow7
                rw [← Hvis.out, ← Hstep.out] at hS7
                have hA7 := (HOA.out.alloc _).kept hgrow7 (Or.inr (by simp [Value.ownBlock]; omega))
                have hap7 : ga ≠ g3 := by
                  rcases hat7 with h | h
                  · simp [Value.ownBlock] at h; omega
                  · omega
                have hgw7 : Gr w w7 := (((((hgi.trans hg6).setCell (by simp; omega) _).setCell (by simp) _).alloc _).grown hgrow7 (fun _ e => by simp [Value.ownBlock] at e; omega))
                have hd0 : w7.cell? ⟨w.heap.size, 0, none⟩ = some (.slice A1 n1 c1) := by
                  rw [hgrow7.cell_far _ (by simp; omega) (by simp [Value.ownBlock]; omega)]
                  refine ((Gr.refl _).alloc _).has ?_
                  exact set_other (set_other q1 (by simp; omega) _) (by simp) _
                have hd1 : w7.cell? ⟨w.heap.size, 1, none⟩ = some (.slice A2 n2 c2) := by
                  rw [hgrow7.cell_far _ (by simp; omega) (by simp [Value.ownBlock]; omega)]
                  refine ((Gr.refl _).alloc _).has ?_
                  exact set_other (set_other q2 (by simp; omega) _) (by simp) _
                have HS7 := Lib.hid hS7
                have HA7 := Lib.hid hA7
                have hlen7 : s.ord.length + 1 = (innTo (eds n.pipes) fl v (sst (eds n.pipes) fl n1 node k) (i + 1)).ord.length := by rw [Hstep.out, Hvis.out]; simp
                clear hS7 hA7 hown7 hgrow7 hat7
                go_wp2_with fail
                go_roundw
                case rel => exact ⟨i + 1, by omega, by go_num, ⟨_, _, by rw [← hlen7]⟩, HS7.out, HA7.out, fun j hj e => by simp [Value.ownBlock] at hj e; omega, hgw7, hd0, hd1⟩
                case measure => simp [intOf]; omega
            · obtain rfl : i = ma := by omega
              have e1 : innTo (eds n.pipes) fl v (sst (eds n.pipes) fl n1 node k) i = sst (eds n.pipes) fl n1 node (k + 1) := by
                rw [sst_step Hv.out, ← innTo_full, ← Hma.out]
              rw [e1] at hS hIk ⊢
              have hkl := (List.getElem?_eq_some_iff.1 hIk).1
              have HSs := Lib.hid hS
              clear hS hI hIk hat hap e1
              have hd1 : decide ((i : Int) < (i : Int)) = false := decide_eq_false (by omega)
              go_wp2_with fail
              go_roundw
              case rel => exact ⟨k + 1, by omega, by go_num, ⟨_, _, rfl⟩, HSs.out, hgi, hb0, hb1⟩
              case measure => simp [intOf]; omega
        · obtain rfl : k = L := by omega
          have hend : sst (eds n.pipes) fl n1 node k = srch (eds n.pipes) fl n1 node := srch_eq HE.out hn HL.out.symm
          have Hend := Lib.hid hend
          clear hend
          go_wp2_with fail
          go_ret2
          refine ⟨.slice A k c, w.heap.size + 1, w1.heap.size, by simp, ⟨A, c, by rw [← Hend.out, ← HL.out]⟩, ?_, hgr⟩
          have q := HS.out
          rw [← HL.out] at q
          rw [← Hend.out]
          exact q
end Go.Proofs.YthhmhigddmimjaaGreat
/-
  The components of the reference.
-/
namespace Go.Proofs.YthhmhigddmimjaaGreat
open Go.ChangeShapes Go.WideShapes Go.ChangeAt Go.RowKit

theorem over_neg (N : Nat) : overTo (fun _ => (-1 : Int)) (List.replicate N 0) N = List.replicate N (-1) := by
  have := overTo_full (fun _ => (-1 : Int)) (List.replicate N (0 : Int))
  rw [List.length_replicate] at this
  rw [this]
  apply List.ext_getElem?
  intro j
  by_cases hj : j < N
  · rw [List.getElem?_map, List.getElem?_range hj, List.getElem?_replicate, if_pos hj]; rfl
  · rw [List.getElem?_eq_none (by simp; omega), List.getElem?_eq_none (by simp; omega)]
set_option maxHeartbeats 3200000 in
set_option maxRecDepth 100000 in
theorem l04Components_any {A1 A2 : Option Addr} {n1 c1 n2 c2 : Nat} (n : GNet) (w : World) (hA : NetAt w A1 n1 c1 A2 n2 c2 n) (hok : netOk n = true) :
    Calls Tryz.prog 129 #[.agg #[.slice A1 n1 c1, .slice A2 n2 c2]] w fun e w' => ∃ G, e = .returned (.slice (some ⟨G, 0, none⟩) n1 n1) ∧ w'.ownsRow w.heap.size 2 1 (.slice (some ⟨G, 0, none⟩) n1 n1) n1 (ints (comps (eds n.pipes) n1)) ∧ Gr w w' := by
  obtain ⟨i0, hi0, hz0, hz1, hz2⟩ := info_parts infoInt64
  have hm1 := hA.m1
  have hm2 := hA.m2
  have hE : EsOk (eds n.pipes) n1 := by have := eds_ok hok; rw [hA.l1] at this; exact this
  have HE := Lib.hid hE
  have HA := Lib.hid hA
  have Hok := Lib.hid hok
  clear hA hok hE
  go_enter Tryz.func129, Tryz.ntmps129
  go_wp2_with (at_make; refine wpList_make_full _ rfl _ _ _ rfl w.heap.size 2 i0 _ 1 Tryz.underlying26 hi0 hz0 hz1 .i64 .i64 _ _ n1 rfl rfl rfl rfl (by rw [hz2]; omega) (by unfold maxLen; omega) (by simp) ?_; intro w1 hown1 hg1; have hq1 : Gr (w.alloc (.cells #[.slice A1 n1 c1, .slice A2 n2 c2] 32)) w1 := Gr.of_grown hg1; have b0 : w1.cell? ⟨w.heap.size, 0, none⟩ = some (.slice A1 n1 c1) := hq1.has (by simp [go_sem]); have b1 : w1.cell? ⟨w.heap.size, 1, none⟩ = some (.slice A2 n2 c2) := hq1.has (by simp [go_sem]); have Ho1 := Lib.hid hown1; clear hown1)
  have o1 : w1.ownsRow w.heap.size 2 1 (.slice (some ⟨w.heap.size + 1, 0, none⟩) n1 n1) n1 (ints (List.replicate n1 0)) := by
    have := own_cells_eq Ho1.out (made_ints n1)
    simpa using this
  have hgw1 : Gr w w1 := ((Gr.refl _).alloc _).trans hq1
  try rw [show (w.alloc (.cells #[.slice A1 n1 c1, .slice A2 n2 c2] 32)).heap.size = w.heap.size + 1 by simp]
  obtain ⟨G, hG⟩ : ∃ G, G = w.heap.size + 1 := ⟨_, rfl⟩
  rw [← hG] at o1
  rw [← hG]
  have hGw : w.heap.size < G := by omega
  have O1 := Lib.hid o1
  clear o1 Ho1 hg1 hq1 hG
  go_loopw [4] (fun i wr => ∃ k : Nat, k ≤ n1 ∧ i = .int .i64 k ∧ wr.ownsRow w.heap.size 2 1 (.slice (some ⟨G, 0, none⟩) n1 n1) n1 (ints (overTo (fun _ => (-1 : Int)) (List.replicate n1 0) k)) ∧ w1.grownBy wr (some G)) (fun i _ => n1 - (intOf i).toNat)
  case atStart => exact ⟨0, Nat.zero_le _, rfl, by rw [overTo_zero]; exact O1.out, World.grownBy.refl _ _⟩
  case round =>
    obtain ⟨k, hk, rfl, hown, hgrow⟩ := hrel
    by_cases hlt : k < n1
    · obtain ⟨d0, d1⟩ := own_int hown (k := k) (x := 0) (by rw [overTo_get]; simp [hlt])
      obtain ⟨R1, R2⟩ := own_set_int hown k (-1)
      rw [overTo_set _ _ (by simpa using hlt) rfl] at R1
      have HR1 := Lib.hid R1
      have HR2 := Lib.hid R2
      have Hgrow := Lib.hid hgrow
      have u0 : (0 : Int) ≤ (k : Int) := by omega
      have u1 : (k : Int) < (n1 : Int) := by omega
      clear hown R1 R2 hgrow
      go_wp2_with fail
      go_roundw
      case rel => exact ⟨k + 1, by omega, by go_num, HR1.out, grown_trans Hgrow.out HR2.out⟩
      case measure => simp [intOf]; omega
    · have hkn : k = n1 := by omega
      rw [hkn]
      rw [hkn, over_neg] at hown
      have hgw9 : Gr w wr := hgw1.grown hgrow (fun _ e => by injection e with e; omega)
      have b0 : wr.cell? ⟨w.heap.size, 0, none⟩ = some (.slice A1 n1 c1) := (hgrow.cell_far _ (lt_of_cell b0) (by simp; omega)).trans b0
      have b1 : wr.cell? ⟨w.heap.size, 1, none⟩ = some (.slice A2 n2 c2) := (hgrow.cell_far _ (lt_of_cell b1) (by simp; omega)).trans b1
      have Hown := Lib.hid hown
      rename World => w9
      clear hown hgrow O1 hk hlt hkn hgw1
      go_wp2_with fail
      go_loopw [5] (fun i wr => ∃ k : Nat, k ≤ n1 ∧ i = .int .i64 k ∧ wr.ownsRow w.heap.size 2 1 (.slice (some ⟨G, 0, none⟩) n1 n1) n1 (ints (compTo (eds n.pipes) n1 k)) ∧ Gr w wr ∧ wr.cell? ⟨w.heap.size, 0, none⟩ = some (.slice A1 n1 c1) ∧ wr.cell? ⟨w.heap.size, 1, none⟩ = some (.slice A2 n2 c2)) (fun i _ => n1 - (intOf i).toNat)
      case atStart => exact ⟨0, Nat.zero_le _, rfl, Hown.out, hgw9, b0, b1⟩
      case round =>
        obtain ⟨k, hk, rfl, hown, hgr, x0, x1⟩ := hrel
        clear b0 b1 hgw9
        by_cases hlt : k < n1
        · have hcl := compTo_len (eds n.pipes) n1 k
          obtain ⟨d0, d1⟩ := own_int hown (get_int (l := compTo (eds n.pipes) n1 k) (k := k) (by omega))
          have hst := compTo_succ (eds n.pipes) n1 k
          rw [cstep] at hst
          obtain ⟨z, hz⟩ : ∃ z, z = (compTo (eds n.pipes) n1 k).getD k 0 := ⟨_, rfl⟩
          rw [← hz] at d0 hst
          have HownK := Lib.hid hown
          have u0 : (0 : Int) ≤ (k : Int) := by omega
          have u1 : (k : Int) < (n1 : Int) := by omega
          clear hown hz
          by_cases hz0 : z < 0
          · rw [if_pos hz0] at hst
            have Hst := Lib.hid hst
            have hdz : decide (0 ≤ z) = false := decide_eq_false (by omega)
            clear hst
            go_wp2_with fail
            refine (l04Search_any n k _ (HA.out.gr hgr) Hok.out hlt).mono ?_
            rintro e w5 ⟨O, gE, gS, rfl, ⟨A, c, rfl⟩, hS, hw5⟩
            obtain ⟨od, hod⟩ : ∃ od, od = ordZ (eds n.pipes) n1 k := ⟨_, rfl⟩
            have hod' : (srch (eds n.pipes) (zf (eds n.pipes)) n1 k).ord = od := hod.symm
            have hI := inv_srch (fl := zf (eds n.pipes)) HE.out hlt
            have hordL : ∀ v ∈ od, v < n1 := by rw [← hod']; exact hI.lt
            have hlen : od.length ≤ n1 := by rw [← hod']; exact hI.len
            have hpos : 0 < od.length := by rw [← hod']; exact (List.getElem?_eq_some_iff.1 hI.hd).1
            have hSo := hS.ord
            rw [hod'] at hSo
            rw [hod']
            obtain ⟨gO, rfl, hgO1, hgO2⟩ := own_form hSo hpos
            have hgOG : gO ≠ G := by have h1 := own_base_le hSo (k := gO) rfl; have h2 := hS.gh; have h3 := hS.ge; have h4 := own_block_lt HownK.out (k := G) rfl; omega
            rw [← hod] at Hst
            have HSo := Lib.hid hSo
            have y0 := hw5.has x0
            have y1 := hw5.has x1
            have hgw5 := hgr.trans hw5
            have Hown5 := Lib.hid (own_gr HownK.out hw5)
            have HordL := Lib.hid hordL
            have hs5 := lt_of_cell y0
            clear hS hod hod' hI hordL hSo x0 x1 d0 d1
            go_wp2_with fail
            go_loopw [8] (fun i wr => ∃ j : Nat, j ≤ od.length ∧ i = .int .i64 j ∧ wr.ownsRow w.heap.size 2 1 (.slice (some ⟨G, 0, none⟩) n1 n1) n1 (ints (paint k (compTo (eds n.pipes) n1 k) (od.take j))) ∧ w5.grownBy wr (some G)) (fun i _ => od.length - (intOf i).toNat)
            case atStart => exact ⟨0, Nat.zero_le _, rfl, Hown5.out, World.grownBy.refl _ _⟩
            case round =>
              obtain ⟨j, hj, rfl, hownj, hgrow⟩ := hrel
              by_cases hjl : j < od.length
              · obtain ⟨v, hv⟩ : ∃ v, od[j]? = some v := ⟨_, List.getElem?_eq_getElem hjl⟩
                have hvN := HordL.out v (List.mem_of_getElem? hv)
                have hvi : (od.map fun (x : Nat) => (x : Int))[j]? = some (v : Int) := by simp [hv]
                have f0 := (own_int (HSo.out.kept hgrow (Or.inr (by simp [Value.ownBlock]; omega))) hvi).1
                obtain ⟨d0, d1⟩ := own_int hownj (get_int (l := paint k (compTo (eds n.pipes) n1 k) (od.take j)) (k := v) (by rw [paint_len]; omega))
                obtain ⟨R1, R2⟩ := own_set_int hownj v (k : Int)
                rw [← paint_snoc hv] at R1
                have HR1 := Lib.hid R1
                have HR2 := Lib.hid R2
                have Hgrow := Lib.hid hgrow
                clear hv hvi R1 R2 hgrow hownj
                go_wp2_with fail
                go_roundw
                case rel => exact ⟨j + 1, by omega, by go_num, HR1.out, grown_trans Hgrow.out HR2.out⟩
                case measure => simp [intOf]; omega
              · have hje : od.take j = od := List.take_of_length_le (by omega)
                rw [hje, ← Hst.out] at hownj
                have Hownj := Lib.hid hownj
                have z0 : wr.cell? ⟨w.heap.size, 0, none⟩ = some (.slice A1 n1 c1) := (hgrow.cell_far _ (lt_of_cell y0) (by simp; omega)).trans y0
                have z1 : wr.cell? ⟨w.heap.size, 1, none⟩ = some (.slice A2 n2 c2) := (hgrow.cell_far _ (lt_of_cell y1) (by simp; omega)).trans y1
                have hgw6 : Gr w wr := hgw5.grown hgrow (fun _ e => by injection e with e; omega)
                clear hownj hgrow hje y0 y1
                go_wp2_with fail
                go_roundw
                case rel => exact ⟨k + 1, by omega, by go_num, Hownj.out, hgw6, z0, z1⟩
                case measure => simp [intOf]; omega
          · rw [if_neg hz0] at hst
            have Hst := Lib.hid hst
            have hdz : decide (0 ≤ z) = true := decide_eq_true (by omega)
            clear hst
            go_wp2_with fail
            go_roundw
            case rel => exact ⟨k + 1, by omega, by go_num, by rw [Hst.out]; exact HownK.out, hgr, x0, x1⟩
            case measure => simp [intOf]; omega
        · have hkn : k = n1 := by omega
          subst hkn
          have HownK := Lib.hid hown
          clear hown
          go_wp2_with fail
          go_ret
          exact ⟨G, rfl, HownK.out, hgr⟩
end Go.Proofs.YthhmhigddmimjaaGreat
/-
  The blocks of the program's plain search.
-/
namespace Go.Proofs.YthhmhigddmimjaaGreat
open Go.ChangeShapes Go.WideShapes Go.ChangeAt Go.RowKit

structure SjAt (w : World) (B P bD bE n1 : Nat) (O : Value) (node : Nat) (s : St) (ds : List Int) : Prop where
  ne : B < P ∧ B < bD ∧ B < bE ∧ P ≠ bD ∧ P ≠ bE ∧ bD ≠ bE
  res : w.heap[B]? = some (.cells #[.slice none 0 0, .slice none 0 0, .slice none 0 0] 132 (0, 0))
  st : w.heap[P]? = some (.cells #[O, .slice (some ⟨bD, 0, none⟩) n1 n1, .slice (some ⟨bE, 0, none⟩) n1 n1] 132 (0, 0))
  dst : w.ownsRow B 2 1 (.slice (some ⟨bD, 0, none⟩) n1 n1) n1 (ints ds)
  ent : w.ownsRow B 2 1 (.slice (some ⟨bE, 0, none⟩) n1 n1) n1 (ints (entL n1 node s))
  ord : w.ownsRow B 2 1 O s.ord.length (nats s.ord)
  oap : ∀ j, O.ownBlock = some j → B < j ∧ j ≠ P ∧ j ≠ bD ∧ j ≠ bE
  sn : ∀ v, v < n1 → (s.seen.getD v true = true ↔ 0 ≤ ds.getD v 0)
  bd : ∀ v, v < n1 → -1 ≤ ds.getD v 0 ∧ ds.getD v 0 < s.ord.length
theorem SjAt.gr {w w' : World} {B P bD bE n1 : Nat} {O : Value} {node : Nat} {s : St} {ds : List Int} (q : SjAt w B P bD bE n1 O node s ds) (hg : Gr w w') : SjAt w' B P bD bE n1 O node s ds := ⟨q.ne, blk_gr q.res hg, blk_gr q.st hg, own_gr q.dst hg, own_gr q.ent hg, own_gr q.ord hg, q.oap, q.sn, q.bd⟩
/-- A node is entered: two stores, an append and a store. -/
theorem SjAt.enter {w w3 : World} {B P bD bE n1 m cap g3 : Nat} {O : Value} {node : Nat} {s : St} {ds : List Int} {o p : Nat} {d : Int} (q : SjAt w B P bD bE n1 O node s ds) (hel : s.ent.length = n1) (hsl : s.seen.length = n1) (hoN : o < n1) (hon : o ≠ node) (hd : 0 ≤ d ∧ d ≤ s.ord.length)
    (h3 : w3.ownsRow B 2 1 (.slice (some ⟨g3, 0, none⟩) m cap) m (nats s.ord ++ [.int .i64 o])) (hm : m = s.ord.length + 1) {ob : Obj}
    (hg : (((w.setCell ⟨bD, o, none⟩ (.int .i64 d)).setCell ⟨bE, o, none⟩ (.int .i64 p)).alloc ob).grownBy w3 O.ownBlock) (hat : O.ownBlock = some g3 ∨ g3 = w.heap.size + 1) :
    SjAt (w3.setCell ⟨P, 0, none⟩ (.slice (some ⟨g3, 0, none⟩) m cap)) B P bD bE n1 (.slice (some ⟨g3, 0, none⟩) m cap) node ⟨s.ent.set o p, s.seen.set o true, s.ord ++ [o]⟩ (ds.set o d) := by
  obtain ⟨n1', n2', n3', n4', n5', n6'⟩ := q.ne
  have hlP := blk_lt q.st
  have hlD : bD < w.heap.size := own_block_lt q.dst rfl
  have hlE : bE < w.heap.size := own_block_lt q.ent rfl
  have hdl := own_ilen q.dst
  obtain ⟨a1, a2⟩ := own_set_int q.dst o d
  have e1 := q.ent.kept a2 (Or.inr (by simp [Value.ownBlock]; omega))
  obtain ⟨b1, b2⟩ := own_set_int e1 o (p : Int)
  rw [← entL_enter hel hon] at b1
  have s1 := a1.kept b2 (Or.inr (by simp [Value.ownBlock]; omega))
  have hO := q.oap
  have hg3 : B < g3 ∧ g3 ≠ P ∧ g3 ≠ bD ∧ g3 ≠ bE := by
    rcases hat with h | h
    · exact hO g3 h
    · omega
  have hn0 : O.ownBlock ≠ some B := fun e => by have := hO _ e; omega
  have hn2 : O.ownBlock ≠ some bD := fun e => by have := hO _ e; omega
  have hn3 : O.ownBlock ≠ some bE := fun e => by have := hO _ e; omega
  have hnP : O.ownBlock ≠ some P := fun e => by have := hO _ e; omega
  have K := grown_set w3 ⟨P, 0, none⟩ (.slice (some ⟨g3, 0, none⟩) m cap)
  refine ⟨q.ne, ?_, ?_, ?_, ?_, ?_, ?_, ?_, ?_⟩
  · exact blk_set (blk_grown (blk_gr (blk_set (blk_set q.res (by simp; omega) _) (by simp; omega) _) ((Gr.refl _).alloc ob)) hg hn0) (by simp; omega) _
  · have h1 := blk_grown (blk_gr (blk_set (blk_set q.st (a := ⟨bD, o, none⟩) (by simp; omega) (.int .i64 d)) (a := ⟨bE, o, none⟩) (by simp; omega) (.int .i64 p)) ((Gr.refl _).alloc ob)) hg hnP
    simp [World.setCell, Array.getElem?_modify, h1]
  · exact ((s1.alloc ob).kept hg (Or.inr (fun e => hn2 (by rw [← e]; rfl)))).kept K (Or.inr (by simp [Value.ownBlock]; omega))
  · exact ((b1.alloc ob).kept hg (Or.inr (fun e => hn3 (by rw [← e]; rfl)))).kept K (Or.inr (by simp [Value.ownBlock]; omega))
  · simp only [List.length_append, List.length_singleton]
    rw [← hm, nats_snoc]
    exact h3.kept K (Or.inr (by simp [Value.ownBlock]; omega))
  · intro j hj
    have : g3 = j := by simpa [Value.ownBlock] using hj
    omega
  · intro v hv
    by_cases e : o = v
    · subst e
      rw [getD_set_self (by omega)]
      simp only [List.getD_eq_getElem?_getD, List.getElem?_set_self (show o < s.seen.length by omega), Option.getD_some, true_iff]
      exact hd.1
    · rw [getD_set_ne e, List.getD_eq_getElem?_getD, List.getElem?_set_ne e, ← List.getD_eq_getElem?_getD]
      exact q.sn v hv
  · intro v hv
    simp only [List.length_append, List.length_singleton]
    by_cases e : o = v
    · subst e
      rw [getD_set_self (by omega)]
      omega
    · rw [getD_set_ne e]
      have := q.bd v hv
      omega
end Go.Proofs.YthhmhigddmimjaaGreat
