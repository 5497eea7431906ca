import Derived.Test.YthhmhigddmimjaaGreatPtA
import Derived.Deep.RegionHeld3
import Derived.RangeFuncNested
import Derived.RangeFuncBound
import Derived.RangeFuncCalls
import Derived.RangeFuncLeaves
import Derived.RangeFuncBox
import Derived.OwnWalkIn
import Derived.TacticsInMore
import Derived.LoopNIn
import Derived.LoopIn
import Derived.Test.YthhmhigddmimjaaGreatText
/-
  Plain: bounds of what is left while the forest's flows are found. No program here. Printed by gen_pt5.py.
-/
set_option linter.unusedSimpArgs false
set_option linter.unusedVariables false
namespace Go.Proofs.YthhmhigddmimjaaGreat

def bb : Nat → Int
  | 0 => 30000
  | k + 1 => 2 * bb k
theorem bb_pos (k : Nat) : 0 < bb k := by
  induction k with
  | zero => decide
  | succ k ih => simp only [bb]; omega
theorem bb_le : ∀ k, k < 25 → bb k ≤ 600000000000 := by decide
def InB (B : Int) (l : List Int) : Prop := ∀ k, -B ≤ l.getD k 0 ∧ l.getD k 0 ≤ B
theorem InB.mono {B C : Int} {l : List Int} (h : InB B l) (hBC : B ≤ C) : InB C l := fun k => by have := h k; omega
theorem InB.set {B : Int} {l : List Int} (h : InB B l) (hB : 0 ≤ B) {i : Nat} {z : Int} (hz : -B ≤ z ∧ z ≤ B) : InB B (l.set i z) := fun k => by
  by_cases e : i = k
  · by_cases hk : k < l.length
    · rw [e, getD_set_self hk]; exact hz
    · rw [List.getD_eq_getElem?_getD, List.getElem?_eq_none (by simp; omega)]; simp; omega
  · rw [getD_set_ne e]; exact h k
theorem inB_mem {B : Int} {l : List Int} (hB : 0 ≤ B) (h : ∀ z ∈ l, -B ≤ z ∧ z ≤ B) : InB B l := fun k => by
  rcases getD_mem_or (l := l) k with e | e
  · rw [e]; omega
  · exact h _ e
theorem fz_bnd {es : List Ed} {N : Nat} {sup : List Int} (hs : ∀ z ∈ sup, -30000 ≤ z ∧ z ≤ 30000) (k : Nat) : InB (bb k) (fzTo es N sup k).2 := by
  induction k with
  | zero => exact inB_mem (by decide) hs
  | succ k ih =>
    have hp := bb_pos k
    cases h : (rev0 es N)[k]? with
    | none =>
      have : fzTo es N sup (k + 1) = fzTo es N sup k := by rw [fzTo, List.take_add_one, h]; simp [fzTo]
      rw [this]; exact ih.mono (by simp only [bb]; omega)
    | some v =>
      rw [fzTo_step h]
      have a := ih v
      have b := ih (back es (sZ es N) v)
      exact ((ih.mono (show bb k ≤ bb (k + 1) by simp only [bb]; omega)).set (by simp only [bb]; omega) (by simp only [bb]; omega)).set (by simp only [bb]; omega) (by simp only [bb]; omega)
theorem fz_small {es : List Ed} {N : Nat} {sup : List Int} (hs : ∀ z ∈ sup, -30000 ≤ z ∧ z ≤ 30000) {k : Nat} (hk : k < 25) (u : Nat) : -600000000000 ≤ (fzTo es N sup k).2.getD u 0 ∧ (fzTo es N sup k).2.getD u 0 ≤ 600000000000 := by
  have := fz_bnd (es := es) (N := N) hs k u
  have := bb_le k hk
  omega
theorem fz_end {es : List Ed} {N : Nat} {sup : List Int} (hE : EsOk es N) (hc : conB es N = true) (hs : sup.length = N) : (fzTo es N sup (N - 1)).1 = ffL es N sup := (ff_fz hE hc hs (N - 1) (Nat.le_refl _)).1
/-- What is known of the pipe by which a node was entered. -/
structure PipeAt (n : GNet) (N v p b : Nat) (x : GPipe) : Prop where
  at_ : n.pipes[p]? = some x
  ed : (eds n.pipes).getD p dE = edOf x
  touch : touch (edOf x) v = true
  oth : oth (edOf x) v = b
  src : (x.src != (v : Int)) = decide ((edOf x).t = v)
  dst : (x.dst == (v : Int)) = decide ((edOf x).t = v)
theorem pipe_ent {n : GNet} {N v p b : Nat} (hn : netOk n = true) {e : Ed} (he : (eds n.pipes)[p]? = some e) (hl : linked e b v) (hne : e.f ≠ e.t) : ∃ x, PipeAt n N v p b x := by
  have hp := (List.getElem?_eq_some_iff.1 he).1
  obtain ⟨x, hx⟩ : ∃ x, n.pipes[p]? = some x := ⟨_, List.getElem?_eq_getElem (by simpa [eds] using hp)⟩
  have hed := eds_at hx
  have hee : e = edOf x := by rw [List.getD_eq_getElem?_getD, he] at hed; exact hed
  subst hee
  have ho := pipeOk_all ((netOk_all hn).2 p x hx)
  have hf : (edOf x).f = x.src.toNat := rfl
  have ht : (edOf x).t = x.dst.toNat := rfl
  refine ⟨x, hx, hed, linked_touch (linked_symm hl), linked_oth hne (linked_symm hl), ?_, ?_⟩
  · rw [Bool.eq_iff_iff, bne_iff_ne, decide_eq_true_eq, ht]
    rcases hl with ⟨a, b⟩ | ⟨a, b⟩ <;> constructor <;> intro h <;> omega
  · rw [Bool.eq_iff_iff, beq_iff_eq, decide_eq_true_eq, ht]
    rcases hl with ⟨a, b⟩ | ⟨a, b⟩ <;> constructor <;> intro h <;> omega
end Go.Proofs.YthhmhigddmimjaaGreat
/-
  The flows of the forest: the reference. Printed by gen_pt5.py.
-/
set_option linter.unusedSimpArgs false
set_option linter.unusedVariables false
namespace Go.Proofs.YthhmhigddmimjaaGreat
open Go.ChangeShapes Go.WideShapes Go.ChangeAt Go.RowKit

set_option maxHeartbeats 6400000 in
set_option maxRecDepth 100000 in
theorem l06Forest_any {A1 A2 A3 : Option Addr} {n1 c1 n2 c2 c3 : Nat} (n : GNet) (sup : List Int) (w : World) (hA : NetAt w A1 n1 c1 A2 n2 c2 n) (hS : SlAt w 1 A3 n1 c3 (ints sup)) (hok : netOk n = true) (hc : conB (eds n.pipes) n1 = true) (hb : ∀ z ∈ sup, -30000 ≤ z ∧ z ≤ 30000) :
    Calls Tryz.prog 148 #[.agg #[.slice A1 n1 c1, .slice A2 n2 c2], .slice A3 n1 c3] w fun e w' => ∃ F, e = .returned (.slice (some ⟨F, 0, none⟩) n2 n2) ∧ w'.ownsRow w.heap.size 2 1 (.slice (some ⟨F, 0, none⟩) n2 n2) n2 (ints (ffL (eds n.pipes) n1 sup)) ∧ Gr w w' := by
  obtain ⟨i0, hi0, hz0, hz1, hz2⟩ := info_parts infoInt64
  have hm1 := hA.m1
  have hm2 := hA.m2
  have hE : EsOk (eds n.pipes) n1 := by have := eds_ok hok; rw [hA.l1] at this; exact this
  have h24 : n1 ≤ 24 := by have := (netOk_all hok).1.2.1; rw [hA.l1] at this; exact this
  have h0 : 0 < n1 := by have := (netOk_all hok).1.1; rw [hA.l1] at this; omega
  have hel : (eds n.pipes).length = n2 := by rw [eds, List.length_map]; exact hA.l2
  have hol : (ordZ (eds n.pipes) n1 0).length = n1 := of_decide_eq_true hc
  have hcm := con_comps hE h0 hc
  have hsl := hS.sl.ilen
  have hone : ∀ u ∈ ints sup, u.oneCell' = true := by intro u hu; simp only [ints, List.mem_map] at hu; obtain ⟨z, _, rfl⟩ := hu; rfl
  obtain ⟨b, o, rfl, hbl, hrow⟩ := hS.sl.2 (by omega)
  have HE := Lib.hid hE
  have Hc := Lib.hid hc
  have HA := Lib.hid hA
  have HS := Lib.hid hS
  have Hok := Lib.hid hok
  have Hel := Lib.hid hel
  have Hol := Lib.hid hol
  have Hcm := Lib.hid hcm
  have Hb := Lib.hid hb
  have Hsl := Lib.hid hsl
  have Hone := Lib.hid hone
  clear hA hok hE hel hS hb hsl hone hrow hc hol hcm
  go_enter Tryz.func148, Tryz.ntmps148
  go_wp2_with (first
    | (at_make; refine wpList_make_full _ rfl _ _ _ rfl w.heap.size 2 i0 _ 1 Tryz.underlying26 hi0 hz0 hz1 .i64 .i64 _ _ n2 rfl rfl rfl rfl (by rw [hz2]; omega) (by unfold maxLen; omega) (by simp) ?_; intro w1 hown1 hg1; have hq1 : Gr (w.alloc (.cells #[.slice A1 n1 c1, .slice A2 n2 c2] 32)) w1 := Gr.of_grown hg1; have b0 : w1.cell? ⟨w.heap.size, 0, none⟩ = some (.slice A1 n1 c1) := hq1.has (by simp [go_sem]); have b1 : w1.cell? ⟨w.heap.size, 1, none⟩ = some (.slice A2 n2 c2) := hq1.has (by simp [go_sem]); have hgw1 : Gr w w1 := ((Gr.refl _).alloc _).trans hq1; have Ho1 := Lib.hid hown1; have z1 := hq1.size; clear hown1)
    | (at_builtin; refine wpList_append_lies _ rfl _ _ _ rfl w1.heap.size 2 i0 _ 1 8 Tryz.underlying26 hi0 hz0 hz1 hz2 rfl (by omega) (.slice (some ⟨w1.heap.size, 0, none⟩) 0 0) 0 [] rfl (World.ownsRow_lit w1 (e := 2) (size := 1) #[] 0 (Nat.le_refl _) (by unfold maxLen; omega) rfl) ⟨b, o, none⟩ n1 c3 (ints sup) rfl (by rw [ints_length, Hsl.out]; omega) (HS.out.sl.gr (hgw1.alloc _)).cells Hone.out (by omega) (by unfold maxLen; omega) (by omega) (by simp) (w1.heap.size + 1) (by simp) ?_; intro G cl w2 hown2 hg2 hat2 hlt2; have hGw1 : w1.heap.size ≤ G := own_base_le hown2 rfl; have z2 := lt_of_cell b0; have x0 : w2.cell? ⟨w.heap.size, 0, none⟩ = some (.slice A1 n1 c1) := (hg2.cell_far _ (by simp only at z2; simp; omega) (by simp only at z2; simp [Value.ownBlock]; omega)).trans (((Gr.refl w1).alloc _).has b0); have x1 : w2.cell? ⟨w.heap.size, 1, none⟩ = some (.slice A2 n2 c2) := (hg2.cell_far _ (by simp only at z2; simp; omega) (by simp only at z2; simp [Value.ownBlock]; omega)).trans (((Gr.refl w1).alloc _).has b1)))
  try rw [Nat.zero_add]
  rw [Nat.zero_add, List.nil_append] at hown2
  have o1 : w1.ownsRow w.heap.size 2 1 (.slice (some ⟨w.heap.size + 1, 0, none⟩) n2 n2) n2 (ints (List.replicate n2 0)) := by
    have := own_cells_eq Ho1.out (made_ints n2)
    simpa using this
  have l1 : w.heap.size + 1 < w1.heap.size := own_block_lt o1 rfl
  have hF2 : w2.ownsRow w.heap.size 2 1 (.slice (some ⟨w.heap.size + 1, 0, none⟩) n2 n2) n2 (ints (List.replicate n2 0)) := (o1.alloc _).kept hg2 (Or.inr (by simp [Value.ownBlock]; omega))
  have hG2 : w2.ownsRow w.heap.size 2 1 (.slice (some ⟨G, 0, none⟩) n1 cl) n1 (ints sup) := own_base hown2 (by omega)
  have hgw2 : Gr w w2 := (hgw1.alloc _).grown hg2 (fun _ e => by simp [Value.ownBlock] at e; omega)
  obtain ⟨F, hF⟩ : ∃ F, F = w.heap.size + 1 := ⟨_, rfl⟩
  rw [← hF] at hF2
  rw [← hF]
  have hFw : w.heap.size < F := by omega
  have hGw : w.heap.size < G := by omega
  have hFG : F ≠ G := by omega
  have HF2 := Lib.hid hF2
  have HG2 := Lib.hid hG2
  clear hown2 hg2 hat2 hlt2 o1 l1 hF2 hG2 Ho1 b0 b1 hq1 z1 hg1 hF hgw1 hGw1 z2
  refine (l04Components_any n _ (HA.out.gr hgw2) Hok.out).mono ?_
  rintro e w3 ⟨R, rfl, hR, hg3⟩
  rw [Hcm.out] at hR
  have HR := Lib.hid hR
  have HF3 := Lib.hid (own_gr HF2.out hg3)
  have HG3 := Lib.hid (own_gr HG2.out hg3)
  have hRb := own_base_le hR (k := R) rfl
  have hF2l := own_block_lt HF2.out (k := F) rfl
  have hG2l := own_block_lt HG2.out (k := G) rfl
  have hRF : R ≠ F := by omega
  have hRG : R ≠ G := by omega
  have hgw3 := hgw2.trans hg3
  replace x0 := hg3.has x0
  replace x1 := hg3.has x1
  clear hR HF2 HG2 hgw2
  go_wp2_with fail
  go_loopw [8] (fun i wr => ∃ k : Nat, k ≤ n1 ∧ i = .int .i64 k ∧ wr.ownsRow w.heap.size 2 1 (.slice (some ⟨F, 0, none⟩) n2 n2) n2 (ints (if k = 0 then List.replicate n2 0 else ffL (eds n.pipes) n1 sup)) ∧ (∃ lf, (k = 0 → lf = sup) ∧ wr.ownsRow w.heap.size 2 1 (.slice (some ⟨G, 0, none⟩) n1 cl) n1 (ints lf)) ∧ wr.ownsRow w2.heap.size 2 1 (.slice (some ⟨R, 0, none⟩) n1 n1) n1 (ints (List.replicate n1 0)) ∧ Gr w wr ∧ wr.cell? ⟨w.heap.size, 0, none⟩ = some (.slice A1 n1 c1) ∧ wr.cell? ⟨w.heap.size, 1, none⟩ = some (.slice A2 n2 c2)) (fun i _ => n1 - (intOf i).toNat)
  case atStart => exact ⟨0, Nat.zero_le _, rfl, HF3.out, ⟨sup, fun _ => rfl, HG3.out⟩, HR.out, hgw3, x0, x1⟩
  case round =>
    obtain ⟨k, hk, rfl, hO, ⟨lf0, hlf0, hL⟩, hR, hgr, y0, y1⟩ := hrel
    have HO := Lib.hid hO
    have HL := Lib.hid hL
    have HRr := Lib.hid hR
    clear hO hL hR HF3 HG3 HR hgw3 x0 x1
    by_cases hlt : k < n1
    · obtain ⟨d0, _⟩ := own_int HRr.out (k := k) (x := 0) (by rw [List.getElem?_replicate, if_pos hlt])
      have t1 : (k : Int) < (n1 : Int) := by omega
      have t0 : (0 : Int) ≤ (k : Int) := by omega
      by_cases hz : k = 0
      · subst hz
        rw [if_pos rfl] at HO
        rw [hlf0 rfl] at HL
        clear hlf0
        go_wp2_with fail
        refine (l04Search_any n 0 _ (HA.out.gr hgr) Hok.out hlt).mono ?_
        rintro e w5 ⟨O, gE, gS, rfl, ⟨AO, cO, rfl⟩, hS5, hw5⟩
        have hent : w5.ownsRow wr.heap.size 2 1 (.slice (some ⟨gE, 0, none⟩) n1 n1) n1 (ints (entL n1 0 (sZ (eds n.pipes) n1))) := hS5.ent
        have hord : w5.ownsRow (gS + 1) 2 1 (.slice AO (ordZ (eds n.pipes) n1 0).length cO) (ordZ (eds n.pipes) n1 0).length (nats (ordZ (eds n.pipes) n1 0)) := hS5.ord
        have hgEb := hS5.ge
        have hgES := hS5.gh
        have hole : (srch (eds n.pipes) (zf (eds n.pipes)) n1 0).ord.length = n1 := Hol.out
        rw [hole]
        rw [Hol.out] at hord
        obtain ⟨gO, rfl, hgO1, hgO2⟩ := own_form hord h0
        have Hent := Lib.hid hent
        have Hord := Lib.hid hord
        have HO5 := Lib.hid (own_gr HO.out hw5)
        have HL5 := Lib.hid (own_gr HL.out hw5)
        have HR5 := Lib.hid (own_gr HRr.out hw5)
        have y0 := hw5.has y0
        have y1 := hw5.has y1
        have hgw5 := hgr.trans hw5
        have hFl5 := own_block_lt HO.out (k := F) rfl
        have hLl5 := own_block_lt HL.out (k := G) rfl
        have hEF : gE ≠ F ∧ gE ≠ G ∧ gO ≠ F ∧ gO ≠ G := by omega
        obtain ⟨q1, q2, q3, q4⟩ := hEF
        have hbl5 := lt_of_cell y0
        have hw1n : IntKind.i64.wrap ((n1 : Int) - 1) = (n1 : Int) - 1 := IntWalk.i64_in _ (by omega)
        clear hS5 hent hord hole d0 HO HL HRr hgES
        go_wp2_with fail
        go_loopw [11] (fun i wi => ∃ j : Nat, j ≤ n1 - 1 ∧ i = .int .i64 ((n1 - 1 - j : Nat) : Int) ∧ wi.ownsRow w.heap.size 2 1 (.slice (some ⟨F, 0, none⟩) n2 n2) n2 (ints (fzTo (eds n.pipes) n1 sup j).1) ∧ wi.ownsRow w.heap.size 2 1 (.slice (some ⟨G, 0, none⟩) n1 cl) n1 (ints (fzTo (eds n.pipes) n1 sup j).2) ∧ Chg (fun k => k = F ∨ k = G) w5 wi) (fun i _ => (intOf i).toNat)
        case atStart => exact ⟨0, Nat.zero_le _, by congr 1; omega, by rw [fzTo_zero, Hel.out]; exact HO5.out, by rw [fzTo_zero]; exact HL5.out, Chg.refl _ _⟩
        case round =>
          obtain ⟨j, hj, rfl, hO, hL, hC⟩ := hrel
          have hgi : Gr w wr := hgw5.of_chg hC (fun k hk => by rcases hk with e | e <;> omega)
          have HOi := Lib.hid hO
          have HLi := Lib.hid hL
          have HC := Lib.hid hC
          have z0 := chg_cell' hC y0 (by simp; omega)
          have z1 := chg_cell' hC y1 (by simp; omega)
          clear hO hL hC
          obtain ⟨K, hK⟩ : ∃ K, K = n1 - 1 - j := ⟨_, rfl⟩
          rw [← hK]
          by_cases hjl : j < n1 - 1
          · obtain ⟨v, hv⟩ := ff_some Hc.out hjl
            have FA := ff_at HE.out Hc.out hjl hv
            obtain ⟨e, ib, r1, r2, r3, r5, r6⟩ := FA.at_
            obtain ⟨x, PA⟩ := pipe_ent (N := n1) Hok.out r1 r5 r6
            have hst := fzTo_step (sup := sup) hv
            have hvl := FA.lt
            have hv0 := FA.ne
            have hpl := FA.el
            have hbl := FA.bl
            have hbn := FA.bne
            have hpos := FA.pos
            have hsmall := fz_small (es := eds n.pipes) (N := n1) Hb.out (show j < 25 by omega)
            have hfl := (fz_len (eds n.pipes) n1 sup j).1
            have hll := (fz_len (eds n.pipes) n1 sup j).2
            have hentv := entL_at HE.out h0 Hc.out hvl
            rw [if_neg hv0] at hentv
            have hox : ffX (eds n.pipes) n1 v ((fzTo (eds n.pipes) n1 sup j).2.getD v 0) = if (edOf x).t = v then -((fzTo (eds n.pipes) n1 sup j).2.getD v 0) else (fzTo (eds n.pipes) n1 sup j).2.getD v 0 := by rw [ffX, PA.ed]
            rw [fzOne, ffOne, hox] at hst
            rw [← hK] at hpos
            obtain ⟨p, hp⟩ : ∃ p, p = entZ (eds n.pipes) n1 v := ⟨_, rfl⟩
            obtain ⟨bk, hbk⟩ : ∃ bk, bk = back (eds n.pipes) (sZ (eds n.pipes) n1) v := ⟨_, rfl⟩
            obtain ⟨fl, hfle⟩ : ∃ fl, fl = (fzTo (eds n.pipes) n1 sup j).1 := ⟨_, rfl⟩
            obtain ⟨lf, hlfe⟩ : ∃ lf, lf = (fzTo (eds n.pipes) n1 sup j).2 := ⟨_, rfl⟩
            rw [← hp] at PA hpl hentv hst
            rw [← hbk] at PA hbl hbn hst
            rw [← hfle] at hfl HOi hst
            rw [← hlfe] at hll HLi hst hsmall
            have hbv := hsmall v
            have hbb := hsmall bk
            obtain ⟨xv, hxv⟩ : ∃ xv, xv = lf.getD v 0 := ⟨_, rfl⟩
            obtain ⟨xb, hxb⟩ : ∃ xb, xb = lf.getD bk 0 := ⟨_, rfl⟩
            rw [← hxv] at hbv hst
            rw [← hxb] at hbb hst
            simp only at hst
            have ht := PA.touch
            have hoth := PA.oth
            have hx := PA.at_
            have hsrc := PA.src
            obtain ⟨ba, oa, hAA, hba, e0, e1, e2, e3, e4⟩ := (HA.out.gr hgi).pipes.pp hx
            subst hAA
            obtain ⟨c0, _⟩ := own_int (zs := casts (ordZ (eds n.pipes) n1 0)) (own_chg Hord.out HC.out (fun k hk => by have h9 : gO = k := (by simpa [Value.ownBlock] using hk); omega)) (k := K) (x := (v : Int)) (by rw [casts, List.getElem?_map, hpos]; rfl)
            obtain ⟨c1', _⟩ := own_int (own_chg Hent.out HC.out (fun k hk => by have h9 : gE = k := (by simpa [Value.ownBlock] using hk); omega)) (get_int (l := entL n1 0 (sZ (eds n.pipes) n1)) (k := v) (by rw [entL_len]; exact hvl))
            rw [hentv] at c1'
            obtain ⟨l0, f0⟩ := own_int HLi.out (get_int (l := lf) (k := v) (by have := Hsl.out; omega))
            rw [← hxv] at l0
            obtain ⟨o0, g0⟩ := own_int HOi.out (get_int (l := fl) (k := p) (by omega))
            have Hst := Lib.hid hst
            have Hx := Lib.hid hx
            have Ht := Lib.hid ht
            have Hoth := Lib.hid hoth
            have Hxb := Lib.hid hxb
            have Hxv := Lib.hid hxv
            have Hll := Lib.hid hll
            have s0 : (0 : Int) < (K : Int) := by omega
            have s0' : (0 : Int) ≤ (K : Int) := by omega
            have s1 : (K : Int) < (n1 : Int) := by omega
            have s2 : (v : Int) < (n1 : Int) := by omega
            have s3 : (0 : Int) ≤ (v : Int) := by omega
            have s4 : (p : Int) < (n2 : Int) := by have := Hel.out; omega
            have s5 : (0 : Int) ≤ (p : Int) := by omega
            have s6 : (bk : Int) < (n1 : Int) := by omega
            have s7 : (0 : Int) ≤ (bk : Int) := by omega
            have hwn : IntKind.i64.wrap (-xv) = -xv := IntWalk.i64_in _ (by omega)
            have hws : IntKind.i64.wrap (xb + xv) = xb + xv := IntWalk.i64_in _ (by omega)
            have hwk : IntKind.i64.wrap ((K : Int) - 1) = (K : Int) - 1 := IntWalk.i64_in _ (by omega)
            have HK := Lib.hid hK
            clear hK hv FA r1 r2 r3 r5 r6 PA hst hpos hsmall hfl hentv hox hp hbk hfle hlfe hxb hxv ht hoth hx e1 e2 e3 e4 hll
            cases hd : decide ((edOf x).t = v) with
            | true =>
              have hval : (if (edOf x).t = v then -xv else xv) = -xv := if_pos (of_decide_eq_true hd)
              rw [hval] at Hst
              rw [hd] at hsrc
              clear hd hval
              go_wp2_with fail
              obtain ⟨R1, R2⟩ := own_set_int HOi.out p (-xv)
              have hL2 := HLi.out.kept R2 (Or.inr (by simp [Value.ownBlock]; omega))
              have hgA : Gr w (wr.setCell ⟨F, p, none⟩ (.int .i64 (-xv))) := hgi.setCell (by simp; omega) _
              refine (l02Other_any n p v x _ (HA.out.gr hgA) Hok.out Hx.out Ht.out).mono ?_
              rintro e wB ⟨rfl, hgB⟩
              rw [Hoth.out]
              have hCB : Chg (fun k => k = F ∨ k = G) w5 wB := (HC.out.trans (chg_set _ _ _ (Or.inl rfl))).trans (hgB.chg _)
              have HOB := Lib.hid (own_gr R1 hgB)
              have hLB := own_gr hL2 hgB
              obtain ⟨d1, d2⟩ := own_int hLB (get_int (l := lf) (k := bk) (by have := Hll.out; have := Hsl.out; omega))
              obtain ⟨d3, d4⟩ := own_int hLB (get_int (l := lf) (k := v) (by have := Hll.out; have := Hsl.out; omega))
              rw [← Hxb.out] at d1
              rw [← Hxv.out] at d3
              obtain ⟨R3, R4⟩ := own_set_int hLB bk (xb + xv)
              have HR3 := Lib.hid R3
              have HR4 := Lib.hid R4
              have HLB := Lib.hid hLB
              have HCB := Lib.hid hCB
              clear R1 R2 R3 R4 hL2 hLB hCB hgA e0 c0 c1' l0 f0 o0 g0
              go_wp2_with fail
              refine wp_region_last (fun w' => w' = wB.drew) (fun w' => w' = (wB.setCell ⟨G, bk, none⟩ (.int .i64 (xb + xv))).drew) (by kernel_rfl) (by kernel_rfl) (by decide) rfl ?_
              repeat (first
            | ((with_reducible refine wpText_skip ?_ ?_)
               · rfl
               simp only [Act.put, List.setIfInBounds_toArray, List.set_cons_zero, List.set_cons_succ])
            | ((with_reducible refine wpText_yield (v := ?_) ?_ ?_ ?_)
               rotate_left
               · rfl
               · intro W hW; first | (go_simp; done) | (go_simp; with_reducible rfl)
               simp only [Act.put, List.setIfInBounds_toArray, List.set_cons_zero, List.set_cons_succ])
            | ((with_reducible refine wpText_yield1 (v := ?_) ?_ ?_ ?_)
               rotate_left
               · rfl
               · intro W hW; first | (go_simp; done) | (go_simp; with_reducible rfl)
               simp only [Act.put, List.setIfInBounds_toArray, List.set_cons_zero, List.set_cons_succ]))
              (first
            | ((with_reducible refine wpText_do1 undef ?_ ?_ ?_)
               · rfl
               · intro W hW K hK
                 subst hW
                 go_simp
                 exact hK _ rfl
               simp only [Act.put]))
              rintro wC hwC
              have hOC : wC.ownsRow w.heap.size 2 1 (.slice (some ⟨F, 0, none⟩) n2 n2) n2 (ints (fl.set p (-xv))) := by rw [hwC]; exact (HOB.out.kept HR4.out (Or.inr (by simp [Value.ownBlock]; omega))).drew
              have hLC : wC.ownsRow w.heap.size 2 1 (.slice (some ⟨G, 0, none⟩) n1 cl) n1 (ints (lf.set bk (xb + xv))) := by rw [hwC]; exact HR3.out.drew
              have hCC : Chg (fun k => k = F ∨ k = G) w5 wC := by rw [hwC]; exact (HCB.out.trans (chg_set _ _ _ (Or.inr rfl))).drew
              obtain ⟨d5, d6⟩ := own_int hLC (get_int (l := lf.set bk (xb + xv)) (k := v) (by have := Hll.out; have := Hsl.out; simp; omega))
              obtain ⟨R5, R6⟩ := own_set_int hLC v 0
              have hOD := hOC.kept R6 (Or.inr (by simp [Value.ownBlock]; omega))
              have HR5' := Lib.hid R5
              have HOD := Lib.hid hOD
              have HCC := Lib.hid hCC
              clear hOC hLC hCC R5 R6 hOD hwC d1 d2 d3 d4 HR3 HR4 HLB HOB HCB
              go_wp2_with fail
              go_roundw
              case rel => exact ⟨j + 1, by omega, by congr 1; have := HK.out; omega, by rw [Hst.out]; exact HOD.out, by rw [Hst.out]; exact HR5'.out, HCC.out.trans (chg_set _ _ _ (Or.inr rfl))⟩
              case measure => simp [intOf]; omega
            | false =>
              have hval : (if (edOf x).t = v then -xv else xv) = xv := if_neg (of_decide_eq_false hd)
              rw [hval] at Hst
              rw [hd] at hsrc
              clear hd hval
              go_wp2_with fail
              obtain ⟨R1, R2⟩ := own_set_int HOi.out p (xv)
              have hL2 := HLi.out.kept R2 (Or.inr (by simp [Value.ownBlock]; omega))
              have hgA : Gr w (wr.setCell ⟨F, p, none⟩ (.int .i64 (xv))) := hgi.setCell (by simp; omega) _
              refine (l02Other_any n p v x _ (HA.out.gr hgA) Hok.out Hx.out Ht.out).mono ?_
              rintro e wB ⟨rfl, hgB⟩
              rw [Hoth.out]
              have hCB : Chg (fun k => k = F ∨ k = G) w5 wB := (HC.out.trans (chg_set _ _ _ (Or.inl rfl))).trans (hgB.chg _)
              have HOB := Lib.hid (own_gr R1 hgB)
              have hLB := own_gr hL2 hgB
              obtain ⟨d1, d2⟩ := own_int hLB (get_int (l := lf) (k := bk) (by have := Hll.out; have := Hsl.out; omega))
              obtain ⟨d3, d4⟩ := own_int hLB (get_int (l := lf) (k := v) (by have := Hll.out; have := Hsl.out; omega))
              rw [← Hxb.out] at d1
              rw [← Hxv.out] at d3
              obtain ⟨R3, R4⟩ := own_set_int hLB bk (xb + xv)
              have HR3 := Lib.hid R3
              have HR4 := Lib.hid R4
              have HLB := Lib.hid hLB
              have HCB := Lib.hid hCB
              clear R1 R2 R3 R4 hL2 hLB hCB hgA e0 c0 c1' l0 f0 o0 g0
              go_wp2_with fail
              refine wp_region_last (fun w' => w' = wB.drew) (fun w' => w' = (wB.setCell ⟨G, bk, none⟩ (.int .i64 (xb + xv))).drew) (by kernel_rfl) (by kernel_rfl) (by decide) rfl ?_
              repeat (first
            | ((with_reducible refine wpText_skip ?_ ?_)
               · rfl
               simp only [Act.put, List.setIfInBounds_toArray, List.set_cons_zero, List.set_cons_succ])
            | ((with_reducible refine wpText_yield (v := ?_) ?_ ?_ ?_)
               rotate_left
               · rfl
               · intro W hW; first | (go_simp; done) | (go_simp; with_reducible rfl)
               simp only [Act.put, List.setIfInBounds_toArray, List.set_cons_zero, List.set_cons_succ])
            | ((with_reducible refine wpText_yield1 (v := ?_) ?_ ?_ ?_)
               rotate_left
               · rfl
               · intro W hW; first | (go_simp; done) | (go_simp; with_reducible rfl)
               simp only [Act.put, List.setIfInBounds_toArray, List.set_cons_zero, List.set_cons_succ]))
              (first
            | ((with_reducible refine wpText_do1 undef ?_ ?_ ?_)
               · rfl
               · intro W hW K hK
                 subst hW
                 go_simp
                 exact hK _ rfl
               simp only [Act.put]))
              rintro wC hwC
              have hOC : wC.ownsRow w.heap.size 2 1 (.slice (some ⟨F, 0, none⟩) n2 n2) n2 (ints (fl.set p (xv))) := by rw [hwC]; exact (HOB.out.kept HR4.out (Or.inr (by simp [Value.ownBlock]; omega))).drew
              have hLC : wC.ownsRow w.heap.size 2 1 (.slice (some ⟨G, 0, none⟩) n1 cl) n1 (ints (lf.set bk (xb + xv))) := by rw [hwC]; exact HR3.out.drew
              have hCC : Chg (fun k => k = F ∨ k = G) w5 wC := by rw [hwC]; exact (HCB.out.trans (chg_set _ _ _ (Or.inr rfl))).drew
              obtain ⟨d5, d6⟩ := own_int hLC (get_int (l := lf.set bk (xb + xv)) (k := v) (by have := Hll.out; have := Hsl.out; simp; omega))
              obtain ⟨R5, R6⟩ := own_set_int hLC v 0
              have hOD := hOC.kept R6 (Or.inr (by simp [Value.ownBlock]; omega))
              have HR5' := Lib.hid R5
              have HOD := Lib.hid hOD
              have HCC := Lib.hid hCC
              clear hOC hLC hCC R5 R6 hOD hwC d1 d2 d3 d4 HR3 HR4 HLB HOB HCB
              go_wp2_with fail
              go_roundw
              case rel => exact ⟨j + 1, by omega, by congr 1; have := HK.out; omega, by rw [Hst.out]; exact HOD.out, by rw [Hst.out]; exact HR5'.out, HCC.out.trans (chg_set _ _ _ (Or.inr rfl))⟩
              case measure => simp [intOf]; omega
          · have hje : j = n1 - 1 := by omega
            have hK0 : K = 0 := by omega
            subst hK0
            rw [hje, fz_end HE.out Hc.out Hsl.out] at HOi
            have HR6 := Lib.hid (own_chg HR5.out HC.out (fun k hk => by have h9 : R = k := (by simpa [Value.ownBlock] using hk); omega))
            clear hK
            go_wp2_with fail
            go_roundw
            case rel => exact ⟨1, by omega, by go_num, by rw [if_neg (by decide)]; exact HOi.out, ⟨_, fun h => absurd h (by decide), HLi.out⟩, HR6.out, hgi, z0, z1⟩
            case measure => simp [intOf]; omega
      · have tb : ((0 : Int) != (k : Int)) = true := by simp; omega
        rw [if_neg hz] at HO
        clear hlf0
        go_wp2_with fail
        go_roundw
        case rel => exact ⟨k + 1, by omega, by go_num, by rw [if_neg (by omega)]; exact HO.out, ⟨_, fun h => absurd h (by omega), HL.out⟩, HRr.out, hgr, y0, y1⟩
        case measure => simp [intOf]; omega
    · obtain rfl : k = n1 := by omega
      rw [if_neg (by omega)] at HO
      clear hlf0
      go_wp2_with fail
      go_ret
      exact ⟨F, rfl, HO.out, hgr⟩
end Go.Proofs.YthhmhigddmimjaaGreat
/-
  Plain: the flows of the forest, found over a list of nodes. No program here. Printed by gen_pt6.py.
-/
set_option linter.unusedSimpArgs false
set_option linter.unusedVariables false
namespace Go.Proofs.YthhmhigddmimjaaGreat

def ffOver (es : List Ed) (N : Nat) (sup : List Int) (l : List Nat) : List Int × List Int := l.foldl (ffOne es N) (List.replicate es.length 0, sup)
theorem over_snoc (es : List Ed) (N : Nat) (sup : List Int) (l : List Nat) (v : Nat) : ffOver es N sup (l ++ [v]) = ffOne es N (ffOver es N sup l) v := by rw [ffOver, List.foldl_append]; rfl
theorem over_rev {es : List Ed} {N : Nat} (sup : List Int) (hc : conB es N = true) : ffOver es N sup (rev0 es N) = ffTo es N sup (N - 1) := by
  rw [ffTo, List.take_of_length_le (Nat.le_of_eq (rev_len hc))]; rfl
theorem over_len (es : List Ed) (N : Nat) (sup : List Int) (l : List Nat) : (ffOver es N sup l).1.length = es.length ∧ (ffOver es N sup l).2.length = sup.length := by
  have key : ∀ (l : List Nat) (s : List Int × List Int), (l.foldl (ffOne es N) s).1.length = s.1.length ∧ (l.foldl (ffOne es N) s).2.length = s.2.length := by
    intro l
    induction l with
    | nil => intro s; exact ⟨rfl, rfl⟩
    | cons v l ih =>
      intro s
      obtain ⟨a, b⟩ := ih (ffOne es N s v)
      exact ⟨a.trans (by simp [ffOne]), b.trans (by simp [ffOne])⟩
  obtain ⟨a, b⟩ := key l (List.replicate es.length 0, sup)
  exact ⟨a.trans (by simp), b⟩
theorem over_bnd {es : List Ed} {N : Nat} {sup : List Int} (hs : ∀ z ∈ sup, -30000 ≤ z ∧ z ≤ 30000) (l : List Nat) : InB (bb l.length) (ffOver es N sup l).2 := by
  have key : ∀ (l : List Nat) (s : List Int × List Int) (k : Nat), InB (bb k) s.2 → InB (bb (k + l.length)) (l.foldl (ffOne es N) s).2 := by
    intro l
    induction l with
    | nil => intro s k h; exact h
    | cons v l ih =>
      intro s k h
      have hp := bb_pos k
      have a := h v
      have b := h (back es (sZ es N) v)
      have h1 : InB (bb (k + 1)) (ffOne es N s v).2 := (h.mono (show bb k ≤ bb (k + 1) by simp only [bb]; omega)).set (by simp only [bb]; omega) (by simp only [bb]; omega)
      have := ih (ffOne es N s v) (k + 1) h1
      rw [List.length_cons, show k + (l.length + 1) = k + 1 + l.length by omega]
      exact this
  have := key l (List.replicate es.length 0, sup) 0 (inB_mem (by decide) hs)
  rw [Nat.zero_add] at this
  exact this
theorem over_small {es : List Ed} {N : Nat} {sup : List Int} (hs : ∀ z ∈ sup, -30000 ≤ z ∧ z ≤ 30000) {l : List Nat} (hl : l.length < 25) (u : Nat) : -600000000000 ≤ (ffOver es N sup l).2.getD u 0 ∧ (ffOver es N sup l).2.getD u 0 ≤ 600000000000 := by
  have := over_bnd (es := es) (N := N) hs l u
  have := bb_le l.length hl
  omega
/-- The nodes that come, each with its place. -/
abbrev NdE (N : Nat) := Int × {v : Nat // v < N ∧ v ≠ 0}
theorem rev_in {es : List Ed} {N : Nat} (hE : EsOk es N) (hc : conB es N = true) {j v : Nat} (h : (rev0 es N)[j]? = some v) : v < N ∧ v ≠ 0 := by
  have hj := (List.getElem?_eq_some_iff.1 h).1
  rw [rev_len hc] at hj
  have F := ff_at hE hc hj h
  exact ⟨F.lt, F.ne⟩
def ysOf {es : List Ed} {N : Nat} (hE : EsOk es N) (hc : conB es N = true) : List (NdE N) :=
  List.ofFn (n := (rev0 es N).length) fun j => (((N : Int) - 2 - (j.val : Int)), ⟨(rev0 es N)[j.val], rev_in hE hc (List.getElem?_eq_getElem j.isLt)⟩)
theorem ys_len {es : List Ed} {N : Nat} (hE : EsOk es N) (hc : conB es N = true) : (ysOf hE hc).length = N - 1 := by rw [ysOf, List.length_ofFn, rev_len hc]
theorem ys_at {es : List Ed} {N : Nat} (hE : EsOk es N) (hc : conB es N = true) {j : Nat} {x : NdE N} (h : (ysOf hE hc)[j]? = some x) : x.1 = (N : Int) - 2 - j ∧ (ordZ es N 0)[N - 1 - j]? = some x.2.val := by
  have hj := (List.getElem?_eq_some_iff.1 h).1
  rw [ys_len hE hc] at hj
  rw [ysOf, List.getElem?_ofFn, dif_pos (by rw [rev_len hc]; exact hj)] at h
  injection h with h
  rw [← h]
  exact ⟨rfl, (rev_get hc hj).1 (List.getElem?_eq_getElem (by rw [rev_len hc]; exact hj))⟩
theorem ys_nodes {es : List Ed} {N : Nat} (hE : EsOk es N) (hc : conB es N = true) : (ysOf hE hc).map (fun x => x.2.val) = rev0 es N := by
  apply List.ext_getElem?
  intro j
  rw [List.getElem?_map, ysOf, List.getElem?_ofFn]
  by_cases hj : j < (rev0 es N).length
  · rw [dif_pos hj, List.getElem?_eq_getElem hj]; rfl
  · rw [dif_neg hj, List.getElem?_eq_none (by omega)]; rfl
end Go.Proofs.YthhmhigddmimjaaGreat
/-
  A range over a function: regions that draw their order in a round of it; slices.Backward over numbers. Printed by gen_pt6.py.
-/
set_option linter.unusedSimpArgs false
set_option linter.unusedVariables false
namespace Go.Proofs.YthhmhigddmimjaaGreat
open Go.ChangeShapes Go.WideShapes Go.ChangeAt Go.RowKit
attribute [local go_sem] Oper.semAt_some

section
variable {P : Program} {ops : Array Oper} {S T : World → Prop}
theorem rowsIn_wide {l n : Nat} {row : String} {args : Array Value} {w : World} {R : Value → World → Prop} (h : Rows P row args w R) : RowsIn (Fence.wide.inRound l) n P row args w R :=
  fun c cs _ => let ⟨v, w', r, s⟩ := h c cs; ⟨v, w', r, stepsIn_wide.2 s⟩
theorem callsIn_round {l n : Nat} {f : FuncId} {args : Array Value} {w : World} {R : Ending → World → Prop} (h : Calls P f args w R) : CallsIn (Fence.wide.inRound l) n P f args w R := CallsIn.inRound l (callsIn_wide.2 h)
theorem upon_round {l n : Nat} {o : Oper} {a : Act} {next : Act → World → Prop} {Q : Exit → Act → World → Prop} {r : Result Next} (h : o.upon P a next Q r) : o.uponIn (Fence.wide.inRound l) n P a next Q r := by
  cases r with
  | ok x w' =>
    cases x <;> simp only [Oper.upon] at h
    case value v => exact h
    case skip => exact h
    case defer d => exact h
    case enter f args => exact ⟨fun hd => by simp [Fence.inRound, Fence.wide] at hd, callsIn_round h⟩
    case row row args => exact ⟨fun hd => by simp [Fence.inRound, Fence.wide] at hd, rowsIn_wide h⟩
  | halt x w' => cases x <;> simp only [Oper.upon] at h <;> exact h
def noDefer (ops : Array Oper) : Bool := ops.toList.all fun o => match o.op with | .defer _ => false | _ => true
theorem noDefer_spec (h : noDefer ops = true) {i : Nat} {o : Oper} (ho : ops[i]? = some o) (c) : o.op ≠ .defer c := by
  intro e
  have := List.all_eq_true.1 h o (by have := List.mem_of_getElem? (l := ops.toList) (i := i) (by simpa using ho); exact this)
  rw [e] at this
  cases this
theorem wpOps_round {l n : Nat} {Q : Exit → Act → World → Prop} (hd : noDefer ops = true) (hQ : ¬ LetsOut Q) (L : List Nat) : ∀ (a : Act) (w : World), wpOps P ops Q L a w → wpOpsIn (Fence.wide.inRound l) n P ops Q L a w := by
  induction L with
  | nil => intro a w h; exact h
  | cons i L ih =>
    intro a w h
    unfold wpOps at h
    unfold wpOpsIn
    cases ho : ops[i]? with
    | none => simp only [ho] at h ⊢; exact ih a w h
    | some o =>
      simp only [ho] at h ⊢
      by_cases hw : Region.wanted o (yielded ops a.tmps) = true
      · rw [if_pos hw] at h ⊢
        rcases h with h | ⟨_, h⟩
        · refine ⟨fun _ _ => trivial, ?_⟩
          rw [Oper.semAt_eq _ _ _ (noDefer_spec hd ho)]
          have h2 := upon_round (l := l) (n := n) h
          revert h2
          generalize (execOp a.eval o).run P w = r
          intro h2
          cases r with
          | ok x w' =>
            cases x <;> simp only [Oper.uponIn] at h2 ⊢
            case value v => exact ih _ _ h2
            case skip => exact ih _ _ h2
            case defer d => exact ih _ _ h2
            case enter f args =>
              refine ⟨h2.1, CallsIn.mono h2.2 fun e w'' he => ?_⟩
              cases e with
              | returned v => exact ih _ _ he
              | panicked c => exact he
              | outgrown => exact he
            case row row args => exact ⟨h2.1, RowsIn.mono h2.2 fun v w'' he => ih _ _ he⟩
            case round k f tmps assign body =>
              refine ⟨h2.1, RoundIn.mono h2.2 fun e w'' he => ?_⟩
              cases e with
              | returned v => exact ih _ _ he
              | panicked c => exact he
              | outgrown => exact he
          | halt x w' => cases x <;> simp only [Oper.uponIn] at h2 ⊢ <;> exact h2
        · exact absurd h hQ
      · rw [if_neg hw] at h ⊢
        exact ⟨fun _ _ => trivial, ih _ _ h⟩
theorem wpIn_region_last {l n : Nat} {Q : Exit → Act → World → Prop} {id : Nat} {a : Act} {w : World} (S T : World → Prop) (hm : P.follows .mixedOrders = true) (hok : (textOk ops && lastWaits ops) = true) (hd : noDefer ops = true) (hpos : 0 < ops.size) (hQ : ¬ LetsOut Q) (hS : S w.drew)
    (h : wpText P ops S T (fun a' => ∀ w1, T w1 → Q .normal a' w1) ops.toList a) : (Code.region id ops true).wpIn (Fence.wide.inRound l) n P Q a w := by
  rw [Bool.and_eq_true] at hok
  have ht := textOk_spec hok.1
  obtain ⟨vs, _, ⟨aN, hN, hQ'⟩, hop⟩ := wpText_vals ht a ops.toList 0 (fun _ => undef) a rfl (by simp) (Held.start _ a _ (fun i _ => by simp)) h
  have hany : wpAny P .any ops Q ops.size (Array.replicate ops.size false) a { w with drawn := w.drawn + 1 } := by
    refine wpAny_text ht hN hQ' (.inr hok.2) hpos (fun i o ho => hop i o (Nat.zero_le _) ho) ops.size _ a _ (by simp) ?_ ?_ ?_ (by simp only [Array.getD_eq_getD_getElem?, Array.getElem?_replicate]; split <;> exact hS)
    · exact Held.start _ a _ (fun i hi => by simp [hi])
    · intro j oj hj hl
      have := (Array.getElem?_eq_some_iff.1 hj).1
      simp [this] at hl
    · exact Nat.le_trans (List.length_filter_le _ _) (by simp)
  refine wpIn_region_draw fun t => wpOps_round hd hQ _ _ _ ?_
  simp only [Region.schedule, hm, Bool.true_or, if_true]
  exact wpAny_sound ops.size t _ a _ hany
end

/-- Two blocks lie as they lay. -/
def KeepB (a b : Nat) (W W' : World) : Prop := W.heap.size ≤ W'.heap.size ∧ ∀ k, (k = a ∨ k = b) → k < W.heap.size → W'.heap[k]? = W.heap[k]?
theorem KeepB.trans {a b : Nat} {A B C : World} (h : KeepB a b A B) (k : KeepB a b B C) : KeepB a b A C := ⟨Nat.le_trans h.1 k.1, fun i hi hl => (k.2 i hi (Nat.lt_of_lt_of_le hl h.1)).trans (h.2 i hi hl)⟩
theorem KeepB.refl (a b : Nat) (W : World) : KeepB a b W W := ⟨Nat.le_refl _, fun _ _ _ => rfl⟩
theorem KeepB.put {a b : Nat} {w : World} (ha : a < w.heap.size) (hb : b < w.heap.size) (W : World) (l : Nat) (o o' : Obj) (hl : w.heap.size ≤ l) (h : W.heap[l]? = some o) (_ : o.isCells = false) (_ : o.isWalk = false) : KeepB a b W (W.putObj l o') :=
  ⟨by simp, fun k hk _ => World.putObj_heap_other (by rcases hk with e | e <;> omega)⟩
theorem KeepB.cell {a b : Nat} {W W' : World} (h : KeepB a b W W') {p : Addr} {v : Value} (hp : p.block = a ∨ p.block = b) (hc : W.cell? p = some v) : W'.cell? p = some v :=
  (World.cell?_of_block (h.2 p.block hp (lt_of_cell hc))).trans hc
set_option maxRecDepth 100000 in
set_option maxHeartbeats 2000000 in
theorem back1_in {α : Type} (encs : α → Array Value) (ys : List α) (l BB g m c n : Nat) (A : Option Addr) (zs : List Int) (hn : 1 ≤ n) (hm : m ≤ 1048576) (hA : 0 < m → ∃ o, A = some ⟨g, o, none⟩) (hys : ys.length = m)
    (henc : ∀ (j : Nat) (x : α), ys[j]? = some x → encs x = #[.int .i64 ((m : Int) - 1 - (j : Int)), .int .i64 (zs.getD (m - 1 - j) 0)]) (J Jx : List α → World → Prop)
    (hY : ∀ pre x W, J pre W → pre.length < m → YieldAt Fence.wide (n - 1) Tryz.prog l (encs x) W fun e W' =>
      (e = .returned (.bool true) ∧ J (pre ++ [x]) W' ∧ KeepB BB g W W') ∨ (e = .returned (.bool false) ∧ Jx (pre ++ [x]) W'))
    (W : World) (hB : W.cell? ⟨BB, 0, none⟩ = some (.slice A m c)) (hc : Sl W 1 A m (ints zs)) (h0 : J [] W) :
    CallsIn Fence.wide n Tryz.prog 168 #[.func (.yield l) #[] #[], .pointer (some ⟨BB, 0, none⟩)] W fun e W' => (∃ v, e = .returned v) ∧
      ((∃ zs, zs = ys ∧ J zs W') ∨ (∃ pre, True ∧ Jx pre W')) := by
  have hzl : zs.length = m := hc.ilen
  have HC := Lib.hid hc
  have HA := Lib.hid hA
  have Hzl := Lib.hid hzl
  have Hys := Lib.hid hys
  clear hc hA hzl hys
  have hw1 : IntKind.i64.wrap ((m : Int) - 1) = (m : Int) - 1 := IntWalk.i64_in _ (by omega)
  refine callsIn_of_wp Tryz.func168 rfl trivial ?_ rfl
  simp only [Tryz.func168, Tryz.ntmps168, List.size_toArray, List.length_cons, List.length_nil, Nat.reduceAdd, Nat.reduceSub, Array.replicate_succ, Array.replicate_zero, List.push_toArray, List.append_toArray, List.nil_append, List.cons_append]
  gi_wp2
  gi_loopw [3] (fun i wr => ∃ k : Nat, k ≤ m ∧ i = .int .i64 ((m : Int) - 1 - (k : Int)) ∧ J (ys.take k) wr ∧ KeepB BB g W wr) (fun i _ => (intOf i + 1).toNat)
  case atStart => exact ⟨0, Nat.zero_le _, by congr 1; omega, h0, KeepB.refl _ _ _⟩
  case round =>
    obtain ⟨k, hk, rfl, hJs, hkp⟩ := hrel
    have hBr := hkp.cell (Or.inl rfl) hB
    by_cases hlt : k < m
    · obtain ⟨x, hx⟩ : ∃ x, ys[k]? = some x := ⟨_, List.getElem?_eq_getElem (by rw [Hys.out]; exact hlt)⟩
      have hstep : ys.take (k + 1) = ys.take k ++ [x] := by rw [List.take_add_one, hx]; rfl
      obtain ⟨fn, tmps, assign, body, hy, hR⟩ := hY _ x wr hJs (by rw [List.length_take, Hys.out]; omega)
      rw [henc k x hx] at hy
      obtain ⟨K, hK⟩ : ∃ K, K = m - 1 - k := ⟨_, rfl⟩
      rw [← hK] at hy
      have hKi : (m : Int) - 1 - (k : Int) = (K : Int) := by omega
      rw [hKi] at hy ⊢
      obtain ⟨z, hz⟩ : ∃ z, z = zs.getD K 0 := ⟨_, rfl⟩
      rw [← hz] at hy
      obtain ⟨o', rfl⟩ := HA.out (by omega)
      obtain ⟨b, o, hAA, _, hcell⟩ := HC.out.int (k := K) (x := z) (by rw [hz, List.getD_eq_getElem?_getD, List.getElem?_eq_getElem (by have := Hzl.out; omega)]; rfl)
      have hcr : wr.cell? ⟨g, o' + K, none⟩ = some (.int .i64 z) := by
        injection hAA with h1
        injection h1 with h2 h3
        rw [h2, h3]
        exact hkp.cell (p := ⟨b, o + K, none⟩) (Or.inr h2.symm) hcell
      have s0 : (0 : Int) ≤ (K : Int) := by omega
      have s1 : (K : Int) < (m : Int) := by omega
      have hwk : IntKind.i64.wrap ((K : Int) - 1) = (K : Int) - 1 := IntWalk.i64_in _ (by omega)
      have HK := Lib.hid hK
      clear hK hKi hz hAA hcell
      gi_wp2
      refine hR.mono ?_
      rintro e W3 (⟨rfl, hJ3, hk3⟩ | ⟨rfl, hJx3⟩)
      · gi_wp2
        go_roundw
        case rel => exact ⟨k + 1, by omega, by congr 1; have := HK.out; omega, by rw [hstep]; exact hJ3, hkp.trans hk3⟩
        case measure => first | (simp [intOf]; done) | (simp [intOf]; omega)
      · gi_wp2
        refine bodyPost_ret (results_none rfl _ _ _) rfl ?_
        exact ⟨⟨_, rfl⟩, .inr ⟨_, trivial, hJx3⟩⟩
    · obtain rfl : k = m := by omega
      have hi : (k : Int) - 1 - (k : Int) = -1 := by omega
      rw [hi]
      have ht : ys.take k = ys := List.take_of_length_le (by rw [Hys.out]; exact Nat.le_refl _)
      rw [ht] at hJs
      clear hi
      gi_wp2
      go_end0
      exact ⟨⟨_, rfl⟩, .inl ⟨_, rfl, hJs⟩⟩
theorem backward_any (A : Option Addr) (m c : Nat) (w : World) :
    Calls Tryz.prog 157 #[.slice A m c] w fun e w' => e = .returned (.func (.func 168) #[] #[.pointer (some ⟨w.heap.size, 0, none⟩)]) ∧ w' = w.alloc (.cells #[.slice A m c] 26) := by
  go_enter Tryz.func157, Tryz.ntmps157
  go_wp2_with fail
  go_ret
  exact ⟨rfl, rfl⟩
theorem back_stops {α : Type} (encs : α → Array Value) (ys : List α) (BB g m c n : Nat) (A : Option Addr) (zs : List Int) (w : World) (hn : 1 ≤ n) (hm : m ≤ 1048576) (hA : 0 < m → ∃ o, A = some ⟨g, o, none⟩) (hys : ys.length = m)
    (henc : ∀ (j : Nat) (x : α), ys[j]? = some x → encs x = #[.int .i64 ((m : Int) - 1 - (j : Int)), .int .i64 (zs.getD (m - 1 - j) 0)])
    (hB : w.cell? ⟨BB, 0, none⟩ = some (.slice A m c)) (hc : Sl w 1 A m (ints zs)) :
    SeqStopsK Fence.wide n Tryz.prog 168 #[.pointer (some ⟨BB, 0, none⟩)] encs (KeepB BB g) (fun xs => xs = ys) (fun _ => True) m w := fun l J Jx W hW _ _ hY h0 =>
  back1_in encs ys l BB g m c n A zs hn hm hA hys henc J Jx hY W ((hW.cell (lt_of_cell hB)).trans hB) (hc.gr hW) h0
end Go.Proofs.YthhmhigddmimjaaGreat
/-
  The flows of the forest: the program. Printed by gen_pt7.py.
-/
set_option linter.unusedSimpArgs false
set_option linter.unusedVariables false
namespace Go.Proofs.YthhmhigddmimjaaGreat
open Go.ChangeShapes Go.WideShapes Go.ChangeAt Go.RowKit

attribute [local go_sem] Oper.semAt_some
theorem sl_tail {w : World} {base g n c : Nat} {l : List Nat} (h : w.ownsRow base 2 1 (.slice (some ⟨g, 0, none⟩) n c) n (nats l)) (h0 : 0 < n) : Sl w 1 (some ⟨g, 1, none⟩) (n - 1) (ints (casts (l.drop 1))) := by
  have hl : l.length = n := by have := own_ilen h; rwa [List.length_map] at this
  have hlt := own_block_lt h (k := g) rfl
  refine ⟨by simp [ints, casts]; omega, fun _ => ⟨g, 1, rfl, hlt, fun j u hj => ?_⟩⟩
  rw [ints, List.getElem?_map, casts, List.getElem?_map, List.getElem?_drop] at hj
  obtain ⟨b, o, e, hb, hrow⟩ := (Sl.of_own h).2 h0
  injection e with e
  injection e with e1 e2
  subst e1
  subst e2
  have := hrow (1 + j) u (by rw [nats, ints, List.getElem?_map, List.getElem?_map]; exact hj)
  rwa [Nat.zero_add] at this
theorem sl_tail0 {w : World} {A : Option Addr} {n : Nat} {l : List Nat} (h : n = 1) (hl : l.length = n) : Sl w 1 A (n - 1) (ints (casts (l.drop 1))) := by
  subst h
  refine ⟨?_, fun h => absurd h (by omega)⟩
  simp [ints, casts]; omega
theorem backward_any2 (A : Option Addr) (m c : Nat) (w : World) :
    Calls Tryz.prog 157 #[.slice A m c] w fun e w' => e = .returned (.func (.func 168) #[] #[.pointer (some ⟨w.heap.size, 0, none⟩)]) ∧ Gr w w' ∧ w'.heap.size = w.heap.size + 1 ∧ w'.cell? ⟨w.heap.size, 0, none⟩ = some (.slice A m c) := by
  refine (backward_any A m c w).mono ?_
  rintro e w' ⟨rfl, rfl⟩
  exact ⟨rfl, (Gr.refl _).alloc _, by simp, by simp [go_sem]⟩
/-- What a node brings. -/
structure NdAt (n : GNet) (N v q bk : Nat) (p : GPipe) : Prop where
  ql : q < n.pipes.length
  px : n.pipes[q]? = some p
  en : (entL N 0 (sZ (eds n.pipes) N))[v]? = some (q : Int)
  tc : touch (edOf p) v = true
  ot : oth (edOf p) v = bk
  bl : bk < N
  ne : bk ≠ v
  st : ∀ s : List Int × List Int, ffOne (eds n.pipes) N s v = (s.1.set q (if p.dst = (v : Int) then -(s.2.getD v 0) else s.2.getD v 0), s.2.set bk (s.2.getD bk 0 + s.2.getD v 0))
theorem nd_at {n : GNet} {N v : Nat} (hN : n.nodes.length = N) (hn : netOk n = true) (hc : conB (eds n.pipes) N = true) (hv : v < N) (h0 : v ≠ 0) : ∃ q bk p, NdAt n N v q bk p := by
  have hE : EsOk (eds n.pipes) N := by have := eds_ok hn; rw [hN] at this; exact this
  have h0N : 0 < N := by omega
  obtain ⟨e, j, i, q1, _, q2, _, q5, q6⟩ := con_at hE hc hv h0
  obtain ⟨q, hq⟩ : ∃ q, q = entZ (eds n.pipes) N v := ⟨_, rfl⟩
  obtain ⟨bk, hb⟩ : ∃ b, b = back (eds n.pipes) (sZ (eds n.pipes) N) v := ⟨_, rfl⟩
  rw [← hq] at q1
  rw [← hb] at q2 q5
  have hbl : bk < N := z_lt hE h0N (List.mem_of_getElem? q2)
  have hql : q < n.pipes.length := by
    have := (List.getElem?_eq_some_iff.1 q1).1
    rw [eds, List.length_map] at this
    exact this
  obtain ⟨x, hx⟩ : ∃ x, n.pipes[q]? = some x := ⟨_, List.getElem?_eq_getElem hql⟩
  have hex : edOf x = e := by
    rw [eds, List.getElem?_map, hx] at q1
    simpa using q1
  obtain ⟨xa1, xa2, _⟩ := pipeOk_all ((netOk_all hn).2 q x hx)
  have hel := entL_at hE h0N hc hv
  rw [if_neg h0, ← hq] at hel
  have hed : (eds n.pipes).getD q dE = e := by rw [List.getD_eq_getElem?_getD, q1]; rfl
  have hot : oth (edOf x) v = bk := by
    rw [hb, back, show (sZ (eds n.pipes) N).ent.getD v 0 = q from hq.symm, hed, hex]
  have hdt : ((edOf x).t = v) ↔ (x.dst = (v : Int)) := by
    have : (edOf x).t = x.dst.toNat := rfl
    omega
  refine ⟨q, bk, x, hql, hx, ?_, ?_, hot, hbl, ?_, fun s => ?_⟩
  · rw [get_int (by simp [entL]; exact hv), hel]
  · rw [hex, touch]
    rcases q5 with ⟨_, y⟩ | ⟨_, y⟩
    · simp [y]
    · simp [y]
  · rcases q5 with ⟨a, b⟩ | ⟨a, b⟩ <;> omega
  · have hX : ffX (eds n.pipes) N v (s.2.getD v 0) = if x.dst = (v : Int) then -(s.2.getD v 0) else s.2.getD v 0 := by
      rw [ffX, ← hq, hed, ← hex]
      by_cases c : x.dst = (v : Int)
      · rw [if_pos c, if_pos (hdt.2 c)]
      · rw [if_neg c, if_neg (fun e => c (hdt.1 e))]
    rw [ffOne, ← hq, ← hb, hX]
theorem enc_ok {es : List Ed} {N : Nat} (hE : EsOk es N) (hc : conB es N = true) {j : Nat} {x : NdE N} (h : (ysOf hE hc)[j]? = some x) : (#[.int .i64 x.1, .int .i64 (x.2.val : Int)] : Array Value) = #[.int .i64 (((N - 1 : Nat) : Int) - 1 - (j : Int)), .int .i64 ((casts ((ordZ es N 0).drop 1)).getD (N - 1 - 1 - j) 0)] := by
  have hj : j < N - 1 := by
    have := (List.getElem?_eq_some_iff.1 h).1
    rw [ys_len] at this
    exact this
  obtain ⟨a, b⟩ := ys_at hE hc h
  have e : (casts ((ordZ es N 0).drop 1)).getD (N - 1 - 1 - j) 0 = (x.2.val : Int) := by
    rw [List.getD_eq_getElem?_getD, casts, List.getElem?_map, List.getElem?_drop, show 1 + (N - 1 - 1 - j) = N - 1 - j by omega, b]; rfl
  have e2 : ((N - 1 : Nat) : Int) - 1 - (j : Int) = (N : Int) - 2 - j := by omega
  rw [e, e2, a]
theorem keepsFrom_chg {B : Nat} {S : Nat → Prop} {W W' : World} (h : Chg S W W') (hS : ∀ j, S j → j < B) : KeepsFrom B W W' := ⟨h.size, fun k o hk ho _ => (h.block k (Array.getElem?_eq_some_iff.1 ho).1 (fun e => by have := hS k e; omega)).trans ho⟩
theorem keepB_chg {a b : Nat} {S : Nat → Prop} {W W' : World} (h : Chg S W W') (ha : ¬ S a) (hb : ¬ S b) : KeepB a b W W' := ⟨h.size, fun k hk hl => h.block k hl (fun e => by rcases hk with rfl | rfl; exact ha e; exact hb e)⟩
theorem own_from {β : Type} {B base F n c s : Nat} {e : TypeId} {xs : β → List Value} (hF : F < B) : OwnFrom B (fun (b : β) W => W.ownsRow base e s (.slice (some ⟨F, 0, none⟩) n c) n (xs b)) :=
  fun b W W' row hs hg hr => own_chg (S := fun k => row = some k) hs (chg_of_grown hg (fun k e => e)) (fun j hj e => by
    have h1 := (hr j e).1
    simp [Value.ownBlock] at hj
    omega)
theorem chg_from {β : Type} {B : Nat} {S : Nat → Prop} {w0 : World} (hB : w0.heap.size ≤ B) : OwnFrom B (fun (_ : β) W => Chg S w0 W) :=
  fun b W W' row hs hg hr => by
    have h : Chg (fun k => S k ∨ row = some k) w0 W' := (hs.mono (fun k e => Or.inl e)).trans (chg_of_grown hg (fun k e => Or.inr e))
    exact ⟨h.os, h.tape, h.output, h.size, fun i hi hn => h.block i hi (fun e => e.elim hn (fun e => by have := (hr i e).1; omega))⟩
set_option maxHeartbeats 6400000 in
set_option maxRecDepth 100000 in
theorem forestFlows_any {A1 A2 A3 : Option Addr} {n1 c1 n2 c2 c3 : Nat} (n : GNet) (sup : List Int) (w : World) (hA : NetAt w A1 n1 c1 A2 n2 c2 n) (hS : SlAt w 1 A3 n1 c3 (ints sup)) (hok : netOk n = true) (hc : conB (eds n.pipes) n1 = true) (hb : ∀ z ∈ sup, -30000 ≤ z ∧ z ≤ 30000) :
    Calls Tryz.prog 141 #[.agg #[.slice A1 n1 c1, .slice A2 n2 c2], .slice A3 n1 c3] w fun e w' => ∃ F, e = .returned (.slice (some ⟨F, 0, none⟩) n2 n2) ∧ w'.ownsRow w.heap.size 2 1 (.slice (some ⟨F, 0, none⟩) n2 n2) n2 (ints (ffL (eds n.pipes) n1 sup)) ∧ Gr w w' := by
  obtain ⟨i0, hi0, hz0, hz1, hz2⟩ := info_parts infoInt64
  have hm1 := hA.m1
  have hm2 := hA.m2
  have hE : EsOk (eds n.pipes) n1 := by have := eds_ok hok; rw [hA.l1] at this; exact this
  have h24 : n1 ≤ 24 := by have := (netOk_all hok).1.2.1; rw [hA.l1] at this; exact this
  have h0 : 0 < n1 := by have := (netOk_all hok).1.1; rw [hA.l1] at this; omega
  have hel : (eds n.pipes).length = n2 := by rw [eds, List.length_map]; exact hA.l2
  have hol : (ordZ (eds n.pipes) n1 0).length = n1 := of_decide_eq_true hc
  have hcm := con_comps hE h0 hc
  have hsl := hS.sl.ilen
  have Hnl := Lib.hid hA.l1
  have hone : ∀ u ∈ ints sup, u.oneCell' = true := by intro u hu; simp only [ints, List.mem_map] at hu; obtain ⟨z, _, rfl⟩ := hu; rfl
  have HE := Lib.hid hE
  have Hc := Lib.hid hc
  have HA := Lib.hid hA
  have HS := Lib.hid hS
  have Hok := Lib.hid hok
  have Hel := Lib.hid hel
  have Hol := Lib.hid hol
  have Hcm := Lib.hid hcm
  have Hb := Lib.hid hb
  have Hsl := Lib.hid hsl
  have Hone := Lib.hid hone
  clear hA hok hE hel hS hb hsl hone hc hol hcm
  refine (callsIn_wide (n := 3)).1 (callsIn_of_wp_marks Tryz.func141 rfl trivial (wpIn_wide.2 ?_) rfl)
  simp only [Tryz.func141, Tryz.ntmps141, List.size_toArray, List.length_cons, List.length_nil, Nat.reduceAdd, Nat.reduceSub, Array.replicate_succ, Array.replicate_zero, List.push_toArray, List.append_toArray, List.nil_append, List.cons_append]
  go_wp2_with (first
    | (at_make; refine wpList_make_full _ rfl _ _ _ rfl w.heap.size 2 i0 _ 1 Tryz.underlying26 hi0 hz0 hz1 .i64 .i64 _ _ n2 rfl rfl rfl rfl (by rw [hz2]; omega) (by unfold maxLen; omega) (by simp) ?_; intro w1 hown1 hg1; have hq1 : Gr (w.alloc (.cells #[.slice A1 n1 c1, .slice A2 n2 c2] 32)) w1 := Gr.of_grown hg1; have b0 : w1.cell? ⟨w.heap.size, 0, none⟩ = some (.slice A1 n1 c1) := hq1.has (by simp [go_sem]); have b1 : w1.cell? ⟨w.heap.size, 1, none⟩ = some (.slice A2 n2 c2) := hq1.has (by simp [go_sem]); have hgw1 : Gr w w1 := ((Gr.refl _).alloc _).trans hq1; have Ho1 := Lib.hid hown1; have z1 := hq1.size; clear hown1)
    | fail)
  have o1 : w1.ownsRow w.heap.size 2 1 (.slice (some ⟨w.heap.size + 1, 0, none⟩) n2 n2) n2 (ints (List.replicate n2 0)) := by
    have := own_cells_eq Ho1.out (made_ints n2)
    simpa using this
  have l1 : w.heap.size + 1 < w1.heap.size := own_block_lt o1 rfl
  obtain ⟨F, hF⟩ : ∃ F, F = w.heap.size + 1 := ⟨_, rfl⟩
  rw [← hF] at o1 l1
  rw [← hF]
  obtain ⟨Bf, hBf⟩ : ∃ Bf, Bf = w1.heap.size := ⟨_, rfl⟩
  rw [← hBf] at l1
  rw [← hBf]
  have hFw : w.heap.size < F := by omega
  have O1 := Lib.hid o1
  generalize hwa : w1.alloc _ = wa
  have hga : Gr w1 wa := by rw [← hwa]; exact (Gr.refl _).alloc _
  have hbf : wa.cell? ⟨Bf, 0, none⟩ = some (.slice (some ⟨F, 0, none⟩) n2 n2) := by rw [← hwa, hBf]; simp [go_sem]
  have hgwa := hgw1.trans hga
  have hsa : Bf < wa.heap.size := lt_of_cell hbf
  have Oa := Lib.hid (own_gr O1.out hga)
  replace b0 := hga.has b0
  replace b1 := hga.has b1
  clear Ho1 hF hBf hwa o1 O1 hga hq1 z1 hg1
  refine (cloneInt_any (ints sup) _ (by omega) (HS.out.sl.gr hgwa) Hone.out).mono ?_
  rintro e w2 ⟨LA, cL, rfl, hL, hg2⟩
  obtain ⟨L, rfl, hLa, hLb⟩ := own_form hL h0
  have HL2 := Lib.hid (own_base hL hgwa.size)
  have O2 := Lib.hid (own_gr Oa.out hg2)
  have hgw2 := hgwa.trans hg2
  replace b0 := hg2.has b0
  replace b1 := hg2.has b1
  replace hbf := hg2.has hbf
  have hbl2 := lt_of_cell b0
  have hbf2 := lt_of_cell hbf
  have hLl2 := own_block_lt HL2.out (k := L) rfl
  clear hL Oa
  go_wp2_with fail
  obtain ⟨Bl, hBl⟩ : ∃ Bl, Bl = w2.heap.size := ⟨_, rfl⟩
  rw [← hBl] at hbl2 hbf2 hLl2
  rw [← hBl]
  generalize hwb : w2.alloc _ = wb
  have hgb : Gr w2 wb := by rw [← hwb]; exact (Gr.refl _).alloc _
  have hbL : wb.cell? ⟨Bl, 0, none⟩ = some (.slice (some ⟨L, 0, none⟩) n1 cL) := by rw [← hwb, hBl]; simp [go_sem]
  have hgwb := hgw2.trans hgb
  have HLb := Lib.hid (own_gr HL2.out hgb)
  have Ob := Lib.hid (own_gr O2.out hgb)
  replace b0 := hgb.has b0
  replace b1 := hgb.has b1
  replace hbf := hgb.has hbf
  have hBlb : Bl < wb.heap.size := lt_of_cell hbL
  clear hwb HL2 O2 hgb hBl
  refine (componentsOf_any n _ (HA.out.gr hgwb) Hok.out).mono ?_
  rintro e w3 ⟨G, rfl, hG, hg3⟩
  rw [Hcm.out] at hG
  have hGb := own_base_le hG (k := G) rfl
  have HG := Lib.hid hG
  have HL3 := Lib.hid (own_gr HLb.out hg3)
  have O3 := Lib.hid (own_gr Ob.out hg3)
  have hgw3 := hgwb.trans hg3
  replace b0 := hg3.has b0
  replace b1 := hg3.has b1
  replace hbf := hg3.has hbf
  replace hbL := hg3.has hbL
  clear hG HLb Ob
  go_wp2_with fail
  refine wp_loop (fun a' wr => ∃ (df : List Deferred) (u7 u8 u9 u11 u12 u13 u23 u24 u25 u26 u27 u28 u29 u30 u31 u32 u33 u34 u35 u36 u37 u40 u41 u42 u43 u44 u45 u46 u47 u48 u49 u50 u51 u52 u53 u54 u55 u56 u57 u58 u59 u60 u61 u62 u63 u64 u65 u66 u67 u68 u69 u70 u71 u72 u73 u74 u75 u76 u77 u78 u79 u80 u81 : Value), (∃ k : Nat, k ≤ n1 ∧ u23 = .int .i64 k ∧ (k = 0 → df = []) ∧ (k ≠ 0 → ∃ D, df = [{ target := .collected D, args := #[] }] ∧ F < D ∧ wr.heap[D]? = some (.deferred (some []))) ∧ wr.ownsRow w.heap.size 2 1 (.slice (some ⟨F, 0, none⟩) n2 n2) n2 (ints (if k = 0 then List.replicate n2 0 else ffL (eds n.pipes) n1 sup)) ∧ (∃ lf, (k = 0 → lf = sup) ∧ wr.ownsRow w.heap.size 2 1 (.slice (some ⟨L, 0, none⟩) n1 cL) n1 (ints lf)) ∧ wr.ownsRow wb.heap.size 2 1 (.slice (some ⟨G, 0, none⟩) n1 n1) n1 (ints (List.replicate n1 0)) ∧ Gr w wr ∧ wr.cell? ⟨w.heap.size, 0, none⟩ = some (.slice A1 n1 c1) ∧ wr.cell? ⟨w.heap.size, 1, none⟩ = some (.slice A2 n2 c2) ∧ wr.cell? ⟨Bf, 0, none⟩ = some (.slice (some ⟨F, 0, none⟩) n2 n2) ∧ wr.cell? ⟨Bl, 0, none⟩ = some (.slice (some ⟨L, 0, none⟩) n1 cL)) ∧ a' = { tmps := #[.agg #[.slice A1 n1 c1, .slice A2 n2 c2], .slice A3 n1 c3, .pointer (some ⟨w.heap.size, 0, none⟩), undef, .slice none 0 0, .pointer (some ⟨Bf, 0, none⟩), .pointer (some ⟨Bl, 0, none⟩), u7, u8, u9, undef, u11, u12, u13, .pointer (some ⟨w.heap.size, 1, none⟩), .slice A2 n2 c2, .int .i64 (n2 : Int), .slice (some ⟨F, 0, none⟩) n2 n2, .slice A3 n1 c3, .slice (some ⟨L, 0, none⟩) n1 cL, .agg #[.slice A1 n1 c1, .slice A2 n2 c2], .slice (some ⟨G, 0, none⟩) n1 n1, .int .i64 (n1 : Int), u23, u24, u25, u26, u27, u28, u29, u30, u31, u32, u33, u34, u35, u36, u37, undef, undef, u40, u41, u42, u43, u44, u45, u46, u47, u48, u49, u50, u51, u52, u53, u54, u55, u56, u57, u58, u59, u60, u61, u62, u63, u64, u65, u66, u67, u68, u69, u70, u71, u72, u73, u74, u75, u76, u77, u78, u79, u80, u81, undef], defers := df }) (fun a' _ => n1 - (intOf (a'.tmps.getD 23 undef)).toNat) ?_ ?_
  · (repeat apply Exists.intro)
    refine ⟨⟨0, Nat.zero_le _, rfl, fun _ => rfl, fun h => absurd rfl h, O3.out, ⟨sup, fun _ => rfl, HL3.out⟩, HG.out, hgw3, b0, b1, hbf, hbL⟩, rfl⟩
  intro _ wr hinv
  obtain ⟨df, hinv⟩ := hinv
  obtain ⟨u7, hinv⟩ := hinv
  obtain ⟨u8, hinv⟩ := hinv
  obtain ⟨u9, hinv⟩ := hinv
  obtain ⟨u11, hinv⟩ := hinv
  obtain ⟨u12, hinv⟩ := hinv
  obtain ⟨u13, hinv⟩ := hinv
  obtain ⟨u23, hinv⟩ := hinv
  obtain ⟨u24, hinv⟩ := hinv
  obtain ⟨u25, hinv⟩ := hinv
  obtain ⟨u26, hinv⟩ := hinv
  obtain ⟨u27, hinv⟩ := hinv
  obtain ⟨u28, hinv⟩ := hinv
  obtain ⟨u29, hinv⟩ := hinv
  obtain ⟨u30, hinv⟩ := hinv
  obtain ⟨u31, hinv⟩ := hinv
  obtain ⟨u32, hinv⟩ := hinv
  obtain ⟨u33, hinv⟩ := hinv
  obtain ⟨u34, hinv⟩ := hinv
  obtain ⟨u35, hinv⟩ := hinv
  obtain ⟨u36, hinv⟩ := hinv
  obtain ⟨u37, hinv⟩ := hinv
  obtain ⟨u40, hinv⟩ := hinv
  obtain ⟨u41, hinv⟩ := hinv
  obtain ⟨u42, hinv⟩ := hinv
  obtain ⟨u43, hinv⟩ := hinv
  obtain ⟨u44, hinv⟩ := hinv
  obtain ⟨u45, hinv⟩ := hinv
  obtain ⟨u46, hinv⟩ := hinv
  obtain ⟨u47, hinv⟩ := hinv
  obtain ⟨u48, hinv⟩ := hinv
  obtain ⟨u49, hinv⟩ := hinv
  obtain ⟨u50, hinv⟩ := hinv
  obtain ⟨u51, hinv⟩ := hinv
  obtain ⟨u52, hinv⟩ := hinv
  obtain ⟨u53, hinv⟩ := hinv
  obtain ⟨u54, hinv⟩ := hinv
  obtain ⟨u55, hinv⟩ := hinv
  obtain ⟨u56, hinv⟩ := hinv
  obtain ⟨u57, hinv⟩ := hinv
  obtain ⟨u58, hinv⟩ := hinv
  obtain ⟨u59, hinv⟩ := hinv
  obtain ⟨u60, hinv⟩ := hinv
  obtain ⟨u61, hinv⟩ := hinv
  obtain ⟨u62, hinv⟩ := hinv
  obtain ⟨u63, hinv⟩ := hinv
  obtain ⟨u64, hinv⟩ := hinv
  obtain ⟨u65, hinv⟩ := hinv
  obtain ⟨u66, hinv⟩ := hinv
  obtain ⟨u67, hinv⟩ := hinv
  obtain ⟨u68, hinv⟩ := hinv
  obtain ⟨u69, hinv⟩ := hinv
  obtain ⟨u70, hinv⟩ := hinv
  obtain ⟨u71, hinv⟩ := hinv
  obtain ⟨u72, hinv⟩ := hinv
  obtain ⟨u73, hinv⟩ := hinv
  obtain ⟨u74, hinv⟩ := hinv
  obtain ⟨u75, hinv⟩ := hinv
  obtain ⟨u76, hinv⟩ := hinv
  obtain ⟨u77, hinv⟩ := hinv
  obtain ⟨u78, hinv⟩ := hinv
  obtain ⟨u79, hinv⟩ := hinv
  obtain ⟨u80, hinv⟩ := hinv
  obtain ⟨u81, hinv⟩ := hinv
  obtain ⟨hrel, ha⟩ := hinv
  subst ha
  try dsimp only
  obtain ⟨k, hk, rfl, hdf0, hdf1, hO, ⟨lf0, hlf0, hL⟩, hG, hgr, y0, y1, z0, z1⟩ := hrel
  have HOr := Lib.hid hO
  have HLr := Lib.hid hL
  have HGr := Lib.hid hG
  clear hO hL hG O3 HL3 HG hgw3 b0 b1 hbf hbL
  by_cases hlt : k < n1
  · obtain ⟨d0, _⟩ := own_int HGr.out (k := k) (x := 0) (by rw [List.getElem?_replicate, if_pos hlt])
    have t1 : (k : Int) < (n1 : Int) := by omega
    have t0 : (0 : Int) ≤ (k : Int) := by omega
    by_cases hk0 : k = 0
    · subst hk0
      obtain rfl := hdf0 rfl
      rw [if_pos rfl] at HOr
      rw [hlf0 rfl] at HLr
      clear hdf0 hdf1 hlf0
      go_wp2_with fail
      refine (searchFrom0_any n _ (HA.out.gr hgr) Hok.out h0).mono ?_
      rintro e w5 ⟨O, D', E, rfl, ⟨AO, cO, rfl⟩, hE5, hO5, hg5⟩
      rw [Hol.out] at hO5
      have hcap := own_cap hO5
      obtain ⟨gO, rfl, hgO1, hgO2⟩ := own_form hO5 h0
      rw [Hol.out]
      have HE5 := Lib.hid hE5
      have HO5 := Lib.hid hO5
      have HOx := Lib.hid (own_gr HOr.out hg5)
      have HLx := Lib.hid (own_gr HLr.out hg5)
      have HGx := Lib.hid (own_gr HGr.out hg5)
      replace y0 := hg5.has y0
      replace y1 := hg5.has y1
      replace z0 := hg5.has z0
      replace z1 := hg5.has z1
      have hgw5 := hgr.trans hg5
      have hl5 := lt_of_cell y0
      have hl6 := lt_of_cell z0
      have hl7 := lt_of_cell z1
      clear hE5 hO5 d0 hg5
      have hc1 : 1 ≤ cO := by omega
      rcases Nat.lt_or_ge 1 cO with hcO | hcO
      go_wp2_with fail
      · refine (backward_any2 _ _ _ _).mono ?_
        rintro e w6 ⟨rfl, hg56, hs56, hBB0⟩
        have hg6 : Gr w5 w6 := ((Gr.refl w5).alloc _).trans hg56
        have hBs0 : w6.cell? ⟨w5.heap.size, 2, none⟩ = some (.slice (some ⟨E, 0, none⟩) n1 n1) := hg56.has (by simp [go_sem])
        obtain ⟨Bs, hBse⟩ : ∃ Bs, Bs = w5.heap.size := ⟨_, rfl⟩
        have hBBs : w6.heap.size = Bs + 2 := by rw [hs56, hBse]; simp
        have hBs1 : ∀ cc : Nat, (w5.alloc (.cells #[.slice (some ⟨gO, 0, none⟩) n1 cc, .slice (some ⟨D', 0, none⟩) n1 n1, .slice (some ⟨E, 0, none⟩) n1 n1] 132)).heap.size = Bs + 1 := fun cc => by rw [hBse]; simp
        rw [hBs1] at hBB0 ⊢
        have hBs := hBs0
        rw [← hBse] at hBs
        have HE6 := Lib.hid (own_gr HE5.out hg6)
        have HOr6 := Lib.hid (own_gr HO5.out hg6)
        have HOf6 := Lib.hid (own_gr HOx.out hg6)
        have HLf6 := Lib.hid (own_gr HLx.out hg6)
        have HG6 := Lib.hid (own_gr HGx.out hg6)
        have x0 := hg6.has y0
        have x1 := hg6.has y1
        have x2 := hg6.has z0
        have x3 := hg6.has z1
        have hgw6 := hgw5.trans hg6
        have hgEl := own_block_lt HE5.out (k := E) rfl
        have hgEb := own_base_le HE5.out (k := E) rfl
        have hFl := own_block_lt HOx.out (k := F) rfl
        have hLl := own_block_lt HLx.out (k := L) rfl
        have hGl := own_block_lt HGx.out (k := G) rfl
        have hFb := own_block_lt HOr.out (k := F) rfl
        have hLb2 := own_block_lt HLr.out (k := L) rfl
        obtain ⟨AD, CD, hADo, hSl, hBB⟩ : ∃ (AD : Option Addr) (CD : Nat), (0 < n1 - 1 → ∃ o, AD = some ⟨gO, o, none⟩) ∧ Sl w6 1 AD (n1 - 1) (ints (casts ((ordZ (eds n.pipes) n1 0).drop 1))) ∧ w6.cell? ⟨Bs + 1, 0, none⟩ = some (.slice AD (n1 - 1) CD) := ⟨_, _, fun _ => ⟨_, rfl⟩, by first | exact sl_tail HOr6.out h0 | exact sl_tail0 (by omega) Hol.out, hBB0⟩
        clear hBB0 hBs0 hs56 hg56 hBs1 y0 y1 z0 z1 HE5 HO5 HOx HLx HGx HOr HLr HGr
        go_wp2_with fail
        have hBBl : Bs + 1 < w6.heap.size := by omega
        have hgOl : gO < w6.heap.size := by omega
        have hnF : ∀ j, (j = F ∨ j = L) → j < w6.heap.size := fun j e => by rcases e with rfl | rfl <;> omega
        have hFw' : ∀ j, (j = F ∨ j = L) → w.heap.size ≤ j := fun j e => by rcases e with rfl | rfl <;> omega
        have nBs : ¬ (Bs = F ∨ Bs = L) := by omega
        have nBB : ¬ (Bs + 1 = F ∨ Bs + 1 = L) := by omega
        have nE : ¬ (E = F ∨ E = L) := by omega
        have ngO : ¬ (gO = F ∨ gO = L) := by omega
        have nw : ¬ (w.heap.size = F ∨ w.heap.size = L) := by omega
        have nBf : ¬ (Bf = F ∨ Bf = L) := by omega
        have nBl : ¬ (Bl = F ∨ Bl = L) := by omega
        have nFL : ¬ F = L := by omega
        have hdone : ∀ W : World, Chg (fun j => j = F ∨ j = L) w6 W → Gr w W := fun W hc => Gr.of_chg hgw6 hc hFw'
        rw [← hBse]
        clear hBse
        refine (wpIn_wide (n := 3)).1 ?_
        generalize hact : ({ tmps := _, defers := _ } : Act) = act
        refine wpIn_rangeFunc_ownG (α := NdE n1) (w0 := w6) rfl (by omega) (gf := 168) (lb := #[.pointer (some ⟨Bs + 1, 0, none⟩)]) (by rw [← hact]; rfl) trivial (enters_of Tryz.func168 (by kernel_rfl) rfl) (back_stops (α := NdE n1) (fun x => #[.int .i64 x.1, .int .i64 (x.2.val : Int)]) (ysOf HE.out Hc.out) (Bs + 1) gO (n1 - 1) CD 2 AD (casts ((ordZ (eds n.pipes) n1 0).drop 1)) w6 (by omega) (by omega) hADo (ys_len HE.out Hc.out) (fun j x h => enc_ok HE.out Hc.out h) hBB hSl) (fun h k => KeepB.trans h k) (KeepB.put hBBl hgOl) (Below.refl _ _) (fun _ => rfl) (fun pre W => (W.ownsRow w.heap.size 2 1 (.slice (some ⟨F, 0, none⟩) n2 n2) n2 (ints (ffOver (eds n.pipes) n1 sup (pre.map (fun y => y.2.val))).1) ∧ W.ownsRow w.heap.size 2 1 (.slice (some ⟨L, 0, none⟩) n1 cL) n1 (ints (ffOver (eds n.pipes) n1 sup (pre.map (fun y => y.2.val))).2)) ∧ Chg (fun j => j = F ∨ j = L) w6 W) (fun _ _ _ => False)
          (((own_from (hnF F (Or.inl rfl))).and (own_from (hnF L (Or.inr rfl)))).and (chg_from (Nat.le_refl _))) (fun _ _ _ _ _ hs _ _ => hs) ?init
          (fun x => { tmps := ((act.tmps.setIfInBounds 38 (.int .i64 x.1)).setIfInBounds 39 (.int .i64 (x.2.val : Int))).setIfInBounds 11 (.int .i64 (x.2.val : Int)), defers := [] }) ?assign ?body ?done ?stop
        case init => exact ⟨⟨own_eq' HOf6.out (by rw [ffOver, List.map_nil, List.foldl_nil, Hel.out]), HLf6.out⟩, Chg.refl _ _⟩
        case assign =>
          intro l x W K hK
          subst hact
          simp only [List.setIfInBounds_toArray, List.set_cons_zero, List.set_cons_succ] at hK
          gi_wp2
          exact hK
        case stop =>
          intro D c pre W _ _ h _
          exact h.elim
        case body =>
          rintro l pre x W ⟨⟨hO, hL⟩, hcW⟩ hpl
          subst hact
          simp only [List.setIfInBounds_toArray, List.set_cons_zero, List.set_cons_succ]
          obtain ⟨v, hv⟩ : ∃ v, v = x.2.val := ⟨_, rfl⟩
          have hvl : v < n1 := by rw [hv]; exact x.2.property.1
          have hv0 : v ≠ 0 := by rw [hv]; exact x.2.property.2
          obtain ⟨q, bk, p, S⟩ := nd_at Hnl.out Hok.out Hc.out hvl hv0
          obtain ⟨ls, hls⟩ : ∃ ls, ls = pre.map (fun y => y.2.val) := ⟨_, rfl⟩
          have hll : ls.length < 25 := by rw [hls, List.length_map]; omega
          have hsm := over_small (es := eds n.pipes) (N := n1) Hb.out hll
          have hol := over_len (eds n.pipes) n1 sup ls
          have hst := S.st (ffOver (eds n.pipes) n1 sup ls)
          have Hsn : Hid (ffOver (eds n.pipes) n1 sup ((pre ++ [x]).map (fun y => y.2.val)) = ffOne (eds n.pipes) n1 (ffOver (eds n.pipes) n1 sup ls) v) := Lib.hid (by rw [List.map_append, ← hls, List.map_cons, List.map_nil, ← hv]; exact over_snoc _ _ _ _ _)
          rw [← hls] at hO hL
          rw [← hv]
          obtain ⟨fl, hfl⟩ : ∃ fl, fl = (ffOver (eds n.pipes) n1 sup ls).1 := ⟨_, rfl⟩
          obtain ⟨lf, hlf⟩ : ∃ lf, lf = (ffOver (eds n.pipes) n1 sup ls).2 := ⟨_, rfl⟩
          rw [← hfl] at hO hst hol
          rw [← hlf] at hL hst hol hsm
          have Hst := Lib.hid hst
          have hlfl : lf.length = n1 := by rw [hol.2]; exact Hsl.out
          have hfll : fl.length = n2 := by rw [hol.1]; exact Hel.out
          have hql : q < n2 := by have := S.ql; have h2 : n.pipes.length = n2 := HA.out.l2; omega
          have hbl := S.bl
          obtain ⟨xv, hxv⟩ : ∃ xv, xv = lf.getD v 0 := ⟨_, rfl⟩
          obtain ⟨xb, hxb⟩ : ∃ xb, xb = lf.getD bk 0 := ⟨_, rfl⟩
          obtain ⟨xf, hxf⟩ : ∃ xf, fl[q]? = some xf := ⟨_, List.getElem?_eq_getElem (by omega)⟩
          have bv := hsm v
          have bb := hsm bk
          rw [← hxv] at bv Hst
          rw [← hxb] at bb Hst
          have cLv : lf[v]? = some xv := by rw [hxv]; exact get_int (by omega)
          have cLb : lf[bk]? = some xb := by rw [hxb]; exact get_int (by omega)
          have hgW := hdone W hcW
          obtain ⟨eE, _⟩ := own_int HE6.out S.en
          replace eE := chg_cell' hcW eE nE
          have b2 := chg_cell' hcW hBs nBs
          have n0' := chg_cell' hcW x0 nw
          have n1' := chg_cell' hcW x1 nw
          have pf := chg_cell' hcW x2 nBf
          have pl := chg_cell' hcW x3 nBl
          obtain ⟨bp, op, hAA, hbp, e0, e1, e2, e3, e4⟩ := (HA.out.gr hgW).pipes.pp S.px
          subst hAA
          obtain ⟨m0, m1⟩ := own_int hL cLv
          obtain ⟨k0, k1⟩ := own_int hL cLb
          obtain ⟨g0, g1⟩ := own_int hO hxf
          have HO := Lib.hid hO
          have HL := Lib.hid hL
          have Hp1 : Hid (0 ≤ p.src) := Lib.hid (pipeOk_all ((netOk_all Hok.out).2 q p S.px)).1.1
          have Hp2 : Hid (0 ≤ p.dst) := Lib.hid (pipeOk_all ((netOk_all Hok.out).2 q p S.px)).2.1.1
          have Hot := Lib.hid S.ot
          have hbv := S.ne
          have s1 : (v : Int) < (n1 : Int) := by omega
          have s0 : (0 : Int) ≤ (v : Int) := by omega
          have s2 : (q : Int) < (n2 : Int) := by omega
          have s3 : (0 : Int) ≤ (q : Int) := by omega
          have s4 : (bk : Int) < (n1 : Int) := by omega
          have s5 : (0 : Int) ≤ (bk : Int) := by omega
          have hneg : IntKind.i64.wrap (-xv) = -xv := IntWalk.i64_in _ (by omega)
          have hadd : IntKind.i64.wrap (xb + xv) = xb + xv := IntWalk.i64_in _ (by omega)
          clear S hst hol hsm hfl hlf hls hv hxv hxb hxf cLv cLb hO hL
          gi_wp2
          obtain ⟨W1, hW1⟩ : ∃ W1, W1 = W.alloc (.cells #[.int .i64 p.src, .int .i64 p.dst, .int .i64 p.k, .int .i64 p.vol, .int .i64 p.lim] 95) := ⟨_, rfl⟩
          obtain ⟨Pb, hPb⟩ : ∃ Pb, Pb = W.heap.size := ⟨_, rfl⟩
          have hgp : Gr W W1 := by rw [hW1]; exact (Gr.refl _).alloc _
          have c0 : W1.cell? ⟨Pb, 0, none⟩ = some (.int .i64 p.src) := by rw [hW1, hPb]; simp [go_sem]
          have c1' : W1.cell? ⟨Pb, 1, none⟩ = some (.int .i64 p.dst) := by rw [hW1, hPb]; simp [go_sem]
          have c2' : W1.cell? ⟨Pb, 2, none⟩ = some (.int .i64 p.k) := by rw [hW1, hPb]; simp [go_sem]
          have c3' : W1.cell? ⟨Pb, 3, none⟩ = some (.int .i64 p.vol) := by rw [hW1, hPb]; simp [go_sem]
          have c4 : W1.cell? ⟨Pb, 4, none⟩ = some (.int .i64 p.lim) := by rw [hW1, hPb]; simp [go_sem]
          have hcp : Chg (fun j => j = F ∨ j = L) W W1 := hgp.chg _
          have hPF : ¬ Pb = F := by have := hcW.size; omega
          have hPL : ¬ Pb = L := by have := hcW.size; omega
          have pf1 := hgp.has pf
          have pl1 := hgp.has pl
          have kv := hgp.has m0
          have kb := hgp.has k0
          have HO1 := Lib.hid (own_gr HO.out hgp)
          have HL1 := Lib.hid (own_gr HL.out hgp)
          have fF := HO1.out.frozenAt q
          have gF := hgp.has g0
          rw [← hW1, ← hPb]
          clear hW1 hPb hgp pf pl m0 m1 k0 k1 g0 g1 e0 e1 e2 e3 e4 eE b2 n0' n1' HO HL
          refine wpIn_region_last (fun w' => w' = W1.drew) (fun w' => w' = (W1.setCell ⟨F, q, none⟩ (.int .i64 xv)).drew) (by kernel_rfl) (by kernel_rfl) (by kernel_rfl) (by decide) (fun ⟨_, _, h⟩ => h) rfl ?_
          repeat (first
            | ((with_reducible refine wpText_skip ?_ ?_)
               · rfl
               simp only [Act.put, List.setIfInBounds_toArray, List.set_cons_zero, List.set_cons_succ])
            | ((with_reducible refine wpText_yield (v := ?_) ?_ ?_ ?_)
               rotate_left
               · rfl
               · intro W hW; first | (go_simp; done) | (go_simp; with_reducible rfl)
               simp only [Act.put, List.setIfInBounds_toArray, List.set_cons_zero, List.set_cons_succ])
            | ((with_reducible refine wpText_yield1 (v := ?_) ?_ ?_ ?_)
               rotate_left
               · rfl
               · intro W hW; first | (go_simp; done) | (go_simp; with_reducible rfl)
               simp only [Act.put, List.setIfInBounds_toArray, List.set_cons_zero, List.set_cons_succ]))
          (first
            | ((with_reducible refine wpText_do1 undef ?_ ?_ ?_)
               · rfl
               · intro W hW K hK
                 subst hW
                 go_simp
                 exact hK _ rfl
               simp only [Act.put]))
          rintro W2 hW2
          have hc12 : Chg (fun j => j = F) W1 W2 := by rw [hW2]; exact (chg_put _ _).trans ((Gr.refl _).drew.chg _)
          have HO2 : Hid (W2.ownsRow w.heap.size 2 1 (.slice (some ⟨F, 0, none⟩) n2 n2) n2 (ints (fl.set q xv))) := Lib.hid (by rw [hW2]; exact (own_set_int HO1.out q xv).1.drew)
          have HL2 := Lib.hid (own_chg HL1.out hc12 (fun j hj e => by simp [Value.ownBlock] at hj; omega))
          have hcA : Chg (fun j => j = F ∨ j = L) W W2 := hcp.trans (hc12.mono (fun j e => Or.inl e))
          have pl2 := chg_cell' hc12 pl1 (by simp only; omega)
          have pf2 := chg_cell' hc12 pf1 (by simp only; omega)
          have kv2 := chg_cell' hc12 kv (by simp only; omega)
          have kb2 := chg_cell' hc12 kb (by simp only; omega)
          have d0 := chg_cell' hc12 c0 (by simp only; omega)
          have d1 := chg_cell' hc12 c1' (by simp only; omega)
          have d2 := chg_cell' hc12 c2' (by simp only; omega)
          have d3 := chg_cell' hc12 c3' (by simp only; omega)
          have d4 := chg_cell' hc12 c4 (by simp only; omega)
          clear hW2 pf1 pl1 kv kb c0 c1' c2' c3' c4 fF gF HO1 HL1 hcp hc12
          by_cases hd : p.dst = (v : Int)
          · have td : (p.dst == (v : Int)) = true := by simp [hd]
            rw [if_pos hd] at Hst
            have f2 := HO2.out.frozenAt q
            obtain ⟨g2, _⟩ := own_int HO2.out (k := q) (x := xv) (by rw [List.getElem?_set_self (by omega)])
            clear hd
            gi_wp2
            refine wpIn_region_last (fun w' => w' = W2.drew) (fun w' => w' = (W2.setCell ⟨F, q, none⟩ (.int .i64 (-xv))).drew) (by kernel_rfl) (by kernel_rfl) (by kernel_rfl) (by decide) (fun ⟨_, _, h⟩ => h) rfl ?_
            repeat (first
            | ((with_reducible refine wpText_skip ?_ ?_)
               · rfl
               simp only [Act.put, List.setIfInBounds_toArray, List.set_cons_zero, List.set_cons_succ])
            | ((with_reducible refine wpText_yield (v := ?_) ?_ ?_ ?_)
               rotate_left
               · rfl
               · intro W hW; first | (go_simp; done) | (go_simp; with_reducible rfl)
               simp only [Act.put, List.setIfInBounds_toArray, List.set_cons_zero, List.set_cons_succ])
            | ((with_reducible refine wpText_yield1 (v := ?_) ?_ ?_ ?_)
               rotate_left
               · rfl
               · intro W hW; first | (go_simp; done) | (go_simp; with_reducible rfl)
               simp only [Act.put, List.setIfInBounds_toArray, List.set_cons_zero, List.set_cons_succ]))
            (first
            | ((with_reducible refine wpText_do1 undef ?_ ?_ ?_)
               · rfl
               · intro W hW K hK
                 subst hW
                 go_simp
                 exact hK _ rfl
               simp only [Act.put]))
            rintro W3 hW3
            have hc23 : Chg (fun j => j = F) W2 W3 := by rw [hW3]; exact (chg_put _ _).trans ((Gr.refl _).drew.chg _)
            have HO3 : Hid (W3.ownsRow w.heap.size 2 1 (.slice (some ⟨F, 0, none⟩) n2 n2) n2 (ints (fl.set q (-xv)))) := Lib.hid (by rw [hW3]; have h := (own_set_int HO2.out q (-xv)).1.drew; rw [List.set_set] at h; exact h)
            have HL3 := Lib.hid (own_chg HL2.out hc23 (fun j hj e => by simp [Value.ownBlock] at hj; omega))
            have hcB : Chg (fun j => j = F ∨ j = L) W W3 := hcA.trans (hc23.mono (fun j e => Or.inl e))
            replace pl2 := chg_cell' hc23 pl2 (by simp only; omega)
            replace kv2 := chg_cell' hc23 kv2 (by simp only; omega)
            replace kb2 := chg_cell' hc23 kb2 (by simp only; omega)
            replace d0 := chg_cell' hc23 d0 (by simp only; omega)
            replace d1 := chg_cell' hc23 d1 (by simp only; omega)
            replace d2 := chg_cell' hc23 d2 (by simp only; omega)
            replace d3 := chg_cell' hc23 d3 (by simp only; omega)
            replace d4 := chg_cell' hc23 d4 (by simp only; omega)
            clear hW3 hc23 pf2 f2 g2 HO2 HL2 hcA
            gi_wp2
            refine wpIn_region_last (fun w' => Gr W3 w') (fun w' => ∃ w'', Gr W3 w'' ∧ w' = w''.setCell ⟨L, bk, none⟩ (.int .i64 (xb + xv))) (by kernel_rfl) (by kernel_rfl) (by kernel_rfl) (by decide) (fun ⟨_, _, h⟩ => h) (Gr.refl _).drew ?_
            repeat (first
              | ((with_reducible refine wpText_skip ?_ ?_)
                 · rfl
                 simp only [Act.put, List.setIfInBounds_toArray, List.set_cons_zero, List.set_cons_succ])
              | ((with_reducible refine wpText_yield (v := ?_) ?_ ?_ ?_)
                 rotate_left
                 · rfl
                 · (intro W hW; have kpl2 := hW.has pl2; have kd0 := hW.has d0; have kd1 := hW.has d1; have kd2 := hW.has d2; have kd3 := hW.has d3; have kd4 := hW.has d4; have kkb2 := hW.has kb2; have kkv2 := hW.has kv2; first | (go_simp; done) | (go_simp; with_reducible rfl))
                 simp only [Act.put, List.setIfInBounds_toArray, List.set_cons_zero, List.set_cons_succ])
              | ((with_reducible refine wpText_yield1 (v := ?_) ?_ ?_ ?_)
                 rotate_left
                 · rfl
                 · (intro W hW; have kpl2 := hW.has pl2; have kd0 := hW.has d0; have kd1 := hW.has d1; have kd2 := hW.has d2; have kd3 := hW.has d3; have kd4 := hW.has d4; have kkb2 := hW.has kb2; have kkv2 := hW.has kv2; first | (go_simp; done) | (go_simp; with_reducible rfl))
                 simp only [Act.put, List.setIfInBounds_toArray, List.set_cons_zero, List.set_cons_succ]))
            refine wpText_do (.int .i64 (bk : Int)) (by rfl) (fun W hW K hK => ?_) ?_
            ·
              have kpl2 := hW.has pl2
              have kd0 := hW.has d0
              have kd1 := hW.has d1
              have kd2 := hW.has d2
              have kd3 := hW.has d3
              have kd4 := hW.has d4
              have kkb2 := hW.has kb2
              have kkv2 := hW.has kv2
              go_simp
              refine (otherEnd_any p v _ Hp1.out Hp2.out).mono ?_
              rintro e w' ⟨rfl, hg⟩
              rw [Hot.out]
              exact hK _ (hW.trans hg)
            simp only [Act.put, List.setIfInBounds_toArray, List.set_cons_zero, List.set_cons_succ]
            repeat (first
              | ((with_reducible refine wpText_skip ?_ ?_)
                 · rfl
                 simp only [Act.put, List.setIfInBounds_toArray, List.set_cons_zero, List.set_cons_succ])
              | ((with_reducible refine wpText_yield (v := ?_) ?_ ?_ ?_)
                 rotate_left
                 · rfl
                 · (intro W hW; have kpl2 := hW.has pl2; have kd0 := hW.has d0; have kd1 := hW.has d1; have kd2 := hW.has d2; have kd3 := hW.has d3; have kd4 := hW.has d4; have kkb2 := hW.has kb2; have kkv2 := hW.has kv2; first | (go_simp; done) | (go_simp; with_reducible rfl))
                 simp only [Act.put, List.setIfInBounds_toArray, List.set_cons_zero, List.set_cons_succ])
              | ((with_reducible refine wpText_yield1 (v := ?_) ?_ ?_ ?_)
                 rotate_left
                 · rfl
                 · (intro W hW; have kpl2 := hW.has pl2; have kd0 := hW.has d0; have kd1 := hW.has d1; have kd2 := hW.has d2; have kd3 := hW.has d3; have kd4 := hW.has d4; have kkb2 := hW.has kb2; have kkv2 := hW.has kv2; first | (go_simp; done) | (go_simp; with_reducible rfl))
                 simp only [Act.put, List.setIfInBounds_toArray, List.set_cons_zero, List.set_cons_succ]))
            (first
              | ((with_reducible refine wpText_do1 undef ?_ ?_ ?_)
                 · rfl
                 · intro W' hW' K' hK'
                   have r1 := hW'.has kb2
                   have r2 := (own_gr HL3.out hW').frozenAt bk
                   go_simp
                   exact hK' _ ⟨W', hW', rfl⟩
                 simp only [Act.put]))
            rintro W5 ⟨W4, hg4, hW5⟩
            have hc5 : Chg (fun j => j = L) W4 W5 := by rw [hW5]; exact chg_put _ _
            have HO5' := Lib.hid (own_chg (own_gr HO3.out hg4) hc5 (fun j hj e => by simp [Value.ownBlock] at hj; omega))
            have HL5' : Hid (W5.ownsRow w.heap.size 2 1 (.slice (some ⟨L, 0, none⟩) n1 cL) n1 (ints (lf.set bk (xb + xv)))) := Lib.hid (by rw [hW5]; exact (own_set_int (own_gr HL3.out hg4) bk (xb + xv)).1)
            have hcZ : Chg (fun j => j = F ∨ j = L) W W5 := (hcB.trans (hg4.chg _)).trans (hc5.mono (fun j e => Or.inr e))
            clear hW5 pl2 kv2 kb2 d0 d1 d2 d3 d4
            gi_wp2
            exact ⟨keepsFrom_chg hcZ hnF, keepB_chg hcZ nBB ngO, ⟨own_eq' HO5'.out (by rw [Hsn.out, Hst.out]), own_eq' HL5'.out (by rw [Hsn.out, Hst.out])⟩, hcW.trans hcZ⟩
          · have td : (p.dst == (v : Int)) = false := by simp [hd]
            rw [if_neg hd] at Hst
            have HO3 := HO2
            have HL3 := HL2
            have hcB := hcA
            clear hd pf2 HO2 HL2 hcA
            gi_wp2
            refine wpIn_region_last (fun w' => Gr W2 w') (fun w' => ∃ w'', Gr W2 w'' ∧ w' = w''.setCell ⟨L, bk, none⟩ (.int .i64 (xb + xv))) (by kernel_rfl) (by kernel_rfl) (by kernel_rfl) (by decide) (fun ⟨_, _, h⟩ => h) (Gr.refl _).drew ?_
            repeat (first
              | ((with_reducible refine wpText_skip ?_ ?_)
                 · rfl
                 simp only [Act.put, List.setIfInBounds_toArray, List.set_cons_zero, List.set_cons_succ])
              | ((with_reducible refine wpText_yield (v := ?_) ?_ ?_ ?_)
                 rotate_left
                 · rfl
                 · (intro W hW; have kpl2 := hW.has pl2; have kd0 := hW.has d0; have kd1 := hW.has d1; have kd2 := hW.has d2; have kd3 := hW.has d3; have kd4 := hW.has d4; have kkb2 := hW.has kb2; have kkv2 := hW.has kv2; first | (go_simp; done) | (go_simp; with_reducible rfl))
                 simp only [Act.put, List.setIfInBounds_toArray, List.set_cons_zero, List.set_cons_succ])
              | ((with_reducible refine wpText_yield1 (v := ?_) ?_ ?_ ?_)
                 rotate_left
                 · rfl
                 · (intro W hW; have kpl2 := hW.has pl2; have kd0 := hW.has d0; have kd1 := hW.has d1; have kd2 := hW.has d2; have kd3 := hW.has d3; have kd4 := hW.has d4; have kkb2 := hW.has kb2; have kkv2 := hW.has kv2; first | (go_simp; done) | (go_simp; with_reducible rfl))
                 simp only [Act.put, List.setIfInBounds_toArray, List.set_cons_zero, List.set_cons_succ]))
            refine wpText_do (.int .i64 (bk : Int)) (by rfl) (fun W hW K hK => ?_) ?_
            ·
              have kpl2 := hW.has pl2
              have kd0 := hW.has d0
              have kd1 := hW.has d1
              have kd2 := hW.has d2
              have kd3 := hW.has d3
              have kd4 := hW.has d4
              have kkb2 := hW.has kb2
              have kkv2 := hW.has kv2
              go_simp
              refine (otherEnd_any p v _ Hp1.out Hp2.out).mono ?_
              rintro e w' ⟨rfl, hg⟩
              rw [Hot.out]
              exact hK _ (hW.trans hg)
            simp only [Act.put, List.setIfInBounds_toArray, List.set_cons_zero, List.set_cons_succ]
            repeat (first
              | ((with_reducible refine wpText_skip ?_ ?_)
                 · rfl
                 simp only [Act.put, List.setIfInBounds_toArray, List.set_cons_zero, List.set_cons_succ])
              | ((with_reducible refine wpText_yield (v := ?_) ?_ ?_ ?_)
                 rotate_left
                 · rfl
                 · (intro W hW; have kpl2 := hW.has pl2; have kd0 := hW.has d0; have kd1 := hW.has d1; have kd2 := hW.has d2; have kd3 := hW.has d3; have kd4 := hW.has d4; have kkb2 := hW.has kb2; have kkv2 := hW.has kv2; first | (go_simp; done) | (go_simp; with_reducible rfl))
                 simp only [Act.put, List.setIfInBounds_toArray, List.set_cons_zero, List.set_cons_succ])
              | ((with_reducible refine wpText_yield1 (v := ?_) ?_ ?_ ?_)
                 rotate_left
                 · rfl
                 · (intro W hW; have kpl2 := hW.has pl2; have kd0 := hW.has d0; have kd1 := hW.has d1; have kd2 := hW.has d2; have kd3 := hW.has d3; have kd4 := hW.has d4; have kkb2 := hW.has kb2; have kkv2 := hW.has kv2; first | (go_simp; done) | (go_simp; with_reducible rfl))
                 simp only [Act.put, List.setIfInBounds_toArray, List.set_cons_zero, List.set_cons_succ]))
            (first
              | ((with_reducible refine wpText_do1 undef ?_ ?_ ?_)
                 · rfl
                 · intro W' hW' K' hK'
                   have r1 := hW'.has kb2
                   have r2 := (own_gr HL3.out hW').frozenAt bk
                   go_simp
                   exact hK' _ ⟨W', hW', rfl⟩
                 simp only [Act.put]))
            rintro W5 ⟨W4, hg4, hW5⟩
            have hc5 : Chg (fun j => j = L) W4 W5 := by rw [hW5]; exact chg_put _ _
            have HO5' := Lib.hid (own_chg (own_gr HO3.out hg4) hc5 (fun j hj e => by simp [Value.ownBlock] at hj; omega))
            have HL5' : Hid (W5.ownsRow w.heap.size 2 1 (.slice (some ⟨L, 0, none⟩) n1 cL) n1 (ints (lf.set bk (xb + xv)))) := Lib.hid (by rw [hW5]; exact (own_set_int (own_gr HL3.out hg4) bk (xb + xv)).1)
            have hcZ : Chg (fun j => j = F ∨ j = L) W W5 := (hcB.trans (hg4.chg _)).trans (hc5.mono (fun j e => Or.inr e))
            clear hW5 pl2 kv2 kb2 d0 d1 d2 d3 d4
            gi_wp2
            exact ⟨keepsFrom_chg hcZ hnF, keepB_chg hcZ nBB ngO, ⟨own_eq' HO5'.out (by rw [Hsn.out, Hst.out]), own_eq' HL5'.out (by rw [Hsn.out, Hst.out])⟩, hcW.trans hcZ⟩
        case done =>
          rintro D xs W hD rfl ⟨⟨hO, hL⟩, hcW⟩ hDm
          subst hact
          have hgW := hdone W hcW
          rw [ys_nodes, over_rev sup Hc.out] at hO hL
          have p0 := chg_cell' hcW x0 nw
          have p1 := chg_cell' hcW x1 nw
          have pf := chg_cell' hcW x2 nBf
          have pl := chg_cell' hcW x3 nBl
          have hGn : ∀ j, (Value.slice (some ⟨G, 0, none⟩) n1 n1).ownBlock = some j → ¬ (j = F ∨ j = L) := fun j hj => by simp [Value.ownBlock] at hj; omega
          have HGW := Lib.hid (own_chg HG6.out hcW hGn)
          have HOW := Lib.hid hO
          have HLW := Lib.hid hL
          have hFD : F < D := by omega
          clear hO hL hcW x0 x1 x2 x3 hBs hBB hGn
          go_wp2_with fail
          refine ⟨?_, ?_⟩
          · (repeat apply Exists.intro)
            refine ⟨⟨1, by omega, rfl, fun h => absurd h (by omega), fun _ => ⟨D, rfl, hFD, hDm⟩, own_eq' HOW.out (by rw [if_neg (by omega)]; rfl), ⟨_, fun h => absurd h (by omega), HLW.out⟩, HGW.out, hgW, p0, p1, pf, pl⟩, rfl⟩
          · simp [intOf]; omega
      · refine (backward_any2 _ _ _ _).mono ?_
        rintro e w6 ⟨rfl, hg56, hs56, hBB0⟩
        have hg6 : Gr w5 w6 := ((Gr.refl w5).alloc _).trans hg56
        have hBs0 : w6.cell? ⟨w5.heap.size, 2, none⟩ = some (.slice (some ⟨E, 0, none⟩) n1 n1) := hg56.has (by simp [go_sem])
        obtain ⟨Bs, hBse⟩ : ∃ Bs, Bs = w5.heap.size := ⟨_, rfl⟩
        have hBBs : w6.heap.size = Bs + 2 := by rw [hs56, hBse]; simp
        have hBs1 : ∀ cc : Nat, (w5.alloc (.cells #[.slice (some ⟨gO, 0, none⟩) n1 cc, .slice (some ⟨D', 0, none⟩) n1 n1, .slice (some ⟨E, 0, none⟩) n1 n1] 132)).heap.size = Bs + 1 := fun cc => by rw [hBse]; simp
        rw [hBs1] at hBB0 ⊢
        have hBs := hBs0
        rw [← hBse] at hBs
        have HE6 := Lib.hid (own_gr HE5.out hg6)
        have HOr6 := Lib.hid (own_gr HO5.out hg6)
        have HOf6 := Lib.hid (own_gr HOx.out hg6)
        have HLf6 := Lib.hid (own_gr HLx.out hg6)
        have HG6 := Lib.hid (own_gr HGx.out hg6)
        have x0 := hg6.has y0
        have x1 := hg6.has y1
        have x2 := hg6.has z0
        have x3 := hg6.has z1
        have hgw6 := hgw5.trans hg6
        have hgEl := own_block_lt HE5.out (k := E) rfl
        have hgEb := own_base_le HE5.out (k := E) rfl
        have hFl := own_block_lt HOx.out (k := F) rfl
        have hLl := own_block_lt HLx.out (k := L) rfl
        have hGl := own_block_lt HGx.out (k := G) rfl
        have hFb := own_block_lt HOr.out (k := F) rfl
        have hLb2 := own_block_lt HLr.out (k := L) rfl
        obtain ⟨AD, CD, hADo, hSl, hBB⟩ : ∃ (AD : Option Addr) (CD : Nat), (0 < n1 - 1 → ∃ o, AD = some ⟨gO, o, none⟩) ∧ Sl w6 1 AD (n1 - 1) (ints (casts ((ordZ (eds n.pipes) n1 0).drop 1))) ∧ w6.cell? ⟨Bs + 1, 0, none⟩ = some (.slice AD (n1 - 1) CD) := ⟨_, _, fun _ => ⟨_, rfl⟩, by first | exact sl_tail HOr6.out h0 | exact sl_tail0 (by omega) Hol.out, hBB0⟩
        clear hBB0 hBs0 hs56 hg56 hBs1 y0 y1 z0 z1 HE5 HO5 HOx HLx HGx HOr HLr HGr
        go_wp2_with fail
        have hBBl : Bs + 1 < w6.heap.size := by omega
        have hgOl : gO < w6.heap.size := by omega
        have hnF : ∀ j, (j = F ∨ j = L) → j < w6.heap.size := fun j e => by rcases e with rfl | rfl <;> omega
        have hFw' : ∀ j, (j = F ∨ j = L) → w.heap.size ≤ j := fun j e => by rcases e with rfl | rfl <;> omega
        have nBs : ¬ (Bs = F ∨ Bs = L) := by omega
        have nBB : ¬ (Bs + 1 = F ∨ Bs + 1 = L) := by omega
        have nE : ¬ (E = F ∨ E = L) := by omega
        have ngO : ¬ (gO = F ∨ gO = L) := by omega
        have nw : ¬ (w.heap.size = F ∨ w.heap.size = L) := by omega
        have nBf : ¬ (Bf = F ∨ Bf = L) := by omega
        have nBl : ¬ (Bl = F ∨ Bl = L) := by omega
        have nFL : ¬ F = L := by omega
        have hdone : ∀ W : World, Chg (fun j => j = F ∨ j = L) w6 W → Gr w W := fun W hc => Gr.of_chg hgw6 hc hFw'
        rw [← hBse]
        clear hBse
        refine (wpIn_wide (n := 3)).1 ?_
        generalize hact : ({ tmps := _, defers := _ } : Act) = act
        refine wpIn_rangeFunc_ownG (α := NdE n1) (w0 := w6) rfl (by omega) (gf := 168) (lb := #[.pointer (some ⟨Bs + 1, 0, none⟩)]) (by rw [← hact]; rfl) trivial (enters_of Tryz.func168 (by kernel_rfl) rfl) (back_stops (α := NdE n1) (fun x => #[.int .i64 x.1, .int .i64 (x.2.val : Int)]) (ysOf HE.out Hc.out) (Bs + 1) gO (n1 - 1) CD 2 AD (casts ((ordZ (eds n.pipes) n1 0).drop 1)) w6 (by omega) (by omega) hADo (ys_len HE.out Hc.out) (fun j x h => enc_ok HE.out Hc.out h) hBB hSl) (fun h k => KeepB.trans h k) (KeepB.put hBBl hgOl) (Below.refl _ _) (fun _ => rfl) (fun pre W => (W.ownsRow w.heap.size 2 1 (.slice (some ⟨F, 0, none⟩) n2 n2) n2 (ints (ffOver (eds n.pipes) n1 sup (pre.map (fun y => y.2.val))).1) ∧ W.ownsRow w.heap.size 2 1 (.slice (some ⟨L, 0, none⟩) n1 cL) n1 (ints (ffOver (eds n.pipes) n1 sup (pre.map (fun y => y.2.val))).2)) ∧ Chg (fun j => j = F ∨ j = L) w6 W) (fun _ _ _ => False)
          (((own_from (hnF F (Or.inl rfl))).and (own_from (hnF L (Or.inr rfl)))).and (chg_from (Nat.le_refl _))) (fun _ _ _ _ _ hs _ _ => hs) ?init
          (fun x => { tmps := ((act.tmps.setIfInBounds 38 (.int .i64 x.1)).setIfInBounds 39 (.int .i64 (x.2.val : Int))).setIfInBounds 11 (.int .i64 (x.2.val : Int)), defers := [] }) ?assign ?body ?done ?stop
        case init => exact ⟨⟨own_eq' HOf6.out (by rw [ffOver, List.map_nil, List.foldl_nil, Hel.out]), HLf6.out⟩, Chg.refl _ _⟩
        case assign =>
          intro l x W K hK
          subst hact
          simp only [List.setIfInBounds_toArray, List.set_cons_zero, List.set_cons_succ] at hK
          gi_wp2
          exact hK
        case stop =>
          intro D c pre W _ _ h _
          exact h.elim
        case body =>
          intro l pre x W hI hpl
          exfalso
          omega
        case done =>
          rintro D xs W hD rfl ⟨⟨hO, hL⟩, hcW⟩ hDm
          subst hact
          have hgW := hdone W hcW
          rw [ys_nodes, over_rev sup Hc.out] at hO hL
          have p0 := chg_cell' hcW x0 nw
          have p1 := chg_cell' hcW x1 nw
          have pf := chg_cell' hcW x2 nBf
          have pl := chg_cell' hcW x3 nBl
          have hGn : ∀ j, (Value.slice (some ⟨G, 0, none⟩) n1 n1).ownBlock = some j → ¬ (j = F ∨ j = L) := fun j hj => by simp [Value.ownBlock] at hj; omega
          have HGW := Lib.hid (own_chg HG6.out hcW hGn)
          have HOW := Lib.hid hO
          have HLW := Lib.hid hL
          have hFD : F < D := by omega
          clear hO hL hcW x0 x1 x2 x3 hBs hBB hGn
          go_wp2_with fail
          refine ⟨?_, ?_⟩
          · (repeat apply Exists.intro)
            refine ⟨⟨1, by omega, rfl, fun h => absurd h (by omega), fun _ => ⟨D, rfl, hFD, hDm⟩, own_eq' HOW.out (by rw [if_neg (by omega)]; rfl), ⟨_, fun h => absurd h (by omega), HLW.out⟩, HGW.out, hgW, p0, p1, pf, pl⟩, rfl⟩
          · simp [intOf]; omega
    · obtain ⟨D, hdfe, hFD, hDm⟩ := hdf1 hk0
      rw [if_neg hk0] at HOr
      have tk : ((0 : Int) != (k : Int)) = true := by simp; omega
      subst hdfe
      clear hdf0 hdf1 hlf0
      go_wp2_with fail
      refine ⟨?_, ?_⟩
      · (repeat apply Exists.intro)
        refine ⟨⟨k + 1, by omega, by go_num, fun h => absurd h (by omega), fun _ => ⟨D, rfl, hFD, hDm⟩, own_eq' HOr.out (by rw [if_neg (by omega)]), ⟨_, fun h => absurd h (by omega), HLr.out⟩, HGr.out, hgr, y0, y1, z0, z1⟩, rfl⟩
      · simp [intOf]; omega
  · obtain rfl : k = n1 := by omega
    obtain ⟨D, hdfe, hFD, hDm⟩ := hdf1 (by omega)
    rw [if_neg (by omega)] at HOr
    subst hdfe
    clear hdf0 hdf1 hlf0
    have hc9 : Chg (fun j => j = D) wr (wr.putObj D (.deferred none)) := chg_of_grown (grownBy_putObj' wr D (.deferred none)) (fun j e => by cases e; rfl)
    have HO9 := Lib.hid (own_chg HOr.out hc9 (fun j hj e => by simp [Value.ownBlock] at hj; omega))
    have hg9 := Gr.of_chg hgr hc9 (fun j e => by omega)
    clear hc9
    go_wp2_with fail
    refine ⟨by simp, .inl ⟨_, _, rfl, run_takeDeferred hDm, ?_⟩⟩
    exact ⟨_, results_tmp rfl _ _ _, ⟨F, rfl, HO9.out, hg9⟩⟩
end Go.Proofs.YthhmhigddmimjaaGreat
