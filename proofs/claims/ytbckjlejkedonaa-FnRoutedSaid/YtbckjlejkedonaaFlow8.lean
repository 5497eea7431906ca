/-
  The sending of the reference.
-/
import Derived.Test.YtbckjlejkedonaaFlow7
import Derived.Test.YtbckjlejkedonaaFlowMs
namespace Go.Proofs.Ytbckjlejkedonaa
open Go.ChangeShapes Go.WideShapes Go.ChangeAt Go.RowKit

/-- Numbers of a row that is not great. -/
def BndL (M : Int) (l : List Int) : Prop := ∀ (k : Nat) (z : Int), l[k]? = some z → -M ≤ z ∧ z ≤ M
theorem get_int {l : List Int} {k : Nat} (h : k < l.length) : l[k]? = some (l.getD k 0) := by simp [h]
theorem own_chg2 {w w' : World} {base n : Nat} {e : TypeId} {size : Nat} {v : Value} {xs : List Value} {S : Nat → Prop} (h : w.ownsRow base e size v n xs) (hc : Chg S w w') (hs : ∀ k, v.ownBlock = some k → ¬ S k) : w'.ownsRow base e size v n xs := own_chg h hc hs
theorem cell_chg {w w' : World} {S : Nat → Prop} {a : Addr} {v : Value} (h : w.cell? a = some v) (hc : Chg S w w') (hs : ¬ S a.block) : w'.cell? a = some v := (World.cell?_of_block (hc.block a.block (lt_of_cell h) hs)).trans h
theorem chg_set {S : Nat → Prop} (w : World) (a : Addr) (v : Value) (h : S a.block) : Chg S w (w.setCell a v) := chg_of_grown (grown_set w a v) (fun k e => by injection e with e; rw [← e]; exact h)
theorem grown_drewR {w w' : World} {row : Option Nat} (h : w.grownBy w' row) : w.grownBy w'.drew row := ⟨h.os, h.tape, h.output, h.size, h.block⟩
theorem Chg.drew {S : Nat → Prop} {a b : World} (h : Chg S a b) : Chg S a b.drew := ⟨h.os, h.tape, h.output, h.size, h.block⟩

set_option maxHeartbeats 6400000 in
set_option maxRecDepth 100000 in
theorem l23Send_any {A1 A2 : Option Addr} {n1 c1 n2 c2 n3 c3 nl cl F G base : Nat} (n : GNet) (fl lf : List Int) (node : Nat) (w0 w : World) (hA : NetAt w0 A1 n1 c1 A2 n2 c2 n) (hg0 : Gr w0 w) (hbase : w0.heap.size ≤ base)
    (hF : w.ownsRow base 2 1 (.slice (some ⟨F, 0, none⟩) n3 c3) n3 (ints fl)) (hL : w.ownsRow base 2 1 (.slice (some ⟨G, 0, none⟩) nl cl) nl (ints lf)) (hFG : F ≠ G) (hn3 : n3 ≤ 1048576) (hnl : nl = n1)
    (hok : netOk n = true) (hk : Keeps (eds n.pipes) fl) (hn : node < n1) (hb : BndL 1000000000 lf) (h0 : 0 ≤ lf.getD node 0) (hp : ∀ t, tgt (eds n.pipes) fl lf n1 node = some t → 0 < lf.getD node 0) :
    Calls Try.prog 154 #[.agg #[.slice A1 n1 c1, .slice A2 n2 c2], .slice (some ⟨F, 0, none⟩) n3 c3, .slice (some ⟨G, 0, none⟩) nl cl, .int .i64 node] w fun e w' => ∃ r : Bool, e = .returned (.bool r) ∧ Chg (fun k => k = F ∨ k = G) w w' ∧
      ((r = false ∧ tgt (eds n.pipes) fl lf n1 node = none ∧ Gr w w') ∨ (r = true ∧ ∃ t, tgt (eds n.pipes) fl lf n1 node = some t ∧ w'.ownsRow base 2 1 (.slice (some ⟨F, 0, none⟩) n3 c3) n3 (ints (sndF (eds n.pipes) fl lf n1 node t)) ∧ w'.ownsRow base 2 1 (.slice (some ⟨G, 0, none⟩) nl cl) nl (ints (sndL (eds n.pipes) fl lf n1 node t)))) := by
  have hm1 := hA.m1
  have hm2 := hA.m2
  have hEs : EsOk (eds n.pipes) n1 := by have := eds_ok hok; rw [hA.l1] at this; exact this
  have hI := inv_srch (fl := fl) hEs hn
  have HEs := Lib.hid hEs
  have HA := Lib.hid hA
  have HF := Lib.hid hF
  have HL := Lib.hid hL
  have Hok := Lib.hid hok
  have Hk := Lib.hid hk
  have HI := Lib.hid hI
  have Hb := Lib.hid hb
  have Hp := Lib.hid hp
  have hlfl := own_ilen hL
  have hFl : F < w.heap.size := own_block_lt hF rfl
  have hGl : G < w.heap.size := own_block_lt hL rfl
  have hFb : base ≤ F := own_base_le hF rfl
  have hGb : base ≤ G := own_base_le hL rfl
  subst hnl
  have hB : Gr w (w.alloc (.cells #[.slice A1 nl c1, .slice A2 n2 c2] 33)) := (Gr.refl _).alloc _
  clear hA hF hL hok hk hEs hI hb hp
  go_enter Try.func154, Try.ntmps154
  go_wp2_with fail
  refine (l23Search_any n fl node _ (HA.out.gr (hg0.trans hB)) (own_sl_int (own_gr HF.out hB) hn3) Hok.out Hk.out hn).mono ?_
  rintro e w1 ⟨O, gE, gS, rfl, ⟨A, c, rfl⟩, hS, hw1⟩
  obtain ⟨s, hs⟩ : ∃ s, s = srch (eds n.pipes) fl nl node := ⟨_, rfl⟩
  have HI2 := HI.out
  rw [← hs] at HI2 hS
  rw [← hs]
  have hgw1 : Gr w w1 := hB.trans hw1
  have hlen := HI2.len
  have hpos : 0 < s.ord.length := (List.getElem?_eq_some_iff.1 HI2.hd).1
  obtain ⟨gO, rfl, hgO1, hgO2⟩ := own_form hS.ord hpos
  have bx0 : w1.cell? ⟨w.heap.size, 0, none⟩ = some (.slice A1 nl c1) := hw1.has (by simp [go_sem])
  have bx1 : w1.cell? ⟨w.heap.size, 1, none⟩ = some (.slice A2 n2 c2) := hw1.has (by simp [go_sem])
  have hBl : w.heap.size < w1.heap.size := lt_of_cell bx0
  have HS := Lib.hid hS
  have Hs := Lib.hid hs
  have HIs := Lib.hid HI2
  clear hS hs HI2 hw1 hB
  go_wp2_with fail
  go_loopw [11, 12] (fun t i wr => wr = w1 ∧ ∃ k : Nat, k < s.ord.length ∧ i = .int .i64 k ∧ t = .int .i64 (tgI lf (s.ord.drop (k + 1)))) (fun _ i _ => (intOf i).toNat)
  case atStart => exact ⟨rfl, s.ord.length - 1, by omega, by go_num, by rw [Nat.sub_add_cancel hpos, List.drop_length]; rfl⟩
  case round =>
    obtain ⟨rfl, k, hk, rfl, rfl⟩ := hrel
    by_cases hk0 : 0 < k
    · obtain ⟨v, hv⟩ : ∃ v, s.ord[k]? = some v := ⟨_, List.getElem?_eq_getElem hk⟩
      have hvN := HIs.out.lt v (List.mem_of_getElem? hv)
      have hvi : (s.ord.map fun (x : Nat) => (x : Int))[k]? = some (v : Int) := by simp [hv]
      obtain ⟨f0, _⟩ := own_int HS.out.ord hvi
      obtain ⟨l0, _⟩ := own_int (own_gr HL.out hgw1) (get_int (l := lf) (k := v) (by omega))
      obtain ⟨z, hz⟩ : ∃ z, z = lf.getD v 0 := ⟨_, rfl⟩
      rw [← hz] at l0
      have hd := drop_at hv
      have Hd := Lib.hid hd
      have hk1 : k - 1 + 1 = k := by omega
      have Hk1 := Lib.hid hk1
      obtain ⟨tg, htg⟩ : ∃ tg, tg = tgI lf (s.ord.drop (k + 1)) := ⟨_, rfl⟩
      rw [← htg]
      by_cases hz0 : z < 0
      · have ht : tgI lf (s.ord.drop k) = v := by rw [hd, tgI_yes (by simp [ng]; rw [← List.getD_eq_getElem?_getD, ← hz]; exact hz0)]
        have Ht := Lib.hid ht
        clear hvi hv hd hz ht hk1 htg
        go_wp2_with fail
        go_roundw
        case rel => exact ⟨by trivial, k - 1, by omega, by go_num, by rw [Hk1.out, Ht.out]⟩
        case measure => simp [intOf]; omega
      · have ht : tgI lf (s.ord.drop k) = tg := by rw [hd, tgI_no (by simp [ng]; rw [← List.getD_eq_getElem?_getD, ← hz]; omega), htg]
        have Ht := Lib.hid ht
        clear hvi hv hd hz ht hk1 htg
        go_wp2_with fail
        go_roundw
        case rel => exact ⟨by trivial, k - 1, by omega, by go_num, by rw [Hk1.out, Ht.out]⟩
        case measure => simp [intOf]; omega
    · obtain rfl : k = 0 := by omega
      have ez : ((0 : Nat) : Int) = 0 := rfl
      rw [ez]
      have htl := tgt_tail (fl := fl) (lf := lf) HEs.out hn h0
      rw [← Hs.out] at htl
      cases htg : tgt (eds n.pipes) fl lf nl node with
      | none =>
        have hti : tgI lf (s.ord.drop (0 + 1)) = -1 := tgI_none (htl.trans htg)
        rw [hti]
        have Htg := Lib.hid htg
        clear htl hti htg
        go_wp2_with fail
        go_ret
        exact ⟨false, by simp, hgw1.chg _, Or.inl ⟨rfl, Htg.out, hgw1⟩⟩
      | some t =>
        have hti : tgI lf (s.ord.drop (0 + 1)) = t := tgI_some (htl.trans htg)
        rw [hti]
        obtain ⟨ht1, ht2⟩ := tgt_spec htg
        have hp0 := Hp.out t htg
        have hsA : sndA (eds n.pipes) fl lf nl node t = amtOf (eds n.pipes) fl s (pth (eds n.pipes) s node t) (min (lf.getD node 0) (-(lf.getD t 0))) := by rw [sndA, ← Hs.out]
        have hsF : sndF (eds n.pipes) fl lf nl node t = pushes (eds n.pipes) s (sndA (eds n.pipes) fl lf nl node t) (pth (eds n.pipes) s node t) fl := by rw [sndF, ← Hs.out]
        have hspec := sndA_spec HEs.out hn htg hp0
        obtain ⟨T, hT⟩ : ∃ T, T = sndA (eds n.pipes) fl lf nl node t := ⟨_, rfl⟩
        have hsL : sndL (eds n.pipes) fl lf nl node t = (lf.set node (lf.getD node 0 - T)).set t (lf.getD t 0 + T) := by rw [sndL, ← hT]
        rw [← hT] at hsA hsF hspec
        rw [← Hs.out] at ht1
        have htN := HIs.out.lt t ht1
        obtain ⟨l0, _⟩ := own_int (own_gr HL.out hgw1) (get_int (l := lf) (k := node) (by omega))
        obtain ⟨l1, _⟩ := own_int (own_gr HL.out hgw1) (get_int (l := lf) (k := t) (by omega))
        have hbn := Hb.out _ _ (get_int (l := lf) (k := node) (by omega))
        have hbt := Hb.out _ _ (get_int (l := lf) (k := t) (by omega))
        have htn : t ≠ node := by intro e; rw [e] at ht2; omega
        obtain ⟨x0, hx0⟩ : ∃ x0, x0 = lf.getD node 0 := ⟨_, rfl⟩
        obtain ⟨y0, hy0⟩ : ∃ y0, y0 = lf.getD t 0 := ⟨_, rfl⟩
        rw [← hx0] at hp0 hsA hspec hsL l0 hbn
        rw [← hy0] at ht2 hsA hspec hsL l1 hbt
        have HsA := Lib.hid hsA
        have HsF := Lib.hid hsF
        have HsL := Lib.hid hsL
        have Ht1 := Lib.hid ht1
        have Htg := Lib.hid htg
        have Hx0 := Lib.hid hx0
        have Hy0 := Lib.hid hy0
        have hwn : IntKind.i64.wrap (-y0) = -y0 := IntWalk.i64_in _ (by omega)
        have tt0 : (0 : Int) ≤ (t : Int) := by omega
        have tt1 : (t : Int) < (nl : Int) := by omega
        have tn0 : (0 : Int) ≤ (node : Int) := by omega
        have tn1 : (node : Int) < (nl : Int) := by omega
        clear htl hti htg hsA hsF hsL ht1 hT hx0 hy0
        go_wp2_with fail
        go_region
        generalize hw2 : wr.drew = w2
        have hg2 : Gr wr w2 := by rw [← hw2]; exact (Gr.refl _).drew
        have hmin0 : (if -y0 < x0 then -y0 else x0) = min x0 (-y0) := by split <;> omega
        rw [hmin0]
        obtain ⟨a0, ha0⟩ : ∃ a0, a0 = min x0 (-y0) := ⟨_, rfl⟩
        have ha1 : 0 < a0 ∧ a0 ≤ 1000000000 := by omega
        have ha2 : T ≤ a0 := by omega
        rw [← ha0]
        have HsA2 := HsA.out
        rw [← ha0] at HsA2
        have HsA := Lib.hid HsA2
        have bx0 := hg2.has bx0
        have bx1 := hg2.has bx1
        have HS2 := Lib.hid (HS.out.gr hg2)
        have hgw2 := hgw1.trans hg2
        have hBl2 := hg2.size
        clear hw2 hmin0 ha0 HsA2 l0 l1 hwn
        go_wp2_with fail
        go_loopw [13, 14] (fun m at_ wr => ∃ (v : Nat) (a : Int), v ∈ s.ord ∧ at_ = .int .i64 v ∧ m = .int .i64 a ∧ 0 < a ∧ a ≤ 1000000000 ∧ amtOf (eds n.pipes) fl s (pth (eds n.pipes) s node v) a = T ∧ Gr w2 wr) (fun _ at_ _ => (pth (eds n.pipes) s node (intOf at_).toNat).length)
        case atStart => exact ⟨t, a0, Ht1.out, rfl, rfl, ha1.1, ha1.2, HsA.out.symm, Gr.refl _⟩
        case round =>
          obtain ⟨v, a, hv, rfl, rfl, ha3, ha4, hT, hgr⟩ := hrel
          have hvN : v < nl := HIs.out.lt v hv
          by_cases hvn : v = node
          · rw [hvn, pth_end] at hT
            have hTa : a = T := hT
            rw [hTa, hvn]
            have hg := hgw2.trans hgr
            have b0 := hgr.has bx0
            have b1 := hgr.has bx1
            have hz := hgr.size
            have hHS := HS2.out.gr hgr
            have hEB : w.heap.size + 1 ≤ gE := by have := hHS.ge; simpa using this
            have HSg := Lib.hid hHS
            have hT6 : T ≤ 1000000000 := by omega
            clear hT hTa hv ha3 ha4 hvn hvN hHS
            go_wp2_with fail
            go_loopw [16] (fun at_ wr => ∃ (v : Nat) (fl' : List Int), v ∈ s.ord ∧ at_ = .int .i64 v ∧ pushes (eds n.pipes) s T (pth (eds n.pipes) s node v) fl' = pushes (eds n.pipes) s T (pth (eds n.pipes) s node t) fl ∧ Keeps (eds n.pipes) fl' ∧ (∀ u ∈ pth (eds n.pipes) s node v, T ≤ capOf (eds n.pipes) fl' s u) ∧ wr.ownsRow base 2 1 (.slice (some ⟨F, 0, none⟩) n3 c3) n3 (ints fl') ∧ w.grownBy wr (some F) ∧ wr.ownsRow w.heap.size 2 1 (.slice (some ⟨gE, 0, none⟩) nl nl) nl (nats s.ent) ∧ wr.cell? ⟨w.heap.size, 0, none⟩ = some (.slice A1 nl c1) ∧ wr.cell? ⟨w.heap.size, 1, none⟩ = some (.slice A2 n2 c2)) (fun at_ _ => (pth (eds n.pipes) s node (intOf at_).toNat).length)
            case atStart => exact ⟨t, fl, Ht1.out, rfl, rfl, Hk.out, fun u hu => by rw [HsA.out]; exact amtOf_cap hu, own_gr HF.out hg, grown_gr hg _, own_base HSg.out.ent (by simp), b0, b1⟩
            case round =>
              obtain ⟨v, fl', hv, rfl, hpush, hk', hcap, hown, hgrow, hent, hb0, hb1⟩ := hrel
              clear b0 b1
              have hvN : v < nl := HIs.out.lt v hv
              by_cases hvn : v = node
              · rw [hvn, pth_end] at hpush
                have hsF2 : fl' = sndF (eds n.pipes) fl lf nl node t := by rw [HsF.out, ← hpush]; rfl
                rw [hsF2] at hown
                have hLk := HL.out.kept hgrow (Or.inr (by simp [Value.ownBlock]; omega))
                have gx := get_int (l := lf) (k := node) (by omega)
                have gy := get_int (l := lf) (k := t) (by omega)
                rw [← Hx0.out] at gx
                rw [← Hy0.out] at gy
                obtain ⟨l0, lf0⟩ := own_int hLk gx
                obtain ⟨l1, lf1⟩ := own_int hLk gy
                obtain ⟨R1, R2⟩ := own_set_int hLk node (x0 - T)
                obtain ⟨R3, R4⟩ := own_set_int R1 t (y0 + T)
                rw [← HsL.out] at R3
                have hk3 := (hown.kept R2 (Or.inr (by simp [Value.ownBlock]; omega))).kept R4 (Or.inr (by simp [Value.ownBlock]; omega))
                have hc3 : Chg (fun k => k = F ∨ k = G) w ((wr.setCell ⟨G, node, none⟩ (.int .i64 (x0 - T))).setCell ⟨G, t, none⟩ (.int .i64 (y0 + T))) := by
                  have u1 : Chg (fun k => k = F ∨ k = G) w wr := chg_of_grown hgrow (fun k e => Or.inl (by injection e with e; exact e.symm))
                  have u2 : Chg (fun k => k = F ∨ k = G) wr (wr.setCell ⟨G, node, none⟩ (.int .i64 (x0 - T))) := chg_set _ _ _ (Or.inr rfl)
                  exact (u1.trans u2).trans (chg_set _ _ _ (Or.inr rfl))
                have HR3 := Lib.hid R3
                have Hk3 := Lib.hid hk3
                have Hc3 := Lib.hid hc3
                clear hpush hk' hcap hown hgrow hv hent hLk R1 R2 R3 R4 gx gy hk3 hc3 hsF2
                go_wp2_with fail
                go_ret
                exact ⟨true, by simp, Hc3.out, Or.inr ⟨rfl, t, Htg.out, Hk3.out, HR3.out⟩⟩
              · obtain ⟨x, hx, x1, x2, x3, x4⟩ := pipe_at Hok.out HEs.out HIs.out hv hvn
                obtain ⟨e, q1, _, _, q4, q5, q6, q7⟩ := HIs.out.at HEs.out hv hvn
                have hst := pth_step HEs.out HIs.out hv hvn
                obtain ⟨pg1, pg2, _⟩ := pth_good HEs.out HIs.out hv
                rw [hst] at hpush hcap pg1 pg2
                rw [pushes_cons] at hpush
                obtain ⟨hk2, hcap2⟩ := push1_step HEs.out HIs.out (Int.le_of_lt hspec.1) pg1 pg2 hk' hcap
                have hcl := cap_le HEs.out hk' q1
                have hTc := hcap v (by simp)
                have hpl : (pth (eds n.pipes) s node (back (eds n.pipes) s v)).length < (pth (eds n.pipes) s node v).length := by rw [hst]; simp
                have hpv := push1_val (a := T) (fl := fl') hx x2
                have hxe : e = edOf x := by rw [eds, List.getElem?_map, hx] at q1; injection q1 with q1; exact q1.symm
                rw [hxe] at q6 q7
                obtain ⟨p, hp⟩ : ∃ p, p = s.ent.getD v 0 := ⟨_, rfl⟩
                obtain ⟨u, hu⟩ : ∃ u, u = back (eds n.pipes) s v := ⟨_, rfl⟩
                obtain ⟨fl2, hfl2⟩ : ∃ fl2, fl2 = push1 (eds n.pipes) s T fl' v := ⟨_, rfl⟩
                rw [← hfl2] at hpush hk2 hcap2 hpv
                rw [← hu] at hpush hcap2 q4 x4 hpl q6
                rw [← hp] at hx hpv
                have hft : (x.dst = (v : Int)) ↔ (x.src = (u : Int)) := by
                  have e1 : (edOf x).f = x.src.toNat := rfl
                  have e2 : (edOf x).t = x.dst.toNat := rfl
                  rcases q6 with ⟨a, b⟩ | ⟨a, b⟩ <;> omega
                obtain ⟨f, hf⟩ : ∃ f, fl'[p]? = some f := ⟨_, List.getElem?_eq_getElem (by have h1 := (List.getElem?_eq_some_iff.1 hx).1; rw [hk'.len]; simpa [eds] using h1)⟩
                have hfb := hk'.at_ p (edOf x) (by rw [eds, List.getElem?_map, hx]; rfl)
                have hlb := HEs.out.at_ p (edOf x) (by rw [eds, List.getElem?_map, hx]; rfl)
                have hfe : fl'.getD p 0 = f := by rw [List.getD_eq_getElem?_getD, hf]; rfl
                rw [hfe] at hfb hpv
                have hpv2 : fl2 = fl'.set p (if x.src = (u : Int) then f + T else f - T) := by
                  rw [hpv]
                  by_cases h : x.dst = (v : Int)
                  · rw [if_pos h, if_pos (hft.1 h)]
                  · rw [if_neg h, if_neg (fun h' => h (hft.2 h'))]
                have hfb2 : -1000000000 ≤ f ∧ f ≤ 1000000000 := by omega
                have hg0x : Gr w0 wr := hg0.grown hgrow (fun j hj => by injection hj with hj; omega)
                have en := nat_at hent hvN
                rw [← hp] at en
                obtain ⟨b, oo, rfl, hb, p0, p1, p2, p3, p4⟩ := HA.out.pipes.pp hx
                have p0 := hg0x.has p0
                have hpn : p < n2 := by have h1 := (List.getElem?_eq_some_iff.1 hx).1; have h2 := HA.out.l2; omega
                have hpn3 : p < n3 := by have h1 := (List.getElem?_eq_some_iff.1 hf).1; have h2 := own_ilen hown; omega
                have tp0 : (0 : Int) ≤ (p : Int) := by omega
                have tp1 : (p : Int) < (n2 : Int) := by omega
                have tp3 : (p : Int) < (n3 : Int) := by omega
                have tv0 : (0 : Int) ≤ (v : Int) := by omega
                have tv1 : (v : Int) < (nl : Int) := by omega
                have Hx := Lib.hid hx
                have Hf := Lib.hid hf
                have Hx3 := Lib.hid x3
                have Hx4 := Lib.hid x4
                have Hpush := Lib.hid hpush
                have Hk2 := Lib.hid hk2
                have Hcap2 := Lib.hid hcap2
                have Hq4 := Lib.hid q4
                have Hpl := Lib.hid hpl
                have Hpv2 := Lib.hid hpv2
                have Hown := Lib.hid hown
                have Hgrow := Lib.hid hgrow
                have Hg0x := Lib.hid hg0x
                have Hent := Lib.hid hent
                clear hx hf x3 x4 q1 hfb hlb hfe hp hu q4 hv hpl hst pg1 pg2 hpush hk' hcap hk2 hcap2 hpv hfl2 hown hgrow hg0x hTc hcl q5 q6 q7 hxe hft hpv2 hent p1 p2 p3 p4
                go_wp2_with fail
                go_region_held3 (fun w' => Gr wr w' ∧ w'.cell? ⟨w.heap.size, 0, none⟩ = some (.slice A1 nl c1) ∧ w'.cell? ⟨w.heap.size, 1, none⟩ = some (.slice (some ⟨b, oo, none⟩) n2 c2) ∧ w'.cell? ⟨gE, v, none⟩ = some (.int .i64 p))
                  (first | exact ⟨(Gr.refl _).drew, hb0, hb1, en⟩ | exact ⟨by assumption, (by assumption : Gr wr _).has hb0, (by assumption : Gr wr _).has hb1, (by assumption : Gr wr _).has en⟩)
                  ((go_at_call 170; refine (l02Other_any n p v x _ (HA.out.gr Hg0x.out.drew) Hok.out Hx.out Hx3.out).mono ?_; rintro e' w5 ⟨rfl, hg5⟩; have hx5 : Gr wr w5 := (Gr.refl _).drew.trans hg5))
                rw [Hx4.out]
                have hx5 : Gr wr w5 := by assumption
                have z0 := hx5.has hb0
                have z1 := hx5.has hb1
                have z2 := hx5.has en
                have z3 := hx5.has p0
                clear hb0 hb1 en p0
                cases hc : (x.src == (u : Int))
                · have hval : fl2 = fl'.set p (f - T) := by rw [Hpv2.out, if_neg (by simpa using hc)]
                  obtain ⟨d0, d1⟩ := own_int (own_gr Hown.out hx5) Hf.out
                  have wv : IntKind.i64.wrap (f - T) = f - T := IntWalk.i64_in _ (by omega)
                  go_wp2_with fail
                  go_quiet (fail)
                  generalize hw6 : World.drewN w5 _ = w6
                  have hg6 : Gr w5 w6 := by rw [← hw6]; exact (Gr.refl _).drewN _
                  have y2 := hg6.has z2
                  have y4 := hg6.has d0
                  have y5 : w6.frozen? ⟨F, p, none⟩ = false := by rw [← hw6]; exact d1
                  have y0 := hg6.has z0
                  have y1 := hg6.has z1
                  have hown6 := own_gr Hown.out (hx5.trans hg6)
                  obtain ⟨R1, R2⟩ := own_set_int hown6 p (f - T)
                  rw [← hval] at R1
                  have HR1 := Lib.hid R1
                  have HR2 := Lib.hid R2
                  have hne1 : w.heap.size ≠ F := by omega
                  have q0 := set_other y0 (a := ⟨F, p, none⟩) (by simp; omega) (.int .i64 (f - T))
                  have q1 := set_other y1 (a := ⟨F, p, none⟩) (by simp; omega) (.int .i64 (f - T))
                  have hent6 := (own_gr Hent.out (hx5.trans hg6)).kept R2 (Or.inr (by simp [Value.ownBlock]; omega))
                  have Hent6 := Lib.hid hent6
                  clear R1 R2 hval hw6 d0 d1 hown6 z0 z1 z2 hent6
                  go_wp2_with fail
                  refine wp_region_last (fun w' => w' = w6.drew) (fun w' => w' = (w6.setCell ⟨F, p, none⟩ (.int .i64 (f - T))).drew) (by kernel_rfl) (by kernel_rfl) (by decide) rfl ?_
                  repeat (first
            | ((with_reducible refine wpText_skip ?_ ?_)
               · rfl
               simp only [Act.put, List.setIfInBounds_toArray, List.set_cons_zero, List.set_cons_succ])
            | ((with_reducible refine wpText_yield (v := ?_) ?_ ?_ ?_)
               rotate_left
               · rfl
               · intro W hW; first | (go_simp; done) | (go_simp; with_reducible rfl)
               simp only [Act.put, List.setIfInBounds_toArray, List.set_cons_zero, List.set_cons_succ])
            | ((with_reducible refine wpText_yield1 (v := ?_) ?_ ?_ ?_)
               rotate_left
               · rfl
               · intro W hW; first | (go_simp; done) | (go_simp; with_reducible rfl)
               simp only [Act.put, List.setIfInBounds_toArray, List.set_cons_zero, List.set_cons_succ]))
                  (first
            | ((with_reducible refine wpText_do1 undef ?_ ?_ ?_)
               · rfl
               · intro W hW K hK
                 subst hW
                 go_simp
                 exact hK _ rfl
               simp only [Act.put]))
                  rintro w7 rfl
                  clear wv
                  go_wp2_with fail
                  go_roundw
                  case rel => exact ⟨u, fl2, Hq4.out, rfl, Hpush.out, Hk2.out, Hcap2.out, HR1.out.drew, grown_trans Hgrow.out (grown_trans (grown_gr (hx5.trans hg6) _) (grown_drewR HR2.out)), Hent6.out.drew, q0, q1⟩
                  case measure => simpa [intOf] using Hpl.out
                · have hval : fl2 = fl'.set p (f + T) := by rw [Hpv2.out, if_pos (by simpa using hc)]
                  obtain ⟨d0, d1⟩ := own_int (own_gr Hown.out hx5) Hf.out
                  have wv : IntKind.i64.wrap (f + T) = f + T := IntWalk.i64_in _ (by omega)
                  go_wp2_with fail
                  go_quiet (fail)
                  generalize hw6 : World.drewN w5 _ = w6
                  have hg6 : Gr w5 w6 := by rw [← hw6]; exact (Gr.refl _).drewN _
                  have y2 := hg6.has z2
                  have y4 := hg6.has d0
                  have y5 : w6.frozen? ⟨F, p, none⟩ = false := by rw [← hw6]; exact d1
                  have y0 := hg6.has z0
                  have y1 := hg6.has z1
                  have hown6 := own_gr Hown.out (hx5.trans hg6)
                  obtain ⟨R1, R2⟩ := own_set_int hown6 p (f + T)
                  rw [← hval] at R1
                  have HR1 := Lib.hid R1
                  have HR2 := Lib.hid R2
                  have hne1 : w.heap.size ≠ F := by omega
                  have q0 := set_other y0 (a := ⟨F, p, none⟩) (by simp; omega) (.int .i64 (f + T))
                  have q1 := set_other y1 (a := ⟨F, p, none⟩) (by simp; omega) (.int .i64 (f + T))
                  have hent6 := (own_gr Hent.out (hx5.trans hg6)).kept R2 (Or.inr (by simp [Value.ownBlock]; omega))
                  have Hent6 := Lib.hid hent6
                  clear R1 R2 hval hw6 d0 d1 hown6 z0 z1 z2 hent6
                  go_wp2_with fail
                  refine wp_region_last (fun w' => w' = w6.drew) (fun w' => w' = (w6.setCell ⟨F, p, none⟩ (.int .i64 (f + T))).drew) (by kernel_rfl) (by kernel_rfl) (by decide) rfl ?_
                  repeat (first
            | ((with_reducible refine wpText_skip ?_ ?_)
               · rfl
               simp only [Act.put, List.setIfInBounds_toArray, List.set_cons_zero, List.set_cons_succ])
            | ((with_reducible refine wpText_yield (v := ?_) ?_ ?_ ?_)
               rotate_left
               · rfl
               · intro W hW; first | (go_simp; done) | (go_simp; with_reducible rfl)
               simp only [Act.put, List.setIfInBounds_toArray, List.set_cons_zero, List.set_cons_succ])
            | ((with_reducible refine wpText_yield1 (v := ?_) ?_ ?_ ?_)
               rotate_left
               · rfl
               · intro W hW; first | (go_simp; done) | (go_simp; with_reducible rfl)
               simp only [Act.put, List.setIfInBounds_toArray, List.set_cons_zero, List.set_cons_succ]))
                  (first
            | ((with_reducible refine wpText_do1 undef ?_ ?_ ?_)
               · rfl
               · intro W hW K hK
                 subst hW
                 go_simp
                 exact hK _ rfl
               simp only [Act.put]))
                  rintro w7 rfl
                  clear wv
                  go_wp2_with fail
                  go_roundw
                  case rel => exact ⟨u, fl2, Hq4.out, rfl, Hpush.out, Hk2.out, Hcap2.out, HR1.out.drew, grown_trans Hgrow.out (grown_trans (grown_gr (hx5.trans hg6) _) (grown_drewR HR2.out)), Hent6.out.drew, q0, q1⟩
                  case measure => simpa [intOf] using Hpl.out
          · obtain ⟨x, hx, x1, x2, x3, x4⟩ := pipe_at Hok.out HEs.out HIs.out hv hvn
            obtain ⟨e, q1, _, _, q4, q5, _, _⟩ := HIs.out.at HEs.out hv hvn
            have hcl := cap_le HEs.out Hk.out q1
            rw [pth_step HEs.out HIs.out hv hvn, amtOf_cons] at hT
            have hpl : (pth (eds n.pipes) s node (back (eds n.pipes) s v)).length < (pth (eds n.pipes) s node v).length := by rw [pth_step HEs.out HIs.out hv hvn]; simp
            obtain ⟨p, hp⟩ : ∃ p, p = s.ent.getD v 0 := ⟨_, rfl⟩
            obtain ⟨u, hu⟩ : ∃ u, u = back (eds n.pipes) s v := ⟨_, rfl⟩
            obtain ⟨cp, hcp⟩ : ∃ cp, cp = capOf (eds n.pipes) fl s v := ⟨_, rfl⟩
            have hroom : room (eds n.pipes) fl p u = cp := by rw [hcp, hp, hu]; rfl
            rw [← hcp] at hT q5 hcl
            rw [← hu] at hT q4 x4 hpl
            rw [← hp] at hx
            have hg := hgw2.trans hgr
            have b0 := hgr.has bx0
            have b1 := hgr.has bx1
            have en := nat_at (HS2.out.gr hgr).ent hvN
            rw [← hp] at en
            obtain ⟨f, hf⟩ : ∃ f, fl[p]? = some f := ⟨_, List.getElem?_eq_getElem (by have h1 := (List.getElem?_eq_some_iff.1 hx).1; rw [Hk.out.len]; simpa [eds] using h1)⟩
            have hfb := Hk.out.at_ p (edOf x) (by rw [eds, List.getElem?_map, hx]; rfl)
            have hlb := HEs.out.at_ p (edOf x) (by rw [eds, List.getElem?_map, hx]; rfl)
            have hfe : fl.getD p 0 = f := by rw [List.getD_eq_getElem?_getD, hf]; rfl
            rw [hfe] at hfb
            have hfb2 : -1000000000 ≤ f ∧ f ≤ 1000000000 := by omega
            have Hx := Lib.hid hx
            have Hf := Lib.hid hf
            have Hx3 := Lib.hid x3
            have Hx4 := Lib.hid x4
            have Hroom := Lib.hid hroom
            have HT2 := Lib.hid hT
            have Hq4 := Lib.hid q4
            have Hpl := Lib.hid hpl
            have tv0 : (0 : Int) ≤ (v : Int) := by omega
            have tv1 : (v : Int) < (nl : Int) := by omega
            have hmin : (if cp < a then cp else a) = min a cp := by split <;> omega
            have Hmin := Lib.hid hmin
            clear hx hf x3 x4 hroom hT q1 hfb hlb hfe hp hu hcp q4 hv hpl hmin
            go_wp2_with fail
            go_region_held3 (fun w' => Gr wr w' ∧ w'.cell? ⟨w.heap.size, 0, none⟩ = some (.slice A1 nl c1) ∧ w'.cell? ⟨w.heap.size, 1, none⟩ = some (.slice A2 n2 c2) ∧ w'.cell? ⟨gE, v, none⟩ = some (.int .i64 p))
              (first | exact ⟨(Gr.refl _).drew, b0, b1, en⟩ | exact ⟨by assumption, (by assumption : Gr wr _).has b0, (by assumption : Gr wr _).has b1, (by assumption : Gr wr _).has en⟩)
              ((go_at_call 170; refine (l02Other_any n p v x _ (HA.out.gr (hg0.trans hg.drew)) Hok.out Hx.out Hx3.out).mono ?_; rintro e' w5 ⟨rfl, hg5⟩; have hx5 : Gr wr w5 := (Gr.refl _).drew.trans hg5))
            rw [Hx4.out]
            have hx5 : Gr wr w5 := by assumption
            have z0 := hx5.has b0
            have z1 := hx5.has b1
            have z2 := hx5.has en
            clear b0 b1 en
            go_wp2_with fail
            refine wp_region_text (fun w' => Gr w5 w' ∧ w'.cell? ⟨w.heap.size, 0, none⟩ = some (.slice A1 nl c1) ∧ w'.cell? ⟨w.heap.size, 1, none⟩ = some (.slice A2 n2 c2) ∧ w'.cell? ⟨gE, v, none⟩ = some (.int .i64 p)) (by kernel_rfl) (by kernel_rfl) (by decide) ⟨(Gr.refl _).drew, z0, z1, z2⟩ ?_
            repeat (first
            | ((with_reducible refine wpText_skip ?_ ?_)
               · rfl
               simp only [Act.put, List.setIfInBounds_toArray, List.set_cons_zero, List.set_cons_succ])
            | ((with_reducible refine wpText_yield (v := ?_) ?_ ?_ ?_)
               rotate_left
               · rfl
               · intro W hW; first | (go_simp; done) | (go_simp; with_reducible rfl)
               simp only [Act.put, List.setIfInBounds_toArray, List.set_cons_zero, List.set_cons_succ])
            | ((with_reducible refine wpText_yield1 (v := ?_) ?_ ?_ ?_)
               rotate_left
               · rfl
               · intro W hW; first | (go_simp; done) | (go_simp; with_reducible rfl)
               simp only [Act.put, List.setIfInBounds_toArray, List.set_cons_zero, List.set_cons_succ]))
            refine wpText_do (.int .i64 cp) (by rfl) (fun W hW K hK => ?_) ?_
            · go_simp
              have hgW : Gr w W := (hg.trans hx5).trans hW.1
              refine (l23Room_any n fl p u x f _ (HA.out.gr (hg0.trans hgW)) (own_sl_int (own_gr HF.out hgW) hn3) Hok.out Hx.out Hf.out hfb2).mono ?_
              rintro e' w' ⟨rfl, hg1⟩
              rw [Hroom.out]
              have hg3 : Gr w5 w' := hW.1.trans hg1
              exact hK _ ⟨hg3, hg3.has z0, hg3.has z1, hg3.has z2⟩
            simp only [Act.put, List.setIfInBounds_toArray, List.set_cons_zero, List.set_cons_succ]
            repeat (first
            | ((with_reducible refine wpText_skip ?_ ?_)
               · rfl
               simp only [Act.put, List.setIfInBounds_toArray, List.set_cons_zero, List.set_cons_succ])
            | ((with_reducible refine wpText_yield (v := ?_) ?_ ?_ ?_)
               rotate_left
               · rfl
               · intro W hW; first | (go_simp; done) | (go_simp; with_reducible rfl)
               simp only [Act.put, List.setIfInBounds_toArray, List.set_cons_zero, List.set_cons_succ])
            | ((with_reducible refine wpText_yield1 (v := ?_) ?_ ?_ ?_)
               rotate_left
               · rfl
               · intro W hW; first | (go_simp; done) | (go_simp; with_reducible rfl)
               simp only [Act.put, List.setIfInBounds_toArray, List.set_cons_zero, List.set_cons_succ]))
            intro w6 hS6
            rw [Hmin.out]
            obtain ⟨a', ha'⟩ : ∃ a', a' = min a cp := ⟨_, rfl⟩
            have HT3 := HT2.out
            rw [← ha'] at HT3 ⊢
            have HT3 := Lib.hid HT3
            have ha5 : 0 < a' ∧ a' ≤ 1000000000 := by omega
            have hg6 := hgr.trans (hx5.trans hS6.1)
            clear ha' hS6
            go_wp2_with fail
            go_roundw
            case rel => exact ⟨u, a', Hq4.out, rfl, rfl, ha5.1, ha5.2, HT3.out, hg6⟩
            case measure => simpa [intOf] using Hpl.out
end Go.Proofs.Ytbckjlejkedonaa
