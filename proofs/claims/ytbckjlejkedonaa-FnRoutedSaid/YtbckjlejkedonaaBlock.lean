/-
  Blocking sets: BlockingSet of both sides. Printed by gen_block.py.
-/
import Derived.Test.YtbckjlejkedonaaCutM
import Derived.Test.YtbckjlejkedonaaRoute1
import Derived.Test.YtbckjlejkedonaaRoute2
set_option linter.unusedSimpArgs false
set_option linter.unusedVariables false
namespace Go.Proofs.Ytbckjlejkedonaa
open Go.ChangeShapes Go.WideShapes Go.ChangeAt Go.RowKit

theorem bk_bad {n : GNet} {sup : List Int} (h : bkCode n sup ≠ 0) : bkRes n sup = [] := by rw [bkRes, if_neg h]
theorem bk_ev {n : GNet} {sup : List Int} (h : evCode n sup ≠ 0) : bkCode n sup = evCode n sup := by rw [bkCode, if_neg h]
theorem bk_none {n : GNet} {sup : List Int} (h : evCode n sup = 0) (hl : bkList n sup = []) : bkCode n sup = 4 := by rw [bkCode, if_pos h, if_pos hl]
theorem bk_some {n : GNet} {sup : List Int} (h : evCode n sup = 0) (hl : bkList n sup ≠ []) : bkCode n sup = 0 := by rw [bkCode, if_pos h, if_neg hl]
theorem casts_app (l m : List Nat) : ints (casts l) ++ nats m = ints (casts (l ++ m)) := by simp [casts, nats, ints]
theorem casts_len (l : List Nat) : (casts l).length = l.length := by simp [casts]
def mrk (N : Nat) (l : List Nat) : List Bool := (List.range N).map fun v => decide (v ∈ l)
theorem mrk_len (N : Nat) (l : List Nat) : (mrk N l).length = N := by simp [mrk]
theorem mrk_nil (N : Nat) : mrk N [] = List.replicate N false := by
  refine List.ext_getElem? fun u => ?_
  rw [mrk, List.getElem?_map, List.getElem?_replicate]
  by_cases hu : u < N
  · rw [List.getElem?_range hu, if_pos hu]; simp
  · rw [List.getElem?_eq_none (by simp; omega), if_neg hu]; rfl
theorem mrk_get {N : Nat} {l : List Nat} {v : Nat} (h : v < N) : (mrk N l)[v]? = some (decide (v ∈ l)) := by
  rw [mrk, List.getElem?_map, List.getElem?_range h]; rfl
theorem mrk_snoc {N : Nat} {l m : List Nat} {j v : Nat} (h : m[j]? = some v) (hv : v < N) : mrk N (l ++ m.take (j + 1)) = (mrk N (l ++ m.take j)).set v true := by
  refine List.ext_getElem? fun u => ?_
  rw [List.getElem?_set]
  by_cases hu : u < N
  · rw [mrk_get hu]
    by_cases e : v = u
    · subst e
      rw [if_pos rfl, if_pos (by rw [mrk_len]; exact hv), List.take_add_one, h]
      simp
    · rw [if_neg e, mrk_get hu, List.take_add_one, h]
      have : ¬ u = v := fun q => e q.symm
      simp [this]
  · rw [List.getElem?_eq_none (by rw [mrk_len]; omega)]
    rw [if_neg (by omega), List.getElem?_eq_none (by rw [mrk_len]; omega)]
set_option maxHeartbeats 3200000 in
set_option maxRecDepth 100000 in
theorem BlockingSet_any {A1 A2 A3 : Option Addr} {n1 c1 n2 c2 n3 c3 : Nat} (n : GNet) (sup : List Int) (w : World) (hA : NetAt w A1 n1 c1 A2 n2 c2 n) (hS : SlAt w 1 A3 n3 c3 (ints sup)) :
    Calls Try.prog 23 #[.agg #[.slice A1 n1 c1, .slice A2 n2 c2], .slice A3 n3 c3] w fun e w' => ∃ A m c, e = .returned (.tuple #[.slice A m c, .int .i64 (bkCode n sup)]) ∧ m ≤ 1048576 ∧ w'.ownsRow w.heap.size 2 1 (.slice A m c) m (ints (bkRes n sup)) ∧ Gr w w' := by
  have hm1 := hA.m1
  have hm2 := hA.m2
  have hl1 := hA.l1
  have hlen := hS.sl.ilen
  have HA := Lib.hid hA
  have HS := Lib.hid hS
  have Hl1 := Lib.hid hl1
  obtain ⟨i0, hi0, hz0, hz1, hz2⟩ := info_parts infoInt64
  clear hA hS hl1
  go_enter Try.func23, Try.ntmps23
  go_wp2_with fail
  refine (checkEven_any n sup _ (HA.out.gr ((Gr.refl _).alloc _)) (HS.out.gr ((Gr.refl _).alloc _))).mono ?_
  rintro e w1 ⟨rfl, hg1⟩
  have hg0 : Gr w w1 := ((Gr.refl _).alloc _).trans hg1
  have b0 : w1.cell? ⟨w.heap.size, 0, none⟩ = some (.slice A1 n1 c1) := hg1.has (by simp [go_sem])
  have b1 : w1.cell? ⟨w.heap.size, 1, none⟩ = some (.slice A2 n2 c2) := hg1.has (by simp [go_sem])
  clear hg1
  by_cases hc : evCode n sup = 0
  · obtain ⟨hn, hs⟩ := suCode_zero (evCode_zero hc).1
    rw [HA.out.l1] at hs
    obtain rfl : n3 = n1 := hlen.symm.trans (supOk_all hs).1
    have hEs : EsOk (eds n.pipes) n3 := by have := eds_ok hn; rw [Hl1.out] at this; exact this
    have h24 : n3 ≤ 24 := by have := (netOk_all hn).1.2.1; rw [Hl1.out] at this; exact this
    have HEs := Lib.hid hEs
    have Hc := Lib.hid hc
    have Hn := Lib.hid hn
    have Hs := Lib.hid hs
    have tb : (evCode n sup != 0) = false := by simp [hc]
    clear hc hn hs hEs
    go_wp2_with fail
    refine (routed_any n sup _ (HA.out.gr hg0) (HS.out.gr hg0) Hn.out (supOk_bnd Hs.out)).mono ?_
    rintro e w2 ⟨g, F, G, cl, rfl, hR, hF, hG, hok, hg2⟩
    obtain ⟨fl, hfl⟩ : ∃ fl, fl = (rt (eds n.pipes) n3 sup).1 := ⟨_, rfl⟩
    obtain ⟨lf, hlf⟩ : ∃ lf, lf = (rt (eds n.pipes) n3 sup).2 := ⟨_, rfl⟩
    have hbk : bkList n sup = blkTo (eds n.pipes) n3 fl lf n3 := by rw [bkList, Hl1.out, hfl, hlf]
    have HB := Lib.hid hbk
    have HK : Hid (Keeps (eds n.pipes) fl) := Lib.hid (by rw [hfl]; exact hok.keeps)
    have Hll : Hid (lf.length = n3) := Lib.hid (by rw [hlf]; exact hok.len)
    rw [← hfl] at hF
    rw [← hlf] at hG
    have r2 := hR.k2
    have r3 := hR.k3
    have HR := Lib.hid hR
    have HF := Lib.hid (SlAt.of_own hF hm2)
    have HG := Lib.hid hG
    have hgw2 := hg0.trans hg2
    have hsw := hgw2.size
    clear hF hG hR hok hfl hlf hbk
    go_wp2_with fail
    go_loopw [8, 25] (fun o i wr => ∃ k : Nat, k ≤ n3 ∧ i = .int .i64 k ∧ (∃ A m c, o = .slice A m c ∧ m = (blkTo (eds n.pipes) n3 fl lf k).length ∧ wr.ownsRow w2.heap.size 2 1 (.slice A m c) m (ints (casts (blkTo (eds n.pipes) n3 fl lf k)))) ∧ Gr w2 wr) (fun _ i _ => n3 - (intOf i).toNat)
    case atStart => exact ⟨0, Nat.zero_le _, rfl, ⟨_, _, _, rfl, rfl, World.ownsRow_nil _ _ _ _⟩, Gr.refl _⟩
    case round =>
      obtain ⟨k, hk, rfl, ⟨A, m, c, rfl, hm, hown⟩, hgr⟩ := hrel
      have hmk : m ≤ 24 * 24 := by rw [hm]; exact Nat.le_trans (bkt_len HEs.out hk) (Nat.mul_le_mul h24 (by omega))
      have Hm := Lib.hid hm
      have Hown := Lib.hid hown
      have hsz := hgr.size
      clear hm hown
      by_cases hlt : k < n3
      · have t1 : (k : Int) < (n3 : Int) := by omega
        have t0 : (0 : Int) ≤ (k : Int) := by omega
        have g1 := get_of_lt (l := lf) (k := k) (by have := Hll.out; omega)
        obtain ⟨x, hx⟩ : ∃ x, x = lf.getD k 0 := ⟨_, rfl⟩
        rw [← hx] at g1
        obtain ⟨e0, _⟩ := own_int (own_gr HG.out hgr) g1
        clear g1
        by_cases hxp : 0 < x
        · have tx : decide ((0 : Int) < x) = true := by simp [hxp]
          have Hst := Lib.hid (bkt_yes (es := eds n.pipes) (N := n3) (fl := fl) (lf := lf) (k := k) (by rw [← hx]; exact hxp))
          clear hx hxp
          go_wp2_with fail
          refine (search_any n fl k _ (HR.out.gr hgr) (HA.out.gr (hgw2.trans hgr)) (HF.out.gr hgr) Hn.out HK.out hlt).mono ?_
          rintro e w4 ⟨O, E, rfl, ⟨Ao, co, rfl⟩, hE, hO, _, hg4⟩
          have hI := inv_srch (fl := fl) HEs.out hlt
          have hol := hI.len
          have hpos : 0 < (srch (eds n.pipes) fl n3 k).ord.length := (List.getElem?_eq_some_iff.1 hI.hd).1
          obtain ⟨od, hod⟩ : ∃ od, od = (srch (eds n.pipes) fl n3 k).ord := ⟨_, rfl⟩
          rw [← hod] at hO hol hpos Hst ⊢
          obtain ⟨gO, rfl, hb1, hb2⟩ := own_form hO hpos
          have HO := Lib.hid (Sl.cells (SlAt.of_own hO (by omega)).sl)
          have Hnl : Hid ((nats od).length = od.length * 1) := Lib.hid (by simp [nats, ints])
          have hfd : ∀ W : World, (Instr.field 109 (.agg #[.slice (some ⟨gO, 0, none⟩) od.length co, .slice none 0 0, .slice (some ⟨E, 0, none⟩) n3 n3]) 0).run Try.prog W = .ok (.slice (some ⟨gO, 0, none⟩) od.length co) W := fun _ => by kernel_rfl
          have hgr4 := hgr.trans hg4
          have Ho4 := Lib.hid (own_gr Hown.out hg4)
          have hsz4 := hg4.size
          clear hE hO hI hod e0
          go_wp2_with (at_builtin; (refine wpList_append_own _ rfl _ _ _ rfl w2.heap.size 2 i0 _ 1 8 Try.underlying27 hi0 hz0 hz1 hz2 rfl (by omega) _ m _ rfl Ho4.out ⟨gO, 0, none⟩ od.length co (nats od) rfl Hnl.out HO.out (ints_one _) (by unfold maxLen; omega) (by omega) (by omega) ?_; intro v' w20 hown20 hg20 _; obtain ⟨A20, c20, rfl⟩ := own_shape hown20; have Ho20 := Lib.hid (own_cells_eq hown20 (casts_app _ _)); have hg21 : Gr w2 w20 := hgr4.grown hg20 (fun j hj => own_base_le Ho4.out hj); clear hown20 hg20))
          go_wp2_with fail
          go_roundw
          case rel => exact ⟨k + 1, by omega, by go_num, ⟨_, _, _, rfl, by rw [Hst.out, Hm.out, List.length_append], by rw [Hst.out]; exact Ho20.out⟩, hg21⟩
          case measure => simp [intOf]; omega
        · have tx : decide ((0 : Int) < x) = false := by simp [hxp]
          have Hst := Lib.hid (bkt_no (es := eds n.pipes) (N := n3) (fl := fl) (lf := lf) (k := k) (by rw [← hx]; exact hxp))
          clear hx hxp
          go_wp2_with fail
          go_roundw
          case rel => exact ⟨k + 1, by omega, by go_num, ⟨_, _, _, rfl, by rw [Hst.out]; exact Hm.out, by rw [Hst.out]; exact Hown.out⟩, hgr⟩
          case measure => simp [intOf]; omega
      · obtain rfl : n3 = k := by omega
        have hgw3 := hgw2.trans hgr
        by_cases hz : m = 0
        · subst hz
          have hnil : bkList n sup = [] := by rw [HB.out]; exact List.eq_nil_of_length_eq_zero Hm.out.symm
          have Hbc := Lib.hid (bk_none Hc.out hnil)
          clear hnil
          go_wp2_with fail
          go_ret2
          exact ⟨_, _, _, by rw [Hbc.out]; rfl, Nat.zero_le _, by rw [bk_bad (by rw [Hbc.out]; decide)]; exact World.ownsRow_nil _ _ _ _, hgw3⟩
        · have hnn : bkList n sup ≠ [] := by
            rw [HB.out]; intro e; rw [e] at Hm; exact hz Hm.out
          have Hbc := Lib.hid (bk_some Hc.out hnn)
          have tz : ((m : Int) == 0) = false := by simp; omega
          clear hnn
          go_wp2_with fail
          refine (sortInt_any (casts (blkTo (eds n.pipes) n3 fl lf n3)) _ Hown.out (by omega) (by omega)).mono ?_
          rintro e w4 ⟨rfl, ho, hc4⟩
          have hfr : Gr w w4 := hgw3.of_chg hc4 (fun k hk => by have := own_base_le Hown.out (k := k) (by rw [hk]; rfl); omega)
          have Ho := Lib.hid ho
          clear ho hc4
          go_wp2_with fail
          refine (compactInt_any (srt (casts (blkTo (eds n.pipes) n3 fl lf n3))) _ Ho.out (by omega) (by omega)).mono ?_
          rintro e w5 ⟨rfl, ho, hc5⟩
          have hfr5 : Gr w w5 := hfr.of_chg hc5 (fun k hk => by have := own_base_le Ho.out (k := k) (by rw [hk]; rfl); omega)
          have hcn := comp_nodes (bkt_lt (fl := fl) (lf := lf) HEs.out (Nat.le_refl n3))
          have hml := memTo_len (blkTo (eds n.pipes) n3 fl lf n3) n3
          rw [hcn] at ho ⊢
          have Ho5 := Lib.hid ho
          clear ho hc5 hcn
          go_wp2_with fail
          go_ret2
          refine ⟨_, _, _, by rw [Hbc.out]; rfl, by rw [casts_len]; omega, ?_, hfr5⟩
          rw [bkRes, if_pos Hbc.out, Hl1.out, HB.out]
          exact own_base Ho5.out hsw
  · have Hc := Lib.hid hc
    have tb : (evCode n sup != 0) = true := by simp [hc]
    clear hc
    go_wp2_with fail
    go_ret2
    exact ⟨_, _, _, by rw [bk_ev Hc.out]; rfl, Nat.zero_le _, by rw [bk_bad (by rw [bk_ev Hc.out]; exact Hc.out)]; exact World.ownsRow_nil _ _ _ _, hg0⟩
set_option maxHeartbeats 6400000 in
set_option maxRecDepth 100000 in
theorem spBlockingSet_any {A1 A2 A3 : Option Addr} {n1 c1 n2 c2 n3 c3 : Nat} (n : GNet) (sup : List Int) (w : World) (hA : NetAt w A1 n1 c1 A2 n2 c2 n) (hS : SlAt w 1 A3 n3 c3 (ints sup)) :
    Calls Try.prog 21 #[.agg #[.slice A1 n1 c1, .slice A2 n2 c2], .slice A3 n3 c3] w fun e w' => ∃ A m c, e = .returned (.tuple #[.slice A m c, .int .i64 (bkCode n sup)]) ∧ m ≤ 1048576 ∧ w'.ownsRow w.heap.size 2 1 (.slice A m c) m (ints (bkRes n sup)) ∧ Gr w w' := by
  have hm1 := hA.m1
  have hm2 := hA.m2
  have hl1 := hA.l1
  have hlen := hS.sl.ilen
  have HA := Lib.hid hA
  have HS := Lib.hid hS
  have Hl1 := Lib.hid hl1
  obtain ⟨i0, hi0, hz0, hz1, hz2⟩ := info_parts infoInt64
  clear hA hS hl1
  go_enter Try.func21, Try.ntmps21
  go_wp2_with fail
  refine (l23Code_any n sup _ (HA.out.gr ((Gr.refl _).alloc _)) (HS.out.gr ((Gr.refl _).alloc _))).mono ?_
  rintro e w1 ⟨rfl, hg1⟩
  have hg0 : Gr w w1 := ((Gr.refl _).alloc _).trans hg1
  have b0 : w1.cell? ⟨w.heap.size, 0, none⟩ = some (.slice A1 n1 c1) := hg1.has (by simp [go_sem])
  have b1 : w1.cell? ⟨w.heap.size, 1, none⟩ = some (.slice A2 n2 c2) := hg1.has (by simp [go_sem])
  clear hg1
  by_cases hc : evCode n sup = 0
  · obtain ⟨hn, hs⟩ := suCode_zero (evCode_zero hc).1
    rw [HA.out.l1] at hs
    obtain rfl : n3 = n1 := hlen.symm.trans (supOk_all hs).1
    have hEs : EsOk (eds n.pipes) n3 := by have := eds_ok hn; rw [Hl1.out] at this; exact this
    have h24 : n3 ≤ 24 := by have := (netOk_all hn).1.2.1; rw [Hl1.out] at this; exact this
    have HEs := Lib.hid hEs
    have Hc := Lib.hid hc
    have Hn := Lib.hid hn
    have Hs := Lib.hid hs
    have tb : (evCode n sup != 0) = false := by simp [hc]
    clear hc hn hs hEs
    go_wp2_with fail
    refine (l23Route_any n sup _ (HA.out.gr hg0) (HS.out.gr hg0) Hn.out (supOk_bnd Hs.out)).mono ?_
    rintro e w2 ⟨F, G, cl, rfl, hF, hG, hok, hg2⟩
    obtain ⟨fl, hfl⟩ : ∃ fl, fl = (rt (eds n.pipes) n3 sup).1 := ⟨_, rfl⟩
    obtain ⟨lf, hlf⟩ : ∃ lf, lf = (rt (eds n.pipes) n3 sup).2 := ⟨_, rfl⟩
    have hbk : bkList n sup = blkTo (eds n.pipes) n3 fl lf n3 := by rw [bkList, Hl1.out, hfl, hlf]
    have HB := Lib.hid hbk
    have HK : Hid (Keeps (eds n.pipes) fl) := Lib.hid (by rw [hfl]; exact hok.keeps)
    have Hll : Hid (lf.length = n3) := Lib.hid (by rw [hlf]; exact hok.len)
    rw [← hfl] at hF
    rw [← hlf] at hG
    have HF := Lib.hid (SlAt.of_own hF hm2)
    have HG := Lib.hid hG
    have hgw2 := hg0.trans hg2
    have hsw := hgw2.size
    have c0 := hg2.has b0
    have c1' := hg2.has b1
    obtain ⟨i1, hi1, hy0, hy1, hy2⟩ := info_parts infoBool
    clear hF hG hok hfl hlf hbk b0 b1
    go_wp2_with (at_make; refine wpList_make_full _ rfl _ _ _ rfl w2.heap.size 4 i1 _ 1 Try.underlying119 hi1 hy0 hy1 .i64 .i64 _ _ n3 rfl rfl rfl rfl (by rw [hy2]; omega) (by unfold maxLen; omega) (by omega) ?_; intro w5 hown5 hg5; have hq5 : Gr w2 w5 := (Gr.refl _).grown hg5 (fun _ e => by cases e); have hown5' : w5.ownsRow w2.heap.size 4 1 (.slice (some ⟨w2.heap.size, 0, none⟩) n3 n3) n3 (bools (mrk n3 (blkTo (eds n.pipes) n3 fl lf 0))) := (by rw [show blkTo (eds n.pipes) n3 fl lf 0 = [] from rfl, mrk_nil]; exact own_cells_eq hown5 (made_bools n3)); have Ho5 := Lib.hid hown5'; clear hown5 hown5' hg5)
    obtain ⟨B, hBe⟩ : ∃ B, B = w2.heap.size := ⟨_, rfl⟩
    rw [← hBe]
    rw [← hBe] at Ho5
    have hB2 : w2.heap.size ≤ B := by omega
    have hBn : B < w5.heap.size := own_block_lt Ho5.out rfl
    clear hBe
    go_loopw [10] (fun i wr => ∃ k : Nat, k ≤ n3 ∧ i = .int .i64 k ∧ wr.ownsRow B 4 1 (.slice (some ⟨B, 0, none⟩) n3 n3) n3 (bools (mrk n3 (blkTo (eds n.pipes) n3 fl lf k))) ∧ Gr w2 wr) (fun i _ => n3 - (intOf i).toNat)
    case atStart => exact ⟨0, Nat.zero_le _, rfl, Ho5.out, hq5⟩
    case round =>
      obtain ⟨k, hk, rfl, hown, hgr⟩ := hrel
      have d0 := hgr.has c0
      have d1 := hgr.has c1'
      have Hown := Lib.hid hown
      have hBr : B < wr.heap.size := own_block_lt hown rfl
      clear hown Ho5 hq5
      by_cases hlt : k < n3
      · have t1 : (k : Int) < (n3 : Int) := by omega
        have t0 : (0 : Int) ≤ (k : Int) := by omega
        have g1 := get_of_lt (l := lf) (k := k) (by have := Hll.out; omega)
        obtain ⟨x, hx⟩ : ∃ x, x = lf.getD k 0 := ⟨_, rfl⟩
        rw [← hx] at g1
        obtain ⟨e0, _⟩ := own_int (own_gr HG.out hgr) g1
        clear g1
        by_cases hxp : 0 < x
        · have tx : decide ((0 : Int) < x) = true := by simp [hxp]
          have Hst := Lib.hid (bkt_yes (es := eds n.pipes) (N := n3) (fl := fl) (lf := lf) (k := k) (by rw [← hx]; exact hxp))
          clear hx hxp
          go_wp2_with fail
          refine (l23Search_any n fl k _ (HA.out.gr (hgw2.trans hgr)) (HF.out.gr hgr) Hn.out HK.out hlt).mono ?_
          rintro e w4 ⟨O, gE, gS, rfl, ⟨A, c, rfl⟩, hS, hg4⟩
          obtain ⟨od, hod⟩ : ∃ od, od = (srch (eds n.pipes) fl n3 k).ord := ⟨_, rfl⟩
          have hI := inv_srch (fl := fl) HEs.out hlt
          have hordL : ∀ v ∈ od, v < n3 := by rw [hod]; exact hI.lt
          have hlen : od.length ≤ n3 := by rw [hod]; exact hI.len
          have hpos : 0 < od.length := by rw [hod]; exact (List.getElem?_eq_some_iff.1 hI.hd).1
          have hSo := hS.ord
          rw [← hod] at hSo Hst ⊢
          obtain ⟨gO, rfl, hgO1, hgO2⟩ := own_form hSo hpos
          have hgOB : gO ≠ B := by have h1 := own_base_le hSo (k := gO) rfl; have h2 := hS.gh; have h3 := hS.ge; omega
          have HSo := Lib.hid hSo
          have y0 := hg4.has d0
          have y1 := hg4.has d1
          have hgr4 := hgr.trans hg4
          have Hown4 := Lib.hid (own_gr Hown.out hg4)
          have HordL := Lib.hid hordL
          have hs4 := hg4.size
          clear hS hod hI hordL hSo d0 d1 e0 Hown
          go_wp2_with fail
          go_loopw [13] (fun i wq => ∃ j : Nat, j ≤ od.length ∧ i = .int .i64 j ∧ wq.ownsRow B 4 1 (.slice (some ⟨B, 0, none⟩) n3 n3) n3 (bools (mrk n3 (blkTo (eds n.pipes) n3 fl lf k ++ od.take j))) ∧ w4.grownBy wq (some B)) (fun i _ => od.length - (intOf i).toNat)
          case atStart => exact ⟨0, Nat.zero_le _, rfl, by rw [List.take_zero, List.append_nil]; exact Hown4.out, World.grownBy.refl _ _⟩
          case round =>
            obtain ⟨j, hj, rfl, hownj, hgrow⟩ := hrel
            by_cases hjl : j < od.length
            · obtain ⟨v, hv⟩ : ∃ v, od[j]? = some v := ⟨_, List.getElem?_eq_getElem hjl⟩
              have hvN := HordL.out v (List.mem_of_getElem? hv)
              have hvi : (od.map fun (x : Nat) => (x : Int))[j]? = some (v : Int) := by simp [hv]
              have f0 := (own_int (HSo.out.kept hgrow (Or.inr (by simp [Value.ownBlock]; omega))) hvi).1
              obtain ⟨p0, p1⟩ := own_bool hownj (mrk_get (N := n3) (l := blkTo (eds n.pipes) n3 fl lf k ++ od.take j) hvN) hvN
              obtain ⟨R1, R2⟩ := own_set_bool hownj v true
              rw [← mrk_snoc hv hvN] at R1
              have HR1 := Lib.hid R1
              have HR2 := Lib.hid R2
              have Hgrow := Lib.hid hgrow
              clear hv hvi R1 R2 hgrow hownj
              go_wp2_with fail
              go_roundw
              case rel => exact ⟨j + 1, by omega, by go_num, HR1.out, grown_trans Hgrow.out HR2.out⟩
              case measure => simp [intOf]; omega
            · have hje : od.take j = od := List.take_of_length_le (by omega)
              rw [hje, ← Hst.out] at hownj
              have Hownj := Lib.hid hownj
              have hgr6 : Gr w2 wr := hgr4.grown hgrow (fun _ e => by injection e with e; omega)
              clear hownj hgrow hje y0 y1
              go_wp2_with fail
              go_roundw
              case rel => exact ⟨k + 1, by omega, by go_num, Hownj.out, hgr6⟩
              case measure => simp [intOf]; omega
        · have tx : decide ((0 : Int) < x) = false := by simp [hxp]
          have Hst := Lib.hid (bkt_no (es := eds n.pipes) (N := n3) (fl := fl) (lf := lf) (k := k) (by rw [← hx]; exact hxp))
          clear hx hxp
          go_wp2_with fail
          go_roundw
          case rel => exact ⟨k + 1, by omega, by go_num, by rw [Hst.out]; exact Hown.out, hgr⟩
          case measure => simp [intOf]; omega
      · obtain rfl : n3 = k := by omega
        have hgw3 := hgw2.trans hgr
        obtain ⟨bl, hbl⟩ : ∃ bl, bl = blkTo (eds n.pipes) n3 fl lf n3 := ⟨_, rfl⟩
        have hbn := memTo_nil (l := bl) (N := n3) (by rw [hbl]; exact bkt_lt HEs.out (Nat.le_refl n3))
        rw [← hbl] at Hown HB
        rename World => w7
        have Hbn := Lib.hid hbn
        have hown8 : (w7.alloc (.cells #[] 2)).ownsRow w7.heap.size 2 1 (.slice (some ⟨w7.heap.size, 0, none⟩) 0 0) 0 (ints (casts (memTo bl 0))) := World.ownsRow_lit w7 (e := 2) (size := 1) #[] 0 (Nat.le_refl _) (by unfold maxLen; omega) rfl
        have Ho8 := Lib.hid hown8
        have hs7 := hgw3.size
        clear hbl hbn hown8 d0 d1
        go_wp2_with fail
        go_loopw [14, 15] (fun o i wq => ∃ k : Nat, ∃ A m c, k ≤ n3 ∧ i = .int .i64 k ∧ o = .slice A m c ∧ m = (memTo bl k).length ∧ wq.ownsRow w7.heap.size 2 1 (.slice A m c) m (ints (casts (memTo bl k))) ∧ Gr w7 wq) (fun _ i _ => n3 - (intOf i).toNat)
        case atStart => exact ⟨0, _, _, _, Nat.zero_le _, rfl, rfl, rfl, Ho8.out, (Gr.refl _).alloc _⟩
        case round =>
          obtain ⟨k, A', m, c', hk, rfl, rfl, hmv, hown, hgq⟩ := hrel
          have Hown2 := Lib.hid hown
          have Hmv := Lib.hid hmv
          have hm : m ≤ n3 := by have := memTo_len bl k; omega
          have hsq := hgq.size
          clear hown hmv
          by_cases hlt : k < n3
          · obtain ⟨p0, p1⟩ := own_bool (own_gr Hown.out hgq) (mrk_get (N := n3) (l := bl) hlt) hlt
            have t1 : (k : Int) < (n3 : Int) := by omega
            have t0 : (0 : Int) ≤ (k : Int) := by omega
            by_cases hin : k ∈ bl
            · have Hst := Lib.hid (memTo_yes hin)
              rw [decide_eq_true hin] at p0
              clear hin
              go_wp2_with (at_builtin; (refine wpList_append_own _ rfl _ _ _ rfl w7.heap.size 2 i0 _ 1 8 Try.underlying27 hi0 hz0 hz1 hz2 rfl (by omega) _ m _ rfl (Hown2.out.alloc _) ⟨wr.heap.size, 0, none⟩ 1 1 [.int .i64 (k : Int)] rfl rfl (World.news_of_block (cs := #[.int .i64 (k : Int)]) (t := 2) (fr := (0, 0)) (heap_alloc_new wr _)) (by simp [Value.oneCell']) (by unfold maxLen; omega) (by omega) (by simp; omega) ?_; intro v' w20 hown20 hg20 _; obtain ⟨A20, c20, rfl⟩ := own_shape hown20; have Ho20 := Lib.hid (own_cells_eq hown20 (casts_app (memTo bl k) [k])); have hg21 : Gr w7 w20 := (hgq.alloc _).grown hg20 (fun j hj => own_base_le Hown2.out hj); clear hown20 hg20))
              go_wp2_with fail
              go_roundw
              case rel => exact ⟨k + 1, _, _, _, by omega, by go_num, rfl, by rw [Hst.out, Hmv.out]; simp, by rw [Hst.out]; exact Ho20.out, hg21⟩
              case measure => simp [intOf]; omega
            · have Hst := Lib.hid (memTo_no hin)
              rw [decide_eq_false hin] at p0
              clear hin
              go_wp2_with fail
              go_roundw
              case rel => exact ⟨k + 1, _, _, _, by omega, by go_num, rfl, by rw [Hst.out]; exact Hmv.out, by rw [Hst.out]; exact Hown2.out, hgq⟩
              case measure => simp [intOf]; omega
          · obtain rfl : n3 = k := by omega
            by_cases hz : m = 0
            · subst hz
              have hnil : bkList n sup = [] := by rw [HB.out]; exact Hbn.out.1 (List.eq_nil_of_length_eq_zero Hmv.out.symm)
              have Hbc := Lib.hid (bk_none Hc.out hnil)
              clear hnil
              go_wp2_with fail
              go_ret2
              exact ⟨_, _, _, by rw [Hbc.out]; rfl, Nat.zero_le _, by rw [bk_bad (by rw [Hbc.out]; decide)]; exact World.ownsRow_nil _ _ _ _, hgw3.trans hgq⟩
            · have hnn : bkList n sup ≠ [] := by
                rw [HB.out]; intro e; rw [Hbn.out.2 e] at Hmv; exact hz Hmv.out
              have Hbc := Lib.hid (bk_some Hc.out hnn)
              have tz : ((m : Int) == 0) = false := by simp; omega
              clear hnn
              go_wp2_with fail
              go_ret2
              refine ⟨_, _, _, by rw [Hbc.out]; rfl, by omega, ?_, hgw3.trans hgq⟩
              rw [bkRes, if_pos Hbc.out, Hl1.out, HB.out]
              exact own_base Hown2.out hs7
  · have Hc := Lib.hid hc
    have tb : (evCode n sup != 0) = true := by simp [hc]
    clear hc
    go_wp2_with fail
    go_ret2
    exact ⟨_, _, _, by rw [bk_ev Hc.out]; rfl, Nat.zero_le _, by rw [bk_bad (by rw [bk_ev Hc.out]; exact Hc.out)]; exact World.ownsRow_nil _ _ _ _, hg0⟩
end Go.Proofs.Ytbckjlejkedonaa
