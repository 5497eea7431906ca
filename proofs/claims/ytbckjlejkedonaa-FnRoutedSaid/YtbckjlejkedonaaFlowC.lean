import Derived.Test.YtbckjlejkedonaaFlowB
import Derived.Test.YtbckjlejkedonaaFlowMs
import Derived.Deep.OwnRows
/-
  One sending of the program's routing.
-/
namespace Go.Proofs.Ytbckjlejkedonaa
open Go.ChangeShapes Go.WideShapes Go.ChangeAt Go.RowKit

theorem sendOne1_any {g B G nl cl base : Nat} (lf : List Int) (v : Nat) (w : World) (hB : w.cell? ⟨B, 0, none⟩ = some (.pointer (some ⟨g, 0, none⟩))) (hg : w.cell? ⟨g, 3, none⟩ = some (.slice (some ⟨G, 0, none⟩) nl cl)) (hL : w.ownsRow base 2 1 (.slice (some ⟨G, 0, none⟩) nl cl) nl (ints lf)) (hv : v < nl) :
    Calls Try.prog 214 #[.int .i64 v, .pointer (some ⟨B, 0, none⟩)] w fun e w' => e = .returned (.bool (ng lf v)) ∧ Gr w w' := by
  have hl := own_ilen hL
  obtain ⟨l0, _⟩ := own_int hL (get_int (l := lf) (k := v) (by omega))
  have e : ng lf v = decide (lf.getD v 0 < 0) := rfl
  rw [e]
  obtain ⟨z, hz⟩ : ∃ z, z = lf.getD v 0 := ⟨_, rfl⟩
  rw [← hz] at l0
  rw [← hz]
  clear hL hz e
  go_enter Try.func214, Try.ntmps214
  go_wp2_with fail
  go_ret
  exact ⟨rfl, Gr.refl _⟩
def ngI (lf : List Int) (z : Int) : Bool := ng lf z.toNat
theorem idx_none {lf : List Int} {l : List Nat} (h : l.find? (ng lf) = none) : idxOf (ngI lf) (l.map fun (x : Nat) => (x : Int)) = -1 := by
  refine idxOf_none fun j hj y hy => ?_
  simp only [List.getElem?_map, Option.map_eq_some_iff] at hy
  obtain ⟨v, hv, rfl⟩ := hy
  rw [List.find?_eq_none] at h
  have := h v (List.mem_of_getElem? hv)
  simpa [ngI] using this
theorem idx_some {lf : List Int} {l : List Nat} {t : Nat} (h : l.find? (ng lf) = some t) : ∃ j : Nat, l[j]? = some t ∧ idxOf (ngI lf) (l.map fun (x : Nat) => (x : Int)) = j := by
  rw [List.find?_eq_some_iff_getElem] at h
  obtain ⟨hp, j, hj, hjt, hb⟩ := h
  have hj' : l[j]? = some t := by rw [List.getElem?_eq_getElem hj, hjt]
  refine ⟨j, hj', idxOf_hit (x := (t : Int)) (by simp [hj']) (by simpa [ngI] using hp) ?_⟩
  intro i hi y hy
  simp only [List.getElem?_map, Option.map_eq_some_iff] at hy
  obtain ⟨v, hv, rfl⟩ := hy
  have hil : i < l.length := (List.getElem?_eq_some_iff.1 hv).1
  have := hb i hi
  rw [List.getElem?_eq_getElem hil] at hv
  injection hv with hv
  rw [hv] at this
  simpa [ngI] using this

set_option maxHeartbeats 6400000 in
set_option maxRecDepth 100000 in
theorem sendOne_any {A1 A2 : Option Addr} {n1 c1 n2 c2 n3 c3 cl g F G base : Nat} (n : GNet) (fl lf : List Int) (w0 w : World) (hA : NetAt w0 A1 n1 c1 A2 n2 c2 n) (hg0 : Gr w0 w) (hbase : w0.heap.size ≤ base)
    (hR : RtAt w g A1 n1 c1 A2 n2 c2 (some ⟨F, 0, none⟩) n3 c3 (.slice (some ⟨G, 0, none⟩) n1 cl)) (hF : w.ownsRow base 2 1 (.slice (some ⟨F, 0, none⟩) n3 c3) n3 (ints fl)) (hL : w.ownsRow base 2 1 (.slice (some ⟨G, 0, none⟩) n1 cl) n1 (ints lf))
    (hFG : F ≠ G) (hgF : g ≠ F) (hgG : g ≠ G) (hn3 : n3 ≤ 1048576) (hok : netOk n = true) (hO : RtOk (eds n.pipes) n1 (fl, lf)) :
    Calls Try.prog 175 #[.pointer (some ⟨g, 0, none⟩)] w fun e w' => ∃ r : Bool, e = .returned (.bool r) ∧ Chg (fun k => k = F ∨ k = G) w w' ∧ (r = true ↔ rtGo (eds n.pipes) n1 (fl, lf)) ∧
      w'.ownsRow base 2 1 (.slice (some ⟨F, 0, none⟩) n3 c3) n3 (ints (rtN (eds n.pipes) n1 (fl, lf)).1) ∧ w'.ownsRow base 2 1 (.slice (some ⟨G, 0, none⟩) n1 cl) n1 (ints (rtN (eds n.pipes) n1 (fl, lf)).2) := by
  have hm1 := hA.m1
  have hm2 := hA.m2
  have hEs : EsOk (eds n.pipes) n1 := by have := eds_ok hok; rw [hA.l1] at this; exact this
  have HEs := Lib.hid hEs
  have HA := Lib.hid hA
  have HF := Lib.hid hF
  have HL := Lib.hid hL
  have HR := Lib.hid hR
  have Hok := Lib.hid hok
  have HO := Lib.hid hO
  have hlfl : lf.length = n1 := hO.len
  have hFl : F < w.heap.size := own_block_lt hF rfl
  have hGl : G < w.heap.size := own_block_lt hL rfl
  have hFb : base ≤ F := own_base_le hF rfl
  have hGb : base ≤ G := own_base_le hL rfl
  have hgl : g < w.heap.size := lt_of_cell hR.k0
  clear hA hF hL hok hEs hR hO
  go_enter Try.func175, Try.ntmps175
  obtain ⟨wb, hwb⟩ : ∃ wb, wb = w.alloc (.cells #[.pointer (some ⟨g, 0, none⟩)] 105) := ⟨_, rfl⟩
  have hgb : Gr w wb := by rw [hwb]; exact (Gr.refl _).alloc _
  have bx : wb.cell? ⟨w.heap.size, 0, none⟩ = some (.pointer (some ⟨g, 0, none⟩)) := by rw [hwb]; simp [go_sem]
  have k3 := (HR.out.gr hgb).k3
  rw [hwb] at k3
  go_wp2_with fail
  rw [← hwb]
  clear hwb k3
  go_loopw [14] (fun i wr => ∃ k : Nat, k ≤ n1 ∧ i = .int .i64 k ∧ (∀ j, j < k → rtAt (eds n.pipes) n1 fl lf j = false) ∧ Gr wb wr) (fun i _ => n1 - (intOf i).toNat)
  case atStart => exact ⟨0, Nat.zero_le _, rfl, fun j h => absurd h (by omega), Gr.refl _⟩
  case round =>
    obtain ⟨k, hk, rfl, hno, hgr⟩ := hrel
    have Hno := Lib.hid hno
    clear hno
    have hg := hgb.trans hgr
    by_cases hlt : k < n1
    · have gx := get_int (l := lf) (k := k) (by omega)
      have hbx := HO.out.bnd k _ gx
      obtain ⟨l0, l0f⟩ := own_int (own_gr HL.out hg) gx
      obtain ⟨x, hx⟩ : ∃ x, x = lf.getD k 0 := ⟨_, rfl⟩
      rw [← hx] at l0 hbx
      have Hx := Lib.hid hx
      clear hx gx
      by_cases hx0 : 0 < x
      · have b1 := hgr.has bx
        go_wp2_with fail
        refine (search_any n fl k _ (HR.out.gr hg) (HA.out.gr (hg0.trans hg)) (own_sl_int (own_gr HF.out hg) hn3) Hok.out HO.out.keeps hlt).mono ?_
        rintro e w2 ⟨O, E, rfl, ⟨Ao, co, rfl⟩, hEnt, hOrd, hOE, hg2⟩
        have hI := inv_srch (fl := fl) HEs.out hlt
        obtain ⟨st, hst⟩ : ∃ st, st = srch (eds n.pipes) fl n1 k := ⟨_, rfl⟩
        rw [← hst] at hEnt hOrd hI
        rw [← hst]
        have hlen := hI.len
        have hEr : wr.heap.size ≤ E := own_base_le hEnt rfl
        have hwr := hg.size
        have hEF : E ≠ F := by omega
        have hEG : E ≠ G := by omega
        have HEnt := Lib.hid hEnt
        have HOrd := Lib.hid hOrd
        have HI := Lib.hid hI
        have Hst := Lib.hid hst
        have b2 := hg2.has b1
        clear hEnt hOrd hI hst hOE b1 l0 l0f
        go_wp2_with fail
        generalize hw3 : World.alloc w2 _ = w3
        have hg3 : Gr w2 w3 := by rw [← hw3]; exact (Gr.refl _).alloc _
        have q0 : w3.cell? ⟨w2.heap.size, 0, none⟩ = some (.slice Ao st.ord.length co) := by rw [← hw3]; simp [go_sem]
        have q1 : w3.cell? ⟨w2.heap.size, 1, none⟩ = some (.slice none 0 0) := by rw [← hw3]; simp [go_sem]
        have q2 : w3.cell? ⟨w2.heap.size, 2, none⟩ = some (.slice (some ⟨E, 0, none⟩) n1 n1) := by rw [← hw3]; simp [go_sem]
        have b3 := hg3.has b2
        have hgw3 := (hg.trans hg2).trans hg3
        have hs2 := hg2.size
        have hs3 := hg3.size
        clear hw3 b2
        refine (IndexFunc_sendOne (.pointer (some ⟨w.heap.size, 0, none⟩)) (ngI lf) Ao st.ord.length co (st.ord.map fun (x : Nat) => (x : Int)) _ (by omega) (Sl.of_own (own_gr HOrd.out hg3)) (fun i z W hz hW => ?_)).mono ?_
        · simp only [List.getElem?_map, Option.map_eq_some_iff] at hz
          obtain ⟨v, hv, rfl⟩ := hz
          have := sendOne1_any lf v W (hW.has b3) ((HR.out.gr (hgw3.trans hW)).k3) (own_gr HL.out (hgw3.trans hW)) (HI.out.lt v (List.mem_of_getElem? hv))
          simpa [ngI] using this
        rintro e w4 ⟨rfl, hg4⟩
        have r0 := hg4.has q0
        have r1 := hg4.has q1
        have r2 := hg4.has q2
        have b4 := hg4.has b3
        have hgw4 := hgw3.trans hg4
        have hs4 := hg4.size
        have hw2l : w2.heap.size < w4.heap.size := lt_of_cell r0
        clear q0 q1 q2 b3
        cases htg : tgt (eds n.pipes) fl lf n1 k with
        | none =>
          have hix := idx_none (l := st.ord) (lf := lf) (by rw [Hst.out]; exact htg)
          rw [hix]
          have hna : rtAt (eds n.pipes) n1 fl lf k = false := rtAt_none htg
          have Hna := Lib.hid hna
          clear hix htg hna
          go_wp2_with fail
          go_roundw
          case rel =>
            refine ⟨k + 1, by omega, by go_num, fun j hj => ?_, hgr.trans ((hg2.trans hg3).trans hg4)⟩
            by_cases e : j = k
            · rw [e]; exact Hna.out
            · exact Hno.out j (by omega)
          case measure => simp [intOf]; omega
        | some t =>
          obtain ⟨j, hj, hix⟩ := idx_some (l := st.ord) (lf := lf) (t := t) (by rw [Hst.out]; exact htg)
          rw [hix]
          have hjl := (List.getElem?_eq_some_iff.1 hj).1
          have htm := List.mem_of_getElem? hj
          have htN := HI.out.lt t htm
          have ht2 := (tgt_spec htg).2
          have gy := get_int (l := lf) (k := t) (by omega)
          have hby := HO.out.bnd t _ gy
          obtain ⟨l1, l1f⟩ := own_int (own_gr HL.out hgw4) gy
          obtain ⟨y, hy⟩ : ∃ y, y = lf.getD t 0 := ⟨_, rfl⟩
          rw [← hy] at l1 hby ht2
          have hspec := sndA_spec HEs.out hlt htg (by rw [← Hx.out]; exact hx0)
          have hrs := rtN_eq (es := eds n.pipes) (N := n1) (fl := fl) (lf := lf) (find_first hlt Hno.out (rtAt_yes (by rw [← Hx.out]; exact hx0) htg)) htg
          have hrgo : rtGo (eds n.pipes) n1 (fl, lf) := by
            have : rtF (eds n.pipes) n1 (fl, lf) = some k := find_first hlt Hno.out (rtAt_yes (by rw [← Hx.out]; exact hx0) htg)
            rw [rtGo, this]; rfl
          have hsA : amtOf (eds n.pipes) fl st (pth (eds n.pipes) st k t) (min x (-y)) = sndA (eds n.pipes) fl lf n1 k t := by rw [sndA, ← Hst.out, ← Hx.out, ← hy]
          have hsF : sndF (eds n.pipes) fl lf n1 k t = pushes (eds n.pipes) st (sndA (eds n.pipes) fl lf n1 k t) (pth (eds n.pipes) st k t) fl := by rw [sndF, ← Hst.out]
          obtain ⟨T, hT⟩ : ∃ T, T = sndA (eds n.pipes) fl lf n1 k t := ⟨_, rfl⟩
          have hsL : sndL (eds n.pipes) fl lf n1 k t = (lf.set k (x - T)).set t (y + T) := by rw [sndL, ← hT, ← Hx.out, ← hy]
          rw [← hT] at hsA hsF hspec
          rw [← Hx.out, ← hy] at hspec
          have htk : t ≠ k := by intro e; rw [e, ← Hx.out] at hy; omega
          obtain ⟨gO, rfl, _, _⟩ := own_form HOrd.out (by omega)
          have hoi : (st.ord.map fun (x : Nat) => (x : Int))[j]? = some (t : Int) := by simp [hj]
          have o0 := (own_int (own_gr HOrd.out (hg3.trans hg4)) hoi).1
          have k3 := (HR.out.gr hgw4).k3
          have hwn : IntKind.i64.wrap (-y) = -y := IntWalk.i64_in _ (by omega)
          have HsA := Lib.hid hsA
          have HsF := Lib.hid hsF
          have HsL := Lib.hid hsL
          have Hrs := Lib.hid hrs
          have Hrgo := Lib.hid hrgo
          have Htm := Lib.hid htm
          have Hy := Lib.hid hy
          have tt0 : (0 : Int) ≤ (t : Int) := by omega
          have tt1 : (t : Int) < (n1 : Int) := by omega
          obtain ⟨m, hm⟩ : ∃ m, m = min x (-y) := ⟨_, rfl⟩
          have hmin : (if -y < x then -y else x) = m := by rw [hm]; split <;> omega
          have hpos : 0 < m ∧ m ≤ 1000000000000000000 := by omega
          have hsA2 := HsA.out
          rw [← hm] at hsA2
          have HsA := Lib.hid hsA2
          clear hix htg hj htm gy hsA hsF hsL hrs hrgo hT hy hoi hsA2 hm
          go_wp2_with fail
          have gd := hgw4.drew
          have gd2 := (hg3.trans hg4).drew
          go_region_held3 (fun w' => w'.cell? ⟨w.heap.size, 0, none⟩ = some (.pointer (some ⟨g, 0, none⟩)) ∧ w'.cell? ⟨w2.heap.size, 0, none⟩ = some (.slice (some ⟨gO, 0, none⟩) st.ord.length co) ∧ w'.cell? ⟨w2.heap.size, 1, none⟩ = some (.slice none 0 0) ∧ w'.cell? ⟨w2.heap.size, 2, none⟩ = some (.slice (some ⟨E, 0, none⟩) n1 n1) ∧ w'.cell? ⟨g, 3, none⟩ = some (.slice (some ⟨G, 0, none⟩) n1 cl) ∧ w'.cell? ⟨G, t, none⟩ = some (.int .i64 y))
            (first | exact ⟨b4, r0, r1, r2, k3, l1⟩ | exact ⟨by assumption, by assumption, by assumption, by assumption, by assumption, by assumption⟩)
            ((go_at_call 158; refine (send_any n fl st k t m w0 _ HA.out (hg0.trans gd) hbase (HR.out.gr gd) (own_gr HF.out gd) (own_gr HEnt.out gd2) hEF hgF hn3 Hok.out HO.out.keeps HI.out Htm.out hpos).mono ?_; rintro e w5 ⟨rfl, hown5, hgr5⟩; rw [HsA.out]; rw [HsA.out] at hown5; have s1 := (hgr5.cell_far ⟨w.heap.size, 0, none⟩ (lt_of_cell b4) (by simp; omega)).trans b4; have s2 := (hgr5.cell_far ⟨w2.heap.size, 0, none⟩ (lt_of_cell r0) (by simp; omega)).trans r0; have s3 := (hgr5.cell_far ⟨w2.heap.size, 1, none⟩ (lt_of_cell r1) (by simp; omega)).trans r1; have s4 := (hgr5.cell_far ⟨w2.heap.size, 2, none⟩ (lt_of_cell r2) (by simp; omega)).trans r2; have s5 := (hgr5.cell_far ⟨g, 3, none⟩ (lt_of_cell k3) (by simp; omega)).trans k3; have s6 := (hgr5.cell_far ⟨G, t, none⟩ (lt_of_cell l1) (by simp; omega)).trans l1; have Hown5 := Lib.hid hown5; have Hgr5 := Lib.hid hgr5; clear hown5 hgr5))
          have hLk := (own_gr HL.out gd).kept Hgr5.out (Or.inr (by simp [Value.ownBlock]; omega))
          have gx := get_int (l := lf) (k := k) (by omega)
          have gy := get_int (l := lf) (k := t) (by omega)
          rw [← Hx.out] at gx
          rw [← Hy.out] at gy
          obtain ⟨m0, mf0⟩ := own_int hLk gx
          obtain ⟨m1, mf1⟩ := own_int hLk gy
          obtain ⟨R1, R2⟩ := own_set_int hLk k (x - T)
          obtain ⟨R3, R4⟩ := own_set_int R1 t (y + T)
          rw [← HsL.out] at R3
          have hown5 := Hown5.out
          rw [← HsF.out] at hown5
          have hk5 := (hown5.kept R2 (Or.inr (by simp [Value.ownBlock]; omega))).kept R4 (Or.inr (by simp [Value.ownBlock]; omega))
          have hc5 : Chg (fun k => k = F ∨ k = G) w ((w5.setCell ⟨G, k, none⟩ (.int .i64 (x - T))).setCell ⟨G, t, none⟩ (.int .i64 (y + T))) := by
            have u1 : Chg (fun k => k = F ∨ k = G) w w5 := (gd.chg _).trans (chg_of_grown Hgr5.out (fun k e => Or.inl (by injection e with e; exact e.symm)))
            have u2 : Chg (fun k => k = F ∨ k = G) w5 (w5.setCell ⟨G, k, none⟩ (.int .i64 (x - T))) := chg_set _ _ _ (Or.inr rfl)
            exact (u1.trans u2).trans (chg_set _ _ _ (Or.inr rfl))
          have HR3 := Lib.hid R3
          have Hk5 := Lib.hid hk5
          have Hc5 := Lib.hid hc5
          have hwG : w.heap.size ≠ G := by omega
          clear R1 R2 R3 R4 gx gy hLk hown5 hk5 hc5 b4 r0 r1 r2 k3 l1
          go_wp2_with fail
          go_ret
          refine ⟨true, by simp, Hc5.out, ⟨fun _ => Hrgo.out, fun _ => rfl⟩, ?_, ?_⟩
          · rw [Hrs.out]; exact Hk5.out
          · rw [Hrs.out]; exact HR3.out
      · have hna : rtAt (eds n.pipes) n1 fl lf k = false := rtAt_low (by rw [← Hx.out]; exact hx0)
        have Hna := Lib.hid hna
        clear hna
        go_wp2_with fail
        go_roundw
        case rel =>
          refine ⟨k + 1, by omega, by go_num, fun j hj => ?_, hgr⟩
          by_cases e : j = k
          · rw [e]; exact Hna.out
          · exact Hno.out j (by omega)
        case measure => simp [intOf]; omega
    · obtain rfl : k = n1 := by omega
      have hf : rtF (eds n.pipes) k (fl, lf) = none := find_none Hno.out
      have Hf := Lib.hid hf
      clear hf
      go_wp2_with fail
      go_ret
      refine ⟨false, by simp, (hg.chg _), ⟨fun h => (by simp at h), fun h => ?_⟩, ?_, ?_⟩
      · rw [rtGo, Hf.out] at h; simp at h
      · rw [rtN, Hf.out]; exact own_gr HF.out hg
      · rw [rtN, Hf.out]; exact own_gr HL.out hg
end Go.Proofs.Ytbckjlejkedonaa
/-
  The routing of the program.
-/
namespace Go.Proofs.Ytbckjlejkedonaa
open Go.ChangeShapes Go.WideShapes Go.ChangeAt Go.RowKit

theorem rt_next {es : List Ed} {N : Nat} (hE : EsOk es N) {p : List Int × List Int} (h : RtOk es N p) (hg : rtGo es N p) : RtOk es N (rtN es N p) ∧ posS (rtN es N p).2 < posS p.2 := by
  obtain ⟨fl, lf⟩ := p
  rw [rtGo, Option.isSome_iff_exists] at hg
  obtain ⟨i, hi⟩ := hg
  have h1 := List.find?_some hi
  have h2 := List.mem_of_find?_eq_some hi
  rw [List.mem_range] at h2
  simp only [rtAt, Bool.and_eq_true, decide_eq_true_eq, Option.isSome_iff_exists] at h1
  obtain ⟨h3, t, ht⟩ := h1
  rw [rtN_eq hi ht]
  exact rt_step hE h h2 h3 ht
theorem rt_stay {es : List Ed} {N : Nat} {p : List Int × List Int} (hg : ¬ rtGo es N p) : rtN es N p = p := by
  have : rtF es N p = none := by
    cases h : rtF es N p with
    | none => rfl
    | some i => exact absurd (by rw [rtGo, h]; rfl) hg
  rw [rtN, this]
def posW (w : World) (G n : Nat) : Nat := ((List.range n).map fun k => (w.cell? ⟨G, k, none⟩).elim 0 fun v => (intOf v).toNat).sum
theorem posW_eq {w : World} {base n c G : Nat} {e : TypeId} {lf : List Int} (h : w.ownsRow base e 1 (.slice (some ⟨G, 0, none⟩) n c) n (ints lf)) : posW w G n = posS lf := by
  have hl := own_ilen h
  unfold posW posS
  congr 1
  apply List.ext_getElem?
  intro k
  rw [List.getElem?_map, List.getElem?_map]
  by_cases hk : k < n
  · rw [List.getElem?_range hk, get_int (l := lf) (k := k) (by omega)]
    simp only [Option.map_some, Option.some.injEq]
    rw [(own_int h (get_int (l := lf) (k := k) (by omega))).1]
    rfl
  · rw [List.getElem?_eq_none (by simp; omega), List.getElem?_eq_none (by omega)]; rfl
theorem made_own (w : World) (n : Nat) (hn : n ≤ 1048576) : (w.alloc (.cells (madeCells #[.int .i64 0] n) 2)).ownsRow w.heap.size 2 1 (.slice (some ⟨w.heap.size, 0, none⟩) n n) n (ints (List.replicate n 0)) := by
  have h1 : (madeCells #[.int .i64 0] n).size = n * 1 := by rw [← Array.length_toList, toList_madeCells_one]; simp
  have h2 := World.ownsRow_lit w (e := 2) (size := 1) (madeCells #[.int .i64 0] n) n (Nat.le_refl _) (by unfold maxLen; omega) h1
  exact own_cells_eq h2 (by rw [toList_madeCells_one]; simp [ints])

set_option maxHeartbeats 6400000 in
set_option maxRecDepth 100000 in
theorem routed_any {A1 A2 A3 : Option Addr} {n1 c1 n2 c2 c3 : Nat} (n : GNet) (sup : List Int) (w : World) (hA : NetAt w A1 n1 c1 A2 n2 c2 n) (hS : SlAt w 1 A3 n1 c3 (ints sup)) (hok : netOk n = true) (hb : ∀ (k : Nat) (z : Int), sup[k]? = some z → -1000000000 ≤ z ∧ z ≤ 1000000000) :
    Calls Try.prog 93 #[.agg #[.slice A1 n1 c1, .slice A2 n2 c2], .slice A3 n1 c3] w fun e w' => ∃ g F G cl, e = .returned (.pointer (some ⟨g, 0, none⟩)) ∧ RtAt w' g A1 n1 c1 A2 n2 c2 (some ⟨F, 0, none⟩) n2 n2 (.slice (some ⟨G, 0, none⟩) n1 cl) ∧
      w'.ownsRow w.heap.size 2 1 (.slice (some ⟨F, 0, none⟩) n2 n2) n2 (ints (rt (eds n.pipes) n1 sup).1) ∧ w'.ownsRow w.heap.size 2 1 (.slice (some ⟨G, 0, none⟩) n1 cl) n1 (ints (rt (eds n.pipes) n1 sup).2) ∧ RtOk (eds n.pipes) n1 (rt (eds n.pipes) n1 sup) ∧ Gr w w' := by
  have hm1 := hA.m1
  have hm2 := hA.m2
  have hm3 := hS.small
  have hEs : EsOk (eds n.pipes) n1 := by have := eds_ok hok; rw [hA.l1] at this; exact this
  have hel : (eds n.pipes).length = n2 := by rw [eds, List.length_map]; exact hA.l2
  have h1 : 1 ≤ n1 := by have := (netOk_all hok).1.1; rw [hA.l1] at this; exact this
  have hsl := hS.sl.ilen
  have HEs := Lib.hid hEs
  have HA := Lib.hid hA
  have HS := Lib.hid hS
  have Hok := Lib.hid hok
  have Hel := Lib.hid hel
  have Hb := Lib.hid hb
  have Hsl := Lib.hid hsl
  clear hA hok hEs hel hS hb hsl
  go_enter Try.func93, Try.ntmps93
  go_wp2_with fail
  obtain ⟨w0, hw0⟩ : ∃ w0, w0 = w.alloc (.cells #[.slice A1 n1 c1, .slice A2 n2 c2] 33) := ⟨_, rfl⟩
  have hgr0 : Gr w w0 := by rw [hw0]; exact (Gr.refl _).alloc _
  have b0 : w0.cell? ⟨w.heap.size, 0, none⟩ = some (.slice A1 n1 c1) := by rw [hw0]; simp [go_sem]
  have b1 : w0.cell? ⟨w.heap.size, 1, none⟩ = some (.slice A2 n2 c2) := by rw [hw0]; simp [go_sem]
  rw [← hw0]
  clear hw0
  have zz : w.heap.size < w0.heap.size := lt_of_cell b0
  have hmk := run_make_row' (P := Try.prog) 27 2 (.int .i64 0) 8 Try.underlying27 infoInt64 rfl .i64 .i64 n2 (by omega) (by omega)
  have hone : ∀ u ∈ ints sup, u.oneCell' = true := by intro u hu; simp only [ints, List.mem_map] at hu; obtain ⟨z, _, rfl⟩ := hu; rfl
  have hsA : Sl w0.drew 1 A3 n1 (ints sup) := HS.out.sl.gr (hgr0.trans (Gr.refl _).drew)
  have hsB : ∀ ob, Sl (w0.alloc ob).drew 1 A3 n1 (ints sup) := fun ob => HS.out.sl.gr (hgr0.trans ((Gr.refl _).alloc _).drew)
  have HsA := Lib.hid hsA
  have HsB := Lib.hid hsB
  clear hsA hsB
  have kA : Gr w0 w0.drew := (Gr.refl _).drew
  have kB : ∀ ob, Gr w0 (w0.alloc ob).drew := fun ob => ((Gr.refl _).alloc _).drew
  have KA := Lib.hid kA
  have KB := Lib.hid kB
  clear kA kB
  go_region_held3 (fun w' => Gr w0 w' ∧ w'.cell? ⟨w.heap.size, 0, none⟩ = some (.slice A1 n1 c1) ∧ w'.cell? ⟨w.heap.size, 1, none⟩ = some (.slice A2 n2 c2))
    (first | with_reducible exact ⟨KA.out, KA.out.has b0, KA.out.has b1⟩ | with_reducible exact ⟨KB.out _, (KB.out _).has b0, (KB.out _).has b1⟩ | with_reducible exact ⟨by assumption, (by assumption : Gr w0 _).has b0, (by assumption : Gr w0 _).has b1⟩ | with_reducible exact ⟨(by assumption : Gr w0 _).alloc _, ((by assumption : Gr w0 _).alloc _).has b0, ((by assumption : Gr w0 _).alloc _).has b1⟩ | with_reducible exact ⟨((by assumption : Gr w0 _).alloc _).alloc _, (((by assumption : Gr w0 _).alloc _).alloc _).has b0, (((by assumption : Gr w0 _).alloc _).alloc _).has b1⟩)
    (first
      | (go_at_call 174; (with_reducible refine (cloneInt_any (ints sup) w0.drew hm3 HsA.out hone).mono ?_); rintro e w1 ⟨G1, cl, rfl, hown, hg1⟩; have hx : Gr w0 w1 := KA.out.trans hg1)
      | (go_at_call 174; (with_reducible refine (cloneInt_any (ints sup) (w0.alloc (.cells (madeCells #[.int .i64 0] n2) 2)).drew hm3 (HsB.out _) hone).mono ?_); rintro e w1 ⟨G1, cl, rfl, hown, hg1⟩; have hx : Gr w0 w1 := (KB.out _).trans hg1))
  · obtain ⟨w2, hw2⟩ : ∃ w2, w2 = w1.alloc (.cells #[.slice A1 n1 c1, .slice A2 n2 c2, .slice (some ⟨w0.heap.size, 0, none⟩) n2 n2, .slice G1 n1 cl] 123) := ⟨_, rfl⟩
    obtain ⟨G, rfl, hG1, hG2⟩ := own_form hown h1
    simp at hG1
    have hgw2 : Gr w w2 := by rw [hw2]; exact (hgr0.trans hx).alloc _
    have hg1' := hg1.size
    simp at hg1'
    have hR2 : RtAt w2 w1.heap.size A1 n1 c1 A2 n2 c2 (some ⟨w0.heap.size, 0, none⟩) n2 n2 (.slice (some ⟨G, 0, none⟩) n1 cl) := by rw [hw2]; exact ⟨by simp [go_sem], by simp [go_sem], by simp [go_sem], by simp [go_sem]⟩
    have hF2 : w2.ownsRow w.heap.size 2 1 (.slice (some ⟨w0.heap.size, 0, none⟩) n2 n2) n2 (ints (List.replicate n2 0)) := by
      rw [hw2]
      have := made_own w0 n2 hm2
      exact own_base ((own_gr this.drew hg1).alloc _) (by omega)
    have hG2 : w2.ownsRow w.heap.size 2 1 (.slice (some ⟨G, 0, none⟩) n1 cl) n1 (ints sup) := by rw [hw2]; exact own_base (hown.alloc _) (by simp; omega)
    obtain ⟨g, hg⟩ : ∃ g, g = w1.heap.size := ⟨_, rfl⟩
    obtain ⟨F, hF⟩ : ∃ F, F = w0.heap.size := ⟨_, rfl⟩
    have hgF : g ≠ F := by omega
    have hgG : g ≠ G := by omega
    have hFG : F ≠ G := by omega
    have hFw : w.heap.size ≤ F := by omega
    have hGw : w.heap.size ≤ G := by omega
    rw [← hg, ← hF] at hR2
    rw [← hF] at hF2 hw2
    rw [← hg, ← hF]
    clear hg hF
    rw [← hw2]
    have HR2 := Lib.hid hR2
    have HF2 := Lib.hid hF2
    have HG2 := Lib.hid hG2
    clear hw2 hR2 hF2 hG2 hown hmk hone b0 b1 HsA HsB KA KB
    go_wp2_with fail
    go_loopw [16] (fun _ wr => ∃ p : List Int × List Int, Reach (rtGo (eds n.pipes) n1) (rtN (eds n.pipes) n1) (List.replicate (eds n.pipes).length 0, sup) p ∧ RtOk (eds n.pipes) n1 p ∧ RtAt wr g A1 n1 c1 A2 n2 c2 (some ⟨F, 0, none⟩) n2 n2 (.slice (some ⟨G, 0, none⟩) n1 cl) ∧ wr.ownsRow w.heap.size 2 1 (.slice (some ⟨F, 0, none⟩) n2 n2) n2 (ints p.1) ∧ wr.ownsRow w.heap.size 2 1 (.slice (some ⟨G, 0, none⟩) n1 cl) n1 (ints p.2) ∧ Gr w wr) (fun _ wr => posW wr G n1)
    case atStart => exact ⟨(List.replicate (eds n.pipes).length 0, sup), .refl _, ⟨keeps_zero HEs.out, Hsl.out, Hb.out⟩, HR2.out, by rw [Hel.out]; exact HF2.out, HG2.out, hgw2⟩
    case round =>
      obtain ⟨p, hre, hO, hR, hF, hG, hgr⟩ := hrel
      have Hre := Lib.hid hre
      have HO := Lib.hid hO
      have HR := Lib.hid hR
      have HF := Lib.hid hF
      have HG := Lib.hid hG
      clear hre hO hR hF hG hgw2
      go_wp2_with fail
      refine (sendOne_any n p.1 p.2 w _ HA.out hgr (Nat.le_refl _) HR.out HF.out HG.out hFG hgF hgG hm2 Hok.out HO.out).mono ?_
      rintro e w3 ⟨r, rfl, hch, hr, hF3, hG3⟩
      have hgw3 : Gr w w3 := hgr.of_chg hch (fun k hk => by rcases hk with hk | hk <;> omega)
      have hgl := lt_of_cell HR.out.k0
      have hR3 : RtAt w3 g A1 n1 c1 A2 n2 c2 (some ⟨F, 0, none⟩) n2 n2 (.slice (some ⟨G, 0, none⟩) n1 cl) := ⟨cell_chg HR.out.k0 hch (by simp; omega), cell_chg HR.out.k1 hch (by simp; omega), cell_chg HR.out.k2 hch (by simp; omega), cell_chg HR.out.k3 hch (by simp; omega)⟩
      have HR3 := Lib.hid hR3
      cases r with
      | false =>
        have hng : ¬ rtGo (eds n.pipes) n1 p := fun h => by have := hr.2 h; cases this
        have hfin : rt (eds n.pipes) n1 sup = p := fin_eq Hre.out hng
        have hst : rtN (eds n.pipes) n1 (p.1, p.2) = p := rt_stay hng
        rw [hst] at hF3 hG3
        have Hfin := Lib.hid hfin
        have HF3 := Lib.hid hF3
        have HG3 := Lib.hid hG3
        clear hng hfin hst hr hch hF3 hG3 hR3
        go_wp2_with fail
        go_ret
        exact ⟨g, F, G, cl, rfl, HR3.out, by rw [Hfin.out]; exact HF3.out, by rw [Hfin.out]; exact HG3.out, by rw [Hfin.out]; exact HO.out, hgw3⟩
      | true =>
        have hgo : rtGo (eds n.pipes) n1 p := hr.1 rfl
        obtain ⟨h5, h6⟩ := rt_next HEs.out HO.out hgo
        have hm3 : posW w3 G n1 < posW wr G n1 := by rw [posW_eq hG3, posW_eq HG.out]; exact h6
        have Hm3 := Lib.hid hm3
        have Hgo := Lib.hid hgo
        have H5 := Lib.hid h5
        have HF3 := Lib.hid hF3
        have HG3 := Lib.hid hG3
        clear hgo h5 h6 hm3 hr hch hF3 hG3 hR3
        go_wp2_with fail
        go_roundw
        case rel => exact ⟨_, Hre.out.snoc Hgo.out, H5.out, HR3.out, HF3.out, HG3.out, hgw3⟩
        case measure => exact Hm3.out
  · obtain ⟨w2, hw2⟩ : ∃ w2, w2 = (w1.alloc (.cells (madeCells #[.int .i64 0] n2) 2)).alloc (.cells #[.slice A1 n1 c1, .slice A2 n2 c2, .slice (some ⟨w1.heap.size, 0, none⟩) n2 n2, .slice G1 n1 cl] 123) := ⟨_, rfl⟩
    obtain ⟨G, rfl, hG1, hG2⟩ := own_form hown h1
    simp at hG1
    have hgw2 : Gr w w2 := by rw [hw2]; exact ((hgr0.trans hx).alloc _).alloc _
    have hg1' := hg1.size
    simp at hg1'
    have hR2 : RtAt w2 (w1.heap.size + 1) A1 n1 c1 A2 n2 c2 (some ⟨w1.heap.size, 0, none⟩) n2 n2 (.slice (some ⟨G, 0, none⟩) n1 cl) := by rw [hw2]; exact ⟨by simp [go_sem], by simp [go_sem], by simp [go_sem], by simp [go_sem]⟩
    have hF2 : w2.ownsRow w.heap.size 2 1 (.slice (some ⟨w1.heap.size, 0, none⟩) n2 n2) n2 (ints (List.replicate n2 0)) := by
      rw [hw2]
      have := made_own w1 n2 hm2
      exact own_base (this.alloc _) (by omega)
    have hG2 : w2.ownsRow w.heap.size 2 1 (.slice (some ⟨G, 0, none⟩) n1 cl) n1 (ints sup) := by rw [hw2]; exact own_base ((hown.alloc _).alloc _) (by simp; omega)
    obtain ⟨g, hg⟩ : ∃ g, g = w1.heap.size + 1 := ⟨_, rfl⟩
    obtain ⟨F, hF⟩ : ∃ F, F = w1.heap.size := ⟨_, rfl⟩
    have hgF : g ≠ F := by omega
    have hgG : g ≠ G := by omega
    have hFG : F ≠ G := by omega
    have hFw : w.heap.size ≤ F := by omega
    have hGw : w.heap.size ≤ G := by omega
    rw [← hg, ← hF] at hR2
    rw [← hF] at hF2 hw2
    rw [← hg, ← hF]
    clear hg hF
    rw [← hw2]
    have HR2 := Lib.hid hR2
    have HF2 := Lib.hid hF2
    have HG2 := Lib.hid hG2
    clear hw2 hR2 hF2 hG2 hown hmk hone b0 b1 HsA HsB KA KB
    go_wp2_with fail
    go_loopw [16] (fun _ wr => ∃ p : List Int × List Int, Reach (rtGo (eds n.pipes) n1) (rtN (eds n.pipes) n1) (List.replicate (eds n.pipes).length 0, sup) p ∧ RtOk (eds n.pipes) n1 p ∧ RtAt wr g A1 n1 c1 A2 n2 c2 (some ⟨F, 0, none⟩) n2 n2 (.slice (some ⟨G, 0, none⟩) n1 cl) ∧ wr.ownsRow w.heap.size 2 1 (.slice (some ⟨F, 0, none⟩) n2 n2) n2 (ints p.1) ∧ wr.ownsRow w.heap.size 2 1 (.slice (some ⟨G, 0, none⟩) n1 cl) n1 (ints p.2) ∧ Gr w wr) (fun _ wr => posW wr G n1)
    case atStart => exact ⟨(List.replicate (eds n.pipes).length 0, sup), .refl _, ⟨keeps_zero HEs.out, Hsl.out, Hb.out⟩, HR2.out, by rw [Hel.out]; exact HF2.out, HG2.out, hgw2⟩
    case round =>
      obtain ⟨p, hre, hO, hR, hF, hG, hgr⟩ := hrel
      have Hre := Lib.hid hre
      have HO := Lib.hid hO
      have HR := Lib.hid hR
      have HF := Lib.hid hF
      have HG := Lib.hid hG
      clear hre hO hR hF hG hgw2
      go_wp2_with fail
      refine (sendOne_any n p.1 p.2 w _ HA.out hgr (Nat.le_refl _) HR.out HF.out HG.out hFG hgF hgG hm2 Hok.out HO.out).mono ?_
      rintro e w3 ⟨r, rfl, hch, hr, hF3, hG3⟩
      have hgw3 : Gr w w3 := hgr.of_chg hch (fun k hk => by rcases hk with hk | hk <;> omega)
      have hgl := lt_of_cell HR.out.k0
      have hR3 : RtAt w3 g A1 n1 c1 A2 n2 c2 (some ⟨F, 0, none⟩) n2 n2 (.slice (some ⟨G, 0, none⟩) n1 cl) := ⟨cell_chg HR.out.k0 hch (by simp; omega), cell_chg HR.out.k1 hch (by simp; omega), cell_chg HR.out.k2 hch (by simp; omega), cell_chg HR.out.k3 hch (by simp; omega)⟩
      have HR3 := Lib.hid hR3
      cases r with
      | false =>
        have hng : ¬ rtGo (eds n.pipes) n1 p := fun h => by have := hr.2 h; cases this
        have hfin : rt (eds n.pipes) n1 sup = p := fin_eq Hre.out hng
        have hst : rtN (eds n.pipes) n1 (p.1, p.2) = p := rt_stay hng
        rw [hst] at hF3 hG3
        have Hfin := Lib.hid hfin
        have HF3 := Lib.hid hF3
        have HG3 := Lib.hid hG3
        clear hng hfin hst hr hch hF3 hG3 hR3
        go_wp2_with fail
        go_ret
        exact ⟨g, F, G, cl, rfl, HR3.out, by rw [Hfin.out]; exact HF3.out, by rw [Hfin.out]; exact HG3.out, by rw [Hfin.out]; exact HO.out, hgw3⟩
      | true =>
        have hgo : rtGo (eds n.pipes) n1 p := hr.1 rfl
        obtain ⟨h5, h6⟩ := rt_next HEs.out HO.out hgo
        have hm3 : posW w3 G n1 < posW wr G n1 := by rw [posW_eq hG3, posW_eq HG.out]; exact h6
        have Hm3 := Lib.hid hm3
        have Hgo := Lib.hid hgo
        have H5 := Lib.hid h5
        have HF3 := Lib.hid hF3
        have HG3 := Lib.hid hG3
        clear hgo h5 h6 hm3 hr hch hF3 hG3 hR3
        go_wp2_with fail
        go_roundw
        case rel => exact ⟨_, Hre.out.snoc Hgo.out, H5.out, HR3.out, HF3.out, HG3.out, hgw3⟩
        case measure => exact Hm3.out
end Go.Proofs.Ytbckjlejkedonaa
/-
  The routing of the reference.
-/
namespace Go.Proofs.Ytbckjlejkedonaa
open Go.ChangeShapes Go.WideShapes Go.ChangeAt Go.RowKit

def bN (v : Value) : Nat := match v with
  | .bool true => 1
  | _ => 0
theorem bN_true : bN (.bool true) = 1 := rfl
theorem bN_false : bN (.bool false) = 0 := rfl

set_option maxHeartbeats 6400000 in
set_option maxRecDepth 100000 in
theorem l23Route_any {A1 A2 A3 : Option Addr} {n1 c1 n2 c2 c3 : Nat} (n : GNet) (sup : List Int) (w : World) (hA : NetAt w A1 n1 c1 A2 n2 c2 n) (hS : SlAt w 1 A3 n1 c3 (ints sup)) (hok : netOk n = true) (hb : ∀ (k : Nat) (z : Int), sup[k]? = some z → -1000000000 ≤ z ∧ z ≤ 1000000000) :
    Calls Try.prog 90 #[.agg #[.slice A1 n1 c1, .slice A2 n2 c2], .slice A3 n1 c3] w fun e w' => ∃ F G cl, e = .returned (.tuple #[.slice (some ⟨F, 0, none⟩) n2 n2, .slice (some ⟨G, 0, none⟩) n1 cl]) ∧
      w'.ownsRow w.heap.size 2 1 (.slice (some ⟨F, 0, none⟩) n2 n2) n2 (ints (rt (eds n.pipes) n1 sup).1) ∧ w'.ownsRow w.heap.size 2 1 (.slice (some ⟨G, 0, none⟩) n1 cl) n1 (ints (rt (eds n.pipes) n1 sup).2) ∧ RtOk (eds n.pipes) n1 (rt (eds n.pipes) n1 sup) ∧ Gr w w' := by
  obtain ⟨i0, hi0, hz0, hz1, hz2⟩ := info_parts infoInt64
  have hm1 := hA.m1
  have hm2 := hA.m2
  have hEs : EsOk (eds n.pipes) n1 := by have := eds_ok hok; rw [hA.l1] at this; exact this
  have hel : (eds n.pipes).length = n2 := by rw [eds, List.length_map]; exact hA.l2
  have h1 : 1 ≤ n1 := by have := (netOk_all hok).1.1; rw [hA.l1] at this; exact this
  have hsl := hS.sl.ilen
  have hone : ∀ u ∈ ints sup, u.oneCell' = true := by intro u hu; simp only [ints, List.mem_map] at hu; obtain ⟨z, _, rfl⟩ := hu; rfl
  obtain ⟨b, o, rfl, hbl, hrow⟩ := hS.sl.2 (by omega)
  have HEs := Lib.hid hEs
  have HA := Lib.hid hA
  have HS := Lib.hid hS
  have Hok := Lib.hid hok
  have Hel := Lib.hid hel
  have Hb := Lib.hid hb
  have Hsl := Lib.hid hsl
  have Hone := Lib.hid hone
  clear hA hok hEs hel hS hb hsl hone hrow
  go_enter Try.func90, Try.ntmps90
  go_wp2_with (first
    | (at_make; refine wpList_make_full _ rfl _ _ _ rfl w.heap.size 2 i0 _ 1 Try.underlying27 hi0 hz0 hz1 .i64 .i64 _ _ n2 rfl rfl rfl rfl (by rw [hz2]; omega) (by unfold maxLen; omega) (by simp) ?_; intro w1 hown1 hg1; have hq1 : Gr (w.alloc (.cells #[.slice A1 n1 c1, .slice A2 n2 c2] 33)) w1 := Gr.of_grown hg1; have b0 : w1.cell? ⟨w.heap.size, 0, none⟩ = some (.slice A1 n1 c1) := hq1.has (by simp [go_sem]); have b1 : w1.cell? ⟨w.heap.size, 1, none⟩ = some (.slice A2 n2 c2) := hq1.has (by simp [go_sem]); have hgw1 : Gr w w1 := ((Gr.refl _).alloc _).trans hq1; have Ho1 := Lib.hid hown1; have z1 := hq1.size; clear hown1)
    | (at_builtin; refine wpList_append_lies _ rfl _ _ _ rfl w1.heap.size 2 i0 _ 1 8 Try.underlying27 hi0 hz0 hz1 hz2 rfl (by omega) (.slice (some ⟨w1.heap.size, 0, none⟩) 0 0) 0 [] rfl (World.ownsRow_lit w1 (e := 2) (size := 1) #[] 0 (Nat.le_refl _) (by unfold maxLen; omega) rfl) ⟨b, o, none⟩ n1 c3 (ints sup) rfl (by rw [ints_length, Hsl.out]; omega) (HS.out.sl.gr (hgw1.alloc _)).cells Hone.out (by omega) (by unfold maxLen; omega) (by omega) (by simp) (w1.heap.size + 1) (by simp) ?_; intro G cl w2 hown2 hg2 hat2 hlt2))
  try rw [Nat.zero_add]
  rw [Nat.zero_add, List.nil_append] at hown2
  have o1 : w1.ownsRow w.heap.size 2 1 (.slice (some ⟨w.heap.size + 1, 0, none⟩) n2 n2) n2 (ints (List.replicate n2 0)) := by
    have := own_cells_eq Ho1.out (made_ints n2)
    simpa using this
  have l1 : w.heap.size + 1 < w1.heap.size := own_block_lt o1 rfl
  have hGw1 : w1.heap.size ≤ G := own_base_le hown2 rfl
  have hF2 : w2.ownsRow w.heap.size 2 1 (.slice (some ⟨w.heap.size + 1, 0, none⟩) n2 n2) n2 (ints (List.replicate n2 0)) := (o1.alloc _).kept hg2 (Or.inr (by simp [Value.ownBlock]; omega))
  have hG2 : w2.ownsRow w.heap.size 2 1 (.slice (some ⟨G, 0, none⟩) n1 cl) n1 (ints sup) := own_base hown2 (by omega)
  have hgw2 : Gr w w2 := (hgw1.alloc _).grown hg2 (fun _ e => by simp [Value.ownBlock] at e; omega)
  have x0 : w2.cell? ⟨w.heap.size, 0, none⟩ = some (.slice A1 n1 c1) := by
    rw [hg2.cell_far _ (by simp; omega) (by simp [Value.ownBlock]; omega)]
    exact ((Gr.refl w1).alloc _).has b0
  have x1 : w2.cell? ⟨w.heap.size, 1, none⟩ = some (.slice A2 n2 c2) := by
    rw [hg2.cell_far _ (by simp; omega) (by simp [Value.ownBlock]; omega)]
    exact ((Gr.refl w1).alloc _).has b1
  obtain ⟨F, hF⟩ : ∃ F, F = w.heap.size + 1 := ⟨_, rfl⟩
  rw [← hF] at hF2
  rw [← hF]
  have hFw : w.heap.size < F := by omega
  have hGw : w.heap.size < G := by omega
  have hFG : F ≠ G := by omega
  have HF2 := Lib.hid hF2
  have HG2 := Lib.hid hG2
  clear hown2 hg2 hat2 hlt2 o1 l1 hF2 hG2 Ho1 b0 b1 hq1 z1 hg1 hF hgw1 hGw1
  go_wp2_with fail
  go_loopw [8] (fun ag wr => ∃ (b : Bool) (p : List Int × List Int), ag = .bool b ∧ Reach (rtGo (eds n.pipes) n1) (rtN (eds n.pipes) n1) (List.replicate (eds n.pipes).length 0, sup) p ∧ RtOk (eds n.pipes) n1 p ∧ (b = false → ¬ rtGo (eds n.pipes) n1 p) ∧ wr.ownsRow w.heap.size 2 1 (.slice (some ⟨F, 0, none⟩) n2 n2) n2 (ints p.1) ∧ wr.ownsRow w.heap.size 2 1 (.slice (some ⟨G, 0, none⟩) n1 cl) n1 (ints p.2) ∧ Gr w wr ∧ wr.cell? ⟨w.heap.size, 0, none⟩ = some (.slice A1 n1 c1) ∧ wr.cell? ⟨w.heap.size, 1, none⟩ = some (.slice A2 n2 c2)) (fun ag wr => posW wr G n1 + bN ag)
  case atStart => exact ⟨true, (List.replicate (eds n.pipes).length 0, sup), rfl, .refl _, ⟨keeps_zero HEs.out, Hsl.out, Hb.out⟩, (fun h => by cases h), by rw [Hel.out]; exact HF2.out, HG2.out, hgw2, x0, x1⟩
  case round =>
    obtain ⟨bb, p, rfl, hre, hO, hbg, hF, hG, hgr, y0, y1⟩ := hrel
    clear x0 x1 hgw2
    have Hre := Lib.hid hre
    have HO := Lib.hid hO
    have HF := Lib.hid hF
    have HG := Lib.hid hG
    have Hbg := Lib.hid hbg
    have hpw := posW_eq hG
    have Hpw := Lib.hid hpw
    clear hre hO hF hG hbg hpw
    cases bb with
    | false =>
      have hfin : rt (eds n.pipes) n1 sup = p := fin_eq Hre.out (Hbg.out rfl)
      have Hfin := Lib.hid hfin
      clear hfin
      go_wp2_with fail
      go_ret2
      exact ⟨F, G, cl, rfl, by rw [Hfin.out]; exact HF.out, by rw [Hfin.out]; exact HG.out, by rw [Hfin.out]; exact HO.out, hgr⟩
    | true =>
      go_wp2_with fail
      go_loopw [8, 9] (fun ag i wr => ∃ (b : Bool) (k : Nat) (q : List Int × List Int), ag = .bool b ∧ i = .int .i64 k ∧ k ≤ n1 ∧ (b = false → q = p ∧ ∀ j, j < k → rtAt (eds n.pipes) n1 p.1 p.2 j = false) ∧ (b = true → q = rtN (eds n.pipes) n1 p ∧ rtGo (eds n.pipes) n1 p) ∧ wr.ownsRow w.heap.size 2 1 (.slice (some ⟨F, 0, none⟩) n2 n2) n2 (ints q.1) ∧ wr.ownsRow w.heap.size 2 1 (.slice (some ⟨G, 0, none⟩) n1 cl) n1 (ints q.2) ∧ Gr w wr ∧ wr.cell? ⟨w.heap.size, 0, none⟩ = some (.slice A1 n1 c1) ∧ wr.cell? ⟨w.heap.size, 1, none⟩ = some (.slice A2 n2 c2)) (fun _ i _ => n1 - (intOf i).toNat)
      case atStart => exact ⟨false, 0, p, rfl, rfl, Nat.zero_le _, fun _ => ⟨rfl, fun j h => absurd h (by omega)⟩, (fun h => by cases h), HF.out, HG.out, hgr, y0, y1⟩
      case round =>
        obtain ⟨bb, k, q, rfl, rfl, hk, hf, ht, hFq, hGq, hgq, u0, u1⟩ := hrel
        clear y0 y1
        cases bb with
        | true =>
          obtain ⟨rfl, hgo⟩ := ht rfl
          obtain ⟨h5, h6⟩ := rt_next HEs.out HO.out hgo
          have hm3 : posW wr G n1 + bN (.bool true) < posS p.2 + bN (.bool true) := by rw [posW_eq hGq]; omega
          have Hm3 := Lib.hid hm3
          have HFq := Lib.hid hFq
          have HGq := Lib.hid hGq
          have Hgo := Lib.hid hgo
          have H5 := Lib.hid h5
          clear hf ht hFq hGq hgo h5 h6 hm3
          by_cases hkn : k < n1
          · have hd : decide ((k : Int) < (n1 : Int)) = true := decide_eq_true (by omega)
            go_wp2_with fail
            go_roundw
            case rel => exact ⟨true, _, rfl, Hre.out.snoc Hgo.out, H5.out, (fun h => by cases h), HFq.out, HGq.out, hgq, u0, u1⟩
            case measure => rw [Hpw.out]; exact Hm3.out
          · have hd : decide ((k : Int) < (n1 : Int)) = false := decide_eq_false (by omega)
            go_wp2_with fail
            go_roundw
            case rel => exact ⟨true, _, rfl, Hre.out.snoc Hgo.out, H5.out, (fun h => by cases h), HFq.out, HGq.out, hgq, u0, u1⟩
            case measure => rw [Hpw.out]; exact Hm3.out
        | false =>
          obtain ⟨rfl, hno⟩ := hf rfl
          have Hno := Lib.hid hno
          clear hf ht hno
          by_cases hkn : k < n1
          · have hd : decide ((k : Int) < (n1 : Int)) = true := decide_eq_true (by omega)
            have hql : q.2.length = n1 := HO.out.len
            have gx := get_int (l := q.2) (k := k) (by omega)
            have hbx := HO.out.bnd k _ gx
            obtain ⟨l0, _⟩ := own_int hGq gx
            obtain ⟨x, hx⟩ : ∃ x, x = q.2.getD k 0 := ⟨_, rfl⟩
            rw [← hx] at l0 hbx
            have Hx := Lib.hid hx
            have HFq := Lib.hid hFq
            have HGq := Lib.hid hGq
            have t0 : (0 : Int) ≤ (k : Int) := by omega
            have t1 : (k : Int) < (n1 : Int) := by omega
            clear gx hx hFq hGq hql
            by_cases hx0 : 0 < x
            · have hdx : decide (0 < x) = true := decide_eq_true hx0
              go_wp2_with fail
              refine (l23Send_any n q.1 q.2 k w _ HA.out hgq (Nat.le_refl _) HFq.out HGq.out hFG hm2 rfl Hok.out HO.out.keeps hkn HO.out.bnd (by rw [← Hx.out]; omega) (fun t _ => by rw [← Hx.out]; exact hx0)).mono ?_
              rintro e w4 ⟨r, rfl, hch, hr⟩
              have z0 := cell_chg u0 hch (by simp; omega)
              have z1 := cell_chg u1 hch (by simp; omega)
              have hgw4 : Gr w w4 := hgq.of_chg hch (fun k hk => by rcases hk with hk | hk <;> omega)
              rcases hr with ⟨rfl, htn, hgr4⟩ | ⟨rfl, t, htt, hF4, hG4⟩
              · have hna : rtAt (eds n.pipes) n1 q.1 q.2 k = false := rtAt_none htn
                have Hna := Lib.hid hna
                have HF4 := Lib.hid (own_gr HFq.out hgr4)
                have HG4 := Lib.hid (own_gr HGq.out hgr4)
                clear htn hch hna u0 u1 l0
                go_wp2_with fail
                go_roundw
                case rel =>
                  refine ⟨false, k + 1, q, rfl, by go_num, by omega, fun _ => ⟨rfl, fun j hj => ?_⟩, (fun h => by cases h), HF4.out, HG4.out, hgw4, z0, z1⟩
                  by_cases e : j = k
                  · rw [e]; exact Hna.out
                  · exact Hno.out j (by omega)
                case measure => simp [intOf]; omega
              · have hff : rtF (eds n.pipes) n1 q = some k := find_first hkn Hno.out (rtAt_yes (by rw [← Hx.out]; exact hx0) htt)
                have hrs : rtN (eds n.pipes) n1 q = (sndF (eds n.pipes) q.1 q.2 n1 k t, sndL (eds n.pipes) q.1 q.2 n1 k t) := rtN_eq (fl := q.1) (lf := q.2) hff htt
                have hgo : rtGo (eds n.pipes) n1 q := by rw [rtGo, hff]; rfl
                have HF4 := Lib.hid hF4
                have HG4 := Lib.hid hG4
                have Hrs := Lib.hid hrs
                have Hgo := Lib.hid hgo
                clear hff hrs hgo hF4 hG4 htt hch u0 u1 l0
                go_wp2_with fail
                go_roundw
                case rel => exact ⟨true, k + 1, _, rfl, by go_num, by omega, (fun h => by cases h), fun _ => ⟨rfl, Hgo.out⟩, by rw [Hrs.out]; exact HF4.out, by rw [Hrs.out]; exact HG4.out, hgw4, z0, z1⟩
                case measure => simp [intOf]; omega
            · have hna : rtAt (eds n.pipes) n1 q.1 q.2 k = false := rtAt_low (by rw [← Hx.out]; exact hx0)
              have Hna := Lib.hid hna
              have hdx : decide (0 < x) = false := decide_eq_false hx0
              clear hna
              go_wp2_with fail
              go_roundw
              case rel =>
                refine ⟨false, k + 1, q, rfl, by go_num, by omega, fun _ => ⟨rfl, fun j hj => ?_⟩, (fun h => by cases h), HFq.out, HGq.out, hgq, u0, u1⟩
                by_cases e : j = k
                · rw [e]; exact Hna.out
                · exact Hno.out j (by omega)
              case measure => simp [intOf]; omega
          · obtain rfl : k = n1 := by omega
            have hd : decide ((k : Int) < (k : Int)) = false := decide_eq_false (by omega)
            have hng : ¬ rtGo (eds n.pipes) k q := by rw [rtGo, show rtF (eds n.pipes) k q = none from find_none Hno.out]; simp
            have hm3 : posW wr G k + bN (.bool false) < posS q.2 + bN (.bool true) := by rw [posW_eq hGq, bN_true, bN_false]; omega
            have Hm3 := Lib.hid hm3
            have HFq := Lib.hid hFq
            have HGq := Lib.hid hGq
            have Hng := Lib.hid hng
            clear hFq hGq hng hm3
            go_wp2_with fail
            go_roundw
            case rel => exact ⟨false, q, rfl, Hre.out, HO.out, fun _ => Hng.out, HFq.out, HGq.out, hgq, u0, u1⟩
            case measure => rw [Hpw.out]; exact Hm3.out
end Go.Proofs.Ytbckjlejkedonaa
