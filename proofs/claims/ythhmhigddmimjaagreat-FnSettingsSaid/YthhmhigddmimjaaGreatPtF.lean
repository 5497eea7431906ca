import Derived.Test.YthhmhigddmimjaaGreatPtE
import Derived.Test.YthhmhigddmimjaaGreatPtB
import Derived.Test.YthhmhigddmimjaaGreatOutA
import Derived.Deep.RegionHeld3
import Derived.Test.YthhmhigddmimjaaGreatHrA
import Derived.Test.YthhmhigddmimjaaGreatPtA
import Derived.Test.YthhmhigddmimjaaGreatNetOk
/-
  Flows of the forest with their codes, solved loops (both sides). Printed by gen_pt17.py.
-/
set_option linter.unusedSimpArgs false
set_option linter.unusedVariables false
namespace Go.Proofs.YthhmhigddmimjaaGreat
open Go.ChangeShapes Go.WideShapes Go.ChangeAt Go.RowKit

def foRes (n : GNet) (sup : List Int) : List Int := if foCode n sup = 0 then ffL (eds n.pipes) n.nodes.length sup else []
def slvR (n : GNet) (sup : List Int) : List Int := if foCode n sup = 0 then solF n sup else []
theorem ev_zero {n : GNet} {sup : List Int} (h : suCode n sup = 0) (he : evB (eds n.pipes) n.nodes.length sup = true) : evCode n sup = 0 := by rw [evCode, if_pos h, if_pos he]
theorem fo_five {n : GNet} {sup : List Int} (h : suCode n sup = 0) (he : evB (eds n.pipes) n.nodes.length sup = false) : foCode n sup = 5 := by
  have : evCode n sup = 5 := by rw [evCode, if_pos h, he]; rfl
  rw [foCode, this, if_neg (by decide)]
theorem fo_two {n : GNet} {sup : List Int} (h : suCode n sup = 0) (he : evB (eds n.pipes) n.nodes.length sup = true) (hf : flOk n (ffL (eds n.pipes) n.nodes.length sup) = false) : foCode n sup = 2 := by rw [foCode, if_pos (ev_zero h he), hf, if_neg (by decide)]
theorem fo_none {n : GNet} {sup : List Int} (h : suCode n sup = 0) (he : evB (eds n.pipes) n.nodes.length sup = true) (hf : flOk n (ffL (eds n.pipes) n.nodes.length sup) = true) : foCode n sup = 0 := by rw [foCode, if_pos (ev_zero h he), if_pos hf]
theorem foRes_no {n : GNet} {sup : List Int} (h : foCode n sup ≠ 0) : foRes n sup = [] := by rw [foRes, if_neg h]
theorem foRes_yes {n : GNet} {sup : List Int} (h : foCode n sup = 0) : foRes n sup = ffL (eds n.pipes) n.nodes.length sup := by rw [foRes, if_pos h]
theorem slvR_no {n : GNet} {sup : List Int} (h : foCode n sup ≠ 0) : slvR n sup = [] := by rw [slvR, if_neg h]
theorem slvR_yes {n : GNet} {sup : List Int} (h : foCode n sup = 0) : slvR n sup = solF n sup := by rw [slvR, if_pos h]
theorem nilAt (w : World) : SlAt w 1 none 0 0 (ints []) := SlAt.of_own (World.ownsRow_nil w 0 2 1) (by omega)
set_option maxHeartbeats 6400000 in
set_option maxRecDepth 100000 in
theorem ForestFlows_any {A1 A2 A3 : Option Addr} {n1 c1 n2 c2 c3 : Nat} (n : GNet) (sup : List Int) (w : World) (hA : NetAt w A1 n1 c1 A2 n2 c2 n) (hS : SlAt w 1 A3 n1 c3 (ints sup)) (h0 : ocCode n sup = 0) :
    Calls Tryz.prog 125 #[.agg #[.slice A1 n1 c1, .slice A2 n2 c2], .slice A3 n1 c3] w fun e w' => ∃ A m c, e = .returned (.tuple #[.slice A m c, .int .i64 (foCode n sup)]) ∧ SlAt w' 1 A m c (ints (foRes n sup)) ∧ Gr w w' := by
  obtain ⟨hok, hso, hc⟩ := op_net h0
  have hsu := (oc_zero h0).1
  have hnl := hA.l1
  rw [hnl] at hso hc
  have hl2 := hA.l2
  have hm2 := hA.m2
  have HA := Lib.hid hA
  have HS := Lib.hid hS
  have Hok := Lib.hid hok
  have Hso := Lib.hid hso
  have Hc := Lib.hid hc
  have Hsu := Lib.hid hsu
  have Hnl := Lib.hid hnl
  have Hl2 := Lib.hid hl2
  clear hA hS hok hso hc hsu hnl hl2 h0
  go_enter Tryz.func125, Tryz.ntmps125
  go_wp2_with fail
  obtain ⟨w1, hw1⟩ : ∃ W, W = w.alloc (.cells #[.slice A1 n1 c1, .slice A2 n2 c2] 32) := ⟨_, rfl⟩
  have hg1 : Gr w w1 := by rw [hw1]; exact (Gr.refl _).alloc _
  have y0 : w1.cell? ⟨w.heap.size, 0, none⟩ = some (.slice A1 n1 c1) := by rw [hw1]; simp [go_sem]
  have y1 : w1.cell? ⟨w.heap.size, 1, none⟩ = some (.slice A2 n2 c2) := by rw [hw1]; simp [go_sem]
  rw [← hw1]
  clear hw1
  have hgw := hg1
  refine (checkSupplies_any n sup _ (HA.out.gr hgw) (HS.out.gr hgw)).mono ?_
  rintro e w2 ⟨rfl, hg2⟩
  rw [Hsu.out]
  have hgw := hgw.trans hg2
  replace y0 := hg2.has y0
  replace y1 := hg2.has y1
  clear hg1 hg2
  go_wp2_with fail
  refine (isEven_any n sup _ (HA.out.gr hgw) (HS.out.gr hgw) Hok.out Hso.out).mono ?_
  rintro e w3 ⟨rfl, hg3⟩
  have hgw := hgw.trans hg3
  replace y0 := hg3.has y0
  replace y1 := hg3.has y1
  clear hg3
  cases he : evB (eds n.pipes) n1 sup with
  | false =>
    have Hf : Hid (foCode n sup = 5) := Lib.hid (fo_five Hsu.out (by rw [Hnl.out]; exact he))
    clear he
    go_wp2_with fail
    go_ret2
    exact ⟨none, 0, 0, by rw [Hf.out]; rfl, by rw [foRes_no (by rw [Hf.out]; decide)]; exact nilAt _, hgw⟩
  | true =>
    have He := Lib.hid he
    clear he
    go_wp2_with fail
    refine (forestFlows_any n sup _ (HA.out.gr hgw) (HS.out.gr hgw) Hok.out Hc.out (supOk_all Hso.out).2).mono ?_
    rintro e w4 ⟨F, rfl, hF, hg4⟩
    have HF := Lib.hid (SlAt.of_own hF hm2)
    have hgw := hgw.trans hg4
    replace y0 := hg4.has y0
    replace y1 := hg4.has y1
    clear hF hg4
    cases hf : flOk n (ffL (eds n.pipes) n1 sup) with
    | false =>
      have Hf : Hid (foCode n sup = 2) := Lib.hid (fo_two Hsu.out (by rw [Hnl.out]; exact He.out) (by rw [Hnl.out]; exact hf))
      have Hff := Lib.hid hf
      clear hf
      go_wp2_with fail
      refine (checkedFlows_no n _ _ HF.out Hl2.out Hff.out).mono ?_
      rintro e w5 ⟨rfl, hw5⟩
      rw [← hw5]
      clear hw5
      go_wp2_with fail
      go_ret2
      exact ⟨none, 0, 0, by rw [Hf.out]; rfl, by rw [foRes_no (by rw [Hf.out]; decide)]; exact nilAt _, hgw⟩
    | true =>
      have Hf : Hid (foCode n sup = 0) := Lib.hid (fo_none Hsu.out (by rw [Hnl.out]; exact He.out) (by rw [Hnl.out]; exact hf))
      have Hff := Lib.hid hf
      clear hf
      go_wp2_with fail
      refine (checkedFlows_yes n _ _ HF.out Hl2.out Hff.out).mono ?_
      rintro e w5 ⟨rfl, hw5⟩
      rw [← hw5]
      clear hw5
      go_wp2_with fail
      go_ret2
      exact ⟨some ⟨F, 0, none⟩, n2, n2, by rw [Hf.out]; rfl, by rw [foRes_yes Hf.out, Hnl.out]; exact HF.out, hgw⟩
set_option maxHeartbeats 6400000 in
set_option maxRecDepth 100000 in
theorem spForestFlows_any {A1 A2 A3 : Option Addr} {n1 c1 n2 c2 c3 : Nat} (n : GNet) (sup : List Int) (w : World) (hA : NetAt w A1 n1 c1 A2 n2 c2 n) (hS : SlAt w 1 A3 n1 c3 (ints sup)) (h0 : ocCode n sup = 0) :
    Calls Tryz.prog 130 #[.agg #[.slice A1 n1 c1, .slice A2 n2 c2], .slice A3 n1 c3] w fun e w' => ∃ A m c, e = .returned (.tuple #[.slice A m c, .int .i64 (foCode n sup)]) ∧ SlAt w' 1 A m c (ints (foRes n sup)) ∧ Gr w w' := by
  obtain ⟨hok, hso, hc⟩ := op_net h0
  have hsu := (oc_zero h0).1
  have hnl := hA.l1
  rw [hnl] at hso hc
  have hl2 := hA.l2
  have hm2 := hA.m2
  have HA := Lib.hid hA
  have HS := Lib.hid hS
  have Hok := Lib.hid hok
  have Hso := Lib.hid hso
  have Hc := Lib.hid hc
  have Hsu := Lib.hid hsu
  have Hnl := Lib.hid hnl
  have Hl2 := Lib.hid hl2
  clear hA hS hok hso hc hsu hnl hl2 h0
  go_enter Tryz.func130, Tryz.ntmps130
  go_wp2_with fail
  obtain ⟨w1, hw1⟩ : ∃ W, W = w.alloc (.cells #[.slice A1 n1 c1, .slice A2 n2 c2] 32) := ⟨_, rfl⟩
  have hg1 : Gr w w1 := by rw [hw1]; exact (Gr.refl _).alloc _
  have y0 : w1.cell? ⟨w.heap.size, 0, none⟩ = some (.slice A1 n1 c1) := by rw [hw1]; simp [go_sem]
  have y1 : w1.cell? ⟨w.heap.size, 1, none⟩ = some (.slice A2 n2 c2) := by rw [hw1]; simp [go_sem]
  rw [← hw1]
  clear hw1
  have hgw := hg1
  refine (l06Code_any n sup _ (HA.out.gr hgw) (HS.out.gr hgw)).mono ?_
  rintro e w2 ⟨rfl, hg2⟩
  rw [Hsu.out]
  have hgw := hgw.trans hg2
  replace y0 := hg2.has y0
  replace y1 := hg2.has y1
  clear hg1 hg2
  go_wp2_with fail
  refine (l06Even_any n sup _ (HA.out.gr hgw) (HS.out.gr hgw) Hok.out Hso.out).mono ?_
  rintro e w3 ⟨rfl, hg3⟩
  have hgw := hgw.trans hg3
  replace y0 := hg3.has y0
  replace y1 := hg3.has y1
  clear hg3
  cases he : evB (eds n.pipes) n1 sup with
  | false =>
    have Hf : Hid (foCode n sup = 5) := Lib.hid (fo_five Hsu.out (by rw [Hnl.out]; exact he))
    clear he
    go_wp2_with fail
    go_ret2
    exact ⟨none, 0, 0, by rw [Hf.out]; rfl, by rw [foRes_no (by rw [Hf.out]; decide)]; exact nilAt _, hgw⟩
  | true =>
    have He := Lib.hid he
    clear he
    go_wp2_with fail
    refine (l06Forest_any n sup _ (HA.out.gr hgw) (HS.out.gr hgw) Hok.out Hc.out (supOk_all Hso.out).2).mono ?_
    rintro e w4 ⟨F, rfl, hF, hg4⟩
    have HF := Lib.hid (SlAt.of_own hF hm2)
    have hgw := hgw.trans hg4
    replace y0 := hg4.has y0
    replace y1 := hg4.has y1
    clear hF hg4
    cases hf : flOk n (ffL (eds n.pipes) n1 sup) with
    | false =>
      have Hf : Hid (foCode n sup = 2) := Lib.hid (fo_two Hsu.out (by rw [Hnl.out]; exact He.out) (by rw [Hnl.out]; exact hf))
      have Hff : Hid (supOk n2 (ffL (eds n.pipes) n1 sup) = false) := Lib.hid (by rw [← Hl2.out]; exact hf)
      clear hf
      go_wp2_with fail
      refine (l05List_any (A1 := A1) (n1 := n1) (c1 := c1) (A2 := A2) (n2 := n2) (c2 := c2) _ _ HF.out hm2).mono ?_
      rintro e w5 ⟨rfl, hg5⟩
      rw [Hff.out]
      replace HF := Lib.hid (HF.out.gr hg5)
      replace hgw := hgw.trans hg5
      clear hg5
      go_wp2_with fail
      go_ret2
      exact ⟨none, 0, 0, by rw [Hf.out]; rfl, by rw [foRes_no (by rw [Hf.out]; decide)]; exact nilAt _, hgw⟩
    | true =>
      have Hf : Hid (foCode n sup = 0) := Lib.hid (fo_none Hsu.out (by rw [Hnl.out]; exact He.out) (by rw [Hnl.out]; exact hf))
      have Hff : Hid (supOk n2 (ffL (eds n.pipes) n1 sup) = true) := Lib.hid (by rw [← Hl2.out]; exact hf)
      clear hf
      go_wp2_with fail
      refine (l05List_any (A1 := A1) (n1 := n1) (c1 := c1) (A2 := A2) (n2 := n2) (c2 := c2) _ _ HF.out hm2).mono ?_
      rintro e w5 ⟨rfl, hg5⟩
      rw [Hff.out]
      replace HF := Lib.hid (HF.out.gr hg5)
      replace hgw := hgw.trans hg5
      clear hg5
      go_wp2_with fail
      go_ret2
      exact ⟨some ⟨F, 0, none⟩, n2, n2, by rw [Hf.out]; rfl, by rw [foRes_yes Hf.out, Hnl.out]; exact HF.out, hgw⟩
set_option maxHeartbeats 6400000 in
set_option maxRecDepth 100000 in
theorem solveLoops_any {A1 A2 A3 : Option Addr} {n1 c1 n2 c2 c3 : Nat} (n : GNet) (sup : List Int) (w : World) (hA : NetAt w A1 n1 c1 A2 n2 c2 n) (hS : SlAt w 1 A3 n1 c3 (ints sup)) (h0 : ocCode n sup = 0) :
    Calls Tryz.prog 104 #[.agg #[.slice A1 n1 c1, .slice A2 n2 c2], .slice A3 n1 c3] w fun e w' => ∃ A m c, ∃ T : Int, e = .returned (.tuple #[.slice A m c, .int .i64 T, .int .i64 (foCode n sup)]) ∧ SlAt w' 1 A m c (ints (slvR n sup)) ∧ Gr w w' := by
  have H0 := Lib.hid h0
  obtain ⟨hok, hso, hc⟩ := op_net h0
  have hsu := (oc_zero h0).1
  have hnl := hA.l1
  rw [hnl] at hso hc
  have hl2 := hA.l2
  have hm2 := hA.m2
  have HA := Lib.hid hA
  have HS := Lib.hid hS
  have Hok := Lib.hid hok
  have Hso := Lib.hid hso
  have Hc := Lib.hid hc
  have Hsu := Lib.hid hsu
  have Hnl := Lib.hid hnl
  have Hl2 := Lib.hid hl2
  clear hA hS hok hso hc hsu hnl hl2 h0
  go_enter Tryz.func104, Tryz.ntmps104
  go_wp2_with fail
  obtain ⟨w1, hw1⟩ : ∃ W, W = w.alloc (.cells #[.slice A1 n1 c1, .slice A2 n2 c2] 32) := ⟨_, rfl⟩
  have hg1 : Gr w w1 := by rw [hw1]; exact (Gr.refl _).alloc _
  have y0 : w1.cell? ⟨w.heap.size, 0, none⟩ = some (.slice A1 n1 c1) := by rw [hw1]; simp [go_sem]
  have y1 : w1.cell? ⟨w.heap.size, 1, none⟩ = some (.slice A2 n2 c2) := by rw [hw1]; simp [go_sem]
  rw [← hw1]
  clear hw1
  have hgw := hg1
  refine (ForestFlows_any n sup _ (HA.out.gr hgw) (HS.out.gr hgw) H0.out).mono ?_
  rintro e w2 ⟨A, m, c, rfl, hR, hg2⟩
  have HR := Lib.hid hR
  have hgw := hgw.trans hg2
  replace y0 := hg2.has y0
  replace y1 := hg2.has y1
  clear hg1 hg2 hR
  by_cases hf : foCode n sup = 0
  · have hfl := (fo_zero hf).2
    obtain rfl : m = n2 := by
      have h := HR.out.sl.ilen
      rw [foRes_yes hf, (flOk_all hfl).1, Hl2.out] at h
      exact h.symm
    rw [Hnl.out] at hfl
    have Hfl := Lib.hid hfl
    have HF : Hid (SlAt w2 1 A m c (ints (ffL (eds n.pipes) n1 sup))) := Lib.hid (by have h := HR.out; rw [foRes_yes hf, Hnl.out] at h; exact h)
    have Hf := Lib.hid hf
    rw [hf]
    clear hf hfl HR
    go_wp2_with fail
    refine (relax_any n _ 32768 _ (HA.out.gr hgw) HF.out Hok.out Hc.out Hfl.out (by omega)).mono ?_
    rintro e w3 ⟨B, d, T, rfl, hT, hB, hg3⟩
    have HB := Lib.hid hB
    have hgw := hgw.trans hg3
    clear hT hB hg3
    go_wp2_with fail
    (try simp only [Exit.inBlock, Exit.then])
    refine bodyPost_ret (results_tmp3 Tryz.results104 _ _ _) ?_ ?_
    · rfl
    exact ⟨B, m, d, T, by rw [Hf.out]; rfl, by rw [slvR_yes Hf.out, solF, solR, Hnl.out]; exact HB.out, hgw⟩
  · have tb : (foCode n sup != 0) = true := by simp [hf]
    have Hf := Lib.hid hf
    clear hf
    go_wp2_with fail
    (try simp only [Exit.inBlock, Exit.then])
    refine bodyPost_ret (results_tmp3 Tryz.results104 _ _ _) ?_ ?_
    · rfl
    exact ⟨none, 0, 0, 0, rfl, by rw [slvR_no Hf.out]; exact nilAt _, hgw⟩
set_option maxHeartbeats 6400000 in
set_option maxRecDepth 100000 in
theorem spSolveLoops_any {A1 A2 A3 : Option Addr} {n1 c1 n2 c2 c3 : Nat} (n : GNet) (sup : List Int) (w : World) (hA : NetAt w A1 n1 c1 A2 n2 c2 n) (hS : SlAt w 1 A3 n1 c3 (ints sup)) (h0 : ocCode n sup = 0) :
    Calls Tryz.prog 109 #[.agg #[.slice A1 n1 c1, .slice A2 n2 c2], .slice A3 n1 c3] w fun e w' => ∃ A m c, e = .returned (.tuple #[.slice A m c, .int .i64 (foCode n sup)]) ∧ SlAt w' 1 A m c (ints (slvR n sup)) ∧ Gr w w' := by
  have H0 := Lib.hid h0
  obtain ⟨hok, hso, hc⟩ := op_net h0
  have hsu := (oc_zero h0).1
  have hnl := hA.l1
  rw [hnl] at hso hc
  have hl2 := hA.l2
  have hm2 := hA.m2
  have HA := Lib.hid hA
  have HS := Lib.hid hS
  have Hok := Lib.hid hok
  have Hso := Lib.hid hso
  have Hc := Lib.hid hc
  have Hsu := Lib.hid hsu
  have Hnl := Lib.hid hnl
  have Hl2 := Lib.hid hl2
  clear hA hS hok hso hc hsu hnl hl2 h0
  go_enter Tryz.func109, Tryz.ntmps109
  go_wp2_with fail
  obtain ⟨w1, hw1⟩ : ∃ W, W = w.alloc (.cells #[.slice A1 n1 c1, .slice A2 n2 c2] 32) := ⟨_, rfl⟩
  have hg1 : Gr w w1 := by rw [hw1]; exact (Gr.refl _).alloc _
  have y0 : w1.cell? ⟨w.heap.size, 0, none⟩ = some (.slice A1 n1 c1) := by rw [hw1]; simp [go_sem]
  have y1 : w1.cell? ⟨w.heap.size, 1, none⟩ = some (.slice A2 n2 c2) := by rw [hw1]; simp [go_sem]
  rw [← hw1]
  clear hw1
  have hgw := hg1
  refine (spForestFlows_any n sup _ (HA.out.gr hgw) (HS.out.gr hgw) H0.out).mono ?_
  rintro e w2 ⟨A, m, c, rfl, hR, hg2⟩
  have HR := Lib.hid hR
  have hgw := hgw.trans hg2
  replace y0 := hg2.has y0
  replace y1 := hg2.has y1
  clear hg1 hg2 hR
  by_cases hf : foCode n sup = 0
  · have hfl := (fo_zero hf).2
    obtain rfl : m = n2 := by
      have h := HR.out.sl.ilen
      rw [foRes_yes hf, (flOk_all hfl).1, Hl2.out] at h
      exact h.symm
    rw [Hnl.out] at hfl
    have Hfl := Lib.hid hfl
    have HF : Hid (SlAt w2 1 A m c (ints (ffL (eds n.pipes) n1 sup))) := Lib.hid (by have h := HR.out; rw [foRes_yes hf, Hnl.out] at h; exact h)
    have Hf := Lib.hid hf
    rw [hf]
    clear hf hfl HR
    go_wp2_with fail
    refine (l11Relax_any n _ 32768 _ (HA.out.gr hgw) HF.out Hok.out Hc.out Hfl.out (by omega)).mono ?_
    rintro e w3 ⟨B, d, T, rfl, hT, hB, hg3⟩
    have HB := Lib.hid hB
    have hgw := hgw.trans hg3
    clear hT hB hg3
    go_wp2_with fail
    go_ret2
    exact ⟨B, m, d, by rw [Hf.out]; rfl, by rw [slvR_yes Hf.out, solF, solR, Hnl.out]; exact HB.out, hgw⟩
  · have tb : (foCode n sup != 0) = true := by simp [hf]
    have Hf := Lib.hid hf
    clear hf
    go_wp2_with fail
    go_ret2
    exact ⟨none, 0, 0, rfl, by rw [slvR_no Hf.out]; exact nilAt _, hgw⟩
end Go.Proofs.YthhmhigddmimjaaGreat
/-
  The operating point (both sides). Printed by gen_pt18.py.
-/
set_option linter.unusedSimpArgs false
set_option linter.unusedVariables false
namespace Go.Proofs.YthhmhigddmimjaaGreat
open Go.ChangeShapes Go.WideShapes Go.ChangeAt Go.RowKit

theorem op_bnd {n : GNet} {sup : List Int} (hn : netOk n = true) {fl : List Int} (h : ¬ opHi n fl < opLo n fl) : (0 ≤ opLo n fl ∧ opLo n fl ≤ 100000000) ∧ (0 ≤ opHi n fl ∧ opHi n fl ≤ 100000000) := by
  have h0 : 0 < n.nodes.length := by have := (netOk_all hn).1.1; omega
  obtain ⟨x, hx⟩ : ∃ x, n.nodes[0]? = some x := ⟨_, List.getElem?_eq_getElem h0⟩
  have hb := node_bnd hn hx
  have hd : nodeD n 0 = x := by rw [nodeD, List.getD_eq_getElem?_getD, hx]; rfl
  have hlo : ∀ k, (nodeD n 0).low ≤ rLo n (lvL n fl 0) k := by
    intro k
    induction k with
    | zero => exact Int.le_refl _
    | succ k ih => have : rLo n (lvL n fl 0) (k + 1) = max (rLo n (lvL n fl 0) k) ((nodeD n k).low - (lvL n fl 0).getD k 0) := rfl
                   omega
  have hhi : ∀ k, rHi n (lvL n fl 0) k ≤ (nodeD n 0).high := by
    intro k
    induction k with
    | zero => exact Int.le_refl _
    | succ k ih => have : rHi n (lvL n fl 0) (k + 1) = min (rHi n (lvL n fl 0) k) ((nodeD n k).high - (lvL n fl 0).getD k 0) := rfl
                   omega
  have a := hlo n.nodes.length
  have b := hhi n.nodes.length
  have a' : (nodeD n 0).low ≤ opLo n fl := a
  have b' : opHi n fl ≤ (nodeD n 0).high := b
  rw [hd] at a' b'
  omega
theorem opFl_no {n : GNet} {sup : List Int} (h : opCode n sup ≠ 0) : opFl n sup = [] := by rw [opFl, if_neg h]
theorem opLv_no {n : GNet} {sup : List Int} (top : Bool) (h : opCode n sup ≠ 0) : opLv n sup top = [] := by rw [opLv, if_neg h]
theorem opFl_yes {n : GNet} {sup : List Int} (h : opCode n sup = 0) : opFl n sup = solF n sup := by rw [opFl, if_pos h]
theorem opLv_yes {n : GNet} {sup : List Int} (top : Bool) (h : opCode n sup = 0) : opLv n sup top = lvL n (solF n sup) (if top = true then opHi n (solF n sup) else opLo n (solF n sup)) := by rw [opLv, if_pos h]
theorem cell_of_two {W : World} {R j : Nat} {u v : Value} {t : TypeId} {k : Int} (h : W.heap[R]? = some (.cells #[u, v] t (0, 0))) (hu : ∀ z : Int, u ≠ .int .i64 z) (hv : ∀ z : Int, v ≠ .int .i64 z) : W.cell? ⟨R, j, none⟩ ≠ some (.int .i64 k) := by
  rw [cell_of_row W R j _ t _ h]
  intro e
  match j with
  | 0 => simp at e; exact hu k e
  | 1 => simp at e; exact hv k e
  | j + 2 => simp at e
/-- A list of numbers stays where a block that holds none changes. -/
theorem SlAt.keep {W W' : World} {R m c : Nat} {A : Option Addr} {zs : List Int} {u v : Value} {t : TypeId} (h : SlAt W 1 A m c (ints zs)) (hc : Chg (fun j => j = R) W W') (hR : W.heap[R]? = some (.cells #[u, v] t (0, 0))) (hu : ∀ z : Int, u ≠ .int .i64 z) (hv : ∀ z : Int, v ≠ .int .i64 z) : SlAt W' 1 A m c (ints zs) := by
  refine ⟨⟨h.sl.1, fun hm => ?_⟩, h.cap, h.small⟩
  obtain ⟨b, o, e, hb, hrow⟩ := h.sl.2 hm
  have hl := h.sl.ilen
  have hne : ¬ b = R := by
    intro e'
    subst e'
    have h0 := hrow 0 (.int .i64 (zs.getD 0 0)) (by rw [ints, List.getElem?_map, get_int (by omega)]; rfl)
    exact cell_of_two hR hu hv h0
  exact ⟨b, o, e, by have := hc.size; omega, fun j u hj => chg_cell' hc (hrow j u hj) hne⟩
theorem put_two {W : World} {R : Nat} {t : TypeId} {fr : Nat × Nat} {u v a b : Value} (h : W.heap[R]? = some (.cells #[u, v] t fr)) : ((W.setCell ⟨R, 0, none⟩ a).setCell ⟨R, 1, none⟩ b).heap[R]? = some (.cells #[a, b] t fr) := by simp [World.setCell, Array.getElem?_modify, h]
theorem slice_no (A : Option Addr) (n c : Nat) : ∀ z : Int, Value.slice A n c ≠ .int .i64 z := fun z e => by cases e
set_option maxHeartbeats 6400000 in
set_option maxRecDepth 100000 in
theorem operatingPoint_any {A1 A2 A3 : Option Addr} {n1 c1 n2 c2 n3 c3 : Nat} (n : GNet) (sup : List Int) (top : Bool) (w : World) (hA : NetAt w A1 n1 c1 A2 n2 c2 n) (hS : SlAt w 1 A3 n3 c3 (ints sup)) :
    Calls Tryz.prog 72 #[.agg #[.slice A1 n1 c1, .slice A2 n2 c2], .slice A3 n3 c3, .bool top] w fun e w' => ∃ A m c B k d, e = .returned (.tuple #[.agg #[.slice A m c, .slice B k d], .int .i64 (opStep n sup), .int .i64 (opCode n sup)]) ∧ SlAt w' 1 A m c (ints (opFl n sup)) ∧ SlAt w' 1 B k d (ints (opLv n sup top)) ∧ Gr w w' := by
  have hl1 := hA.l1
  have hl2 := hA.l2
  have hm1 := hA.m1
  have hm2 := hA.m2
  have HA := Lib.hid hA
  have HS := Lib.hid hS
  have Hl1 := Lib.hid hl1
  have Hl2 := Lib.hid hl2
  clear hA hS hl1 hl2
  go_enter Tryz.func72, Tryz.ntmps72
  go_upto_region 1 with fail
  obtain ⟨w1, hw1⟩ : ∃ W, W = (w.alloc (.cells #[.slice A1 n1 c1, .slice A2 n2 c2] 32)).alloc (.cells #[.slice none 0 0, .slice none 0 0] 56) := ⟨_, rfl⟩
  have hg1 : Gr w w1 := by rw [hw1]; exact ((Gr.refl _).alloc _).alloc _
  have y0 : w1.cell? ⟨w.heap.size, 0, none⟩ = some (.slice A1 n1 c1) := by rw [hw1]; simp [go_sem]
  have y1 : w1.cell? ⟨w.heap.size, 1, none⟩ = some (.slice A2 n2 c2) := by rw [hw1]; simp [go_sem]
  obtain ⟨R, hRe⟩ : ∃ R, R = w.heap.size + 1 := ⟨_, rfl⟩
  have hR : w1.heap[R]? = some (.cells #[.slice none 0 0, .slice none 0 0] 56 (0, 0)) := by
    have e : R = (w.alloc (.cells #[.slice A1 n1 c1, .slice A2 n2 c2] 32)).heap.size := by simp [hRe]
    rw [hw1, e]; exact heap_alloc_new _ _
  have hRb : w.heap.size ≤ R := by omega
  have HRs := rb_lt hR
  rw [← hw1, ← hRe]
  have HR := Lib.hid hR
  clear hw1 hR hRe
  go_wp2_with fail
  refine (checkConnected_any n sup _ (HA.out.gr hg1) (HS.out.gr hg1)).mono ?_
  rintro e w2 ⟨rfl, hg2⟩
  have hgw2 := hg1.trans hg2
  by_cases h0 : ocCode n sup = 0
  rotate_left
  · have tb : (ocCode n sup != 0) = true := by simp [h0]
    have H0 := Lib.hid h0
    clear h0
    have hRw := (hg2.below.block _ HRs).trans HR.out
    have r0 := rb_cell (j := 0) hRw rfl
    have r1 := rb_cell (j := 1) hRw rfl
    have f0 := rb_frozen hRw 0
    have f1 := rb_frozen hRw 1
    obtain ⟨W9, hW9⟩ : ∃ W, W = (w2.setCell ⟨R, 0, none⟩ (.slice none 0 0)).setCell ⟨R, 1, none⟩ (.slice none 0 0) := ⟨_, rfl⟩
    have hP : W9.heap[R]? = some (.cells #[.slice none 0 0, .slice none 0 0] 56 (0, 0)) := by rw [hW9]; exact put_two hRw
    have hcc : Chg (fun j => j = R) w2 W9 := by rw [hW9]; exact (chg_put _ _).trans (chg_put _ _)
    have hgx : Gr w W9 := by rw [hW9]; exact (hgw2.setCell (p := ⟨R, 0, none⟩) hRb _).setCell (p := ⟨R, 1, none⟩) hRb _
    have HP := Lib.hid hP
    have HW9 := Lib.hid hW9
    have HRw := Lib.hid hRw
    clear hW9 hP hRw
    go_wp2_with fail
    rw [← HW9.out]
    (try simp only [Exit.inBlock, Exit.then])
    refine bodyPost_ret (results_row_tmp2 Tryz.results72 _ _ R 56 #[.slice none 0 0, .slice none 0 0] (0, 0) _ ?_ HP.out Tryz.underlying56 rfl (by kernel_rfl)) ?_ ?_
    · rfl
    · rfl
    have hcs := op_oc H0.out
    have hne : opCode n sup ≠ 0 := by rw [hcs.1]; exact H0.out
    exact ⟨none, 0, 0, none, 0, 0, by rw [hcs.1, hcs.2] <;> rfl, by rw [opFl_no hne]; exact nilAt _, by rw [opLv_no _ hne]; exact nilAt _, hgx⟩
  obtain ⟨hok, hso, hc⟩ := op_net h0
  rw [Hl1.out] at hso hc
  obtain rfl : n1 = n3 := by rw [← (supOk_all hso).1]; exact HS.out.sl.ilen
  have Hok := Lib.hid hok
  have Hc := Lib.hid hc
  have H0 := Lib.hid h0
  rw [h0]
  clear hok hso hc h0
  replace y0 := hg2.has y0
  replace y1 := hg2.has y1
  go_wp2_with fail
  refine (solveLoops_any n sup _ (HA.out.gr hgw2) (HS.out.gr hgw2) H0.out).mono ?_
  rintro e w3 ⟨A, m, c, T, rfl, hF, hg3⟩
  have hg13 := hg2.trans hg3
  have hgw3 := hg1.trans hg13
  replace y0 := hg3.has y0
  replace y1 := hg3.has y1
  by_cases hf : foCode n sup = 0
  rotate_left
  · have tb : (foCode n sup != 0) = true := by simp [hf]
    have Hf := Lib.hid hf
    clear hf hF
    have hRw := (hg13.below.block _ HRs).trans HR.out
    have r0 := rb_cell (j := 0) hRw rfl
    have r1 := rb_cell (j := 1) hRw rfl
    have f0 := rb_frozen hRw 0
    have f1 := rb_frozen hRw 1
    obtain ⟨W9, hW9⟩ : ∃ W, W = (w3.setCell ⟨R, 0, none⟩ (.slice none 0 0)).setCell ⟨R, 1, none⟩ (.slice none 0 0) := ⟨_, rfl⟩
    have hP : W9.heap[R]? = some (.cells #[.slice none 0 0, .slice none 0 0] 56 (0, 0)) := by rw [hW9]; exact put_two hRw
    have hcc : Chg (fun j => j = R) w3 W9 := by rw [hW9]; exact (chg_put _ _).trans (chg_put _ _)
    have hgx : Gr w W9 := by rw [hW9]; exact (hgw3.setCell (p := ⟨R, 0, none⟩) hRb _).setCell (p := ⟨R, 1, none⟩) hRb _
    have HP := Lib.hid hP
    have HW9 := Lib.hid hW9
    have HRw := Lib.hid hRw
    clear hW9 hP hRw
    go_wp2_with fail
    rw [← HW9.out]
    (try simp only [Exit.inBlock, Exit.then])
    refine bodyPost_ret (results_row_tmp2 Tryz.results72 _ _ R 56 #[.slice none 0 0, .slice none 0 0] (0, 0) _ ?_ HP.out Tryz.underlying56 rfl (by kernel_rfl)) ?_ ?_
    · rfl
    · rfl
    have hcs := op_fo H0.out Hf.out
    have hne : opCode n sup ≠ 0 := by rw [hcs.1]; exact Hf.out
    exact ⟨none, 0, 0, none, 0, 0, by rw [hcs.1, hcs.2] <;> rfl, by rw [opFl_no hne]; exact nilAt _, by rw [opLv_no _ hne]; exact nilAt _, hgx⟩
  have hfl := sol_ok hf
  rw [slvR_yes hf] at hF
  obtain rfl : m = n2 := by have h := hF.sl.ilen; rw [(flOk_all hfl).1, Hl2.out] at h; exact h.symm
  have Hfl := Lib.hid hfl
  have HF := Lib.hid hF
  have Hf := Lib.hid hf
  rw [hf]
  clear hfl hF hf hg2 hgw2 hg3
  go_wp2_with fail
  go_loopw [39] (fun i wr => ∃ k : Nat, k ≤ m ∧ i = .int .i64 k ∧ (∀ j, j < k → ovAt n (solF n sup) j = false) ∧ Gr w3 wr) (fun i _ => m - (intOf i).toNat)
  case atStart => exact ⟨0, Nat.zero_le _, rfl, fun j h => absurd h (by omega), Gr.refl _⟩
  case round =>
    obtain ⟨k, hk, rfl, hno, hgx2⟩ := hrel
    have hgr := hg13.trans hgx2
    have Hno := Lib.hid hno
    clear hno
    by_cases hlt : k < m
    · obtain ⟨p, hp⟩ : ∃ p, n.pipes[k]? = some p := ⟨_, List.getElem?_eq_getElem (by have := Hl2.out; omega)⟩
      obtain ⟨x, hx⟩ : ∃ x, (solF n sup)[k]? = some x := ⟨_, List.getElem?_eq_getElem (by have := HF.out.sl.ilen; omega)⟩
      obtain ⟨b, o, hAA, hb, e0, e1, e2, e3, e4⟩ := (HA.out.gr (hg1.trans hgr)).pipes.pp hp
      subst hAA
      obtain ⟨b', o', hAB, hb', x0⟩ := (HF.out.gr hgx2).sl.int hx
      subst hAB
      have hxb : -30000 ≤ x ∧ x ≤ 30000 := (flOk_all Hfl.out).2 x (List.mem_of_getElem? hx)
      have hov : ovAt n (solF n sup) k = decide (p.lim < ab x) := by
        have e1 : n.pipes.getD k dP = p := by rw [List.getD_eq_getElem?_getD, hp]; rfl
        have e2 : (solF n sup).getD k 0 = x := by rw [List.getD_eq_getElem?_getD, hx]; rfl
        rw [ovAt, e1, e2, Bool.eq_iff_iff, Bool.not_eq_true', decide_eq_false_iff_not, decide_eq_true_eq, ← sg_ab]
        exact abs_lim.symm
      have Hov := Lib.hid hov
      have t1 : (k : Int) < (m : Int) := by omega
      have t0 : (0 : Int) ≤ (k : Int) := by omega
      rename World => wr
      clear hp hx hov
      go_upto_region 10 with fail
      obtain ⟨w4, hw4⟩ : ∃ W, W = wr.alloc (.cells #[.int .i64 p.src, .int .i64 p.dst, .int .i64 p.k, .int .i64 p.vol, .int .i64 p.lim] 95) := ⟨_, rfl⟩
      have hg4 : Gr wr w4 := by rw [hw4]; exact (Gr.refl _).alloc _
      have x4 : w4.cell? ⟨wr.heap.size, 4, none⟩ = some (.int .i64 p.lim) := by rw [hw4]; simp [go_sem]
      replace x0 := hg4.has x0
      rw [← hw4]
      have hgr4 := hgr.trans hg4
      clear hw4 e0 e1 e2 e3 e4
      go_wp2_with fail
      refine wp_region_text (fun w' => Gr w4 w') (by kernel_rfl) (by kernel_rfl) (by decide) (Gr.refl _).drew ?_
      repeat (first
        | ((with_reducible refine wpText_skip ?_ ?_)
           · rfl
           simp only [Act.put, List.setIfInBounds_toArray, List.set_cons_zero, List.set_cons_succ])
        | ((with_reducible refine wpText_yield (v := ?_) ?_ ?_ ?_)
           rotate_left
           · rfl
           · (intro W hW; have kx0 := hW.has x0; have kx4 := hW.has x4; first | (go_simp; done) | (go_simp; with_reducible rfl))
           simp only [Act.put, List.setIfInBounds_toArray, List.set_cons_zero, List.set_cons_succ])
        | ((with_reducible refine wpText_yield1 (v := ?_) ?_ ?_ ?_)
           rotate_left
           · rfl
           · (intro W hW; have kx0 := hW.has x0; have kx4 := hW.has x4; first | (go_simp; done) | (go_simp; with_reducible rfl))
           simp only [Act.put, List.setIfInBounds_toArray, List.set_cons_zero, List.set_cons_succ]))
      refine wpText_do (.int .i64 (ab x)) (by rfl) (fun W hW K hK => ?_) ?_
      ·
        have kx0 := hW.has x0
        have kx4 := hW.has x4
        go_simp
        refine (absI_any x _ (by omega)).mono ?_
        rintro e w' ⟨rfl, rfl⟩
        exact hK _ hW
      simp only [Act.put, List.setIfInBounds_toArray, List.set_cons_zero, List.set_cons_succ]
      repeat (first
        | ((with_reducible refine wpText_skip ?_ ?_)
           · rfl
           simp only [Act.put, List.setIfInBounds_toArray, List.set_cons_zero, List.set_cons_succ])
        | ((with_reducible refine wpText_yield (v := ?_) ?_ ?_ ?_)
           rotate_left
           · rfl
           · (intro W hW; have kx0 := hW.has x0; have kx4 := hW.has x4; first | (go_simp; done) | (go_simp; with_reducible rfl))
           simp only [Act.put, List.setIfInBounds_toArray, List.set_cons_zero, List.set_cons_succ])
        | ((with_reducible refine wpText_yield1 (v := ?_) ?_ ?_ ?_)
           rotate_left
           · rfl
           · (intro W hW; have kx0 := hW.has x0; have kx4 := hW.has x4; first | (go_simp; done) | (go_simp; with_reducible rfl))
           simp only [Act.put, List.setIfInBounds_toArray, List.set_cons_zero, List.set_cons_succ]))
      rintro w6 hS6
      have hgr6 := hgr4.trans hS6
      have hgz6 := (hgx2.trans hg4).trans hS6
      clear x0 x4 hgr4 hg4 hS6
      by_cases hq : p.lim < ab x
      · have tq : decide (p.lim < ab x) = true := by simp [hq]
        have Hq : Hid (ovAt n (solF n sup) k = true) := Lib.hid (Hov.out.trans tq)
        (try have hq := Int.not_lt.1 hq)
        have Hlm : Hid (limOk n (solF n sup) = false) := Lib.hid (lim_no Hl2.out hlt Hq.out)
        have hRw := ((hgr6).below.block _ HRs).trans HR.out
        have r0 := rb_cell (j := 0) hRw rfl
        have r1 := rb_cell (j := 1) hRw rfl
        have f0 := rb_frozen hRw 0
        have f1 := rb_frozen hRw 1
        obtain ⟨W9, hW9⟩ : ∃ W, W = (w6.setCell ⟨R, 0, none⟩ (.slice none 0 0)).setCell ⟨R, 1, none⟩ (.slice none 0 0) := ⟨_, rfl⟩
        have hP : W9.heap[R]? = some (.cells #[.slice none 0 0, .slice none 0 0] 56 (0, 0)) := by rw [hW9]; exact put_two hRw
        have hcc : Chg (fun j => j = R) w6 W9 := by rw [hW9]; exact (chg_put _ _).trans (chg_put _ _)
        have hgx : Gr w W9 := by rw [hW9]; exact ((hg1.trans hgr6).setCell (p := ⟨R, 0, none⟩) hRb _).setCell (p := ⟨R, 1, none⟩) hRb _
        have HP := Lib.hid hP
        have HW9 := Lib.hid hW9
        have HRw := Lib.hid hRw
        clear hW9 hP hRw
        go_wp2_with fail
        rw [← HW9.out]
        (try simp only [Exit.inBlock, Exit.then])
        refine bodyPost_ret (results_row_tmp2 Tryz.results72 _ _ R 56 #[.slice none 0 0, .slice none 0 0] (0, 0) _ ?_ HP.out Tryz.underlying56 rfl (by kernel_rfl)) ?_ ?_
        · rfl
        · rfl
        have hcs := op_lim H0.out Hf.out Hlm.out
        have hne : opCode n sup ≠ 0 := by rw [hcs.1]; decide
        exact ⟨none, 0, 0, none, 0, 0, by rw [hcs.1, hcs.2] <;> rfl, by rw [opFl_no hne]; exact nilAt _, by rw [opLv_no _ hne]; exact nilAt _, hgx⟩
      · have tq : decide (p.lim < ab x) = false := by simp [hq]
        have Hq : Hid (ovAt n (solF n sup) k = false) := Lib.hid (Hov.out.trans tq)
        (try have hq := Int.not_lt.1 hq)
        go_wp2_with fail
        go_roundw
        case rel => exact ⟨k + 1, by omega, by go_num, fun j hj => (by by_cases e : j = k; (· subst e; exact Hq.out); exact Hno.out j (by omega)), hgz6⟩
        case measure => simp [intOf]; omega
    · obtain rfl : k = m := by omega
      have Hlm : Hid (limOk n (solF n sup) = true) := Lib.hid (lim_yes Hl2.out Hno.out)
      rename World => wr
      replace y0 := hgx2.has y0
      replace y1 := hgx2.has y1
      have hgw := hg1.trans hgr
      have HFr := Lib.hid (HF.out.gr hgx2)
      clear Hno
      go_wp2_with fail
      refine (rootRange_any n (solF n sup) _ (HA.out.gr hgw) HFr.out Hok.out Hc.out Hfl.out).mono ?_
      rintro e w8 ⟨hor, h8⟩
      have hgr8 := hgr.trans h8
      have hgw8 := hgw.trans h8
      replace y0 := h8.has y0
      replace y1 := h8.has y1
      rcases hor with ⟨hng, rfl⟩ | ⟨hng, rfl⟩
      · have Hng := Lib.hid hng
        clear hng
        have hRw := (hgr8.below.block _ HRs).trans HR.out
        have r0 := rb_cell (j := 0) hRw rfl
        have r1 := rb_cell (j := 1) hRw rfl
        have f0 := rb_frozen hRw 0
        have f1 := rb_frozen hRw 1
        obtain ⟨W9, hW9⟩ : ∃ W, W = (w8.setCell ⟨R, 0, none⟩ (.slice none 0 0)).setCell ⟨R, 1, none⟩ (.slice none 0 0) := ⟨_, rfl⟩
        have hP : W9.heap[R]? = some (.cells #[.slice none 0 0, .slice none 0 0] 56 (0, 0)) := by rw [hW9]; exact put_two hRw
        have hcc : Chg (fun j => j = R) w8 W9 := by rw [hW9]; exact (chg_put _ _).trans (chg_put _ _)
        have hgx : Gr w W9 := by rw [hW9]; exact (hgw8.setCell (p := ⟨R, 0, none⟩) hRb _).setCell (p := ⟨R, 1, none⟩) hRb _
        have HP := Lib.hid hP
        have HW9 := Lib.hid hW9
        have HRw := Lib.hid hRw
        clear hW9 hP hRw
        go_wp2_with fail
        rw [← HW9.out]
        (try simp only [Exit.inBlock, Exit.then])
        refine bodyPost_ret (results_row_tmp2 Tryz.results72 _ _ R 56 #[.slice none 0 0, .slice none 0 0] (0, 0) _ ?_ HP.out Tryz.underlying56 rfl (by kernel_rfl)) ?_ ?_
        · rfl
        · rfl
        have hcs := op_rng H0.out Hf.out Hlm.out (by have := Hng.out; omega)
        have hne : opCode n sup ≠ 0 := by rw [hcs.1]; decide
        exact ⟨none, 0, 0, none, 0, 0, by rw [hcs.1, hcs.2] <;> rfl, by rw [opFl_no hne]; exact nilAt _, by rw [opLv_no _ hne]; exact nilAt _, hgx⟩
      · have Hng := Lib.hid hng
        have hbd := op_bnd (sup := sup) Hok.out hng
        clear hng
        cases top with
        | true =>
          go_wp2_with fail
          refine (forestLevels_any n (solF n sup) (opHi n (solF n sup)) _ (HA.out.gr hgw8) (HFr.out.gr h8) Hok.out Hc.out Hfl.out (by omega)).mono ?_
          rintro e w9 ⟨G, rfl, hL, h9⟩
          have HL := Lib.hid hL
          have hgr9 := hgr8.trans h9
          have hgw9 := hgw8.trans h9
          have HFf := Lib.hid ((HFr.out.gr h8).gr h9)
          clear hL
          have hRw := (hgr9.below.block _ HRs).trans HR.out
          have r0 := rb_cell (j := 0) hRw rfl
          have r1 := rb_cell (j := 1) hRw rfl
          have f0 := rb_frozen hRw 0
          have f1 := rb_frozen hRw 1
          obtain ⟨W9, hW9⟩ : ∃ W, W = (w9.setCell ⟨R, 0, none⟩ (.slice A k c)).setCell ⟨R, 1, none⟩ (.slice (some ⟨G, 0, none⟩) n1 n1) := ⟨_, rfl⟩
          have hP : W9.heap[R]? = some (.cells #[.slice A k c, .slice (some ⟨G, 0, none⟩) n1 n1] 56 (0, 0)) := by rw [hW9]; exact put_two hRw
          have hcc : Chg (fun j => j = R) w9 W9 := by rw [hW9]; exact (chg_put _ _).trans (chg_put _ _)
          have hgx : Gr w W9 := by rw [hW9]; exact (hgw9.setCell (p := ⟨R, 0, none⟩) hRb _).setCell (p := ⟨R, 1, none⟩) hRb _
          have HP := Lib.hid hP
          have HW9 := Lib.hid hW9
          have HRw := Lib.hid hRw
          clear hW9 hP hRw
          go_wp2_with fail
          rw [← HW9.out]
          (try simp only [Exit.inBlock, Exit.then])
          refine bodyPost_ret (results_row_tmp2 Tryz.results72 _ _ R 56 #[.slice A k c, .slice (some ⟨G, 0, none⟩) n1 n1] (0, 0) _ ?_ HP.out Tryz.underlying56 rfl (by kernel_rfl)) ?_ ?_
          · rfl
          · rfl
          have hcs := op_yes H0.out Hf.out Hlm.out (by have := Hng.out; omega)
          have hL := own_chg HL.out hcc (fun j hj e => by have h1 := own_low HL.out hj; have h2 := hgw8.size; have h3 := hgr8.size; omega)
          exact ⟨A, k, c, some ⟨G, 0, none⟩, n1, n1, by rw [hcs.1, hcs.2] <;> rfl, by rw [opFl_yes hcs.1]; exact SlAt.keep HFf.out hcc HRw.out (slice_no _ _ _) (slice_no _ _ _), by rw [opLv_yes _ hcs.1]; exact SlAt.of_own hL hm1, hgx⟩
        | false =>
          go_wp2_with fail
          refine (forestLevels_any n (solF n sup) (opLo n (solF n sup)) _ (HA.out.gr hgw8) (HFr.out.gr h8) Hok.out Hc.out Hfl.out (by omega)).mono ?_
          rintro e w9 ⟨G, rfl, hL, h9⟩
          have HL := Lib.hid hL
          have hgr9 := hgr8.trans h9
          have hgw9 := hgw8.trans h9
          have HFf := Lib.hid ((HFr.out.gr h8).gr h9)
          clear hL
          have hRw := (hgr9.below.block _ HRs).trans HR.out
          have r0 := rb_cell (j := 0) hRw rfl
          have r1 := rb_cell (j := 1) hRw rfl
          have f0 := rb_frozen hRw 0
          have f1 := rb_frozen hRw 1
          obtain ⟨W9, hW9⟩ : ∃ W, W = (w9.setCell ⟨R, 0, none⟩ (.slice A k c)).setCell ⟨R, 1, none⟩ (.slice (some ⟨G, 0, none⟩) n1 n1) := ⟨_, rfl⟩
          have hP : W9.heap[R]? = some (.cells #[.slice A k c, .slice (some ⟨G, 0, none⟩) n1 n1] 56 (0, 0)) := by rw [hW9]; exact put_two hRw
          have hcc : Chg (fun j => j = R) w9 W9 := by rw [hW9]; exact (chg_put _ _).trans (chg_put _ _)
          have hgx : Gr w W9 := by rw [hW9]; exact (hgw9.setCell (p := ⟨R, 0, none⟩) hRb _).setCell (p := ⟨R, 1, none⟩) hRb _
          have HP := Lib.hid hP
          have HW9 := Lib.hid hW9
          have HRw := Lib.hid hRw
          clear hW9 hP hRw
          go_wp2_with fail
          rw [← HW9.out]
          (try simp only [Exit.inBlock, Exit.then])
          refine bodyPost_ret (results_row_tmp2 Tryz.results72 _ _ R 56 #[.slice A k c, .slice (some ⟨G, 0, none⟩) n1 n1] (0, 0) _ ?_ HP.out Tryz.underlying56 rfl (by kernel_rfl)) ?_ ?_
          · rfl
          · rfl
          have hcs := op_yes H0.out Hf.out Hlm.out (by have := Hng.out; omega)
          have hL := own_chg HL.out hcc (fun j hj e => by have h1 := own_low HL.out hj; have h2 := hgw8.size; have h3 := hgr8.size; omega)
          exact ⟨A, k, c, some ⟨G, 0, none⟩, n1, n1, by rw [hcs.1, hcs.2] <;> rfl, by rw [opFl_yes hcs.1]; exact SlAt.keep HFf.out hcc HRw.out (slice_no _ _ _) (slice_no _ _ _), by rw [opLv_yes _ hcs.1]; exact SlAt.of_own hL hm1, hgx⟩
set_option maxHeartbeats 6400000 in
set_option maxRecDepth 100000 in
theorem l13Point_any {A1 A2 A3 : Option Addr} {n1 c1 n2 c2 c3 : Nat} (n : GNet) (sup : List Int) (top : Bool) (w : World) (hA : NetAt w A1 n1 c1 A2 n2 c2 n) (hS : SlAt w 1 A3 n1 c3 (ints sup)) (h0 : ocCode n sup = 0) :
    Calls Tryz.prog 74 #[.agg #[.slice A1 n1 c1, .slice A2 n2 c2], .slice A3 n1 c3, .bool top] w fun e w' => ∃ A m c B k d, e = .returned (.tuple #[.agg #[.slice A m c, .slice B k d], .int .i64 (opStep n sup), .int .i64 (opCode n sup)]) ∧ SlAt w' 1 A m c (ints (opFl n sup)) ∧ SlAt w' 1 B k d (ints (opLv n sup top)) ∧ Gr w w' := by
  have hl1 := hA.l1
  have hl2 := hA.l2
  have hm1 := hA.m1
  have hm2 := hA.m2
  have HA := Lib.hid hA
  have HS := Lib.hid hS
  have Hl1 := Lib.hid hl1
  have Hl2 := Lib.hid hl2
  have H0 := Lib.hid h0
  clear hA hS hl1 hl2 h0
  go_enter Tryz.func74, Tryz.ntmps74
  go_upto_region 1 with fail
  obtain ⟨w1, hw1⟩ : ∃ W, W = (w.alloc (.cells #[.slice A1 n1 c1, .slice A2 n2 c2] 32)).alloc (.cells #[.slice none 0 0, .slice none 0 0] 56) := ⟨_, rfl⟩
  have hg1 : Gr w w1 := by rw [hw1]; exact ((Gr.refl _).alloc _).alloc _
  have y0 : w1.cell? ⟨w.heap.size, 0, none⟩ = some (.slice A1 n1 c1) := by rw [hw1]; simp [go_sem]
  have y1 : w1.cell? ⟨w.heap.size, 1, none⟩ = some (.slice A2 n2 c2) := by rw [hw1]; simp [go_sem]
  obtain ⟨R, hRe⟩ : ∃ R, R = w.heap.size + 1 := ⟨_, rfl⟩
  have hR : w1.heap[R]? = some (.cells #[.slice none 0 0, .slice none 0 0] 56 (0, 0)) := by
    have e : R = (w.alloc (.cells #[.slice A1 n1 c1, .slice A2 n2 c2] 32)).heap.size := by simp [hRe]
    rw [hw1, e]; exact heap_alloc_new _ _
  have hRb : w.heap.size ≤ R := by omega
  have HRs := rb_lt hR
  rw [← hw1, ← hRe]
  have HR := Lib.hid hR
  clear hw1 hR hRe
  go_wp2_with fail
  have hg2 : Gr w1 w1 := Gr.refl _
  have hgw2 := hg1
  obtain ⟨hok, hso, hc⟩ := op_net H0.out
  rw [Hl1.out] at hso hc
  have Hok := Lib.hid hok
  have Hc := Lib.hid hc
  clear hok hso hc
  refine (spSolveLoops_any n sup _ (HA.out.gr hgw2) (HS.out.gr hgw2) H0.out).mono ?_
  rintro e w3 ⟨A, m, c, rfl, hF, hg3⟩
  have hg13 := hg2.trans hg3
  have hgw3 := hg1.trans hg13
  replace y0 := hg3.has y0
  replace y1 := hg3.has y1
  by_cases hf : foCode n sup = 0
  rotate_left
  · have tb : (foCode n sup != 0) = true := by simp [hf]
    have Hf := Lib.hid hf
    clear hf hF
    have hRw := (hg13.below.block _ HRs).trans HR.out
    have r0 := rb_cell (j := 0) hRw rfl
    have r1 := rb_cell (j := 1) hRw rfl
    have f0 := rb_frozen hRw 0
    have f1 := rb_frozen hRw 1
    obtain ⟨W9, hW9⟩ : ∃ W, W = (w3.setCell ⟨R, 0, none⟩ (.slice none 0 0)).setCell ⟨R, 1, none⟩ (.slice none 0 0) := ⟨_, rfl⟩
    have hP : W9.heap[R]? = some (.cells #[.slice none 0 0, .slice none 0 0] 56 (0, 0)) := by rw [hW9]; exact put_two hRw
    have hcc : Chg (fun j => j = R) w3 W9 := by rw [hW9]; exact (chg_put _ _).trans (chg_put _ _)
    have hgx : Gr w W9 := by rw [hW9]; exact (hgw3.setCell (p := ⟨R, 0, none⟩) hRb _).setCell (p := ⟨R, 1, none⟩) hRb _
    have HP := Lib.hid hP
    have HW9 := Lib.hid hW9
    have HRw := Lib.hid hRw
    clear hW9 hP hRw
    go_wp2_with fail
    rw [← HW9.out]
    (try simp only [Exit.inBlock, Exit.then])
    refine bodyPost_ret (results_row_tmp2 Tryz.results74 _ _ R 56 #[.slice none 0 0, .slice none 0 0] (0, 0) _ ?_ HP.out Tryz.underlying56 rfl (by kernel_rfl)) ?_ ?_
    · rfl
    · rfl
    have hcs := op_fo H0.out Hf.out
    have hne : opCode n sup ≠ 0 := by rw [hcs.1]; exact Hf.out
    exact ⟨none, 0, 0, none, 0, 0, by rw [hcs.1, hcs.2] <;> rfl, by rw [opFl_no hne]; exact nilAt _, by rw [opLv_no _ hne]; exact nilAt _, hgx⟩
  have hfl := sol_ok hf
  rw [slvR_yes hf] at hF
  obtain rfl : m = n2 := by have h := hF.sl.ilen; rw [(flOk_all hfl).1, Hl2.out] at h; exact h.symm
  have Hfl := Lib.hid hfl
  have HF := Lib.hid hF
  have Hf := Lib.hid hf
  rw [hf]
  clear hfl hF hf hg2 hgw2 hg3
  go_wp2_with fail
  go_loopw [11] (fun i wr => ∃ k : Nat, k ≤ m ∧ i = .int .i64 k ∧ (∀ j, j < k → ovAt n (solF n sup) j = false) ∧ Gr w3 wr) (fun i _ => m - (intOf i).toNat)
  case atStart => exact ⟨0, Nat.zero_le _, rfl, fun j h => absurd h (by omega), Gr.refl _⟩
  case round =>
    obtain ⟨k, hk, rfl, hno, hgx2⟩ := hrel
    have hgr := hg13.trans hgx2
    have Hno := Lib.hid hno
    clear hno
    by_cases hlt : k < m
    · obtain ⟨p, hp⟩ : ∃ p, n.pipes[k]? = some p := ⟨_, List.getElem?_eq_getElem (by have := Hl2.out; omega)⟩
      obtain ⟨x, hx⟩ : ∃ x, (solF n sup)[k]? = some x := ⟨_, List.getElem?_eq_getElem (by have := HF.out.sl.ilen; omega)⟩
      obtain ⟨b, o, hAA, hb, e0, e1, e2, e3, e4⟩ := (HA.out.gr (hg1.trans hgr)).pipes.pp hp
      subst hAA
      obtain ⟨b', o', hAB, hb', x0⟩ := (HF.out.gr hgx2).sl.int hx
      subst hAB
      have hxb : -30000 ≤ x ∧ x ≤ 30000 := (flOk_all Hfl.out).2 x (List.mem_of_getElem? hx)
      have hov : ovAt n (solF n sup) k = decide (p.lim < ab x) := by
        have e1 : n.pipes.getD k dP = p := by rw [List.getD_eq_getElem?_getD, hp]; rfl
        have e2 : (solF n sup).getD k 0 = x := by rw [List.getD_eq_getElem?_getD, hx]; rfl
        rw [ovAt, e1, e2, Bool.eq_iff_iff, Bool.not_eq_true', decide_eq_false_iff_not, decide_eq_true_eq, ← sg_ab]
        exact abs_lim.symm
      have Hov := Lib.hid hov
      have t1 : (k : Int) < (m : Int) := by omega
      have t0 : (0 : Int) ≤ (k : Int) := by omega
      rename World => wr
      clear hp hx hov
      have x4 := e4
      have u1 := hgx2.has y1
      clear e0 e1 e2 e3 e4
      go_upto_region 7 with fail
      refine wp_region_text (fun w' => Gr wr w') (by kernel_rfl) (by kernel_rfl) (by decide) (Gr.refl _).drew ?_
      repeat (first
        | ((with_reducible refine wpText_skip ?_ ?_)
           · rfl
           simp only [Act.put, List.setIfInBounds_toArray, List.set_cons_zero, List.set_cons_succ])
        | ((with_reducible refine wpText_yield (v := ?_) ?_ ?_ ?_)
           rotate_left
           · rfl
           · (intro W hW; have kx0 := hW.has x0; have kx4 := hW.has x4; have ku1 := hW.has u1; first | (go_simp; done) | (go_simp; with_reducible rfl))
           simp only [Act.put, List.setIfInBounds_toArray, List.set_cons_zero, List.set_cons_succ])
        | ((with_reducible refine wpText_yield1 (v := ?_) ?_ ?_ ?_)
           rotate_left
           · rfl
           · (intro W hW; have kx0 := hW.has x0; have kx4 := hW.has x4; have ku1 := hW.has u1; first | (go_simp; done) | (go_simp; with_reducible rfl))
           simp only [Act.put, List.setIfInBounds_toArray, List.set_cons_zero, List.set_cons_succ]))
      refine wpText_do (.int .i64 (ab x)) (by rfl) (fun W hW K hK => ?_) ?_
      ·
        have kx0 := hW.has x0
        have kx4 := hW.has x4
        have ku1 := hW.has u1
        go_simp
        refine (l01Abs_any x _ (by omega)).mono ?_
        rintro e w' ⟨rfl, rfl⟩
        exact hK _ hW
      simp only [Act.put, List.setIfInBounds_toArray, List.set_cons_zero, List.set_cons_succ]
      repeat (first
        | ((with_reducible refine wpText_skip ?_ ?_)
           · rfl
           simp only [Act.put, List.setIfInBounds_toArray, List.set_cons_zero, List.set_cons_succ])
        | ((with_reducible refine wpText_yield (v := ?_) ?_ ?_ ?_)
           rotate_left
           · rfl
           · (intro W hW; have kx0 := hW.has x0; have kx4 := hW.has x4; have ku1 := hW.has u1; first | (go_simp; done) | (go_simp; with_reducible rfl))
           simp only [Act.put, List.setIfInBounds_toArray, List.set_cons_zero, List.set_cons_succ])
        | ((with_reducible refine wpText_yield1 (v := ?_) ?_ ?_ ?_)
           rotate_left
           · rfl
           · (intro W hW; have kx0 := hW.has x0; have kx4 := hW.has x4; have ku1 := hW.has u1; first | (go_simp; done) | (go_simp; with_reducible rfl))
           simp only [Act.put, List.setIfInBounds_toArray, List.set_cons_zero, List.set_cons_succ]))
      rintro w6 hS6
      have hgr6 := hgr.trans hS6
      have hgz6 := hgx2.trans hS6
      clear x0 x4 u1 hS6
      by_cases hq : p.lim < ab x
      · have tq : decide (p.lim < ab x) = true := by simp [hq]
        have Hq : Hid (ovAt n (solF n sup) k = true) := Lib.hid (Hov.out.trans tq)
        (try have hq := Int.not_lt.1 hq)
        have Hlm : Hid (limOk n (solF n sup) = false) := Lib.hid (lim_no Hl2.out hlt Hq.out)
        have hRw := ((hgr6).below.block _ HRs).trans HR.out
        have r0 := rb_cell (j := 0) hRw rfl
        have r1 := rb_cell (j := 1) hRw rfl
        have f0 := rb_frozen hRw 0
        have f1 := rb_frozen hRw 1
        obtain ⟨W9, hW9⟩ : ∃ W, W = (w6.setCell ⟨R, 0, none⟩ (.slice none 0 0)).setCell ⟨R, 1, none⟩ (.slice none 0 0) := ⟨_, rfl⟩
        have hP : W9.heap[R]? = some (.cells #[.slice none 0 0, .slice none 0 0] 56 (0, 0)) := by rw [hW9]; exact put_two hRw
        have hcc : Chg (fun j => j = R) w6 W9 := by rw [hW9]; exact (chg_put _ _).trans (chg_put _ _)
        have hgx : Gr w W9 := by rw [hW9]; exact ((hg1.trans hgr6).setCell (p := ⟨R, 0, none⟩) hRb _).setCell (p := ⟨R, 1, none⟩) hRb _
        have HP := Lib.hid hP
        have HW9 := Lib.hid hW9
        have HRw := Lib.hid hRw
        clear hW9 hP hRw
        go_wp2_with fail
        rw [← HW9.out]
        (try simp only [Exit.inBlock, Exit.then])
        refine bodyPost_ret (results_row_tmp2 Tryz.results74 _ _ R 56 #[.slice none 0 0, .slice none 0 0] (0, 0) _ ?_ HP.out Tryz.underlying56 rfl (by kernel_rfl)) ?_ ?_
        · rfl
        · rfl
        have hcs := op_lim H0.out Hf.out Hlm.out
        have hne : opCode n sup ≠ 0 := by rw [hcs.1]; decide
        exact ⟨none, 0, 0, none, 0, 0, by rw [hcs.1, hcs.2] <;> rfl, by rw [opFl_no hne]; exact nilAt _, by rw [opLv_no _ hne]; exact nilAt _, hgx⟩
      · have tq : decide (p.lim < ab x) = false := by simp [hq]
        have Hq : Hid (ovAt n (solF n sup) k = false) := Lib.hid (Hov.out.trans tq)
        (try have hq := Int.not_lt.1 hq)
        go_wp2_with fail
        go_roundw
        case rel => exact ⟨k + 1, by omega, by go_num, fun j hj => (by by_cases e : j = k; (· subst e; exact Hq.out); exact Hno.out j (by omega)), hgz6⟩
        case measure => simp [intOf]; omega
    · obtain rfl : k = m := by omega
      have Hlm : Hid (limOk n (solF n sup) = true) := Lib.hid (lim_yes Hl2.out Hno.out)
      rename World => wr
      replace y0 := hgx2.has y0
      replace y1 := hgx2.has y1
      have hgw := hg1.trans hgr
      have HFr := Lib.hid (HF.out.gr hgx2)
      clear Hno
      go_wp2_with fail
      refine (l08Range_any n (solF n sup) _ (HA.out.gr hgw) HFr.out Hok.out Hc.out Hfl.out).mono ?_
      rintro e w8 ⟨rfl, h8⟩
      have hgr8 := hgr.trans h8
      have hgw8 := hgw.trans h8
      replace y0 := h8.has y0
      replace y1 := h8.has y1
      by_cases hng : opHi n (solF n sup) < opLo n (solF n sup)
      · have Hng := Lib.hid hng
        have hRw := (hgr8.below.block _ HRs).trans HR.out
        have r0 := rb_cell (j := 0) hRw rfl
        have r1 := rb_cell (j := 1) hRw rfl
        have f0 := rb_frozen hRw 0
        have f1 := rb_frozen hRw 1
        obtain ⟨W9, hW9⟩ : ∃ W, W = (w8.setCell ⟨R, 0, none⟩ (.slice none 0 0)).setCell ⟨R, 1, none⟩ (.slice none 0 0) := ⟨_, rfl⟩
        have hP : W9.heap[R]? = some (.cells #[.slice none 0 0, .slice none 0 0] 56 (0, 0)) := by rw [hW9]; exact put_two hRw
        have hcc : Chg (fun j => j = R) w8 W9 := by rw [hW9]; exact (chg_put _ _).trans (chg_put _ _)
        have hgx : Gr w W9 := by rw [hW9]; exact (hgw8.setCell (p := ⟨R, 0, none⟩) hRb _).setCell (p := ⟨R, 1, none⟩) hRb _
        have HP := Lib.hid hP
        have HW9 := Lib.hid hW9
        have HRw := Lib.hid hRw
        clear hW9 hP hRw
        go_wp2_with fail
        rw [← HW9.out]
        (try simp only [Exit.inBlock, Exit.then])
        refine bodyPost_ret (results_row_tmp2 Tryz.results74 _ _ R 56 #[.slice none 0 0, .slice none 0 0] (0, 0) _ ?_ HP.out Tryz.underlying56 rfl (by kernel_rfl)) ?_ ?_
        · rfl
        · rfl
        have hcs := op_rng H0.out Hf.out Hlm.out (by have := Hng.out; omega)
        have hne : opCode n sup ≠ 0 := by rw [hcs.1]; decide
        exact ⟨none, 0, 0, none, 0, 0, by rw [hcs.1, hcs.2] <;> rfl, by rw [opFl_no hne]; exact nilAt _, by rw [opLv_no _ hne]; exact nilAt _, hgx⟩
      · have Hng := Lib.hid hng
        have hng' : opLo n (solF n sup) ≤ opHi n (solF n sup) := by omega
        have hbd := op_bnd (sup := sup) Hok.out hng
        cases top with
        | true =>
          go_wp2_with fail
          refine (l07Levels_any n (solF n sup) (opHi n (solF n sup)) _ (HA.out.gr hgw8) (HFr.out.gr h8) Hok.out Hc.out Hfl.out (by omega)).mono ?_
          rintro e w9 ⟨G, rfl, hL, h9⟩
          have HL := Lib.hid hL
          have hgr9 := hgr8.trans h9
          have hgw9 := hgw8.trans h9
          have HFf := Lib.hid ((HFr.out.gr h8).gr h9)
          clear hL
          have hRw := (hgr9.below.block _ HRs).trans HR.out
          have r0 := rb_cell (j := 0) hRw rfl
          have r1 := rb_cell (j := 1) hRw rfl
          have f0 := rb_frozen hRw 0
          have f1 := rb_frozen hRw 1
          obtain ⟨W9, hW9⟩ : ∃ W, W = (w9.setCell ⟨R, 0, none⟩ (.slice A k c)).setCell ⟨R, 1, none⟩ (.slice (some ⟨G, 0, none⟩) n1 n1) := ⟨_, rfl⟩
          have hP : W9.heap[R]? = some (.cells #[.slice A k c, .slice (some ⟨G, 0, none⟩) n1 n1] 56 (0, 0)) := by rw [hW9]; exact put_two hRw
          have hcc : Chg (fun j => j = R) w9 W9 := by rw [hW9]; exact (chg_put _ _).trans (chg_put _ _)
          have hgx : Gr w W9 := by rw [hW9]; exact (hgw9.setCell (p := ⟨R, 0, none⟩) hRb _).setCell (p := ⟨R, 1, none⟩) hRb _
          have HP := Lib.hid hP
          have HW9 := Lib.hid hW9
          have HRw := Lib.hid hRw
          clear hW9 hP hRw
          go_wp2_with fail
          rw [← HW9.out]
          (try simp only [Exit.inBlock, Exit.then])
          refine bodyPost_ret (results_row_tmp2 Tryz.results74 _ _ R 56 #[.slice A k c, .slice (some ⟨G, 0, none⟩) n1 n1] (0, 0) _ ?_ HP.out Tryz.underlying56 rfl (by kernel_rfl)) ?_ ?_
          · rfl
          · rfl
          have hcs := op_yes H0.out Hf.out Hlm.out (by have := Hng.out; omega)
          have hL := own_chg HL.out hcc (fun j hj e => by have h1 := own_low HL.out hj; have h2 := hgw8.size; have h3 := hgr8.size; omega)
          exact ⟨A, k, c, some ⟨G, 0, none⟩, n1, n1, by rw [hcs.1, hcs.2] <;> rfl, by rw [opFl_yes hcs.1]; exact SlAt.keep HFf.out hcc HRw.out (slice_no _ _ _) (slice_no _ _ _), by rw [opLv_yes _ hcs.1]; exact SlAt.of_own hL hm1, hgx⟩
        | false =>
          go_wp2_with fail
          refine (l07Levels_any n (solF n sup) (opLo n (solF n sup)) _ (HA.out.gr hgw8) (HFr.out.gr h8) Hok.out Hc.out Hfl.out (by omega)).mono ?_
          rintro e w9 ⟨G, rfl, hL, h9⟩
          have HL := Lib.hid hL
          have hgr9 := hgr8.trans h9
          have hgw9 := hgw8.trans h9
          have HFf := Lib.hid ((HFr.out.gr h8).gr h9)
          clear hL
          have hRw := (hgr9.below.block _ HRs).trans HR.out
          have r0 := rb_cell (j := 0) hRw rfl
          have r1 := rb_cell (j := 1) hRw rfl
          have f0 := rb_frozen hRw 0
          have f1 := rb_frozen hRw 1
          obtain ⟨W9, hW9⟩ : ∃ W, W = (w9.setCell ⟨R, 0, none⟩ (.slice A k c)).setCell ⟨R, 1, none⟩ (.slice (some ⟨G, 0, none⟩) n1 n1) := ⟨_, rfl⟩
          have hP : W9.heap[R]? = some (.cells #[.slice A k c, .slice (some ⟨G, 0, none⟩) n1 n1] 56 (0, 0)) := by rw [hW9]; exact put_two hRw
          have hcc : Chg (fun j => j = R) w9 W9 := by rw [hW9]; exact (chg_put _ _).trans (chg_put _ _)
          have hgx : Gr w W9 := by rw [hW9]; exact (hgw9.setCell (p := ⟨R, 0, none⟩) hRb _).setCell (p := ⟨R, 1, none⟩) hRb _
          have HP := Lib.hid hP
          have HW9 := Lib.hid hW9
          have HRw := Lib.hid hRw
          clear hW9 hP hRw
          go_wp2_with fail
          rw [← HW9.out]
          (try simp only [Exit.inBlock, Exit.then])
          refine bodyPost_ret (results_row_tmp2 Tryz.results74 _ _ R 56 #[.slice A k c, .slice (some ⟨G, 0, none⟩) n1 n1] (0, 0) _ ?_ HP.out Tryz.underlying56 rfl (by kernel_rfl)) ?_ ?_
          · rfl
          · rfl
          have hcs := op_yes H0.out Hf.out Hlm.out (by have := Hng.out; omega)
          have hL := own_chg HL.out hcc (fun j hj e => by have h1 := own_low HL.out hj; have h2 := hgw8.size; have h3 := hgr8.size; omega)
          exact ⟨A, k, c, some ⟨G, 0, none⟩, n1, n1, by rw [hcs.1, hcs.2] <;> rfl, by rw [opFl_yes hcs.1]; exact SlAt.keep HFf.out hcc HRw.out (slice_no _ _ _) (slice_no _ _ _), by rw [opLv_yes _ hcs.1]; exact SlAt.of_own hL hm1, hgx⟩
end Go.Proofs.YthhmhigddmimjaaGreat
/-
  Operating points with their codes, whether levels are within bounds. Printed by gen_pt19.py.
-/
set_option linter.unusedSimpArgs false
set_option linter.unusedVariables false
namespace Go.Proofs.YthhmhigddmimjaaGreat
open Go.ChangeShapes Go.WideShapes Go.ChangeAt Go.RowKit

set_option maxHeartbeats 6400000 in
set_option maxRecDepth 100000 in
theorem OperatingPoint_any {A1 A2 A3 : Option Addr} {n1 c1 n2 c2 n3 c3 : Nat} (n : GNet) (sup : List Int) (w : World) (hA : NetAt w A1 n1 c1 A2 n2 c2 n) (hS : SlAt w 1 A3 n3 c3 (ints sup)) :
    Calls Tryz.prog 34 #[.agg #[.slice A1 n1 c1, .slice A2 n2 c2], .slice A3 n3 c3] w fun e w' => ∃ A m c B k d, e = .returned (.tuple #[.agg #[.slice A m c, .slice B k d], .int .i64 (opCode n sup)]) ∧ SlAt w' 1 A m c (ints (opFl n sup)) ∧ SlAt w' 1 B k d (ints (opLv n sup true)) ∧ Gr w w' := by
  have hl1 := hA.l1
  have HA := Lib.hid hA
  have HS := Lib.hid hS
  have Hl1 := Lib.hid hl1
  clear hA hS hl1
  go_enter Tryz.func34, Tryz.ntmps34
  go_upto_region 1 with fail
  obtain ⟨w1, hw1⟩ : ∃ W, W = (w.alloc (.cells #[.slice A1 n1 c1, .slice A2 n2 c2] 32)).alloc (.cells #[.slice none 0 0, .slice none 0 0] 56) := ⟨_, rfl⟩
  have hg1 : Gr w w1 := by rw [hw1]; exact ((Gr.refl _).alloc _).alloc _
  have y0 : w1.cell? ⟨w.heap.size, 0, none⟩ = some (.slice A1 n1 c1) := by rw [hw1]; simp [go_sem]
  have y1 : w1.cell? ⟨w.heap.size, 1, none⟩ = some (.slice A2 n2 c2) := by rw [hw1]; simp [go_sem]
  obtain ⟨R, hRe⟩ : ∃ R, R = w.heap.size + 1 := ⟨_, rfl⟩
  have hR : w1.heap[R]? = some (.cells #[.slice none 0 0, .slice none 0 0] 56 (0, 0)) := by
    have e : R = (w.alloc (.cells #[.slice A1 n1 c1, .slice A2 n2 c2] 32)).heap.size := by simp [hRe]
    rw [hw1, e]; exact heap_alloc_new _ _
  have hRb : w.heap.size ≤ R := by omega
  have HRs := rb_lt hR
  rw [← hw1, ← hRe]
  have HR := Lib.hid hR
  clear hw1 hR hRe
  go_wp2_with fail
  refine (operatingPoint_any n sup true _ (HA.out.gr hg1) (HS.out.gr hg1)).mono ?_
  rintro e w2 ⟨A, m, c, B, k, d, rfl, hF, hL, hgr2⟩
  have hgw2 := hg1.trans hgr2
  go_upto_region 2 with fail
  obtain ⟨w3, hw3⟩ : ∃ W, W = w2.alloc (.cells #[.slice A m c, .slice B k d] 56) := ⟨_, rfl⟩
  have h23 : Gr w2 w3 := by rw [hw3]; exact (Gr.refl _).alloc _
  have q0 : w3.cell? ⟨w2.heap.size, 0, none⟩ = some (.slice A m c) := by rw [hw3]; simp [go_sem]
  have q1 : w3.cell? ⟨w2.heap.size, 1, none⟩ = some (.slice B k d) := by rw [hw3]; simp [go_sem]
  have hRq : R < w2.heap.size := by have := hgr2.size; omega
  have HF := Lib.hid (hF.gr h23)
  have HL := Lib.hid (hL.gr h23)
  have hgr3 := hgr2.trans h23
  have hgw3 := hgw2.trans h23
  rw [← hw3]
  clear hw3 hF hL h23
  have hRw := (hgr3.below.block _ HRs).trans HR.out
  have r0 := rb_cell (j := 0) hRw rfl
  have r1 := rb_cell (j := 1) hRw rfl
  have f0 := rb_frozen hRw 0
  have f1 := rb_frozen hRw 1
  obtain ⟨W9, hW9⟩ : ∃ W, W = (w3.setCell ⟨R, 0, none⟩ (.slice A m c)).setCell ⟨R, 1, none⟩ (.slice B k d) := ⟨_, rfl⟩
  have hP : W9.heap[R]? = some (.cells #[.slice A m c, .slice B k d] 56 (0, 0)) := by rw [hW9]; exact put_two hRw
  have hcc : Chg (fun j => j = R) w3 W9 := by rw [hW9]; exact (chg_put _ _).trans (chg_put _ _)
  have hgx : Gr w W9 := by rw [hW9]; exact (hgw3.setCell (p := ⟨R, 0, none⟩) hRb _).setCell (p := ⟨R, 1, none⟩) hRb _
  have HP := Lib.hid hP
  have HW9 := Lib.hid hW9
  have HRw := Lib.hid hRw
  clear hW9 hP hRw
  go_wp2_with fail
  rw [← HW9.out]
  (try simp only [Exit.inBlock, Exit.then])
  refine bodyPost_ret (results_row_tmp Tryz.results34 _ _ R 56 #[.slice A m c, .slice B k d] (0, 0) _ ?_ HP.out Tryz.underlying56 rfl (by kernel_rfl)) ?_ ?_
  · rfl
  · rfl
  exact ⟨A, m, c, B, k, d, rfl, SlAt.keep HF.out hcc HRw.out (slice_no _ _ _) (slice_no _ _ _), SlAt.keep HL.out hcc HRw.out (slice_no _ _ _) (slice_no _ _ _), hgx⟩
set_option maxHeartbeats 6400000 in
set_option maxRecDepth 100000 in
theorem spOperatingPoint_any {A1 A2 A3 : Option Addr} {n1 c1 n2 c2 n3 c3 : Nat} (n : GNet) (sup : List Int) (w : World) (hA : NetAt w A1 n1 c1 A2 n2 c2 n) (hS : SlAt w 1 A3 n3 c3 (ints sup)) :
    Calls Tryz.prog 35 #[.agg #[.slice A1 n1 c1, .slice A2 n2 c2], .slice A3 n3 c3] w fun e w' => ∃ A m c B k d, e = .returned (.tuple #[.agg #[.slice A m c, .slice B k d], .int .i64 (opCode n sup)]) ∧ SlAt w' 1 A m c (ints (opFl n sup)) ∧ SlAt w' 1 B k d (ints (opLv n sup true)) ∧ Gr w w' := by
  have hl1 := hA.l1
  have HA := Lib.hid hA
  have HS := Lib.hid hS
  have Hl1 := Lib.hid hl1
  clear hA hS hl1
  go_enter Tryz.func35, Tryz.ntmps35
  go_upto_region 1 with fail
  obtain ⟨w1, hw1⟩ : ∃ W, W = (w.alloc (.cells #[.slice A1 n1 c1, .slice A2 n2 c2] 32)).alloc (.cells #[.slice none 0 0, .slice none 0 0] 56) := ⟨_, rfl⟩
  have hg1 : Gr w w1 := by rw [hw1]; exact ((Gr.refl _).alloc _).alloc _
  have y0 : w1.cell? ⟨w.heap.size, 0, none⟩ = some (.slice A1 n1 c1) := by rw [hw1]; simp [go_sem]
  have y1 : w1.cell? ⟨w.heap.size, 1, none⟩ = some (.slice A2 n2 c2) := by rw [hw1]; simp [go_sem]
  obtain ⟨R, hRe⟩ : ∃ R, R = w.heap.size + 1 := ⟨_, rfl⟩
  have hR : w1.heap[R]? = some (.cells #[.slice none 0 0, .slice none 0 0] 56 (0, 0)) := by
    have e : R = (w.alloc (.cells #[.slice A1 n1 c1, .slice A2 n2 c2] 32)).heap.size := by simp [hRe]
    rw [hw1, e]; exact heap_alloc_new _ _
  have hRb : w.heap.size ≤ R := by omega
  have HRs := rb_lt hR
  rw [← hw1, ← hRe]
  have HR := Lib.hid hR
  clear hw1 hR hRe
  go_wp2_with fail
  refine (l12Code_any n sup _ (HA.out.gr hg1) (HS.out.gr hg1)).mono ?_
  rintro e w2 ⟨rfl, hg2⟩
  have hgw2 := hg1.trans hg2
  by_cases h0 : ocCode n sup = 0
  rotate_left
  · have tb : (ocCode n sup != 0) = true := by simp [h0]
    have H0 := Lib.hid h0
    clear h0
    have hRw := (hg2.below.block _ HRs).trans HR.out
    have r0 := rb_cell (j := 0) hRw rfl
    have r1 := rb_cell (j := 1) hRw rfl
    have f0 := rb_frozen hRw 0
    have f1 := rb_frozen hRw 1
    obtain ⟨W9, hW9⟩ : ∃ W, W = (w2.setCell ⟨R, 0, none⟩ (.slice none 0 0)).setCell ⟨R, 1, none⟩ (.slice none 0 0) := ⟨_, rfl⟩
    have hP : W9.heap[R]? = some (.cells #[.slice none 0 0, .slice none 0 0] 56 (0, 0)) := by rw [hW9]; exact put_two hRw
    have hcc : Chg (fun j => j = R) w2 W9 := by rw [hW9]; exact (chg_put _ _).trans (chg_put _ _)
    have hgx : Gr w W9 := by rw [hW9]; exact (hgw2.setCell (p := ⟨R, 0, none⟩) hRb _).setCell (p := ⟨R, 1, none⟩) hRb _
    have HP := Lib.hid hP
    have HW9 := Lib.hid hW9
    have HRw := Lib.hid hRw
    clear hW9 hP hRw
    go_wp2_with fail
    rw [← HW9.out]
    (try simp only [Exit.inBlock, Exit.then])
    refine bodyPost_ret (results_row_tmp Tryz.results35 _ _ R 56 #[.slice none 0 0, .slice none 0 0] (0, 0) _ ?_ HP.out Tryz.underlying56 rfl (by kernel_rfl)) ?_ ?_
    · rfl
    · rfl
    have hcs := op_oc H0.out
    have hne : opCode n sup ≠ 0 := by rw [hcs.1]; exact H0.out
    exact ⟨none, 0, 0, none, 0, 0, by rw [hcs.1] <;> rfl, by rw [opFl_no hne]; exact nilAt _, by rw [opLv_no _ hne]; exact nilAt _, hgx⟩
  obtain ⟨hok, hso, hc⟩ := op_net h0
  rw [Hl1.out] at hso
  obtain rfl : n1 = n3 := by rw [← (supOk_all hso).1]; exact HS.out.sl.ilen
  have H0 := Lib.hid h0
  rw [h0]
  clear hok hso hc h0
  replace y0 := hg2.has y0
  replace y1 := hg2.has y1
  go_wp2_with fail
  refine (l13Point_any n sup true _ (HA.out.gr hgw2) (HS.out.gr hgw2) H0.out).mono ?_
  rintro e w5 ⟨A, m, c, B, k, d, rfl, hF, hL, hg5⟩
  have hgr2 := hg2.trans hg5
  have hgw5 := hgw2.trans hg5
  go_upto_region 5 with fail
  obtain ⟨w3, hw3⟩ : ∃ W, W = w5.alloc (.cells #[.slice A m c, .slice B k d] 56) := ⟨_, rfl⟩
  have h23 : Gr w5 w3 := by rw [hw3]; exact (Gr.refl _).alloc _
  have q0 : w3.cell? ⟨w5.heap.size, 0, none⟩ = some (.slice A m c) := by rw [hw3]; simp [go_sem]
  have q1 : w3.cell? ⟨w5.heap.size, 1, none⟩ = some (.slice B k d) := by rw [hw3]; simp [go_sem]
  have hRq : R < w5.heap.size := by have := hgr2.size; omega
  have HF := Lib.hid (hF.gr h23)
  have HL := Lib.hid (hL.gr h23)
  have hgr3 := hgr2.trans h23
  have hgw3 := hgw5.trans h23
  rw [← hw3]
  clear hw3 hF hL h23
  have hRw := (hgr3.below.block _ HRs).trans HR.out
  have r0 := rb_cell (j := 0) hRw rfl
  have r1 := rb_cell (j := 1) hRw rfl
  have f0 := rb_frozen hRw 0
  have f1 := rb_frozen hRw 1
  obtain ⟨W9, hW9⟩ : ∃ W, W = (w3.setCell ⟨R, 0, none⟩ (.slice A m c)).setCell ⟨R, 1, none⟩ (.slice B k d) := ⟨_, rfl⟩
  have hP : W9.heap[R]? = some (.cells #[.slice A m c, .slice B k d] 56 (0, 0)) := by rw [hW9]; exact put_two hRw
  have hcc : Chg (fun j => j = R) w3 W9 := by rw [hW9]; exact (chg_put _ _).trans (chg_put _ _)
  have hgx : Gr w W9 := by rw [hW9]; exact (hgw3.setCell (p := ⟨R, 0, none⟩) hRb _).setCell (p := ⟨R, 1, none⟩) hRb _
  have HP := Lib.hid hP
  have HW9 := Lib.hid hW9
  have HRw := Lib.hid hRw
  clear hW9 hP hRw
  go_wp2_with fail
  rw [← HW9.out]
  (try simp only [Exit.inBlock, Exit.then])
  refine bodyPost_ret (results_row_tmp Tryz.results35 _ _ R 56 #[.slice A m c, .slice B k d] (0, 0) _ ?_ HP.out Tryz.underlying56 rfl (by kernel_rfl)) ?_ ?_
  · rfl
  · rfl
  exact ⟨A, m, c, B, k, d, rfl, SlAt.keep HF.out hcc HRw.out (slice_no _ _ _) (slice_no _ _ _), SlAt.keep HL.out hcc HRw.out (slice_no _ _ _) (slice_no _ _ _), hgx⟩
set_option maxHeartbeats 6400000 in
set_option maxRecDepth 100000 in
theorem IsOperable_any {A1 A2 A3 : Option Addr} {n1 c1 n2 c2 n3 c3 : Nat} (n : GNet) (sup : List Int) (w : World) (hA : NetAt w A1 n1 c1 A2 n2 c2 n) (hS : SlAt w 1 A3 n3 c3 (ints sup)) :
    Calls Tryz.prog 36 #[.agg #[.slice A1 n1 c1, .slice A2 n2 c2], .slice A3 n3 c3] w fun e w' => e = .returned (.bool (opCode n sup == 0)) ∧ Gr w w' := by
  have hl1 := hA.l1
  have HA := Lib.hid hA
  have HS := Lib.hid hS
  have Hl1 := Lib.hid hl1
  clear hA hS hl1
  go_enter Tryz.func36, Tryz.ntmps36
  go_wp2_with fail
  obtain ⟨w1, hw1⟩ : ∃ W, W = w.alloc (.cells #[.slice A1 n1 c1, .slice A2 n2 c2] 32) := ⟨_, rfl⟩
  have hg1 : Gr w w1 := by rw [hw1]; exact (Gr.refl _).alloc _
  have y0 : w1.cell? ⟨w.heap.size, 0, none⟩ = some (.slice A1 n1 c1) := by rw [hw1]; simp [go_sem]
  have y1 : w1.cell? ⟨w.heap.size, 1, none⟩ = some (.slice A2 n2 c2) := by rw [hw1]; simp [go_sem]
  rw [← hw1]
  clear hw1
  refine (operatingPoint_any n sup true _ (HA.out.gr hg1) (HS.out.gr hg1)).mono ?_
  rintro e w2 ⟨A, m, c, B, k, d, rfl, hF, hL, hgr2⟩
  have hgw2 := hg1.trans hgr2
  go_upto_region 2 with fail
  generalize hw3 : w2.alloc _ = w3
  have h23 : Gr w2 w3 := by rw [← hw3]; exact (Gr.refl _).alloc _
  have hgw3 := hgw2.trans h23
  clear hw3 hF hL h23
  go_wp2_with fail
  go_ret
  exact ⟨rfl, hgw3⟩
set_option maxHeartbeats 6400000 in
set_option maxRecDepth 100000 in
theorem ReasonOf_any {A1 A2 A3 : Option Addr} {n1 c1 n2 c2 n3 c3 : Nat} (n : GNet) (sup : List Int) (w : World) (hA : NetAt w A1 n1 c1 A2 n2 c2 n) (hS : SlAt w 1 A3 n3 c3 (ints sup)) :
    Calls Tryz.prog 37 #[.agg #[.slice A1 n1 c1, .slice A2 n2 c2], .slice A3 n3 c3] w fun e w' => e = .returned (.tuple #[.int .i64 (opStep n sup), .int .i64 (ocCode n sup)]) ∧ Gr w w' := by
  have hl1 := hA.l1
  have HA := Lib.hid hA
  have HS := Lib.hid hS
  have Hl1 := Lib.hid hl1
  clear hA hS hl1
  go_enter Tryz.func37, Tryz.ntmps37
  go_wp2_with fail
  obtain ⟨w1, hw1⟩ : ∃ W, W = w.alloc (.cells #[.slice A1 n1 c1, .slice A2 n2 c2] 32) := ⟨_, rfl⟩
  have hg1 : Gr w w1 := by rw [hw1]; exact (Gr.refl _).alloc _
  have y0 : w1.cell? ⟨w.heap.size, 0, none⟩ = some (.slice A1 n1 c1) := by rw [hw1]; simp [go_sem]
  have y1 : w1.cell? ⟨w.heap.size, 1, none⟩ = some (.slice A2 n2 c2) := by rw [hw1]; simp [go_sem]
  rw [← hw1]
  clear hw1
  refine (checkConnected_any n sup _ (HA.out.gr hg1) (HS.out.gr hg1)).mono ?_
  rintro e w2 ⟨rfl, hg2⟩
  have hgw2 := hg1.trans hg2
  by_cases h0 : ocCode n sup = 0
  rotate_left
  · have tb : (ocCode n sup != 0) = true := by simp [h0]
    have H0 := Lib.hid h0
    clear h0
    go_wp2_with fail
    go_ret2
    exact ⟨by rw [(op_oc H0.out).2] <;> rfl, hgw2⟩
  obtain ⟨hok, hso, hc⟩ := op_net h0
  rw [Hl1.out] at hso
  obtain rfl : n1 = n3 := by rw [← (supOk_all hso).1]; exact HS.out.sl.ilen
  have H0 := Lib.hid h0
  rw [h0]
  clear hok hso hc h0
  replace y0 := hg2.has y0
  replace y1 := hg2.has y1
  go_wp2_with fail
  refine (operatingPoint_any n sup true _ (HA.out.gr hgw2) (HS.out.gr hgw2)).mono ?_
  rintro e w5 ⟨A, m, c, B, k, d, rfl, hF, hL, hg5⟩
  have hgw5 := hgw2.trans hg5
  go_upto_region 5 with fail
  generalize hw3 : w5.alloc _ = w3
  have h23 : Gr w5 w3 := by rw [← hw3]; exact (Gr.refl _).alloc _
  have hgw3 := hgw5.trans h23
  clear hw3 hF hL h23
  go_wp2_with fail
  go_ret2
  exact ⟨by rw [H0.out] <;> rfl, hgw3⟩
set_option maxHeartbeats 6400000 in
set_option maxRecDepth 100000 in
theorem spReasonOf_any {A1 A2 A3 : Option Addr} {n1 c1 n2 c2 n3 c3 : Nat} (n : GNet) (sup : List Int) (w : World) (hA : NetAt w A1 n1 c1 A2 n2 c2 n) (hS : SlAt w 1 A3 n3 c3 (ints sup)) :
    Calls Tryz.prog 38 #[.agg #[.slice A1 n1 c1, .slice A2 n2 c2], .slice A3 n3 c3] w fun e w' => e = .returned (.tuple #[.int .i64 (opStep n sup), .int .i64 (ocCode n sup)]) ∧ Gr w w' := by
  have hl1 := hA.l1
  have HA := Lib.hid hA
  have HS := Lib.hid hS
  have Hl1 := Lib.hid hl1
  clear hA hS hl1
  go_enter Tryz.func38, Tryz.ntmps38
  go_wp2_with fail
  obtain ⟨w1, hw1⟩ : ∃ W, W = w.alloc (.cells #[.slice A1 n1 c1, .slice A2 n2 c2] 32) := ⟨_, rfl⟩
  have hg1 : Gr w w1 := by rw [hw1]; exact (Gr.refl _).alloc _
  have y0 : w1.cell? ⟨w.heap.size, 0, none⟩ = some (.slice A1 n1 c1) := by rw [hw1]; simp [go_sem]
  have y1 : w1.cell? ⟨w.heap.size, 1, none⟩ = some (.slice A2 n2 c2) := by rw [hw1]; simp [go_sem]
  rw [← hw1]
  clear hw1
  refine (l12Code_any n sup _ (HA.out.gr hg1) (HS.out.gr hg1)).mono ?_
  rintro e w2 ⟨rfl, hg2⟩
  have hgw2 := hg1.trans hg2
  by_cases h0 : ocCode n sup = 0
  rotate_left
  · have tb : (ocCode n sup != 0) = true := by simp [h0]
    have H0 := Lib.hid h0
    clear h0
    go_wp2_with fail
    go_ret2
    exact ⟨by rw [(op_oc H0.out).2] <;> rfl, hgw2⟩
  obtain ⟨hok, hso, hc⟩ := op_net h0
  rw [Hl1.out] at hso
  obtain rfl : n1 = n3 := by rw [← (supOk_all hso).1]; exact HS.out.sl.ilen
  have H0 := Lib.hid h0
  rw [h0]
  clear hok hso hc h0
  replace y0 := hg2.has y0
  replace y1 := hg2.has y1
  go_wp2_with fail
  refine (l13Point_any n sup true _ (HA.out.gr hgw2) (HS.out.gr hgw2) H0.out).mono ?_
  rintro e w5 ⟨A, m, c, B, k, d, rfl, hF, hL, hg5⟩
  have hgw5 := hgw2.trans hg5
  go_upto_region 5 with fail
  generalize hw3 : w5.alloc _ = w3
  have h23 : Gr w5 w3 := by rw [← hw3]; exact (Gr.refl _).alloc _
  have hgw3 := hgw5.trans h23
  clear hw3 hF hL h23
  go_wp2_with fail
  go_ret2
  exact ⟨by rw [H0.out] <;> rfl, hgw3⟩
set_option maxHeartbeats 6400000 in
set_option maxRecDepth 100000 in
theorem LowestPoint_any {A1 A2 A3 : Option Addr} {n1 c1 n2 c2 n3 c3 : Nat} (n : GNet) (sup : List Int) (w : World) (hA : NetAt w A1 n1 c1 A2 n2 c2 n) (hS : SlAt w 1 A3 n3 c3 (ints sup)) :
    Calls Tryz.prog 39 #[.agg #[.slice A1 n1 c1, .slice A2 n2 c2], .slice A3 n3 c3] w fun e w' => ∃ A m c B k d, e = .returned (.tuple #[.agg #[.slice A m c, .slice B k d], .int .i64 (opCode n sup)]) ∧ SlAt w' 1 A m c (ints (opFl n sup)) ∧ SlAt w' 1 B k d (ints (opLv n sup false)) ∧ Gr w w' := by
  have hl1 := hA.l1
  have HA := Lib.hid hA
  have HS := Lib.hid hS
  have Hl1 := Lib.hid hl1
  clear hA hS hl1
  go_enter Tryz.func39, Tryz.ntmps39
  go_upto_region 1 with fail
  obtain ⟨w1, hw1⟩ : ∃ W, W = (w.alloc (.cells #[.slice A1 n1 c1, .slice A2 n2 c2] 32)).alloc (.cells #[.slice none 0 0, .slice none 0 0] 56) := ⟨_, rfl⟩
  have hg1 : Gr w w1 := by rw [hw1]; exact ((Gr.refl _).alloc _).alloc _
  have y0 : w1.cell? ⟨w.heap.size, 0, none⟩ = some (.slice A1 n1 c1) := by rw [hw1]; simp [go_sem]
  have y1 : w1.cell? ⟨w.heap.size, 1, none⟩ = some (.slice A2 n2 c2) := by rw [hw1]; simp [go_sem]
  obtain ⟨R, hRe⟩ : ∃ R, R = w.heap.size + 1 := ⟨_, rfl⟩
  have hR : w1.heap[R]? = some (.cells #[.slice none 0 0, .slice none 0 0] 56 (0, 0)) := by
    have e : R = (w.alloc (.cells #[.slice A1 n1 c1, .slice A2 n2 c2] 32)).heap.size := by simp [hRe]
    rw [hw1, e]; exact heap_alloc_new _ _
  have hRb : w.heap.size ≤ R := by omega
  have HRs := rb_lt hR
  rw [← hw1, ← hRe]
  have HR := Lib.hid hR
  clear hw1 hR hRe
  go_wp2_with fail
  refine (operatingPoint_any n sup false _ (HA.out.gr hg1) (HS.out.gr hg1)).mono ?_
  rintro e w2 ⟨A, m, c, B, k, d, rfl, hF, hL, hgr2⟩
  have hgw2 := hg1.trans hgr2
  go_upto_region 2 with fail
  obtain ⟨w3, hw3⟩ : ∃ W, W = w2.alloc (.cells #[.slice A m c, .slice B k d] 56) := ⟨_, rfl⟩
  have h23 : Gr w2 w3 := by rw [hw3]; exact (Gr.refl _).alloc _
  have q0 : w3.cell? ⟨w2.heap.size, 0, none⟩ = some (.slice A m c) := by rw [hw3]; simp [go_sem]
  have q1 : w3.cell? ⟨w2.heap.size, 1, none⟩ = some (.slice B k d) := by rw [hw3]; simp [go_sem]
  have hRq : R < w2.heap.size := by have := hgr2.size; omega
  have HF := Lib.hid (hF.gr h23)
  have HL := Lib.hid (hL.gr h23)
  have hgr3 := hgr2.trans h23
  have hgw3 := hgw2.trans h23
  rw [← hw3]
  clear hw3 hF hL h23
  have hRw := (hgr3.below.block _ HRs).trans HR.out
  have r0 := rb_cell (j := 0) hRw rfl
  have r1 := rb_cell (j := 1) hRw rfl
  have f0 := rb_frozen hRw 0
  have f1 := rb_frozen hRw 1
  obtain ⟨W9, hW9⟩ : ∃ W, W = (w3.setCell ⟨R, 0, none⟩ (.slice A m c)).setCell ⟨R, 1, none⟩ (.slice B k d) := ⟨_, rfl⟩
  have hP : W9.heap[R]? = some (.cells #[.slice A m c, .slice B k d] 56 (0, 0)) := by rw [hW9]; exact put_two hRw
  have hcc : Chg (fun j => j = R) w3 W9 := by rw [hW9]; exact (chg_put _ _).trans (chg_put _ _)
  have hgx : Gr w W9 := by rw [hW9]; exact (hgw3.setCell (p := ⟨R, 0, none⟩) hRb _).setCell (p := ⟨R, 1, none⟩) hRb _
  have HP := Lib.hid hP
  have HW9 := Lib.hid hW9
  have HRw := Lib.hid hRw
  clear hW9 hP hRw
  go_wp2_with fail
  rw [← HW9.out]
  (try simp only [Exit.inBlock, Exit.then])
  refine bodyPost_ret (results_row_tmp Tryz.results39 _ _ R 56 #[.slice A m c, .slice B k d] (0, 0) _ ?_ HP.out Tryz.underlying56 rfl (by kernel_rfl)) ?_ ?_
  · rfl
  · rfl
  exact ⟨A, m, c, B, k, d, rfl, SlAt.keep HF.out hcc HRw.out (slice_no _ _ _) (slice_no _ _ _), SlAt.keep HL.out hcc HRw.out (slice_no _ _ _) (slice_no _ _ _), hgx⟩
set_option maxHeartbeats 6400000 in
set_option maxRecDepth 100000 in
theorem spLowestPoint_any {A1 A2 A3 : Option Addr} {n1 c1 n2 c2 n3 c3 : Nat} (n : GNet) (sup : List Int) (w : World) (hA : NetAt w A1 n1 c1 A2 n2 c2 n) (hS : SlAt w 1 A3 n3 c3 (ints sup)) :
    Calls Tryz.prog 40 #[.agg #[.slice A1 n1 c1, .slice A2 n2 c2], .slice A3 n3 c3] w fun e w' => ∃ A m c B k d, e = .returned (.tuple #[.agg #[.slice A m c, .slice B k d], .int .i64 (opCode n sup)]) ∧ SlAt w' 1 A m c (ints (opFl n sup)) ∧ SlAt w' 1 B k d (ints (opLv n sup false)) ∧ Gr w w' := by
  have hl1 := hA.l1
  have HA := Lib.hid hA
  have HS := Lib.hid hS
  have Hl1 := Lib.hid hl1
  clear hA hS hl1
  go_enter Tryz.func40, Tryz.ntmps40
  go_upto_region 1 with fail
  obtain ⟨w1, hw1⟩ : ∃ W, W = (w.alloc (.cells #[.slice A1 n1 c1, .slice A2 n2 c2] 32)).alloc (.cells #[.slice none 0 0, .slice none 0 0] 56) := ⟨_, rfl⟩
  have hg1 : Gr w w1 := by rw [hw1]; exact ((Gr.refl _).alloc _).alloc _
  have y0 : w1.cell? ⟨w.heap.size, 0, none⟩ = some (.slice A1 n1 c1) := by rw [hw1]; simp [go_sem]
  have y1 : w1.cell? ⟨w.heap.size, 1, none⟩ = some (.slice A2 n2 c2) := by rw [hw1]; simp [go_sem]
  obtain ⟨R, hRe⟩ : ∃ R, R = w.heap.size + 1 := ⟨_, rfl⟩
  have hR : w1.heap[R]? = some (.cells #[.slice none 0 0, .slice none 0 0] 56 (0, 0)) := by
    have e : R = (w.alloc (.cells #[.slice A1 n1 c1, .slice A2 n2 c2] 32)).heap.size := by simp [hRe]
    rw [hw1, e]; exact heap_alloc_new _ _
  have hRb : w.heap.size ≤ R := by omega
  have HRs := rb_lt hR
  rw [← hw1, ← hRe]
  have HR := Lib.hid hR
  clear hw1 hR hRe
  go_wp2_with fail
  refine (l12Code_any n sup _ (HA.out.gr hg1) (HS.out.gr hg1)).mono ?_
  rintro e w2 ⟨rfl, hg2⟩
  have hgw2 := hg1.trans hg2
  by_cases h0 : ocCode n sup = 0
  rotate_left
  · have tb : (ocCode n sup != 0) = true := by simp [h0]
    have H0 := Lib.hid h0
    clear h0
    have hRw := (hg2.below.block _ HRs).trans HR.out
    have r0 := rb_cell (j := 0) hRw rfl
    have r1 := rb_cell (j := 1) hRw rfl
    have f0 := rb_frozen hRw 0
    have f1 := rb_frozen hRw 1
    obtain ⟨W9, hW9⟩ : ∃ W, W = (w2.setCell ⟨R, 0, none⟩ (.slice none 0 0)).setCell ⟨R, 1, none⟩ (.slice none 0 0) := ⟨_, rfl⟩
    have hP : W9.heap[R]? = some (.cells #[.slice none 0 0, .slice none 0 0] 56 (0, 0)) := by rw [hW9]; exact put_two hRw
    have hcc : Chg (fun j => j = R) w2 W9 := by rw [hW9]; exact (chg_put _ _).trans (chg_put _ _)
    have hgx : Gr w W9 := by rw [hW9]; exact (hgw2.setCell (p := ⟨R, 0, none⟩) hRb _).setCell (p := ⟨R, 1, none⟩) hRb _
    have HP := Lib.hid hP
    have HW9 := Lib.hid hW9
    have HRw := Lib.hid hRw
    clear hW9 hP hRw
    go_wp2_with fail
    rw [← HW9.out]
    (try simp only [Exit.inBlock, Exit.then])
    refine bodyPost_ret (results_row_tmp Tryz.results40 _ _ R 56 #[.slice none 0 0, .slice none 0 0] (0, 0) _ ?_ HP.out Tryz.underlying56 rfl (by kernel_rfl)) ?_ ?_
    · rfl
    · rfl
    have hcs := op_oc H0.out
    have hne : opCode n sup ≠ 0 := by rw [hcs.1]; exact H0.out
    exact ⟨none, 0, 0, none, 0, 0, by rw [hcs.1] <;> rfl, by rw [opFl_no hne]; exact nilAt _, by rw [opLv_no _ hne]; exact nilAt _, hgx⟩
  obtain ⟨hok, hso, hc⟩ := op_net h0
  rw [Hl1.out] at hso
  obtain rfl : n1 = n3 := by rw [← (supOk_all hso).1]; exact HS.out.sl.ilen
  have H0 := Lib.hid h0
  rw [h0]
  clear hok hso hc h0
  replace y0 := hg2.has y0
  replace y1 := hg2.has y1
  go_wp2_with fail
  refine (l13Point_any n sup false _ (HA.out.gr hgw2) (HS.out.gr hgw2) H0.out).mono ?_
  rintro e w5 ⟨A, m, c, B, k, d, rfl, hF, hL, hg5⟩
  have hgr2 := hg2.trans hg5
  have hgw5 := hgw2.trans hg5
  go_upto_region 5 with fail
  obtain ⟨w3, hw3⟩ : ∃ W, W = w5.alloc (.cells #[.slice A m c, .slice B k d] 56) := ⟨_, rfl⟩
  have h23 : Gr w5 w3 := by rw [hw3]; exact (Gr.refl _).alloc _
  have q0 : w3.cell? ⟨w5.heap.size, 0, none⟩ = some (.slice A m c) := by rw [hw3]; simp [go_sem]
  have q1 : w3.cell? ⟨w5.heap.size, 1, none⟩ = some (.slice B k d) := by rw [hw3]; simp [go_sem]
  have hRq : R < w5.heap.size := by have := hgr2.size; omega
  have HF := Lib.hid (hF.gr h23)
  have HL := Lib.hid (hL.gr h23)
  have hgr3 := hgr2.trans h23
  have hgw3 := hgw5.trans h23
  rw [← hw3]
  clear hw3 hF hL h23
  have hRw := (hgr3.below.block _ HRs).trans HR.out
  have r0 := rb_cell (j := 0) hRw rfl
  have r1 := rb_cell (j := 1) hRw rfl
  have f0 := rb_frozen hRw 0
  have f1 := rb_frozen hRw 1
  obtain ⟨W9, hW9⟩ : ∃ W, W = (w3.setCell ⟨R, 0, none⟩ (.slice A m c)).setCell ⟨R, 1, none⟩ (.slice B k d) := ⟨_, rfl⟩
  have hP : W9.heap[R]? = some (.cells #[.slice A m c, .slice B k d] 56 (0, 0)) := by rw [hW9]; exact put_two hRw
  have hcc : Chg (fun j => j = R) w3 W9 := by rw [hW9]; exact (chg_put _ _).trans (chg_put _ _)
  have hgx : Gr w W9 := by rw [hW9]; exact (hgw3.setCell (p := ⟨R, 0, none⟩) hRb _).setCell (p := ⟨R, 1, none⟩) hRb _
  have HP := Lib.hid hP
  have HW9 := Lib.hid hW9
  have HRw := Lib.hid hRw
  clear hW9 hP hRw
  go_wp2_with fail
  rw [← HW9.out]
  (try simp only [Exit.inBlock, Exit.then])
  refine bodyPost_ret (results_row_tmp Tryz.results40 _ _ R 56 #[.slice A m c, .slice B k d] (0, 0) _ ?_ HP.out Tryz.underlying56 rfl (by kernel_rfl)) ?_ ?_
  · rfl
  · rfl
  exact ⟨A, m, c, B, k, d, rfl, SlAt.keep HF.out hcc HRw.out (slice_no _ _ _) (slice_no _ _ _), SlAt.keep HL.out hcc HRw.out (slice_no _ _ _) (slice_no _ _ _), hgx⟩
set_option maxHeartbeats 6400000 in
set_option maxRecDepth 100000 in
theorem wi_no {n : GNet} {lv : List Int} {k N : Nat} (hN : n.nodes.length = N) (hk : k < N) (h : inB (nodeD n k).low (lv.getD k 0) (nodeD n k).high = false) : wiB n lv = false := by
  subst hN
  rw [wiB, all_range_not hk h, Bool.and_false, Bool.and_false]
theorem wi_yes {n : GNet} {lv : List Int} {N : Nat} (hN : n.nodes.length = N) (hn : netOk n = true) (hl : lv.length = N) (h : ∀ j, j < N → inB (nodeD n j).low (lv.getD j 0) (nodeD n j).high = true) : wiB n lv = true := by
  subst hN
  rw [wiB, hn, decide_eq_true hl, all_range.2 h]; rfl
set_option maxHeartbeats 6400000 in
set_option maxRecDepth 100000 in
theorem IsWithin_any {A1 A2 A3 : Option Addr} {n1 c1 n2 c2 n3 c3 : Nat} (n : GNet) (sup : List Int) (w : World) (hA : NetAt w A1 n1 c1 A2 n2 c2 n) (hS : SlAt w 1 A3 n3 c3 (ints sup)) :
    Calls Tryz.prog 41 #[.agg #[.slice A1 n1 c1, .slice A2 n2 c2], .slice A3 n3 c3] w fun e w' => e = .returned (.bool (wiB n sup)) ∧ Gr w w' := by
  have hm1 := hA.m1
  have hlen := hS.sl.ilen
  have hl1 := hA.l1
  have HA := Lib.hid hA
  have HS := Lib.hid hS
  have Hl1 := Lib.hid hl1
  clear hA hS hl1
  go_enter Tryz.func41, Tryz.ntmps41
  go_wp2_with fail
  obtain ⟨w1, hw1⟩ : ∃ W, W = w.alloc (.cells #[.slice A1 n1 c1, .slice A2 n2 c2] 32) := ⟨_, rfl⟩
  have hg1 : Gr w w1 := by rw [hw1]; exact (Gr.refl _).alloc _
  have y0 : w1.cell? ⟨w.heap.size, 0, none⟩ = some (.slice A1 n1 c1) := by rw [hw1]; simp [go_sem]
  have y1 : w1.cell? ⟨w.heap.size, 1, none⟩ = some (.slice A2 n2 c2) := by rw [hw1]; simp [go_sem]
  rw [← hw1]
  clear hw1
  refine (IsNetwork_any _ _ _ _ _ _ n _ (HA.out.gr hg1)).mono ?_
  rintro e w2 ⟨rfl, hg2⟩
  have hgw2 := hg1.trans hg2
  replace y0 := hg2.has y0
  replace y1 := hg2.has y1
  cases hn : netOk n with
  | false =>
    have Hn := Lib.hid hn
    go_wp2_with fail
    go_ret
    exact ⟨ret_bool (by rw [wiB, Hn.out]; rfl), hgw2⟩
  | true =>
    have Hn := Lib.hid hn
    clear hn
    by_cases hq : n3 = n1
    rotate_left
    · have tq : ((n3 : Int) != (n1 : Int)) = true := by simp; omega
      have Hq : Hid (¬ sup.length = n.nodes.length) := Lib.hid (by rw [Hl1.out, hlen]; exact hq)
      go_wp2_with fail
      go_ret
      exact ⟨ret_bool (by rw [wiB, decide_eq_false Hq.out, Bool.false_and, Bool.and_false]), hgw2⟩
    subst hq
    have Hlen := Lib.hid hlen
    clear hlen
    go_wp2_with fail
    go_loopw [21] (fun i wr => ∃ k : Nat, k ≤ n3 ∧ i = .int .i64 k ∧ (∀ j, j < k → inB (nodeD n j).low (sup.getD j 0) (nodeD n j).high = true) ∧ Gr w wr) (fun i _ => n3 - (intOf i).toNat)
    case atStart => exact ⟨0, Nat.zero_le _, rfl, fun j h => absurd h (by omega), hgw2⟩
    case round =>
      obtain ⟨k, hk, rfl, hno, hgr⟩ := hrel
      have Hno := Lib.hid hno
      clear hno
      by_cases hlt : k < n3
      · obtain ⟨x, hx⟩ : ∃ x, n.nodes[k]? = some x := ⟨_, List.getElem?_eq_getElem (by have := Hl1.out; omega)⟩
        have hnd : nodeD n k = x := by rw [nodeD, List.getD_eq_getElem?_getD, hx]; rfl
        obtain ⟨bn, on, hAA, hbn, d0, d1, d2⟩ := (HA.out.gr hgr).nodes.nd hx
        subst hAA
        obtain ⟨z, hz⟩ : ∃ z, sup[k]? = some z := ⟨_, List.getElem?_eq_getElem (by have := Hlen.out; omega)⟩
        have hze : sup.getD k 0 = z := by rw [List.getD_eq_getElem?_getD, hz]; rfl
        obtain ⟨bz, oz, hAZ, hbz, l0⟩ := (HS.out.gr hgr).sl.int hz
        subst hAZ
        have t1 : (k : Int) < (n3 : Int) := by omega
        have t0 : (0 : Int) ≤ (k : Int) := by omega
        rename World => wr
        have Hin : Hid (inB (nodeD n k).low (sup.getD k 0) (nodeD n k).high = inB x.low z x.high) := Lib.hid (by rw [hnd, hze])
        clear hx hnd hz hze
        go_upto_region 6 with fail
        generalize hw4 : World.alloc wr _ = w4
        have hg4 : Gr wr w4 := by rw [← hw4]; exact (Gr.refl _).alloc _
        have z1 : w4.cell? ⟨wr.heap.size, 1, none⟩ = some (.int .i64 x.low) := by rw [← hw4]; simp [go_sem]
        have z2 : w4.cell? ⟨wr.heap.size, 2, none⟩ = some (.int .i64 x.high) := by rw [← hw4]; simp [go_sem]
        replace l0 := hg4.has l0
        have hgr4 := hgr.trans hg4
        clear hw4 d0 d1 d2
        refine wp_region_text (fun w' => Gr w4 w') (by kernel_rfl) (by kernel_rfl) (by decide) (Gr.refl _).drew ?_
        repeat (first
          | ((with_reducible refine wpText_skip ?_ ?_)
             · rfl
             simp only [Act.put, List.setIfInBounds_toArray, List.set_cons_zero, List.set_cons_succ])
          | ((with_reducible refine wpText_yield (v := ?_) ?_ ?_ ?_)
             rotate_left
             · rfl
             · (intro W hW; have kz1 := hW.has z1; have kz2 := hW.has z2; have kl0 := hW.has l0; first | (go_simp; done) | (go_simp; with_reducible rfl))
             simp only [Act.put, List.setIfInBounds_toArray, List.set_cons_zero, List.set_cons_succ])
          | ((with_reducible refine wpText_yield1 (v := ?_) ?_ ?_ ?_)
             rotate_left
             · rfl
             · (intro W hW; have kz1 := hW.has z1; have kz2 := hW.has z2; have kl0 := hW.has l0; first | (go_simp; done) | (go_simp; with_reducible rfl))
             simp only [Act.put, List.setIfInBounds_toArray, List.set_cons_zero, List.set_cons_succ]))
        refine wpText_do (.bool (inB x.low z x.high)) (by rfl) (fun W hW K hK => ?_) ?_
        ·
          have kz1 := hW.has z1
          have kz2 := hW.has z2
          have kl0 := hW.has l0
          go_simp
          refine (within_any z x.low x.high _).mono ?_
          rintro e w' ⟨rfl, rfl⟩
          exact hK _ hW
        simp only [Act.put, List.setIfInBounds_toArray, List.set_cons_zero, List.set_cons_succ]
        repeat (first
          | ((with_reducible refine wpText_skip ?_ ?_)
             · rfl
             simp only [Act.put, List.setIfInBounds_toArray, List.set_cons_zero, List.set_cons_succ])
          | ((with_reducible refine wpText_yield (v := ?_) ?_ ?_ ?_)
             rotate_left
             · rfl
             · (intro W hW; have kz1 := hW.has z1; have kz2 := hW.has z2; have kl0 := hW.has l0; first | (go_simp; done) | (go_simp; with_reducible rfl))
             simp only [Act.put, List.setIfInBounds_toArray, List.set_cons_zero, List.set_cons_succ])
          | ((with_reducible refine wpText_yield1 (v := ?_) ?_ ?_ ?_)
             rotate_left
             · rfl
             · (intro W hW; have kz1 := hW.has z1; have kz2 := hW.has z2; have kl0 := hW.has l0; first | (go_simp; done) | (go_simp; with_reducible rfl))
             simp only [Act.put, List.setIfInBounds_toArray, List.set_cons_zero, List.set_cons_succ]))
        rintro w5 hS5
        have hgr5 := hgr4.trans hS5
        clear z1 z2 l0 hS5 hg4
        cases hi : inB x.low z x.high with
        | false =>
          have Hi := Lib.hid (Hin.out.trans hi)
          clear hi
          go_wp2_with fail
          go_ret
          exact ⟨ret_bool (wi_no Hl1.out hlt Hi.out).symm, hgr5⟩
        | true =>
          have Hi := Lib.hid (Hin.out.trans hi)
          clear hi
          go_wp2_with fail
          go_roundw
          case rel => exact ⟨k + 1, by omega, by go_num, fun j hj => (by by_cases e : j = k; (· subst e; exact Hi.out); exact Hno.out j (by omega)), hgr5⟩
          case measure => simp [intOf]; omega
      · obtain rfl : k = n3 := by omega
        go_wp2_with fail
        go_ret
        exact ⟨ret_bool (wi_yes Hl1.out Hn.out Hlen.out Hno.out).symm, hgr⟩
end Go.Proofs.YthhmhigddmimjaaGreat
