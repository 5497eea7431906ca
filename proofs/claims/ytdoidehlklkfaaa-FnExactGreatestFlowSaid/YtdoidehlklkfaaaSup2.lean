/-
  TransportSupplies: the program and the reference. Printed by gen_sup2.py.
-/
import Derived.Test.YtdoidehlklkfaaaSup
namespace Go.Proofs.Ytdoidehlklkfaaa
open Go.ChangeShapes Go.WideShapes Go.ChangeAt Go.RowKit

def supCode (n : GNet) (l : List GTr) : Int := if trCode n l = 0 then (if supOk n.nodes.length (supplies n.nodes.length l) then 0 else 7) else trCode n l
def supRes (n : GNet) (l : List GTr) : List Int := if supCode n l = 0 then supplies n.nodes.length l else []
theorem TransportSupplies_any {A1 A2 A3 : Option Addr} {n1 c1 n2 c2 n3 c3 : Nat} (n : GNet) (l : List GTr) (w : World) (hA : NetAt w A1 n1 c1 A2 n2 c2 n) (hL : SlAt w 4 A3 n3 c3 (l.flatMap GTr.cells)) :
    Calls Try.prog 46 #[.agg #[.slice A1 n1 c1, .slice A2 n2 c2], .slice A3 n3 c3] w fun e w' => ∃ A m c, e = .returned (.tuple #[.slice A m c, .int .i64 (supCode n l)]) ∧ m ≤ 1048576 ∧ w'.ownsRow w.heap.size 2 1 (.slice A m c) m (ints (supRes n l)) ∧ Gr w w' := by
  have hm1 := hA.m1
  have HA := Lib.hid hA
  have HL := Lib.hid hL
  clear hA hL
  go_enter Try.func46, Try.ntmps46
  go_wp2_with fail
  refine (checkTransports_any _ _ _ _ _ _ _ _ _ n l _ (HA.out.gr ((Gr.refl _).alloc _)) (HL.out.sl.gr ((Gr.refl _).alloc _)) HL.out.small).mono ?_
  rintro e w1 ⟨rfl, hg1⟩
  have hg0 : Gr w w1 := ((Gr.refl _).alloc _).trans hg1
  have b0 : w1.cell? ⟨w.heap.size, 0, none⟩ = some (.slice A1 n1 c1) := hg1.has (by simp [go_sem])
  have b1 : w1.cell? ⟨w.heap.size, 1, none⟩ = some (.slice A2 n2 c2) := hg1.has (by simp [go_sem])
  by_cases hc : trCode n l = 0
  · have Hc := Lib.hid hc
    have tb : (trCode n l != 0) = false := by simp [hc]
    clear hc
    go_wp2_with fail
    refine (transportSupplies_any n l _ (HA.out.gr hg0) (HL.out.gr hg0) (by rw [← HA.out.l1]; exact (trCode_zero Hc.out).2)).mono ?_
    rintro e w2 ⟨A, c, rfl, ho, hg2⟩
    have Ho := Lib.hid ho
    clear ho
    have b0 := hg2.has b0
    have b1 := hg2.has b1
    go_wp2_with fail
    refine (areSupplies_any (supplies n1 l) _ (SlAt.of_own Ho.out hm1) hm1).mono ?_
    rintro e w3 ⟨rfl, hg3⟩
    have hgw : Gr w w3 := (hg0.trans hg2).trans hg3
    cases hs : supOk n1 (supplies n1 l) with
    | true =>
      have Hs := Lib.hid hs
      go_wp2_with fail
      go_ret2
      have e : supCode n l = 0 := by rw [supCode, if_pos Hc.out, HA.out.l1, if_pos Hs.out]
      refine ⟨A, n1, c, by rw [e]; rfl, hm1, ?_, hgw⟩
      rw [supRes, if_pos e, HA.out.l1]
      exact own_gr (own_base Ho.out hg0.size) hg3
    | false =>
      have Hs := Lib.hid hs
      go_wp2_with fail
      go_ret2
      have e : supCode n l = 7 := by rw [supCode, if_pos Hc.out, HA.out.l1, if_neg (by simp [Hs.out])]
      refine ⟨none, 0, 0, by rw [e]; rfl, by omega, ?_, hgw⟩
      rw [supRes, if_neg (by rw [e]; decide)]
      exact World.ownsRow_nil _ _ _ _
  · have Hc := Lib.hid hc
    have tb : (trCode n l != 0) = true := by simp [hc]
    clear hc
    go_wp2_with fail
    go_ret2
    have e : supCode n l = trCode n l := by rw [supCode, if_neg Hc.out]
    refine ⟨none, 0, 0, by rw [e]; rfl, by omega, ?_, hg0⟩
    rw [supRes, if_neg (by rw [e]; exact Hc.out)]
    exact World.ownsRow_nil _ _ _ _

theorem spTransportSupplies_any {A1 A2 A3 : Option Addr} {n1 c1 n2 c2 n3 c3 : Nat} (n : GNet) (l : List GTr) (w : World) (hA : NetAt w A1 n1 c1 A2 n2 c2 n) (hL : SlAt w 4 A3 n3 c3 (l.flatMap GTr.cells)) :
    Calls Try.prog 45 #[.agg #[.slice A1 n1 c1, .slice A2 n2 c2], .slice A3 n3 c3] w fun e w' => ∃ A m c, e = .returned (.tuple #[.slice A m c, .int .i64 (supCode n l)]) ∧ m ≤ 1048576 ∧ w'.ownsRow w.heap.size 2 1 (.slice A m c) m (ints (supRes n l)) ∧ Gr w w' := by
  have hm1 := hA.m1
  have HA := Lib.hid hA
  have HL := Lib.hid hL
  clear hA hL
  go_enter Try.func45, Try.ntmps45
  go_wp2_with fail
  refine (l24Code_any n l _ (HA.out.gr ((Gr.refl _).alloc _)) (HL.out.gr ((Gr.refl _).alloc _))).mono ?_
  rintro e w1 ⟨rfl, hg1⟩
  have hg0 : Gr w w1 := ((Gr.refl _).alloc _).trans hg1
  have b0 : w1.cell? ⟨w.heap.size, 0, none⟩ = some (.slice A1 n1 c1) := hg1.has (by simp [go_sem])
  have b1 : w1.cell? ⟨w.heap.size, 1, none⟩ = some (.slice A2 n2 c2) := hg1.has (by simp [go_sem])
  by_cases hc : trCode n l = 0
  · have Hc := Lib.hid hc
    have tb : (trCode n l != 0) = false := by simp [hc]
    clear hc
    go_wp2_with fail
    refine (l24Supplies_any n l _ (HA.out.gr hg0) (HL.out.gr hg0) (by rw [← HA.out.l1]; exact (trCode_zero Hc.out).2)).mono ?_
    rintro e w2 ⟨A, c, rfl, ho, hg2⟩
    have Ho := Lib.hid ho
    clear ho
    have b0 := hg2.has b0
    have b1 := hg2.has b1
    go_wp2_with fail
    refine (l06List_any (supplies n1 l) _ (SlAt.of_own Ho.out hm1) hm1).mono ?_
    rintro e w3 ⟨rfl, hg3⟩
    have hgw : Gr w w3 := (hg0.trans hg2).trans hg3
    cases hs : supOk n1 (supplies n1 l) with
    | true =>
      have Hs := Lib.hid hs
      go_wp2_with fail
      go_ret2
      have e : supCode n l = 0 := by rw [supCode, if_pos Hc.out, HA.out.l1, if_pos Hs.out]
      refine ⟨A, n1, c, by rw [e]; rfl, hm1, ?_, hgw⟩
      rw [supRes, if_pos e, HA.out.l1]
      exact own_gr (own_base Ho.out hg0.size) hg3
    | false =>
      have Hs := Lib.hid hs
      go_wp2_with fail
      go_ret2
      have e : supCode n l = 7 := by rw [supCode, if_pos Hc.out, HA.out.l1, if_neg (by simp [Hs.out])]
      refine ⟨none, 0, 0, by rw [e]; rfl, by omega, ?_, hgw⟩
      rw [supRes, if_neg (by rw [e]; decide)]
      exact World.ownsRow_nil _ _ _ _
  · have Hc := Lib.hid hc
    have tb : (trCode n l != 0) = true := by simp [hc]
    clear hc
    go_wp2_with fail
    go_ret2
    have e : supCode n l = trCode n l := by rw [supCode, if_neg Hc.out]
    refine ⟨none, 0, 0, by rw [e]; rfl, by omega, ?_, hg0⟩
    rw [supRes, if_neg (by rw [e]; exact Hc.out)]
    exact World.ownsRow_nil _ _ _ _

end Go.Proofs.Ytdoidehlklkfaaa
