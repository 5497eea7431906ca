/-
  Transports that fit: the program and the reference.
-/
import Derived.Test.YtejfpajbkgfiaaaRoute1
import Derived.Test.YtejfpajbkgfiaaaCurtMs
import Derived.Test.YtejfpajbkgfiaaaRoute2
namespace Go.Proofs.Ytejfpajbkgfiaaa
open Go.ChangeShapes Go.WideShapes Go.ChangeAt Go.RowKit


theorem doFit_any {A1 A2 A3 : Option Addr} {n1 c1 n2 c2 n3 c3 : Nat} (n : GNet) (l : List GTr) (w : World) (hA : NetAt w A1 n1 c1 A2 n2 c2 n) (hL : SlAt w 4 A3 n3 c3 (l.flatMap GTr.cells)) (hok : trsOk n1 l = true) :
    Calls Try.prog 104 #[.agg #[.slice A1 n1 c1, .slice A2 n2 c2], .slice A3 n3 c3] w fun e w' => e = .returned (.bool (fitB n l)) ∧ Gr w w' := by
  have hm1 := hA.m1
  have HA := Lib.hid hA
  have HL := Lib.hid hL
  have Hok := Lib.hid hok
  clear hA hL hok
  go_enter Try.func104, Try.ntmps104
  go_wp2_with fail
  obtain ⟨w0, hw0⟩ : ∃ w0, w0 = w.alloc (.cells #[.slice A1 n1 c1, .slice A2 n2 c2] 27) := ⟨_, rfl⟩
  have hg0 : Gr w w0 := by rw [hw0]; exact (Gr.refl _).alloc _
  have b0 : w0.cell? ⟨w.heap.size, 0, none⟩ = some (.slice A1 n1 c1) := by rw [hw0]; simp [go_sem]
  have b1 : w0.cell? ⟨w.heap.size, 1, none⟩ = some (.slice A2 n2 c2) := by rw [hw0]; simp [go_sem]
  rw [← hw0]
  clear hw0
  go_region_held3 (fun w' => Gr w0 w' ∧ w'.cell? ⟨w.heap.size, 0, none⟩ = some (.slice A1 n1 c1) ∧ w'.cell? ⟨w.heap.size, 1, none⟩ = some (.slice A2 n2 c2))
    (first | exact ⟨(Gr.refl _).drew, b0, b1⟩ | exact ⟨by assumption, (by assumption : Gr w0 _).has b0, (by assumption : Gr w0 _).has b1⟩)
    (first
      | (go_at_call 98; refine (transportSupplies_any n l _ (HA.out.gr hg0.drew) (HL.out.gr hg0.drew) Hok.out).mono ?_; rintro e w2 ⟨A, c, rfl, ho, hg2⟩; have Ho := Lib.hid ho; clear ho; have hx : Gr w0 w2 := (Gr.refl _).drew.trans hg2)
      | (go_at_call 34; refine (IsRoutable_any n (supplies n1 l) _ (HA.out.gr (hg0.trans hx)) (SlAt.of_own Ho.out hm1)).mono ?_; rintro e w3 ⟨rfl, hg3⟩; have hy : Gr w0 w3 := hx.trans hg3))
  go_wp2_with fail
  go_ret
  exact ⟨ret_bool (by rw [fitB, HA.out.l1]), hg0.trans hy⟩
theorem l24Fit_any {A1 A2 A3 : Option Addr} {n1 c1 n2 c2 n3 c3 : Nat} (n : GNet) (l : List GTr) (w : World) (hA : NetAt w A1 n1 c1 A2 n2 c2 n) (hL : SlAt w 4 A3 n3 c3 (l.flatMap GTr.cells)) (hok : trsOk n1 l = true) :
    Calls Try.prog 105 #[.agg #[.slice A1 n1 c1, .slice A2 n2 c2], .slice A3 n3 c3] w fun e w' => e = .returned (.bool (fitB n l)) ∧ Gr w w' := by
  have hm1 := hA.m1
  have HA := Lib.hid hA
  have HL := Lib.hid hL
  have Hok := Lib.hid hok
  clear hA hL hok
  go_enter Try.func105, Try.ntmps105
  go_wp2_with fail
  obtain ⟨w0, hw0⟩ : ∃ w0, w0 = w.alloc (.cells #[.slice A1 n1 c1, .slice A2 n2 c2] 27) := ⟨_, rfl⟩
  have hg0 : Gr w w0 := by rw [hw0]; exact (Gr.refl _).alloc _
  have b0 : w0.cell? ⟨w.heap.size, 0, none⟩ = some (.slice A1 n1 c1) := by rw [hw0]; simp [go_sem]
  have b1 : w0.cell? ⟨w.heap.size, 1, none⟩ = some (.slice A2 n2 c2) := by rw [hw0]; simp [go_sem]
  rw [← hw0]
  clear hw0
  go_region_held3 (fun w' => Gr w0 w' ∧ w'.cell? ⟨w.heap.size, 0, none⟩ = some (.slice A1 n1 c1) ∧ w'.cell? ⟨w.heap.size, 1, none⟩ = some (.slice A2 n2 c2))
    (first | exact ⟨(Gr.refl _).drew, b0, b1⟩ | exact ⟨by assumption, (by assumption : Gr w0 _).has b0, (by assumption : Gr w0 _).has b1⟩)
    (first
      | (go_at_call 100; refine (l24Supplies_any n l _ (HA.out.gr hg0.drew) (HL.out.gr hg0.drew) Hok.out).mono ?_; rintro e w2 ⟨A, c, rfl, ho, hg2⟩; have Ho := Lib.hid ho; clear ho; have hx : Gr w0 w2 := (Gr.refl _).drew.trans hg2)
      | (go_at_call 148; refine (spIsRoutable_any n (supplies n1 l) _ (HA.out.gr (hg0.trans hx)) (SlAt.of_own Ho.out hm1)).mono ?_; rintro e w3 ⟨rfl, hg3⟩; have hy : Gr w0 w3 := hx.trans hg3))
  go_wp2_with fail
  go_ret
  exact ⟨ret_bool (by rw [fitB, HA.out.l1]), hg0.trans hy⟩
noncomputable def doFitB (n : GNet) (l : List GTr) : Bool := (trCode n l == 0) && fitB n l
theorem DoFit_any {A1 A2 A3 : Option Addr} {n1 c1 n2 c2 n3 c3 : Nat} (n : GNet) (l : List GTr) (w : World) (hA : NetAt w A1 n1 c1 A2 n2 c2 n) (hL : SlAt w 4 A3 n3 c3 (l.flatMap GTr.cells)) :
    Calls Try.prog 32 #[.agg #[.slice A1 n1 c1, .slice A2 n2 c2], .slice A3 n3 c3] w fun e w' => e = .returned (.bool (doFitB n l)) ∧ Gr w w' := by
  have HA := Lib.hid hA
  have HL := Lib.hid hL
  clear hA hL
  go_enter Try.func32, Try.ntmps32
  go_wp2_with fail
  refine (checkTransports_any _ _ _ _ _ _ _ _ _ n l _ (HA.out.gr ((Gr.refl _).alloc _)) (HL.out.sl.gr ((Gr.refl _).alloc _)) HL.out.small).mono ?_
  rintro e w1 ⟨rfl, hg1⟩
  have hg0 : Gr w w1 := ((Gr.refl _).alloc _).trans hg1
  have b0 : w1.cell? ⟨w.heap.size, 0, none⟩ = some (.slice A1 n1 c1) := hg1.has (by simp [go_sem])
  have b1 : w1.cell? ⟨w.heap.size, 1, none⟩ = some (.slice A2 n2 c2) := hg1.has (by simp [go_sem])
  by_cases hc : trCode n l = 0
  · have Hc := Lib.hid hc
    have tb : (trCode n l == 0) = true := by simp [hc]
    have Htb := Lib.hid tb
    clear hc
    go_wp2_with fail
    refine (doFit_any n l _ (HA.out.gr hg0) (HL.out.gr hg0) (by rw [← HA.out.l1]; exact (trCode_zero Hc.out).2)).mono ?_
    rintro e w2 ⟨rfl, hg2⟩
    go_wp2_with fail
    go_ret
    exact ⟨ret_bool (by rw [doFitB, Htb.out]; rfl), hg0.trans hg2⟩
  · have tb : (trCode n l == 0) = false := by simp [hc]
    have Htb := Lib.hid tb
    clear hc
    go_wp2_with fail
    go_ret
    exact ⟨ret_bool (by rw [doFitB, Htb.out]; rfl), hg0⟩
theorem spDoFit_any {A1 A2 A3 : Option Addr} {n1 c1 n2 c2 n3 c3 : Nat} (n : GNet) (l : List GTr) (w : World) (hA : NetAt w A1 n1 c1 A2 n2 c2 n) (hL : SlAt w 4 A3 n3 c3 (l.flatMap GTr.cells)) :
    Calls Try.prog 33 #[.agg #[.slice A1 n1 c1, .slice A2 n2 c2], .slice A3 n3 c3] w fun e w' => e = .returned (.bool (doFitB n l)) ∧ Gr w w' := by
  have HA := Lib.hid hA
  have HL := Lib.hid hL
  clear hA hL
  go_enter Try.func33, Try.ntmps33
  go_wp2_with fail
  refine (spAreTransports_any _ _ _ _ _ _ _ _ _ n l _ (HA.out.gr ((Gr.refl _).alloc _)) (HL.out.sl.gr ((Gr.refl _).alloc _)) HL.out.small).mono ?_
  rintro e w1 ⟨rfl, hg1⟩
  have hg0 : Gr w w1 := ((Gr.refl _).alloc _).trans hg1
  have b0 : w1.cell? ⟨w.heap.size, 0, none⟩ = some (.slice A1 n1 c1) := hg1.has (by simp [go_sem])
  have b1 : w1.cell? ⟨w.heap.size, 1, none⟩ = some (.slice A2 n2 c2) := hg1.has (by simp [go_sem])
  by_cases hc : trCode n l = 0
  · have Hc := Lib.hid hc
    have tb : decide (trCode n l = 0) = true := decide_eq_true hc
    have Htb : Hid ((trCode n l == 0) = true) := Lib.hid (by simp [hc])
    clear hc
    go_wp2_with fail
    refine (l24Fit_any n l _ (HA.out.gr hg0) (HL.out.gr hg0) (by rw [← HA.out.l1]; exact (trCode_zero Hc.out).2)).mono ?_
    rintro e w2 ⟨rfl, hg2⟩
    go_wp2_with fail
    go_ret
    exact ⟨ret_bool (by rw [doFitB, Htb.out]; rfl), hg0.trans hg2⟩
  · have tb : decide (trCode n l = 0) = false := decide_eq_false hc
    have Htb : Hid ((trCode n l == 0) = false) := Lib.hid (by simp [hc])
    clear hc
    go_wp2_with fail
    go_ret
    exact ⟨ret_bool (by rw [doFitB, Htb.out]; rfl), hg0⟩
end Go.Proofs.Ytejfpajbkgfiaaa
