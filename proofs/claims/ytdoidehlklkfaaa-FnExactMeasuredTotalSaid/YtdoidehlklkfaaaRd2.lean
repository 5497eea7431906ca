/-
  Readings: AreReadings and MeasuredTotal: the contracts.
-/
import Derived.Test.YtdoidehlklkfaaaRd
namespace Go.Proofs.Ytdoidehlklkfaaa
open Go.ChangeShapes Go.WideShapes Go.ChangeAt Go.RowKit

theorem SlAt.nil (w : World) (size : Nat) : SlAt w size none 0 0 [] := ⟨⟨by simp, fun h => absurd h (by omega)⟩, Nat.le_refl _, by omega⟩
theorem l28Code_any {A1 A2 A4 A3 : Option Addr} {n1 c1 n2 c2 n4 c4 n3 c3 : Nat} (n : GNet) (os : List GOrd) (l : List GRd) (w : World) (hA : NetAt w A1 n1 c1 A2 n2 c2 n) (hO : SlAt w 4 A4 n4 c4 (os.flatMap GOrd.cells)) (hL : SlAt w 2 A3 n3 c3 (l.flatMap GRd.cells)) :
    Calls Try.prog 76 #[.agg #[.slice A1 n1 c1, .slice A2 n2 c2], .slice A4 n4 c4, .slice A3 n3 c3] w fun e w' => e = .returned (.int .i64 (rdCode n os l)) ∧ Gr w w' := by
  have HA := Lib.hid hA
  have HO := Lib.hid hO
  have HL := Lib.hid hL
  clear hA hL hO
  go_enter Try.func76, Try.ntmps76
  go_wp2_with fail
  refine (l22Code_any n os _ (HA.out.gr ((Gr.refl _).alloc _)) (HO.out.gr ((Gr.refl _).alloc _))).mono ?_
  rintro e w0 ⟨rfl, hg1⟩
  have hg0 : Gr w w0 := ((Gr.refl _).alloc _).trans hg1
  have b0 : w0.cell? ⟨w.heap.size, 0, none⟩ = some (.slice A1 n1 c1) := hg1.has (by simp [go_sem])
  have b1 : w0.cell? ⟨w.heap.size, 1, none⟩ = some (.slice A2 n2 c2) := hg1.has (by simp [go_sem])
  clear hg1
  by_cases hc : ordCode n os = 0
  · have Hc := Lib.hid hc
    have tb : (ordCode n os == 0) = true := by simp [hc]
    clear hc
    go_wp2_with fail
    refine (l28List_any n l _ (HA.out.gr hg0) (HL.out.gr hg0)).mono ?_
    rintro e w2 ⟨rfl, hg2⟩
    cases hs : rdsOk n1 l with
    | true =>
      have Hs := Lib.hid hs
      clear hs
      go_wp2_with fail
      go_ret
      exact ⟨ret_int (by rw [rdCode_ok Hc.out (by rw [HA.out.l1]; exact Hs.out), Hc.out]), hg0.trans hg2⟩
    | false =>
      have Hs := Lib.hid hs
      clear hs
      go_wp2_with fail
      go_ret
      exact ⟨ret_int (rdCode_lim Hc.out (by rw [HA.out.l1]; exact Hs.out)).symm, hg0.trans hg2⟩
  · have Hc := Lib.hid hc
    have tb : (ordCode n os == 0) = false := by simp [hc]
    clear hc
    go_wp2_with fail
    go_ret
    exact ⟨ret_int (rdCode_ord Hc.out).symm, hg0⟩
theorem AreReadings_any {A1 A2 A3 : Option Addr} {n1 c1 n2 c2 n3 c3 : Nat} (n : GNet) (l : List GRd) (w : World) (hA : NetAt w A1 n1 c1 A2 n2 c2 n) (hL : SlAt w 2 A3 n3 c3 (l.flatMap GRd.cells)) :
    Calls Try.prog 26 #[.agg #[.slice A1 n1 c1, .slice A2 n2 c2], .slice A3 n3 c3] w fun e w' => e = .returned (.bool (decide (rdCode n [] l = 0))) ∧ Gr w w' := by
  have HA := Lib.hid hA
  have HL := Lib.hid hL
  clear hA hL
  go_enter Try.func26, Try.ntmps26
  go_wp2_with fail
  refine (checkReadings_any n [] l _ (HA.out.gr ((Gr.refl _).alloc _)) (SlAt.nil _ _) (HL.out.gr ((Gr.refl _).alloc _))).mono ?_
  rintro e w2 ⟨rfl, hg2⟩
  go_wp2_with fail
  go_ret
  exact ⟨ret_bool rfl, ((Gr.refl _).alloc _).trans hg2⟩
theorem spAreReadings_any {A1 A2 A3 : Option Addr} {n1 c1 n2 c2 n3 c3 : Nat} (n : GNet) (l : List GRd) (w : World) (hA : NetAt w A1 n1 c1 A2 n2 c2 n) (hL : SlAt w 2 A3 n3 c3 (l.flatMap GRd.cells)) :
    Calls Try.prog 24 #[.agg #[.slice A1 n1 c1, .slice A2 n2 c2], .slice A3 n3 c3] w fun e w' => e = .returned (.bool (decide (rdCode n [] l = 0))) ∧ Gr w w' := by
  have HA := Lib.hid hA
  have HL := Lib.hid hL
  clear hA hL
  go_enter Try.func24, Try.ntmps24
  go_wp2_with fail
  refine (spIsNetwork_any _ _ _ _ _ _ n _ (HA.out.gr ((Gr.refl _).alloc _))).mono ?_
  rintro e w1 ⟨rfl, hg1⟩
  have b0 : w1.cell? ⟨w.heap.size, 0, none⟩ = some (.slice A1 n1 c1) := hg1.has (by simp [go_sem])
  have b1 : w1.cell? ⟨w.heap.size, 1, none⟩ = some (.slice A2 n2 c2) := hg1.has (by simp [go_sem])
  have hg0 : Gr w w1 := ((Gr.refl _).alloc _).trans hg1
  clear hg1
  cases hnet : netOk n with
  | false =>
    have Hnet := Lib.hid hnet
    go_wp2_with fail
    go_ret
    exact ⟨ret_bool (by simp [rdCode, ordCode_nil, Hnet.out]), hg0⟩
  | true =>
    have Hnet := Lib.hid hnet
    go_wp2_with fail
    refine (l28List_any n l _ (HA.out.gr hg0) (HL.out.gr hg0)).mono ?_
    rintro e w2 ⟨rfl, hg2⟩
    go_wp2_with fail
    go_ret
    refine ⟨ret_bool ?_, hg0.trans hg2⟩
    rw [rdCode, ordCode_nil, Hnet.out, HA.out.l1]
    cases rdsOk n1 l <;> simp
def rdSum (l : List GRd) : Int := (l.map GRd.amount).sum
theorem rdSum_step {l : List GRd} {k : Nat} {x : GRd} (hx : l[k]? = some x) : rdSum (l.take (k + 1)) = rdSum (l.take k) + x.amount := by
  rw [rdSum, List.take_add_one, hx]; simp [rdSum]
theorem rdSum_bnd {nn : Int} {l : List GRd} (h : ∀ (m : Nat) (y : GRd), l[m]? = some y → rdOk nn y = true) (k : Nat) : -30000 * (k : Int) ≤ rdSum (l.take k) ∧ rdSum (l.take k) ≤ 30000 * (k : Int) := by
  induction k with
  | zero => simp [rdSum]
  | succ k ih =>
    cases hx : l[k]? with
    | none =>
      have hl : l.length ≤ k := List.getElem?_eq_none_iff.1 hx
      rw [List.take_of_length_le (by omega)]
      rw [List.take_of_length_le hl] at ih
      omega
    | some x =>
      rw [rdSum_step hx]
      have := (rdOk_all (h k x hx)).2.1
      omega
def mtVal (n : GNet) (l : List GRd) : Int := if rdCode n [] l = 0 then rdSum l else 0
set_option maxRecDepth 100000 in
theorem MeasuredTotal_any {A1 A2 A3 : Option Addr} {n1 c1 n2 c2 n3 c3 : Nat} (n : GNet) (l : List GRd) (w : World) (hA : NetAt w A1 n1 c1 A2 n2 c2 n) (hL : SlAt w 2 A3 n3 c3 (l.flatMap GRd.cells)) :
    Calls Try.prog 29 #[.agg #[.slice A1 n1 c1, .slice A2 n2 c2], .slice A3 n3 c3] w fun e w' => e = .returned (.tuple #[.int .i64 (mtVal n l), .int .i64 (rdCode n [] l)]) ∧ Gr w w' := by
  have hm3 := hL.small
  have hl3 := hL.sl.len GRd.cells_len (by omega)
  have Hl3 := Lib.hid hl3
  have HA := Lib.hid hA
  have HL := Lib.hid hL
  clear hA hL hl3
  go_enter Try.func29, Try.ntmps29
  go_wp2_with fail
  refine (checkReadings_any n [] l _ (HA.out.gr ((Gr.refl _).alloc _)) (SlAt.nil _ _) (HL.out.gr ((Gr.refl _).alloc _))).mono ?_
  rintro e w0 ⟨rfl, hg1⟩
  have hg0 : Gr w w0 := ((Gr.refl _).alloc _).trans hg1
  clear hg1
  by_cases hc : rdCode n [] l = 0
  · have Hc := Lib.hid hc
    have tb : (rdCode n [] l != 0) = false := by simp [hc]
    have hall := (rdsOk_all (rdCode_zero hc).2)
    have h48 : n3 ≤ 48 := by have := hall.1; have := Hl3.out; omega
    have Hall := Lib.hid hall.2
    clear hc hall
    go_wp2_with fail
    go_loopw [7, 18] (fun s i wr => ∃ k : Nat, k ≤ n3 ∧ i = .int .i64 k ∧ s = .int .i64 (rdSum (l.take k)) ∧ Gr w wr) (fun _ i _ => n3 - (intOf i).toNat)
    case atStart => exact ⟨0, Nat.zero_le _, rfl, rfl, hg0⟩
    case round =>
      obtain ⟨k, hk, rfl, rfl, hgr⟩ := hrel
      by_cases hlt : k < n3
      · obtain ⟨x, hx⟩ : ∃ x, l[k]? = some x := ⟨_, List.getElem?_eq_getElem (by have := Hl3.out; omega)⟩
        obtain ⟨b, o, rfl, hb, r0, r1⟩ := (HL.out.sl.gr hgr).rd hx
        have hst := rdSum_step hx
        have hbd := rdSum_bnd Hall.out k
        have hxb := (rdOk_all (Hall.out k x hx)).2.1
        obtain ⟨S, hS⟩ : ∃ S, S = rdSum (l.take k) := ⟨_, rfl⟩
        rw [← hS] at hst hbd ⊢
        have Hst := Lib.hid hst
        clear hx hS hst
        go_wp2_with fail
        go_roundw
        case rel => exact ⟨k + 1, by omega, by go_num, by rw [Hst.out], hgr.alloc _⟩
        case measure => simp [intOf]; omega
      · obtain rfl : k = n3 := by omega
        go_wp2_with fail
        go_ret2
        refine ⟨?_, hgr⟩
        rw [mtVal, if_pos Hc.out, Hc.out, List.take_of_length_le (by rw [Hl3.out]; exact Nat.le_refl _)]
        rfl
  · have Hc := Lib.hid hc
    have tb : (rdCode n [] l != 0) = true := by simp [hc]
    clear hc
    go_wp2_with fail
    go_ret2
    exact ⟨by rw [mtVal, if_neg Hc.out]; rfl, hg0⟩
set_option maxRecDepth 100000 in
theorem spMeasuredTotal_any {A1 A2 A3 : Option Addr} {n1 c1 n2 c2 n3 c3 : Nat} (n : GNet) (l : List GRd) (w : World) (hA : NetAt w A1 n1 c1 A2 n2 c2 n) (hL : SlAt w 2 A3 n3 c3 (l.flatMap GRd.cells)) :
    Calls Try.prog 28 #[.agg #[.slice A1 n1 c1, .slice A2 n2 c2], .slice A3 n3 c3] w fun e w' => e = .returned (.tuple #[.int .i64 (mtVal n l), .int .i64 (rdCode n [] l)]) ∧ Gr w w' := by
  have hm3 := hL.small
  have hl3 := hL.sl.len GRd.cells_len (by omega)
  have Hl3 := Lib.hid hl3
  have HA := Lib.hid hA
  have HL := Lib.hid hL
  clear hA hL hl3
  go_enter Try.func28, Try.ntmps28
  go_wp2_with fail
  refine (l28Code_any n [] l _ (HA.out.gr ((Gr.refl _).alloc _)) (SlAt.nil _ _) (HL.out.gr ((Gr.refl _).alloc _))).mono ?_
  rintro e w0 ⟨rfl, hg1⟩
  have hg0 : Gr w w0 := ((Gr.refl _).alloc _).trans hg1
  clear hg1
  by_cases hc : rdCode n [] l = 0
  · have Hc := Lib.hid hc
    have tb : (rdCode n [] l != 0) = false := by simp [hc]
    have hall := (rdsOk_all (rdCode_zero hc).2)
    have h48 : n3 ≤ 48 := by have := hall.1; have := Hl3.out; omega
    have Hall := Lib.hid hall.2
    clear hc hall
    go_wp2_with fail
    go_loopw [7, 8] (fun s i wr => ∃ k : Nat, k ≤ n3 ∧ i = .int .i64 k ∧ s = .int .i64 (rdSum (l.take k)) ∧ Gr w wr) (fun _ i _ => n3 - (intOf i).toNat)
    case atStart => exact ⟨0, Nat.zero_le _, rfl, rfl, hg0⟩
    case round =>
      obtain ⟨k, hk, rfl, rfl, hgr⟩ := hrel
      by_cases hlt : k < n3
      · obtain ⟨x, hx⟩ : ∃ x, l[k]? = some x := ⟨_, List.getElem?_eq_getElem (by have := Hl3.out; omega)⟩
        obtain ⟨b, o, rfl, hb, r0, r1⟩ := (HL.out.sl.gr hgr).rd hx
        have hst := rdSum_step hx
        have hbd := rdSum_bnd Hall.out k
        have hxb := (rdOk_all (Hall.out k x hx)).2.1
        obtain ⟨S, hS⟩ : ∃ S, S = rdSum (l.take k) := ⟨_, rfl⟩
        rw [← hS] at hst hbd ⊢
        have Hst := Lib.hid hst
        have t1 : (k : Int) < (n3 : Int) := by omega
        have t0 : (0 : Int) ≤ (k : Int) := by omega
        clear hx hS hst
        go_wp2_with fail
        go_roundw
        case rel => exact ⟨k + 1, by omega, by go_num, by rw [Hst.out], hgr⟩
        case measure => simp [intOf]; omega
      · obtain rfl : k = n3 := by omega
        go_wp2_with fail
        go_ret2
        refine ⟨?_, hgr⟩
        rw [mtVal, if_pos Hc.out, Hc.out, List.take_of_length_le (by rw [Hl3.out]; exact Nat.le_refl _)]
        rfl
  · have Hc := Lib.hid hc
    have tb : (rdCode n [] l != 0) = true := by simp [hc]
    clear hc
    go_wp2_with fail
    go_ret2
    exact ⟨by rw [mtVal, if_neg Hc.out]; rfl, hg0⟩
end Go.Proofs.Ytdoidehlklkfaaa
