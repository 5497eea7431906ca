/-
  Functions on curtailing that return numbers: the program and the reference.
-/
import Derived.Test.YtejfpajbkgfiaaaCurt
import Derived.Test.YtejfpajbkgfiaaaCurt2M
import Derived.Test.YtejfpajbkgfiaaaSums
namespace Go.Proofs.Ytejfpajbkgfiaaa
open Go.ChangeShapes Go.WideShapes Go.ChangeAt Go.RowKit

theorem l25Sum_any {A : Option Addr} {m c : Nat} (nn : Int) (l : List GTr) (w : World) (hL : SlAt w 4 A m c (l.flatMap GTr.cells)) (hok : trsOk nn l = true) :
    Calls Try.prog 112 #[.slice A m c] w fun e w' => e = .returned (.int .i64 (amtSum l)) ∧ w = w' := by
  have hlen := hL.sl.len GTr.cells_len (by omega)
  have Hlen := Lib.hid hlen
  have hm := hL.small
  have HL := Lib.hid hL
  have Hok := Lib.hid hok
  clear hL hlen hok
  go_enter Try.func112, Try.ntmps112
  go_wp2_with fail
  go_loop [3, 4] (fun s i => ∃ k : Nat, k ≤ m ∧ i = .int .i64 k ∧ s = .int .i64 (amtSum (l.take k))) (fun _ i => m - (intOf i).toNat)
  case atStart => exact ⟨0, Nat.zero_le _, rfl, rfl⟩
  case round =>
    obtain ⟨k, hk, rfl, rfl⟩ := hrel
    by_cases hlt : k < m
    · obtain ⟨x, hx⟩ : ∃ x, l[k]? = some x := ⟨_, List.getElem?_eq_getElem (by have := Hlen.out; omega)⟩
      obtain ⟨b, o, rfl, hb, e0, e1, e2, e3⟩ := HL.out.sl.tr hx
      have hst := amtSum_take hx
      have hbd := amtSum_take_bnd Hok.out k
      obtain ⟨_, _, _, p4, _⟩ := trOk_all ((trsOk_all Hok.out).2 k x hx)
      obtain ⟨S, hS⟩ : ∃ S, S = amtSum (l.take k) := ⟨_, rfl⟩
      rw [← hS] at hst hbd ⊢
      have Hst := Lib.hid hst
      clear hx hS hst e0 e1 e3
      go_wp2_with fail
      go_round
      case rel => exact ⟨k + 1, by omega, by go_num, by rw [Hst.out]⟩
      case measure => simp [intOf]; omega
    · obtain rfl : k = m := by omega
      go_wp2_with fail
      go_ret
      exact ⟨ret_int (by rw [List.take_of_length_le (by rw [Hlen.out]; exact Nat.le_refl _)]), rfl⟩
theorem fc_hit {n : GNet} {l : List GTr} {k : Nat} (hc : trCode n l = 0) (hk : k < 4) (h : fcAt n l k = true) (hno : ∀ j, j < k → fcAt n l j = false) : fcVal n l = k ∧ fcCode n l = 0 := by
  rw [fcVal, fcCode, if_pos hc, if_pos hc, leastB_hit hk h hno]; exact ⟨rfl, rfl⟩
theorem fc_none {n : GNet} {l : List GTr} (hc : trCode n l = 0) (hno : ∀ j, j < 4 → fcAt n l j = false) : fcVal n l = 0 ∧ fcCode n l = 4 := by
  rw [fcVal, fcCode, if_pos hc, if_pos hc, leastB_none hno]; exact ⟨rfl, rfl⟩
theorem fc_bad {n : GNet} {l : List GTr} (hc : ¬ trCode n l = 0) : fcVal n l = 0 ∧ fcCode n l = trCode n l := by
  rw [fcVal, fcCode, if_neg hc, if_neg hc]; exact ⟨rfl, rfl⟩
set_option maxHeartbeats 1000000 in
set_option maxRecDepth 100000 in
theorem FirstCurtailed_any {A1 A2 A3 : Option Addr} {n1 c1 n2 c2 n3 c3 : Nat} (n : GNet) (l : List GTr) (w : World) (hA : NetAt w A1 n1 c1 A2 n2 c2 n) (hL : SlAt w 4 A3 n3 c3 (l.flatMap GTr.cells)) :
    Calls Try.prog 48 #[.agg #[.slice A1 n1 c1, .slice A2 n2 c2], .slice A3 n3 c3] w fun e w' => e = .returned (.tuple #[.int .i64 (fcVal n l), .int .i64 (fcCode n l)]) ∧ Gr w w' := by
  have HA := Lib.hid hA
  have HL := Lib.hid hL
  clear hA hL
  go_enter Try.func48, Try.ntmps48
  go_wp2_with fail
  refine (checkTransports_any _ _ _ _ _ _ _ _ _ n l _ (HA.out.gr ((Gr.refl _).alloc _)) (HL.out.sl.gr ((Gr.refl _).alloc _)) HL.out.small).mono ?_
  rintro e w1 ⟨rfl, hg1⟩
  have hg0 : Gr w w1 := ((Gr.refl _).alloc _).trans hg1
  have b0 : w1.cell? ⟨w.heap.size, 0, none⟩ = some (.slice A1 n1 c1) := hg1.has (by simp [go_sem])
  have b1 : w1.cell? ⟨w.heap.size, 1, none⟩ = some (.slice A2 n2 c2) := hg1.has (by simp [go_sem])
  clear hg1
  by_cases hc : trCode n l = 0
  · have Hc := Lib.hid hc
    have Hn := Lib.hid (trCode_zero hc).1
    have Hok := Lib.hid (trCode_zero hc).2
    have Hok1 : Hid (trsOk n1 l = true) := Lib.hid (by rw [← HA.out.l1]; exact (trCode_zero hc).2)
    have tb : (trCode n l != 0) = false := by simp [hc]
    clear hc
    go_wp2_with fail
    refine (amountsByClass_any n.nodes.length l _ (HL.out.gr hg0) Hok.out).mono ?_
    rintro e w2 ⟨A, m, c, rfl, hm, ho, hg2⟩
    obtain rfl : m = 4 := by have := own_ilen ho; rw [amounts_len] at this; omega
    obtain ⟨g, rfl, _, _⟩ := own_form ho (by omega)
    have Ho := Lib.hid ho
    replace b0 := hg2.has b0
    replace b1 := hg2.has b1
    clear ho
    go_wp2_with fail
    refine (curtailScales_any n l _ (HA.out.gr (hg0.trans hg2)) (HL.out.gr (hg0.trans hg2)) Hn.out Hok1.out).mono ?_
    rintro e w3 ⟨B, d, rfl, hp, hg3⟩
    obtain ⟨q, rfl, _, _⟩ := own_form hp (by omega)
    have Hp := Lib.hid hp
    have hg9 : Gr w w3 := (hg0.trans hg2).trans hg3
    clear hp b0 b1
    go_wp2_with fail
    go_loopw [22] (fun i wr => ∃ k : Nat, k ≤ 4 ∧ i = .int .i64 k ∧ (∀ j, j < k → fcAt n l j = false) ∧ Gr w3 wr) (fun i _ => 4 - (intOf i).toNat)
    case atStart => exact ⟨0, Nat.zero_le _, rfl, fun j hj => by omega, Gr.refl _⟩
    case round =>
      obtain ⟨k, hk, rfl, hno, hgr⟩ := hrel
      have Hno := Lib.hid hno
      clear hno
      by_cases hlt : k < 4
      · have hat : fcAt n l k = (decide ((curs n l).getD k 0 < 100) && decide (0 < (amounts l).getD k 0)) := rfl
        obtain ⟨d0, _⟩ := own_int (own_gr Hp.out hgr) (get_of_lt (l := curs n l) (k := k) (by rw [curs_len Hn.out l]; exact hlt))
        obtain ⟨d1, _⟩ := own_int (own_gr Ho.out (hg3.trans hgr)) (get_of_lt (l := amounts l) (k := k) (by rw [amounts_len]; exact hlt))
        generalize (curs n l).getD k 0 = s at hat d0
        generalize (amounts l).getD k 0 = a at hat d1
        have Hat := Lib.hid hat
        have t1 : (k : Int) < 4 := by omega
        have t0 : (0 : Int) ≤ (k : Int) := by omega
        clear hat
        by_cases e1 : s < 100
        · by_cases e2 : 0 < a
          · obtain ⟨v1, v2⟩ := fc_hit Hc.out hlt (by rw [Hat.out]; simp [e1, e2]) Hno.out
            have V1 := Lib.hid v1
            have V2 := Lib.hid v2
            clear v1 v2
            go_wp2_with fail
            go_ret2
            exact ⟨by rw [V1.out, V2.out]; rfl, hg9.trans hgr⟩
          · have t2 : decide (0 < a) = false := by simp; omega
            go_wp2_with fail
            go_roundw
            case rel => exact ⟨k + 1, by omega, by go_num, nb_next (by rw [Hat.out, t2]; simp) Hno.out, hgr⟩
            case measure => simp [intOf]; omega
        · have t2 : decide (s < 100) = false := by simp; omega
          go_wp2_with fail
          go_roundw
          case rel => exact ⟨k + 1, by omega, by go_num, nb_next (by rw [Hat.out, t2]; simp) Hno.out, hgr⟩
          case measure => simp [intOf]; omega
      · obtain rfl : k = 4 := by omega
        obtain ⟨v1, v2⟩ := fc_none Hc.out Hno.out
        have V1 := Lib.hid v1
        have V2 := Lib.hid v2
        clear v1 v2
        go_wp2_with fail
        go_ret2
        exact ⟨by rw [V1.out, V2.out]; rfl, hg9.trans hgr⟩
  · obtain ⟨v1, v2⟩ := fc_bad hc
    have V1 := Lib.hid v1
    have V2 := Lib.hid v2
    have tb : (trCode n l != 0) = true := by simp [hc]
    clear hc v1 v2
    go_wp2_with fail
    go_ret2
    exact ⟨by rw [V1.out, V2.out]; rfl, hg0⟩
set_option maxHeartbeats 1000000 in
set_option maxRecDepth 100000 in
theorem spFirstCurtailed_any {A1 A2 A3 : Option Addr} {n1 c1 n2 c2 n3 c3 : Nat} (n : GNet) (l : List GTr) (w : World) (hA : NetAt w A1 n1 c1 A2 n2 c2 n) (hL : SlAt w 4 A3 n3 c3 (l.flatMap GTr.cells)) :
    Calls Try.prog 49 #[.agg #[.slice A1 n1 c1, .slice A2 n2 c2], .slice A3 n3 c3] w fun e w' => e = .returned (.tuple #[.int .i64 (fcVal n l), .int .i64 (fcCode n l)]) ∧ Gr w w' := by
  have HA := Lib.hid hA
  have HL := Lib.hid hL
  clear hA hL
  go_enter Try.func49, Try.ntmps49
  go_wp2_with fail
  refine (l24Code_any n l _ (HA.out.gr ((Gr.refl _).alloc _)) (HL.out.gr ((Gr.refl _).alloc _))).mono ?_
  rintro e w1 ⟨rfl, hg1⟩
  have hg0 : Gr w w1 := ((Gr.refl _).alloc _).trans hg1
  have b0 : w1.cell? ⟨w.heap.size, 0, none⟩ = some (.slice A1 n1 c1) := hg1.has (by simp [go_sem])
  have b1 : w1.cell? ⟨w.heap.size, 1, none⟩ = some (.slice A2 n2 c2) := hg1.has (by simp [go_sem])
  clear hg1
  by_cases hc : trCode n l = 0
  · have Hc := Lib.hid hc
    have Hn := Lib.hid (trCode_zero hc).1
    have Hok := Lib.hid (trCode_zero hc).2
    have Hok1 : Hid (trsOk n1 l = true) := Lib.hid (by rw [← HA.out.l1]; exact (trCode_zero hc).2)
    have tb : (trCode n l != 0) = false := by simp [hc]
    clear hc
    go_wp2_with fail
    refine (l25Scales_any n l _ (HA.out.gr hg0) (HL.out.gr hg0) Hn.out Hok1.out).mono ?_
    rintro e w2 ⟨B, d, rfl, hp, hg2⟩
    obtain ⟨q, rfl, _, _⟩ := own_form hp (by omega)
    have Hp := Lib.hid hp
    replace b0 := hg2.has b0
    replace b1 := hg2.has b1
    clear hp
    go_wp2_with fail
    refine (spAmountsByClass_any n l _ (HA.out.gr (hg0.trans hg2)) (HL.out.gr (hg0.trans hg2))).mono ?_
    rintro e w3 ⟨A, m, c, rfl, hm, ho, hg3⟩
    rw [amountsRes, if_pos Hc.out] at ho
    obtain rfl : m = 4 := by have := own_ilen ho; rw [amounts_len] at this; omega
    obtain ⟨g, rfl, _, _⟩ := own_form ho (by omega)
    have Ho := Lib.hid ho
    have hg9 : Gr w w3 := (hg0.trans hg2).trans hg3
    clear ho b0 b1
    go_wp2_with fail
    go_loopw [10] (fun i wr => ∃ k : Nat, k ≤ 4 ∧ i = .int .i64 k ∧ (∀ j, j < k → fcAt n l j = false) ∧ Gr w3 wr) (fun i _ => 4 - (intOf i).toNat)
    case atStart => exact ⟨0, Nat.zero_le _, rfl, fun j hj => by omega, Gr.refl _⟩
    case round =>
      obtain ⟨k, hk, rfl, hno, hgr⟩ := hrel
      have Hno := Lib.hid hno
      clear hno
      by_cases hlt : k < 4
      · have hat : fcAt n l k = (decide ((curs n l).getD k 0 < 100) && decide (0 < (amounts l).getD k 0)) := rfl
        obtain ⟨d0, _⟩ := own_int (own_gr Hp.out (hg3.trans hgr)) (get_of_lt (l := curs n l) (k := k) (by rw [curs_len Hn.out l]; exact hlt))
        obtain ⟨d1, _⟩ := own_int (own_gr Ho.out hgr) (get_of_lt (l := amounts l) (k := k) (by rw [amounts_len]; exact hlt))
        generalize (curs n l).getD k 0 = s at hat d0
        generalize (amounts l).getD k 0 = a at hat d1
        have Hat := Lib.hid hat
        have t1 : (k : Int) < 4 := by omega
        have t0 : (0 : Int) ≤ (k : Int) := by omega
        clear hat
        by_cases e1 : s < 100
        · by_cases e2 : 0 < a
          · obtain ⟨v1, v2⟩ := fc_hit Hc.out hlt (by rw [Hat.out]; simp [e1, e2]) Hno.out
            have V1 := Lib.hid v1
            have V2 := Lib.hid v2
            clear v1 v2
            go_wp2_with fail
            go_ret2
            exact ⟨by rw [V1.out, V2.out]; rfl, hg9.trans hgr⟩
          · have t2 : decide (0 < a) = false := by simp; omega
            go_wp2_with fail
            go_roundw
            case rel => exact ⟨k + 1, by omega, by go_num, nb_next (by rw [Hat.out, t2]; simp) Hno.out, hgr⟩
            case measure => simp [intOf]; omega
        · have t2 : decide (s < 100) = false := by simp; omega
          go_wp2_with fail
          go_roundw
          case rel => exact ⟨k + 1, by omega, by go_num, nb_next (by rw [Hat.out, t2]; simp) Hno.out, hgr⟩
          case measure => simp [intOf]; omega
      · obtain rfl : k = 4 := by omega
        obtain ⟨v1, v2⟩ := fc_none Hc.out Hno.out
        have V1 := Lib.hid v1
        have V2 := Lib.hid v2
        clear v1 v2
        go_wp2_with fail
        go_ret2
        exact ⟨by rw [V1.out, V2.out]; rfl, hg9.trans hgr⟩
  · obtain ⟨v1, v2⟩ := fc_bad hc
    have V1 := Lib.hid v1
    have V2 := Lib.hid v2
    have tb : (trCode n l != 0) = true := by simp [hc]
    clear hc v1 v2
    go_wp2_with fail
    go_ret2
    exact ⟨by rw [V1.out, V2.out]; rfl, hg0⟩
theorem bnd_mem {B : Int} {l : List Int} (h : ∀ k, -B ≤ l.getD k 0 ∧ l.getD k 0 ≤ B) (hB : B ≤ 1000000000) : ∀ z ∈ l, -1000000000 ≤ z ∧ z ≤ 1000000000 := by
  intro z hz
  obtain ⟨k, hk⟩ := List.mem_iff_getElem?.1 hz
  have := h k
  rw [List.getD_eq_getElem?_getD, hk] at this
  simp at this
  omega
theorem ss_div {a b : Int} (h1 : 0 ≤ a ∧ a ≤ 960000) (h2 : 0 ≤ b ∧ b ≤ 960000) : IntKind.i64.wrap (100 * a) = 100 * a ∧ IntKind.i64.wrap ((100 * a).tdiv b) = 100 * a / b := by
  have h3 : (100 * a).tdiv b = 100 * a / b := Int.tdiv_eq_ediv_of_nonneg (by omega)
  have h4 : 0 ≤ 100 * a / b := Int.ediv_nonneg (by omega) h2.1
  have h5 : 100 * a / b ≤ 100 * a := Int.ediv_le_self _ (by omega)
  refine ⟨IntWalk.i64_in _ (by omega), ?_⟩
  rw [h3]
  exact IntWalk.i64_in _ (by omega)
set_option maxHeartbeats 1000000 in
set_option maxRecDepth 100000 in
theorem ServedShare_any {A1 A2 A3 : Option Addr} {n1 c1 n2 c2 n3 c3 : Nat} (n : GNet) (l : List GTr) (w : World) (hA : NetAt w A1 n1 c1 A2 n2 c2 n) (hL : SlAt w 4 A3 n3 c3 (l.flatMap GTr.cells)) :
    Calls Try.prog 50 #[.agg #[.slice A1 n1 c1, .slice A2 n2 c2], .slice A3 n3 c3] w fun e w' => e = .returned (.tuple #[.int .i64 (ssVal n l), .int .i64 (trCode n l)]) ∧ Gr w w' := by
  have HA := Lib.hid hA
  have hm3 := hL.small
  have HL := Lib.hid hL
  clear hA hL
  go_enter Try.func50, Try.ntmps50
  go_wp2_with fail
  refine (checkTransports_any _ _ _ _ _ _ _ _ _ n l _ (HA.out.gr ((Gr.refl _).alloc _)) (HL.out.sl.gr ((Gr.refl _).alloc _)) HL.out.small).mono ?_
  rintro e w1 ⟨rfl, hg1⟩
  have hg0 : Gr w w1 := ((Gr.refl _).alloc _).trans hg1
  have b0 : w1.cell? ⟨w.heap.size, 0, none⟩ = some (.slice A1 n1 c1) := hg1.has (by simp [go_sem])
  have b1 : w1.cell? ⟨w.heap.size, 1, none⟩ = some (.slice A2 n2 c2) := hg1.has (by simp [go_sem])
  clear hg1
  by_cases hc : trCode n l = 0
  · have Hc := Lib.hid hc
    have Hn := Lib.hid (trCode_zero hc).1
    have Hok := Lib.hid (trCode_zero hc).2
    have Hok1 : Hid (trsOk n1 l = true) := Lib.hid (by rw [← HA.out.l1]; exact (trCode_zero hc).2)
    have tb : (trCode n l != 0) = false := by simp [hc]
    clear hc
    go_wp2_with fail
    refine (amountsByClass_any n.nodes.length l _ (HL.out.gr hg0) Hok.out).mono ?_
    rintro e w2 ⟨A, m, c, rfl, hm, ho, hg2⟩
    have Ho := Lib.hid ho
    replace b0 := hg2.has b0
    replace b1 := hg2.has b1
    clear ho
    go_wp2_with fail
    refine (sumOf_any (amounts l) _ (SlAt.of_own Ho.out hm) (bnd_mem (amounts_bnd Hok.out) (by decide))).mono ?_
    rintro e _ ⟨rfl, rfl⟩
    rw [amounts_sum Hok.out]
    have Hv : Hid (ssVal n l = if amtSum l = 0 then 100 else 100 * amtSum (scaled (curs n l) l) / amtSum l) := Lib.hid (by rw [ssVal, if_pos Hc.out])
    have hQ := amtSum_lim Hok.out
    generalize amtSum l = Q at Hv hQ ⊢
    by_cases hq : Q = 0
    · have tq : (Q == 0) = true := by simp [hq]
      have Hq := Lib.hid hq
      clear hq
      go_wp2_with fail
      go_ret2
      exact ⟨by rw [Hv.out, if_pos Hq.out, Hc.out]; rfl, hg0.trans hg2⟩
    · have tq : (Q == 0) = false := by simp [hq]
      go_wp2_with fail
      refine (curtailScales_any n l _ (HA.out.gr (hg0.trans hg2)) (HL.out.gr (hg0.trans hg2)) Hn.out Hok1.out).mono ?_
      rintro e w3 ⟨B, d, rfl, hp, hg3⟩
      have Hp := Lib.hid hp
      have hg9 : Gr w w3 := (hg0.trans hg2).trans hg3
      clear hp b0 b1
      go_wp2_with fail
      refine (scaledTransports_any n1 l (curs n l) _ (HL.out.gr hg9) (SlAt.of_own Hp.out (by omega)) Hok1.out (curs_ok Hn.out l)).mono ?_
      rintro e w4 ⟨B4, d4, rfl, hp4, hg4⟩
      have Hp4 := Lib.hid hp4
      have Hok4 := Lib.hid (scaled_ok Hok1.out (curs_ok Hn.out l))
      clear hp4
      go_wp2_with fail
      refine (amountsByClass_any n1 _ _ (SlAt.of_own Hp4.out hm3) Hok4.out).mono ?_
      rintro e w5 ⟨B5, m5, d5, rfl, hm5, hp5, hg5⟩
      have Hp5 := Lib.hid hp5
      clear hp5
      go_wp2_with fail
      refine (sumOf_any _ _ (SlAt.of_own Hp5.out hm5) (bnd_mem (amounts_bnd Hok4.out) (by decide))).mono ?_
      rintro e _ ⟨rfl, rfl⟩
      rw [amounts_sum Hok4.out]
      have hS := amtSum_lim Hok4.out
      generalize amtSum (scaled (curs n l) l) = S at Hv hS ⊢
      obtain ⟨hw1, hw2⟩ := ss_div hS hQ
      have Hq := Lib.hid hq
      have hg10 := (hg9.trans hg4).trans hg5
      go_wp2_with fail
      go_ret2
      exact ⟨by rw [Hv.out, if_neg Hq.out, Hc.out]; rfl, hg10⟩
  · have Hc := Lib.hid hc
    have tb : (trCode n l != 0) = true := by simp [hc]
    clear hc
    go_wp2_with fail
    go_ret2
    exact ⟨by rw [ssVal, if_neg Hc.out]; rfl, hg0⟩
end Go.Proofs.Ytejfpajbkgfiaaa
