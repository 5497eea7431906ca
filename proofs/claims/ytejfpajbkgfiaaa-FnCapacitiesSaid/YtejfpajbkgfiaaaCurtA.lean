import Derived.Test.YtejfpajbkgfiaaaFit
import Derived.Test.YtejfpajbkgfiaaaScales
import Derived.Test.YtejfpajbkgfiaaaWts
import Derived.Test.YtejfpajbkgfiaaaCurtMs
import Derived.Test.YtejfpajbkgfiaaaSums
/-
  The scales of curtailing: the program and the reference.
-/
namespace Go.Proofs.Ytejfpajbkgfiaaa
open Go.ChangeShapes Go.WideShapes Go.ChangeAt Go.RowKit

def cellN (w : World) (S k : Nat) : Nat := (w.cell? ⟨S, k, none⟩).elim 0 fun v => (intOf v).toNat
theorem cellN_eq {w : World} {S k : Nat} {s : Nat} (h : w.cell? ⟨S, k, none⟩ = some (.int .i64 (s : Int))) : cellN w S k = s := by
  rw [cellN, h]; simp [intOf]
set_option maxHeartbeats 2000000 in
set_option maxRecDepth 100000 in
theorem curtailScales_any {A1 A2 A3 : Option Addr} {n1 c1 n2 c2 n3 c3 : Nat} (n : GNet) (l : List GTr) (w : World) (hA : NetAt w A1 n1 c1 A2 n2 c2 n) (hL : SlAt w 4 A3 n3 c3 (l.flatMap GTr.cells)) (hn : netOk n = true) (hok : trsOk n1 l = true) :
    Calls Try.prog 109 #[.agg #[.slice A1 n1 c1, .slice A2 n2 c2], .slice A3 n3 c3] w fun e w' => ∃ A c, e = .returned (.slice A 4 c) ∧ w'.ownsRow w.heap.size 2 1 (.slice A 4 c) 4 (ints (curs n l)) ∧ Gr w w' := by
  obtain ⟨i0, hi0, hz0, hz1, hz2⟩ := info_parts infoInt64
  have hm1 := hA.m1
  have hm3 := hL.small
  have HA := Lib.hid hA
  have HL := Lib.hid hL
  have Hn := Lib.hid hn
  have Hok := Lib.hid hok
  clear hA hL hn hok
  go_enter Try.func109, Try.ntmps109
  go_wp2_with (at_make; refine wpList_make_full _ rfl _ _ _ rfl w.heap.size 2 i0 _ 1 Try.underlying33 hi0 hz0 hz1 .i64 .i64 _ _ 4 rfl rfl rfl rfl (by rw [hz2]; omega) (by unfold maxLen; omega) (by simp) ?_; intro w1 hown1 hg1; have hq1 : Gr (w.alloc (.cells #[.slice A1 n1 c1, .slice A2 n2 c2] 27)) w1 := Gr.of_grown hg1; have Ho1 := Lib.hid hown1; clear hown1)
  have o1 : w1.ownsRow w.heap.size 2 1 (.slice (some ⟨w.heap.size + 1, 0, none⟩) 4 4) 4 (ints (curTo n l 0)) := by
    have := own_cells_eq Ho1.out (made_ints 4)
    have e : curTo n l 0 = List.replicate 4 0 := rfl
    rw [e]
    simpa using this
  try rw [show (w.alloc (.cells #[.slice A1 n1 c1, .slice A2 n2 c2] 27)).heap.size = w.heap.size + 1 by simp]
  obtain ⟨wn, hwn⟩ : ∃ wn, wn = w.alloc (.cells #[.slice A1 n1 c1, .slice A2 n2 c2] 27) := ⟨_, rfl⟩
  have hgn : Gr w wn := by rw [hwn]; exact (Gr.refl _).alloc _
  have cn0 : wn.cell? ⟨w.heap.size, 0, none⟩ = some (.slice A1 n1 c1) := by rw [hwn]; simp [go_sem]
  have cn1 : wn.cell? ⟨w.heap.size, 1, none⟩ = some (.slice A2 n2 c2) := by rw [hwn]; simp [go_sem]
  have hsn : wn.heap.size = w.heap.size + 1 := by rw [hwn]; simp
  rw [← hwn] at hq1
  obtain ⟨S, hS⟩ : ∃ S, S = w.heap.size + 1 := ⟨_, rfl⟩
  rw [← hS] at o1 hsn
  rw [← hS]
  have hwS : w.heap.size < S := by omega
  have hnS : wn.heap.size ≤ S := Nat.le_of_eq hsn
  have O1 := Lib.hid o1
  clear o1 Ho1 hg1 hS hwn hsn
  go_loopw [10] (fun i wr => ∃ k : Nat, k ≤ 4 ∧ i = .int .i64 k ∧ wr.ownsRow w.heap.size 2 1 (.slice (some ⟨S, 0, none⟩) 4 4) 4 (ints (curTo n l k)) ∧ Gr wn wr) (fun i _ => 4 - (intOf i).toNat)
  case atStart => exact ⟨0, Nat.zero_le _, rfl, O1.out, hq1⟩
  case round =>
    obtain ⟨k, hk, rfl, hown, hgr⟩ := hrel
    clear hq1 O1
    by_cases hlt : k < 4
    · obtain ⟨q1, q2, q3⟩ := curTo_spec Hn.out l k hk
      have hl4 : (curTo n l k).length = 4 := (scOk_all q1).1
      obtain ⟨d0, d1⟩ := own_int hown (get_of_lt (l := curTo n l k) (k := k) (by omega))
      obtain ⟨R1, R2⟩ := own_set_int hown k 100
      have hgr2 := hgr.grown R2 (fun _ e => by injection e with e; omega)
      have HR1 := Lib.hid R1
      have Hq1 := Lib.hid q1
      have u0 : (0 : Int) ≤ (k : Int) := by omega
      have u1 : (k : Int) < 4 := by omega
      clear hown R1 R2 q1 q2 q3 hgr
      go_wp2_with fail
      generalize hw3 : World.setCell wr _ _ = w3
      rw [hw3] at HR1 hgr2
      clear hw3 d0 d1
      go_loopw [21] (fun _ wr => ∃ s : Nat, s ≤ 100 ∧ wr.ownsRow w.heap.size 2 1 (.slice (some ⟨S, 0, none⟩) 4 4) 4 (ints ((curTo n l k).set k (s : Int))) ∧ topS (curP n l k) s = topS (curP n l k) 100 ∧ Gr wn wr) (fun _ wr => cellN wr S k)
      case atStart => exact ⟨100, Nat.le_refl _, HR1.out, rfl, hgr2⟩
      case round =>
        obtain ⟨s, hs, hown, htop, hgr⟩ := hrel
        clear HR1 hgr2
        have hsc : scOk ((curTo n l k).set k (s : Int)) = true := scOk_set Hq1.out k (by omega) (by omega)
        obtain ⟨d0, d1⟩ := own_int hown (k := k) (x := (s : Int)) (List.getElem?_set_self (by omega))
        have hcn := cellN_eq d0
        have b0 := hgr.has cn0
        have b1 := hgr.has cn1
        have Hown := Lib.hid hown
        have Hsc := Lib.hid hsc
        have Htop := Lib.hid htop
        have hgw := hgn.trans hgr
        have Hcn := Lib.hid hcn
        clear hown hsc htop hcn
        go_wp2_with fail
        go_region_held3 (fun w' => Gr wr w' ∧ w'.cell? ⟨w.heap.size, 0, none⟩ = some (.slice A1 n1 c1) ∧ w'.cell? ⟨w.heap.size, 1, none⟩ = some (.slice A2 n2 c2))
          (first | exact ⟨(Gr.refl _).drew, b0, b1⟩ | exact ⟨by assumption, (by assumption : Gr wr _).has b0, (by assumption : Gr wr _).has b1⟩)
          (first
            | (go_at_call 96; refine (scaledTransports_any n1 l _ _ (HL.out.gr hgw.drew) (SlAt.of_own Hown.out.drew (by omega)) Hok.out Hsc.out).mono ?_; rintro e w5 ⟨A', c', rfl, ho, hg2⟩; have Ho := Lib.hid ho; clear ho; have hx : Gr wr w5 := (Gr.refl _).drew.trans hg2)
            | (go_at_call 104; refine (doFit_any n _ _ (HA.out.gr (hgw.trans hx)) (SlAt.of_own Ho.out hm3) (scaled_ok Hok.out Hsc.out)).mono ?_; rintro e w6 ⟨rfl, hg3⟩; have hy : Gr wr w6 := hx.trans hg3))
        have hcp : curP n l k s = fitB n (scaled ((curTo n l k).set k (s : Int)) l) := rfl
        generalize fitB n (scaled ((curTo n l k).set k (s : Int)) l) = fb at hcp ⊢
        have Hcp := Lib.hid hcp
        have o6 := own_gr Hown.out hy
        obtain ⟨d0', d1'⟩ := own_int o6 (k := k) (x := (s : Int)) (List.getElem?_set_self (by omega))
        have b0' := hy.has b0
        have b1' := hy.has b1
        have hg6 : Gr wn w6 := hgr.trans hy
        have O6 := Lib.hid o6
        clear hcp o6 b0 b1 d0 d1 hx
        cases fb
        · obtain ⟨t, rfl⟩ := cur_pos Hn.out l hlt Hcp.out
          obtain ⟨R1, R2⟩ := own_set_int O6.out k (t : Int)
          rw [List.set_set] at R1
          have HR := Lib.hid R1
          have hgR := hg6.grown R2 (fun _ e => by injection e with e; omega)
          have hw1 : IntKind.i64.wrap (((t + 1 : Nat) : Int) - 1) = (t : Int) := by rw [show ((t + 1 : Nat) : Int) - 1 = (t : Int) by omega]; exact IntWalk.i64_in _ (by omega)
          have Hlen := Lib.hid hl4
          clear R1 R2 hl4
          go_wp2_with fail
          go_roundw
          case rel => exact ⟨t, by omega, HR.out, by rw [← topS_not Hcp.out]; exact Htop.out, hgR⟩
          case measure =>
            obtain ⟨q0, _⟩ := own_int HR.out (k := k) (x := (t : Int)) (List.getElem?_set_self (by rw [Hlen.out]; omega))
            rw [cellN_eq q0, Hcn.out]; omega
        · go_wp2_with fail
          go_roundw
          case rel => exact ⟨k + 1, by omega, by go_num, by rw [curTo_next, ← Htop.out, topS_at Hcp.out]; exact O6.out, hg6⟩
          case measure => simp [intOf]; omega
    · obtain rfl : k = 4 := by omega
      have Hown := Lib.hid hown
      clear hown
      go_wp2_with fail
      go_ret
      exact ⟨_, _, rfl, Hown.out, hgn.trans hgr⟩
set_option maxHeartbeats 2000000 in
set_option maxRecDepth 100000 in
theorem l25Scales_any {A1 A2 A3 : Option Addr} {n1 c1 n2 c2 n3 c3 : Nat} (n : GNet) (l : List GTr) (w : World) (hA : NetAt w A1 n1 c1 A2 n2 c2 n) (hL : SlAt w 4 A3 n3 c3 (l.flatMap GTr.cells)) (hn : netOk n = true) (hok : trsOk n1 l = true) :
    Calls Try.prog 110 #[.agg #[.slice A1 n1 c1, .slice A2 n2 c2], .slice A3 n3 c3] w fun e w' => ∃ A c, e = .returned (.slice A 4 c) ∧ w'.ownsRow w.heap.size 2 1 (.slice A 4 c) 4 (ints (curs n l)) ∧ Gr w w' := by
  obtain ⟨i0, hi0, hz0, hz1, hz2⟩ := info_parts infoInt64
  have hm1 := hA.m1
  have hm3 := hL.small
  have HA := Lib.hid hA
  have HL := Lib.hid hL
  have Hn := Lib.hid hn
  have Hok := Lib.hid hok
  clear hA hL hn hok
  go_enter Try.func110, Try.ntmps110
  go_wp2_with (at_make; refine wpList_make_full _ rfl _ _ _ rfl w.heap.size 2 i0 _ 1 Try.underlying33 hi0 hz0 hz1 .i64 .i64 _ _ 4 rfl rfl rfl rfl (by rw [hz2]; omega) (by unfold maxLen; omega) (by simp) ?_; intro w1 hown1 hg1; have hq1 : Gr (w.alloc (.cells #[.slice A1 n1 c1, .slice A2 n2 c2] 27)) w1 := Gr.of_grown hg1; have Ho1 := Lib.hid hown1; clear hown1)
  have o1 : w1.ownsRow w.heap.size 2 1 (.slice (some ⟨w.heap.size + 1, 0, none⟩) 4 4) 4 (ints (curTo n l 0)) := by
    have := own_cells_eq Ho1.out (made_ints 4)
    have e : curTo n l 0 = List.replicate 4 0 := rfl
    rw [e]
    simpa using this
  try rw [show (w.alloc (.cells #[.slice A1 n1 c1, .slice A2 n2 c2] 27)).heap.size = w.heap.size + 1 by simp]
  obtain ⟨wn, hwn⟩ : ∃ wn, wn = w.alloc (.cells #[.slice A1 n1 c1, .slice A2 n2 c2] 27) := ⟨_, rfl⟩
  have hgn : Gr w wn := by rw [hwn]; exact (Gr.refl _).alloc _
  have cn0 : wn.cell? ⟨w.heap.size, 0, none⟩ = some (.slice A1 n1 c1) := by rw [hwn]; simp [go_sem]
  have cn1 : wn.cell? ⟨w.heap.size, 1, none⟩ = some (.slice A2 n2 c2) := by rw [hwn]; simp [go_sem]
  have hsn : wn.heap.size = w.heap.size + 1 := by rw [hwn]; simp
  rw [← hwn] at hq1
  obtain ⟨S, hS⟩ : ∃ S, S = w.heap.size + 1 := ⟨_, rfl⟩
  rw [← hS] at o1 hsn
  rw [← hS]
  have hwS : w.heap.size < S := by omega
  have hnS : wn.heap.size ≤ S := Nat.le_of_eq hsn
  have O1 := Lib.hid o1
  clear o1 Ho1 hg1 hS hwn hsn
  go_loopw [6] (fun i wr => ∃ k : Nat, k ≤ 4 ∧ i = .int .i64 k ∧ wr.ownsRow w.heap.size 2 1 (.slice (some ⟨S, 0, none⟩) 4 4) 4 (ints (curTo n l k)) ∧ Gr wn wr) (fun i _ => 4 - (intOf i).toNat)
  case atStart => exact ⟨0, Nat.zero_le _, rfl, O1.out, hq1⟩
  case round =>
    obtain ⟨k, hk, rfl, hown, hgr⟩ := hrel
    clear hq1 O1
    by_cases hlt : k < 4
    · obtain ⟨q1, q2, q3⟩ := curTo_spec Hn.out l k hk
      have hl4 : (curTo n l k).length = 4 := (scOk_all q1).1
      have Hq1 := Lib.hid q1
      rw [← cur_same Hn.out l hlt] at hown
      have Hown0 := Lib.hid hown
      have hgr0 := hgr
      have u0 : (0 : Int) ≤ (k : Int) := by omega
      have u1 : (k : Int) < 4 := by omega
      clear hown q1 q2 q3 hgr
      go_wp2_with fail
      go_loopw [7] (fun i wr => ∃ s : Nat, s ≤ 100 ∧ i = .int .i64 s ∧ (∃ y : Int, wr.ownsRow w.heap.size 2 1 (.slice (some ⟨S, 0, none⟩) 4 4) 4 (ints ((curTo n l k).set k y))) ∧ topS (curP n l k) s = topS (curP n l k) 100 ∧ Gr wn wr) (fun i _ => (intOf i).toNat)
      case atStart => exact ⟨100, Nat.le_refl _, rfl, ⟨_, Hown0.out⟩, rfl, hgr0⟩
      case round =>
        obtain ⟨s, hs, rfl, ⟨y, hown⟩, htop, hgr⟩ := hrel
        clear Hown0 hgr0
        have hsc : scOk ((curTo n l k).set k (s : Int)) = true := scOk_set Hq1.out k (by omega) (by omega)
        obtain ⟨d0, d1⟩ := own_int hown (k := k) (x := y) (List.getElem?_set_self (by omega))
        obtain ⟨R1, R2⟩ := own_set_int hown k (s : Int)
        rw [List.set_set] at R1
        have hgr2 := hgr.grown R2 (fun _ e => by injection e with e; omega)
        have HR1 := Lib.hid R1
        have Hsc := Lib.hid hsc
        have Htop := Lib.hid htop
        have u2 : (0 : Int) ≤ (s : Int) := by omega
        clear hown R1 R2 hsc htop hgr
        go_wp2_with fail
        generalize hw3 : World.setCell wr _ _ = w3
        rw [hw3] at HR1 hgr2
        clear hw3 d0 d1
        have b0 := hgr2.has cn0
        have b1 := hgr2.has cn1
        have hgw := hgn.trans hgr2
        go_region_held3 (fun w' => Gr w3 w' ∧ w'.cell? ⟨w.heap.size, 0, none⟩ = some (.slice A1 n1 c1) ∧ w'.cell? ⟨w.heap.size, 1, none⟩ = some (.slice A2 n2 c2))
          (first | exact ⟨(Gr.refl _).drew, b0, b1⟩ | exact ⟨by assumption, (by assumption : Gr w3 _).has b0, (by assumption : Gr w3 _).has b1⟩)
          (first
            | (go_at_call 92; refine (l24Scale_any n1 l _ _ (HL.out.gr hgw.drew) (SlAt.of_own HR1.out.drew (by omega)) Hok.out Hsc.out).mono ?_; rintro e w5 ⟨A', c', rfl, ho, hg2⟩; have Ho := Lib.hid ho; clear ho; have hx : Gr w3 w5 := (Gr.refl _).drew.trans hg2)
            | (go_at_call 105; refine (l24Fit_any n _ _ (HA.out.gr (hgw.trans hx)) (SlAt.of_own Ho.out hm3) (scaled_ok Hok.out Hsc.out)).mono ?_; rintro e w6 ⟨rfl, hg3⟩; have hy : Gr w3 w6 := hx.trans hg3))
        have hcp : curP n l k s = fitB n (scaled ((curTo n l k).set k (s : Int)) l) := rfl
        generalize fitB n (scaled ((curTo n l k).set k (s : Int)) l) = fb at hcp ⊢
        have Hcp := Lib.hid hcp
        have O6 := Lib.hid (own_gr HR1.out hy)
        have hg6 : Gr wn w6 := hgr2.trans hy
        clear hcp hx
        cases fb
        · obtain ⟨t, rfl⟩ := cur_pos Hn.out l hlt Hcp.out
          have hw1 : IntKind.i64.wrap (((t + 1 : Nat) : Int) - 1) = (t : Int) := by rw [show ((t + 1 : Nat) : Int) - 1 = (t : Int) by omega]; exact IntWalk.i64_in _ (by omega)
          go_wp2_with fail
          go_roundw
          case rel => exact ⟨t, by omega, by go_num, ⟨_, O6.out⟩, by rw [← topS_not Hcp.out]; exact Htop.out, hg6⟩
          case measure => simp [intOf]
        · go_wp2_with fail
          go_roundw
          case rel => exact ⟨k + 1, by omega, by go_num, by rw [curTo_next, ← Htop.out, topS_at Hcp.out]; exact O6.out, hg6⟩
          case measure => simp [intOf]; omega
    · obtain rfl : k = 4 := by omega
      have Hown := Lib.hid hown
      clear hown
      go_wp2_with fail
      go_ret
      exact ⟨_, _, rfl, Hown.out, hgn.trans hgr⟩
end Go.Proofs.Ytejfpajbkgfiaaa
/-
  Functions on curtailing that return numbers: the program and the reference.
-/
namespace Go.Proofs.Ytejfpajbkgfiaaa
open Go.ChangeShapes Go.WideShapes Go.ChangeAt Go.RowKit

theorem l25Sum_any {A : Option Addr} {m c : Nat} (nn : Int) (l : List GTr) (w : World) (hL : SlAt w 4 A m c (l.flatMap GTr.cells)) (hok : trsOk nn l = true) :
    Calls Try.prog 112 #[.slice A m c] w fun e w' => e = .returned (.int .i64 (amtSum l)) ∧ w = w' := by
  have hlen := hL.sl.len GTr.cells_len (by omega)
  have Hlen := Lib.hid hlen
  have hm := hL.small
  have HL := Lib.hid hL
  have Hok := Lib.hid hok
  clear hL hlen hok
  go_enter Try.func112, Try.ntmps112
  go_wp2_with fail
  go_loop [3, 4] (fun s i => ∃ k : Nat, k ≤ m ∧ i = .int .i64 k ∧ s = .int .i64 (amtSum (l.take k))) (fun _ i => m - (intOf i).toNat)
  case atStart => exact ⟨0, Nat.zero_le _, rfl, rfl⟩
  case round =>
    obtain ⟨k, hk, rfl, rfl⟩ := hrel
    by_cases hlt : k < m
    · obtain ⟨x, hx⟩ : ∃ x, l[k]? = some x := ⟨_, List.getElem?_eq_getElem (by have := Hlen.out; omega)⟩
      obtain ⟨b, o, rfl, hb, e0, e1, e2, e3⟩ := HL.out.sl.tr hx
      have hst := amtSum_take hx
      have hbd := amtSum_take_bnd Hok.out k
      obtain ⟨_, _, _, p4, _⟩ := trOk_all ((trsOk_all Hok.out).2 k x hx)
      obtain ⟨S, hS⟩ : ∃ S, S = amtSum (l.take k) := ⟨_, rfl⟩
      rw [← hS] at hst hbd ⊢
      have Hst := Lib.hid hst
      clear hx hS hst e0 e1 e3
      go_wp2_with fail
      go_round
      case rel => exact ⟨k + 1, by omega, by go_num, by rw [Hst.out]⟩
      case measure => simp [intOf]; omega
    · obtain rfl : k = m := by omega
      go_wp2_with fail
      go_ret
      exact ⟨ret_int (by rw [List.take_of_length_le (by rw [Hlen.out]; exact Nat.le_refl _)]), rfl⟩
theorem fc_hit {n : GNet} {l : List GTr} {k : Nat} (hc : trCode n l = 0) (hk : k < 4) (h : fcAt n l k = true) (hno : ∀ j, j < k → fcAt n l j = false) : fcVal n l = k ∧ fcCode n l = 0 := by
  rw [fcVal, fcCode, if_pos hc, if_pos hc, leastB_hit hk h hno]; exact ⟨rfl, rfl⟩
theorem fc_none {n : GNet} {l : List GTr} (hc : trCode n l = 0) (hno : ∀ j, j < 4 → fcAt n l j = false) : fcVal n l = 0 ∧ fcCode n l = 4 := by
  rw [fcVal, fcCode, if_pos hc, if_pos hc, leastB_none hno]; exact ⟨rfl, rfl⟩
theorem fc_bad {n : GNet} {l : List GTr} (hc : ¬ trCode n l = 0) : fcVal n l = 0 ∧ fcCode n l = trCode n l := by
  rw [fcVal, fcCode, if_neg hc, if_neg hc]; exact ⟨rfl, rfl⟩
set_option maxHeartbeats 1000000 in
set_option maxRecDepth 100000 in
theorem FirstCurtailed_any {A1 A2 A3 : Option Addr} {n1 c1 n2 c2 n3 c3 : Nat} (n : GNet) (l : List GTr) (w : World) (hA : NetAt w A1 n1 c1 A2 n2 c2 n) (hL : SlAt w 4 A3 n3 c3 (l.flatMap GTr.cells)) :
    Calls Try.prog 48 #[.agg #[.slice A1 n1 c1, .slice A2 n2 c2], .slice A3 n3 c3] w fun e w' => e = .returned (.tuple #[.int .i64 (fcVal n l), .int .i64 (fcCode n l)]) ∧ Gr w w' := by
  have HA := Lib.hid hA
  have HL := Lib.hid hL
  clear hA hL
  go_enter Try.func48, Try.ntmps48
  go_wp2_with fail
  refine (checkTransports_any _ _ _ _ _ _ _ _ _ n l _ (HA.out.gr ((Gr.refl _).alloc _)) (HL.out.sl.gr ((Gr.refl _).alloc _)) HL.out.small).mono ?_
  rintro e w1 ⟨rfl, hg1⟩
  have hg0 : Gr w w1 := ((Gr.refl _).alloc _).trans hg1
  have b0 : w1.cell? ⟨w.heap.size, 0, none⟩ = some (.slice A1 n1 c1) := hg1.has (by simp [go_sem])
  have b1 : w1.cell? ⟨w.heap.size, 1, none⟩ = some (.slice A2 n2 c2) := hg1.has (by simp [go_sem])
  clear hg1
  by_cases hc : trCode n l = 0
  · have Hc := Lib.hid hc
    have Hn := Lib.hid (trCode_zero hc).1
    have Hok := Lib.hid (trCode_zero hc).2
    have Hok1 : Hid (trsOk n1 l = true) := Lib.hid (by rw [← HA.out.l1]; exact (trCode_zero hc).2)
    have tb : (trCode n l != 0) = false := by simp [hc]
    clear hc
    go_wp2_with fail
    refine (amountsByClass_any n.nodes.length l _ (HL.out.gr hg0) Hok.out).mono ?_
    rintro e w2 ⟨A, m, c, rfl, hm, ho, hg2⟩
    obtain rfl : m = 4 := by have := own_ilen ho; rw [amounts_len] at this; omega
    obtain ⟨g, rfl, _, _⟩ := own_form ho (by omega)
    have Ho := Lib.hid ho
    replace b0 := hg2.has b0
    replace b1 := hg2.has b1
    clear ho
    go_wp2_with fail
    refine (curtailScales_any n l _ (HA.out.gr (hg0.trans hg2)) (HL.out.gr (hg0.trans hg2)) Hn.out Hok1.out).mono ?_
    rintro e w3 ⟨B, d, rfl, hp, hg3⟩
    obtain ⟨q, rfl, _, _⟩ := own_form hp (by omega)
    have Hp := Lib.hid hp
    have hg9 : Gr w w3 := (hg0.trans hg2).trans hg3
    clear hp b0 b1
    go_wp2_with fail
    go_loopw [22] (fun i wr => ∃ k : Nat, k ≤ 4 ∧ i = .int .i64 k ∧ (∀ j, j < k → fcAt n l j = false) ∧ Gr w3 wr) (fun i _ => 4 - (intOf i).toNat)
    case atStart => exact ⟨0, Nat.zero_le _, rfl, fun j hj => by omega, Gr.refl _⟩
    case round =>
      obtain ⟨k, hk, rfl, hno, hgr⟩ := hrel
      have Hno := Lib.hid hno
      clear hno
      by_cases hlt : k < 4
      · have hat : fcAt n l k = (decide ((curs n l).getD k 0 < 100) && decide (0 < (amounts l).getD k 0)) := rfl
        obtain ⟨d0, _⟩ := own_int (own_gr Hp.out hgr) (get_of_lt (l := curs n l) (k := k) (by rw [curs_len Hn.out l]; exact hlt))
        obtain ⟨d1, _⟩ := own_int (own_gr Ho.out (hg3.trans hgr)) (get_of_lt (l := amounts l) (k := k) (by rw [amounts_len]; exact hlt))
        generalize (curs n l).getD k 0 = s at hat d0
        generalize (amounts l).getD k 0 = a at hat d1
        have Hat := Lib.hid hat
        have t1 : (k : Int) < 4 := by omega
        have t0 : (0 : Int) ≤ (k : Int) := by omega
        clear hat
        by_cases e1 : s < 100
        · by_cases e2 : 0 < a
          · obtain ⟨v1, v2⟩ := fc_hit Hc.out hlt (by rw [Hat.out]; simp [e1, e2]) Hno.out
            have V1 := Lib.hid v1
            have V2 := Lib.hid v2
            clear v1 v2
            go_wp2_with fail
            go_ret2
            exact ⟨by rw [V1.out, V2.out]; rfl, hg9.trans hgr⟩
          · have t2 : decide (0 < a) = false := by simp; omega
            go_wp2_with fail
            go_roundw
            case rel => exact ⟨k + 1, by omega, by go_num, nb_next (by rw [Hat.out, t2]; simp) Hno.out, hgr⟩
            case measure => simp [intOf]; omega
        · have t2 : decide (s < 100) = false := by simp; omega
          go_wp2_with fail
          go_roundw
          case rel => exact ⟨k + 1, by omega, by go_num, nb_next (by rw [Hat.out, t2]; simp) Hno.out, hgr⟩
          case measure => simp [intOf]; omega
      · obtain rfl : k = 4 := by omega
        obtain ⟨v1, v2⟩ := fc_none Hc.out Hno.out
        have V1 := Lib.hid v1
        have V2 := Lib.hid v2
        clear v1 v2
        go_wp2_with fail
        go_ret2
        exact ⟨by rw [V1.out, V2.out]; rfl, hg9.trans hgr⟩
  · obtain ⟨v1, v2⟩ := fc_bad hc
    have V1 := Lib.hid v1
    have V2 := Lib.hid v2
    have tb : (trCode n l != 0) = true := by simp [hc]
    clear hc v1 v2
    go_wp2_with fail
    go_ret2
    exact ⟨by rw [V1.out, V2.out]; rfl, hg0⟩
set_option maxHeartbeats 1000000 in
set_option maxRecDepth 100000 in
theorem spFirstCurtailed_any {A1 A2 A3 : Option Addr} {n1 c1 n2 c2 n3 c3 : Nat} (n : GNet) (l : List GTr) (w : World) (hA : NetAt w A1 n1 c1 A2 n2 c2 n) (hL : SlAt w 4 A3 n3 c3 (l.flatMap GTr.cells)) :
    Calls Try.prog 49 #[.agg #[.slice A1 n1 c1, .slice A2 n2 c2], .slice A3 n3 c3] w fun e w' => e = .returned (.tuple #[.int .i64 (fcVal n l), .int .i64 (fcCode n l)]) ∧ Gr w w' := by
  have HA := Lib.hid hA
  have HL := Lib.hid hL
  clear hA hL
  go_enter Try.func49, Try.ntmps49
  go_wp2_with fail
  refine (l24Code_any n l _ (HA.out.gr ((Gr.refl _).alloc _)) (HL.out.gr ((Gr.refl _).alloc _))).mono ?_
  rintro e w1 ⟨rfl, hg1⟩
  have hg0 : Gr w w1 := ((Gr.refl _).alloc _).trans hg1
  have b0 : w1.cell? ⟨w.heap.size, 0, none⟩ = some (.slice A1 n1 c1) := hg1.has (by simp [go_sem])
  have b1 : w1.cell? ⟨w.heap.size, 1, none⟩ = some (.slice A2 n2 c2) := hg1.has (by simp [go_sem])
  clear hg1
  by_cases hc : trCode n l = 0
  · have Hc := Lib.hid hc
    have Hn := Lib.hid (trCode_zero hc).1
    have Hok := Lib.hid (trCode_zero hc).2
    have Hok1 : Hid (trsOk n1 l = true) := Lib.hid (by rw [← HA.out.l1]; exact (trCode_zero hc).2)
    have tb : (trCode n l != 0) = false := by simp [hc]
    clear hc
    go_wp2_with fail
    refine (l25Scales_any n l _ (HA.out.gr hg0) (HL.out.gr hg0) Hn.out Hok1.out).mono ?_
    rintro e w2 ⟨B, d, rfl, hp, hg2⟩
    obtain ⟨q, rfl, _, _⟩ := own_form hp (by omega)
    have Hp := Lib.hid hp
    replace b0 := hg2.has b0
    replace b1 := hg2.has b1
    clear hp
    go_wp2_with fail
    refine (spAmountsByClass_any n l _ (HA.out.gr (hg0.trans hg2)) (HL.out.gr (hg0.trans hg2))).mono ?_
    rintro e w3 ⟨A, m, c, rfl, hm, ho, hg3⟩
    rw [amountsRes, if_pos Hc.out] at ho
    obtain rfl : m = 4 := by have := own_ilen ho; rw [amounts_len] at this; omega
    obtain ⟨g, rfl, _, _⟩ := own_form ho (by omega)
    have Ho := Lib.hid ho
    have hg9 : Gr w w3 := (hg0.trans hg2).trans hg3
    clear ho b0 b1
    go_wp2_with fail
    go_loopw [10] (fun i wr => ∃ k : Nat, k ≤ 4 ∧ i = .int .i64 k ∧ (∀ j, j < k → fcAt n l j = false) ∧ Gr w3 wr) (fun i _ => 4 - (intOf i).toNat)
    case atStart => exact ⟨0, Nat.zero_le _, rfl, fun j hj => by omega, Gr.refl _⟩
    case round =>
      obtain ⟨k, hk, rfl, hno, hgr⟩ := hrel
      have Hno := Lib.hid hno
      clear hno
      by_cases hlt : k < 4
      · have hat : fcAt n l k = (decide ((curs n l).getD k 0 < 100) && decide (0 < (amounts l).getD k 0)) := rfl
        obtain ⟨d0, _⟩ := own_int (own_gr Hp.out (hg3.trans hgr)) (get_of_lt (l := curs n l) (k := k) (by rw [curs_len Hn.out l]; exact hlt))
        obtain ⟨d1, _⟩ := own_int (own_gr Ho.out hgr) (get_of_lt (l := amounts l) (k := k) (by rw [amounts_len]; exact hlt))
        generalize (curs n l).getD k 0 = s at hat d0
        generalize (amounts l).getD k 0 = a at hat d1
        have Hat := Lib.hid hat
        have t1 : (k : Int) < 4 := by omega
        have t0 : (0 : Int) ≤ (k : Int) := by omega
        clear hat
        by_cases e1 : s < 100
        · by_cases e2 : 0 < a
          · obtain ⟨v1, v2⟩ := fc_hit Hc.out hlt (by rw [Hat.out]; simp [e1, e2]) Hno.out
            have V1 := Lib.hid v1
            have V2 := Lib.hid v2
            clear v1 v2
            go_wp2_with fail
            go_ret2
            exact ⟨by rw [V1.out, V2.out]; rfl, hg9.trans hgr⟩
          · have t2 : decide (0 < a) = false := by simp; omega
            go_wp2_with fail
            go_roundw
            case rel => exact ⟨k + 1, by omega, by go_num, nb_next (by rw [Hat.out, t2]; simp) Hno.out, hgr⟩
            case measure => simp [intOf]; omega
        · have t2 : decide (s < 100) = false := by simp; omega
          go_wp2_with fail
          go_roundw
          case rel => exact ⟨k + 1, by omega, by go_num, nb_next (by rw [Hat.out, t2]; simp) Hno.out, hgr⟩
          case measure => simp [intOf]; omega
      · obtain rfl : k = 4 := by omega
        obtain ⟨v1, v2⟩ := fc_none Hc.out Hno.out
        have V1 := Lib.hid v1
        have V2 := Lib.hid v2
        clear v1 v2
        go_wp2_with fail
        go_ret2
        exact ⟨by rw [V1.out, V2.out]; rfl, hg9.trans hgr⟩
  · obtain ⟨v1, v2⟩ := fc_bad hc
    have V1 := Lib.hid v1
    have V2 := Lib.hid v2
    have tb : (trCode n l != 0) = true := by simp [hc]
    clear hc v1 v2
    go_wp2_with fail
    go_ret2
    exact ⟨by rw [V1.out, V2.out]; rfl, hg0⟩
theorem bnd_mem {B : Int} {l : List Int} (h : ∀ k, -B ≤ l.getD k 0 ∧ l.getD k 0 ≤ B) (hB : B ≤ 1000000000) : ∀ z ∈ l, -1000000000 ≤ z ∧ z ≤ 1000000000 := by
  intro z hz
  obtain ⟨k, hk⟩ := List.mem_iff_getElem?.1 hz
  have := h k
  rw [List.getD_eq_getElem?_getD, hk] at this
  simp at this
  omega
theorem ss_div {a b : Int} (h1 : 0 ≤ a ∧ a ≤ 960000) (h2 : 0 ≤ b ∧ b ≤ 960000) : IntKind.i64.wrap (100 * a) = 100 * a ∧ IntKind.i64.wrap ((100 * a).tdiv b) = 100 * a / b := by
  have h3 : (100 * a).tdiv b = 100 * a / b := Int.tdiv_eq_ediv_of_nonneg (by omega)
  have h4 : 0 ≤ 100 * a / b := Int.ediv_nonneg (by omega) h2.1
  have h5 : 100 * a / b ≤ 100 * a := Int.ediv_le_self _ (by omega)
  refine ⟨IntWalk.i64_in _ (by omega), ?_⟩
  rw [h3]
  exact IntWalk.i64_in _ (by omega)
set_option maxHeartbeats 1000000 in
set_option maxRecDepth 100000 in
theorem ServedShare_any {A1 A2 A3 : Option Addr} {n1 c1 n2 c2 n3 c3 : Nat} (n : GNet) (l : List GTr) (w : World) (hA : NetAt w A1 n1 c1 A2 n2 c2 n) (hL : SlAt w 4 A3 n3 c3 (l.flatMap GTr.cells)) :
    Calls Try.prog 50 #[.agg #[.slice A1 n1 c1, .slice A2 n2 c2], .slice A3 n3 c3] w fun e w' => e = .returned (.tuple #[.int .i64 (ssVal n l), .int .i64 (trCode n l)]) ∧ Gr w w' := by
  have HA := Lib.hid hA
  have hm3 := hL.small
  have HL := Lib.hid hL
  clear hA hL
  go_enter Try.func50, Try.ntmps50
  go_wp2_with fail
  refine (checkTransports_any _ _ _ _ _ _ _ _ _ n l _ (HA.out.gr ((Gr.refl _).alloc _)) (HL.out.sl.gr ((Gr.refl _).alloc _)) HL.out.small).mono ?_
  rintro e w1 ⟨rfl, hg1⟩
  have hg0 : Gr w w1 := ((Gr.refl _).alloc _).trans hg1
  have b0 : w1.cell? ⟨w.heap.size, 0, none⟩ = some (.slice A1 n1 c1) := hg1.has (by simp [go_sem])
  have b1 : w1.cell? ⟨w.heap.size, 1, none⟩ = some (.slice A2 n2 c2) := hg1.has (by simp [go_sem])
  clear hg1
  by_cases hc : trCode n l = 0
  · have Hc := Lib.hid hc
    have Hn := Lib.hid (trCode_zero hc).1
    have Hok := Lib.hid (trCode_zero hc).2
    have Hok1 : Hid (trsOk n1 l = true) := Lib.hid (by rw [← HA.out.l1]; exact (trCode_zero hc).2)
    have tb : (trCode n l != 0) = false := by simp [hc]
    clear hc
    go_wp2_with fail
    refine (amountsByClass_any n.nodes.length l _ (HL.out.gr hg0) Hok.out).mono ?_
    rintro e w2 ⟨A, m, c, rfl, hm, ho, hg2⟩
    have Ho := Lib.hid ho
    replace b0 := hg2.has b0
    replace b1 := hg2.has b1
    clear ho
    go_wp2_with fail
    refine (sumOf_any (amounts l) _ (SlAt.of_own Ho.out hm) (bnd_mem (amounts_bnd Hok.out) (by decide))).mono ?_
    rintro e _ ⟨rfl, rfl⟩
    rw [amounts_sum Hok.out]
    have Hv : Hid (ssVal n l = if amtSum l = 0 then 100 else 100 * amtSum (scaled (curs n l) l) / amtSum l) := Lib.hid (by rw [ssVal, if_pos Hc.out])
    have hQ := amtSum_lim Hok.out
    generalize amtSum l = Q at Hv hQ ⊢
    by_cases hq : Q = 0
    · have tq : (Q == 0) = true := by simp [hq]
      have Hq := Lib.hid hq
      clear hq
      go_wp2_with fail
      go_ret2
      exact ⟨by rw [Hv.out, if_pos Hq.out, Hc.out]; rfl, hg0.trans hg2⟩
    · have tq : (Q == 0) = false := by simp [hq]
      go_wp2_with fail
      refine (curtailScales_any n l _ (HA.out.gr (hg0.trans hg2)) (HL.out.gr (hg0.trans hg2)) Hn.out Hok1.out).mono ?_
      rintro e w3 ⟨B, d, rfl, hp, hg3⟩
      have Hp := Lib.hid hp
      have hg9 : Gr w w3 := (hg0.trans hg2).trans hg3
      clear hp b0 b1
      go_wp2_with fail
      refine (scaledTransports_any n1 l (curs n l) _ (HL.out.gr hg9) (SlAt.of_own Hp.out (by omega)) Hok1.out (curs_ok Hn.out l)).mono ?_
      rintro e w4 ⟨B4, d4, rfl, hp4, hg4⟩
      have Hp4 := Lib.hid hp4
      have Hok4 := Lib.hid (scaled_ok Hok1.out (curs_ok Hn.out l))
      clear hp4
      go_wp2_with fail
      refine (amountsByClass_any n1 _ _ (SlAt.of_own Hp4.out hm3) Hok4.out).mono ?_
      rintro e w5 ⟨B5, m5, d5, rfl, hm5, hp5, hg5⟩
      have Hp5 := Lib.hid hp5
      clear hp5
      go_wp2_with fail
      refine (sumOf_any _ _ (SlAt.of_own Hp5.out hm5) (bnd_mem (amounts_bnd Hok4.out) (by decide))).mono ?_
      rintro e _ ⟨rfl, rfl⟩
      rw [amounts_sum Hok4.out]
      have hS := amtSum_lim Hok4.out
      generalize amtSum (scaled (curs n l) l) = S at Hv hS ⊢
      obtain ⟨hw1, hw2⟩ := ss_div hS hQ
      have Hq := Lib.hid hq
      have hg10 := (hg9.trans hg4).trans hg5
      go_wp2_with fail
      go_ret2
      exact ⟨by rw [Hv.out, if_neg Hq.out, Hc.out]; rfl, hg10⟩
  · have Hc := Lib.hid hc
    have tb : (trCode n l != 0) = true := by simp [hc]
    clear hc
    go_wp2_with fail
    go_ret2
    exact ⟨by rw [ssVal, if_neg Hc.out]; rfl, hg0⟩
end Go.Proofs.Ytejfpajbkgfiaaa
/-
  Functions on curtailing: the other contracts of the program and the reference.
-/
namespace Go.Proofs.Ytejfpajbkgfiaaa
open Go.ChangeShapes Go.WideShapes Go.ChangeAt Go.RowKit

theorem ck_hit {n : GNet} {l : List GTr} {sc : List Int} {k : Nat} (hc : scCode n l sc = 0) (hk : k < 4) (h : ckAt n l sc k = true) (hno : ∀ j, j < k → ckAt n l sc j = false) : ckVal n l sc = k := by
  rw [ckVal, if_pos hc, leastB_hit hk h hno]; rfl
theorem ck_none {n : GNet} {l : List GTr} {sc : List Int} (hc : scCode n l sc = 0) (hno : ∀ j, j < 4 → ckAt n l sc j = false) : ckVal n l sc = -1 := by
  rw [ckVal, if_pos hc, leastB_none hno]; rfl
set_option maxHeartbeats 1000000 in
set_option maxRecDepth 100000 in
theorem CheckScales_any {A1 A2 A3 A4 : Option Addr} {n1 c1 n2 c2 n3 c3 n4 c4 : Nat} (n : GNet) (l : List GTr) (sc : List Int) (w : World) (hA : NetAt w A1 n1 c1 A2 n2 c2 n) (hL : SlAt w 4 A3 n3 c3 (l.flatMap GTr.cells)) (hS : SlAt w 1 A4 n4 c4 (ints sc)) :
    Calls Try.prog 36 #[.agg #[.slice A1 n1 c1, .slice A2 n2 c2], .slice A3 n3 c3, .slice A4 n4 c4] w fun e w' => e = .returned (.tuple #[.int .i64 (ckVal n l sc), .int .i64 (scCode n l sc)]) ∧ Gr w w' := by
  have HA := Lib.hid hA
  have HL := Lib.hid hL
  have HS := Lib.hid hS
  have hlen4 := hS.sl.ilen
  have Hlen4 := Lib.hid hlen4
  clear hA hL hS hlen4
  go_enter Try.func36, Try.ntmps36
  go_wp2_with fail
  refine (checkTransports_any _ _ _ _ _ _ _ _ _ n l _ (HA.out.gr ((Gr.refl _).alloc _)) (HL.out.sl.gr ((Gr.refl _).alloc _)) HL.out.small).mono ?_
  rintro e w1 ⟨rfl, hg1⟩
  have hg0 : Gr w w1 := ((Gr.refl _).alloc _).trans hg1
  have b0 : w1.cell? ⟨w.heap.size, 0, none⟩ = some (.slice A1 n1 c1) := hg1.has (by simp [go_sem])
  have b1 : w1.cell? ⟨w.heap.size, 1, none⟩ = some (.slice A2 n2 c2) := hg1.has (by simp [go_sem])
  clear hg1
  by_cases hc : trCode n l = 0
  · have Hc := Lib.hid hc
    have Hn := Lib.hid (trCode_zero hc).1
    have Hok := Lib.hid (trCode_zero hc).2
    have Hok1 : Hid (trsOk n1 l = true) := Lib.hid (by rw [← HA.out.l1]; exact (trCode_zero hc).2)
    have tb : (trCode n l != 0) = false := by simp [hc]
    clear hc
    go_wp2_with fail
    refine (areScales_any sc _ (HS.out.gr hg0)).mono ?_
    rintro e _ ⟨rfl, rfl⟩
    cases hs : scOk sc with
    | false =>
      have e0 : scCode n l sc = 2 := by rw [scCode, if_pos Hc.out, if_neg (by simp [hs])]
      have He := Lib.hid e0
      clear hs e0
      go_wp2_with fail
      go_ret2
      exact ⟨by rw [ckVal, if_neg (by rw [He.out]; decide), He.out]; rfl, hg0⟩
    | true =>
      have e0 : scCode n l sc = 0 := by rw [scCode, if_pos Hc.out, if_pos hs]
      have He := Lib.hid e0
      obtain rfl : n4 = 4 := by have h1 := (scOk_all hs).1; have h2 := Hlen4.out; omega
      clear hs e0
      go_wp2_with fail
      refine (curtailScales_any n l _ (HA.out.gr hg0) (HL.out.gr hg0) Hn.out Hok1.out).mono ?_
      rintro e w3 ⟨B, d, rfl, hp, hg3⟩
      obtain ⟨q, rfl, _, _⟩ := own_form hp (by omega)
      have Hp := Lib.hid hp
      have hg9 : Gr w w3 := hg0.trans hg3
      clear hp b0 b1
      go_wp2_with fail
      go_loopw [24] (fun i wr => ∃ k : Nat, k ≤ 4 ∧ i = .int .i64 k ∧ (∀ j, j < k → ckAt n l sc j = false) ∧ Gr w3 wr) (fun i _ => 4 - (intOf i).toNat)
      case atStart => exact ⟨0, Nat.zero_le _, rfl, fun j hj => by omega, Gr.refl _⟩
      case round =>
        obtain ⟨k, hk, rfl, hno, hgr⟩ := hrel
        have Hno := Lib.hid hno
        clear hno
        by_cases hlt : k < 4
        · have hat : ckAt n l sc k = !(sc.getD k 0 == (curs n l).getD k 0) := rfl
          obtain ⟨d0, _⟩ := own_int (own_gr Hp.out hgr) (get_of_lt (l := curs n l) (k := k) (by rw [curs_len Hn.out l]; exact hlt))
          obtain ⟨b, o, rfl, hb, d1⟩ := ((HS.out.gr hg9).gr hgr).sl.int (get_of_lt (l := sc) (k := k) (by rw [Hlen4.out]; exact hlt))
          generalize (curs n l).getD k 0 = s at hat d0
          generalize sc.getD k 0 = a at hat d1
          have Hat := Lib.hid hat
          have t1 : (k : Int) < 4 := by omega
          have t0 : (0 : Int) ≤ (k : Int) := by omega
          clear hat
          by_cases e1 : a = s
          · have t2 : (a != s) = false := by simp [e1]
            have E1 : Hid (ckAt n l sc k = false) := Lib.hid (by rw [Hat.out]; simp [e1])
            clear e1
            go_wp2_with fail
            go_roundw
            case rel => exact ⟨k + 1, by omega, by go_num, nb_next E1.out Hno.out, hgr⟩
            case measure => simp [intOf]; omega
          · have t2 : (a != s) = true := by simp [e1]
            have V1 := Lib.hid (ck_hit He.out hlt (by rw [Hat.out]; simp [e1]) Hno.out)
            clear e1
            go_wp2_with fail
            go_ret2
            exact ⟨by rw [V1.out, He.out]; rfl, hg9.trans hgr⟩
        · obtain rfl : k = 4 := by omega
          have V1 := Lib.hid (ck_none He.out Hno.out)
          go_wp2_with fail
          go_ret2
          exact ⟨by rw [V1.out, He.out]; rfl, hg9.trans hgr⟩
  · have e0 : scCode n l sc = trCode n l := by rw [scCode, if_neg hc]
    have V1 : Hid (ckVal n l sc = 0) := Lib.hid (by rw [ckVal, if_neg (by rw [e0]; exact hc)])
    have He := Lib.hid e0
    have tb : (trCode n l != 0) = true := by simp [hc]
    clear hc e0
    go_wp2_with fail
    go_ret2
    exact ⟨by rw [V1.out, He.out]; rfl, hg0⟩
set_option maxHeartbeats 1000000 in
set_option maxRecDepth 100000 in
theorem spCheckScales_any {A1 A2 A3 A4 : Option Addr} {n1 c1 n2 c2 n3 c3 n4 c4 : Nat} (n : GNet) (l : List GTr) (sc : List Int) (w : World) (hA : NetAt w A1 n1 c1 A2 n2 c2 n) (hL : SlAt w 4 A3 n3 c3 (l.flatMap GTr.cells)) (hS : SlAt w 1 A4 n4 c4 (ints sc)) :
    Calls Try.prog 37 #[.agg #[.slice A1 n1 c1, .slice A2 n2 c2], .slice A3 n3 c3, .slice A4 n4 c4] w fun e w' => e = .returned (.tuple #[.int .i64 (ckVal n l sc), .int .i64 (scCode n l sc)]) ∧ Gr w w' := by
  have HA := Lib.hid hA
  have HL := Lib.hid hL
  have HS := Lib.hid hS
  have hlen4 := hS.sl.ilen
  have Hlen4 := Lib.hid hlen4
  clear hA hL hS hlen4
  go_enter Try.func37, Try.ntmps37
  go_wp2_with fail
  refine (l24Code_any n l _ (HA.out.gr ((Gr.refl _).alloc _)) (HL.out.gr ((Gr.refl _).alloc _))).mono ?_
  rintro e w1 ⟨rfl, hg1⟩
  have hg0 : Gr w w1 := ((Gr.refl _).alloc _).trans hg1
  have b0 : w1.cell? ⟨w.heap.size, 0, none⟩ = some (.slice A1 n1 c1) := hg1.has (by simp [go_sem])
  have b1 : w1.cell? ⟨w.heap.size, 1, none⟩ = some (.slice A2 n2 c2) := hg1.has (by simp [go_sem])
  clear hg1
  by_cases hc : trCode n l = 0
  · have tc : (trCode n l == 0) = true := by simp [hc]
    have Hc := Lib.hid hc
    have Hn := Lib.hid (trCode_zero hc).1
    have Hok := Lib.hid (trCode_zero hc).2
    have Hok1 : Hid (trsOk n1 l = true) := Lib.hid (by rw [← HA.out.l1]; exact (trCode_zero hc).2)
    have tb : (trCode n l != 0) = false := by simp [hc]
    clear hc
    go_wp2_with fail
    refine (l24Scales_any sc _ (HS.out.gr hg0)).mono ?_
    rintro e _ ⟨rfl, rfl⟩
    cases hs : scOk sc with
    | false =>
      have e0 : scCode n l sc = 2 := by rw [scCode, if_pos Hc.out, if_neg (by simp [hs])]
      have He := Lib.hid e0
      clear hs e0
      go_wp2_with fail
      go_ret2
      exact ⟨by rw [ckVal, if_neg (by rw [He.out]; decide), He.out]; rfl, hg0⟩
    | true =>
      have e0 : scCode n l sc = 0 := by rw [scCode, if_pos Hc.out, if_pos hs]
      have He := Lib.hid e0
      obtain rfl : n4 = 4 := by have h1 := (scOk_all hs).1; have h2 := Hlen4.out; omega
      clear hs e0
      go_wp2_with fail
      refine (l25Scales_any n l _ (HA.out.gr hg0) (HL.out.gr hg0) Hn.out Hok1.out).mono ?_
      rintro e w3 ⟨B, d, rfl, hp, hg3⟩
      obtain ⟨q, rfl, _, _⟩ := own_form hp (by omega)
      have Hp := Lib.hid hp
      have hg9 : Gr w w3 := hg0.trans hg3
      clear hp b0 b1
      go_wp2_with fail
      go_loopw [10] (fun i wr => ∃ k : Nat, k ≤ 4 ∧ i = .int .i64 k ∧ (∀ j, j < k → ckAt n l sc j = false) ∧ Gr w3 wr) (fun i _ => 4 - (intOf i).toNat)
      case atStart => exact ⟨0, Nat.zero_le _, rfl, fun j hj => by omega, Gr.refl _⟩
      case round =>
        obtain ⟨k, hk, rfl, hno, hgr⟩ := hrel
        have Hno := Lib.hid hno
        clear hno
        by_cases hlt : k < 4
        · have hat : ckAt n l sc k = !(sc.getD k 0 == (curs n l).getD k 0) := rfl
          obtain ⟨d0, _⟩ := own_int (own_gr Hp.out hgr) (get_of_lt (l := curs n l) (k := k) (by rw [curs_len Hn.out l]; exact hlt))
          obtain ⟨b, o, rfl, hb, d1⟩ := ((HS.out.gr hg9).gr hgr).sl.int (get_of_lt (l := sc) (k := k) (by rw [Hlen4.out]; exact hlt))
          generalize (curs n l).getD k 0 = s at hat d0
          generalize sc.getD k 0 = a at hat d1
          have Hat := Lib.hid hat
          have t1 : (k : Int) < 4 := by omega
          have t0 : (0 : Int) ≤ (k : Int) := by omega
          clear hat
          by_cases e1 : a = s
          · have t2 : (s != a) = false := by simp [e1]
            have E1 : Hid (ckAt n l sc k = false) := Lib.hid (by rw [Hat.out]; simp [e1])
            clear e1
            go_wp2_with fail
            go_quiet (fail)
            go_wp2_with fail
            go_roundw
            case rel => exact ⟨k + 1, by omega, by go_num, nb_next E1.out Hno.out, hgr.drewN _⟩
            case measure => simp [intOf]; omega
          · have t2 : (s != a) = true := by simp; omega
            have V1 := Lib.hid (ck_hit He.out hlt (by rw [Hat.out]; simp [e1]) Hno.out)
            clear e1
            go_wp2_with fail
            go_quiet (fail)
            go_wp2_with fail
            go_ret2
            exact ⟨by rw [V1.out, He.out]; rfl, (hg9.trans hgr).drewN _⟩
        · obtain rfl : k = 4 := by omega
          have V1 := Lib.hid (ck_none He.out Hno.out)
          go_wp2_with fail
          go_ret2
          exact ⟨by rw [V1.out, He.out]; rfl, hg9.trans hgr⟩
  · have e0 : scCode n l sc = trCode n l := by rw [scCode, if_neg hc]
    have V1 : Hid (ckVal n l sc = 0) := Lib.hid (by rw [ckVal, if_neg (by rw [e0]; exact hc)])
    have He := Lib.hid e0
    have tb : (trCode n l != 0) = true := by simp [hc]
    have tc : (trCode n l == 0) = false := by simp [hc]
    clear hc e0
    go_wp2_with fail
    go_ret2
    exact ⟨by rw [V1.out, He.out]; rfl, hg0⟩
theorem CurtailScales_any {A1 A2 A3 : Option Addr} {n1 c1 n2 c2 n3 c3 : Nat} (n : GNet) (l : List GTr) (w : World) (hA : NetAt w A1 n1 c1 A2 n2 c2 n) (hL : SlAt w 4 A3 n3 c3 (l.flatMap GTr.cells)) :
    Calls Try.prog 38 #[.agg #[.slice A1 n1 c1, .slice A2 n2 c2], .slice A3 n3 c3] w fun e w' => ∃ A m c, e = .returned (.tuple #[.slice A m c, .int .i64 (trCode n l)]) ∧ m ≤ 1048576 ∧ w'.ownsRow w.heap.size 2 1 (.slice A m c) m (ints (cuRes n l)) ∧ Gr w w' := by
  have HA := Lib.hid hA
  have HL := Lib.hid hL
  clear hA hL
  go_enter Try.func38, Try.ntmps38
  go_wp2_with fail
  refine (checkTransports_any _ _ _ _ _ _ _ _ _ n l _ (HA.out.gr ((Gr.refl _).alloc _)) (HL.out.sl.gr ((Gr.refl _).alloc _)) HL.out.small).mono ?_
  rintro e w1 ⟨rfl, hg1⟩
  have hg0 : Gr w w1 := ((Gr.refl _).alloc _).trans hg1
  have b0 : w1.cell? ⟨w.heap.size, 0, none⟩ = some (.slice A1 n1 c1) := hg1.has (by simp [go_sem])
  have b1 : w1.cell? ⟨w.heap.size, 1, none⟩ = some (.slice A2 n2 c2) := hg1.has (by simp [go_sem])
  clear hg1
  by_cases hc : trCode n l = 0
  · have Hc := Lib.hid hc
    have Hn := Lib.hid (trCode_zero hc).1
    have Hok := Lib.hid (trCode_zero hc).2
    have Hok1 : Hid (trsOk n1 l = true) := Lib.hid (by rw [← HA.out.l1]; exact (trCode_zero hc).2)
    have tb : (trCode n l != 0) = false := by simp [hc]
    clear hc
    go_wp2_with fail
    refine (curtailScales_any n l _ (HA.out.gr hg0) (HL.out.gr hg0) Hn.out Hok1.out).mono ?_
    rintro e w3 ⟨B, d, rfl, hp, hg3⟩
    have Hp := Lib.hid hp
    clear hp b0 b1
    go_wp2_with fail
    go_ret2
    refine ⟨B, 4, d, by rw [Hc.out]; rfl, by omega, ?_, hg0.trans hg3⟩
    rw [cuRes, if_pos Hc.out]
    exact own_base Hp.out hg0.size
  · have Hc := Lib.hid hc
    have tb : (trCode n l != 0) = true := by simp [hc]
    clear hc
    go_wp2_with fail
    go_ret2
    refine ⟨none, 0, 0, rfl, by omega, ?_, hg0⟩
    rw [cuRes, if_neg Hc.out]
    exact World.ownsRow_nil _ _ _ _
theorem spCurtailScales_any {A1 A2 A3 : Option Addr} {n1 c1 n2 c2 n3 c3 : Nat} (n : GNet) (l : List GTr) (w : World) (hA : NetAt w A1 n1 c1 A2 n2 c2 n) (hL : SlAt w 4 A3 n3 c3 (l.flatMap GTr.cells)) :
    Calls Try.prog 42 #[.agg #[.slice A1 n1 c1, .slice A2 n2 c2], .slice A3 n3 c3] w fun e w' => ∃ A m c, e = .returned (.tuple #[.slice A m c, .int .i64 (trCode n l)]) ∧ m ≤ 1048576 ∧ w'.ownsRow w.heap.size 2 1 (.slice A m c) m (ints (cuRes n l)) ∧ Gr w w' := by
  have HA := Lib.hid hA
  have HL := Lib.hid hL
  clear hA hL
  go_enter Try.func42, Try.ntmps42
  go_wp2_with fail
  refine (l24Code_any n l _ (HA.out.gr ((Gr.refl _).alloc _)) (HL.out.gr ((Gr.refl _).alloc _))).mono ?_
  rintro e w1 ⟨rfl, hg1⟩
  have hg0 : Gr w w1 := ((Gr.refl _).alloc _).trans hg1
  have b0 : w1.cell? ⟨w.heap.size, 0, none⟩ = some (.slice A1 n1 c1) := hg1.has (by simp [go_sem])
  have b1 : w1.cell? ⟨w.heap.size, 1, none⟩ = some (.slice A2 n2 c2) := hg1.has (by simp [go_sem])
  clear hg1
  by_cases hc : trCode n l = 0
  · have Hc := Lib.hid hc
    have Hn := Lib.hid (trCode_zero hc).1
    have Hok := Lib.hid (trCode_zero hc).2
    have Hok1 : Hid (trsOk n1 l = true) := Lib.hid (by rw [← HA.out.l1]; exact (trCode_zero hc).2)
    have tb : (trCode n l != 0) = false := by simp [hc]
    clear hc
    go_wp2_with fail
    refine (l25Scales_any n l _ (HA.out.gr hg0) (HL.out.gr hg0) Hn.out Hok1.out).mono ?_
    rintro e w3 ⟨B, d, rfl, hp, hg3⟩
    have Hp := Lib.hid hp
    clear hp b0 b1
    go_wp2_with fail
    go_ret2
    refine ⟨B, 4, d, by rw [Hc.out]; rfl, by omega, ?_, hg0.trans hg3⟩
    rw [cuRes, if_pos Hc.out]
    exact own_base Hp.out hg0.size
  · have Hc := Lib.hid hc
    have tb : (trCode n l != 0) = true := by simp [hc]
    clear hc
    go_wp2_with fail
    go_ret2
    refine ⟨none, 0, 0, rfl, by omega, ?_, hg0⟩
    rw [cuRes, if_neg Hc.out]
    exact World.ownsRow_nil _ _ _ _
theorem CurtailTransports_any {A1 A2 A3 : Option Addr} {n1 c1 n2 c2 n3 c3 : Nat} (n : GNet) (l : List GTr) (w : World) (hA : NetAt w A1 n1 c1 A2 n2 c2 n) (hL : SlAt w 4 A3 n3 c3 (l.flatMap GTr.cells)) :
    Calls Try.prog 40 #[.agg #[.slice A1 n1 c1, .slice A2 n2 c2], .slice A3 n3 c3] w fun e w' => ∃ A m c, e = .returned (.tuple #[.slice A m c, .int .i64 (trCode n l)]) ∧ m ≤ 1048576 ∧ w'.ownsRow w.heap.size 39 4 (.slice A m c) m ((ctRes n l).flatMap GTr.cells) ∧ Gr w w' := by
  have HA := Lib.hid hA
  have hm3 := hL.small
  have HL := Lib.hid hL
  clear hA hL
  go_enter Try.func40, Try.ntmps40
  go_wp2_with fail
  refine (checkTransports_any _ _ _ _ _ _ _ _ _ n l _ (HA.out.gr ((Gr.refl _).alloc _)) (HL.out.sl.gr ((Gr.refl _).alloc _)) HL.out.small).mono ?_
  rintro e w1 ⟨rfl, hg1⟩
  have hg0 : Gr w w1 := ((Gr.refl _).alloc _).trans hg1
  have b0 : w1.cell? ⟨w.heap.size, 0, none⟩ = some (.slice A1 n1 c1) := hg1.has (by simp [go_sem])
  have b1 : w1.cell? ⟨w.heap.size, 1, none⟩ = some (.slice A2 n2 c2) := hg1.has (by simp [go_sem])
  clear hg1
  by_cases hc : trCode n l = 0
  · have Hc := Lib.hid hc
    have Hn := Lib.hid (trCode_zero hc).1
    have Hok := Lib.hid (trCode_zero hc).2
    have Hok1 : Hid (trsOk n1 l = true) := Lib.hid (by rw [← HA.out.l1]; exact (trCode_zero hc).2)
    have tb : (trCode n l != 0) = false := by simp [hc]
    clear hc
    go_wp2_with fail
    refine (curtailScales_any n l _ (HA.out.gr hg0) (HL.out.gr hg0) Hn.out Hok1.out).mono ?_
    rintro e w3 ⟨B, d, rfl, hp, hg3⟩
    have Hp := Lib.hid hp
    have hg9 := hg0.trans hg3
    clear hp b0 b1
    go_wp2_with fail
    refine (scaledTransports_any n1 l (curs n l) _ (HL.out.gr hg9) (SlAt.of_own Hp.out (by omega)) Hok1.out (curs_ok Hn.out l)).mono ?_
    rintro e w4 ⟨B4, d4, rfl, hp4, hg4⟩
    have Hp4 := Lib.hid hp4
    clear hp4
    go_wp2_with fail
    go_ret2
    refine ⟨B4, n3, d4, by rw [Hc.out]; rfl, hm3, ?_, hg9.trans hg4⟩
    rw [ctRes, if_pos Hc.out]
    exact own_base Hp4.out hg9.size
  · have Hc := Lib.hid hc
    have tb : (trCode n l != 0) = true := by simp [hc]
    clear hc
    go_wp2_with fail
    go_ret2
    refine ⟨none, 0, 0, rfl, by omega, ?_, hg0⟩
    rw [ctRes, if_neg Hc.out]
    exact World.ownsRow_nil _ _ _ _
theorem spCurtailTransports_any {A1 A2 A3 : Option Addr} {n1 c1 n2 c2 n3 c3 : Nat} (n : GNet) (l : List GTr) (w : World) (hA : NetAt w A1 n1 c1 A2 n2 c2 n) (hL : SlAt w 4 A3 n3 c3 (l.flatMap GTr.cells)) :
    Calls Try.prog 41 #[.agg #[.slice A1 n1 c1, .slice A2 n2 c2], .slice A3 n3 c3] w fun e w' => ∃ A m c, e = .returned (.tuple #[.slice A m c, .int .i64 (trCode n l)]) ∧ m ≤ 1048576 ∧ w'.ownsRow w.heap.size 39 4 (.slice A m c) m ((ctRes n l).flatMap GTr.cells) ∧ Gr w w' := by
  have HA := Lib.hid hA
  have hm3 := hL.small
  have HL := Lib.hid hL
  clear hA hL
  go_enter Try.func41, Try.ntmps41
  go_wp2_with fail
  refine (l24Code_any n l _ (HA.out.gr ((Gr.refl _).alloc _)) (HL.out.gr ((Gr.refl _).alloc _))).mono ?_
  rintro e w1 ⟨rfl, hg1⟩
  have hg0 : Gr w w1 := ((Gr.refl _).alloc _).trans hg1
  have b0 : w1.cell? ⟨w.heap.size, 0, none⟩ = some (.slice A1 n1 c1) := hg1.has (by simp [go_sem])
  have b1 : w1.cell? ⟨w.heap.size, 1, none⟩ = some (.slice A2 n2 c2) := hg1.has (by simp [go_sem])
  clear hg1
  by_cases hc : trCode n l = 0
  · have Hc := Lib.hid hc
    have Hn := Lib.hid (trCode_zero hc).1
    have Hok := Lib.hid (trCode_zero hc).2
    have Hok1 : Hid (trsOk n1 l = true) := Lib.hid (by rw [← HA.out.l1]; exact (trCode_zero hc).2)
    have tb : (trCode n l != 0) = false := by simp [hc]
    clear hc
    go_wp2_with fail
    refine (l25Scales_any n l _ (HA.out.gr hg0) (HL.out.gr hg0) Hn.out Hok1.out).mono ?_
    rintro e w3 ⟨B, d, rfl, hp, hg3⟩
    have Hp := Lib.hid hp
    have hg9 := hg0.trans hg3
    clear hp b0 b1
    go_wp2_with fail
    refine (l24Scale_any n1 l (curs n l) _ (HL.out.gr hg9) (SlAt.of_own Hp.out (by omega)) Hok1.out (curs_ok Hn.out l)).mono ?_
    rintro e w4 ⟨B4, d4, rfl, hp4, hg4⟩
    have Hp4 := Lib.hid hp4
    clear hp4
    go_wp2_with fail
    go_ret2
    refine ⟨B4, n3, d4, by rw [Hc.out]; rfl, hm3, ?_, hg9.trans hg4⟩
    rw [ctRes, if_pos Hc.out]
    exact own_base Hp4.out hg9.size
  · have Hc := Lib.hid hc
    have tb : (trCode n l != 0) = true := by simp [hc]
    clear hc
    go_wp2_with fail
    go_ret2
    refine ⟨none, 0, 0, rfl, by omega, ?_, hg0⟩
    rw [ctRes, if_neg Hc.out]
    exact World.ownsRow_nil _ _ _ _
set_option maxHeartbeats 1000000 in
set_option maxRecDepth 100000 in
theorem spServedShare_any {A1 A2 A3 : Option Addr} {n1 c1 n2 c2 n3 c3 : Nat} (n : GNet) (l : List GTr) (w : World) (hA : NetAt w A1 n1 c1 A2 n2 c2 n) (hL : SlAt w 4 A3 n3 c3 (l.flatMap GTr.cells)) :
    Calls Try.prog 51 #[.agg #[.slice A1 n1 c1, .slice A2 n2 c2], .slice A3 n3 c3] w fun e w' => e = .returned (.tuple #[.int .i64 (ssVal n l), .int .i64 (trCode n l)]) ∧ Gr w w' := by
  have HA := Lib.hid hA
  have HL := Lib.hid hL
  clear hA hL
  go_enter Try.func51, Try.ntmps51
  go_wp2_with fail
  refine (spCurtailTransports_any n l _ (HA.out.gr ((Gr.refl _).alloc _)) (HL.out.gr ((Gr.refl _).alloc _))).mono ?_
  rintro e w1 ⟨B, m, d, rfl, hm, hp, hg1⟩
  have hg0 : Gr w w1 := ((Gr.refl _).alloc _).trans hg1
  have Hp := Lib.hid hp
  clear hp
  by_cases hc : trCode n l = 0
  · have Hc := Lib.hid hc
    have Hn := Lib.hid (trCode_zero hc).1
    have Hok := Lib.hid (trCode_zero hc).2
    have Hok1 : Hid (trsOk n1 l = true) := Lib.hid (by rw [← HA.out.l1]; exact (trCode_zero hc).2)
    have tb : (trCode n l != 0) = false := by simp [hc]
    clear hc
    have Hp1 := Hp.out
    rw [ctRes, if_pos Hc.out] at Hp1
    have HP := Lib.hid Hp1
    clear Hp1
    have Hok4 := Lib.hid (scaled_ok Hok1.out (curs_ok Hn.out l))
    go_wp2_with fail
    refine (l25Sum_any n1 l _ (HL.out.gr hg0) Hok1.out).mono ?_
    rintro e _ ⟨rfl, rfl⟩
    have Hv : Hid (ssVal n l = if amtSum l = 0 then 100 else 100 * amtSum (scaled (curs n l) l) / amtSum l) := Lib.hid (by rw [ssVal, if_pos Hc.out])
    have hQ := amtSum_lim Hok.out
    obtain ⟨Q, hQe⟩ : ∃ Q, Q = amtSum l := ⟨_, rfl⟩
    rw [← hQe] at hQ Hv ⊢
    have HQe := Lib.hid hQe
    clear hQe
    by_cases hq : Q = 0
    · have tq : (Q == 0) = true := by simp [hq]
      have Hq := Lib.hid hq
      clear hq
      go_wp2_with fail
      go_ret2
      exact ⟨by rw [Hv.out, if_pos Hq.out, Hc.out]; rfl, hg0⟩
    · have tq : (Q == 0) = false := by simp [hq]
      go_wp2_with fail
      refine (l25Sum_any n1 _ _ (SlAt.of_own HP.out hm) Hok4.out).mono ?_
      rintro e _ ⟨rfl, rfl⟩
      have hS := amtSum_lim Hok4.out
      generalize amtSum (scaled (curs n l) l) = S at Hv hS ⊢
      obtain ⟨hw1, hw2⟩ := ss_div hS hQ
      have Hq := Lib.hid hq
      go_wp2_with fail
      refine (l25Sum_any n1 l _ (HL.out.gr hg0) Hok1.out).mono ?_
      rintro e _ ⟨rfl, rfl⟩
      rw [← HQe.out]
      go_wp2_with fail
      go_ret2
      exact ⟨by rw [Hv.out, if_neg Hq.out, Hc.out]; rfl, hg0⟩
  · have Hc := Lib.hid hc
    have tb : (trCode n l != 0) = true := by simp [hc]
    clear hc
    go_wp2_with fail
    go_ret2
    exact ⟨by rw [ssVal, if_neg Hc.out]; rfl, hg0⟩
end Go.Proofs.Ytejfpajbkgfiaaa
/-
  CurtailedAmounts: the program and the reference.
-/
namespace Go.Proofs.Ytejfpajbkgfiaaa
open Go.ChangeShapes Go.WideShapes Go.ChangeAt Go.RowKit

noncomputable def lostAt (n : GNet) (l : List GTr) (k : Nat) : Int := ((l.map (lostOne n l)).getD k 0)
theorem lostAt_eq {n : GNet} {l : List GTr} {k : Nat} {x : GTr} (hx : l[k]? = some x) : lostAt n l k = x.amount - scaleAmt (curs n l) x := by
  rw [lostAt, List.getD_eq_getElem?_getD, List.getElem?_map, hx]; rfl
theorem lost_full (n : GNet) (l : List GTr) (m : Nat) (hm : l.length = m) : overTo (lostAt n l) (List.replicate m 0) m = l.map (lostOne n l) := by
  have h := overTo_full (lostAt n l) (List.replicate m 0)
  rw [List.length_replicate] at h
  rw [h]
  apply List.ext_getElem?
  intro j
  rw [List.getElem?_map]
  by_cases hj : j < m
  · rw [List.getElem?_range hj]
    show some (lostAt n l j) = _
    rw [lostAt, get_of_lt (by simpa using (by omega : j < l.length))]
  · rw [List.getElem?_eq_none (by simpa using Nat.le_of_not_lt hj), List.getElem?_eq_none (by simp; omega)]; rfl
theorem scaled_get {sc : List Int} {l : List GTr} {k : Nat} {x : GTr} (hx : l[k]? = some x) : (scaled sc l)[k]? = some (scaleOne sc x) := by
  rw [scaled, List.getElem?_map, hx]; rfl
set_option maxHeartbeats 2000000 in
set_option maxRecDepth 100000 in
theorem CurtailedAmounts_any {A1 A2 A3 : Option Addr} {n1 c1 n2 c2 n3 c3 : Nat} (n : GNet) (l : List GTr) (w : World) (hA : NetAt w A1 n1 c1 A2 n2 c2 n) (hL : SlAt w 4 A3 n3 c3 (l.flatMap GTr.cells)) :
    Calls Try.prog 46 #[.agg #[.slice A1 n1 c1, .slice A2 n2 c2], .slice A3 n3 c3] w fun e w' => ∃ A m c, e = .returned (.tuple #[.slice A m c, .int .i64 (trCode n l)]) ∧ m ≤ 1048576 ∧ w'.ownsRow w.heap.size 2 1 (.slice A m c) m (ints (caRes n l)) ∧ Gr w w' := by
  obtain ⟨i0, hi0, hz0, hz1, hz2⟩ := info_parts infoInt64
  have HA := Lib.hid hA
  have hm3 := hL.small
  have hlen := hL.sl.len GTr.cells_len (by omega)
  have Hlen := Lib.hid hlen
  have HL := Lib.hid hL
  clear hA hL hlen
  go_enter Try.func46, Try.ntmps46
  go_wp2_with fail
  refine (checkTransports_any _ _ _ _ _ _ _ _ _ n l _ (HA.out.gr ((Gr.refl _).alloc _)) (HL.out.sl.gr ((Gr.refl _).alloc _)) HL.out.small).mono ?_
  rintro e w1 ⟨rfl, hg1⟩
  have hg0 : Gr w w1 := ((Gr.refl _).alloc _).trans hg1
  have b0 : w1.cell? ⟨w.heap.size, 0, none⟩ = some (.slice A1 n1 c1) := hg1.has (by simp [go_sem])
  have b1 : w1.cell? ⟨w.heap.size, 1, none⟩ = some (.slice A2 n2 c2) := hg1.has (by simp [go_sem])
  clear hg1
  by_cases hc : trCode n l = 0
  · have Hc := Lib.hid hc
    have Hn := Lib.hid (trCode_zero hc).1
    have Hok := Lib.hid (trCode_zero hc).2
    have Hok1 : Hid (trsOk n1 l = true) := Lib.hid (by rw [← HA.out.l1]; exact (trCode_zero hc).2)
    have tb : (trCode n l != 0) = false := by simp [hc]
    clear hc
    go_wp2_with (at_make; refine wpList_make_full _ rfl _ _ _ rfl w.heap.size 2 i0 _ 1 Try.underlying33 hi0 hz0 hz1 .i64 .i64 _ _ n3 rfl rfl rfl rfl (by rw [hz2]; omega) (by unfold maxLen; omega) hg0.size ?_; intro w2 hown hg; have hgx : Gr w1 w2 := Gr.of_grown hg; replace b0 := hgx.has b0; replace b1 := hgx.has b1)
    have o1 : w2.ownsRow w.heap.size 2 1 (.slice (some ⟨w1.heap.size, 0, none⟩) n3 n3) n3 (ints (List.replicate n3 0)) := by
      have := own_cells_eq hown (made_ints n3)
      simpa using this
    have hg2 : Gr w w2 := hg0.trans hgx
    obtain ⟨S, hS⟩ : ∃ S, S = w1.heap.size := ⟨_, rfl⟩
    have hS0 := hg0.size
    have hS1 : S < w2.heap.size ∨ n3 = 0 := by
      rcases Nat.eq_zero_or_pos n3 with h | h
      · exact Or.inr h
      · obtain ⟨g, e, _, h2⟩ := own_form hown h
        injection e with e; injection e with e; exact Or.inl (by omega)
    rw [← hS] at o1 hS0 ⊢
    have O1 := Lib.hid o1
    clear o1 hown hg hgx hS
    refine (curtailScales_any n l _ (HA.out.gr hg2) (HL.out.gr hg2) Hn.out Hok1.out).mono ?_
    rintro e w3 ⟨B, d, rfl, hp, hg3⟩
    have Hp := Lib.hid hp
    have hg9 := hg2.trans hg3
    clear hp b0 b1
    go_wp2_with fail
    refine (scaledTransports_any n1 l (curs n l) _ (HL.out.gr hg9) (SlAt.of_own Hp.out (by omega)) Hok1.out (curs_ok Hn.out l)).mono ?_
    rintro e w4 ⟨B4, d4, rfl, hp4, hg4⟩
    have Hp4 := Lib.hid hp4
    have hg10 := hg9.trans hg4
    have hz4 := hg3.size
    have HB : Hid (∀ k x, l[k]? = some x → ∃ b, B4 = some ⟨b, 0, none⟩ ∧ w3.heap.size ≤ b) := Lib.hid (fun k x hx => by
      have hk := (List.getElem?_eq_some_iff.1 hx).1
      obtain ⟨g, e, h1, _⟩ := own_form hp4 (by have := Hlen.out; omega)
      exact ⟨g, e, h1⟩)
    clear hp4 hi0 hz0 hz1 hz2
    go_wp2_with fail
    go_loopw [25] (fun i wr => ∃ k : Nat, k ≤ n3 ∧ i = .int .i64 k ∧ wr.ownsRow w.heap.size 2 1 (.slice (some ⟨S, 0, none⟩) n3 n3) n3 (ints (overTo (lostAt n l) (List.replicate n3 0) k)) ∧ wr.ownsRow w3.heap.size 39 4 (.slice B4 n3 d4) n3 ((scaled (curs n l) l).flatMap GTr.cells) ∧ Gr w wr) (fun i _ => n3 - (intOf i).toNat)
    case atStart => exact ⟨0, Nat.zero_le _, rfl, by rw [overTo_zero]; exact own_gr O1.out (hg3.trans hg4), Hp4.out, hg10⟩
    case round =>
      obtain ⟨k, hk, rfl, hown, hsc, hgr⟩ := hrel
      clear O1 Hp4
      by_cases hlt : k < n3
      · obtain ⟨x, hx⟩ : ∃ x, l[k]? = some x := ⟨_, List.getElem?_eq_getElem (by have := Hlen.out; omega)⟩
        obtain ⟨q, rfl, hq3⟩ := HB.out k x hx
        obtain ⟨b, o, rfl, hb, e0, e1, e2, e3⟩ := (HL.out.sl.gr hgr).tr hx
        obtain ⟨s0, s1, s2, s3, _, _, _, _⟩ := own_tr hsc (scaled_get hx)
        obtain ⟨p1, p2⟩ := lost_bnd Hn.out Hok.out hx
        have Hla := Lib.hid (lostAt_eq (n := n) hx)
        have hSq : S < w2.heap.size := by rcases hS1 with h | h <;> omega
        change wr.cell? ⟨q, k * 4 + 2, none⟩ = some (.int .i64 (scaleAmt (curs n l) x)) at s2
        change wr.cell? ⟨q, k * 4, none⟩ = some (.int .i64 x.entry) at s0
        change wr.cell? ⟨q, k * 4 + 1, none⟩ = some (.int .i64 x.exit) at s1
        change wr.cell? ⟨q, k * 4 + 3, none⟩ = some (.int .i64 x.cls) at s3
        generalize scaleAmt (curs n l) x = y at s2 p2 Hla
        have Hown := Lib.hid hown
        have Hsc := Lib.hid hsc
        have t1 : (k : Int) < (n3 : Int) := by omega
        have t0 : (0 : Int) ≤ (k : Int) := by omega
        clear hx hown hsc e0 e1 e3
        go_wp2_with fail
        obtain ⟨w5, hw5⟩ : ∃ w5, w5 = wr.alloc (.cells #[.int .i64 x.entry, .int .i64 x.exit, .int .i64 y, .int .i64 x.cls] 39) := ⟨_, rfl⟩
        have hg5 : Gr wr w5 := by rw [hw5]; exact (Gr.refl _).alloc _
        have y2 : w5.cell? ⟨wr.heap.size, 2, none⟩ = some (.int .i64 y) := by rw [hw5]; simp [go_sem]
        rw [← hw5]
        clear hw5
        replace e2 := hg5.has e2
        have own5 := own_gr Hown.out hg5
        have sc5 := own_gr Hsc.out hg5
        obtain ⟨d0, d1⟩ := own_int own5 (k := k) (x := 0) (by rw [overTo_get]; simp [hlt])
        obtain ⟨R1, R2⟩ := own_set_int own5 k (x.amount - y)
        rw [overTo_set _ _ (by simpa using hlt) Hla.out.symm] at R1
        have hscR := own_chg sc5 (chg_of_grown (S := fun j => j = S) R2 (fun j e => by injection e with e; exact e.symm)) (fun j hj => by have := own_base_le sc5 hj; omega)
        have hgrR := (hgr.trans hg5).grown R2 (fun _ e => by injection e with e; omega)
        have HR1 := Lib.hid R1
        have HscR := Lib.hid hscR
        have HgrR := Lib.hid hgrR
        clear own5 sc5 R1 R2 hscR hgrR s0 s1 s2 s3
        have hwr : IntKind.i64.wrap (x.amount - y) = x.amount - y := IntWalk.i64_in _ (by omega)
        refine wp_region_last (fun w' => w' = w5.drew) (fun w' => w' = (w5.setCell ⟨S, k, none⟩ (.int .i64 (x.amount - y))).drew) (by kernel_rfl) (by kernel_rfl) (by decide) rfl ?_
        repeat (first
            | ((with_reducible refine wpText_skip ?_ ?_)
               · rfl
               simp only [Act.put, List.setIfInBounds_toArray, List.set_cons_zero, List.set_cons_succ])
            | ((with_reducible refine wpText_yield (v := ?_) ?_ ?_ ?_)
               rotate_left
               · rfl
               · intro W hW; first | (go_simp; done) | (go_simp; with_reducible rfl)
               simp only [Act.put, List.setIfInBounds_toArray, List.set_cons_zero, List.set_cons_succ])
            | ((with_reducible refine wpText_yield1 (v := ?_) ?_ ?_ ?_)
               rotate_left
               · rfl
               · intro W hW; first | (go_simp; done) | (go_simp; with_reducible rfl)
               simp only [Act.put, List.setIfInBounds_toArray, List.set_cons_zero, List.set_cons_succ]))
        (first
            | ((with_reducible refine wpText_do1 undef ?_ ?_ ?_)
               · rfl
               · intro W hW K hK
                 subst hW
                 go_simp
                 exact hK _ rfl
               simp only [Act.put]))
        rintro w6 rfl
        clear hwr
        go_wp2_with fail
        go_roundw
        case rel => exact ⟨k + 1, by omega, by go_num, HR1.out.drew, HscR.out.drew, HgrR.out.drew⟩
        case measure => simp [intOf]; omega
      · obtain rfl : k = n3 := by omega
        have Hown := Lib.hid hown
        clear hown hsc
        go_wp2_with fail
        go_ret2
        refine ⟨_, _, _, by rw [Hc.out]; rfl, hm3, ?_, hgr⟩
        have h := Hown.out
        rw [lost_full n l k Hlen.out] at h
        rw [caRes, if_pos Hc.out]
        exact h
  · have Hc := Lib.hid hc
    have tb : (trCode n l != 0) = true := by simp [hc]
    clear hc
    go_wp2_with fail
    go_ret2
    refine ⟨none, 0, 0, rfl, by omega, ?_, hg0⟩
    rw [caRes, if_neg Hc.out]
    exact World.ownsRow_nil _ _ _ _
set_option maxHeartbeats 3200000 in
set_option maxRecDepth 100000 in
theorem spCurtailedAmounts_any {A1 A2 A3 : Option Addr} {n1 c1 n2 c2 n3 c3 : Nat} (n : GNet) (l : List GTr) (w : World) (hA : NetAt w A1 n1 c1 A2 n2 c2 n) (hL : SlAt w 4 A3 n3 c3 (l.flatMap GTr.cells)) :
    Calls Try.prog 47 #[.agg #[.slice A1 n1 c1, .slice A2 n2 c2], .slice A3 n3 c3] w fun e w' => ∃ A m c, e = .returned (.tuple #[.slice A m c, .int .i64 (trCode n l)]) ∧ m ≤ 1048576 ∧ w'.ownsRow w.heap.size 2 1 (.slice A m c) m (ints (caRes n l)) ∧ Gr w w' := by
  obtain ⟨i0, hi0, hz0, hz1, hz2⟩ := info_parts infoInt64
  have HA := Lib.hid hA
  have hm3 := hL.small
  have hlen := hL.sl.len GTr.cells_len (by omega)
  have Hlen := Lib.hid hlen
  have HL := Lib.hid hL
  clear hA hL hlen
  go_enter Try.func47, Try.ntmps47
  go_wp2_with fail
  refine (spCurtailTransports_any n l _ (HA.out.gr ((Gr.refl _).alloc _)) (HL.out.gr ((Gr.refl _).alloc _))).mono ?_
  rintro e w1 ⟨B, m, d, rfl, hm, hp, hg1⟩
  have hg0 : Gr w w1 := ((Gr.refl _).alloc _).trans hg1
  have Hp := Lib.hid hp
  clear hp hg1
  by_cases hc : trCode n l = 0
  · have Hc := Lib.hid hc
    have Hn := Lib.hid (trCode_zero hc).1
    have Hok := Lib.hid (trCode_zero hc).2
    have Hok1 : Hid (trsOk n1 l = true) := Lib.hid (by rw [← HA.out.l1]; exact (trCode_zero hc).2)
    have tb : (trCode n l != 0) = false := by simp [hc]
    clear hc
    have Hp1 := Hp.out
    rw [ctRes, if_pos Hc.out] at Hp1
    obtain rfl : m = n3 := by
      have := own_len Hp1 GTr.cells_len (by omega)
      rw [← this, ← Hlen.out]; simp [scaled]
    have HP := Lib.hid Hp1
    clear Hp1 Hp
    go_wp2_with fail
    go_loopw [8, 9] (fun o i wr => ∃ k : Nat, k ≤ m ∧ i = .int .i64 k ∧ (∃ A c, o = .slice A k c) ∧ wr.ownsRow w1.heap.size 2 1 o k (ints ((l.take k).map (lostOne n l))) ∧ Gr w1 wr) (fun _ i _ => m - (intOf i).toNat)
    case atStart => exact ⟨0, Nat.zero_le _, rfl, ⟨_, _, rfl⟩, World.ownsRow_lit w1 #[] 0 (Nat.le_refl _) (by unfold maxLen; omega) rfl, (Gr.refl _).alloc _⟩
    case round =>
      obtain ⟨k, hk, rfl, ⟨A, c, rfl⟩, hownr, hgr⟩ := hrel
      have Hown := Lib.hid hownr
      clear hownr
      by_cases hlt : k < m
      · obtain ⟨x, hx⟩ : ∃ x, l[k]? = some x := ⟨_, List.getElem?_eq_getElem (by have := Hlen.out; omega)⟩
        obtain ⟨q, rfl, _, hq3⟩ := own_form HP.out (by omega)
        obtain ⟨b, o, rfl, hb, e0, e1, e2, e3⟩ := (HL.out.sl.gr hg0).tr hx
        obtain ⟨s0, s1, s2, s3, _, _, _, _⟩ := own_tr HP.out (scaled_get hx)
        obtain ⟨p1, p2⟩ := lost_bnd Hn.out Hok.out hx
        have hstep := map_take_succ (lostOne n l) l hx
        rw [show lostOne n l x = x.amount - scaleAmt (curs n l) x from rfl] at hstep
        have Hst := Lib.hid hstep
        change w1.cell? ⟨q, k * 4 + 2, none⟩ = some (.int .i64 (scaleAmt (curs n l) x)) at s2
        generalize scaleAmt (curs n l) x = y at s2 p2 Hst
        have hfar : ∀ j, (Value.slice A k c).ownBlock = some j → j ≠ b ∧ j ≠ q := by
          intro j hj
          have h1 := own_base_le Hown.out hj
          omega
        replace e2 := hgr.has e2
        replace s2 := hgr.has s2
        have hbase := hgr.size
        have t1 : (k : Int) < (m : Int) := by omega
        have t0 : (0 : Int) ≤ (k : Int) := by omega
        have hwr : IntKind.i64.wrap (x.amount - y) = x.amount - y := IntWalk.i64_in _ (by omega)
        clear hx hstep e0 e1 e3 s0 s1 s3
        go_wp2_with fail
        go_region_held3 (fun w' => w'.cell? ⟨b, o + k * 4 + 2, none⟩ = some (.int .i64 x.amount) ∧ w'.cell? ⟨q, k * 4 + 2, none⟩ = some (.int .i64 y))
          (first
            | go_keep
            | (go_split_ands
               refine ⟨?_, ?_⟩
               · (rw [hgrow.cell_far _ (by simp; omega) (fun e => (hfar _ e.symm).1 rfl)]; assumption)
               · (rw [hgrow.cell_far _ (by simp; omega) (fun e => (hfar _ e.symm).2 rfl)]; assumption)))
          ((refine step_append_lies _ (by rfl) _ _ _ (by rfl) w1.heap.size 2 i0 _ 1 8 Try.underlying33 hi0 hz0 hz1 hz2 rfl (by omega) _ k _ (by rfl) ((Hown.out.alloc _).drew) ⟨wr.heap.size, 0, none⟩ 1 1 [.int .i64 (x.amount - y)] (by rfl) (by rfl) (World.news_of_block (cs := #[.int .i64 (x.amount - y)]) (t := 2) (fr := (0, 0)) (heap_alloc_new wr _)) (by simp [Value.oneCell']) (by omega) (by unfold maxLen; omega) (by omega) (by simp; omega) (wr.heap.size + 1) (by simp) ?_; intro gg cap w2 hown1 hgrow hat hlt2))
        clear hwr hfar
        have Ho2 := Lib.hid hown1
        clear hown1
        go_wp2_with fail
        go_roundw
        case rel =>
          refine ⟨k + 1, by omega, by go_num, ⟨_, _, rfl⟩, ?_, ?_⟩
          · rw [Hst.out, ints_snoc]; exact Ho2.out
          · exact ((hgr.alloc _).drew).grown hgrow (fun j hj => own_base_le Hown.out hj)
        case measure => simp [intOf]; omega
      · obtain rfl : k = m := by omega
        go_wp2_with fail
        go_ret2
        refine ⟨_, _, _, by rw [Hc.out]; rfl, hm3, ?_, hg0.trans hgr⟩
        have h := Hown.out
        rw [List.take_of_length_le (by rw [Hlen.out]; exact Nat.le_refl _)] at h
        rw [caRes, if_pos Hc.out]
        exact own_base h hg0.size
  · have Hc := Lib.hid hc
    have tb : (trCode n l != 0) = true := by simp [hc]
    clear hc
    go_wp2_with fail
    go_ret2
    refine ⟨none, 0, 0, rfl, by omega, ?_, hg0⟩
    rw [caRes, if_neg Hc.out]
    exact World.ownsRow_nil _ _ _ _
end Go.Proofs.Ytejfpajbkgfiaaa
