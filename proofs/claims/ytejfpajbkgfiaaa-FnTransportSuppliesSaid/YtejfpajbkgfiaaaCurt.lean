/-
  The scales of curtailing: the program and the reference.
-/
import Derived.Test.YtejfpajbkgfiaaaFit
import Derived.Test.YtejfpajbkgfiaaaScales
import Derived.Test.YtejfpajbkgfiaaaWts
namespace Go.Proofs.Ytejfpajbkgfiaaa
open Go.ChangeShapes Go.WideShapes Go.ChangeAt Go.RowKit

def cellN (w : World) (S k : Nat) : Nat := (w.cell? ⟨S, k, none⟩).elim 0 fun v => (intOf v).toNat
theorem cellN_eq {w : World} {S k : Nat} {s : Nat} (h : w.cell? ⟨S, k, none⟩ = some (.int .i64 (s : Int))) : cellN w S k = s := by
  rw [cellN, h]; simp [intOf]
set_option maxHeartbeats 2000000 in
set_option maxRecDepth 100000 in
theorem curtailScales_any {A1 A2 A3 : Option Addr} {n1 c1 n2 c2 n3 c3 : Nat} (n : GNet) (l : List GTr) (w : World) (hA : NetAt w A1 n1 c1 A2 n2 c2 n) (hL : SlAt w 4 A3 n3 c3 (l.flatMap GTr.cells)) (hn : netOk n = true) (hok : trsOk n1 l = true) :
    Calls Try.prog 109 #[.agg #[.slice A1 n1 c1, .slice A2 n2 c2], .slice A3 n3 c3] w fun e w' => ∃ A c, e = .returned (.slice A 4 c) ∧ w'.ownsRow w.heap.size 2 1 (.slice A 4 c) 4 (ints (curs n l)) ∧ Gr w w' := by
  obtain ⟨i0, hi0, hz0, hz1, hz2⟩ := info_parts infoInt64
  have hm1 := hA.m1
  have hm3 := hL.small
  have HA := Lib.hid hA
  have HL := Lib.hid hL
  have Hn := Lib.hid hn
  have Hok := Lib.hid hok
  clear hA hL hn hok
  go_enter Try.func109, Try.ntmps109
  go_wp2_with (at_make; refine wpList_make_full _ rfl _ _ _ rfl w.heap.size 2 i0 _ 1 Try.underlying33 hi0 hz0 hz1 .i64 .i64 _ _ 4 rfl rfl rfl rfl (by rw [hz2]; omega) (by unfold maxLen; omega) (by simp) ?_; intro w1 hown1 hg1; have hq1 : Gr (w.alloc (.cells #[.slice A1 n1 c1, .slice A2 n2 c2] 27)) w1 := Gr.of_grown hg1; have Ho1 := Lib.hid hown1; clear hown1)
  have o1 : w1.ownsRow w.heap.size 2 1 (.slice (some ⟨w.heap.size + 1, 0, none⟩) 4 4) 4 (ints (curTo n l 0)) := by
    have := own_cells_eq Ho1.out (made_ints 4)
    have e : curTo n l 0 = List.replicate 4 0 := rfl
    rw [e]
    simpa using this
  try rw [show (w.alloc (.cells #[.slice A1 n1 c1, .slice A2 n2 c2] 27)).heap.size = w.heap.size + 1 by simp]
  obtain ⟨wn, hwn⟩ : ∃ wn, wn = w.alloc (.cells #[.slice A1 n1 c1, .slice A2 n2 c2] 27) := ⟨_, rfl⟩
  have hgn : Gr w wn := by rw [hwn]; exact (Gr.refl _).alloc _
  have cn0 : wn.cell? ⟨w.heap.size, 0, none⟩ = some (.slice A1 n1 c1) := by rw [hwn]; simp [go_sem]
  have cn1 : wn.cell? ⟨w.heap.size, 1, none⟩ = some (.slice A2 n2 c2) := by rw [hwn]; simp [go_sem]
  have hsn : wn.heap.size = w.heap.size + 1 := by rw [hwn]; simp
  rw [← hwn] at hq1
  obtain ⟨S, hS⟩ : ∃ S, S = w.heap.size + 1 := ⟨_, rfl⟩
  rw [← hS] at o1 hsn
  rw [← hS]
  have hwS : w.heap.size < S := by omega
  have hnS : wn.heap.size ≤ S := Nat.le_of_eq hsn
  have O1 := Lib.hid o1
  clear o1 Ho1 hg1 hS hwn hsn
  go_loopw [10] (fun i wr => ∃ k : Nat, k ≤ 4 ∧ i = .int .i64 k ∧ wr.ownsRow w.heap.size 2 1 (.slice (some ⟨S, 0, none⟩) 4 4) 4 (ints (curTo n l k)) ∧ Gr wn wr) (fun i _ => 4 - (intOf i).toNat)
  case atStart => exact ⟨0, Nat.zero_le _, rfl, O1.out, hq1⟩
  case round =>
    obtain ⟨k, hk, rfl, hown, hgr⟩ := hrel
    clear hq1 O1
    by_cases hlt : k < 4
    · obtain ⟨q1, q2, q3⟩ := curTo_spec Hn.out l k hk
      have hl4 : (curTo n l k).length = 4 := (scOk_all q1).1
      obtain ⟨d0, d1⟩ := own_int hown (get_of_lt (l := curTo n l k) (k := k) (by omega))
      obtain ⟨R1, R2⟩ := own_set_int hown k 100
      have hgr2 := hgr.grown R2 (fun _ e => by injection e with e; omega)
      have HR1 := Lib.hid R1
      have Hq1 := Lib.hid q1
      have u0 : (0 : Int) ≤ (k : Int) := by omega
      have u1 : (k : Int) < 4 := by omega
      clear hown R1 R2 q1 q2 q3 hgr
      go_wp2_with fail
      generalize hw3 : World.setCell wr _ _ = w3
      rw [hw3] at HR1 hgr2
      clear hw3 d0 d1
      go_loopw [21] (fun _ wr => ∃ s : Nat, s ≤ 100 ∧ wr.ownsRow w.heap.size 2 1 (.slice (some ⟨S, 0, none⟩) 4 4) 4 (ints ((curTo n l k).set k (s : Int))) ∧ topS (curP n l k) s = topS (curP n l k) 100 ∧ Gr wn wr) (fun _ wr => cellN wr S k)
      case atStart => exact ⟨100, Nat.le_refl _, HR1.out, rfl, hgr2⟩
      case round =>
        obtain ⟨s, hs, hown, htop, hgr⟩ := hrel
        clear HR1 hgr2
        have hsc : scOk ((curTo n l k).set k (s : Int)) = true := scOk_set Hq1.out k (by omega) (by omega)
        obtain ⟨d0, d1⟩ := own_int hown (k := k) (x := (s : Int)) (List.getElem?_set_self (by omega))
        have hcn := cellN_eq d0
        have b0 := hgr.has cn0
        have b1 := hgr.has cn1
        have Hown := Lib.hid hown
        have Hsc := Lib.hid hsc
        have Htop := Lib.hid htop
        have hgw := hgn.trans hgr
        have Hcn := Lib.hid hcn
        clear hown hsc htop hcn
        go_wp2_with fail
        go_region_held3 (fun w' => Gr wr w' ∧ w'.cell? ⟨w.heap.size, 0, none⟩ = some (.slice A1 n1 c1) ∧ w'.cell? ⟨w.heap.size, 1, none⟩ = some (.slice A2 n2 c2))
          (first | exact ⟨(Gr.refl _).drew, b0, b1⟩ | exact ⟨by assumption, (by assumption : Gr wr _).has b0, (by assumption : Gr wr _).has b1⟩)
          (first
            | (go_at_call 96; refine (scaledTransports_any n1 l _ _ (HL.out.gr hgw.drew) (SlAt.of_own Hown.out.drew (by omega)) Hok.out Hsc.out).mono ?_; rintro e w5 ⟨A', c', rfl, ho, hg2⟩; have Ho := Lib.hid ho; clear ho; have hx : Gr wr w5 := (Gr.refl _).drew.trans hg2)
            | (go_at_call 104; refine (doFit_any n _ _ (HA.out.gr (hgw.trans hx)) (SlAt.of_own Ho.out hm3) (scaled_ok Hok.out Hsc.out)).mono ?_; rintro e w6 ⟨rfl, hg3⟩; have hy : Gr wr w6 := hx.trans hg3))
        have hcp : curP n l k s = fitB n (scaled ((curTo n l k).set k (s : Int)) l) := rfl
        generalize fitB n (scaled ((curTo n l k).set k (s : Int)) l) = fb at hcp ⊢
        have Hcp := Lib.hid hcp
        have o6 := own_gr Hown.out hy
        obtain ⟨d0', d1'⟩ := own_int o6 (k := k) (x := (s : Int)) (List.getElem?_set_self (by omega))
        have b0' := hy.has b0
        have b1' := hy.has b1
        have hg6 : Gr wn w6 := hgr.trans hy
        have O6 := Lib.hid o6
        clear hcp o6 b0 b1 d0 d1 hx
        cases fb
        · obtain ⟨t, rfl⟩ := cur_pos Hn.out l hlt Hcp.out
          obtain ⟨R1, R2⟩ := own_set_int O6.out k (t : Int)
          rw [List.set_set] at R1
          have HR := Lib.hid R1
          have hgR := hg6.grown R2 (fun _ e => by injection e with e; omega)
          have hw1 : IntKind.i64.wrap (((t + 1 : Nat) : Int) - 1) = (t : Int) := by rw [show ((t + 1 : Nat) : Int) - 1 = (t : Int) by omega]; exact IntWalk.i64_in _ (by omega)
          have Hlen := Lib.hid hl4
          clear R1 R2 hl4
          go_wp2_with fail
          go_roundw
          case rel => exact ⟨t, by omega, HR.out, by rw [← topS_not Hcp.out]; exact Htop.out, hgR⟩
          case measure =>
            obtain ⟨q0, _⟩ := own_int HR.out (k := k) (x := (t : Int)) (List.getElem?_set_self (by rw [Hlen.out]; omega))
            rw [cellN_eq q0, Hcn.out]; omega
        · go_wp2_with fail
          go_roundw
          case rel => exact ⟨k + 1, by omega, by go_num, by rw [curTo_next, ← Htop.out, topS_at Hcp.out]; exact O6.out, hg6⟩
          case measure => simp [intOf]; omega
    · obtain rfl : k = 4 := by omega
      have Hown := Lib.hid hown
      clear hown
      go_wp2_with fail
      go_ret
      exact ⟨_, _, rfl, Hown.out, hgn.trans hgr⟩
set_option maxHeartbeats 2000000 in
set_option maxRecDepth 100000 in
theorem l25Scales_any {A1 A2 A3 : Option Addr} {n1 c1 n2 c2 n3 c3 : Nat} (n : GNet) (l : List GTr) (w : World) (hA : NetAt w A1 n1 c1 A2 n2 c2 n) (hL : SlAt w 4 A3 n3 c3 (l.flatMap GTr.cells)) (hn : netOk n = true) (hok : trsOk n1 l = true) :
    Calls Try.prog 110 #[.agg #[.slice A1 n1 c1, .slice A2 n2 c2], .slice A3 n3 c3] w fun e w' => ∃ A c, e = .returned (.slice A 4 c) ∧ w'.ownsRow w.heap.size 2 1 (.slice A 4 c) 4 (ints (curs n l)) ∧ Gr w w' := by
  obtain ⟨i0, hi0, hz0, hz1, hz2⟩ := info_parts infoInt64
  have hm1 := hA.m1
  have hm3 := hL.small
  have HA := Lib.hid hA
  have HL := Lib.hid hL
  have Hn := Lib.hid hn
  have Hok := Lib.hid hok
  clear hA hL hn hok
  go_enter Try.func110, Try.ntmps110
  go_wp2_with (at_make; refine wpList_make_full _ rfl _ _ _ rfl w.heap.size 2 i0 _ 1 Try.underlying33 hi0 hz0 hz1 .i64 .i64 _ _ 4 rfl rfl rfl rfl (by rw [hz2]; omega) (by unfold maxLen; omega) (by simp) ?_; intro w1 hown1 hg1; have hq1 : Gr (w.alloc (.cells #[.slice A1 n1 c1, .slice A2 n2 c2] 27)) w1 := Gr.of_grown hg1; have Ho1 := Lib.hid hown1; clear hown1)
  have o1 : w1.ownsRow w.heap.size 2 1 (.slice (some ⟨w.heap.size + 1, 0, none⟩) 4 4) 4 (ints (curTo n l 0)) := by
    have := own_cells_eq Ho1.out (made_ints 4)
    have e : curTo n l 0 = List.replicate 4 0 := rfl
    rw [e]
    simpa using this
  try rw [show (w.alloc (.cells #[.slice A1 n1 c1, .slice A2 n2 c2] 27)).heap.size = w.heap.size + 1 by simp]
  obtain ⟨wn, hwn⟩ : ∃ wn, wn = w.alloc (.cells #[.slice A1 n1 c1, .slice A2 n2 c2] 27) := ⟨_, rfl⟩
  have hgn : Gr w wn := by rw [hwn]; exact (Gr.refl _).alloc _
  have cn0 : wn.cell? ⟨w.heap.size, 0, none⟩ = some (.slice A1 n1 c1) := by rw [hwn]; simp [go_sem]
  have cn1 : wn.cell? ⟨w.heap.size, 1, none⟩ = some (.slice A2 n2 c2) := by rw [hwn]; simp [go_sem]
  have hsn : wn.heap.size = w.heap.size + 1 := by rw [hwn]; simp
  rw [← hwn] at hq1
  obtain ⟨S, hS⟩ : ∃ S, S = w.heap.size + 1 := ⟨_, rfl⟩
  rw [← hS] at o1 hsn
  rw [← hS]
  have hwS : w.heap.size < S := by omega
  have hnS : wn.heap.size ≤ S := Nat.le_of_eq hsn
  have O1 := Lib.hid o1
  clear o1 Ho1 hg1 hS hwn hsn
  go_loopw [6] (fun i wr => ∃ k : Nat, k ≤ 4 ∧ i = .int .i64 k ∧ wr.ownsRow w.heap.size 2 1 (.slice (some ⟨S, 0, none⟩) 4 4) 4 (ints (curTo n l k)) ∧ Gr wn wr) (fun i _ => 4 - (intOf i).toNat)
  case atStart => exact ⟨0, Nat.zero_le _, rfl, O1.out, hq1⟩
  case round =>
    obtain ⟨k, hk, rfl, hown, hgr⟩ := hrel
    clear hq1 O1
    by_cases hlt : k < 4
    · obtain ⟨q1, q2, q3⟩ := curTo_spec Hn.out l k hk
      have hl4 : (curTo n l k).length = 4 := (scOk_all q1).1
      have Hq1 := Lib.hid q1
      rw [← cur_same Hn.out l hlt] at hown
      have Hown0 := Lib.hid hown
      have hgr0 := hgr
      have u0 : (0 : Int) ≤ (k : Int) := by omega
      have u1 : (k : Int) < 4 := by omega
      clear hown q1 q2 q3 hgr
      go_wp2_with fail
      go_loopw [7] (fun i wr => ∃ s : Nat, s ≤ 100 ∧ i = .int .i64 s ∧ (∃ y : Int, wr.ownsRow w.heap.size 2 1 (.slice (some ⟨S, 0, none⟩) 4 4) 4 (ints ((curTo n l k).set k y))) ∧ topS (curP n l k) s = topS (curP n l k) 100 ∧ Gr wn wr) (fun i _ => (intOf i).toNat)
      case atStart => exact ⟨100, Nat.le_refl _, rfl, ⟨_, Hown0.out⟩, rfl, hgr0⟩
      case round =>
        obtain ⟨s, hs, rfl, ⟨y, hown⟩, htop, hgr⟩ := hrel
        clear Hown0 hgr0
        have hsc : scOk ((curTo n l k).set k (s : Int)) = true := scOk_set Hq1.out k (by omega) (by omega)
        obtain ⟨d0, d1⟩ := own_int hown (k := k) (x := y) (List.getElem?_set_self (by omega))
        obtain ⟨R1, R2⟩ := own_set_int hown k (s : Int)
        rw [List.set_set] at R1
        have hgr2 := hgr.grown R2 (fun _ e => by injection e with e; omega)
        have HR1 := Lib.hid R1
        have Hsc := Lib.hid hsc
        have Htop := Lib.hid htop
        have u2 : (0 : Int) ≤ (s : Int) := by omega
        clear hown R1 R2 hsc htop hgr
        go_wp2_with fail
        generalize hw3 : World.setCell wr _ _ = w3
        rw [hw3] at HR1 hgr2
        clear hw3 d0 d1
        have b0 := hgr2.has cn0
        have b1 := hgr2.has cn1
        have hgw := hgn.trans hgr2
        go_region_held3 (fun w' => Gr w3 w' ∧ w'.cell? ⟨w.heap.size, 0, none⟩ = some (.slice A1 n1 c1) ∧ w'.cell? ⟨w.heap.size, 1, none⟩ = some (.slice A2 n2 c2))
          (first | exact ⟨(Gr.refl _).drew, b0, b1⟩ | exact ⟨by assumption, (by assumption : Gr w3 _).has b0, (by assumption : Gr w3 _).has b1⟩)
          (first
            | (go_at_call 92; refine (l24Scale_any n1 l _ _ (HL.out.gr hgw.drew) (SlAt.of_own HR1.out.drew (by omega)) Hok.out Hsc.out).mono ?_; rintro e w5 ⟨A', c', rfl, ho, hg2⟩; have Ho := Lib.hid ho; clear ho; have hx : Gr w3 w5 := (Gr.refl _).drew.trans hg2)
            | (go_at_call 105; refine (l24Fit_any n _ _ (HA.out.gr (hgw.trans hx)) (SlAt.of_own Ho.out hm3) (scaled_ok Hok.out Hsc.out)).mono ?_; rintro e w6 ⟨rfl, hg3⟩; have hy : Gr w3 w6 := hx.trans hg3))
        have hcp : curP n l k s = fitB n (scaled ((curTo n l k).set k (s : Int)) l) := rfl
        generalize fitB n (scaled ((curTo n l k).set k (s : Int)) l) = fb at hcp ⊢
        have Hcp := Lib.hid hcp
        have O6 := Lib.hid (own_gr HR1.out hy)
        have hg6 : Gr wn w6 := hgr2.trans hy
        clear hcp hx
        cases fb
        · obtain ⟨t, rfl⟩ := cur_pos Hn.out l hlt Hcp.out
          have hw1 : IntKind.i64.wrap (((t + 1 : Nat) : Int) - 1) = (t : Int) := by rw [show ((t + 1 : Nat) : Int) - 1 = (t : Int) by omega]; exact IntWalk.i64_in _ (by omega)
          go_wp2_with fail
          go_roundw
          case rel => exact ⟨t, by omega, by go_num, ⟨_, O6.out⟩, by rw [← topS_not Hcp.out]; exact Htop.out, hg6⟩
          case measure => simp [intOf]
        · go_wp2_with fail
          go_roundw
          case rel => exact ⟨k + 1, by omega, by go_num, by rw [curTo_next, ← Htop.out, topS_at Hcp.out]; exact O6.out, hg6⟩
          case measure => simp [intOf]; omega
    · obtain rfl : k = 4 := by omega
      have Hown := Lib.hid hown
      clear hown
      go_wp2_with fail
      go_ret
      exact ⟨_, _, rfl, Hown.out, hgn.trans hgr⟩
end Go.Proofs.Ytejfpajbkgfiaaa
