/-
  Allocation: DeviationsOf and ShipperBalance: the contracts.
-/
import Derived.Test.YtihkkemkecifcaaAlloc4
import Derived.Test.YtihkkemkecifcaaTrs
namespace Go.Proofs.Ytihkkemkecifcaa
open Go.ChangeShapes Go.WideShapes Go.ChangeAt Go.RowKit

def dvAt (g : List Int) (os : List GOrd) (i : Nat) : Int := g.getD i 0 - (os.getD i GOrd.zero).amount
def dvRes (n : GNet) (os : List GOrd) (l : List GRd) : List Int := if rdCode n os l = 0 then (List.range os.length).map (dvAt (al os l) os) else []
theorem dvAt_of {g : List Int} {os : List GOrd} {k : Nat} {x : GOrd} (hx : os[k]? = some x) : dvAt g os k = g.getD k 0 - x.amount := by
  rw [dvAt, List.getD_eq_getElem?_getD (l := os), hx]; rfl
theorem range_snoc (f : Nat → Int) (k : Nat) : (List.range (k + 1)).map f = (List.range k).map f ++ [f k] := by rw [List.range_succ]; simp
theorem al_bnd {nn nn' : Int} {os : List GOrd} {rs : List GRd} (h : ordsOk nn os = true) (hr : rdsOk nn' rs = true) (i : Nat) : -48000000000 ≤ (al os rs).getD i 0 ∧ (al os rs).getD i 0 ≤ 48000000000 := by
  have h1 := alTo_bnd h hr rs.length i
  have h2 := (rdsOk_all hr).1
  rw [al]; omega
theorem al_len {nn : Int} {os : List GOrd} (h : ordsOk nn os = true) (rs : List GRd) : (al os rs).length = os.length := alTo_len h rs _
def sbTo (os : List GOrd) (g : List Int) : Nat → List Int
  | 0 => List.replicate 16 0
  | k + 1 => addAt (sbTo os g k) (os.getD k GOrd.zero).shipper.toNat (g.getD k 0)
def sbRes (n : GNet) (os : List GOrd) (l : List GRd) : List Int := if rdCode n os l = 0 then sbTo os (al os l) os.length else []
theorem sbTo_next {os : List GOrd} {g : List Int} {k : Nat} {x : GOrd} (hx : os[k]? = some x) : sbTo os g (k + 1) = (sbTo os g k).set x.shipper.toNat ((sbTo os g k).getD x.shipper.toNat 0 + g.getD k 0) := by
  rw [sbTo, List.getD_eq_getElem?_getD (l := os), hx]; rfl
theorem sbTo_len (os : List GOrd) (g : List Int) (k : Nat) : (sbTo os g k).length = 16 := by
  induction k with
  | zero => simp [sbTo]
  | succ k ih => rw [sbTo, addAt_length, ih]
theorem sbTo_bnd {os : List GOrd} {g : List Int} (hg : ∀ i, -48000000000 ≤ g.getD i 0 ∧ g.getD i 0 ≤ 48000000000) (k : Nat) : Bnd (48000000000 * (k : Int)) (sbTo os g k) := by
  induction k with
  | zero => exact (Bnd.zeros 16).mono (by omega)
  | succ k ih =>
    rw [sbTo]
    have h := hg k
    exact (ih.addAt (D := 48000000000) (by omega) ⟨by omega, by omega⟩ _).mono (by push_cast; omega)
set_option maxHeartbeats 3200000 in
set_option maxRecDepth 100000 in
theorem DeviationsOf_any {A1 A2 A4 A3 : Option Addr} {n1 c1 n2 c2 n4 c4 n3 c3 : Nat} (n : GNet) (os : List GOrd) (l : List GRd) (w : World) (hA : NetAt w A1 n1 c1 A2 n2 c2 n) (hO : SlAt w 4 A4 n4 c4 (os.flatMap GOrd.cells)) (hL : SlAt w 2 A3 n3 c3 (l.flatMap GRd.cells)) :
    Calls Try.prog 27 #[.agg #[.slice A1 n1 c1, .slice A2 n2 c2], .slice A4 n4 c4, .slice A3 n3 c3] w fun e w' => ∃ A m c, e = .returned (.tuple #[.slice A m c, .int .i64 (rdCode n os l)]) ∧ m ≤ 1048576 ∧ w'.ownsRow w.heap.size 2 1 (.slice A m c) m (ints (dvRes n os l)) ∧ Gr w w' := by
  obtain ⟨i0, hi0, hz0, hz1, hz2⟩ := info_parts infoInt64
  have hm4 := hO.small
  have hm3 := hL.small
  have hl4 := hO.sl.len GOrd.cells_len (by omega)
  have hl3 := hL.sl.len GRd.cells_len (by omega)
  have HA := Lib.hid hA
  have HO := Lib.hid hO
  have HL := Lib.hid hL
  have Hl4 := Lib.hid hl4
  have Hl3 := Lib.hid hl3
  clear hA hO hL hl4 hl3
  go_enter Try.func27, Try.ntmps27
  go_wp2_with fail
  refine (checkReadings_any n os l _ (HA.out.gr ((Gr.refl _).alloc _)) (HO.out.gr ((Gr.refl _).alloc _)) (HL.out.gr ((Gr.refl _).alloc _))).mono ?_
  rintro e w0 ⟨rfl, hg1⟩
  have hg0 : Gr w w0 := ((Gr.refl _).alloc _).trans hg1
  clear hg1
  by_cases hc : rdCode n os l = 0
  · have Hc := Lib.hid hc
    have tb : (rdCode n os l != 0) = false := by simp [hc]
    have Hok : Hid (ordsOk n1 os = true) := Lib.hid (by rw [← HA.out.l1]; exact (ordCode_zero (rdCode_zero hc).1).2)
    have Hrk : Hid (rdsOk n1 l = true) := Lib.hid (by rw [← HA.out.l1]; exact (rdCode_zero hc).2)
    clear hc
    go_wp2_with fail
    refine (allocated_any n1 n1 os l _ (HO.out.gr hg0) (HL.out.gr hg0) Hok.out Hrk.out).mono ?_
    rintro e w2 ⟨g, rfl, ho, hg2⟩
    have hgb := own_base_le ho (k := g) rfl
    have hgs := hg0.size
    have Ho := Lib.hid (own_base ho hgs)
    have hgw2 := hg0.trans hg2
    have Hal := Lib.hid (al_len Hok.out l)
    clear ho
    go_wp2_with fail
    go_loopw [24] (fun i wr => ∃ k : Nat, k ≤ n4 ∧ i = .int .i64 k ∧ wr.ownsRow w.heap.size 2 1 (.slice (some ⟨g, 0, none⟩) n4 n4) n4 (ints (overTo (dvAt (al os l) os) (al os l) k)) ∧ Gr w wr) (fun i _ => n4 - (intOf i).toNat)
    case atStart => exact ⟨0, Nat.zero_le _, rfl, by rw [overTo_zero]; exact Ho.out, hgw2⟩
    case round =>
      obtain ⟨k, hk, rfl, hown, hgr⟩ := hrel
      have Hown := Lib.hid hown
      clear hown Ho hgw2
      by_cases hlt : k < n4
      · obtain ⟨x, hx⟩ : ∃ x, os[k]? = some x := ⟨_, List.getElem?_eq_getElem (by have := Hl4.out; omega)⟩
        obtain ⟨b, o, rfl, hb, r0, r1, r2, r3⟩ := (HO.out.sl.gr hgr).ord hx
        have hxb := (ordOk_all ((ordsOk_all Hok.out).2 k x hx)).2.2.1
        have hdv := dvAt_of (g := al os l) hx
        have hkl : k < (al os l).length := by have := Hal.out; have := Hl4.out; omega
        have hget := get_of_lt hkl
        have hvb := al_bnd Hok.out Hrk.out k
        obtain ⟨v, hv⟩ : ∃ v, v = (al os l).getD k 0 := ⟨_, rfl⟩
        rw [← hv] at hget hvb hdv
        have hgl := (World.ownsRow.lt Hown.out g rfl).2
        have Hdv := Lib.hid hdv
        have Hget := Lib.hid hget
        have Hkl := Lib.hid hkl
        have t1 : (k : Int) < (n4 : Int) := by omega
        have t0 : (0 : Int) ≤ (k : Int) := by omega
        clear hx hget hv hdv hkl
        go_wp2_with fail
        obtain ⟨w5, hw5⟩ : ∃ w5, w5 = wr.alloc (.cells #[.int .i64 x.shipper, .int .i64 x.node, .int .i64 x.amount, .int .i64 x.cls] 60) := ⟨_, rfl⟩
        have hg3 : Gr wr w5 := by rw [hw5]; exact (Gr.refl _).alloc _
        have z2 : w5.cell? ⟨wr.heap.size, 2, none⟩ = some (.int .i64 x.amount) := by rw [hw5]; simp [go_sem]
        rw [← hw5]
        have hown3 := own_gr Hown.out hg3
        obtain ⟨d0, d1⟩ := own_int hown3 (k := k) (x := v) (by rw [overTo_get]; exact Hget.out)
        obtain ⟨R1, R2⟩ := own_set_int hown3 k (v - x.amount)
        rw [overTo_set _ _ Hkl.out Hdv.out.symm] at R1
        have hg4 := (hgr.trans hg3).grown R2 (fun _ e => by injection e with e; omega)
        have HR1 := Lib.hid R1
        have Hg4 := Lib.hid hg4
        have hwr : IntKind.i64.wrap (v - x.amount) = v - x.amount := IntWalk.i64_in _ (by omega)
        clear hw5 R1 R2 hg4 hown3 hg3 r0 r1 r2 r3
        go_region
        go_wp2_with fail
        go_roundw
        case rel => exact ⟨k + 1, by omega, by go_num, HR1.out.drew, Hg4.out.drew⟩
        case measure => simp [intOf]; omega
      · obtain rfl : k = n4 := by omega
        go_wp2_with fail
        go_ret2
        refine ⟨_, _, _, by rw [Hc.out]; rfl, hm4, ?_, hgr⟩
        have h := Hown.out
        have e : k = (al os l).length := by rw [Hal.out, Hl4.out]
        rw [dvRes, if_pos Hc.out, Hl4.out]
        have h2 := overTo_full (dvAt (al os l) os) (al os l)
        rw [← e] at h2
        rw [h2] at h
        exact h
  · have Hc := Lib.hid hc
    have tb : (rdCode n os l != 0) = true := by simp [hc]
    clear hc
    go_wp2_with fail
    go_ret2
    refine ⟨none, 0, 0, rfl, by omega, ?_, hg0⟩
    rw [dvRes, if_neg Hc.out]
    exact World.ownsRow_nil _ _ _ _
set_option maxHeartbeats 3200000 in
set_option maxRecDepth 100000 in
theorem spDeviationsOf_any {A1 A2 A4 A3 : Option Addr} {n1 c1 n2 c2 n4 c4 n3 c3 : Nat} (n : GNet) (os : List GOrd) (l : List GRd) (w : World) (hA : NetAt w A1 n1 c1 A2 n2 c2 n) (hO : SlAt w 4 A4 n4 c4 (os.flatMap GOrd.cells)) (hL : SlAt w 2 A3 n3 c3 (l.flatMap GRd.cells)) :
    Calls Try.prog 26 #[.agg #[.slice A1 n1 c1, .slice A2 n2 c2], .slice A4 n4 c4, .slice A3 n3 c3] w fun e w' => ∃ A m c, e = .returned (.tuple #[.slice A m c, .int .i64 (rdCode n os l)]) ∧ m ≤ 1048576 ∧ w'.ownsRow w.heap.size 2 1 (.slice A m c) m (ints (dvRes n os l)) ∧ Gr w w' := by
  obtain ⟨i0, hi0, hz0, hz1, hz2⟩ := info_parts infoInt64
  have hm4 := hO.small
  have hm3 := hL.small
  have hl4 := hO.sl.len GOrd.cells_len (by omega)
  have hl3 := hL.sl.len GRd.cells_len (by omega)
  have HA := Lib.hid hA
  have HO := Lib.hid hO
  have HL := Lib.hid hL
  have Hl4 := Lib.hid hl4
  have Hl3 := Lib.hid hl3
  clear hA hO hL hl4 hl3
  go_enter Try.func26, Try.ntmps26
  go_wp2_with fail
  refine (spAllocate_any n os l _ (HA.out.gr ((Gr.refl _).alloc _)) (HO.out.gr ((Gr.refl _).alloc _)) (HL.out.gr ((Gr.refl _).alloc _))).mono ?_
  rintro e w0 ⟨A, m, c, rfl, hmm, ho, hg1⟩
  have hg0 : Gr w w0 := ((Gr.refl _).alloc _).trans hg1
  have Ho := Lib.hid ho
  clear hg1 ho
  by_cases hc : rdCode n os l = 0
  · have Hc := Lib.hid hc
    have tb : (rdCode n os l != 0) = false := by simp [hc]
    have Hok : Hid (ordsOk n1 os = true) := Lib.hid (by rw [← HA.out.l1]; exact (ordCode_zero (rdCode_zero hc).1).2)
    have Hrk : Hid (rdsOk n1 l = true) := Lib.hid (by rw [← HA.out.l1]; exact (rdCode_zero hc).2)
    clear hc
    have Hal := Lib.hid (al_len Hok.out l)
    have hml : m = n4 := by
      have := own_ilen Ho.out
      rw [alRes, if_pos Hc.out, Hal.out, Hl4.out] at this
      exact this.symm
    subst hml
    have Ho2 : Hid (w0.ownsRow (w.alloc (.cells #[.slice A1 n1 c1, .slice A2 n2 c2] 37)).heap.size 2 1 (.slice A m c) m (ints (al os l))) := Lib.hid (by have := Ho.out; rw [alRes, if_pos Hc.out] at this; exact this)
    clear Ho
    go_wp2_with fail
    go_loopw [10, 11] (fun o i wr => ∃ k : Nat, k ≤ m ∧ i = .int .i64 k ∧ (∃ g c, o = .slice (some ⟨g, 0, none⟩) k c ∧ wr.ownsRow w0.heap.size 2 1 (.slice (some ⟨g, 0, none⟩) k c) k (ints ((List.range k).map (dvAt (al os l) os)))) ∧ Gr w0 wr) (fun _ i _ => m - (intOf i).toNat)
    case atStart => exact ⟨0, Nat.zero_le _, rfl, ⟨_, _, rfl, World.ownsRow_lit w0 #[] 0 (Nat.le_refl _) (by unfold maxLen; omega) rfl⟩, (Gr.refl _).alloc _⟩
    case round =>
      obtain ⟨k, hk, rfl, ⟨g1, c3, rfl, hownr⟩, hgr⟩ := hrel
      have Hown := Lib.hid hownr
      clear hownr
      by_cases hlt : k < m
      · obtain ⟨x, hx⟩ : ∃ x, os[k]? = some x := ⟨_, List.getElem?_eq_getElem (by have := Hl4.out; omega)⟩
        obtain ⟨bO, oO, rfl, hbO, r0, r1, r2, r3⟩ := (HO.out.sl.gr hg0).ord hx
        replace r2 := hgr.has r2
        have hxb := (ordOk_all ((ordsOk_all Hok.out).2 k x hx)).2.2.1
        have hdv := dvAt_of (g := al os l) hx
        have hkl : k < (al os l).length := by have := Hal.out; have := Hl4.out; omega
        have hget := get_of_lt hkl
        have hvb := al_bnd Hok.out Hrk.out k
        have hst := range_snoc (dvAt (al os l) os) k
        obtain ⟨v, hv⟩ : ∃ v, v = (al os l).getD k 0 := ⟨_, rfl⟩
        rw [← hv] at hget hvb hdv
        rw [hdv] at hst
        obtain ⟨bA, oA, rfl, hb1, e1⟩ := (Sl.of_own Ho2.out).int hget
        replace e1 := hgr.has e1
        have hbase := hgr.size
        have Hst := Lib.hid hst
        have hq : IntKind.i64.wrap (v - x.amount) = v - x.amount := IntWalk.i64_in _ (by omega)
        have t1 : (k : Int) < (m : Int) := by omega
        have t0 : (0 : Int) ≤ (k : Int) := by omega
        clear hget hv hst hdv hkl hx r0 r1 r3
        have hfar : ∀ j, (Value.slice (some ⟨g1, 0, none⟩) k c3).ownBlock = some j → j ≠ bA ∧ j ≠ bO := by
          intro j hj
          have e1 := own_base_le Hown.out hj
          omega
        have hnew : ∀ o : Obj, (wr.alloc o).heap[wr.heap.size]? = some o := fun o => heap_alloc_new wr o
        go_wp2_with fail
        go_region_held3 (fun w' => w'.cell? ⟨bA, oA + k, none⟩ = some (.int .i64 v) ∧ w'.cell? ⟨bO, oO + k * 4 + 2, none⟩ = some (.int .i64 x.amount))
          (first
            | go_keep
            | (go_split_ands
               refine ⟨?_, ?_⟩
               · (rw [hgrow.cell_far _ (by simp; omega) (fun e => (hfar _ e.symm).1 rfl)]; assumption)
               · (rw [hgrow.cell_far _ (by simp; omega) (fun e => (hfar _ e.symm).2 rfl)]; assumption)))
          ((refine step_append_lies _ (by rfl) _ _ _ (by rfl) w0.heap.size 2 i0 _ 1 8 Try.underlying31 hi0 hz0 hz1 hz2 rfl (by omega) _ k _ (by rfl) ((Hown.out.alloc _).drew) ⟨wr.heap.size, 0, none⟩ 1 1 [.int .i64 (v - x.amount)] (by rfl) (by rfl) (World.news_of_block (cs := #[.int .i64 (v - x.amount)]) (t := 2) (fr := (0, 0)) (hnew _)) (by simp [Value.oneCell']) (by omega) (by unfold maxLen; omega) (by omega) (by simp; omega) (wr.heap.size + 1) (by simp) ?_; intro gg cap w2 hown1 hgrow hat hlt2))
        clear hq hfar
        have Ho3 := Lib.hid (own_cells_eq hown1 (ints_snoc _ (v - x.amount)).symm)
        clear hown1
        go_wp2_with fail
        go_roundw
        case rel =>
          refine ⟨k + 1, by omega, by go_num, ⟨_, _, rfl, ?_⟩, ?_⟩
          · rw [Hst.out]; exact Ho3.out
          · exact ((hgr.alloc _).drew).grown hgrow (fun j hj => own_base_le Hown.out hj)
        case measure => simp [intOf]; omega
      · obtain rfl : k = m := by omega
        go_wp2_with fail
        go_ret2
        refine ⟨_, _, _, by rw [Hc.out]; rfl, hmm, ?_, hg0.trans hgr⟩
        rw [dvRes, if_pos Hc.out, Hl4.out]
        exact own_base Hown.out hg0.size
  · have Hc := Lib.hid hc
    have tb : (rdCode n os l != 0) = true := by simp [hc]
    clear hc
    go_wp2_with fail
    go_ret2
    refine ⟨none, 0, 0, rfl, by omega, ?_, hg0⟩
    rw [dvRes, if_neg Hc.out]
    exact World.ownsRow_nil _ _ _ _
set_option maxHeartbeats 3200000 in
set_option maxRecDepth 100000 in
theorem ShipperBalance_any {A1 A2 A4 A3 : Option Addr} {n1 c1 n2 c2 n4 c4 n3 c3 : Nat} (n : GNet) (os : List GOrd) (l : List GRd) (w : World) (hA : NetAt w A1 n1 c1 A2 n2 c2 n) (hO : SlAt w 4 A4 n4 c4 (os.flatMap GOrd.cells)) (hL : SlAt w 2 A3 n3 c3 (l.flatMap GRd.cells)) :
    Calls Try.prog 29 #[.agg #[.slice A1 n1 c1, .slice A2 n2 c2], .slice A4 n4 c4, .slice A3 n3 c3] w fun e w' => ∃ A m c, e = .returned (.tuple #[.slice A m c, .int .i64 (rdCode n os l)]) ∧ m ≤ 1048576 ∧ w'.ownsRow w.heap.size 2 1 (.slice A m c) m (ints (sbRes n os l)) ∧ Gr w w' := by
  obtain ⟨i0, hi0, hz0, hz1, hz2⟩ := info_parts infoInt64
  have hm4 := hO.small
  have hm3 := hL.small
  have hl4 := hO.sl.len GOrd.cells_len (by omega)
  have hl3 := hL.sl.len GRd.cells_len (by omega)
  have HA := Lib.hid hA
  have HO := Lib.hid hO
  have HL := Lib.hid hL
  have Hl4 := Lib.hid hl4
  have Hl3 := Lib.hid hl3
  clear hA hO hL hl4 hl3
  go_enter Try.func29, Try.ntmps29
  go_wp2_with fail
  refine (checkReadings_any n os l _ (HA.out.gr ((Gr.refl _).alloc _)) (HO.out.gr ((Gr.refl _).alloc _)) (HL.out.gr ((Gr.refl _).alloc _))).mono ?_
  rintro e w0 ⟨rfl, hg1⟩
  have hg0 : Gr w w0 := ((Gr.refl _).alloc _).trans hg1
  clear hg1
  by_cases hc : rdCode n os l = 0
  · have Hc := Lib.hid hc
    have tb : (rdCode n os l != 0) = false := by simp [hc]
    have Hok : Hid (ordsOk n1 os = true) := Lib.hid (by rw [← HA.out.l1]; exact (ordCode_zero (rdCode_zero hc).1).2)
    have Hrk : Hid (rdsOk n1 l = true) := Lib.hid (by rw [← HA.out.l1]; exact (rdCode_zero hc).2)
    clear hc
    have Hal := Lib.hid (al_len Hok.out l)
    have hs0 := hg0.size
    go_wp2_with (at_make; refine wpList_make_full _ rfl _ _ _ rfl w.heap.size 2 i0 _ 1 Try.underlying31 hi0 hz0 hz1 .i64 .i64 _ _ 16 rfl rfl rfl rfl (by rw [hz2]; omega) (by unfold maxLen; omega) hs0 ?_; intro w1 hown hgm)
    have hgx := Gr.of_grown hgm
    have ho1 : w1.ownsRow w.heap.size 2 1 (.slice (some ⟨w0.heap.size, 0, none⟩) 16 16) 16 (ints (sbTo os (al os l) 0)) := own_cells_eq hown (made_ints 16)
    obtain ⟨S, hS⟩ : ∃ S, S = w0.heap.size := ⟨_, rfl⟩
    rw [← hS] at ho1 ⊢
    have hSl : S < w1.heap.size := own_block_lt ho1 rfl
    have hSw : w.heap.size ≤ S := by omega
    have hgw1 := hg0.trans hgx
    have Ho1 := Lib.hid ho1
    clear hown ho1 hgm hS
    refine (allocated_any n1 n1 os l _ (HO.out.gr hgw1) (HL.out.gr hgw1) Hok.out Hrk.out).mono ?_
    rintro e w2 ⟨g, rfl, ho, hg2⟩
    have hgb := own_base_le ho (k := g) rfl
    have Hg := Lib.hid ho
    have Ho2 := Lib.hid (own_gr Ho1.out hg2)
    have hgw2 := hgw1.trans hg2
    have hgS : g ≠ S := by omega
    clear ho Ho1
    go_wp2_with fail
    go_loopw [24] (fun i wr => ∃ k : Nat, k ≤ n4 ∧ i = .int .i64 k ∧ wr.ownsRow w.heap.size 2 1 (.slice (some ⟨S, 0, none⟩) 16 16) 16 (ints (sbTo os (al os l) k)) ∧ wr.ownsRow w1.heap.size 2 1 (.slice (some ⟨g, 0, none⟩) n4 n4) n4 (ints (al os l)) ∧ Gr w wr) (fun i _ => n4 - (intOf i).toNat)
    case atStart => exact ⟨0, Nat.zero_le _, rfl, Ho2.out, Hg.out, hgw2⟩
    case round =>
      obtain ⟨k, hk, rfl, hown, hal, hgr⟩ := hrel
      have Hown := Lib.hid hown
      have Hg2 := Lib.hid hal
      clear hown hal Ho2 Hg hgw2
      by_cases hlt : k < n4
      · obtain ⟨x, hx⟩ : ∃ x, os[k]? = some x := ⟨_, List.getElem?_eq_getElem (by have := Hl4.out; omega)⟩
        obtain ⟨b, o, rfl, hb, r0, r1, r2, r3⟩ := (HO.out.sl.gr hgr).ord hx
        have hxs := (ordOk_all ((ordsOk_all Hok.out).2 k x hx)).1
        have hnx := sbTo_next (g := al os l) hx
        have hkl : k < (al os l).length := by have := Hal.out; have := Hl4.out; omega
        have hget := get_of_lt hkl
        have hvb := al_bnd Hok.out Hrk.out k
        have hk40 := (ordsOk_all Hok.out).1
        have hkl4 := Hl4.out
        have hsb := (sbTo_bnd (os := os) (al_bnd Hok.out Hrk.out) k).getD (by omega) x.shipper.toNat
        have hgz := get_of_lt (l := sbTo os (al os l) k) (k := x.shipper.toNat) (by rw [sbTo_len]; omega)
        obtain ⟨v, hv⟩ : ∃ v, v = (al os l).getD k 0 := ⟨_, rfl⟩
        obtain ⟨z, hz⟩ : ∃ z, z = (sbTo os (al os l) k).getD x.shipper.toNat 0 := ⟨_, rfl⟩
        rw [← hv] at hget hvb hnx
        rw [← hz] at hsb hgz hnx
        have Hnx := Lib.hid hnx
        obtain ⟨d0, d1⟩ := own_int Hown.out hgz
        obtain ⟨f0, _⟩ := own_int Hg2.out hget
        obtain ⟨R1, R2⟩ := own_set_int Hown.out x.shipper.toNat (z + v)
        have hga := Hg2.out.kept R2 (Or.inr fun e => hgS (Option.some.inj e))
        have hg4 := hgr.grown R2 (fun _ e => by injection e with e; omega)
        have HR1 := Lib.hid R1
        have Hga := Lib.hid hga
        have Hg4 := Lib.hid hg4
        have hwr : IntKind.i64.wrap (z + v) = z + v := IntWalk.i64_in _ (by omega)
        have s1 : 0 ≤ x.shipper := hxs.1
        have s2 : x.shipper < 16 := by omega
        have t1 : (k : Int) < (n4 : Int) := by omega
        have t0 : (0 : Int) ≤ (k : Int) := by omega
        clear hx hget hv hz hgz hnx R1 R2 hga hg4 hkl r1 r2 r3
        go_wp2_with fail
        go_roundw
        case rel => exact ⟨k + 1, by omega, by go_num, by rw [Hnx.out]; exact HR1.out, Hga.out, Hg4.out⟩
        case measure => simp [intOf]; omega
      · obtain rfl : k = n4 := by omega
        go_wp2_with fail
        go_ret2
        refine ⟨_, _, _, by rw [Hc.out]; rfl, by omega, ?_, hgr⟩
        rw [sbRes, if_pos Hc.out, Hl4.out]
        exact Hown.out
  · have Hc := Lib.hid hc
    have tb : (rdCode n os l != 0) = true := by simp [hc]
    clear hc
    go_wp2_with fail
    go_ret2
    refine ⟨none, 0, 0, rfl, by omega, ?_, hg0⟩
    rw [sbRes, if_neg Hc.out]
    exact World.ownsRow_nil _ _ _ _
set_option maxHeartbeats 3200000 in
set_option maxRecDepth 100000 in
theorem spShipperBalance_any {A1 A2 A4 A3 : Option Addr} {n1 c1 n2 c2 n4 c4 n3 c3 : Nat} (n : GNet) (os : List GOrd) (l : List GRd) (w : World) (hA : NetAt w A1 n1 c1 A2 n2 c2 n) (hO : SlAt w 4 A4 n4 c4 (os.flatMap GOrd.cells)) (hL : SlAt w 2 A3 n3 c3 (l.flatMap GRd.cells)) :
    Calls Try.prog 28 #[.agg #[.slice A1 n1 c1, .slice A2 n2 c2], .slice A4 n4 c4, .slice A3 n3 c3] w fun e w' => ∃ A m c, e = .returned (.tuple #[.slice A m c, .int .i64 (rdCode n os l)]) ∧ m ≤ 1048576 ∧ w'.ownsRow w.heap.size 2 1 (.slice A m c) m (ints (sbRes n os l)) ∧ Gr w w' := by
  obtain ⟨i0, hi0, hz0, hz1, hz2⟩ := info_parts infoInt64
  have hm4 := hO.small
  have hm3 := hL.small
  have hl4 := hO.sl.len GOrd.cells_len (by omega)
  have hl3 := hL.sl.len GRd.cells_len (by omega)
  have HA := Lib.hid hA
  have HO := Lib.hid hO
  have HL := Lib.hid hL
  have Hl4 := Lib.hid hl4
  have Hl3 := Lib.hid hl3
  clear hA hO hL hl4 hl3
  go_enter Try.func28, Try.ntmps28
  go_wp2_with fail
  refine (spAllocate_any n os l _ (HA.out.gr ((Gr.refl _).alloc _)) (HO.out.gr ((Gr.refl _).alloc _)) (HL.out.gr ((Gr.refl _).alloc _))).mono ?_
  rintro e w0 ⟨A, m, c, rfl, hmm, ho, hg1⟩
  have hg0 : Gr w w0 := ((Gr.refl _).alloc _).trans hg1
  have Ho := Lib.hid ho
  clear hg1 ho
  by_cases hc : rdCode n os l = 0
  · have Hc := Lib.hid hc
    have tb : (rdCode n os l != 0) = false := by simp [hc]
    have Hok : Hid (ordsOk n1 os = true) := Lib.hid (by rw [← HA.out.l1]; exact (ordCode_zero (rdCode_zero hc).1).2)
    have Hrk : Hid (rdsOk n1 l = true) := Lib.hid (by rw [← HA.out.l1]; exact (rdCode_zero hc).2)
    clear hc
    have Hal := Lib.hid (al_len Hok.out l)
    have hml : m = n4 := by
      have := own_ilen Ho.out
      rw [alRes, if_pos Hc.out, Hal.out, Hl4.out] at this
      exact this.symm
    subst hml
    have Ho2 : Hid (w0.ownsRow (w.alloc (.cells #[.slice A1 n1 c1, .slice A2 n2 c2] 37)).heap.size 2 1 (.slice A m c) m (ints (al os l))) := Lib.hid (by have := Ho.out; rw [alRes, if_pos Hc.out] at this; exact this)
    have hs0 := hg0.size
    clear Ho
    go_wp2_with (at_make; refine wpList_make_full _ rfl _ _ _ rfl w.heap.size 2 i0 _ 1 Try.underlying31 hi0 hz0 hz1 .i64 .i64 _ _ 16 rfl rfl rfl rfl (by rw [hz2]; omega) (by unfold maxLen; omega) hs0 ?_; intro w1 hown hgm)
    have hgx := Gr.of_grown hgm
    have ho1 : w1.ownsRow w.heap.size 2 1 (.slice (some ⟨w0.heap.size, 0, none⟩) 16 16) 16 (ints (sbTo os (al os l) 0)) := own_cells_eq hown (made_ints 16)
    have Ho3 := Lib.hid (own_gr Ho2.out hgx)
    have hbl : ∀ b o, A = some ⟨b, o, none⟩ → b < w0.heap.size := fun b o e => own_block_lt Ho2.out (own_blk_of Ho2.out e)
    obtain ⟨S, hS⟩ : ∃ S, S = w0.heap.size := ⟨_, rfl⟩
    rw [← hS] at ho1 hbl ⊢
    have hSw : w.heap.size ≤ S := by omega
    have hgw1 := hg0.trans hgx
    have Ho1 := Lib.hid ho1
    clear hown ho1 hgm hS Ho2
    go_loopw [11] (fun i wr => ∃ k : Nat, k ≤ m ∧ i = .int .i64 k ∧ wr.ownsRow w.heap.size 2 1 (.slice (some ⟨S, 0, none⟩) 16 16) 16 (ints (sbTo os (al os l) k)) ∧ wr.ownsRow (w.alloc (.cells #[.slice A1 n1 c1, .slice A2 n2 c2] 37)).heap.size 2 1 (.slice A m c) m (ints (al os l)) ∧ Gr w wr) (fun i _ => m - (intOf i).toNat)
    case atStart => exact ⟨0, Nat.zero_le _, rfl, Ho1.out, Ho3.out, hgw1⟩
    case round =>
      obtain ⟨k, hk, rfl, hown, hal, hgr⟩ := hrel
      have Hown := Lib.hid hown
      have Hg2 := Lib.hid hal
      clear hown hal Ho1 Ho3 hgw1
      by_cases hlt : k < m
      · obtain ⟨x, hx⟩ : ∃ x, os[k]? = some x := ⟨_, List.getElem?_eq_getElem (by have := Hl4.out; omega)⟩
        obtain ⟨b, o, rfl, hb, r0, r1, r2, r3⟩ := (HO.out.sl.gr hgr).ord hx
        have hxs := (ordOk_all ((ordsOk_all Hok.out).2 k x hx)).1
        have hnx := sbTo_next (g := al os l) hx
        have hkl : k < (al os l).length := by have := Hal.out; have := Hl4.out; omega
        have hget := get_of_lt hkl
        have hvb := al_bnd Hok.out Hrk.out k
        have hk40 := (ordsOk_all Hok.out).1
        have hkl4 := Hl4.out
        have hsb := (sbTo_bnd (os := os) (al_bnd Hok.out Hrk.out) k).getD (by omega) x.shipper.toNat
        have hgz := get_of_lt (l := sbTo os (al os l) k) (k := x.shipper.toNat) (by rw [sbTo_len]; omega)
        obtain ⟨v, hv⟩ : ∃ v, v = (al os l).getD k 0 := ⟨_, rfl⟩
        obtain ⟨z, hz⟩ : ∃ z, z = (sbTo os (al os l) k).getD x.shipper.toNat 0 := ⟨_, rfl⟩
        rw [← hv] at hget hvb hnx
        rw [← hz] at hsb hgz hnx
        have Hnx := Lib.hid hnx
        obtain ⟨d0, d1⟩ := own_int Hown.out hgz
        obtain ⟨bA, oA, rfl, hbA, f0⟩ := (Sl.of_own Hg2.out).int hget
        have hbS := hbl _ _ rfl
        have hbS' : bA ≠ S := by omega
        obtain ⟨R1, R2⟩ := own_set_int Hown.out x.shipper.toNat (z + v)
        have hga := Hg2.out.kept R2 (Or.inr (by rw [own_blk_of Hg2.out rfl]; exact fun e => hbS' (Option.some.inj e)))
        have hg4 := hgr.grown R2 (fun _ e => by injection e with e; omega)
        have HR1 := Lib.hid R1
        have Hga := Lib.hid hga
        have Hg4 := Lib.hid hg4
        have hwr : IntKind.i64.wrap (z + v) = z + v := IntWalk.i64_in _ (by omega)
        have s1 : 0 ≤ x.shipper := hxs.1
        have s2 : x.shipper < 16 := by omega
        have t1 : (k : Int) < (m : Int) := by omega
        have t0 : (0 : Int) ≤ (k : Int) := by omega
        clear hx hget hv hz hgz hnx R1 R2 hga hg4 hkl r1 r2 r3 hbl
        go_wp2_with fail
        go_region
        go_wp2_with fail
        go_roundw
        case rel => exact ⟨k + 1, by omega, by go_num, by rw [Hnx.out]; exact HR1.out.drew, Hga.out.drew, Hg4.out.drew⟩
        case measure => simp [intOf]; omega
      · obtain rfl : k = m := by omega
        go_wp2_with fail
        go_ret2
        refine ⟨_, _, _, by rw [Hc.out]; rfl, by omega, ?_, hgr⟩
        rw [sbRes, if_pos Hc.out, Hl4.out]
        exact Hown.out
  · have Hc := Lib.hid hc
    have tb : (rdCode n os l != 0) = true := by simp [hc]
    clear hc
    go_wp2_with fail
    go_ret2
    refine ⟨none, 0, 0, rfl, by omega, ?_, hg0⟩
    rw [sbRes, if_neg Hc.out]
    exact World.ownsRow_nil _ _ _ _
end Go.Proofs.Ytihkkemkecifcaa
