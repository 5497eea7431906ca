/-
  Allocation: Allocate and UnallocatedOf: the contracts.
-/
import Derived.Test.YtihkkemkecifcaaAlloc3
namespace Go.Proofs.Ytihkkemkecifcaa
open Go.ChangeShapes Go.WideShapes Go.ChangeAt Go.RowKit

def alRes (n : GNet) (os : List GOrd) (l : List GRd) : List Int := if rdCode n os l = 0 then al os l else []
def unRes (n : GNet) (os : List GOrd) (l : List GRd) : List Int := if rdCode n os l = 0 then unTo os l l.length else []
theorem spAllocate_any {A1 A2 A4 A3 : Option Addr} {n1 c1 n2 c2 n4 c4 n3 c3 : Nat} (n : GNet) (os : List GOrd) (l : List GRd) (w : World) (hA : NetAt w A1 n1 c1 A2 n2 c2 n) (hO : SlAt w 4 A4 n4 c4 (os.flatMap GOrd.cells)) (hL : SlAt w 2 A3 n3 c3 (l.flatMap GRd.cells)) :
    Calls Try.prog 24 #[.agg #[.slice A1 n1 c1, .slice A2 n2 c2], .slice A4 n4 c4, .slice A3 n3 c3] w fun e w' => ∃ A m c, e = .returned (.tuple #[.slice A m c, .int .i64 (rdCode n os l)]) ∧ m ≤ 1048576 ∧ w'.ownsRow w.heap.size 2 1 (.slice A m c) m (ints (alRes n os l)) ∧ Gr w w' := by
  have hm4 := hO.small
  have hm3 := hL.small
  have hl4 := hO.sl.len GOrd.cells_len (by omega)
  have hl3 := hL.sl.len GRd.cells_len (by omega)
  have HA := Lib.hid hA
  have HO := Lib.hid hO
  have HL := Lib.hid hL
  have Hl4 := Lib.hid hl4
  have Hl3 := Lib.hid hl3
  clear hA hO hL hl4 hl3
  go_enter Try.func24, Try.ntmps24
  go_wp2_with fail
  refine (l28Code_any n os l _ (HA.out.gr ((Gr.refl _).alloc _)) (HO.out.gr ((Gr.refl _).alloc _)) (HL.out.gr ((Gr.refl _).alloc _))).mono ?_
  rintro e w0 ⟨rfl, hg1⟩
  have hg0 : Gr w w0 := ((Gr.refl _).alloc _).trans hg1
  clear hg1
  by_cases hc : rdCode n os l = 0
  · have Hc := Lib.hid hc
    have tb : (rdCode n os l != 0) = false := by simp [hc]
    have Hok : Hid (ordsOk n1 os = true) := Lib.hid (by rw [← HA.out.l1]; exact (ordCode_zero (rdCode_zero hc).1).2)
    have Hrk : Hid (rdsOk n1 l = true) := Lib.hid (by rw [← HA.out.l1]; exact (rdCode_zero hc).2)
    clear hc
    go_wp2_with fail
    refine (l28Allocate_any n1 n1 os l _ (HO.out.gr hg0) (HL.out.gr hg0) Hok.out Hrk.out).mono ?_
    rintro e w2 ⟨g, c, h, u, d, rfl, ho, _, hg2⟩
    have Ho := Lib.hid (own_base ho hg0.size)
    clear ho
    go_wp2_with fail
    go_ret2
    refine ⟨_, _, _, by rw [Hc.out]; rfl, hm4, ?_, hg0.trans hg2⟩
    rw [alRes, if_pos Hc.out]
    exact Ho.out
  · have Hc := Lib.hid hc
    have tb : (rdCode n os l != 0) = true := by simp [hc]
    clear hc
    go_wp2_with fail
    go_ret2
    refine ⟨none, 0, 0, rfl, by omega, ?_, hg0⟩
    rw [alRes, if_neg Hc.out]
    exact World.ownsRow_nil _ _ _ _
theorem Allocate_any {A1 A2 A4 A3 : Option Addr} {n1 c1 n2 c2 n4 c4 n3 c3 : Nat} (n : GNet) (os : List GOrd) (l : List GRd) (w : World) (hA : NetAt w A1 n1 c1 A2 n2 c2 n) (hO : SlAt w 4 A4 n4 c4 (os.flatMap GOrd.cells)) (hL : SlAt w 2 A3 n3 c3 (l.flatMap GRd.cells)) :
    Calls Try.prog 25 #[.agg #[.slice A1 n1 c1, .slice A2 n2 c2], .slice A4 n4 c4, .slice A3 n3 c3] w fun e w' => ∃ A m c, e = .returned (.tuple #[.slice A m c, .int .i64 (rdCode n os l)]) ∧ m ≤ 1048576 ∧ w'.ownsRow w.heap.size 2 1 (.slice A m c) m (ints (alRes n os l)) ∧ Gr w w' := by
  have hm4 := hO.small
  have hm3 := hL.small
  have hl4 := hO.sl.len GOrd.cells_len (by omega)
  have hl3 := hL.sl.len GRd.cells_len (by omega)
  have HA := Lib.hid hA
  have HO := Lib.hid hO
  have HL := Lib.hid hL
  have Hl4 := Lib.hid hl4
  have Hl3 := Lib.hid hl3
  clear hA hO hL hl4 hl3
  go_enter Try.func25, Try.ntmps25
  go_wp2_with fail
  refine (checkReadings_any n os l _ (HA.out.gr ((Gr.refl _).alloc _)) (HO.out.gr ((Gr.refl _).alloc _)) (HL.out.gr ((Gr.refl _).alloc _))).mono ?_
  rintro e w0 ⟨rfl, hg1⟩
  have hg0 : Gr w w0 := ((Gr.refl _).alloc _).trans hg1
  clear hg1
  by_cases hc : rdCode n os l = 0
  · have Hc := Lib.hid hc
    have tb : (rdCode n os l != 0) = false := by simp [hc]
    have Hok : Hid (ordsOk n1 os = true) := Lib.hid (by rw [← HA.out.l1]; exact (ordCode_zero (rdCode_zero hc).1).2)
    have Hrk : Hid (rdsOk n1 l = true) := Lib.hid (by rw [← HA.out.l1]; exact (rdCode_zero hc).2)
    clear hc
    go_wp2_with fail
    refine (allocated_any n1 n1 os l _ (HO.out.gr hg0) (HL.out.gr hg0) Hok.out Hrk.out).mono ?_
    rintro e w2 ⟨g, rfl, ho, hg2⟩
    have Ho := Lib.hid (own_base ho hg0.size)
    clear ho
    go_wp2_with fail
    go_ret2
    refine ⟨_, _, _, by rw [Hc.out]; rfl, hm4, ?_, hg0.trans hg2⟩
    rw [alRes, if_pos Hc.out]
    exact Ho.out
  · have Hc := Lib.hid hc
    have tb : (rdCode n os l != 0) = true := by simp [hc]
    clear hc
    go_wp2_with fail
    go_ret2
    refine ⟨none, 0, 0, rfl, by omega, ?_, hg0⟩
    rw [alRes, if_neg Hc.out]
    exact World.ownsRow_nil _ _ _ _
theorem spUnallocatedOf_any {A1 A2 A4 A3 : Option Addr} {n1 c1 n2 c2 n4 c4 n3 c3 : Nat} (n : GNet) (os : List GOrd) (l : List GRd) (w : World) (hA : NetAt w A1 n1 c1 A2 n2 c2 n) (hO : SlAt w 4 A4 n4 c4 (os.flatMap GOrd.cells)) (hL : SlAt w 2 A3 n3 c3 (l.flatMap GRd.cells)) :
    Calls Try.prog 10 #[.agg #[.slice A1 n1 c1, .slice A2 n2 c2], .slice A4 n4 c4, .slice A3 n3 c3] w fun e w' => ∃ A m c, e = .returned (.tuple #[.slice A m c, .int .i64 (rdCode n os l)]) ∧ m ≤ 1048576 ∧ w'.ownsRow w.heap.size 2 1 (.slice A m c) m (ints (unRes n os l)) ∧ Gr w w' := by
  have hm4 := hO.small
  have hm3 := hL.small
  have hl4 := hO.sl.len GOrd.cells_len (by omega)
  have hl3 := hL.sl.len GRd.cells_len (by omega)
  have HA := Lib.hid hA
  have HO := Lib.hid hO
  have HL := Lib.hid hL
  have Hl4 := Lib.hid hl4
  have Hl3 := Lib.hid hl3
  clear hA hO hL hl4 hl3
  go_enter Try.func10, Try.ntmps10
  go_wp2_with fail
  refine (l28Code_any n os l _ (HA.out.gr ((Gr.refl _).alloc _)) (HO.out.gr ((Gr.refl _).alloc _)) (HL.out.gr ((Gr.refl _).alloc _))).mono ?_
  rintro e w0 ⟨rfl, hg1⟩
  have hg0 : Gr w w0 := ((Gr.refl _).alloc _).trans hg1
  clear hg1
  by_cases hc : rdCode n os l = 0
  · have Hc := Lib.hid hc
    have tb : (rdCode n os l != 0) = false := by simp [hc]
    have Hok : Hid (ordsOk n1 os = true) := Lib.hid (by rw [← HA.out.l1]; exact (ordCode_zero (rdCode_zero hc).1).2)
    have Hrk : Hid (rdsOk n1 l = true) := Lib.hid (by rw [← HA.out.l1]; exact (rdCode_zero hc).2)
    clear hc
    go_wp2_with fail
    refine (l28Allocate_any n1 n1 os l _ (HO.out.gr hg0) (HL.out.gr hg0) Hok.out Hrk.out).mono ?_
    rintro e w2 ⟨g, c, h, u, d, rfl, _, ho, hg2⟩
    have hu : u ≤ 1048576 := by have := own_ilen ho; have := unTo_len os l l.length; have := Hl3.out; omega
    have Ho := Lib.hid (own_base ho hg0.size)
    clear ho
    go_wp2_with fail
    go_ret2
    refine ⟨_, _, _, by rw [Hc.out]; rfl, hu, ?_, hg0.trans hg2⟩
    rw [unRes, if_pos Hc.out]
    exact Ho.out
  · have Hc := Lib.hid hc
    have tb : (rdCode n os l != 0) = true := by simp [hc]
    clear hc
    go_wp2_with fail
    go_ret2
    refine ⟨none, 0, 0, rfl, by omega, ?_, hg0⟩
    rw [unRes, if_neg Hc.out]
    exact World.ownsRow_nil _ _ _ _
theorem unalloc1_any (g : Nat) (x : GOrd) (y : GRd) (w : World) (hy : y.amount ≠ 0) (h0 : w.cell? ⟨g, 0, none⟩ = some (.int .i64 y.node)) (h1 : w.cell? ⟨g, 1, none⟩ = some (.int .i64 y.amount)) :
    Calls Try.prog 40 #[.agg #[.int .i64 x.shipper, .int .i64 x.node, .int .i64 x.amount, .int .i64 x.cls], .pointer (some ⟨g, 0, none⟩)] w fun e w' => e = .returned (.bool (mtB x y)) ∧ Gr w w' := by
  have hg : Gr w (w.alloc (.cells #[.int .i64 x.shipper, .int .i64 x.node, .int .i64 x.amount, .int .i64 x.cls] 60)) := (Gr.refl _).alloc _
  have z0 := hg.has h0
  have z1 := hg.has h1
  clear h0 h1
  go_enter Try.func40, Try.ntmps40
  go_wp2_with fail
  refine (matches_any x y _ hy).mono ?_
  rintro e w1 ⟨rfl, hg1⟩
  go_wp2_with fail
  go_ret
  exact ⟨rfl, hg.trans hg1⟩
theorem ContainsFunc_unallocated {A : Option Addr} {n c : Nat} (g : Nat) (y : GRd) (l : List GOrd) (w : World) (hn : n ≤ 1048576) (hA : Sl w 4 A n (l.flatMap GOrd.cells)) (hy : y.amount ≠ 0) (h0 : w.cell? ⟨g, 0, none⟩ = some (.int .i64 y.node)) (h1 : w.cell? ⟨g, 1, none⟩ = some (.int .i64 y.amount)) :
    Calls Try.prog 39 #[.slice A n c, .func (.func 40) #[] #[.pointer (some ⟨g, 0, none⟩)]] w fun e w' => e = .returned (.bool (l.any fun x => mtB x y)) ∧ Gr w w' := by
  have HA := Lib.hid hA
  have H0 := Lib.hid h0
  have H1 := Lib.hid h1
  clear hA h0 h1
  go_enter Try.func39, Try.ntmps39
  go_wp2_with fail
  refine (IndexFunc_unallocated (.pointer (some ⟨g, 0, none⟩)) (fun x => mtB x y) A n c l _ hn HA.out (fun k x W _ hW => unalloc1_any g x y W hy (hW.has H0.out) (hW.has H1.out))).mono ?_
  rintro e w1 ⟨rfl, hg⟩
  go_wp2_with fail
  go_ret
  exact ⟨ret_bool idxOf_any, hg⟩
theorem any_mt {nn : Int} {os : List GOrd} (h : ordsOk nn os = true) (y : GRd) : (os.any fun x => mtB x y) = false ↔ (wAt os y).sum = 0 := by
  rw [sum_zero_all (fun z hz => (wAt_bnd h y z hz).1), List.any_eq_false]
  constructor
  · intro e z hz
    have hb := (wAt_bnd h y z hz).1
    rw [wAt, wts, List.mem_map] at hz
    obtain ⟨x, hx, rfl⟩ := hz
    have := e x hx
    simp [mtB] at this
    omega
  · intro e x hx
    have := e _ (List.mem_map.2 ⟨x, hx, rfl⟩)
    simp [mtB, this]
set_option maxHeartbeats 1600000 in
set_option maxRecDepth 100000 in
theorem UnallocatedOf_any {A1 A2 A4 A3 : Option Addr} {n1 c1 n2 c2 n4 c4 n3 c3 : Nat} (n : GNet) (os : List GOrd) (l : List GRd) (w : World) (hA : NetAt w A1 n1 c1 A2 n2 c2 n) (hO : SlAt w 4 A4 n4 c4 (os.flatMap GOrd.cells)) (hL : SlAt w 2 A3 n3 c3 (l.flatMap GRd.cells)) :
    Calls Try.prog 14 #[.agg #[.slice A1 n1 c1, .slice A2 n2 c2], .slice A4 n4 c4, .slice A3 n3 c3] w fun e w' => ∃ A m c, e = .returned (.tuple #[.slice A m c, .int .i64 (rdCode n os l)]) ∧ m ≤ 1048576 ∧ w'.ownsRow w.heap.size 2 1 (.slice A m c) m (ints (unRes n os l)) ∧ Gr w w' := by
  obtain ⟨i0, hi0, hz0, hz1, hz2⟩ := info_parts infoInt64
  have hm4 := hO.small
  have hm3 := hL.small
  have hl4 := hO.sl.len GOrd.cells_len (by omega)
  have hl3 := hL.sl.len GRd.cells_len (by omega)
  have HA := Lib.hid hA
  have HO := Lib.hid hO
  have HL := Lib.hid hL
  have Hl4 := Lib.hid hl4
  have Hl3 := Lib.hid hl3
  clear hA hO hL hl4 hl3
  go_enter Try.func14, Try.ntmps14
  go_wp2_with fail
  refine (checkReadings_any n os l _ (HA.out.gr ((Gr.refl _).alloc _)) (HO.out.gr ((Gr.refl _).alloc _)) (HL.out.gr ((Gr.refl _).alloc _))).mono ?_
  rintro e w0 ⟨rfl, hg1⟩
  have hg0 : Gr w w0 := ((Gr.refl _).alloc _).trans hg1
  clear hg1
  by_cases hc : rdCode n os l = 0
  · have Hc := Lib.hid hc
    have tb : (rdCode n os l != 0) = false := by simp [hc]
    have Hok : Hid (ordsOk n1 os = true) := Lib.hid (by rw [← HA.out.l1]; exact (ordCode_zero (rdCode_zero hc).1).2)
    have Hrk : Hid (rdsOk n1 l = true) := Lib.hid (by rw [← HA.out.l1]; exact (rdCode_zero hc).2)
    clear hc
    go_wp2_with fail
    go_loopw [9, 21] (fun o i wr => ∃ k : Nat, k ≤ n3 ∧ i = .int .i64 k ∧ (∃ u A c, u ≤ k ∧ o = .slice A u c ∧ wr.ownsRow w.heap.size 2 1 o u (ints (unTo os l k))) ∧ Gr w wr) (fun _ i _ => n3 - (intOf i).toNat)
    case atStart => exact ⟨0, Nat.zero_le _, rfl, ⟨0, _, _, Nat.le_refl _, rfl, World.ownsRow_nil _ _ _ _⟩, hg0⟩
    case round =>
      obtain ⟨k, hk, rfl, ⟨u, A, c, hu, rfl, hown⟩, hgr⟩ := hrel
      have Hown := Lib.hid hown
      clear hown
      by_cases hlt : k < n3
      · obtain ⟨y, hy⟩ : ∃ y, l[k]? = some y := ⟨_, List.getElem?_eq_getElem (by have := Hl3.out; omega)⟩
        obtain ⟨b, o, rfl, hb, r0, r1⟩ := (HL.out.sl.gr hgr).rd hy
        have hy0 := (rdOk_all ((rdsOk_all Hrk.out).2 k y hy)).2.2
        have Hy := Lib.hid hy
        have hg2 : Gr wr (wr.alloc (.cells #[.int .i64 y.node, .int .i64 y.amount] 64)) := (Gr.refl _).alloc _
        have y2 : (wr.alloc (.cells #[.int .i64 y.node, .int .i64 y.amount] 64)).cell? ⟨wr.heap.size, 0, none⟩ = some (.int .i64 y.node) := by simp [go_sem]
        have y3 : (wr.alloc (.cells #[.int .i64 y.node, .int .i64 y.amount] 64)).cell? ⟨wr.heap.size, 1, none⟩ = some (.int .i64 y.amount) := by simp [go_sem]
        clear hy
        go_wp2_with fail
        refine (ContainsFunc_unallocated wr.heap.size y os _ hm4 (HO.out.sl.gr (hgr.trans hg2)) hy0 y2 y3).mono ?_
        rintro e w3 ⟨rfl, hg3⟩
        have hgw3 := (hgr.trans hg2).trans hg3
        have Hown3 := Lib.hid (own_gr Hown.out (hg2.trans hg3))
        clear r0 r1 y2 y3 hg2 hg3
        cases hany : (os.any fun x => mtB x y) with
        | true =>
          have hne : ¬ (wAt os y).sum = 0 := fun e => by rw [← any_mt Hok.out y, hany] at e; cases e
          have Hu := Lib.hid (unTo_miss Hy.out hne)
          clear hne
          go_wp2_with fail
          go_roundw
          case rel => exact ⟨k + 1, by omega, by go_num, ⟨_, _, _, by omega, rfl, by rw [Hu.out]; exact Hown3.out⟩, hgw3⟩
          case measure => simp [intOf]; omega
        | false =>
          have Hu := Lib.hid (unTo_hit Hy.out ((any_mt Hok.out y).1 hany))
          have hbs := hgw3.size
          go_wp2_with (at_builtin; (refine wpList_append_lies _ rfl _ _ _ rfl w.heap.size 2 i0 _ 1 8 Try.underlying31 hi0 hz0 hz1 hz2 rfl (by omega) _ u _ rfl (Hown3.out.alloc _) ⟨w3.heap.size, 0, none⟩ 1 1 [.int .i64 (k : Int)] rfl rfl (World.news_of_block (cs := #[.int .i64 (k : Int)]) (t := 2) (fr := (0, 0)) (heap_alloc_new w3 _)) (by simp [Value.oneCell']) (by omega) (by unfold maxLen; omega) (by omega) (by simp; omega) (w3.heap.size + 1) (by simp) ?_; intro h4 cap4 w4 ho4 hg4 hat4 hlt4; have Ho4 := Lib.hid (own_cells_eq ho4 (ints_snoc _ (k : Int)).symm); clear ho4))
          have hgw4 := (hgw3.alloc _).grown hg4 (fun j hj => own_base_le Hown3.out hj)
          clear hat4 hlt4 hg4
          go_wp2_with fail
          go_roundw
          case rel => exact ⟨k + 1, by omega, by go_num, ⟨_, _, _, by omega, rfl, by rw [Hu.out]; exact Ho4.out⟩, hgw4⟩
          case measure => simp [intOf]; omega
      · obtain rfl : k = n3 := by omega
        go_wp2_with fail
        go_ret2
        refine ⟨_, _, _, by rw [Hc.out]; rfl, by omega, ?_, hgr⟩
        rw [unRes, if_pos Hc.out, Hl3.out]
        exact Hown.out
  · have Hc := Lib.hid hc
    have tb : (rdCode n os l != 0) = true := by simp [hc]
    clear hc
    go_wp2_with fail
    go_ret2
    refine ⟨none, 0, 0, rfl, by omega, ?_, hg0⟩
    rw [unRes, if_neg Hc.out]
    exact World.ownsRow_nil _ _ _ _
end Go.Proofs.Ytihkkemkecifcaa
