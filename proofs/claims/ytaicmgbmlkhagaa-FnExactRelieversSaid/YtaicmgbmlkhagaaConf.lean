/-
  Conflicts: whether some transports are a conflict; the program and the reference.
-/
import Derived.Test.YtaicmgbmlkhagaaFit
import Derived.Test.YtaicmgbmlkhagaaConfM
import Derived.Test.YtaicmgbmlkhagaaCurt2M
import Derived.Test.YtaicmgbmlkhagaaSwitches
namespace Go.Proofs.Ytaicmgbmlkhagaa
open Go.ChangeShapes Go.WideShapes Go.ChangeAt Go.RowKit

theorem pick_take {l : List GTr} {s : List Int} {k : Nat} {z : Int} (hz : s[k]? = some z) : pick l (s.take (k + 1)) = pick l (s.take k) ++ [l.getD z.toNat noTr] := by
  rw [pick, pick, map_take_succ _ s hz]
theorem nd_get {l : List GTr} {s : List Int} (h : Nd l.length s) {k : Nat} {z : Int} (hz : s[k]? = some z) : 0 ≤ z ∧ z < (l.length : Int) ∧ l[z.toNat]? = some (l.getD z.toNat noTr) := by
  have h1 := h.2 z (List.mem_of_getElem? hz)
  have h2 : z.toNat < l.length := by omega
  exact ⟨h1.1, h1.2, by rw [List.getD_eq_getElem?_getD, List.getElem?_eq_getElem h2]; rfl⟩
set_option maxHeartbeats 2000000 in
set_option maxRecDepth 100000 in
theorem isConflict_any {A1 A2 A3 A4 : Option Addr} {n1 c1 n2 c2 n3 c3 n4 c4 : Nat} (n : GNet) (l : List GTr) (s : List Int) (w : World) (hA : NetAt w A1 n1 c1 A2 n2 c2 n) (hL : SlAt w 4 A3 n3 c3 (l.flatMap GTr.cells)) (hS : SlAt w 1 A4 n4 c4 (ints s)) (hok : trsOk n1 l = true) (hs : Nd l.length s) :
    Calls Try.prog 95 #[.agg #[.slice A1 n1 c1, .slice A2 n2 c2], .slice A3 n3 c3, .slice A4 n4 c4] w fun e w' => e = .returned (.bool (confB n l s)) ∧ Gr w w' := by
  obtain ⟨i0, hi0, hz0, hz1, hz2⟩ := info_parts infoTransport
  have hm3 := hL.small
  have hl3 := hL.sl.len GTr.cells_len (by omega)
  have hl4 := hS.sl.ilen
  have hm4 : n4 ≤ 32 := by have h1 := hs.len; have h2 := (trsOk_all hok).1; omega
  have HA := Lib.hid hA
  have HL := Lib.hid hL
  have HS := Lib.hid hS
  have Hok := Lib.hid hok
  have Hs := Lib.hid hs
  have Hl3 := Lib.hid hl3
  have Hl4 := Lib.hid hl4
  clear hA hL hS hok hs hl3 hl4
  go_enter Try.func95, Try.ntmps95
  go_wp2_with fail
  obtain ⟨w0, hw0⟩ : ∃ w0, w0 = w.alloc (.cells #[.slice A1 n1 c1, .slice A2 n2 c2] 32) := ⟨_, rfl⟩
  have hg0 : Gr w w0 := by rw [hw0]; exact (Gr.refl _).alloc _
  have b0 : w0.cell? ⟨w.heap.size, 0, none⟩ = some (.slice A1 n1 c1) := by rw [hw0]; simp [go_sem]
  have b1 : w0.cell? ⟨w.heap.size, 1, none⟩ = some (.slice A2 n2 c2) := by rw [hw0]; simp [go_sem]
  rw [← hw0]
  clear hw0
  go_loopw [7, 12] (fun o i wr => ∃ k : Nat, k ≤ n4 ∧ i = .int .i64 k ∧ (∃ A c, o = .slice A k c) ∧ wr.ownsRow w0.heap.size 77 4 o k ((pick l (s.take k)).flatMap GTr.cells) ∧ Gr w0 wr) (fun _ i _ => n4 - (intOf i).toNat)
  case atStart => exact ⟨0, Nat.zero_le _, rfl, ⟨_, _, rfl⟩, World.ownsRow_nil _ _ _ _, Gr.refl _⟩
  case round =>
    obtain ⟨k, hk, rfl, ⟨A, c, rfl⟩, hown, hgr⟩ := hrel
    have Hown := Lib.hid hown
    have hgw := hg0.trans hgr
    have hsz := hgr.size
    clear hown
    by_cases hlt : k < n4
    · obtain ⟨z, hz⟩ : ∃ z, s[k]? = some z := ⟨_, List.getElem?_eq_getElem (by have := Hl4.out; omega)⟩
      obtain ⟨z0, z1, hx⟩ := nd_get Hs.out hz
      have hstep := pick_take (l := l) hz
      generalize l.getD z.toNat noTr = x at hx hstep
      rw [Hl3.out] at z1
      obtain ⟨b4, o4, rfl, hb4, r0⟩ := (HS.out.sl.gr hgw).int hz
      obtain ⟨b, o, rfl, hb, d0, d1, d2, d3⟩ := (HL.out.sl.gr hgw).tr hx
      have Hst := Lib.hid hstep
      have t1 : (k : Int) < (n4 : Int) := by omega
      have t0 : (0 : Int) ≤ (k : Int) := by omega
      clear hx hz hstep
      go_wp2_with (at_builtin; refine wpList_append_own _ rfl _ _ _ rfl w0.heap.size 77 i0 _ 4 32 Try.underlying45 hi0 hz0 hz1 hz2 rfl (by omega) _ k _ rfl (Hown.out.alloc _) ⟨wr.heap.size, 0, none⟩ 1 1 [.int .i64 x.entry, .int .i64 x.exit, .int .i64 x.amount, .int .i64 x.cls] rfl rfl (World.news_of_block (cs := #[.int .i64 x.entry, .int .i64 x.exit, .int .i64 x.amount, .int .i64 x.cls]) (t := 77) (fr := (0, 0)) (heap_alloc_new wr _)) (by simp [Value.oneCell']) (by unfold maxLen; omega) (by omega) (by simp; omega) ?_; intro v' w1 hown hg _)
      have hsh := own_shape hown
      obtain ⟨A', c', rfl⟩ := hsh
      have Ho := Lib.hid hown
      clear hown
      go_wp2_with fail
      go_roundw
      case rel =>
        refine ⟨k + 1, by omega, by go_num, ⟨_, _, rfl⟩, ?_, ?_⟩
        · rw [Hst.out, flat_snoc]; exact Ho.out
        · exact (hgr.alloc _).grown hg (fun j hj => own_base_le Hown.out hj)
      case measure => simp [intOf]; omega
    · obtain rfl : k = n4 := by omega
      replace b0 := hgr.has b0
      replace b1 := hgr.has b1
      go_wp2_with fail
      have h := Hown.out
      rw [List.take_of_length_le (by rw [Hl4.out]; exact Nat.le_refl _)] at h
      refine (doFit_any n (pick l s) _ (HA.out.gr hgw) (SlAt.of_own h (by omega)) (pick_ok Hok.out Hs.out)).mono ?_
      rintro e w2 ⟨rfl, hg2⟩
      clear h
      go_wp2_with fail
      go_ret
      exact ⟨ret_bool rfl, hgw.trans hg2⟩
set_option maxHeartbeats 2000000 in
set_option maxRecDepth 100000 in
theorem l26Fit_any {A1 A2 A3 A4 : Option Addr} {n1 c1 n2 c2 n3 c3 n4 c4 : Nat} (n : GNet) (l : List GTr) (s : List Int) (w : World) (hA : NetAt w A1 n1 c1 A2 n2 c2 n) (hL : SlAt w 4 A3 n3 c3 (l.flatMap GTr.cells)) (hS : SlAt w 1 A4 n4 c4 (ints s)) (hok : trsOk n1 l = true) (hs : Nd l.length s) :
    Calls Try.prog 93 #[.agg #[.slice A1 n1 c1, .slice A2 n2 c2], .slice A3 n3 c3, .slice A4 n4 c4] w fun e w' => e = .returned (.bool (!confB n l s)) ∧ Gr w w' := by
  obtain ⟨i0, hi0, hz0, hz1, hz2⟩ := info_parts infoTransport
  have hm3 := hL.small
  have hl3 := hL.sl.len GTr.cells_len (by omega)
  have hl4 := hS.sl.ilen
  have hm4 : n4 ≤ 32 := by have h1 := hs.len; have h2 := (trsOk_all hok).1; omega
  have HA := Lib.hid hA
  have HL := Lib.hid hL
  have HS := Lib.hid hS
  have Hok := Lib.hid hok
  have Hs := Lib.hid hs
  have Hl3 := Lib.hid hl3
  have Hl4 := Lib.hid hl4
  clear hA hL hS hok hs hl3 hl4
  go_enter Try.func93, Try.ntmps93
  go_wp2_with fail
  try rw [show (w.alloc (.cells #[.slice A1 n1 c1, .slice A2 n2 c2] 32)).heap.size = w.heap.size + 1 by simp]
  obtain ⟨w0, hw0⟩ : ∃ w0, w0 = w.alloc (.cells #[.slice A1 n1 c1, .slice A2 n2 c2] 32) := ⟨_, rfl⟩
  have hg0 : Gr w w0 := by rw [hw0]; exact (Gr.refl _).alloc _
  have b0 : w0.cell? ⟨w.heap.size, 0, none⟩ = some (.slice A1 n1 c1) := by rw [hw0]; simp [go_sem]
  have b1 : w0.cell? ⟨w.heap.size, 1, none⟩ = some (.slice A2 n2 c2) := by rw [hw0]; simp [go_sem]
  have hs0 : w.heap.size + 1 = w0.heap.size := by rw [hw0]; simp
  rw [← hw0, hs0]
  clear hw0 hs0
  go_loopw [7, 8] (fun o i wr => ∃ k : Nat, k ≤ n4 ∧ i = .int .i64 k ∧ (∃ A c, o = .slice A k c) ∧ wr.ownsRow w0.heap.size 77 4 o k ((pick l (s.take k)).flatMap GTr.cells) ∧ Gr w0 wr) (fun _ i _ => n4 - (intOf i).toNat)
  case atStart => exact ⟨0, Nat.zero_le _, rfl, ⟨_, _, rfl⟩, World.ownsRow_lit w0 #[] 0 (Nat.le_refl _) (by unfold maxLen; omega) rfl, (Gr.refl _).alloc _⟩
  case round =>
    obtain ⟨k, hk, rfl, ⟨A, c, rfl⟩, hown, hgr⟩ := hrel
    have Hown := Lib.hid hown
    have hgw := hg0.trans hgr
    have hsz := hgr.size
    clear hown
    by_cases hlt : k < n4
    · obtain ⟨z, hz⟩ : ∃ z, s[k]? = some z := ⟨_, List.getElem?_eq_getElem (by have := Hl4.out; omega)⟩
      obtain ⟨z0, z1, hx⟩ := nd_get Hs.out hz
      have hstep := pick_take (l := l) hz
      generalize l.getD z.toNat noTr = x at hx hstep
      rw [Hl3.out] at z1
      obtain ⟨b4, o4, rfl, hb4, r0⟩ := (HS.out.sl.gr hgw).int hz
      obtain ⟨b, o, rfl, hb, d0, d1, d2, d3⟩ := (HL.out.sl.gr hgw).tr hx
      have Hst := Lib.hid hstep
      have t1 : (k : Int) < (n4 : Int) := by omega
      have t0 : (0 : Int) ≤ (k : Int) := by omega
      clear hx hz hstep
      go_wp2_with (at_builtin; refine wpList_append_own _ rfl _ _ _ rfl w0.heap.size 77 i0 _ 4 32 Try.underlying45 hi0 hz0 hz1 hz2 rfl (by omega) _ k _ rfl (Hown.out.alloc _) ⟨wr.heap.size, 0, none⟩ 1 1 [.int .i64 x.entry, .int .i64 x.exit, .int .i64 x.amount, .int .i64 x.cls] rfl rfl (World.news_of_block (cs := #[.int .i64 x.entry, .int .i64 x.exit, .int .i64 x.amount, .int .i64 x.cls]) (t := 77) (fr := (0, 0)) (heap_alloc_new wr _)) (by simp [Value.oneCell']) (by unfold maxLen; omega) (by omega) (by simp; omega) ?_; intro v' w1 hown hg _)
      have hsh := own_shape hown
      obtain ⟨A', c', rfl⟩ := hsh
      have Ho := Lib.hid hown
      clear hown
      go_wp2_with fail
      go_roundw
      case rel =>
        refine ⟨k + 1, by omega, by go_num, ⟨_, _, rfl⟩, ?_, ?_⟩
        · rw [Hst.out, flat_snoc]; exact Ho.out
        · exact (hgr.alloc _).grown hg (fun j hj => own_base_le Hown.out hj)
      case measure => simp [intOf]; omega
    · obtain rfl : k = n4 := by omega
      replace b0 := hgr.has b0
      replace b1 := hgr.has b1
      go_wp2_with fail
      have h := Hown.out
      rw [List.take_of_length_le (by rw [Hl4.out]; exact Nat.le_refl _)] at h
      refine (l24Fit_any n (pick l s) _ (HA.out.gr hgw) (SlAt.of_own h (by omega)) (pick_ok Hok.out Hs.out)).mono ?_
      rintro e w2 ⟨rfl, hg2⟩
      clear h
      go_wp2_with fail
      go_ret
      exact ⟨ret_bool (by rw [confB, Bool.not_not]), hgw.trans hg2⟩
set_option maxRecDepth 100000 in
theorem checkSet_any {A1 A2 A3 A4 : Option Addr} {n1 c1 n2 c2 n3 c3 n4 c4 : Nat} (n : GNet) (l : List GTr) (s : List Int) (w : World) (hA : NetAt w A1 n1 c1 A2 n2 c2 n) (hL : SlAt w 4 A3 n3 c3 (l.flatMap GTr.cells)) (hS : SlAt w 1 A4 n4 c4 (ints s)) :
    Calls Try.prog 94 #[.agg #[.slice A1 n1 c1, .slice A2 n2 c2], .slice A3 n3 c3, .slice A4 n4 c4] w fun e w' => e = .returned (.int .i64 (csCode n l s)) ∧ Gr w w' := by
  have hm3 := hL.small
  have hl3 := hL.sl.len GTr.cells_len (by omega)
  have HA := Lib.hid hA
  have HL := Lib.hid hL
  have HS := Lib.hid hS
  have Hl3 := Lib.hid hl3
  clear hA hL hS hl3
  go_enter Try.func94, Try.ntmps94
  go_wp2_with fail
  refine (checkTransports_any _ _ _ _ _ _ _ _ _ n l _ (HA.out.gr ((Gr.refl _).alloc _)) (HL.out.sl.gr ((Gr.refl _).alloc _)) HL.out.small).mono ?_
  rintro e w1 ⟨rfl, hg1⟩
  have hg0 : Gr w w1 := ((Gr.refl _).alloc _).trans hg1
  have b0 : w1.cell? ⟨w.heap.size, 0, none⟩ = some (.slice A1 n1 c1) := hg1.has (by simp [go_sem])
  have b1 : w1.cell? ⟨w.heap.size, 1, none⟩ = some (.slice A2 n2 c2) := hg1.has (by simp [go_sem])
  clear hg1
  by_cases hc : trCode n l = 0
  · have Hc := Lib.hid hc
    have Hn := Lib.hid (trCode_zero hc).1
    have Hok := Lib.hid (trCode_zero hc).2
    have Hok1 : Hid (trsOk n1 l = true) := Lib.hid (by rw [← HA.out.l1]; exact (trCode_zero hc).2)
    have tb : (trCode n l != 0) = false := by simp [hc]
    clear hc
    have hcs : csCode n l s = if ((s.all fun z => inB 0 z ((n3 : Int) - 1)) && incOk s) = true then 0 else 2 := by rw [csCode, if_pos Hc.out, Hl3.out, setOk_eq]
    have hwN : IntKind.i64.wrap ((n3 : Int) - 1) = (n3 : Int) - 1 := IntWalk.i64_in _ (by omega)
    have Hcs := Lib.hid hcs
    clear hcs b0 b1
    go_wp2_with fail
    refine (allWithin_any s _ _ _ (HS.out.gr hg0)).mono ?_
    rintro e _ ⟨rfl, rfl⟩
    generalize (s.all fun z => inB 0 z ((n3 : Int) - 1)) = ba at Hcs ⊢
    cases ba
    · go_wp2_with fail
      go_ret
      exact ⟨ret_int (by rw [Hcs.out]; rfl), hg0⟩
    · go_wp2_with fail
      refine (increasing_any s _ (HS.out.gr hg0)).mono ?_
      rintro e w2 ⟨rfl, hg2⟩
      generalize incOk s = bi at Hcs ⊢
      cases bi
      · go_wp2_with fail
        go_ret
        exact ⟨ret_int (by rw [Hcs.out]; rfl), hg0.trans hg2⟩
      · go_wp2_with fail
        go_ret
        exact ⟨ret_int (by rw [Hcs.out]; rfl), hg0.trans hg2⟩
  · have Hc := Lib.hid hc
    have tb : (trCode n l != 0) = true := by simp [hc]
    clear hc b0 b1
    go_wp2_with fail
    go_ret
    exact ⟨ret_int (by rw [csCode, if_neg Hc.out]), hg0⟩
set_option maxRecDepth 100000 in
theorem l26Code_any {A1 A2 A3 A4 : Option Addr} {n1 c1 n2 c2 n3 c3 n4 c4 : Nat} (n : GNet) (l : List GTr) (s : List Int) (w : World) (hA : NetAt w A1 n1 c1 A2 n2 c2 n) (hL : SlAt w 4 A3 n3 c3 (l.flatMap GTr.cells)) (hS : SlAt w 1 A4 n4 c4 (ints s)) :
    Calls Try.prog 92 #[.agg #[.slice A1 n1 c1, .slice A2 n2 c2], .slice A3 n3 c3, .slice A4 n4 c4] w fun e w' => e = .returned (.int .i64 (csCode n l s)) ∧ Gr w w' := by
  have hm3 := hL.small
  have hl3 := hL.sl.len GTr.cells_len (by omega)
  have HA := Lib.hid hA
  have HL := Lib.hid hL
  have HS := Lib.hid hS
  have Hl3 := Lib.hid hl3
  clear hA hL hS hl3
  go_enter Try.func92, Try.ntmps92
  go_wp2_with fail
  refine (l24Code_any n l _ (HA.out.gr ((Gr.refl _).alloc _)) (HL.out.gr ((Gr.refl _).alloc _))).mono ?_
  rintro e w1 ⟨rfl, hg1⟩
  have hg0 : Gr w w1 := ((Gr.refl _).alloc _).trans hg1
  have b0 : w1.cell? ⟨w.heap.size, 0, none⟩ = some (.slice A1 n1 c1) := hg1.has (by simp [go_sem])
  have b1 : w1.cell? ⟨w.heap.size, 1, none⟩ = some (.slice A2 n2 c2) := hg1.has (by simp [go_sem])
  clear hg1
  by_cases hc : trCode n l = 0
  · have tc : (trCode n l == 0) = true := by simp [hc]
    have Hc := Lib.hid hc
    have Hn := Lib.hid (trCode_zero hc).1
    have Hok := Lib.hid (trCode_zero hc).2
    have Hok1 : Hid (trsOk n1 l = true) := Lib.hid (by rw [← HA.out.l1]; exact (trCode_zero hc).2)
    have tb : (trCode n l != 0) = false := by simp [hc]
    clear hc
    have hcs : csCode n l s = if setOk ((n3 : Int) - 1) s = true then 0 else 2 := by rw [csCode, if_pos Hc.out, Hl3.out]
    have Hcs := Lib.hid hcs
    clear hcs b0 b1
    go_wp2_with fail
    refine (l26Set_any s n3 _ (HS.out.gr hg0) (by omega)).mono ?_
    rintro e w2 ⟨rfl, hg2⟩
    generalize setOk ((n3 : Int) - 1) s = ba at Hcs ⊢
    cases ba
    · go_wp2_with fail
      go_ret
      exact ⟨ret_int (by rw [Hcs.out]; rfl), hg0.trans hg2⟩
    · go_wp2_with fail
      go_ret
      exact ⟨ret_int (by rw [Hcs.out, Hc.out]; rfl), hg0.trans hg2⟩
  · have Hc := Lib.hid hc
    have tc : (trCode n l == 0) = false := by simp [hc]
    clear hc b0 b1
    go_wp2_with fail
    go_ret
    exact ⟨ret_int (by rw [csCode, if_neg Hc.out]), hg0⟩
end Go.Proofs.Ytaicmgbmlkhagaa
