import Derived.Test.YtejfpajbkgfiaaaFit
import Derived.Test.YtejfpajbkgfiaaaConfMs
import Derived.Test.YtejfpajbkgfiaaaCurtMs
import Derived.Test.YtejfpajbkgfiaaaSwitches
import Derived.Test.YtejfpajbkgfiaaaFlowB
/-
  Conflicts: whether some transports are a conflict; the program and the reference.
-/
namespace Go.Proofs.Ytejfpajbkgfiaaa
open Go.ChangeShapes Go.WideShapes Go.ChangeAt Go.RowKit

theorem pick_take {l : List GTr} {s : List Int} {k : Nat} {z : Int} (hz : s[k]? = some z) : pick l (s.take (k + 1)) = pick l (s.take k) ++ [l.getD z.toNat noTr] := by
  rw [pick, pick, map_take_succ _ s hz]
theorem nd_get {l : List GTr} {s : List Int} (h : Nd l.length s) {k : Nat} {z : Int} (hz : s[k]? = some z) : 0 ≤ z ∧ z < (l.length : Int) ∧ l[z.toNat]? = some (l.getD z.toNat noTr) := by
  have h1 := h.2 z (List.mem_of_getElem? hz)
  have h2 : z.toNat < l.length := by omega
  exact ⟨h1.1, h1.2, by rw [List.getD_eq_getElem?_getD, List.getElem?_eq_getElem h2]; rfl⟩
set_option maxHeartbeats 2000000 in
set_option maxRecDepth 100000 in
theorem isConflict_any {A1 A2 A3 A4 : Option Addr} {n1 c1 n2 c2 n3 c3 n4 c4 : Nat} (n : GNet) (l : List GTr) (s : List Int) (w : World) (hA : NetAt w A1 n1 c1 A2 n2 c2 n) (hL : SlAt w 4 A3 n3 c3 (l.flatMap GTr.cells)) (hS : SlAt w 1 A4 n4 c4 (ints s)) (hok : trsOk n1 l = true) (hs : Nd l.length s) :
    Calls Try.prog 113 #[.agg #[.slice A1 n1 c1, .slice A2 n2 c2], .slice A3 n3 c3, .slice A4 n4 c4] w fun e w' => e = .returned (.bool (confB n l s)) ∧ Gr w w' := by
  obtain ⟨i0, hi0, hz0, hz1, hz2⟩ := info_parts infoTransport
  have hm3 := hL.small
  have hl3 := hL.sl.len GTr.cells_len (by omega)
  have hl4 := hS.sl.ilen
  have hm4 : n4 ≤ 32 := by have h1 := hs.len; have h2 := (trsOk_all hok).1; omega
  have HA := Lib.hid hA
  have HL := Lib.hid hL
  have HS := Lib.hid hS
  have Hok := Lib.hid hok
  have Hs := Lib.hid hs
  have Hl3 := Lib.hid hl3
  have Hl4 := Lib.hid hl4
  clear hA hL hS hok hs hl3 hl4
  go_enter Try.func113, Try.ntmps113
  go_wp2_with fail
  obtain ⟨w0, hw0⟩ : ∃ w0, w0 = w.alloc (.cells #[.slice A1 n1 c1, .slice A2 n2 c2] 27) := ⟨_, rfl⟩
  have hg0 : Gr w w0 := by rw [hw0]; exact (Gr.refl _).alloc _
  have b0 : w0.cell? ⟨w.heap.size, 0, none⟩ = some (.slice A1 n1 c1) := by rw [hw0]; simp [go_sem]
  have b1 : w0.cell? ⟨w.heap.size, 1, none⟩ = some (.slice A2 n2 c2) := by rw [hw0]; simp [go_sem]
  rw [← hw0]
  clear hw0
  go_loopw [7, 12] (fun o i wr => ∃ k : Nat, k ≤ n4 ∧ i = .int .i64 k ∧ (∃ A c, o = .slice A k c) ∧ wr.ownsRow w0.heap.size 39 4 o k ((pick l (s.take k)).flatMap GTr.cells) ∧ Gr w0 wr) (fun _ i _ => n4 - (intOf i).toNat)
  case atStart => exact ⟨0, Nat.zero_le _, rfl, ⟨_, _, rfl⟩, World.ownsRow_nil _ _ _ _, Gr.refl _⟩
  case round =>
    obtain ⟨k, hk, rfl, ⟨A, c, rfl⟩, hown, hgr⟩ := hrel
    have Hown := Lib.hid hown
    have hgw := hg0.trans hgr
    have hsz := hgr.size
    clear hown
    by_cases hlt : k < n4
    · obtain ⟨z, hz⟩ : ∃ z, s[k]? = some z := ⟨_, List.getElem?_eq_getElem (by have := Hl4.out; omega)⟩
      obtain ⟨z0, z1, hx⟩ := nd_get Hs.out hz
      have hstep := pick_take (l := l) hz
      generalize l.getD z.toNat noTr = x at hx hstep
      rw [Hl3.out] at z1
      obtain ⟨b4, o4, rfl, hb4, r0⟩ := (HS.out.sl.gr hgw).int hz
      obtain ⟨b, o, rfl, hb, d0, d1, d2, d3⟩ := (HL.out.sl.gr hgw).tr hx
      have Hst := Lib.hid hstep
      have t1 : (k : Int) < (n4 : Int) := by omega
      have t0 : (0 : Int) ≤ (k : Int) := by omega
      clear hx hz hstep
      go_wp2_with (at_builtin; refine wpList_append_own _ rfl _ _ _ rfl w0.heap.size 39 i0 _ 4 32 Try.underlying28 hi0 hz0 hz1 hz2 rfl (by omega) _ k _ rfl (Hown.out.alloc _) ⟨wr.heap.size, 0, none⟩ 1 1 [.int .i64 x.entry, .int .i64 x.exit, .int .i64 x.amount, .int .i64 x.cls] rfl rfl (World.news_of_block (cs := #[.int .i64 x.entry, .int .i64 x.exit, .int .i64 x.amount, .int .i64 x.cls]) (t := 39) (fr := (0, 0)) (heap_alloc_new wr _)) (by simp [Value.oneCell']) (by unfold maxLen; omega) (by omega) (by simp; omega) ?_; intro v' w1 hown hg _)
      have hsh := own_shape hown
      obtain ⟨A', c', rfl⟩ := hsh
      have Ho := Lib.hid hown
      clear hown
      go_wp2_with fail
      go_roundw
      case rel =>
        refine ⟨k + 1, by omega, by go_num, ⟨_, _, rfl⟩, ?_, ?_⟩
        · rw [Hst.out, flat_snoc]; exact Ho.out
        · exact (hgr.alloc _).grown hg (fun j hj => own_base_le Hown.out hj)
      case measure => simp [intOf]; omega
    · obtain rfl : k = n4 := by omega
      replace b0 := hgr.has b0
      replace b1 := hgr.has b1
      go_wp2_with fail
      have h := Hown.out
      rw [List.take_of_length_le (by rw [Hl4.out]; exact Nat.le_refl _)] at h
      refine (doFit_any n (pick l s) _ (HA.out.gr hgw) (SlAt.of_own h (by omega)) (pick_ok Hok.out Hs.out)).mono ?_
      rintro e w2 ⟨rfl, hg2⟩
      clear h
      go_wp2_with fail
      go_ret
      exact ⟨ret_bool rfl, hgw.trans hg2⟩
set_option maxHeartbeats 2000000 in
set_option maxRecDepth 100000 in
theorem l26Fit_any {A1 A2 A3 A4 : Option Addr} {n1 c1 n2 c2 n3 c3 n4 c4 : Nat} (n : GNet) (l : List GTr) (s : List Int) (w : World) (hA : NetAt w A1 n1 c1 A2 n2 c2 n) (hL : SlAt w 4 A3 n3 c3 (l.flatMap GTr.cells)) (hS : SlAt w 1 A4 n4 c4 (ints s)) (hok : trsOk n1 l = true) (hs : Nd l.length s) :
    Calls Try.prog 117 #[.agg #[.slice A1 n1 c1, .slice A2 n2 c2], .slice A3 n3 c3, .slice A4 n4 c4] w fun e w' => e = .returned (.bool (!confB n l s)) ∧ Gr w w' := by
  obtain ⟨i0, hi0, hz0, hz1, hz2⟩ := info_parts infoTransport
  have hm3 := hL.small
  have hl3 := hL.sl.len GTr.cells_len (by omega)
  have hl4 := hS.sl.ilen
  have hm4 : n4 ≤ 32 := by have h1 := hs.len; have h2 := (trsOk_all hok).1; omega
  have HA := Lib.hid hA
  have HL := Lib.hid hL
  have HS := Lib.hid hS
  have Hok := Lib.hid hok
  have Hs := Lib.hid hs
  have Hl3 := Lib.hid hl3
  have Hl4 := Lib.hid hl4
  clear hA hL hS hok hs hl3 hl4
  go_enter Try.func117, Try.ntmps117
  go_wp2_with fail
  try rw [show (w.alloc (.cells #[.slice A1 n1 c1, .slice A2 n2 c2] 27)).heap.size = w.heap.size + 1 by simp]
  obtain ⟨w0, hw0⟩ : ∃ w0, w0 = w.alloc (.cells #[.slice A1 n1 c1, .slice A2 n2 c2] 27) := ⟨_, rfl⟩
  have hg0 : Gr w w0 := by rw [hw0]; exact (Gr.refl _).alloc _
  have b0 : w0.cell? ⟨w.heap.size, 0, none⟩ = some (.slice A1 n1 c1) := by rw [hw0]; simp [go_sem]
  have b1 : w0.cell? ⟨w.heap.size, 1, none⟩ = some (.slice A2 n2 c2) := by rw [hw0]; simp [go_sem]
  have hs0 : w.heap.size + 1 = w0.heap.size := by rw [hw0]; simp
  rw [← hw0, hs0]
  clear hw0 hs0
  go_loopw [7, 8] (fun o i wr => ∃ k : Nat, k ≤ n4 ∧ i = .int .i64 k ∧ (∃ A c, o = .slice A k c) ∧ wr.ownsRow w0.heap.size 39 4 o k ((pick l (s.take k)).flatMap GTr.cells) ∧ Gr w0 wr) (fun _ i _ => n4 - (intOf i).toNat)
  case atStart => exact ⟨0, Nat.zero_le _, rfl, ⟨_, _, rfl⟩, World.ownsRow_lit w0 #[] 0 (Nat.le_refl _) (by unfold maxLen; omega) rfl, (Gr.refl _).alloc _⟩
  case round =>
    obtain ⟨k, hk, rfl, ⟨A, c, rfl⟩, hown, hgr⟩ := hrel
    have Hown := Lib.hid hown
    have hgw := hg0.trans hgr
    have hsz := hgr.size
    clear hown
    by_cases hlt : k < n4
    · obtain ⟨z, hz⟩ : ∃ z, s[k]? = some z := ⟨_, List.getElem?_eq_getElem (by have := Hl4.out; omega)⟩
      obtain ⟨z0, z1, hx⟩ := nd_get Hs.out hz
      have hstep := pick_take (l := l) hz
      generalize l.getD z.toNat noTr = x at hx hstep
      rw [Hl3.out] at z1
      obtain ⟨b4, o4, rfl, hb4, r0⟩ := (HS.out.sl.gr hgw).int hz
      obtain ⟨b, o, rfl, hb, d0, d1, d2, d3⟩ := (HL.out.sl.gr hgw).tr hx
      have Hst := Lib.hid hstep
      have t1 : (k : Int) < (n4 : Int) := by omega
      have t0 : (0 : Int) ≤ (k : Int) := by omega
      clear hx hz hstep
      go_wp2_with (at_builtin; refine wpList_append_own _ rfl _ _ _ rfl w0.heap.size 39 i0 _ 4 32 Try.underlying28 hi0 hz0 hz1 hz2 rfl (by omega) _ k _ rfl (Hown.out.alloc _) ⟨wr.heap.size, 0, none⟩ 1 1 [.int .i64 x.entry, .int .i64 x.exit, .int .i64 x.amount, .int .i64 x.cls] rfl rfl (World.news_of_block (cs := #[.int .i64 x.entry, .int .i64 x.exit, .int .i64 x.amount, .int .i64 x.cls]) (t := 39) (fr := (0, 0)) (heap_alloc_new wr _)) (by simp [Value.oneCell']) (by unfold maxLen; omega) (by omega) (by simp; omega) ?_; intro v' w1 hown hg _)
      have hsh := own_shape hown
      obtain ⟨A', c', rfl⟩ := hsh
      have Ho := Lib.hid hown
      clear hown
      go_wp2_with fail
      go_roundw
      case rel =>
        refine ⟨k + 1, by omega, by go_num, ⟨_, _, rfl⟩, ?_, ?_⟩
        · rw [Hst.out, flat_snoc]; exact Ho.out
        · exact (hgr.alloc _).grown hg (fun j hj => own_base_le Hown.out hj)
      case measure => simp [intOf]; omega
    · obtain rfl : k = n4 := by omega
      replace b0 := hgr.has b0
      replace b1 := hgr.has b1
      go_wp2_with fail
      have h := Hown.out
      rw [List.take_of_length_le (by rw [Hl4.out]; exact Nat.le_refl _)] at h
      refine (l24Fit_any n (pick l s) _ (HA.out.gr hgw) (SlAt.of_own h (by omega)) (pick_ok Hok.out Hs.out)).mono ?_
      rintro e w2 ⟨rfl, hg2⟩
      clear h
      go_wp2_with fail
      go_ret
      exact ⟨ret_bool (by rw [confB, Bool.not_not]), hgw.trans hg2⟩
set_option maxRecDepth 100000 in
theorem checkSet_any {A1 A2 A3 A4 : Option Addr} {n1 c1 n2 c2 n3 c3 n4 c4 : Nat} (n : GNet) (l : List GTr) (s : List Int) (w : World) (hA : NetAt w A1 n1 c1 A2 n2 c2 n) (hL : SlAt w 4 A3 n3 c3 (l.flatMap GTr.cells)) (hS : SlAt w 1 A4 n4 c4 (ints s)) :
    Calls Try.prog 118 #[.agg #[.slice A1 n1 c1, .slice A2 n2 c2], .slice A3 n3 c3, .slice A4 n4 c4] w fun e w' => e = .returned (.int .i64 (csCode n l s)) ∧ Gr w w' := by
  have hm3 := hL.small
  have hl3 := hL.sl.len GTr.cells_len (by omega)
  have HA := Lib.hid hA
  have HL := Lib.hid hL
  have HS := Lib.hid hS
  have Hl3 := Lib.hid hl3
  clear hA hL hS hl3
  go_enter Try.func118, Try.ntmps118
  go_wp2_with fail
  refine (checkTransports_any _ _ _ _ _ _ _ _ _ n l _ (HA.out.gr ((Gr.refl _).alloc _)) (HL.out.sl.gr ((Gr.refl _).alloc _)) HL.out.small).mono ?_
  rintro e w1 ⟨rfl, hg1⟩
  have hg0 : Gr w w1 := ((Gr.refl _).alloc _).trans hg1
  have b0 : w1.cell? ⟨w.heap.size, 0, none⟩ = some (.slice A1 n1 c1) := hg1.has (by simp [go_sem])
  have b1 : w1.cell? ⟨w.heap.size, 1, none⟩ = some (.slice A2 n2 c2) := hg1.has (by simp [go_sem])
  clear hg1
  by_cases hc : trCode n l = 0
  · have Hc := Lib.hid hc
    have Hn := Lib.hid (trCode_zero hc).1
    have Hok := Lib.hid (trCode_zero hc).2
    have Hok1 : Hid (trsOk n1 l = true) := Lib.hid (by rw [← HA.out.l1]; exact (trCode_zero hc).2)
    have tb : (trCode n l != 0) = false := by simp [hc]
    clear hc
    have hcs : csCode n l s = if ((s.all fun z => inB 0 z ((n3 : Int) - 1)) && incOk s) = true then 0 else 2 := by rw [csCode, if_pos Hc.out, Hl3.out, setOk_eq]
    have hwN : IntKind.i64.wrap ((n3 : Int) - 1) = (n3 : Int) - 1 := IntWalk.i64_in _ (by omega)
    have Hcs := Lib.hid hcs
    clear hcs b0 b1
    go_wp2_with fail
    refine (allWithin_any s _ _ _ (HS.out.gr hg0)).mono ?_
    rintro e _ ⟨rfl, rfl⟩
    generalize (s.all fun z => inB 0 z ((n3 : Int) - 1)) = ba at Hcs ⊢
    cases ba
    · go_wp2_with fail
      go_ret
      exact ⟨ret_int (by rw [Hcs.out]; rfl), hg0⟩
    · go_wp2_with fail
      refine (increasing_any s _ (HS.out.gr hg0)).mono ?_
      rintro e w2 ⟨rfl, hg2⟩
      generalize incOk s = bi at Hcs ⊢
      cases bi
      · go_wp2_with fail
        go_ret
        exact ⟨ret_int (by rw [Hcs.out]; rfl), hg0.trans hg2⟩
      · go_wp2_with fail
        go_ret
        exact ⟨ret_int (by rw [Hcs.out]; rfl), hg0.trans hg2⟩
  · have Hc := Lib.hid hc
    have tb : (trCode n l != 0) = true := by simp [hc]
    clear hc b0 b1
    go_wp2_with fail
    go_ret
    exact ⟨ret_int (by rw [csCode, if_neg Hc.out]), hg0⟩
set_option maxRecDepth 100000 in
theorem l26Code_any {A1 A2 A3 A4 : Option Addr} {n1 c1 n2 c2 n3 c3 n4 c4 : Nat} (n : GNet) (l : List GTr) (s : List Int) (w : World) (hA : NetAt w A1 n1 c1 A2 n2 c2 n) (hL : SlAt w 4 A3 n3 c3 (l.flatMap GTr.cells)) (hS : SlAt w 1 A4 n4 c4 (ints s)) :
    Calls Try.prog 121 #[.agg #[.slice A1 n1 c1, .slice A2 n2 c2], .slice A3 n3 c3, .slice A4 n4 c4] w fun e w' => e = .returned (.int .i64 (csCode n l s)) ∧ Gr w w' := by
  have hm3 := hL.small
  have hl3 := hL.sl.len GTr.cells_len (by omega)
  have HA := Lib.hid hA
  have HL := Lib.hid hL
  have HS := Lib.hid hS
  have Hl3 := Lib.hid hl3
  clear hA hL hS hl3
  go_enter Try.func121, Try.ntmps121
  go_wp2_with fail
  refine (l24Code_any n l _ (HA.out.gr ((Gr.refl _).alloc _)) (HL.out.gr ((Gr.refl _).alloc _))).mono ?_
  rintro e w1 ⟨rfl, hg1⟩
  have hg0 : Gr w w1 := ((Gr.refl _).alloc _).trans hg1
  have b0 : w1.cell? ⟨w.heap.size, 0, none⟩ = some (.slice A1 n1 c1) := hg1.has (by simp [go_sem])
  have b1 : w1.cell? ⟨w.heap.size, 1, none⟩ = some (.slice A2 n2 c2) := hg1.has (by simp [go_sem])
  clear hg1
  by_cases hc : trCode n l = 0
  · have tc : (trCode n l == 0) = true := by simp [hc]
    have Hc := Lib.hid hc
    have Hn := Lib.hid (trCode_zero hc).1
    have Hok := Lib.hid (trCode_zero hc).2
    have Hok1 : Hid (trsOk n1 l = true) := Lib.hid (by rw [← HA.out.l1]; exact (trCode_zero hc).2)
    have tb : (trCode n l != 0) = false := by simp [hc]
    clear hc
    have hcs : csCode n l s = if setOk ((n3 : Int) - 1) s = true then 0 else 2 := by rw [csCode, if_pos Hc.out, Hl3.out]
    have Hcs := Lib.hid hcs
    clear hcs b0 b1
    go_wp2_with fail
    refine (l26Set_any s n3 _ (HS.out.gr hg0) (by omega)).mono ?_
    rintro e w2 ⟨rfl, hg2⟩
    generalize setOk ((n3 : Int) - 1) s = ba at Hcs ⊢
    cases ba
    · go_wp2_with fail
      go_ret
      exact ⟨ret_int (by rw [Hcs.out]; rfl), hg0.trans hg2⟩
    · go_wp2_with fail
      go_ret
      exact ⟨ret_int (by rw [Hcs.out, Hc.out]; rfl), hg0.trans hg2⟩
  · have Hc := Lib.hid hc
    have tc : (trCode n l == 0) = false := by simp [hc]
    clear hc b0 b1
    go_wp2_with fail
    go_ret
    exact ⟨ret_int (by rw [csCode, if_neg Hc.out]), hg0⟩
end Go.Proofs.Ytejfpajbkgfiaaa
/-
  Conflicts: IsConflict and IsMinimal of the program and the reference.
-/
namespace Go.Proofs.Ytejfpajbkgfiaaa
open Go.ChangeShapes Go.WideShapes Go.ChangeAt Go.RowKit

noncomputable def isConfB (n : GNet) (l : List GTr) (s : List Int) : Bool := (csCode n l s == 0) && confB n l s
set_option maxRecDepth 100000 in
theorem IsConflict_any {A1 A2 A3 A4 : Option Addr} {n1 c1 n2 c2 n3 c3 n4 c4 : Nat} (n : GNet) (l : List GTr) (s : List Int) (w : World) (hA : NetAt w A1 n1 c1 A2 n2 c2 n) (hL : SlAt w 4 A3 n3 c3 (l.flatMap GTr.cells)) (hS : SlAt w 1 A4 n4 c4 (ints s)) :
    Calls Try.prog 57 #[.agg #[.slice A1 n1 c1, .slice A2 n2 c2], .slice A3 n3 c3, .slice A4 n4 c4] w fun e w' => e = .returned (.bool (isConfB n l s)) ∧ Gr w w' := by
  have HA := Lib.hid hA
  have hm3 := hL.small
  have hl3 := hL.sl.len GTr.cells_len (by omega)
  have hl4 := hS.sl.ilen
  have HL := Lib.hid hL
  have HS := Lib.hid hS
  have Hl3 := Lib.hid hl3
  have Hl4 := Lib.hid hl4
  clear hA hL hS hl3 hl4
  go_enter Try.func57, Try.ntmps57
  go_wp2_with fail
  refine (checkSet_any n l s _ (HA.out.gr ((Gr.refl _).alloc _)) (HL.out.gr ((Gr.refl _).alloc _)) (HS.out.gr ((Gr.refl _).alloc _))).mono ?_
  rintro e w1 ⟨rfl, hg1⟩
  have hg0 : Gr w w1 := ((Gr.refl _).alloc _).trans hg1
  have b0 : w1.cell? ⟨w.heap.size, 0, none⟩ = some (.slice A1 n1 c1) := hg1.has (by simp [go_sem])
  have b1 : w1.cell? ⟨w.heap.size, 1, none⟩ = some (.slice A2 n2 c2) := hg1.has (by simp [go_sem])
  clear hg1
  by_cases hc : csCode n l s = 0
  · have Hc := Lib.hid hc
    have Hn := Lib.hid (trCode_zero (csCode_zero hc).1).1
    have Hok1 : Hid (trsOk n1 l = true) := Lib.hid (by rw [← HA.out.l1]; exact (trCode_zero (csCode_zero hc).1).2)
    have Hs := Lib.hid (setOk_nd (csCode_zero hc).2)
    have tb : (csCode n l s != 0) = false := by simp [hc]
    have tc : (csCode n l s == 0) = true := by simp [hc]
    clear hc
    go_wp2_with fail
    refine (isConflict_any n l s _ (HA.out.gr hg0) (HL.out.gr hg0) (HS.out.gr hg0) Hok1.out Hs.out).mono ?_
    rintro e w2 ⟨rfl, hg2⟩
    go_wp2_with fail
    go_ret
    exact ⟨ret_bool (by rw [isConfB, Hc.out]; simp), hg0.trans hg2⟩
  · have Hc := Lib.hid hc
    have tb : (csCode n l s != 0) = true := by simp [hc]
    have tc : (csCode n l s == 0) = false := by simp [hc]
    clear hc
    go_wp2_with fail
    go_ret
    exact ⟨ret_bool (by rw [isConfB, tc, Bool.false_and]), hg0⟩
set_option maxRecDepth 100000 in
theorem spIsConflict_any {A1 A2 A3 A4 : Option Addr} {n1 c1 n2 c2 n3 c3 n4 c4 : Nat} (n : GNet) (l : List GTr) (s : List Int) (w : World) (hA : NetAt w A1 n1 c1 A2 n2 c2 n) (hL : SlAt w 4 A3 n3 c3 (l.flatMap GTr.cells)) (hS : SlAt w 1 A4 n4 c4 (ints s)) :
    Calls Try.prog 62 #[.agg #[.slice A1 n1 c1, .slice A2 n2 c2], .slice A3 n3 c3, .slice A4 n4 c4] w fun e w' => e = .returned (.bool (isConfB n l s)) ∧ Gr w w' := by
  have HA := Lib.hid hA
  have hm3 := hL.small
  have hl3 := hL.sl.len GTr.cells_len (by omega)
  have hl4 := hS.sl.ilen
  have HL := Lib.hid hL
  have HS := Lib.hid hS
  have Hl3 := Lib.hid hl3
  have Hl4 := Lib.hid hl4
  clear hA hL hS hl3 hl4
  go_enter Try.func62, Try.ntmps62
  go_wp2_with fail
  refine (l26Code_any n l s _ (HA.out.gr ((Gr.refl _).alloc _)) (HL.out.gr ((Gr.refl _).alloc _)) (HS.out.gr ((Gr.refl _).alloc _))).mono ?_
  rintro e w1 ⟨rfl, hg1⟩
  have hg0 : Gr w w1 := ((Gr.refl _).alloc _).trans hg1
  have b0 : w1.cell? ⟨w.heap.size, 0, none⟩ = some (.slice A1 n1 c1) := hg1.has (by simp [go_sem])
  have b1 : w1.cell? ⟨w.heap.size, 1, none⟩ = some (.slice A2 n2 c2) := hg1.has (by simp [go_sem])
  clear hg1
  by_cases hc : csCode n l s = 0
  · have Hc := Lib.hid hc
    have Hn := Lib.hid (trCode_zero (csCode_zero hc).1).1
    have Hok1 : Hid (trsOk n1 l = true) := Lib.hid (by rw [← HA.out.l1]; exact (trCode_zero (csCode_zero hc).1).2)
    have Hs := Lib.hid (setOk_nd (csCode_zero hc).2)
    have tb : (csCode n l s != 0) = false := by simp [hc]
    have tc : (csCode n l s == 0) = true := by simp [hc]
    clear hc
    go_wp2_with fail
    refine (l26Fit_any n l s _ (HA.out.gr hg0) (HL.out.gr hg0) (HS.out.gr hg0) Hok1.out Hs.out).mono ?_
    rintro e w2 ⟨rfl, hg2⟩
    have Hv : Hid (isConfB n l s = confB n l s) := Lib.hid (by rw [isConfB, Hc.out]; simp)
    go_wp2_with fail
    go_ret
    exact ⟨ret_bool (by rw [Hv.out]), hg0.trans hg2⟩
  · have Hc := Lib.hid hc
    have tb : (csCode n l s != 0) = true := by simp [hc]
    have tc : (csCode n l s == 0) = false := by simp [hc]
    clear hc
    go_wp2_with fail
    go_ret
    exact ⟨ret_bool (by rw [isConfB, tc, Bool.false_and]), hg0⟩
def withoutL (s : List Int) (x : Int) : List Int := s.filter fun z => decide (z ≠ x)
theorem filter_take_hit {s : List Int} {k : Nat} {z x : Int} (hz : s[k]? = some z) (h : ¬ z = x) : withoutL (s.take (k + 1)) x = withoutL (s.take k) x ++ [z] := by
  rw [withoutL, List.take_add_one, hz, Option.toList_some, List.filter_append]; simp [h, withoutL]
theorem filter_take_miss {s : List Int} {k : Nat} {z x : Int} (hz : s[k]? = some z) (h : z = x) : withoutL (s.take (k + 1)) x = withoutL (s.take k) x := by
  rw [withoutL, List.take_add_one, hz, Option.toList_some, List.filter_append]; simp [h, withoutL]
set_option maxHeartbeats 1000000 in
set_option maxRecDepth 100000 in
theorem l26Without_any {A : Option Addr} {m c : Nat} (s : List Int) (x : Int) (w : World) (hS : SlAt w 1 A m c (ints s)) :
    Calls Try.prog 125 #[.slice A m c, .int .i64 x] w fun e w' => ∃ B q d, e = .returned (.slice B q d) ∧ q ≤ m ∧ w'.ownsRow w.heap.size 2 1 (.slice B q d) q (ints (withoutL s x)) ∧ Gr w w' := by
  obtain ⟨i0, hi0, hz0, hz1, hz2⟩ := info_parts infoInt64
  have hm := hS.small
  have hl := hS.sl.ilen
  have HS := Lib.hid hS
  have Hl := Lib.hid hl
  clear hS hl
  go_enter Try.func125, Try.ntmps125
  go_wp2_with fail
  go_loopw [5, 6] (fun o i wr => ∃ k : Nat, k ≤ m ∧ i = .int .i64 k ∧ (∃ B q d, o = .slice B q d ∧ q ≤ k ∧ wr.ownsRow w.heap.size 2 1 (.slice B q d) q (ints (withoutL (s.take k) x))) ∧ Gr w wr) (fun _ i _ => m - (intOf i).toNat)
  case atStart => exact ⟨0, Nat.zero_le _, rfl, ⟨_, _, _, rfl, Nat.le_refl _, World.ownsRow_lit w #[] 0 (Nat.le_refl _) (by unfold maxLen; omega) rfl⟩, (Gr.refl _).alloc _⟩
  case round =>
    obtain ⟨k, hk, rfl, ⟨B, q, d, rfl, hq, hown⟩, hgr⟩ := hrel
    have Hown := Lib.hid hown
    have hsz := hgr.size
    clear hown
    by_cases hlt : k < m
    · obtain ⟨z, hz⟩ : ∃ z, s[k]? = some z := ⟨_, List.getElem?_eq_getElem (by have := Hl.out; omega)⟩
      obtain ⟨b, o, rfl, hb, r0⟩ := (HS.out.sl.gr hgr).int hz
      have t1 : (k : Int) < (m : Int) := by omega
      have t0 : (0 : Int) ≤ (k : Int) := by omega
      by_cases e : z = x
      · have Hst := Lib.hid (filter_take_miss hz e)
        have te : (z != x) = false := by simp [e]
        clear hz e
        go_wp2_with fail
        go_roundw
        case rel => exact ⟨k + 1, by omega, by go_num, ⟨_, _, _, rfl, by omega, by rw [Hst.out]; exact Hown.out⟩, hgr⟩
        case measure => simp [intOf]; omega
      · have Hst := Lib.hid (filter_take_hit hz e)
        have te : (z != x) = true := by simp [e]
        clear hz e
        go_wp2_with (at_builtin; refine wpList_append_own _ rfl _ _ _ rfl w.heap.size 2 i0 _ 1 8 Try.underlying33 hi0 hz0 hz1 hz2 rfl (by omega) _ q _ rfl (Hown.out.alloc _) ⟨wr.heap.size, 0, none⟩ 1 1 [.int .i64 z] rfl rfl (World.news_of_block (cs := #[.int .i64 z]) (t := 2) (fr := (0, 0)) (heap_alloc_new wr _)) (by simp [Value.oneCell']) (by unfold maxLen; omega) (by omega) (by simp; omega) ?_; intro v' w1 hown hg _)
        have hsh := own_shape hown
        obtain ⟨A', c', rfl⟩ := hsh
        have Ho := Lib.hid hown
        clear hown
        go_wp2_with fail
        go_roundw
        case rel =>
          refine ⟨k + 1, by omega, by go_num, ⟨_, _, _, rfl, by omega, ?_⟩, ?_⟩
          · rw [Hst.out, ints_snoc]; exact Ho.out
          · exact (hgr.alloc _).grown hg (fun j hj => own_base_le Hown.out hj)
        case measure => simp [intOf]; omega
    · obtain rfl : k = m := by omega
      go_wp2_with fail
      go_ret
      refine ⟨_, _, _, rfl, hq, ?_, hgr⟩
      have h := Hown.out
      rw [List.take_of_length_le (by rw [Hl.out]; exact Nat.le_refl _)] at h
      exact h
theorem minB_bad {n : GNet} {l : List GTr} {s : List Int} (h : ¬ csCode n l s = 0) : minB n l s = false := by
  have : (csCode n l s == 0) = false := by simp [h]
  rw [minB, this, Bool.false_and]
theorem minB_no {n : GNet} {l : List GTr} {s : List Int} (h : confB n l s = false) : minB n l s = false := by
  rw [minB, h]; simp
theorem minB_hit {n : GNet} {l : List GTr} {s : List Int} {k : Nat} (hk : k < s.length) (h : confB n l (cutAt s k) = true) : minB n l s = false := by
  rw [minB, all_range_not (p := fun i => !confB n l (cutAt s i)) hk (by simp [h])]; simp
theorem minB_all {n : GNet} {l : List GTr} {s : List Int} (hc : csCode n l s = 0) (h0 : confB n l s = true) (h : ∀ j, j < s.length → confB n l (cutAt s j) = false) : minB n l s = true := by
  have ha : ((List.range s.length).all fun i => !confB n l (cutAt s i)) = true := all_range.2 fun j hj => by simp [h j hj]
  rw [minB, h0, ha, hc]; rfl
set_option maxHeartbeats 2000000 in
set_option maxRecDepth 100000 in
theorem IsMinimal_any {A1 A2 A3 A4 : Option Addr} {n1 c1 n2 c2 n3 c3 n4 c4 : Nat} (n : GNet) (l : List GTr) (s : List Int) (w : World) (hA : NetAt w A1 n1 c1 A2 n2 c2 n) (hL : SlAt w 4 A3 n3 c3 (l.flatMap GTr.cells)) (hS : SlAt w 1 A4 n4 c4 (ints s)) :
    Calls Try.prog 58 #[.agg #[.slice A1 n1 c1, .slice A2 n2 c2], .slice A3 n3 c3, .slice A4 n4 c4] w fun e w' => e = .returned (.bool (minB n l s)) ∧ Gr w w' := by
  have hm4 := hS.small
  have HA := Lib.hid hA
  have hm3 := hL.small
  have hl3 := hL.sl.len GTr.cells_len (by omega)
  have hl4 := hS.sl.ilen
  have HL := Lib.hid hL
  have HS := Lib.hid hS
  have Hl3 := Lib.hid hl3
  have Hl4 := Lib.hid hl4
  clear hA hL hS hl3 hl4
  go_enter Try.func58, Try.ntmps58
  go_wp2_with fail
  refine (checkSet_any n l s _ (HA.out.gr ((Gr.refl _).alloc _)) (HL.out.gr ((Gr.refl _).alloc _)) (HS.out.gr ((Gr.refl _).alloc _))).mono ?_
  rintro e w1 ⟨rfl, hg1⟩
  have hg0 : Gr w w1 := ((Gr.refl _).alloc _).trans hg1
  have b0 : w1.cell? ⟨w.heap.size, 0, none⟩ = some (.slice A1 n1 c1) := hg1.has (by simp [go_sem])
  have b1 : w1.cell? ⟨w.heap.size, 1, none⟩ = some (.slice A2 n2 c2) := hg1.has (by simp [go_sem])
  clear hg1
  by_cases hc : csCode n l s = 0
  · have Hc := Lib.hid hc
    have Hn := Lib.hid (trCode_zero (csCode_zero hc).1).1
    have Hok1 : Hid (trsOk n1 l = true) := Lib.hid (by rw [← HA.out.l1]; exact (trCode_zero (csCode_zero hc).1).2)
    have Hs := Lib.hid (setOk_nd (csCode_zero hc).2)
    have tb : (csCode n l s != 0) = false := by simp [hc]
    have tc : (csCode n l s == 0) = true := by simp [hc]
    clear hc
    go_wp2_with fail
    refine (isConflict_any n l s _ (HA.out.gr hg0) (HL.out.gr hg0) (HS.out.gr hg0) Hok1.out Hs.out).mono ?_
    rintro e w2 ⟨rfl, hg2⟩
    have hgw := hg0.trans hg2
    replace b0 := hg2.has b0
    replace b1 := hg2.has b1
    cases hf : confB n l s with
    | false =>
      have Hf := Lib.hid hf
      clear hf
      go_wp2_with fail
      go_ret
      exact ⟨ret_bool (minB_no Hf.out).symm, hgw⟩
    | true =>
      have Hf := Lib.hid hf
      clear hf
      go_wp2_with fail
      go_loopw [22] (fun i wr => ∃ k : Nat, k ≤ n4 ∧ i = .int .i64 k ∧ (∀ j, j < k → confB n l (cutAt s j) = false) ∧ Gr w2 wr) (fun i _ => n4 - (intOf i).toNat)
      case atStart => exact ⟨0, Nat.zero_le _, rfl, fun j hj => by omega, Gr.refl _⟩
      case round =>
        obtain ⟨k, hk, rfl, hno, hgr⟩ := hrel
        have Hno := Lib.hid hno
        clear hno
        by_cases hlt : k < n4
        · have hgx := hgw.trans hgr
          have d0 := hgr.has b0
          have d1 := hgr.has b1
          have t1 : (k : Int) < (n4 : Int) := by omega
          have t0 : (0 : Int) ≤ (k : Int) := by omega
          have Hsub := Lib.hid (Hs.out.sub (cutAt_sub s k))
          have hwk : IntKind.i64.wrap ((k : Int) + 1) = (k : Int) + 1 := IntWalk.i64_in _ (by omega)
          go_wp2_with fail
          go_region_held3 (fun w' => Gr wr w' ∧ w'.cell? ⟨w.heap.size, 0, none⟩ = some (.slice A1 n1 c1) ∧ w'.cell? ⟨w.heap.size, 1, none⟩ = some (.slice A2 n2 c2))
            (first | exact ⟨(Gr.refl _).drew, d0, d1⟩ | exact ⟨by assumption, (by assumption : Gr wr _).has d0, (by assumption : Gr wr _).has d1⟩)
            (first
              | (go_at_call 116; refine (cloneInt_any (ints s) _ hm4 (HS.out.gr hgx.drew).sl (ints_one s)).mono ?_; rintro e w5 ⟨A', c', rfl, ho, hg5⟩; obtain ⟨g, rfl, hgb, _⟩ := own_form ho (by omega); have Ho := Lib.hid ho; clear ho; have hx : Gr wr w5 := (Gr.refl _).drew.trans hg5; have hgb' : wr.heap.size ≤ g := hgb; clear hgb)
              | (go_at_call 119; refine (deleteInt_any s k _ _ Ho.out hlt hm4 (by push_cast; rfl)).mono ?_; rintro e w6 ⟨rfl, ho6, hg6⟩; have Ho6 := Lib.hid ho6; clear ho6; have hy : Gr wr w6 := hx.grown hg6 (fun j hj => by injection hj with hj; omega))
              | (go_at_call 113; refine (isConflict_any n l (cutAt s k) _ (HA.out.gr (hgx.trans hy)) (HL.out.gr (hgx.trans hy)) (SlAt.of_own Ho6.out (by omega)) Hok1.out Hsub.out).mono ?_; rintro e w7 ⟨rfl, hg7⟩; have hz : Gr wr w7 := hy.trans hg7))
          cases hf : confB n l (cutAt s k) with
          | true =>
            have Hb := Lib.hid (minB_hit (by rw [Hl4.out]; exact hlt) hf)
            clear hf
            go_wp2_with fail
            go_ret
            exact ⟨ret_bool Hb.out.symm, hgx.trans hz⟩
          | false =>
            have Hb := Lib.hid hf
            clear hf
            go_wp2_with fail
            go_roundw
            case rel => exact ⟨k + 1, by omega, by go_num, nb_next Hb.out Hno.out, hgr.trans hz⟩
            case measure => simp [intOf]; omega
        · obtain rfl : k = n4 := by omega
          have Hb := Lib.hid (minB_all Hc.out Hf.out (by rw [Hl4.out]; exact Hno.out))
          go_wp2_with fail
          go_ret
          exact ⟨ret_bool Hb.out.symm, hgw.trans hgr⟩
  · have Hb := Lib.hid (minB_bad (n := n) (l := l) (s := s) hc)
    have Hc := Lib.hid hc
    have tb : (csCode n l s != 0) = true := by simp [hc]
    have tc : (csCode n l s == 0) = false := by simp [hc]
    clear hc
    go_wp2_with fail
    go_ret
    exact ⟨ret_bool Hb.out.symm, hg0⟩
set_option maxHeartbeats 2000000 in
set_option maxRecDepth 100000 in
theorem spIsMinimal_any {A1 A2 A3 A4 : Option Addr} {n1 c1 n2 c2 n3 c3 n4 c4 : Nat} (n : GNet) (l : List GTr) (s : List Int) (w : World) (hA : NetAt w A1 n1 c1 A2 n2 c2 n) (hL : SlAt w 4 A3 n3 c3 (l.flatMap GTr.cells)) (hS : SlAt w 1 A4 n4 c4 (ints s)) :
    Calls Try.prog 67 #[.agg #[.slice A1 n1 c1, .slice A2 n2 c2], .slice A3 n3 c3, .slice A4 n4 c4] w fun e w' => e = .returned (.bool (minB n l s)) ∧ Gr w w' := by
  have hm4 := hS.small
  have HA := Lib.hid hA
  have hm3 := hL.small
  have hl3 := hL.sl.len GTr.cells_len (by omega)
  have hl4 := hS.sl.ilen
  have HL := Lib.hid hL
  have HS := Lib.hid hS
  have Hl3 := Lib.hid hl3
  have Hl4 := Lib.hid hl4
  clear hA hL hS hl3 hl4
  go_enter Try.func67, Try.ntmps67
  go_wp2_with fail
  refine (spIsConflict_any n l s _ (HA.out.gr ((Gr.refl _).alloc _)) (HL.out.gr ((Gr.refl _).alloc _)) (HS.out.gr ((Gr.refl _).alloc _))).mono ?_
  rintro e w1 ⟨rfl, hg1⟩
  have hg0 : Gr w w1 := ((Gr.refl _).alloc _).trans hg1
  have b0 : w1.cell? ⟨w.heap.size, 0, none⟩ = some (.slice A1 n1 c1) := hg1.has (by simp [go_sem])
  have b1 : w1.cell? ⟨w.heap.size, 1, none⟩ = some (.slice A2 n2 c2) := hg1.has (by simp [go_sem])
  clear hg1
  by_cases hc : csCode n l s = 0
  · have Hc := Lib.hid hc
    have Hn := Lib.hid (trCode_zero (csCode_zero hc).1).1
    have Hok1 : Hid (trsOk n1 l = true) := Lib.hid (by rw [← HA.out.l1]; exact (trCode_zero (csCode_zero hc).1).2)
    have Hs := Lib.hid (setOk_nd (csCode_zero hc).2)
    have tb : (csCode n l s != 0) = false := by simp [hc]
    have tc : (csCode n l s == 0) = true := by simp [hc]
    clear hc
    cases hf : confB n l s with
    | false =>
      have Hf := Lib.hid hf
      have hv : isConfB n l s = false := by rw [isConfB, hf, Bool.and_false]
      clear hf
      go_wp2_with fail
      go_ret
      exact ⟨ret_bool (minB_no Hf.out).symm, hg0⟩
    | true =>
      have Hf := Lib.hid hf
      have hv : isConfB n l s = true := by rw [isConfB, hf, tc]; rfl
      clear hf
      go_wp2_with fail
      go_loopw [7] (fun i wr => ∃ k : Nat, k ≤ n4 ∧ i = .int .i64 k ∧ (∀ j, j < k → confB n l (cutAt s j) = false) ∧ Gr w1 wr) (fun i _ => n4 - (intOf i).toNat)
      case atStart => exact ⟨0, Nat.zero_le _, rfl, fun j hj => by omega, Gr.refl _⟩
      case round =>
        obtain ⟨k, hk, rfl, hno, hgr⟩ := hrel
        have Hno := Lib.hid hno
        clear hno
        by_cases hlt : k < n4
        · have hgx := hg0.trans hgr
          have d0 := hgr.has b0
          have d1 := hgr.has b1
          have t1 : (k : Int) < (n4 : Int) := by omega
          have t0 : (0 : Int) ≤ (k : Int) := by omega
          have Hsub := Lib.hid (Hs.out.sub (cutAt_sub s k))
          obtain ⟨z, hz⟩ : ∃ z, s[k]? = some z := ⟨_, List.getElem?_eq_getElem (by have := Hl4.out; omega)⟩
          have Hwo : Hid (withoutL s z = cutAt s k) := Lib.hid (without_eq Hs.out.1 hz)
          obtain ⟨b, o, rfl, hb, r0⟩ := (HS.out.sl.gr hgx).int hz
          clear hz
          go_wp2_with fail
          go_region_held3 (fun w' => Gr wr w' ∧ w'.cell? ⟨w.heap.size, 0, none⟩ = some (.slice A1 n1 c1) ∧ w'.cell? ⟨w.heap.size, 1, none⟩ = some (.slice A2 n2 c2) ∧ w'.cell? ⟨b, o + k, none⟩ = some (.int .i64 z))
            (first | exact ⟨(Gr.refl _).drew, d0, d1, r0⟩ | exact ⟨by assumption, (by assumption : Gr wr _).has d0, (by assumption : Gr wr _).has d1, (by assumption : Gr wr _).has r0⟩)
            (first
              | (go_at_call 125; refine (l26Without_any s z _ (HS.out.gr hgx.drew)).mono ?_; rintro e w5 ⟨B5, q5, d5, rfl, hq5, ho, hg5⟩; rw [Hwo.out] at ho; have Ho := Lib.hid ho; clear ho; have hx : Gr wr w5 := (Gr.refl _).drew.trans hg5)
              | (go_at_call 117; refine (l26Fit_any n l (cutAt s k) _ (HA.out.gr (hgx.trans hx)) (HL.out.gr (hgx.trans hx)) (SlAt.of_own Ho.out (by omega)) Hok1.out Hsub.out).mono ?_; rintro e w7 ⟨rfl, hg7⟩; have hz : Gr wr w7 := hx.trans hg7))
          cases hf : confB n l (cutAt s k) with
          | true =>
            have Hb := Lib.hid (minB_hit (by rw [Hl4.out]; exact hlt) hf)
            clear hf
            go_wp2_with fail
            go_ret
            exact ⟨ret_bool Hb.out.symm, hgx.trans hz⟩
          | false =>
            have Hb := Lib.hid hf
            clear hf
            go_wp2_with fail
            go_roundw
            case rel => exact ⟨k + 1, by omega, by go_num, nb_next Hb.out Hno.out, hgr.trans hz⟩
            case measure => simp [intOf]; omega
        · obtain rfl : k = n4 := by omega
          have Hb := Lib.hid (minB_all Hc.out Hf.out (by rw [Hl4.out]; exact Hno.out))
          go_wp2_with fail
          go_ret
          exact ⟨ret_bool Hb.out.symm, hg0.trans hgr⟩
  · have Hb := Lib.hid (minB_bad (n := n) (l := l) (s := s) hc)
    have Hc := Lib.hid hc
    have tb : (csCode n l s != 0) = true := by simp [hc]
    have tc : (csCode n l s == 0) = false := by simp [hc]
    clear hc
    have hv : isConfB n l s = false := by rw [isConfB, tc, Bool.false_and]
    go_wp2_with fail
    go_ret
    exact ⟨ret_bool Hb.out.symm, hg0⟩
end Go.Proofs.Ytejfpajbkgfiaaa
/-
  Conflicts: AcceptInOrder of the program and the reference.
-/
namespace Go.Proofs.Ytejfpajbkgfiaaa
open Go.ChangeShapes Go.WideShapes Go.ChangeAt Go.RowKit

noncomputable def acRes (n : GNet) (l : List GTr) : List Int := if trCode n l = 0 then accTo (confB n l) l.length else []
theorem accTo_keep {p : List Int → Bool} {k : Nat} (h : p (accTo p k ++ [(k : Int)]) = true) : accTo p (k + 1) = accTo p k := by rw [accTo, if_pos h]
theorem accTo_add {p : List Int → Bool} {k : Nat} (h : p (accTo p k ++ [(k : Int)]) = false) : accTo p (k + 1) = accTo p k ++ [(k : Int)] := by rw [accTo, if_neg (by simp [h])]
theorem accTo_len (p : List Int → Bool) (k : Nat) : (accTo p k).length ≤ k := (accTo_nd p k).len
set_option maxHeartbeats 2000000 in
set_option maxRecDepth 100000 in
theorem AcceptInOrder_any {A1 A2 A3 : Option Addr} {n1 c1 n2 c2 n3 c3 : Nat} (n : GNet) (l : List GTr) (w : World) (hA : NetAt w A1 n1 c1 A2 n2 c2 n) (hL : SlAt w 4 A3 n3 c3 (l.flatMap GTr.cells)) :
    Calls Try.prog 55 #[.agg #[.slice A1 n1 c1, .slice A2 n2 c2], .slice A3 n3 c3] w fun e w' => ∃ A m c, e = .returned (.tuple #[.slice A m c, .int .i64 (trCode n l)]) ∧ m ≤ 1048576 ∧ w'.ownsRow w.heap.size 2 1 (.slice A m c) m (ints (acRes n l)) ∧ Gr w w' := by
  obtain ⟨i0, hi0, hz0, hz1, hz2⟩ := info_parts infoInt64
  have HA := Lib.hid hA
  have hm3 := hL.small
  have hl3 := hL.sl.len GTr.cells_len (by omega)
  have HL := Lib.hid hL
  have Hl3 := Lib.hid hl3
  clear hA hL hl3
  go_enter Try.func55, Try.ntmps55
  go_wp2_with fail
  refine (checkTransports_any _ _ _ _ _ _ _ _ _ n l _ (HA.out.gr ((Gr.refl _).alloc _)) (HL.out.sl.gr ((Gr.refl _).alloc _)) HL.out.small).mono ?_
  rintro e w1 ⟨rfl, hg1⟩
  have hg0 : Gr w w1 := ((Gr.refl _).alloc _).trans hg1
  have b0 : w1.cell? ⟨w.heap.size, 0, none⟩ = some (.slice A1 n1 c1) := hg1.has (by simp [go_sem])
  have b1 : w1.cell? ⟨w.heap.size, 1, none⟩ = some (.slice A2 n2 c2) := hg1.has (by simp [go_sem])
  clear hg1
  by_cases hc : trCode n l = 0
  · have Hc := Lib.hid hc
    have Hn := Lib.hid (trCode_zero hc).1
    have Hok := Lib.hid (trCode_zero hc).2
    have Hok1 : Hid (trsOk n1 l = true) := Lib.hid (by rw [← HA.out.l1]; exact (trCode_zero hc).2)
    have tb : (trCode n l != 0) = false := by simp [hc]
    clear hc
    go_wp2_with fail
    go_loopw [7, 18] (fun o i wr => ∃ k : Nat, k ≤ n3 ∧ i = .int .i64 k ∧ (∃ A m c, o = .slice A m c ∧ m = (accTo (confB n l) k).length ∧ wr.ownsRow w1.heap.size 2 1 (.slice A m c) m (ints (accTo (confB n l) k))) ∧ Gr w1 wr) (fun _ i _ => n3 - (intOf i).toNat)
    case atStart => exact ⟨0, Nat.zero_le _, rfl, ⟨_, _, _, rfl, rfl, World.ownsRow_nil _ _ _ _⟩, Gr.refl _⟩
    case round =>
      obtain ⟨k, hk, rfl, ⟨A, m, c, rfl, hm, hown⟩, hgr⟩ := hrel
      have hmk : m ≤ k := by rw [hm]; exact accTo_len _ _
      have Hown := Lib.hid hown
      have Hm := Lib.hid hm
      clear hown hm
      by_cases hlt : k < n3
      · have hgx := hg0.trans hgr
        have d0 := hgr.has b0
        have d1 := hgr.has b1
        have t1 : (k : Int) < (n3 : Int) := by omega
        have t0 : (0 : Int) ≤ (k : Int) := by omega
        have Hnd : Hid (Nd l.length (accTo (confB n l) k ++ [(k : Int)])) := Lib.hid (accTo_next _ k (by rw [Hl3.out]; exact hlt))
        have hsz := hgr.size
        go_wp2_with fail
        refine (cloneInt_any _ _ (by omega) (Sl.of_own Hown.out) (ints_one _)).mono ?_
        rintro e w2 ⟨A', c', rfl, ho, hg2⟩
        have Ho := Lib.hid ho
        have hx2 := hg2.size
        clear ho
        go_wp2_with (at_builtin; refine wpList_append_own _ rfl _ _ _ rfl wr.heap.size 2 i0 _ 1 8 Try.underlying33 hi0 hz0 hz1 hz2 rfl (by omega) _ m _ rfl (Ho.out.alloc _) ⟨w2.heap.size, 0, none⟩ 1 1 [.int .i64 (k : Int)] rfl rfl (World.news_of_block (cs := #[.int .i64 (k : Int)]) (t := 2) (fr := (0, 0)) (heap_alloc_new w2 _)) (by simp [Value.oneCell']) (by unfold maxLen; omega) (by omega) (by simp; omega) ?_; intro v' w4 hown hg4 _; have hx4 : Gr wr w4 := (hg2.alloc _).grown hg4 (fun j hj => own_base_le Ho.out hj); replace d0 := hx4.has d0; replace d1 := hx4.has d1)
        have hsh := own_shape hown
        obtain ⟨A4, c4, rfl⟩ := hsh
        have o4 := own_cells_eq hown (ints_snoc (accTo (confB n l) k) (k : Int)).symm
        have O4 := Lib.hid o4
        clear hown o4
        refine (isConflict_any n l _ _ (HA.out.gr (hgx.trans hx4)) (HL.out.gr (hgx.trans hx4)) (SlAt.of_own O4.out (by omega)) Hok1.out Hnd.out).mono ?_
        rintro e w5 ⟨rfl, hg5⟩
        have hg6 : Gr w1 w5 := (hgr.trans hx4).trans hg5
        cases hf : confB n l (accTo (confB n l) k ++ [(k : Int)]) with
        | true =>
          have Hst := Lib.hid (accTo_keep hf)
          clear hf
          go_wp2_with fail
          go_roundw
          case rel => exact ⟨k + 1, by omega, by go_num, ⟨_, _, _, rfl, by rw [Hst.out]; exact Hm.out, by rw [Hst.out]; exact own_gr Hown.out (hx4.trans hg5)⟩, hg6⟩
          case measure => simp [intOf]; omega
        | false =>
          have Hst := Lib.hid (accTo_add hf)
          clear hf
          go_wp2_with fail
          go_roundw
          case rel => exact ⟨k + 1, by omega, by go_num, ⟨_, _, _, rfl, by rw [Hst.out, List.length_append, ← Hm.out]; rfl, by rw [Hst.out]; exact own_base (own_gr O4.out hg5) hsz⟩, hg6⟩
          case measure => simp [intOf]; omega
      · obtain rfl : k = n3 := by omega
        go_wp2_with fail
        go_ret2
        refine ⟨_, _, _, by rw [Hc.out]; rfl, by omega, ?_, hg0.trans hgr⟩
        rw [acRes, if_pos Hc.out, Hl3.out]
        exact own_base Hown.out hg0.size
  · have Hc := Lib.hid hc
    have tb : (trCode n l != 0) = true := by simp [hc]
    clear hc
    go_wp2_with fail
    go_ret2
    refine ⟨none, 0, 0, rfl, by omega, ?_, hg0⟩
    rw [acRes, if_neg Hc.out]
    exact World.ownsRow_nil _ _ _ _
set_option maxHeartbeats 2000000 in
set_option maxRecDepth 100000 in
theorem spAcceptInOrder_any {A1 A2 A3 : Option Addr} {n1 c1 n2 c2 n3 c3 : Nat} (n : GNet) (l : List GTr) (w : World) (hA : NetAt w A1 n1 c1 A2 n2 c2 n) (hL : SlAt w 4 A3 n3 c3 (l.flatMap GTr.cells)) :
    Calls Try.prog 56 #[.agg #[.slice A1 n1 c1, .slice A2 n2 c2], .slice A3 n3 c3] w fun e w' => ∃ A m c, e = .returned (.tuple #[.slice A m c, .int .i64 (trCode n l)]) ∧ m ≤ 1048576 ∧ w'.ownsRow w.heap.size 2 1 (.slice A m c) m (ints (acRes n l)) ∧ Gr w w' := by
  obtain ⟨i0, hi0, hz0, hz1, hz2⟩ := info_parts infoInt64
  have HA := Lib.hid hA
  have hm3 := hL.small
  have hl3 := hL.sl.len GTr.cells_len (by omega)
  have HL := Lib.hid hL
  have Hl3 := Lib.hid hl3
  clear hA hL hl3
  go_enter Try.func56, Try.ntmps56
  go_wp2_with fail
  refine (l24Code_any n l _ (HA.out.gr ((Gr.refl _).alloc _)) (HL.out.gr ((Gr.refl _).alloc _))).mono ?_
  rintro e w1 ⟨rfl, hg1⟩
  have hg0 : Gr w w1 := ((Gr.refl _).alloc _).trans hg1
  have b0 : w1.cell? ⟨w.heap.size, 0, none⟩ = some (.slice A1 n1 c1) := hg1.has (by simp [go_sem])
  have b1 : w1.cell? ⟨w.heap.size, 1, none⟩ = some (.slice A2 n2 c2) := hg1.has (by simp [go_sem])
  clear hg1
  by_cases hc : trCode n l = 0
  · have Hc := Lib.hid hc
    have Hn := Lib.hid (trCode_zero hc).1
    have Hok := Lib.hid (trCode_zero hc).2
    have Hok1 : Hid (trsOk n1 l = true) := Lib.hid (by rw [← HA.out.l1]; exact (trCode_zero hc).2)
    have tb : (trCode n l != 0) = false := by simp [hc]
    clear hc
    go_wp2_with fail
    go_loopw [7, 8] (fun o i wr => ∃ k : Nat, k ≤ n3 ∧ i = .int .i64 k ∧ (∃ g m c, o = .slice (some ⟨g, 0, none⟩) m c ∧ m = (accTo (confB n l) k).length ∧ wr.ownsRow w1.heap.size 2 1 (.slice (some ⟨g, 0, none⟩) m c) m (ints (accTo (confB n l) k))) ∧ Gr w1 wr) (fun _ i _ => n3 - (intOf i).toNat)
    case atStart => exact ⟨0, Nat.zero_le _, rfl, ⟨_, _, _, rfl, rfl, World.ownsRow_lit w1 #[] 0 (Nat.le_refl _) (by unfold maxLen; omega) rfl⟩, (Gr.refl _).alloc _⟩
    case round =>
      obtain ⟨k, hk, rfl, ⟨g, m, c, rfl, hm, hown⟩, hgr⟩ := hrel
      have hmk : m ≤ k := by rw [hm]; exact accTo_len _ _
      have hcells := (Sl.of_own hown).cells
      have Hcells := Lib.hid hcells
      have Hlen := Lib.hid (Sl.of_own hown).1
      have Hown := Lib.hid hown
      have Hm := Lib.hid hm
      clear hown hm hcells
      by_cases hlt : k < n3
      · have hgx := hg0.trans hgr
        have d0 := hgr.has b0
        have d1 := hgr.has b1
        have t1 : (k : Int) < (n3 : Int) := by omega
        have t0 : (0 : Int) ≤ (k : Int) := by omega
        have Hnd : Hid (Nd l.length (accTo (confB n l) k ++ [(k : Int)])) := Lib.hid (accTo_next _ k (by rw [Hl3.out]; exact hlt))
        have hsz := hgr.size
        go_wp2_with (at_builtin; first
          | (refine wpList_append_own _ rfl _ _ _ rfl wr.heap.size 2 i0 _ 1 8 Try.underlying33 hi0 hz0 hz1 hz2 rfl (by omega) _ m _ rfl (Ho5.out.alloc _) ⟨w5.heap.size, 0, none⟩ 1 1 [.int .i64 (k : Int)] rfl rfl (World.news_of_block (cs := #[.int .i64 (k : Int)]) (t := 2) (fr := (0, 0)) (heap_alloc_new w5 _)) (by simp [Value.oneCell']) (by unfold maxLen; omega) (by omega) (by simp; omega) ?_; intro v' w6 hown6 hg6 _; obtain ⟨A6, c6, rfl⟩ := own_shape hown6; have Ho6 := Lib.hid hown6; clear hown6; have hx6 : Gr wr w6 := (hx5.alloc _).grown hg6 (fun j hj => own_base_le Ho5.out hj); replace d0 := hx6.has d0; replace d1 := hx6.has d1)
          | (refine wpList_append_own _ rfl _ _ _ rfl wr.heap.size 2 i0 _ 1 8 Try.underlying33 hi0 hz0 hz1 hz2 rfl (by omega) _ 0 [] rfl (World.ownsRow_lit wr #[] 0 (Nat.le_refl _) (by unfold maxLen; omega) rfl) ⟨g, 0, none⟩ m c (ints (accTo (confB n l) k)) rfl Hlen.out (fun j u hu => ((Gr.refl wr).alloc _).has (Hcells.out j u hu)) (ints_one _) (by unfold maxLen; omega) (by omega) (by simp) ?_; intro v' w5 hown5 hg5 _; obtain ⟨A5, c5, rfl⟩ := own_shape hown5; rw [Nat.zero_add, List.nil_append] at hown5; have Ho5 := Lib.hid hown5; clear hown5; have hx5 : Gr wr w5 := ((Gr.refl wr).alloc _).grown hg5 (fun j hj => by injection hj with hj; exact Nat.le_of_eq hj); have hs5 := hx5.size))
        have o6 : w6.ownsRow wr.heap.size 2 1 (.slice A6 (m + 1) c6) (m + 1) (ints (accTo (confB n l) k ++ [(k : Int)])) := by
          have := Ho6.out
          rw [← ints_snoc] at this
          exact this
        obtain ⟨g6, rfl, _, _⟩ := own_form o6 (by omega)
        have O6 := Lib.hid o6
        clear o6 Ho6 Ho5
        try rw [Nat.zero_add]
        refine (l26Fit_any n l _ _ (HA.out.gr (hgx.trans hx6)) (HL.out.gr (hgx.trans hx6)) (SlAt.of_own O6.out (by omega)) Hok1.out Hnd.out).mono ?_
        rintro e w7 ⟨rfl, hg7⟩
        have hg8 : Gr w1 w7 := (hgr.trans hx6).trans hg7
        cases hf : confB n l (accTo (confB n l) k ++ [(k : Int)]) with
        | true =>
          have Hst := Lib.hid (accTo_keep hf)
          clear hf
          go_wp2_with fail
          go_roundw
          case rel => exact ⟨k + 1, by omega, by go_num, ⟨_, _, _, rfl, by rw [Hst.out]; exact Hm.out, by rw [Hst.out]; exact own_gr Hown.out (hx6.trans hg7)⟩, hg8⟩
          case measure => simp [intOf]; omega
        | false =>
          have Hst := Lib.hid (accTo_add hf)
          clear hf
          go_wp2_with fail
          go_roundw
          case rel => exact ⟨k + 1, by omega, by go_num, ⟨_, _, _, rfl, by rw [Hst.out, List.length_append, ← Hm.out]; rfl, by rw [Hst.out]; exact own_base (own_gr O6.out hg7) hsz⟩, hg8⟩
          case measure => simp [intOf]; omega
      · obtain rfl : k = n3 := by omega
        go_wp2_with fail
        go_ret2
        refine ⟨_, _, _, by rw [Hc.out]; rfl, by omega, ?_, hg0.trans hgr⟩
        rw [acRes, if_pos Hc.out, Hl3.out]
        exact own_base Hown.out hg0.size
  · have Hc := Lib.hid hc
    have tb : (trCode n l != 0) = true := by simp [hc]
    clear hc
    go_wp2_with fail
    go_ret2
    refine ⟨none, 0, 0, rfl, by omega, ?_, hg0⟩
    rw [acRes, if_neg Hc.out]
    exact World.ownsRow_nil _ _ _ _
end Go.Proofs.Ytejfpajbkgfiaaa
/-
  Conflicts: thinning; the program and the reference.
-/
namespace Go.Proofs.Ytejfpajbkgfiaaa
open Go.ChangeShapes Go.WideShapes Go.ChangeAt Go.RowKit

theorem confB_nil {n : GNet} (hn : netOk n = true) (l : List GTr) : confB n l [] = false := by
  rw [confB, pick, List.map_nil, fit_none hn [] (fun x hx => by cases hx)]; rfl
def sliceN : Value → Nat
  | .slice _ m _ => m
  | _ => 0
def boolN : Value → Nat
  | .bool true => 1
  | _ => 0
/-- What is still to come of thinning: a further pass, or nothing. -/
def ThinAt (p : List Int → Bool) (R S : List Int) : Bool → Prop
  | true => tall p S = R
  | false => S = R
theorem thin_end {p : List Int → Bool} {S R kept : List Int} {b : Bool} (h1 : kept = (tpass p [] S).1) (h2 : b = (tpass p [] S).2) (hR : tall p S = R) : ThinAt p R kept b ∧ 2 * kept.length + boolN (.bool b) < 2 * S.length + 1 := by
  cases b with
  | true =>
    refine ⟨?_, ?_⟩
    · show tall p kept = R
      rw [h1, ← tall_more h2.symm]; exact hR
    · have := tpass_less p [] S h2.symm
      rw [← h1] at this
      simp [boolN] at this ⊢; omega
  | false =>
    have h3 := tpass_same p [] S h2.symm
    rw [← h1, List.nil_append] at h3
    refine ⟨?_, ?_⟩
    · show kept = R
      rw [h3, ← tall_done h2.symm]; exact hR
    · rw [h3]; simp [boolN]
/-- Where a pass of thinning stands. -/
structure PassAt (p : List Int → Bool) (m : Nat) (S kept rest : List Int) (b : Bool) : Prop where
  nd : Nd m (kept ++ rest)
  one : (tpass p kept rest).1 = (tpass p [] S).1
  two : (b || (tpass p kept rest).2) = (tpass p [] S).2
theorem PassAt.start {p : List Int → Bool} {m : Nat} {S : List Int} (h : Nd m S) : PassAt p m S [] S false := ⟨h, rfl, rfl⟩
theorem PassAt.hit {p : List Int → Bool} {m : Nat} {S kept rest : List Int} {x : Int} {b : Bool} (h : PassAt p m S kept (x :: rest) b) (hp : p (kept ++ rest) = true) : PassAt p m S kept rest true := by
  obtain ⟨h1, h2, h3⟩ := h
  rw [tpass_hit hp] at h2 h3
  refine ⟨h1.sub (List.Sublist.append (List.Sublist.refl _) (List.sublist_cons_self ..)), h2, ?_⟩
  rw [← h3]; simp
theorem PassAt.miss {p : List Int → Bool} {m : Nat} {S kept rest : List Int} {x : Int} {b : Bool} (h : PassAt p m S kept (x :: rest) b) (hp : p (kept ++ rest) = false) : PassAt p m S (kept ++ [x]) rest b := by
  obtain ⟨h1, h2, h3⟩ := h
  rw [tpass_miss hp] at h2 h3
  exact ⟨by simpa using h1, h2, h3⟩
theorem PassAt.stop {p : List Int → Bool} {m : Nat} {S kept : List Int} {b : Bool} (h : PassAt p m S kept [] b) : kept = (tpass p [] S).1 ∧ b = (tpass p [] S).2 ∧ Nd m kept := by
  obtain ⟨h1, h2, h3⟩ := h
  refine ⟨by simpa [tpass] using h2, by simpa [tpass] using h3, by simpa using h1⟩
set_option maxHeartbeats 4000000 in
set_option maxRecDepth 100000 in
theorem thinned_any {A1 A2 A3 A4 : Option Addr} {n1 c1 n2 c2 n3 c3 n4 c4 : Nat} (n : GNet) (l : List GTr) (s : List Int) (w : World) (hA : NetAt w A1 n1 c1 A2 n2 c2 n) (hL : SlAt w 4 A3 n3 c3 (l.flatMap GTr.cells)) (hS : SlAt w 1 A4 n4 c4 (ints s)) (hok : trsOk n1 l = true) (hs : Nd l.length s) :
    Calls Try.prog 114 #[.agg #[.slice A1 n1 c1, .slice A2 n2 c2], .slice A3 n3 c3, .slice A4 n4 c4] w fun e w' => ∃ A m c, e = .returned (.slice A m c) ∧ m ≤ 1048576 ∧ w'.ownsRow w.heap.size 2 1 (.slice A m c) m (ints (tall (confB n l) s)) ∧ Gr w w' := by
  have h32 := (trsOk_all hok).1
  have hl4 := hS.sl.ilen
  have hm4 := hS.small
  have HA := Lib.hid hA
  have HL := Lib.hid hL
  have HS := Lib.hid hS
  have Hok := Lib.hid hok
  have Hs := Lib.hid hs
  have Hl4 := Lib.hid hl4
  clear hA hL hS hok hs hl4
  go_enter Try.func114, Try.ntmps114
  go_wp2_with fail
  obtain ⟨w0, hw0⟩ : ∃ w0, w0 = w.alloc (.cells #[.slice A1 n1 c1, .slice A2 n2 c2] 27) := ⟨_, rfl⟩
  have hg0 : Gr w w0 := by rw [hw0]; exact (Gr.refl _).alloc _
  have b0 : w0.cell? ⟨w.heap.size, 0, none⟩ = some (.slice A1 n1 c1) := by rw [hw0]; simp [go_sem]
  have b1 : w0.cell? ⟨w.heap.size, 1, none⟩ = some (.slice A2 n2 c2) := by rw [hw0]; simp [go_sem]
  rw [← hw0]
  clear hw0
  refine (cloneInt_any (ints s) _ hm4 (HS.out.gr hg0).sl (ints_one s)).mono ?_
  rintro e w1 ⟨A', c', rfl, ho, hg1⟩
  have Ho := Lib.hid ho
  replace b0 := hg1.has b0
  replace b1 := hg1.has b1
  have hgw := hg0.trans hg1
  have hz1 := hg1.size
  clear ho
  go_wp2_with fail
  go_loopw [2, 7] (fun o f wr => ∃ S b, f = .bool b ∧ (∃ A m c, o = .slice A m c ∧ m = S.length ∧ wr.ownsRow w0.heap.size 2 1 (.slice A m c) m (ints S)) ∧ Nd l.length S ∧ ThinAt (confB n l) (tall (confB n l) s) S b ∧ Gr w1 wr) (fun o f _ => 2 * sliceN o + boolN f)
  case atStart => exact ⟨s, true, rfl, ⟨_, _, _, rfl, Hl4.out.symm, Ho.out⟩, Hs.out, rfl, Gr.refl _⟩
  case round =>
    obtain ⟨S, b, rfl, ⟨A, m, c, rfl, hm, hown⟩, hnd, hthin, hgr⟩ := hrel
    have Hown := Lib.hid hown
    have Hnd := Lib.hid hnd
    have hms : m ≤ 32 := by have := hnd.len; omega
    have Hm := Lib.hid hm
    cases b with
    | false =>
      have Hth : Hid (S = tall (confB n l) s) := Lib.hid hthin
      clear hown hnd hthin hm Ho
      go_wp2_with fail
      go_ret
      exact ⟨_, _, _, rfl, by omega, by rw [← Hth.out]; exact own_base Hown.out hg0.size, hgw.trans hgr⟩
    | true =>
      have Hth : Hid (tall (confB n l) S = tall (confB n l) s) := Lib.hid hthin
      clear hown hnd hthin hm Ho
      go_wp2_with fail
      go_loopw [2, 7, 8] (fun o f i wr => ∃ kept rest b, f = .bool b ∧ i = .int .i64 ((kept.length : Nat) : Int) ∧ (∃ A m c, o = .slice A m c ∧ m = (kept ++ rest).length ∧ wr.ownsRow w0.heap.size 2 1 (.slice A m c) m (ints (kept ++ rest))) ∧ PassAt (confB n l) l.length S kept rest b ∧ Gr w1 wr) (fun o _ i _ => sliceN o - (intOf i).toNat)
      case atStart => exact ⟨[], S, false, rfl, rfl, ⟨_, _, _, rfl, Hm.out, Hown.out⟩, PassAt.start Hnd.out, hgr⟩
      case round =>
        obtain ⟨kept, rest, b, rfl, rfl, ⟨B, q, d, rfl, hq, hown⟩, hpass, hgi⟩ := hrel
        have Hown := Lib.hid hown
        have Hpass := Lib.hid hpass
        have hqs : q ≤ 32 := by have := hpass.nd.len; omega
        have Hq := Lib.hid hq
        clear hown hpass
        cases rest with
        | nil =>
          have hkq : q = kept.length := by simpa using hq
          obtain ⟨e1, e2, e3⟩ := Hpass.out.stop
          obtain ⟨f1, f2⟩ := thin_end e1 e2 Hth.out
          have F1 := Lib.hid f1
          have F2 := Lib.hid f2
          have E3 := Lib.hid e3
          clear f1 f2 e1 e2 e3 hq
          subst hkq
          go_wp2_with fail
          go_roundw
          case rel => exact ⟨kept, b, rfl, ⟨_, _, _, rfl, rfl, by simpa using Hown.out⟩, E3.out, F1.out, hgi⟩
          case measure =>
            have h1 := F2.out
            have h2 := Hm.out
            have h3 : boolN (.bool true) = 1 := rfl
            show 2 * kept.length + boolN (.bool b) < 2 * m + boolN (.bool true)
            omega
        | cons x rest =>
          have hkq : kept.length + 1 ≤ q := by rw [hq]; simp
          obtain ⟨i, hi⟩ : ∃ i, i = kept.length := ⟨_, rfl⟩
          have hcut : cutAt (kept ++ x :: rest) i = kept ++ rest := by rw [hi]; exact cutAt_mid kept x rest
          have Hcut := Lib.hid hcut
          rw [← hi] at hkq ⊢
          have Hi := Lib.hid hi
          have t1 : (i : Int) < (q : Int) := by omega
          have t0 : (0 : Int) ≤ (i : Int) := by omega
          have hgx := hgw.trans hgi
          have d0 := hgi.has b0
          have d1 := hgi.has b1
          have Hnd2 : Hid (Nd l.length (kept ++ rest)) := Lib.hid (Hpass.out.nd.sub (List.Sublist.append (List.Sublist.refl _) (List.sublist_cons_self ..)))
          have hsz := hgi.size
          clear hi hcut hq
          go_wp2_with fail
          refine (cloneInt_any _ _ (by omega) (Sl.of_own Hown.out) (ints_one _)).mono ?_
          rintro e w5 ⟨A5, c5, rfl, ho, hg5⟩
          obtain ⟨g, rfl, hgb, _⟩ := own_form ho (by omega)
          have Ho := Lib.hid ho
          clear ho
          go_wp2_with fail
          refine (deleteInt_any _ i _ _ Ho.out (by omega) (by omega) (by push_cast; rfl)).mono ?_
          rintro e w6 ⟨rfl, ho6, hg6⟩
          rw [Hcut.out] at ho6
          have Ho6 := Lib.hid ho6
          have hx6 := hg5.grown hg6 (fun j hj => by injection hj with hj; omega)
          replace d0 := hx6.has d0
          replace d1 := hx6.has d1
          clear ho6
          go_wp2_with fail
          refine (isConflict_any n l (kept ++ rest) _ (HA.out.gr (hgx.trans hx6)) (HL.out.gr (hgx.trans hx6)) (SlAt.of_own Ho6.out (by omega)) Hok.out Hnd2.out).mono ?_
          rintro e w7 ⟨rfl, hg7⟩
          have hg8 : Gr w1 w7 := (hgi.trans hx6).trans hg7
          cases hf : confB n l (kept ++ rest) with
          | true =>
            have Hp := Lib.hid (Hpass.out.hit hf)
            clear hf
            go_wp2_with fail
            go_roundw
            case rel => exact ⟨kept, rest, true, rfl, by rw [Hi.out], ⟨_, _, _, rfl, by have := Hq.out; simp at this ⊢; omega, own_base (own_gr Ho6.out hg7) (by omega)⟩, Hp.out, hg8⟩
            case measure => simp only [sliceN, intOf]; omega
          | false =>
            have Hp := Lib.hid (Hpass.out.miss hf)
            clear hf
            go_wp2_with fail
            go_roundw
            case rel => exact ⟨kept ++ [x], rest, b, rfl, by rw [List.length_append, ← Hi.out]; go_num, ⟨_, _, _, rfl, by have := Hq.out; simpa using this, by simpa using own_gr Hown.out (hx6.trans hg7)⟩, Hp.out, hg8⟩
            case measure => simp only [sliceN, intOf]; omega
end Go.Proofs.Ytejfpajbkgfiaaa
/-
  Conflicts: thinning by the reference; FindConflict and ThinConflict of both.
-/
namespace Go.Proofs.Ytejfpajbkgfiaaa
open Go.ChangeShapes Go.WideShapes Go.ChangeAt Go.RowKit

theorem cut_mid_get (kept : List Int) (x : Int) (rest : List Int) : (kept ++ x :: rest)[kept.length]? = some x := by simp
theorem without_mid {m : Nat} {kept rest : List Int} {x : Int} (h : Nd m (kept ++ x :: rest)) : withoutL (kept ++ x :: rest) x = kept ++ rest := by
  have := without_eq h.1 (cut_mid_get kept x rest)
  rw [withoutL, this]; exact cutAt_mid kept x rest
set_option maxHeartbeats 4000000 in
set_option maxRecDepth 100000 in
theorem l26Thin_any {A1 A2 A3 A4 : Option Addr} {n1 c1 n2 c2 n3 c3 n4 c4 : Nat} (n : GNet) (l : List GTr) (s : List Int) (w : World) (hA : NetAt w A1 n1 c1 A2 n2 c2 n) (hL : SlAt w 4 A3 n3 c3 (l.flatMap GTr.cells)) (hS : SlAt w 1 A4 n4 c4 (ints s)) (hn : netOk n = true) (hok : trsOk n1 l = true) (hs : Nd l.length s) (hpos : 0 < n4) :
    Calls Try.prog 122 #[.agg #[.slice A1 n1 c1, .slice A2 n2 c2], .slice A3 n3 c3, .slice A4 n4 c4] w fun e w' => ∃ A m c, e = .returned (.slice A m c) ∧ m ≤ 1048576 ∧ w'.ownsRow w.heap.size 2 1 (.slice A m c) m (ints (tall (confB n l) s)) ∧ Gr w w' := by
  obtain ⟨i0, hi0, hz0, hz1, hz2⟩ := info_parts infoInt64
  have h32 := (trsOk_all hok).1
  have hl4 := hS.sl.ilen
  have hm4 := hS.small
  obtain ⟨b4, o4, rfl, _⟩ := hS.sl.2 hpos
  have Hcells := Lib.hid (hS.sl.cells)
  have Hlen := Lib.hid hS.sl.1
  have HA := Lib.hid hA
  have HL := Lib.hid hL
  have Hok := Lib.hid hok
  have Hs := Lib.hid hs
  have Hn := Lib.hid hn
  have Hl4 := Lib.hid hl4
  clear hA hL hS hok hs hl4 hn
  have Hlit : Hid (((w.alloc (.cells #[.slice A1 n1 c1, .slice A2 n2 c2] 27)).alloc (.cells #[] 2)).ownsRow (w.heap.size + 1) 2 1 (.slice (some ⟨w.heap.size + 1, 0, none⟩) 0 0) 0 []) := Lib.hid (by
    have q := World.ownsRow_lit (w.alloc (.cells #[.slice A1 n1 c1, .slice A2 n2 c2] 27)) (e := 2) (size := 1) #[] 0 (Nat.le_refl _) (by unfold maxLen; omega) rfl
    rw [World.size_alloc] at q
    exact q)
  go_enter Try.func122, Try.ntmps122
  go_wp2_with (at_builtin; refine wpList_append_own _ rfl _ _ _ rfl (w.heap.size + 1) 2 i0 _ 1 8 Try.underlying33 hi0 hz0 hz1 hz2 rfl (by omega) _ 0 [] rfl Hlit.out ⟨b4, o4, none⟩ n4 c4 (ints s) rfl Hlen.out (fun j u hu => (((Gr.refl w).alloc _).alloc _).has (Hcells.out j u hu)) (ints_one _) (by unfold maxLen; omega) (by omega) (by simp) ?_; intro v' w1 hown hg1 _)
  obtain ⟨A', c', rfl⟩ := own_shape hown
  rw [Nat.zero_add, List.nil_append] at hown
  try rw [Nat.zero_add]
  obtain ⟨g1, rfl, _, _⟩ := own_form hown (by omega)
  have hgx : Gr (w.alloc (.cells #[.slice A1 n1 c1, .slice A2 n2 c2] 27)) w1 := ((Gr.refl _).alloc _).grown hg1 (fun j hj => by injection hj with hj; simp at hj ⊢; omega)
  have b0 : w1.cell? ⟨w.heap.size, 0, none⟩ = some (.slice A1 n1 c1) := hgx.has (by simp [go_sem])
  have b1 : w1.cell? ⟨w.heap.size, 1, none⟩ = some (.slice A2 n2 c2) := hgx.has (by simp [go_sem])
  have hgw : Gr w w1 := ((Gr.refl _).alloc _).trans hgx
  have Ho := Lib.hid (own_base hown (Nat.le_succ w.heap.size))
  clear hown hgx hg1
  go_wp2_with fail
  go_loopw [7, 8] (fun o f wr => ∃ S b, f = .bool b ∧ (∃ g m c, o = .slice (some ⟨g, 0, none⟩) m c ∧ m = S.length ∧ wr.ownsRow w.heap.size 2 1 (.slice (some ⟨g, 0, none⟩) m c) m (ints S)) ∧ Nd l.length S ∧ ThinAt (confB n l) (tall (confB n l) s) S b ∧ Gr w1 wr) (fun o f _ => 2 * sliceN o + boolN f)
  case atStart => exact ⟨s, true, rfl, ⟨_, _, _, rfl, Hl4.out.symm, Ho.out⟩, Hs.out, rfl, Gr.refl _⟩
  case round =>
    obtain ⟨S, b, rfl, ⟨g, m, c, rfl, hm, hown⟩, hnd, hthin, hgr⟩ := hrel
    have Hown := Lib.hid hown
    have Hnd := Lib.hid hnd
    have hms : m ≤ 32 := by have := hnd.len; omega
    have Hm := Lib.hid hm
    have Hsc := Lib.hid (Sl.of_own hown).cells
    have Hsl := Lib.hid (Sl.of_own hown).1
    have hsz := (hgw.trans hgr).size
    cases b with
    | false =>
      have Hth : Hid (S = tall (confB n l) s) := Lib.hid hthin
      clear hown hnd hthin hm Ho
      go_wp2_with fail
      go_ret
      exact ⟨_, _, _, rfl, by omega, by rw [← Hth.out]; exact Hown.out, hgw.trans hgr⟩
    | true =>
      have Hth : Hid (tall (confB n l) S = tall (confB n l) s) := Lib.hid hthin
      clear hown hnd hthin hm Ho
      go_wp2_with (at_builtin; refine wpList_append_own _ rfl _ _ _ rfl wr.heap.size 2 i0 _ 1 8 Try.underlying33 hi0 hz0 hz1 hz2 rfl (by omega) _ 0 [] rfl (World.ownsRow_lit wr #[] 0 (Nat.le_refl _) (by unfold maxLen; omega) rfl) ⟨g, 0, none⟩ m c (ints S) rfl Hsl.out (fun j u hu => ((Gr.refl wr).alloc _).has (Hsc.out j u hu)) (ints_one _) (by unfold maxLen; omega) (by omega) (by simp) ?_; intro v' w2 hown2 hg2 _)
      obtain ⟨A2', c2', rfl⟩ := own_shape hown2
      rw [Nat.zero_add, List.nil_append] at hown2
      try rw [Nat.zero_add]
      have hx2 : Gr wr w2 := ((Gr.refl wr).alloc _).grown hg2 (fun j hj => by injection hj with hj; exact Nat.le_of_eq hj)
      have Ho2 := Lib.hid hown2
      clear hown2 hg2
      go_wp2_with fail
      go_loopw [7, 8, 10] (fun o f i wq => ∃ kept j b, f = .bool b ∧ j ≤ S.length ∧ i = .int .i64 ((j : Nat) : Int) ∧ (∃ g m c, o = .slice (some ⟨g, 0, none⟩) m c ∧ m = (kept ++ S.drop j).length ∧ wq.ownsRow w.heap.size 2 1 (.slice (some ⟨g, 0, none⟩) m c) m (ints (kept ++ S.drop j))) ∧ PassAt (confB n l) l.length S kept (S.drop j) b ∧ Gr w2 wq) (fun _ _ i _ => m - (intOf i).toNat)
      case atStart => exact ⟨[], 0, false, rfl, Nat.zero_le _, rfl, ⟨_, _, _, rfl, Hm.out, own_gr Hown.out hx2⟩, PassAt.start Hnd.out, Gr.refl _⟩
      case round =>
        obtain ⟨kept, j, b, rfl, hj, rfl, ⟨g5, q, d, rfl, hq, hown⟩, hpass, hgi⟩ := hrel
        have Hown := Lib.hid hown
        have Hpass := Lib.hid hpass
        have hqs : q ≤ 32 := by have := hpass.nd.len; omega
        have Hq := Lib.hid hq
        have hjm : j ≤ m := by have := Hm.out; omega
        clear hown hpass
        by_cases hlt : j < m
        · have hjS : j < S.length := by have := Hm.out; omega
          obtain ⟨x, hx⟩ : ∃ x, S[j]? = some x := ⟨_, List.getElem?_eq_getElem hjS⟩
          have hdr : S.drop j = x :: S.drop (j + 1) := by rw [List.drop_eq_getElem_cons hjS]; congr 1; exact (List.getElem?_eq_some_iff.1 hx).2
          obtain ⟨gp, rfl, _, _⟩ := own_form Ho2.out (by omega)
          obtain ⟨r0, _⟩ := own_int (own_gr Ho2.out hgi) hx
          have Hwo : Hid (withoutL (kept ++ S.drop j) x = kept ++ S.drop (j + 1)) := Lib.hid (by
            have := Hpass.out.nd
            rw [hdr] at this ⊢
            exact without_mid this)
          have Hnd2 : Hid (Nd l.length (kept ++ S.drop (j + 1))) := Lib.hid (by
            have := Hpass.out.nd
            rw [hdr] at this
            exact this.sub (List.Sublist.append (List.Sublist.refl _) (List.sublist_cons_self ..)))
          have Hdr := Lib.hid hdr
          have t1 : (j : Int) < (m : Int) := by omega
          have t0 : (0 : Int) ≤ (j : Int) := by omega
          have hg4 := (hgr.trans hx2).trans hgi
          have hgy := hgw.trans hg4
          have d0 := hg4.has b0
          have d1 := hg4.has b1
          have hszq := hgy.size
          clear hx hdr hq
          go_wp2_with fail
          refine (l26Without_any _ x _ (SlAt.of_own Hown.out (by omega))).mono ?_
          rintro e w5 ⟨B5, q5, d5, rfl, hq5, ho, hg5⟩
          rw [Hwo.out] at ho
          have Ho5 := Lib.hid ho
          replace d0 := hg5.has d0
          replace d1 := hg5.has d1
          clear ho
          go_wp2_with fail
          refine (l26Fit_any n l (kept ++ S.drop (j + 1)) _ (HA.out.gr (hgy.trans hg5)) (HL.out.gr (hgy.trans hg5)) (SlAt.of_own Ho5.out (by omega)) Hok.out Hnd2.out).mono ?_
          rintro e w7 ⟨rfl, hg7⟩
          have hg8 : Gr w2 w7 := (hgi.trans hg5).trans hg7
          cases hf : confB n l (kept ++ S.drop (j + 1)) with
          | true =>
            have Hp : Hid (PassAt (confB n l) l.length S kept (S.drop (j + 1)) true) := Lib.hid (by
              have := Hpass.out
              rw [Hdr.out] at this
              exact this.hit hf)
            have hq0 : 0 < q5 := by
              rcases Nat.eq_zero_or_pos q5 with h0 | h0
              · have h1 := own_ilen Ho5.out
                rw [h0] at h1
                rw [List.eq_nil_of_length_eq_zero h1, confB_nil Hn.out l] at hf
                cases hf
              · exact h0
            obtain ⟨g6, rfl, _, _⟩ := own_form Ho5.out hq0
            clear hf
            go_wp2_with fail
            go_roundw
            case rel => exact ⟨kept, j + 1, true, rfl, hjS, by go_num, ⟨_, _, _, rfl, (own_ilen Ho5.out).symm, own_base (own_gr Ho5.out hg7) hszq⟩, Hp.out, hg8⟩
            case measure => simp [intOf]; omega
          | false =>
            have Hp : Hid (PassAt (confB n l) l.length S (kept ++ [x]) (S.drop (j + 1)) b) := Lib.hid (by
              have := Hpass.out
              rw [Hdr.out] at this
              exact this.miss hf)
            have Hre : Hid (kept ++ S.drop j = kept ++ [x] ++ S.drop (j + 1)) := Lib.hid (by rw [Hdr.out]; simp)
            clear hf
            go_wp2_with fail
            go_roundw
            case rel => exact ⟨kept ++ [x], j + 1, b, rfl, hjS, by go_num, ⟨_, _, _, rfl, by rw [← Hre.out]; exact Hq.out, by rw [← Hre.out]; exact own_gr Hown.out (hg5.trans hg7)⟩, Hp.out, hg8⟩
            case measure => simp [intOf]; omega
        · have hjS : S.drop j = [] := List.drop_of_length_le (by have := Hm.out; omega)
          have hp := Hpass.out
          rw [hjS] at hp
          obtain ⟨e1, e2, e3⟩ := hp.stop
          obtain ⟨f1, f2⟩ := thin_end e1 e2 Hth.out
          have F1 := Lib.hid f1
          have F2 := Lib.hid f2
          have E3 := Lib.hid e3
          have hkq : q = kept.length := by rw [Hq.out, hjS]; simp
          have ho9 := Hown.out
          rw [hjS, List.append_nil] at ho9
          have Ho9 := Lib.hid ho9
          obtain rfl : j = m := by omega
          clear f1 f2 e1 e2 e3 hp hjS hq ho9
          subst hkq
          go_wp2_with fail
          go_roundw
          case rel => exact ⟨kept, b, rfl, ⟨_, _, _, rfl, rfl, Ho9.out⟩, E3.out, F1.out, (hgr.trans hx2).trans hgi⟩
          case measure =>
            have h1 := F2.out
            have h2 := Hm.out
            have h3 : boolN (.bool true) = 1 := rfl
            show 2 * kept.length + boolN (.bool b) < 2 * j + boolN (.bool true)
            omega
noncomputable def thRes (n : GNet) (l : List GTr) (s : List Int) : List Int := if cfCode n l s = 0 then tall (confB n l) s else []
theorem cf_bad {n : GNet} {l : List GTr} {s : List Int} (h : ¬ csCode n l s = 0) : cfCode n l s = csCode n l s ∧ thRes n l s = [] := by
  have e : cfCode n l s = csCode n l s := by rw [cfCode, if_neg h]
  exact ⟨e, by rw [thRes, if_neg (by rw [e]; exact h)]⟩
theorem cf_no {n : GNet} {l : List GTr} {s : List Int} (h : csCode n l s = 0) (hf : confB n l s = false) : cfCode n l s = 4 ∧ thRes n l s = [] := by
  have e : cfCode n l s = 4 := by rw [cfCode, if_pos h, if_neg (by simp [hf])]
  exact ⟨e, by rw [thRes, if_neg (by rw [e]; decide)]⟩
theorem cf_yes {n : GNet} {l : List GTr} {s : List Int} (h : csCode n l s = 0) (hf : confB n l s = true) : cfCode n l s = 0 ∧ thRes n l s = tall (confB n l) s := by
  have e : cfCode n l s = 0 := by rw [cfCode, if_pos h, if_pos hf]
  exact ⟨e, by rw [thRes, if_pos e]⟩
theorem cs_idx (n : GNet) (l : List GTr) : csCode n l (idx l.length) = trCode n l := by
  rw [csCode, if_pos (idx_set l.length)]
  split
  · rename_i h; exact h.symm
  · rfl
set_option maxRecDepth 100000 in
theorem ThinConflict_any {A1 A2 A3 A4 : Option Addr} {n1 c1 n2 c2 n3 c3 n4 c4 : Nat} (n : GNet) (l : List GTr) (s : List Int) (w : World) (hA : NetAt w A1 n1 c1 A2 n2 c2 n) (hL : SlAt w 4 A3 n3 c3 (l.flatMap GTr.cells)) (hS : SlAt w 1 A4 n4 c4 (ints s)) :
    Calls Try.prog 60 #[.agg #[.slice A1 n1 c1, .slice A2 n2 c2], .slice A3 n3 c3, .slice A4 n4 c4] w fun e w' => ∃ A m c, e = .returned (.tuple #[.slice A m c, .int .i64 (cfCode n l s)]) ∧ m ≤ 1048576 ∧ w'.ownsRow w.heap.size 2 1 (.slice A m c) m (ints (thRes n l s)) ∧ Gr w w' := by
  have HA := Lib.hid hA
  have hm3 := hL.small
  have hl3 := hL.sl.len GTr.cells_len (by omega)
  have hl4 := hS.sl.ilen
  have HL := Lib.hid hL
  have HS := Lib.hid hS
  have Hl3 := Lib.hid hl3
  have Hl4 := Lib.hid hl4
  clear hA hL hS hl3 hl4
  go_enter Try.func60, Try.ntmps60
  go_wp2_with fail
  refine (checkSet_any n l s _ (HA.out.gr ((Gr.refl _).alloc _)) (HL.out.gr ((Gr.refl _).alloc _)) (HS.out.gr ((Gr.refl _).alloc _))).mono ?_
  rintro e w1 ⟨rfl, hg1⟩
  have hg0 : Gr w w1 := ((Gr.refl _).alloc _).trans hg1
  have b0 : w1.cell? ⟨w.heap.size, 0, none⟩ = some (.slice A1 n1 c1) := hg1.has (by simp [go_sem])
  have b1 : w1.cell? ⟨w.heap.size, 1, none⟩ = some (.slice A2 n2 c2) := hg1.has (by simp [go_sem])
  clear hg1
  by_cases hc : csCode n l s = 0
  · have Hc := Lib.hid hc
    have Hn := Lib.hid (trCode_zero (csCode_zero hc).1).1
    have Hok1 : Hid (trsOk n1 l = true) := Lib.hid (by rw [← HA.out.l1]; exact (trCode_zero (csCode_zero hc).1).2)
    have Hs := Lib.hid (setOk_nd (csCode_zero hc).2)
    have tb : (csCode n l s != 0) = false := by simp [hc]
    have tc : (csCode n l s == 0) = true := by simp [hc]
    clear hc
    go_wp2_with fail
    refine (isConflict_any n l s _ (HA.out.gr hg0) (HL.out.gr hg0) (HS.out.gr hg0) Hok1.out Hs.out).mono ?_
    rintro e w2 ⟨rfl, hg2⟩
    have hgw := hg0.trans hg2
    replace b0 := hg2.has b0
    replace b1 := hg2.has b1
    cases hf : confB n l s with
    | false =>
      have Hv := Lib.hid (cf_no Hc.out hf)
      clear hf
      go_wp2_with fail
      go_ret2
      refine ⟨none, 0, 0, by rw [Hv.out.1]; rfl, by omega, ?_, hgw⟩
      rw [Hv.out.2]
      exact World.ownsRow_nil _ _ _ _
    | true =>
      have Hv := Lib.hid (cf_yes Hc.out hf)
      clear hf
      go_wp2_with fail
      refine (thinned_any n l s _ (HA.out.gr hgw) (HL.out.gr hgw) (HS.out.gr hgw) Hok1.out Hs.out).mono ?_
      rintro e w3 ⟨B, m, d, rfl, hm, hp, hg3⟩
      have Hp := Lib.hid hp
      clear hp
      go_wp2_with fail
      go_ret2
      refine ⟨B, m, d, by rw [Hv.out.1]; rfl, hm, ?_, hgw.trans hg3⟩
      rw [Hv.out.2]
      exact own_base Hp.out hgw.size
  · have Hv := Lib.hid (cf_bad (n := n) (l := l) (s := s) hc)
    have Hc := Lib.hid hc
    have tb : (csCode n l s != 0) = true := by simp [hc]
    have tc : (csCode n l s == 0) = false := by simp [hc]
    clear hc
    go_wp2_with fail
    go_ret2
    refine ⟨none, 0, 0, by rw [Hv.out.1]; rfl, by omega, ?_, hg0⟩
    rw [Hv.out.2]
    exact World.ownsRow_nil _ _ _ _
set_option maxRecDepth 100000 in
theorem spThinConflict_any {A1 A2 A3 A4 : Option Addr} {n1 c1 n2 c2 n3 c3 n4 c4 : Nat} (n : GNet) (l : List GTr) (s : List Int) (w : World) (hA : NetAt w A1 n1 c1 A2 n2 c2 n) (hL : SlAt w 4 A3 n3 c3 (l.flatMap GTr.cells)) (hS : SlAt w 1 A4 n4 c4 (ints s)) :
    Calls Try.prog 61 #[.agg #[.slice A1 n1 c1, .slice A2 n2 c2], .slice A3 n3 c3, .slice A4 n4 c4] w fun e w' => ∃ A m c, e = .returned (.tuple #[.slice A m c, .int .i64 (cfCode n l s)]) ∧ m ≤ 1048576 ∧ w'.ownsRow w.heap.size 2 1 (.slice A m c) m (ints (thRes n l s)) ∧ Gr w w' := by
  have HA := Lib.hid hA
  have hm3 := hL.small
  have hl3 := hL.sl.len GTr.cells_len (by omega)
  have hl4 := hS.sl.ilen
  have HL := Lib.hid hL
  have HS := Lib.hid hS
  have Hl3 := Lib.hid hl3
  have Hl4 := Lib.hid hl4
  clear hA hL hS hl3 hl4
  go_enter Try.func61, Try.ntmps61
  go_wp2_with fail
  refine (l26Code_any n l s _ (HA.out.gr ((Gr.refl _).alloc _)) (HL.out.gr ((Gr.refl _).alloc _)) (HS.out.gr ((Gr.refl _).alloc _))).mono ?_
  rintro e w1 ⟨rfl, hg1⟩
  have hg0 : Gr w w1 := ((Gr.refl _).alloc _).trans hg1
  have b0 : w1.cell? ⟨w.heap.size, 0, none⟩ = some (.slice A1 n1 c1) := hg1.has (by simp [go_sem])
  have b1 : w1.cell? ⟨w.heap.size, 1, none⟩ = some (.slice A2 n2 c2) := hg1.has (by simp [go_sem])
  clear hg1
  by_cases hc : csCode n l s = 0
  · have Hc := Lib.hid hc
    have Hn := Lib.hid (trCode_zero (csCode_zero hc).1).1
    have Hok1 : Hid (trsOk n1 l = true) := Lib.hid (by rw [← HA.out.l1]; exact (trCode_zero (csCode_zero hc).1).2)
    have Hs := Lib.hid (setOk_nd (csCode_zero hc).2)
    have tb : (csCode n l s != 0) = false := by simp [hc]
    have tc : (csCode n l s == 0) = true := by simp [hc]
    clear hc
    go_wp2_with fail
    refine (l26Fit_any n l s _ (HA.out.gr hg0) (HL.out.gr hg0) (HS.out.gr hg0) Hok1.out Hs.out).mono ?_
    rintro e w2 ⟨rfl, hg2⟩
    have hgw := hg0.trans hg2
    replace b0 := hg2.has b0
    replace b1 := hg2.has b1
    cases hf : confB n l s with
    | false =>
      have Hv := Lib.hid (cf_no Hc.out hf)
      clear hf
      go_wp2_with fail
      go_ret2
      refine ⟨none, 0, 0, by rw [Hv.out.1]; rfl, by omega, ?_, hgw⟩
      rw [Hv.out.2]
      exact World.ownsRow_nil _ _ _ _
    | true =>
      have Hv := Lib.hid (cf_yes Hc.out hf)
      have hpos : 0 < n4 := by
        rcases Nat.eq_zero_or_pos n4 with h0 | h0
        · have h1 := Hl4.out
          rw [h0] at h1
          rw [List.eq_nil_of_length_eq_zero h1, confB_nil Hn.out l] at hf
          cases hf
        · exact h0
      clear hf
      go_wp2_with fail
      refine (l26Thin_any n l s _ (HA.out.gr hgw) (HL.out.gr hgw) (HS.out.gr hgw) Hn.out Hok1.out Hs.out hpos).mono ?_
      rintro e w3 ⟨B, m, d, rfl, hm, hp, hg3⟩
      have Hp := Lib.hid hp
      clear hp
      go_wp2_with fail
      go_ret2
      refine ⟨B, m, d, by rw [Hv.out.1]; rfl, hm, ?_, hgw.trans hg3⟩
      rw [Hv.out.2]
      exact own_base Hp.out hgw.size
  · have Hv := Lib.hid (cf_bad (n := n) (l := l) (s := s) hc)
    have Hc := Lib.hid hc
    have tb : (csCode n l s != 0) = true := by simp [hc]
    have tc : (csCode n l s == 0) = false := by simp [hc]
    clear hc
    go_wp2_with fail
    go_ret2
    refine ⟨none, 0, 0, by rw [Hv.out.1]; rfl, by omega, ?_, hg0⟩
    rw [Hv.out.2]
    exact World.ownsRow_nil _ _ _ _
set_option maxRecDepth 100000 in
theorem l26All_any (N : Nat) (w : World) (hN : N ≤ 1048576) :
    Calls Try.prog 115 #[.int .i64 N] w fun e w' => ∃ B d, e = .returned (.slice B N d) ∧ w'.ownsRow w.heap.size 2 1 (.slice B N d) N (ints (idx N)) ∧ Gr w w' := by
  obtain ⟨i0, hi0, hz0, hz1, hz2⟩ := info_parts infoInt64
  go_enter Try.func115, Try.ntmps115
  go_wp2_with fail
  go_loopw [3, 4] (fun o i wr => ∃ k : Nat, k ≤ N ∧ i = .int .i64 k ∧ (∃ B d, o = .slice B k d) ∧ wr.ownsRow w.heap.size 2 1 o k (ints (idx k)) ∧ Gr w wr) (fun _ i _ => N - (intOf i).toNat)
  case atStart => exact ⟨0, Nat.zero_le _, rfl, ⟨_, _, rfl⟩, World.ownsRow_lit w #[] 0 (Nat.le_refl _) (by unfold maxLen; omega) rfl, (Gr.refl _).alloc _⟩
  case round =>
    obtain ⟨k, hk, rfl, ⟨B, d, rfl⟩, hown, hgr⟩ := hrel
    have Hown := Lib.hid hown
    have hsz := hgr.size
    clear hown
    by_cases hlt : k < N
    · have t1 : (k : Int) < (N : Int) := by omega
      go_wp2_with (at_builtin; refine wpList_append_own _ rfl _ _ _ rfl w.heap.size 2 i0 _ 1 8 Try.underlying33 hi0 hz0 hz1 hz2 rfl (by omega) _ k _ rfl (Hown.out.alloc _) ⟨wr.heap.size, 0, none⟩ 1 1 [.int .i64 (k : Int)] rfl rfl (World.news_of_block (cs := #[.int .i64 (k : Int)]) (t := 2) (fr := (0, 0)) (heap_alloc_new wr _)) (by simp [Value.oneCell']) (by unfold maxLen; omega) (by omega) (by simp; omega) ?_; intro v' w1 hown hg _)
      obtain ⟨A', c', rfl⟩ := own_shape hown
      have Ho := Lib.hid hown
      clear hown
      go_wp2_with fail
      go_roundw
      case rel =>
        refine ⟨k + 1, by omega, by go_num, ⟨_, _, rfl⟩, ?_, ?_⟩
        · rw [idx_succ, ints_snoc]; exact Ho.out
        · exact (hgr.alloc _).grown hg (fun j hj => own_base_le Hown.out hj)
      case measure => simp [intOf]; omega
    · obtain rfl : k = N := by omega
      go_wp2_with fail
      go_ret
      exact ⟨_, _, rfl, Hown.out, hgr⟩
set_option maxHeartbeats 1000000 in
set_option maxRecDepth 100000 in
theorem spFindConflict_any {A1 A2 A3 : Option Addr} {n1 c1 n2 c2 n3 c3 : Nat} (n : GNet) (l : List GTr) (w : World) (hA : NetAt w A1 n1 c1 A2 n2 c2 n) (hL : SlAt w 4 A3 n3 c3 (l.flatMap GTr.cells)) :
    Calls Try.prog 54 #[.agg #[.slice A1 n1 c1, .slice A2 n2 c2], .slice A3 n3 c3] w fun e w' => ∃ A m c, e = .returned (.tuple #[.slice A m c, .int .i64 (cfCode n l (idx l.length))]) ∧ m ≤ 1048576 ∧ w'.ownsRow w.heap.size 2 1 (.slice A m c) m (ints (thRes n l (idx l.length))) ∧ Gr w w' := by
  have HA := Lib.hid hA
  have hm3 := hL.small
  have hl3 := hL.sl.len GTr.cells_len (by omega)
  have HL := Lib.hid hL
  have Hl3 := Lib.hid hl3
  clear hA hL hl3
  go_enter Try.func54, Try.ntmps54
  go_wp2_with fail
  obtain ⟨w0, hw0⟩ : ∃ w0, w0 = w.alloc (.cells #[.slice A1 n1 c1, .slice A2 n2 c2] 27) := ⟨_, rfl⟩
  have hg0 : Gr w w0 := by rw [hw0]; exact (Gr.refl _).alloc _
  have b0 : w0.cell? ⟨w.heap.size, 0, none⟩ = some (.slice A1 n1 c1) := by rw [hw0]; simp [go_sem]
  have b1 : w0.cell? ⟨w.heap.size, 1, none⟩ = some (.slice A2 n2 c2) := by rw [hw0]; simp [go_sem]
  rw [← hw0]
  clear hw0
  go_region_held3 (fun w' => Gr w0 w' ∧ w'.cell? ⟨w.heap.size, 0, none⟩ = some (.slice A1 n1 c1) ∧ w'.cell? ⟨w.heap.size, 1, none⟩ = some (.slice A2 n2 c2))
    (first | exact ⟨(Gr.refl _).drew, b0, b1⟩ | exact ⟨by assumption, (by assumption : Gr w0 _).has b0, (by assumption : Gr w0 _).has b1⟩)
    (first
      | (go_at_call 115; refine (l26All_any n3 _ hm3).mono ?_; rintro e w2 ⟨B, d, rfl, ho, hg2⟩; have Ho := Lib.hid ho; clear ho; have hx : Gr w0 w2 := (Gr.refl _).drew.trans hg2)
      | (go_at_call 61; refine (spThinConflict_any n l (idx n3) _ (HA.out.gr (hg0.trans hx)) (HL.out.gr (hg0.trans hx)) (SlAt.of_own Ho.out hm3)).mono ?_; rintro e w3 ⟨B3, m3, d3, rfl, hq3, hp, hg3⟩; have Hp := Lib.hid hp; clear hp; have hy : Gr w0 w3 := hx.trans hg3))
  go_wp2_with fail
  go_ret2
  rw [Hl3.out]
  exact ⟨B3, m3, d3, rfl, hq3, own_base Hp.out (hg0.trans hx).size, hg0.trans hy⟩
set_option maxHeartbeats 2000000 in
set_option maxRecDepth 100000 in
theorem FindConflict_any {A1 A2 A3 : Option Addr} {n1 c1 n2 c2 n3 c3 : Nat} (n : GNet) (l : List GTr) (w : World) (hA : NetAt w A1 n1 c1 A2 n2 c2 n) (hL : SlAt w 4 A3 n3 c3 (l.flatMap GTr.cells)) :
    Calls Try.prog 53 #[.agg #[.slice A1 n1 c1, .slice A2 n2 c2], .slice A3 n3 c3] w fun e w' => ∃ A m c, e = .returned (.tuple #[.slice A m c, .int .i64 (cfCode n l (idx l.length))]) ∧ m ≤ 1048576 ∧ w'.ownsRow w.heap.size 2 1 (.slice A m c) m (ints (thRes n l (idx l.length))) ∧ Gr w w' := by
  obtain ⟨i0, hi0, hz0, hz1, hz2⟩ := info_parts infoInt64
  have HA := Lib.hid hA
  have hm3 := hL.small
  have hl3 := hL.sl.len GTr.cells_len (by omega)
  have HL := Lib.hid hL
  have Hl3 := Lib.hid hl3
  clear hA hL hl3
  go_enter Try.func53, Try.ntmps53
  go_wp2_with fail
  refine (checkTransports_any _ _ _ _ _ _ _ _ _ n l _ (HA.out.gr ((Gr.refl _).alloc _)) (HL.out.sl.gr ((Gr.refl _).alloc _)) HL.out.small).mono ?_
  rintro e w1 ⟨rfl, hg1⟩
  have hg0 : Gr w w1 := ((Gr.refl _).alloc _).trans hg1
  have b0 : w1.cell? ⟨w.heap.size, 0, none⟩ = some (.slice A1 n1 c1) := hg1.has (by simp [go_sem])
  have b1 : w1.cell? ⟨w.heap.size, 1, none⟩ = some (.slice A2 n2 c2) := hg1.has (by simp [go_sem])
  clear hg1
  by_cases hc : trCode n l = 0
  · have Hc := Lib.hid hc
    have Hn := Lib.hid (trCode_zero hc).1
    have Hok := Lib.hid (trCode_zero hc).2
    have Hok1 : Hid (trsOk n1 l = true) := Lib.hid (by rw [← HA.out.l1]; exact (trCode_zero hc).2)
    have tb : (trCode n l != 0) = false := by simp [hc]
    clear hc
    have Hcs : Hid (csCode n l (idx l.length) = 0) := Lib.hid (by rw [cs_idx, Hc.out])
    have Hidx := Lib.hid (idx_nd l.length)
    have hw1s : w.heap.size < w1.heap.size := lt_of_cell b0
    rw [Hl3.out] at Hcs
    go_wp2_with (at_make; refine wpList_make_full _ rfl _ _ _ rfl w.heap.size 2 i0 _ 1 Try.underlying33 hi0 hz0 hz1 .i64 .i64 _ _ n3 rfl rfl rfl rfl (by rw [hz2]; omega) (by unfold maxLen; omega) hg0.size ?_; intro w2 hown hg; have hgx : Gr w1 w2 := Gr.of_grown hg; replace b0 := hgx.has b0; replace b1 := hgx.has b1)
    have o1 : w2.ownsRow w.heap.size 2 1 (.slice (some ⟨w1.heap.size, 0, none⟩) n3 n3) n3 (ints (List.replicate n3 0)) := by
      have := own_cells_eq hown (made_ints n3)
      simpa using this
    have hg2 : Gr w w2 := hg0.trans hgx
    obtain ⟨S, hS⟩ : ∃ S, S = w1.heap.size := ⟨_, rfl⟩
    have hS0 := hg0.size
    have hSw : w.heap.size < S := by rw [hS]; exact hw1s
    rw [← hS] at o1 hS0 ⊢
    have O1 := Lib.hid o1
    clear o1 hown hg hgx hS
    go_loopw [20] (fun i wr => ∃ k : Nat, k ≤ n3 ∧ i = .int .i64 k ∧ wr.ownsRow w.heap.size 2 1 (.slice (some ⟨S, 0, none⟩) n3 n3) n3 (ints (overTo (fun j => (j : Int)) (List.replicate n3 0) k)) ∧ wr.cell? ⟨w.heap.size, 0, none⟩ = some (.slice A1 n1 c1) ∧ wr.cell? ⟨w.heap.size, 1, none⟩ = some (.slice A2 n2 c2) ∧ Gr w wr) (fun i _ => n3 - (intOf i).toNat)
    case atStart => exact ⟨0, Nat.zero_le _, rfl, by rw [overTo_zero]; exact O1.out, b0, b1, hg2⟩
    case round =>
      obtain ⟨k, hk, rfl, hown, d0, d1, hgr⟩ := hrel
      clear O1 b0 b1
      by_cases hlt : k < n3
      · obtain ⟨q0, q1⟩ := own_int hown (k := k) (x := 0) (by rw [overTo_get]; simp [hlt])
        obtain ⟨R1, R2⟩ := own_set_int hown k (k : Int)
        rw [overTo_set _ _ (by simpa using hlt) rfl] at R1
        have e0 := R2.cell d0 (by simp; omega)
        have e1 := R2.cell d1 (by simp; omega)
        have hgR := hgr.grown R2 (fun _ e => by injection e with e; omega)
        have HR := Lib.hid R1
        have He := Lib.hid (And.intro e0 (And.intro e1 hgR))
        have t1 : (k : Int) < (n3 : Int) := by omega
        have t0 : (0 : Int) ≤ (k : Int) := by omega
        clear hown R1 R2 e0 e1 hgR
        go_wp2_with fail
        go_roundw
        case rel => exact ⟨k + 1, by omega, by go_num, HR.out, He.out.1, He.out.2.1, He.out.2.2⟩
        case measure => simp [intOf]; omega
      · obtain rfl : k = n3 := by omega
        have hfull : overTo (fun j : Nat => (j : Int)) (List.replicate k 0) k = idx k := by
          have h := overTo_full (fun j : Nat => (j : Int)) (List.replicate k 0)
          rw [List.length_replicate] at h
          rw [h]; rfl
        rw [hfull] at hown
        have Hown := Lib.hid hown
        rw [Hl3.out] at Hidx
        have Hnd : Hid (Nd l.length (idx k)) := Lib.hid (by rw [Hl3.out]; exact Hidx.out)
        clear hown hfull
        go_wp2_with fail
        refine (isConflict_any n l (idx k) _ (HA.out.gr hgr) (HL.out.gr hgr) (SlAt.of_own Hown.out hm3) Hok1.out Hnd.out).mono ?_
        rintro e w5 ⟨rfl, hg5⟩
        have hgw := hgr.trans hg5
        replace d0 := hg5.has d0
        replace d1 := hg5.has d1
        cases hf : confB n l (idx k) with
        | false =>
          have Hv := Lib.hid (cf_no Hcs.out hf)
          clear hf
          go_wp2_with fail
          go_ret2
          rw [Hl3.out]
          refine ⟨none, 0, 0, by rw [Hv.out.1]; rfl, by omega, ?_, hgw⟩
          rw [Hv.out.2]
          exact World.ownsRow_nil _ _ _ _
        | true =>
          have Hv := Lib.hid (cf_yes Hcs.out hf)
          clear hf
          go_wp2_with fail
          refine (thinned_any n l (idx k) _ (HA.out.gr hgw) (HL.out.gr hgw) (SlAt.of_own (own_gr Hown.out hg5) hm3) Hok1.out Hnd.out).mono ?_
          rintro e w6 ⟨B, m, d, rfl, hm, hp, hg6⟩
          have Hp := Lib.hid hp
          clear hp
          go_wp2_with fail
          go_ret2
          rw [Hl3.out]
          refine ⟨B, m, d, by rw [Hv.out.1]; rfl, hm, ?_, hgw.trans hg6⟩
          rw [Hv.out.2]
          exact own_base Hp.out hgw.size
  · have Hv := Lib.hid (cf_bad (n := n) (l := l) (s := idx l.length) (by rw [cs_idx]; exact hc))
    have Hq := Lib.hid (cs_idx n l)
    have tb : (trCode n l != 0) = true := by simp [hc]
    clear hc
    go_wp2_with fail
    go_ret2
    refine ⟨none, 0, 0, by rw [Hv.out.1, Hq.out]; rfl, by omega, ?_, hg0⟩
    rw [Hv.out.2]
    exact World.ownsRow_nil _ _ _ _
end Go.Proofs.Ytejfpajbkgfiaaa
/-
  Conflicts: Relievers of the program and the reference.
-/
namespace Go.Proofs.Ytejfpajbkgfiaaa
open Go.ChangeShapes Go.WideShapes Go.ChangeAt Go.RowKit

theorem step_append_g {P : Program} (w : World) {ops : Array Oper} {o : Oper} {a : Act} {K : Act → World → Prop} {Q : Exit → Act → World → Prop} {E : Prop} (hw : Region.wanted o (yielded ops a.tmps) = true) (s x : Operand) (t : TypeId)
    (ho : o.op = .call { callee := .builtin .append, args := #[s, x], argTypes := #[t, t] })
    (base : Nat) (e : TypeId) (i : TypeInfo) (z : Value) (size bytes : Nat) (ht : P.underlying t = some (.slice e)) (hi : P.info? e = some i) (hz : i.zero = some z)
    (hsize : i.size = size) (hby : i.bytes = bytes) (hzs : z.cells.size = size) (hsz : 0 < size)
    (v : Value) (n : Nat) (xs : List Value) (hs : a.eval s = v) (hown : w.ownsRow base e size v n xs)
    (ad : Addr) (m c : Nat) (news : List Value) (hx : a.eval x = .slice (some ad) m c) (hl : news.length = m * size) (hnews : ∀ j u, news[j]? = some u → w.cell? (ad.add j) = some u) (h1 : ∀ u ∈ news, u.oneCell' = true)
    (hm : 0 < m) (h63 : n + m ≤ maxLen) (hbytes : (n + m) * bytes ≤ 140737488355328) (hbase : base ≤ w.heap.size) (q : Nat) (hq : n + m = q)
    (h : ∀ g cap w', w'.ownsRow base e size (.slice (some ⟨g, 0, none⟩) q cap) q (xs ++ news) → w.grownBy w' v.ownBlock → K (a.put o.dst (.slice (some ⟨g, 0, none⟩) q cap)) w') :
    if Region.wanted o (yielded ops a.tmps) = true then Oper.wp P o a w K Q else E := by
  subst hq
  rw [if_pos hw]
  exact wp_append_lies w s x t ho base e i z size bytes ht hi hz hsize hby hzs hsz v n xs hs hown ad m c news hx hl hnews h1 hm h63 hbytes hbase _ rfl (fun g cap w' h2 h3 _ _ => h g cap w' h2 h3)
theorem news_one {w : World} {ad : Addr} {v : Value} (h : w.cell? ad = some v) : ∀ j u, [v][j]? = some u → w.cell? (ad.add j) = some u := by
  intro j u hu
  cases j with
  | zero => simp at hu; subst hu; simpa [Addr.add] using h
  | succ j => simp at hu
noncomputable def reRes (n : GNet) (l : List GTr) (s : List Int) : List Int := if cfCode n l s = 0 then relTo (confB n l) s l.length else []
theorem re_in {p : List Int → Bool} {s : List Int} {k : Nat} (h : (k : Int) ∈ s) : relTo p s (k + 1) = relTo p s k := by
  rw [relTo, if_neg (by simp [h])]
theorem re_no {p : List Int → Bool} {s : List Int} {k : Nat} (h : p (s ++ [(k : Int)]) = true) : relTo p s (k + 1) = relTo p s k := by
  rw [relTo, if_neg (by simp [h])]
theorem re_add {p : List Int → Bool} {s : List Int} {k : Nat} (h : ¬ (k : Int) ∈ s) (hp : p (s ++ [(k : Int)]) = false) : relTo p s (k + 1) = relTo p s k ++ [(k : Int)] := by
  rw [relTo, if_pos (by simp [h, hp])]
theorem re_bad {n : GNet} {l : List GTr} {s : List Int} (h : ¬ cfCode n l s = 0) : reRes n l s = [] := by rw [reRes, if_neg h]
set_option maxHeartbeats 4000000 in
set_option maxRecDepth 100000 in
theorem Relievers_any {A1 A2 A3 A4 : Option Addr} {n1 c1 n2 c2 n3 c3 n4 c4 : Nat} (n : GNet) (l : List GTr) (s : List Int) (w : World) (hA : NetAt w A1 n1 c1 A2 n2 c2 n) (hL : SlAt w 4 A3 n3 c3 (l.flatMap GTr.cells)) (hS : SlAt w 1 A4 n4 c4 (ints s)) :
    Calls Try.prog 65 #[.agg #[.slice A1 n1 c1, .slice A2 n2 c2], .slice A3 n3 c3, .slice A4 n4 c4] w fun e w' => ∃ A m c, e = .returned (.tuple #[.slice A m c, .int .i64 (cfCode n l s)]) ∧ m ≤ 1048576 ∧ w'.ownsRow w.heap.size 2 1 (.slice A m c) m (ints (reRes n l s)) ∧ Gr w w' := by
  obtain ⟨i0, hi0, hz0, hz1, hz2⟩ := info_parts infoInt64
  have hm4 := hS.small
  have HA := Lib.hid hA
  have hm3 := hL.small
  have hl3 := hL.sl.len GTr.cells_len (by omega)
  have hl4 := hS.sl.ilen
  have HL := Lib.hid hL
  have HS := Lib.hid hS
  have Hl3 := Lib.hid hl3
  have Hl4 := Lib.hid hl4
  clear hA hL hS hl3 hl4
  go_enter Try.func65, Try.ntmps65
  go_wp2_with fail
  refine (checkSet_any n l s _ (HA.out.gr ((Gr.refl _).alloc _)) (HL.out.gr ((Gr.refl _).alloc _)) (HS.out.gr ((Gr.refl _).alloc _))).mono ?_
  rintro e w1 ⟨rfl, hg1⟩
  have hg0 : Gr w w1 := ((Gr.refl _).alloc _).trans hg1
  have b0 : w1.cell? ⟨w.heap.size, 0, none⟩ = some (.slice A1 n1 c1) := hg1.has (by simp [go_sem])
  have b1 : w1.cell? ⟨w.heap.size, 1, none⟩ = some (.slice A2 n2 c2) := hg1.has (by simp [go_sem])
  clear hg1
  by_cases hc : csCode n l s = 0
  · have Hc := Lib.hid hc
    have Hn := Lib.hid (trCode_zero (csCode_zero hc).1).1
    have Hok1 : Hid (trsOk n1 l = true) := Lib.hid (by rw [← HA.out.l1]; exact (trCode_zero (csCode_zero hc).1).2)
    have Hs := Lib.hid (setOk_nd (csCode_zero hc).2)
    have tb : (csCode n l s != 0) = false := by simp [hc]
    have tc : (csCode n l s == 0) = true := by simp [hc]
    clear hc
    go_wp2_with fail
    refine (isConflict_any n l s _ (HA.out.gr hg0) (HL.out.gr hg0) (HS.out.gr hg0) Hok1.out Hs.out).mono ?_
    rintro e w2 ⟨rfl, hg2⟩
    have hgw := hg0.trans hg2
    replace b0 := hg2.has b0
    replace b1 := hg2.has b1
    cases hf : confB n l s with
    | false =>
      have Hv := Lib.hid (cf_no Hc.out hf)
      clear hf
      go_wp2_with fail
      go_ret2
      refine ⟨none, 0, 0, by rw [Hv.out.1]; rfl, by omega, ?_, hgw⟩
      rw [re_bad (by rw [Hv.out.1]; decide)]
      exact World.ownsRow_nil _ _ _ _
    | true =>
      have Hv := Lib.hid (cf_yes Hc.out hf)
      clear hf
      go_wp2_with fail
      go_loopw [9, 25] (fun o i wr => ∃ k : Nat, k ≤ n3 ∧ i = .int .i64 k ∧ (∃ A m c, o = .slice A m c ∧ m = (relTo (confB n l) s k).length ∧ wr.ownsRow w2.heap.size 2 1 (.slice A m c) m (ints (relTo (confB n l) s k))) ∧ Gr w2 wr) (fun _ i _ => n3 - (intOf i).toNat)
      case atStart => exact ⟨0, Nat.zero_le _, rfl, ⟨_, _, _, rfl, rfl, World.ownsRow_nil _ _ _ _⟩, Gr.refl _⟩
      case round =>
        obtain ⟨k, hk, rfl, ⟨A, m, c, rfl, hm, hown⟩, hgr⟩ := hrel
        have hmk : m ≤ k := by rw [hm]; exact relTo_len _ _ _
        have Hown := Lib.hid hown
        have Hm := Lib.hid hm
        have hsz := hgr.size
        clear hown hm
        by_cases hlt : k < n3
        · have hgx := hgw.trans hgr
          have d0 := hgr.has b0
          have d1 := hgr.has b1
          have t1 : (k : Int) < (n3 : Int) := by omega
          have t0 : (0 : Int) ≤ (k : Int) := by omega
          by_cases hin : (k : Int) ∈ s
          · have tin : decide ((k : Int) ∈ s) = true := by simp [hin]
            have Hst := Lib.hid (re_in (p := confB n l) hin)
            have Htin := Lib.hid tin
            clear hin tin
            go_wp2_with fail
            refine wp_region_text (fun w' => Gr wr w') (by kernel_rfl) (by kernel_rfl) (by decide) (Gr.refl _).drew ?_
            repeat (first
            | ((with_reducible refine wpText_skip ?_ ?_)
               · rfl
               simp only [Act.put, List.setIfInBounds_toArray, List.set_cons_zero, List.set_cons_succ])
            | ((with_reducible refine wpText_yield (v := ?_) ?_ ?_ ?_)
               rotate_left
               · rfl
               · intro W hW; first | (go_simp; done) | (go_simp; with_reducible rfl)
               simp only [Act.put, List.setIfInBounds_toArray, List.set_cons_zero, List.set_cons_succ])
            | ((with_reducible refine wpText_yield1 (v := ?_) ?_ ?_ ?_)
               rotate_left
               · rfl
               · intro W hW; first | (go_simp; done) | (go_simp; with_reducible rfl)
               simp only [Act.put, List.setIfInBounds_toArray, List.set_cons_zero, List.set_cons_succ]))
            refine wpText_do (.bool true) (by rfl) (fun W hW K hK => ?_) ?_
            · go_simp
              refine (containsInt_any s (k : Int) _ (HS.out.gr (hgx.trans hW))).mono ?_
              rintro e w' ⟨rfl, rfl⟩
              rw [Htin.out]
              exact hK _ hW
            simp only [Act.put, List.setIfInBounds_toArray, List.set_cons_zero, List.set_cons_succ]
            repeat (first
            | ((with_reducible refine wpText_skip ?_ ?_)
               · rfl
               simp only [Act.put, List.setIfInBounds_toArray, List.set_cons_zero, List.set_cons_succ])
            | ((with_reducible refine wpText_yield (v := ?_) ?_ ?_ ?_)
               rotate_left
               · rfl
               · intro W hW; first | (go_simp; done) | (go_simp; with_reducible rfl)
               simp only [Act.put, List.setIfInBounds_toArray, List.set_cons_zero, List.set_cons_succ])
            | ((with_reducible refine wpText_yield1 (v := ?_) ?_ ?_ ?_)
               rotate_left
               · rfl
               · intro W hW; first | (go_simp; done) | (go_simp; with_reducible rfl)
               simp only [Act.put, List.setIfInBounds_toArray, List.set_cons_zero, List.set_cons_succ]))
            intro w6 hS6
            go_wp2_with fail
            go_roundw
            case rel => exact ⟨k + 1, by omega, by go_num, ⟨_, _, _, rfl, by rw [Hst.out]; exact Hm.out, by rw [Hst.out]; exact own_gr Hown.out hS6⟩, hgr.trans hS6⟩
            case measure => simp [intOf]; omega
          · have tin : decide ((k : Int) ∈ s) = false := by simp [hin]
            have Hnd : Hid (Nd l.length (s ++ [(k : Int)])) := Lib.hid (Hs.out.snoc hin (by omega) (by rw [Hl3.out]; omega))
            have h44 : n4 + 1 ≤ 1048576 := by have h1 := Hnd.out.len; have h2 := Hl3.out; have h3 := Hl4.out; simp at h1; omega
            have Hin := Lib.hid hin
            clear hin
            have hlit : (wr.alloc (.cells #[.int .i64 (k : Int)] 2)).cell? ⟨wr.heap.size, 0, none⟩ = some (.int .i64 (k : Int)) := by simp [go_sem]
            go_wp2_with fail
            go_region_held3 (fun w' => Gr wr w' ∧ w'.cell? ⟨w.heap.size, 0, none⟩ = some (.slice A1 n1 c1) ∧ w'.cell? ⟨w.heap.size, 1, none⟩ = some (.slice A2 n2 c2))
              (first | exact ⟨(Gr.refl _).drew, d0, d1⟩ | exact ⟨((Gr.refl _).alloc _).drew, ((Gr.refl _).alloc _).has d0, ((Gr.refl _).alloc _).has d1⟩ | exact ⟨by assumption, (by assumption : Gr wr _).has d0, (by assumption : Gr wr _).has d1⟩ | exact ⟨Gr.alloc (by assumption) _, (Gr.alloc (by assumption : Gr wr _) _).has d0, (Gr.alloc (by assumption : Gr wr _) _).has d1⟩)
              (first
                | (go_at_call 123; refine (containsInt_any s (k : Int) _ (HS.out.gr (by first | exact hgx.drew | exact (hgx.alloc _).drew))).mono ?_; rintro e w' ⟨rfl, rfl⟩; rw [tin])
                | (go_at_call 116; refine (cloneInt_any (ints s) _ hm4 (HS.out.gr (by first | exact hgx.drew | exact (hgx.alloc _).drew)).sl (ints_one s)).mono ?_; rintro e w5 ⟨A', c', rfl, ho, hg5⟩; have Ho := Lib.hid (own_base ho (by simp : wr.heap.size ≤ _)); clear ho; have hx : Gr wr w5 := Gr.trans (by first | exact (Gr.refl _).drew | exact ((Gr.refl _).alloc _).drew) hg5; have hx5 := hx.size)
                | (refine step_append_g _ (by rfl) _ _ _ (by rfl) wr.heap.size 2 i0 _ 1 8 Try.underlying33 hi0 hz0 hz1 hz2 rfl (by omega) _ n4 _ (by rfl) (Ho.out.alloc _) ⟨w5.heap.size, 0, none⟩ 1 1 [.int .i64 (k : Int)] (by rfl) (by rfl) (news_one (by simp [go_sem])) (by simp [Value.oneCell']) (by omega) (by unfold maxLen; omega) (by omega) (by simp; omega) _ rfl ?_; intro g6 cap6 w6 ho6 hg6; have Ho6 := Lib.hid (own_cells_eq ho6 (ints_snoc s (k : Int)).symm); clear ho6; have hy : Gr wr w6 := (hx.alloc _).grown hg6 (fun j hj => own_base_le Ho.out hj))
                | (refine step_append_g _ (by rfl) _ _ _ (by rfl) wr.heap.size 2 i0 _ 1 8 Try.underlying33 hi0 hz0 hz1 hz2 rfl (by omega) _ n4 _ (by rfl) Ho.out ⟨wr.heap.size, 0, none⟩ 1 1 [.int .i64 (k : Int)] (by rfl) (by rfl) (news_one (hg5.has hlit)) (by simp [Value.oneCell']) (by omega) (by unfold maxLen; omega) (by omega) (by omega) _ rfl ?_; intro g6 cap6 w6 ho6 hg6; have Ho6 := Lib.hid (own_cells_eq ho6 (ints_snoc s (k : Int)).symm); clear ho6; have hy : Gr wr w6 := hx.grown hg6 (fun j hj => own_base_le Ho.out hj))
                | (go_at_call 113; refine (isConflict_any n l (s ++ [(k : Int)]) _ (HA.out.gr (hgx.trans hy)) (HL.out.gr (hgx.trans hy)) (SlAt.of_own Ho6.out h44) Hok1.out Hnd.out).mono ?_; rintro e w7 ⟨rfl, hg7⟩; have hz : Gr wr w7 := hy.trans hg7))
            all_goals
              clear hlit
              have hsz7 := (hgr.trans hz).size
              have Hown7 := Lib.hid (own_gr Hown.out hz)
              have hg9 : Gr w2 w7 := hgr.trans hz
              cases hf : confB n l (s ++ [(k : Int)]) with
              | true =>
                have Hst := Lib.hid (re_no hf)
                clear hf
                go_wp2_with fail
                go_roundw
                case rel => exact ⟨k + 1, by omega, by go_num, ⟨_, _, _, rfl, by rw [Hst.out]; exact Hm.out, by rw [Hst.out]; exact Hown7.out⟩, hg9⟩
                case measure => simp [intOf]; omega
              | false =>
                have Hst := Lib.hid (re_add Hin.out hf)
                clear hf
                go_wp2_with (at_builtin; refine wpList_append_own _ rfl _ _ _ rfl w2.heap.size 2 i0 _ 1 8 Try.underlying33 hi0 hz0 hz1 hz2 rfl (by omega) _ m _ rfl (Hown7.out.alloc _) ⟨w7.heap.size, 0, none⟩ 1 1 [.int .i64 (k : Int)] rfl rfl (World.news_of_block (cs := #[.int .i64 (k : Int)]) (t := 2) (fr := (0, 0)) (heap_alloc_new w7 _)) (by simp [Value.oneCell']) (by unfold maxLen; omega) (by omega) (by simp; omega) ?_; intro v' w8 hown8 hg8 _)
                obtain ⟨A8, c8, rfl⟩ := own_shape hown8
                have Ho8 := Lib.hid (own_cells_eq hown8 (ints_snoc (relTo (confB n l) s k) (k : Int)).symm)
                clear hown8
                go_wp2_with fail
                go_roundw
                case rel => exact ⟨k + 1, by omega, by go_num, ⟨_, _, _, rfl, by rw [Hst.out, List.length_append, ← Hm.out]; rfl, by rw [Hst.out]; exact Ho8.out⟩, (hg9.alloc _).grown hg8 (fun j hj => own_base_le Hown7.out hj)⟩
                case measure => simp [intOf]; omega
        · obtain rfl : k = n3 := by omega
          go_wp2_with fail
          go_ret2
          refine ⟨_, _, _, by rw [Hv.out.1]; rfl, by omega, ?_, hgw.trans hgr⟩
          rw [reRes, if_pos Hv.out.1, Hl3.out]
          exact own_base Hown.out hgw.size
  · have Hv := Lib.hid (cf_bad (n := n) (l := l) (s := s) hc)
    have Hne := Lib.hid hc
    have Hc := Lib.hid hc
    have tb : (csCode n l s != 0) = true := by simp [hc]
    have tc : (csCode n l s == 0) = false := by simp [hc]
    clear hc
    go_wp2_with fail
    go_ret2
    refine ⟨none, 0, 0, by rw [Hv.out.1]; rfl, by omega, ?_, hg0⟩
    rw [re_bad (by rw [Hv.out.1]; exact Hne.out)]
    exact World.ownsRow_nil _ _ _ _
set_option maxHeartbeats 4000000 in
set_option maxRecDepth 100000 in
theorem spRelievers_any {A1 A2 A3 A4 : Option Addr} {n1 c1 n2 c2 n3 c3 n4 c4 : Nat} (n : GNet) (l : List GTr) (s : List Int) (w : World) (hA : NetAt w A1 n1 c1 A2 n2 c2 n) (hL : SlAt w 4 A3 n3 c3 (l.flatMap GTr.cells)) (hS : SlAt w 1 A4 n4 c4 (ints s)) :
    Calls Try.prog 66 #[.agg #[.slice A1 n1 c1, .slice A2 n2 c2], .slice A3 n3 c3, .slice A4 n4 c4] w fun e w' => ∃ A m c, e = .returned (.tuple #[.slice A m c, .int .i64 (cfCode n l s)]) ∧ m ≤ 1048576 ∧ w'.ownsRow w.heap.size 2 1 (.slice A m c) m (ints (reRes n l s)) ∧ Gr w w' := by
  obtain ⟨i0, hi0, hz0, hz1, hz2⟩ := info_parts infoInt64
  have hm4 := hS.small
  have HA := Lib.hid hA
  have hm3 := hL.small
  have hl3 := hL.sl.len GTr.cells_len (by omega)
  have hl4 := hS.sl.ilen
  have HL := Lib.hid hL
  have HS := Lib.hid hS
  have Hl3 := Lib.hid hl3
  have Hl4 := Lib.hid hl4
  clear hA hL hS hl3 hl4
  go_enter Try.func66, Try.ntmps66
  go_wp2_with fail
  refine (l26Code_any n l s _ (HA.out.gr ((Gr.refl _).alloc _)) (HL.out.gr ((Gr.refl _).alloc _)) (HS.out.gr ((Gr.refl _).alloc _))).mono ?_
  rintro e w1 ⟨rfl, hg1⟩
  have hg0 : Gr w w1 := ((Gr.refl _).alloc _).trans hg1
  have b0 : w1.cell? ⟨w.heap.size, 0, none⟩ = some (.slice A1 n1 c1) := hg1.has (by simp [go_sem])
  have b1 : w1.cell? ⟨w.heap.size, 1, none⟩ = some (.slice A2 n2 c2) := hg1.has (by simp [go_sem])
  clear hg1
  by_cases hc : csCode n l s = 0
  · have Hc := Lib.hid hc
    have Hn := Lib.hid (trCode_zero (csCode_zero hc).1).1
    have Hok1 : Hid (trsOk n1 l = true) := Lib.hid (by rw [← HA.out.l1]; exact (trCode_zero (csCode_zero hc).1).2)
    have Hs := Lib.hid (setOk_nd (csCode_zero hc).2)
    have tb : (csCode n l s != 0) = false := by simp [hc]
    have tc : (csCode n l s == 0) = true := by simp [hc]
    clear hc
    go_wp2_with fail
    refine (l26Fit_any n l s _ (HA.out.gr hg0) (HL.out.gr hg0) (HS.out.gr hg0) Hok1.out Hs.out).mono ?_
    rintro e w2 ⟨rfl, hg2⟩
    have hgw := hg0.trans hg2
    replace b0 := hg2.has b0
    replace b1 := hg2.has b1
    cases hf : confB n l s with
    | false =>
      have Hv := Lib.hid (cf_no Hc.out hf)
      clear hf
      go_wp2_with fail
      go_ret2
      refine ⟨none, 0, 0, by rw [Hv.out.1]; rfl, by omega, ?_, hgw⟩
      rw [re_bad (by rw [Hv.out.1]; decide)]
      exact World.ownsRow_nil _ _ _ _
    | true =>
      have Hv := Lib.hid (cf_yes Hc.out hf)
      have hpos : 0 < n4 := by
        rcases Nat.eq_zero_or_pos n4 with h0 | h0
        · have h1 := Hl4.out
          rw [h0] at h1
          rw [List.eq_nil_of_length_eq_zero h1, confB_nil Hn.out l] at hf
          cases hf
        · exact h0
      obtain ⟨b4, o4, rfl, _⟩ := HS.out.sl.2 hpos
      have Hcells := Lib.hid (HS.out.sl.cells)
      have Hlen4 := Lib.hid HS.out.sl.1
      clear hf
      go_wp2_with fail
      go_loopw [9, 10] (fun o i wr => ∃ k : Nat, k ≤ n3 ∧ i = .int .i64 k ∧ (∃ A m c, o = .slice A m c ∧ m = (relTo (confB n l) s k).length ∧ wr.ownsRow w2.heap.size 2 1 (.slice A m c) m (ints (relTo (confB n l) s k))) ∧ Gr w2 wr) (fun _ i _ => n3 - (intOf i).toNat)
      case atStart => exact ⟨0, Nat.zero_le _, rfl, ⟨_, _, _, rfl, rfl, World.ownsRow_lit w2 #[] 0 (Nat.le_refl _) (by unfold maxLen; omega) rfl⟩, (Gr.refl _).alloc _⟩
      case round =>
        obtain ⟨k, hk, rfl, ⟨A, m, c, rfl, hm, hown⟩, hgr⟩ := hrel
        have hmk : m ≤ k := by rw [hm]; exact relTo_len _ _ _
        have Hown := Lib.hid hown
        have Hm := Lib.hid hm
        have hsz := hgr.size
        clear hown hm
        by_cases hlt : k < n3
        · have hgx := hgw.trans hgr
          have d0 := hgr.has b0
          have d1 := hgr.has b1
          have t1 : (k : Int) < (n3 : Int) := by omega
          have t0 : (0 : Int) ≤ (k : Int) := by omega
          by_cases hin : (k : Int) ∈ s
          · have tin : decide ((k : Int) ∈ s) = true := by simp [hin]
            have Hst := Lib.hid (re_in (p := confB n l) hin)
            have Htin := Lib.hid tin
            clear hin tin
            go_wp2_with fail
            refine wp_region_text (fun w' => Gr wr w') (by kernel_rfl) (by kernel_rfl) (by decide) (Gr.refl _).drew ?_
            repeat (first
            | ((with_reducible refine wpText_skip ?_ ?_)
               · rfl
               simp only [Act.put, List.setIfInBounds_toArray, List.set_cons_zero, List.set_cons_succ])
            | ((with_reducible refine wpText_yield (v := ?_) ?_ ?_ ?_)
               rotate_left
               · rfl
               · intro W hW; first | (go_simp; done) | (go_simp; with_reducible rfl)
               simp only [Act.put, List.setIfInBounds_toArray, List.set_cons_zero, List.set_cons_succ])
            | ((with_reducible refine wpText_yield1 (v := ?_) ?_ ?_ ?_)
               rotate_left
               · rfl
               · intro W hW; first | (go_simp; done) | (go_simp; with_reducible rfl)
               simp only [Act.put, List.setIfInBounds_toArray, List.set_cons_zero, List.set_cons_succ]))
            refine wpText_do (.bool true) (by rfl) (fun W hW K hK => ?_) ?_
            · go_simp
              refine (l02Has_any s (k : Int) _ (HS.out.gr (hgx.trans hW))).mono ?_
              rintro e w' ⟨rfl, rfl⟩
              rw [Htin.out]
              exact hK _ hW
            simp only [Act.put, List.setIfInBounds_toArray, List.set_cons_zero, List.set_cons_succ]
            repeat (first
            | ((with_reducible refine wpText_skip ?_ ?_)
               · rfl
               simp only [Act.put, List.setIfInBounds_toArray, List.set_cons_zero, List.set_cons_succ])
            | ((with_reducible refine wpText_yield (v := ?_) ?_ ?_ ?_)
               rotate_left
               · rfl
               · intro W hW; first | (go_simp; done) | (go_simp; with_reducible rfl)
               simp only [Act.put, List.setIfInBounds_toArray, List.set_cons_zero, List.set_cons_succ])
            | ((with_reducible refine wpText_yield1 (v := ?_) ?_ ?_ ?_)
               rotate_left
               · rfl
               · intro W hW; first | (go_simp; done) | (go_simp; with_reducible rfl)
               simp only [Act.put, List.setIfInBounds_toArray, List.set_cons_zero, List.set_cons_succ]))
            intro w6 hS6
            go_wp2_with fail
            go_roundw
            case rel => exact ⟨k + 1, by omega, by go_num, ⟨_, _, _, rfl, by rw [Hst.out]; exact Hm.out, by rw [Hst.out]; exact own_gr Hown.out hS6⟩, hgr.trans hS6⟩
            case measure => simp [intOf]; omega
          · have tin : decide ((k : Int) ∈ s) = false := by simp [hin]
            have Hnd : Hid (Nd l.length (s ++ [(k : Int)])) := Lib.hid (Hs.out.snoc hin (by omega) (by rw [Hl3.out]; omega))
            have h44 : n4 + 1 ≤ 1048576 := by have h1 := Hnd.out.len; have h2 := Hl3.out; have h3 := Hl4.out; simp at h1; omega
            have Hin := Lib.hid hin
            clear hin
            have own0 : (wr.alloc (.cells #[] 2)).ownsRow wr.heap.size 2 1 (.slice (some ⟨wr.heap.size, 0, none⟩) 0 0) 0 [] := World.ownsRow_lit wr #[] 0 (Nat.le_refl _) (by unfold maxLen; omega) rfl
            have own1 : ((wr.alloc (.cells #[.int .i64 (k : Int)] 2)).alloc (.cells #[] 2)).ownsRow wr.heap.size 2 1 (.slice (some ⟨wr.heap.size + 1, 0, none⟩) 0 0) 0 [] := by
              have q := World.ownsRow_lit (wr.alloc (.cells #[.int .i64 (k : Int)] 2)) (e := 2) (size := 1) #[] 0 (Nat.le_refl _) (by unfold maxLen; omega) rfl
              rw [World.size_alloc] at q
              exact own_base q (by omega)
            have Own0 := Lib.hid own0
            have Own1 := Lib.hid own1
            have HcW : Hid (∀ j u, (ints s)[j]? = some u → wr.cell? ((⟨b4, o4, none⟩ : Addr).add j) = some u) := Lib.hid (fun j u hu => hgx.has (Hcells.out j u hu))
            clear own0 own1
            go_wp2_with fail
            go_region_held3 (fun w' => Gr wr w' ∧ w'.cell? ⟨w.heap.size, 0, none⟩ = some (.slice A1 n1 c1) ∧ w'.cell? ⟨w.heap.size, 1, none⟩ = some (.slice A2 n2 c2))
              (first | exact ⟨(Gr.refl _).drew, d0, d1⟩ | exact ⟨((Gr.refl _).alloc _).drew, ((Gr.refl _).alloc _).has d0, ((Gr.refl _).alloc _).has d1⟩ | exact ⟨(((Gr.refl _).alloc _).alloc _).drew, (((Gr.refl _).alloc _).alloc _).has d0, (((Gr.refl _).alloc _).alloc _).has d1⟩ | exact ⟨by assumption, (by assumption : Gr wr _).has d0, (by assumption : Gr wr _).has d1⟩ | exact ⟨Gr.alloc (by assumption) _, (Gr.alloc (by assumption : Gr wr _) _).has d0, (Gr.alloc (by assumption : Gr wr _) _).has d1⟩)
              (first
                | (go_at_call 124; refine (l02Has_any s (k : Int) _ (HS.out.gr (by first | exact hgx.drew | exact (hgx.alloc _).drew))).mono ?_; rintro e w' ⟨rfl, rfl⟩; rw [tin])
                | (refine step_append_g _ (by rfl) _ _ _ (by rfl) wr.heap.size 2 i0 _ 1 8 Try.underlying33 hi0 hz0 hz1 hz2 rfl (by omega) _ n4 _ (by rfl) (Ho.out.alloc _) ⟨w5.heap.size, 0, none⟩ 1 1 [.int .i64 (k : Int)] (by rfl) (by rfl) (news_one (by simp [go_sem])) (by simp [Value.oneCell']) (by omega) (by unfold maxLen; omega) (by omega) (by simp; omega) _ rfl ?_; intro g6 cap6 w6 ho6 hg6; have Ho6 := Lib.hid (own_cells_eq ho6 (ints_snoc s (k : Int)).symm); clear ho6; have hy : Gr wr w6 := (hx.alloc _).grown hg6 (fun j hj => own_base_le Ho.out hj))
                | (refine step_append_g _ (by rfl) _ _ _ (by rfl) wr.heap.size 2 i0 _ 1 8 Try.underlying33 hi0 hz0 hz1 hz2 rfl (by omega) _ n4 _ (by rfl) Ho.out ⟨wr.heap.size + 1, 0, none⟩ 1 1 [.int .i64 (k : Int)] (by rfl) (by rfl) (news_one hl1) (by simp [Value.oneCell']) (by omega) (by unfold maxLen; omega) (by omega) (by omega) _ rfl ?_; intro g6 cap6 w6 ho6 hg6; have Ho6 := Lib.hid (own_cells_eq ho6 (ints_snoc s (k : Int)).symm); clear ho6; have hy : Gr wr w6 := hx.grown hg6 (fun j hj => own_base_le Ho.out hj))
                | (refine step_append_g _ (by rfl) _ _ _ (by rfl) wr.heap.size 2 i0 _ 1 8 Try.underlying33 hi0 hz0 hz1 hz2 rfl (by omega) _ n4 _ (by rfl) Ho.out ⟨wr.heap.size, 0, none⟩ 1 1 [.int .i64 (k : Int)] (by rfl) (by rfl) (news_one hl1) (by simp [Value.oneCell']) (by omega) (by unfold maxLen; omega) (by omega) (by omega) _ rfl ?_; intro g6 cap6 w6 ho6 hg6; have Ho6 := Lib.hid (own_cells_eq ho6 (ints_snoc s (k : Int)).symm); clear ho6; have hy : Gr wr w6 := hx.grown hg6 (fun j hj => own_base_le Ho.out hj))
                | (refine step_append_g _ (by rfl) _ _ _ (by rfl) wr.heap.size 2 i0 _ 1 8 Try.underlying33 hi0 hz0 hz1 hz2 rfl (by omega) _ 0 [] (by rfl) Own0.out.drew ⟨b4, o4, none⟩ n4 c4 (ints s) (by rfl) Hlen4.out (fun j u hu => ((Gr.refl wr).alloc _).has (HcW.out j u hu)) (ints_one s) hpos (by unfold maxLen; omega) (by omega) (by simp) n4 (Nat.zero_add n4) ?_; intro g5 cap5 w5 ho5 hg5; rw [List.nil_append] at ho5; have Ho := Lib.hid ho5; clear ho5; have hx : Gr wr w5 := (((Gr.refl wr).alloc _).drew).grown hg5 (fun j hj => by injection hj with hj; exact Nat.le_of_eq hj); have hx5 := hx.size)
                | (refine step_append_g _ (by rfl) _ _ _ (by rfl) wr.heap.size 2 i0 _ 1 8 Try.underlying33 hi0 hz0 hz1 hz2 rfl (by omega) _ 0 [] (by rfl) (Own0.out.alloc _).drew ⟨b4, o4, none⟩ n4 c4 (ints s) (by rfl) Hlen4.out (fun j u hu => (((Gr.refl wr).alloc _).alloc _).has (HcW.out j u hu)) (ints_one s) hpos (by unfold maxLen; omega) (by omega) (by simp; omega) n4 (Nat.zero_add n4) ?_; intro g5 cap5 w5 ho5 hg5; rw [List.nil_append] at ho5; have Ho := Lib.hid ho5; clear ho5; have hl1 : w5.cell? ⟨wr.heap.size + 1, 0, none⟩ = some (.int .i64 (k : Int)) := hg5.cell (by simp [go_sem]) (by simp [Value.ownBlock]); have hx : Gr wr w5 := ((((Gr.refl wr).alloc _).alloc _).drew).grown hg5 (fun j hj => by injection hj with hj; exact Nat.le_of_eq hj); have hx5 := hx.size)
                | (refine step_append_g _ (by rfl) _ _ _ (by rfl) wr.heap.size 2 i0 _ 1 8 Try.underlying33 hi0 hz0 hz1 hz2 rfl (by omega) _ 0 [] (by rfl) Own1.out.drew ⟨b4, o4, none⟩ n4 c4 (ints s) (by rfl) Hlen4.out (fun j u hu => (((Gr.refl wr).alloc _).alloc _).has (HcW.out j u hu)) (ints_one s) hpos (by unfold maxLen; omega) (by omega) (by simp; omega) n4 (Nat.zero_add n4) ?_; intro g5 cap5 w5 ho5 hg5; rw [List.nil_append] at ho5; have Ho := Lib.hid ho5; clear ho5; have hl1 : w5.cell? ⟨wr.heap.size, 0, none⟩ = some (.int .i64 (k : Int)) := hg5.cell (by simp [go_sem]) (by simp [Value.ownBlock]); have hx : Gr wr w5 := ((((Gr.refl wr).alloc _).alloc _).drew).grown hg5 (fun j hj => by injection hj with hj; exact Nat.le_trans (Nat.le_succ _) (Nat.le_of_eq hj)); have hx5 := hx.size)
                | (go_at_call 117; refine (l26Fit_any n l (s ++ [(k : Int)]) _ (HA.out.gr (hgx.trans hy)) (HL.out.gr (hgx.trans hy)) (SlAt.of_own Ho6.out (by omega)) Hok1.out Hnd.out).mono ?_; rintro e w7 ⟨rfl, hg7⟩; have hz : Gr wr w7 := hy.trans hg7))
            all_goals
              have hsz7 := (hgr.trans hz).size
              have Hown7 := Lib.hid (own_gr Hown.out hz)
              have hg9 : Gr w2 w7 := hgr.trans hz
              cases hf : confB n l (s ++ [(k : Int)]) with
              | true =>
                have Hst := Lib.hid (re_no hf)
                clear hf
                go_wp2_with fail
                go_roundw
                case rel => exact ⟨k + 1, by omega, by go_num, ⟨_, _, _, rfl, by rw [Hst.out]; exact Hm.out, by rw [Hst.out]; exact Hown7.out⟩, hg9⟩
                case measure => simp [intOf]; omega
              | false =>
                have Hst := Lib.hid (re_add Hin.out hf)
                clear hf
                go_wp2_with (at_builtin; refine wpList_append_own _ rfl _ _ _ rfl w2.heap.size 2 i0 _ 1 8 Try.underlying33 hi0 hz0 hz1 hz2 rfl (by omega) _ m _ rfl (Hown7.out.alloc _) ⟨w7.heap.size, 0, none⟩ 1 1 [.int .i64 (k : Int)] rfl rfl (World.news_of_block (cs := #[.int .i64 (k : Int)]) (t := 2) (fr := (0, 0)) (heap_alloc_new w7 _)) (by simp [Value.oneCell']) (by unfold maxLen; omega) (by omega) (by simp; omega) ?_; intro v' w8 hown8 hg8 _)
                obtain ⟨A8, c8, rfl⟩ := own_shape hown8
                have Ho8 := Lib.hid (own_cells_eq hown8 (ints_snoc (relTo (confB n l) s k) (k : Int)).symm)
                clear hown8
                go_wp2_with fail
                go_roundw
                case rel => exact ⟨k + 1, by omega, by go_num, ⟨_, _, _, rfl, by rw [Hst.out, List.length_append, ← Hm.out]; rfl, by rw [Hst.out]; exact Ho8.out⟩, (hg9.alloc _).grown hg8 (fun j hj => own_base_le Hown7.out hj)⟩
                case measure => simp [intOf]; omega
        · obtain rfl : k = n3 := by omega
          go_wp2_with fail
          go_ret2
          refine ⟨_, _, _, by rw [Hv.out.1]; rfl, by omega, ?_, hgw.trans hgr⟩
          rw [reRes, if_pos Hv.out.1, Hl3.out]
          exact own_base Hown.out hgw.size
  · have Hv := Lib.hid (cf_bad (n := n) (l := l) (s := s) hc)
    have Hne := Lib.hid hc
    have Hc := Lib.hid hc
    have tb : (csCode n l s != 0) = true := by simp [hc]
    have tc : (csCode n l s == 0) = false := by simp [hc]
    clear hc
    go_wp2_with fail
    go_ret2
    refine ⟨none, 0, 0, by rw [Hv.out.1]; rfl, by omega, ?_, hg0⟩
    rw [re_bad (by rw [Hv.out.1]; exact Hne.out)]
    exact World.ownsRow_nil _ _ _ _
end Go.Proofs.Ytejfpajbkgfiaaa
