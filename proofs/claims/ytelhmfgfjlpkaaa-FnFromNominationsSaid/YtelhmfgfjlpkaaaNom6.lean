/-
  Transports of nominations, both sides. Printed by gen_nom5.py.
-/
import Derived.Test.YtelhmfgfjlpkaaaNom5
import Derived.Deep.RegionHeld3
import Derived.Deep.CutRange
set_option linter.unusedSimpArgs false
set_option linter.unusedVariables false
namespace Go.Proofs.Ytelhmfgfjlpkaaa
open Go.ChangeShapes Go.WideShapes Go.ChangeAt Go.RowKit

set_option maxHeartbeats 6400000 in
set_option maxRecDepth 100000 in
theorem FromNominations0_any {A1 A2 A3 A4 : Option Addr} {n1 c1 n2 c2 n3 c3 n4 c4 : Nat} (n : GNet) (bk : List GCon) (l : List GNom) (h : Int) (w : World) (hA : NetAt w A1 n1 c1 A2 n2 c2 n) (hB : SlAt w 8 A3 n3 c3 (bk.flatMap GCon.cells)) (hL : SlAt w 4 A4 n4 c4 (l.flatMap GNom.cells)) :
    Calls Try.prog 8 #[.agg #[.slice A1 n1 c1, .slice A2 n2 c2], .slice A3 n3 c3, .slice A4 n4 c4, .int .i64 h] w fun e w' => ∃ A m c, e = .returned (.tuple #[.slice A m c, .int .i64 (amCode n bk l h)]) ∧ m ≤ 1048576 ∧ w'.ownsRow w.heap.size 63 4 (.slice A m c) m ((fnRes n bk l h).flatMap GTr.cells) ∧ Gr w w' := by
  obtain ⟨i0, hi0, hz0, hz1, hz2⟩ := info_parts infoTransport
  have hm3 := hB.small
  have hl3 := hB.sl.len GCon.cells_len (by omega)
  have Hl3 := Lib.hid hl3
  have HA := Lib.hid hA
  have HB := Lib.hid hB
  have HL := Lib.hid hL
  clear hA hB hL hl3
  go_enter Try.func8, Try.ntmps8
  go_wp2_with fail
  refine (AmountsIn_any n bk l h _ (HA.out.gr ((Gr.refl _).alloc _)) (HB.out.gr ((Gr.refl _).alloc _)) (HL.out.gr ((Gr.refl _).alloc _))).mono ?_
  rintro e w1 ⟨A5, n5, c5, rfl, hm5, ho5, hg1⟩
  have hg0 : Gr w w1 := ((Gr.refl _).alloc _).trans hg1
  have Ho5 := Lib.hid ho5
  clear hg1 ho5
  by_cases hc : amCode n bk l h = 0
  case neg =>
    have Hc := Lib.hid hc
    have tb : (amCode n bk l h != 0) = true := by simp [hc]
    clear hc
    go_wp2_with fail
    go_ret2
    refine ⟨none, 0, 0, rfl, by omega, ?_, hg0⟩
    rw [fn_bad Hc.out]
    exact World.ownsRow_nil _ _ _ _
  have Hc := Lib.hid hc
  have tb : (amCode n bk l h != 0) = false := by simp [hc]
  have ear : amRes n bk l h = amL bk l h := by rw [amRes, if_pos hc]
  have hS := SlAt.of_own Ho5.out hm5
  rw [ear] at hS
  have hl5 : n5 = n3 := by rw [← hS.sl.ilen, amL, amTo_len]; exact Hl3.out
  have HS := Lib.hid hS
  clear hc ear hS Ho5
  subst hl5
  go_wp2_with fail
  go_loopw [12, 28] (fun o i wr => ∃ k : Nat, k ≤ n5 ∧ i = .int .i64 k ∧ (∃ A c, o = .slice A k c) ∧ wr.ownsRow w1.heap.size 63 4 o k ((fnTo bk (amL bk l h) k).flatMap GTr.cells) ∧ Gr w1 wr) (fun _ i _ => n5 - (intOf i).toNat)
  case atStart => exact ⟨0, Nat.zero_le _, rfl, ⟨_, _, rfl⟩, World.ownsRow_nil _ _ _ _, Gr.refl _⟩
  case round =>
    obtain ⟨k, hk, rfl, ⟨A1', c1', rfl⟩, hownr, hgr⟩ := hrel
    have Hown := Lib.hid hownr
    clear hownr
    by_cases hlt : k < n5
    · obtain ⟨y, hy⟩ : ∃ y, bk[k]? = some y := ⟨_, List.getElem?_eq_getElem (by have := Hl3.out; omega)⟩
      have hgy : bk.getD k GCon.d0 = y := by rw [List.getD_eq_getElem?_getD, hy]; rfl
      obtain ⟨b, o, hAA, hb, e0, e1, e2, e3, e4, e5, e6, e7⟩ := HB.out.sl.con hy
      replace e0 := (hg0.trans hgr).has e0
      replace e1 := (hg0.trans hgr).has e1
      replace e2 := (hg0.trans hgr).has e2
      replace e3 := (hg0.trans hgr).has e3
      replace e4 := (hg0.trans hgr).has e4
      replace e5 := (hg0.trans hgr).has e5
      replace e6 := (hg0.trans hgr).has e6
      replace e7 := (hg0.trans hgr).has e7
      have hga := get_of_lt (l := amL bk l h) (k := k) (by rw [amL, amTo_len]; have := Hl3.out; omega)
      obtain ⟨a, ha⟩ : ∃ a, a = (amL bk l h).getD k 0 := ⟨_, rfl⟩
      rw [← ha] at hga
      obtain ⟨b4, o4, rfl, hb4, r0⟩ := HS.out.sl.int hga
      replace r0 := hgr.has r0
      subst hAA
      have hst := fnTo_succ bk (amL bk l h) k
      have hfa : fnAt bk (amL bk l h) k = ⟨y.entry, y.exit, a, y.cls⟩ := by rw [fnAt, hgy, ha]
      rw [hfa] at hst
      have Hst := Lib.hid hst
      have hbase := hg0.size
      have hbase2 := hgr.size
      have t1 : (k : Int) < (n5 : Int) := by omega
      have t0 : (0 : Int) ≤ (k : Int) := by omega
      clear hy hgy hga ha hst hfa
      go_upto_region 8 with fail
      obtain ⟨w4, hw4⟩ : ∃ W, W = wr.alloc (.cells #[.int .i64 y.shipper, .int .i64 y.entry, .int .i64 y.exit, .int .i64 y.amount, .int .i64 y.cls, .int .i64 y.src, .int .i64 y.dst, .int .i64 y.price] 61) := ⟨_, rfl⟩
      have hg4 : Gr wr w4 := by rw [hw4]; exact (Gr.refl _).alloc _
      have hN : w4.heap.size = wr.heap.size + 1 := by rw [hw4]; simp
      have z1 : w4.cell? ⟨wr.heap.size, 1, none⟩ = some (.int .i64 y.entry) := by rw [hw4]; simp [go_sem]
      have z2 : w4.cell? ⟨wr.heap.size, 2, none⟩ = some (.int .i64 y.exit) := by rw [hw4]; simp [go_sem]
      have z4 : w4.cell? ⟨wr.heap.size, 4, none⟩ = some (.int .i64 y.cls) := by rw [hw4]; simp [go_sem]
      have q0 := hg4.has r0
      rw [← hw4]
      have hgr4 := hgr.trans hg4
      have Ho1 := Lib.hid (own_gr Hown.out hg4)
      clear hw4 e0 e1 e2 e3 e4 e5 e6 e7 r0
      have hnew : ∀ o : Obj, (w4.alloc o).heap[wr.heap.size + 1]? = some o := fun o => by rw [← hN]; exact heap_alloc_new w4 o
      have hfar : ∀ j, (Value.slice A1' k c1').ownBlock = some j → j ≠ wr.heap.size ∧ j ≠ b4 := by
        intro j hj
        have e1 := own_base_le Hown.out hj
        have e2 := own_block_lt Hown.out hj
        omega
      go_wp2_with fail
      go_region_held3 (fun w' => w'.cell? ⟨wr.heap.size, 1, none⟩ = some (.int .i64 y.entry) ∧ w'.cell? ⟨wr.heap.size, 2, none⟩ = some (.int .i64 y.exit) ∧ w'.cell? ⟨wr.heap.size, 4, none⟩ = some (.int .i64 y.cls) ∧ w'.cell? ⟨b4, o4 + k, none⟩ = some (.int .i64 a))
        (first
          | go_keep
          | (go_split_ands
             refine ⟨?_, ?_, ?_, ?_⟩
             · (rw [hgrow.cell_far _ (by simp; omega) (fun e => (hfar _ e.symm).1 rfl)]; assumption)
             · (rw [hgrow.cell_far _ (by simp; omega) (fun e => (hfar _ e.symm).1 rfl)]; assumption)
             · (rw [hgrow.cell_far _ (by simp; omega) (fun e => (hfar _ e.symm).1 rfl)]; assumption)
             · (rw [hgrow.cell_far _ (by simp; omega) (fun e => (hfar _ e.symm).2 rfl)]; assumption)))
        ((refine step_append_lies _ (by rfl) _ _ _ (by rfl) w1.heap.size 63 i0 _ 4 32 Try.underlying32 hi0 hz0 hz1 hz2 rfl (by omega) _ k _ (by rfl) ((Ho1.out.alloc _).drew) ⟨wr.heap.size + 1, 0, none⟩ 1 1 [.int .i64 y.entry, .int .i64 y.exit, .int .i64 a, .int .i64 y.cls] (by rfl) (by rfl) (World.news_of_block (cs := #[.int .i64 y.entry, .int .i64 y.exit, .int .i64 a, .int .i64 y.cls]) (t := 63) (fr := (0, 0)) (hnew _)) (by simp [Value.oneCell']) (by omega) (by unfold maxLen; omega) (by omega) (by simp; omega) (wr.heap.size + 1 + 1) (by simp [hN]) ?_; intro gg cap w2 hown1 hgrow hat hlt2))
      clear hfar
      have Ho2 := Lib.hid hown1
      clear hown1
      go_wp2_with fail
      go_roundw
      case rel =>
        refine ⟨k + 1, by omega, by go_num, ⟨_, _, rfl⟩, ?_, ?_⟩
        · rw [Hst.out, flat_snoc]; exact Ho2.out
        · exact ((hgr4.alloc _).drew).grown hgrow (fun j hj => own_base_le Hown.out hj)
      case measure => simp [intOf]; omega
    · obtain rfl : k = n5 := by omega
      have Hownr := Lib.hid Hown.out
      go_wp2_with fail
      go_ret2
      refine ⟨_, k, _, by rw [Hc.out]; rfl, hm3, ?_, hg0.trans hgr⟩
      have h := Hownr.out
      rw [fn_good Hc.out, Hl3.out]
      exact own_base h hg0.size
set_option maxHeartbeats 6400000 in
set_option maxRecDepth 100000 in
theorem spFromNominations0_any {A1 A2 A3 A4 : Option Addr} {n1 c1 n2 c2 n3 c3 n4 c4 : Nat} (n : GNet) (bk : List GCon) (l : List GNom) (h : Int) (w : World) (hA : NetAt w A1 n1 c1 A2 n2 c2 n) (hB : SlAt w 8 A3 n3 c3 (bk.flatMap GCon.cells)) (hL : SlAt w 4 A4 n4 c4 (l.flatMap GNom.cells)) :
    Calls Try.prog 9 #[.agg #[.slice A1 n1 c1, .slice A2 n2 c2], .slice A3 n3 c3, .slice A4 n4 c4, .int .i64 h] w fun e w' => ∃ A m c, e = .returned (.tuple #[.slice A m c, .int .i64 (amCode n bk l h)]) ∧ m ≤ 1048576 ∧ w'.ownsRow w.heap.size 63 4 (.slice A m c) m ((fnRes n bk l h).flatMap GTr.cells) ∧ Gr w w' := by
  obtain ⟨i0, hi0, hz0, hz1, hz2⟩ := info_parts infoTransport
  have hm3 := hB.small
  have hl3 := hB.sl.len GCon.cells_len (by omega)
  have Hl3 := Lib.hid hl3
  have HA := Lib.hid hA
  have HB := Lib.hid hB
  have HL := Lib.hid hL
  clear hA hB hL hl3
  go_enter Try.func9, Try.ntmps9
  go_wp2_with fail
  refine (spAmountsIn_any n bk l h _ (HA.out.gr ((Gr.refl _).alloc _)) (HB.out.gr ((Gr.refl _).alloc _)) (HL.out.gr ((Gr.refl _).alloc _))).mono ?_
  rintro e w1 ⟨A5, n5, c5, rfl, hm5, ho5, hg1⟩
  have hg0 : Gr w w1 := ((Gr.refl _).alloc _).trans hg1
  have Ho5 := Lib.hid ho5
  clear hg1 ho5
  by_cases hc : amCode n bk l h = 0
  case neg =>
    have Hc := Lib.hid hc
    have tb : (amCode n bk l h != 0) = true := by simp [hc]
    clear hc
    go_wp2_with fail
    go_ret2
    refine ⟨none, 0, 0, rfl, by omega, ?_, hg0⟩
    rw [fn_bad Hc.out]
    exact World.ownsRow_nil _ _ _ _
  have Hc := Lib.hid hc
  have tb : (amCode n bk l h != 0) = false := by simp [hc]
  have ear : amRes n bk l h = amL bk l h := by rw [amRes, if_pos hc]
  have hS := SlAt.of_own Ho5.out hm5
  rw [ear] at hS
  have hl5 : n5 = n3 := by rw [← hS.sl.ilen, amL, amTo_len]; exact Hl3.out
  have HS := Lib.hid hS
  clear hc ear hS Ho5
  subst hl5
  go_wp2_with fail
  go_loopw [12, 13] (fun o i wr => ∃ k : Nat, k ≤ n5 ∧ i = .int .i64 k ∧ (∃ A c, o = .slice A k c) ∧ wr.ownsRow w1.heap.size 63 4 o k ((fnTo bk (amL bk l h) k).flatMap GTr.cells) ∧ Gr w1 wr) (fun _ i _ => n5 - (intOf i).toNat)
  case atStart => exact ⟨0, Nat.zero_le _, rfl, ⟨_, _, rfl⟩, World.ownsRow_lit _ #[] 0 (Nat.le_refl _) (by unfold maxLen; omega) rfl, (Gr.refl _).alloc _⟩
  case round =>
    obtain ⟨k, hk, rfl, ⟨A1', c1', rfl⟩, hownr, hgr⟩ := hrel
    have Hown := Lib.hid hownr
    clear hownr
    by_cases hlt : k < n5
    · obtain ⟨y, hy⟩ : ∃ y, bk[k]? = some y := ⟨_, List.getElem?_eq_getElem (by have := Hl3.out; omega)⟩
      have hgy : bk.getD k GCon.d0 = y := by rw [List.getD_eq_getElem?_getD, hy]; rfl
      obtain ⟨b, o, hAA, hb, e0, e1, e2, e3, e4, e5, e6, e7⟩ := HB.out.sl.con hy
      replace e0 := (hg0.trans hgr).has e0
      replace e1 := (hg0.trans hgr).has e1
      replace e2 := (hg0.trans hgr).has e2
      replace e3 := (hg0.trans hgr).has e3
      replace e4 := (hg0.trans hgr).has e4
      replace e5 := (hg0.trans hgr).has e5
      replace e6 := (hg0.trans hgr).has e6
      replace e7 := (hg0.trans hgr).has e7
      have hga := get_of_lt (l := amL bk l h) (k := k) (by rw [amL, amTo_len]; have := Hl3.out; omega)
      obtain ⟨a, ha⟩ : ∃ a, a = (amL bk l h).getD k 0 := ⟨_, rfl⟩
      rw [← ha] at hga
      obtain ⟨b4, o4, rfl, hb4, r0⟩ := HS.out.sl.int hga
      replace r0 := hgr.has r0
      subst hAA
      have hst := fnTo_succ bk (amL bk l h) k
      have hfa : fnAt bk (amL bk l h) k = ⟨y.entry, y.exit, a, y.cls⟩ := by rw [fnAt, hgy, ha]
      rw [hfa] at hst
      have Hst := Lib.hid hst
      have hbase := hg0.size
      have hbase2 := hgr.size
      have t1 : (k : Int) < (n5 : Int) := by omega
      have t0 : (0 : Int) ≤ (k : Int) := by omega
      clear hy hgy hga ha hst hfa
      obtain ⟨w4, hw4⟩ : ∃ W, W = wr := ⟨_, rfl⟩
      have hN : w4.heap.size = wr.heap.size := by rw [hw4]
      have z1 := e1
      have z2 := e2
      have z4 := e4
      have q0 := r0
      have hgr4 := hgr
      have Ho1 := Lib.hid Hown.out
      clear e0 e1 e2 e3 e4 e5 e6 e7 r0
      rw [← hw4] at z1 z2 z4 q0 hgr4 Ho1 ⊢
      clear hw4
      have hnew : ∀ o : Obj, (w4.alloc o).heap[wr.heap.size]? = some o := fun o => by rw [← hN]; exact heap_alloc_new w4 o
      have hfar : ∀ j, (Value.slice A1' k c1').ownBlock = some j → j ≠ b ∧ j ≠ b4 := by
        intro j hj
        have e1 := own_base_le Hown.out hj
        have e2 := own_block_lt Hown.out hj
        omega
      go_wp2_with fail
      go_region_held3 (fun w' => w'.cell? ⟨b, o + k * 8 + 1, none⟩ = some (.int .i64 y.entry) ∧ w'.cell? ⟨b, o + k * 8 + 2, none⟩ = some (.int .i64 y.exit) ∧ w'.cell? ⟨b, o + k * 8 + 4, none⟩ = some (.int .i64 y.cls) ∧ w'.cell? ⟨b4, o4 + k, none⟩ = some (.int .i64 a))
        (first
          | go_keep
          | (go_split_ands
             refine ⟨?_, ?_, ?_, ?_⟩
             · (rw [hgrow.cell_far _ (by simp; omega) (fun e => (hfar _ e.symm).1 rfl)]; assumption)
             · (rw [hgrow.cell_far _ (by simp; omega) (fun e => (hfar _ e.symm).1 rfl)]; assumption)
             · (rw [hgrow.cell_far _ (by simp; omega) (fun e => (hfar _ e.symm).1 rfl)]; assumption)
             · (rw [hgrow.cell_far _ (by simp; omega) (fun e => (hfar _ e.symm).2 rfl)]; assumption)))
        ((refine step_append_lies _ (by rfl) _ _ _ (by rfl) w1.heap.size 63 i0 _ 4 32 Try.underlying32 hi0 hz0 hz1 hz2 rfl (by omega) _ k _ (by rfl) ((Ho1.out.alloc _).drew) ⟨wr.heap.size, 0, none⟩ 1 1 [.int .i64 y.entry, .int .i64 y.exit, .int .i64 a, .int .i64 y.cls] (by rfl) (by rfl) (World.news_of_block (cs := #[.int .i64 y.entry, .int .i64 y.exit, .int .i64 a, .int .i64 y.cls]) (t := 63) (fr := (0, 0)) (hnew _)) (by simp [Value.oneCell']) (by omega) (by unfold maxLen; omega) (by omega) (by simp; omega) (wr.heap.size + 1) (by simp [hN]) ?_; intro gg cap w2 hown1 hgrow hat hlt2))
      clear hfar
      have Ho2 := Lib.hid hown1
      clear hown1
      go_wp2_with fail
      go_roundw
      case rel =>
        refine ⟨k + 1, by omega, by go_num, ⟨_, _, rfl⟩, ?_, ?_⟩
        · rw [Hst.out, flat_snoc]; exact Ho2.out
        · exact ((hgr4.alloc _).drew).grown hgrow (fun j hj => own_base_le Hown.out hj)
      case measure => simp [intOf]; omega
    · obtain rfl : k = n5 := by omega
      have Hownr := Lib.hid Hown.out
      go_wp2_with fail
      go_ret2
      refine ⟨_, k, _, by rw [Hc.out]; rfl, hm3, ?_, hg0.trans hgr⟩
      have h := Hownr.out
      rw [fn_good Hc.out, Hl3.out]
      exact own_base h hg0.size
theorem FromNominations_any {A1 A2 A3 A4 : Option Addr} {n1 c1 n2 c2 n3 c3 n4 c4 : Nat} (n : GNet) (bk : List GCon) (l : List GNom) (h : Int) (w : World) (hA : NetAt w A1 n1 c1 A2 n2 c2 n) (hB : SlAt w 8 A3 n3 c3 (bk.flatMap GCon.cells)) (hL : SlAt w 4 A4 n4 c4 (l.flatMap GNom.cells)) (_hz : (Lit.int .i64 h).wf = true) :
    Calls Try.prog 8 #[.agg #[.slice A1 n1 c1, .slice A2 n2 c2], .slice A3 n3 c3, .slice A4 n4 c4, .int .i64 h] w fun e w' => ∃ A m c, e = .returned (.tuple #[.slice A m c, .int .i64 (amCode n bk l h)]) ∧ m ≤ 1048576 ∧ w'.ownsRow w.heap.size 63 4 (.slice A m c) m ((fnRes n bk l h).flatMap GTr.cells) ∧ Gr w w' := FromNominations0_any n bk l h w hA hB hL
theorem spFromNominations_any {A1 A2 A3 A4 : Option Addr} {n1 c1 n2 c2 n3 c3 n4 c4 : Nat} (n : GNet) (bk : List GCon) (l : List GNom) (h : Int) (w : World) (hA : NetAt w A1 n1 c1 A2 n2 c2 n) (hB : SlAt w 8 A3 n3 c3 (bk.flatMap GCon.cells)) (hL : SlAt w 4 A4 n4 c4 (l.flatMap GNom.cells)) (_hz : (Lit.int .i64 h).wf = true) :
    Calls Try.prog 9 #[.agg #[.slice A1 n1 c1, .slice A2 n2 c2], .slice A3 n3 c3, .slice A4 n4 c4, .int .i64 h] w fun e w' => ∃ A m c, e = .returned (.tuple #[.slice A m c, .int .i64 (amCode n bk l h)]) ∧ m ≤ 1048576 ∧ w'.ownsRow w.heap.size 63 4 (.slice A m c) m ((fnRes n bk l h).flatMap GTr.cells) ∧ Gr w w' := spFromNominations0_any n bk l h w hA hB hL
end Go.Proofs.Ytelhmfgfjlpkaaa
