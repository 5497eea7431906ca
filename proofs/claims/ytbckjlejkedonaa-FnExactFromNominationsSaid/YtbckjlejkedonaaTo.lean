/-
  The copies: toX and toXS return what they are given, in new memory. Printed by gen.py.
-/
import Derived.Test.YtbckjlejkedonaaRows
import Derived.Test.YtbckjlejkedonaaBase
import Derived.WalkKit
import Derived.ProofKit
import Derived.LoopTactic
import Derived.WalkLawsBesides
import Derived.WalkSpells
namespace Go.Proofs.Ytbckjlejkedonaa
open Go.ChangeShapes Go.WideShapes Go.ChangeAt Go.RowKit

theorem toNode_any (x : GNode) (w : World) :
    Calls Try.prog 156 #[.agg #[.string x.name, .int .i64 x.low, .int .i64 x.high]] w fun e w' => e = .returned (.agg #[.string x.name, .int .i64 x.low, .int .i64 x.high]) ∧ Gr w w' := by
  go_enter Try.func156, Try.ntmps156
  go_wp2
  exact bodyPost_ret (v := .agg #[.string x.name, .int .i64 x.low, .int .i64 x.high]) (by simp [results, Try.results156, go_sem]) rfl ⟨rfl, (((Gr.refl _).alloc _).alloc _).alloc _⟩
theorem infoNode : (Try.prog.info? 177).map (fun i => (i.zero, i.size, i.bytes)) = some (some (.agg #[.string ByteArray.empty, .int .i64 0, .int .i64 0]), 3, 32) := by kernel_rfl
theorem toNodeS_any (A : Option Addr) (n c : Nat) (l : List GNode) (w : World) (hn : n ≤ 1048576) (hA : Sl w 3 A n (l.flatMap GNode.cells)) :
    Calls Try.prog 79 #[.slice A n c] w fun e w' => ∃ A' c',
      e = .returned (.slice A' n c') ∧ w'.ownsRow w.heap.size 177 3 (.slice A' n c') n (l.flatMap GNode.cells) ∧ Gr w w' := by
  obtain ⟨i0, hi0, hz0, hz1, hz2⟩ := info_parts infoNode
  have hlen := hA.len GNode.cells_len (by omega)
  have HA := Lib.hid hA
  have Hlen := Lib.hid hlen
  clear hA hlen
  go_enter Try.func79, Try.ntmps79
  go_wp2_with (at_make; refine wpList_make_full _ rfl _ _ _ rfl w.heap.size 177 i0 _ 3 Try.underlying30 hi0 hz0 hz1 .i64 .i64 _ _ n rfl rfl rfl rfl (by rw [hz2]; omega) (by unfold maxLen; omega) (Nat.le_refl _) ?_; intro w1 hown hg)
  have hg' : Gr w w1 := Gr.of_grown hg
  have ez : (madeCells (Value.agg #[.string ByteArray.empty, .int .i64 0, .int .i64 0]).cells (n * 3)).toList = (fillTo GNode.zero l n 0).flatMap GNode.cells := by
    rw [fillTo_zero]; exact made_flat GNode.cells GNode.zero _ 3 rfl rfl (by omega) n
  rw [ez] at hown
  clear ez hg hi0 hz0 hz1 hz2
  go_loopw [4, 20, 21] (fun i _ _ wr => ∃ k : Nat, k ≤ n ∧ i = .int .i64 k ∧ wr.ownsRow w.heap.size 177 3 (.slice (some ⟨w.heap.size, 0, none⟩) n n) n ((fillTo GNode.zero l n k).flatMap GNode.cells) ∧ Gr w wr) (fun i _ _ _ => n - (intOf i).toNat)
  case atStart => exact ⟨0, Nat.zero_le _, rfl, hown, hg'⟩
  case round =>
    obtain ⟨k, hk, rfl, hownr, hgr⟩ := hrel
    clear hown hg'
    by_cases hlt : k < n
    · have HA1 := HA.out.gr hgr
      obtain ⟨x, hx⟩ : ∃ x, l[k]? = some x := ⟨_, List.getElem?_eq_getElem (by have := Hlen.out; omega)⟩
      obtain ⟨b, o, rfl, hb, e0, e1, e2⟩ := HA1.nd hx
      have Hx := Lib.hid hx
      have Hown := Lib.hid hownr
      clear hx HA1 hownr
      go_wp2_with fail
      refine (toNode_any x _).mono ?_
      rintro e w' ⟨rfl, hg1⟩
      have hown1 := own_gr Hown.out hg1
      obtain ⟨d0, d1, d2, f0, f1, f2⟩ := own_nd hown1 (fillTo_get _ _ Hlen.out hlt)
      have R := own_set_nd hown1 x hlt
      rw [fillTo_set _ _ Hlen.out Hx.out] at R
      have HR := Lib.hid R
      clear hown1 R
      go_wp2_with fail
      go_roundw
      case rel => exact ⟨k + 1, by omega, by go_num, HR.out.1, (hgr.trans hg1).grown HR.out.2 (fun _ e => by injection e with e; omega)⟩
      case measure => simp [intOf]; omega
    · obtain rfl : k = n := by omega
      go_wp2_with fail
      go_ret
      refine ⟨_, _, rfl, ?_, hgr⟩
      have e := fillTo_full GNode.zero l
      rw [Hlen.out] at e
      rw [e] at hownr
      exact hownr

theorem toPipe_any (x : GPipe) (w : World) :
    Calls Try.prog 157 #[.agg #[.int .i64 x.src, .int .i64 x.dst, .int .i64 x.k, .int .i64 x.vol, .int .i64 x.lim]] w fun e w' => e = .returned (.agg #[.int .i64 x.src, .int .i64 x.dst, .int .i64 x.k, .int .i64 x.vol, .int .i64 x.lim]) ∧ Gr w w' := by
  go_enter Try.func157, Try.ntmps157
  go_wp2
  exact bodyPost_ret (v := .agg #[.int .i64 x.src, .int .i64 x.dst, .int .i64 x.k, .int .i64 x.vol, .int .i64 x.lim]) (by simp [results, Try.results157, go_sem]) rfl ⟨rfl, (((Gr.refl _).alloc _).alloc _).alloc _⟩
theorem infoPipe : (Try.prog.info? 126).map (fun i => (i.zero, i.size, i.bytes)) = some (some (.agg #[.int .i64 0, .int .i64 0, .int .i64 0, .int .i64 0, .int .i64 0]), 5, 40) := by kernel_rfl
theorem toPipeS_any (A : Option Addr) (n c : Nat) (l : List GPipe) (w : World) (hn : n ≤ 1048576) (hA : Sl w 5 A n (l.flatMap GPipe.cells)) :
    Calls Try.prog 80 #[.slice A n c] w fun e w' => ∃ A' c',
      e = .returned (.slice A' n c') ∧ w'.ownsRow w.heap.size 126 5 (.slice A' n c') n (l.flatMap GPipe.cells) ∧ Gr w w' := by
  obtain ⟨i0, hi0, hz0, hz1, hz2⟩ := info_parts infoPipe
  have hlen := hA.len GPipe.cells_len (by omega)
  have HA := Lib.hid hA
  have Hlen := Lib.hid hlen
  clear hA hlen
  go_enter Try.func80, Try.ntmps80
  go_wp2_with (at_make; refine wpList_make_full _ rfl _ _ _ rfl w.heap.size 126 i0 _ 5 Try.underlying31 hi0 hz0 hz1 .i64 .i64 _ _ n rfl rfl rfl rfl (by rw [hz2]; omega) (by unfold maxLen; omega) (Nat.le_refl _) ?_; intro w1 hown hg)
  have hg' : Gr w w1 := Gr.of_grown hg
  have ez : (madeCells (Value.agg #[.int .i64 0, .int .i64 0, .int .i64 0, .int .i64 0, .int .i64 0]).cells (n * 5)).toList = (fillTo GPipe.zero l n 0).flatMap GPipe.cells := by
    rw [fillTo_zero]; exact made_flat GPipe.cells GPipe.zero _ 5 rfl rfl (by omega) n
  rw [ez] at hown
  clear ez hg hi0 hz0 hz1 hz2
  go_loopw [4, 20, 21] (fun i _ _ wr => ∃ k : Nat, k ≤ n ∧ i = .int .i64 k ∧ wr.ownsRow w.heap.size 126 5 (.slice (some ⟨w.heap.size, 0, none⟩) n n) n ((fillTo GPipe.zero l n k).flatMap GPipe.cells) ∧ Gr w wr) (fun i _ _ _ => n - (intOf i).toNat)
  case atStart => exact ⟨0, Nat.zero_le _, rfl, hown, hg'⟩
  case round =>
    obtain ⟨k, hk, rfl, hownr, hgr⟩ := hrel
    clear hown hg'
    by_cases hlt : k < n
    · have HA1 := HA.out.gr hgr
      obtain ⟨x, hx⟩ : ∃ x, l[k]? = some x := ⟨_, List.getElem?_eq_getElem (by have := Hlen.out; omega)⟩
      obtain ⟨b, o, rfl, hb, e0, e1, e2, e3, e4⟩ := HA1.pp hx
      have Hx := Lib.hid hx
      have Hown := Lib.hid hownr
      clear hx HA1 hownr
      go_wp2_with fail
      refine (toPipe_any x _).mono ?_
      rintro e w' ⟨rfl, hg1⟩
      have hown1 := own_gr Hown.out hg1
      obtain ⟨d0, d1, d2, d3, d4, f0, f1, f2, f3, f4⟩ := own_pp hown1 (fillTo_get _ _ Hlen.out hlt)
      have R := own_set_pp hown1 x hlt
      rw [fillTo_set _ _ Hlen.out Hx.out] at R
      have HR := Lib.hid R
      clear hown1 R
      go_wp2_with fail
      go_roundw
      case rel => exact ⟨k + 1, by omega, by go_num, HR.out.1, (hgr.trans hg1).grown HR.out.2 (fun _ e => by injection e with e; omega)⟩
      case measure => simp [intOf]; omega
    · obtain rfl : k = n := by omega
      go_wp2_with fail
      go_ret
      refine ⟨_, _, rfl, ?_, hgr⟩
      have e := fillTo_full GPipe.zero l
      rw [Hlen.out] at e
      rw [e] at hownr
      exact hownr

theorem infoTransport : (Try.prog.info? 161).map (fun i => (i.zero, i.size, i.bytes)) = some (some (.agg #[.int .i64 0, .int .i64 0, .int .i64 0, .int .i64 0]), 4, 32) := by kernel_rfl

theorem toContract_any (x : GCon) (w : World) :
    Calls Try.prog 148 #[.agg #[.int .i64 x.shipper, .int .i64 x.entry, .int .i64 x.exit, .int .i64 x.amount, .int .i64 x.cls, .int .i64 x.src, .int .i64 x.dst, .int .i64 x.price]] w fun e w' => e = .returned (.agg #[.int .i64 x.shipper, .int .i64 x.entry, .int .i64 x.exit, .int .i64 x.amount, .int .i64 x.cls, .int .i64 x.src, .int .i64 x.dst, .int .i64 x.price]) ∧ Gr w w' := by
  go_enter Try.func148, Try.ntmps148
  go_wp2
  exact bodyPost_ret (v := .agg #[.int .i64 x.shipper, .int .i64 x.entry, .int .i64 x.exit, .int .i64 x.amount, .int .i64 x.cls, .int .i64 x.src, .int .i64 x.dst, .int .i64 x.price]) (by simp [results, Try.results148, go_sem]) rfl ⟨rfl, (((Gr.refl _).alloc _).alloc _).alloc _⟩
theorem infoContract : (Try.prog.info? 159).map (fun i => (i.zero, i.size, i.bytes)) = some (some (.agg #[.int .i64 0, .int .i64 0, .int .i64 0, .int .i64 0, .int .i64 0, .int .i64 0, .int .i64 0, .int .i64 0]), 8, 64) := by kernel_rfl
theorem toContractS_any (A : Option Addr) (n c : Nat) (l : List GCon) (w : World) (hn : n ≤ 1048576) (hA : Sl w 8 A n (l.flatMap GCon.cells)) :
    Calls Try.prog 66 #[.slice A n c] w fun e w' => ∃ A' c',
      e = .returned (.slice A' n c') ∧ w'.ownsRow w.heap.size 159 8 (.slice A' n c') n (l.flatMap GCon.cells) ∧ Gr w w' := by
  obtain ⟨i0, hi0, hz0, hz1, hz2⟩ := info_parts infoContract
  have hlen := hA.len GCon.cells_len (by omega)
  have HA := Lib.hid hA
  have Hlen := Lib.hid hlen
  clear hA hlen
  go_enter Try.func66, Try.ntmps66
  go_wp2_with (at_make; refine wpList_make_full _ rfl _ _ _ rfl w.heap.size 159 i0 _ 8 Try.underlying75 hi0 hz0 hz1 .i64 .i64 _ _ n rfl rfl rfl rfl (by rw [hz2]; omega) (by unfold maxLen; omega) (Nat.le_refl _) ?_; intro w1 hown hg)
  have hg' : Gr w w1 := Gr.of_grown hg
  have ez : (madeCells (Value.agg #[.int .i64 0, .int .i64 0, .int .i64 0, .int .i64 0, .int .i64 0, .int .i64 0, .int .i64 0, .int .i64 0]).cells (n * 8)).toList = (fillTo GCon.zero l n 0).flatMap GCon.cells := by
    rw [fillTo_zero]; exact made_flat GCon.cells GCon.zero _ 8 rfl rfl (by omega) n
  rw [ez] at hown
  clear ez hg hi0 hz0 hz1 hz2
  go_loopw [4, 20, 21] (fun i _ _ wr => ∃ k : Nat, k ≤ n ∧ i = .int .i64 k ∧ wr.ownsRow w.heap.size 159 8 (.slice (some ⟨w.heap.size, 0, none⟩) n n) n ((fillTo GCon.zero l n k).flatMap GCon.cells) ∧ Gr w wr) (fun i _ _ _ => n - (intOf i).toNat)
  case atStart => exact ⟨0, Nat.zero_le _, rfl, hown, hg'⟩
  case round =>
    obtain ⟨k, hk, rfl, hownr, hgr⟩ := hrel
    clear hown hg'
    by_cases hlt : k < n
    · have HA1 := HA.out.gr hgr
      obtain ⟨x, hx⟩ : ∃ x, l[k]? = some x := ⟨_, List.getElem?_eq_getElem (by have := Hlen.out; omega)⟩
      obtain ⟨b, o, rfl, hb, e0, e1, e2, e3, e4, e5, e6, e7⟩ := HA1.con hx
      have Hx := Lib.hid hx
      have Hown := Lib.hid hownr
      clear hx HA1 hownr
      go_wp2_with fail
      refine (toContract_any x _).mono ?_
      rintro e w' ⟨rfl, hg1⟩
      have hown1 := own_gr Hown.out hg1
      obtain ⟨d0, d1, d2, d3, d4, d5, d6, d7, f0, f1, f2, f3, f4, f5, f6, f7⟩ := own_con hown1 (fillTo_get _ _ Hlen.out hlt)
      have R := own_set_con hown1 x hlt
      rw [fillTo_set _ _ Hlen.out Hx.out] at R
      have HR := Lib.hid R
      clear hown1 R
      go_wp2_with fail
      go_roundw
      case rel => exact ⟨k + 1, by omega, by go_num, HR.out.1, (hgr.trans hg1).grown HR.out.2 (fun _ e => by injection e with e; omega)⟩
      case measure => simp [intOf]; omega
    · obtain rfl : k = n := by omega
      go_wp2_with fail
      go_ret
      refine ⟨_, _, rfl, ?_, hgr⟩
      have e := fillTo_full GCon.zero l
      rw [Hlen.out] at e
      rw [e] at hownr
      exact hownr

theorem toNomination_any (x : GNom) (w : World) :
    Calls Try.prog 149 #[.agg #[.int .i64 x.contract, .int .i64 x.hour, .int .i64 x.sent, .int .i64 x.amount]] w fun e w' => e = .returned (.agg #[.int .i64 x.contract, .int .i64 x.hour, .int .i64 x.sent, .int .i64 x.amount]) ∧ Gr w w' := by
  go_enter Try.func149, Try.ntmps149
  go_wp2
  exact bodyPost_ret (v := .agg #[.int .i64 x.contract, .int .i64 x.hour, .int .i64 x.sent, .int .i64 x.amount]) (by simp [results, Try.results149, go_sem]) rfl ⟨rfl, (((Gr.refl _).alloc _).alloc _).alloc _⟩
theorem infoNomination : (Try.prog.info? 167).map (fun i => (i.zero, i.size, i.bytes)) = some (some (.agg #[.int .i64 0, .int .i64 0, .int .i64 0, .int .i64 0]), 4, 32) := by kernel_rfl
theorem toNominationS_any (A : Option Addr) (n c : Nat) (l : List GNom) (w : World) (hn : n ≤ 1048576) (hA : Sl w 4 A n (l.flatMap GNom.cells)) :
    Calls Try.prog 67 #[.slice A n c] w fun e w' => ∃ A' c',
      e = .returned (.slice A' n c') ∧ w'.ownsRow w.heap.size 167 4 (.slice A' n c') n (l.flatMap GNom.cells) ∧ Gr w w' := by
  obtain ⟨i0, hi0, hz0, hz1, hz2⟩ := info_parts infoNomination
  have hlen := hA.len GNom.cells_len (by omega)
  have HA := Lib.hid hA
  have Hlen := Lib.hid hlen
  clear hA hlen
  go_enter Try.func67, Try.ntmps67
  go_wp2_with (at_make; refine wpList_make_full _ rfl _ _ _ rfl w.heap.size 167 i0 _ 4 Try.underlying76 hi0 hz0 hz1 .i64 .i64 _ _ n rfl rfl rfl rfl (by rw [hz2]; omega) (by unfold maxLen; omega) (Nat.le_refl _) ?_; intro w1 hown hg)
  have hg' : Gr w w1 := Gr.of_grown hg
  have ez : (madeCells (Value.agg #[.int .i64 0, .int .i64 0, .int .i64 0, .int .i64 0]).cells (n * 4)).toList = (fillTo GNom.zero l n 0).flatMap GNom.cells := by
    rw [fillTo_zero]; exact made_flat GNom.cells GNom.zero _ 4 rfl rfl (by omega) n
  rw [ez] at hown
  clear ez hg hi0 hz0 hz1 hz2
  go_loopw [4, 20, 21] (fun i _ _ wr => ∃ k : Nat, k ≤ n ∧ i = .int .i64 k ∧ wr.ownsRow w.heap.size 167 4 (.slice (some ⟨w.heap.size, 0, none⟩) n n) n ((fillTo GNom.zero l n k).flatMap GNom.cells) ∧ Gr w wr) (fun i _ _ _ => n - (intOf i).toNat)
  case atStart => exact ⟨0, Nat.zero_le _, rfl, hown, hg'⟩
  case round =>
    obtain ⟨k, hk, rfl, hownr, hgr⟩ := hrel
    clear hown hg'
    by_cases hlt : k < n
    · have HA1 := HA.out.gr hgr
      obtain ⟨x, hx⟩ : ∃ x, l[k]? = some x := ⟨_, List.getElem?_eq_getElem (by have := Hlen.out; omega)⟩
      obtain ⟨b, o, rfl, hb, e0, e1, e2, e3⟩ := HA1.nom hx
      have Hx := Lib.hid hx
      have Hown := Lib.hid hownr
      clear hx HA1 hownr
      go_wp2_with fail
      refine (toNomination_any x _).mono ?_
      rintro e w' ⟨rfl, hg1⟩
      have hown1 := own_gr Hown.out hg1
      obtain ⟨d0, d1, d2, d3, f0, f1, f2, f3⟩ := own_nom hown1 (fillTo_get _ _ Hlen.out hlt)
      have R := own_set_nom hown1 x hlt
      rw [fillTo_set _ _ Hlen.out Hx.out] at R
      have HR := Lib.hid R
      clear hown1 R
      go_wp2_with fail
      go_roundw
      case rel => exact ⟨k + 1, by omega, by go_num, HR.out.1, (hgr.trans hg1).grown HR.out.2 (fun _ e => by injection e with e; omega)⟩
      case measure => simp [intOf]; omega
    · obtain rfl : k = n := by omega
      go_wp2_with fail
      go_ret
      refine ⟨_, _, rfl, ?_, hgr⟩
      have e := fillTo_full GNom.zero l
      rw [Hlen.out] at e
      rw [e] at hownr
      exact hownr

end Go.Proofs.Ytbckjlejkedonaa
