/-
  The copies: toX and toXS return what they are given, in new memory. Printed by gen.py.
-/
import Derived.Test.YtihkkemkecifcaaRows
import Derived.Test.YtihkkemkecifcaaBase
import Derived.WalkKit
import Derived.ProofKit
import Derived.LoopTactic
import Derived.WalkLawsBesides
import Derived.WalkSpells
namespace Go.Proofs.Ytihkkemkecifcaa
open Go.ChangeShapes Go.WideShapes Go.ChangeAt Go.RowKit

theorem toNode_any (x : GNode) (w : World) :
    Calls Try.prog 56 #[.agg #[.string x.name, .int .i64 x.low, .int .i64 x.high]] w fun e w' => e = .returned (.agg #[.string x.name, .int .i64 x.low, .int .i64 x.high]) ∧ Gr w w' := by
  go_enter Try.func56, Try.ntmps56
  go_wp2
  exact bodyPost_ret (v := .agg #[.string x.name, .int .i64 x.low, .int .i64 x.high]) (by simp [results, Try.results56, go_sem]) rfl ⟨rfl, (((Gr.refl _).alloc _).alloc _).alloc _⟩
theorem infoNode : (Try.prog.info? 86).map (fun i => (i.zero, i.size, i.bytes)) = some (some (.agg #[.string ByteArray.empty, .int .i64 0, .int .i64 0]), 3, 32) := by kernel_rfl
theorem toNodeS_any (A : Option Addr) (n c : Nat) (l : List GNode) (w : World) (hn : n ≤ 1048576) (hA : Sl w 3 A n (l.flatMap GNode.cells)) :
    Calls Try.prog 34 #[.slice A n c] w fun e w' => ∃ A' c',
      e = .returned (.slice A' n c') ∧ w'.ownsRow w.heap.size 86 3 (.slice A' n c') n (l.flatMap GNode.cells) ∧ Gr w w' := by
  obtain ⟨i0, hi0, hz0, hz1, hz2⟩ := info_parts infoNode
  have hlen := hA.len GNode.cells_len (by omega)
  have HA := Lib.hid hA
  have Hlen := Lib.hid hlen
  clear hA hlen
  go_enter Try.func34, Try.ntmps34
  go_wp2_with (at_make; refine wpList_make_full _ rfl _ _ _ rfl w.heap.size 86 i0 _ 3 Try.underlying34 hi0 hz0 hz1 .i64 .i64 _ _ n rfl rfl rfl rfl (by rw [hz2]; omega) (by unfold maxLen; omega) (Nat.le_refl _) ?_; intro w1 hown hg)
  have hg' : Gr w w1 := Gr.of_grown hg
  have ez : (madeCells (Value.agg #[.string ByteArray.empty, .int .i64 0, .int .i64 0]).cells (n * 3)).toList = (fillTo GNode.zero l n 0).flatMap GNode.cells := by
    rw [fillTo_zero]; exact made_flat GNode.cells GNode.zero _ 3 rfl rfl (by omega) n
  rw [ez] at hown
  clear ez hg hi0 hz0 hz1 hz2
  go_loopw [4, 20, 21] (fun i _ _ wr => ∃ k : Nat, k ≤ n ∧ i = .int .i64 k ∧ wr.ownsRow w.heap.size 86 3 (.slice (some ⟨w.heap.size, 0, none⟩) n n) n ((fillTo GNode.zero l n k).flatMap GNode.cells) ∧ Gr w wr) (fun i _ _ _ => n - (intOf i).toNat)
  case atStart => exact ⟨0, Nat.zero_le _, rfl, hown, hg'⟩
  case round =>
    obtain ⟨k, hk, rfl, hownr, hgr⟩ := hrel
    clear hown hg'
    by_cases hlt : k < n
    · have HA1 := HA.out.gr hgr
      obtain ⟨x, hx⟩ : ∃ x, l[k]? = some x := ⟨_, List.getElem?_eq_getElem (by have := Hlen.out; omega)⟩
      obtain ⟨b, o, rfl, hb, e0, e1, e2⟩ := HA1.nd hx
      have Hx := Lib.hid hx
      have Hown := Lib.hid hownr
      clear hx HA1 hownr
      go_wp2_with fail
      refine (toNode_any x _).mono ?_
      rintro e w' ⟨rfl, hg1⟩
      have hown1 := own_gr Hown.out hg1
      obtain ⟨d0, d1, d2, f0, f1, f2⟩ := own_nd hown1 (fillTo_get _ _ Hlen.out hlt)
      have R := own_set_nd hown1 x hlt
      rw [fillTo_set _ _ Hlen.out Hx.out] at R
      have HR := Lib.hid R
      clear hown1 R
      go_wp2_with fail
      go_roundw
      case rel => exact ⟨k + 1, by omega, by go_num, HR.out.1, (hgr.trans hg1).grown HR.out.2 (fun _ e => by injection e with e; omega)⟩
      case measure => simp [intOf]; omega
    · obtain rfl : k = n := by omega
      go_wp2_with fail
      go_ret
      refine ⟨_, _, rfl, ?_, hgr⟩
      have e := fillTo_full GNode.zero l
      rw [Hlen.out] at e
      rw [e] at hownr
      exact hownr

theorem toPipe_any (x : GPipe) (w : World) :
    Calls Try.prog 57 #[.agg #[.int .i64 x.src, .int .i64 x.dst, .int .i64 x.k, .int .i64 x.vol, .int .i64 x.lim]] w fun e w' => e = .returned (.agg #[.int .i64 x.src, .int .i64 x.dst, .int .i64 x.k, .int .i64 x.vol, .int .i64 x.lim]) ∧ Gr w w' := by
  go_enter Try.func57, Try.ntmps57
  go_wp2
  exact bodyPost_ret (v := .agg #[.int .i64 x.src, .int .i64 x.dst, .int .i64 x.k, .int .i64 x.vol, .int .i64 x.lim]) (by simp [results, Try.results57, go_sem]) rfl ⟨rfl, (((Gr.refl _).alloc _).alloc _).alloc _⟩
theorem infoPipe : (Try.prog.info? 89).map (fun i => (i.zero, i.size, i.bytes)) = some (some (.agg #[.int .i64 0, .int .i64 0, .int .i64 0, .int .i64 0, .int .i64 0]), 5, 40) := by kernel_rfl
theorem toPipeS_any (A : Option Addr) (n c : Nat) (l : List GPipe) (w : World) (hn : n ≤ 1048576) (hA : Sl w 5 A n (l.flatMap GPipe.cells)) :
    Calls Try.prog 35 #[.slice A n c] w fun e w' => ∃ A' c',
      e = .returned (.slice A' n c') ∧ w'.ownsRow w.heap.size 89 5 (.slice A' n c') n (l.flatMap GPipe.cells) ∧ Gr w w' := by
  obtain ⟨i0, hi0, hz0, hz1, hz2⟩ := info_parts infoPipe
  have hlen := hA.len GPipe.cells_len (by omega)
  have HA := Lib.hid hA
  have Hlen := Lib.hid hlen
  clear hA hlen
  go_enter Try.func35, Try.ntmps35
  go_wp2_with (at_make; refine wpList_make_full _ rfl _ _ _ rfl w.heap.size 89 i0 _ 5 Try.underlying35 hi0 hz0 hz1 .i64 .i64 _ _ n rfl rfl rfl rfl (by rw [hz2]; omega) (by unfold maxLen; omega) (Nat.le_refl _) ?_; intro w1 hown hg)
  have hg' : Gr w w1 := Gr.of_grown hg
  have ez : (madeCells (Value.agg #[.int .i64 0, .int .i64 0, .int .i64 0, .int .i64 0, .int .i64 0]).cells (n * 5)).toList = (fillTo GPipe.zero l n 0).flatMap GPipe.cells := by
    rw [fillTo_zero]; exact made_flat GPipe.cells GPipe.zero _ 5 rfl rfl (by omega) n
  rw [ez] at hown
  clear ez hg hi0 hz0 hz1 hz2
  go_loopw [4, 20, 21] (fun i _ _ wr => ∃ k : Nat, k ≤ n ∧ i = .int .i64 k ∧ wr.ownsRow w.heap.size 89 5 (.slice (some ⟨w.heap.size, 0, none⟩) n n) n ((fillTo GPipe.zero l n k).flatMap GPipe.cells) ∧ Gr w wr) (fun i _ _ _ => n - (intOf i).toNat)
  case atStart => exact ⟨0, Nat.zero_le _, rfl, hown, hg'⟩
  case round =>
    obtain ⟨k, hk, rfl, hownr, hgr⟩ := hrel
    clear hown hg'
    by_cases hlt : k < n
    · have HA1 := HA.out.gr hgr
      obtain ⟨x, hx⟩ : ∃ x, l[k]? = some x := ⟨_, List.getElem?_eq_getElem (by have := Hlen.out; omega)⟩
      obtain ⟨b, o, rfl, hb, e0, e1, e2, e3, e4⟩ := HA1.pp hx
      have Hx := Lib.hid hx
      have Hown := Lib.hid hownr
      clear hx HA1 hownr
      go_wp2_with fail
      refine (toPipe_any x _).mono ?_
      rintro e w' ⟨rfl, hg1⟩
      have hown1 := own_gr Hown.out hg1
      obtain ⟨d0, d1, d2, d3, d4, f0, f1, f2, f3, f4⟩ := own_pp hown1 (fillTo_get _ _ Hlen.out hlt)
      have R := own_set_pp hown1 x hlt
      rw [fillTo_set _ _ Hlen.out Hx.out] at R
      have HR := Lib.hid R
      clear hown1 R
      go_wp2_with fail
      go_roundw
      case rel => exact ⟨k + 1, by omega, by go_num, HR.out.1, (hgr.trans hg1).grown HR.out.2 (fun _ e => by injection e with e; omega)⟩
      case measure => simp [intOf]; omega
    · obtain rfl : k = n := by omega
      go_wp2_with fail
      go_ret
      refine ⟨_, _, rfl, ?_, hgr⟩
      have e := fillTo_full GPipe.zero l
      rw [Hlen.out] at e
      rw [e] at hownr
      exact hownr


theorem toReading_any (x : GRd) (w : World) :
    Calls Try.prog 37 #[.agg #[.int .i64 x.node, .int .i64 x.amount]] w fun e w' => e = .returned (.agg #[.int .i64 x.node, .int .i64 x.amount]) ∧ Gr w w' := by
  go_enter Try.func37, Try.ntmps37
  go_wp2
  exact bodyPost_ret (v := .agg #[.int .i64 x.node, .int .i64 x.amount]) (by simp [results, Try.results37, go_sem]) rfl ⟨rfl, (((Gr.refl _).alloc _).alloc _).alloc _⟩
theorem infoReading : (Try.prog.info? 64).map (fun i => (i.zero, i.size, i.bytes)) = some (some (.agg #[.int .i64 0, .int .i64 0]), 2, 16) := by kernel_rfl
theorem toReadingS_any (A : Option Addr) (n c : Nat) (l : List GRd) (w : World) (hn : n ≤ 1048576) (hA : Sl w 2 A n (l.flatMap GRd.cells)) :
    Calls Try.prog 13 #[.slice A n c] w fun e w' => ∃ A' c',
      e = .returned (.slice A' n c') ∧ w'.ownsRow w.heap.size 64 2 (.slice A' n c') n (l.flatMap GRd.cells) ∧ Gr w w' := by
  obtain ⟨i0, hi0, hz0, hz1, hz2⟩ := info_parts infoReading
  have hlen := hA.len GRd.cells_len (by omega)
  have HA := Lib.hid hA
  have Hlen := Lib.hid hlen
  clear hA hlen
  go_enter Try.func13, Try.ntmps13
  go_wp2_with (at_make; refine wpList_make_full _ rfl _ _ _ rfl w.heap.size 64 i0 _ 2 Try.underlying41 hi0 hz0 hz1 .i64 .i64 _ _ n rfl rfl rfl rfl (by rw [hz2]; omega) (by unfold maxLen; omega) (Nat.le_refl _) ?_; intro w1 hown hg)
  have hg' : Gr w w1 := Gr.of_grown hg
  have ez : (madeCells (Value.agg #[.int .i64 0, .int .i64 0]).cells (n * 2)).toList = (fillTo GRd.zero l n 0).flatMap GRd.cells := by
    rw [fillTo_zero]; exact made_flat GRd.cells GRd.zero _ 2 rfl rfl (by omega) n
  rw [ez] at hown
  clear ez hg hi0 hz0 hz1 hz2
  go_loopw [4, 20, 21] (fun i _ _ wr => ∃ k : Nat, k ≤ n ∧ i = .int .i64 k ∧ wr.ownsRow w.heap.size 64 2 (.slice (some ⟨w.heap.size, 0, none⟩) n n) n ((fillTo GRd.zero l n k).flatMap GRd.cells) ∧ Gr w wr) (fun i _ _ _ => n - (intOf i).toNat)
  case atStart => exact ⟨0, Nat.zero_le _, rfl, hown, hg'⟩
  case round =>
    obtain ⟨k, hk, rfl, hownr, hgr⟩ := hrel
    clear hown hg'
    by_cases hlt : k < n
    · have HA1 := HA.out.gr hgr
      obtain ⟨x, hx⟩ : ∃ x, l[k]? = some x := ⟨_, List.getElem?_eq_getElem (by have := Hlen.out; omega)⟩
      obtain ⟨b, o, rfl, hb, e0, e1⟩ := HA1.rd hx
      have Hx := Lib.hid hx
      have Hown := Lib.hid hownr
      clear hx HA1 hownr
      go_wp2_with fail
      refine (toReading_any x _).mono ?_
      rintro e w' ⟨rfl, hg1⟩
      have hown1 := own_gr Hown.out hg1
      obtain ⟨d0, d1, f0, f1⟩ := own_rd hown1 (fillTo_get _ _ Hlen.out hlt)
      have R := own_set_rd hown1 x hlt
      rw [fillTo_set _ _ Hlen.out Hx.out] at R
      have HR := Lib.hid R
      clear hown1 R
      go_wp2_with fail
      go_roundw
      case rel => exact ⟨k + 1, by omega, by go_num, HR.out.1, (hgr.trans hg1).grown HR.out.2 (fun _ e => by injection e with e; omega)⟩
      case measure => simp [intOf]; omega
    · obtain rfl : k = n := by omega
      go_wp2_with fail
      go_ret
      refine ⟨_, _, rfl, ?_, hgr⟩
      have e := fillTo_full GRd.zero l
      rw [Hlen.out] at e
      rw [e] at hownr
      exact hownr

theorem toOrder_any (x : GOrd) (w : World) :
    Calls Try.prog 36 #[.agg #[.int .i64 x.shipper, .int .i64 x.node, .int .i64 x.amount, .int .i64 x.cls]] w fun e w' => e = .returned (.agg #[.int .i64 x.shipper, .int .i64 x.node, .int .i64 x.amount, .int .i64 x.cls]) ∧ Gr w w' := by
  go_enter Try.func36, Try.ntmps36
  go_wp2
  exact bodyPost_ret (v := .agg #[.int .i64 x.shipper, .int .i64 x.node, .int .i64 x.amount, .int .i64 x.cls]) (by simp [results, Try.results36, go_sem]) rfl ⟨rfl, (((Gr.refl _).alloc _).alloc _).alloc _⟩
theorem infoOrder : (Try.prog.info? 60).map (fun i => (i.zero, i.size, i.bytes)) = some (some (.agg #[.int .i64 0, .int .i64 0, .int .i64 0, .int .i64 0]), 4, 32) := by kernel_rfl
theorem toOrderS_any (A : Option Addr) (n c : Nat) (l : List GOrd) (w : World) (hn : n ≤ 1048576) (hA : Sl w 4 A n (l.flatMap GOrd.cells)) :
    Calls Try.prog 12 #[.slice A n c] w fun e w' => ∃ A' c',
      e = .returned (.slice A' n c') ∧ w'.ownsRow w.heap.size 60 4 (.slice A' n c') n (l.flatMap GOrd.cells) ∧ Gr w w' := by
  obtain ⟨i0, hi0, hz0, hz1, hz2⟩ := info_parts infoOrder
  have hlen := hA.len GOrd.cells_len (by omega)
  have HA := Lib.hid hA
  have Hlen := Lib.hid hlen
  clear hA hlen
  go_enter Try.func12, Try.ntmps12
  go_wp2_with (at_make; refine wpList_make_full _ rfl _ _ _ rfl w.heap.size 60 i0 _ 4 Try.underlying39 hi0 hz0 hz1 .i64 .i64 _ _ n rfl rfl rfl rfl (by rw [hz2]; omega) (by unfold maxLen; omega) (Nat.le_refl _) ?_; intro w1 hown hg)
  have hg' : Gr w w1 := Gr.of_grown hg
  have ez : (madeCells (Value.agg #[.int .i64 0, .int .i64 0, .int .i64 0, .int .i64 0]).cells (n * 4)).toList = (fillTo GOrd.zero l n 0).flatMap GOrd.cells := by
    rw [fillTo_zero]; exact made_flat GOrd.cells GOrd.zero _ 4 rfl rfl (by omega) n
  rw [ez] at hown
  clear ez hg hi0 hz0 hz1 hz2
  go_loopw [4, 20, 21] (fun i _ _ wr => ∃ k : Nat, k ≤ n ∧ i = .int .i64 k ∧ wr.ownsRow w.heap.size 60 4 (.slice (some ⟨w.heap.size, 0, none⟩) n n) n ((fillTo GOrd.zero l n k).flatMap GOrd.cells) ∧ Gr w wr) (fun i _ _ _ => n - (intOf i).toNat)
  case atStart => exact ⟨0, Nat.zero_le _, rfl, hown, hg'⟩
  case round =>
    obtain ⟨k, hk, rfl, hownr, hgr⟩ := hrel
    clear hown hg'
    by_cases hlt : k < n
    · have HA1 := HA.out.gr hgr
      obtain ⟨x, hx⟩ : ∃ x, l[k]? = some x := ⟨_, List.getElem?_eq_getElem (by have := Hlen.out; omega)⟩
      obtain ⟨b, o, rfl, hb, e0, e1, e2, e3⟩ := HA1.ord hx
      have Hx := Lib.hid hx
      have Hown := Lib.hid hownr
      clear hx HA1 hownr
      go_wp2_with fail
      refine (toOrder_any x _).mono ?_
      rintro e w' ⟨rfl, hg1⟩
      have hown1 := own_gr Hown.out hg1
      obtain ⟨d0, d1, d2, d3, f0, f1, f2, f3⟩ := own_ord hown1 (fillTo_get _ _ Hlen.out hlt)
      have R := own_set_ord hown1 x hlt
      rw [fillTo_set _ _ Hlen.out Hx.out] at R
      have HR := Lib.hid R
      clear hown1 R
      go_wp2_with fail
      go_roundw
      case rel => exact ⟨k + 1, by omega, by go_num, HR.out.1, (hgr.trans hg1).grown HR.out.2 (fun _ e => by injection e with e; omega)⟩
      case measure => simp [intOf]; omega
    · obtain rfl : k = n := by omega
      go_wp2_with fail
      go_ret
      refine ⟨_, _, rfl, ?_, hgr⟩
      have e := fillTo_full GOrd.zero l
      rw [Hlen.out] at e
      rw [e] at hownr
      exact hownr



end Go.Proofs.Ytihkkemkecifcaa
