/-
  The copies: toX and toXS return what they are given, in new memory. Printed by gen.py.
-/
import Derived.Test.YtaicmgbmlkhagaaRows
import Derived.Test.YtaicmgbmlkhagaaBase
import Derived.WalkKit
import Derived.ProofKit
import Derived.LoopTactic
import Derived.WalkLawsBesides
import Derived.WalkSpells
namespace Go.Proofs.Ytaicmgbmlkhagaa
open Go.ChangeShapes Go.WideShapes Go.ChangeAt Go.RowKit

theorem toNode_any (x : GNode) (w : World) :
    Calls Try.prog 105 #[.agg #[.string x.name, .int .i64 x.low, .int .i64 x.high]] w fun e w' => e = .returned (.agg #[.string x.name, .int .i64 x.low, .int .i64 x.high]) ∧ Gr w w' := by
  go_enter Try.func105, Try.ntmps105
  go_wp2
  exact bodyPost_ret (v := .agg #[.string x.name, .int .i64 x.low, .int .i64 x.high]) (by simp [results, Try.results105, go_sem]) rfl ⟨rfl, (((Gr.refl _).alloc _).alloc _).alloc _⟩
theorem infoNode : (Try.prog.info? 96).map (fun i => (i.zero, i.size, i.bytes)) = some (some (.agg #[.string ByteArray.empty, .int .i64 0, .int .i64 0]), 3, 32) := by kernel_rfl
theorem toNodeS_any (A : Option Addr) (n c : Nat) (l : List GNode) (w : World) (hn : n ≤ 1048576) (hA : Sl w 3 A n (l.flatMap GNode.cells)) :
    Calls Try.prog 63 #[.slice A n c] w fun e w' => ∃ A' c',
      e = .returned (.slice A' n c') ∧ w'.ownsRow w.heap.size 96 3 (.slice A' n c') n (l.flatMap GNode.cells) ∧ Gr w w' := by
  obtain ⟨i0, hi0, hz0, hz1, hz2⟩ := info_parts infoNode
  have hlen := hA.len GNode.cells_len (by omega)
  have HA := Lib.hid hA
  have Hlen := Lib.hid hlen
  clear hA hlen
  go_enter Try.func63, Try.ntmps63
  go_wp2_with (at_make; refine wpList_make_full _ rfl _ _ _ rfl w.heap.size 96 i0 _ 3 Try.underlying29 hi0 hz0 hz1 .i64 .i64 _ _ n rfl rfl rfl rfl (by rw [hz2]; omega) (by unfold maxLen; omega) (Nat.le_refl _) ?_; intro w1 hown hg)
  have hg' : Gr w w1 := Gr.of_grown hg
  have ez : (madeCells (Value.agg #[.string ByteArray.empty, .int .i64 0, .int .i64 0]).cells (n * 3)).toList = (fillTo GNode.zero l n 0).flatMap GNode.cells := by
    rw [fillTo_zero]; exact made_flat GNode.cells GNode.zero _ 3 rfl rfl (by omega) n
  rw [ez] at hown
  clear ez hg hi0 hz0 hz1 hz2
  go_loopw [4, 20, 21] (fun i _ _ wr => ∃ k : Nat, k ≤ n ∧ i = .int .i64 k ∧ wr.ownsRow w.heap.size 96 3 (.slice (some ⟨w.heap.size, 0, none⟩) n n) n ((fillTo GNode.zero l n k).flatMap GNode.cells) ∧ Gr w wr) (fun i _ _ _ => n - (intOf i).toNat)
  case atStart => exact ⟨0, Nat.zero_le _, rfl, hown, hg'⟩
  case round =>
    obtain ⟨k, hk, rfl, hownr, hgr⟩ := hrel
    clear hown hg'
    by_cases hlt : k < n
    · have HA1 := HA.out.gr hgr
      obtain ⟨x, hx⟩ : ∃ x, l[k]? = some x := ⟨_, List.getElem?_eq_getElem (by have := Hlen.out; omega)⟩
      obtain ⟨b, o, rfl, hb, e0, e1, e2⟩ := HA1.nd hx
      have Hx := Lib.hid hx
      have Hown := Lib.hid hownr
      clear hx HA1 hownr
      go_wp2_with fail
      refine (toNode_any x _).mono ?_
      rintro e w' ⟨rfl, hg1⟩
      have hown1 := own_gr Hown.out hg1
      obtain ⟨d0, d1, d2, f0, f1, f2⟩ := own_nd hown1 (fillTo_get _ _ Hlen.out hlt)
      have R := own_set_nd hown1 x hlt
      rw [fillTo_set _ _ Hlen.out Hx.out] at R
      have HR := Lib.hid R
      clear hown1 R
      go_wp2_with fail
      go_roundw
      case rel => exact ⟨k + 1, by omega, by go_num, HR.out.1, (hgr.trans hg1).grown HR.out.2 (fun _ e => by injection e with e; omega)⟩
      case measure => simp [intOf]; omega
    · obtain rfl : k = n := by omega
      go_wp2_with fail
      go_ret
      refine ⟨_, _, rfl, ?_, hgr⟩
      have e := fillTo_full GNode.zero l
      rw [Hlen.out] at e
      rw [e] at hownr
      exact hownr

theorem toPipe_any (x : GPipe) (w : World) :
    Calls Try.prog 106 #[.agg #[.int .i64 x.src, .int .i64 x.dst, .int .i64 x.k, .int .i64 x.vol, .int .i64 x.lim]] w fun e w' => e = .returned (.agg #[.int .i64 x.src, .int .i64 x.dst, .int .i64 x.k, .int .i64 x.vol, .int .i64 x.lim]) ∧ Gr w w' := by
  go_enter Try.func106, Try.ntmps106
  go_wp2
  exact bodyPost_ret (v := .agg #[.int .i64 x.src, .int .i64 x.dst, .int .i64 x.k, .int .i64 x.vol, .int .i64 x.lim]) (by simp [results, Try.results106, go_sem]) rfl ⟨rfl, (((Gr.refl _).alloc _).alloc _).alloc _⟩
theorem infoPipe : (Try.prog.info? 99).map (fun i => (i.zero, i.size, i.bytes)) = some (some (.agg #[.int .i64 0, .int .i64 0, .int .i64 0, .int .i64 0, .int .i64 0]), 5, 40) := by kernel_rfl
theorem toPipeS_any (A : Option Addr) (n c : Nat) (l : List GPipe) (w : World) (hn : n ≤ 1048576) (hA : Sl w 5 A n (l.flatMap GPipe.cells)) :
    Calls Try.prog 64 #[.slice A n c] w fun e w' => ∃ A' c',
      e = .returned (.slice A' n c') ∧ w'.ownsRow w.heap.size 99 5 (.slice A' n c') n (l.flatMap GPipe.cells) ∧ Gr w w' := by
  obtain ⟨i0, hi0, hz0, hz1, hz2⟩ := info_parts infoPipe
  have hlen := hA.len GPipe.cells_len (by omega)
  have HA := Lib.hid hA
  have Hlen := Lib.hid hlen
  clear hA hlen
  go_enter Try.func64, Try.ntmps64
  go_wp2_with (at_make; refine wpList_make_full _ rfl _ _ _ rfl w.heap.size 99 i0 _ 5 Try.underlying30 hi0 hz0 hz1 .i64 .i64 _ _ n rfl rfl rfl rfl (by rw [hz2]; omega) (by unfold maxLen; omega) (Nat.le_refl _) ?_; intro w1 hown hg)
  have hg' : Gr w w1 := Gr.of_grown hg
  have ez : (madeCells (Value.agg #[.int .i64 0, .int .i64 0, .int .i64 0, .int .i64 0, .int .i64 0]).cells (n * 5)).toList = (fillTo GPipe.zero l n 0).flatMap GPipe.cells := by
    rw [fillTo_zero]; exact made_flat GPipe.cells GPipe.zero _ 5 rfl rfl (by omega) n
  rw [ez] at hown
  clear ez hg hi0 hz0 hz1 hz2
  go_loopw [4, 20, 21] (fun i _ _ wr => ∃ k : Nat, k ≤ n ∧ i = .int .i64 k ∧ wr.ownsRow w.heap.size 99 5 (.slice (some ⟨w.heap.size, 0, none⟩) n n) n ((fillTo GPipe.zero l n k).flatMap GPipe.cells) ∧ Gr w wr) (fun i _ _ _ => n - (intOf i).toNat)
  case atStart => exact ⟨0, Nat.zero_le _, rfl, hown, hg'⟩
  case round =>
    obtain ⟨k, hk, rfl, hownr, hgr⟩ := hrel
    clear hown hg'
    by_cases hlt : k < n
    · have HA1 := HA.out.gr hgr
      obtain ⟨x, hx⟩ : ∃ x, l[k]? = some x := ⟨_, List.getElem?_eq_getElem (by have := Hlen.out; omega)⟩
      obtain ⟨b, o, rfl, hb, e0, e1, e2, e3, e4⟩ := HA1.pp hx
      have Hx := Lib.hid hx
      have Hown := Lib.hid hownr
      clear hx HA1 hownr
      go_wp2_with fail
      refine (toPipe_any x _).mono ?_
      rintro e w' ⟨rfl, hg1⟩
      have hown1 := own_gr Hown.out hg1
      obtain ⟨d0, d1, d2, d3, d4, f0, f1, f2, f3, f4⟩ := own_pp hown1 (fillTo_get _ _ Hlen.out hlt)
      have R := own_set_pp hown1 x hlt
      rw [fillTo_set _ _ Hlen.out Hx.out] at R
      have HR := Lib.hid R
      clear hown1 R
      go_wp2_with fail
      go_roundw
      case rel => exact ⟨k + 1, by omega, by go_num, HR.out.1, (hgr.trans hg1).grown HR.out.2 (fun _ e => by injection e with e; omega)⟩
      case measure => simp [intOf]; omega
    · obtain rfl : k = n := by omega
      go_wp2_with fail
      go_ret
      refine ⟨_, _, rfl, ?_, hgr⟩
      have e := fillTo_full GPipe.zero l
      rw [Hlen.out] at e
      rw [e] at hownr
      exact hownr

theorem toTransport_any (x : GTr) (w : World) :
    Calls Try.prog 77 #[.agg #[.int .i64 x.entry, .int .i64 x.exit, .int .i64 x.amount, .int .i64 x.cls]] w fun e w' => e = .returned (.agg #[.int .i64 x.entry, .int .i64 x.exit, .int .i64 x.amount, .int .i64 x.cls]) ∧ Gr w w' := by
  go_enter Try.func77, Try.ntmps77
  go_wp2
  exact bodyPost_ret (v := .agg #[.int .i64 x.entry, .int .i64 x.exit, .int .i64 x.amount, .int .i64 x.cls]) (by simp [results, Try.results77, go_sem]) rfl ⟨rfl, (((Gr.refl _).alloc _).alloc _).alloc _⟩
theorem infoTransport : (Try.prog.info? 77).map (fun i => (i.zero, i.size, i.bytes)) = some (some (.agg #[.int .i64 0, .int .i64 0, .int .i64 0, .int .i64 0]), 4, 32) := by kernel_rfl
theorem toTransportS_any (A : Option Addr) (n c : Nat) (l : List GTr) (w : World) (hn : n ≤ 1048576) (hA : Sl w 4 A n (l.flatMap GTr.cells)) :
    Calls Try.prog 32 #[.slice A n c] w fun e w' => ∃ A' c',
      e = .returned (.slice A' n c') ∧ w'.ownsRow w.heap.size 77 4 (.slice A' n c') n (l.flatMap GTr.cells) ∧ Gr w w' := by
  obtain ⟨i0, hi0, hz0, hz1, hz2⟩ := info_parts infoTransport
  have hlen := hA.len GTr.cells_len (by omega)
  have HA := Lib.hid hA
  have Hlen := Lib.hid hlen
  clear hA hlen
  go_enter Try.func32, Try.ntmps32
  go_wp2_with (at_make; refine wpList_make_full _ rfl _ _ _ rfl w.heap.size 77 i0 _ 4 Try.underlying45 hi0 hz0 hz1 .i64 .i64 _ _ n rfl rfl rfl rfl (by rw [hz2]; omega) (by unfold maxLen; omega) (Nat.le_refl _) ?_; intro w1 hown hg)
  have hg' : Gr w w1 := Gr.of_grown hg
  have ez : (madeCells (Value.agg #[.int .i64 0, .int .i64 0, .int .i64 0, .int .i64 0]).cells (n * 4)).toList = (fillTo GTr.zero l n 0).flatMap GTr.cells := by
    rw [fillTo_zero]; exact made_flat GTr.cells GTr.zero _ 4 rfl rfl (by omega) n
  rw [ez] at hown
  clear ez hg hi0 hz0 hz1 hz2
  go_loopw [4, 20, 21] (fun i _ _ wr => ∃ k : Nat, k ≤ n ∧ i = .int .i64 k ∧ wr.ownsRow w.heap.size 77 4 (.slice (some ⟨w.heap.size, 0, none⟩) n n) n ((fillTo GTr.zero l n k).flatMap GTr.cells) ∧ Gr w wr) (fun i _ _ _ => n - (intOf i).toNat)
  case atStart => exact ⟨0, Nat.zero_le _, rfl, hown, hg'⟩
  case round =>
    obtain ⟨k, hk, rfl, hownr, hgr⟩ := hrel
    clear hown hg'
    by_cases hlt : k < n
    · have HA1 := HA.out.gr hgr
      obtain ⟨x, hx⟩ : ∃ x, l[k]? = some x := ⟨_, List.getElem?_eq_getElem (by have := Hlen.out; omega)⟩
      obtain ⟨b, o, rfl, hb, e0, e1, e2, e3⟩ := HA1.tr hx
      have Hx := Lib.hid hx
      have Hown := Lib.hid hownr
      clear hx HA1 hownr
      go_wp2_with fail
      refine (toTransport_any x _).mono ?_
      rintro e w' ⟨rfl, hg1⟩
      have hown1 := own_gr Hown.out hg1
      obtain ⟨d0, d1, d2, d3, f0, f1, f2, f3⟩ := own_tr hown1 (fillTo_get _ _ Hlen.out hlt)
      have R := own_set_tr hown1 x hlt
      rw [fillTo_set _ _ Hlen.out Hx.out] at R
      have HR := Lib.hid R
      clear hown1 R
      go_wp2_with fail
      go_roundw
      case rel => exact ⟨k + 1, by omega, by go_num, HR.out.1, (hgr.trans hg1).grown HR.out.2 (fun _ e => by injection e with e; omega)⟩
      case measure => simp [intOf]; omega
    · obtain rfl : k = n := by omega
      go_wp2_with fail
      go_ret
      refine ⟨_, _, rfl, ?_, hgr⟩
      have e := fillTo_full GTr.zero l
      rw [Hlen.out] at e
      rw [e] at hownr
      exact hownr





end Go.Proofs.Ytaicmgbmlkhagaa
