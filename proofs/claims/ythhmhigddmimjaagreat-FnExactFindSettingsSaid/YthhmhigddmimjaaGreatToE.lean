import Derived.Test.YthhmhigddmimjaaGreatRows
import Derived.Test.YthhmhigddmimjaaGreatBase
import Derived.WalkKit
import Derived.ProofKit
import Derived.LoopTactic
import Derived.WalkLawsBesides
import Derived.WalkSpells
import Derived.Deep.RegionHeld3
/-
  The copies: toX and toXS return what they are given, in new memory. Printed by gen.py.
-/
namespace Go.Proofs.YthhmhigddmimjaaGreat
open Go.ChangeShapes Go.WideShapes Go.ChangeAt Go.RowKit

theorem toNode_any (x : GNode) (w : World) :
    Calls Tryz.prog 89 #[.agg #[.string x.name, .int .i64 x.low, .int .i64 x.high]] w fun e w' => e = .returned (.agg #[.string x.name, .int .i64 x.low, .int .i64 x.high]) ∧ Gr w w' := by
  go_enter Tryz.func89, Tryz.ntmps89
  go_wp2
  exact bodyPost_ret (v := .agg #[.string x.name, .int .i64 x.low, .int .i64 x.high]) (by simp [results, Tryz.results89, go_sem]) rfl ⟨rfl, (((Gr.refl _).alloc _).alloc _).alloc _⟩
theorem infoNode : (Tryz.prog.info? 62).map (fun i => (i.zero, i.size, i.bytes)) = some (some (.agg #[.string ByteArray.empty, .int .i64 0, .int .i64 0]), 3, 32) := by kernel_rfl
theorem toNodeS_any (A : Option Addr) (n c : Nat) (l : List GNode) (w : World) (hn : n ≤ 1048576) (hA : Sl w 3 A n (l.flatMap GNode.cells)) :
    Calls Tryz.prog 51 #[.slice A n c] w fun e w' => ∃ A' c',
      e = .returned (.slice A' n c') ∧ w'.ownsRow w.heap.size 62 3 (.slice A' n c') n (l.flatMap GNode.cells) ∧ Gr w w' := by
  obtain ⟨i0, hi0, hz0, hz1, hz2⟩ := info_parts infoNode
  have hlen := hA.len GNode.cells_len (by omega)
  have HA := Lib.hid hA
  have Hlen := Lib.hid hlen
  clear hA hlen
  go_enter Tryz.func51, Tryz.ntmps51
  go_wp2_with (at_make; refine wpList_make_full _ rfl _ _ _ rfl w.heap.size 62 i0 _ 3 Tryz.underlying29 hi0 hz0 hz1 .i64 .i64 _ _ n rfl rfl rfl rfl (by rw [hz2]; omega) (by unfold maxLen; omega) (Nat.le_refl _) ?_; intro w1 hown hg)
  have hg' : Gr w w1 := Gr.of_grown hg
  have ez : (madeCells (Value.agg #[.string ByteArray.empty, .int .i64 0, .int .i64 0]).cells (n * 3)).toList = (fillTo GNode.zero l n 0).flatMap GNode.cells := by
    rw [fillTo_zero]; exact made_flat GNode.cells GNode.zero _ 3 rfl rfl (by omega) n
  rw [ez] at hown
  clear ez hg hi0 hz0 hz1 hz2
  go_loopw [4, 20, 21] (fun i _ _ wr => ∃ k : Nat, k ≤ n ∧ i = .int .i64 k ∧ wr.ownsRow w.heap.size 62 3 (.slice (some ⟨w.heap.size, 0, none⟩) n n) n ((fillTo GNode.zero l n k).flatMap GNode.cells) ∧ Gr w wr) (fun i _ _ _ => n - (intOf i).toNat)
  case atStart => exact ⟨0, Nat.zero_le _, rfl, hown, hg'⟩
  case round =>
    obtain ⟨k, hk, rfl, hownr, hgr⟩ := hrel
    clear hown hg'
    by_cases hlt : k < n
    · have HA1 := HA.out.gr hgr
      obtain ⟨x, hx⟩ : ∃ x, l[k]? = some x := ⟨_, List.getElem?_eq_getElem (by have := Hlen.out; omega)⟩
      obtain ⟨b, o, rfl, hb, e0, e1, e2⟩ := HA1.nd hx
      have Hx := Lib.hid hx
      have Hown := Lib.hid hownr
      clear hx HA1 hownr
      go_wp2_with fail
      refine (toNode_any x _).mono ?_
      rintro e w' ⟨rfl, hg1⟩
      have hown1 := own_gr Hown.out hg1
      obtain ⟨d0, d1, d2, f0, f1, f2⟩ := own_nd hown1 (fillTo_get _ _ Hlen.out hlt)
      have R := own_set_nd hown1 x hlt
      rw [fillTo_set _ _ Hlen.out Hx.out] at R
      have HR := Lib.hid R
      clear hown1 R
      go_wp2_with fail
      go_roundw
      case rel => exact ⟨k + 1, by omega, by go_num, HR.out.1, (hgr.trans hg1).grown HR.out.2 (fun _ e => by injection e with e; omega)⟩
      case measure => simp [intOf]; omega
    · obtain rfl : k = n := by omega
      go_wp2_with fail
      go_ret
      refine ⟨_, _, rfl, ?_, hgr⟩
      have e := fillTo_full GNode.zero l
      rw [Hlen.out] at e
      rw [e] at hownr
      exact hownr

theorem toPipe_any (x : GPipe) (w : World) :
    Calls Tryz.prog 90 #[.agg #[.int .i64 x.src, .int .i64 x.dst, .int .i64 x.k, .int .i64 x.vol, .int .i64 x.lim]] w fun e w' => e = .returned (.agg #[.int .i64 x.src, .int .i64 x.dst, .int .i64 x.k, .int .i64 x.vol, .int .i64 x.lim]) ∧ Gr w w' := by
  go_enter Tryz.func90, Tryz.ntmps90
  go_wp2
  exact bodyPost_ret (v := .agg #[.int .i64 x.src, .int .i64 x.dst, .int .i64 x.k, .int .i64 x.vol, .int .i64 x.lim]) (by simp [results, Tryz.results90, go_sem]) rfl ⟨rfl, (((Gr.refl _).alloc _).alloc _).alloc _⟩
theorem infoPipe : (Tryz.prog.info? 95).map (fun i => (i.zero, i.size, i.bytes)) = some (some (.agg #[.int .i64 0, .int .i64 0, .int .i64 0, .int .i64 0, .int .i64 0]), 5, 40) := by kernel_rfl
theorem toPipeS_any (A : Option Addr) (n c : Nat) (l : List GPipe) (w : World) (hn : n ≤ 1048576) (hA : Sl w 5 A n (l.flatMap GPipe.cells)) :
    Calls Tryz.prog 52 #[.slice A n c] w fun e w' => ∃ A' c',
      e = .returned (.slice A' n c') ∧ w'.ownsRow w.heap.size 95 5 (.slice A' n c') n (l.flatMap GPipe.cells) ∧ Gr w w' := by
  obtain ⟨i0, hi0, hz0, hz1, hz2⟩ := info_parts infoPipe
  have hlen := hA.len GPipe.cells_len (by omega)
  have HA := Lib.hid hA
  have Hlen := Lib.hid hlen
  clear hA hlen
  go_enter Tryz.func52, Tryz.ntmps52
  go_wp2_with (at_make; refine wpList_make_full _ rfl _ _ _ rfl w.heap.size 95 i0 _ 5 Tryz.underlying30 hi0 hz0 hz1 .i64 .i64 _ _ n rfl rfl rfl rfl (by rw [hz2]; omega) (by unfold maxLen; omega) (Nat.le_refl _) ?_; intro w1 hown hg)
  have hg' : Gr w w1 := Gr.of_grown hg
  have ez : (madeCells (Value.agg #[.int .i64 0, .int .i64 0, .int .i64 0, .int .i64 0, .int .i64 0]).cells (n * 5)).toList = (fillTo GPipe.zero l n 0).flatMap GPipe.cells := by
    rw [fillTo_zero]; exact made_flat GPipe.cells GPipe.zero _ 5 rfl rfl (by omega) n
  rw [ez] at hown
  clear ez hg hi0 hz0 hz1 hz2
  go_loopw [4, 20, 21] (fun i _ _ wr => ∃ k : Nat, k ≤ n ∧ i = .int .i64 k ∧ wr.ownsRow w.heap.size 95 5 (.slice (some ⟨w.heap.size, 0, none⟩) n n) n ((fillTo GPipe.zero l n k).flatMap GPipe.cells) ∧ Gr w wr) (fun i _ _ _ => n - (intOf i).toNat)
  case atStart => exact ⟨0, Nat.zero_le _, rfl, hown, hg'⟩
  case round =>
    obtain ⟨k, hk, rfl, hownr, hgr⟩ := hrel
    clear hown hg'
    by_cases hlt : k < n
    · have HA1 := HA.out.gr hgr
      obtain ⟨x, hx⟩ : ∃ x, l[k]? = some x := ⟨_, List.getElem?_eq_getElem (by have := Hlen.out; omega)⟩
      obtain ⟨b, o, rfl, hb, e0, e1, e2, e3, e4⟩ := HA1.pp hx
      have Hx := Lib.hid hx
      have Hown := Lib.hid hownr
      clear hx HA1 hownr
      go_wp2_with fail
      refine (toPipe_any x _).mono ?_
      rintro e w' ⟨rfl, hg1⟩
      have hown1 := own_gr Hown.out hg1
      obtain ⟨d0, d1, d2, d3, d4, f0, f1, f2, f3, f4⟩ := own_pp hown1 (fillTo_get _ _ Hlen.out hlt)
      have R := own_set_pp hown1 x hlt
      rw [fillTo_set _ _ Hlen.out Hx.out] at R
      have HR := Lib.hid R
      clear hown1 R
      go_wp2_with fail
      go_roundw
      case rel => exact ⟨k + 1, by omega, by go_num, HR.out.1, (hgr.trans hg1).grown HR.out.2 (fun _ e => by injection e with e; omega)⟩
      case measure => simp [intOf]; omega
    · obtain rfl : k = n := by omega
      go_wp2_with fail
      go_ret
      refine ⟨_, _, rfl, ?_, hgr⟩
      have e := fillTo_full GPipe.zero l
      rw [Hlen.out] at e
      rw [e] at hownr
      exact hownr

end Go.Proofs.YthhmhigddmimjaaGreat
/-
  The comparisons: eqX and eqXS say true of equal things. Printed by gen.py.
-/
namespace Go.Proofs.YthhmhigddmimjaaGreat
open Go.ChangeShapes Go.WideShapes Go.ChangeAt Go.RowKit

theorem eqNode_same (x : GNode) (w : World) :
    Calls Tryz.prog 95 #[.agg #[.string x.name, .int .i64 x.low, .int .i64 x.high], .agg #[.string x.name, .int .i64 x.low, .int .i64 x.high]] w fun e w' => e = .returned (.bool true) ∧ Gr w w' := by
  go_enter Tryz.func95, Tryz.ntmps95
  go_wp2
  go_ret
  exact ⟨rfl, ((Gr.refl _).alloc _).alloc _⟩
theorem eqNodeS_same (A A' : Option Addr) (n c c' : Nat) (l : List GNode) (w : World) (hn : n ≤ 1048576) (hA : Sl w 3 A n (l.flatMap GNode.cells)) (hA' : Sl w 3 A' n (l.flatMap GNode.cells)) :
    Calls Tryz.prog 57 #[.slice A n c, .slice A' n c'] w fun e w' => e = .returned (.bool true) ∧ Gr w w' := by
  have hlen := hA.len GNode.cells_len (by omega)
  have HA := Lib.hid hA
  have HA' := Lib.hid hA'
  have Hlen := Lib.hid hlen
  clear hA hA' hlen
  go_enter Tryz.func57, Tryz.ntmps57
  go_wp2_with fail
  go_loopw [5] (fun i wr => ∃ k : Nat, k ≤ n ∧ i = .int .i64 k ∧ Gr w wr) (fun i _ => n - (intOf i).toNat)
  case atStart => exact ⟨0, Nat.zero_le _, rfl, Gr.refl _⟩
  case round =>
    obtain ⟨k, hk, rfl, hgr⟩ := hrel
    by_cases hlt : k < n
    · obtain ⟨x, hx⟩ : ∃ x, l[k]? = some x := ⟨_, List.getElem?_eq_getElem (by have := Hlen.out; omega)⟩
      obtain ⟨b, o, rfl, hb, e0, e1, e2⟩ := (HA.out.gr hgr).nd hx
      obtain ⟨b', o', rfl, hb', e0', e1', e2'⟩ := (HA'.out.gr hgr).nd hx
      have Hx := Lib.hid hx
      clear hx
      go_wp2_with fail
      go_region_held3 (fun w' => Gr wr w' ∧ w'.cell? ⟨b, o + k * 3, none⟩ = some (.string x.name) ∧ w'.cell? ⟨b, o + k * 3 + 1, none⟩ = some (.int .i64 x.low) ∧ w'.cell? ⟨b, o + k * 3 + 2, none⟩ = some (.int .i64 x.high) ∧ w'.cell? ⟨b', o' + k * 3, none⟩ = some (.string x.name) ∧ w'.cell? ⟨b', o' + k * 3 + 1, none⟩ = some (.int .i64 x.low) ∧ w'.cell? ⟨b', o' + k * 3 + 2, none⟩ = some (.int .i64 x.high))
        (first | exact ⟨(Gr.refl _).drew, e0, e1, e2, e0', e1', e2'⟩ | exact ⟨by assumption, (by assumption : Gr wr _).has e0, (by assumption : Gr wr _).has e1, (by assumption : Gr wr _).has e2, (by assumption : Gr wr _).has e0', (by assumption : Gr wr _).has e1', (by assumption : Gr wr _).has e2'⟩)
        (first | (go_at_call 95; refine (eqNode_same x _).mono ?_; rintro e w' ⟨rfl, hg1⟩; have hg2 : Gr wr w' := (Gr.refl _).drew.trans hg1))
      go_wp2_with fail
      go_roundw
      case rel => exact ⟨k + 1, by omega, by go_num, hgr.trans (by assumption)⟩
      case measure => simp [intOf]; omega
    · obtain rfl : k = n := by omega
      go_wp2_with fail
      go_ret
      exact ⟨rfl, hgr⟩

theorem eqPipe_same (x : GPipe) (w : World) :
    Calls Tryz.prog 96 #[.agg #[.int .i64 x.src, .int .i64 x.dst, .int .i64 x.k, .int .i64 x.vol, .int .i64 x.lim], .agg #[.int .i64 x.src, .int .i64 x.dst, .int .i64 x.k, .int .i64 x.vol, .int .i64 x.lim]] w fun e w' => e = .returned (.bool true) ∧ Gr w w' := by
  go_enter Tryz.func96, Tryz.ntmps96
  go_wp2
  go_ret
  exact ⟨rfl, ((Gr.refl _).alloc _).alloc _⟩
theorem eqPipeS_same (A A' : Option Addr) (n c c' : Nat) (l : List GPipe) (w : World) (hn : n ≤ 1048576) (hA : Sl w 5 A n (l.flatMap GPipe.cells)) (hA' : Sl w 5 A' n (l.flatMap GPipe.cells)) :
    Calls Tryz.prog 58 #[.slice A n c, .slice A' n c'] w fun e w' => e = .returned (.bool true) ∧ Gr w w' := by
  have hlen := hA.len GPipe.cells_len (by omega)
  have HA := Lib.hid hA
  have HA' := Lib.hid hA'
  have Hlen := Lib.hid hlen
  clear hA hA' hlen
  go_enter Tryz.func58, Tryz.ntmps58
  go_wp2_with fail
  go_loopw [5] (fun i wr => ∃ k : Nat, k ≤ n ∧ i = .int .i64 k ∧ Gr w wr) (fun i _ => n - (intOf i).toNat)
  case atStart => exact ⟨0, Nat.zero_le _, rfl, Gr.refl _⟩
  case round =>
    obtain ⟨k, hk, rfl, hgr⟩ := hrel
    by_cases hlt : k < n
    · obtain ⟨x, hx⟩ : ∃ x, l[k]? = some x := ⟨_, List.getElem?_eq_getElem (by have := Hlen.out; omega)⟩
      obtain ⟨b, o, rfl, hb, e0, e1, e2, e3, e4⟩ := (HA.out.gr hgr).pp hx
      obtain ⟨b', o', rfl, hb', e0', e1', e2', e3', e4'⟩ := (HA'.out.gr hgr).pp hx
      have Hx := Lib.hid hx
      clear hx
      go_wp2_with fail
      go_region_held3 (fun w' => Gr wr w' ∧ w'.cell? ⟨b, o + k * 5, none⟩ = some (.int .i64 x.src) ∧ w'.cell? ⟨b, o + k * 5 + 1, none⟩ = some (.int .i64 x.dst) ∧ w'.cell? ⟨b, o + k * 5 + 2, none⟩ = some (.int .i64 x.k) ∧ w'.cell? ⟨b, o + k * 5 + 3, none⟩ = some (.int .i64 x.vol) ∧ w'.cell? ⟨b, o + k * 5 + 4, none⟩ = some (.int .i64 x.lim) ∧ w'.cell? ⟨b', o' + k * 5, none⟩ = some (.int .i64 x.src) ∧ w'.cell? ⟨b', o' + k * 5 + 1, none⟩ = some (.int .i64 x.dst) ∧ w'.cell? ⟨b', o' + k * 5 + 2, none⟩ = some (.int .i64 x.k) ∧ w'.cell? ⟨b', o' + k * 5 + 3, none⟩ = some (.int .i64 x.vol) ∧ w'.cell? ⟨b', o' + k * 5 + 4, none⟩ = some (.int .i64 x.lim))
        (first | exact ⟨(Gr.refl _).drew, e0, e1, e2, e3, e4, e0', e1', e2', e3', e4'⟩ | exact ⟨by assumption, (by assumption : Gr wr _).has e0, (by assumption : Gr wr _).has e1, (by assumption : Gr wr _).has e2, (by assumption : Gr wr _).has e3, (by assumption : Gr wr _).has e4, (by assumption : Gr wr _).has e0', (by assumption : Gr wr _).has e1', (by assumption : Gr wr _).has e2', (by assumption : Gr wr _).has e3', (by assumption : Gr wr _).has e4'⟩)
        (first | (go_at_call 96; refine (eqPipe_same x _).mono ?_; rintro e w' ⟨rfl, hg1⟩; have hg2 : Gr wr w' := (Gr.refl _).drew.trans hg1))
      go_wp2_with fail
      go_roundw
      case rel => exact ⟨k + 1, by omega, by go_num, hgr.trans (by assumption)⟩
      case measure => simp [intOf]; omega
    · obtain rfl : k = n := by omega
      go_wp2_with fail
      go_ret
      exact ⟨rfl, hgr⟩






end Go.Proofs.YthhmhigddmimjaaGreat
/-
  markXS overwrites a row of the caller, heldXS says that it still holds what was written. Printed by gen.py.
-/
namespace Go.Proofs.YthhmhigddmimjaaGreat
open Go.ChangeShapes Go.WideShapes Go.ChangeAt Go.RowKit

def GPipe.mark (c : Int) (i : Nat) : GPipe := ⟨c + 5 * i + 0, c + 5 * i + 1, c + 5 * i + 2, c + 5 * i + 3, c + 5 * i + 4⟩
theorem markPipeS_any (A : Option Addr) (n cp base : Nat) (e0 : TypeId) (ys : List GPipe) (c0 : Int) (w : World) (hn : n ≤ 1048576) (h0 : 0 ≤ c0) (h1 : c0 ≤ 1099511627776) (hA : w.ownsRow base e0 5 (.slice A n cp) n (ys.flatMap GPipe.cells)) :
    Calls Tryz.prog 66 #[.slice A n cp, .int .i64 c0] w fun e w' => e = .returned (.int .i64 (c0 + 5 * n)) ∧ w'.ownsRow base e0 5 (.slice A n cp) n (((List.range n).map (GPipe.mark c0)).flatMap GPipe.cells) ∧ w.grownBy w' (Value.slice A n cp).ownBlock := by
  have hlen := own_len hA GPipe.cells_len (by omega)
  have Hlen := Lib.hid hlen
  have HA := Lib.hid hA
  clear hA hlen
  go_enter Tryz.func66, Tryz.ntmps66
  go_wp2_with fail
  go_loopw [1, 5] (fun q i wr => ∃ k : Nat, ∃ c : Int, k ≤ n ∧ i = .int .i64 k ∧ q = .int .i64 c ∧ c = c0 + 5 * k ∧ wr.ownsRow base e0 5 (.slice A n cp) n ((overTo (GPipe.mark c0) ys k).flatMap GPipe.cells) ∧ w.grownBy wr (Value.slice A n cp).ownBlock) (fun _ i _ => n - (intOf i).toNat)
  case atStart => exact ⟨0, c0, Nat.zero_le _, rfl, rfl, by omega, by rw [overTo_zero]; exact HA.out, World.grownBy.refl w _⟩
  case round =>
    obtain ⟨k, c, hk, rfl, rfl, hc, hown, hgr⟩ := hrel
    by_cases hlt : k < n
    · have c1 : 0 ≤ c := by omega
      have c2 : c ≤ 2199023255552 := by omega
      obtain ⟨x, hx⟩ : ∃ x, ys[k]? = some x := ⟨_, List.getElem?_eq_getElem (by have := Hlen.out; omega)⟩
      obtain ⟨g, rfl, _, _⟩ := own_form hown (by omega)
      obtain ⟨d0, d1, d2, d3, d4, f0, f1, f2, f3, f4⟩ := own_pp hown ((overTo_get _ _ _).trans hx)
      have R := own_set_pp hown ⟨c, c + 1, c + 1 + 1, c + 1 + 1 + 1, c + 1 + 1 + 1 + 1⟩ hlt
      rw [overTo_set _ _ (by have := Hlen.out; omega) (by simp [GPipe.mark]; omega)] at R
      have HR := Lib.hid R
      have Hc := Lib.hid hc
      have Hg := Lib.hid hgr
      clear hown R hc hx hgr
      go_wp2_with fail
      go_roundw
      case rel => exact ⟨k + 1, c + 1 + 1 + 1 + 1 + 1, by omega, by go_num, rfl, by have := Hc.out; omega, HR.out.1, grown_trans Hg.out HR.out.2⟩
      case measure => simp [intOf]; omega
    · obtain rfl : k = n := by omega
      have H := Lib.hid hown
      have Hc := Lib.hid hc
      clear hown hc
      go_wp2_with fail
      go_ret
      refine ⟨ret_int Hc.out, ?_, hgr⟩
      have e := overTo_full (GPipe.mark c0) ys
      rw [Hlen.out] at e
      rw [← e]
      exact H.out

def GTr.mark (c : Int) (i : Nat) : GTr := ⟨c + 4 * i + 0, c + 4 * i + 1, c + 4 * i + 2, c + 4 * i + 3⟩

def GRd.mark (c : Int) (i : Nat) : GRd := ⟨c + 2 * i + 0, c + 2 * i + 1⟩

def GOrd.mark (c : Int) (i : Nat) : GOrd := ⟨c + 4 * i + 0, c + 4 * i + 1, c + 4 * i + 2, c + 4 * i + 3⟩

def GCon.mark (c : Int) (i : Nat) : GCon := ⟨c + 8 * i + 0, c + 8 * i + 1, c + 8 * i + 2, c + 8 * i + 3, c + 8 * i + 4, c + 8 * i + 5, c + 8 * i + 6, c + 8 * i + 7⟩

def GNom.mark (c : Int) (i : Nat) : GNom := ⟨c + 4 * i + 0, c + 4 * i + 1, c + 4 * i + 2, c + 4 * i + 3⟩

end Go.Proofs.YthhmhigddmimjaaGreat
