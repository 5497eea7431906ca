/-
  The comparisons: eqX and eqXS say true of equal things. Printed by gen.py.
-/
import Derived.Test.YtihkkemkecifcaaRows
import Derived.Test.YtihkkemkecifcaaBase
import Derived.WalkKit
import Derived.ProofKit
import Derived.LoopTactic
import Derived.WalkLawsBesides
import Derived.WalkSpells
import Derived.Deep.RegionHeld3
namespace Go.Proofs.Ytihkkemkecifcaa
open Go.ChangeShapes Go.WideShapes Go.ChangeAt Go.RowKit

theorem eqNode_same (x : GNode) (w : World) :
    Calls Try.prog 64 #[.agg #[.string x.name, .int .i64 x.low, .int .i64 x.high], .agg #[.string x.name, .int .i64 x.low, .int .i64 x.high]] w fun e w' => e = .returned (.bool true) ∧ Gr w w' := by
  go_enter Try.func64, Try.ntmps64
  go_wp2
  go_ret
  exact ⟨rfl, ((Gr.refl _).alloc _).alloc _⟩
theorem eqNodeS_same (A A' : Option Addr) (n c c' : Nat) (l : List GNode) (w : World) (hn : n ≤ 1048576) (hA : Sl w 3 A n (l.flatMap GNode.cells)) (hA' : Sl w 3 A' n (l.flatMap GNode.cells)) :
    Calls Try.prog 42 #[.slice A n c, .slice A' n c'] w fun e w' => e = .returned (.bool true) ∧ Gr w w' := by
  have hlen := hA.len GNode.cells_len (by omega)
  have HA := Lib.hid hA
  have HA' := Lib.hid hA'
  have Hlen := Lib.hid hlen
  clear hA hA' hlen
  go_enter Try.func42, Try.ntmps42
  go_wp2_with fail
  go_loopw [5] (fun i wr => ∃ k : Nat, k ≤ n ∧ i = .int .i64 k ∧ Gr w wr) (fun i _ => n - (intOf i).toNat)
  case atStart => exact ⟨0, Nat.zero_le _, rfl, Gr.refl _⟩
  case round =>
    obtain ⟨k, hk, rfl, hgr⟩ := hrel
    by_cases hlt : k < n
    · obtain ⟨x, hx⟩ : ∃ x, l[k]? = some x := ⟨_, List.getElem?_eq_getElem (by have := Hlen.out; omega)⟩
      obtain ⟨b, o, rfl, hb, e0, e1, e2⟩ := (HA.out.gr hgr).nd hx
      obtain ⟨b', o', rfl, hb', e0', e1', e2'⟩ := (HA'.out.gr hgr).nd hx
      have Hx := Lib.hid hx
      clear hx
      go_wp2_with fail
      go_region_held3 (fun w' => Gr wr w' ∧ w'.cell? ⟨b, o + k * 3, none⟩ = some (.string x.name) ∧ w'.cell? ⟨b, o + k * 3 + 1, none⟩ = some (.int .i64 x.low) ∧ w'.cell? ⟨b, o + k * 3 + 2, none⟩ = some (.int .i64 x.high) ∧ w'.cell? ⟨b', o' + k * 3, none⟩ = some (.string x.name) ∧ w'.cell? ⟨b', o' + k * 3 + 1, none⟩ = some (.int .i64 x.low) ∧ w'.cell? ⟨b', o' + k * 3 + 2, none⟩ = some (.int .i64 x.high))
        (first | exact ⟨(Gr.refl _).drew, e0, e1, e2, e0', e1', e2'⟩ | exact ⟨by assumption, (by assumption : Gr wr _).has e0, (by assumption : Gr wr _).has e1, (by assumption : Gr wr _).has e2, (by assumption : Gr wr _).has e0', (by assumption : Gr wr _).has e1', (by assumption : Gr wr _).has e2'⟩)
        (first | (go_at_call 64; refine (eqNode_same x _).mono ?_; rintro e w' ⟨rfl, hg1⟩; have hg2 : Gr wr w' := (Gr.refl _).drew.trans hg1))
      go_wp2_with fail
      go_roundw
      case rel => exact ⟨k + 1, by omega, by go_num, hgr.trans (by assumption)⟩
      case measure => simp [intOf]; omega
    · obtain rfl : k = n := by omega
      go_wp2_with fail
      go_ret
      exact ⟨rfl, hgr⟩

theorem eqPipe_same (x : GPipe) (w : World) :
    Calls Try.prog 65 #[.agg #[.int .i64 x.src, .int .i64 x.dst, .int .i64 x.k, .int .i64 x.vol, .int .i64 x.lim], .agg #[.int .i64 x.src, .int .i64 x.dst, .int .i64 x.k, .int .i64 x.vol, .int .i64 x.lim]] w fun e w' => e = .returned (.bool true) ∧ Gr w w' := by
  go_enter Try.func65, Try.ntmps65
  go_wp2
  go_ret
  exact ⟨rfl, ((Gr.refl _).alloc _).alloc _⟩
theorem eqPipeS_same (A A' : Option Addr) (n c c' : Nat) (l : List GPipe) (w : World) (hn : n ≤ 1048576) (hA : Sl w 5 A n (l.flatMap GPipe.cells)) (hA' : Sl w 5 A' n (l.flatMap GPipe.cells)) :
    Calls Try.prog 43 #[.slice A n c, .slice A' n c'] w fun e w' => e = .returned (.bool true) ∧ Gr w w' := by
  have hlen := hA.len GPipe.cells_len (by omega)
  have HA := Lib.hid hA
  have HA' := Lib.hid hA'
  have Hlen := Lib.hid hlen
  clear hA hA' hlen
  go_enter Try.func43, Try.ntmps43
  go_wp2_with fail
  go_loopw [5] (fun i wr => ∃ k : Nat, k ≤ n ∧ i = .int .i64 k ∧ Gr w wr) (fun i _ => n - (intOf i).toNat)
  case atStart => exact ⟨0, Nat.zero_le _, rfl, Gr.refl _⟩
  case round =>
    obtain ⟨k, hk, rfl, hgr⟩ := hrel
    by_cases hlt : k < n
    · obtain ⟨x, hx⟩ : ∃ x, l[k]? = some x := ⟨_, List.getElem?_eq_getElem (by have := Hlen.out; omega)⟩
      obtain ⟨b, o, rfl, hb, e0, e1, e2, e3, e4⟩ := (HA.out.gr hgr).pp hx
      obtain ⟨b', o', rfl, hb', e0', e1', e2', e3', e4'⟩ := (HA'.out.gr hgr).pp hx
      have Hx := Lib.hid hx
      clear hx
      go_wp2_with fail
      go_region_held3 (fun w' => Gr wr w' ∧ w'.cell? ⟨b, o + k * 5, none⟩ = some (.int .i64 x.src) ∧ w'.cell? ⟨b, o + k * 5 + 1, none⟩ = some (.int .i64 x.dst) ∧ w'.cell? ⟨b, o + k * 5 + 2, none⟩ = some (.int .i64 x.k) ∧ w'.cell? ⟨b, o + k * 5 + 3, none⟩ = some (.int .i64 x.vol) ∧ w'.cell? ⟨b, o + k * 5 + 4, none⟩ = some (.int .i64 x.lim) ∧ w'.cell? ⟨b', o' + k * 5, none⟩ = some (.int .i64 x.src) ∧ w'.cell? ⟨b', o' + k * 5 + 1, none⟩ = some (.int .i64 x.dst) ∧ w'.cell? ⟨b', o' + k * 5 + 2, none⟩ = some (.int .i64 x.k) ∧ w'.cell? ⟨b', o' + k * 5 + 3, none⟩ = some (.int .i64 x.vol) ∧ w'.cell? ⟨b', o' + k * 5 + 4, none⟩ = some (.int .i64 x.lim))
        (first | exact ⟨(Gr.refl _).drew, e0, e1, e2, e3, e4, e0', e1', e2', e3', e4'⟩ | exact ⟨by assumption, (by assumption : Gr wr _).has e0, (by assumption : Gr wr _).has e1, (by assumption : Gr wr _).has e2, (by assumption : Gr wr _).has e3, (by assumption : Gr wr _).has e4, (by assumption : Gr wr _).has e0', (by assumption : Gr wr _).has e1', (by assumption : Gr wr _).has e2', (by assumption : Gr wr _).has e3', (by assumption : Gr wr _).has e4'⟩)
        (first | (go_at_call 65; refine (eqPipe_same x _).mono ?_; rintro e w' ⟨rfl, hg1⟩; have hg2 : Gr wr w' := (Gr.refl _).drew.trans hg1))
      go_wp2_with fail
      go_roundw
      case rel => exact ⟨k + 1, by omega, by go_num, hgr.trans (by assumption)⟩
      case measure => simp [intOf]; omega
    · obtain rfl : k = n := by omega
      go_wp2_with fail
      go_ret
      exact ⟨rfl, hgr⟩


theorem eqReading_same (x : GRd) (w : World) :
    Calls Try.prog 45 #[.agg #[.int .i64 x.node, .int .i64 x.amount], .agg #[.int .i64 x.node, .int .i64 x.amount]] w fun e w' => e = .returned (.bool true) ∧ Gr w w' := by
  go_enter Try.func45, Try.ntmps45
  go_wp2
  go_ret
  exact ⟨rfl, ((Gr.refl _).alloc _).alloc _⟩
theorem eqReadingS_same (A A' : Option Addr) (n c c' : Nat) (l : List GRd) (w : World) (hn : n ≤ 1048576) (hA : Sl w 2 A n (l.flatMap GRd.cells)) (hA' : Sl w 2 A' n (l.flatMap GRd.cells)) :
    Calls Try.prog 18 #[.slice A n c, .slice A' n c'] w fun e w' => e = .returned (.bool true) ∧ Gr w w' := by
  have hlen := hA.len GRd.cells_len (by omega)
  have HA := Lib.hid hA
  have HA' := Lib.hid hA'
  have Hlen := Lib.hid hlen
  clear hA hA' hlen
  go_enter Try.func18, Try.ntmps18
  go_wp2_with fail
  go_loopw [5] (fun i wr => ∃ k : Nat, k ≤ n ∧ i = .int .i64 k ∧ Gr w wr) (fun i _ => n - (intOf i).toNat)
  case atStart => exact ⟨0, Nat.zero_le _, rfl, Gr.refl _⟩
  case round =>
    obtain ⟨k, hk, rfl, hgr⟩ := hrel
    by_cases hlt : k < n
    · obtain ⟨x, hx⟩ : ∃ x, l[k]? = some x := ⟨_, List.getElem?_eq_getElem (by have := Hlen.out; omega)⟩
      obtain ⟨b, o, rfl, hb, e0, e1⟩ := (HA.out.gr hgr).rd hx
      obtain ⟨b', o', rfl, hb', e0', e1'⟩ := (HA'.out.gr hgr).rd hx
      have Hx := Lib.hid hx
      clear hx
      go_wp2_with fail
      go_region_held3 (fun w' => Gr wr w' ∧ w'.cell? ⟨b, o + k * 2, none⟩ = some (.int .i64 x.node) ∧ w'.cell? ⟨b, o + k * 2 + 1, none⟩ = some (.int .i64 x.amount) ∧ w'.cell? ⟨b', o' + k * 2, none⟩ = some (.int .i64 x.node) ∧ w'.cell? ⟨b', o' + k * 2 + 1, none⟩ = some (.int .i64 x.amount))
        (first | exact ⟨(Gr.refl _).drew, e0, e1, e0', e1'⟩ | exact ⟨by assumption, (by assumption : Gr wr _).has e0, (by assumption : Gr wr _).has e1, (by assumption : Gr wr _).has e0', (by assumption : Gr wr _).has e1'⟩)
        (first | (go_at_call 45; refine (eqReading_same x _).mono ?_; rintro e w' ⟨rfl, hg1⟩; have hg2 : Gr wr w' := (Gr.refl _).drew.trans hg1))
      go_wp2_with fail
      go_roundw
      case rel => exact ⟨k + 1, by omega, by go_num, hgr.trans (by assumption)⟩
      case measure => simp [intOf]; omega
    · obtain rfl : k = n := by omega
      go_wp2_with fail
      go_ret
      exact ⟨rfl, hgr⟩

theorem eqOrder_same (x : GOrd) (w : World) :
    Calls Try.prog 44 #[.agg #[.int .i64 x.shipper, .int .i64 x.node, .int .i64 x.amount, .int .i64 x.cls], .agg #[.int .i64 x.shipper, .int .i64 x.node, .int .i64 x.amount, .int .i64 x.cls]] w fun e w' => e = .returned (.bool true) ∧ Gr w w' := by
  go_enter Try.func44, Try.ntmps44
  go_wp2
  go_ret
  exact ⟨rfl, ((Gr.refl _).alloc _).alloc _⟩
theorem eqOrderS_same (A A' : Option Addr) (n c c' : Nat) (l : List GOrd) (w : World) (hn : n ≤ 1048576) (hA : Sl w 4 A n (l.flatMap GOrd.cells)) (hA' : Sl w 4 A' n (l.flatMap GOrd.cells)) :
    Calls Try.prog 17 #[.slice A n c, .slice A' n c'] w fun e w' => e = .returned (.bool true) ∧ Gr w w' := by
  have hlen := hA.len GOrd.cells_len (by omega)
  have HA := Lib.hid hA
  have HA' := Lib.hid hA'
  have Hlen := Lib.hid hlen
  clear hA hA' hlen
  go_enter Try.func17, Try.ntmps17
  go_wp2_with fail
  go_loopw [5] (fun i wr => ∃ k : Nat, k ≤ n ∧ i = .int .i64 k ∧ Gr w wr) (fun i _ => n - (intOf i).toNat)
  case atStart => exact ⟨0, Nat.zero_le _, rfl, Gr.refl _⟩
  case round =>
    obtain ⟨k, hk, rfl, hgr⟩ := hrel
    by_cases hlt : k < n
    · obtain ⟨x, hx⟩ : ∃ x, l[k]? = some x := ⟨_, List.getElem?_eq_getElem (by have := Hlen.out; omega)⟩
      obtain ⟨b, o, rfl, hb, e0, e1, e2, e3⟩ := (HA.out.gr hgr).ord hx
      obtain ⟨b', o', rfl, hb', e0', e1', e2', e3'⟩ := (HA'.out.gr hgr).ord hx
      have Hx := Lib.hid hx
      clear hx
      go_wp2_with fail
      go_region_held3 (fun w' => Gr wr w' ∧ w'.cell? ⟨b, o + k * 4, none⟩ = some (.int .i64 x.shipper) ∧ w'.cell? ⟨b, o + k * 4 + 1, none⟩ = some (.int .i64 x.node) ∧ w'.cell? ⟨b, o + k * 4 + 2, none⟩ = some (.int .i64 x.amount) ∧ w'.cell? ⟨b, o + k * 4 + 3, none⟩ = some (.int .i64 x.cls) ∧ w'.cell? ⟨b', o' + k * 4, none⟩ = some (.int .i64 x.shipper) ∧ w'.cell? ⟨b', o' + k * 4 + 1, none⟩ = some (.int .i64 x.node) ∧ w'.cell? ⟨b', o' + k * 4 + 2, none⟩ = some (.int .i64 x.amount) ∧ w'.cell? ⟨b', o' + k * 4 + 3, none⟩ = some (.int .i64 x.cls))
        (first | exact ⟨(Gr.refl _).drew, e0, e1, e2, e3, e0', e1', e2', e3'⟩ | exact ⟨by assumption, (by assumption : Gr wr _).has e0, (by assumption : Gr wr _).has e1, (by assumption : Gr wr _).has e2, (by assumption : Gr wr _).has e3, (by assumption : Gr wr _).has e0', (by assumption : Gr wr _).has e1', (by assumption : Gr wr _).has e2', (by assumption : Gr wr _).has e3'⟩)
        (first | (go_at_call 44; refine (eqOrder_same x _).mono ?_; rintro e w' ⟨rfl, hg1⟩; have hg2 : Gr wr w' := (Gr.refl _).drew.trans hg1))
      go_wp2_with fail
      go_roundw
      case rel => exact ⟨k + 1, by omega, by go_num, hgr.trans (by assumption)⟩
      case measure => simp [intOf]; omega
    · obtain rfl : k = n := by omega
      go_wp2_with fail
      go_ret
      exact ⟨rfl, hgr⟩



end Go.Proofs.Ytihkkemkecifcaa
