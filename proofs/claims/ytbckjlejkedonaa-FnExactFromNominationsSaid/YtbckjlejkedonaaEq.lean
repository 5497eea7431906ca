/-
  The comparisons: eqX and eqXS say true of equal things. Printed by gen.py.
-/
import Derived.Test.YtbckjlejkedonaaRows
import Derived.Test.YtbckjlejkedonaaBase
import Derived.WalkKit
import Derived.ProofKit
import Derived.LoopTactic
import Derived.WalkLawsBesides
import Derived.WalkSpells
import Derived.Deep.RegionHeld3
namespace Go.Proofs.Ytbckjlejkedonaa
open Go.ChangeShapes Go.WideShapes Go.ChangeAt Go.RowKit

theorem eqNode_same (x : GNode) (w : World) :
    Calls Try.prog 164 #[.agg #[.string x.name, .int .i64 x.low, .int .i64 x.high], .agg #[.string x.name, .int .i64 x.low, .int .i64 x.high]] w fun e w' => e = .returned (.bool true) ∧ Gr w w' := by
  go_enter Try.func164, Try.ntmps164
  go_wp2
  go_ret
  exact ⟨rfl, ((Gr.refl _).alloc _).alloc _⟩
theorem eqNodeS_same (A A' : Option Addr) (n c c' : Nat) (l : List GNode) (w : World) (hn : n ≤ 1048576) (hA : Sl w 3 A n (l.flatMap GNode.cells)) (hA' : Sl w 3 A' n (l.flatMap GNode.cells)) :
    Calls Try.prog 85 #[.slice A n c, .slice A' n c'] w fun e w' => e = .returned (.bool true) ∧ Gr w w' := by
  have hlen := hA.len GNode.cells_len (by omega)
  have HA := Lib.hid hA
  have HA' := Lib.hid hA'
  have Hlen := Lib.hid hlen
  clear hA hA' hlen
  go_enter Try.func85, Try.ntmps85
  go_wp2_with fail
  go_loopw [5] (fun i wr => ∃ k : Nat, k ≤ n ∧ i = .int .i64 k ∧ Gr w wr) (fun i _ => n - (intOf i).toNat)
  case atStart => exact ⟨0, Nat.zero_le _, rfl, Gr.refl _⟩
  case round =>
    obtain ⟨k, hk, rfl, hgr⟩ := hrel
    by_cases hlt : k < n
    · obtain ⟨x, hx⟩ : ∃ x, l[k]? = some x := ⟨_, List.getElem?_eq_getElem (by have := Hlen.out; omega)⟩
      obtain ⟨b, o, rfl, hb, e0, e1, e2⟩ := (HA.out.gr hgr).nd hx
      obtain ⟨b', o', rfl, hb', e0', e1', e2'⟩ := (HA'.out.gr hgr).nd hx
      have Hx := Lib.hid hx
      clear hx
      go_wp2_with fail
      go_region_held3 (fun w' => Gr wr w' ∧ w'.cell? ⟨b, o + k * 3, none⟩ = some (.string x.name) ∧ w'.cell? ⟨b, o + k * 3 + 1, none⟩ = some (.int .i64 x.low) ∧ w'.cell? ⟨b, o + k * 3 + 2, none⟩ = some (.int .i64 x.high) ∧ w'.cell? ⟨b', o' + k * 3, none⟩ = some (.string x.name) ∧ w'.cell? ⟨b', o' + k * 3 + 1, none⟩ = some (.int .i64 x.low) ∧ w'.cell? ⟨b', o' + k * 3 + 2, none⟩ = some (.int .i64 x.high))
        (first | exact ⟨(Gr.refl _).drew, e0, e1, e2, e0', e1', e2'⟩ | exact ⟨by assumption, (by assumption : Gr wr _).has e0, (by assumption : Gr wr _).has e1, (by assumption : Gr wr _).has e2, (by assumption : Gr wr _).has e0', (by assumption : Gr wr _).has e1', (by assumption : Gr wr _).has e2'⟩)
        (first | (go_at_call 164; refine (eqNode_same x _).mono ?_; rintro e w' ⟨rfl, hg1⟩; have hg2 : Gr wr w' := (Gr.refl _).drew.trans hg1))
      go_wp2_with fail
      go_roundw
      case rel => exact ⟨k + 1, by omega, by go_num, hgr.trans (by assumption)⟩
      case measure => simp [intOf]; omega
    · obtain rfl : k = n := by omega
      go_wp2_with fail
      go_ret
      exact ⟨rfl, hgr⟩

theorem eqPipe_same (x : GPipe) (w : World) :
    Calls Try.prog 165 #[.agg #[.int .i64 x.src, .int .i64 x.dst, .int .i64 x.k, .int .i64 x.vol, .int .i64 x.lim], .agg #[.int .i64 x.src, .int .i64 x.dst, .int .i64 x.k, .int .i64 x.vol, .int .i64 x.lim]] w fun e w' => e = .returned (.bool true) ∧ Gr w w' := by
  go_enter Try.func165, Try.ntmps165
  go_wp2
  go_ret
  exact ⟨rfl, ((Gr.refl _).alloc _).alloc _⟩
theorem eqPipeS_same (A A' : Option Addr) (n c c' : Nat) (l : List GPipe) (w : World) (hn : n ≤ 1048576) (hA : Sl w 5 A n (l.flatMap GPipe.cells)) (hA' : Sl w 5 A' n (l.flatMap GPipe.cells)) :
    Calls Try.prog 86 #[.slice A n c, .slice A' n c'] w fun e w' => e = .returned (.bool true) ∧ Gr w w' := by
  have hlen := hA.len GPipe.cells_len (by omega)
  have HA := Lib.hid hA
  have HA' := Lib.hid hA'
  have Hlen := Lib.hid hlen
  clear hA hA' hlen
  go_enter Try.func86, Try.ntmps86
  go_wp2_with fail
  go_loopw [5] (fun i wr => ∃ k : Nat, k ≤ n ∧ i = .int .i64 k ∧ Gr w wr) (fun i _ => n - (intOf i).toNat)
  case atStart => exact ⟨0, Nat.zero_le _, rfl, Gr.refl _⟩
  case round =>
    obtain ⟨k, hk, rfl, hgr⟩ := hrel
    by_cases hlt : k < n
    · obtain ⟨x, hx⟩ : ∃ x, l[k]? = some x := ⟨_, List.getElem?_eq_getElem (by have := Hlen.out; omega)⟩
      obtain ⟨b, o, rfl, hb, e0, e1, e2, e3, e4⟩ := (HA.out.gr hgr).pp hx
      obtain ⟨b', o', rfl, hb', e0', e1', e2', e3', e4'⟩ := (HA'.out.gr hgr).pp hx
      have Hx := Lib.hid hx
      clear hx
      go_wp2_with fail
      go_region_held3 (fun w' => Gr wr w' ∧ w'.cell? ⟨b, o + k * 5, none⟩ = some (.int .i64 x.src) ∧ w'.cell? ⟨b, o + k * 5 + 1, none⟩ = some (.int .i64 x.dst) ∧ w'.cell? ⟨b, o + k * 5 + 2, none⟩ = some (.int .i64 x.k) ∧ w'.cell? ⟨b, o + k * 5 + 3, none⟩ = some (.int .i64 x.vol) ∧ w'.cell? ⟨b, o + k * 5 + 4, none⟩ = some (.int .i64 x.lim) ∧ w'.cell? ⟨b', o' + k * 5, none⟩ = some (.int .i64 x.src) ∧ w'.cell? ⟨b', o' + k * 5 + 1, none⟩ = some (.int .i64 x.dst) ∧ w'.cell? ⟨b', o' + k * 5 + 2, none⟩ = some (.int .i64 x.k) ∧ w'.cell? ⟨b', o' + k * 5 + 3, none⟩ = some (.int .i64 x.vol) ∧ w'.cell? ⟨b', o' + k * 5 + 4, none⟩ = some (.int .i64 x.lim))
        (first | exact ⟨(Gr.refl _).drew, e0, e1, e2, e3, e4, e0', e1', e2', e3', e4'⟩ | exact ⟨by assumption, (by assumption : Gr wr _).has e0, (by assumption : Gr wr _).has e1, (by assumption : Gr wr _).has e2, (by assumption : Gr wr _).has e3, (by assumption : Gr wr _).has e4, (by assumption : Gr wr _).has e0', (by assumption : Gr wr _).has e1', (by assumption : Gr wr _).has e2', (by assumption : Gr wr _).has e3', (by assumption : Gr wr _).has e4'⟩)
        (first | (go_at_call 165; refine (eqPipe_same x _).mono ?_; rintro e w' ⟨rfl, hg1⟩; have hg2 : Gr wr w' := (Gr.refl _).drew.trans hg1))
      go_wp2_with fail
      go_roundw
      case rel => exact ⟨k + 1, by omega, by go_num, hgr.trans (by assumption)⟩
      case measure => simp [intOf]; omega
    · obtain rfl : k = n := by omega
      go_wp2_with fail
      go_ret
      exact ⟨rfl, hgr⟩

theorem eqTransport_same (x : GTr) (w : World) :
    Calls Try.prog 150 #[.agg #[.int .i64 x.entry, .int .i64 x.exit, .int .i64 x.amount, .int .i64 x.cls], .agg #[.int .i64 x.entry, .int .i64 x.exit, .int .i64 x.amount, .int .i64 x.cls]] w fun e w' => e = .returned (.bool true) ∧ Gr w w' := by
  go_enter Try.func150, Try.ntmps150
  go_wp2
  go_ret
  exact ⟨rfl, ((Gr.refl _).alloc _).alloc _⟩
theorem eqTransportS_same (A A' : Option Addr) (n c c' : Nat) (l : List GTr) (w : World) (hn : n ≤ 1048576) (hA : Sl w 4 A n (l.flatMap GTr.cells)) (hA' : Sl w 4 A' n (l.flatMap GTr.cells)) :
    Calls Try.prog 68 #[.slice A n c, .slice A' n c'] w fun e w' => e = .returned (.bool true) ∧ Gr w w' := by
  have hlen := hA.len GTr.cells_len (by omega)
  have HA := Lib.hid hA
  have HA' := Lib.hid hA'
  have Hlen := Lib.hid hlen
  clear hA hA' hlen
  go_enter Try.func68, Try.ntmps68
  go_wp2_with fail
  go_loopw [5] (fun i wr => ∃ k : Nat, k ≤ n ∧ i = .int .i64 k ∧ Gr w wr) (fun i _ => n - (intOf i).toNat)
  case atStart => exact ⟨0, Nat.zero_le _, rfl, Gr.refl _⟩
  case round =>
    obtain ⟨k, hk, rfl, hgr⟩ := hrel
    by_cases hlt : k < n
    · obtain ⟨x, hx⟩ : ∃ x, l[k]? = some x := ⟨_, List.getElem?_eq_getElem (by have := Hlen.out; omega)⟩
      obtain ⟨b, o, rfl, hb, e0, e1, e2, e3⟩ := (HA.out.gr hgr).tr hx
      obtain ⟨b', o', rfl, hb', e0', e1', e2', e3'⟩ := (HA'.out.gr hgr).tr hx
      have Hx := Lib.hid hx
      clear hx
      go_wp2_with fail
      go_region_held3 (fun w' => Gr wr w' ∧ w'.cell? ⟨b, o + k * 4, none⟩ = some (.int .i64 x.entry) ∧ w'.cell? ⟨b, o + k * 4 + 1, none⟩ = some (.int .i64 x.exit) ∧ w'.cell? ⟨b, o + k * 4 + 2, none⟩ = some (.int .i64 x.amount) ∧ w'.cell? ⟨b, o + k * 4 + 3, none⟩ = some (.int .i64 x.cls) ∧ w'.cell? ⟨b', o' + k * 4, none⟩ = some (.int .i64 x.entry) ∧ w'.cell? ⟨b', o' + k * 4 + 1, none⟩ = some (.int .i64 x.exit) ∧ w'.cell? ⟨b', o' + k * 4 + 2, none⟩ = some (.int .i64 x.amount) ∧ w'.cell? ⟨b', o' + k * 4 + 3, none⟩ = some (.int .i64 x.cls))
        (first | exact ⟨(Gr.refl _).drew, e0, e1, e2, e3, e0', e1', e2', e3'⟩ | exact ⟨by assumption, (by assumption : Gr wr _).has e0, (by assumption : Gr wr _).has e1, (by assumption : Gr wr _).has e2, (by assumption : Gr wr _).has e3, (by assumption : Gr wr _).has e0', (by assumption : Gr wr _).has e1', (by assumption : Gr wr _).has e2', (by assumption : Gr wr _).has e3'⟩)
        (first | (go_at_call 150; refine (eqTransport_same x _).mono ?_; rintro e w' ⟨rfl, hg1⟩; have hg2 : Gr wr w' := (Gr.refl _).drew.trans hg1))
      go_wp2_with fail
      go_roundw
      case rel => exact ⟨k + 1, by omega, by go_num, hgr.trans (by assumption)⟩
      case measure => simp [intOf]; omega
    · obtain rfl : k = n := by omega
      go_wp2_with fail
      go_ret
      exact ⟨rfl, hgr⟩



theorem eqContract_same (x : GCon) (w : World) :
    Calls Try.prog 151 #[.agg #[.int .i64 x.shipper, .int .i64 x.entry, .int .i64 x.exit, .int .i64 x.amount, .int .i64 x.cls, .int .i64 x.src, .int .i64 x.dst, .int .i64 x.price], .agg #[.int .i64 x.shipper, .int .i64 x.entry, .int .i64 x.exit, .int .i64 x.amount, .int .i64 x.cls, .int .i64 x.src, .int .i64 x.dst, .int .i64 x.price]] w fun e w' => e = .returned (.bool true) ∧ Gr w w' := by
  go_enter Try.func151, Try.ntmps151
  go_wp2
  go_ret
  exact ⟨rfl, ((Gr.refl _).alloc _).alloc _⟩
theorem eqContractS_same (A A' : Option Addr) (n c c' : Nat) (l : List GCon) (w : World) (hn : n ≤ 1048576) (hA : Sl w 8 A n (l.flatMap GCon.cells)) (hA' : Sl w 8 A' n (l.flatMap GCon.cells)) :
    Calls Try.prog 69 #[.slice A n c, .slice A' n c'] w fun e w' => e = .returned (.bool true) ∧ Gr w w' := by
  have hlen := hA.len GCon.cells_len (by omega)
  have HA := Lib.hid hA
  have HA' := Lib.hid hA'
  have Hlen := Lib.hid hlen
  clear hA hA' hlen
  go_enter Try.func69, Try.ntmps69
  go_wp2_with fail
  go_loopw [5] (fun i wr => ∃ k : Nat, k ≤ n ∧ i = .int .i64 k ∧ Gr w wr) (fun i _ => n - (intOf i).toNat)
  case atStart => exact ⟨0, Nat.zero_le _, rfl, Gr.refl _⟩
  case round =>
    obtain ⟨k, hk, rfl, hgr⟩ := hrel
    by_cases hlt : k < n
    · obtain ⟨x, hx⟩ : ∃ x, l[k]? = some x := ⟨_, List.getElem?_eq_getElem (by have := Hlen.out; omega)⟩
      obtain ⟨b, o, rfl, hb, e0, e1, e2, e3, e4, e5, e6, e7⟩ := (HA.out.gr hgr).con hx
      obtain ⟨b', o', rfl, hb', e0', e1', e2', e3', e4', e5', e6', e7'⟩ := (HA'.out.gr hgr).con hx
      have Hx := Lib.hid hx
      clear hx
      go_wp2_with fail
      go_region_held3 (fun w' => Gr wr w' ∧ w'.cell? ⟨b, o + k * 8, none⟩ = some (.int .i64 x.shipper) ∧ w'.cell? ⟨b, o + k * 8 + 1, none⟩ = some (.int .i64 x.entry) ∧ w'.cell? ⟨b, o + k * 8 + 2, none⟩ = some (.int .i64 x.exit) ∧ w'.cell? ⟨b, o + k * 8 + 3, none⟩ = some (.int .i64 x.amount) ∧ w'.cell? ⟨b, o + k * 8 + 4, none⟩ = some (.int .i64 x.cls) ∧ w'.cell? ⟨b, o + k * 8 + 5, none⟩ = some (.int .i64 x.src) ∧ w'.cell? ⟨b, o + k * 8 + 6, none⟩ = some (.int .i64 x.dst) ∧ w'.cell? ⟨b, o + k * 8 + 7, none⟩ = some (.int .i64 x.price) ∧ w'.cell? ⟨b', o' + k * 8, none⟩ = some (.int .i64 x.shipper) ∧ w'.cell? ⟨b', o' + k * 8 + 1, none⟩ = some (.int .i64 x.entry) ∧ w'.cell? ⟨b', o' + k * 8 + 2, none⟩ = some (.int .i64 x.exit) ∧ w'.cell? ⟨b', o' + k * 8 + 3, none⟩ = some (.int .i64 x.amount) ∧ w'.cell? ⟨b', o' + k * 8 + 4, none⟩ = some (.int .i64 x.cls) ∧ w'.cell? ⟨b', o' + k * 8 + 5, none⟩ = some (.int .i64 x.src) ∧ w'.cell? ⟨b', o' + k * 8 + 6, none⟩ = some (.int .i64 x.dst) ∧ w'.cell? ⟨b', o' + k * 8 + 7, none⟩ = some (.int .i64 x.price))
        (first | exact ⟨(Gr.refl _).drew, e0, e1, e2, e3, e4, e5, e6, e7, e0', e1', e2', e3', e4', e5', e6', e7'⟩ | exact ⟨by assumption, (by assumption : Gr wr _).has e0, (by assumption : Gr wr _).has e1, (by assumption : Gr wr _).has e2, (by assumption : Gr wr _).has e3, (by assumption : Gr wr _).has e4, (by assumption : Gr wr _).has e5, (by assumption : Gr wr _).has e6, (by assumption : Gr wr _).has e7, (by assumption : Gr wr _).has e0', (by assumption : Gr wr _).has e1', (by assumption : Gr wr _).has e2', (by assumption : Gr wr _).has e3', (by assumption : Gr wr _).has e4', (by assumption : Gr wr _).has e5', (by assumption : Gr wr _).has e6', (by assumption : Gr wr _).has e7'⟩)
        (first | (go_at_call 151; refine (eqContract_same x _).mono ?_; rintro e w' ⟨rfl, hg1⟩; have hg2 : Gr wr w' := (Gr.refl _).drew.trans hg1))
      go_wp2_with fail
      go_roundw
      case rel => exact ⟨k + 1, by omega, by go_num, hgr.trans (by assumption)⟩
      case measure => simp [intOf]; omega
    · obtain rfl : k = n := by omega
      go_wp2_with fail
      go_ret
      exact ⟨rfl, hgr⟩

theorem eqNomination_same (x : GNom) (w : World) :
    Calls Try.prog 152 #[.agg #[.int .i64 x.contract, .int .i64 x.hour, .int .i64 x.sent, .int .i64 x.amount], .agg #[.int .i64 x.contract, .int .i64 x.hour, .int .i64 x.sent, .int .i64 x.amount]] w fun e w' => e = .returned (.bool true) ∧ Gr w w' := by
  go_enter Try.func152, Try.ntmps152
  go_wp2
  go_ret
  exact ⟨rfl, ((Gr.refl _).alloc _).alloc _⟩
theorem eqNominationS_same (A A' : Option Addr) (n c c' : Nat) (l : List GNom) (w : World) (hn : n ≤ 1048576) (hA : Sl w 4 A n (l.flatMap GNom.cells)) (hA' : Sl w 4 A' n (l.flatMap GNom.cells)) :
    Calls Try.prog 70 #[.slice A n c, .slice A' n c'] w fun e w' => e = .returned (.bool true) ∧ Gr w w' := by
  have hlen := hA.len GNom.cells_len (by omega)
  have HA := Lib.hid hA
  have HA' := Lib.hid hA'
  have Hlen := Lib.hid hlen
  clear hA hA' hlen
  go_enter Try.func70, Try.ntmps70
  go_wp2_with fail
  go_loopw [5] (fun i wr => ∃ k : Nat, k ≤ n ∧ i = .int .i64 k ∧ Gr w wr) (fun i _ => n - (intOf i).toNat)
  case atStart => exact ⟨0, Nat.zero_le _, rfl, Gr.refl _⟩
  case round =>
    obtain ⟨k, hk, rfl, hgr⟩ := hrel
    by_cases hlt : k < n
    · obtain ⟨x, hx⟩ : ∃ x, l[k]? = some x := ⟨_, List.getElem?_eq_getElem (by have := Hlen.out; omega)⟩
      obtain ⟨b, o, rfl, hb, e0, e1, e2, e3⟩ := (HA.out.gr hgr).nom hx
      obtain ⟨b', o', rfl, hb', e0', e1', e2', e3'⟩ := (HA'.out.gr hgr).nom hx
      have Hx := Lib.hid hx
      clear hx
      go_wp2_with fail
      go_region_held3 (fun w' => Gr wr w' ∧ w'.cell? ⟨b, o + k * 4, none⟩ = some (.int .i64 x.contract) ∧ w'.cell? ⟨b, o + k * 4 + 1, none⟩ = some (.int .i64 x.hour) ∧ w'.cell? ⟨b, o + k * 4 + 2, none⟩ = some (.int .i64 x.sent) ∧ w'.cell? ⟨b, o + k * 4 + 3, none⟩ = some (.int .i64 x.amount) ∧ w'.cell? ⟨b', o' + k * 4, none⟩ = some (.int .i64 x.contract) ∧ w'.cell? ⟨b', o' + k * 4 + 1, none⟩ = some (.int .i64 x.hour) ∧ w'.cell? ⟨b', o' + k * 4 + 2, none⟩ = some (.int .i64 x.sent) ∧ w'.cell? ⟨b', o' + k * 4 + 3, none⟩ = some (.int .i64 x.amount))
        (first | exact ⟨(Gr.refl _).drew, e0, e1, e2, e3, e0', e1', e2', e3'⟩ | exact ⟨by assumption, (by assumption : Gr wr _).has e0, (by assumption : Gr wr _).has e1, (by assumption : Gr wr _).has e2, (by assumption : Gr wr _).has e3, (by assumption : Gr wr _).has e0', (by assumption : Gr wr _).has e1', (by assumption : Gr wr _).has e2', (by assumption : Gr wr _).has e3'⟩)
        (first | (go_at_call 152; refine (eqNomination_same x _).mono ?_; rintro e w' ⟨rfl, hg1⟩; have hg2 : Gr wr w' := (Gr.refl _).drew.trans hg1))
      go_wp2_with fail
      go_roundw
      case rel => exact ⟨k + 1, by omega, by go_num, hgr.trans (by assumption)⟩
      case measure => simp [intOf]; omega
    · obtain rfl : k = n := by omega
      go_wp2_with fail
      go_ret
      exact ⟨rfl, hgr⟩

end Go.Proofs.Ytbckjlejkedonaa
