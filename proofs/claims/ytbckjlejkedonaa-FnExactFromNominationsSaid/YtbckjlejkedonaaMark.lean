/-
  markXS overwrites a row of the caller, heldXS says that it still holds what was written. Printed by gen.py.
-/
import Derived.Test.YtbckjlejkedonaaRows
import Derived.Test.YtbckjlejkedonaaBase
import Derived.WalkKit
import Derived.ProofKit
import Derived.LoopTactic
import Derived.WalkLawsBesides
import Derived.WalkSpells
namespace Go.Proofs.Ytbckjlejkedonaa
open Go.ChangeShapes Go.WideShapes Go.ChangeAt Go.RowKit

def GPipe.mark (c : Int) (i : Nat) : GPipe := ⟨c + 5 * i + 0, c + 5 * i + 1, c + 5 * i + 2, c + 5 * i + 3, c + 5 * i + 4⟩
theorem markPipeS_any (A : Option Addr) (n cp base : Nat) (e0 : TypeId) (ys : List GPipe) (c0 : Int) (w : World) (hn : n ≤ 1048576) (h0 : 0 ≤ c0) (h1 : c0 ≤ 1099511627776) (hA : w.ownsRow base e0 5 (.slice A n cp) n (ys.flatMap GPipe.cells)) :
    Calls Try.prog 88 #[.slice A n cp, .int .i64 c0] w fun e w' => e = .returned (.int .i64 (c0 + 5 * n)) ∧ w'.ownsRow base e0 5 (.slice A n cp) n (((List.range n).map (GPipe.mark c0)).flatMap GPipe.cells) ∧ w.grownBy w' (Value.slice A n cp).ownBlock := by
  have hlen := own_len hA GPipe.cells_len (by omega)
  have Hlen := Lib.hid hlen
  have HA := Lib.hid hA
  clear hA hlen
  go_enter Try.func88, Try.ntmps88
  go_wp2_with fail
  go_loopw [1, 5] (fun q i wr => ∃ k : Nat, ∃ c : Int, k ≤ n ∧ i = .int .i64 k ∧ q = .int .i64 c ∧ c = c0 + 5 * k ∧ wr.ownsRow base e0 5 (.slice A n cp) n ((overTo (GPipe.mark c0) ys k).flatMap GPipe.cells) ∧ w.grownBy wr (Value.slice A n cp).ownBlock) (fun _ i _ => n - (intOf i).toNat)
  case atStart => exact ⟨0, c0, Nat.zero_le _, rfl, rfl, by omega, by rw [overTo_zero]; exact HA.out, World.grownBy.refl w _⟩
  case round =>
    obtain ⟨k, c, hk, rfl, rfl, hc, hown, hgr⟩ := hrel
    by_cases hlt : k < n
    · have c1 : 0 ≤ c := by omega
      have c2 : c ≤ 2199023255552 := by omega
      obtain ⟨x, hx⟩ : ∃ x, ys[k]? = some x := ⟨_, List.getElem?_eq_getElem (by have := Hlen.out; omega)⟩
      obtain ⟨g, rfl, _, _⟩ := own_form hown (by omega)
      obtain ⟨d0, d1, d2, d3, d4, f0, f1, f2, f3, f4⟩ := own_pp hown ((overTo_get _ _ _).trans hx)
      have R := own_set_pp hown ⟨c, c + 1, c + 1 + 1, c + 1 + 1 + 1, c + 1 + 1 + 1 + 1⟩ hlt
      rw [overTo_set _ _ (by have := Hlen.out; omega) (by simp [GPipe.mark]; omega)] at R
      have HR := Lib.hid R
      have Hc := Lib.hid hc
      have Hg := Lib.hid hgr
      clear hown R hc hx hgr
      go_wp2_with fail
      go_roundw
      case rel => exact ⟨k + 1, c + 1 + 1 + 1 + 1 + 1, by omega, by go_num, rfl, by have := Hc.out; omega, HR.out.1, grown_trans Hg.out HR.out.2⟩
      case measure => simp [intOf]; omega
    · obtain rfl : k = n := by omega
      have H := Lib.hid hown
      have Hc := Lib.hid hc
      clear hown hc
      go_wp2_with fail
      go_ret
      refine ⟨ret_int Hc.out, ?_, hgr⟩
      have e := overTo_full (GPipe.mark c0) ys
      rw [Hlen.out] at e
      rw [← e]
      exact H.out

def GTr.mark (c : Int) (i : Nat) : GTr := ⟨c + 4 * i + 0, c + 4 * i + 1, c + 4 * i + 2, c + 4 * i + 3⟩
theorem markTransportS_any (A : Option Addr) (n cp base : Nat) (e0 : TypeId) (ys : List GTr) (c0 : Int) (w : World) (hn : n ≤ 1048576) (h0 : 0 ≤ c0) (h1 : c0 ≤ 1099511627776) (hA : w.ownsRow base e0 4 (.slice A n cp) n (ys.flatMap GTr.cells)) :
    Calls Try.prog 73 #[.slice A n cp, .int .i64 c0] w fun e w' => e = .returned (.int .i64 (c0 + 4 * n)) ∧ w'.ownsRow base e0 4 (.slice A n cp) n (((List.range n).map (GTr.mark c0)).flatMap GTr.cells) ∧ w.grownBy w' (Value.slice A n cp).ownBlock := by
  have hlen := own_len hA GTr.cells_len (by omega)
  have Hlen := Lib.hid hlen
  have HA := Lib.hid hA
  clear hA hlen
  go_enter Try.func73, Try.ntmps73
  go_wp2_with fail
  go_loopw [1, 5] (fun q i wr => ∃ k : Nat, ∃ c : Int, k ≤ n ∧ i = .int .i64 k ∧ q = .int .i64 c ∧ c = c0 + 4 * k ∧ wr.ownsRow base e0 4 (.slice A n cp) n ((overTo (GTr.mark c0) ys k).flatMap GTr.cells) ∧ w.grownBy wr (Value.slice A n cp).ownBlock) (fun _ i _ => n - (intOf i).toNat)
  case atStart => exact ⟨0, c0, Nat.zero_le _, rfl, rfl, by omega, by rw [overTo_zero]; exact HA.out, World.grownBy.refl w _⟩
  case round =>
    obtain ⟨k, c, hk, rfl, rfl, hc, hown, hgr⟩ := hrel
    by_cases hlt : k < n
    · have c1 : 0 ≤ c := by omega
      have c2 : c ≤ 2199023255552 := by omega
      obtain ⟨x, hx⟩ : ∃ x, ys[k]? = some x := ⟨_, List.getElem?_eq_getElem (by have := Hlen.out; omega)⟩
      obtain ⟨g, rfl, _, _⟩ := own_form hown (by omega)
      obtain ⟨d0, d1, d2, d3, f0, f1, f2, f3⟩ := own_tr hown ((overTo_get _ _ _).trans hx)
      have R := own_set_tr hown ⟨c, c + 1, c + 1 + 1, c + 1 + 1 + 1⟩ hlt
      rw [overTo_set _ _ (by have := Hlen.out; omega) (by simp [GTr.mark]; omega)] at R
      have HR := Lib.hid R
      have Hc := Lib.hid hc
      have Hg := Lib.hid hgr
      clear hown R hc hx hgr
      go_wp2_with fail
      go_roundw
      case rel => exact ⟨k + 1, c + 1 + 1 + 1 + 1, by omega, by go_num, rfl, by have := Hc.out; omega, HR.out.1, grown_trans Hg.out HR.out.2⟩
      case measure => simp [intOf]; omega
    · obtain rfl : k = n := by omega
      have H := Lib.hid hown
      have Hc := Lib.hid hc
      clear hown hc
      go_wp2_with fail
      go_ret
      refine ⟨ret_int Hc.out, ?_, hgr⟩
      have e := overTo_full (GTr.mark c0) ys
      rw [Hlen.out] at e
      rw [← e]
      exact H.out
theorem heldTransportS_any (A : Option Addr) (n cp : Nat) (c0 : Int) (w : World) (hn : n ≤ 1048576) (h0 : 0 ≤ c0) (h1 : c0 ≤ 1099511627776) (hA : Sl w 4 A n (((List.range n).map (GTr.mark c0)).flatMap GTr.cells)) :
    Calls Try.prog 74 #[.slice A n cp, .int .i64 c0] w fun e w' => e = .returned (.int .i64 (c0 + 4 * n)) ∧ w = w' := by
  have HA := Lib.hid hA
  clear hA
  go_enter Try.func74, Try.ntmps74
  go_wp2_with fail
  go_loop [1, 5] (fun q i => ∃ k : Nat, ∃ c : Int, k ≤ n ∧ i = .int .i64 k ∧ q = .int .i64 c ∧ c = c0 + 4 * k) (fun _ i => n - (intOf i).toNat)
  case atStart => exact ⟨0, c0, Nat.zero_le _, rfl, rfl, by omega⟩
  case round =>
    obtain ⟨k, c, hk, rfl, rfl, hc⟩ := hrel
    by_cases hlt : k < n
    · have c1 : 0 ≤ c := by omega
      have c2 : c ≤ 2199023255552 := by omega
      have hx : ((List.range n).map (GTr.mark c0))[k]? = some (GTr.mark c0 k) := by simp [hlt]
      obtain ⟨b, o, rfl, hb, e0, e1, e2, e3⟩ := HA.out.tr hx
      have Hc := Lib.hid hc
      clear hc hx
      have n0 : w.cell? ⟨b, o + k * 4, none⟩ = some (.int .i64 (c)) := by rw [e0]; exact congrArg (fun z => some (Value.int .i64 z)) (by simp [GTr.mark]; have := Hc.out; omega)
      have n1 : w.cell? ⟨b, o + k * 4 + 1, none⟩ = some (.int .i64 (c + 1)) := by rw [e1]; exact congrArg (fun z => some (Value.int .i64 z)) (by simp [GTr.mark]; have := Hc.out; omega)
      have n2 : w.cell? ⟨b, o + k * 4 + 2, none⟩ = some (.int .i64 (c + 1 + 1)) := by rw [e2]; exact congrArg (fun z => some (Value.int .i64 z)) (by simp [GTr.mark]; have := Hc.out; omega)
      have n3 : w.cell? ⟨b, o + k * 4 + 3, none⟩ = some (.int .i64 (c + 1 + 1 + 1)) := by rw [e3]; exact congrArg (fun z => some (Value.int .i64 z)) (by simp [GTr.mark]; have := Hc.out; omega)
      clear e0 e1 e2 e3
      go_wp2_with fail
      go_round
      case rel => exact ⟨k + 1, c + 1 + 1 + 1 + 1, by omega, by go_num, rfl, by have := Hc.out; omega⟩
      case measure => simp [intOf]; omega
    · obtain rfl : k = n := by omega
      have Hc := Lib.hid hc
      clear hc
      go_wp2_with fail
      go_ret
      exact ⟨ret_int Hc.out, rfl⟩

def GRd.mark (c : Int) (i : Nat) : GRd := ⟨c + 2 * i + 0, c + 2 * i + 1⟩

def GOrd.mark (c : Int) (i : Nat) : GOrd := ⟨c + 4 * i + 0, c + 4 * i + 1, c + 4 * i + 2, c + 4 * i + 3⟩

def GCon.mark (c : Int) (i : Nat) : GCon := ⟨c + 8 * i + 0, c + 8 * i + 1, c + 8 * i + 2, c + 8 * i + 3, c + 8 * i + 4, c + 8 * i + 5, c + 8 * i + 6, c + 8 * i + 7⟩
theorem markContractS_any (A : Option Addr) (n cp base : Nat) (e0 : TypeId) (ys : List GCon) (c0 : Int) (w : World) (hn : n ≤ 1048576) (h0 : 0 ≤ c0) (h1 : c0 ≤ 1099511627776) (hA : w.ownsRow base e0 8 (.slice A n cp) n (ys.flatMap GCon.cells)) :
    Calls Try.prog 71 #[.slice A n cp, .int .i64 c0] w fun e w' => e = .returned (.int .i64 (c0 + 8 * n)) ∧ w'.ownsRow base e0 8 (.slice A n cp) n (((List.range n).map (GCon.mark c0)).flatMap GCon.cells) ∧ w.grownBy w' (Value.slice A n cp).ownBlock := by
  have hlen := own_len hA GCon.cells_len (by omega)
  have Hlen := Lib.hid hlen
  have HA := Lib.hid hA
  clear hA hlen
  go_enter Try.func71, Try.ntmps71
  go_wp2_with fail
  go_loopw [1, 5] (fun q i wr => ∃ k : Nat, ∃ c : Int, k ≤ n ∧ i = .int .i64 k ∧ q = .int .i64 c ∧ c = c0 + 8 * k ∧ wr.ownsRow base e0 8 (.slice A n cp) n ((overTo (GCon.mark c0) ys k).flatMap GCon.cells) ∧ w.grownBy wr (Value.slice A n cp).ownBlock) (fun _ i _ => n - (intOf i).toNat)
  case atStart => exact ⟨0, c0, Nat.zero_le _, rfl, rfl, by omega, by rw [overTo_zero]; exact HA.out, World.grownBy.refl w _⟩
  case round =>
    obtain ⟨k, c, hk, rfl, rfl, hc, hown, hgr⟩ := hrel
    by_cases hlt : k < n
    · have c1 : 0 ≤ c := by omega
      have c2 : c ≤ 2199023255552 := by omega
      obtain ⟨x, hx⟩ : ∃ x, ys[k]? = some x := ⟨_, List.getElem?_eq_getElem (by have := Hlen.out; omega)⟩
      obtain ⟨g, rfl, _, _⟩ := own_form hown (by omega)
      obtain ⟨d0, d1, d2, d3, d4, d5, d6, d7, f0, f1, f2, f3, f4, f5, f6, f7⟩ := own_con hown ((overTo_get _ _ _).trans hx)
      have R := own_set_con hown ⟨c, c + 1, c + 1 + 1, c + 1 + 1 + 1, c + 1 + 1 + 1 + 1, c + 1 + 1 + 1 + 1 + 1, c + 1 + 1 + 1 + 1 + 1 + 1, c + 1 + 1 + 1 + 1 + 1 + 1 + 1⟩ hlt
      rw [overTo_set _ _ (by have := Hlen.out; omega) (by simp [GCon.mark]; omega)] at R
      have HR := Lib.hid R
      have Hc := Lib.hid hc
      have Hg := Lib.hid hgr
      clear hown R hc hx hgr
      go_wp2_with fail
      go_roundw
      case rel => exact ⟨k + 1, c + 1 + 1 + 1 + 1 + 1 + 1 + 1 + 1, by omega, by go_num, rfl, by have := Hc.out; omega, HR.out.1, grown_trans Hg.out HR.out.2⟩
      case measure => simp [intOf]; omega
    · obtain rfl : k = n := by omega
      have H := Lib.hid hown
      have Hc := Lib.hid hc
      clear hown hc
      go_wp2_with fail
      go_ret
      refine ⟨ret_int Hc.out, ?_, hgr⟩
      have e := overTo_full (GCon.mark c0) ys
      rw [Hlen.out] at e
      rw [← e]
      exact H.out

def GNom.mark (c : Int) (i : Nat) : GNom := ⟨c + 4 * i + 0, c + 4 * i + 1, c + 4 * i + 2, c + 4 * i + 3⟩
theorem markNominationS_any (A : Option Addr) (n cp base : Nat) (e0 : TypeId) (ys : List GNom) (c0 : Int) (w : World) (hn : n ≤ 1048576) (h0 : 0 ≤ c0) (h1 : c0 ≤ 1099511627776) (hA : w.ownsRow base e0 4 (.slice A n cp) n (ys.flatMap GNom.cells)) :
    Calls Try.prog 72 #[.slice A n cp, .int .i64 c0] w fun e w' => e = .returned (.int .i64 (c0 + 4 * n)) ∧ w'.ownsRow base e0 4 (.slice A n cp) n (((List.range n).map (GNom.mark c0)).flatMap GNom.cells) ∧ w.grownBy w' (Value.slice A n cp).ownBlock := by
  have hlen := own_len hA GNom.cells_len (by omega)
  have Hlen := Lib.hid hlen
  have HA := Lib.hid hA
  clear hA hlen
  go_enter Try.func72, Try.ntmps72
  go_wp2_with fail
  go_loopw [1, 5] (fun q i wr => ∃ k : Nat, ∃ c : Int, k ≤ n ∧ i = .int .i64 k ∧ q = .int .i64 c ∧ c = c0 + 4 * k ∧ wr.ownsRow base e0 4 (.slice A n cp) n ((overTo (GNom.mark c0) ys k).flatMap GNom.cells) ∧ w.grownBy wr (Value.slice A n cp).ownBlock) (fun _ i _ => n - (intOf i).toNat)
  case atStart => exact ⟨0, c0, Nat.zero_le _, rfl, rfl, by omega, by rw [overTo_zero]; exact HA.out, World.grownBy.refl w _⟩
  case round =>
    obtain ⟨k, c, hk, rfl, rfl, hc, hown, hgr⟩ := hrel
    by_cases hlt : k < n
    · have c1 : 0 ≤ c := by omega
      have c2 : c ≤ 2199023255552 := by omega
      obtain ⟨x, hx⟩ : ∃ x, ys[k]? = some x := ⟨_, List.getElem?_eq_getElem (by have := Hlen.out; omega)⟩
      obtain ⟨g, rfl, _, _⟩ := own_form hown (by omega)
      obtain ⟨d0, d1, d2, d3, f0, f1, f2, f3⟩ := own_nom hown ((overTo_get _ _ _).trans hx)
      have R := own_set_nom hown ⟨c, c + 1, c + 1 + 1, c + 1 + 1 + 1⟩ hlt
      rw [overTo_set _ _ (by have := Hlen.out; omega) (by simp [GNom.mark]; omega)] at R
      have HR := Lib.hid R
      have Hc := Lib.hid hc
      have Hg := Lib.hid hgr
      clear hown R hc hx hgr
      go_wp2_with fail
      go_roundw
      case rel => exact ⟨k + 1, c + 1 + 1 + 1 + 1, by omega, by go_num, rfl, by have := Hc.out; omega, HR.out.1, grown_trans Hg.out HR.out.2⟩
      case measure => simp [intOf]; omega
    · obtain rfl : k = n := by omega
      have H := Lib.hid hown
      have Hc := Lib.hid hc
      clear hown hc
      go_wp2_with fail
      go_ret
      refine ⟨ret_int Hc.out, ?_, hgr⟩
      have e := overTo_full (GNom.mark c0) ys
      rw [Hlen.out] at e
      rw [← e]
      exact H.out

end Go.Proofs.Ytbckjlejkedonaa
