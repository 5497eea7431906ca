/-
  markXS overwrites a row of the caller, heldXS says that it still holds what was written. Printed by gen.py.
-/
import Derived.Test.YtihkkemkecifcaaRows
import Derived.Test.YtihkkemkecifcaaBase
import Derived.WalkKit
import Derived.ProofKit
import Derived.LoopTactic
import Derived.WalkLawsBesides
import Derived.WalkSpells
namespace Go.Proofs.Ytihkkemkecifcaa
open Go.ChangeShapes Go.WideShapes Go.ChangeAt Go.RowKit

def GPipe.mark (c : Int) (i : Nat) : GPipe := ⟨c + 5 * i + 0, c + 5 * i + 1, c + 5 * i + 2, c + 5 * i + 3, c + 5 * i + 4⟩
theorem markPipeS_any (A : Option Addr) (n cp base : Nat) (e0 : TypeId) (ys : List GPipe) (c0 : Int) (w : World) (hn : n ≤ 1048576) (h0 : 0 ≤ c0) (h1 : c0 ≤ 1099511627776) (hA : w.ownsRow base e0 5 (.slice A n cp) n (ys.flatMap GPipe.cells)) :
    Calls Try.prog 47 #[.slice A n cp, .int .i64 c0] w fun e w' => e = .returned (.int .i64 (c0 + 5 * n)) ∧ w'.ownsRow base e0 5 (.slice A n cp) n (((List.range n).map (GPipe.mark c0)).flatMap GPipe.cells) ∧ w.grownBy w' (Value.slice A n cp).ownBlock := by
  have hlen := own_len hA GPipe.cells_len (by omega)
  have Hlen := Lib.hid hlen
  have HA := Lib.hid hA
  clear hA hlen
  go_enter Try.func47, Try.ntmps47
  go_wp2_with fail
  go_loopw [1, 5] (fun q i wr => ∃ k : Nat, ∃ c : Int, k ≤ n ∧ i = .int .i64 k ∧ q = .int .i64 c ∧ c = c0 + 5 * k ∧ wr.ownsRow base e0 5 (.slice A n cp) n ((overTo (GPipe.mark c0) ys k).flatMap GPipe.cells) ∧ w.grownBy wr (Value.slice A n cp).ownBlock) (fun _ i _ => n - (intOf i).toNat)
  case atStart => exact ⟨0, c0, Nat.zero_le _, rfl, rfl, by omega, by rw [overTo_zero]; exact HA.out, World.grownBy.refl w _⟩
  case round =>
    obtain ⟨k, c, hk, rfl, rfl, hc, hown, hgr⟩ := hrel
    by_cases hlt : k < n
    · have c1 : 0 ≤ c := by omega
      have c2 : c ≤ 2199023255552 := by omega
      obtain ⟨x, hx⟩ : ∃ x, ys[k]? = some x := ⟨_, List.getElem?_eq_getElem (by have := Hlen.out; omega)⟩
      obtain ⟨g, rfl, _, _⟩ := own_form hown (by omega)
      obtain ⟨d0, d1, d2, d3, d4, f0, f1, f2, f3, f4⟩ := own_pp hown ((overTo_get _ _ _).trans hx)
      have R := own_set_pp hown ⟨c, c + 1, c + 1 + 1, c + 1 + 1 + 1, c + 1 + 1 + 1 + 1⟩ hlt
      rw [overTo_set _ _ (by have := Hlen.out; omega) (by simp [GPipe.mark]; omega)] at R
      have HR := Lib.hid R
      have Hc := Lib.hid hc
      have Hg := Lib.hid hgr
      clear hown R hc hx hgr
      go_wp2_with fail
      go_roundw
      case rel => exact ⟨k + 1, c + 1 + 1 + 1 + 1 + 1, by omega, by go_num, rfl, by have := Hc.out; omega, HR.out.1, grown_trans Hg.out HR.out.2⟩
      case measure => simp [intOf]; omega
    · obtain rfl : k = n := by omega
      have H := Lib.hid hown
      have Hc := Lib.hid hc
      clear hown hc
      go_wp2_with fail
      go_ret
      refine ⟨ret_int Hc.out, ?_, hgr⟩
      have e := overTo_full (GPipe.mark c0) ys
      rw [Hlen.out] at e
      rw [← e]
      exact H.out

def GTr.mark (c : Int) (i : Nat) : GTr := ⟨c + 4 * i + 0, c + 4 * i + 1, c + 4 * i + 2, c + 4 * i + 3⟩

def GRd.mark (c : Int) (i : Nat) : GRd := ⟨c + 2 * i + 0, c + 2 * i + 1⟩
theorem markReadingS_any (A : Option Addr) (n cp base : Nat) (e0 : TypeId) (ys : List GRd) (c0 : Int) (w : World) (hn : n ≤ 1048576) (h0 : 0 ≤ c0) (h1 : c0 ≤ 1099511627776) (hA : w.ownsRow base e0 2 (.slice A n cp) n (ys.flatMap GRd.cells)) :
    Calls Try.prog 21 #[.slice A n cp, .int .i64 c0] w fun e w' => e = .returned (.int .i64 (c0 + 2 * n)) ∧ w'.ownsRow base e0 2 (.slice A n cp) n (((List.range n).map (GRd.mark c0)).flatMap GRd.cells) ∧ w.grownBy w' (Value.slice A n cp).ownBlock := by
  have hlen := own_len hA GRd.cells_len (by omega)
  have Hlen := Lib.hid hlen
  have HA := Lib.hid hA
  clear hA hlen
  go_enter Try.func21, Try.ntmps21
  go_wp2_with fail
  go_loopw [1, 5] (fun q i wr => ∃ k : Nat, ∃ c : Int, k ≤ n ∧ i = .int .i64 k ∧ q = .int .i64 c ∧ c = c0 + 2 * k ∧ wr.ownsRow base e0 2 (.slice A n cp) n ((overTo (GRd.mark c0) ys k).flatMap GRd.cells) ∧ w.grownBy wr (Value.slice A n cp).ownBlock) (fun _ i _ => n - (intOf i).toNat)
  case atStart => exact ⟨0, c0, Nat.zero_le _, rfl, rfl, by omega, by rw [overTo_zero]; exact HA.out, World.grownBy.refl w _⟩
  case round =>
    obtain ⟨k, c, hk, rfl, rfl, hc, hown, hgr⟩ := hrel
    by_cases hlt : k < n
    · have c1 : 0 ≤ c := by omega
      have c2 : c ≤ 2199023255552 := by omega
      obtain ⟨x, hx⟩ : ∃ x, ys[k]? = some x := ⟨_, List.getElem?_eq_getElem (by have := Hlen.out; omega)⟩
      obtain ⟨g, rfl, _, _⟩ := own_form hown (by omega)
      obtain ⟨d0, d1, f0, f1⟩ := own_rd hown ((overTo_get _ _ _).trans hx)
      have R := own_set_rd hown ⟨c, c + 1⟩ hlt
      rw [overTo_set _ _ (by have := Hlen.out; omega) (by simp [GRd.mark]; omega)] at R
      have HR := Lib.hid R
      have Hc := Lib.hid hc
      have Hg := Lib.hid hgr
      clear hown R hc hx hgr
      go_wp2_with fail
      go_roundw
      case rel => exact ⟨k + 1, c + 1 + 1, by omega, by go_num, rfl, by have := Hc.out; omega, HR.out.1, grown_trans Hg.out HR.out.2⟩
      case measure => simp [intOf]; omega
    · obtain rfl : k = n := by omega
      have H := Lib.hid hown
      have Hc := Lib.hid hc
      clear hown hc
      go_wp2_with fail
      go_ret
      refine ⟨ret_int Hc.out, ?_, hgr⟩
      have e := overTo_full (GRd.mark c0) ys
      rw [Hlen.out] at e
      rw [← e]
      exact H.out

def GOrd.mark (c : Int) (i : Nat) : GOrd := ⟨c + 4 * i + 0, c + 4 * i + 1, c + 4 * i + 2, c + 4 * i + 3⟩
theorem markOrderS_any (A : Option Addr) (n cp base : Nat) (e0 : TypeId) (ys : List GOrd) (c0 : Int) (w : World) (hn : n ≤ 1048576) (h0 : 0 ≤ c0) (h1 : c0 ≤ 1099511627776) (hA : w.ownsRow base e0 4 (.slice A n cp) n (ys.flatMap GOrd.cells)) :
    Calls Try.prog 20 #[.slice A n cp, .int .i64 c0] w fun e w' => e = .returned (.int .i64 (c0 + 4 * n)) ∧ w'.ownsRow base e0 4 (.slice A n cp) n (((List.range n).map (GOrd.mark c0)).flatMap GOrd.cells) ∧ w.grownBy w' (Value.slice A n cp).ownBlock := by
  have hlen := own_len hA GOrd.cells_len (by omega)
  have Hlen := Lib.hid hlen
  have HA := Lib.hid hA
  clear hA hlen
  go_enter Try.func20, Try.ntmps20
  go_wp2_with fail
  go_loopw [1, 5] (fun q i wr => ∃ k : Nat, ∃ c : Int, k ≤ n ∧ i = .int .i64 k ∧ q = .int .i64 c ∧ c = c0 + 4 * k ∧ wr.ownsRow base e0 4 (.slice A n cp) n ((overTo (GOrd.mark c0) ys k).flatMap GOrd.cells) ∧ w.grownBy wr (Value.slice A n cp).ownBlock) (fun _ i _ => n - (intOf i).toNat)
  case atStart => exact ⟨0, c0, Nat.zero_le _, rfl, rfl, by omega, by rw [overTo_zero]; exact HA.out, World.grownBy.refl w _⟩
  case round =>
    obtain ⟨k, c, hk, rfl, rfl, hc, hown, hgr⟩ := hrel
    by_cases hlt : k < n
    · have c1 : 0 ≤ c := by omega
      have c2 : c ≤ 2199023255552 := by omega
      obtain ⟨x, hx⟩ : ∃ x, ys[k]? = some x := ⟨_, List.getElem?_eq_getElem (by have := Hlen.out; omega)⟩
      obtain ⟨g, rfl, _, _⟩ := own_form hown (by omega)
      obtain ⟨d0, d1, d2, d3, f0, f1, f2, f3⟩ := own_ord hown ((overTo_get _ _ _).trans hx)
      have R := own_set_ord hown ⟨c, c + 1, c + 1 + 1, c + 1 + 1 + 1⟩ hlt
      rw [overTo_set _ _ (by have := Hlen.out; omega) (by simp [GOrd.mark]; omega)] at R
      have HR := Lib.hid R
      have Hc := Lib.hid hc
      have Hg := Lib.hid hgr
      clear hown R hc hx hgr
      go_wp2_with fail
      go_roundw
      case rel => exact ⟨k + 1, c + 1 + 1 + 1 + 1, by omega, by go_num, rfl, by have := Hc.out; omega, HR.out.1, grown_trans Hg.out HR.out.2⟩
      case measure => simp [intOf]; omega
    · obtain rfl : k = n := by omega
      have H := Lib.hid hown
      have Hc := Lib.hid hc
      clear hown hc
      go_wp2_with fail
      go_ret
      refine ⟨ret_int Hc.out, ?_, hgr⟩
      have e := overTo_full (GOrd.mark c0) ys
      rw [Hlen.out] at e
      rw [← e]
      exact H.out

def GCon.mark (c : Int) (i : Nat) : GCon := ⟨c + 8 * i + 0, c + 8 * i + 1, c + 8 * i + 2, c + 8 * i + 3, c + 8 * i + 4, c + 8 * i + 5, c + 8 * i + 6, c + 8 * i + 7⟩

def GNom.mark (c : Int) (i : Nat) : GNom := ⟨c + 4 * i + 0, c + 4 * i + 1, c + 4 * i + 2, c + 4 * i + 3⟩

end Go.Proofs.Ytihkkemkecifcaa
