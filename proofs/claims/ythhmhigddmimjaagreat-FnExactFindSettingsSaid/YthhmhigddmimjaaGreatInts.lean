/-
  The law's helpers on []int64: copies, comparison, marks.
-/
import Derived.Test.YthhmhigddmimjaaGreatRows
import Derived.Test.YthhmhigddmimjaaGreatBase
import Derived.WalkKit
import Derived.ProofKit
import Derived.LoopTactic
import Derived.WalkLawsBesides
import Derived.WalkSpells
import Derived.Deep.QuietTactic
import Derived.BigQuiet
namespace Go.Proofs.YthhmhigddmimjaaGreat
open Go.ChangeShapes Go.WideShapes Go.ChangeAt Go.RowKit

theorem infoInt64 : (Tryz.prog.info? 2).map (fun i => (i.zero, i.size, i.bytes)) = some (some (.int .i64 0), 1, 8) := by kernel_rfl
theorem toInt64S_any (A : Option Addr) (n c : Nat) (l : List Int) (w : World) (hn : n ≤ 1048576) (hA : Sl w 1 A n (ints l)) :
    Calls Tryz.prog 13 #[.slice A n c] w fun e w' => ∃ A' c',
      e = .returned (.slice A' n c') ∧ w'.ownsRow w.heap.size 2 1 (.slice A' n c') n (ints l) ∧ Gr w w' := by
  obtain ⟨i0, hi0, hz0, hz1, hz2⟩ := info_parts infoInt64
  have hlen := hA.ilen
  have HA := Lib.hid hA
  have Hlen := Lib.hid hlen
  clear hA hlen
  go_enter Tryz.func13, Tryz.ntmps13
  go_wp2_with (at_make; refine wpList_make_full _ rfl _ _ _ rfl w.heap.size 2 i0 _ 1 Tryz.underlying26 hi0 hz0 hz1 .i64 .i64 _ _ n rfl rfl rfl rfl (by rw [hz2]; omega) (by unfold maxLen; omega) (Nat.le_refl _) ?_; intro w1 hown hg)
  have hg' : Gr w w1 := Gr.of_grown hg
  have ez : (madeCells (Value.int .i64 0).cells (n * 1)).toList = ints (fillTo 0 l n 0) := by
    rw [fillTo_zero]; exact made_ints n
  rw [ez] at hown
  clear ez hg hi0 hz0 hz1 hz2
  go_loopw [4, 20] (fun i _ wr => ∃ k : Nat, k ≤ n ∧ i = .int .i64 k ∧ wr.ownsRow w.heap.size 2 1 (.slice (some ⟨w.heap.size, 0, none⟩) n n) n (ints (fillTo 0 l n k)) ∧ Gr w wr) (fun i _ _ => n - (intOf i).toNat)
  case atStart => exact ⟨0, Nat.zero_le _, rfl, hown, hg'⟩
  case round =>
    obtain ⟨k, hk, rfl, hownr, hgr⟩ := hrel
    clear hown hg'
    by_cases hlt : k < n
    · have HA1 := HA.out.gr hgr
      obtain ⟨x, hx⟩ : ∃ x, l[k]? = some x := ⟨_, List.getElem?_eq_getElem (by have := Hlen.out; omega)⟩
      obtain ⟨b, o, rfl, hb, e0⟩ := HA1.int hx
      obtain ⟨d0, f0⟩ := own_int hownr (fillTo_get _ _ Hlen.out hlt)
      have R := own_set_int hownr k x
      rw [fillTo_set _ _ Hlen.out hx] at R
      have HR := Lib.hid R
      clear hx HA1 hownr R
      go_wp2_with fail
      go_roundw
      case rel => exact ⟨k + 1, by omega, by go_num, HR.out.1, hgr.grown HR.out.2 (fun _ e => by injection e with e; omega)⟩
      case measure => simp [intOf]; omega
    · obtain rfl : k = n := by omega
      go_wp2_with fail
      go_ret
      refine ⟨_, _, rfl, ?_, hgr⟩
      have e := fillTo_full 0 l
      rw [Hlen.out] at e
      rw [e] at hownr
      exact hownr
theorem eqInt64S_same (A A' : Option Addr) (n c c' : Nat) (l : List Int) (w : World) (hn : n ≤ 1048576) (hA : Sl w 1 A n (ints l)) (hA' : Sl w 1 A' n (ints l)) :
    Calls Tryz.prog 16 #[.slice A n c, .slice A' n c'] w fun e w' => e = .returned (.bool true) ∧ Gr w w' := by
  have hlen := hA.ilen
  have HA := Lib.hid hA
  have HA' := Lib.hid hA'
  have Hlen := Lib.hid hlen
  clear hA hA' hlen
  go_enter Tryz.func16, Tryz.ntmps16
  go_wp2_with fail
  go_loopw [5] (fun i wr => ∃ k : Nat, k ≤ n ∧ i = .int .i64 k ∧ Gr w wr) (fun i _ => n - (intOf i).toNat)
  case atStart => exact ⟨0, Nat.zero_le _, rfl, Gr.refl _⟩
  case round =>
    obtain ⟨k, hk, rfl, hgr⟩ := hrel
    by_cases hlt : k < n
    · obtain ⟨x, hx⟩ : ∃ x, l[k]? = some x := ⟨_, List.getElem?_eq_getElem (by have := Hlen.out; omega)⟩
      obtain ⟨b, o, rfl, hb, e0⟩ := (HA.out.gr hgr).int hx
      obtain ⟨b', o', rfl, hb', e0'⟩ := (HA'.out.gr hgr).int hx
      clear hx
      go_wp2_with fail
      go_quiet (fail)
      go_wp2_with fail
      go_roundw
      case rel => exact ⟨k + 1, by omega, by go_num, hgr.drewN _⟩
      case measure => simp [intOf]; omega
    · obtain rfl : k = n := by omega
      go_wp2_with fail
      go_ret
      exact ⟨rfl, hgr⟩
def imark (c : Int) (i : Nat) : Int := c + i
theorem markInt64S_any (A : Option Addr) (n cp base : Nat) (e0 : TypeId) (ys : List Int) (c0 : Int) (w : World) (hn : n ≤ 1048576) (h0 : 0 ≤ c0) (h1 : c0 ≤ 1099511627776) (hA : w.ownsRow base e0 1 (.slice A n cp) n (ints ys)) :
    Calls Tryz.prog 24 #[.slice A n cp, .int .i64 c0] w fun e w' => e = .returned (.int .i64 (c0 + n)) ∧ w'.ownsRow base e0 1 (.slice A n cp) n (ints ((List.range n).map (imark c0))) ∧ w.grownBy w' (Value.slice A n cp).ownBlock := by
  have hlen := own_ilen hA
  have Hlen := Lib.hid hlen
  have HA := Lib.hid hA
  clear hA hlen
  go_enter Tryz.func24, Tryz.ntmps24
  go_wp2_with fail
  go_loopw [1, 5] (fun q i wr => ∃ k : Nat, ∃ c : Int, k ≤ n ∧ i = .int .i64 k ∧ q = .int .i64 c ∧ c = c0 + k ∧ wr.ownsRow base e0 1 (.slice A n cp) n (ints (overTo (imark c0) ys k)) ∧ w.grownBy wr (Value.slice A n cp).ownBlock) (fun _ i _ => n - (intOf i).toNat)
  case atStart => exact ⟨0, c0, Nat.zero_le _, rfl, rfl, by omega, by rw [overTo_zero]; exact HA.out, World.grownBy.refl w _⟩
  case round =>
    obtain ⟨k, c, hk, rfl, rfl, hc, hown, hgr⟩ := hrel
    by_cases hlt : k < n
    · have c1 : 0 ≤ c := by omega
      have c2 : c ≤ 2199023255552 := by omega
      obtain ⟨x, hx⟩ : ∃ x, ys[k]? = some x := ⟨_, List.getElem?_eq_getElem (by have := Hlen.out; omega)⟩
      obtain ⟨g, rfl, _, _⟩ := own_form hown (by omega)
      obtain ⟨d0, f0⟩ := own_int hown ((overTo_get _ _ _).trans hx)
      have R := own_set_int hown k c
      rw [overTo_set _ _ (by have := Hlen.out; omega) (by simp [imark]; omega)] at R
      have HR := Lib.hid R
      have Hc := Lib.hid hc
      have Hg := Lib.hid hgr
      clear hown R hc hx hgr
      go_wp2_with fail
      go_roundw
      case rel => exact ⟨k + 1, c + 1, by omega, by go_num, rfl, by have := Hc.out; omega, HR.out.1, grown_trans Hg.out HR.out.2⟩
      case measure => simp [intOf]; omega
    · obtain rfl : k = n := by omega
      have H := Lib.hid hown
      have Hc := Lib.hid hc
      clear hown hc
      go_wp2_with fail
      go_ret
      refine ⟨ret_int Hc.out, ?_, hgr⟩
      have e := overTo_full (imark c0) ys
      rw [Hlen.out] at e
      rw [← e]
      exact H.out
theorem heldInt64S_any (A : Option Addr) (n cp : Nat) (c0 : Int) (w : World) (hn : n ≤ 1048576) (h0 : 0 ≤ c0) (h1 : c0 ≤ 1099511627776) (hA : Sl w 1 A n (ints ((List.range n).map (imark c0)))) :
    Calls Tryz.prog 25 #[.slice A n cp, .int .i64 c0] w fun e w' => e = .returned (.int .i64 (c0 + n)) ∧ w = w' := by
  have HA := Lib.hid hA
  clear hA
  go_enter Tryz.func25, Tryz.ntmps25
  go_wp2_with fail
  go_loop [1, 5] (fun q i => ∃ k : Nat, ∃ c : Int, k ≤ n ∧ i = .int .i64 k ∧ q = .int .i64 c ∧ c = c0 + k) (fun _ i => n - (intOf i).toNat)
  case atStart => exact ⟨0, c0, Nat.zero_le _, rfl, rfl, by omega⟩
  case round =>
    obtain ⟨k, c, hk, rfl, rfl, hc⟩ := hrel
    by_cases hlt : k < n
    · have c1 : 0 ≤ c := by omega
      have c2 : c ≤ 2199023255552 := by omega
      have hx : ((List.range n).map (imark c0))[k]? = some (imark c0 k) := by simp [hlt]
      obtain ⟨b, o, rfl, hb, e0⟩ := HA.out.int hx
      have Hc := Lib.hid hc
      clear hc hx
      have n0 : w.cell? ⟨b, o + k, none⟩ = some (.int .i64 c) := by rw [e0]; exact congrArg (fun z => some (Value.int .i64 z)) (by simp [imark]; have := Hc.out; omega)
      clear e0
      go_wp2_with fail
      go_round
      case rel => exact ⟨k + 1, c + 1, by omega, by go_num, rfl, by have := Hc.out; omega⟩
      case measure => simp [intOf]; omega
    · obtain rfl : k = n := by omega
      have Hc := Lib.hid hc
      clear hc
      go_wp2_with fail
      go_ret
      exact ⟨ret_int Hc.out, rfl⟩
end Go.Proofs.YthhmhigddmimjaaGreat
