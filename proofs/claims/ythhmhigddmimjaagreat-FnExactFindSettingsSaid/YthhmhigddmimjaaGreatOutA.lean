import Derived.Test.YthhmhigddmimjaaGreatPlainA
import Derived.Test.YthhmhigddmimjaaGreatRouteA
import Derived.Test.YthhmhigddmimjaaGreatOrd
import Derived.Test.YthhmhigddmimjaaGreatDrawA
import Derived.BigRegion
import Derived.Test.YthhmhigddmimjaaGreatLawKs
import Derived.Deep.CutRange
/-
  Flow lists: the tests and what flows out of the nodes, of both sides. Printed by gen_out.py.
-/
set_option linter.unusedSimpArgs false
set_option linter.unusedVariables false
namespace Go.Proofs.YthhmhigddmimjaaGreat
open Go.ChangeShapes Go.WideShapes Go.ChangeAt Go.RowKit

theorem l05List_any {A1 A2 A : Option Addr} {n1 c1 n2 c2 m c : Nat} (zs : List Int) (w : World) (hL : SlAt w 1 A m c (ints zs)) (_hm1 : n2 ≤ 1048576) :
    Calls Tryz.prog 149 #[.agg #[.slice A1 n1 c1, .slice A2 n2 c2], .slice A m c] w fun e w' => e = .returned (.bool (supOk n2 zs)) ∧ Gr w w' := by
  have hlen := hL.sl.ilen
  have Hlen := Lib.hid hlen
  have hm := hL.small
  have HL := Lib.hid (hL.gr ((Gr.refl _).alloc (.cells #[.slice A1 n1 c1, .slice A2 n2 c2] 32)))
  clear hL hlen
  go_enter Tryz.func149, Tryz.ntmps149
  go_wp2_with fail
  obtain ⟨w0, hw0⟩ : ∃ w0, w0 = w.alloc (.cells #[.slice A1 n1 c1, .slice A2 n2 c2] 32) := ⟨_, rfl⟩
  have hg0 : Gr w w0 := by rw [hw0]; exact (Gr.refl _).alloc _
  have b1 : w0.cell? ⟨w.heap.size, 1, none⟩ = some (.slice A2 n2 c2) := by rw [hw0]; simp [go_sem]
  rw [← hw0] at HL ⊢
  clear hw0
  go_loop [5] (fun i => ∃ k : Nat, k ≤ m ∧ i = .int .i64 k ∧ ∀ q, q < k → ∀ y, zs[q]? = some y → inB (-30000) y 30000 = true) (fun i => m - (intOf i).toNat)
  case atStart => exact ⟨0, Nat.zero_le _, rfl, fun j h => absurd h (by omega)⟩
  case round =>
    obtain ⟨k, hk, rfl, hno⟩ := hrel
    have Hno := Lib.hid hno
    clear hno
    by_cases hlt : k < m
    · obtain ⟨x, hx⟩ : ∃ x, zs[k]? = some x := ⟨_, List.getElem?_eq_getElem (by have := Hlen.out; omega)⟩
      obtain ⟨b, o, rfl, hb, e0⟩ := HL.out.sl.int hx
      have Hx := Lib.hid hx
      clear hx
      go_wp2_with fail
      refine (l05Flow_any _ _).mono ?_
      rintro e w' ⟨rfl, rfl⟩
      cases hok : inB (-30000) x 30000 with
      | true =>
        have Hokx := Lib.hid hok
        go_wp2_with fail
        go_round
        case rel => exact ⟨k + 1, by omega, by go_num, all_step (p := fun z => inB (-30000) z 30000) Hx.out Hokx.out Hno.out⟩
        case measure => simp [intOf]; omega
      | false =>
        have Hokx := Lib.hid hok
        go_wp2_with fail
        go_ret
        refine ⟨ret_bool ?_, hg0⟩
        have := all_not (p := fun z => inB (-30000) z 30000) Hx.out Hokx.out
        simp only [supOk, this, Bool.and_false]
    · obtain rfl : k = m := by omega
      have hall := all_of (p := fun z => inB (-30000) z 30000) (l := zs) (by rw [Hlen.out]; exact Hno.out)
      have Hall := Lib.hid hall
      clear hall
      go_wp2_with fail
      go_ret
      refine ⟨ret_bool ?_, hg0⟩
      rw [supOk, Hall.out, Hlen.out, Bool.and_true]
      by_cases e : k = n2 <;> simp [e] <;> omega
end Go.Proofs.YthhmhigddmimjaaGreat
/-
  Flow lists: limits, balance, supplies, transits. Printed by gen_out2.py.
-/
set_option linter.unusedSimpArgs false
set_option linter.unusedVariables false
namespace Go.Proofs.YthhmhigddmimjaaGreat
open Go.ChangeShapes Go.WideShapes Go.ChangeAt Go.RowKit

def sgO (a : Int) : Int := if a < 0 then -1 else 1
theorem absO_any (a : Int) (w : World) (h : -1000000000000000 ≤ a ∧ a ≤ 1000000000000000) : Calls Tryz.prog 77 #[.int .i64 a] w fun e w' => e = .returned (.int .i64 (sgO a * a)) ∧ w = w' := by
  by_cases h0 : a < 0
  · have e : -a = sgO a * a := by rw [sgO, if_pos h0]; omega
    have E := Lib.hid e
    clear e
    go_enter Tryz.func77, Tryz.ntmps77
    go_wp2_with fail
    go_ret
    exact ⟨ret_int E.out, rfl⟩
  · have e : a = sgO a * a := by rw [sgO, if_neg h0]; omega
    have E := Lib.hid e
    clear e
    go_enter Tryz.func77, Tryz.ntmps77
    go_wp2_with fail
    go_ret
    exact ⟨ret_int E.out, rfl⟩
theorem abs_lim {x l : Int} : l < sgO x * x ↔ ¬ (-l ≤ x ∧ x ≤ l) := by
  unfold sgO
  split <;> omega
end Go.Proofs.YthhmhigddmimjaaGreat
