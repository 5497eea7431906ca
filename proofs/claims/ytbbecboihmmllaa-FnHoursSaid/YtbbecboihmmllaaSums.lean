/-
  Sums of numbers: the program.
-/
import Derived.Test.YtbbecboihmmllaaWts
namespace Go.Proofs.Ytbbecboihmmllaa
open Go.ChangeShapes Go.WideShapes Go.ChangeAt Go.RowKit

theorem sumOf_any {A : Option Addr} {m c : Nat} (zs : List Int) (w : World) (hL : SlAt w 1 A m c (ints zs)) (hb : ∀ z ∈ zs, -1000000000 ≤ z ∧ z ≤ 1000000000) :
    Calls Try.prog 35 #[.slice A m c] w fun e w' => e = .returned (.int .i64 zs.sum) ∧ w = w' := by
  have hlen := hL.sl.ilen
  have Hlen := Lib.hid hlen
  have hm := hL.small
  have HL := Lib.hid hL
  have Hb := Lib.hid hb
  clear hL hlen hb
  go_enter Try.func35, Try.ntmps35
  go_wp2_with fail
  go_loop [3, 8] (fun s i => ∃ k : Nat, k ≤ m ∧ i = .int .i64 k ∧ s = .int .i64 (zs.take k).sum) (fun _ i => m - (intOf i).toNat)
  case atStart => exact ⟨0, Nat.zero_le _, rfl, rfl⟩
  case round =>
    obtain ⟨k, hk, rfl, rfl⟩ := hrel
    by_cases hlt : k < m
    · obtain ⟨x, hx⟩ : ∃ x, zs[k]? = some x := ⟨_, List.getElem?_eq_getElem (by have := Hlen.out; omega)⟩
      obtain ⟨b, o, rfl, hb, e0⟩ := HL.out.sl.int hx
      have hst := sum_take_step hx
      have hbd := sum_take_bnd (M := 1000000000) (by decide) Hb.out k
      have hxb := Hb.out x (List.mem_of_getElem? hx)
      obtain ⟨S, hS⟩ : ∃ S, S = (zs.take k).sum := ⟨_, rfl⟩
      rw [← hS] at hst hbd ⊢
      have Hst := Lib.hid hst
      clear hx hS hst
      go_wp2_with fail
      go_round
      case rel => exact ⟨k + 1, by omega, by go_num, by rw [Hst.out]⟩
      case measure => simp [intOf]; omega
    · obtain rfl : k = m := by omega
      go_wp2_with fail
      go_ret
      exact ⟨ret_int (by rw [List.take_of_length_le (by rw [Hlen.out]; exact Nat.le_refl _)]), rfl⟩
end Go.Proofs.Ytbbecboihmmllaa
