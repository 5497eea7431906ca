/-
  Settings and switches: the reference's functions.
-/
import Derived.Test.YtdoidehlklkfaaaSwitch2
namespace Go.Proofs.Ytdoidehlklkfaaa
open Go.ChangeShapes Go.WideShapes Go.ChangeAt Go.RowKit

theorem l16Is_any {A1 A2 A : Option Addr} {n1 c1 n2 c2 m c : Nat} (zs : List Int) (w : World) (hL : SlAt w 1 A m c (ints zs)) (_hm2 : n2 ≤ 1048576) :
    Calls Try.prog 129 #[.agg #[.slice A1 n1 c1, .slice A2 n2 c2], .slice A m c] w fun e w' => e = .returned (.bool (stOk n2 zs)) ∧ Gr w w' := by
  have hlen := hL.sl.ilen
  have Hlen := Lib.hid hlen
  have hm := hL.small
  have HL := Lib.hid (hL.gr ((Gr.refl _).alloc (.cells #[.slice A1 n1 c1, .slice A2 n2 c2] 33)))
  clear hL hlen
  go_enter Try.func129, Try.ntmps129
  go_wp2_with fail
  obtain ⟨w0, hw0⟩ : ∃ w0, w0 = w.alloc (.cells #[.slice A1 n1 c1, .slice A2 n2 c2] 33) := ⟨_, rfl⟩
  have hg0 : Gr w w0 := by rw [hw0]; exact (Gr.refl _).alloc _
  have b1 : w0.cell? ⟨w.heap.size, 1, none⟩ = some (.slice A2 n2 c2) := by rw [hw0]; simp [go_sem]
  rw [← hw0] at HL ⊢
  clear hw0
  go_loop [5] (fun i => ∃ k : Nat, k ≤ m ∧ i = .int .i64 k ∧ ∀ q, q < k → ∀ y, zs[q]? = some y → inB 0 y 2 = true) (fun i => m - (intOf i).toNat)
  case atStart => exact ⟨0, Nat.zero_le _, rfl, fun j h => absurd h (by omega)⟩
  case round =>
    obtain ⟨k, hk, rfl, hno⟩ := hrel
    have Hno := Lib.hid hno
    clear hno
    by_cases hlt : k < m
    · obtain ⟨x, hx⟩ : ∃ x, zs[k]? = some x := ⟨_, List.getElem?_eq_getElem (by have := Hlen.out; omega)⟩
      obtain ⟨b, o, rfl, hb, e0⟩ := HL.out.sl.int hx
      have Hx := Lib.hid hx
      clear hx
      go_wp2_with fail
      refine (l01In_any _ _ _ _).mono ?_
      rintro e w' ⟨rfl, rfl⟩
      cases hok : inB 0 x 2 with
      | true =>
        have Hokx := Lib.hid hok
        go_wp2_with fail
        go_round
        case rel => exact ⟨k + 1, by omega, by go_num, all_step (p := fun z => inB 0 z 2) Hx.out Hokx.out Hno.out⟩
        case measure => simp [intOf]; omega
      | false =>
        have Hokx := Lib.hid hok
        go_wp2_with fail
        go_ret
        refine ⟨ret_bool ?_, hg0⟩
        have := all_not (p := fun z => inB 0 z 2) Hx.out Hokx.out
        simp only [stOk, this, Bool.and_false]
    · obtain rfl : k = m := by omega
      have hall := all_of (p := fun z => inB 0 z 2) (l := zs) (by rw [Hlen.out]; exact Hno.out)
      have Hall := Lib.hid hall
      clear hall
      go_wp2_with fail
      go_ret
      refine ⟨ret_bool ?_, hg0⟩
      rw [stOk, Hall.out, Hlen.out, Bool.and_true]
      by_cases e : k = n2
      · simp [e]
      · have e2 : ¬ ((k : Int) = (n2 : Int)) := by omega
        simp [e2]

theorem l01In_val {n a b : Int} {v : Bool} (h : inB a n b = v) (w : World) : Calls Try.prog 82 #[.int .i64 n, .int .i64 a, .int .i64 b] w fun e w' => e = .returned (.bool v) ∧ w' = w := by
  refine (l01In_any n a b w).mono ?_
  rintro e w' ⟨rfl, rfl⟩
  exact ⟨by rw [h], rfl⟩
theorem at_step {p : Nat → Bool} {k : Nat} (hk : p k = true) (h : ∀ j, j < k → p j = true) : ∀ j, j < k + 1 → p j = true := by
  intro j hj
  by_cases e : j = k
  · rw [e]; exact hk
  · exact h j (by omega)
theorem l26Set_any {A : Option Addr} {m c : Nat} (ss : List Int) (N : Nat) (w : World) (hL : SlAt w 1 A m c (ints ss)) (hN : N ≤ 1048576) :
    Calls Try.prog 130 #[.slice A m c, .int .i64 N] w fun e w' => e = .returned (.bool (setOk ((N : Int) - 1) ss)) ∧ Gr w w' := by
  have hlen := hL.sl.ilen
  have Hlen := Lib.hid hlen
  have hm := hL.small
  have HL := Lib.hid hL
  clear hL hlen
  go_enter Try.func130, Try.ntmps130
  go_wp2_with fail
  go_loopw [5] (fun i wr => ∃ k : Nat, k ≤ m ∧ i = .int .i64 k ∧ (∀ q, q < k → setAt ((N : Int) - 1) ss q = true) ∧ Gr w wr) (fun i _ => m - (intOf i).toNat)
  case atStart => exact ⟨0, Nat.zero_le _, rfl, fun j h => absurd h (by omega), Gr.refl _⟩
  case round =>
    obtain ⟨k, hk, rfl, hno, hgr⟩ := hrel
    have Hno := Lib.hid hno
    clear hno
    by_cases hlt : k < m
    · have g1 := get_of_lt (l := ss) (k := k) (by have := Hlen.out; omega)
      have hat : setAt ((N : Int) - 1) ss k = (inB 0 (ss.getD k 0) ((N : Int) - 1) && incAt ss k) := rfl
      have hia : incAt ss k = (decide (k = 0) || decide (ss.getD (k - 1) 0 < ss.getD k 0)) := rfl
      obtain ⟨x, hx⟩ : ∃ x, x = ss.getD k 0 := ⟨_, rfl⟩
      rw [← hx] at g1 hat hia
      have e0 := (HL.out.sl.gr hgr).int g1
      obtain ⟨b, o, rfl, hb, e0⟩ := e0
      have t1 : (k : Int) < (m : Int) := by omega
      have t0 : (0 : Int) ≤ (k : Int) := by omega
      have hwN : IntKind.i64.wrap ((N : Int) - 1) = (N : Int) - 1 := IntWalk.i64_in _ (by omega)
      have Hat := Lib.hid hat
      clear hat hx g1
      cases hin : inB 0 x ((N : Int) - 1) with
      | false =>
        have Hin := Lib.hid hin
        clear hia
        go_wp2_with fail
        go_quiet ((go_at_call 82; exact Calls.quiet_of_same (l01In_val hin _)))
        go_wp2_with fail
        go_ret
        exact ⟨ret_bool (by rw [setOk, all_range_not (k := k) (by rw [Hlen.out]; exact hlt) (by rw [Hat.out, Hin.out, Bool.false_and])]), hgr.drewN _⟩
      | true =>
        have Hin := Lib.hid hin
        by_cases hk0 : k = 0
        · have Hia : Hid (incAt ss k = true) := Lib.hid (by rw [hia]; simp [hk0])
          have hd : decide (0 < k) = false := decide_eq_false (by omega)
          clear hia hk0
          go_wp2_with fail
          go_quiet ((go_at_call 82; exact Calls.quiet_of_same (l01In_val hin _)))
          go_wp2_with fail
          go_roundw
          case rel => exact ⟨k + 1, by omega, by go_num, at_step (by rw [Hat.out, Hin.out, Hia.out]; rfl) Hno.out, hgr.drewN _⟩
          case measure => simp [intOf]; omega
        · obtain ⟨q, rfl⟩ : ∃ q, k = q + 1 := ⟨k - 1, by omega⟩
          rw [Nat.add_sub_cancel] at hia
          have g0 := get_of_lt (l := ss) (k := q) (by have := Hlen.out; omega)
          obtain ⟨y, hy⟩ : ∃ y, y = ss.getD q 0 := ⟨_, rfl⟩
          rw [← hy] at g0 hia
          obtain ⟨b', o', eb, _, e1⟩ := (HL.out.sl.gr hgr).int g0
          injection eb with eb
          injection eb with eb1 eb2
          subst eb1
          subst eb2
          have hd : decide ((0 : Int) < ((q + 1 : Nat) : Int)) = true := decide_eq_true (by omega)
          have hsub : ((q + 1 : Nat) : Int) - 1 = (q : Int) := by omega
          have t2 : (0 : Int) ≤ (q : Int) := by omega
          have t3 : (q : Int) < (m : Int) := by omega
          have hw1 : IntKind.i64.wrap (((q + 1 : Nat) : Int) - 1) = (q : Int) := by rw [hsub]; exact IntWalk.i64_in _ (by omega)
          clear g0 hy hk0
          by_cases hc : y < x
          · have Hia : Hid (incAt ss (q + 1) = true) := Lib.hid (by rw [hia]; simp [hc])
            have hd2 : decide (x ≤ y) = false := by simp; omega
            clear hia
            go_wp2_with fail
            go_quiet ((go_at_call 82; exact Calls.quiet_of_same (l01In_val hin _)))
            go_wp2_with fail
            go_roundw
            case rel => exact ⟨q + 2, by omega, by go_num, at_step (by rw [Hat.out, Hin.out, Hia.out]; rfl) Hno.out, hgr.drewN _⟩
            case measure => simp [intOf]; omega
          · have Hia : Hid (incAt ss (q + 1) = false) := Lib.hid (by rw [hia]; simp; omega)
            have hd2 : decide (x ≤ y) = true := by simp; omega
            clear hia
            go_wp2_with fail
            go_quiet ((go_at_call 82; exact Calls.quiet_of_same (l01In_val hin _)))
            go_wp2_with fail
            go_ret
            exact ⟨ret_bool (by rw [setOk, all_range_not (k := q + 1) (by rw [Hlen.out]; exact hlt) (by rw [Hat.out, Hia.out, Bool.and_false])]), hgr.drewN _⟩
    · obtain rfl : k = m := by omega
      go_wp2_with fail
      go_ret
      exact ⟨ret_bool (by rw [setOk, all_range.2 (by rw [Hlen.out]; exact Hno.out)]), hgr⟩
end Go.Proofs.Ytdoidehlklkfaaa
