import Derived.Test.YthhmhigddmimjaaGreatTrs
/-
  The supplies of transports: the program and the reference. Printed by gen_sup.py.
-/
namespace Go.Proofs.YthhmhigddmimjaaGreat
open Go.ChangeShapes Go.WideShapes Go.ChangeAt Go.RowKit

theorem allWithin_any {A : Option Addr} {n c : Nat} (zs : List Int) (lo hi : Int) (w : World) (hL : SlAt w 1 A n c (ints zs)) :
    Calls Tryz.prog 94 #[.slice A n c, .int .i64 lo, .int .i64 hi] w fun e w' => e = .returned (.bool (zs.all fun z => inB lo z hi)) ∧ w = w' := by
  have hlen := hL.sl.ilen
  have Hlen := Lib.hid hlen
  have hm := hL.small
  have HL := Lib.hid hL
  clear hL hlen
  go_enter Tryz.func94, Tryz.ntmps94
  go_wp2_with fail
  go_loop [11] (fun i => ∃ k : Nat, k ≤ n ∧ i = .int .i64 k ∧ ∀ m, m < k → ∀ y, zs[m]? = some y → inB lo y hi = true) (fun i => n - (intOf i).toNat)
  case atStart => exact ⟨0, Nat.zero_le _, rfl, fun j h => absurd h (by omega)⟩
  case round =>
    obtain ⟨k, hk, rfl, hno⟩ := hrel
    have Hno := Lib.hid hno
    clear hno
    by_cases hlt : k < n
    · obtain ⟨x, hx⟩ : ∃ x, zs[k]? = some x := ⟨_, List.getElem?_eq_getElem (by have := Hlen.out; omega)⟩
      obtain ⟨b, o, rfl, hb, e0⟩ := HL.out.sl.int hx
      have Hx := Lib.hid hx
      clear hx
      go_wp2_with fail
      refine (within_any _ _ _ _).mono ?_
      rintro e w' ⟨rfl, rfl⟩
      cases hok : inB lo x hi with
      | true =>
        have Hokx := Lib.hid hok
        go_wp2_with fail
        go_round
        case rel => exact ⟨k + 1, by omega, by go_num, all_step (p := fun z => inB lo z hi) Hx.out Hokx.out Hno.out⟩
        case measure => simp [intOf]; omega
      | false =>
        have Hokx := Lib.hid hok
        go_wp2_with fail
        go_ret
        exact ⟨ret_bool (all_not (p := fun z => inB lo z hi) Hx.out Hokx.out).symm, rfl⟩
    · obtain rfl : k = n := by omega
      go_wp2_with fail
      go_ret
      exact ⟨ret_bool (all_of (p := fun z => inB lo z hi) (by rw [Hlen.out]; exact Hno.out)).symm, rfl⟩
def supOk (nn : Nat) (zs : List Int) : Bool := decide (zs.length = nn) && zs.all fun z => inB (-30000) z 30000
theorem areSupplies_any {A1 A2 A : Option Addr} {n1 c1 n2 c2 m c : Nat} (zs : List Int) (w : World) (hL : SlAt w 1 A m c (ints zs)) (hm1 : n1 ≤ 1048576) :
    Calls Tryz.prog 55 #[.agg #[.slice A1 n1 c1, .slice A2 n2 c2], .slice A m c] w fun e w' => e = .returned (.bool (supOk n1 zs)) ∧ Gr w w' := by
  have hlen := hL.sl.ilen
  have Hlen := Lib.hid hlen
  have hm := hL.small
  have HL := Lib.hid hL
  clear hL hlen
  by_cases h : m = n1
  · subst h
    go_enter Tryz.func55, Tryz.ntmps55
    go_wp2_with fail
    refine (allWithin_any zs _ _ _ (HL.out.gr ((Gr.refl _).alloc _))).mono ?_
    rintro e w1 ⟨rfl, rfl⟩
    go_wp2_with fail
    go_ret
    exact ⟨ret_bool (by simp [supOk, Hlen.out]), (Gr.refl _).alloc _⟩
  · have t : ((m : Int) == (n1 : Int)) = false := by simp; omega
    go_enter Tryz.func55, Tryz.ntmps55
    go_wp2_with fail
    go_ret
    exact ⟨ret_bool (by simp [supOk, Hlen.out, h]), (Gr.refl _).alloc _⟩
theorem l06Supply_any (z : Int) (w : World) : Calls Tryz.prog 118 #[.int .i64 z] w fun e w' => e = .returned (.bool (inB (-30000) z 30000)) ∧ w = w' := by
  go_enter Tryz.func118, Tryz.ntmps118
  go_wp2_with (go_at_call 117; refine (l01In_any _ _ _ _).mono ?_; rintro e w' ⟨rfl, rfl⟩)
  go_ret
  exact ⟨rfl, rfl⟩
theorem l06List_any {A1 A2 A : Option Addr} {n1 c1 n2 c2 m c : Nat} (zs : List Int) (w : World) (hL : SlAt w 1 A m c (ints zs)) (_hm1 : n1 ≤ 1048576) :
    Calls Tryz.prog 85 #[.agg #[.slice A1 n1 c1, .slice A2 n2 c2], .slice A m c] w fun e w' => e = .returned (.bool (supOk n1 zs)) ∧ Gr w w' := by
  have hlen := hL.sl.ilen
  have Hlen := Lib.hid hlen
  have hm := hL.small
  have HL := Lib.hid (hL.gr ((Gr.refl _).alloc (.cells #[.slice A1 n1 c1, .slice A2 n2 c2] 32)))
  clear hL hlen
  go_enter Tryz.func85, Tryz.ntmps85
  go_wp2_with fail
  obtain ⟨w0, hw0⟩ : ∃ w0, w0 = w.alloc (.cells #[.slice A1 n1 c1, .slice A2 n2 c2] 32) := ⟨_, rfl⟩
  have hg0 : Gr w w0 := by rw [hw0]; exact (Gr.refl _).alloc _
  have b0 : w0.cell? ⟨w.heap.size, 0, none⟩ = some (.slice A1 n1 c1) := by rw [hw0]; simp [go_sem]
  rw [← hw0] at HL ⊢
  clear hw0
  go_loop [5] (fun i => ∃ k : Nat, k ≤ m ∧ i = .int .i64 k ∧ ∀ q, q < k → ∀ y, zs[q]? = some y → inB (-30000) y 30000 = true) (fun i => m - (intOf i).toNat)
  case atStart => exact ⟨0, Nat.zero_le _, rfl, fun j h => absurd h (by omega)⟩
  case round =>
    obtain ⟨k, hk, rfl, hno⟩ := hrel
    have Hno := Lib.hid hno
    clear hno
    by_cases hlt : k < m
    · obtain ⟨x, hx⟩ : ∃ x, zs[k]? = some x := ⟨_, List.getElem?_eq_getElem (by have := Hlen.out; omega)⟩
      obtain ⟨b, o, rfl, hb, e0⟩ := HL.out.sl.int hx
      have Hx := Lib.hid hx
      clear hx
      go_wp2_with fail
      refine (l06Supply_any _ _).mono ?_
      rintro e w' ⟨rfl, rfl⟩
      cases hok : inB (-30000) x 30000 with
      | true =>
        have Hokx := Lib.hid hok
        go_wp2_with fail
        go_round
        case rel => exact ⟨k + 1, by omega, by go_num, all_step (p := fun z => inB (-30000) z 30000) Hx.out Hokx.out Hno.out⟩
        case measure => simp [intOf]; omega
      | false =>
        have Hokx := Lib.hid hok
        go_wp2_with fail
        go_ret
        refine ⟨ret_bool ?_, hg0⟩
        have := all_not (p := fun z => inB (-30000) z 30000) Hx.out Hokx.out
        simp only [supOk, this, Bool.and_false]
    · obtain rfl : k = m := by omega
      have hall := all_of (p := fun z => inB (-30000) z 30000) (l := zs) (by rw [Hlen.out]; exact Hno.out)
      have Hall := Lib.hid hall
      clear hall
      go_wp2_with fail
      go_ret
      refine ⟨ret_bool ?_, hg0⟩
      rw [supOk, Hall.out, Hlen.out, Bool.and_true]
      by_cases e : k = n1 <;> simp [e] <;> omega
end Go.Proofs.YthhmhigddmimjaaGreat
/-
  TransportSupplies: the program and the reference. Printed by gen_sup2.py.
-/
namespace Go.Proofs.YthhmhigddmimjaaGreat
open Go.ChangeShapes Go.WideShapes Go.ChangeAt Go.RowKit

def supCode (n : GNet) (l : List GTr) : Int := if trCode n l = 0 then (if supOk n.nodes.length (supplies n.nodes.length l) then 0 else 7) else trCode n l
def supRes (n : GNet) (l : List GTr) : List Int := if supCode n l = 0 then supplies n.nodes.length l else []
end Go.Proofs.YthhmhigddmimjaaGreat
