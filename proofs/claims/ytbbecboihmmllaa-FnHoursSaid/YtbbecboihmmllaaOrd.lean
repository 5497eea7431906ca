/-
  Orders: the tests of the program and of the reference. Printed by gen_ord.py.
-/
import Derived.Test.YtbbecboihmmllaaTrs
namespace Go.Proofs.Ytbbecboihmmllaa
open Go.ChangeShapes Go.WideShapes Go.ChangeAt Go.RowKit

def ordOk (nn : Int) (x : GOrd) : Bool := inB 0 x.shipper 15 && inB 0 x.node (nn - 1) && inB (-30000) x.amount 30000 && inB 0 x.cls 3
def ordsOk (nn : Int) (l : List GOrd) : Bool := decide (l.length ≤ 40) && l.all (ordOk nn)
def ordCode (n : GNet) (l : List GOrd) : Int := if netOk n then (if ordsOk n.nodes.length l then 0 else 3) else 1
theorem ordOk_all {nn : Int} {x : GOrd} (h : ordOk nn x = true) : (0 ≤ x.shipper ∧ x.shipper ≤ 15) ∧ (0 ≤ x.node ∧ x.node ≤ nn - 1) ∧ (-30000 ≤ x.amount ∧ x.amount ≤ 30000) ∧ (0 ≤ x.cls ∧ x.cls ≤ 3) := by
  unfold ordOk at h
  simp only [Bool.and_eq_true, inB_iff] at h
  obtain ⟨⟨⟨a, b⟩, c⟩, d⟩ := h
  exact ⟨a, b, c, d⟩
theorem ordsOk_long {nn : Int} {l : List GOrd} (h : 40 < l.length) : ordsOk nn l = false := by simp [ordsOk]; omega
theorem ordsOk_bad {nn : Int} {l : List GOrd} {k : Nat} {x : GOrd} (hx : l[k]? = some x) (hp : ordOk nn x = false) : ordsOk nn l = false := by simp [ordsOk, all_not hx hp]
theorem ordsOk_good {nn : Int} {l : List GOrd} (hl : l.length ≤ 40) (h : ∀ m, m < l.length → ∀ y, l[m]? = some y → ordOk nn y = true) : ordsOk nn l = true := by simp [ordsOk, hl, all_of h]
theorem ordsOk_all {nn : Int} {l : List GOrd} (h : ordsOk nn l = true) : l.length ≤ 40 ∧ ∀ (m : Nat) (y : GOrd), l[m]? = some y → ordOk nn y = true := by
  simp only [ordsOk, Bool.and_eq_true, decide_eq_true_eq, List.all_eq_true] at h
  exact ⟨h.1, fun m y hy => h.2 y (List.mem_of_getElem? hy)⟩
theorem ordCode_inv {n : GNet} {l : List GOrd} (h : netOk n = false) : ordCode n l = 1 := by simp [ordCode, h]
theorem ordCode_lim {n : GNet} {l : List GOrd} (h : netOk n = true) (h' : ordsOk n.nodes.length l = false) : ordCode n l = 3 := by simp [ordCode, h, h']
theorem ordCode_ok {n : GNet} {l : List GOrd} (h : netOk n = true) (h' : ordsOk n.nodes.length l = true) : ordCode n l = 0 := by simp [ordCode, h, h']
theorem ordCode_zero {n : GNet} {l : List GOrd} (h : ordCode n l = 0) : netOk n = true ∧ ordsOk n.nodes.length l = true := by
  unfold ordCode at h
  cases h1 : netOk n <;> cases h2 : ordsOk n.nodes.length l <;> simp [h1, h2] at h ⊢

theorem l05Flow_any (x : Int) (w : World) : Calls Try.prog 59 #[.int .i64 x] w fun e w' => e = .returned (.bool (inB (-30000) x 30000)) ∧ w = w' := by
  go_enter Try.func59, Try.ntmps59
  go_wp2_with fail
  refine (l01In_any _ _ _ _).mono ?_
  rintro e w' ⟨rfl, rfl⟩
  go_wp2_with fail
  go_ret
  exact ⟨rfl, rfl⟩
end Go.Proofs.Ytbbecboihmmllaa
