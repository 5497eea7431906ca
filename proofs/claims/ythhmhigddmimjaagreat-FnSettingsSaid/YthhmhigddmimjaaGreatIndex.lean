/-
  slices.IndexFunc over rows, for whatever closure with one captured variable. Printed by gen.py.
-/
import Derived.Test.YthhmhigddmimjaaGreatCore
namespace Go.Proofs.YthhmhigddmimjaaGreat
open Go.ChangeShapes Go.WideShapes Go.ChangeAt Go.RowKit

def idxOf {α : Type} (p : α → Bool) (l : List α) : Int := match l.findIdx? p with | some i => (i : Int) | none => -1
theorem idxOf_hit {α : Type} {p : α → Bool} {l : List α} {k : Nat} {x : α} (hk : l[k]? = some x) (hp : p x = true) (h : ∀ j, j < k → ∀ y, l[j]? = some y → p y = false) : idxOf p l = k := by
  unfold idxOf
  have : l.findIdx? p = some k := by
    rw [List.findIdx?_eq_some_iff_getElem]
    obtain ⟨hl, rfl⟩ := List.getElem?_eq_some_iff.1 hk
    exact ⟨hl, hp, fun j hj => by simp [h j hj _ (List.getElem?_eq_getElem (by omega))]⟩
  rw [this]
theorem idxOf_none {α : Type} {p : α → Bool} {l : List α} (h : ∀ j, j < l.length → ∀ y, l[j]? = some y → p y = false) : idxOf p l = -1 := by
  unfold idxOf
  have : l.findIdx? p = none := by
    rw [List.findIdx?_eq_none_iff]
    intro x hx
    obtain ⟨j, hj, rfl⟩ := List.mem_iff_getElem.1 hx
    exact h j hj _ (List.getElem?_eq_getElem hj)
  rw [this]
theorem idxOf_any {α : Type} {p : α → Bool} {l : List α} : decide (0 ≤ idxOf p l) = l.any p := by
  unfold idxOf
  cases h : l.findIdx? p with
  | none =>
    rw [List.findIdx?_eq_none_iff] at h
    have : l.any p = false := by rw [List.any_eq_false]; intro x hx; simp [h x hx]
    simp [this]
  | some i =>
    rw [List.findIdx?_eq_some_iff_getElem] at h
    obtain ⟨hl, hp, _⟩ := h
    have : l.any p = true := by rw [List.any_eq_true]; exact ⟨_, List.getElem_mem hl, hp⟩
    simp [this]

theorem IndexFunc_nodeIndex (cap : Value) (p : GNode → Bool) (A : Option Addr) (n c : Nat) (l : List GNode) (w : World) (hn : n ≤ 1048576) (hA : Sl w 3 A n (l.flatMap GNode.cells))
    (hf : ∀ (k : Nat) (x : GNode) (W : World), l[k]? = some x → Gr w W → Calls Tryz.prog 121 #[.agg #[.string x.name, .int .i64 x.low, .int .i64 x.high], cap] W fun e W' => e = .returned (.bool (p x)) ∧ Gr W W') :
    Calls Tryz.prog 120 #[.slice A n c, .func (.func 121) #[] #[cap]] w fun e w' => e = .returned (.int .i64 (idxOf p l)) ∧ Gr w w' := by
  have hlen := hA.len GNode.cells_len (by omega)
  have Hlen := Lib.hid hlen
  have HA := Lib.hid hA
  have Hf := Lib.hid hf
  clear hA hlen hf
  go_enter Tryz.func120, Tryz.ntmps120
  go_wp2_with fail
  go_loopw [8] (fun i wr => ∃ k : Nat, k ≤ n ∧ i = .int .i64 k ∧ (∀ j, j < k → ∀ y, l[j]? = some y → p y = false) ∧ Gr w wr) (fun i _ => n - (intOf i).toNat)
  case atStart => exact ⟨0, Nat.zero_le _, rfl, fun j h => absurd h (by omega), Gr.refl _⟩
  case round =>
    obtain ⟨k, hk, rfl, hno, hgr⟩ := hrel
    have Hno := Lib.hid hno
    clear hno
    by_cases hlt : k < n
    · obtain ⟨x, hx⟩ : ∃ x, l[k]? = some x := ⟨_, List.getElem?_eq_getElem (by have := Hlen.out; omega)⟩
      obtain ⟨b, o, rfl, hb, e0, e1, e2⟩ := (HA.out.gr hgr).nd hx
      have Hx := Lib.hid hx
      clear hx
      go_wp2_with fail
      refine (Hf.out k x _ Hx.out hgr).mono ?_
      rintro e w' ⟨rfl, hg1⟩
      cases hp : p x with
      | true =>
        have Hp := Lib.hid hp
        clear hp
        go_wp2_with fail
        go_ret
        exact ⟨ret_int (idxOf_hit Hx.out Hp.out Hno.out).symm, hgr.trans hg1⟩
      | false =>
        have Hp := Lib.hid hp
        clear hp
        go_wp2_with fail
        go_roundw
        case rel =>
          refine ⟨k + 1, by omega, by go_num, fun j hj y hy => ?_, hgr.trans hg1⟩
          by_cases e : j = k
          · subst e
            have := Hx.out
            rw [hy] at this
            injection this with this
            subst this
            exact Hp.out
          · exact Hno.out j (by omega) y hy
        case measure => simp [intOf]; omega
    · obtain rfl : k = n := by omega
      go_wp2_with fail
      go_ret
      exact ⟨ret_int (idxOf_none (fun j hj => Hno.out j (by have := Hlen.out; omega))).symm, hgr⟩




end Go.Proofs.YthhmhigddmimjaaGreat
