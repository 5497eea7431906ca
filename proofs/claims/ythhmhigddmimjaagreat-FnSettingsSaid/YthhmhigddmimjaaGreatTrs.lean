import Derived.Test.YthhmhigddmimjaaGreatNetOk
import Derived.Test.YthhmhigddmimjaaGreatInts
import Derived.IntWalk
/-
  Transports: the tests of the program and of the reference. Printed by gen_tr.py.
-/
namespace Go.Proofs.YthhmhigddmimjaaGreat
open Go.ChangeShapes Go.WideShapes Go.ChangeAt Go.RowKit

def trOk (nn : Int) (x : GTr) : Bool := inB 0 x.entry (nn - 1) && inB 0 x.exit (nn - 1) && !(x.entry == x.exit) && inB 0 x.amount 30000 && inB 0 x.cls 3
def trsOk (nn : Int) (l : List GTr) : Bool := decide (l.length ≤ 32) && l.all (trOk nn)
def trCode (n : GNet) (l : List GTr) : Int := if netOk n then (if trsOk n.nodes.length l then 0 else 3) else 1
theorem all_step {α : Type} {p : α → Bool} {l : List α} {k : Nat} {x : α} (hx : l[k]? = some x) (hp : p x = true) (h : ∀ m, m < k → ∀ y, l[m]? = some y → p y = true) : ∀ m, m < k + 1 → ∀ y, l[m]? = some y → p y = true := by
  intro m hm y hy
  by_cases e : m = k
  · subst e
    rw [hx] at hy
    injection hy with hy
    subst hy
    exact hp
  · exact h m (by omega) y hy
theorem all_of {α : Type} {p : α → Bool} {l : List α} (h : ∀ m, m < l.length → ∀ y, l[m]? = some y → p y = true) : l.all p = true := by
  rw [List.all_eq_true]
  intro x hx
  obtain ⟨k, hk, rfl⟩ := List.mem_iff_getElem.1 hx
  exact h k hk _ (List.getElem?_eq_getElem hk)
theorem all_not {α : Type} {p : α → Bool} {l : List α} {k : Nat} {x : α} (hx : l[k]? = some x) (hp : p x = false) : l.all p = false := by
  rw [List.all_eq_false]; exact ⟨x, List.mem_of_getElem? hx, by simp [hp]⟩
end Go.Proofs.YthhmhigddmimjaaGreat
/-
  Plain functions on transports: amounts by class, supplies, scaling.
-/
namespace Go.Proofs.YthhmhigddmimjaaGreat
open Go.RowKit

def addAt (l : List Int) (k : Nat) (d : Int) : List Int := l.set k (l.getD k 0 + d)
def Bnd (B : Int) (l : List Int) : Prop := ∀ (j : Nat) (v : Int), l[j]? = some v → -B ≤ v ∧ v ≤ B
theorem Bnd.mono {B B' : Int} {l : List Int} (h : Bnd B l) (hB : B ≤ B') : Bnd B' l := fun j v hv => by have := h j v hv; omega
theorem Bnd.getD {B : Int} {l : List Int} (h : Bnd B l) (hB : 0 ≤ B) (k : Nat) : -B ≤ l.getD k 0 ∧ l.getD k 0 ≤ B := by
  rw [List.getD_eq_getElem?_getD]
  cases e : l[k]? with
  | none => simp; omega
  | some v => simpa [e] using h k v e
theorem Bnd.addAt {B D d : Int} {l : List Int} (h : Bnd B l) (hB : 0 ≤ B) (hd : -D ≤ d ∧ d ≤ D) (k : Nat) : Bnd (B + D) (addAt l k d) := by
  intro j v hv
  unfold Go.Proofs.YthhmhigddmimjaaGreat.addAt at hv
  rw [List.getElem?_set] at hv
  have hg := h.getD hB k
  split at hv
  · split at hv
    · injection hv with hv; omega
    · cases hv
  · have := h j v hv; omega
theorem Bnd.zeros (n : Nat) : Bnd 0 (List.replicate n 0) := by
  intro j v hv
  rw [List.getElem?_replicate] at hv
  split at hv
  · injection hv with hv; omega
  · cases hv
def amtStep (acc : List Int) (x : GTr) : List Int := addAt acc x.cls.toNat x.amount
def amounts (l : List GTr) : List Int := l.foldl amtStep (List.replicate 4 0)
def supStep (acc : List Int) (x : GTr) : List Int := addAt (addAt acc x.entry.toNat x.amount) x.exit.toNat (-x.amount)
def supplies (nn : Nat) (l : List GTr) : List Int := l.foldl supStep (List.replicate nn 0)
theorem get_of_lt {l : List Int} {k : Nat} (h : k < l.length) : l[k]? = some (l.getD k 0) := by
  rw [List.getD_eq_getElem?_getD, List.getElem?_eq_getElem h]; rfl
end Go.Proofs.YthhmhigddmimjaaGreat
/-
  AmountsByClass: the program and the reference.
-/
namespace Go.Proofs.YthhmhigddmimjaaGreat
open Go.ChangeShapes Go.WideShapes Go.ChangeAt Go.RowKit

def amountsRes (n : GNet) (l : List GTr) : List Int := if trCode n l = 0 then amounts l else []
end Go.Proofs.YthhmhigddmimjaaGreat
