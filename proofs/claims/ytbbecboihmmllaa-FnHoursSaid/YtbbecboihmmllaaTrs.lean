import Derived.Test.YtbbecboihmmllaaNetOk
import Derived.Test.YtbbecboihmmllaaInts
import Derived.IntWalk
/-
  Transports: the tests of the program and of the reference. Printed by gen_tr.py.
-/
namespace Go.Proofs.Ytbbecboihmmllaa
open Go.ChangeShapes Go.WideShapes Go.ChangeAt Go.RowKit

def trOk (nn : Int) (x : GTr) : Bool := inB 0 x.entry (nn - 1) && inB 0 x.exit (nn - 1) && !(x.entry == x.exit) && inB 0 x.amount 30000 && inB 0 x.cls 3
def trsOk (nn : Int) (l : List GTr) : Bool := decide (l.length ≤ 32) && l.all (trOk nn)
def trCode (n : GNet) (l : List GTr) : Int := if netOk n then (if trsOk n.nodes.length l then 0 else 3) else 1
theorem trOk_all {nn : Int} {x : GTr} (h : trOk nn x = true) : (0 ≤ x.entry ∧ x.entry ≤ nn - 1) ∧ (0 ≤ x.exit ∧ x.exit ≤ nn - 1) ∧ x.entry ≠ x.exit ∧ (0 ≤ x.amount ∧ x.amount ≤ 30000) ∧ (0 ≤ x.cls ∧ x.cls ≤ 3) := by
  unfold trOk at h
  simp only [Bool.and_eq_true, inB_iff, Bool.not_eq_true', beq_eq_false_iff_ne, ne_eq] at h
  obtain ⟨⟨⟨⟨a, b⟩, c⟩, d⟩, e⟩ := h
  exact ⟨a, b, c, d, e⟩
theorem all_step {α : Type} {p : α → Bool} {l : List α} {k : Nat} {x : α} (hx : l[k]? = some x) (hp : p x = true) (h : ∀ m, m < k → ∀ y, l[m]? = some y → p y = true) : ∀ m, m < k + 1 → ∀ y, l[m]? = some y → p y = true := by
  intro m hm y hy
  by_cases e : m = k
  · subst e
    rw [hx] at hy
    injection hy with hy
    subst hy
    exact hp
  · exact h m (by omega) y hy
theorem all_of {α : Type} {p : α → Bool} {l : List α} (h : ∀ m, m < l.length → ∀ y, l[m]? = some y → p y = true) : l.all p = true := by
  rw [List.all_eq_true]
  intro x hx
  obtain ⟨k, hk, rfl⟩ := List.mem_iff_getElem.1 hx
  exact h k hk _ (List.getElem?_eq_getElem hk)
theorem all_not {α : Type} {p : α → Bool} {l : List α} {k : Nat} {x : α} (hx : l[k]? = some x) (hp : p x = false) : l.all p = false := by
  rw [List.all_eq_false]; exact ⟨x, List.mem_of_getElem? hx, by simp [hp]⟩
theorem trsOk_long {nn : Int} {l : List GTr} (h : 32 < l.length) : trsOk nn l = false := by simp [trsOk]; omega
theorem trsOk_bad {nn : Int} {l : List GTr} {k : Nat} {x : GTr} (hx : l[k]? = some x) (hp : trOk nn x = false) : trsOk nn l = false := by simp [trsOk, all_not hx hp]
theorem trsOk_good {nn : Int} {l : List GTr} (hl : l.length ≤ 32) (h : ∀ m, m < l.length → ∀ y, l[m]? = some y → trOk nn y = true) : trsOk nn l = true := by simp [trsOk, hl, all_of h]
theorem trsOk_all {nn : Int} {l : List GTr} (h : trsOk nn l = true) : l.length ≤ 32 ∧ ∀ (m : Nat) (y : GTr), l[m]? = some y → trOk nn y = true := by
  simp only [trsOk, Bool.and_eq_true, decide_eq_true_eq, List.all_eq_true] at h
  exact ⟨h.1, fun m y hy => h.2 y (List.mem_of_getElem? hy)⟩
theorem trCode_inv {n : GNet} {l : List GTr} (h : netOk n = false) : trCode n l = 1 := by simp [trCode, h]
theorem trCode_lim {n : GNet} {l : List GTr} (h : netOk n = true) (h' : trsOk n.nodes.length l = false) : trCode n l = 3 := by simp [trCode, h, h']
theorem trCode_ok {n : GNet} {l : List GTr} (h : netOk n = true) (h' : trsOk n.nodes.length l = true) : trCode n l = 0 := by simp [trCode, h, h']
theorem trCode_zero {n : GNet} {l : List GTr} (h : trCode n l = 0) : netOk n = true ∧ trsOk n.nodes.length l = true := by
  unfold trCode at h
  cases h1 : netOk n <;> cases h2 : trsOk n.nodes.length l <;> simp [h1, h2] at h ⊢
theorem trCode_range (n : GNet) (l : List GTr) : 0 ≤ trCode n l ∧ trCode n l ≤ 3 := by
  unfold trCode
  cases netOk n <;> cases trsOk n.nodes.length l <;> simp

end Go.Proofs.Ytbbecboihmmllaa
/-
  Plain functions on transports: amounts by class, supplies, scaling.
-/
namespace Go.Proofs.Ytbbecboihmmllaa
open Go.RowKit

def addAt (l : List Int) (k : Nat) (d : Int) : List Int := l.set k (l.getD k 0 + d)
theorem addAt_length (l : List Int) (k : Nat) (d : Int) : (addAt l k d).length = l.length := by simp [addAt]
def Bnd (B : Int) (l : List Int) : Prop := ∀ (j : Nat) (v : Int), l[j]? = some v → -B ≤ v ∧ v ≤ B
theorem Bnd.mono {B B' : Int} {l : List Int} (h : Bnd B l) (hB : B ≤ B') : Bnd B' l := fun j v hv => by have := h j v hv; omega
theorem Bnd.getD {B : Int} {l : List Int} (h : Bnd B l) (hB : 0 ≤ B) (k : Nat) : -B ≤ l.getD k 0 ∧ l.getD k 0 ≤ B := by
  rw [List.getD_eq_getElem?_getD]
  cases e : l[k]? with
  | none => simp; omega
  | some v => simpa [e] using h k v e
theorem Bnd.addAt {B D d : Int} {l : List Int} (h : Bnd B l) (hB : 0 ≤ B) (hd : -D ≤ d ∧ d ≤ D) (k : Nat) : Bnd (B + D) (addAt l k d) := by
  intro j v hv
  unfold Go.Proofs.Ytbbecboihmmllaa.addAt at hv
  rw [List.getElem?_set] at hv
  have hg := h.getD hB k
  split at hv
  · split at hv
    · injection hv with hv; omega
    · cases hv
  · have := h j v hv; omega
theorem Bnd.zeros (n : Nat) : Bnd 0 (List.replicate n 0) := by
  intro j v hv
  rw [List.getElem?_replicate] at hv
  split at hv
  · injection hv with hv; omega
  · cases hv
theorem foldl_take_succ {α β : Type} (f : β → α → β) (b : β) (l : List α) (k : Nat) (x : α) (hx : l[k]? = some x) : (l.take (k + 1)).foldl f b = f ((l.take k).foldl f b) x := by
  rw [List.take_add_one, hx]; simp

def amtStep (acc : List Int) (x : GTr) : List Int := addAt acc x.cls.toNat x.amount
def amounts (l : List GTr) : List Int := l.foldl amtStep (List.replicate 4 0)
def supStep (acc : List Int) (x : GTr) : List Int := addAt (addAt acc x.entry.toNat x.amount) x.exit.toNat (-x.amount)
def supplies (nn : Nat) (l : List GTr) : List Int := l.foldl supStep (List.replicate nn 0)
theorem amt_length (l : List GTr) (acc : List Int) : (l.foldl amtStep acc).length = acc.length := by
  induction l generalizing acc with
  | nil => rfl
  | cons x l ih => rw [List.foldl_cons, ih]; simp [amtStep, addAt_length]
theorem sup_length (l : List GTr) (acc : List Int) : (l.foldl supStep acc).length = acc.length := by
  induction l generalizing acc with
  | nil => rfl
  | cons x l ih => rw [List.foldl_cons, ih]; simp [supStep, addAt_length]
theorem amt_bnd {nn : Int} (l : List GTr) (h : ∀ x ∈ l, trOk nn x = true) (B : Int) (hB : 0 ≤ B) (acc : List Int) (ha : Bnd B acc) : Bnd (B + 30000 * l.length) (l.foldl amtStep acc) := by
  induction l generalizing acc B with
  | nil => simpa using ha
  | cons x l ih =>
    obtain ⟨_, _, _, p4, _⟩ := trOk_all (h x (List.mem_cons_self ..))
    have := ih (fun y hy => h y (List.mem_cons_of_mem _ hy)) (B + 30000) (by omega) (amtStep acc x) (ha.addAt hB (by omega) _)
    exact this.mono (by simp; omega)
theorem sup_bnd {nn : Int} (l : List GTr) (h : ∀ x ∈ l, trOk nn x = true) (B : Int) (hB : 0 ≤ B) (acc : List Int) (ha : Bnd B acc) : Bnd (B + 60000 * l.length) (l.foldl supStep acc) := by
  induction l generalizing acc B with
  | nil => simpa using ha
  | cons x l ih =>
    obtain ⟨_, _, _, p4, _⟩ := trOk_all (h x (List.mem_cons_self ..))
    have h1 := (ha.addAt (d := x.amount) (D := 30000) hB (by omega) x.entry.toNat).addAt (d := -x.amount) (D := 30000) (by omega) (by omega) x.exit.toNat
    have := ih (fun y hy => h y (List.mem_cons_of_mem _ hy)) (B + 30000 + 30000) (by omega) (supStep acc x) h1
    exact this.mono (by simp; omega)
theorem mem_take_ok {nn : Int} {l : List GTr} (h : trsOk nn l = true) (k : Nat) : ∀ x ∈ l.take k, trOk nn x = true := by
  intro x hx
  obtain ⟨i, hi⟩ := List.mem_iff_getElem?.1 (List.mem_of_mem_take hx)
  exact (trsOk_all h).2 i x hi
/-- What the loops need at round k. -/
theorem amt_at {nn : Int} {l : List GTr} (h : trsOk nn l = true) (k : Nat) : ((l.take k).foldl amtStep (List.replicate 4 0)).length = 4 ∧ Bnd 960000 ((l.take k).foldl amtStep (List.replicate 4 0)) := by
  have hl := (trsOk_all h).1
  refine ⟨by rw [amt_length]; simp, (amt_bnd (l.take k) (mem_take_ok h k) 0 (by omega) _ (Bnd.zeros 4)).mono ?_⟩
  have : (l.take k).length ≤ 32 := by simp; omega
  omega
theorem sup_at {nn : Int} {l : List GTr} (h : trsOk nn l = true) (m k : Nat) : ((l.take k).foldl supStep (List.replicate m 0)).length = m ∧ Bnd 1920000 ((l.take k).foldl supStep (List.replicate m 0)) := by
  have hl := (trsOk_all h).1
  refine ⟨by rw [sup_length]; simp, (sup_bnd (l.take k) (mem_take_ok h k) 0 (by omega) _ (Bnd.zeros m)).mono ?_⟩
  have : (l.take k).length ≤ 32 := by simp; omega
  omega
theorem get_of_lt {l : List Int} {k : Nat} (h : k < l.length) : l[k]? = some (l.getD k 0) := by
  rw [List.getD_eq_getElem?_getD, List.getElem?_eq_getElem h]; rfl
end Go.Proofs.Ytbbecboihmmllaa
/-
  AmountsByClass: the program and the reference.
-/
namespace Go.Proofs.Ytbbecboihmmllaa
open Go.ChangeShapes Go.WideShapes Go.ChangeAt Go.RowKit

def amountsRes (n : GNet) (l : List GTr) : List Int := if trCode n l = 0 then amounts l else []
end Go.Proofs.Ytbbecboihmmllaa
