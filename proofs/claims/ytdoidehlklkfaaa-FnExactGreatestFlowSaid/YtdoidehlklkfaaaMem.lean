/-
  Words for memory, over any program: 'Gr' (the world has at most grown), 'Sl' (a slice value reads as cells), owned rows; plain lemmas.
-/
import Derived.WalkKit
import Derived.Lib.Hide
import Derived.Below
import Derived.Laws.OwnMore
import Derived.Laws.Rows
import Derived.Deep.Draws
import Derived.OwnWalk
namespace Go.Proofs.Ytdoidehlklkfaaa
open Go.RowKit

theorem ret_int {k : IntKind} {a b : Int} (h : a = b) : Ending.returned (.int k a) = .returned (.int k b) := by rw [h]
theorem ret_bool {a b : Bool} (h : a = b) : Ending.returned (.bool a) = .returned (.bool b) := by rw [h]

/-- What was there when a was is there in w, unturned. -/
def Gr (a w : World) : Prop := Below a.heap.size a w

section
variable {a b c w w' : World}
theorem Gr.refl (a : World) : Gr a a := Below.refl _ _
theorem Gr.size (h : Gr a w) : a.heap.size ≤ w.heap.size := Below.size h
theorem Gr.trans (h : Gr a b) (h' : Gr b c) : Gr a c := Below.trans h (Below.mono h' h.size)
theorem Gr.alloc (h : Gr a w) (o : Obj) : Gr a (w.alloc o) := Below.alloc h h.size o
theorem Gr.drew (h : Gr a w) : Gr a w.drew := Below.drew h
theorem Gr.drewN (h : Gr a w) (n : Nat) : Gr a (w.drewN n) := by
  have hb : Below _ a w := h
  exact (⟨hb.os, hb.tape, hb.output, hb.size, hb.block⟩ : Below _ a (w.drewN n))
theorem Gr.setCell (h : Gr a w) {p : Addr} (hp : a.heap.size ≤ p.block) (u : Value) : Gr a (w.setCell p u) := Below.setCell h hp u
theorem Gr.grown {row : Option Nat} (h : Gr a w) (hg : w.grownBy w' row) (hr : ∀ k, row = some k → a.heap.size ≤ k) : Gr a w' := Below.grown h hg h.size hr
theorem Gr.cell (h : Gr a w) {p : Addr} (hp : p.block < a.heap.size) : w.cell? p = a.cell? p := Below.cell h hp
theorem Gr.frozen (h : Gr a w) {p : Addr} (hp : p.block < a.heap.size) : w.frozen? p = a.frozen? p := Below.frozen h hp
theorem Gr.below (h : Gr a w) : Below a.heap.size a w := h
theorem lt_of_cell {p : Addr} {v : Value} (h : w.cell? p = some v) : p.block < w.heap.size := by
  rcases Nat.lt_or_ge p.block w.heap.size with hlt | hge
  · exact hlt
  · simp [World.cell?, Array.getElem?_eq_none hge] at h
theorem Gr.has (h : Gr a w) {p : Addr} {v : Value} (hc : a.cell? p = some v) : w.cell? p = some v := (h.cell (lt_of_cell hc)).trans hc
theorem Gr.of_grown (hg : w.grownBy w' none) : Gr w w' := (Gr.refl w).grown hg (fun _ e => by cases e)
end

/-- The cells xs lie in block b from offset o on. -/
def Row (w : World) (b o : Nat) (xs : List Value) : Prop := ∀ j u, xs[j]? = some u → w.cell? ⟨b, o + j, none⟩ = some u

/-- The slice value '.slice A n _' reads as the cells xs, 'size' cells an element. -/
def Sl (w : World) (size : Nat) (A : Option Addr) (n : Nat) (xs : List Value) : Prop :=
  xs.length = n * size ∧ (0 < n → ∃ b o, A = some ⟨b, o, none⟩ ∧ b < w.heap.size ∧ Row w b o xs)

section
variable {w w' : World} {size n : Nat} {A : Option Addr} {xs : List Value}
theorem Sl.gr (h : Sl w size A n xs) (g : Gr w w') : Sl w' size A n xs :=
  ⟨h.1, fun hn => by
    obtain ⟨b, o, e, hb, hc⟩ := h.2 hn
    exact ⟨b, o, e, Nat.lt_of_lt_of_le hb g.size, fun j u hu => g.has (hc j u hu)⟩⟩
theorem Sl.zero (A : Option Addr) : Sl w size A 0 [] := ⟨by simp, fun h => absurd h (by omega)⟩
theorem Sl.of_own {base : Nat} {e : TypeId} {c : Nat} (h : w.ownsRow base e size (.slice A n c) n xs) : Sl w size A n xs := by
  refine ⟨h.1, fun hn => ?_⟩
  rcases h.2 with ⟨_, h0⟩ | ⟨g, cap, cur, hv, _, hk, hc, _, hs, ht⟩
  · omega
  · injection hv with hA _ _
    subst hA
    have hlt : g < w.heap.size := by
      rcases Nat.lt_or_ge g w.heap.size with hlt | hge
      · exact hlt
      · rw [Array.getElem?_eq_none hge] at hk; cases hk
    refine ⟨g, 0, rfl, hlt, fun j u hu => ?_⟩
    rw [Nat.zero_add, cell_of_row w g j cur e (0, 0) hk, ← hu, ← ht, List.getElem?_take, if_pos, Array.getElem?_toList]
    have := (List.getElem?_eq_some_iff.1 hu).1
    rw [h.1] at this
    exact this
end

/-- An owned row is kept while the world grows. -/
theorem own_gr {w w' : World} {base : Nat} {e : TypeId} {size n : Nat} {v : Value} {xs : List Value} (h : w.ownsRow base e size v n xs) (g : Gr w w') : w'.ownsRow base e size v n xs := by
  refine ⟨h.1, ?_⟩
  rcases h.2 with h2 | ⟨k, cap, cur, hv, hb, hk, r⟩
  · exact .inl h2
  · have hlt : k < w.heap.size := by
      rcases Nat.lt_or_ge k w.heap.size with hlt | hge
      · exact hlt
      · rw [Array.getElem?_eq_none hge] at hk; cases hk
    exact .inr ⟨k, cap, cur, hv, hb, (g.below.block k hlt).trans hk, r⟩
theorem own_base {w : World} {base base' : Nat} {e : TypeId} {size n : Nat} {v : Value} {xs : List Value} (h : w.ownsRow base e size v n xs) (hb : base' ≤ base) : w.ownsRow base' e size v n xs := by
  refine ⟨h.1, ?_⟩
  rcases h.2 with h2 | ⟨k, cap, cur, hv, hk, r⟩
  · exact .inl h2
  · exact .inr ⟨k, cap, cur, hv, Nat.le_trans hb hk, r⟩
theorem own_cap {w : World} {base : Nat} {e : TypeId} {size n c : Nat} {A : Option Addr} {xs : List Value} (h : w.ownsRow base e size (.slice A n c) n xs) : n ≤ c ∧ c ≤ maxLen := by
  rcases h.2 with ⟨hv, hn⟩ | ⟨k, cap, cur, hv, hb, hk, hc, hm, r⟩
  · injection hv with _ _ h3; subst h3; subst hn; exact ⟨Nat.le_refl _, by unfold maxLen; omega⟩
  · injection hv with _ _ h3; subst h3; exact ⟨hc, hm⟩

/-- Lists of elements of k cells each. -/
theorem flat_length {α : Type} (f : α → List Value) (k : Nat) (hf : ∀ x, (f x).length = k) (l : List α) : (l.flatMap f).length = l.length * k := by
  induction l with
  | nil => simp
  | cons x l ih => simp [hf, ih, Nat.add_mul]; omega
theorem flat_get {α : Type} (f : α → List Value) (k : Nat) (hf : ∀ x, (f x).length = k) (l : List α) (i j : Nat) (hj : j < k) : (l.flatMap f)[i * k + j]? = (l[i]?).bind fun x => (f x)[j]? := by
  induction l generalizing i with
  | nil => simp
  | cons x l ih =>
    rw [List.flatMap_cons]
    cases i with
    | zero => simp [List.getElem?_append, hf, hj]
    | succ i =>
      rw [List.getElem?_append_right (by rw [hf, Nat.add_mul]; omega), hf]
      have e : (i + 1) * k + j - k = i * k + j := by rw [Nat.add_mul]; omega
      rw [e, ih]
      simp
theorem Sl.at_ {w : World} {size n : Nat} {A : Option Addr} {α : Type} {f : α → List Value} {l : List α} (h : Sl w size A n (l.flatMap f)) (hf : ∀ x, (f x).length = size) {k : Nat} {x : α} (hk : l[k]? = some x) (h0 : 0 < size) :
    ∃ b o, A = some ⟨b, o, none⟩ ∧ b < w.heap.size ∧ k < n ∧ ∀ j u, (f x)[j]? = some u → w.cell? ⟨b, o + k * size + j, none⟩ = some u := by
  have hl := flat_length f size hf l
  have hn : l.length = n := Nat.eq_of_mul_eq_mul_right h0 (by rw [← hl, h.1])
  have hkl : k < l.length := (List.getElem?_eq_some_iff.1 hk).1
  obtain ⟨b, o, e, hb, hr⟩ := h.2 (by omega)
  refine ⟨b, o, e, hb, by omega, fun j u hu => ?_⟩
  have hj : j < size := by rw [← hf x]; exact (List.getElem?_eq_some_iff.1 hu).1
  have := hr (k * size + j) u (by rw [flat_get f size hf l k j hj, hk]; exact hu)
  rw [← Nat.add_assoc] at this
  exact this
theorem Sl.len {w : World} {size n : Nat} {A : Option Addr} {α : Type} {f : α → List Value} {l : List α} (h : Sl w size A n (l.flatMap f)) (hf : ∀ x, (f x).length = size) (h0 : 0 < size) : l.length = n :=
  Nat.eq_of_mul_eq_mul_right h0 (by rw [← flat_length f size hf l, h.1])
end Go.Proofs.Ytdoidehlklkfaaa
